/-
 Lemmas, put together: QA, QB, QC, aloneP, aloneP2, aloneP3, aloneP4, aloneP5, aloneP6, aloneP7, aloneP8, aloneP9.
 No conditions.
-/
import Derived.Test.YthcdpjkgdcpkmaaGreatDooraloneA3
import Derived.Test.YthcdpjkgdcpkmaaGreatDooraloneG
open Go.IntKind (i64)
set_option linter.unusedSimpArgs false
set_option linter.unusedVariables false
section
namespace Go.Sx
open Go
set_option linter.unusedVariables false
theorem wrap_id {x:Int} (h1:-9223372036854775808≤x) (h2:x≤9223372036854775807):i64.wrap x=x:=by
 simp only [IntKind.wrap,IntKind.bits,IntKind.signed,if_true];simp;omega
theorem loopO_inv {S ρ:Type} {step:S→Option (S ⊕ ρ)} (I:S→Prop) (mu:S→Nat) (Post:ρ→Prop)
  (hs:∀ s,I s→(∃ s',step s=some (.inl s')∧I s'∧mu s'<mu s)∨(∃ r,step s=some (.inr r)∧Post r)) {s0:S} (h0:I s0):∃ r,loopO step s0=some r∧Post r:=by
 have gen:∀ (n:Nat) (s:S),mu s≤n→I s→∃ r,loopO step s=some r∧Post r:=by
  intro n;induction n with
  | zero =>
   intro s hm hi;rcases hs s hi with ⟨s',_,_,h3⟩|⟨r,h1,h2⟩
   ·omega
   ·exact ⟨r,loopO_inr h1,h2⟩
  | succ n ih =>
   intro s hm hi;rcases hs s hi with ⟨s',h1,h2,h3⟩|⟨r,h1,h2⟩
   ·rw [loopO_inl h1];exact ih s' (by omega) h2
   ·exact ⟨r,loopO_inr h1,h2⟩
 exact gen _ s0 (Nat.le_refl _) h0
def firstAt {β:Type} (bad:Nat→Option β):Nat→Option β
 | 0=>none
 | n+1=>(firstAt bad n).or (bad n)
theorem firstAt_none {β:Type} {f:Nat→Option β}:∀ (n:Nat),firstAt f n=none↔∀ i,i<n→f i=none
 | 0=>by simp [firstAt]
 | n+1=>by
  simp only [firstAt,Option.or_eq_none_iff,firstAt_none n]
  constructor
  ·rintro ⟨h1,h2⟩ i hi
   by_cases h:i=n
   ·subst h;exact h2
   ·exact h1 i (by omega)
  ·exact fun h=>⟨fun i hi=>h i (by omega),h n (by omega)⟩
theorem firstAt_some {β:Type} {f:Nat→Option β} {b:β}:∀ (n:Nat),firstAt f n=some b→∃ i,i<n∧f i=some b∧∀ j,j<i→f j=none
 | 0,h=>by simp [firstAt] at h
 | n+1,h=>by
  simp only [firstAt] at h
  cases hf:firstAt f n with
  | some c =>
   rw [hf] at h
   obtain ⟨i,h1,h2,h3⟩:=firstAt_some n hf
   simp only [Option.some_or] at h
   exact ⟨i,by omega,by rw [h2,h],h3⟩
  | none =>
   rw [hf] at h
   simp only [Option.none_or] at h
   exact ⟨n,by omega,h,fun j hj=>(firstAt_none n).1 hf j hj⟩
theorem loopO_find {S ρ:Type} {step:S→Option (S ⊕ ρ)} (E:Nat→S) (bad:Nat→Option ρ) (rest:Option ρ) (n:Nat)
  (h1:∀ i,i<n→bad i=none→step (E i)=some (.inl (E (i+1)))) (h2:∀ i r,i<n→bad i=some r→step (E i)=some (.inr r)) (h3:(∀ i,i<n→bad i=none)→step (E n)=rest.map .inr) :
  loopO step (E 0)=match firstAt bad n with
   | some r=>some r
   | none=>rest:=by
 have walk:∀ k,k≤n→(∀ i,i<k→bad i=none)→loopO step (E 0)=loopO step (E k):=by
  intro k;induction k with
  | zero=>exact fun _ _=>rfl
  | succ k ih =>
   intro hk hb;rw [ih (by omega) fun i hi=>hb i (by omega),loopO_inl (h1 k (by omega) (hb k (by omega)))]
 cases hf:firstAt bad n with
 | none =>
  have hb:=(firstAt_none n).1 hf;rw [walk n (Nat.le_refl _) hb,loopO_out (h3 hb)]
 | some r =>
  obtain ⟨i,g1,g2,g3⟩:=firstAt_some n hf;rw [walk i (by omega) g3,loopO_inr (h2 i r g1 g2)]
theorem loopO_findD {S ρ:Type} {step:S→Option (S ⊕ ρ)} (E:Nat→S) (bad:Nat→Option ρ) (d:ρ) (n:Nat)
  (h1:∀ i,i<n→bad i=none→step (E i)=some (.inl (E (i+1)))) (h2:∀ i r,i<n→bad i=some r→step (E i)=some (.inr r)) (h3:(∀ i,i<n→bad i=none)→step (E n)=some (.inr d)) :
  loopO step (E 0)=some ((firstAt bad n).getD d):=by
 rw [loopO_find E bad (some d) n h1 h2 (fun h=>by rw [h3 h];rfl)];cases firstAt bad n<;>rfl
theorem loopO_all {S ρ:Type} {step:S→Option (S ⊕ ρ)} (E:Nat→S) (rest:Option ρ) (n:Nat)
  (h1:∀ i,i<n→step (E i)=some (.inl (E (i+1)))) (h3:step (E n)=rest.map .inr):loopO step (E 0)=rest:=by
 have:=loopO_find E (fun _=>none) rest n (fun i hi _=>h1 i hi) (fun i r _ h=>by cases h) (fun _=>h3);rw [this,(firstAt_none n).2 fun _ _=>rfl]
theorem ix_get {α:Type} [Enc α] {xs:List α} {i:Nat} (h:i<xs.length):ix xs (i:Int)=xs[i]:=by
 simp [ix,List.getD_eq_getElem?_getD,h]
theorem cut_take {α:Type} (xs:List α) (i:Nat):cut xs 0 (i:Int)=xs.take i:=by simp [cut]
theorem cut_drop {α:Type} (xs:List α) (i:Nat):cut xs (i:Int) (xs.length:Int)=xs.drop i:=by
 simp only [cut,Int.toNat_natCast];rw [List.take_of_length_le];simp
end Go.Sx
end

section
namespace Go.Sx
variable {α:Type}
end Go.Sx
end

section
namespace Go.Sx
def toldOr {S ρ:Type} (o:Option ρ) (s:S):Option (S ⊕ ρ):=match o with
 | some r=>some (.inr r)
 | none=>some (.inl s)
@[simp] theorem toldOr_some {S ρ:Type} (r:ρ) (s:S):toldOr (some r) s=some (.inr r):=rfl
@[simp] theorem toldOr_none {S ρ:Type} (s:S):toldOr (none:Option ρ) s=some (.inl s):=rfl
theorem loopO_findP {S ρ:Type} {step:S→Option (S ⊕ ρ)} (E:Nat→S) (bad:Nat→Option ρ) (d:ρ) (n:Nat)
  (h1:∀ i,i<n→(∀ j,j<i→bad j=none)→step (E i)=toldOr (bad i) (E (i+1)))
  (h3:(∀ i,i<n→bad i=none)→step (E n)=some (.inr d)):loopO step (E 0)=some ((firstAt bad n).getD d):=by
 have walk:∀ k,k≤n→(∀ i,i<k→bad i=none)→loopO step (E 0)=loopO step (E k):=by
  intro k;induction k with
  | zero=>exact fun _ _=>rfl
  | succ k ih =>
   intro hk hb;have:=h1 k (by omega) fun i hi=>hb i (by omega)
   rw [hb k (by omega),toldOr_none] at this;rw [ih (by omega) fun i hi=>hb i (by omega),loopO_inl this]
 cases hf:firstAt bad n with
 | none =>
  have hb:=(firstAt_none n).1 hf;rw [walk n (Nat.le_refl _) hb,loopO_inr (h3 hb)];rfl
 | some r =>
  obtain ⟨i,g1,g2,g3⟩:=firstAt_some n hf;have:=h1 i g1 g3;rw [g2,toldOr_some] at this;rw [walk i (by omega) g3,loopO_inr this];rfl
end Go.Sx
end

section
namespace Go.Proofs.YthcdpjkgdcpkmaaGreatDoor
open Go Go.Sx
set_option linter.unusedVariables false
set_option linter.unusedSimpArgs false
noncomputable section
def argOk (p:GProgram) (k x:Int):Bool:=(taskmillref_ArgOk p k x).getD false
theorem argOk_eq (p:GProgram) (k x:Int):taskmillref_ArgOk p k x=some (argOk p k x):=by
 unfold argOk taskmillref_ArgOk taskmillref_ArgOk_j1;(repeat' (rw [Bool.cond_eq_ite];split))<;>rfl
def kindsL:List Int:=[110,114,99,109,112,108,103,107,45]
theorem fits_eq (p:GProgram) (k x:Int) (hk:k∈kindsL):code_fits p k x=taskmillref_ArgOk p k x:=by
 simp only [kindsL,List.mem_cons,List.not_mem_nil,or_false] at hk;rcases hk with rfl|rfl|rfl|rfl|rfl|rfl|rfl|rfl|rfl<;>rfl
def kd (op:Int) (j:Nat):Int:=(((ix refArgs op).data.getD j 0).toNat:Int)
theorem tab_all:∀ k:Nat,k<23→(ix codeKinds ((k:Nat):Int)).args=ix refArgs ((k:Nat):Int)∧(1≤k→(ix refArgs ((k:Nat):Int)).size=2∧kd k 0∈kindsL∧kd k 1∈kindsL):=by decide
theorem tab_at (op:Int) (h1:1≤op) (h2:op≤22):(ix codeKinds op).args=ix refArgs op∧(ix refArgs op).size=2∧kd op 0∈kindsL∧kd op 1∈kindsL:=by
 obtain ⟨k,rfl⟩:∃ k:Nat,op=(k:Int):=⟨op.toNat,by omega⟩;obtain ⟨a,b⟩:=tab_all k (by omega);obtain ⟨b1,b2,b3⟩:=b (by omega);exact ⟨a,b1,b2,b3⟩
def badI (p:GProgram) (i:Int):Option Fault :=
 if (ix p.Code i).Op<1∨22<(ix p.Code i).Op then some ⟨4,i⟩
 else if argOk p (kd (ix p.Code i).Op 0) (ix p.Code i).A=true∧argOk p (kd (ix p.Code i).Op 1) (ix p.Code i).B=true then none
 else some ⟨5,i⟩
theorem inr (p:GProgram) (i:Nat) (h:i<p.Code.length):((decide ((0:Int)≤(i:Int)))&&(decide ((i:Int)<(p.Code.length:Int))))=true:=by
 simp;omega
theorem wrapS {n:Nat} (h:n<100000):i64.wrap ((n:Int)+1)=((n+1:Nat):Int):=by
 rw [wrap_id (by omega) (by omega)];omega
theorem ref_step (p:GProgram) (hp:p.Code.length≤1000) (i:Nat) (h:i<p.Code.length):taskmillref_ProgramFault_l1 p (i:Int)=toldOr (badI p i) (((i+1:Nat)):Int):=by
 unfold taskmillref_ProgramFault_l1 badI;have h0:decide ((i:Int)<(p.Code.length:Int))=true:=by simp;omega
 simp only [inr p i h,h0,cond_true];generalize hc:ix p.Code (i:Int)=c;by_cases hr:c.Op<1∨22<c.Op
 ·have:(decide (c.Op<1)||decide ((22:Int)<c.Op))=true:=by simpa using hr
  rw [this,if_pos hr];rfl
 ·have e0:(decide (c.Op<1)||decide ((22:Int)<c.Op))=false:=by simpa using hr
  have hr':1≤c.Op∧c.Op≤22:=by omega
  obtain ⟨t1,t2,t3,t4⟩:=tab_at c.Op hr'.1 hr'.2;have e1:(decide ((0:Int)≤c.Op)&&decide (c.Op<(refArgs.length:Int)))=true:=by
   have:refArgs.length=23:=rfl;simp [this];omega
  rw [e0,if_neg hr];simp only [cond_false,e1,cond_true,t2];show (bif decide ((0:Int)<((2:Nat):Int)) then (taskmillref_ArgOk p (kd c.Op 0) c.A).bind _ else none)=_;rw [argOk_eq p (kd c.Op 0)];simp only [show decide ((0:Int)<((2:Nat):Int))=true from rfl,show decide ((1:Int)<((2:Nat):Int))=true from rfl,cond_true,Option.bind_some];cases ha:argOk p (kd c.Op 0) c.A with
  | false=>simp [taskmillref_ProgramFault_j1,taskmillref_F,toldOr]
  | true =>
   simp only [Bool.not_true,cond_false];show ((taskmillref_ArgOk p (kd c.Op 1) c.B).bind _)=_;rw [argOk_eq p (kd c.Op 1)];cases hb:argOk p (kd c.Op 1) c.B with
   | false=>simp [taskmillref_ProgramFault_j1,taskmillref_F,toldOr]
   | true=>simp [taskmillref_ProgramFault_j1,toldOr];exact wrapS (by omega)
theorem chk_step (p:GProgram) (i:Nat) (h:i<p.Code.length):code_Check_l1 p (i:Int)=taskmillref_ProgramFault_l1 p (i:Int):=by
 unfold taskmillref_ProgramFault_l1 code_Check_l1;have h0:decide ((i:Int)<(p.Code.length:Int))=true:=by simp;omega
 simp only [inr p i h,h0,cond_true];generalize hc:ix p.Code (i:Int)=c;have e9:(decide ((23:Int)≤c.Op))=(decide ((22:Int)<c.Op)):=decide_eq_decide.2 (by omega);rw [e9];by_cases hr:c.Op<1∨22<c.Op
 ·have:(decide (c.Op<1)||decide ((22:Int)<c.Op))=true:=by simpa using hr
  rw [this];rfl
 ·have e0:(decide (c.Op<1)||decide ((22:Int)<c.Op))=false:=by simpa using hr
  have hr':1≤c.Op∧c.Op≤22:=by omega
  obtain ⟨t1,t2,t3,t4⟩:=tab_at c.Op hr'.1 hr'.2;have e1:(decide ((0:Int)≤c.Op)&&decide (c.Op<(refArgs.length:Int)))=true:=by
   have:refArgs.length=23:=rfl;simp [this];omega
  have e2:(decide ((0:Int)≤c.Op)&&decide (c.Op<(codeKinds.length:Int)))=true:=by
   have:codeKinds.length=23:=rfl;simp [this];omega
  rw [e0];simp only [cond_false,e1,e2,cond_true,t1,t2];have f1:=fits_eq p (kd c.Op 0) c.A t3;have f2:=fits_eq p (kd c.Op 1) c.B t4;unfold kd at f1 f2;simp only [show ((0:Int)).toNat=0 from rfl,show ((1:Int)).toNat=1 from rfl,f1,f2];rfl
def badP (p:GProgram) (i:Nat):Option Fault:=if ix p.Pipes (i:Int)<0∨100<ix p.Pipes (i:Int) then some ⟨8,i⟩ else none
def progF (p:GProgram):Fault :=
 if 1000<p.Code.length∨20<p.Pipes.length then ⟨2,0⟩
 else if p.Cells<0∨20<p.Cells∨p.Locks<0∨20<p.Locks∨p.Groups<0∨20<p.Groups then ⟨3,0⟩
 else (firstAt (badP p) p.Pipes.length).getD ((firstAt (fun i=>badI p ((i:Nat):Int)) p.Code.length).getD ⟨0,0⟩)
theorem ref_end (p:GProgram):taskmillref_ProgramFault_l1 p (p.Code.length:Int)=some (.inr ⟨0,0⟩):=by
 unfold taskmillref_ProgramFault_l1;simp
theorem chk_end (p:GProgram):code_Check_l1 p (p.Code.length:Int)=some (.inr ⟨0,0⟩):=by
 unfold code_Check_l1;simp
theorem ref_loop (p:GProgram) (hp:p.Code.length≤1000):loopO (taskmillref_ProgramFault_l1 p) 0=some ((firstAt (fun i=>badI p ((i:Nat):Int)) p.Code.length).getD ⟨0,0⟩) :=
 loopO_findP (step:=taskmillref_ProgramFault_l1 p) (fun i=>((i:Nat):Int)) (fun i=>badI p ((i:Nat):Int)) ⟨0,0⟩ p.Code.length (fun i hi _=>ref_step p hp i hi) (fun _=>ref_end p)
theorem chk_loop (p:GProgram) (hp:p.Code.length≤1000):loopO (code_Check_l1 p) 0=some ((firstAt (fun i=>badI p ((i:Nat):Int)) p.Code.length).getD ⟨0,0⟩) :=
 loopO_findP (step:=code_Check_l1 p) (fun i=>((i:Nat):Int)) (fun i=>badI p ((i:Nat):Int)) ⟨0,0⟩ p.Code.length (fun i hi _=>(chk_step p i hi).trans (ref_step p hp i hi)) (fun _=>chk_end p)
theorem ref_eq (p:GProgram):taskmillref_ProgramFault p=some (progF p):=by
 unfold taskmillref_ProgramFault progF;by_cases h1:1000<p.Code.length∨20<p.Pipes.length
 ·have:(decide ((1000:Int)<(p.Code.length:Int))||decide ((20:Int)<(p.Pipes.length:Int)))=true:=by simp;omega
  rw [this,if_pos h1];rfl
 ·have:(decide ((1000:Int)<(p.Code.length:Int))||decide ((20:Int)<(p.Pipes.length:Int)))=false:=by simp;omega
  rw [this,if_neg h1,cond_false];by_cases h2:p.Cells<0∨20<p.Cells∨p.Locks<0∨20<p.Locks∨p.Groups<0∨20<p.Groups
  ·rw [if_pos h2];have:((decide (p.Cells<0))||((decide ((20:Int)<p.Cells))||((decide (p.Locks<0))||((decide ((20:Int)<p.Locks))||((decide (p.Groups<0))||(decide ((20:Int)<p.Groups)))))))=true:=by simpa using h2
   rw [this];rfl
  ·rw [if_neg h2];have:((decide (p.Cells<0))||((decide ((20:Int)<p.Cells))||((decide (p.Locks<0))||((decide ((20:Int)<p.Locks))||((decide (p.Groups<0))||(decide ((20:Int)<p.Groups)))))))=false:=by simpa using h2
   rw [this,cond_false];refine loopO_findD (step:=taskmillref_ProgramFault_l2 p) (fun i=>((i:Nat):Int)) (badP p) _ p.Pipes.length (fun i hi hb=>?_) (fun i r hi hb=>?_) (fun _=>?_)
   ·unfold taskmillref_ProgramFault_l2;unfold badP at hb;split at hb
    ·cases hb
    ·rename_i h;have h0:decide ((i:Int)<(p.Pipes.length:Int))=true:=by simp;omega
     simp only [show decide ((0:Int)≤(i:Int))=true from by simp,h0,Bool.and_self,Bool.or_true,cond_true];have:(decide (ix p.Pipes (i:Int)<0)||decide ((100:Int)<ix p.Pipes (i:Int)))=false:=by simpa using h
     rw [this,cond_false,wrapS (by omega)]
   ·unfold taskmillref_ProgramFault_l2;unfold badP at hb;split at hb
    ·rename_i h;cases hb;have h0:decide ((i:Int)<(p.Pipes.length:Int))=true:=by simp;omega
     simp only [show decide ((0:Int)≤(i:Int))=true from by simp,h0,Bool.and_self,Bool.or_true,cond_true];have:(decide (ix p.Pipes (i:Int)<0)||decide ((100:Int)<ix p.Pipes (i:Int)))=true:=by simpa using h
     rw [this,cond_true];rfl
    ·cases hb
   ·unfold taskmillref_ProgramFault_l2;have h0:decide ((p.Pipes.length:Int)<(p.Pipes.length:Int))=false:=by simp
    rw [h0,cond_false];show Option.map Sum.inr (loopO (taskmillref_ProgramFault_l1 p) 0)=_;rw [ref_loop p (by omega)];rfl
theorem chk_eq (p:GProgram):code_Check p=some (progF p):=by
 unfold code_Check progF;by_cases h1:1000<p.Code.length∨20<p.Pipes.length
 ·have:(decide ((1000:Int)<(p.Code.length:Int))||decide ((20:Int)<(p.Pipes.length:Int)))=true:=by simp;omega
  rw [this,if_pos h1];rfl
 ·have:(decide ((1000:Int)<(p.Code.length:Int))||decide ((20:Int)<(p.Pipes.length:Int)))=false:=by simp;omega
  rw [this,if_neg h1,cond_false];by_cases h2:p.Cells<0∨20<p.Cells∨p.Locks<0∨20<p.Locks∨p.Groups<0∨20<p.Groups
  ·rw [if_pos h2];have:((decide ((min (min p.Cells p.Locks) p.Groups)<0))||(decide ((20:Int)<(max (max p.Cells p.Locks) p.Groups))))=true:=by
    rw [Bool.or_eq_true,decide_eq_true_eq,decide_eq_true_eq];omega
   rw [this];rfl
  ·rw [if_neg h2];have:((decide ((min (min p.Cells p.Locks) p.Groups)<0))||(decide ((20:Int)<(max (max p.Cells p.Locks) p.Groups))))=false:=by
    rw [Bool.or_eq_false_iff,decide_eq_false_iff_not,decide_eq_false_iff_not];omega
   rw [this,cond_false];refine loopO_findD (step:=code_Check_l2 p) (fun i=>((i:Nat):Int)) (badP p) _ p.Pipes.length (fun i hi hb=>?_) (fun i r hi hb=>?_) (fun _=>?_)
   ·unfold code_Check_l2;unfold badP at hb;split at hb
    ·cases hb
    ·rename_i h;have h0:decide ((i:Int)<(p.Pipes.length:Int))=true:=by simp;omega
     simp only [show decide ((0:Int)≤(i:Int))=true from by simp,h0,Bool.and_self,cond_true];have:(decide (ix p.Pipes (i:Int)<0)||decide ((100:Int)<ix p.Pipes (i:Int)))=false:=by simpa using h
     rw [this,cond_false,wrapS (by omega)]
   ·unfold code_Check_l2;unfold badP at hb;split at hb
    ·rename_i h;cases hb;have h0:decide ((i:Int)<(p.Pipes.length:Int))=true:=by simp;omega
     simp only [show decide ((0:Int)≤(i:Int))=true from by simp,h0,Bool.and_self,cond_true];have:(decide (ix p.Pipes (i:Int)<0)||decide ((100:Int)<ix p.Pipes (i:Int)))=true:=by simpa using h
     rw [this,cond_true];rfl
    ·cases hb
   ·unfold code_Check_l2;have h0:decide ((p.Pipes.length:Int)<(p.Pipes.length:Int))=false:=by simp
    rw [h0,cond_false];show Option.map Sum.inr (loopO (code_Check_l1 p) 0)=_;rw [chk_loop p (by omega)];rfl
structure Ok (p:GProgram):Prop where
 len:p.Code.length≤1000
 ins:∀ i:Int,0≤i→i<(p.Code.length:Int)→badI p i=none
theorem ok_of {p:GProgram} (h:(progF p).Code=0):Ok p:=by
 unfold progF at h;split at h
 ·simp at h
 ·rename_i h1;split at h
  ·simp at h
  ·cases hf0:firstAt (badP p) p.Pipes.length with
   | some f =>
    rw [hf0] at h;obtain ⟨i,hi,hb,_⟩:=firstAt_some _ hf0;unfold badP at hb;split at hb
    ·cases hb;simp at h
    ·cases hb
   | none =>
    rw [hf0] at h;simp only [Option.getD_none] at h;refine ⟨by omega,fun i h2 h3=>?_⟩;cases hf:firstAt (fun i=>badI p ((i:Nat):Int)) p.Code.length with
    | none =>
     have:=(firstAt_none _).1 hf i.toNat (by omega);rwa [show (i.toNat:Int)=i by omega] at this
    | some f =>
     rw [hf] at h;obtain ⟨j,hj,hb,_⟩:=firstAt_some _ hf;simp only [Option.getD_some] at h;unfold badI at hb;split at hb
     ·cases hb;simp at h
     ·split at hb
      ·cases hb
      ·cases hb;simp at h
theorem progF_zero {p:GProgram} (h:(progF p).Code=0):progF p=⟨0,0⟩:=by
 unfold progF at h ⊢;split
 ·rename_i h1;rw [if_pos h1] at h;simp at h
 ·rename_i h1;rw [if_neg h1] at h;split
  ·rename_i h2;rw [if_pos h2] at h;simp at h
  ·rename_i h2;rw [if_neg h2] at h;cases hf0:firstAt (badP p) p.Pipes.length with
   | some f =>
    rw [hf0] at h;obtain ⟨i,hi,hb,_⟩:=firstAt_some _ hf0;unfold badP at hb;split at hb
    ·cases hb;simp at h
    ·cases hb
   | none =>
    rw [hf0] at h;simp only [Option.getD_none] at h ⊢;cases hf:firstAt (fun i=>badI p ((i:Nat):Int)) p.Code.length with
    | none=>rfl
    | some f =>
     rw [hf] at h;obtain ⟨j,hj,hb,_⟩:=firstAt_some _ hf;simp only [Option.getD_some] at h;unfold badI at hb;split at hb
     ·cases hb;simp at h
     ·split at hb
      ·cases hb
      ·cases hb;simp at h
structure OkI (p:GProgram) (c:GInstr):Prop where
 op:1≤c.Op∧c.Op≤22
 a:argOk p (kd c.Op 0) c.A=true
 b:argOk p (kd c.Op 1) c.B=true
theorem Ok.at {p:GProgram} (h:Ok p) {i:Int} (h0:0≤i) (h1:i<(p.Code.length:Int)):OkI p (ix p.Code i):=by
 have:=h.ins i h0 h1;unfold badI at this;split at this
 ·cases this
 ·split at this
  ·rename_i h2 h3;exact ⟨by omega,h3.1,h3.2⟩
  ·cases this
theorem arg_c {p:GProgram} {x:Int} (h:argOk p 99 x=true):0≤x∧x<(p.Code.length:Int):=by
 have e:argOk p 99 x=(decide (0≤x)&&decide (x<(p.Code.length:Int))):=rfl;rw [e] at h;simpa using h
end
end Go.Proofs.YthcdpjkgdcpkmaaGreatDoor
end

section
namespace Go.Proofs.YthcdpjkgdcpkmaaGreatDoor
open Go Go.Sx
set_option linter.unusedVariables false
set_option linter.unusedSimpArgs false
set_option maxRecDepth 100000
theorem rc0:ring_Check ⟨0,[]⟩=some ⟨0,0⟩:=by
 show loopO (ring_Check_l1 ⟨0,[]⟩) (0,[])=_;exact loopO_inr rfl
theorem rc1:ring_Check ⟨0,[1]⟩=some ⟨0,0⟩:=by
 show loopO (ring_Check_l1 ⟨0,[1]⟩) (0,[])=_;rw [loopO_inl (s':=(1,[(1,1)])) rfl];exact loopO_inr rfl
theorem take0:ring_Take ⟨0,[]⟩=some (0,0,⟨6,0⟩,[]):=by
 unfold ring_Take;rw [rc0];rfl
theorem take1:ring_Take ⟨0,[1]⟩=some (0,1,⟨0,0⟩,[]):=by
 unfold ring_Take;rw [rc1];rfl
theorem dis1:ring_disjoint [] [1]=some (-1):=by
 unfold ring_disjoint;rw [loopO_out (step:=ring_disjoint_l2 [] [1]) (s:=(0,[])) (x:=loopO (ring_disjoint_l1 [1]) (0,[])) rfl];rw [loopO_inl (s':=(1,[(1,1)])) rfl];exact loopO_inr rfl
theorem dis0:ring_disjoint [] []=some (-1):=by
 unfold ring_disjoint;rw [loopO_out (step:=ring_disjoint_l2 [] []) (s:=(0,[])) (x:=loopO (ring_disjoint_l1 []) (0,[])) rfl];exact loopO_inr rfl
theorem refillN (P:Nat) (h1:1≤P) (h2:P≤16):ring_Refill_1 ⟨0,[]⟩ (P:Int) [1]=some (0,⟨0,0⟩,[1],[]):=by
 have hP:P=1∨P=2∨P=3∨P=4∨P=5∨P=6∨P=7∨P=8∨P=9∨P=10∨P=11∨P=12∨P=13∨P=14∨P=15∨P=16:=by omega
 unfold ring_Refill_1;rw [rc0];rcases hP with rfl|rfl|rfl|rfl|rfl|rfl|rfl|rfl|rfl|rfl|rfl|rfl|rfl|rfl|rfl|rfl <;>
 ·refine (loopO_inl (step:=ring_Refill_1_l1 ⟨0,[]⟩ _ [1]) (s:=0) (s':=1) rfl).trans (loopO_inr ?_);show Option.map Sum.inr ((ring_All ⟨0,[]⟩).bind _)=_;rw [show ring_All ⟨0,[]⟩=some [] from rfl,Option.bind_some,dis1];rfl
theorem steal0:ring_Steal ⟨0,[]⟩ ⟨0,[]⟩ true=some (0,0,0,⟨0,0⟩,[],[]):=by
 have st:∀ i:Int,i=0∨i=1→ring_Steal_l1 ⟨0,[]⟩ ⟨0,[]⟩ true i=some (.inl (i+1)):=fun i hi=>by
  rcases hi with rfl|rfl
  ·show (ring_Check ⟨0,[]⟩).bind _=_;rw [rc0];rfl
  ·show (ring_Check ⟨0,[]⟩).bind _=_;rw [rc0];rfl
 unfold ring_Steal;rw [loopO_inl (st 0 (.inl rfl)),loopO_inl (st (0+1) (.inr rfl))];refine loopO_inr ?_;show Option.map Sum.inr ((ring_All ⟨0,[]⟩).bind _)=_;rw [show ring_All ⟨0,[]⟩=some [] from rfl];show Option.map Sum.inr ((ring_disjoint [] []).bind _)=_;rw [dis0];rfl
def RI (l:List processor):Prop:=∀ j:Nat,j<l.length→(ix l ((j:Nat):Int)).Ring_Next=0∧(ix l ((j:Nat):Int)).Ring_List=[]
theorem inp {l:List processor} {p:Nat} (h:p<l.length):decide (0≤(p:Int)∧(p:Int)<(l.length:Int))=true:=decide_eq_true ⟨by omega,by omega⟩
theorem inp2 {l:List processor} {p:Nat} (h:p<l.length):((decide ((0:Int)≤(p:Int)))&&(decide ((p:Int)<(l.length:Int))))=true:=by
 simp;omega
theorem ix_set {α:Type} [Enc α] (l:List α) {p:Nat} (h:p<l.length) (x:α):ix (l.set p x) (p:Int)=x:=by
 rw [ix_get (by simpa using h)];simp
theorem f11 {l:List processor} (h:RI l) {p:Nat} (hp:p<l.length):world_machine_find_1_1 (p:Int) l=some (false,l):=by
 unfold world_machine_find_1_1;rw [inp hp,cond_true,(h p hp).1,(h p hp).2,take0];show world_machine_find_1_1_j1 (p:Int) ⟨6,0⟩ l=_;unfold world_machine_find_1_1_j1;rw [inp hp];rfl
theorem f11t (l:List processor) {p:Nat} (hp:p<l.length) (b:Int):world_machine_find_1_1 (p:Int) (l.set p ⟨b,0,[1]⟩)=some (true,l.set p ⟨1,0,[]⟩):=by
 have hp':p<(l.set p ⟨b,0,[1]⟩).length:=by simpa using hp
 unfold world_machine_find_1_1;rw [inp hp',cond_true,ix_set l hp,take1];simp only [Option.bind_some,Int.toNat_natCast,List.set_set];rw [show ((⟨0,0⟩:Fault).Code==0)=true from rfl,cond_true,ix_set l hp];unfold world_machine_find_1_1_j1;rw [decide_eq_true (by simp;omega)];rfl
variable (C:List GInstr) (Ce:Int) (Pi:List Int) (Lo Gr St Ste Now sl:Int) (c1:List GEvent) (c2 c3:List Int) (c4:List task) (c9:List Pipe) (c10:List Lock) (c11:List Group)
variable {l:List processor} (h:RI l) {p:Nat} (hp:p<l.length)
include h hp
theorem find_none (hl:l.length≤16):world_machine_find_1 (p:Int) C Ce Pi Lo Gr St Ste Now sl c1 c2 c3 c4 l [] c9 c10 c11=some (false,C,Ce,Pi,Lo,Gr,St,Ste,Now,sl,[],l):=by
 unfold world_machine_find_1;rw [inp2 hp,f11 h hp];simp only [cond_true,Option.bind_some,decide_true,inp hp,cond_false];show loopO (world_machine_find_1_l1 (p:Int) C Ce Pi Lo Gr St Ste Now sl c1 c2 c3 c4 [] c9 c10 c11) (1,l)=_;refine loopO_all (step:=world_machine_find_1_l1 (p:Int) C Ce Pi Lo Gr St Ste Now sl c1 c2 c3 c4 [] c9 c10 c11) (fun i=>(((i+1:Nat):Int),l)) _ (l.length-1) (fun i hi=>?_) ?_
 ·unfold world_machine_find_1_l1;simp only;have hw:i64.wrap ((p:Int)+((i+1:Nat):Int))=((p+(i+1):Nat):Int):=by rw [wrap_id (by omega) (by omega)];omega
  have hm:Int.tmod ((p+(i+1):Nat):Int) (l.length:Int)=(((p+(i+1))%l.length:Nat):Int):=by
   rw [Int.tmod_eq_emod_of_nonneg (by omega)];rfl
  have hlt:(p+(i+1))%l.length<l.length:=Nat.mod_lt _ (by omega);rw [inp hp,decide_eq_true (by omega:((i+1:Nat):Int)<(l.length:Int)),show ((l.length:Int) != 0)=true from by simp;intro e;rw [e] at hp;simp at hp];simp only [cond_true,hw,hm,inp2 hlt,(h _ hlt).1,(h _ hlt).2,(h _ hp).1,(h _ hp).2,steal0,Option.bind_some];show some (Sum.inl (i64.wrap (((i+1:Nat):Int)+1),l))=_;rw [wrap_id (by omega) (by omega)];rfl
 ·unfold world_machine_find_1_l1;simp only;rw [inp hp,cond_true,decide_eq_false (by omega),cond_false]
theorem find_has (hl:l.length≤16):world_machine_find_1 (p:Int) C Ce Pi Lo Gr St Ste Now sl c1 c2 c3 c4 l [1] c9 c10 c11=some (true,C,Ce,Pi,Lo,Gr,St,Ste,Now,sl,[],l.set p ⟨1,0,[]⟩):=by
 unfold world_machine_find_1;rw [inp2 hp,f11 h hp];simp only [cond_true,Option.bind_some,decide_true,inp hp,cond_false,(h p hp).1,(h p hp).2,refillN l.length (by omega) hl,Int.toNat_natCast,f11t l hp,List.length_set];rfl
theorem step_idle (hl:l.length≤16) (h0:(ix l (p:Int)).now=0):world_machine_step_1 (p:Int) C Ce Pi Lo Gr c1 St Ste Now c2 sl c3 c4 l [] c9 c10 c11=some (C,Ce,Pi,Lo,Gr,St,Ste,Now,sl,c1,[],c3,c4,l,c9,c10,c11):=by
 unfold world_machine_step_1;rw [inp2 hp,h0,find_none C Ce Pi Lo Gr St Ste Now sl c1 c2 c3 c4 c9 c10 c11 h hp hl];simp only [cond_true,Option.bind_some,inp hp,beq_self_eq_true];unfold world_machine_step_1_j2;rw [inp hp];rfl
theorem step_find (hl:l.length≤16) (h0:(ix l (p:Int)).now=0):world_machine_step_1 (p:Int) C Ce Pi Lo Gr c1 St Ste Now c2 sl c3 c4 l [1] c9 c10 c11=world_machine_step_1_j2 (p:Int) c1 c2 c3 c4 c9 c10 c11 false C Ce Pi Lo Gr St Ste Now sl (l.set p ⟨1,0,[]⟩) []:=by
 unfold world_machine_step_1;rw [inp2 hp,h0,find_has C Ce Pi Lo Gr St Ste Now sl c1 c2 c3 c4 c9 c10 c11 h hp hl];simp only [cond_true,Option.bind_some,beq_self_eq_true,List.length_set,inp hp,Bool.not_true]
omit h in
theorem step_run (h0:(ix l (p:Int)).now=1) (c8:List Int):world_machine_step_1 (p:Int) C Ce Pi Lo Gr c1 St Ste Now c2 sl c3 c4 l c8 c9 c10 c11=world_machine_step_1_j2 (p:Int) c1 c2 c3 c4 c9 c10 c11 false C Ce Pi Lo Gr St Ste Now sl l c8:=by
 unfold world_machine_step_1;rw [inp2 hp,h0];rfl
end Go.Proofs.YthcdpjkgdcpkmaaGreatDoor
end

section
namespace Go.Proofs.YthcdpjkgdcpkmaaGreatDoor
open Go Go.Sx
set_option linter.unusedVariables false
set_option linter.unusedSimpArgs false
set_option maxRecDepth 100000
structure PI (p:Pipe):Prop where
 s:p.Senders=[]
 g:p.Getters=[]
 c:0≤p.Cap∧p.Cap≤100
 n:(p.Items.length:Int)≤p.Cap
theorem posts0 (m:List (Int×Int)):pipe_posts [] m=some 0:=loopO_inr rfl
theorem chk_pi {p:Pipe} (h:PI p):pipe_Check p=some ⟨0,0⟩:=by
 obtain ⟨cap,items,cl,ss,gs⟩:=p;obtain ⟨rfl,rfl,h3,h4⟩:=h;simp only at h3 h4;have hw:i64.wrap (i64.wrap ((items.length:Int)+(([]:List GPost).length:Nat))+(([]:List GPost).length:Nat))=(items.length:Int):=by
  rw [wrap_id (x:=(items.length:Int)+_) (by simp<;>omega) (by simp<;>omega),wrap_id (by simp<;>omega) (by simp<;>omega)]<;>simp
 unfold pipe_Check;simp only [hw];rw [decide_eq_false (by omega),decide_eq_false (show ¬ cap<0 by omega),decide_eq_false (show ¬ (1000:Int)<cap by omega),decide_eq_false (show ¬ cap<(items.length:Int) by omega)];show (pipe_posts [] []).bind _=_;rw [posts0];exact loopO_inr rfl
theorem begin_pi {p:Pipe} (h:PI p):pipe_begin p 1=some ⟨0,0⟩:=by
 have hc:=chk_pi h;obtain ⟨cap,items,cl,ss,gs⟩:=p;obtain ⟨rfl,rfl,h3,h4⟩:=h;simp only at h3 h4;have hw:i64.wrap (i64.wrap ((items.length:Int)+(([]:List GPost).length:Nat))+(([]:List GPost).length:Nat))=(items.length:Int):=by
  rw [wrap_id (x:=(items.length:Int)+_) (by simp<;>omega) (by simp<;>omega),wrap_id (by simp<;>omega) (by simp<;>omega)]<;>simp
 have hi:slices_IndexFunc_Post [] 1=some (-1):=loopO_inr rfl;have hwt:pipe_Waits ⟨cap,items,cl,[],[]⟩ 1=some false:=by
  unfold pipe_Waits slices_ContainsFunc_Post;show ((slices_IndexFunc_Post [] 1).bind _).bind _=_;rw [hi];rfl
 unfold pipe_begin;rw [hc];show (pipe_Waits _ 1).bind _=_;rw [hwt];show (bif (i64.wrap (i64.wrap ((items.length:Int)+(([]:List GPost).length:Nat))+(([]:List GPost).length:Nat))==5000) then _ else _)=_;rw [hw,show ((items.length:Int)==5000)=false from by simp;omega];rfl
theorem copy_pi {p:Pipe} (h:PI p):pipe_Copy p=some (p.Cap,p.Closed,p.Items,[],[]):=by
 obtain ⟨cap,items,cl,ss,gs⟩:=p;obtain ⟨rfl,rfl,h3,h4⟩:=h;simp only at h3 h4;unfold pipe_Copy slices_Clone_int;rw [decide_eq_true (by simp;omega)];rfl
theorem send_pi {p:Pipe} (h:PI p) (v:Int):pipe_Send p 1 v false =
  if p.Closed=true then some (p.Cap,p.Closed,true,true,false,0,0,⟨0,0⟩,p.Items,[],[],[])
  else if (p.Items.length:Int)<p.Cap then some (p.Cap,p.Closed,true,false,false,0,0,⟨0,0⟩,p.Items++[v],[],[],[])
  else some (p.Cap,p.Closed,false,false,false,0,0,⟨0,0⟩,p.Items,[⟨1,0,v⟩],[],[]):=by
 have h4:=h.n;have h3:=h.c;unfold pipe_Send;rw [begin_pi h];show (pipe_Copy p).bind _=_;rw [copy_pi h];simp only [Option.bind_some];unfold pipe_Put_1;cases hc:p.Closed with
 | true=>rfl
 | false =>
  rw [cond_false,if_neg (by simp),show decide ((0:Int)<((([]:List GPost).length:Nat):Int))=false from rfl,cond_false];by_cases hl:(p.Items.length:Int)<p.Cap
  ·rw [if_pos hl,decide_eq_true hl,decide_eq_true (by simp;omega)];rfl
  ·rw [if_neg hl,decide_eq_false hl];rfl
theorem get_pi {p:Pipe} (h:PI p):pipe_Get p 1 false =
  match p.Items with
  | x::r=>some (p.Cap,p.Closed,true,false,true,x,0,⟨0,0⟩,r,[],[],[])
  | []=>if p.Closed=true then some (p.Cap,p.Closed,true,false,false,0,0,⟨0,0⟩,[],[],[],[])
   else some (p.Cap,p.Closed,false,false,false,0,0,⟨0,0⟩,[],[],[⟨1,0,0⟩],[]):=by
 unfold pipe_Get;rw [begin_pi h];show (pipe_Copy p).bind _=_;rw [copy_pi h];simp only [Option.bind_some];show ((pipe_Got_1_j1 ⟨1,0,0⟩ p.Cap p.Closed [] p.Items [] []).bind _)=_;unfold pipe_Got_1_j1;cases hi:p.Items with
 | cons x r =>
  simp only;rw [decide_eq_true (by simp<;>omega),cond_true,cond_true,decide_eq_true (by simp<;>omega),cond_true];have hcut:cut (x::r) (1:Int) (((x::r).length:Nat):Int)=r:=by
   have:=cut_drop (x::r) 1;simpa using this
  rw [hcut];rfl
 | nil =>
  cases p.Closed with
  | true=>rfl
  | false=>rfl
theorem shut_pi {p:Pipe} (h:PI p):pipe_Shut p =
  if p.Closed=true then some (p.Cap,p.Closed,true,true,false,0,0,⟨0,0⟩,p.Items,[],[])
  else some (p.Cap,true,true,false,false,0,0,⟨0,0⟩,p.Items,[],[]):=by
 unfold pipe_Shut;rw [chk_pi h];show (pipe_Copy p).bind _=_;rw [copy_pi h];simp only [Option.bind_some];unfold pipe_Down_1;cases p.Closed with
 | true=>rfl
 | false =>
  rw [cond_false,if_neg (by simp),loopO_out (step:=pipe_Down_1_l2 p.Cap false p.Items [] []) (s:=()) (x:=loopO (pipe_Down_1_l1 p.Cap false p.Items [] []) ()) rfl,loopO_inr (step:=pipe_Down_1_l1 p.Cap false p.Items [] []) (s:=()) (r:=(true,false,false,0,0,p.Cap,true,[],[])) rfl];rfl
structure LI (l:Lock):Prop where
 w:l.Line=[]
 r:0≤l.Readers∧l.Readers≤6000
 x:l.Writer=true→l.Readers=0
theorem chk_li {l:Lock} (h:LI l):lock_Check l=some ⟨0,0⟩:=by
 obtain ⟨rd,wr,ln⟩:=l;obtain ⟨rfl,h2,h3⟩:=h;simp only at h2 h3;unfold lock_Check;simp only;rw [decide_eq_false (show ¬ rd<0 by omega),decide_eq_false (show ¬ (1000000000:Int)<rd by omega)];cases wr with
 | true =>
  obtain rfl:=h3 rfl;exact loopO_inr rfl
 | false =>
  show loopO (lock_Check_l1 _) ()=_;exact loopO_inr rfl
theorem copied_li {l:Lock} (h:LI l):lock_copied l=some (l.Readers,l.Writer,[]):=by
 obtain ⟨rd,wr,ln⟩:=l;obtain ⟨rfl,h2,h3⟩:=h;rfl
theorem admit0 (rd:Int) (wr:Bool):lock_admit_1 rd wr []=some ([],rd,wr,[]):=loopO_inr rfl
theorem admit1 (rd:Int) (hr:0≤rd∧rd≤6000) (wr w:Bool):lock_admit_1 rd wr [⟨1,w,0⟩] =
  if wr=true∨(w=true∧0<rd) then some ([],rd,wr,[⟨1,w,0⟩]) else some ([1],if w=true then rd else rd+1,w,[]):=by
 unfold lock_admit_1;cases wr with
 | true=>rw [if_pos (.inl rfl)];exact loopO_inr rfl
 | false =>
  cases w with
  | true =>
   by_cases h0:0<rd
   ·rw [if_pos (.inr ⟨rfl,h0⟩)];refine loopO_inr ?_;show (bif decide (0<rd) then _ else _)=_;rw [decide_eq_true h0];rfl
   ·rw [if_neg (by simp [h0])];rw [loopO_inl (s':=(rd,true,[1],[])) (by
     show (bif decide (0<rd) then _ else _)=_;rw [decide_eq_false h0];rfl)]
    exact loopO_inr rfl
  | false =>
   rw [if_neg (by simp)];rw [loopO_inl (s':=(i64.wrap (rd+1),false,[1],[])) rfl,wrap_id (by omega) (by omega)];exact loopO_inr rfl
theorem has1:slices_Contains_int [1] 1=some true:=by
 have:slices_Index_int [1] 1=some 0:=loopO_inr rfl;unfold slices_Contains_int;rw [this];rfl
theorem has0:slices_Contains_int [] 1=some false:=by
 have:slices_Index_int [] 1=some (-1):=loopO_inr rfl;unfold slices_Contains_int;rw [this];rfl
theorem enter_li {l:Lock} (h:LI l) (w:Bool):lock_Enter l 1 w false =
  if l.Writer=true∨(w=true∧0<l.Readers) then some (l.Readers,l.Writer,false,⟨0,0⟩,[⟨1,w,0⟩]) else some (if w=true then l.Readers else l.Readers+1,w,true,⟨0,0⟩,[]):=by
 have hi:slices_IndexFunc_Want [] 1=some (-1):=loopO_inr rfl;unfold lock_Enter;rw [chk_li h];show (slices_ContainsFunc_Want l.Line 1).bind _=_;unfold slices_ContainsFunc_Want;rw [h.w,hi];show (bif ((((([]:List Want).length:Nat):Int)==5000)||(l.Readers==1000000000)) then _ else _)=_;rw [show (l.Readers==1000000000)=false from by have:=h.r;simp;omega];show (lock_copied l).bind _=_;rw [copied_li h];show (lock_admit_1 l.Readers l.Writer [⟨1,w,0⟩]).bind _=_;rw [admit1 l.Readers h.r];split
 ·simp only [Option.bind_some,has0];rfl
 ·simp only [Option.bind_some,has1];rfl
theorem leave_li {l:Lock} (h:LI l) (w:Bool):lock_Leave l w =
  if (w=true∧l.Writer=false)∨(w=false∧l.Readers=0) then some (l.Readers,l.Writer,true,⟨0,0⟩,[],[]) else some (if w=true then l.Readers else l.Readers-1,if w=true then false else l.Writer,false,⟨0,0⟩,[],[]):=by
 unfold lock_Leave;rw [chk_li h];have hr:=h.r;cases w with
 | true =>
  cases hw:l.Writer with
  | true =>
   rw [if_neg (by simp)];show (lock_copied l).bind _=_;rw [copied_li h];show (lock_admit_1 l.Readers false []).bind _=_;rw [admit0];rfl
  | false =>
   rw [if_pos (.inl ⟨rfl,rfl⟩)];show (lock_copied l).bind _=_;rw [copied_li h,hw];rfl
 | false =>
  by_cases h0:l.Readers=0
  ·rw [if_pos (.inr ⟨rfl,h0⟩)];show (bif (l.Readers==0) then (lock_copied l).bind _ else _)=_;rw [h0,copied_li h,h0];rfl
  ·rw [if_neg (by simp [h0])];show (bif (l.Readers==0) then _ else (lock_copied l).bind _)=_;rw [show (l.Readers==0)=false from by simpa using h0,copied_li h];show (lock_admit_1 (i64.wrap (l.Readers-1)) l.Writer []).bind _=_;rw [admit0,wrap_id (by omega) (by omega)];rfl
structure GI (g:Group):Prop where
 w:g.Line=[]
 c:0≤g.Count∧g.Count≤1000000000
theorem grp_gi {g:Group} (h:GI g):sync_group g=some ⟨0,0⟩:=by
 have hl:sync_line []=some ⟨0,0⟩:=loopO_inr rfl;have hc:=h.c;unfold sync_group;rw [h.w,hl];show (bif ((decide (g.Count<0))||(decide ((1000000000:Int)<g.Count))) then _ else bif ((g.Count==0)&&false) then _ else _)=_;rw [decide_eq_false (by omega),decide_eq_false (by omega),Bool.and_false];rfl
def addM (g:Group) (n:Int):Option Group:=if n < -1000000000∨1000000000<n∨g.Count+n<0∨1000000000<g.Count+n then none else some ⟨g.Count+n,[]⟩
theorem add_gi {g:Group} (h:GI g) (n:Int):∃ c p f,sync_Add g n=some (c,p,f,[],[])∧match addM g n with
  | none=>(p||(f.Code != 0))=true
  | some g'=>(p||(f.Code != 0))=false∧g'=⟨c,[]⟩:=by
 have hc:=h.c;unfold sync_Add addM;rw [grp_gi h];by_cases h1:n < -1000000000∨1000000000<n
 ·rw [if_pos (by omega)];refine ⟨0,false,⟨3,-1⟩,?_,rfl⟩;show (bif ((decide (n<(-1000000000)))||(decide ((1000000000:Int)<n))) then _ else _)=_;rw [show ((decide (n<(-1000000000)))||(decide ((1000000000:Int)<n)))=true from by simpa using h1];rfl
 ·have e1:((decide (n<(-1000000000)))||(decide ((1000000000:Int)<n)))=false:=by simpa using h1
  have e2:i64.wrap (g.Count+n)=g.Count+n:=wrap_id (by omega) (by omega);have go:∀ x,(bif ((decide (n<(-1000000000)))||(decide ((1000000000:Int)<n))) then ((sync_fault 3 (-1)).bind fun r=>some (0,false,r,[],[])) else ((slices_Clone_int g.Line).bind fun r3279=>(bif (decide ((i64.wrap (g.Count+n))<0)) then (some (g.Count,true,(Fault.mk 0 0),r3279,[])) else (bif (decide ((1000000000:Int)<(i64.wrap (g.Count+n)))) then ((sync_fault 9 0).bind fun r3289=>(some (0,false,r3289,[],[]))) else (bif ((i64.wrap (g.Count+n))==0) then (some (0,false,(Fault.mk 0 0),[],r3279)) else (some ((i64.wrap (g.Count+n)),false,(Fault.mk 0 0),r3279,[])))))))=x →
    (if g.Count+n<0 then some (g.Count,true,(Fault.mk 0 0),([]:List Int),([]:List Int)) else if 1000000000<g.Count+n then some (0,false,⟨9,0⟩,[],[]) else some (g.Count+n,false,⟨0,0⟩,[],[]))=x:=by
   intro x hx;rw [←hx,e1,cond_false,e2,h.w];rw [show slices_Clone_int []=some [] from rfl,Option.bind_some];by_cases a:g.Count+n<0
   ·rw [if_pos a,decide_eq_true a];rfl
   ·rw [if_neg a,decide_eq_false a,cond_false];by_cases b:1000000000<g.Count+n
    ·rw [if_pos b,decide_eq_true b];rfl
    ·rw [if_neg b,decide_eq_false b,cond_false];by_cases d:g.Count+n=0
     ·rw [d];rfl
     ·rw [show (g.Count+n==0)=false from by simpa using d];rfl
  have hE:=go _ rfl;refine ?_;by_cases a:g.Count+n<0
  ·rw [if_pos (by omega)];rw [if_pos a] at hE;exact ⟨_,_,_,hE.symm,rfl⟩
  ·rw [if_neg a] at hE;by_cases b:1000000000<g.Count+n
   ·rw [if_pos (by omega)];rw [if_pos b] at hE;exact ⟨_,_,_,hE.symm,rfl⟩
   ·rw [if_neg (by omega)];rw [if_neg b] at hE;exact ⟨_,_,_,hE.symm,rfl,rfl⟩
theorem await_gi {g:Group} (h:GI g):sync_Await g 1=if g.Count=0 then some (g.Count,true,⟨0,0⟩,[]) else some (g.Count,false,⟨0,0⟩,[1]):=by
 have hc:=h.c;unfold sync_Await;rw [grp_gi h];show (sync_comes g.Line 1).bind _=_;have hco:sync_comes [] 1=some ⟨0,0⟩:=by
  unfold sync_comes;show (slices_Contains_int [] 1).bind _=_;rw [has0];rfl
 rw [h.w,hco];show sync_Await_j2 g 1 ⟨0,0⟩=_;unfold sync_Await_j2;rw [h.w];show (bif decide (0<g.Count) then sync_Await_j1 g [1] else sync_Await_j1 g [])=_;by_cases h0:g.Count=0
 ·rw [if_pos h0];unfold sync_Await_j1;rw [h0];rfl
 ·rw [if_neg h0,decide_eq_true (by omega)];unfold sync_Await_j1;rw [show (g.Count==0)=false from by simpa using h0];rfl
end Go.Proofs.YthcdpjkgdcpkmaaGreatDoor
end

section
namespace Go.Proofs.YthcdpjkgdcpkmaaGreatDoor
open Go Go.Sx
set_option linter.unusedVariables false
set_option linter.unusedSimpArgs false
set_option maxRecDepth 100000
structure Core where
 pc:Int
 r:VArr 8
 ce:List Int
 pi:List Pipe
 lo:List Lock
 gr:List Group
 tr:List GEvent
inductive Out where
 | go (k:Core)
 | yld (k:Core)
 | slp (k:Core) (n:Int)
 | halt (st ts:Int) (k:Core)
theorem in2 {a n:Int} (h:0≤a∧a<n):((decide ((0:Int)≤a))&&(decide (a<n)))=true:=by
 rw [decide_eq_true h.1,decide_eq_true h.2];rfl
theorem all_set {α:Type} {Q:α→Prop} {xs:List α} (h:∀ x∈xs,Q x) {n:Nat} {y:α} (hy:Q y):∀ x∈xs.set n y,Q x:=fun x hx=>by
 rcases List.mem_or_eq_of_mem_set hx with h1|h1
 ·exact h x h1
 ·rw [h1];exact hy
theorem all_ix {α:Type} [Enc α] {Q:α→Prop} {xs:List α} (h:∀ x∈xs,Q x) {a:Int} (ha:0≤a∧a<(xs.length:Int)):Q (ix xs a):=by
 obtain ⟨n,rfl⟩:=Int.eq_ofNat_of_zero_le ha.1;rw [ix_get (by omega)];exact h _ (List.getElem_mem _)
section
variable (C:List GInstr) (Ce:Int) (Pi:List Int) (Lo Gr Ste Now sl w q:Int) (c2 c8:List Int)
theorem tell1 (op ob v:Int) (c1:List GEvent) (c3:List Int) (c4:List task) (l:List processor) (c9:List Pipe) (c10:List Lock) (c11:List Group) (h:c1.length≤5000):world_machine_tell_1 1 op ob v C Ce Pi Lo Gr 0 Ste Now sl c1 c2 c3 c4 l c8 c9 c10 c11=some (C,Ce,Pi,Lo,Gr,0,Ste,Now,sl,c1++[⟨1,op,ob,v⟩]):=by
 unfold world_machine_tell_1;rw [decide_eq_true (by simp;omega)];rfl
theorem pan1 (ob:Int) (c1:List GEvent) (c3:List Int) (c4:List task) (l:List processor) (c9:List Pipe) (c10:List Lock) (c11:List Group) (h:c1.length≤5000):world_machine_panics_1 1 ob C Ce Pi Lo Gr 0 Ste Now sl c1 c2 c3 c4 l c8 c9 c10 c11=some (C,Ce,Pi,Lo,Gr,2,Ste,Now,sl,c1++[⟨1,22,ob,0⟩]):=by
 unfold world_machine_panics_1;rw [tell1 _ _ _ _ _ _ _ _ _ _ _ _ _ _ _ _ _ _ _ _ h];rfl
variable (k:Core) {l:List processor} {p:Nat} (hp:p<l.length) (hn:ix l (p:Int)=⟨1,0,[]⟩) (ht:k.tr.length≤5000)
theorem wait1 (c9:List Pipe) (c10:List Lock) (c11:List Group):world_machine_waits_1 1 C Ce Pi Lo Gr 0 Ste Now sl k.tr c2 k.ce [⟨k.pc,k.r,0,w,q⟩] l c8 c9 c10 c11=some (false,C,Ce,Pi,Lo,Gr,0,Ste,Now,sl,[⟨k.pc,k.r,1,w,q⟩]):=rfl
theorem of1 (c1:List GEvent) (c3:List Int) (t:task) (c9:List Pipe) (c10:List Lock) (c11:List Group):world_machine_of_1 1 C Ce Pi Lo Gr 0 Ste Now sl c1 c2 c3 [t] l c8 c9 c10 c11=some 0:=rfl
theorem in0 (t:task):decide ((0:Int)≤0∧(0:Int)<((([t]:List task).length:Nat):Int))=true:=rfl
theorem ix0 (t:task):ix [t] (0:Int)=t:=rfl
theorem set0 (t u:task):[t].set (0:Int).toNat u=[u]:=rfl
include hp in
theorem wakes0 (x:Int) (c1:List GEvent) (c3:List Int) (c4:List task) (c9:List Pipe) (c10:List Lock) (c11:List Group):world_machine_wakes (p:Int) x [] C Ce Pi Lo Gr 0 Ste Now sl c1 c2 c3 c4 l c8 c9 c10 c11=some ():=by
 unfold world_machine_wakes;rw [inp hp];refine loopO_inr ?_;unfold world_machine_wakes_l1;rw [inp hp];rfl
def doesR (l:List processor) (p:Nat):Out→Option (Bool×List GInstr×Int×List Int×Int×Int×Int×Int×Int×Int×List GEvent×List Int×List Int×List task×List processor×List Pipe×List Lock×List Group)
 | .go k=>some (true,C,Ce,Pi,Lo,Gr,0,Ste,Now,sl,k.tr,c8,k.ce,[⟨k.pc,k.r,0,w,q⟩],l,k.pi,k.lo,k.gr)
 | .yld k=>some (false,C,Ce,Pi,Lo,Gr,0,Ste,Now,sl,k.tr,c8++[1],k.ce,[⟨k.pc,k.r,0,w,q⟩],l.set p ⟨0,0,[]⟩,k.pi,k.lo,k.gr)
 | .slp k n=>some (false,C,Ce,Pi,Lo,Gr,0,Ste,Now,i64.wrap (sl+1),k.tr,c8,k.ce,[⟨k.pc,k.r,2,i64.wrap (Now+n),i64.wrap (sl+1)⟩],l,k.pi,k.lo,k.gr)
 | .halt st ts k=>some (false,C,Ce,Pi,Lo,Gr,st,Ste,Now,sl,k.tr,c8,k.ce,[⟨k.pc,k.r,ts,w,q⟩],l,k.pi,k.lo,k.gr)
abbrev pc1 (k:Core):Int:=i64.wrap (k.pc+1)
include hn hp in
theorem yield1 (hc:c8.length≤1):world_machine_yield (p:Int) 1 C Ce Pi Lo Gr 0 Ste Now sl k.tr c2 k.ce [⟨k.pc,k.r,0,w,q⟩] l c8 k.pi k.lo k.gr=some (false,C,Ce,Pi,Lo,Gr,0,Ste,Now,sl,c8++[1],[⟨pc1 k,k.r,0,w,q⟩],l.set p ⟨0,0,[]⟩):=by
 unfold world_machine_yield;rw [inp hp,hn];simp only [cond_true,of1,Option.bind_some,in0,ix0,set0,Int.toNat_natCast];rw [decide_eq_true (by simp;omega),cond_true]
include hp ht in
theorem talks14 (a b:Int) (ha:0≤a∧a<(k.pi.length:Int)) (hb:0≤b∧b<8) (hq:PI (ix k.pi a)):world_machine_talks (p:Int) 1 ⟨14,a,b⟩ C Ce Pi Lo Gr 0 Ste Now sl k.tr c2 k.ce [⟨k.pc,k.r,0,w,q⟩] l c8 k.pi k.lo k.gr =
  if (ix k.pi a).Closed=true then some (false,C,Ce,Pi,Lo,Gr,2,Ste,Now,sl,k.tr++[⟨1,22,a,0⟩],[⟨k.pc,k.r,0,w,q⟩],k.pi.set a.toNat ⟨(ix k.pi a).Cap,(ix k.pi a).Items,(ix k.pi a).Closed,[],[]⟩)
  else if (((ix k.pi a).Items.length:Nat):Int)<(ix k.pi a).Cap then some (true,C,Ce,Pi,Lo,Gr,0,Ste,Now,sl,k.tr++[⟨1,14,a,k.r.get b⟩],[⟨k.pc,k.r,0,w,q⟩],k.pi.set a.toNat ⟨(ix k.pi a).Cap,(ix k.pi a).Items++[k.r.get b],(ix k.pi a).Closed,[],[]⟩)
  else some (false,C,Ce,Pi,Lo,Gr,0,Ste,Now,sl,k.tr,[⟨k.pc,k.r,1,w,q⟩],k.pi.set a.toNat ⟨(ix k.pi a).Cap,(ix k.pi a).Items,(ix k.pi a).Closed,[⟨1,0,k.r.get b⟩],[]⟩):=by
 unfold world_machine_talks;simp only [inp hp,of1,in0,ix0,Option.bind_some,cond_true,in2 ha,in2 (n:=((8:Nat):Int)) hb,send_pi hq,show ((14:Int)==14)=true from rfl];split
 ·simp only [Option.bind_some,cond_true,pan1 (h:=ht)]
 ·split
  ·simp only [Option.bind_some,cond_true,cond_false,Bool.not_true,tell1 (h:=ht),wakes0 (hp:=hp)];rfl
  ·simp only [Option.bind_some,cond_true,cond_false,Bool.not_false,wait1,in0]
include hp ht in
theorem talks15 (a b:Int) (ha:0≤a∧a<8) (hb:0≤b∧b<(k.pi.length:Int)) (hq:PI (ix k.pi b)):world_machine_talks (p:Int) 1 ⟨15,a,b⟩ C Ce Pi Lo Gr 0 Ste Now sl k.tr c2 k.ce [⟨k.pc,k.r,0,w,q⟩] l c8 k.pi k.lo k.gr =
  match (ix k.pi b).Items with
  | x::rs=>some (true,C,Ce,Pi,Lo,Gr,0,Ste,Now,sl,k.tr++[⟨1,15,b,x⟩],[⟨k.pc,(k.r.set a x).set 7 1,0,w,q⟩],k.pi.set b.toNat ⟨(ix k.pi b).Cap,rs,(ix k.pi b).Closed,[],[]⟩)
  | []=>if (ix k.pi b).Closed=true then some (true,C,Ce,Pi,Lo,Gr,0,Ste,Now,sl,k.tr++[⟨1,15,b,0⟩],[⟨k.pc,(k.r.set a 0).set 7 0,0,w,q⟩],k.pi.set b.toNat ⟨(ix k.pi b).Cap,[],(ix k.pi b).Closed,[],[]⟩)
   else some (false,C,Ce,Pi,Lo,Gr,0,Ste,Now,sl,k.tr,[⟨k.pc,k.r,1,w,q⟩],k.pi.set b.toNat ⟨(ix k.pi b).Cap,[],(ix k.pi b).Closed,[],[⟨1,0,0⟩]⟩):=by
 have hg:∀ (x:Int) (ok:Bool) (c9:List Pipe),world_machine_got_1 1 ⟨15,a,b⟩ x ok C Ce Pi Lo Gr 0 Ste Now sl k.tr c2 k.ce [⟨k.pc,k.r,0,w,q⟩] l c8 c9 k.lo k.gr=some (C,Ce,Pi,Lo,Gr,0,Ste,Now,sl,k.tr++[⟨1,15,b,x⟩],[⟨k.pc,(k.r.set a x).set 7 (mbGet [(true,1)] ok),0,w,q⟩]):=by
  intro x ok c9;unfold world_machine_got_1;simp only [of1,in0,ix0,Option.bind_some,cond_true,in2 (n:=((8:Nat):Int)) ha,set0,tell1 (h:=ht)]
 unfold world_machine_talks;simp only [inp hp,of1,in0,ix0,Option.bind_some,cond_true,in2 hb,get_pi hq,show ((15:Int)==14)=false from rfl,show ((15:Int)==15)=true from rfl,cond_false];cases hi:(ix k.pi b).Items with
 | cons x rs =>
  simp only [Option.bind_some,cond_true,cond_false,Bool.not_true,hi];rw [decide_eq_true (by simp<;>omega)];simp only [Bool.not_true,cond_false];unfold world_machine_talks_j2;simp only [inp hp,cond_true,hg,Option.bind_some,hi];rw [decide_eq_true (by simp<;>omega)];simp only [cond_true,wakes0 (hp:=hp),Option.bind_some];rfl
 | nil =>
  simp only;split
  ·simp only [Option.bind_some,cond_true,cond_false,Bool.not_true,hi];rw [show (decide ((0:Int)<((([]:List Int).length:Nat):Int)))=false from rfl];simp only [cond_true,Bool.not_false,wakes0 (hp:=hp),Option.bind_some];unfold world_machine_talks_j2;simp only [inp hp,cond_true,hg,Option.bind_some,hi];rfl
  ·simp only [Option.bind_some,cond_true,cond_false,Bool.not_false,wait1]
include hp ht in
theorem talks16 (a b:Int) (ha:0≤a∧a<(k.pi.length:Int)) (hq:PI (ix k.pi a)):world_machine_talks (p:Int) 1 ⟨16,a,b⟩ C Ce Pi Lo Gr 0 Ste Now sl k.tr c2 k.ce [⟨k.pc,k.r,0,w,q⟩] l c8 k.pi k.lo k.gr =
  if (ix k.pi a).Closed=true then some (false,C,Ce,Pi,Lo,Gr,2,Ste,Now,sl,k.tr++[⟨1,22,a,0⟩],[⟨k.pc,k.r,0,w,q⟩],k.pi.set a.toNat ⟨(ix k.pi a).Cap,(ix k.pi a).Items,(ix k.pi a).Closed,[],[]⟩)
  else some (true,C,Ce,Pi,Lo,Gr,0,Ste,Now,sl,k.tr++[⟨1,16,a,0⟩],[⟨k.pc,k.r,0,w,q⟩],k.pi.set a.toNat ⟨(ix k.pi a).Cap,(ix k.pi a).Items,true,[],[]⟩):=by
 unfold world_machine_talks;simp only [inp hp,of1,in0,ix0,Option.bind_some,cond_true,in2 ha,shut_pi hq,show ((16:Int)==14)=false from rfl,show ((16:Int)==15)=false from rfl,show ((16:Int)==16)=true from rfl,cond_false];split
 ·simp only [Option.bind_some,cond_true,pan1 (h:=ht)]
 ·simp only [Option.bind_some,cond_true,cond_false,Bool.not_true,tell1 (h:=ht),wakes0 (hp:=hp)];rfl
include hp ht in
theorem holds17 (a b:Int) (ha:0≤a∧a<(k.lo.length:Int)) (hq:LI (ix k.lo a)):world_machine_holds (p:Int) 1 ⟨17,a,b⟩ C Ce Pi Lo Gr 0 Ste Now sl k.tr c2 k.ce [⟨k.pc,k.r,0,w,q⟩] l c8 k.pi k.lo k.gr =
  if (ix k.lo a).Writer=true∨((b==1)=true∧0<(ix k.lo a).Readers) then some (false,C,Ce,Pi,Lo,Gr,0,Ste,Now,sl,k.tr,[⟨k.pc,k.r,1,w,q⟩],k.lo.set a.toNat ⟨(ix k.lo a).Readers,(ix k.lo a).Writer,[⟨1,b==1,0⟩]⟩,k.gr)
  else some (true,C,Ce,Pi,Lo,Gr,0,Ste,Now,sl,k.tr++[⟨1,17,a,b⟩],[⟨k.pc,k.r,0,w,q⟩],k.lo.set a.toNat ⟨if (b==1)=true then (ix k.lo a).Readers else (ix k.lo a).Readers+1,b==1,[]⟩,k.gr):=by
 unfold world_machine_holds;simp only [inp hp,of1,in0,ix0,Option.bind_some,cond_true,in2 ha,enter_li hq,show ((17:Int)==17)=true from rfl];split
 ·simp only [Option.bind_some,cond_true,Bool.not_false,wait1]
 ·simp only [Option.bind_some,cond_true,cond_false,Bool.not_true,tell1 (h:=ht)];rfl
include hp ht in
theorem holds18 (a b:Int) (ha:0≤a∧a<(k.lo.length:Int)) (hq:LI (ix k.lo a)):world_machine_holds (p:Int) 1 ⟨18,a,b⟩ C Ce Pi Lo Gr 0 Ste Now sl k.tr c2 k.ce [⟨k.pc,k.r,0,w,q⟩] l c8 k.pi k.lo k.gr =
  if ((b==1)=true∧(ix k.lo a).Writer=false)∨((b==1)=false∧(ix k.lo a).Readers=0) then some (false,C,Ce,Pi,Lo,Gr,2,Ste,Now,sl,k.tr++[⟨1,22,a,0⟩],[⟨k.pc,k.r,0,w,q⟩],k.lo.set a.toNat ⟨(ix k.lo a).Readers,(ix k.lo a).Writer,[]⟩,k.gr)
  else some (true,C,Ce,Pi,Lo,Gr,0,Ste,Now,sl,k.tr++[⟨1,18,a,b⟩],[⟨k.pc,k.r,0,w,q⟩],k.lo.set a.toNat ⟨if (b==1)=true then (ix k.lo a).Readers else (ix k.lo a).Readers-1,if (b==1)=true then false else (ix k.lo a).Writer,[]⟩,k.gr):=by
 unfold world_machine_holds;simp only [inp hp,of1,in0,ix0,Option.bind_some,cond_true,in2 ha,leave_li hq,show ((18:Int)==17)=false from rfl,show ((18:Int)==18)=true from rfl,cond_false];split
 ·simp only [Option.bind_some,cond_true,pan1 (h:=ht)]
 ·simp only [Option.bind_some,cond_true,cond_false,tell1 (h:=ht)];refine loopO_inr ?_;unfold world_machine_holds_l1;simp only [inp hp,cond_true];rfl
include hp ht in
theorem holds19 (a b:Int) (ha:0≤a∧a<(k.gr.length:Int)) (hb:0≤b∧b<8) (hq:GI (ix k.gr a)):world_machine_holds (p:Int) 1 ⟨19,a,b⟩ C Ce Pi Lo Gr 0 Ste Now sl k.tr c2 k.ce [⟨k.pc,k.r,0,w,q⟩] l c8 k.pi k.lo k.gr =
  match addM (ix k.gr a) (k.r.get b) with
  | none=>some (false,C,Ce,Pi,Lo,Gr,2,Ste,Now,sl,k.tr++[⟨1,22,a,0⟩],[⟨k.pc,k.r,0,w,q⟩],k.lo,k.gr)
  | some g=>some (true,C,Ce,Pi,Lo,Gr,0,Ste,Now,sl,k.tr++[⟨1,19,a,k.r.get b⟩],[⟨k.pc,k.r,0,w,q⟩],k.lo,k.gr.set a.toNat g):=by
 unfold world_machine_holds;obtain ⟨c,pp,f,he,hm⟩:=add_gi hq (k.r.get b);simp only [inp hp,of1,in0,ix0,Option.bind_some,cond_true,in2 ha,in2 (n:=((8:Nat):Int)) hb,he,show ((19:Int)==17)=false from rfl,show ((19:Int)==18)=false from rfl,show ((19:Int)==19)=true from rfl,cond_false];cases hA:addM (ix k.gr a) (k.r.get b) with
 | none =>
  rw [hA] at hm;simp only at hm;simp only [hm,cond_true,pan1 (h:=ht),Option.bind_some]
 | some g =>
  rw [hA] at hm;simp only at hm;simp only [hm.1,cond_false,tell1 (h:=ht),Option.bind_some,hm.2];refine loopO_inr ?_;unfold world_machine_holds_l2;simp only [inp hp,cond_true];rfl
include hp ht in
theorem holds20 (a b:Int) (ha:0≤a∧a<(k.gr.length:Int)) (hq:GI (ix k.gr a)):world_machine_holds (p:Int) 1 ⟨20,a,b⟩ C Ce Pi Lo Gr 0 Ste Now sl k.tr c2 k.ce [⟨k.pc,k.r,0,w,q⟩] l c8 k.pi k.lo k.gr =
  if (ix k.gr a).Count=0 then some (true,C,Ce,Pi,Lo,Gr,0,Ste,Now,sl,k.tr++[⟨1,20,a,0⟩],[⟨k.pc,k.r,0,w,q⟩],k.lo,k.gr.set a.toNat ⟨(ix k.gr a).Count,[]⟩)
  else some (false,C,Ce,Pi,Lo,Gr,0,Ste,Now,sl,k.tr,[⟨k.pc,k.r,1,w,q⟩],k.lo,k.gr.set a.toNat ⟨(ix k.gr a).Count,[1]⟩):=by
 unfold world_machine_holds;simp only [inp hp,of1,in0,ix0,Option.bind_some,cond_true,in2 ha,await_gi hq,show ((20:Int)==17)=false from rfl,show ((20:Int)==18)=false from rfl,show ((20:Int)==19)=false from rfl,show ((20:Int)==20)=true from rfl,cond_false];split
 ·simp only [Option.bind_some,cond_true,cond_false,Bool.not_true,tell1 (h:=ht)];rfl
 ·simp only [Option.bind_some,cond_true,Bool.not_false,wait1]
end
end Go.Proofs.YthcdpjkgdcpkmaaGreatDoor
end

section
namespace Go.Proofs.YthcdpjkgdcpkmaaGreatDoor
open Go Go.Sx
set_option linter.unusedVariables false
set_option linter.unusedSimpArgs false
set_option maxRecDepth 100000
structure Val (P:GProgram) (k:Core):Prop where
 pc:0≤k.pc∧k.pc≤(P.Code.length:Int)
 ce:(k.ce.length:Int)=P.Cells
 pn:k.pi.length=P.Pipes.length
 pi:∀ x∈k.pi,PI x
 ln:(k.lo.length:Int)=P.Locks
 lo:∀ x∈k.lo,LI x∧x.Readers≤k.tr.length
 gn:(k.gr.length:Int)=P.Groups
 gr:∀ x∈k.gr,GI x
def VO (P:GProgram) (k:Core):Out→Prop
 | .go k'=>(∃ e,k'.tr=k.tr++e∧e.length≤1)∧Val P k'
 | .yld k'=>(∃ e,k'.tr=k.tr++e∧e.length≤1)∧Val P k'
 | .slp k' n=>(∃ e,k'.tr=k.tr++e∧e.length≤1)∧Val P k'
 | .halt st ts k'=>(∃ e,k'.tr=k.tr++e∧e.length≤1)∧((st=0∧ts=1)∨st=1∨st=2)
section
variable {P:GProgram}
theorem tr0 (t:List GEvent):∃ e,t=t++e∧e.length≤1:=⟨[],by simp,by simp⟩
theorem tr1 (t:List GEvent) (x:GEvent):∃ e,t++[x]=t++e∧e.length≤1:=⟨[x],rfl,by simp⟩
theorem arg_n {p:GProgram} {x n:Int} {c:Int} (e:argOk p c x=(decide (0≤x)&&decide (x<n))) (h:argOk p c x=true):0≤x∧x<n:=by
 rw [e] at h;simpa using h
def DoesTo (P:GProgram) (k:Core) (i:GInstr) (o:Out):Prop:=∀ (Ste Now sl w q:Int) (c2 c8:List Int) (l:List processor) (p:Nat),p<l.length→ix l ((p:Nat):Int)=⟨1,0,[]⟩→c8.length≤1 →
 world_machine_does (p:Int) 1 i P.Code P.Cells P.Pipes P.Locks P.Groups 0 Ste Now sl k.tr c2 k.ce [⟨k.pc,k.r,0,w,q⟩] l c8 k.pi k.lo k.gr=doesR P.Code P.Cells P.Pipes P.Locks P.Groups Ste Now sl w q c8 l p o
def VD (P:GProgram) (k:Core):Out→Prop
 | .go k'=>k'.pc=k.pc∧(∃ e,k'.tr=k.tr++e∧e.length≤1)∧Val P k'
 | o=>VO P k o
theorem Val.tr {k:Core} (h:Val P k) (x:GEvent):Val P { k with tr:=k.tr++[x] } :=
 ⟨h.pc,h.ce,h.pn,h.pi,h.ln,fun y hy=>⟨(h.lo y hy).1,by have:=(h.lo y hy).2;simp only [List.length_append,List.length_cons,List.length_nil];omega⟩,h.gn,h.gr⟩
variable {k:Core} (hv:Val P k) (ht:k.tr.length≤5000) (hpc:k.pc<(P.Code.length:Int)) (hP:P.Code.length≤1000)
theorem pc_next (hv:Val P k) (hpc:k.pc<(P.Code.length:Int)) (hP:P.Code.length≤1000):0≤pc1 k∧pc1 k≤(P.Code.length:Int):=by
 have:=hv.pc;unfold pc1;rw [wrap_id (by omega) (by omega)];omega
omit hv ht hpc hP in
theorem does_talks {op a b:Int} (h:op=14∨op=15∨op=16) {Ste Now sl w q:Int} {c2 c8:List Int} {l:List processor} {p:Nat} (hp:p<l.length) {b':Bool} {St':Int} {tr':List GEvent} {t':task} {pi':List Pipe}
  (e:world_machine_talks (p:Int) 1 ⟨op,a,b⟩ P.Code P.Cells P.Pipes P.Locks P.Groups 0 Ste Now sl k.tr c2 k.ce [⟨k.pc,k.r,0,w,q⟩] l c8 k.pi k.lo k.gr=some (b',P.Code,P.Cells,P.Pipes,P.Locks,P.Groups,St',Ste,Now,sl,tr',[t'],pi')) :
  world_machine_does (p:Int) 1 ⟨op,a,b⟩ P.Code P.Cells P.Pipes P.Locks P.Groups 0 Ste Now sl k.tr c2 k.ce [⟨k.pc,k.r,0,w,q⟩] l c8 k.pi k.lo k.gr=some (b',P.Code,P.Cells,P.Pipes,P.Locks,P.Groups,St',Ste,Now,sl,tr',c8,k.ce,[t'],l,pi',k.lo,k.gr):=by
 unfold world_machine_does;simp only [inp hp,of1,in0,Option.bind_some,cond_true];rcases h with rfl|rfl|rfl <;>
 ·simp only [cond_true,cond_false,Int.reduceBEq];unfold world_machine_does_j4;simp only [inp hp,in0,cond_true,e,Option.bind_some]
omit hv ht hpc hP in
theorem does_holds {op a b:Int} (h:op=17∨op=18∨op=19∨op=20) {Ste Now sl w q:Int} {c2 c8:List Int} {l:List processor} {p:Nat} (hp:p<l.length) {b':Bool} {St':Int} {tr':List GEvent} {t':task} {lo':List Lock} {gr':List Group}
  (e:world_machine_holds (p:Int) 1 ⟨op,a,b⟩ P.Code P.Cells P.Pipes P.Locks P.Groups 0 Ste Now sl k.tr c2 k.ce [⟨k.pc,k.r,0,w,q⟩] l c8 k.pi k.lo k.gr=some (b',P.Code,P.Cells,P.Pipes,P.Locks,P.Groups,St',Ste,Now,sl,tr',[t'],lo',gr')) :
  world_machine_does (p:Int) 1 ⟨op,a,b⟩ P.Code P.Cells P.Pipes P.Locks P.Groups 0 Ste Now sl k.tr c2 k.ce [⟨k.pc,k.r,0,w,q⟩] l c8 k.pi k.lo k.gr=some (b',P.Code,P.Cells,P.Pipes,P.Locks,P.Groups,St',Ste,Now,sl,tr',c8,k.ce,[t'],l,k.pi,lo',gr'):=by
 unfold world_machine_does;simp only [inp hp,of1,in0,Option.bind_some,cond_true];rcases h with rfl|rfl|rfl|rfl <;>
 ·simp only [cond_true,cond_false,Int.reduceBEq];unfold world_machine_does_j4;simp only [inp hp,in0,cond_true,cond_false,Option.bind_some,Int.reduceBEq];unfold world_machine_does_j3;simp only [inp hp,in0,cond_true,cond_false,e,Option.bind_some]
include hv ht hpc hP
theorem does_of (i:GInstr) (hi:OkI P i) (h7:7<i.Op) (h11:i.Op≠11):∃ o,VD P k o∧DoesTo P k i o:=by
 obtain ⟨op,a,b⟩:=i
 obtain ⟨h1,hA,hB⟩:=hi
 simp only at h1 hA hB h7 h11
 have hl:∀ {a:Int},0≤a∧a<(k.lo.length:Int)→LI (ix k.lo a)∧(ix k.lo a).Readers≤k.tr.length:=fun h=>all_ix hv.lo h
 have hc:op=8∨op=9∨op=10∨op=12∨op=13∨op=14∨op=15∨op=16∨op=17∨op=18∨op=19∨op=20∨op=21∨op=22:=by omega
 rcases hc with rfl|rfl|rfl|rfl|rfl|rfl|rfl|rfl|rfl|rfl|rfl|rfl|rfl|rfl
 ·-- print
  refine ⟨.go { k with tr:=k.tr++[⟨1,8,0,k.r.get a⟩] },⟨rfl,tr1 _ _,hv.tr _⟩,fun Ste Now sl w q c2 c8 l p hp hn hc=>?_⟩
  have ha:=arg_n (n:=8) rfl hA
  unfold world_machine_does
  simp only [inp hp,of1,in0,ix0,Option.bind_some,cond_true,in2 (n:=((8:Nat):Int)) ha,show ((8:Int)==8)=true from rfl,tell1 (h:=ht)]
  rfl
 ·-- end
  refine ⟨.halt 1 3 { k with tr:=k.tr++[⟨1,9,0,0⟩] },⟨tr1 _ _,.inr (.inl rfl)⟩,fun Ste Now sl w q c2 c8 l p hp hn hc=>?_⟩
  unfold world_machine_does
  simp only [inp hp,of1,in0,ix0,set0,Option.bind_some,cond_true,cond_false,show ((9:Int)==8)=false from rfl,show ((9:Int)==9)=true from rfl,tell1 (h:=ht),show ((1:Int)==1)=true from rfl]
  rfl
 ·-- yield
  refine ⟨.yld { k with pc:=pc1 k },⟨tr0 _,⟨pc_next hv hpc hP,hv.ce,hv.pn,hv.pi,hv.ln,hv.lo,hv.gn,hv.gr⟩⟩,fun Ste Now sl w q c2 c8 l p hp hn hc=>?_⟩
  unfold world_machine_does
  simp only [inp hp,of1,in0,ix0,set0,Option.bind_some,cond_true,cond_false,show ((10:Int)==8)=false from rfl,show ((10:Int)==9)=false from rfl,show ((10:Int)==10)=true from rfl,yield1 (hp:=hp) (hn:=hn) (hc:=hc),List.length_set]
  rfl
 ·-- load
  have ha:=arg_n (n:=8) rfl hA
  have hb:=arg_n (n:=P.Cells) rfl hB
  rw [←hv.ce] at hb
  refine ⟨.go { k with r:=k.r.set a (ix k.ce b),tr:=k.tr++[⟨1,12,b,(k.r.set a (ix k.ce b)).get a⟩] },⟨rfl,tr1 _ _,?_⟩,fun Ste Now sl w q c2 c8 l p hp hn hc=>?_⟩
  ·exact ⟨hv.pc,hv.ce,hv.pn,hv.pi,hv.ln,(hv.tr ⟨1,12,b,(k.r.set a (ix k.ce b)).get a⟩).lo,hv.gn,hv.gr⟩
  unfold world_machine_does
  simp only [inp hp,of1,in0,ix0,set0,Option.bind_some,cond_true,cond_false,show ((12:Int)==8)=false from rfl,show ((12:Int)==9)=false from rfl,show ((12:Int)==10)=false from rfl,show ((12:Int)==11)=false from rfl,show ((12:Int)==12)=true from rfl,in2 hb,in2 (n:=((8:Nat):Int)) ha,tell1 (h:=ht)]
  rfl
 ·-- store
  have ha:=arg_n (n:=P.Cells) rfl hA
  have hb:=arg_n (n:=8) rfl hB
  rw [←hv.ce] at ha
  refine ⟨.go { k with ce:=k.ce.set a.toNat (k.r.get b),tr:=k.tr++[⟨1,13,a,k.r.get b⟩] },⟨rfl,tr1 _ _,?_⟩,fun Ste Now sl w q c2 c8 l p hp hn hc=>?_⟩
  ·exact ⟨hv.pc,by rw [List.length_set];exact hv.ce,hv.pn,hv.pi,hv.ln,(hv.tr ⟨1,13,a,k.r.get b⟩).lo,hv.gn,hv.gr⟩
  unfold world_machine_does
  simp only [inp hp,of1,in0,ix0,set0,Option.bind_some,cond_true,cond_false,show ((13:Int)==8)=false from rfl,show ((13:Int)==9)=false from rfl,show ((13:Int)==10)=false from rfl,show ((13:Int)==11)=false from rfl,show ((13:Int)==12)=false from rfl,show ((13:Int)==13)=true from rfl,in2 ha,in2 (n:=((8:Nat):Int)) hb,tell1 (h:=ht)]
  rfl
 ·-- send
  have ha:=arg_n (n:=(P.Pipes.length:Int)) rfl hA
  have hb:=arg_n (n:=8) rfl hB
  rw [←hv.pn] at ha
  have hq:=all_ix hv.pi ha
  by_cases h1:(ix k.pi a).Closed=true
  ·refine ⟨.halt 2 0 { k with pi:=k.pi.set a.toNat ⟨(ix k.pi a).Cap,(ix k.pi a).Items,(ix k.pi a).Closed,[],[]⟩,tr:=k.tr++[⟨1,22,a,0⟩] },⟨tr1 _ _,.inr (.inr rfl)⟩,fun Ste Now sl w q c2 c8 l p hp hn hc=>?_⟩
   exact does_talks (.inl rfl) hp ((talks14 _ _ _ _ _ _ _ _ _ _ _ _ k hp ht a b ha hb hq).trans (if_pos h1))
  ·by_cases h2:(((ix k.pi a).Items.length:Nat):Int)<(ix k.pi a).Cap
   ·refine ⟨.go { k with pi:=k.pi.set a.toNat ⟨(ix k.pi a).Cap,(ix k.pi a).Items++[k.r.get b],(ix k.pi a).Closed,[],[]⟩,tr:=k.tr++[⟨1,14,a,k.r.get b⟩] },⟨rfl,tr1 _ _,?_⟩,fun Ste Now sl w q c2 c8 l p hp hn hc=>?_⟩
    ·exact ⟨hv.pc,hv.ce,by rw [List.length_set];exact hv.pn,all_set hv.pi ⟨rfl,rfl,hq.c,by simp;omega⟩,hv.ln,(hv.tr ⟨1,14,a,k.r.get b⟩).lo,hv.gn,hv.gr⟩
    ·exact does_talks (.inl rfl) hp ((talks14 _ _ _ _ _ _ _ _ _ _ _ _ k hp ht a b ha hb hq).trans ((if_neg h1).trans (if_pos h2)))
   ·refine ⟨.halt 0 1 { k with pi:=k.pi.set a.toNat ⟨(ix k.pi a).Cap,(ix k.pi a).Items,(ix k.pi a).Closed,[⟨1,0,k.r.get b⟩],[]⟩ },⟨tr0 _,.inl ⟨rfl,rfl⟩⟩,fun Ste Now sl w q c2 c8 l p hp hn hc=>?_⟩
    exact does_talks (.inl rfl) hp ((talks14 _ _ _ _ _ _ _ _ _ _ _ _ k hp ht a b ha hb hq).trans ((if_neg h1).trans (if_neg h2)))
 ·-- get
  have ha:=arg_n (n:=8) rfl hA
  have hb:=arg_n (n:=(P.Pipes.length:Int)) rfl hB
  rw [←hv.pn] at hb
  have hq:=all_ix hv.pi hb
  cases hit:(ix k.pi b).Items with
  | cons x rs =>
   refine ⟨.go { k with r:=(k.r.set a x).set 7 1,pi:=k.pi.set b.toNat ⟨(ix k.pi b).Cap,rs,(ix k.pi b).Closed,[],[]⟩,tr:=k.tr++[⟨1,15,b,x⟩] },⟨rfl,tr1 _ _,?_⟩,fun Ste Now sl w q c2 c8 l p hp hn hc=>?_⟩
   ·exact ⟨hv.pc,hv.ce,by rw [List.length_set];exact hv.pn,all_set hv.pi ⟨rfl,rfl,hq.c,by have:=hq.n;rw [hit] at this;simp at this ⊢;omega⟩,hv.ln,(hv.tr ⟨1,15,b,x⟩).lo,hv.gn,hv.gr⟩
   ·exact does_talks (.inr (.inl rfl)) hp ((talks15 _ _ _ _ _ _ _ _ _ _ _ _ k hp ht a b ha hb hq).trans (by rw [hit]))
  | nil =>
   by_cases h1:(ix k.pi b).Closed=true
   ·refine ⟨.go { k with r:=(k.r.set a 0).set 7 0,pi:=k.pi.set b.toNat ⟨(ix k.pi b).Cap,[],(ix k.pi b).Closed,[],[]⟩,tr:=k.tr++[⟨1,15,b,0⟩] },⟨rfl,tr1 _ _,?_⟩,fun Ste Now sl w q c2 c8 l p hp hn hc=>?_⟩
    ·exact ⟨hv.pc,hv.ce,by rw [List.length_set];exact hv.pn,all_set hv.pi ⟨rfl,rfl,hq.c,hq.c.1⟩,hv.ln,(hv.tr ⟨1,15,b,0⟩).lo,hv.gn,hv.gr⟩
    ·exact does_talks (.inr (.inl rfl)) hp ((talks15 _ _ _ _ _ _ _ _ _ _ _ _ k hp ht a b ha hb hq).trans (by rw [hit];exact if_pos h1))
   ·refine ⟨.halt 0 1 { k with pi:=k.pi.set b.toNat ⟨(ix k.pi b).Cap,[],(ix k.pi b).Closed,[],[⟨1,0,0⟩]⟩ },⟨tr0 _,.inl ⟨rfl,rfl⟩⟩,fun Ste Now sl w q c2 c8 l p hp hn hc=>?_⟩
    exact does_talks (.inr (.inl rfl)) hp ((talks15 _ _ _ _ _ _ _ _ _ _ _ _ k hp ht a b ha hb hq).trans (by rw [hit];exact if_neg h1))
 ·-- shut
  have ha:=arg_n (n:=(P.Pipes.length:Int)) rfl hA
  rw [←hv.pn] at ha
  have hq:=all_ix hv.pi ha
  by_cases h1:(ix k.pi a).Closed=true
  ·refine ⟨.halt 2 0 { k with pi:=k.pi.set a.toNat ⟨(ix k.pi a).Cap,(ix k.pi a).Items,(ix k.pi a).Closed,[],[]⟩,tr:=k.tr++[⟨1,22,a,0⟩] },⟨tr1 _ _,.inr (.inr rfl)⟩,fun Ste Now sl w q c2 c8 l p hp hn hc=>?_⟩
   exact does_talks (.inr (.inr rfl)) hp ((talks16 _ _ _ _ _ _ _ _ _ _ _ _ k hp ht a b ha hq).trans (if_pos h1))
  ·refine ⟨.go { k with pi:=k.pi.set a.toNat ⟨(ix k.pi a).Cap,(ix k.pi a).Items,true,[],[]⟩,tr:=k.tr++[⟨1,16,a,0⟩] },⟨rfl,tr1 _ _,?_⟩,fun Ste Now sl w q c2 c8 l p hp hn hc=>?_⟩
   ·exact ⟨hv.pc,hv.ce,by rw [List.length_set];exact hv.pn,all_set hv.pi ⟨rfl,rfl,hq.c,hq.n⟩,hv.ln,(hv.tr ⟨1,16,a,0⟩).lo,hv.gn,hv.gr⟩
   ·exact does_talks (.inr (.inr rfl)) hp ((talks16 _ _ _ _ _ _ _ _ _ _ _ _ k hp ht a b ha hq).trans (if_neg h1))
 ·-- enter
  have ha:=arg_n (n:=P.Locks) rfl hA
  rw [←hv.ln] at ha
  obtain ⟨hq,hr⟩:=hl ha
  by_cases h1:(ix k.lo a).Writer=true∨((b==1)=true∧0<(ix k.lo a).Readers)
  ·refine ⟨.halt 0 1 { k with lo:=k.lo.set a.toNat ⟨(ix k.lo a).Readers,(ix k.lo a).Writer,[⟨1,b==1,0⟩]⟩ },⟨tr0 _,.inl ⟨rfl,rfl⟩⟩,fun Ste Now sl w q c2 c8 l p hp hn hc=>?_⟩
   exact does_holds (.inl rfl) hp ((holds17 _ _ _ _ _ _ _ _ _ _ _ _ k hp ht a b ha hq).trans (if_pos h1))
  ·refine ⟨.go { k with lo:=k.lo.set a.toNat ⟨if (b==1)=true then (ix k.lo a).Readers else (ix k.lo a).Readers+1,b==1,[]⟩,tr:=k.tr++[⟨1,17,a,b⟩] },⟨rfl,tr1 _ _,?_⟩,fun Ste Now sl w q c2 c8 l p hp hn hc=>?_⟩
   ·refine ⟨hv.pc,hv.ce,hv.pn,hv.pi,by rw [List.length_set];exact hv.ln,all_set (hv.tr ⟨1,17,a,b⟩).lo ?_,hv.gn,hv.gr⟩
    have h0:=hq.r
    have h2:((k.tr++[(⟨1,17,a,b⟩:GEvent)]).length:Int)=k.tr.length+1:=by simp
    cases hb:b==1 with
    | true =>
     refine ⟨⟨rfl,?_,fun _=>?_⟩,?_⟩
     ·exact h0
     ·simp [hb] at h1;show (ix k.lo a).Readers=0;omega
     ·show (ix k.lo a).Readers≤_;rw [h2];omega
    | false =>
     refine ⟨⟨rfl,?_,fun h=>nomatch h⟩,?_⟩
     ·show 0≤(ix k.lo a).Readers+1∧(ix k.lo a).Readers+1≤6000;omega
     ·show (ix k.lo a).Readers+1≤_;rw [h2];omega
   ·exact does_holds (.inl rfl) hp ((holds17 _ _ _ _ _ _ _ _ _ _ _ _ k hp ht a b ha hq).trans (if_neg h1))
 ·-- leave
  have ha:=arg_n (n:=P.Locks) rfl hA
  rw [←hv.ln] at ha
  obtain ⟨hq,hr⟩:=hl ha
  by_cases h1:((b==1)=true∧(ix k.lo a).Writer=false)∨((b==1)=false∧(ix k.lo a).Readers=0)
  ·refine ⟨.halt 2 0 { k with lo:=k.lo.set a.toNat ⟨(ix k.lo a).Readers,(ix k.lo a).Writer,[]⟩,tr:=k.tr++[⟨1,22,a,0⟩] },⟨tr1 _ _,.inr (.inr rfl)⟩,fun Ste Now sl w q c2 c8 l p hp hn hc=>?_⟩
   exact does_holds (.inr (.inl rfl)) hp ((holds18 _ _ _ _ _ _ _ _ _ _ _ _ k hp ht a b ha hq).trans (if_pos h1))
  ·refine ⟨.go { k with lo:=k.lo.set a.toNat ⟨if (b==1)=true then (ix k.lo a).Readers else (ix k.lo a).Readers-1,if (b==1)=true then false else (ix k.lo a).Writer,[]⟩,tr:=k.tr++[⟨1,18,a,b⟩] },⟨rfl,tr1 _ _,?_⟩,fun Ste Now sl w q c2 c8 l p hp hn hc=>?_⟩
   ·refine ⟨hv.pc,hv.ce,hv.pn,hv.pi,by rw [List.length_set];exact hv.ln,all_set (hv.tr ⟨1,18,a,b⟩).lo ?_,hv.gn,hv.gr⟩
    have h0:=hq.r
    have h2:((k.tr++[(⟨1,18,a,b⟩:GEvent)]).length:Int)=k.tr.length+1:=by simp
    cases hb:b==1 with
    | true =>
     refine ⟨⟨rfl,h0,fun h=>nomatch h⟩,?_⟩
     show (ix k.lo a).Readers≤_;rw [h2];omega
    | false =>
     have h3:(ix k.lo a).Readers≠0:=fun h=>h1 (.inr ⟨hb,h⟩)
     refine ⟨⟨rfl,?_,fun h=>absurd (hq.x h) h3⟩,?_⟩
     ·show 0≤(ix k.lo a).Readers-1∧(ix k.lo a).Readers-1≤6000;omega
     ·show (ix k.lo a).Readers-1≤_;rw [h2];omega
   ·exact does_holds (.inr (.inl rfl)) hp ((holds18 _ _ _ _ _ _ _ _ _ _ _ _ k hp ht a b ha hq).trans (if_neg h1))
 ·-- add
  have ha:=arg_n (n:=P.Groups) rfl hA
  have hb:=arg_n (n:=8) rfl hB
  rw [←hv.gn] at ha
  have hq:=all_ix hv.gr ha
  cases h1:addM (ix k.gr a) (k.r.get b) with
  | none =>
   refine ⟨.halt 2 0 { k with tr:=k.tr++[⟨1,22,a,0⟩] },⟨tr1 _ _,.inr (.inr rfl)⟩,fun Ste Now sl w q c2 c8 l p hp hn hc=>?_⟩
   exact does_holds (.inr (.inr (.inl rfl))) hp ((holds19 _ _ _ _ _ _ _ _ _ _ _ _ k hp ht a b ha hb hq).trans (by rw [h1]))
  | some g =>
   refine ⟨.go { k with gr:=k.gr.set a.toNat g,tr:=k.tr++[⟨1,19,a,k.r.get b⟩] },⟨rfl,tr1 _ _,?_⟩,fun Ste Now sl w q c2 c8 l p hp hn hc=>?_⟩
   ·refine ⟨hv.pc,hv.ce,hv.pn,hv.pi,hv.ln,(hv.tr ⟨1,19,a,k.r.get b⟩).lo,by rw [List.length_set];exact hv.gn,all_set hv.gr ?_⟩
    unfold addM at h1
    split at h1
    ·cases h1
    ·cases h1
     exact ⟨rfl,by simp only;omega⟩
   ·exact does_holds (.inr (.inr (.inl rfl))) hp ((holds19 _ _ _ _ _ _ _ _ _ _ _ _ k hp ht a b ha hb hq).trans (by rw [h1]))
 ·-- await
  have ha:=arg_n (n:=P.Groups) rfl hA
  rw [←hv.gn] at ha
  have hq:=all_ix hv.gr ha
  by_cases h1:(ix k.gr a).Count=0
  ·refine ⟨.go { k with gr:=k.gr.set a.toNat ⟨(ix k.gr a).Count,[]⟩,tr:=k.tr++[⟨1,20,a,0⟩] },⟨rfl,tr1 _ _,?_⟩,fun Ste Now sl w q c2 c8 l p hp hn hc=>?_⟩
   ·exact ⟨hv.pc,hv.ce,hv.pn,hv.pi,hv.ln,(hv.tr ⟨1,20,a,0⟩).lo,by rw [List.length_set];exact hv.gn,all_set hv.gr ⟨rfl,hq.c⟩⟩
   ·exact does_holds (.inr (.inr (.inr rfl))) hp ((holds20 _ _ _ _ _ _ _ _ _ _ _ _ k hp ht a b ha hq).trans (if_pos h1))
  ·refine ⟨.halt 0 1 { k with gr:=k.gr.set a.toNat ⟨(ix k.gr a).Count,[1]⟩ },⟨tr0 _,.inl ⟨rfl,rfl⟩⟩,fun Ste Now sl w q c2 c8 l p hp hn hc=>?_⟩
   exact does_holds (.inr (.inr (.inr rfl))) hp ((holds20 _ _ _ _ _ _ _ _ _ _ _ _ k hp ht a b ha hq).trans (if_neg h1))
 ·-- sleep
  have ha:=arg_n (n:=8) rfl hA
  have J:∀ {Ste Now sl w q:Int} {c2 c8:List Int} {l:List processor} {p:Nat} (hp:p<l.length),world_machine_does ((p:Nat):Int) 1 ⟨21,a,b⟩ P.Code P.Cells P.Pipes P.Locks P.Groups 0 Ste Now sl k.tr c2 k.ce [⟨k.pc,k.r,0,w,q⟩] l c8 k.pi k.lo k.gr=world_machine_does_j3 ((p:Nat):Int) 1 ⟨21,a,b⟩ P.Code P.Cells P.Pipes P.Locks P.Groups 0 Ste Now sl k.tr c2 k.ce [⟨k.pc,k.r,0,w,q⟩] l c8 k.pi k.lo k.gr 0 false:=by
   intro Ste Now sl w q c2 c8 l p hp
   unfold world_machine_does
   simp only [inp hp,of1,in0,Option.bind_some,cond_true,cond_false,Int.reduceBEq]
   unfold world_machine_does_j4
   simp only [inp hp,in0,cond_true,cond_false,Int.reduceBEq]
  by_cases h1:1000000000<k.r.get a
  ·refine ⟨.halt 2 0 { k with tr:=k.tr++[⟨1,22,0,0⟩] },⟨tr1 _ _,.inr (.inr rfl)⟩,fun Ste Now sl w q c2 c8 l p hp hn hc=>(J hp).trans ?_⟩
   unfold world_machine_does_j3
   simp only [inp hp,in0,ix0,cond_true,cond_false,Int.reduceBEq,in2 (n:=((8:Nat):Int)) ha]
   show (bif decide ((1000000000:Int)<k.r.get a) then _ else bif decide (k.r.get a<1) then _ else _)=_
   rw [decide_eq_true h1,cond_true,pan1 (h:=ht)]
   rfl
  ·by_cases h2:k.r.get a<1
   ·refine ⟨.yld { k with pc:=pc1 k },⟨tr0 _,⟨pc_next hv hpc hP,hv.ce,hv.pn,hv.pi,hv.ln,hv.lo,hv.gn,hv.gr⟩⟩,fun Ste Now sl w q c2 c8 l p hp hn hc=>(J hp).trans ?_⟩
    unfold world_machine_does_j3
    simp only [inp hp,in0,ix0,cond_true,cond_false,Int.reduceBEq,in2 (n:=((8:Nat):Int)) ha]
    show (bif decide ((1000000000:Int)<k.r.get a) then _ else bif decide (k.r.get a<1) then _ else _)=_
    rw [decide_eq_false h1,cond_false,decide_eq_true h2,cond_true,yield1 (hp:=hp) (hn:=hn) (hc:=hc)]
    simp only [Option.bind_some,List.length_set,inp hp,in0,cond_true]
    rfl
   ·refine ⟨.slp { k with pc:=pc1 k } (k.r.get a),⟨tr0 _,⟨pc_next hv hpc hP,hv.ce,hv.pn,hv.pi,hv.ln,hv.lo,hv.gn,hv.gr⟩⟩,fun Ste Now sl w q c2 c8 l p hp hn hc=>(J hp).trans ?_⟩
    unfold world_machine_does_j3
    simp only [inp hp,in0,ix0,cond_true,cond_false,Int.reduceBEq,in2 (n:=((8:Nat):Int)) ha]
    show (bif decide ((1000000000:Int)<k.r.get a) then _ else bif decide (k.r.get a<1) then _ else _)=_
    rw [decide_eq_false h1,cond_false,decide_eq_false h2,cond_false]
    rfl
 ·-- panic
  refine ⟨.halt 2 0 { k with tr:=k.tr++[⟨1,22,0,0⟩] },⟨tr1 _ _,.inr (.inr rfl)⟩,fun Ste Now sl w q c2 c8 l p hp hn hc=>?_⟩
  unfold world_machine_does
  simp only [inp hp,of1,in0,Option.bind_some,cond_true,cond_false,Int.reduceBEq]
  unfold world_machine_does_j4
  simp only [inp hp,in0,cond_true,cond_false,Int.reduceBEq]
  unfold world_machine_does_j3
  simp only [inp hp,in0,cond_true,cond_false,Int.reduceBEq,pan1 (h:=ht),Option.bind_some]
  rfl
end
end Go.Proofs.YthcdpjkgdcpkmaaGreatDoor
end

section
namespace Go.Proofs.YthcdpjkgdcpkmaaGreatDoor
open Go Go.Sx
set_option linter.unusedVariables false
set_option linter.unusedSimpArgs false
set_option maxRecDepth 100000
def stepR (C:List GInstr) (Ce:Int) (Pi:List Int) (Lo Gr Ste Now sl w q:Int) (c8:List Int) (l:List processor) (p:Nat):Out→Option ((List GInstr)×Int×List Int×Int×Int×Int×Int×Int×Int×List GEvent×List Int×List Int×List task×List processor×List Pipe×List Lock×List Group)
 | .go k=>some (C,Ce,Pi,Lo,Gr,0,Ste,Now,sl,k.tr,c8,k.ce,[⟨k.pc,k.r,0,w,q⟩],l,k.pi,k.lo,k.gr)
 | .yld k=>some (C,Ce,Pi,Lo,Gr,0,Ste,Now,sl,k.tr,c8++[1],k.ce,[⟨k.pc,k.r,0,w,q⟩],l.set p ⟨0,0,[]⟩,k.pi,k.lo,k.gr)
 | .slp k n=>some (C,Ce,Pi,Lo,Gr,0,Ste,Now,i64.wrap (sl+1),k.tr,c8,k.ce,[⟨k.pc,k.r,2,i64.wrap (Now+n),i64.wrap (sl+1)⟩],l.set p ⟨0,0,[]⟩,k.pi,k.lo,k.gr)
 | .halt st ts k=>some (C,Ce,Pi,Lo,Gr,st,Ste,Now,sl,k.tr,c8,k.ce,[⟨k.pc,k.r,ts,w,q⟩],if ts=0 then l else l.set p ⟨0,0,[]⟩,k.pi,k.lo,k.gr)
def StepTo (P:GProgram) (k:Core) (o:Out):Prop:=∀ (Ste Now sl w q:Int) (c2 c8:List Int) (l:List processor) (p:Nat),p<l.length→ix l ((p:Nat):Int)=⟨1,0,[]⟩→c8.length≤1 →
 world_machine_step_1_j2 (p:Int) k.tr c2 k.ce [⟨k.pc,k.r,0,w,q⟩] k.pi k.lo k.gr false P.Code P.Cells P.Pipes P.Locks P.Groups 0 Ste Now sl l c8=stepR P.Code P.Cells P.Pipes P.Locks P.Groups Ste Now sl w q c8 l p o
def JTo (P:GProgram) (k:Core) (i:GInstr) (o:Out):Prop:=∀ (Ste Now sl w q:Int) (c2 c8:List Int) (l:List processor) (p:Nat),p<l.length→ix l ((p:Nat):Int)=⟨1,0,[]⟩→c8.length≤1 →
 world_machine_step_1_j1 (p:Int) k.tr c2 k.ce [⟨k.pc,k.r,0,w,q⟩] k.pi k.lo k.gr P.Code P.Cells P.Pipes P.Locks P.Groups 0 Ste Now sl l c8 0 i=stepR P.Code P.Cells P.Pipes P.Locks P.Groups Ste Now sl w q c8 l p o
def nextO:Out→Out
 | .go k=>.go { k with pc:=pc1 k }
 | o=>o
theorem j_of {P:GProgram} {k:Core} {i:GInstr} {o:Out} (h7:7<i.Op) (h:DoesTo P k i o):JTo P k i (nextO o):=by
 intro Ste Now sl w q c2 c8 l p hp hn hc;have hd:=h Ste Now sl w q c2 c8 l p hp hn hc;unfold world_machine_step_1_j1;have hL:code_Local i.Op=some false:=by
  unfold code_Local;rw [decide_eq_false (show ¬ i.Op≤7 by omega),Bool.and_false]
 have hs:ix (l.set p ⟨0,0,[]⟩) (p:Int)=⟨0,0,[]⟩:=ix_set l hp _;rw [inp hp,hn];simp only [cond_true,in0,hL,Option.bind_some,cond_false,hd];cases o with
 | go k' =>
  show Option.bind (some _) _=_;simp only [Option.bind_some,inp hp,in0,cond_true,ix0,set0];rfl
 | yld k' =>
  show Option.bind (some _) _=_;simp only [Option.bind_some,List.length_set,inp hp,in0,cond_true,cond_false,ix0,hs,show ((0:Int)==1)=false from rfl,Bool.false_and];rfl
 | slp k' n =>
  show Option.bind (some _) _=_;simp only [Option.bind_some,inp hp,in0,cond_true,cond_false,ix0,hn,show ((1:Int)==1)=true from rfl,show ((2:Int) != 0)=true from rfl,Bool.and_self,Int.toNat_natCast];rfl
 | halt st ts k' =>
  show Option.bind (some _) _=_;simp only [Option.bind_some,inp hp,in0,cond_true,cond_false,ix0,hn,show ((1:Int)==1)=true from rfl,Bool.true_and,Int.toNat_natCast];show _=some _;by_cases ht:ts=0
  ·rw [ht];rfl
  ·rw [show (ts != 0)=true from by simpa using ht,if_neg ht];rfl
section
variable {P:GProgram} {k:Core} (hv:Val P k) (ht:k.tr.length≤5000) (hP:P.Code.length≤1000)
include hv ht hP
omit ht in
theorem nextO_ok (hpc:k.pc<(P.Code.length:Int)) {o:Out} (h:VD P k o):VO P k (nextO o):=by
 cases o with
 | go k' =>
  obtain ⟨h1,h2,h3⟩:=h;have:=pc_next hv hpc hP;exact ⟨h2,⟨by show 0≤pc1 k'∧pc1 k'≤_;unfold pc1;rw [h1];exact this,h3.ce,h3.pn,h3.pi,h3.ln,h3.lo,h3.gn,h3.gr⟩⟩
 | yld k'=>exact h
 | slp k' n=>exact h
 | halt st ts k'=>exact h
omit hv hP in
theorem end_of (a b:Int):DoesTo P k ⟨9,a,b⟩ (.halt 1 3 { k with tr:=k.tr++[⟨1,9,0,0⟩] }):=by
 intro Ste Now sl w q c2 c8 l p hp hn hc;unfold world_machine_does;simp only [inp hp,of1,in0,ix0,set0,Option.bind_some,cond_true,cond_false,show ((9:Int)==8)=false from rfl,show ((9:Int)==9)=true from rfl,tell1 (h:=ht),show ((1:Int)==1)=true from rfl];rfl
omit ht in
theorem local_of (hpc:k.pc<(P.Code.length:Int)) (i:GInstr) (hi:OkI P i) (h7:i.Op≤7):∃ o,VO P k o∧JTo P k i o:=by
 obtain ⟨op,a,b⟩:=i;obtain ⟨h1,hA,hB⟩:=hi;simp only at h1 hA hB h7;have hV:∀ (pc:Int) (r:VArr 8),0≤pc∧pc≤(P.Code.length:Int)→VO P k (.go { k with pc:=pc,r:=r }):=fun pc r h=>⟨tr0 _,⟨h,hv.ce,hv.pn,hv.pi,hv.ln,hv.lo,hv.gn,hv.gr⟩⟩;have hn:=pc_next hv hpc hP;have hJ:∀ (pc:Int) (r:VArr 8),(∀ w q:Int,code_Do ⟨op,a,b⟩ k.pc 0 [⟨k.pc,k.r,0,w,q⟩]=some (pc,[⟨k.pc,r,0,w,q⟩]))→JTo P k ⟨op,a,b⟩ (.go { k with pc:=pc,r:=r }):=by
  intro pc r h Ste Now sl w q c2 c8 l p hp hn hc;unfold world_machine_step_1_j1;have hL:code_Local op=some true:=by
   unfold code_Local;rw [decide_eq_true h1.1,decide_eq_true h7];rfl
  rw [inp hp,hn];simp only [cond_true,in0,hL,Option.bind_some,ix0,h];rfl
 have hc:op=1∨op=2∨op=3∨op=4∨op=5∨op=6∨op=7:=by omega
 rcases hc with rfl|rfl|rfl|rfl|rfl|rfl|rfl
 ·have ha:=arg_n (n:=8) rfl hA;refine ⟨_,hV (pc1 k) (k.r.set a b) hn,hJ _ _ fun w q=>?_⟩;unfold code_Do;simp only [in0,ix0,set0,cond_true,cond_false,Int.reduceBEq,in2 (n:=((8:Nat):Int)) ha];rfl
 ·have ha:=arg_n (n:=8) rfl hA;have hb:=arg_n (n:=8) rfl hB;refine ⟨_,hV (pc1 k) (k.r.set a (k.r.get b)) hn,hJ _ _ fun w q=>?_⟩;unfold code_Do;simp only [in0,ix0,set0,cond_true,cond_false,Int.reduceBEq,in2 (n:=((8:Nat):Int)) ha,in2 (n:=((8:Nat):Int)) hb];rfl
 ·have ha:=arg_n (n:=8) rfl hA;have hb:=arg_n (n:=8) rfl hB;refine ⟨_,hV (pc1 k) (k.r.set a (i64.wrap (k.r.get a+k.r.get b))) hn,hJ _ _ fun w q=>?_⟩;unfold code_Do;simp only [in0,ix0,set0,cond_true,cond_false,Int.reduceBEq,in2 (n:=((8:Nat):Int)) ha,in2 (n:=((8:Nat):Int)) hb];rfl
 ·have ha:=arg_n (n:=8) rfl hA;have hb:=arg_n (n:=8) rfl hB;refine ⟨_,hV (pc1 k) (k.r.set a (i64.wrap (k.r.get a-k.r.get b))) hn,hJ _ _ fun w q=>?_⟩;unfold code_Do;simp only [in0,ix0,set0,cond_true,cond_false,Int.reduceBEq,in2 (n:=((8:Nat):Int)) ha,in2 (n:=((8:Nat):Int)) hb];rfl
 ·have ha:=arg_n (n:=8) rfl hA;have hb:=arg_n (n:=8) rfl hB;refine ⟨_,hV (pc1 k) (k.r.set a (mbGet [(true,1)] (decide (k.r.get a<k.r.get b)))) hn,hJ _ _ fun w q=>?_⟩;unfold code_Do;simp only [in0,set0,cond_true,cond_false,Int.reduceBEq,in2 (n:=((8:Nat):Int)) ha,in2 (n:=((8:Nat):Int)) hb];rfl
 ·have ha:=arg_c hA;refine ⟨_,hV a k.r ⟨ha.1,by omega⟩,hJ _ _ fun w q=>?_⟩;unfold code_Do;simp only [in0,ix0,set0,cond_true,cond_false,Int.reduceBEq]
 ·have ha:=arg_n (n:=8) rfl hA;have hb:=arg_c hB;by_cases h0:k.r.get a=0
  ·refine ⟨_,hV b k.r ⟨hb.1,by omega⟩,hJ _ _ fun w q=>?_⟩;unfold code_Do;simp only [in0,ix0,set0,cond_true,cond_false,Int.reduceBEq,in2 (n:=((8:Nat):Int)) ha,h0]
  ·refine ⟨_,hV (pc1 k) k.r hn,hJ _ _ fun w q=>?_⟩;unfold code_Do;simp only [in0,ix0,set0,cond_true,cond_false,Int.reduceBEq,in2 (n:=((8:Nat):Int)) ha,show (k.r.get a==0)=false from by simpa using h0];rfl
omit ht hP in
theorem step_at (hpc:k.pc<(P.Code.length:Int)) {o:Out} (h2:JTo P k (ix P.Code k.pc) o):StepTo P k o:=by
 intro Ste Now sl w q c2 c8 l p hp hn hc;unfold world_machine_step_1_j2;rw [inp hp,hn];simp only [cond_true,cond_false,of1,Option.bind_some,in0];show (bif decide (k.pc<(P.Code.length:Int)) then bif (decide ((0:Int)≤k.pc))&&(decide (k.pc<(P.Code.length:Int))) then _ else _ else _)=_;rw [decide_eq_true hpc,decide_eq_true hv.pc.1];exact h2 Ste Now sl w q c2 c8 l p hp hn hc
theorem step_of (hO:Ok P) (hG:∀ i:Int,0≤i→i<(P.Code.length:Int)→(ix P.Code i).Op≠11):∃ o,VO P k o∧StepTo P k o:=by
 by_cases hpc:k.pc<(P.Code.length:Int)
 ·have hi:=hO.at hv.pc.1 hpc;have hj:∃ o,VO P k o∧JTo P k (ix P.Code k.pc) o:=by
   by_cases h7:(ix P.Code k.pc).Op≤7
   ·exact local_of hv hP hpc _ hi h7
   ·obtain ⟨o,h1,h2⟩:=does_of hv ht hpc hP _ hi (by omega) (hG _ hv.pc.1 hpc);exact ⟨_,nextO_ok hv hP hpc h1,j_of (by omega) h2⟩
  obtain ⟨o,h1,h2⟩:=hj;exact ⟨o,h1,step_at hv hpc h2⟩
 ·refine ⟨.halt 1 3 { k with tr:=k.tr++[⟨1,9,0,0⟩] },⟨tr1 _ _,.inr (.inl rfl)⟩,fun Ste Now sl w q c2 c8 l p hp hn hc=>?_⟩;unfold world_machine_step_1_j2;rw [inp hp,hn];simp only [cond_true,cond_false,of1,Option.bind_some,in0];show (bif decide (k.pc<(P.Code.length:Int)) then _ else _)=_;rw [decide_eq_false hpc,cond_false];exact j_of (show (7:Int)<9 by decide) (end_of ht 0 0) Ste Now sl w q c2 c8 l p hp hn hc
end
end Go.Proofs.YthcdpjkgdcpkmaaGreatDoor
end

section
namespace Go.Proofs.YthcdpjkgdcpkmaaGreatDoor
open Go Go.Sx
set_option linter.unusedVariables false
set_option linter.unusedSimpArgs false
set_option maxRecDepth 100000
theorem cmp_same (x:Int):cmp_Compare_int x x=some 0:=by
 unfold cmp_Compare_int;simp [cmp_isNaN_int]
theorem or0:cmp_Or_int [0,0]=some 0:=by
 unfold cmp_Or_int;rw [loopO_inl (s':=1) rfl,loopO_inl (s':=2) rfl];exact loopO_inr rfl
theorem cmp11 (x:task):world_machine_tick_1_1 1 1 [⟨x⟩]=some 0:=by
 have h:world_machine_of [⟨x⟩] 1=some x:=rfl;unfold world_machine_tick_1_1;simp only [h,Option.bind_some,cmp_same,or0]
theorem sort0 (ts:List (PT task)):slices_SortFunc_int [] ts=some []:=by
 have hn:(([]:List Int).foldl max 0).toNat=0:=rfl;have no:∀ {a:Int} {q:Prop},1≤a∧a≤((0:Nat):Int)→q:=fun h=>by
  have:=h.2;have:=h.1;omega
 have hO:Go.Sort.SWO (Go.Proofs.ltOf fun (a b:Rg 0)=>(fun a b:Int=>(world_machine_tick_1_1 a b ts).getD 0) a.1 b.1) :=
  ⟨fun a=>no a.2,fun a _ _ _ _=>no a.2,fun a _ _ _ _=>no a.2⟩
 unfold slices_SortFunc_int;rw [hn,if_pos ⟨fun a b h1 _=>no h1,hO,fun x hx=>by simp at hx,by simp⟩,sortC_nil]
theorem sort1 (x:task):slices_SortFunc_int [1] [⟨x⟩]=some [1]:=by
 have hn:(([1]:List Int).foldl max 0).toNat=1:=rfl;have e:∀ a:Int,1≤a∧a≤((1:Nat):Int)→a=1:=fun a h=>by have:=h.2;push_cast at this;omega
 have hO:Go.Sort.SWO (Go.Proofs.ltOf fun (a b:Rg 1)=>(fun a b:Int=>(world_machine_tick_1_1 a b [⟨x⟩]).getD 0) a.1 b.1):=by
  have hz:∀ a b:Rg 1,Go.Proofs.ltOf (fun (a b:Rg 1)=>(fun a b:Int=>(world_machine_tick_1_1 a b [⟨x⟩]).getD 0) a.1 b.1) a b=false:=fun a b=>by
   have hh:(world_machine_tick_1_1 a.1 b.1 [⟨x⟩]).getD 0=0:=by rw [e a.1 a.2,e b.1 b.2,cmp11];rfl
   exact decide_eq_false (by show ¬ (world_machine_tick_1_1 a.1 b.1 [⟨x⟩]).getD 0<0;rw [hh];decide)
  exact ⟨fun a=>hz a a,fun a b c h _=>(by rw [hz] at h;cases h),fun a b c _ _=>hz a c⟩
 have hr:∀ y∈([1]:List Int),1≤y∧y≤((1:Nat):Int):=fun y hy=>by simp at hy;subst hy;decide
 unfold slices_SortFunc_int;rw [hn,if_pos ⟨fun a b h1 h2=>by rw [e a h1,e b h2,cmp11];rfl,hO,hr,by simp⟩];congr 1;exact List.perm_singleton.1 (sortC_perm hr hO).1
section
variable (C:List GInstr) (Ce:Int) (Pi:List Int) (Lo Gr St Ste Now sl:Int) (c1:List GEvent) (c2 c3:List Int) (c9:List Pipe) (c10:List Lock) (c11:List Group)
theorem tick_not (t:task) (h:(t.state==2&&decide (t.when≤i64.wrap (Now+1)))=false) (c6:List processor) {c8:List Int} (hc:c8=[]∨c8=[1]):world_machine_tick_1 C Ce Pi Lo Gr c1 St Ste Now c2 sl c3 [t] c6 c8 c9 c10 c11 =
  some (C,Ce,Pi,Lo,Gr,St,Ste,i64.wrap (Now+1),sl,c8,[t]):=by
 unfold world_machine_tick_1;rw [loopO_inl (s':=(1,[t],[])) (by
  show (bif (t.state==2&&decide (t.when≤i64.wrap (Now+1))) then _ else _)=_;rw [h];rfl)]
 refine loopO_inr ?_;show Option.map Sum.inr ((slices_SortFunc_int [] ([t].map PT.mk)).bind _)=_;rw [sort0];rcases hc with rfl|rfl<;>rfl
theorem tick_due (pc:Int) (r:VArr 8) (w q:Int) (h:w≤i64.wrap (Now+1)) (c6:List processor):world_machine_tick_1 C Ce Pi Lo Gr c1 St Ste Now c2 sl c3 [⟨pc,r,2,w,q⟩] c6 [] c9 c10 c11 =
  some (C,Ce,Pi,Lo,Gr,St,Ste,i64.wrap (Now+1),sl,[1],[⟨pc,r,0,w,q⟩]):=by
 unfold world_machine_tick_1;rw [loopO_inl (s':=(1,[⟨pc,r,0,w,q⟩],[1])) (by
  show (bif decide (w≤i64.wrap (Now+1)) then _ else _)=_;rw [decide_eq_true h];rfl)]
 refine loopO_inr ?_;show Option.map Sum.inr ((slices_SortFunc_int [1] [⟨⟨pc,r,0,w,q⟩⟩]).bind _)=_;rw [sort1];rfl
theorem stuck_one (t:task) (c6:List processor) (c8:List Int):world_machine_stuck_1 C Ce Pi Lo Gr St Ste Now sl c1 c2 c3 [t] c6 c8 c9 c10 c11=some (!(t.state==0||t.state==2)):=by
 have:slices_IndexFunc_task_1 [t]=some (if (t.state==0||t.state==2)=true then 0 else -1):=by
  unfold slices_IndexFunc_task_1;cases h:(t.state==0||t.state==2) with
  | true =>
   refine loopO_inr ?_;show (bif (t.state==0||t.state==2) then Option.map Sum.inr (some 0) else some (Sum.inl (i64.wrap (0+1))))=_;rw [h];rfl
  | false =>
   rw [loopO_inl (s':=1) (by
    show (bif (t.state==0||t.state==2) then Option.map Sum.inr (some 0) else some (Sum.inl (i64.wrap (0+1))))=_;rw [h];rfl)]
   exact loopO_inr rfl
 unfold world_machine_stuck_1 slices_ContainsFunc_task_1;rw [this];cases (t.state==0||t.state==2)<;>rfl
end
noncomputable section
abbrev PS:=Int×List GInstr×Int×List Int×Int×Int×Int×Int×Int×Int×List GEvent×List Int×List Int×List task×List processor×List Int×List Pipe×List Lock×(List Group)
variable (P:GProgram)
def cst (t:Nat) (St Ste Now sl:Int) (k:Core) (st w q:Int) (l:List processor) (c8:List Int):PS:=((t:Int),P.Code,P.Cells,P.Pipes,P.Locks,P.Groups,St,Ste,Now,sl,k.tr,[],k.ce,[⟨k.pc,k.r,st,w,q⟩],l,c8,k.pi,k.lo,k.gr)
def rep (N:Nat):List processor:=List.replicate N ⟨0,0,[]⟩
def Pl (N:Nat) (st:Int) (l:List processor) (c8:List Int):Prop :=
 (∃ j,j<N∧l=(rep N).set j ⟨1,0,[]⟩∧c8=[]∧st=0)∨(l=rep N∧c8=[1]∧st=0)∨(l=rep N∧c8=[]∧st=2)
def Out.core:Out→Core
 | .go k=>k
 | .yld k=>k
 | .slp k _=>k
 | .halt _ _ k=>k
def out (k:Core):Out:=@dite _ (∃ o,VO P k o∧StepTo P k o) (Classical.propDecidable _) (fun h=>Classical.choose h) (fun _=>.halt 0 1 k)
def nxt (k:Core):Core:=(out P k).core
theorem out_ok {k:Core} (h:∃ o,VO P k o∧StepTo P k o):VO P k (out P k)∧StepTo P k (out P k):=by
 unfold out;rw [dif_pos h];exact Classical.choose_spec h
theorem nxt_tr (k:Core):∃ e,(nxt P k).tr=k.tr++e∧e.length≤1:=by
 by_cases h:∃ o,VO P k o∧StepTo P k o
 ·have:=(out_ok P h).1;unfold nxt;cases ho:out P k with
  | go k'=>rw [ho] at this;exact this.1
  | yld k'=>rw [ho] at this;exact this.1
  | slp k' n=>rw [ho] at this;exact this.1
  | halt st ts k'=>rw [ho] at this;exact this.1
 ·unfold nxt out;rw [dif_neg h];exact tr0 _
theorem rep_set (N:Nat) (x:processor) (p:Nat):((rep N).set p x).set p ⟨0,0,[]⟩=rep N:=by
 rw [List.set_set];refine List.ext_getElem (by simp) fun i h1 h2=>?_
 rw [List.getElem_set];split
 ·simp [rep]
 ·rfl
theorem rep_ri (N:Nat):RI (rep N):=fun j hj=>by
 rw [ix_get hj];simp [rep]
theorem rep_ri1 (N i:Nat):RI ((rep N).set i ⟨1,0,[]⟩):=fun j hj=>by
 rw [ix_get hj,List.getElem_set]
 split
 ·exact ⟨rfl,rfl⟩
 ·simp [rep]
theorem rep_now {N p:Nat} (h:p<N):(ix (rep N) (p:Int)).now=0:=by
 rw [ix_get (by simpa [rep] using h)];simp [rep]
theorem rep_len (N:Nat):(rep N).length=N:=by simp [rep]
theorem wrapN {k:Nat} (h:k<100000):i64.wrap ((k:Int)+1)=((k+1:Nat):Int):=by
 rw [wrap_id (by omega) (by omega)];omega
variable {P} {script:List Int} {t:Nat} {Ste Now sl w q:Int} {k:Core} {l:List processor} {c8:List Int}
theorem j4 (ht:t<100000) (St st:Int):world_Play_j4 script (t:Int) [] P.Code P.Cells P.Pipes P.Locks P.Groups St Ste Now sl k.tr k.ce [⟨k.pc,k.r,st,w,q⟩] l c8 k.pi k.lo k.gr =
  some (.inl (cst P (t+1) (if St=0∧st≠0∧st≠2 then 3 else St) Ste Now sl k st w q l c8)):=by
 unfold world_Play_j4;by_cases h0:St=0
 ·subst h0;rw [show ((0:Int)==0)=true from rfl,cond_true,stuck_one,Option.bind_some];unfold world_Play_j3;by_cases h:st=0∨st=2
  ·rw [show ((st==0||st==2))=true from by simpa using h,if_neg (by omega)];show some (Sum.inl (i64.wrap ((t:Int)+1),_))=_;rw [wrapN ht];rfl
  ·rw [show ((st==0||st==2))=false from by simpa using h,if_pos (by omega)];show some (Sum.inl (i64.wrap ((t:Int)+1),_))=_;rw [wrapN ht];rfl
 ·rw [show (St==0)=false from by simpa using h0,cond_false,if_neg (by omega)];unfold world_Play_j3;show some (Sum.inl (i64.wrap ((t:Int)+1),_))=_;rw [wrapN ht];rfl
theorem l2_cond (ht:t<script.length):(decide ((t:Int)<(script.length:Int)))=true∧(decide ((0:Int)≤(t:Int)))=true:=by
 constructor
 ·simp;omega
 ·simp
theorem l2_step (ht:t<script.length) {p:Nat} (hs:ix script (t:Int)=(p:Int)) (st:Int):world_Play_l2 script (cst P t 0 Ste Now sl k st w q l c8) =
  (world_machine_step_1 (p:Int) P.Code P.Cells P.Pipes P.Locks P.Groups k.tr 0 (i64.wrap (Ste+1)) Now [] sl k.ce [⟨k.pc,k.r,st,w,q⟩] l c8 k.pi k.lo k.gr).bind fun r=>world_Play_j4 script (t:Int) [] r.1 r.2.1 r.2.2.1 r.2.2.2.1 r.2.2.2.2.1 r.2.2.2.2.2.1 r.2.2.2.2.2.2.1 r.2.2.2.2.2.2.2.1 r.2.2.2.2.2.2.2.2.1 r.2.2.2.2.2.2.2.2.2.1 r.2.2.2.2.2.2.2.2.2.2.2.1 r.2.2.2.2.2.2.2.2.2.2.2.2.1 r.2.2.2.2.2.2.2.2.2.2.2.2.2.1 r.2.2.2.2.2.2.2.2.2.2.1 r.2.2.2.2.2.2.2.2.2.2.2.2.2.2.1 r.2.2.2.2.2.2.2.2.2.2.2.2.2.2.2.1 r.2.2.2.2.2.2.2.2.2.2.2.2.2.2.2.2:=by
 obtain ⟨h1,h2⟩:=l2_cond ht;unfold world_Play_l2 cst;simp only;rw [h1,h2,hs,decide_eq_false (show ¬ (p:Int)<0 by omega)];rfl
theorem l2_tick (ht:t<script.length) (hs:ix script (t:Int) = -1) (st:Int):world_Play_l2 script (cst P t 0 Ste Now sl k st w q l c8) =
  (world_machine_tick_1 P.Code P.Cells P.Pipes P.Locks P.Groups k.tr 0 (i64.wrap (Ste+1)) Now [] sl k.ce [⟨k.pc,k.r,st,w,q⟩] l c8 k.pi k.lo k.gr).bind fun r=>world_Play_j4 script (t:Int) [] r.1 r.2.1 r.2.2.1 r.2.2.2.1 r.2.2.2.2.1 r.2.2.2.2.2.1 r.2.2.2.2.2.2.1 r.2.2.2.2.2.2.2.1 r.2.2.2.2.2.2.2.2.1 k.tr k.ce r.2.2.2.2.2.2.2.2.2.2 l r.2.2.2.2.2.2.2.2.2.1 k.pi k.lo k.gr:=by
 obtain ⟨h1,h2⟩:=l2_cond ht;unfold world_Play_l2 cst;simp only;rw [h1,h2,hs];rfl
theorem l2_end {St st:Int} (h:t=script.length∨(t<script.length∧St≠0)):world_Play_l2 script (cst P t St Ste Now sl k st w q l c8)=some (.inr (St,Ste,Now,⟨0,0⟩,k.tr,[st],k.ce)):=by
 have j1:world_Play_j1 P.Code P.Cells P.Pipes P.Locks P.Groups St Ste Now sl k.tr [] k.ce [⟨k.pc,k.r,st,w,q⟩] l c8 k.pi k.lo k.gr=some (St,Ste,Now,⟨0,0⟩,k.tr,[st],k.ce):=by
  unfold world_Play_j1;rw [loopO_inl (s':=(1,[st])) rfl];exact loopO_inr rfl
 unfold world_Play_l2 cst;simp only;rcases h with h|⟨h,h0⟩
 ·rw [decide_eq_false (by omega),cond_false,j1];rfl
 ·obtain ⟨h1,h2⟩:=l2_cond h;rw [h1,h2,show (St != 0)=true from by simpa using h0];show Option.map Sum.inr (world_Play_j1 _ _ _ _ _ _ _ _ _ _ _ _ _ _ _ _ _ _)=_;rw [j1];rfl
def After (P:GProgram) (N:Nat) (script:List Int) (t:Nat) (k:Core) (s:PS):Prop:=∃ (St Ste Now sl:Int) (k':Core) (st w q:Int) (l:List processor) (c8:List Int),world_Play_l2 script s=some (.inl (cst P (t+1) St Ste Now sl k' st w q l c8)) ∧
 ((St=0∧Pl N st l c8∧Val P k'∧(k'=k∨k'=nxt P k))∨(St≠0∧k'=nxt P k))
theorem l2_out {N:Nat} (ht:t<script.length) (hl:script.length≤5000) {p:Nat} (hp:p<N) (hs:ix script (t:Int)=(p:Int)) (st:Int) {o:Out} (ho:o=out P k) (hV:VO P k o)
  (h:world_machine_step_1 (p:Int) P.Code P.Cells P.Pipes P.Locks P.Groups k.tr 0 (i64.wrap (Ste+1)) Now [] sl k.ce [⟨k.pc,k.r,st,w,q⟩] l c8 k.pi k.lo k.gr=stepR P.Code P.Cells P.Pipes P.Locks P.Groups (i64.wrap (Ste+1)) Now sl w q [] ((rep N).set p ⟨1,0,[]⟩) p o) :
  After P N script t k (cst P t 0 Ste Now sl k st w q l c8):=by
 have hn:o.core=nxt P k:=by rw [ho];rfl
 have e:=l2_step (P:=P) (script:=script) (Ste:=Ste) (Now:=Now) (sl:=sl) (w:=w) (q:=q) (k:=k) (l:=l) (c8:=c8) ht hs st;rw [h] at e;cases o with
 | go k'=>exact ⟨_,_,_,_,_,_,_,_,_,_,e.trans (j4 (by omega) 0 0),.inl ⟨rfl,.inl ⟨p,hp,rfl,rfl,rfl⟩,hV.2,.inr hn⟩⟩
 | yld k'=>exact ⟨_,_,_,_,_,_,_,_,_,_,e.trans (j4 (by omega) 0 0),.inl ⟨rfl,.inr (.inl ⟨rep_set N _ p,rfl,rfl⟩),hV.2,.inr hn⟩⟩
 | slp k' n=>exact ⟨_,_,_,_,_,_,_,_,_,_,e.trans (j4 (by omega) 0 2),.inl ⟨rfl,.inr (.inr ⟨rep_set N _ p,rfl,rfl⟩),hV.2,.inr hn⟩⟩
 | halt s1 s2 k' =>
  refine ⟨_,_,_,_,_,_,_,_,_,_,e.trans (j4 (by omega) s1 s2),.inr ⟨?_,hn⟩⟩;rcases hV.2 with ⟨rfl,rfl⟩|rfl|rfl
  ·rw [if_pos (by decide)];decide
  ·rw [if_neg (by simp)];decide
  ·rw [if_neg (by simp)];decide
theorem l2_go {N:Nat} (hN:N≤16) (ht:t<script.length) (hl:script.length≤5000) (hx:-1≤ix script (t:Int)∧ix script (t:Int)<(N:Int)) {st:Int} (hP:Pl N st l c8) (hv:Val P k)
  (hO:∃ o,VO P k o∧StepTo P k o):After P N script t k (cst P t 0 Ste Now sl k st w q l c8):=by
 obtain ⟨hV,hS⟩:=out_ok P hO;by_cases h1:ix script (t:Int) = -1
 ·have e:=l2_tick (P:=P) (script:=script) (Ste:=Ste) (Now:=Now) (sl:=sl) (w:=w) (q:=q) (k:=k) (l:=l) (c8:=c8) ht h1 st;rcases hP with ⟨j,hj,rfl,rfl,rfl⟩|⟨rfl,rfl,rfl⟩|⟨rfl,rfl,rfl⟩
  ·rw [tick_not (h:=rfl) (hc:=.inl rfl)] at e;exact ⟨_,_,_,_,_,_,_,_,_,_,e.trans (j4 (by omega) 0 0),.inl ⟨rfl,.inl ⟨j,hj,rfl,rfl,rfl⟩,hv,.inl rfl⟩⟩
  ·rw [tick_not (h:=rfl) (hc:=.inr rfl)] at e;exact ⟨_,_,_,_,_,_,_,_,_,_,e.trans (j4 (by omega) 0 0),.inl ⟨rfl,.inr (.inl ⟨rfl,rfl,rfl⟩),hv,.inl rfl⟩⟩
  ·by_cases hw:w≤i64.wrap (Now+1)
   ·rw [tick_due (h:=hw)] at e;exact ⟨_,_,_,_,_,_,_,_,_,_,e.trans (j4 (by omega) 0 0),.inl ⟨rfl,.inr (.inl ⟨rfl,rfl,rfl⟩),hv,.inl rfl⟩⟩
   ·rw [tick_not (h:=by simpa using hw) (hc:=.inl rfl)] at e;exact ⟨_,_,_,_,_,_,_,_,_,_,e.trans (j4 (by omega) 0 2),.inl ⟨rfl,.inr (.inr ⟨rfl,rfl,rfl⟩),hv,.inl rfl⟩⟩
 ·obtain ⟨p,hp⟩:=Int.eq_ofNat_of_zero_le (show 0≤ix script (t:Int) by omega);have hpN:p<N:=by omega
  have e:=l2_step (P:=P) (script:=script) (Ste:=Ste) (Now:=Now) (sl:=sl) (w:=w) (q:=q) (k:=k) (l:=l) (c8:=c8) ht hp st;rcases hP with ⟨j,hj,rfl,rfl,rfl⟩|⟨rfl,rfl,rfl⟩|⟨rfl,rfl,rfl⟩
  ·have hlen:((rep N).set j ⟨1,0,[]⟩).length=N:=by rw [List.length_set,rep_len]
   by_cases hjp:j=p
   ·subst hjp;have hi:ix ((rep N).set j ⟨1,0,[]⟩) (j:Int)=⟨1,0,[]⟩:=ix_set _ (by rw [rep_len];exact hj) _;refine l2_out ht hl hj hp 0 rfl hV ?_;rw [step_run (hp:=by rw [hlen];exact hj) (h0:=by rw [hi])];exact hS _ _ _ _ _ _ _ _ _ (by rw [hlen];exact hj) hi (Nat.zero_le _)
   ·rw [step_idle (h:=rep_ri1 N j) (hp:=by rw [hlen];exact hpN) (hl:=by rw [hlen];exact hN) (h0:=by
     rw [ix_get (by rw [hlen];exact hpN),List.getElem_set,if_neg hjp];simp [rep])] at e
    exact ⟨_,_,_,_,_,_,_,_,_,_,e.trans (j4 (by omega) 0 0),.inl ⟨rfl,.inl ⟨j,hj,rfl,rfl,rfl⟩,hv,.inl rfl⟩⟩
  ·refine l2_out ht hl hpN hp 0 rfl hV ?_;rw [step_find (h:=rep_ri N) (hp:=by rw [rep_len];exact hpN) (hl:=by rw [rep_len];exact hN) (h0:=rep_now hpN)];exact hS _ _ _ _ _ _ _ _ _ (by rw [List.length_set,rep_len];exact hpN) (ix_set _ (by rw [rep_len];exact hpN) _) (Nat.zero_le _)
  ·rw [step_idle (h:=rep_ri N) (hp:=by rw [rep_len];exact hpN) (hl:=by rw [rep_len];exact hN) (h0:=rep_now hpN)] at e;exact ⟨_,_,_,_,_,_,_,_,_,_,e.trans (j4 (by omega) 0 2),.inl ⟨rfl,.inr (.inr ⟨rfl,rfl,rfl⟩),hv,.inl rfl⟩⟩
end
end Go.Proofs.YthcdpjkgdcpkmaaGreatDoor
end

section
namespace Go.Proofs.YthcdpjkgdcpkmaaGreatDoor
open Go Go.Sx
set_option linter.unusedVariables false
set_option linter.unusedSimpArgs false
set_option maxRecDepth 100000
noncomputable section
structure OkM (p:GProgram):Prop where
 ok:Ok p
 f0:progF p=⟨0,0⟩
 pn:p.Pipes.length≤20
 pc:∀ x∈p.Pipes,0≤x∧x≤100
 ce:0≤p.Cells∧p.Cells≤20
 lo:0≤p.Locks∧p.Locks≤20
 gr:0≤p.Groups∧p.Groups≤20
theorem okm_of {p:GProgram} (h:(progF p).Code=0):OkM p:=by
 have h1:=ok_of h;have h2:=progF_zero h;have h3:=h;unfold progF at h3;split at h3
 ·simp at h3
 ·rename_i a1;split at h3
  ·simp at h3
  ·rename_i a2;refine ⟨h1,h2,by omega,fun x hx=>?_,by omega,by omega,by omega⟩;obtain ⟨i,hi,rfl⟩:=List.mem_iff_getElem.1 hx;cases hf0:firstAt (badP p) p.Pipes.length with
   | some f =>
    rw [hf0] at h3;obtain ⟨i,hi,hb,_⟩:=firstAt_some _ hf0;unfold badP at hb;split at hb
    ·cases hb;simp at h3
    ·cases hb
   | none =>
    have hb:=(firstAt_none _).1 hf0 i hi;unfold badP at hb;split at hb
    ·cases hb
    ·rename_i hh;rw [ix_get hi] at hh;omega
def pipe0 (c:Int):Pipe:=⟨c,[],false,[],[]⟩
def core0 (p:GProgram):Core:=⟨0,default,List.replicate p.Cells.toNat default,p.Pipes.map pipe0,List.replicate p.Locks.toNat default,List.replicate p.Groups.toNat default,[]⟩
theorem val0 {p:GProgram} (h:OkM p):Val p (core0 p):=by
 have h1:=h.ce;have h2:=h.lo;have h3:=h.gr;refine ⟨⟨Int.le_refl _,by show (0:Int)≤_;omega⟩,by simp [core0];omega,by simp [core0],fun x hx=>?_,by simp [core0];omega,fun x hx=>?_,by simp [core0];omega,fun x hx=>?_⟩
 ·obtain ⟨c,hc,rfl⟩:=List.mem_map.1 hx;exact ⟨rfl,rfl,h.pc c hc,(h.pc c hc).1⟩
 ·obtain rfl:=List.eq_of_mem_replicate hx;exact ⟨⟨rfl,by decide,fun e=>nomatch e⟩,Int.le_refl _⟩
 ·obtain rfl:=List.eq_of_mem_replicate hx;exact ⟨rfl,by decide⟩
theorem new_eq {p:GProgram} (h:OkM p) {N:Nat} (hN:N≤16):world_newMachine p (N:Int)=some (p.Code,p.Cells,p.Pipes,p.Locks,p.Groups,0,0,0,0,(core0 p).ce,[⟨0,default,0,0,0⟩],rep N,[1],(core0 p).pi,(core0 p).lo,(core0 p).gr):=by
 have h1:=h.ce;have h2:=h.lo;have h3:=h.gr;have h4:=h.pn;unfold world_newMachine;rw [decide_eq_true (by omega),cond_true];refine loopO_all (step:=world_newMachine_l2 p (N:Int)) (fun i=>(((i:Nat):Int),rep i)) _ N (fun i hi=>?_) ?_
 ·unfold world_newMachine_l2;simp only;rw [decide_eq_true (by omega),cond_true,decide_eq_true (by simp [rep];omega),cond_true,wrapN (by omega),show rep i++[processor.mk 0 0 []]=rep (i+1) from by unfold rep;exact List.replicate_succ'.symm]
 ·unfold world_newMachine_l2;simp only;rw [decide_eq_false (by omega),cond_false];congr 1;refine loopO_all (step:=world_newMachine_l1 p (rep N)) (fun i=>(((i:Nat):Int),(p.Pipes.take i).map pipe0)) _ p.Pipes.length (fun i hi=>?_) ?_
  ·unfold world_newMachine_l1;simp only;rw [decide_eq_true (by omega),decide_eq_true (by omega)];simp only [cond_true,Bool.and_self];rw [decide_eq_true (by simp;omega),cond_true,wrapN (by omega),ix_get hi,List.take_succ_eq_append_getElem hi,List.map_append];rfl
  ·unfold world_newMachine_l1;simp only;rw [decide_eq_false (by omega),cond_false,decide_eq_true (by omega),cond_true,decide_eq_true (by omega),cond_true,List.take_length];rfl
abbrev RT:=Int×Int×Int×Fault×List GEvent×List Int×(List Int)
theorem play_eq {p:GProgram} (h:OkM p) {N:Nat} (hN:1≤N∧N≤16) {script:List Int} (hl:script.length≤5000) (hx:∀ i,i<script.length→-1≤ix script ((i:Nat):Int)∧ix script ((i:Nat):Int)<(N:Int)) :
  world_Play p (N:Int) script=loopO (world_Play_l2 script) (cst p 0 0 0 0 0 (core0 p) 0 0 0 (rep N) [1]):=by
 unfold world_Play;rw [chk_eq,h.f0,Option.bind_some,show ((⟨0,0⟩:Fault).Code != 0)=false from rfl,cond_false,decide_eq_false (show ¬ (N:Int)<1 by omega),decide_eq_false (show ¬ (16:Int)<(N:Int) by omega),Bool.or_self,cond_false,decide_eq_false (by omega),cond_false];refine loopO_all (step:=world_Play_l3 p (N:Int) script) (fun i=>((i:Nat):Int)) _ script.length (fun i hi=>?_) ?_
 ·unfold world_Play_l3;have:=hx i hi;rw [decide_eq_true (by omega),decide_eq_true (by omega),decide_eq_false (by omega),decide_eq_false (by omega)];show some (Sum.inl (i64.wrap ((i:Int)+1)))=_;rw [wrapN (by omega)]
 ·unfold world_Play_l3;rw [decide_eq_false (by omega),cond_false,new_eq h hN.2];rfl
def it (P:GProgram):Nat→Core
 | 0=>core0 P
 | n+1=>nxt P (it P n)
theorem it_pre (P:GProgram):∀ (n d:Nat),∃ e,(it P (n+d)).tr=(it P n).tr++e
 | n,0=>⟨[],by simp⟩
 | n,d+1=>by
  obtain ⟨e,he⟩:=it_pre P n d
  obtain ⟨e',he',_⟩:=nxt_tr P (it P (n+d))
  exact ⟨e++e',by show (nxt P (it P (n+d))).tr=_;rw [he',he,List.append_assoc]⟩
def Mid (P:GProgram) (N:Nat) (script:List Int) (s:PS):Prop:=∃ (t:Nat) (St Ste Now sl:Int) (n:Nat) (st w q:Int) (l:List processor) (c8:List Int),s=cst P t St Ste Now sl (it P n) st w q l c8∧t≤script.length∧(it P n).tr.length≤t∧((St=0∧Pl N st l c8∧Val P (it P n))∨St≠0)
theorem play_ends {p:GProgram} (h:OkM p) (hG:∀ i:Int,0≤i→i<(p.Code.length:Int)→(ix p.Code i).Op≠11) {N:Nat} (hN:1≤N∧N≤16) {script:List Int} (hl:script.length≤5000) (hx:∀ i,i<script.length→-1≤ix script ((i:Nat):Int)∧ix script ((i:Nat):Int)<(N:Int)) :
 ∃r:RT,world_Play p (N:Int) script=some r∧r.2.2.2.1=⟨0,0⟩∧∃ n,r.2.2.2.2.1=(it p n).tr∧(it p n).tr.length≤5000:=by
 rw [play_eq h hN hl hx];refine loopO_inv (Mid p N script) (fun s=>((script.length:Int)-s.1).toNat) (fun (r:RT)=>r.2.2.2.1=⟨0,0⟩∧∃ n,r.2.2.2.2.1=(it p n).tr∧(it p n).tr.length≤5000) (fun s hs=>?_) ⟨0,_,_,_,_,0,_,_,_,_,_,rfl,Nat.zero_le _,Nat.zero_le _,.inl ⟨rfl,.inr (.inl ⟨rfl,rfl,rfl⟩),val0 h⟩⟩;obtain ⟨t,St,Ste,Now,sl,n,st,w,q,l,c8,rfl,ht,htr,hs⟩:=hs;by_cases he:t=script.length∨(t<script.length∧St≠0)
 ·exact .inr ⟨_,l2_end he,rfl,n,rfl,by omega⟩
 ·have ht':t<script.length:=by omega
  rcases hs with ⟨rfl,hP,hv⟩|h0
  ·refine .inl ?_;obtain ⟨St',Ste',Now',sl',k',st',w',q',l',c8',e,hr⟩:=l2_go (Ste:=Ste) (Now:=Now) (sl:=sl) (w:=w) (q:=q) hN.2 ht' hl (hx t ht') hP hv (step_of hv (by omega) h.ok.len h.ok hG);have mu:((script.length:Int)-((t+1:Nat):Int)).toNat<((script.length:Int)-(t:Int)).toNat:=by omega
   obtain ⟨ex,hex,hel⟩:=nxt_tr p (it p n);have hlen:(nxt p (it p n)).tr.length≤t+1:=by rw [hex,List.length_append];omega
   rcases hr with ⟨h0,hP',hv',rfl|rfl⟩|⟨h0,rfl⟩
   ·exact ⟨_,e,⟨t+1,_,_,_,_,n,_,_,_,_,_,rfl,ht',by omega,.inl ⟨h0,hP',hv'⟩⟩,mu⟩
   ·exact ⟨_,e,⟨t+1,_,_,_,_,n+1,_,_,_,_,_,rfl,ht',hlen,.inl ⟨h0,hP',hv'⟩⟩,mu⟩
   ·exact ⟨_,e,⟨t+1,_,_,_,_,n+1,_,_,_,_,_,rfl,ht',hlen,.inr h0⟩,mu⟩
  ·exact absurd (.inr ⟨ht',h0⟩) he
abbrev pg:GProgram:=⟨[⟨15,0,0⟩],0,[0],0,0⟩
abbrev k1:Core:=⟨0,default,[],[⟨0,[],false,[],[⟨1,0,0⟩]⟩],[],[],[]⟩
theorem pg_ok:OkM pg:=okm_of (by decide +kernel)
theorem begun:taskmilllaw_worldBegun=some true:=by
 have hv:=val0 pg_ok;have hd:DoesTo pg (core0 pg) ⟨15,0,0⟩ (.halt 0 1 k1):=by
  intro Ste Now sl w q c2 c8 l p hp hn hc;exact does_talks (.inr (.inl rfl)) hp (talks15 _ _ _ _ _ _ _ _ _ _ _ _ (core0 pg) hp (Nat.zero_le _) 0 0 (by decide) (by decide) (hv.pi _ (.head _)))
 have hS:=step_at hv (show (0:Int)<1 by decide) (j_of (show (7:Int)<15 by decide) hd);show (world_Play pg ((1:Nat):Int) [0,0]).bind _=_;rw [play_eq pg_ok (by decide) (by decide) (fun i hi=>by
  have:i=0∨i=1:=by simp at hi;omega
  rcases this with rfl|rfl<;>decide)]
 have e:=l2_step (P:=pg) (script:=[0,0]) (t:=0) (Ste:=0) (Now:=0) (sl:=0) (w:=0) (q:=0) (k:=core0 pg) (l:=rep 1) (c8:=[1]) (by decide) (p:=0) rfl 0;rw [step_find (h:=rep_ri 1) (hp:=by decide) (hl:=by decide) (h0:=rfl)] at e;have e2:=e.trans (congrArg (fun x=>Option.bind x _) (hS _ _ _ _ _ _ _ _ 0 (by decide) rfl (Nat.zero_le _)));rw [loopO_inl (e2.trans (j4 (P:=pg) (k:=k1) (by decide) 0 1)),loopO_inr (l2_end (P:=pg) (k:=k1) (.inr ⟨by decide,by decide⟩))];rfl
end
end Go.Proofs.YthcdpjkgdcpkmaaGreatDoor
end

section
namespace Go.Proofs.YthcdpjkgdcpkmaaGreatDoor
open Go Go.Sx
set_option linter.unusedVariables false
set_option linter.unusedSimpArgs false
set_option maxRecDepth 100000
noncomputable section
def ScrOk (procs:Int) (script:List Int):Prop:=∀ i,i<script.length→-1≤ix script ((i:Nat):Int)∧ix script ((i:Nat):Int)<procs
theorem fault_loop (procs:Int) (script:List Int) (hl:script.length≤5000) (c:Fault):∃ f,taskmillref_PlayFault_j2 procs script c=some f∧(f.Code=0→c.Code=0∧ScrOk procs script):=by
 refine loopO_inv (step:=taskmillref_PlayFault_l1 procs script) (s0:=(0,c)) (fun s=>∃ i:Nat,i≤script.length∧s.1=((i:Nat):Int)∧(s.2.Code=0→c.Code=0∧∀ j,j<i→-1≤ix script ((j:Nat):Int)∧ix script ((j:Nat):Int)<procs)) (fun s=>((script.length:Int)-s.1).toNat) (fun f=>f.Code=0→c.Code=0∧ScrOk procs script) (fun s hs=>?_) ⟨0,Nat.zero_le _,rfl,fun h=>⟨h,fun j hj=>absurd hj (Nat.not_lt_zero _)⟩⟩;obtain ⟨i',f⟩:=s;obtain ⟨i,hi,rfl,h⟩:=hs;simp only at h;unfold taskmillref_PlayFault_l1;simp only;by_cases h0:f.Code=0
 ·by_cases hlt:i<script.length
  ·rw [decide_eq_true (by omega),show (f.Code==0)=true from by simpa using h0,decide_eq_true (by omega)];simp only [Bool.and_self,cond_true,Bool.or_true];refine .inl ?_;by_cases hb:ix script (i:Int) < -1∨procs≤ix script (i:Int)
   ·rw [show ((decide (ix script (i:Int)<(-1)))||(decide (procs≤ix script (i:Int))))=true from by simpa using hb];refine ⟨_,rfl,⟨i+1,hlt,wrapN (by omega),fun e=>by simp at e⟩,?_⟩;show ((script.length:Int)-i64.wrap ((i:Int)+1)).toNat<_;rw [wrapN (by omega)];show _<((script.length:Int)-(i:Int)).toNat;omega
   ·rw [show ((decide (ix script (i:Int)<(-1)))||(decide (procs≤ix script (i:Int))))=false from by simpa using hb];refine ⟨_,rfl,⟨i+1,hlt,wrapN (by omega),fun e=>⟨(h e).1,fun j hj=>?_⟩⟩,?_⟩
    ·rcases Nat.lt_or_eq_of_le (Nat.le_of_lt_succ hj) with hj|rfl
     ·exact (h e).2 j hj
     ·omega
    ·show ((script.length:Int)-i64.wrap ((i:Int)+1)).toNat<_;rw [wrapN (by omega)];show _<((script.length:Int)-(i:Int)).toNat;omega
  ·rw [decide_eq_false (by omega),Bool.false_and];obtain rfl:i=script.length:=by omega
   exact .inr ⟨_,rfl,fun e=>h e⟩
 ·rw [show (f.Code==0)=false from by simpa using h0,Bool.and_false];exact .inr ⟨_,rfl,fun e=>absurd e h0⟩
theorem playFault_eq (p:GProgram) (procs:Int) (script:List Int) (hl:script.length≤5000):∃ f,taskmillref_PlayFault p procs script=some f∧(f.Code=0→(progF p).Code=0∧1≤procs∧procs≤16∧ScrOk procs script):=by
 have j3:∀ c:Fault,taskmillref_PlayFault_j3 procs script c=taskmillref_PlayFault_j2 procs script c:=fun c=>by
  unfold taskmillref_PlayFault_j3;rw [decide_eq_false (by omega),Bool.and_false];rfl
 unfold taskmillref_PlayFault;rw [ref_eq,Option.bind_some];by_cases h0:(progF p).Code=0
 ·rw [show ((progF p).Code==0)=true from by simpa using h0,Bool.true_and];by_cases hb:procs<1∨16<procs
  ·rw [show ((decide (procs<1))||(decide ((16:Int)<procs)))=true from by simpa using hb];show∃f,taskmillref_PlayFault_j3 procs script ⟨3,-1⟩=some f∧_;rw [j3];obtain ⟨f,h1,h2⟩:=fault_loop procs script hl ⟨3,-1⟩;exact ⟨f,h1,fun e=>absurd (h2 e).1 (show (3:Int)≠0 by decide)⟩
  ·rw [show ((decide (procs<1))||(decide ((16:Int)<procs)))=false from by simpa using hb,cond_false,j3];obtain ⟨f,h1,h2⟩:=fault_loop procs script hl (progF p);exact ⟨f,h1,fun e=>⟨h0,by omega,by omega,(h2 e).2⟩⟩
 ·rw [show ((progF p).Code==0)=false from by simpa using h0,Bool.false_and,cond_false,j3];obtain ⟨f,h1,h2⟩:=fault_loop procs script hl (progF p);exact ⟨f,h1,fun e=>absurd (h2 e).1 h0⟩
abbrev RR:=Int×Int×Int×Bool×List GEvent×List Int×(List Int)
theorem run_of (p:GProgram) (procs:Int) (script:List Int) (hG:p.Code.length≤2000→∀ i:Int,0≤i→i<(p.Code.length:Int)→(ix p.Code i).Op≠11) :
 ∃r:RR,taskmilllaw_run p procs script=some r∧(r.2.2.2.1=true→∃ n,r.2.2.2.2.1=(it p n).tr∧(it p n).tr.length≤5000):=by
 have no:∃ r:RR,taskmilllaw_run_j1 p procs script true=some r∧(r.2.2.2.1=true→∃ n,r.2.2.2.2.1=(it p n).tr∧(it p n).tr.length≤5000):=⟨_,rfl,fun e=>nomatch e⟩;unfold taskmilllaw_run taskmilllaw_vastProgram;simp only [Option.bind_some];cases hb:(decide ((2000:Int)<(p.Code.length:Int)))||(decide ((2000:Int)<(p.Pipes.length:Int))) with
 | true=>exact no
 | false =>
  by_cases hl:5000<script.length
  ·rw [cond_false,decide_eq_true (by omega)];exact no
  ·rw [cond_false,decide_eq_false (by omega),cond_false];obtain ⟨f,h1,h2⟩:=playFault_eq p procs script (by omega);rw [h1,Option.bind_some];by_cases h0:f.Code=0
   ·obtain ⟨g1,g2,g3,g4⟩:=h2 h0;rw [show (f.Code != 0)=false from by simpa using h0];obtain ⟨N,rfl⟩:=Int.eq_ofNat_of_zero_le (show 0≤procs by omega);have hc:p.Code.length≤2000:=by
     have:=(ok_of g1).len;omega
    obtain ⟨r,e1,e2,n,e3⟩:=play_ends (okm_of g1) (hG hc) (N:=N) (by omega) (script:=script) (by omega) g4;unfold taskmilllaw_run_j1;rw [cond_false,e1];exact ⟨_,rfl,fun _=>⟨n,e3⟩⟩
   ·rw [show (f.Code != 0)=true from by simpa using h0];exact no
theorem same_refl (xs:List GEvent) (h:xs.length<100000):taskmillref_SameTrace xs xs=some true:=by
 unfold taskmillref_SameTrace;rw [show ((xs.length:Int) != (xs.length:Int))=false from by simp,cond_false];refine loopO_all (step:=taskmillref_SameTrace_l1 xs xs) (fun i=>((i:Nat):Int)) _ xs.length (fun i hi=>?_) ?_
 ·unfold taskmillref_SameTrace_l1;rw [decide_eq_true (by omega),decide_eq_true (by omega)];simp only [Bool.and_self,cond_true,beq_self_eq_true,Bool.not_true,cond_false,wrapN (show i<100000 by omega)]
 ·unfold taskmillref_SameTrace_l1;rw [decide_eq_false (by omega)];rfl
theorem take_pre {a b:List GEvent} {n:Nat} (h:(∃ e,b=a++e)∨(∃ e,a=b++e)) (ha:n≤a.length) (hb:n≤b.length):a.take n=b.take n:=by
 rcases h with ⟨e,rfl⟩|⟨e,rfl⟩
 ·rw [List.take_append_of_le_length ha]
 ·rw [List.take_append_of_le_length hb]
theorem it_two (P:GProgram) (n m:Nat):(∃ e,(it P m).tr=(it P n).tr++e)∨(∃ e,(it P n).tr=(it P m).tr++e):=by
 rcases Nat.le_total n m with h|h
 ·obtain ⟨d,rfl⟩:=Nat.le.dest h;exact .inl (it_pre P n d)
 ·obtain ⟨d,rfl⟩:=Nat.le.dest h;exact .inr (it_pre P m d)
theorem alone_law (p:GProgram) (procs:Int) (a b:List Int):taskmilllaw_WorldAlone p procs a b=some true:=by
 unfold taskmilllaw_WorldAlone;rw [begun,Option.bind_some,Bool.not_true,cond_false];obtain ⟨r,h1,h2⟩:=loopO_inv (step:=taskmilllaw_WorldAlone_l1 p procs a b) (s0:=0) (fun s=>∃ i:Nat,s=((i:Nat):Int)∧i≤p.Code.length∧i≤2000∧∀ j:Int,0≤j→j<((i:Nat):Int)→(ix p.Code j).Op≠11) (fun s=>(2000-s).toNat) (fun r=>r=true) (fun s hs=>by
  obtain ⟨i,rfl,hi,hi2,h⟩:=hs;unfold taskmilllaw_WorldAlone_l1;by_cases hlt:i<p.Code.length∧i<2000
  ·rw [decide_eq_true (show (i:Int)<(p.Code.length:Int) by omega),decide_eq_true (show (i:Int)<2000 by omega),decide_eq_true (show (0:Int)≤(i:Int) by omega)];simp only [Bool.and_self,cond_true];by_cases h0:(ix p.Code (i:Int)).Op=11
   ·rw [show ((ix p.Code (i:Int)).Op==11)=true from by simpa using h0];exact .inr ⟨true,rfl,rfl⟩
   ·rw [show ((ix p.Code (i:Int)).Op==11)=false from by simpa using h0];refine .inl ⟨_,rfl,⟨i+1,wrapN (by omega),by omega,by omega,fun j h1 h2=>?_⟩,?_⟩
    ·by_cases hj:j=(i:Int)
     ·rw [hj];exact h0
     ·exact h j h1 (by omega)
    ·rw [wrapN (by omega)];omega
  ·refine .inr ⟨true,?_,rfl⟩;rw [show ((decide ((i:Int)<(p.Code.length:Int)))&&(decide ((i:Int)<2000)))=false from by
    rw [Bool.and_eq_false_iff,decide_eq_false_iff_not,decide_eq_false_iff_not];omega,cond_false]
   have hG:p.Code.length≤2000→∀ i:Int,0≤i→i<(p.Code.length:Int)→(ix p.Code i).Op≠11:=fun hc j h1 h2=>h j h1 (by omega);obtain ⟨ra,ea,ha⟩:=run_of p procs a hG;obtain ⟨rb,eb,hb⟩:=run_of p procs b hG;rw [ea,eb,Option.bind_some,Option.bind_some];by_cases hok:ra.2.2.2.1=true∧rb.2.2.2.1=true
   ·obtain ⟨n,hn,hn5⟩:=ha hok.1;obtain ⟨m,hm,hm5⟩:=hb hok.2;rw [hok.1,hok.2];have fin:∀ k:Nat,k≤(it p n).tr.length→k≤(it p m).tr.length→taskmilllaw_WorldAlone_j1 ((k:Nat):Int) ra.1 ra.2.1 ra.2.2.1 rb.1 rb.2.1 rb.2.2.1 (it p n).tr ra.2.2.2.2.2.1 ra.2.2.2.2.2.2 (it p m).tr rb.2.2.2.2.2.1 rb.2.2.2.2.2.2=some true:=fun k k1 k2=>by
     unfold taskmilllaw_WorldAlone_j1;rw [decide_eq_true (show (0:Int)≤(k:Int) by omega),decide_eq_true (show (k:Int)≤(((it p n).tr.length:Nat):Int) by omega),decide_eq_true (show (k:Int)≤(((it p m).tr.length:Nat):Int) by omega)];simp only [Bool.and_self,cond_true];rw [cut_take,cut_take,take_pre (it_two p n m) k1 k2,same_refl _ (by simp;omega)];rfl
    rw [hn,hm];simp only [Bool.not_true,Bool.or_self,cond_false];by_cases hlt:(it p m).tr.length<(it p n).tr.length
    ·rw [decide_eq_true (by omega),cond_true,fin _ (by omega) (by omega)];rfl
    ·rw [decide_eq_false (by omega),cond_false,fin _ (by omega) (by omega)];rfl
   ·rw [show ((!ra.2.2.2.1)||(!rb.2.2.2.1))=true from by
     cases h1:ra.2.2.2.1<;>cases h2:rb.2.2.2.1<;>simp_all]
    rfl) ⟨0,rfl,Nat.zero_le _,Nat.zero_le _,fun j h1 h2=>by omega⟩
 rw [h1,h2]
end
end Go.Proofs.YthcdpjkgdcpkmaaGreatDoor
end
