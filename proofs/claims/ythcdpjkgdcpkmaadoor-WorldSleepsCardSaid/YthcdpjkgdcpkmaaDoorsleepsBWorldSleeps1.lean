/-
 Lemmas, put together: QA, QB, QC, sleepsP, sleepsP2, sleepsP3, sleepsP4.
 No conditions.
-/
import Derived.Test.YthcdpjkgdcpkmaaDoorsleepsA3
import Derived.Test.YthcdpjkgdcpkmaaDoorsleepsG
set_option linter.unusedSimpArgs false
set_option linter.unusedVariables false
section
namespace Go.Sx
open Go
set_option linter.unusedVariables false
theorem wrap_id {x:Int} (h1:-9223372036854775808≤x) (h2:x≤9223372036854775807):IntKind.i64.wrap x = x:=by
 simp only [IntKind.wrap,IntKind.bits,IntKind.signed,if_true]
 simp
 omega
def firstAt {β:Type} (bad:Nat→Option β):Nat→Option β
 | 0=>none
 | n+1=>(firstAt bad n).or (bad n)
theorem firstAt_none {β:Type} {f:Nat→Option β}:∀ (n:Nat),firstAt f n = none↔∀ i,i < n→f i = none
 | 0=>by simp [firstAt]
 | n+1=>by
  simp only [firstAt,Option.or_eq_none_iff,firstAt_none n]
  constructor
  ·rintro ⟨h1,h2⟩ i hi
   by_cases h:i = n
   ·subst h; exact h2
   ·exact h1 i (by omega)
  ·exact fun h=>⟨fun i hi=>h i (by omega),h n (by omega)⟩
theorem firstAt_some {β:Type} {f:Nat→Option β} {b:β}:∀ (n:Nat),firstAt f n = some b→∃ i,i < n∧f i = some b∧∀ j,j < i→f j = none
 | 0,h=>by simp [firstAt] at h
 | n+1,h=>by
  simp only [firstAt] at h
  cases hf:firstAt f n with
  | some c =>
   rw [hf] at h
   obtain ⟨i,h1,h2,h3⟩:=firstAt_some n hf
   simp only [Option.some_or] at h
   exact ⟨i,by omega,by rw [h2,h],h3⟩
  | none =>
   rw [hf] at h
   simp only [Option.none_or] at h
   exact ⟨n,by omega,h,fun j hj=>(firstAt_none n).1 hf j hj⟩
theorem loopO_find {S ρ:Type} {step:S→Option (S ⊕ ρ)} (E:Nat→S) (bad:Nat→Option ρ) (rest:Option ρ) (n:Nat)
  (h1:∀ i,i < n→bad i = none→step (E i) = some (.inl (E (i+1)))) (h2:∀ i r,i < n→bad i = some r→step (E i) = some (.inr r)) (h3:(∀ i,i < n→bad i = none)→step (E n) = rest.map .inr) :
  loopO step (E 0) = match firstAt bad n with
   | some r=>some r
   | none=>rest:=by
 have walk:∀ k,k≤n→(∀ i,i < k→bad i = none)→loopO step (E 0) = loopO step (E k):=by
  intro k
  induction k with
  | zero=>exact fun _ _=>rfl
  | succ k ih =>
   intro hk hb
   rw [ih (by omega) fun i hi=>hb i (by omega),loopO_inl (h1 k (by omega) (hb k (by omega)))]
 cases hf:firstAt bad n with
 | none =>
  have hb:=(firstAt_none n).1 hf
  rw [walk n (Nat.le_refl _) hb,loopO_out (h3 hb)]
 | some r =>
  obtain ⟨i,g1,g2,g3⟩:=firstAt_some n hf
  rw [walk i (by omega) g3,loopO_inr (h2 i r g1 g2)]
theorem loopO_all {S ρ:Type} {step:S→Option (S ⊕ ρ)} (E:Nat→S) (rest:Option ρ) (n:Nat)
  (h1:∀ i,i < n→step (E i) = some (.inl (E (i+1)))) (h3:step (E n) = rest.map .inr):loopO step (E 0) = rest:=by
 have:=loopO_find E (fun _=>none) rest n (fun i hi _=>h1 i hi) (fun i r _ h=>by cases h) (fun _=>h3)
 rw [this,(firstAt_none n).2 fun _ _=>rfl]
theorem ix_get {α:Type} [Enc α] {xs:List α} {i:Nat} (h:i < xs.length):ix xs (i:Int) = xs[i]:=by
 simp [ix,List.getD_eq_getElem?_getD,h]
end Go.Sx
end

section
namespace Go.Sx
variable {α:Type}
end Go.Sx
end

section
namespace Go.Sx
def toldOr {S ρ:Type} (o:Option ρ) (s:S):Option (S ⊕ ρ):=match o with
 | some r=>some (.inr r)
 | none=>some (.inl s)
@[simp] theorem toldOr_some {S ρ:Type} (r:ρ) (s:S):toldOr (some r) s = some (.inr r):=rfl
@[simp] theorem toldOr_none {S ρ:Type} (s:S):toldOr (none:Option ρ) s = some (.inl s):=rfl
end Go.Sx
end

section
namespace Go.Proofs.YthcdpjkgdcpkmaaDoor
open Go Go.Sx
set_option linter.unusedVariables false
set_option linter.unusedSimpArgs false
set_option maxRecDepth 100000
theorem rc0:ring_Check ⟨0,[]⟩ = some ⟨0,0⟩:=by
 show loopO (ring_Check_l1 ⟨0,[]⟩) (0,[]) = _
 exact loopO_inr rfl
theorem rc1:ring_Check ⟨0,[1]⟩ = some ⟨0,0⟩:=by
 show loopO (ring_Check_l1 ⟨0,[1]⟩) (0,[]) = _
 rw [loopO_inl (s':=(1,[(1,1)])) rfl]
 exact loopO_inr rfl
theorem take0:ring_Take ⟨0,[]⟩ = some (0,0,⟨6,0⟩,[]):=by
 unfold ring_Take; rw [rc0]; rfl
theorem take1:ring_Take ⟨0,[1]⟩ = some (0,1,⟨0,0⟩,[]):=by
 unfold ring_Take; rw [rc1]; rfl
theorem dis1:ring_disjoint [] [1] = some (-1):=by
 unfold ring_disjoint
 rw [loopO_out (step:=ring_disjoint_l2 [] [1]) (s:=(0,[])) (x:=loopO (ring_disjoint_l1 [1]) (0,[])) rfl]
 rw [loopO_inl (s':=(1,[(1,1)])) rfl]
 exact loopO_inr rfl
theorem refill1:ring_Refill_1 ⟨0,[]⟩ 1 [1] = some (0,⟨0,0⟩,[1],[]):=by
 unfold ring_Refill_1
 rw [rc0]
 show loopO (ring_Refill_1_l1 ⟨0,[]⟩ 1 [1]) 0 = _
 rw [loopO_inl (s':=1) rfl]
 refine loopO_inr ?_
 show Option.map Sum.inr ((ring_All ⟨0,[]⟩).bind _) = _
 rw [show ring_All ⟨0,[]⟩ = some [] from rfl,Option.bind_some,dis1]
 rfl
theorem fa:world_machine_find_1_1 0 [⟨0,0,[]⟩] = some (false,[⟨0,0,[]⟩]):=by
 unfold world_machine_find_1_1
 show (ring_Take ⟨0,[]⟩).bind _ = _
 rw [take0]; rfl
theorem fb:world_machine_find_1_1 0 [⟨0,0,[1]⟩] = some (true,[⟨1,0,[]⟩]):=by
 unfold world_machine_find_1_1
 show (ring_Take ⟨0,[1]⟩).bind _ = _
 rw [take1]; rfl
variable (C:List GInstr) (Ce:Int) (Pi:List Int) (Lo Gr St Ste Now sl:Int) (c1:List GEvent) (c2 c3:List Int) (c4:List task) (c9:List Pipe) (c10:List Lock) (c11:List Group)
theorem find_has:world_machine_find_1 0 C Ce Pi Lo Gr St Ste Now sl c1 c2 c3 c4 [⟨0,0,[]⟩] [1] c9 c10 c11 = some (true,C,Ce,Pi,Lo,Gr,St,Ste,Now,sl,[],[⟨1,0,[]⟩]):=by
 unfold world_machine_find_1
 show (world_machine_find_1_1 0 [⟨0,0,[]⟩]).bind _ = _
 rw [fa]
 show (ring_Refill_1 ⟨0,[]⟩ 1 [1]).bind _ = _
 rw [refill1]
 show (world_machine_find_1_1 0 [⟨0,0,[1]⟩]).bind _ = _
 rw [fb]
 rfl
theorem find_none:world_machine_find_1 0 C Ce Pi Lo Gr St Ste Now sl c1 c2 c3 c4 [⟨0,0,[]⟩] [] c9 c10 c11 = some (false,C,Ce,Pi,Lo,Gr,St,Ste,Now,sl,[],[⟨0,0,[]⟩]):=by
 unfold world_machine_find_1
 show (world_machine_find_1_1 0 [⟨0,0,[]⟩]).bind _ = _
 rw [fa]
 exact loopO_inr rfl
theorem step_none:world_machine_step_1 0 C Ce Pi Lo Gr c1 St Ste Now c2 sl c3 c4 [⟨0,0,[]⟩] [] c9 c10 c11 = some (C,Ce,Pi,Lo,Gr,St,Ste,Now,sl,c1,[],c3,c4,[⟨0,0,[]⟩],c9):=by
 unfold world_machine_step_1
 show (world_machine_find_1 0 C Ce Pi Lo Gr St Ste Now sl c1 c2 c3 c4 [⟨0,0,[]⟩] [] c9 c10 c11).bind _ = _
 rw [find_none]
 rfl
theorem step_has:world_machine_step_1 0 C Ce Pi Lo Gr c1 St Ste Now c2 sl c3 c4 [⟨0,0,[]⟩] [1] c9 c10 c11 = world_machine_step_1_j2 0 c1 c2 c3 c4 c9 c10 c11 false C Ce Pi Lo Gr St Ste Now sl [⟨1,0,[]⟩] []:=by
 unfold world_machine_step_1
 show (world_machine_find_1 0 C Ce Pi Lo Gr St Ste Now sl c1 c2 c3 c4 [⟨0,0,[]⟩] [1] c9 c10 c11).bind _ = _
 rw [find_has]
 rfl
theorem step_now:world_machine_step_1 0 C Ce Pi Lo Gr c1 St Ste Now c2 sl c3 c4 [⟨1,0,[]⟩] [] c9 c10 c11 = world_machine_step_1_j2 0 c1 c2 c3 c4 c9 c10 c11 false C Ce Pi Lo Gr St Ste Now sl [⟨1,0,[]⟩] []:=rfl
def code (n:Int):List GInstr:=[⟨1,0,n⟩,⟨21,0,0⟩,⟨8,0,0⟩,⟨6,1,0⟩]
variable (n:Int) (r:VArr 8) (w q:Int)
theorem do_set:world_machine_step_1_j2 0 c1 c2 c3 [⟨0,r,0,w,q⟩] c9 c10 c11 false (code n) Ce Pi Lo Gr St Ste Now sl [⟨1,0,[]⟩] [] =
  some (code n,Ce,Pi,Lo,Gr,St,Ste,Now,sl,c1,[],c3,[⟨1,r.set 0 n,0,w,q⟩],[⟨1,0,[]⟩],c9):=rfl
theorem do_jump:world_machine_step_1_j2 0 c1 c2 c3 [⟨3,r,0,w,q⟩] c9 c10 c11 false (code n) Ce Pi Lo Gr St Ste Now sl [⟨1,0,[]⟩] [] =
  some (code n,Ce,Pi,Lo,Gr,St,Ste,Now,sl,c1,[],c3,[⟨1,r,0,w,q⟩],[⟨1,0,[]⟩],c9):=rfl
theorem do_print (h:c1.length < 1000):world_machine_step_1_j2 0 c1 c2 c3 [⟨2,r,0,w,q⟩] c9 c10 c11 false (code n) Ce Pi Lo Gr St Ste Now sl [⟨1,0,[]⟩] [] =
  some (code n,Ce,Pi,Lo,Gr,St,Ste,Now,sl,c1++[⟨1,8,0,r.get 0⟩],[],c3,[⟨3,r,0,w,q⟩],[⟨1,0,[]⟩],c9):=by
 have tell:world_machine_tell_1 1 8 0 (r.get 0) (code n) Ce Pi Lo Gr St Ste Now sl c1 c2 c3 [⟨2,r,0,w,q⟩] [⟨1,0,[]⟩] [] c9 c10 c11 = some (code n,Ce,Pi,Lo,Gr,St,Ste,Now,sl,c1++[⟨1,8,0,r.get 0⟩]):=by
  unfold world_machine_tell_1
  rw [decide_eq_true (by simp; omega)]; rfl
 have does:world_machine_does 0 1 ⟨8,0,0⟩ (code n) Ce Pi Lo Gr St Ste Now sl c1 c2 c3 [⟨2,r,0,w,q⟩] [⟨1,0,[]⟩] [] c9 c10 c11 = some (true,code n,Ce,Pi,Lo,Gr,St,Ste,Now,sl,c1++[⟨1,8,0,r.get 0⟩],c3,[⟨2,r,0,w,q⟩],c9):=by
  unfold world_machine_does
  show (world_machine_tell_1 1 8 0 (r.get 0) (code n) Ce Pi Lo Gr St Ste Now sl c1 c2 c3 [⟨2,r,0,w,q⟩] [⟨1,0,[]⟩] [] c9 c10 c11).bind _ = _
  rw [tell]; rfl
 show (world_machine_does 0 1 ⟨8,0,0⟩ (code n) Ce Pi Lo Gr St Ste Now sl c1 c2 c3 [⟨2,r,0,w,q⟩] [⟨1,0,[]⟩] [] c9 c10 c11).bind _ = _
 rw [does]; rfl
theorem do_sleep (h1:1≤r.get 0) (h2:r.get 0≤1000000000):world_machine_step_1_j2 0 c1 c2 c3 [⟨1,r,0,w,q⟩] c9 c10 c11 false (code n) Ce Pi Lo Gr St Ste Now sl [⟨1,0,[]⟩] [] =
  some (code n,Ce,Pi,Lo,Gr,St,Ste,Now,IntKind.i64.wrap (sl+1),c1,[],c3,[⟨2,r,2,IntKind.i64.wrap (Now+r.get 0),IntKind.i64.wrap (sl+1)⟩],[⟨0,0,[]⟩],c9):=by
 have does:world_machine_does 0 1 ⟨21,0,0⟩ (code n) Ce Pi Lo Gr St Ste Now sl c1 c2 c3 [⟨1,r,0,w,q⟩] [⟨1,0,[]⟩] [] c9 c10 c11 = some (false,code n,Ce,Pi,Lo,Gr,St,Ste,Now,IntKind.i64.wrap (sl+1),c1,c3,[⟨2,r,2,IntKind.i64.wrap (Now+r.get 0),IntKind.i64.wrap (sl+1)⟩],c9):=by
  show world_machine_does_j3 0 1 ⟨21,0,0⟩ (code n) Ce Pi Lo Gr St Ste Now sl c1 c2 c3 [⟨1,r,0,w,q⟩] [⟨1,0,[]⟩] [] c9 c10 c11 0 false = _
  show (bif decide ((1000000000:Int) < r.get 0) then none else bif decide (r.get 0 < 1) then none else _) = _
  rw [decide_eq_false (by omega),decide_eq_false (by omega)]
  rfl
 show (world_machine_does 0 1 ⟨21,0,0⟩ (code n) Ce Pi Lo Gr St Ste Now sl c1 c2 c3 [⟨1,r,0,w,q⟩] [⟨1,0,[]⟩] [] c9 c10 c11).bind _ = _
 rw [does]; rfl
theorem stuck_no (t:task) (h:t.state = 0∨t.state = 2) (c6:List processor) (c8:List Int):world_machine_stuck_1 C Ce Pi Lo Gr St Ste Now sl c1 c2 c3 [t] c6 c8 c9 c10 c11 = some false:=by
 have:slices_IndexFunc_task_1 [t] = some 0:=by
  refine loopO_inr ?_
  show (bif (t.state == 0 || t.state == 2) then Option.map Sum.inr (some 0) else some (Sum.inl (IntKind.i64.wrap (0+1)))) = _
  rcases h with h | h <;> rw [h] <;> rfl
 unfold world_machine_stuck_1 slices_ContainsFunc_task_1
 rw [this]; rfl
end Go.Proofs.YthcdpjkgdcpkmaaDoor
end

section
namespace Go.Proofs.YthcdpjkgdcpkmaaDoor
open Go Go.Sx
set_option linter.unusedVariables false
set_option linter.unusedSimpArgs false
set_option maxRecDepth 100000
theorem cmp_same (x:Int):cmp_Compare_int x x = some 0:=by
 unfold cmp_Compare_int
 simp [cmp_isNaN_int]
theorem or0:cmp_Or_int [0,0] = some 0:=by
 unfold cmp_Or_int
 rw [loopO_inl (s':=1) rfl,loopO_inl (s':=2) rfl]
 exact loopO_inr rfl
theorem cmp11 (x:task):world_machine_tick_1_1 1 1 [⟨x⟩] = some 0:=by
 have h:world_machine_of [⟨x⟩] 1 = some x:=rfl
 unfold world_machine_tick_1_1
 simp only [h,Option.bind_some,cmp_same,or0]
theorem sort0 (ts:List (PT task)):slices_SortFunc_int [] ts = some []:=by
 have hn:(([]:List Int).foldl max 0).toNat = 0:=rfl
 have no:∀ {a:Int} {q:Prop},1≤a∧a≤((0:Nat):Int)→q:=fun h=>by
  have:=h.2
  have:=h.1
  omega
 have hO:Go.Sort.SWO (Go.Proofs.ltOf fun (a b:Rg 0)=>(fun a b:Int=>(world_machine_tick_1_1 a b ts).getD 0) a.1 b.1) :=
  ⟨fun a=>no a.2,fun a _ _ _ _=>no a.2,fun a _ _ _ _=>no a.2⟩
 unfold slices_SortFunc_int
 rw [hn,if_pos ⟨fun a b h1 _=>no h1,hO,fun x hx=>by simp at hx,by simp⟩,sortC_nil]
theorem sort1 (x:task):slices_SortFunc_int [1] [⟨x⟩] = some [1]:=by
 have hn:(([1]:List Int).foldl max 0).toNat = 1:=rfl
 have e:∀ a:Int,1≤a∧a≤((1:Nat):Int)→a = 1:=fun a h=>by have:=h.2; push_cast at this; omega
 have hO:Go.Sort.SWO (Go.Proofs.ltOf fun (a b:Rg 1)=>(fun a b:Int=>(world_machine_tick_1_1 a b [⟨x⟩]).getD 0) a.1 b.1):=by
  have hz:∀ a b:Rg 1,Go.Proofs.ltOf (fun (a b:Rg 1)=>(fun a b:Int=>(world_machine_tick_1_1 a b [⟨x⟩]).getD 0) a.1 b.1) a b = false:=fun a b=>by
   have hh:(world_machine_tick_1_1 a.1 b.1 [⟨x⟩]).getD 0 = 0:=by rw [e a.1 a.2,e b.1 b.2,cmp11]; rfl
   exact decide_eq_false (by show ¬ (world_machine_tick_1_1 a.1 b.1 [⟨x⟩]).getD 0 < 0; rw [hh]; decide)
  exact ⟨fun a=>hz a a,fun a b c h _=>(by rw [hz] at h; cases h),fun a b c _ _=>hz a c⟩
 have hr:∀ y ∈ ([1]:List Int),1≤y∧y≤((1:Nat):Int):=fun y hy=>by simp at hy; subst hy; decide
 unfold slices_SortFunc_int
 rw [hn,if_pos ⟨fun a b h1 h2=>by rw [e a h1,e b h2,cmp11]; rfl,hO,hr,by simp⟩]
 congr 1
 exact List.perm_singleton.1 (sortC_perm hr hO).1
variable (C:List GInstr) (Ce:Int) (Pi:List Int) (Lo Gr St Ste Now sl:Int) (c1:List GEvent) (c2 c3:List Int) (c9:List Pipe) (c10:List Lock) (c11:List Group)
theorem tick_not (t:task) (h:(t.state == 2 && decide (t.when≤IntKind.i64.wrap (Now+1))) = false) (c6:List processor):world_machine_tick_1 C Ce Pi Lo Gr c1 St Ste Now c2 sl c3 [t] c6 [] c9 c10 c11 =
  some (C,Ce,Pi,Lo,Gr,St,Ste,IntKind.i64.wrap (Now+1),sl,[],[t]):=by
 unfold world_machine_tick_1
 rw [loopO_inl (s':=(1,[t],[])) (by
  show (bif (t.state == 2 && decide (t.when≤IntKind.i64.wrap (Now+1))) then _ else _) = _
  rw [h]; rfl)]
 refine loopO_inr ?_
 show Option.map Sum.inr ((slices_SortFunc_int [] ([t].map PT.mk)).bind _) = _
 rw [sort0]; rfl
theorem tick_due (pc:Int) (r:VArr 8) (w q:Int) (h:w≤IntKind.i64.wrap (Now+1)) (c6:List processor):world_machine_tick_1 C Ce Pi Lo Gr c1 St Ste Now c2 sl c3 [⟨pc,r,2,w,q⟩] c6 [] c9 c10 c11 =
  some (C,Ce,Pi,Lo,Gr,St,Ste,IntKind.i64.wrap (Now+1),sl,[1],[⟨pc,r,0,w,q⟩]):=by
 unfold world_machine_tick_1
 rw [loopO_inl (s':=(1,[⟨pc,r,0,w,q⟩],[1])) (by
  show (bif decide (w≤IntKind.i64.wrap (Now+1)) then _ else _) = _
  rw [decide_eq_true h]; rfl)]
 refine loopO_inr ?_
 show Option.map Sum.inr ((slices_SortFunc_int [1] [⟨⟨pc,r,0,w,q⟩⟩]).bind _) = _
 rw [sort1]; rfl
end Go.Proofs.YthcdpjkgdcpkmaaDoor
end

section
namespace Go.Proofs.YthcdpjkgdcpkmaaDoor
open Go Go.Sx
set_option linter.unusedVariables false
set_option linter.unusedSimpArgs false
set_option maxRecDepth 100000
noncomputable section
abbrev PS:=Int×(List GInstr)×Int×(List Int)×Int×Int×Int×Int×Int×Int×(List GEvent)×(List Int)×(List Int)×(List task)×(List processor)×(List Int)×(List Pipe)×(List Lock)×(List Group)
def stt (t:Nat) (n Ste Now sl:Int) (tr:List GEvent) (tk:task) (pr:processor) (gl:List Int):PS:=((t:Int),code n,0,[],0,0,0,Ste,Now,sl,tr,[],[],[tk],[pr],gl,[],[],[])
variable {script:List Int} {t:Nat} {n Ste Now sl:Int} {tr:List GEvent} {tk:task} {pr:processor} {gl:List Int}
theorem wrapN {k:Nat} (h:k < 100000):IntKind.i64.wrap ((k:Int)+1) = ((k+1:Nat):Int):=by
 rw [wrap_id (by omega) (by omega)]; omega
theorem j4 (ht:t < 100000) {tk:task} (hst:tk.state = 0∨tk.state = 2):world_Play_j4 script (t:Int) [] [] [] (code n) 0 [] 0 0 0 Ste Now sl tr [] [tk] [pr] gl [] = some (.inl (stt (t+1) n Ste Now sl tr tk pr gl)):=by
 unfold world_Play_j4
 show (world_machine_stuck_1 _ _ _ _ _ _ _ _ _ _ _ _ [tk] _ _ _ _ _).bind _ = _
 rw [stuck_no _ _ _ _ _ _ _ _ _ _ _ _ _ _ _ _ hst]
 show some (Sum.inl (IntKind.i64.wrap ((t:Int)+1),_)) = _
 rw [wrapN ht]; rfl
theorem l2_cond (ht:t < script.length):(decide ((t:Int) < (script.length:Int))) = true∧(decide ((0:Int)≤(t:Int))) = true:=by
 constructor
 ·simp; omega
 ·simp
theorem l2_step (ht:t < script.length) (hl:script.length≤5000) (hs:ix script (t:Int) = 0) {Now' sl':Int} {tr':List GEvent} {tk':task} {pr':processor} {gl':List Int}
  (h:world_machine_step_1 0 (code n) 0 [] 0 0 tr 0 (IntKind.i64.wrap (Ste+1)) Now [] sl [] [tk] [pr] gl [] [] [] = some (code n,0,[],0,0,0,IntKind.i64.wrap (Ste+1),Now',sl',tr',gl',[],[tk'],[pr'],[]))
  (hst:tk'.state = 0∨tk'.state = 2):world_Play_l2 script (stt t n Ste Now sl tr tk pr gl) = some (.inl (stt (t+1) n (IntKind.i64.wrap (Ste+1)) Now' sl' tr' tk' pr' gl')):=by
 obtain ⟨h1,h2⟩:=l2_cond ht
 unfold world_Play_l2 stt
 simp only
 rw [h1,h2,hs]
 show (world_machine_step_1 0 (code n) 0 [] 0 0 tr 0 (IntKind.i64.wrap (Ste+1)) Now [] sl [] [tk] [pr] gl [] [] []).bind _ = _
 rw [h]
 exact j4 (by omega) hst
theorem l2_tick (ht:t < script.length) (hl:script.length≤5000) (hs:ix script (t:Int) = -1) {Now':Int} {tk':task} {gl':List Int}
  (h:world_machine_tick_1 (code n) 0 [] 0 0 tr 0 (IntKind.i64.wrap (Ste+1)) Now [] sl [] [tk] [pr] gl [] [] [] = some (code n,0,[],0,0,0,IntKind.i64.wrap (Ste+1),Now',sl,gl',[tk']))
  (hst:tk'.state = 0∨tk'.state = 2):world_Play_l2 script (stt t n Ste Now sl tr tk pr gl) = some (.inl (stt (t+1) n (IntKind.i64.wrap (Ste+1)) Now' sl tr tk' pr gl')):=by
 obtain ⟨h1,h2⟩:=l2_cond ht
 unfold world_Play_l2 stt
 simp only
 rw [h1,h2,hs]
 show (world_machine_tick_1 (code n) 0 [] 0 0 tr 0 (IntKind.i64.wrap (Ste+1)) Now [] sl [] [tk] [pr] gl [] [] []).bind _ = _
 rw [h]
 exact j4 (by omega) hst
theorem l2_end (h:t = script.length) (tk:task) (pr:processor) (gl:List Int):loopO (world_Play_l2 script) (stt t n Ste Now sl tr tk pr gl) = some (0,Ste,Now,⟨0,0⟩,tr,[tk.state],[]):=by
 refine loopO_out ?_
 unfold world_Play_l2 stt
 simp only
 rw [decide_eq_false (by omega),cond_false]
 congr 1
 unfold world_Play_j1
 rw [loopO_inl (s':=(1,[tk.state])) rfl]
 exact loopO_inr rfl
def scr:Nat→List Int
 | 0=>[0,0]
 | k+1=>scr k++[-1,0,0,0]
theorem scr_len:∀ k,(scr k).length = 2+4 * k
 | 0=>rfl
 | k+1=>by rw [scr,List.length_append,scr_len k]; simp; omega
theorem scr_at:∀ (k j i:Nat),j < k→i < 4→(scr k)[2+4 * j+i]? = ([-1,0,0,0]:List Int)[i]?
 | 0,j,i,h,_=>by omega
 | k+1,j,i,h,hi=>by
  rw [scr]
  by_cases hj:j < k
  ·rw [List.getElem?_append_left (by rw [scr_len]; omega)]; exact scr_at k j i hj hi
  ·obtain rfl:j = k:=by omega
   rw [List.getElem?_append_right (by rw [scr_len]; omega),scr_len]
   congr 1; omega
theorem scr_01:∀ k:Nat,(scr k)[0]? = some 0∧(scr k)[1]? = some 0
 | 0=>⟨rfl,rfl⟩
 | k+1=>by
  rw [scr,List.getElem?_append_left (by rw [scr_len]; omega),List.getElem?_append_left (by rw [scr_len]; omega)]
  exact scr_01 k
theorem scr_mem:∀ (k:Nat) (x:Int),x ∈ scr k→x = 0∨x = -1
 | 0,x,h=>by simp [scr] at h; exact .inl h
 | k+1,x,h=>by
  rw [scr,List.mem_append] at h
  rcases h with h | h
  ·exact scr_mem k x h
  ·simp at h; omega
theorem ix_some {l:List Int} {i:Nat} {x:Int} (h:l[i]? = some x):ix l (i:Int) = x:=by
 obtain ⟨h1,h2⟩:=List.getElem?_eq_some_iff.1 h
 rw [ix_get h1,h2]
structure Asleep (n:Int) (j:Nat) (s:PS):Prop where
 ex:∃ (Ste sl w q:Int) (tr:List GEvent) (r:VArr 8),s = stt (2+4 * j) n Ste j sl tr ⟨2,r,2,w,q⟩ ⟨0,0,[]⟩ []∧r.get 0 = n∧w = ((tr.length:Int)+1) * n∧(j:Int) < w∧w≤(j:Int)+n∧0≤sl∧sl≤(j:Int)+1∧0≤Ste∧Ste≤2+4 * (j:Int)∧tr.length≤j
theorem set_get (r:VArr 8) (v:Int):(r.set 0 v).get 0 = v:=by
 obtain ⟨l,h⟩:=r
 match l,h with
 | a::l,_=>rfl
theorem first (hn:1≤n∧n≤200) (k:Nat) (hk:k≤400):∃ s,loopO (world_Play_l2 (scr k)) (stt 0 n 0 0 0 [] ⟨0,default,0,0,0⟩ ⟨0,0,[]⟩ [1]) = loopO (world_Play_l2 (scr k)) s∧Asleep n 0 s:=by
 have hlen:=scr_len k
 rw [loopO_inl (l2_step (by omega) (by omega) (ix_some (scr_01 k).1) (by rw [step_has,do_set]) (.inl rfl)),
  loopO_inl (l2_step (t:=0+1) (by omega) (by omega) (ix_some (scr_01 k).2) (by rw [step_now,do_sleep _ _ _ _ _ _ _ _ _ _ _ _ _ _ _ _ _ _ (by rw [set_get]; omega) (by rw [set_get]; omega)]) (.inr rfl))]
 refine ⟨_,rfl,⟨_,_,_,_,_,_,rfl,set_get _ _,?_⟩⟩
 rw [set_get,wrap_id (x:=0+n) (by omega) (by omega),wrap_id (x:=0+1) (by omega) (by omega),wrap_id (x:=0+1+1) (by omega) (by omega)]
 simp
 omega
theorem block (hn:1≤n∧n≤200) (k:Nat) (hk:k≤400) (j:Nat) (hj:j < k) (s:PS) (h:Asleep n j s):∃ s',loopO (world_Play_l2 (scr k)) s = loopO (world_Play_l2 (scr k)) s'∧Asleep n (j+1) s':=by
 have hlen:=scr_len k
 obtain ⟨Ste,sl,w,q,tr,r,rfl,hr,hw,h1,h2,h3,h4,h5,h6,h7⟩:=h
 have e0:ix (scr k) ((2+4 * j:Nat):Int) = -1:=ix_some (scr_at k j 0 hj (by omega))
 have e1:=ix_some (scr_at k j 1 hj (by omega))
 have e2:=ix_some (scr_at k j 2 hj (by omega))
 have e3:=ix_some (scr_at k j 3 hj (by omega))
 have hN:IntKind.i64.wrap ((j:Int)+1) = ((j+1:Nat):Int):=wrapN (by omega)
 have s1:IntKind.i64.wrap (Ste+1) = Ste+1:=wrap_id (by omega) (by omega)
 have s2:IntKind.i64.wrap (Ste+1+1) = Ste+2:=by rw [wrap_id (by omega) (by omega)]; omega
 have s3:IntKind.i64.wrap (Ste+2+1) = Ste+3:=by rw [wrap_id (by omega) (by omega)]; omega
 have s4:IntKind.i64.wrap (Ste+3+1) = Ste+4:=by rw [wrap_id (by omega) (by omega)]; omega
 by_cases hd:w≤(j:Int)+1
 ·have hwe:w = (j:Int)+1:=by omega
  rw [loopO_inl (l2_tick (by omega) (by omega) e0 (tick_due _ _ _ _ _ _ _ _ _ _ _ _ _ _ _ _ _ _ _ (by rw [hN]; push_cast; omega) _) (.inl rfl)),hN,s1,
   loopO_inl (l2_step (t:=2+4 * j+1) (by omega) (by omega) e1 (by rw [step_has,do_print _ _ _ _ _ _ _ _ _ _ _ _ _ _ _ _ _ _ (by omega)]) (.inl rfl)),s2,
   loopO_inl (l2_step (t:=2+4 * j+1+1) (by omega) (by omega) e2 (by rw [step_now,do_jump]) (.inl rfl)),s3,
   loopO_inl (l2_step (t:=2+4 * j+1+1+1) (by omega) (by omega) e3 (by rw [step_now,do_sleep _ _ _ _ _ _ _ _ _ _ _ _ _ _ _ _ _ _ (by omega) (by omega)]) (.inr rfl)),s4]
  refine ⟨_,rfl,⟨Ste+4,IntKind.i64.wrap (sl+1),IntKind.i64.wrap (((j+1:Nat):Int)+r.get 0),IntKind.i64.wrap (sl+1),tr++[⟨1,8,0,r.get 0⟩],r,?_,hr,?_⟩⟩
  ·rw [show 2+4 * (j+1) = 2+4 * j+1+1+1+1 by omega]
  ·rw [hr,wrap_id (x:=((j+1:Nat):Int)+n) (by omega) (by omega),wrap_id (x:=sl+1) (by omega) (by omega)]
   refine ⟨?_,by omega,by omega,by omega,by push_cast; omega,by omega,by push_cast; omega,by simp; omega⟩
   rw [List.length_append,List.length_singleton]
   push_cast
   rw [Int.add_mul,Int.one_mul,← hw,hwe]
 ·rw [loopO_inl (l2_tick (by omega) (by omega) e0 (tick_not _ _ _ _ _ _ _ _ _ _ _ _ _ _ _ _ (by
    show decide (w≤IntKind.i64.wrap ((j:Int)+1)) = false
    rw [hN]; exact decide_eq_false (by push_cast; omega)) _) (.inr rfl)),hN,s1,
   loopO_inl (l2_step (t:=2+4 * j+1) (by omega) (by omega) e1 (by rw [step_none]) (.inr rfl)),s2,
   loopO_inl (l2_step (t:=2+4 * j+1+1) (by omega) (by omega) e2 (by rw [step_none]) (.inr rfl)),s3,
   loopO_inl (l2_step (t:=2+4 * j+1+1+1) (by omega) (by omega) e3 (by rw [step_none]) (.inr rfl)),s4]
  refine ⟨_,rfl,⟨Ste+4,sl,w,q,tr,r,?_,hr,hw,?_⟩⟩
  ·rw [show 2+4 * (j+1) = 2+4 * j+1+1+1+1 by omega]
  ·push_cast; omega
theorem sim (hn:1≤n∧n≤200) (k:Nat) (hk:k≤400):∀ j,j≤k→∃ s,loopO (world_Play_l2 (scr k)) (stt 0 n 0 0 0 [] ⟨0,default,0,0,0⟩ ⟨0,0,[]⟩ [1]) = loopO (world_Play_l2 (scr k)) s∧Asleep n j s
 | 0,_=>first hn k hk
 | j+1,hj=>by
  obtain ⟨s,h1,h2⟩:=sim hn k hk j (by omega)
  obtain ⟨s',h3,h4⟩:=block hn k hk j (by omega) s h2
  exact ⟨s',h1.trans h3,h4⟩
end
end Go.Proofs.YthcdpjkgdcpkmaaDoor
end

section
namespace Go.Proofs.YthcdpjkgdcpkmaaDoor
open Go Go.Sx
set_option linter.unusedVariables false
set_option linter.unusedSimpArgs false
set_option maxRecDepth 100000
abbrev pg:GProgram:=⟨[⟨15,0,0⟩],0,[0],0,0⟩
abbrev pi0:Pipe:=⟨0,[],false,[],[]⟩
abbrev pi1:Pipe:=⟨0,[],false,[],[⟨1,0,0⟩]⟩
theorem chk_pg:code_Check pg = some ⟨0,0⟩:=by
 show loopO (code_Check_l2 pg) 0 = _
 rw [loopO_inl (step:=code_Check_l2 pg) (s:=0) (s':=1) rfl,loopO_out (step:=code_Check_l2 pg) (s:=1) (x:=loopO (code_Check_l1 pg) 0) rfl,loopO_inl (step:=code_Check_l1 pg) (s:=0) (s':=1) rfl]
 exact loopO_inr rfl
theorem posts0 (m:List (Int×Int)):pipe_posts [] m = some (0,m):=loopO_inr rfl
theorem chk_pi:pipe_Check pi0 = some ⟨0,0⟩:=by
 unfold pipe_Check
 show (pipe_posts [] []).bind _ = _
 rw [posts0]
 show (pipe_posts [] []).bind _ = _
 rw [posts0]
 exact loopO_inr rfl
theorem waits_pi:pipe_Waits pi0 1 = some false:=by
 have h:slices_IndexFunc_Post [] 1 = some (-1):=loopO_inr rfl
 unfold pipe_Waits slices_ContainsFunc_Post
 show ((slices_IndexFunc_Post [] 1).bind _).bind _ = _
 rw [h]; rfl
theorem get_pi:pipe_Get pi0 1 false = some (0,false,false,false,false,0,0,⟨0,0⟩,[],[],[⟨1,0,0⟩],[]):=by
 have hb:pipe_begin pi0 1 = some ⟨0,0⟩:=by
  unfold pipe_begin
  rw [chk_pi]
  show (pipe_Waits pi0 1).bind _ = _
  rw [waits_pi]; rfl
 unfold pipe_Get
 rw [hb]; rfl
theorem step_pg:world_machine_step_1 0 [⟨15,0,0⟩] 0 [0] 0 0 [] 0 1 0 [] 0 [] [⟨0,default,0,0,0⟩] [⟨0,0,[]⟩] [1] [pi0] [] [] =
  some ([⟨15,0,0⟩],0,[0],0,0,0,1,0,0,[],[],[],[⟨0,default,1,0,0⟩],[⟨0,0,[]⟩],[pi1]):=by
 rw [step_has]
 have talks:world_machine_talks 0 1 ⟨15,0,0⟩ [⟨15,0,0⟩] 0 [0] 0 0 0 1 0 0 [] [] [] [⟨0,default,0,0,0⟩] [⟨1,0,[]⟩] [] [pi0] [] [] = some (false,[⟨15,0,0⟩],0,[0],0,0,0,1,0,0,[⟨0,default,1,0,0⟩],[pi1]):=by
  unfold world_machine_talks
  show (pipe_Get pi0 1 false).bind _ = _
  rw [get_pi]; rfl
 have does:world_machine_does 0 1 ⟨15,0,0⟩ [⟨15,0,0⟩] 0 [0] 0 0 0 1 0 0 [] [] [] [⟨0,default,0,0,0⟩] [⟨1,0,[]⟩] [] [pi0] [] [] = some (false,[⟨15,0,0⟩],0,[0],0,0,0,1,0,0,[],[],[⟨0,default,1,0,0⟩],[pi1]):=by
  show (world_machine_talks 0 1 ⟨15,0,0⟩ [⟨15,0,0⟩] 0 [0] 0 0 0 1 0 0 [] [] [] [⟨0,default,0,0,0⟩] [⟨1,0,[]⟩] [] [pi0] [] []).bind _ = _
  rw [talks]; rfl
 show (world_machine_does 0 1 ⟨15,0,0⟩ [⟨15,0,0⟩] 0 [0] 0 0 0 1 0 0 [] [] [] [⟨0,default,0,0,0⟩] [⟨1,0,[]⟩] [] [pi0] [] []).bind _ = _
 rw [does]; rfl
theorem play_pg:world_Play pg 1 [0,0] = some (3,1,0,⟨0,0⟩,[],[1],[]):=by
 unfold world_Play
 rw [chk_pg]
 show loopO (world_Play_l3 pg 1 [0,0]) 0 = _
 rw [loopO_inl (step:=world_Play_l3 pg 1 [0,0]) (s:=0) (s':=1) rfl,loopO_inl (step:=world_Play_l3 pg 1 [0,0]) (s:=1) (s':=2) rfl]
 have nm:world_newMachine pg 1 = some ([⟨15,0,0⟩],0,[0],0,0,0,0,0,0,[],[⟨0,default,0,0,0⟩],[⟨0,0,[]⟩],[1],[pi0],[],[]):=by
  show loopO (world_newMachine_l2 pg 1) (0,[]) = _
  rw [loopO_inl (step:=world_newMachine_l2 pg 1) (s:=(0,[])) (s':=(1,[⟨0,0,[]⟩])) rfl,loopO_out (step:=world_newMachine_l2 pg 1) (s:=(1,[⟨0,0,[]⟩])) (x:=loopO (world_newMachine_l1 pg [⟨0,0,[]⟩]) (0,[])) rfl,
   loopO_inl (step:=world_newMachine_l1 pg [⟨0,0,[]⟩]) (s:=(0,[])) (s':=(1,[pi0])) rfl]
  exact loopO_inr rfl
 refine loopO_out ?_
 show Option.map Sum.inr ((world_newMachine pg 1).bind _) = _
 rw [nm]
 congr 1
 show loopO (world_Play_l2 [0,0]) (0,[⟨15,0,0⟩],0,[0],0,0,0,0,0,0,[],[],[],[⟨0,default,0,0,0⟩],[⟨0,0,[]⟩],[1],[pi0],[],[]) = _
 have st:∀ gl,world_machine_stuck_1 [⟨15,0,0⟩] 0 [0] 0 0 0 1 0 0 [] [] [] [⟨0,default,1,0,0⟩] [⟨0,0,[]⟩] gl [pi1] [] [] = some true:=fun gl=>by
  have:slices_IndexFunc_task_1 [⟨0,default,1,0,0⟩] = some (-1):=by
   unfold slices_IndexFunc_task_1
   rw [loopO_inl (step:=slices_IndexFunc_task_1_l1 [⟨0,default,1,0,0⟩]) (s:=0) (s':=1) rfl]
   exact loopO_inr rfl
  unfold world_machine_stuck_1 slices_ContainsFunc_task_1
  rw [this]; rfl
 rw [loopO_inl (s':=(1,[⟨15,0,0⟩],0,[0],0,0,3,1,0,0,[],[],[],[⟨0,default,1,0,0⟩],[⟨0,0,[]⟩],[],[pi1],[],[])) (by
  show (world_machine_step_1 0 [⟨15,0,0⟩] 0 [0] 0 0 [] 0 1 0 [] 0 [] [⟨0,default,0,0,0⟩] [⟨0,0,[]⟩] [1] [pi0] [] []).bind _ = _
  rw [step_pg]
  show (world_machine_stuck_1 [⟨15,0,0⟩] 0 [0] 0 0 0 1 0 0 [] [] [] [⟨0,default,1,0,0⟩] [⟨0,0,[]⟩] [] [pi1] [] []).bind _ = _
  rw [st]; rfl)]
 refine loopO_out ?_
 show Option.map Sum.inr (world_Play_j1 [⟨15,0,0⟩] 0 [0] 0 0 3 1 0 0 [] [] [] [⟨0,default,1,0,0⟩] [⟨0,0,[]⟩] [] [pi1] [] []) = _
 congr 1
 unfold world_Play_j1
 rw [loopO_inl (s':=(1,[1])) rfl]
 exact loopO_inr rfl
theorem begun:taskmilllaw_worldBegun = some true:=by
 show (world_Play pg 1 [0,0]).bind _ = _
 rw [play_pg]; rfl
noncomputable section
abbrev ps (n:Int):GProgram:=⟨code n,0,[],0,0⟩
theorem chk_ps (n:Int):code_Check (ps n) = some ⟨0,0⟩:=by
 show loopO (code_Check_l2 (ps n)) 0 = _
 rw [loopO_out (step:=code_Check_l2 (ps n)) (s:=0) (x:=loopO (code_Check_l1 (ps n)) 0) rfl,loopO_inl (step:=code_Check_l1 (ps n)) (s:=0) (s':=1) rfl,loopO_inl (step:=code_Check_l1 (ps n)) (s:=1) (s':=2) rfl,
  loopO_inl (step:=code_Check_l1 (ps n)) (s:=2) (s':=3) rfl,loopO_inl (step:=code_Check_l1 (ps n)) (s:=3) (s':=4) rfl]
 exact loopO_inr rfl
theorem play_ps {n:Int} (hn:1≤n∧n≤200) {k:Nat} (hk:k≤400):∃ (Ste:Int) (tr:List GEvent),world_Play (ps n) 1 (scr k) = some (0,Ste,(k:Int),⟨0,0⟩,tr,[2],[]) ∧
  (tr.length:Int) * n≤(k:Int)∧(k:Int) < ((tr.length:Int)+1) * n:=by
 have hlen:=scr_len k
 obtain ⟨s,h1,h2⟩:=sim hn k hk k (Nat.le_refl _)
 obtain ⟨Ste,sl,w,q,tr,r,rfl,hr,hw,g1,g2,g3,g4,g5,g6,g7⟩:=h2
 refine ⟨Ste,tr,?_,?_,by rw [← hw]; exact g1⟩
 ·unfold world_Play
  rw [chk_ps]
  show (bif decide ((5000:Int) < (((scr k).length:Nat):Int)) then _ else loopO (world_Play_l3 (ps n) 1 (scr k)) 0) = _
  rw [decide_eq_false (by omega),cond_false]
  refine loopO_all (step:=world_Play_l3 (ps n) 1 (scr k)) (fun i=>((i:Nat):Int)) (some (0,Ste,(k:Int),⟨0,0⟩,tr,[2],[])) (scr k).length (fun i hi=>?_) ?_
  ·unfold world_Play_l3
   have hx:ix (scr k) (i:Int) = 0∨ix (scr k) (i:Int) = -1:=by
    rw [ix_get hi]; exact scr_mem k _ (List.getElem_mem hi)
   simp only [show decide ((0:Int)≤(i:Int)) = true from by simp,show decide ((i:Int) < (((scr k).length:Nat):Int)) = true from by simp; omega,Bool.and_self,cond_true]
   rw [decide_eq_false (by omega),decide_eq_false (by omega)]
   show some (Sum.inl (IntKind.i64.wrap ((i:Int)+1))) = _
   rw [wrapN (by omega)]
  ·unfold world_Play_l3
   rw [decide_eq_false (by omega),cond_false]
   congr 1
   have nm:world_newMachine (ps n) 1 = some (code n,0,[],0,0,0,0,0,0,[],[⟨0,default,0,0,0⟩],[⟨0,0,[]⟩],[1],[],[],[]):=by
    show loopO (world_newMachine_l2 (ps n) 1) (0,[]) = _
    rw [loopO_inl (step:=world_newMachine_l2 (ps n) 1) (s:=(0,[])) (s':=(1,[⟨0,0,[]⟩])) rfl,loopO_out (step:=world_newMachine_l2 (ps n) 1) (s:=(1,[⟨0,0,[]⟩])) (x:=loopO (world_newMachine_l1 (ps n) [⟨0,0,[]⟩]) (0,[])) rfl]
    exact loopO_inr rfl
   rw [nm]
   show loopO (world_Play_l2 (scr k)) (stt 0 n 0 0 0 [] ⟨0,default,0,0,0⟩ ⟨0,0,[]⟩ [1]) = _
   rw [h1,l2_end (by omega)]
 ·have e:((tr.length:Int)+1) * n = (tr.length:Int) * n+n:=by rw [Int.add_mul,Int.one_mul]
  omega
theorem sleeps_law (n ticks:Int):taskmilllaw_WorldSleeps n ticks = some true:=by
 unfold taskmilllaw_WorldSleeps
 rw [begun,Option.bind_some]
 by_cases hb:n < 1∨200 < n∨ticks < 0∨400 < ticks
 ·have:((decide (n < 1)) || ((decide ((200:Int) < n)) || ((decide (ticks < 0)) || (decide ((400:Int) < ticks))))) = true:=by simpa using hb
  rw [this]; rfl
 ·have:((decide (n < 1)) || ((decide ((200:Int) < n)) || ((decide (ticks < 0)) || (decide ((400:Int) < ticks))))) = false:=by simpa using hb
  rw [this]
  obtain ⟨k,rfl⟩:∃ k:Nat,ticks = ((k:Nat):Int):=⟨ticks.toNat,by omega⟩
  show loopO (taskmilllaw_WorldSleeps_l1 n (k:Int)) (0,scr 0) = _
  refine loopO_all (step:=taskmilllaw_WorldSleeps_l1 n (k:Int)) (fun i=>(((i:Nat):Int),scr i)) (some true) k (fun i hi=>?_) ?_
  ·unfold taskmilllaw_WorldSleeps_l1
   simp only
   rw [decide_eq_true (by omega),cond_true,decide_eq_true (by rw [List.length_append,scr_len]; simp; omega),cond_true,wrapN (by omega)]
   rfl
  ·unfold taskmilllaw_WorldSleeps_l1
   simp only
   rw [decide_eq_false (by omega),cond_false]
   congr 1
   obtain ⟨Ste,tr,hp,g1,g2⟩:=play_ps (n:=n) (by omega) (k:=k) (by omega)
   show (world_Play (ps n) 1 (scr k)).bind _ = _
   rw [hp]
   simp only [Option.bind_some]
   have hd:Int.tdiv (k:Int) n = (tr.length:Int):=by
    rw [Int.tdiv_eq_ediv_of_nonneg (by omega)]
    have c:n * (tr.length:Int) = (tr.length:Int) * n:=Int.mul_comm _ _
    have e:((tr.length:Int)+1) * n = (tr.length:Int) * n+n:=by rw [Int.add_mul,Int.one_mul]
    exact (Int.ediv_eq_iff_of_pos (by omega)).2 ⟨by omega,by omega⟩
   have hl:(tr.length:Int)≤(k:Int):=by
    have:(tr.length:Int) * 1≤(tr.length:Int) * n:=Int.mul_le_mul_of_nonneg_left (by omega) (by omega)
    omega
   rw [hd,wrap_id (by omega) (by omega)]
   have hn0:(n != 0) = true:=by simp; omega
   simp [hn0]
end
end Go.Proofs.YthcdpjkgdcpkmaaDoor
end
