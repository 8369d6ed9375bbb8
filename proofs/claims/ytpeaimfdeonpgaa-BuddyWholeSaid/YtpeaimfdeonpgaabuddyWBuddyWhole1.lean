/-
 What laws of the chapter buddy compute, and lemmas on it.
 No conditions.
-/
import Derived.Test.YtpeaimfdeonpgaaProg
import Derived.Test.YtpeaimfdeonpgaabuddyG
set_option linter.unusedSimpArgs false
set_option linter.unusedVariables false
set_option linter.unusedSectionVars false
namespace Go.Proofs.Ytpeaimfdeonpgaa
open Go Go.Sx
attribute [local irreducible] Wk RunAt
theorem follows:Try.prog.follows .mixedOrders = true:=by kernel_rfl
attribute [local bitvec_to_nat] leL_flD renL_flD leL_flP renL_flP leC_famP leC_famP0 flP_0 ren_famP noN_eq lenP_same lenP_one lenP_app lenP_set lenP_famP Nat.le_refl List.length_set leC_mpP leC_mpP1 mapLe_eq mapLe1_eq ren_mpP ren_mpP1
theorem rk {P:Program} {fr:Fr} {hp:Hp} {nx:Nat} {ops:Array Oper} {d:Bool} {l:List Oper} {acc:List Nms} {K:Fr→Hp→Nat→Prop} (n:Nat) (k:RunAt P d ops (List.drop n l) (getSeg (evalS P d ops n l [] ⟨fr,hp,nx,acc,[]⟩)).fr (getSeg (evalS P d ops n l [] ⟨fr,hp,nx,acc,[]⟩)).hp (getSeg (evalS P d ops n l [] ⟨fr,hp,nx,acc,[]⟩)).nx (getSeg (evalS P d ops n l [] ⟨fr,hp,nx,acc,[]⟩)).acc K) (h:(evalS P d ops n l [] ⟨fr,hp,nx,acc,[]⟩).map (·.obs) = some []:=by kernel_rfl):RunAt P d ops l fr hp nx acc K:=rs n [] [] h allP_nil k
set_option maxRecDepth 100000 in
set_option maxHeartbeats 200000000 in
theorem buddy_fault_spec (code:Int) (xat:Int) (r:Fault) (h:buddy_fault code xat = some r):SpecW Try.prog 21 [iS code,iS xat] [] 0 (fun x h n=>x = .agg (Enc.cells r)∧h = []∧n = 0):=by
 unfold buddy_fault at h
 refine spec_of (draw_ok _) Try.func21 rfl (by decide) rfl (by kernel_rfl) ?_
 refine seq_np ?_
 refine reg_f ?_
 refine rk 1 ?_
 refine rf [(0,iS code),(1,iS xat),(4,.ptr 0 0)] [(0,.row 29 [iS 0,iS 0])] 1 (by kernel_rfl) ?_
 refine wk_id ?_
 refine seq_np ?_
 refine reg_f ?_
 refine rk 4 ?_
 refine rf [(4,.ptr 0 0)] [(0,.row 29 [iS code,iS xat])] 1 (by kernel_rfl) ?_
 refine wk_id ?_
 obtain rfl:=Option.some.inj h
 refine ret_at (.agg [iS code,iS xat]) (by kernel_rfl) ?_
 exact ret_e [] [] (by simp only [push_cast,seval]) (by simp only [push_cast,seval]) rfl rfl rfl

set_option maxRecDepth 100000 in
set_option maxHeartbeats 200000000 in
theorem buddy_New_spec (bits:Int) (r:Int×Fault×(List GBlock)) (h:buddy_New bits = some r):SpecW Try.prog 12 [iS bits] [] 0 (fun x h n=>x = .tup [.agg [iS r.1,.v (.slice none 0 0),.own 0 0 r.2.2.length],.agg (Enc.cells r.2.1)]∧h = [(0,.row 38 (fl r.2.2))]∧n = 1):=by
 unfold buddy_New at h
 refine spec_of (draw_ok _) Try.func12 rfl (by decide) rfl (by kernel_rfl) ?_
 refine seq_np ?_
 refine reg_f ?_
 refine rk 2 ?_
 refine rf [(0,iS bits),(2,.ptr 0 0),(3,.ptr 1 0)] [(0,.row 24 [iS 0,.v (.slice none 0 0),.v (.slice none 0 0)]),(1,.row 29 [iS 0,iS 0])] 2 (by kernel_rfl) ?_
 refine wk_id ?_
 refine seq_np ?_
 refine seq_cut (A:=Unit) (fun _=>([(0,iS bits),(2,.ptr 0 0),(3,.ptr 1 0),(9,bS ((decide (bits < 0)) || (decide ((30:Int) < bits))))],[(0,.row 24 [iS 0,.v (.slice none 0 0),.v (.slice none 0 0)]),(1,.row 29 [iS 0,iS 0])],2)) (fun _=>True) (fun K10 hK10=>?_) (fun _ _=>?_)
 ·refine reg_f ?_
  refine rk 3 ?_
  refine run_split 6 (decide (bits < 0)) (.inl (by kernel_rfl)) (fun g11=>?_) (fun g11=>?_)
  ·refine rk 3 ?_
   refine rf [(0,iS bits),(2,.ptr 0 0),(3,.ptr 1 0),(9,bS true)] [(0,.row 24 [iS 0,.v (.slice none 0 0),.v (.slice none 0 0)]),(1,.row 29 [iS 0,iS 0])] 2 (by kernel_rfl) ?_
   exact hK10 () _ _ _ trivial (leSt_m [(0,0),(1,1)] [] (by (try simp only [g11]) <;> simp only [push_cast,seval]) (by (try simp only [g11]) <;> simp only [push_cast,seval]) rfl rfl rfl)
  ·refine rk 3 ?_
   refine rf [(0,iS bits),(2,.ptr 0 0),(3,.ptr 1 0),(9,bS (decide ((30:Int) < bits)))] [(0,.row 24 [iS 0,.v (.slice none 0 0),.v (.slice none 0 0)]),(1,.row 29 [iS 0,iS 0])] 2 (by kernel_rfl) ?_
   exact hK10 () _ _ _ trivial (leSt_m [(0,0),(1,1)] [] (by (try simp only [g11]) <;> simp only [push_cast,seval]) (by (try simp only [g11]) <;> simp only [push_cast,seval]) rfl rfl rfl)
 ·dsimp only
  refine cond_sx h (by kernel_rfl) (fun g18 h=>?_) (fun g18 h=>?_)
  ·refine seq_np ?_
   refine reg_f ?_
   refine rk 1 ?_
   obtain ⟨r13,hr13,h⟩:=bind_sx h
   refine run_call 21 [iS 3,iS (-1)] (some 11) (by kernel_rfl) ?_
   refine call_0 (buddy_fault_spec 3 (-1) r13 hr13) (by simp only [push_cast,seval]) (by simp only [push_cast,seval]) ?_
   refine back_f ?_
   refine rk 2 ?_
   refine rf [(2,.ptr 0 0),(3,.ptr 1 0)] [(0,.row 24 [iS 0,.v (.slice none 0 0),.v (.slice none 0 0)]),(1,.row 29 (Enc.cells r13))] 2 (by kernel_rfl) ?_
   refine wk_id ?_
   obtain rfl:=Option.some.inj h
   refine ret_at (.tup [.agg [iS 0,.v (.slice none 0 0),.v (.slice none 0 0)],.agg (Enc.cells r13)]) (by kernel_rfl) ?_
   exact ret_e [] [] (by simp only [push_cast,seval]) (by simp only [push_cast,seval]) rfl rfl rfl
  ·refine wk_id ?_
   refine chk_sx h (fun g17 h=>?_)
   refine seq_np ?_
   refine reg_f ?_
   have k16:0≤bits:=by first | simpa only [Bool.and_eq_true,decide_eq_true_eq,bne_iff_ne,ne_eq] using g17 | (simp at g17 ⊢; omega) | simp
   refine rs 9 [none,none,some ⟨iS (IntKind.i64.wrap ((1:Int) * 2 ^ (min (bits).toNat (IntKind.i64).bits))),[],2,[]⟩] _ (by kernel_rfl) (allP_cons (ob_p (v:=iS (IntKind.i64.wrap ((1:Int) * 2 ^ (min (bits).toNat (IntKind.i64).bits)))) (nx:=2) (r:=[]) k16) allP_nil) ?_
   refine rf [(2,.ptr 0 0),(3,.ptr 1 0)] [(0,.row 24 [iS bits,.v (.slice none 0 0),.own 2 0 ([(GBlock.mk 0 (IntKind.i64.wrap ((1:Int) * 2 ^ (min (bits).toNat (IntKind.i64).bits))))]:List GBlock).length]),(1,.row 29 [iS 0,iS 0]),(2,.row 38 (fl ([(GBlock.mk 0 (IntKind.i64.wrap ((1:Int) * 2 ^ (min (bits).toNat (IntKind.i64).bits))))]:List GBlock)))] 3 (by kernel_rfl) ?_
   refine wk_id ?_
   obtain rfl:=Option.some.inj h
   refine ret_at (.tup [.agg [iS bits,.v (.slice none 0 0),.own 2 0 ([(GBlock.mk 0 (IntKind.i64.wrap ((1:Int) * 2 ^ (min (bits).toNat (IntKind.i64).bits))))]:List GBlock).length],.agg [iS 0,iS 0]]) (by kernel_rfl) ?_
   exact ret_e [(0,2)] [] (by simp only [push_cast,seval]) (by simp only [push_cast,seval]) rfl rfl rfl

set_option maxRecDepth 100000 in
set_option maxHeartbeats 200000000 in
theorem buddy_power_spec (n:Int) (r:Bool) (h:buddy_power n = some r):SpecW Try.prog 22 [iS n] [] 0 (fun x h n=>x = bS r∧h = []∧n = 0):=by
 unfold buddy_power at h
 refine spec_of (draw_ok _) Try.func22 rfl (by decide) rfl (by kernel_rfl) ?_
 refine seq_np ?_
 refine reg_f ?_
 refine rk 1 ?_
 refine rf [(0,iS n)] [] 0 (by kernel_rfl) ?_
 refine wk_id ?_
 refine seq_cut (A:=Unit) (fun _=>([(2,bS ((decide ((0:Int) < n)) && ((IntKind.i64.wrap (((BitVec.ofInt (IntKind.i64).bits n &&& BitVec.ofInt (IntKind.i64).bits (IntKind.i64.wrap (n - 1))).toNat:Nat):Int)) == 0)))],[],0)) (fun _=>True) (fun K32 hK32=>?_) (fun _ _=>?_)
 ·refine reg_f ?_
  refine rk 3 ?_
  refine run_split 5 (decide ((0:Int) < n)) (.inl (by kernel_rfl)) (fun g33=>?_) (fun g33=>?_)
  ·refine rk 7 ?_
   refine rf [(2,bS ((IntKind.i64.wrap (((BitVec.ofInt (IntKind.i64).bits n &&& BitVec.ofInt (IntKind.i64).bits (IntKind.i64.wrap (n - 1))).toNat:Nat):Int)) == 0))] [] 0 (by kernel_rfl) ?_
   exact hK32 () _ _ _ trivial (leSt_m [] [] (by (try simp only [g33]) <;> simp only [push_cast,seval]) (by (try simp only [g33]) <;> simp only [push_cast,seval]) rfl rfl rfl)
  ·refine rk 7 ?_
   refine rf [(2,bS false)] [] 0 (by kernel_rfl) ?_
   exact hK32 () _ _ _ trivial (leSt_m [] [] (by (try simp only [g33]) <;> simp only [push_cast,seval]) (by (try simp only [g33]) <;> simp only [push_cast,seval]) rfl rfl rfl)
 ·dsimp only
  obtain rfl:=Option.some.inj h
  refine ret_at (bS ((decide ((0:Int) < n)) && ((IntKind.i64.wrap (((BitVec.ofInt (IntKind.i64).bits n &&& BitVec.ofInt (IntKind.i64).bits (IntKind.i64.wrap (n - 1))).toNat:Nat):Int)) == 0))) (by kernel_rfl) ?_
  exact ret_e [] [] (by simp only [push_cast,seval]) (by simp only [push_cast,seval]) rfl rfl rfl

set_option maxRecDepth 100000 in
set_option maxHeartbeats 200000000 in
theorem slices_Grow_Block_spec (n:Int) (r:List GBlock) (h:slices_Grow_Block n = some r):SpecW Try.prog 44 [.v (.slice none 0 0),.v (.int .i64 n)] [] 0 (fun x h n=>x = .own 0 0 r.length∧h = [(0,.row 38 (fl r))]∧n = 1):=by
 unfold slices_Grow_Block at h
 obtain ⟨⟨h1,h2⟩,rfl⟩:=bif_some h
 exact ge_grow_spec n h1 h2

set_option maxRecDepth 100000 in
set_option maxHeartbeats 200000000 in
theorem slices_Concat_Block_spec (slices:(List (List GBlock))) (r:(List GBlock)) (h:slices_Concat_Block slices = some r):SpecW Try.prog 25 [.sl slices.length (fl slices)] [] 0 (fun x h n=>x = .own 0 0 r.length∧h = [(0,.row 38 (fl r))]∧n = 1):=by
 unfold slices_Concat_Block at h
 refine spec_of (draw_ok _) Try.func25 rfl (by decide) rfl (by kernel_rfl) ?_
 refine seq_np ?_
 refine reg_f ?_
 refine rk 1 ?_
 refine rf [(0,.sl slices.length (fl slices))] [] 0 (by kernel_rfl) ?_
 refine wk_id ?_
 refine seq_np ?_
 refine reg_f ?_
 refine rk 1 ?_
 refine rf [(0,.sl slices.length (fl slices)),(3,iS 0)] [] 0 (by kernel_rfl) ?_
 refine wk_id ?_
 refine seq_np ?_
 refine seq_np ?_
 refine reg_f ?_
 refine rk 3 ?_
 refine rf [(0,.sl slices.length (fl slices)),(3,iS 0),(9,.sl slices.length (fl slices)),(10,iS (slices.length:Int)),(11,iS 0)] [] 0 (by kernel_rfl) ?_
 refine wk_id ?_
 refine block_np ?_
 refine loop_sx (S:=Int×Int) (fun a=>([(0,.sl slices.length (fl slices)),(3,iS a.1),(9,.sl slices.length (fl slices)),(10,iS (slices.length:Int)),(11,iS a.2)],[],0)) h (leSt_m [] [] (by simp only [push_cast,seval]) (by simp only [push_cast,seval]) rfl rfl rfl) ?_
 rintro ⟨size7,t11q7⟩ o3 R3 h hr3 hn3 hx3 ht3
 try dsimp only at h hn3 ⊢
 unfold slices_Concat_Block_l2 at h
 try dsimp only at h
 refine seq_np ?_
 refine reg_f ?_
 refine rk 1 ?_
 refine rf [(0,.sl slices.length (fl slices)),(3,iS size7),(9,.sl slices.length (fl slices)),(10,iS (slices.length:Int)),(11,iS t11q7),(12,bS (decide (t11q7 < (slices.length:Int))))] [] 0 (by kernel_rfl) ?_
 refine wk_id ?_
 refine seq_np ?_
 refine cond_sx h (by kernel_rfl) (fun g373 h=>?_) (fun g373 h=>?_)
 ·refine wk_id ?_
  refine seq_np ?_
  refine block_np ?_
  refine chk_sx h (fun g308 h=>?_)
  refine seq_np ?_
  refine reg_f ?_
  have k307:0≤t11q7∧t11q7 < (slices.length:Int):=by first | simpa only [Bool.and_eq_true,decide_eq_true_eq,bne_iff_ne,ne_eq] using g308 | (simp at g308 ⊢; omega) | simp
  refine rs 3 [some ⟨.iptr (fl slices) ((t11q7).toNat * 1),[],0,[]⟩,some ⟨.sl (ix slices t11q7).length (fl (ix slices t11q7)),[],0,[]⟩] _ (by kernel_rfl) (allP_cons (ob_ld slices t11q7 1 0 ((t11q7).toNat * 1) k307 rfl (by decide) (by first | rfl | omega) (dflS Try.prog 22) (.sl (ix slices t11q7).length (fl (ix slices t11q7))) rfl 0 []) (allP_cons (ob_ix_l slices 1 0 t11q7 k307) allP_nil)) ?_
  refine rf [(0,.sl slices.length (fl slices)),(3,iS size7),(5,.sl (ix slices t11q7).length (fl (ix slices t11q7))),(9,.sl slices.length (fl slices)),(10,iS (slices.length:Int)),(11,iS t11q7)] [] 0 (by kernel_rfl) ?_
  refine wk_id ?_
  refine seq_np ?_
  refine reg_f ?_
  refine rk 5 ?_
  refine rf [(0,.sl slices.length (fl slices)),(3,iS (IntKind.i64.wrap (size7+(((ix slices t11q7).length:Nat):Int)))),(9,.sl slices.length (fl slices)),(10,iS (slices.length:Int)),(11,iS t11q7)] [] 0 (by kernel_rfl) ?_
  refine wk_id ?_
  refine seq_np ?_
  refine reg_f ?_
  refine rk 2 ?_
  refine rf [(0,.sl slices.length (fl slices)),(3,iS (IntKind.i64.wrap (size7+(((ix slices t11q7).length:Nat):Int)))),(9,.sl slices.length (fl slices)),(10,iS (slices.length:Int)),(11,iS t11q7),(20,bS (decide ((IntKind.i64.wrap (size7+(((ix slices t11q7).length:Nat):Int))) < 0)))] [] 0 (by kernel_rfl) ?_
  refine wk_id ?_
  refine cond_sx h (by kernel_rfl) (fun g309 h=>?_) (fun g309 h=>?_)
  ·refine reg_f ?_
   refine rk 1 ?_
   cases h
  ·refine wk_id ?_
   refine wk_id ?_
   refine reg_f ?_
   refine rk 2 ?_
   refine rf [(0,.sl slices.length (fl slices)),(3,iS (IntKind.i64.wrap (size7+(((ix slices t11q7).length:Nat):Int)))),(9,.sl slices.length (fl slices)),(10,iS (slices.length:Int)),(11,iS (IntKind.i64.wrap (t11q7+1)))] [] 0 (by kernel_rfl) ?_
   exact hn3 ((IntKind.i64.wrap (size7+(((ix slices t11q7).length:Nat):Int))),(IntKind.i64.wrap (t11q7+1))) _ _ _ (Option.some.inj h).symm (leSt_m [] [] (by simp only [push_cast,seval]) (by simp only [push_cast,seval]) rfl rfl rfl)
 ·change R3 (.exit 0) _ _ _
  refine ex_cast hx3 (id:=0) ?_
  obtain ⟨r0,h,e0⟩:=map_sx h
  have e1:=hr3 r0 e0.symm
  subst r0
  refine wk_id ?_
  refine wk_id ?_
  refine seq_np ?_
  refine reg_f ?_
  refine rk 1 ?_
  obtain ⟨r311,hr311,h⟩:=bind_sx h
  refine call_x (slices_Grow_Block_spec size7 r311 hr311) (args:=[.v (.slice none 0 0),iS size7]) (dst:=(some 24)) (by kernel_rfl) [] 0 (by kernel_rfl) [] [] (.own 0 0 r311.length) [(0,.row 38 (fl r311))] (by simp only [push_cast,seval]) (by simp only [push_cast,seval]) (by kernel_rfl) (.inl rfl) (by simp only [push_cast,seval]) (by simp only [push_cast,seval]) ?_
  refine rk 1 ?_
  refine rf [(0,.sl slices.length (fl slices)),(6,.own 0 0 r311.length)] [(0,.row 38 (fl r311))] 1 (by kernel_rfl) ?_
  refine wk_id ?_
  refine seq_np ?_
  refine seq_np ?_
  refine reg_f ?_
  refine rk 3 ?_
  refine rf [(6,.own 0 0 r311.length),(25,.sl slices.length (fl slices)),(26,iS (slices.length:Int)),(27,iS 0)] [(0,.row 38 (fl r311))] 1 (by kernel_rfl) ?_
  refine wk_id ?_
  refine block_np ?_
  refine loop_sx (S:=Int×(List GBlock)) (fun a=>([(6,.own 0 0 a.2.length),(25,.sl slices.length (fl slices)),(26,iS (slices.length:Int)),(27,iS a.1)],[(0,.row 38 (fl a.2))],1)) h (leSt_m [(0,0)] [] (by simp only [push_cast,seval]) (by simp only [push_cast,seval]) rfl rfl rfl) ?_
  rintro ⟨t27q7,c0q12⟩ o4 R4 h hr4 hn4 hx4 ht4
  try dsimp only at h hn4 ⊢
  unfold slices_Concat_Block_l1 at h
  try dsimp only at h
  refine seq_np ?_
  refine reg_f ?_
  refine rk 1 ?_
  refine rf [(6,.own 0 0 c0q12.length),(25,.sl slices.length (fl slices)),(26,iS (slices.length:Int)),(27,iS t27q7),(28,bS (decide (t27q7 < (slices.length:Int))))] [(0,.row 38 (fl c0q12))] 1 (by kernel_rfl) ?_
  refine wk_id ?_
  refine seq_np ?_
  refine cond_sx h (by kernel_rfl) (fun g372 h=>?_) (fun g372 h=>?_)
  ·refine wk_id ?_
   refine seq_np ?_
   refine block_np ?_
   refine chk_sx h (fun g367 h=>?_)
   refine seq_np ?_
   refine reg_f ?_
   have k366:0≤t27q7∧t27q7 < (slices.length:Int):=by first | simpa only [Bool.and_eq_true,decide_eq_true_eq,bne_iff_ne,ne_eq] using g367 | (simp at g367 ⊢; omega) | simp
   refine rs 3 [some ⟨.iptr (fl slices) ((t27q7).toNat * 1),[],1,[]⟩,some ⟨.sl (ix slices t27q7).length (fl (ix slices t27q7)),[],1,[]⟩] _ (by kernel_rfl) (allP_cons (ob_ld slices t27q7 1 0 ((t27q7).toNat * 1) k366 rfl (by decide) (by first | rfl | omega) (dflS Try.prog 22) (.sl (ix slices t27q7).length (fl (ix slices t27q7))) rfl 1 []) (allP_cons (ob_ix_l slices 1 1 t27q7 k366) allP_nil)) ?_
   refine rf [(6,.own 0 0 c0q12.length),(8,.sl (ix slices t27q7).length (fl (ix slices t27q7))),(25,.sl slices.length (fl slices)),(26,iS (slices.length:Int)),(27,iS t27q7)] [(0,.row 38 (fl c0q12))] 1 (by kernel_rfl) ?_
   refine wk_id ?_
   refine chk_sx h (fun g371 h=>?_)
   refine reg_f ?_
   have k370:(c0q12++(ix slices t27q7)).length * 16≤140737488355328:=by first | simpa only [Bool.and_eq_true,decide_eq_true_eq,bne_iff_ne,ne_eq] using g371 | (simp at g371 ⊢; omega) | simp
   refine rs 4 [none,none,some ⟨.own 1 0 (c0q12++(ix slices t27q7)).length,[(1,.row 38 (fl (c0q12++(ix slices t27q7)))),(0,.dead)],2,[0]⟩] _ (by kernel_rfl) (allP_cons (ob_app (P:=Try.prog) c0q12 (ix slices t27q7) 2 16 rfl (fl (ix slices t27q7)) (ix slices t27q7).length rfl rfl ((fl (ix slices t27q7)).length = (ix slices t27q7).length * 2) (app_sl (ix slices t27q7) 2 rfl) 38 (by kernel_rfl) (by decide) k370 0 1 []) allP_nil) ?_
   refine rf [(6,.own 1 0 (c0q12++(ix slices t27q7)).length),(25,.sl slices.length (fl slices)),(26,iS (slices.length:Int)),(27,iS t27q7)] [(0,.dead),(1,.row 38 (fl (c0q12++(ix slices t27q7))))] 2 (by kernel_rfl) ?_
   refine wk_id ?_
   refine wk_id ?_
   refine reg_f ?_
   refine rk 2 ?_
   refine rf [(6,.own 1 0 (c0q12++(ix slices t27q7)).length),(25,.sl slices.length (fl slices)),(26,iS (slices.length:Int)),(27,iS (IntKind.i64.wrap (t27q7+1)))] [(0,.dead),(1,.row 38 (fl (c0q12++(ix slices t27q7))))] 2 (by kernel_rfl) ?_
   exact hn4 ((IntKind.i64.wrap (t27q7+1)),(c0q12++(ix slices t27q7))) _ _ _ (Option.some.inj h).symm (leSt_m [(0,1)] [] (by simp only [push_cast,seval]) (by simp only [push_cast,seval]) rfl rfl rfl)
  ·change R4 (.exit 2) _ _ _
   refine ex_cast hx4 (id:=2) ?_
   obtain ⟨r0,h,e0⟩:=map_sx h
   have e1:=hr4 r0 e0.symm
   subst r0
   refine wk_id ?_
   refine wk_id ?_
   refine seq_np ?_
   refine reg_f ?_
   refine rk 2 ?_
   refine rf [(2,.own 0 0 c0q12.length)] [(0,.row 38 (fl c0q12))] 1 (by kernel_rfl) ?_
   refine wk_id ?_
   obtain rfl:=Option.some.inj h
   refine ret_at (.own 0 0 c0q12.length) (by kernel_rfl) ?_
   exact ret_e [(0,0)] [] (by simp only [push_cast,seval]) (by simp only [push_cast,seval]) rfl rfl rfl

set_option maxRecDepth 100000 in
set_option maxHeartbeats 200000000 in
theorem slices_Values_Block_spec (s:(List GBlock)) (r:(List GBlock)) (h:slices_Values_Block s = some r):SpecW Try.prog 24 [.sl s.length (fl s)] [] 0 (fun x h n=>x = .clo 43 [.ptr 0 0]∧h = [(0,.row 22 [.sl r.length (fl r)])]∧n = 1):=by
 unfold slices_Values_Block at h
 refine spec_of (draw_ok _) Try.func24 rfl (by decide) rfl (by kernel_rfl) ?_
 refine seq_np ?_
 refine reg_f ?_
 refine rk 2 ?_
 refine rf [(1,.ptr 0 0)] [(0,.row 22 [.sl s.length (fl s)])] 1 (by kernel_rfl) ?_
 refine wk_id ?_
 refine seq_np ?_
 refine reg_f ?_
 refine rk 2 ?_
 refine rf [(2,.clo 43 [.ptr 0 0])] [(0,.row 22 [.sl s.length (fl s)])] 1 (by kernel_rfl) ?_
 refine wk_id ?_
 obtain rfl:=Option.some.inj h
 refine ret_at (.clo 43 [.ptr 0 0]) (by kernel_rfl) ?_
 exact ret_e [(0,0)] [] (by simp only [push_cast,seval]) (by simp only [push_cast,seval]) rfl rfl rfl

set_option maxRecDepth 100000 in
set_option maxHeartbeats 200000000 in
theorem slices_Collect_Block_spec (seq:(List GBlock)) (r:List GBlock) (h:slices_Collect_Block seq = some r):SpecW Try.prog 41 [.clo 43 [.iptr [.sl seq.length (fl seq)] 0]] [] 0 (fun x h n=>x = .own 0 0 r.length∧h = [(0,.row 38 (fl r))]∧n = 1):=by
 unfold slices_Collect_Block at h
 obtain ⟨h1,rfl⟩:=bif_some h
 exact ge_collect_spec (p:=GBlock.Start) (q:=GBlock.Size) (fun _=>rfl) seq h1

set_option maxRecDepth 100000 in
set_option maxHeartbeats 200000000 in
def laysSortF_spec_ren:Go.Shelf.Ren:=⟨fun | 6=>42 | 15=>51 | 14=>50 | 28=>63 | 29=>64 | 20=>55 | 21=>56 | 22=>57 | 23=>58 | 24=>59 | 25=>60 | 26=>61 | 27=>62 | 46=>66 | 47=>67 | 48=>68 | 49=>69 | 50=>70 | 57=>72 | n=>n,fun | 22=>22 | 24=>38 | 25=>56 | 3=>3 | 39=>72 | 0=>0 | 53=>85 | 55=>87 | 4=>4 | 46=>79 | 45=>78 | 50=>64 | 5=>5 | 9=>9 | 66=>88 | 70=>92 | 76=>95 | 77=>96 | n=>n,fun | n=>n⟩
theorem laysSortF_spec:Go.Proofs.SlLaysF0.n6 Try.prog laysSortF_spec_ren where
 mixed:=by kernel_rfl
 f6 := ⟨ "slices.SortFunc[[]taskmill/api.Block,taskmill/api.Block]", by decide, Try.func42.trans (congrArg some (by kernel_rfl))⟩
 f14 := ⟨ "slices.pdqsortCmpFunc[taskmill/api.Block]", by decide, Try.func50.trans (congrArg some (by kernel_rfl))⟩
 f15:=Try.func51.trans (congrArg some (by kernel_rfl))
 f20 := ⟨ "slices.insertionSortCmpFunc[taskmill/api.Block]", by decide, Try.func55.trans (congrArg some (by kernel_rfl))⟩
 f21 := ⟨ "slices.heapSortCmpFunc[taskmill/api.Block]", by decide, Try.func56.trans (congrArg some (by kernel_rfl))⟩
 f22 := ⟨ "slices.breakPatternsCmpFunc[taskmill/api.Block]", by decide, Try.func57.trans (congrArg some (by kernel_rfl))⟩
 f23 := ⟨ "slices.choosePivotCmpFunc[taskmill/api.Block]", by decide, Try.func58.trans (congrArg some (by kernel_rfl))⟩
 f24 := ⟨ "slices.reverseRangeCmpFunc[taskmill/api.Block]", by decide, Try.func59.trans (congrArg some (by kernel_rfl))⟩
 f25 := ⟨ "slices.partialInsertionSortCmpFunc[taskmill/api.Block]", by decide, Try.func60.trans (congrArg some (by kernel_rfl))⟩
 f26 := ⟨ "slices.partitionEqualCmpFunc[taskmill/api.Block]", by decide, Try.func61.trans (congrArg some (by kernel_rfl))⟩
 f27 := ⟨ "slices.partitionCmpFunc[taskmill/api.Block]", by decide, Try.func62.trans (congrArg some (by kernel_rfl))⟩
 f28:=Try.func63.trans (congrArg some (by kernel_rfl))
 f29:=Try.func64.trans (congrArg some (by kernel_rfl))
 f46 := ⟨ "slices.siftDownCmpFunc[taskmill/api.Block]", by decide, Try.func66.trans (congrArg some (by kernel_rfl))⟩
 f47:=Try.func67.trans (congrArg some (by kernel_rfl))
 f48:=Try.func68.trans (congrArg some (by kernel_rfl))
 f49 := ⟨ "slices.medianAdjacentCmpFunc[taskmill/api.Block]", by decide, Try.func69.trans (congrArg some (by kernel_rfl))⟩
 f50 := ⟨ "slices.medianCmpFunc[taskmill/api.Block]", by decide, Try.func70.trans (congrArg some (by kernel_rfl))⟩
 f57 := ⟨ "slices.order2CmpFunc[taskmill/api.Block]", by decide, Try.func72.trans (congrArg some (by kernel_rfl))⟩
 t0:=Try.underlying0
 a0:=Try.isAgg0
 z0:=Try.sizeOf0
 v0:=Try.zeroValue0
 t3:=Try.underlying3
 a3:=Try.isAgg3
 z3:=Try.sizeOf3
 v3:=Try.zeroValue3
 t4:=Try.underlying4
 a4:=Try.isAgg4
 z4:=Try.sizeOf4
 v4:=Try.zeroValue4
 t5:=Try.underlying5
 a5:=Try.isAgg5
 z5:=Try.sizeOf5
 v5:=Try.zeroValue5
 t9:=Try.underlying9
 a9:=Try.isAgg9
 z9:=Try.sizeOf9
 v9:=Try.zeroValue9
 t22:=Try.underlying22
 a22:=Try.isAgg22
 z22:=Try.sizeOf22
 v22:=Try.zeroValue22
 t25:=Try.underlying56
 a25:=Try.isAgg56
 z25:=Try.sizeOf56
 v25:=Try.zeroValue56
 t39:=Try.underlying72
 a39:=Try.isAgg72
 z39:=Try.sizeOf72
 v39:=Try.zeroValue72
 t45:=Try.underlying78
 a45:=Try.isAgg78
 z45:=Try.sizeOf78
 v45:=Try.zeroValue78
 t46:=Try.underlying79
 a46:=Try.isAgg79
 z46:=Try.sizeOf79
 v46:=Try.zeroValue79
 t50:=Try.underlying64
 a50:=Try.isAgg64
 z50:=Try.sizeOf64
 v50:=Try.zeroValue64
 t53:=Try.underlying85
 a53:=Try.isAgg85
 z53:=Try.sizeOf85
 v53:=Try.zeroValue85
 t55:=Try.underlying87
 a55:=Try.isAgg87
 z55:=Try.sizeOf87
 v55:=Try.zeroValue87
 t66:=Try.underlying88
 a66:=Try.isAgg88
 z66:=Try.sizeOf88
 v66:=Try.zeroValue88
 t70:=Try.underlying92
 a70:=Try.isAgg92
 z70:=Try.sizeOf92
 v70:=Try.zeroValue92
 t76:=Try.underlying95
 a76:=Try.isAgg95
 z76:=Try.sizeOf95
 v76:=Try.zeroValue95
 t77:=Try.underlying96
 a77:=Try.isAgg96
 z77:=Try.sizeOf96
 v77:=Try.zeroValue96
def laysCmp_ren:Go.Shelf.Ren:=⟨fun | 5=>45 | 7=>52 | n=>n,fun | 22=>3 | 3=>3 | 4=>4 | n=>n,fun | n=>n⟩
theorem laysCmp:Go.Proofs.SlLaysC2.n5 Try.prog laysCmp_ren where
 mixed:=by kernel_rfl
 f5 := ⟨ "cmp.Compare[int]", by decide, Try.func45.trans (congrArg some (by kernel_rfl))⟩
 f7 := ⟨ "cmp.isNaN[int]", by decide, Try.func52.trans (congrArg some (by kernel_rfl))⟩
 t3:=Try.underlying3
 a3:=Try.isAgg3
 z3:=Try.sizeOf3
 v3:=Try.zeroValue3
 t4:=Try.underlying4
 a4:=Try.isAgg4
 z4:=Try.sizeOf4
 v4:=Try.zeroValue4
 t22:=Try.underlying3
 a22:=Try.isAgg3
 z22:=Try.sizeOf3
 v22:=Try.zeroValue3
theorem sfCall_26 (x y:GBlock) (W:World):Calls Try.prog 26 #[.agg (sfEnc_26 x).toArray,.agg (sfEnc_26 y).toArray] W fun e w'=>e = .returned (.int .i64 (sfCf_26 x y))∧∃ q os',w' = Go.Sort.grow (W.drewN q) os':=by
 have hcon:=fun W'=>Go.Proofs.AnyG.cmp_Compare_int laysCmp x.Start y.Start W'
 change∀W',Calls Try.prog 45 _ _ _ at hcon
 unfold sfCf_26 sfEnc_26
 generalize Go.Lib.compareInt x.Start y.Start = r at hcon ⊢
 have mixed:=follows
 go_enter Try.func26,Try.ntmps26
 go_wp2_with (go_at_call 45; refine (hcon _).mono ?_; rintro e w' ⟨rfl,rfl⟩)
 go_ret
 exact ⟨rfl,0,_,by rw [Go.Sort.alloc_eq_grow,Go.Sort.alloc_eq_grow,Go.Sort.grow_grow]; rfl⟩
theorem sfLt_26 (x y:GBlock):Go.Proofs.ltOf sfCf_26 x y = decide (x.Start < y.Start):=by
 unfold Go.Proofs.ltOf sfCf_26 Go.Lib.compareInt
 by_cases h1:x.Start < y.Start
 ·simp [h1]
 ·by_cases h2:y.Start < x.Start <;> simp [h1,h2]
theorem sfSwo_26:Go.Sort.SWO (Go.Proofs.ltOf sfCf_26) where
 irrefl x:=by rw [sfLt_26]; simp
 trans x y z h1 h2:=by rw [sfLt_26] at *; simp at *; omega
 ntrans x y z h1 h2:=by rw [sfLt_26] at *; simp at *; omega
set_option maxRecDepth 100000 in
set_option maxHeartbeats 4000000 in
theorem slices_SortFunc_Block_spec (c0:(List GBlock)) (r:List GBlock) (h:slices_SortFunc_Block c0 = some r):SpecW Try.prog 42 [.own 0 0 c0.length,.v (.func (.func 26) #[] #[])] [(0,.row 38 (fl c0))] 1 (fun x h n=>x = .tup []∧h = [(0,.row 38 (fl r))]∧n = 1):=by
 unfold slices_SortFunc_Block at h
 obtain ⟨h1,rfl⟩:=bif_some h
 have eg:∀ args w,(callFunc 26 args).run Try.prog w = .ok (.enter 26 args) w:=Go.Proofs.enters_of Try.func26 (by kernel_rfl) rfl
 exact sortF_spec (P:=Try.prog) sfEnc_26 2 (fun _=>rfl) (by decide) (fun _=>rfl) sfCf_26 sfSwo_26 (fn_of Try.func42 (by kernel_rfl) (by kernel_rfl)) (fun b o c d w hh hb hz=>Go.Proofs.AnyQ.slices_SortFunc_eq laysSortF_spec 2 Try.isAgg38 Try.sizeOf38 sfEnc_26 (fun _=>rfl) (fun x v hv=>by simp [sfEnc_26] at hv; rcases hv with rfl | rfl <;> rfl) sfCf_26 sfSwo_26 26 #[] b o c d w eg (fun _ _ _ _ x y=>sfCall_26 x y _) hh hb hz) (fun p c w=>Go.Proofs.AnyF.slices_SortFunc_none laysSortF_spec p c (.func (.func 26) #[] #[]) w) c0 h1

set_option maxRecDepth 100000 in
set_option maxHeartbeats 200000000 in
theorem slices_SortedFunc_Block_spec (seq:(List GBlock)) (r:(List GBlock)) (h:slices_SortedFunc_Block seq = some r):SpecW Try.prog 23 [.clo 43 [.iptr [.sl seq.length (fl seq)] 0],.v (.func (.func 26) #[] #[])] [] 0 (fun x h n=>x = .own 0 0 r.length∧h = [(0,.row 38 (fl r))]∧n = 1):=by
 unfold slices_SortedFunc_Block at h
 refine spec_of (draw_ok _) Try.func23 rfl (by decide) rfl (by kernel_rfl) ?_
 refine seq_np ?_
 refine reg_f ?_
 refine rk 1 ?_
 refine rf [(0,.clo 43 [.iptr [.sl seq.length (fl seq)] 0]),(1,.v (.func (.func 26) #[] #[]))] [] 0 (by kernel_rfl) ?_
 refine wk_id ?_
 refine seq_np ?_
 refine reg_f ?_
 refine rk 1 ?_
 obtain ⟨r381,hr381,h⟩:=bind_sx h
 refine call_x (slices_Collect_Block_spec seq r381 hr381) (args:=[.clo 43 [.iptr [.sl seq.length (fl seq)] 0]]) (dst:=(some 7)) (by kernel_rfl) [] 0 (by kernel_rfl) [] [] (.own 0 0 r381.length) [(0,.row 38 (fl r381))] (by simp only [push_cast,seval]) (by simp only [push_cast,seval]) (by kernel_rfl) (.inl rfl) (by simp only [push_cast,seval]) (by simp only [push_cast,seval]) ?_
 refine rk 1 ?_
 refine rf [(1,.v (.func (.func 26) #[] #[])),(5,.own 0 0 r381.length)] [(0,.row 38 (fl r381))] 1 (by kernel_rfl) ?_
 refine wk_id ?_
 refine seq_np ?_
 refine reg_f ?_
 refine rk 2 ?_
 obtain ⟨r385,hr385,h⟩:=bind_sx h
 refine call_x (slices_SortFunc_Block_spec r381 r385 hr385) (args:=[.own 0 0 r381.length,.v (.func (.func 26) #[] #[])]) (dst:=(some 10)) (by kernel_rfl) [(0,.row 38 (fl r381))] 1 (by kernel_rfl) [(0,0)] [] (.tup []) [(0,.row 38 (fl r385)),(0,.dead)] (by simp only [push_cast,seval]) (by simp only [push_cast,seval]) (by kernel_rfl) (.inl rfl) (by simp only [push_cast,seval]) (by simp only [push_cast,seval]) ?_
 refine chk_sx h (fun g387 h=>?_)
 have e386:r381.length = r385.length:=(of_decide_eq_true g387).symm
 refine run_eqF 5 (.own 0 0 r381.length) (.own 0 0 r385.length) (congrArg (fun nq=>(.own 0 0 nq:SV)) (show r381.length = r385.length from e386)) (by kernel_rfl) ?_
 refine rf [(5,.own 0 0 r385.length)] [(0,.row 38 (fl r385))] 2 (by kernel_rfl) ?_
 refine wk_id ?_
 refine seq_np ?_
 refine reg_f ?_
 refine rk 2 ?_
 refine rf [(4,.own 0 0 r385.length)] [(0,.row 38 (fl r385))] 2 (by kernel_rfl) ?_
 refine wk_id ?_
 obtain rfl:=Option.some.inj h
 refine ret_at (.own 0 0 r385.length) (by kernel_rfl) ?_
 exact ret_e [(0,0)] [] (by simp only [push_cast,seval]) (by simp only [push_cast,seval]) rfl rfl rfl

set_option maxRecDepth 100000 in
set_option maxHeartbeats 200000000 in
theorem buddy_mate_spec (b:GBlock) (r:GBlock) (h:buddy_mate b = some r):SpecW Try.prog 30 [.agg (Enc.cells b)] [] 0 (fun x h n=>x = .agg (Enc.cells r)∧h = []∧n = 0):=by
 unfold buddy_mate at h
 refine spec_of (draw_ok _) Try.func30 rfl (by decide) rfl (by kernel_rfl) ?_
 refine seq_np ?_
 refine reg_f ?_
 refine rk 2 ?_
 refine rf [(1,.ptr 0 0),(2,.ptr 1 0)] [(0,.row 38 (Enc.cells b)),(1,.row 38 [iS 0,iS 0])] 2 (by kernel_rfl) ?_
 refine wk_id ?_
 refine seq_np ?_
 refine reg_f ?_
 refine rk 9 ?_
 refine rf [(2,.ptr 1 0)] [(0,.row 38 (Enc.cells b)),(1,.row 38 [iS (IntKind.i64.wrap (((BitVec.ofInt (IntKind.i64).bits b.Start ^^^ BitVec.ofInt (IntKind.i64).bits b.Size).toNat:Nat):Int)),iS b.Size])] 2 (by kernel_rfl) ?_
 refine wk_id ?_
 obtain rfl:=Option.some.inj h
 refine ret_at (.agg [iS (IntKind.i64.wrap (((BitVec.ofInt (IntKind.i64).bits b.Start ^^^ BitVec.ofInt (IntKind.i64).bits b.Size).toNat:Nat):Int)),iS b.Size]) (by kernel_rfl) ?_
 exact ret_e [] [] (by simp only [push_cast,seval]) (by simp only [push_cast,seval]) rfl rfl rfl

set_option maxRecDepth 100000 in
set_option maxHeartbeats 200000000 in
theorem slices_Index_Block_spec (s:(List GBlock)) (v:GBlock) (r:Int) (h:slices_Index_Block s v = some r):SpecW Try.prog 40 [.sl s.length (fl s),.agg (Enc.cells v)] [] 0 (fun x h n=>x = iS r∧h = []∧n = 0):=by
 unfold slices_Index_Block at h
 refine spec_of (draw_ok _) Try.func40 rfl (by decide) rfl (by kernel_rfl) ?_
 refine seq_np ?_
 refine reg_f ?_
 refine rk 2 ?_
 refine rf [(0,.sl s.length (fl s)),(3,.ptr 0 0)] [(0,.row 38 (Enc.cells v))] 1 (by kernel_rfl) ?_
 refine wk_id ?_
 refine seq_np ?_
 refine seq_np ?_
 refine reg_f ?_
 refine rk 3 ?_
 refine rf [(0,.sl s.length (fl s)),(3,.ptr 0 0),(7,iS (s.length:Int)),(8,iS 0)] [(0,.row 38 (Enc.cells v))] 1 (by kernel_rfl) ?_
 refine wk_id ?_
 refine block_np ?_
 refine loop_sx (S:=Int) (fun a=>([(0,.sl s.length (fl s)),(3,.ptr 0 0),(7,iS (s.length:Int)),(8,iS a)],[(0,.row 38 (Enc.cells v))],1)) h (leSt_m [(0,0)] [] (by simp only [push_cast,seval]) (by simp only [push_cast,seval]) rfl rfl rfl) ?_
 rintro t8q7 o2 R2 h hr2 hn2 hx2 ht2
 try dsimp only at h hn2 ⊢
 unfold slices_Index_Block_l1 at h
 try dsimp only at h
 refine seq_np ?_
 refine reg_f ?_
 refine rk 1 ?_
 refine rf [(0,.sl s.length (fl s)),(3,.ptr 0 0),(7,iS (s.length:Int)),(8,iS t8q7),(9,bS (decide (t8q7 < (s.length:Int))))] [(0,.row 38 (Enc.cells v))] 1 (by kernel_rfl) ?_
 refine wk_id ?_
 refine seq_np ?_
 refine cond_sx h (by kernel_rfl) (fun g476 h=>?_) (fun g476 h=>?_)
 ·refine wk_id ?_
  refine seq_np ?_
  refine block_np ?_
  refine seq_np ?_
  refine reg_f ?_
  refine rk 2 ?_
  refine rf [(0,.sl s.length (fl s)),(3,.ptr 0 0),(5,iS t8q7),(7,iS (s.length:Int)),(8,iS t8q7)] [(0,.row 38 (Enc.cells v))] 1 (by kernel_rfl) ?_
  refine wk_id ?_
  refine chk_sx h (fun g474 h=>?_)
  refine seq_np ?_
  refine reg_t ?_
  have k473:0≤t8q7∧t8q7 < (s.length:Int):=by first | simpa only [Bool.and_eq_true,decide_eq_true_eq,bne_iff_ne,ne_eq] using g474 | (simp at g474 ⊢; omega) | simp
  refine rs 6 [none,none,none,some ⟨.iptr (fl s) ((t8q7).toNat * 2),[],4,[]⟩,some ⟨.agg (Enc.cells (ix s t8q7)),[],5,[]⟩] _ (by kernel_rfl) (allP_cons (ob_ldw s t8q7 2 ((t8q7).toNat * 2) k473 rfl (by first | rfl | omega) (Enc.cells (ix s t8q7)) rfl 5 []) (allP_cons (ob_ix_l s 2 4 t8q7 k473) allP_nil)) ?_
  refine rt [(0,.sl s.length (fl s)),(3,.ptr 0 0),(5,iS t8q7),(7,iS (s.length:Int)),(8,iS t8q7),(16,bS ((v.Start == (ix s t8q7).Start) && ((v.Size == (ix s t8q7).Size) && true)))] [(0,.row 38 (Enc.cells v))] 7 follows (by kernel_rfl) ?_
  refine wk_id ?_
  refine cond_sx h (by kernel_rfl) (fun g475 h=>?_) (fun g475 h=>?_)
  ·refine seq_np ?_
   refine reg_f ?_
   refine rk 2 ?_
   refine rf [(4,iS t8q7)] [(0,.row 38 (Enc.cells v))] 7 (by kernel_rfl) ?_
   refine wk_id ?_
   refine rt_cast ht2 ?_
   obtain ⟨r0,h,e0⟩:=map_sx h
   have e1:=hr2 r0 e0.symm
   subst r0
   obtain rfl:=Option.some.inj h
   refine ret_at (iS t8q7) (by kernel_rfl) ?_
   exact ret_e [] [] (by simp only [push_cast,seval]) (by simp only [push_cast,seval]) rfl rfl rfl
  ·refine wk_id ?_
   refine wk_id ?_
   refine reg_f ?_
   refine rk 2 ?_
   refine rf [(0,.sl s.length (fl s)),(3,.ptr 0 0),(7,iS (s.length:Int)),(8,iS (IntKind.i64.wrap (t8q7+1)))] [(0,.row 38 (Enc.cells v))] 7 (by kernel_rfl) ?_
   exact hn2 ((IntKind.i64.wrap (t8q7+1))) _ _ _ (Option.some.inj h).symm (leSt_m [(0,0)] [] (by simp only [push_cast,seval]) (by simp only [push_cast,seval]) rfl rfl rfl)
 ·change R2 (.exit 0) _ _ _
  refine ex_cast hx2 (id:=0) ?_
  obtain ⟨r0,h,e0⟩:=map_sx h
  have e1:=hr2 r0 e0.symm
  subst r0
  refine wk_id ?_
  refine wk_id ?_
  refine seq_np ?_
  refine reg_f ?_
  refine rk 1 ?_
  refine rf [(4,iS (-1))] [(0,.row 38 (Enc.cells v))] 1 (by kernel_rfl) ?_
  refine wk_id ?_
  obtain rfl:=Option.some.inj h
  refine ret_at (iS (-1)) (by kernel_rfl) ?_
  exact ret_e [] [] (by simp only [push_cast,seval]) (by simp only [push_cast,seval]) rfl rfl rfl

set_option maxRecDepth 100000 in
set_option maxHeartbeats 200000000 in
theorem slices_Contains_Block_spec (s:(List GBlock)) (v:GBlock) (r:Bool) (h:slices_Contains_Block s v = some r):SpecW Try.prog 29 [.sl s.length (fl s),.agg (Enc.cells v)] [] 0 (fun x h n=>x = bS r∧h = []∧n = 0):=by
 unfold slices_Contains_Block at h
 refine spec_of (draw_ok _) Try.func29 rfl (by decide) rfl (by kernel_rfl) ?_
 refine seq_np ?_
 refine reg_f ?_
 refine rk 2 ?_
 refine rf [(0,.sl s.length (fl s)),(3,.ptr 0 0)] [(0,.row 38 (Enc.cells v))] 1 (by kernel_rfl) ?_
 refine wk_id ?_
 refine seq_np ?_
 refine reg_f ?_
 refine rk 2 ?_
 obtain ⟨r479,hr479,h⟩:=bind_sx h
 refine run_call 40 [.sl s.length (fl s),.agg (Enc.cells v)] (some 7) (by kernel_rfl) ?_
 refine call_0 (slices_Index_Block_spec s v r479 hr479) (by simp only [push_cast,seval]) (by simp only [push_cast,seval]) ?_
 refine back_f ?_
 refine rk 2 ?_
 refine rf [(4,bS (decide ((0:Int)≤r479)))] [(0,.row 38 (Enc.cells v))] 1 (by kernel_rfl) ?_
 refine wk_id ?_
 obtain rfl:=Option.some.inj h
 refine ret_at (bS (decide ((0:Int)≤r479))) (by kernel_rfl) ?_
 exact ret_e [] [] (by simp only [push_cast,seval]) (by simp only [push_cast,seval]) rfl rfl rfl

set_option maxRecDepth 100000 in
set_option maxHeartbeats 200000000 in
theorem buddy_Check_1_spec (b:GBlock) (t1:Space) (r:Bool) (h:buddy_Check_1 b t1 = some r):SpecW Try.prog 28 [.agg (Enc.cells b),.iptr (Enc.cells t1) 0] [] 0 (fun x h n=>x = bS r∧h = []∧n = 0):=by
 unfold buddy_Check_1 at h
 refine spec_of (draw_ok _) Try.func28 rfl (by decide) rfl (by kernel_rfl) ?_
 refine seq_np ?_
 refine reg_f ?_
 refine rk 2 ?_
 refine rf [(1,.iptr (Enc.cells t1) 0),(2,.ptr 0 0)] [(0,.row 38 (Enc.cells b))] 1 (by kernel_rfl) ?_
 refine wk_id ?_
 refine chk_sx h (fun g491 h=>?_)
 refine seq_cut (A:=Bool) (fun a=>([(3,bS a)],[],0)) (fun a=>(buddy_Check_1_j1 a) = some r) (fun K489 hK489=>?_) ?_
 ·refine reg_t ?_
  have k490:0≤t1.Bits:=by first | simpa only [Bool.and_eq_true,decide_eq_true_eq,bne_iff_ne,ne_eq] using g491 | (simp at g491 ⊢; omega) | simp
  refine rs 7 [none,none,none,none,some ⟨iS (IntKind.i64.wrap ((1:Int) * 2 ^ (min (t1.Bits).toNat (IntKind.i64).bits))),[],5,[]⟩] _ (by kernel_rfl) (allP_cons (ob_p (v:=iS (IntKind.i64.wrap ((1:Int) * 2 ^ (min (t1.Bits).toNat (IntKind.i64).bits)))) (nx:=5) (r:=[]) k490) allP_nil) ?_
  refine run_br h 10 (.inl (by kernel_rfl)) (fun g492 h=>?_) (fun g492 h=>?_)
  ·refine rk 3 ?_
   obtain ⟨r493,hr493,h⟩:=bind_sx h
   refine run_call 30 [.agg (Enc.cells b)] (some 14) (by kernel_rfl) ?_
   refine callE_0 (buddy_mate_spec b r493 hr493) (by simp only [push_cast,seval]) (by simp only [push_cast,seval]) ?_
   refine back_t ?_
   obtain ⟨r494,hr494,h⟩:=bind_sx h
   refine run_call 29 [.sl t1.Free.length (fl t1.Free),.agg (Enc.cells r493)] (some 15) (by kernel_rfl) ?_
   refine callE_0 (slices_Contains_Block_spec t1.Free r493 r494 hr494) (by simp only [push_cast,seval]) (by simp only [push_cast,seval]) ?_
   refine back_t ?_
   refine rk 2 ?_
   refine rt [(3,bS r494)] [(0,.row 38 (Enc.cells b))] 15 follows (by kernel_rfl) ?_
   exact hK489 (r494) _ _ _ h (leSt_m [] [] (by (try simp only [g492]) <;> simp only [push_cast,seval]) (by (try simp only [g492]) <;> simp only [push_cast,seval]) rfl rfl rfl)
  ·refine rk 7 ?_
   refine rt [(3,bS false)] [(0,.row 38 (Enc.cells b))] 15 follows (by kernel_rfl) ?_
   exact hK489 (false) _ _ _ h (leSt_m [] [] (by (try simp only [g492]) <;> simp only [push_cast,seval]) (by (try simp only [g492]) <;> simp only [push_cast,seval]) rfl rfl rfl)
 ·rintro t3q1 h
  try dsimp only at h ⊢
  unfold buddy_Check_1_j1 at h
  obtain rfl:=Option.some.inj h
  refine ret_at (bS t3q1) (by kernel_rfl) ?_
  exact ret_e [] [] (by simp only [push_cast,seval]) (by simp only [push_cast,seval]) rfl rfl rfl

set_option maxRecDepth 100000 in
set_option maxHeartbeats 200000000 in
theorem slices_IndexFunc_Block_spec (s:(List GBlock)) (f:Space) (r:Int) (h:slices_IndexFunc_Block s f = some r):SpecW Try.prog 46 [.sl s.length (fl s),.clo 28 [.iptr (Enc.cells f) 0]] [] 0 (fun x h n=>x = iS r∧h = []∧n = 0):=by
 unfold slices_IndexFunc_Block at h
 refine spec_of (draw_ok _) Try.func46 rfl (by decide) rfl (by kernel_rfl) ?_
 refine seq_np ?_
 refine reg_f ?_
 refine rk 1 ?_
 refine rf [(0,.sl s.length (fl s)),(1,.clo 28 [.iptr (Enc.cells f) 0])] [] 0 (by kernel_rfl) ?_
 refine wk_id ?_
 refine seq_np ?_
 refine seq_np ?_
 refine reg_f ?_
 refine rk 3 ?_
 refine rf [(0,.sl s.length (fl s)),(1,.clo 28 [.iptr (Enc.cells f) 0]),(7,iS (s.length:Int)),(8,iS 0)] [] 0 (by kernel_rfl) ?_
 refine wk_id ?_
 refine block_np ?_
 refine loop_sx (S:=Int) (fun a=>([(0,.sl s.length (fl s)),(1,.clo 28 [.iptr (Enc.cells f) 0]),(7,iS (s.length:Int)),(8,iS a)],[],0)) h (leSt_m [] [] (by simp only [push_cast,seval]) (by simp only [push_cast,seval]) rfl rfl rfl) ?_
 rintro t8q7 o2 R2 h hr2 hn2 hx2 ht2
 try dsimp only at h hn2 ⊢
 unfold slices_IndexFunc_Block_l1 at h
 try dsimp only at h
 refine seq_np ?_
 refine reg_f ?_
 refine rk 1 ?_
 refine rf [(0,.sl s.length (fl s)),(1,.clo 28 [.iptr (Enc.cells f) 0]),(7,iS (s.length:Int)),(8,iS t8q7),(9,bS (decide (t8q7 < (s.length:Int))))] [] 0 (by kernel_rfl) ?_
 refine wk_id ?_
 refine seq_np ?_
 refine cond_sx h (by kernel_rfl) (fun g567 h=>?_) (fun g567 h=>?_)
 ·refine wk_id ?_
  refine seq_np ?_
  refine block_np ?_
  refine seq_np ?_
  refine reg_f ?_
  refine rk 2 ?_
  refine rf [(0,.sl s.length (fl s)),(1,.clo 28 [.iptr (Enc.cells f) 0]),(5,iS t8q7),(7,iS (s.length:Int)),(8,iS t8q7)] [] 0 (by kernel_rfl) ?_
  refine wk_id ?_
  refine chk_sx h (fun g564 h=>?_)
  refine seq_np ?_
  refine reg_f ?_
  have k563:0≤t8q7∧t8q7 < (s.length:Int):=by first | simpa only [Bool.and_eq_true,decide_eq_true_eq,bne_iff_ne,ne_eq] using g564 | (simp at g564 ⊢; omega) | simp
  refine rs 5 [none,none,none,some ⟨.iptr (fl s) ((t8q7).toNat * 2),[],0,[]⟩,some ⟨.agg (Enc.cells (ix s t8q7)),[],0,[]⟩] _ (by kernel_rfl) (allP_cons (ob_ldw s t8q7 2 ((t8q7).toNat * 2) k563 rfl (by first | rfl | omega) (Enc.cells (ix s t8q7)) rfl 0 []) (allP_cons (ob_ix_l s 2 0 t8q7 k563) allP_nil)) ?_
  obtain ⟨r565,hr565,h⟩:=bind_sx h
  refine run_call 28 [.agg (Enc.cells (ix s t8q7)),.iptr (Enc.cells f) 0] (some 16) (by kernel_rfl) ?_
  refine call_0 (buddy_Check_1_spec (ix s t8q7) f r565 hr565) (by simp only [push_cast,seval]) (by simp only [push_cast,seval]) ?_
  refine back_f ?_
  refine rf [(0,.sl s.length (fl s)),(1,.clo 28 [.iptr (Enc.cells f) 0]),(5,iS t8q7),(7,iS (s.length:Int)),(8,iS t8q7),(16,bS r565)] [] 0 (by kernel_rfl) ?_
  refine wk_id ?_
  refine cond_sx h (by kernel_rfl) (fun g566 h=>?_) (fun g566 h=>?_)
  ·refine seq_np ?_
   refine reg_f ?_
   refine rk 2 ?_
   refine rf [(4,iS t8q7)] [] 0 (by kernel_rfl) ?_
   refine wk_id ?_
   refine rt_cast ht2 ?_
   obtain ⟨r0,h,e0⟩:=map_sx h
   have e1:=hr2 r0 e0.symm
   subst r0
   obtain rfl:=Option.some.inj h
   refine ret_at (iS t8q7) (by kernel_rfl) ?_
   exact ret_e [] [] (by simp only [push_cast,seval]) (by simp only [push_cast,seval]) rfl rfl rfl
  ·refine wk_id ?_
   refine wk_id ?_
   refine reg_f ?_
   refine rk 2 ?_
   refine rf [(0,.sl s.length (fl s)),(1,.clo 28 [.iptr (Enc.cells f) 0]),(7,iS (s.length:Int)),(8,iS (IntKind.i64.wrap (t8q7+1)))] [] 0 (by kernel_rfl) ?_
   exact hn2 ((IntKind.i64.wrap (t8q7+1))) _ _ _ (Option.some.inj h).symm (leSt_m [] [] (by simp only [push_cast,seval]) (by simp only [push_cast,seval]) rfl rfl rfl)
 ·change R2 (.exit 0) _ _ _
  refine ex_cast hx2 (id:=0) ?_
  obtain ⟨r0,h,e0⟩:=map_sx h
  have e1:=hr2 r0 e0.symm
  subst r0
  refine wk_id ?_
  refine wk_id ?_
  refine seq_np ?_
  refine reg_f ?_
  refine rk 1 ?_
  refine rf [(4,iS (-1))] [] 0 (by kernel_rfl) ?_
  refine wk_id ?_
  obtain rfl:=Option.some.inj h
  refine ret_at (iS (-1)) (by kernel_rfl) ?_
  exact ret_e [] [] (by simp only [push_cast,seval]) (by simp only [push_cast,seval]) rfl rfl rfl

set_option maxRecDepth 100000 in
set_option maxHeartbeats 200000000 in
theorem slices_ContainsFunc_Block_spec (s:(List GBlock)) (f:Space) (r:Bool) (h:slices_ContainsFunc_Block s f = some r):SpecW Try.prog 27 [.sl s.length (fl s),.clo 28 [.iptr (Enc.cells f) 0]] [] 0 (fun x h n=>x = bS r∧h = []∧n = 0):=by
 unfold slices_ContainsFunc_Block at h
 refine spec_of (draw_ok _) Try.func27 rfl (by decide) rfl (by kernel_rfl) ?_
 refine seq_np ?_
 refine reg_f ?_
 refine rk 1 ?_
 refine rf [(0,.sl s.length (fl s)),(1,.clo 28 [.iptr (Enc.cells f) 0])] [] 0 (by kernel_rfl) ?_
 refine wk_id ?_
 refine seq_np ?_
 refine reg_f ?_
 refine rk 2 ?_
 obtain ⟨r570,hr570,h⟩:=bind_sx h
 refine run_call 46 [.sl s.length (fl s),.clo 28 [.iptr (Enc.cells f) 0]] (some 7) (by kernel_rfl) ?_
 refine call_0 (slices_IndexFunc_Block_spec s f r570 hr570) (by simp only [push_cast,seval]) (by simp only [push_cast,seval]) ?_
 refine back_f ?_
 refine rk 2 ?_
 refine rf [(4,bS (decide ((0:Int)≤r570)))] [] 0 (by kernel_rfl) ?_
 refine wk_id ?_
 obtain rfl:=Option.some.inj h
 refine ret_at (bS (decide ((0:Int)≤r570))) (by kernel_rfl) ?_
 exact ret_e [] [] (by simp only [push_cast,seval]) (by simp only [push_cast,seval]) rfl rfl rfl

set_option maxRecDepth 100000 in
set_option maxHeartbeats 200000000 in
theorem buddy_Check_spec (s:Space) (r:Fault) (h:buddy_Check s = some r):SpecW Try.prog 10 [.agg (Enc.cells s)] [] 0 (fun x h n=>x = .agg (Enc.cells r)∧h = []∧n = 0):=by
 unfold buddy_Check at h
 refine spec_of (draw_ok _) Try.func10 rfl (by decide) rfl (by kernel_rfl) ?_
 refine seq_np ?_
 refine reg_f ?_
 refine rk 2 ?_
 refine rf [(1,.ptr 0 0),(2,.ptr 1 0)] [(0,.row 24 (Enc.cells s)),(1,.row 29 [iS 0,iS 0])] 2 (by kernel_rfl) ?_
 refine wk_id ?_
 refine seq_np ?_
 refine seq_cut (A:=Unit) (fun _=>([(1,.ptr 0 0),(2,.ptr 1 0),(28,bS ((decide (s.Bits < 0)) || ((decide ((30:Int) < s.Bits)) || (decide ((5000:Int) < (IntKind.i64.wrap ((s.Used.length:Int)+(s.Free.length:Int))))))))],[(0,.row 24 (Enc.cells s)),(1,.row 29 [iS 0,iS 0])],2)) (fun _=>True) (fun K580 hK580=>?_) (fun _ _=>?_)
 ·refine reg_f ?_
  refine rk 4 ?_
  refine run_split 14 (decide (s.Bits < 0)) (.inl (by kernel_rfl)) (fun g581=>?_) (fun g581=>?_)
  ·refine rk 14 ?_
   refine rf [(1,.ptr 0 0),(2,.ptr 1 0),(28,bS true)] [(0,.row 24 (Enc.cells s)),(1,.row 29 [iS 0,iS 0])] 2 (by kernel_rfl) ?_
   exact hK580 () _ _ _ trivial (leSt_m [(0,0),(1,1)] [] (by (try simp only [g581]) <;> simp only [push_cast,seval]) (by (try simp only [g581]) <;> simp only [push_cast,seval]) rfl rfl rfl)
  ·refine rk 5 ?_
   refine run_split 19 (decide ((30:Int) < s.Bits)) (.inl (by kernel_rfl)) (fun g582=>?_) (fun g582=>?_)
   ·refine rk 9 ?_
    refine rf [(1,.ptr 0 0),(2,.ptr 1 0),(28,bS true)] [(0,.row 24 (Enc.cells s)),(1,.row 29 [iS 0,iS 0])] 2 (by kernel_rfl) ?_
    exact hK580 () _ _ _ trivial (leSt_m [(0,0),(1,1)] [] (by first | ((try simp only [g581,g582]) <;> simp only [push_cast,seval]; done) | ((try simp only [g581]); (try simp only [g582]); simp only [push_cast,seval]; done) | (exfalso; clear h; simp_all; done)) (by first | ((try simp only [g581,g582]) <;> simp only [push_cast,seval]; done) | ((try simp only [g581]); (try simp only [g582]); simp only [push_cast,seval]; done) | (exfalso; clear h; simp_all; done)) rfl rfl rfl)
   ·refine rk 9 ?_
    refine rf [(1,.ptr 0 0),(2,.ptr 1 0),(28,bS (decide ((5000:Int) < (IntKind.i64.wrap ((s.Used.length:Int)+(s.Free.length:Int))))))] [(0,.row 24 (Enc.cells s)),(1,.row 29 [iS 0,iS 0])] 2 (by kernel_rfl) ?_
    exact hK580 () _ _ _ trivial (leSt_m [(0,0),(1,1)] [] (by first | ((try simp only [g581,g582]) <;> simp only [push_cast,seval]; done) | ((try simp only [g581]); (try simp only [g582]); simp only [push_cast,seval]; done) | (exfalso; clear h; simp_all; done)) (by first | ((try simp only [g581,g582]) <;> simp only [push_cast,seval]; done) | ((try simp only [g581]); (try simp only [g582]); simp only [push_cast,seval]; done) | (exfalso; clear h; simp_all; done)) rfl rfl rfl)
 ·dsimp only
  refine cond_sx h (by kernel_rfl) (fun g1568 h=>?_) (fun g1568 h=>?_)
  ·refine seq_np ?_
   refine reg_f ?_
   obtain ⟨r584,hr584,h⟩:=bind_sx h
   refine run_call 21 [iS 2,iS 0] (some 29) (by kernel_rfl) ?_
   refine call_0 (buddy_fault_spec 2 0 r584 hr584) (by simp only [push_cast,seval]) (by simp only [push_cast,seval]) ?_
   refine back_f ?_
   refine rk 1 ?_
   refine rf [(2,.ptr 1 0)] [(0,.row 24 (Enc.cells s)),(1,.row 29 (Enc.cells r584))] 2 (by kernel_rfl) ?_
   refine wk_id ?_
   obtain rfl:=Option.some.inj h
   refine ret_at (.agg (Enc.cells r584)) (by kernel_rfl) ?_
   exact ret_e [] [] (by simp only [push_cast,seval]) (by simp only [push_cast,seval]) rfl rfl rfl
  ·refine wk_id ?_
   refine seq_np ?_
   refine seq_np ?_
   refine reg_f ?_
   refine rk 7 ?_
   refine rf [(1,.ptr 0 0),(2,.ptr 1 0),(34,.own 2 0 ([s.Used,s.Free]:List (List GBlock)).length),(35,iS ((([s.Used,s.Free]:List (List GBlock)).length:Nat):Int)),(36,iS 0)] [(0,.row 24 (Enc.cells s)),(1,.row 29 [iS 0,iS 0]),(2,.row 22 (fl ([s.Used,s.Free]:List (List GBlock))))] 3 (by kernel_rfl) ?_
   refine wk_id ?_
   refine block_np ?_
   refine loop_sx (S:=Int) (fun a=>([(1,.ptr 0 0),(2,.ptr 1 0),(34,.own 2 0 ([s.Used,s.Free]:List (List GBlock)).length),(35,iS ((([s.Used,s.Free]:List (List GBlock)).length:Nat):Int)),(36,iS a)],[(0,.row 24 (Enc.cells s)),(1,.row 29 [iS 0,iS 0]),(2,.row 22 (fl ([s.Used,s.Free]:List (List GBlock))))],3)) h (leSt_m [(0,0),(1,1),(2,2)] [] (by simp only [push_cast,seval]) (by simp only [push_cast,seval]) rfl rfl rfl) ?_
   rintro t36q7 o4 R4 h hr4 hn4 hx4 ht4
   try dsimp only at h hn4 ⊢
   unfold buddy_Check_l3 at h
   try dsimp only at h
   refine seq_np ?_
   refine reg_f ?_
   refine rk 1 ?_
   refine rf [(1,.ptr 0 0),(2,.ptr 1 0),(34,.own 2 0 ([s.Used,s.Free]:List (List GBlock)).length),(35,iS ((([s.Used,s.Free]:List (List GBlock)).length:Nat):Int)),(36,iS t36q7),(37,bS (decide (t36q7 < ((([s.Used,s.Free]:List (List GBlock)).length:Nat):Int))))] [(0,.row 24 (Enc.cells s)),(1,.row 29 [iS 0,iS 0]),(2,.row 22 (fl ([s.Used,s.Free]:List (List GBlock))))] 3 (by kernel_rfl) ?_
   refine wk_id ?_
   refine seq_np ?_
   refine cond_sx h (by kernel_rfl) (fun g1567 h=>?_) (fun g1567 h=>?_)
   ·refine wk_id ?_
    refine seq_np ?_
    refine block_np ?_
    refine chk_sx h (fun g1270 h=>?_)
    refine seq_np ?_
    refine reg_f ?_
    have k1269:0≤t36q7∧t36q7 < ((([s.Used,s.Free]:List (List GBlock)).length:Nat):Int):=by first | simpa only [Bool.and_eq_true,decide_eq_true_eq,bne_iff_ne,ne_eq] using g1270 | (simp at g1270 ⊢; omega) | simp
    refine rs 5 [none,some ⟨.ptr 2 (0+(t36q7).toNat * 1),[],3,[2]⟩,some ⟨.sl (ix ([s.Used,s.Free]:List (List GBlock)) t36q7).length (fl (ix ([s.Used,s.Free]:List (List GBlock)) t36q7)),[],3,[2]⟩] _ (by kernel_rfl) (allP_cons (ob_ld ([s.Used,s.Free]:List (List GBlock)) t36q7 1 0 (0+(t36q7).toNat * 1) k1269 rfl (by decide) (by first | rfl | omega) (dflS Try.prog 22) (.sl (ix ([s.Used,s.Free]:List (List GBlock)) t36q7).length (fl (ix ([s.Used,s.Free]:List (List GBlock)) t36q7))) rfl 3 [2]) (allP_cons (ob_ix_o 2 ([s.Used,s.Free]:List (List GBlock)).length 0 1 3 t36q7 k1269) allP_nil)) ?_
    refine rf [(1,.ptr 0 0),(2,.ptr 1 0),(3,iS t36q7),(4,.sl (ix ([s.Used,s.Free]:List (List GBlock)) t36q7).length (fl (ix ([s.Used,s.Free]:List (List GBlock)) t36q7))),(34,.own 2 0 ([s.Used,s.Free]:List (List GBlock)).length),(35,iS ((([s.Used,s.Free]:List (List GBlock)).length:Nat):Int)),(36,iS t36q7)] [(0,.row 24 (Enc.cells s)),(1,.row 29 [iS 0,iS 0]),(2,.row 22 (fl ([s.Used,s.Free]:List (List GBlock))))] 3 (by kernel_rfl) ?_
    refine wk_id ?_
    refine seq_np ?_
    refine reg_f ?_
    refine rk 3 ?_
    refine rf [(1,.ptr 0 0),(2,.ptr 1 0),(3,iS t36q7),(4,.sl (ix ([s.Used,s.Free]:List (List GBlock)) t36q7).length (fl (ix ([s.Used,s.Free]:List (List GBlock)) t36q7))),(34,.own 2 0 ([s.Used,s.Free]:List (List GBlock)).length),(35,iS ((([s.Used,s.Free]:List (List GBlock)).length:Nat):Int)),(36,iS t36q7),(41,.sl (ix ([s.Used,s.Free]:List (List GBlock)) t36q7).length (fl (ix ([s.Used,s.Free]:List (List GBlock)) t36q7))),(42,iS (((ix ([s.Used,s.Free]:List (List GBlock)) t36q7).length:Nat):Int)),(43,iS 0)] [(0,.row 24 (Enc.cells s)),(1,.row 29 [iS 0,iS 0]),(2,.row 22 (fl ([s.Used,s.Free]:List (List GBlock))))] 3 (by kernel_rfl) ?_
    refine wk_id ?_
    refine block_np ?_
    refine loop_sx (S:=Int) (fun a=>([(1,.ptr 0 0),(2,.ptr 1 0),(3,iS t36q7),(4,.sl (ix ([s.Used,s.Free]:List (List GBlock)) t36q7).length (fl (ix ([s.Used,s.Free]:List (List GBlock)) t36q7))),(34,.own 2 0 ([s.Used,s.Free]:List (List GBlock)).length),(35,iS ((([s.Used,s.Free]:List (List GBlock)).length:Nat):Int)),(36,iS t36q7),(41,.sl (ix ([s.Used,s.Free]:List (List GBlock)) t36q7).length (fl (ix ([s.Used,s.Free]:List (List GBlock)) t36q7))),(42,iS (((ix ([s.Used,s.Free]:List (List GBlock)) t36q7).length:Nat):Int)),(43,iS a)],[(0,.row 24 (Enc.cells s)),(1,.row 29 [iS 0,iS 0]),(2,.row 22 (fl ([s.Used,s.Free]:List (List GBlock))))],3)) h (leSt_m [(0,0),(1,1),(2,2)] [] (by simp only [push_cast,seval]) (by simp only [push_cast,seval]) rfl rfl rfl) ?_
    rintro t43q29 o5 R5 h hr5 hn5 hx5 ht5
    try dsimp only at h hn5 ⊢
    unfold buddy_Check_l1 at h
    try dsimp only at h
    refine seq_np ?_
    refine reg_f ?_
    refine rk 1 ?_
    refine rf [(1,.ptr 0 0),(2,.ptr 1 0),(3,iS t36q7),(4,.sl (ix ([s.Used,s.Free]:List (List GBlock)) t36q7).length (fl (ix ([s.Used,s.Free]:List (List GBlock)) t36q7))),(34,.own 2 0 ([s.Used,s.Free]:List (List GBlock)).length),(35,iS ((([s.Used,s.Free]:List (List GBlock)).length:Nat):Int)),(36,iS t36q7),(41,.sl (ix ([s.Used,s.Free]:List (List GBlock)) t36q7).length (fl (ix ([s.Used,s.Free]:List (List GBlock)) t36q7))),(42,iS (((ix ([s.Used,s.Free]:List (List GBlock)) t36q7).length:Nat):Int)),(43,iS t43q29),(44,bS (decide (t43q29 < (((ix ([s.Used,s.Free]:List (List GBlock)) t36q7).length:Nat):Int))))] [(0,.row 24 (Enc.cells s)),(1,.row 29 [iS 0,iS 0]),(2,.row 22 (fl ([s.Used,s.Free]:List (List GBlock))))] 3 (by kernel_rfl) ?_
    refine wk_id ?_
    refine seq_np ?_
    refine cond_sx h (by kernel_rfl) (fun g1479 h=>?_) (fun g1479 h=>?_)
    ·refine wk_id ?_
     refine seq_np ?_
     refine block_np ?_
     refine chk_sx h (fun g1426 h=>?_)
     refine seq_np ?_
     refine reg_f ?_
     have k1425:0≤t43q29∧t43q29 < (((ix ([s.Used,s.Free]:List (List GBlock)) t36q7).length:Nat):Int):=by first | simpa only [Bool.and_eq_true,decide_eq_true_eq,bne_iff_ne,ne_eq] using g1426 | (simp at g1426 ⊢; omega) | simp
     refine rs 6 [none,some ⟨.iptr (fl (ix ([s.Used,s.Free]:List (List GBlock)) t36q7)) ((t43q29).toNat * 2),[],3,[]⟩,some ⟨.agg (Enc.cells (ix (ix ([s.Used,s.Free]:List (List GBlock)) t36q7) t43q29)),[],3,[]⟩] _ (by kernel_rfl) (allP_cons (ob_ldw (ix ([s.Used,s.Free]:List (List GBlock)) t36q7) t43q29 2 ((t43q29).toNat * 2) k1425 rfl (by first | rfl | omega) (Enc.cells (ix (ix ([s.Used,s.Free]:List (List GBlock)) t36q7) t43q29)) rfl 3 []) (allP_cons (ob_ix_l (ix ([s.Used,s.Free]:List (List GBlock)) t36q7) 2 3 t43q29 k1425) allP_nil)) ?_
     refine rf [(1,.ptr 0 0),(2,.ptr 1 0),(3,iS t36q7),(4,.sl (ix ([s.Used,s.Free]:List (List GBlock)) t36q7).length (fl (ix ([s.Used,s.Free]:List (List GBlock)) t36q7))),(5,iS t43q29),(6,.ptr 3 0),(34,.own 2 0 ([s.Used,s.Free]:List (List GBlock)).length),(35,iS ((([s.Used,s.Free]:List (List GBlock)).length:Nat):Int)),(36,iS t36q7),(41,.sl (ix ([s.Used,s.Free]:List (List GBlock)) t36q7).length (fl (ix ([s.Used,s.Free]:List (List GBlock)) t36q7))),(42,iS (((ix ([s.Used,s.Free]:List (List GBlock)) t36q7).length:Nat):Int)),(43,iS t43q29)] [(0,.row 24 (Enc.cells s)),(1,.row 29 [iS 0,iS 0]),(2,.row 22 (fl ([s.Used,s.Free]:List (List GBlock)))),(3,.row 38 (Enc.cells (ix (ix ([s.Used,s.Free]:List (List GBlock)) t36q7) t43q29)))] 4 (by kernel_rfl) ?_
     refine wk_id ?_
     refine seq_np ?_
     refine seq_cut (A:=Bool) (fun a=>([(1,.ptr 0 0),(2,.ptr 1 0),(3,iS t36q7),(4,.sl (ix ([s.Used,s.Free]:List (List GBlock)) t36q7).length (fl (ix ([s.Used,s.Free]:List (List GBlock)) t36q7))),(5,iS t43q29),(6,.ptr 2 0),(34,.own 3 0 ([s.Used,s.Free]:List (List GBlock)).length),(35,iS ((([s.Used,s.Free]:List (List GBlock)).length:Nat):Int)),(36,iS t36q7),(41,.sl (ix ([s.Used,s.Free]:List (List GBlock)) t36q7).length (fl (ix ([s.Used,s.Free]:List (List GBlock)) t36q7))),(42,iS (((ix ([s.Used,s.Free]:List (List GBlock)) t36q7).length:Nat):Int)),(43,iS t43q29),(83,bS a)],[(0,.row 24 (Enc.cells s)),(1,.row 29 [iS 0,iS 0]),(2,.row 38 (Enc.cells (ix (ix ([s.Used,s.Free]:List (List GBlock)) t36q7) t43q29))),(3,.row 22 (fl ([s.Used,s.Free]:List (List GBlock))))],4)) (fun a=>(buddy_Check_j1 s t36q7 t43q29 a) = some o5) (fun K1454 hK1454=>?_) ?_
     ·refine reg_t ?_
      refine rk 2 ?_
      obtain ⟨r1455,hr1455,h⟩:=bind_sx h
      refine run_call 22 [iS (ix (ix ([s.Used,s.Free]:List (List GBlock)) t36q7) t43q29).Size] (some 50) (by kernel_rfl) ?_
      refine callE_0 (buddy_power_spec (ix (ix ([s.Used,s.Free]:List (List GBlock)) t36q7) t43q29).Size r1455 hr1455) (by simp only [push_cast,seval]) (by simp only [push_cast,seval]) ?_
      refine back_t ?_
      refine rk 2 ?_
      refine run_br h 52 (.inl (by kernel_rfl)) (fun g1456 h=>?_) (fun g1456 h=>?_)
      ·refine rk 31 ?_
       refine rt [(1,.ptr 0 0),(2,.ptr 1 0),(3,iS t36q7),(4,.sl (ix ([s.Used,s.Free]:List (List GBlock)) t36q7).length (fl (ix ([s.Used,s.Free]:List (List GBlock)) t36q7))),(5,iS t43q29),(6,.ptr 3 0),(34,.own 2 0 ([s.Used,s.Free]:List (List GBlock)).length),(35,iS ((([s.Used,s.Free]:List (List GBlock)).length:Nat):Int)),(36,iS t36q7),(41,.sl (ix ([s.Used,s.Free]:List (List GBlock)) t36q7).length (fl (ix ([s.Used,s.Free]:List (List GBlock)) t36q7))),(42,iS (((ix ([s.Used,s.Free]:List (List GBlock)) t36q7).length:Nat):Int)),(43,iS t43q29),(83,bS true)] [(0,.row 24 (Enc.cells s)),(1,.row 29 [iS 0,iS 0]),(2,.row 22 (fl ([s.Used,s.Free]:List (List GBlock)))),(3,.row 38 (Enc.cells (ix (ix ([s.Used,s.Free]:List (List GBlock)) t36q7) t43q29)))] 40 follows (by kernel_rfl) ?_
       exact hK1454 (true) _ _ _ h (leSt_m [(0,0),(1,1),(2,3),(3,2)] [] (by (try simp only [g1456]) <;> simp only [push_cast,seval]) (by (try simp only [g1456]) <;> simp only [push_cast,seval]) rfl rfl rfl)
      ·refine rk 5 ?_
       refine run_br h 57 (.inl (by kernel_rfl)) (fun g1457 h=>?_) (fun g1457 h=>?_)
       ·refine rn 10 [(1,.ptr 0 0),(2,.ptr 1 0),(3,iS t36q7),(4,.sl (ix ([s.Used,s.Free]:List (List GBlock)) t36q7).length (fl (ix ([s.Used,s.Free]:List (List GBlock)) t36q7))),(5,iS t43q29),(6,.ptr 3 0),(34,.own 2 0 ([s.Used,s.Free]:List (List GBlock)).length),(35,iS ((([s.Used,s.Free]:List (List GBlock)).length:Nat):Int)),(36,iS t36q7),(41,.sl (ix ([s.Used,s.Free]:List (List GBlock)) t36q7).length (fl (ix ([s.Used,s.Free]:List (List GBlock)) t36q7))),(42,iS (((ix ([s.Used,s.Free]:List (List GBlock)) t36q7).length:Nat):Int)),(43,iS t43q29),(57,bS true)] [(0,.row 24 (Enc.cells s)),(1,.row 29 [iS 0,iS 0]),(2,.row 22 (fl ([s.Used,s.Free]:List (List GBlock)))),(3,.row 38 (Enc.cells (ix (ix ([s.Used,s.Free]:List (List GBlock)) t36q7) t43q29)))] 14 (by kernel_rfl) ?_
        refine rk 26 ?_
        refine rt [(1,.ptr 0 0),(2,.ptr 1 0),(3,iS t36q7),(4,.sl (ix ([s.Used,s.Free]:List (List GBlock)) t36q7).length (fl (ix ([s.Used,s.Free]:List (List GBlock)) t36q7))),(5,iS t43q29),(6,.ptr 3 0),(34,.own 2 0 ([s.Used,s.Free]:List (List GBlock)).length),(35,iS ((([s.Used,s.Free]:List (List GBlock)).length:Nat):Int)),(36,iS t36q7),(41,.sl (ix ([s.Used,s.Free]:List (List GBlock)) t36q7).length (fl (ix ([s.Used,s.Free]:List (List GBlock)) t36q7))),(42,iS (((ix ([s.Used,s.Free]:List (List GBlock)) t36q7).length:Nat):Int)),(43,iS t43q29),(83,bS true)] [(0,.row 24 (Enc.cells s)),(1,.row 29 [iS 0,iS 0]),(2,.row 22 (fl ([s.Used,s.Free]:List (List GBlock)))),(3,.row 38 (Enc.cells (ix (ix ([s.Used,s.Free]:List (List GBlock)) t36q7) t43q29)))] 40 follows (by kernel_rfl) ?_
        exact hK1454 (true) _ _ _ h (leSt_m [(0,0),(1,1),(2,3),(3,2)] [] (by first | ((try simp only [g1456,g1457]) <;> simp only [push_cast,seval]; done) | ((try simp only [g1456]); (try simp only [g1457]); simp only [push_cast,seval]; done) | (exfalso; clear h; simp_all; done)) (by first | ((try simp only [g1456,g1457]) <;> simp only [push_cast,seval]; done) | ((try simp only [g1456]); (try simp only [g1457]); simp only [push_cast,seval]; done) | (exfalso; clear h; simp_all; done)) rfl rfl rfl)
       ·refine rn 10 [(1,.ptr 0 0),(2,.ptr 1 0),(3,iS t36q7),(4,.sl (ix ([s.Used,s.Free]:List (List GBlock)) t36q7).length (fl (ix ([s.Used,s.Free]:List (List GBlock)) t36q7))),(5,iS t43q29),(6,.ptr 3 0),(34,.own 2 0 ([s.Used,s.Free]:List (List GBlock)).length),(35,iS ((([s.Used,s.Free]:List (List GBlock)).length:Nat):Int)),(36,iS t36q7),(41,.sl (ix ([s.Used,s.Free]:List (List GBlock)) t36q7).length (fl (ix ([s.Used,s.Free]:List (List GBlock)) t36q7))),(42,iS (((ix ([s.Used,s.Free]:List (List GBlock)) t36q7).length:Nat):Int)),(43,iS t43q29),(57,bS false)] [(0,.row 24 (Enc.cells s)),(1,.row 29 [iS 0,iS 0]),(2,.row 22 (fl ([s.Used,s.Free]:List (List GBlock)))),(3,.row 38 (Enc.cells (ix (ix ([s.Used,s.Free]:List (List GBlock)) t36q7) t43q29)))] 14 (by kernel_rfl) ?_
        refine chk_sx h (fun g1459 h=>?_)
        have k1458:(ix (ix ([s.Used,s.Free]:List (List GBlock)) t36q7) t43q29).Size≠0:=by first | simpa only [Bool.and_eq_true,decide_eq_true_eq,bne_iff_ne,ne_eq] using g1459 | (simp at g1459 ⊢; omega) | simp
        refine rs 8 [none,none,none,none,some ⟨iS (Int.tmod (ix (ix ([s.Used,s.Free]:List (List GBlock)) t36q7) t43q29).Start (ix (ix ([s.Used,s.Free]:List (List GBlock)) t36q7) t43q29).Size),[],18,[]⟩] _ (by kernel_rfl) (allP_cons (ob_p (v:=iS (Int.tmod (ix (ix ([s.Used,s.Free]:List (List GBlock)) t36q7) t43q29).Start (ix (ix ([s.Used,s.Free]:List (List GBlock)) t36q7) t43q29).Size)) (nx:=18) (r:=[]) k1458) allP_nil) ?_
        refine run_br h 65 (.inl (by kernel_rfl)) (fun g1460 h=>?_) (fun g1460 h=>?_)
        ·refine rk 18 ?_
         refine rt [(1,.ptr 0 0),(2,.ptr 1 0),(3,iS t36q7),(4,.sl (ix ([s.Used,s.Free]:List (List GBlock)) t36q7).length (fl (ix ([s.Used,s.Free]:List (List GBlock)) t36q7))),(5,iS t43q29),(6,.ptr 3 0),(34,.own 2 0 ([s.Used,s.Free]:List (List GBlock)).length),(35,iS ((([s.Used,s.Free]:List (List GBlock)).length:Nat):Int)),(36,iS t36q7),(41,.sl (ix ([s.Used,s.Free]:List (List GBlock)) t36q7).length (fl (ix ([s.Used,s.Free]:List (List GBlock)) t36q7))),(42,iS (((ix ([s.Used,s.Free]:List (List GBlock)) t36q7).length:Nat):Int)),(43,iS t43q29),(83,bS true)] [(0,.row 24 (Enc.cells s)),(1,.row 29 [iS 0,iS 0]),(2,.row 22 (fl ([s.Used,s.Free]:List (List GBlock)))),(3,.row 38 (Enc.cells (ix (ix ([s.Used,s.Free]:List (List GBlock)) t36q7) t43q29)))] 40 follows (by kernel_rfl) ?_
         exact hK1454 (true) _ _ _ h (leSt_m [(0,0),(1,1),(2,3),(3,2)] [] (by first | ((try simp only [g1456,g1457,g1460]) <;> simp only [push_cast,seval]; done) | ((try simp only [g1456]); (try simp only [g1457]); (try simp only [g1460]); simp only [push_cast,seval]; done) | (exfalso; clear h; simp_all; done)) (by first | ((try simp only [g1456,g1457,g1460]) <;> simp only [push_cast,seval]; done) | ((try simp only [g1456]); (try simp only [g1457]); (try simp only [g1460]); simp only [push_cast,seval]; done) | (exfalso; clear h; simp_all; done)) rfl rfl rfl)
        ·refine chk_sx h (fun g1462 h=>?_)
         have k1461:0≤s.Bits:=by first | simpa only [Bool.and_eq_true,decide_eq_true_eq,bne_iff_ne,ne_eq] using g1462 | (simp at g1462 ⊢; omega) | simp
         refine rs 8 [none,none,none,none,some ⟨iS (IntKind.i64.wrap ((1:Int) * 2 ^ (min (s.Bits).toNat (IntKind.i64).bits))),[],26,[]⟩] _ (by kernel_rfl) (allP_cons (ob_p (v:=iS (IntKind.i64.wrap ((1:Int) * 2 ^ (min (s.Bits).toNat (IntKind.i64).bits)))) (nx:=26) (r:=[]) k1461) allP_nil) ?_
         refine run_br h 73 (.inl (by kernel_rfl)) (fun g1463 h=>?_) (fun g1463 h=>?_)
         ·refine rk 10 ?_
          refine rt [(1,.ptr 0 0),(2,.ptr 1 0),(3,iS t36q7),(4,.sl (ix ([s.Used,s.Free]:List (List GBlock)) t36q7).length (fl (ix ([s.Used,s.Free]:List (List GBlock)) t36q7))),(5,iS t43q29),(6,.ptr 3 0),(34,.own 2 0 ([s.Used,s.Free]:List (List GBlock)).length),(35,iS ((([s.Used,s.Free]:List (List GBlock)).length:Nat):Int)),(36,iS t36q7),(41,.sl (ix ([s.Used,s.Free]:List (List GBlock)) t36q7).length (fl (ix ([s.Used,s.Free]:List (List GBlock)) t36q7))),(42,iS (((ix ([s.Used,s.Free]:List (List GBlock)) t36q7).length:Nat):Int)),(43,iS t43q29),(83,bS true)] [(0,.row 24 (Enc.cells s)),(1,.row 29 [iS 0,iS 0]),(2,.row 22 (fl ([s.Used,s.Free]:List (List GBlock)))),(3,.row 38 (Enc.cells (ix (ix ([s.Used,s.Free]:List (List GBlock)) t36q7) t43q29)))] 40 follows (by kernel_rfl) ?_
          exact hK1454 (true) _ _ _ h (leSt_m [(0,0),(1,1),(2,3),(3,2)] [] (by first | ((try simp only [g1456,g1457,g1460,g1463]) <;> simp only [push_cast,seval]; done) | ((try simp only [g1456]); (try simp only [g1457]); (try simp only [g1460]); (try simp only [g1463]); simp only [push_cast,seval]; done) | (exfalso; clear h; simp_all; done)) (by first | ((try simp only [g1456,g1457,g1460,g1463]) <;> simp only [push_cast,seval]; done) | ((try simp only [g1456]); (try simp only [g1457]); (try simp only [g1460]); (try simp only [g1463]); simp only [push_cast,seval]; done) | (exfalso; clear h; simp_all; done)) rfl rfl rfl)
         ·refine chk_sx h (fun g1465 h=>?_)
          have k1464:0≤s.Bits:=by first | simpa only [Bool.and_eq_true,decide_eq_true_eq,bne_iff_ne,ne_eq] using g1465 | (simp at g1465 ⊢; omega) | simp
          refine rs 10 [none,none,none,none,some ⟨iS (IntKind.i64.wrap ((1:Int) * 2 ^ (min (s.Bits).toNat (IntKind.i64).bits))),[],34,[]⟩] _ (by kernel_rfl) (allP_cons (ob_p (v:=iS (IntKind.i64.wrap ((1:Int) * 2 ^ (min (s.Bits).toNat (IntKind.i64).bits)))) (nx:=34) (r:=[]) k1464) allP_nil) ?_
          refine rt [(1,.ptr 0 0),(2,.ptr 1 0),(3,iS t36q7),(4,.sl (ix ([s.Used,s.Free]:List (List GBlock)) t36q7).length (fl (ix ([s.Used,s.Free]:List (List GBlock)) t36q7))),(5,iS t43q29),(6,.ptr 3 0),(34,.own 2 0 ([s.Used,s.Free]:List (List GBlock)).length),(35,iS ((([s.Used,s.Free]:List (List GBlock)).length:Nat):Int)),(36,iS t36q7),(41,.sl (ix ([s.Used,s.Free]:List (List GBlock)) t36q7).length (fl (ix ([s.Used,s.Free]:List (List GBlock)) t36q7))),(42,iS (((ix ([s.Used,s.Free]:List (List GBlock)) t36q7).length:Nat):Int)),(43,iS t43q29),(83,bS (decide ((IntKind.i64.wrap ((IntKind.i64.wrap ((1:Int) * 2 ^ (min (s.Bits).toNat (IntKind.i64).bits))) - (ix (ix ([s.Used,s.Free]:List (List GBlock)) t36q7) t43q29).Size)) < (ix (ix ([s.Used,s.Free]:List (List GBlock)) t36q7) t43q29).Start)))] [(0,.row 24 (Enc.cells s)),(1,.row 29 [iS 0,iS 0]),(2,.row 22 (fl ([s.Used,s.Free]:List (List GBlock)))),(3,.row 38 (Enc.cells (ix (ix ([s.Used,s.Free]:List (List GBlock)) t36q7) t43q29)))] 40 follows (by kernel_rfl) ?_
          exact hK1454 ((decide ((IntKind.i64.wrap ((IntKind.i64.wrap ((1:Int) * 2 ^ (min (s.Bits).toNat (IntKind.i64).bits))) - (ix (ix ([s.Used,s.Free]:List (List GBlock)) t36q7) t43q29).Size)) < (ix (ix ([s.Used,s.Free]:List (List GBlock)) t36q7) t43q29).Start))) _ _ _ h (leSt_m [(0,0),(1,1),(2,3),(3,2)] [] (by first | ((try simp only [g1456,g1457,g1460,g1463]) <;> simp only [push_cast,seval]; done) | ((try simp only [g1456]); (try simp only [g1457]); (try simp only [g1460]); (try simp only [g1463]); simp only [push_cast,seval]; done) | (exfalso; clear h; simp_all; done)) (by first | ((try simp only [g1456,g1457,g1460,g1463]) <;> simp only [push_cast,seval]; done) | ((try simp only [g1456]); (try simp only [g1457]); (try simp only [g1460]); (try simp only [g1463]); simp only [push_cast,seval]; done) | (exfalso; clear h; simp_all; done)) rfl rfl rfl)
     ·rintro t83q47 h
      try dsimp only at h ⊢
      unfold buddy_Check_j1 at h
      refine cond_sx h (by kernel_rfl) (fun g1478 h=>?_) (fun g1478 h=>?_)
      ·refine seq_np ?_
       refine reg_f ?_
       refine rk 1 ?_
       obtain ⟨r1467,hr1467,h⟩:=bind_sx h
       refine run_call 21 [iS 3,iS t36q7] (some 85) (by kernel_rfl) ?_
       refine call_0 (buddy_fault_spec 3 t36q7 r1467 hr1467) (by simp only [push_cast,seval]) (by simp only [push_cast,seval]) ?_
       refine back_f ?_
       refine rk 1 ?_
       refine rf [(2,.ptr 1 0)] [(0,.row 24 (Enc.cells s)),(1,.row 29 (Enc.cells r1467)),(2,.row 38 (Enc.cells (ix (ix ([s.Used,s.Free]:List (List GBlock)) t36q7) t43q29))),(3,.row 22 (fl ([s.Used,s.Free]:List (List GBlock))))] 4 (by kernel_rfl) ?_
       refine wk_id ?_
       refine rt_cast ht5 ?_
       obtain ⟨r0,h,e0⟩:=map_sx h
       have e1:=hr5 r0 e0.symm
       subst r0
       refine rt_cast ht4 ?_
       obtain ⟨r0,h,e0⟩:=map_sx h
       have e1:=hr4 r0 e0.symm
       subst r0
       obtain rfl:=Option.some.inj h
       refine ret_at (.agg (Enc.cells r1467)) (by kernel_rfl) ?_
       exact ret_e [] [] (by simp only [push_cast,seval]) (by simp only [push_cast,seval]) rfl rfl rfl
      ·refine wk_id ?_
       refine chk_sx h (fun g1474 h=>?_)
       refine seq_cut (A:=Unit) (fun _=>([(1,.ptr 0 0),(2,.ptr 1 0),(3,iS t36q7),(4,.sl (ix ([s.Used,s.Free]:List (List GBlock)) t36q7).length (fl (ix ([s.Used,s.Free]:List (List GBlock)) t36q7))),(34,.own 3 0 ([s.Used,s.Free]:List (List GBlock)).length),(35,iS ((([s.Used,s.Free]:List (List GBlock)).length:Nat):Int)),(36,iS t36q7),(41,.sl (ix ([s.Used,s.Free]:List (List GBlock)) t36q7).length (fl (ix ([s.Used,s.Free]:List (List GBlock)) t36q7))),(42,iS (((ix ([s.Used,s.Free]:List (List GBlock)) t36q7).length:Nat):Int)),(43,iS t43q29),(98,bS ((decide ((0:Int) < t43q29)) && (decide ((ix (ix ([s.Used,s.Free]:List (List GBlock)) t36q7) t43q29).Start≤(ix (ix ([s.Used,s.Free]:List (List GBlock)) t36q7) (IntKind.i64.wrap (t43q29 - 1))).Start))))],[(0,.row 24 (Enc.cells s)),(1,.row 29 [iS 0,iS 0]),(2,.row 38 (Enc.cells (ix (ix ([s.Used,s.Free]:List (List GBlock)) t36q7) t43q29))),(3,.row 22 (fl ([s.Used,s.Free]:List (List GBlock))))],17)) (fun _=>True) (fun K1471 hK1471=>?_) (fun _ _=>?_)
       ·refine reg_t ?_
        refine rk 3 ?_
        refine run_split 88 (decide ((0:Int) < t43q29)) (.inl (by kernel_rfl)) (fun g1472=>?_) (fun g1472=>?_)
        ·have k1473:0≤(IntKind.i64.wrap (t43q29 - 1))∧(IntKind.i64.wrap (t43q29 - 1)) < (((ix ([s.Used,s.Free]:List (List GBlock)) t36q7).length:Nat):Int):=by have e:=or_use g1474 (by first | ((try simp only [g1472]) <;> rfl) | ((try simp only [g1472]); rfl) | (exfalso; clear h; simp_all; done)); first | simpa only [Bool.and_eq_true,decide_eq_true_eq,bne_iff_ne,ne_eq] using e | (simp at e ⊢; omega)
         refine rs 10 [none,none,none,some ⟨.iptr (fl (ix ([s.Used,s.Free]:List (List GBlock)) t36q7)) (((IntKind.i64.wrap (t43q29 - 1))).toNat * 2),[],10,[]⟩,none,some ⟨iS (ix (ix ([s.Used,s.Free]:List (List GBlock)) t36q7) (IntKind.i64.wrap (t43q29 - 1))).Start,[],12,[]⟩] _ (by kernel_rfl) (allP_cons (ob_ld (ix ([s.Used,s.Free]:List (List GBlock)) t36q7) (IntKind.i64.wrap (t43q29 - 1)) 2 0 ((((IntKind.i64.wrap (t43q29 - 1))).toNat * 2)+0) k1473 rfl (by decide) (by first | rfl | omega) (dflS Try.prog 3) (iS (ix (ix ([s.Used,s.Free]:List (List GBlock)) t36q7) (IntKind.i64.wrap (t43q29 - 1))).Start) rfl 12 []) (allP_cons (ob_ix_l (ix ([s.Used,s.Free]:List (List GBlock)) t36q7) 2 10 (IntKind.i64.wrap (t43q29 - 1)) k1473) allP_nil)) ?_
         refine rt [(1,.ptr 0 0),(2,.ptr 1 0),(3,iS t36q7),(4,.sl (ix ([s.Used,s.Free]:List (List GBlock)) t36q7).length (fl (ix ([s.Used,s.Free]:List (List GBlock)) t36q7))),(34,.own 3 0 ([s.Used,s.Free]:List (List GBlock)).length),(35,iS ((([s.Used,s.Free]:List (List GBlock)).length:Nat):Int)),(36,iS t36q7),(41,.sl (ix ([s.Used,s.Free]:List (List GBlock)) t36q7).length (fl (ix ([s.Used,s.Free]:List (List GBlock)) t36q7))),(42,iS (((ix ([s.Used,s.Free]:List (List GBlock)) t36q7).length:Nat):Int)),(43,iS t43q29),(98,bS (decide ((ix (ix ([s.Used,s.Free]:List (List GBlock)) t36q7) t43q29).Start≤(ix (ix ([s.Used,s.Free]:List (List GBlock)) t36q7) (IntKind.i64.wrap (t43q29 - 1))).Start)))] [(0,.row 24 (Enc.cells s)),(1,.row 29 [iS 0,iS 0]),(2,.row 38 (Enc.cells (ix (ix ([s.Used,s.Free]:List (List GBlock)) t36q7) t43q29))),(3,.row 22 (fl ([s.Used,s.Free]:List (List GBlock))))] 17 follows (by kernel_rfl) ?_
         exact hK1471 () _ _ _ trivial (leSt_m [(0,0),(1,1),(2,2),(3,3)] [] (by (try simp only [g1472]) <;> simp only [push_cast,seval]) (by (try simp only [g1472]) <;> simp only [push_cast,seval]) rfl rfl rfl)
        ·refine rk 10 ?_
         refine rt [(1,.ptr 0 0),(2,.ptr 1 0),(3,iS t36q7),(4,.sl (ix ([s.Used,s.Free]:List (List GBlock)) t36q7).length (fl (ix ([s.Used,s.Free]:List (List GBlock)) t36q7))),(34,.own 3 0 ([s.Used,s.Free]:List (List GBlock)).length),(35,iS ((([s.Used,s.Free]:List (List GBlock)).length:Nat):Int)),(36,iS t36q7),(41,.sl (ix ([s.Used,s.Free]:List (List GBlock)) t36q7).length (fl (ix ([s.Used,s.Free]:List (List GBlock)) t36q7))),(42,iS (((ix ([s.Used,s.Free]:List (List GBlock)) t36q7).length:Nat):Int)),(43,iS t43q29),(98,bS false)] [(0,.row 24 (Enc.cells s)),(1,.row 29 [iS 0,iS 0]),(2,.row 38 (Enc.cells (ix (ix ([s.Used,s.Free]:List (List GBlock)) t36q7) t43q29))),(3,.row 22 (fl ([s.Used,s.Free]:List (List GBlock))))] 17 follows (by kernel_rfl) ?_
         exact hK1471 () _ _ _ trivial (leSt_m [(0,0),(1,1),(2,2),(3,3)] [] (by (try simp only [g1472]) <;> simp only [push_cast,seval]) (by (try simp only [g1472]) <;> simp only [push_cast,seval]) rfl rfl rfl)
       ·dsimp only
        refine cond_sx h (by kernel_rfl) (fun g1477 h=>?_) (fun g1477 h=>?_)
        ·refine seq_np ?_
         refine reg_f ?_
         refine rk 1 ?_
         obtain ⟨r1476,hr1476,h⟩:=bind_sx h
         refine run_call 21 [iS 5,iS t36q7] (some 100) (by kernel_rfl) ?_
         refine call_0 (buddy_fault_spec 5 t36q7 r1476 hr1476) (by simp only [push_cast,seval]) (by simp only [push_cast,seval]) ?_
         refine back_f ?_
         refine rk 1 ?_
         refine rf [(2,.ptr 1 0)] [(0,.row 24 (Enc.cells s)),(1,.row 29 (Enc.cells r1476)),(2,.row 38 (Enc.cells (ix (ix ([s.Used,s.Free]:List (List GBlock)) t36q7) t43q29))),(3,.row 22 (fl ([s.Used,s.Free]:List (List GBlock))))] 17 (by kernel_rfl) ?_
         refine wk_id ?_
         refine rt_cast ht5 ?_
         obtain ⟨r0,h,e0⟩:=map_sx h
         have e1:=hr5 r0 e0.symm
         subst r0
         refine rt_cast ht4 ?_
         obtain ⟨r0,h,e0⟩:=map_sx h
         have e1:=hr4 r0 e0.symm
         subst r0
         obtain rfl:=Option.some.inj h
         refine ret_at (.agg (Enc.cells r1476)) (by kernel_rfl) ?_
         exact ret_e [] [] (by simp only [push_cast,seval]) (by simp only [push_cast,seval]) rfl rfl rfl
        ·refine wk_id ?_
         refine wk_id ?_
         refine reg_f ?_
         refine rk 2 ?_
         refine rf [(1,.ptr 0 0),(2,.ptr 1 0),(3,iS t36q7),(4,.sl (ix ([s.Used,s.Free]:List (List GBlock)) t36q7).length (fl (ix ([s.Used,s.Free]:List (List GBlock)) t36q7))),(34,.own 3 0 ([s.Used,s.Free]:List (List GBlock)).length),(35,iS ((([s.Used,s.Free]:List (List GBlock)).length:Nat):Int)),(36,iS t36q7),(41,.sl (ix ([s.Used,s.Free]:List (List GBlock)) t36q7).length (fl (ix ([s.Used,s.Free]:List (List GBlock)) t36q7))),(42,iS (((ix ([s.Used,s.Free]:List (List GBlock)) t36q7).length:Nat):Int)),(43,iS (IntKind.i64.wrap (t43q29+1)))] [(0,.row 24 (Enc.cells s)),(1,.row 29 [iS 0,iS 0]),(2,.row 38 (Enc.cells (ix (ix ([s.Used,s.Free]:List (List GBlock)) t36q7) t43q29))),(3,.row 22 (fl ([s.Used,s.Free]:List (List GBlock))))] 17 (by kernel_rfl) ?_
         exact hn5 ((IntKind.i64.wrap (t43q29+1))) _ _ _ (Option.some.inj h).symm (leSt_m [(0,0),(1,1),(2,3)] [] (by simp only [push_cast,seval]) (by simp only [push_cast,seval]) rfl rfl rfl)
    ·change R5 (.exit 2) _ _ _
     refine ex_cast hx5 (id:=2) ?_
     obtain ⟨r0,h,e0⟩:=map_sx h
     have e1:=hr5 r0 e0.symm
     subst r0
     refine wk_id ?_
     refine wk_id ?_
     refine wk_id ?_
     refine reg_f ?_
     refine rk 2 ?_
     refine rf [(1,.ptr 0 0),(2,.ptr 1 0),(34,.own 2 0 ([s.Used,s.Free]:List (List GBlock)).length),(35,iS ((([s.Used,s.Free]:List (List GBlock)).length:Nat):Int)),(36,iS (IntKind.i64.wrap (t36q7+1)))] [(0,.row 24 (Enc.cells s)),(1,.row 29 [iS 0,iS 0]),(2,.row 22 (fl ([s.Used,s.Free]:List (List GBlock))))] 3 (by kernel_rfl) ?_
     exact hn4 ((IntKind.i64.wrap (t36q7+1))) _ _ _ (Option.some.inj h).symm (leSt_m [(0,0),(1,1),(2,2)] [] (by simp only [push_cast,seval]) (by simp only [push_cast,seval]) rfl rfl rfl)
   ·change R4 (.exit 0) _ _ _
    refine ex_cast hx4 (id:=0) ?_
    obtain ⟨r0,h,e0⟩:=map_sx h
    have e1:=hr4 r0 e0.symm
    subst r0
    refine wk_id ?_
    refine wk_id ?_
    refine seq_np ?_
    refine reg_f ?_
    refine rk 5 ?_
    obtain ⟨r1483,hr1483,h⟩:=bind_sx h
    refine call_x (slices_Concat_Block_spec ([s.Used,s.Free]:List (List GBlock)) r1483 hr1483) (args:=[.own 3 0 ([s.Used,s.Free]:List (List GBlock)).length]) (dst:=(some 108)) (by kernel_rfl) [(0,.row 24 (Enc.cells s)),(1,.row 29 [iS 0,iS 0]),(2,.row 22 (fl ([s.Used,s.Free]:List (List GBlock)))),(3,.row 22 (fl ([s.Used,s.Free]:List (List GBlock))))] 4 (by kernel_rfl) [] [3] (.own 4 0 r1483.length) [(4,.row 38 (fl r1483))] (by simp only [push_cast,seval]) (by simp only [push_cast,seval]) (by kernel_rfl) (.inr ⟨by simp only [push_cast,seval],by simp only [push_cast,seval]⟩) (by simp only [push_cast,seval]) (by simp only [push_cast,seval]) ?_
    obtain ⟨r1484,hr1484,h⟩:=bind_sx h
    refine call_x (SpecW.give (slices_Values_Block_spec r1483 r1484 hr1484) [(0,.row 38 (fl r1483))] [.own 0 0 r1483.length] [] (.clo 43 [.ptr 1 0]) [(1,.row 22 [.sl r1484.length (fl r1484)])] (by first | simp only [push_cast,seval] | simp only [push_cast,List.mem_singleton,true_and,and_true,seval]) (by simp only [push_cast,seval]) (by simp only [push_cast,seval]) (by simp only [push_cast,seval]) rfl (by simp only [push_cast,seval]) (by simp only [push_cast,seval]) rfl) (args:=[.own 4 0 r1483.length]) (dst:=(some 109)) (by kernel_rfl) [(0,.row 24 (Enc.cells s)),(1,.row 29 [iS 0,iS 0]),(2,.row 22 (fl ([s.Used,s.Free]:List (List GBlock)))),(3,.row 22 (fl ([s.Used,s.Free]:List (List GBlock)))),(4,.row 38 (fl r1483))] 5 (by kernel_rfl) [(0,4)] [] (.clo 43 [.ptr 6 0]) [(6,.row 22 [.sl r1484.length (fl r1484)]),(4,.dead)] (by simp only [push_cast,seval]) (by simp only [push_cast,seval]) (by kernel_rfl) (.inl rfl) (by simp only [push_cast,seval]) (by simp only [push_cast,seval]) ?_
    obtain ⟨r1485,hr1485,h⟩:=bind_sx h
    refine call_x (slices_SortedFunc_Block_spec r1484 r1485 hr1485) (args:=[.clo 43 [.ptr 6 0],.v (.func (.func 26) #[] #[])]) (dst:=(some 110)) (by kernel_rfl) [(0,.row 24 (Enc.cells s)),(1,.row 29 [iS 0,iS 0]),(2,.row 22 (fl ([s.Used,s.Free]:List (List GBlock)))),(3,.row 22 (fl ([s.Used,s.Free]:List (List GBlock)))),(4,.dead),(6,.row 22 [.sl r1484.length (fl r1484)])] 7 (by kernel_rfl) [] [6] (.own 7 0 r1485.length) [(7,.row 38 (fl r1485))] (by simp only [push_cast,seval]) (by simp only [push_cast,seval]) (by kernel_rfl) (.inr ⟨by simp only [push_cast,seval],by simp only [push_cast,seval]⟩) (by simp only [push_cast,seval]) (by simp only [push_cast,seval]) ?_
    refine rk 1 ?_
    refine rf [(1,.ptr 0 0),(2,.ptr 1 0),(7,.own 7 0 r1485.length)] [(0,.row 24 (Enc.cells s)),(1,.row 29 [iS 0,iS 0]),(2,.row 22 (fl ([s.Used,s.Free]:List (List GBlock)))),(3,.row 22 (fl ([s.Used,s.Free]:List (List GBlock)))),(4,.dead),(6,.row 22 [.sl r1484.length (fl r1484)]),(7,.row 38 (fl r1485))] 8 (by kernel_rfl) ?_
    refine wk_id ?_
    refine seq_np ?_
    refine reg_f ?_
    refine rk 1 ?_
    refine rf [(1,.ptr 0 0),(2,.ptr 1 0),(7,.own 7 0 r1485.length),(8,iS 0)] [(0,.row 24 (Enc.cells s)),(1,.row 29 [iS 0,iS 0]),(2,.row 22 (fl ([s.Used,s.Free]:List (List GBlock)))),(3,.row 22 (fl ([s.Used,s.Free]:List (List GBlock)))),(4,.dead),(6,.row 22 [.sl r1484.length (fl r1484)]),(7,.row 38 (fl r1485))] 8 (by kernel_rfl) ?_
    refine wk_id ?_
    refine seq_np ?_
    refine seq_np ?_
    refine reg_f ?_
    refine rk 3 ?_
    refine rf [(1,.ptr 0 0),(2,.ptr 1 0),(8,iS 0),(111,.own 7 0 r1485.length),(112,iS (r1485.length:Int)),(113,iS 0)] [(0,.row 24 (Enc.cells s)),(1,.row 29 [iS 0,iS 0]),(2,.row 22 (fl ([s.Used,s.Free]:List (List GBlock)))),(3,.row 22 (fl ([s.Used,s.Free]:List (List GBlock)))),(4,.dead),(6,.row 22 [.sl r1484.length (fl r1484)]),(7,.row 38 (fl r1485))] 8 (by kernel_rfl) ?_
    refine wk_id ?_
    refine block_np ?_
    refine loop_sx (S:=Int×Int×Int×(List GBlock)) (fun a=>([(1,.ptr 0 0),(2,.ptr 1 0),(8,iS a.1),(111,.own 2 0 a.2.2.2.length),(112,iS a.2.1),(113,iS a.2.2.1)],[(0,.row 24 (Enc.cells s)),(1,.row 29 [iS 0,iS 0]),(2,.row 38 (fl a.2.2.2))],3)) h (leSt_m [(0,0),(1,1),(2,7)] [] (by simp only [push_cast,seval]) (by simp only [push_cast,seval]) rfl rfl rfl) ?_
    rintro ⟨xat7,t112q11,t113q7,c2q11⟩ o6 R6 h hr6 hn6 hx6 ht6
    try dsimp only at h hn6 ⊢
    unfold buddy_Check_l2 at h
    try dsimp only at h
    refine seq_np ?_
    refine reg_f ?_
    refine rk 1 ?_
    refine rf [(1,.ptr 0 0),(2,.ptr 1 0),(8,iS xat7),(111,.own 2 0 c2q11.length),(112,iS t112q11),(113,iS t113q7),(114,bS (decide (t113q7 < t112q11)))] [(0,.row 24 (Enc.cells s)),(1,.row 29 [iS 0,iS 0]),(2,.row 38 (fl c2q11))] 3 (by kernel_rfl) ?_
    refine wk_id ?_
    refine seq_np ?_
    refine cond_sx h (by kernel_rfl) (fun g1566 h=>?_) (fun g1566 h=>?_)
    ·refine wk_id ?_
     refine seq_np ?_
     refine block_np ?_
     refine chk_sx h (fun g1541 h=>?_)
     refine seq_np ?_
     refine reg_f ?_
     have k1540:0≤t113q7∧t113q7 < (c2q11.length:Int):=by first | simpa only [Bool.and_eq_true,decide_eq_true_eq,bne_iff_ne,ne_eq] using g1541 | (simp at g1541 ⊢; omega) | simp
     refine rs 4 [some ⟨.ptr 2 (0+(t113q7).toNat * 2),[],3,[2]⟩,some ⟨.agg (Enc.cells (ix c2q11 t113q7)),[],3,[2]⟩] _ (by kernel_rfl) (allP_cons (ob_ldw c2q11 t113q7 2 (0+(t113q7).toNat * 2) k1540 rfl (by first | rfl | omega) (Enc.cells (ix c2q11 t113q7)) rfl 3 [2]) (allP_cons (ob_ix_o 2 c2q11.length 0 2 3 t113q7 k1540) allP_nil)) ?_
     refine rf [(1,.ptr 0 0),(2,.ptr 1 0),(8,iS xat7),(10,.ptr 3 0),(111,.own 2 0 c2q11.length),(112,iS t112q11),(113,iS t113q7)] [(0,.row 24 (Enc.cells s)),(1,.row 29 [iS 0,iS 0]),(2,.row 38 (fl c2q11)),(3,.row 38 (Enc.cells (ix c2q11 t113q7)))] 4 (by kernel_rfl) ?_
     refine wk_id ?_
     refine seq_np ?_
     refine seq_np ?_
     refine reg_f ?_
     refine rk 4 ?_
     refine rf [(1,.ptr 0 0),(2,.ptr 1 0),(8,iS xat7),(10,.ptr 3 0),(111,.own 2 0 c2q11.length),(112,iS t112q11),(113,iS t113q7),(120,bS ((ix c2q11 t113q7).Start != xat7))] [(0,.row 24 (Enc.cells s)),(1,.row 29 [iS 0,iS 0]),(2,.row 38 (fl c2q11)),(3,.row 38 (Enc.cells (ix c2q11 t113q7)))] 4 (by kernel_rfl) ?_
     refine wk_id ?_
     refine cond_sx h (by kernel_rfl) (fun g1546 h=>?_) (fun g1546 h=>?_)
     ·refine seq_np ?_
      refine reg_f ?_
      obtain ⟨r1545,hr1545,h⟩:=bind_sx h
      refine run_call 21 [iS 8,iS 0] (some 121) (by kernel_rfl) ?_
      refine call_0 (buddy_fault_spec 8 0 r1545 hr1545) (by simp only [push_cast,seval]) (by simp only [push_cast,seval]) ?_
      refine back_f ?_
      refine rk 1 ?_
      refine rf [(2,.ptr 1 0)] [(0,.row 24 (Enc.cells s)),(1,.row 29 (Enc.cells r1545)),(2,.row 38 (fl c2q11)),(3,.row 38 (Enc.cells (ix c2q11 t113q7)))] 4 (by kernel_rfl) ?_
      refine wk_id ?_
      refine rt_cast ht6 ?_
      obtain ⟨r0,h,e0⟩:=map_sx h
      have e1:=hr6 r0 e0.symm
      subst r0
      obtain rfl:=Option.some.inj h
      refine ret_at (.agg (Enc.cells r1545)) (by kernel_rfl) ?_
      exact ret_e [] [] (by simp only [push_cast,seval]) (by simp only [push_cast,seval]) rfl rfl rfl
     ·refine wk_id ?_
      refine reg_f ?_
      refine rk 5 ?_
      refine rf [(1,.ptr 0 0),(2,.ptr 1 0),(8,iS (IntKind.i64.wrap (xat7+(ix c2q11 t113q7).Size))),(111,.own 2 0 c2q11.length),(112,iS t112q11),(113,iS t113q7)] [(0,.row 24 (Enc.cells s)),(1,.row 29 [iS 0,iS 0]),(2,.row 38 (fl c2q11)),(3,.row 38 (Enc.cells (ix c2q11 t113q7)))] 4 (by kernel_rfl) ?_
      refine wk_id ?_
      refine wk_id ?_
      refine reg_f ?_
      refine rk 2 ?_
      refine rf [(1,.ptr 0 0),(2,.ptr 1 0),(8,iS (IntKind.i64.wrap (xat7+(ix c2q11 t113q7).Size))),(111,.own 2 0 c2q11.length),(112,iS t112q11),(113,iS (IntKind.i64.wrap (t113q7+1)))] [(0,.row 24 (Enc.cells s)),(1,.row 29 [iS 0,iS 0]),(2,.row 38 (fl c2q11)),(3,.row 38 (Enc.cells (ix c2q11 t113q7)))] 4 (by kernel_rfl) ?_
      exact hn6 ((IntKind.i64.wrap (xat7+(ix c2q11 t113q7).Size)),t112q11,(IntKind.i64.wrap (t113q7+1)),c2q11) _ _ _ (Option.some.inj h).symm (leSt_m [(0,0),(1,1),(2,2)] [] (by simp only [push_cast,seval]) (by simp only [push_cast,seval]) rfl rfl rfl)
    ·change R6 (.exit 4) _ _ _
     refine ex_cast hx6 (id:=4) ?_
     obtain ⟨r0,h,e0⟩:=map_sx h
     have e1:=hr6 r0 e0.symm
     subst r0
     refine wk_id ?_
     refine wk_id ?_
     refine seq_np ?_
     refine chk_sx h (fun g1554 h=>?_)
     refine seq_np ?_
     refine reg_f ?_
     have k1553:0≤s.Bits:=by first | simpa only [Bool.and_eq_true,decide_eq_true_eq,bne_iff_ne,ne_eq] using g1554 | (simp at g1554 ⊢; omega) | simp
     refine rs 5 [none,none,none,some ⟨iS (IntKind.i64.wrap ((1:Int) * 2 ^ (min (s.Bits).toNat (IntKind.i64).bits))),[],3,[]⟩] _ (by kernel_rfl) (allP_cons (ob_p (v:=iS (IntKind.i64.wrap ((1:Int) * 2 ^ (min (s.Bits).toNat (IntKind.i64).bits)))) (nx:=3) (r:=[]) k1553) allP_nil) ?_
     refine rf [(1,.ptr 0 0),(2,.ptr 1 0),(131,bS (xat7 != (IntKind.i64.wrap ((1:Int) * 2 ^ (min (s.Bits).toNat (IntKind.i64).bits)))))] [(0,.row 24 (Enc.cells s)),(1,.row 29 [iS 0,iS 0]),(2,.row 38 (fl c2q11))] 3 (by kernel_rfl) ?_
     refine wk_id ?_
     refine cond_sx h (by kernel_rfl) (fun g1565 h=>?_) (fun g1565 h=>?_)
     ·refine seq_np ?_
      refine reg_f ?_
      obtain ⟨r1556,hr1556,h⟩:=bind_sx h
      refine run_call 21 [iS 8,iS 0] (some 132) (by kernel_rfl) ?_
      refine call_0 (buddy_fault_spec 8 0 r1556 hr1556) (by simp only [push_cast,seval]) (by simp only [push_cast,seval]) ?_
      refine back_f ?_
      refine rk 1 ?_
      refine rf [(2,.ptr 1 0)] [(0,.row 24 (Enc.cells s)),(1,.row 29 (Enc.cells r1556)),(2,.row 38 (fl c2q11))] 3 (by kernel_rfl) ?_
      refine wk_id ?_
      obtain rfl:=Option.some.inj h
      refine ret_at (.agg (Enc.cells r1556)) (by kernel_rfl) ?_
      exact ret_e [] [] (by simp only [push_cast,seval]) (by simp only [push_cast,seval]) rfl rfl rfl
     ·refine wk_id ?_
      refine seq_np ?_
      refine seq_np ?_
      refine reg_f ?_
      refine rk 3 ?_
      obtain ⟨r1561,hr1561,h⟩:=bind_sx h
      refine call_x (slices_ContainsFunc_Block_spec s.Free s r1561 hr1561) (args:=[.sl s.Free.length (fl s.Free),.clo 28 [.ptr 0 0]]) (dst:=(some 136)) (by kernel_rfl) [(0,.row 24 (Enc.cells s)),(1,.row 29 [iS 0,iS 0]),(2,.row 38 (fl c2q11))] 3 (by kernel_rfl) [] [0] (bS r1561) [] (by simp only [push_cast,seval]) (by simp only [push_cast,seval]) (by kernel_rfl) (.inr ⟨by simp only [push_cast,seval],by simp only [push_cast,seval]⟩) (by simp only [push_cast,seval]) (by simp only [push_cast,seval]) ?_
      refine rf [(2,.ptr 1 0),(136,bS r1561)] [(0,.row 24 (Enc.cells s)),(1,.row 29 [iS 0,iS 0]),(2,.row 38 (fl c2q11))] 3 (by kernel_rfl) ?_
      refine wk_id ?_
      refine cond_sx h (by kernel_rfl) (fun g1564 h=>?_) (fun g1564 h=>?_)
      ·refine seq_np ?_
       refine reg_f ?_
       obtain ⟨r1563,hr1563,h⟩:=bind_sx h
       refine run_call 21 [iS 11,iS 0] (some 137) (by kernel_rfl) ?_
       refine call_0 (buddy_fault_spec 11 0 r1563 hr1563) (by simp only [push_cast,seval]) (by simp only [push_cast,seval]) ?_
       refine back_f ?_
       refine rk 1 ?_
       refine rf [(2,.ptr 1 0)] [(0,.row 24 (Enc.cells s)),(1,.row 29 (Enc.cells r1563)),(2,.row 38 (fl c2q11))] 3 (by kernel_rfl) ?_
       refine wk_id ?_
       obtain rfl:=Option.some.inj h
       refine ret_at (.agg (Enc.cells r1563)) (by kernel_rfl) ?_
       exact ret_e [] [] (by simp only [push_cast,seval]) (by simp only [push_cast,seval]) rfl rfl rfl
      ·refine wk_id ?_
       refine seq_np ?_
       refine reg_f ?_
       refine rk 2 ?_
       refine rf [(2,.ptr 1 0)] [(0,.row 24 (Enc.cells s)),(1,.row 29 [iS 0,iS 0]),(2,.row 38 (fl c2q11))] 3 (by kernel_rfl) ?_
       refine wk_id ?_
       obtain rfl:=Option.some.inj h
       refine ret_at (.agg [iS 0,iS 0]) (by kernel_rfl) ?_
       exact ret_e [] [] (by simp only [push_cast,seval]) (by simp only [push_cast,seval]) rfl rfl rfl

set_option maxRecDepth 100000 in
set_option maxHeartbeats 200000000 in
theorem slices_Clone_Block_spec (s:(List GBlock)) (r:(List GBlock)) (h:slices_Clone_Block s = some r):SpecW Try.prog 47 [.sl s.length (fl s)] [] 0 (fun x h n=>x = .own 0 0 r.length∧h = [(0,.row 38 (fl r))]∧n = 1):=by
 unfold slices_Clone_Block at h
 refine spec_of (draw_ok _) Try.func47 rfl (by decide) rfl (by kernel_rfl) ?_
 refine seq_np ?_
 refine reg_f ?_
 refine rk 1 ?_
 refine rf [(0,.sl s.length (fl s))] [] 0 (by kernel_rfl) ?_
 refine wk_id ?_
 refine seq_np ?_
 refine seq_np ?_
 refine reg_f ?_
 refine rk 1 ?_
 refine run_nil s.length (some 4) (by kernel_rfl) (fun g1614=>?_) ?_
 ·obtain rfl:s = []:=List.eq_nil_of_length_eq_zero g1614
  replace h:(some ([])) = some r:=by simpa using h
  refine rf [(0,.sl ([]:List GBlock).length (fl ([]:List GBlock))),(4,bS true)] [] 0 (by kernel_rfl) ?_
  refine wk_id ?_
  refine cond_t (by kernel_rfl) ?_
  refine seq_np ?_
  refine reg_f ?_
  refine rk 1 ?_
  refine rf [(2,.v (.slice none 0 0))] [] 0 (by kernel_rfl) ?_
  refine wk_id ?_
  obtain rfl:=Option.some.inj h
  refine ret_at (.v (.slice none 0 0)) (by kernel_rfl) ?_
  exact ret_e [] [] (by simp only [push_cast,seval]) (by simp only [push_cast,seval]) rfl rfl rfl
 ·refine rf [(0,.sl s.length (fl s)),(4,bS false)] [] 0 (by kernel_rfl) ?_
  refine wk_id ?_
  refine cond_f (by kernel_rfl) ?_
  refine wk_id ?_
  refine chk_sx h (fun g1613 h=>?_)
  refine seq_np ?_
  refine reg_f ?_
  refine run_mk0 GBlock (some 5) 38 (by kernel_rfl) ?_
  have k1612:(([]:List GBlock)++s).length * 16≤140737488355328:=by first | simpa only [Bool.and_eq_true,decide_eq_true_eq,bne_iff_ne,ne_eq] using g1613 | (simp at g1613 ⊢; omega) | simp
  refine rs 3 [none,some ⟨.own 1 0 (([]:List GBlock)++s).length,[(1,.row 38 (fl (([]:List GBlock)++s))),(0,.dead)],2,[0]⟩] _ (by kernel_rfl) (allP_cons (ob_app (P:=Try.prog) ([]:List GBlock) s 2 16 rfl (fl s) s.length rfl rfl ((fl s).length = s.length * 2) (app_sl s 2 rfl) 38 (by kernel_rfl) (by decide) k1612 0 1 []) allP_nil) ?_
  refine rf [(2,.own 1 0 (([]:List GBlock)++s).length)] [(0,.dead),(1,.row 38 (fl (([]:List GBlock)++s)))] 2 (by kernel_rfl) ?_
  refine wk_id ?_
  obtain rfl:=Option.some.inj h
  refine ret_at (.own 1 0 (([]:List GBlock)++s).length) (by kernel_rfl) ?_
  exact ret_e [(0,1)] [] (by simp only [push_cast,seval]) (by simp only [push_cast,seval]) rfl rfl rfl

set_option maxRecDepth 100000 in
set_option maxHeartbeats 200000000 in
theorem buddy_copied_spec (s:Space) (r:Int×(List GBlock)×(List GBlock)) (h:buddy_copied s = some r):SpecW Try.prog 31 [.agg (Enc.cells s)] [] 0 (fun x h n=>x = .agg [iS r.1,.own 0 0 r.2.1.length,.own 1 0 r.2.2.length]∧h = [(0,.row 38 (fl r.2.1)),(1,.row 38 (fl r.2.2))]∧n = 2):=by
 unfold buddy_copied at h
 refine spec_of (draw_ok _) Try.func31 rfl (by decide) rfl (by kernel_rfl) ?_
 refine seq_np ?_
 refine reg_f ?_
 refine rk 2 ?_
 refine rf [(1,.ptr 0 0),(2,.ptr 1 0)] [(0,.row 24 (Enc.cells s)),(1,.row 24 [iS 0,.v (.slice none 0 0),.v (.slice none 0 0)])] 2 (by kernel_rfl) ?_
 refine wk_id ?_
 refine seq_np ?_
 refine reg_t ?_
 refine rk 4 ?_
 obtain ⟨r1619,hr1619,h⟩:=bind_sx h
 refine call_x (slices_Clone_Block_spec s.Used r1619 hr1619) (args:=[.sl s.Used.length (fl s.Used)]) (dst:=(some 7)) (by kernel_rfl) [(0,.row 24 (Enc.cells s)),(1,.row 24 [iS 0,.v (.slice none 0 0),.v (.slice none 0 0)])] 6 (by kernel_rfl) [] [] (.own 6 0 r1619.length) [(6,.row 38 (fl r1619))] (by simp only [push_cast,seval]) (by simp only [push_cast,seval]) (by kernel_rfl) (.inl rfl) (by simp only [push_cast,seval]) (by simp only [push_cast,seval]) ?_
 refine rk 2 ?_
 obtain ⟨r1620,hr1620,h⟩:=bind_sx h
 refine call_x (slices_Clone_Block_spec s.Free r1620 hr1620) (args:=[.sl s.Free.length (fl s.Free)]) (dst:=(some 10)) (by kernel_rfl) [(0,.row 24 (Enc.cells s)),(1,.row 24 [iS 0,.v (.slice none 0 0),.v (.slice none 0 0)]),(6,.row 38 (fl r1619))] 10 (by kernel_rfl) [] [] (.own 10 0 r1620.length) [(10,.row 38 (fl r1620))] (by simp only [push_cast,seval]) (by simp only [push_cast,seval]) (by kernel_rfl) (.inl rfl) (by simp only [push_cast,seval]) (by simp only [push_cast,seval]) ?_
 refine rk 2 ?_
 refine rt [(2,.ptr 1 0)] [(0,.row 24 (Enc.cells s)),(1,.row 24 [iS s.Bits,.own 6 0 r1619.length,.own 10 0 r1620.length]),(6,.row 38 (fl r1619)),(10,.row 38 (fl r1620))] 14 follows (by kernel_rfl) ?_
 refine wk_id ?_
 obtain rfl:=Option.some.inj h
 refine ret_at (.agg [iS s.Bits,.own 6 0 r1619.length,.own 10 0 r1620.length]) (by kernel_rfl) ?_
 exact ret_e [(0,6),(1,10)] [] (by simp only [push_cast,seval]) (by simp only [push_cast,seval]) rfl rfl rfl

set_option maxRecDepth 100000 in
set_option maxHeartbeats 200000000 in
theorem slices_Delete_Block_1_spec (i:Int) (j:Int) (c0:(List GBlock)) (r:(List GBlock)) (h:slices_Delete_Block_1 i j c0 = some r):SpecW Try.prog 32 [.own 0 0 c0.length,iS i,iS j] [(0,.row 38 (fl c0))] 1 (fun x h n=>x = .own 0 0 r.length∧h = [(0,.row 38 (fl r))]∧n = 1):=by
 unfold slices_Delete_Block_1 at h
 refine spec_of (draw_ok _) Try.func32 rfl (by decide) rfl (by kernel_rfl) ?_
 refine seq_np ?_
 refine reg_f ?_
 refine rk 1 ?_
 refine rf [(0,.own 0 0 c0.length),(1,iS i),(2,iS j)] [(0,.row 38 (fl c0))] 1 (by kernel_rfl) ?_
 refine wk_id ?_
 refine chk_sx h (fun g1657 h=>?_)
 refine seq_np ?_
 refine reg_f ?_
 have k1656:0≤i∧i≤j∧j≤(c0.length:Int):=by first | simpa only [Bool.and_eq_true,decide_eq_true_eq,bne_iff_ne,ne_eq] using g1657 | (simp at g1657 ⊢; omega) | simp
 refine rk 5 ?_
 refine run_bchk (some 13) [0] c0.length i j (c0.length:Int) (by kernel_rfl) ⟨k1656.1,k1656.2.1,by omega,by omega⟩ ?_
 refine rf [(0,.own 0 0 c0.length),(1,iS i),(2,iS j)] [(0,.row 38 (fl c0))] 1 (by kernel_rfl) ?_
 refine wk_id ?_
 refine seq_np ?_
 refine seq_np ?_
 refine reg_f ?_
 refine rk 3 ?_
 refine rf [(0,.own 0 0 c0.length),(1,iS i),(2,iS j),(16,bS (i == j))] [(0,.row 38 (fl c0))] 1 (by kernel_rfl) ?_
 refine wk_id ?_
 refine cond_sx h (by kernel_rfl) (fun g1699 h=>?_) (fun g1699 h=>?_)
 ·refine seq_np ?_
  refine reg_f ?_
  refine rk 2 ?_
  refine rf [(6,.own 0 0 c0.length)] [(0,.row 38 (fl c0))] 1 (by kernel_rfl) ?_
  refine wk_id ?_
  obtain rfl:=Option.some.inj h
  refine ret_at (.own 0 0 c0.length) (by kernel_rfl) ?_
  exact ret_e [(0,0)] [] (by simp only [push_cast,seval]) (by simp only [push_cast,seval]) rfl rfl rfl
 ·refine wk_id ?_
  refine seq_np ?_
  refine reg_f ?_
  refine rk 3 ?_
  refine rf [(0,.own 0 0 c0.length),(1,iS i),(2,iS j),(7,iS (c0.length:Int))] [(0,.row 38 (fl c0))] 1 (by kernel_rfl) ?_
  refine wk_id ?_
  refine chk_sx h (fun g1672 h=>?_)
  refine chk_sx h (fun g1675 h=>?_)
  refine seq_np ?_
  refine reg_t ?_
  have k1671:0≤(0:Int)∧(0:Int)≤i∧i≤(c0.length:Int):=by first | simpa only [Bool.and_eq_true,decide_eq_true_eq,bne_iff_ne,ne_eq] using g1672 | (simp at g1672 ⊢; omega) | simp
  have f1673:(cut c0 (0:Int) i).length = (i).toNat - ((0:Int)).toNat∧0≤(0:Int)∧(0:Int)≤i∧i≤(c0.length:Int):=⟨cut_len _ _ _ k1671,k1671⟩
  have k1674:0≤j∧j≤(c0.length:Int)∧(c0.length:Int)≤(c0.length:Int):=by first | simpa only [Bool.and_eq_true,decide_eq_true_eq,bne_iff_ne,ne_eq] using g1675 | (simp at g1675 ⊢; omega) | simp
  have f1676:(cut c0 j (c0.length:Int)).length = ((c0.length:Int)).toNat - (j).toNat∧0≤j∧j≤(c0.length:Int)∧(c0.length:Int)≤(c0.length:Int):=⟨cut_len _ _ _ k1674,k1674⟩
  refine rs 6 [none,none,some ⟨.own 0 (((0:Int)).toNat * 2) (cut c0 (0:Int) i).length,[],3,[0]⟩,none,none,some ⟨.own 0 ((j).toNat * 2) (cut c0 j (c0.length:Int)).length,[],6,[0]⟩] _ (by kernel_rfl) (allP_cons (ob_cutP (P:=Try.prog) c0 j (c0.length:Int) 2 6 0 38 (by kernel_rfl) k1674) (allP_cons (ob_cutP (P:=Try.prog) c0 (0:Int) i 2 3 0 38 (by kernel_rfl) k1671) allP_nil)) ?_
  have k1679:i+((((cut c0 j (c0.length:Int))).length:Nat):Int)≤(c0.length:Int):=by omega
  have k1678:(putL c0 (cut c0 j (c0.length:Int)) (i).toNat).length = c0.length:=putL_len (by omega)
  refine run_appIn c0 (cut c0 j (c0.length:Int)) (some 26) 0 (((0:Int)).toNat * 2) (cut c0 (0:Int) i).length 2 (cut c0 j (c0.length:Int)).length 38 22 (.own 0 ((j).toNat * 2) (cut c0 j (c0.length:Int)).length) (appCells (fl c0) ((j).toNat * 2) ((cut c0 j (c0.length:Int)).length * 2)) [0] (((j).toNat * 2)+(cut c0 j (c0.length:Int)).length * 2≤(fl c0).length) (0:Int) i (by kernel_rfl) (by kernel_rfl) (app_cut_le c0 j (c0.length:Int) 2 rfl k1674) (app_cut c0 j (c0.length:Int) 2 rfl) rfl rfl (by decide) (by first | rfl | simp) f1673 k1679 ?_
  have f1677:((cut c0 (0:Int) i).length+(cut c0 j (c0.length:Int)).length) = ((i+(((cut c0 j (c0.length:Int)).length:Nat):Int))).toNat - ((0:Int)).toNat∧0≤(0:Int)∧(0:Int)≤(i+(((cut c0 j (c0.length:Int)).length:Nat):Int))∧(i+(((cut c0 j (c0.length:Int)).length:Nat):Int))≤(((putL c0 (cut c0 j (c0.length:Int)) (i).toNat).length:Nat):Int):=by omega
  have f1680:(cut c0 (0:Int) i).length = (i).toNat - ((0:Int)).toNat∧0≤(0:Int)∧(0:Int)≤i∧i≤(((putL c0 (cut c0 j (c0.length:Int)) (i).toNat).length:Nat):Int):=⟨f1673.1,f1673.2.1,f1673.2.2.1,by rw [k1678]; exact f1673.2.2.2⟩
  have f1681:(cut c0 j (c0.length:Int)).length = ((c0.length:Int)).toNat - (j).toNat∧0≤j∧j≤(c0.length:Int)∧(c0.length:Int)≤(((putL c0 (cut c0 j (c0.length:Int)) (i).toNat).length:Nat):Int):=⟨f1676.1,f1676.2.1,f1676.2.2.1,by rw [k1678]; exact f1676.2.2.2⟩
  refine run_eqF 0 (.own 0 0 c0.length) (.own 0 0 (putL c0 (cut c0 j (c0.length:Int)) (i).toNat).length) (congrArg (fun nq=>(.own 0 0 nq:SV)) (show c0.length = (putL c0 (cut c0 j (c0.length:Int)) (i).toNat).length from k1678.symm)) (by kernel_rfl) ?_
  have t1682:(cut (putL c0 (cut c0 j (c0.length:Int)) (i).toNat) 0 (i+(((cut c0 j (c0.length:Int)).length:Nat):Int))).length = ((cut c0 (0:Int) i).length+(cut c0 j (c0.length:Int)).length):=by rw [cut_len _ _ _ f1677.2]; exact f1677.1.symm
  refine rk 1 ?_
  refine rt [(0,.own 0 (((0:Int)).toNat * 2) ((cut c0 (0:Int) i).length+(cut c0 j (c0.length:Int)).length)),(7,iS (c0.length:Int))] [(0,.row 38 (fl (putL c0 (cut c0 j (c0.length:Int)) (i).toNat)))] 9 follows (by kernel_rfl) ?_
  refine wk_id ?_
  refine seq_np ?_
  refine reg_f ?_
  refine rk 4 ?_
  have k1692:0≤((((cut c0 (0:Int) i).length+(cut c0 j (c0.length:Int)).length):Nat):Int)∧((((cut c0 (0:Int) i).length+(cut c0 j (c0.length:Int)).length):Nat):Int)≤(c0.length:Int)∧(0:Int)+(c0.length:Int)≤(((putL c0 (cut c0 j (c0.length:Int)) (i).toNat).length:Nat):Int):=by omega
  have f1691:(((c0.length:Int)).toNat - (((((cut c0 (0:Int) i).length+(cut c0 j (c0.length:Int)).length):Nat):Int)).toNat) = ((c0.length:Int)).toNat - (((((cut c0 (0:Int) i).length+(cut c0 j (c0.length:Int)).length):Nat):Int)).toNat∧0≤((((cut c0 (0:Int) i).length+(cut c0 j (c0.length:Int)).length):Nat):Int)∧((((cut c0 (0:Int) i).length+(cut c0 j (c0.length:Int)).length):Nat):Int)≤(c0.length:Int)∧(c0.length:Int)≤(((putL c0 (cut c0 j (c0.length:Int)) (i).toNat).length:Nat):Int):=by omega
  refine run_sub (putL c0 (cut c0 j (c0.length:Int)) (i).toNat) (some 31) 0 (((0:Int)).toNat * 2) ((cut c0 (0:Int) i).length+(cut c0 j (c0.length:Int)).length) 2 38 ((((cut c0 (0:Int) i).length+(cut c0 j (c0.length:Int)).length):Nat):Int) (c0.length:Int) (0:Int) (by kernel_rfl) rfl (by decide) (by first | rfl | simp) f1677.2.1 k1692 ((((((cut c0 (0:Int) i).length+(cut c0 j (c0.length:Int)).length):Nat):Int)).toNat * 2) (((c0.length:Int)).toNat - (((((cut c0 (0:Int) i).length+(cut c0 j (c0.length:Int)).length):Nat):Int)).toNat) (by first | rfl | rw [Int.zero_add]) rfl ?_
  have k1693:(wipe (putL c0 (cut c0 j (c0.length:Int)) (i).toNat) ((((cut c0 (0:Int) i).length+(cut c0 j (c0.length:Int)).length):Nat):Int) (c0.length:Int)).length = (putL c0 (cut c0 j (c0.length:Int)) (i).toNat).length:=wipe_len (by omega)
  refine run_clr (putL c0 (cut c0 j (c0.length:Int)) (i).toNat) none 0 ((((((cut c0 (0:Int) i).length+(cut c0 j (c0.length:Int)).length):Nat):Int)).toNat * 2) (((c0.length:Int)).toNat - (((((cut c0 (0:Int) i).length+(cut c0 j (c0.length:Int)).length):Nat):Int)).toNat) 2 38 [.v (.int .i64 0),.v (.int .i64 0)] ((((cut c0 (0:Int) i).length+(cut c0 j (c0.length:Int)).length):Nat):Int) (c0.length:Int) (by kernel_rfl) rfl rfl (by decide) (by first | rfl | simp) f1691 ?_
  have f1694:(cut c0 (0:Int) i).length = (i).toNat - ((0:Int)).toNat∧0≤(0:Int)∧(0:Int)≤i∧i≤(((wipe (putL c0 (cut c0 j (c0.length:Int)) (i).toNat) ((((cut c0 (0:Int) i).length+(cut c0 j (c0.length:Int)).length):Nat):Int) (c0.length:Int)).length:Nat):Int):=⟨f1680.1,f1680.2.1,f1680.2.2.1,by rw [k1693]; exact f1680.2.2.2⟩
  have f1695:(cut c0 j (c0.length:Int)).length = ((c0.length:Int)).toNat - (j).toNat∧0≤j∧j≤(c0.length:Int)∧(c0.length:Int)≤(((wipe (putL c0 (cut c0 j (c0.length:Int)) (i).toNat) ((((cut c0 (0:Int) i).length+(cut c0 j (c0.length:Int)).length):Nat):Int) (c0.length:Int)).length:Nat):Int):=⟨f1681.1,f1681.2.1,f1681.2.2.1,by rw [k1693]; exact f1681.2.2.2⟩
  have f1696:((cut c0 (0:Int) i).length+(cut c0 j (c0.length:Int)).length) = ((i+(((cut c0 j (c0.length:Int)).length:Nat):Int))).toNat - ((0:Int)).toNat∧0≤(0:Int)∧(0:Int)≤(i+(((cut c0 j (c0.length:Int)).length:Nat):Int))∧(i+(((cut c0 j (c0.length:Int)).length:Nat):Int))≤(((wipe (putL c0 (cut c0 j (c0.length:Int)) (i).toNat) ((((cut c0 (0:Int) i).length+(cut c0 j (c0.length:Int)).length):Nat):Int) (c0.length:Int)).length:Nat):Int):=⟨f1677.1,f1677.2.1,f1677.2.2.1,by rw [k1693]; exact f1677.2.2.2⟩
  have t1697:(cut (wipe (putL c0 (cut c0 j (c0.length:Int)) (i).toNat) ((((cut c0 (0:Int) i).length+(cut c0 j (c0.length:Int)).length):Nat):Int) (c0.length:Int)) 0 (i+(((cut c0 j (c0.length:Int)).length:Nat):Int))).length = ((cut c0 (0:Int) i).length+(cut c0 j (c0.length:Int)).length):=by rw [cut_len _ _ _ f1696.2]; exact f1696.1.symm
  have f1698:(((c0.length:Int)).toNat - (((((cut c0 (0:Int) i).length+(cut c0 j (c0.length:Int)).length):Nat):Int)).toNat) = ((c0.length:Int)).toNat - (((((cut c0 (0:Int) i).length+(cut c0 j (c0.length:Int)).length):Nat):Int)).toNat∧0≤((((cut c0 (0:Int) i).length+(cut c0 j (c0.length:Int)).length):Nat):Int)∧((((cut c0 (0:Int) i).length+(cut c0 j (c0.length:Int)).length):Nat):Int)≤(c0.length:Int)∧(c0.length:Int)≤(((wipe (putL c0 (cut c0 j (c0.length:Int)) (i).toNat) ((((cut c0 (0:Int) i).length+(cut c0 j (c0.length:Int)).length):Nat):Int) (c0.length:Int)).length:Nat):Int):=⟨f1691.1,f1691.2.1,f1691.2.2.1,by rw [k1693]; exact f1691.2.2.2⟩
  refine rf [(0,.own 0 (((0:Int)).toNat * 2) ((cut c0 (0:Int) i).length+(cut c0 j (c0.length:Int)).length))] [(0,.row 38 (fl (wipe (putL c0 (cut c0 j (c0.length:Int)) (i).toNat) ((((cut c0 (0:Int) i).length+(cut c0 j (c0.length:Int)).length):Nat):Int) (c0.length:Int))))] 9 (by kernel_rfl) ?_
  refine wk_id ?_
  refine seq_np ?_
  refine reg_f ?_
  refine rk 2 ?_
  refine rf [(6,.own 0 (((0:Int)).toNat * 2) ((cut c0 (0:Int) i).length+(cut c0 j (c0.length:Int)).length))] [(0,.row 38 (fl (wipe (putL c0 (cut c0 j (c0.length:Int)) (i).toNat) ((((cut c0 (0:Int) i).length+(cut c0 j (c0.length:Int)).length):Nat):Int) (c0.length:Int))))] 9 (by kernel_rfl) ?_
  refine wk_id ?_
  obtain rfl:=Option.some.inj h
  refine ret_at (.own 0 (((0:Int)).toNat * 2) ((cut c0 (0:Int) i).length+(cut c0 j (c0.length:Int)).length)) (by kernel_rfl) ?_
  exact ret_e [(0,0)] [] (by (try simp only [t1697]) <;> simp only [push_cast,seval]) (by (try simp only [t1697]) <;> simp only [push_cast,seval]) rfl rfl rfl

set_option maxRecDepth 100000 in
set_option maxHeartbeats 200000000 in
theorem cmp_isNaN_int_spec (x:Int) (r:Bool) (h:cmp_isNaN_int x = some r):SpecW Try.prog 52 [iS x] [] 0 (fun x h n=>x = bS r∧h = []∧n = 0):=by
 unfold cmp_isNaN_int at h
 refine spec_of (draw_ok _) Try.func52 rfl (by decide) rfl (by kernel_rfl) ?_
 refine seq_np ?_
 refine reg_f ?_
 refine rk 1 ?_
 refine rf [(0,iS x)] [] 0 (by kernel_rfl) ?_
 refine wk_id ?_
 refine seq_np ?_
 refine reg_f ?_
 refine rk 4 ?_
 refine rf [(2,bS (x != x))] [] 0 (by kernel_rfl) ?_
 refine wk_id ?_
 obtain rfl:=Option.some.inj h
 refine ret_at (bS (x != x)) (by kernel_rfl) ?_
 exact ret_e [] [] (by simp only [push_cast,seval]) (by simp only [push_cast,seval]) rfl rfl rfl

set_option maxRecDepth 100000 in
set_option maxHeartbeats 200000000 in
theorem cmp_Compare_int_spec (x:Int) (y:Int) (r:Int) (h:cmp_Compare_int x y = some r):SpecW Try.prog 45 [iS x,iS y] [] 0 (fun x h n=>x = iS r∧h = []∧n = 0):=by
 unfold cmp_Compare_int at h
 refine spec_of (draw_ok _) Try.func45 rfl (by decide) rfl (by kernel_rfl) ?_
 refine seq_np ?_
 refine reg_f ?_
 refine rk 1 ?_
 refine rf [(0,iS x),(1,iS y)] [] 0 (by kernel_rfl) ?_
 refine wk_id ?_
 refine seq_np ?_
 refine reg_f ?_
 refine rk 1 ?_
 obtain ⟨r1715,hr1715,h⟩:=bind_sx h
 refine run_call 52 [iS x] (some 8) (by kernel_rfl) ?_
 refine call_0 (cmp_isNaN_int_spec x r1715 hr1715) (by simp only [push_cast,seval]) (by simp only [push_cast,seval]) ?_
 refine back_f ?_
 refine rk 1 ?_
 refine rf [(0,iS x),(1,iS y),(5,bS r1715)] [] 0 (by kernel_rfl) ?_
 refine wk_id ?_
 refine seq_np ?_
 refine reg_f ?_
 refine rk 1 ?_
 obtain ⟨r1717,hr1717,h⟩:=bind_sx h
 refine run_call 52 [iS y] (some 10) (by kernel_rfl) ?_
 refine call_0 (cmp_isNaN_int_spec y r1717 hr1717) (by simp only [push_cast,seval]) (by simp only [push_cast,seval]) ?_
 refine back_f ?_
 refine rk 1 ?_
 refine rf [(0,iS x),(1,iS y),(5,bS r1715),(6,bS r1717)] [] 0 (by kernel_rfl) ?_
 refine wk_id ?_
 refine seq_np ?_
 refine seq_np ?_
 refine reg_f ?_
 refine rk 1 ?_
 refine rf [(0,iS x),(1,iS y),(6,bS r1717),(11,bS r1715)] [] 0 (by kernel_rfl) ?_
 refine wk_id ?_
 refine cond_sx h (by kernel_rfl) (fun g1728 h=>?_) (fun g1728 h=>?_)
 ·refine seq_np ?_
  refine seq_np ?_
  refine reg_f ?_
  refine rk 1 ?_
  refine rf [(12,bS r1717)] [] 0 (by kernel_rfl) ?_
  refine wk_id ?_
  refine cond_sx h (by kernel_rfl) (fun g1721 h=>?_) (fun g1721 h=>?_)
  ·refine seq_np ?_
   refine reg_f ?_
   refine rk 1 ?_
   refine rf [(4,iS 0)] [] 0 (by kernel_rfl) ?_
   refine wk_id ?_
   obtain rfl:=Option.some.inj h
   refine ret_at (iS 0) (by kernel_rfl) ?_
   exact ret_e [] [] (by simp only [push_cast,seval]) (by simp only [push_cast,seval]) rfl rfl rfl
  ·refine wk_id ?_
   refine seq_np ?_
   refine reg_f ?_
   refine rk 1 ?_
   refine rf [(4,iS (-1))] [] 0 (by kernel_rfl) ?_
   refine wk_id ?_
   obtain rfl:=Option.some.inj h
   refine ret_at (iS (-1)) (by kernel_rfl) ?_
   exact ret_e [] [] (by simp only [push_cast,seval]) (by simp only [push_cast,seval]) rfl rfl rfl
 ·refine wk_id ?_
  refine seq_np ?_
  refine seq_np ?_
  refine reg_f ?_
  refine rk 1 ?_
  refine rf [(0,iS x),(1,iS y),(13,bS r1717)] [] 0 (by kernel_rfl) ?_
  refine wk_id ?_
  refine cond_sx h (by kernel_rfl) (fun g1727 h=>?_) (fun g1727 h=>?_)
  ·refine seq_np ?_
   refine reg_f ?_
   refine rk 1 ?_
   refine rf [(4,iS 1)] [] 0 (by kernel_rfl) ?_
   refine wk_id ?_
   obtain rfl:=Option.some.inj h
   refine ret_at (iS 1) (by kernel_rfl) ?_
   exact ret_e [] [] (by simp only [push_cast,seval]) (by simp only [push_cast,seval]) rfl rfl rfl
  ·refine wk_id ?_
   refine seq_np ?_
   refine seq_np ?_
   refine reg_f ?_
   refine rk 3 ?_
   refine rf [(0,iS x),(1,iS y),(16,bS (decide (x < y)))] [] 0 (by kernel_rfl) ?_
   refine wk_id ?_
   refine cond_sx h (by kernel_rfl) (fun g1726 h=>?_) (fun g1726 h=>?_)
   ·refine seq_np ?_
    refine reg_f ?_
    refine rk 1 ?_
    refine rf [(4,iS (-1))] [] 0 (by kernel_rfl) ?_
    refine wk_id ?_
    obtain rfl:=Option.some.inj h
    refine ret_at (iS (-1)) (by kernel_rfl) ?_
    exact ret_e [] [] (by simp only [push_cast,seval]) (by simp only [push_cast,seval]) rfl rfl rfl
   ·refine wk_id ?_
    refine seq_np ?_
    refine seq_np ?_
    refine reg_f ?_
    refine rk 3 ?_
    refine rf [(19,bS (decide (y < x)))] [] 0 (by kernel_rfl) ?_
    refine wk_id ?_
    refine cond_sx h (by kernel_rfl) (fun g1725 h=>?_) (fun g1725 h=>?_)
    ·refine seq_np ?_
     refine reg_f ?_
     refine rk 1 ?_
     refine rf [(4,iS 1)] [] 0 (by kernel_rfl) ?_
     refine wk_id ?_
     obtain rfl:=Option.some.inj h
     refine ret_at (iS 1) (by kernel_rfl) ?_
     exact ret_e [] [] (by simp only [push_cast,seval]) (by simp only [push_cast,seval]) rfl rfl rfl
    ·refine wk_id ?_
     refine seq_np ?_
     refine reg_f ?_
     refine rk 1 ?_
     refine rf [(4,iS 0)] [] 0 (by kernel_rfl) ?_
     refine wk_id ?_
     obtain rfl:=Option.some.inj h
     refine ret_at (iS 0) (by kernel_rfl) ?_
     exact ret_e [] [] (by simp only [push_cast,seval]) (by simp only [push_cast,seval]) rfl rfl rfl

set_option maxRecDepth 100000 in
set_option maxHeartbeats 200000000 in
theorem buddy_byStart_spec (xa:GBlock) (b:GBlock) (r:Int) (h:buddy_byStart xa b = some r):SpecW Try.prog 26 [.agg (Enc.cells xa),.agg (Enc.cells b)] [] 0 (fun x h n=>x = iS r∧h = []∧n = 0):=by
 unfold buddy_byStart at h
 refine spec_of (draw_ok _) Try.func26 rfl (by decide) rfl (by kernel_rfl) ?_
 refine seq_np ?_
 refine reg_f ?_
 refine rk 3 ?_
 refine rf [(2,.ptr 0 0),(3,.ptr 1 0)] [(0,.row 38 (Enc.cells xa)),(1,.row 38 (Enc.cells b))] 2 (by kernel_rfl) ?_
 refine wk_id ?_
 refine seq_np ?_
 refine reg_f ?_
 refine rk 4 ?_
 obtain ⟨r1731,hr1731,h⟩:=bind_sx h
 refine run_call 45 [iS xa.Start,iS b.Start] (some 9) (by kernel_rfl) ?_
 refine call_0 (cmp_Compare_int_spec xa.Start b.Start r1731 hr1731) (by simp only [push_cast,seval]) (by simp only [push_cast,seval]) ?_
 refine back_f ?_
 refine rk 1 ?_
 refine rf [(4,iS r1731)] [(0,.row 38 (Enc.cells xa)),(1,.row 38 (Enc.cells b))] 2 (by kernel_rfl) ?_
 refine wk_id ?_
 obtain rfl:=Option.some.inj h
 refine ret_at (iS r1731) (by kernel_rfl) ?_
 exact ret_e [] [] (by simp only [push_cast,seval]) (by simp only [push_cast,seval]) rfl rfl rfl

set_option maxRecDepth 100000 in
set_option maxHeartbeats 200000000 in
theorem slices_BinarySearchFunc_Block_spec (x:(List GBlock)) (target:GBlock) (r:Int×Bool) (h:slices_BinarySearchFunc_Block x target = some r):SpecW Try.prog 39 [.sl x.length (fl x),.agg (Enc.cells target),.v (.func (.func 26) #[] #[])] [] 0 (fun x h n=>x = .tup [iS r.1,bS r.2]∧h = []∧n = 0):=by
 unfold slices_BinarySearchFunc_Block at h
 refine spec_of (draw_ok _) Try.func39 rfl (by decide) rfl (by kernel_rfl) ?_
 refine seq_np ?_
 refine reg_f ?_
 refine rk 3 ?_
 refine rf [(0,.sl x.length (fl x)),(2,.v (.func (.func 26) #[] #[])),(4,.ptr 0 0)] [(0,.row 38 (Enc.cells target))] 1 (by kernel_rfl) ?_
 refine wk_id ?_
 refine seq_np ?_
 refine reg_f ?_
 refine rk 3 ?_
 refine rf [(0,.sl x.length (fl x)),(2,.v (.func (.func 26) #[] #[])),(4,.ptr 0 0),(8,iS (x.length:Int))] [(0,.row 38 (Enc.cells target))] 1 (by kernel_rfl) ?_
 refine wk_id ?_
 refine seq_np ?_
 refine reg_f ?_
 refine rk 3 ?_
 refine rf [(0,.sl x.length (fl x)),(2,.v (.func (.func 26) #[] #[])),(4,.ptr 0 0),(8,iS (x.length:Int)),(9,iS 0),(10,iS (x.length:Int))] [(0,.row 38 (Enc.cells target))] 1 (by kernel_rfl) ?_
 refine wk_id ?_
 refine seq_np ?_
 refine block_np ?_
 refine loop_sx (S:=Int×Int) (fun a=>([(0,.sl x.length (fl x)),(2,.v (.func (.func 26) #[] #[])),(4,.ptr 0 0),(8,iS (x.length:Int)),(9,iS a.1),(10,iS a.2)],[(0,.row 38 (Enc.cells target))],1)) h (leSt_m [(0,0)] [] (by simp only [push_cast,seval]) (by simp only [push_cast,seval]) rfl rfl rfl) ?_
 rintro ⟨i18,j18⟩ o2 R2 h hr2 hn2 hx2 ht2
 try dsimp only at h hn2 ⊢
 unfold slices_BinarySearchFunc_Block_l1 at h
 try dsimp only at h
 refine seq_np ?_
 refine seq_np ?_
 refine reg_f ?_
 refine rk 3 ?_
 refine rf [(0,.sl x.length (fl x)),(2,.v (.func (.func 26) #[] #[])),(4,.ptr 0 0),(8,iS (x.length:Int)),(9,iS i18),(10,iS j18),(17,bS (decide (i18 < j18)))] [(0,.row 38 (Enc.cells target))] 1 (by kernel_rfl) ?_
 refine wk_id ?_
 refine cond_sx h (by kernel_rfl) (fun g1834 h=>?_) (fun g1834 h=>?_)
 ·refine wk_id ?_
  refine block_np ?_
  refine seq_np ?_
  refine reg_f ?_
  refine rk 7 ?_
  refine rf [(0,.sl x.length (fl x)),(2,.v (.func (.func 26) #[] #[])),(4,.ptr 0 0),(8,iS (x.length:Int)),(9,iS i18),(10,iS j18),(11,iS (IntKind.i64.wrap (Int.fdiv (IntKind.u64.wrap (IntKind.i64.wrap (i18+j18))) (2 ^ (min ((1:Int)).toNat (IntKind.u64).bits)))))] [(0,.row 38 (Enc.cells target))] 1 (by kernel_rfl) ?_
  refine wk_id ?_
  refine chk_sx h (fun g1821 h=>?_)
  refine seq_np ?_
  refine reg_t ?_
  have k1820:0≤(IntKind.i64.wrap (Int.fdiv (IntKind.u64.wrap (IntKind.i64.wrap (i18+j18))) (2 ^ (min ((1:Int)).toNat (IntKind.u64).bits))))∧(IntKind.i64.wrap (Int.fdiv (IntKind.u64.wrap (IntKind.i64.wrap (i18+j18))) (2 ^ (min ((1:Int)).toNat (IntKind.u64).bits)))) < (x.length:Int):=by first | simpa only [Bool.and_eq_true,decide_eq_true_eq,bne_iff_ne,ne_eq] using g1821 | (simp at g1821 ⊢; omega) | simp
  refine rs 6 [none,none,none,some ⟨.iptr (fl x) (((IntKind.i64.wrap (Int.fdiv (IntKind.u64.wrap (IntKind.i64.wrap (i18+j18))) (2 ^ (min ((1:Int)).toNat (IntKind.u64).bits))))).toNat * 2),[],4,[]⟩,some ⟨.agg (Enc.cells (ix x (IntKind.i64.wrap (Int.fdiv (IntKind.u64.wrap (IntKind.i64.wrap (i18+j18))) (2 ^ (min ((1:Int)).toNat (IntKind.u64).bits)))))),[],5,[]⟩] _ (by kernel_rfl) (allP_cons (ob_ldw x (IntKind.i64.wrap (Int.fdiv (IntKind.u64.wrap (IntKind.i64.wrap (i18+j18))) (2 ^ (min ((1:Int)).toNat (IntKind.u64).bits)))) 2 (((IntKind.i64.wrap (Int.fdiv (IntKind.u64.wrap (IntKind.i64.wrap (i18+j18))) (2 ^ (min ((1:Int)).toNat (IntKind.u64).bits))))).toNat * 2) k1820 rfl (by first | rfl | omega) (Enc.cells (ix x (IntKind.i64.wrap (Int.fdiv (IntKind.u64.wrap (IntKind.i64.wrap (i18+j18))) (2 ^ (min ((1:Int)).toNat (IntKind.u64).bits)))))) rfl 5 []) (allP_cons (ob_ix_l x 2 4 (IntKind.i64.wrap (Int.fdiv (IntKind.u64.wrap (IntKind.i64.wrap (i18+j18))) (2 ^ (min ((1:Int)).toNat (IntKind.u64).bits)))) k1820) allP_nil)) ?_
  obtain ⟨r1822,hr1822,h⟩:=bind_sx h
  refine run_call 26 [.agg (Enc.cells (ix x (IntKind.i64.wrap (Int.fdiv (IntKind.u64.wrap (IntKind.i64.wrap (i18+j18))) (2 ^ (min ((1:Int)).toNat (IntKind.u64).bits)))))),.agg (Enc.cells target)] (some 30) (by kernel_rfl) ?_
  refine callE_0 (buddy_byStart_spec (ix x (IntKind.i64.wrap (Int.fdiv (IntKind.u64.wrap (IntKind.i64.wrap (i18+j18))) (2 ^ (min ((1:Int)).toNat (IntKind.u64).bits))))) target r1822 hr1822) (by simp only [push_cast,seval]) (by simp only [push_cast,seval]) ?_
  refine back_t ?_
  refine rk 1 ?_
  refine rt [(0,.sl x.length (fl x)),(2,.v (.func (.func 26) #[] #[])),(4,.ptr 0 0),(8,iS (x.length:Int)),(9,iS i18),(10,iS j18),(11,iS (IntKind.i64.wrap (Int.fdiv (IntKind.u64.wrap (IntKind.i64.wrap (i18+j18))) (2 ^ (min ((1:Int)).toNat (IntKind.u64).bits))))),(31,bS (decide (r1822 < 0)))] [(0,.row 38 (Enc.cells target))] 9 follows (by kernel_rfl) ?_
  refine wk_id ?_
  refine cond_sx h (by kernel_rfl) (fun g1823 h=>?_) (fun g1823 h=>?_)
  ·refine reg_f ?_
   refine rk 3 ?_
   refine rf [(0,.sl x.length (fl x)),(2,.v (.func (.func 26) #[] #[])),(4,.ptr 0 0),(8,iS (x.length:Int)),(9,iS (IntKind.i64.wrap ((IntKind.i64.wrap (Int.fdiv (IntKind.u64.wrap (IntKind.i64.wrap (i18+j18))) (2 ^ (min ((1:Int)).toNat (IntKind.u64).bits))))+1))),(10,iS j18)] [(0,.row 38 (Enc.cells target))] 9 (by kernel_rfl) ?_
   refine wk_id ?_
   exact hn2 ((IntKind.i64.wrap ((IntKind.i64.wrap (Int.fdiv (IntKind.u64.wrap (IntKind.i64.wrap (i18+j18))) (2 ^ (min ((1:Int)).toNat (IntKind.u64).bits))))+1)),j18) _ _ _ (Option.some.inj h).symm (leSt_m [(0,0)] [] (by simp only [push_cast,seval]) (by simp only [push_cast,seval]) rfl rfl rfl)
  ·refine reg_f ?_
   refine rk 2 ?_
   refine rf [(0,.sl x.length (fl x)),(2,.v (.func (.func 26) #[] #[])),(4,.ptr 0 0),(8,iS (x.length:Int)),(9,iS i18),(10,iS (IntKind.i64.wrap (Int.fdiv (IntKind.u64.wrap (IntKind.i64.wrap (i18+j18))) (2 ^ (min ((1:Int)).toNat (IntKind.u64).bits)))))] [(0,.row 38 (Enc.cells target))] 9 (by kernel_rfl) ?_
   refine wk_id ?_
   exact hn2 (i18,(IntKind.i64.wrap (Int.fdiv (IntKind.u64.wrap (IntKind.i64.wrap (i18+j18))) (2 ^ (min ((1:Int)).toNat (IntKind.u64).bits))))) _ _ _ (Option.some.inj h).symm (leSt_m [(0,0)] [] (by simp only [push_cast,seval]) (by simp only [push_cast,seval]) rfl rfl rfl)
 ·change R2 (.exit 0) _ _ _
  refine ex_cast hx2 (id:=0) ?_
  obtain ⟨r0,h,e0⟩:=map_sx h
  have e1:=hr2 r0 e0.symm
  subst r0
  refine wk_id ?_
  refine wk_id ?_
  refine seq_cut (A:=Bool) (fun a=>([(6,iS i18),(7,bS a)],[],0)) (fun a=>(slices_BinarySearchFunc_Block_j1 i18 a) = some r) (fun K1829 hK1829=>?_) ?_
  ·refine reg_t ?_
   refine rk 5 ?_
   refine run_br h 39 (.inl (by kernel_rfl)) (fun g1830 h=>?_) (fun g1830 h=>?_)
   ·refine chk_sx h (fun g1832 h=>?_)
    have k1831:0≤i18∧i18 < (x.length:Int):=by first | simpa only [Bool.and_eq_true,decide_eq_true_eq,bne_iff_ne,ne_eq] using g1832 | (simp at g1832 ⊢; omega) | simp
    refine rs 6 [none,none,none,some ⟨.iptr (fl x) ((i18).toNat * 2),[],9,[]⟩,some ⟨.agg (Enc.cells (ix x i18)),[],10,[]⟩] _ (by kernel_rfl) (allP_cons (ob_ldw x i18 2 ((i18).toNat * 2) k1831 rfl (by first | rfl | omega) (Enc.cells (ix x i18)) rfl 10 []) (allP_cons (ob_ix_l x 2 9 i18 k1831) allP_nil)) ?_
    obtain ⟨r1833,hr1833,h⟩:=bind_sx h
    refine run_call 26 [.agg (Enc.cells (ix x i18)),.agg (Enc.cells target)] (some 46) (by kernel_rfl) ?_
    refine callE_0 (buddy_byStart_spec (ix x i18) target r1833 hr1833) (by simp only [push_cast,seval]) (by simp only [push_cast,seval]) ?_
    refine back_t ?_
    refine rk 4 ?_
    refine rt [(6,iS i18),(7,bS (r1833 == 0))] [(0,.row 38 (Enc.cells target))] 17 follows (by kernel_rfl) ?_
    exact hK1829 ((r1833 == 0)) _ _ _ h (leSt_m [] [] (by (try simp only [g1830]) <;> simp only [push_cast,seval]) (by (try simp only [g1830]) <;> simp only [push_cast,seval]) rfl rfl rfl)
   ·refine rk 11 ?_
    refine rt [(6,iS i18),(7,bS false)] [(0,.row 38 (Enc.cells target))] 17 follows (by kernel_rfl) ?_
    exact hK1829 (false) _ _ _ h (leSt_m [] [] (by (try simp only [g1830]) <;> simp only [push_cast,seval]) (by (try simp only [g1830]) <;> simp only [push_cast,seval]) rfl rfl rfl)
  ·rintro t7q1 h
   try dsimp only at h ⊢
   unfold slices_BinarySearchFunc_Block_j1 at h
   obtain rfl:=Option.some.inj h
   refine ret_at (.tup [iS i18,bS t7q1]) (by kernel_rfl) ?_
   exact ret_e [] [] (by simp only [push_cast,seval]) (by simp only [push_cast,seval]) rfl rfl rfl

set_option maxRecDepth 100000 in
set_option maxHeartbeats 200000000 in
theorem slices_Insert_Block_1_shift_spec (b off n c i vc:Nat) (va:Option Addr) (w W1 W2:World) (x1 x2:Value) (hi:i < n) (hroom:n+1≤c) (hc63:c≤9223372036854775807)
  (hov:∀ lb cb,(callFunc 53 #[.slice va 1 vc,.slice (some ⟨b,off+(i+1) * 2,none⟩) lb cb]).run Try.prog w = .ok (.value (.bool false)) w)
  (hcp1:∀ ty dc sc,(Builtin.copy_ #[22,22] ty #[.slice (some ⟨b,off+(i+1) * 2,none⟩) (n - i) dc,.slice (some ⟨b,off+i * 2,none⟩) (n+1 - i) sc]).run Try.prog w.drew = .ok x1 W1)
  (hcp2:∀ ty dc,(Builtin.copy_ #[22,22] ty #[.slice (some ⟨b,off+i * 2,none⟩) (n+1 - i) dc,.slice va 1 vc]).run Try.prog W1 = .ok x2 W2) :
  Calls Try.prog 48 #[.slice (some ⟨b,off,none⟩) n c,.int .i64 i,.slice va 1 vc] w fun e w'=>e = .returned (.slice (some ⟨b,off,none⟩) (n+1) c)∧w' = W2:=by
 have mixed:=follows
 have hw1:IntKind.i64.wrap ((i:Int)+1) = (i:Int)+1:=by rw [IntKind.wrap_i64]; omega
 have hw2:IntKind.i64.wrap ((n:Int)+1) = (n:Int)+1:=by rw [IntKind.wrap_i64]; omega
 have hz2:¬ ((i:Int) = (n:Int)):=by omega
 have hb1:(0:Int)≤(i:Int)+1:=by omega
 have hin:i≤n:=by omega
 have htn:((i:Int)+1).toNat = i+1:=by omega
 have hb3:(i:Int)≤(n:Int)+1:=by omega
 have hb4:¬ (c = i):=by omega
 have hb5:¬ (c = i+1):=by omega
 go_enter Try.func48,Try.ntmps48
 go_wp2_with (simp only [hov])
 go_region_law_o (refine Go.Proofs.step_copy_runI rfl _ _ 22 22 rfl _ _ (by simp [Act.eval,Act.put]) (by simp [Act.eval,Act.put]) (hcp1 _ _ _) ?_)
 go_wp2_with (at_builtin; refine Go.Proofs.wpList_copy_runI _ rfl _ _ 22 22 rfl _ _ rfl rfl (hcp2 _ _) ?_)
 go_ret
 exact ⟨rfl,rfl⟩
set_option maxRecDepth 100000 in
set_option maxHeartbeats 4000000 in
theorem slices_Insert_Block_1_grow_spec (b off n c i vc:Nat) (va:Option Addr) (nb g:Nat) (w W0 W1 W2:World) (x1 x2:Value) (hi:i < n) (hnc:n≤c) (hroom:c < n+1) (hc63:n+1≤g) (hg63:g≤9223372036854775807)
  (hap:∀ ty,(Builtin.append_ #[22,3] ty #[.slice (some ⟨b,off,none⟩) i c,.int .i64 ((n:Int)+1 - i)]).run Try.prog w = .ok (.slice (some ⟨nb,0,none⟩) (n+1) g) W0)
  (hcp1:∀ ty dc,(Builtin.copy_ #[22,22] ty #[.slice (some ⟨nb,i * 2,none⟩) (n+1 - i) dc,.slice va 1 vc]).run Try.prog W0 = .ok x1 W1)
  (hcp2:∀ ty dc sc,(Builtin.copy_ #[22,22] ty #[.slice (some ⟨nb,(i+1) * 2,none⟩) (n - i) dc,.slice (some ⟨b,off+i * 2,none⟩) (n - i) sc]).run Try.prog W1.drew = .ok x2 W2) :
  Calls Try.prog 48 #[.slice (some ⟨b,off,none⟩) n c,.int .i64 i,.slice va 1 vc] w fun e w'=>e = .returned (.slice (some ⟨nb,0,none⟩) (n+1) g)∧w' = W2:=by
 have mixed:=follows
 have hw1:IntKind.i64.wrap ((i:Int)+1) = (i:Int)+1:=by rw [IntKind.wrap_i64]; omega
 have hw2:IntKind.i64.wrap ((n:Int)+1) = (n:Int)+1:=by rw [IntKind.wrap_i64]; omega
 have hz2:¬ ((i:Int) = (n:Int)):=by omega
 have hb1:(0:Int)≤(i:Int)+1:=by omega
 have hin:i≤n:=by omega
 have htn:((i:Int)+1).toNat = i+1:=by omega
 have hb3:(i:Int)≤(n:Int)+1:=by omega
 have hb4:¬ (c = i):=by omega
 have hz3:(c:Int) < (n:Int)+1:=by omega
 have hb5:¬ (g = i):=by omega
 have hb6:i≤g:=by omega
 have hb7:¬ (g = i+1):=by omega
 go_enter Try.func48,Try.ntmps48
 go_wp2_with (at_builtin; first | refine Go.Lib.wpList_append_run _ rfl _ _ _ _ rfl _ _ rfl rfl _ _ (hap _) ?_ | refine Go.Proofs.wpList_copy_runI _ rfl _ _ 22 22 rfl _ _ rfl rfl (hcp1 _ _) ?_)
 go_region_law_o (refine Go.Proofs.step_copy_runI rfl _ _ 22 22 rfl _ _ (by simp [Act.eval,Act.put]) (by simp [Act.eval,Act.put]) (hcp2 _ _ _) ?_)
 go_wp2
 go_ret
 exact ⟨rfl,rfl⟩
set_option maxRecDepth 100000 in
set_option maxHeartbeats 4000000 in
theorem slices_Insert_Block_1_end_spec (a:Option Addr) (n c vc:Nat) (va:Option Addr) (w W1:World) (x:Value) (hnc:n≤c) (hc63:c≤9223372036854775807) (hnil:a = none→n = 0)
  (hap:(Builtin.append_ #[22,22] 22 #[.slice a n c,.slice va 1 vc]).run Try.prog w = .ok x W1) :
  Calls Try.prog 48 #[.slice a n c,.int .i64 n,.slice va 1 vc] w fun e w'=>e = .returned x∧w' = W1:=by
 have mixed:=follows
 go_enter Try.func48,Try.ntmps48
 cases a with
 | none =>
  have:=hnil rfl
  subst this
  go_wp2_with (at_builtin; refine Go.Lib.wpList_append_run _ rfl _ _ _ _ rfl _ _ rfl rfl _ _ hap ?_)
  all_goals (go_ret; exact ⟨rfl,rfl⟩)
 | some a =>
  obtain ⟨ab,ao,asp⟩:=a
  go_wp2_with (at_builtin; refine Go.Lib.wpList_append_run _ rfl _ _ _ _ rfl _ _ rfl rfl _ _ hap ?_)
  all_goals (go_ret; exact ⟨rfl,rfl⟩)
set_option maxRecDepth 100000 in
set_option maxHeartbeats 4000000 in
theorem slices_Insert_Block_1_spec (i:Int) (c0:(List GBlock)) (c1:(List GBlock)) (r:List GBlock) (h:slices_Insert_Block_1 i c0 c1 = some r):SpecW Try.prog 48 [.own 0 0 c0.length,iS i,.own 1 0 c1.length] [(0,.row 38 (fl c0)),(1,.row 38 (fl c1))] 2 (fun x h n=>x = .own 2 0 r.length∧h = [(0,.dead),(1,.dead),(2,.row 38 (fl r))]∧n = 3):=by
 unfold slices_Insert_Block_1 at h
 obtain ⟨⟨h1,h2,h3,h4⟩,rfl⟩:=bif_some h
 refine insert_spec (α:=GBlock) (fO:=53) (tS:=22) (tI:=3) (tB:=4) (by kernel_rfl) (by decide) (by kernel_rfl) (by kernel_rfl) (by decide) (fn_of Try.func48 (by kernel_rfl) (by kernel_rfl)) ?_ ?_ ?_ ?_ c0 c1 i h1 h2 h3 h4
 ·intro x y w h
  rw [run_callFunc_extern Try.func53 (by kernel_rfl) (by kernel_rfl) (by kernel_rfl) (e:=Extern.SlicesOverlaps.overlaps #[22,22] #[4]) (by kernel_rfl),h]
  rfl
 ·(try rw [(show Enc.sz GBlock = 2 from rfl)]); (try simp only [Nat.mul_one]); exact slices_Insert_Block_1_shift_spec
 ·(try rw [(show Enc.sz GBlock = 2 from rfl)]); (try simp only [Nat.mul_one]); exact slices_Insert_Block_1_grow_spec
 ·exact slices_Insert_Block_1_end_spec

set_option maxRecDepth 100000 in
set_option maxHeartbeats 200000000 in
theorem buddy_put_1_spec (b:GBlock) (c0:(List GBlock)) (r:(List GBlock)) (h:buddy_put_1 b c0 = some r):SpecW Try.prog 33 [.own 0 0 c0.length,.agg (Enc.cells b)] [(0,.row 38 (fl c0))] 1 (fun x h n=>x = .own 1 0 r.length∧h = [(0,.dead),(1,.row 38 (fl r))]∧n = 2):=by
 unfold buddy_put_1 at h
 refine spec_of (draw_ok _) Try.func33 rfl (by decide) rfl (by kernel_rfl) ?_
 refine seq_np ?_
 refine reg_f ?_
 refine rk 2 ?_
 refine rf [(0,.own 0 0 c0.length),(3,.ptr 1 0)] [(0,.row 38 (fl c0)),(1,.row 38 (Enc.cells b))] 2 (by kernel_rfl) ?_
 refine wk_id ?_
 refine seq_np ?_
 refine reg_f ?_
 refine rk 2 ?_
 obtain ⟨r1839,hr1839,h⟩:=bind_sx h
 refine call_x (slices_BinarySearchFunc_Block_spec c0 b r1839 hr1839) (args:=[.own 0 0 c0.length,.agg (Enc.cells b),.v (.func (.func 26) #[] #[])]) (dst:=(some 10)) (by kernel_rfl) [(0,.row 38 (fl c0)),(1,.row 38 (Enc.cells b))] 2 (by kernel_rfl) [] [0] (.tup [iS r1839.1,bS r1839.2]) [] (by simp only [push_cast,seval]) (by simp only [push_cast,seval]) (by kernel_rfl) (.inr ⟨by simp only [push_cast,seval],by simp only [push_cast,seval]⟩) (by simp only [push_cast,seval]) (by simp only [push_cast,seval]) ?_
 refine rk 5 ?_
 refine rf [(0,.own 0 0 c0.length),(3,.ptr 1 0),(5,iS r1839.1)] [(0,.row 38 (fl c0)),(1,.row 38 (Enc.cells b))] 2 (by kernel_rfl) ?_
 refine wk_id ?_
 refine seq_np ?_
 refine reg_f ?_
 refine rk 4 ?_
 obtain ⟨r1841,hr1841,h⟩:=bind_sx h
 refine call_x (slices_Insert_Block_1_spec r1839.1 c0 ([b]:List GBlock) r1841 hr1841) (args:=[.own 0 0 c0.length,iS r1839.1,.own 2 0 ([b]:List GBlock).length]) (dst:=(some 17)) (by kernel_rfl) [(0,.row 38 (fl c0)),(1,.row 38 (Enc.cells b)),(2,.row 38 (fl ([b]:List GBlock)))] 3 (by kernel_rfl) [(0,0),(1,2)] [] (.own 5 0 r1841.length) [(0,.dead),(2,.dead),(5,.row 38 (fl r1841)),(0,.dead),(2,.dead)] (by simp only [push_cast,seval]) (by simp only [push_cast,seval]) (by kernel_rfl) (.inl rfl) (by simp only [push_cast,seval]) (by simp only [push_cast,seval]) ?_
 refine rk 1 ?_
 refine rf [(4,.own 5 0 r1841.length)] [(0,.dead),(1,.row 38 (Enc.cells b)),(2,.dead),(5,.row 38 (fl r1841))] 6 (by kernel_rfl) ?_
 refine wk_id ?_
 obtain rfl:=Option.some.inj h
 refine ret_at (.own 5 0 r1841.length) (by kernel_rfl) ?_
 exact ret_e [(1,5)] [] (by simp only [push_cast,seval]) (by simp only [push_cast,seval]) rfl rfl rfl

set_option maxRecDepth 100000 in
set_option maxHeartbeats 200000000 in
theorem buddy_Take_spec (s:Space) (n:Int) (r:Int×Int×Fault×(List GBlock)×(List GBlock)) (h:buddy_Take s n = some r):SpecW Try.prog 11 [.agg (Enc.cells s),iS n] [] 0 (fun x h n=>x = .tup [.agg [iS r.1,.own 0 0 r.2.2.2.1.length,.own 1 0 r.2.2.2.2.length],iS r.2.1,.agg (Enc.cells r.2.2.1)]∧h = [(0,.row 38 (fl r.2.2.2.1)),(1,.row 38 (fl r.2.2.2.2))]∧n = 2):=by
 unfold buddy_Take at h
 refine spec_of (draw_ok _) Try.func11 rfl (by decide) rfl (by kernel_rfl) ?_
 refine seq_np ?_
 refine reg_f ?_
 refine rk 4 ?_
 refine rf [(1,iS n),(2,.ptr 0 0),(4,.ptr 1 0),(6,.ptr 2 0)] [(0,.row 24 (Enc.cells s)),(1,.row 24 [iS 0,.v (.slice none 0 0),.v (.slice none 0 0)]),(2,.row 29 [iS 0,iS 0])] 3 (by kernel_rfl) ?_
 refine wk_id ?_
 refine seq_np ?_
 refine seq_np ?_
 refine reg_f ?_
 refine rk 1 ?_
 obtain ⟨r1853,hr1853,h⟩:=bind_sx h
 refine run_call 10 [.agg (Enc.cells s)] (some 15) (by kernel_rfl) ?_
 refine call_0 (buddy_Check_spec s r1853 hr1853) (by simp only [push_cast,seval]) (by simp only [push_cast,seval]) ?_
 refine back_f ?_
 refine rk 2 ?_
 refine rf [(1,iS n),(2,.ptr 0 0),(4,.ptr 1 0),(6,.ptr 2 0),(7,.ptr 3 0)] [(0,.row 24 (Enc.cells s)),(1,.row 24 [iS 0,.v (.slice none 0 0),.v (.slice none 0 0)]),(2,.row 29 [iS 0,iS 0]),(3,.row 29 (Enc.cells r1853))] 4 (by kernel_rfl) ?_
 refine wk_id ?_
 refine seq_np ?_
 refine reg_f ?_
 refine rk 3 ?_
 refine rf [(1,iS n),(2,.ptr 0 0),(4,.ptr 1 0),(6,.ptr 2 0),(7,.ptr 3 0),(18,bS (r1853.Code != 0))] [(0,.row 24 (Enc.cells s)),(1,.row 24 [iS 0,.v (.slice none 0 0),.v (.slice none 0 0)]),(2,.row 29 [iS 0,iS 0]),(3,.row 29 (Enc.cells r1853))] 4 (by kernel_rfl) ?_
 refine wk_id ?_
 refine cond_sx h (by kernel_rfl) (fun g2030 h=>?_) (fun g2030 h=>?_)
 ·refine seq_np ?_
  refine reg_t ?_
  refine rk 5 ?_
  refine rt [(4,.ptr 1 0),(5,iS 0),(6,.ptr 2 0)] [(0,.row 24 (Enc.cells s)),(1,.row 24 [iS 0,.v (.slice none 0 0),.v (.slice none 0 0)]),(2,.row 29 (Enc.cells r1853)),(3,.row 29 (Enc.cells r1853))] 9 follows (by kernel_rfl) ?_
  refine wk_id ?_
  obtain rfl:=Option.some.inj h
  refine ret_at (.tup [.agg [iS 0,.v (.slice none 0 0),.v (.slice none 0 0)],iS 0,.agg (Enc.cells r1853)]) (by kernel_rfl) ?_
  exact ret_e [] [] (by simp only [push_cast,seval]) (by simp only [push_cast,seval]) rfl rfl rfl
 ·refine wk_id ?_
  refine seq_np ?_
  refine seq_cut (A:=Unit) (fun _=>([(1,iS n),(2,.ptr 0 0),(4,.ptr 1 0),(6,.ptr 2 0),(26,bS ((decide (n < 1)) || (decide ((1073741824:Int) < n))))],[(0,.row 24 (Enc.cells s)),(1,.row 24 [iS 0,.v (.slice none 0 0),.v (.slice none 0 0)]),(2,.row 29 [iS 0,iS 0]),(3,.row 29 (Enc.cells r1853))],4)) (fun _=>True) (fun K1858 hK1858=>?_) (fun _ _=>?_)
  ·refine reg_f ?_
   refine rk 3 ?_
   refine run_split 23 (decide (n < 1)) (.inl (by kernel_rfl)) (fun g1859=>?_) (fun g1859=>?_)
   ·refine rk 3 ?_
    refine rf [(1,iS n),(2,.ptr 0 0),(4,.ptr 1 0),(6,.ptr 2 0),(26,bS true)] [(0,.row 24 (Enc.cells s)),(1,.row 24 [iS 0,.v (.slice none 0 0),.v (.slice none 0 0)]),(2,.row 29 [iS 0,iS 0]),(3,.row 29 (Enc.cells r1853))] 4 (by kernel_rfl) ?_
    exact hK1858 () _ _ _ trivial (leSt_m [(0,0),(1,1),(2,2),(3,3)] [] (by (try simp only [g1859]) <;> simp only [push_cast,seval]) (by (try simp only [g1859]) <;> simp only [push_cast,seval]) rfl rfl rfl)
   ·refine rk 3 ?_
    refine rf [(1,iS n),(2,.ptr 0 0),(4,.ptr 1 0),(6,.ptr 2 0),(26,bS (decide ((1073741824:Int) < n)))] [(0,.row 24 (Enc.cells s)),(1,.row 24 [iS 0,.v (.slice none 0 0),.v (.slice none 0 0)]),(2,.row 29 [iS 0,iS 0]),(3,.row 29 (Enc.cells r1853))] 4 (by kernel_rfl) ?_
    exact hK1858 () _ _ _ trivial (leSt_m [(0,0),(1,1),(2,2),(3,3)] [] (by (try simp only [g1859]) <;> simp only [push_cast,seval]) (by (try simp only [g1859]) <;> simp only [push_cast,seval]) rfl rfl rfl)
  ·dsimp only
   refine cond_sx h (by kernel_rfl) (fun g2029 h=>?_) (fun g2029 h=>?_)
   ·refine seq_np ?_
    refine reg_f ?_
    refine rk 1 ?_
    obtain ⟨r1861,hr1861,h⟩:=bind_sx h
    refine run_call 21 [iS 3,iS (-1)] (some 28) (by kernel_rfl) ?_
    refine call_0 (buddy_fault_spec 3 (-1) r1861 hr1861) (by simp only [push_cast,seval]) (by simp only [push_cast,seval]) ?_
    refine back_f ?_
    refine rk 3 ?_
    refine rf [(4,.ptr 1 0),(5,iS 0),(6,.ptr 2 0)] [(0,.row 24 (Enc.cells s)),(1,.row 24 [iS 0,.v (.slice none 0 0),.v (.slice none 0 0)]),(2,.row 29 (Enc.cells r1861)),(3,.row 29 (Enc.cells r1853))] 4 (by kernel_rfl) ?_
    refine wk_id ?_
    obtain rfl:=Option.some.inj h
    refine ret_at (.tup [.agg [iS 0,.v (.slice none 0 0),.v (.slice none 0 0)],iS 0,.agg (Enc.cells r1861)]) (by kernel_rfl) ?_
    exact ret_e [] [] (by simp only [push_cast,seval]) (by simp only [push_cast,seval]) rfl rfl rfl
   ·refine wk_id ?_
    refine seq_np ?_
    refine reg_f ?_
    refine rk 1 ?_
    refine rf [(1,iS n),(2,.ptr 0 0),(4,.ptr 1 0),(6,.ptr 2 0),(8,iS 1)] [(0,.row 24 (Enc.cells s)),(1,.row 24 [iS 0,.v (.slice none 0 0),.v (.slice none 0 0)]),(2,.row 29 [iS 0,iS 0]),(3,.row 29 (Enc.cells r1853))] 4 (by kernel_rfl) ?_
    refine wk_id ?_
    refine seq_np ?_
    refine block_np ?_
    refine loop_sx (S:=Int) (fun a=>([(1,iS n),(2,.ptr 0 0),(4,.ptr 1 0),(6,.ptr 2 0),(8,iS a)],[(0,.row 24 (Enc.cells s)),(1,.row 24 [iS 0,.v (.slice none 0 0),.v (.slice none 0 0)]),(2,.row 29 [iS 0,iS 0])],3)) h (leSt_m [(0,0),(1,1),(2,2)] [] (by simp only [push_cast,seval]) (by simp only [push_cast,seval]) rfl rfl rfl) ?_
    rintro size7 o4 R4 h hr4 hn4 hx4 ht4
    try dsimp only at h hn4 ⊢
    unfold buddy_Take_l3 at h
    try dsimp only at h
    refine seq_np ?_
    refine seq_np ?_
    refine reg_f ?_
    refine rk 3 ?_
    refine rf [(1,iS n),(2,.ptr 0 0),(4,.ptr 1 0),(6,.ptr 2 0),(8,iS size7),(31,bS (decide (size7 < n)))] [(0,.row 24 (Enc.cells s)),(1,.row 24 [iS 0,.v (.slice none 0 0),.v (.slice none 0 0)]),(2,.row 29 [iS 0,iS 0])] 3 (by kernel_rfl) ?_
    refine wk_id ?_
    refine cond_sx h (by kernel_rfl) (fun g2028 h=>?_) (fun g2028 h=>?_)
    ·refine wk_id ?_
     refine block_np ?_
     refine reg_f ?_
     refine rk 3 ?_
     refine rf [(1,iS n),(2,.ptr 0 0),(4,.ptr 1 0),(6,.ptr 2 0),(8,iS (IntKind.i64.wrap (size7 * 2)))] [(0,.row 24 (Enc.cells s)),(1,.row 24 [iS 0,.v (.slice none 0 0),.v (.slice none 0 0)]),(2,.row 29 [iS 0,iS 0])] 3 (by kernel_rfl) ?_
     refine wk_id ?_
     exact hn4 ((IntKind.i64.wrap (size7 * 2))) _ _ _ (Option.some.inj h).symm (leSt_m [(0,0),(1,1),(2,2)] [] (by simp only [push_cast,seval]) (by simp only [push_cast,seval]) rfl rfl rfl)
    ·change R4 (.exit 0) _ _ _
     refine ex_cast hx4 (id:=0) ?_
     obtain ⟨r0,h,e0⟩:=map_sx h
     have e1:=hr4 r0 e0.symm
     subst r0
     refine wk_id ?_
     refine wk_id ?_
     refine seq_np ?_
     refine reg_f ?_
     refine rk 1 ?_
     refine rf [(2,.ptr 0 0),(4,.ptr 1 0),(6,.ptr 2 0),(8,iS size7),(9,iS (-1))] [(0,.row 24 (Enc.cells s)),(1,.row 24 [iS 0,.v (.slice none 0 0),.v (.slice none 0 0)]),(2,.row 29 [iS 0,iS 0])] 3 (by kernel_rfl) ?_
     refine wk_id ?_
     refine seq_np ?_
     refine seq_np ?_
     refine reg_f ?_
     refine rk 4 ?_
     refine rf [(2,.ptr 0 0),(4,.ptr 1 0),(6,.ptr 2 0),(8,iS size7),(9,iS (-1)),(35,.sl s.Free.length (fl s.Free)),(36,iS (s.Free.length:Int)),(37,iS 0)] [(0,.row 24 (Enc.cells s)),(1,.row 24 [iS 0,.v (.slice none 0 0),.v (.slice none 0 0)]),(2,.row 29 [iS 0,iS 0])] 3 (by kernel_rfl) ?_
     refine wk_id ?_
     refine block_np ?_
     refine loop_sx (S:=Int×Int) (fun a=>([(2,.ptr 0 0),(4,.ptr 1 0),(6,.ptr 2 0),(8,iS size7),(9,iS a.1),(35,.sl s.Free.length (fl s.Free)),(36,iS (s.Free.length:Int)),(37,iS a.2)],[(0,.row 24 (Enc.cells s)),(1,.row 24 [iS 0,.v (.slice none 0 0),.v (.slice none 0 0)]),(2,.row 29 [iS 0,iS 0])],3)) h (leSt_m [(0,0),(1,1),(2,2)] [] (by simp only [push_cast,seval]) (by simp only [push_cast,seval]) rfl rfl rfl) ?_
     rintro ⟨best18,t37q7⟩ o5 R5 h hr5 hn5 hx5 ht5
     try dsimp only at h hn5 ⊢
     unfold buddy_Take_l2 at h
     try dsimp only at h
     refine seq_np ?_
     refine reg_f ?_
     refine rk 1 ?_
     refine rf [(2,.ptr 0 0),(4,.ptr 1 0),(6,.ptr 2 0),(8,iS size7),(9,iS best18),(35,.sl s.Free.length (fl s.Free)),(36,iS (s.Free.length:Int)),(37,iS t37q7),(38,bS (decide (t37q7 < (s.Free.length:Int))))] [(0,.row 24 (Enc.cells s)),(1,.row 24 [iS 0,.v (.slice none 0 0),.v (.slice none 0 0)]),(2,.row 29 [iS 0,iS 0])] 3 (by kernel_rfl) ?_
     refine wk_id ?_
     refine seq_np ?_
     refine cond_sx h (by kernel_rfl) (fun g2027 h=>?_) (fun g2027 h=>?_)
     ·refine wk_id ?_
      refine seq_np ?_
      refine block_cut (A:=Int) (fun a=>([(2,.ptr 0 0),(4,.ptr 1 0),(6,.ptr 2 0),(8,iS size7),(9,iS a),(35,.sl s.Free.length (fl s.Free)),(36,iS (s.Free.length:Int)),(37,iS t37q7)],[(0,.row 24 (Enc.cells s)),(1,.row 24 [iS 0,.v (.slice none 0 0),.v (.slice none 0 0)]),(2,.row 29 [iS 0,iS 0])],3)) (fun a=>(buddy_Take_j1 s size7 t37q7 a) = some o5) (fun K1966 hK1966=>?_) ?_
      ·refine chk_sx h (fun g1970 h=>?_)
       refine seq_np ?_
       refine reg_f ?_
       have k1969:0≤t37q7∧t37q7 < (s.Free.length:Int):=by first | simpa only [Bool.and_eq_true,decide_eq_true_eq,bne_iff_ne,ne_eq] using g1970 | (simp at g1970 ⊢; omega) | simp
       refine rs 6 [none,some ⟨.iptr (fl s.Free) ((t37q7).toNat * 2),[],3,[]⟩,some ⟨.agg (Enc.cells (ix s.Free t37q7)),[],3,[]⟩] _ (by kernel_rfl) (allP_cons (ob_ldw s.Free t37q7 2 ((t37q7).toNat * 2) k1969 rfl (by first | rfl | omega) (Enc.cells (ix s.Free t37q7)) rfl 3 []) (allP_cons (ob_ix_l s.Free 2 3 t37q7 k1969) allP_nil)) ?_
       refine rf [(2,.ptr 0 0),(4,.ptr 1 0),(6,.ptr 2 0),(8,iS size7),(9,iS best18),(10,iS t37q7),(11,.ptr 3 0),(35,.sl s.Free.length (fl s.Free)),(36,iS (s.Free.length:Int)),(37,iS t37q7)] [(0,.row 24 (Enc.cells s)),(1,.row 24 [iS 0,.v (.slice none 0 0),.v (.slice none 0 0)]),(2,.row 29 [iS 0,iS 0]),(3,.row 38 (Enc.cells (ix s.Free t37q7)))] 4 (by kernel_rfl) ?_
       refine wk_id ?_
       refine chk_sx h (fun g1979 h=>?_)
       refine seq_cut (A:=Unit) (fun _=>([(2,.ptr 0 0),(4,.ptr 1 0),(6,.ptr 2 0),(8,iS size7),(9,iS best18),(10,iS t37q7),(35,.sl s.Free.length (fl s.Free)),(36,iS (s.Free.length:Int)),(37,iS t37q7),(60,bS ((decide (size7≤(ix s.Free t37q7).Size)) && ((decide (best18 < 0)) || (decide ((ix s.Free t37q7).Size < (ix s.Free best18).Size)))))],[(0,.row 24 (Enc.cells s)),(1,.row 24 [iS 0,.v (.slice none 0 0),.v (.slice none 0 0)]),(2,.row 29 [iS 0,iS 0]),(3,.row 38 (Enc.cells (ix s.Free t37q7)))],23)) (fun _=>True) (fun K1975 hK1975=>?_) (fun _ _=>?_)
       ·refine reg_t ?_
        refine rk 5 ?_
        refine run_split 46 (decide (size7≤(ix s.Free t37q7).Size)) (.inl (by kernel_rfl)) (fun g1976=>?_) (fun g1976=>?_)
        ·refine rk 3 ?_
         refine run_split 49 (decide (best18 < 0)) (.inr (by kernel_rfl)) (fun g1977=>?_) (fun g1977=>?_)
         ·refine rk 11 ?_
          refine rt [(2,.ptr 0 0),(4,.ptr 1 0),(6,.ptr 2 0),(8,iS size7),(9,iS best18),(10,iS t37q7),(35,.sl s.Free.length (fl s.Free)),(36,iS (s.Free.length:Int)),(37,iS t37q7),(60,bS true)] [(0,.row 24 (Enc.cells s)),(1,.row 24 [iS 0,.v (.slice none 0 0),.v (.slice none 0 0)]),(2,.row 29 [iS 0,iS 0]),(3,.row 38 (Enc.cells (ix s.Free t37q7)))] 23 follows (by kernel_rfl) ?_
          exact hK1975 () _ _ _ trivial (leSt_m [(0,0),(1,1),(2,2),(3,3)] [] (by first | ((try simp only [g1976,g1977]) <;> simp only [push_cast,seval]; done) | ((try simp only [g1976]); (try simp only [g1977]); simp only [push_cast,seval]; done) | (exfalso; clear h; simp_all; done)) (by first | ((try simp only [g1976,g1977]) <;> simp only [push_cast,seval]; done) | ((try simp only [g1976]); (try simp only [g1977]); simp only [push_cast,seval]; done) | (exfalso; clear h; simp_all; done)) rfl rfl rfl)
         ·have k1978:0≤best18∧best18 < (s.Free.length:Int):=by have e:=or_use g1979 (by first | ((try simp only [g1976,g1977]) <;> rfl) | ((try simp only [g1976]); (try simp only [g1977]); rfl) | (exfalso; clear h; simp_all; done)); first | simpa only [Bool.and_eq_true,decide_eq_true_eq,bne_iff_ne,ne_eq] using e | (simp at e ⊢; omega)
          refine rs 11 [none,none,none,none,none,some ⟨.iptr (fl s.Free) ((best18).toNat * 2),[],17,[]⟩,none,some ⟨iS (ix s.Free best18).Size,[],19,[]⟩] _ (by kernel_rfl) (allP_cons (ob_ld s.Free best18 2 1 (((best18).toNat * 2)+1) k1978 rfl (by decide) (by first | rfl | omega) (dflS Try.prog 3) (iS (ix s.Free best18).Size) rfl 19 []) (allP_cons (ob_ix_l s.Free 2 17 best18 k1978) allP_nil)) ?_
          refine rt [(2,.ptr 0 0),(4,.ptr 1 0),(6,.ptr 2 0),(8,iS size7),(9,iS best18),(10,iS t37q7),(35,.sl s.Free.length (fl s.Free)),(36,iS (s.Free.length:Int)),(37,iS t37q7),(60,bS (decide ((ix s.Free t37q7).Size < (ix s.Free best18).Size)))] [(0,.row 24 (Enc.cells s)),(1,.row 24 [iS 0,.v (.slice none 0 0),.v (.slice none 0 0)]),(2,.row 29 [iS 0,iS 0]),(3,.row 38 (Enc.cells (ix s.Free t37q7)))] 23 follows (by kernel_rfl) ?_
          exact hK1975 () _ _ _ trivial (leSt_m [(0,0),(1,1),(2,2),(3,3)] [] (by first | ((try simp only [g1976,g1977]) <;> simp only [push_cast,seval]; done) | ((try simp only [g1976]); (try simp only [g1977]); simp only [push_cast,seval]; done) | (exfalso; clear h; simp_all; done)) (by first | ((try simp only [g1976,g1977]) <;> simp only [push_cast,seval]; done) | ((try simp only [g1976]); (try simp only [g1977]); simp only [push_cast,seval]; done) | (exfalso; clear h; simp_all; done)) rfl rfl rfl)
        ·refine rk 14 ?_
         refine rt [(2,.ptr 0 0),(4,.ptr 1 0),(6,.ptr 2 0),(8,iS size7),(9,iS best18),(10,iS t37q7),(35,.sl s.Free.length (fl s.Free)),(36,iS (s.Free.length:Int)),(37,iS t37q7),(60,bS false)] [(0,.row 24 (Enc.cells s)),(1,.row 24 [iS 0,.v (.slice none 0 0),.v (.slice none 0 0)]),(2,.row 29 [iS 0,iS 0]),(3,.row 38 (Enc.cells (ix s.Free t37q7)))] 23 follows (by kernel_rfl) ?_
         exact hK1975 () _ _ _ trivial (leSt_m [(0,0),(1,1),(2,2),(3,3)] [] (by (try simp only [g1976]) <;> simp only [push_cast,seval]) (by (try simp only [g1976]) <;> simp only [push_cast,seval]) rfl rfl rfl)
       ·dsimp only
        refine cond_sx h (by kernel_rfl) (fun g1980 h=>?_) (fun g1980 h=>?_)
        ·refine reg_f ?_
         refine rk 2 ?_
         refine rf [(2,.ptr 0 0),(4,.ptr 1 0),(6,.ptr 2 0),(8,iS size7),(9,iS t37q7),(35,.sl s.Free.length (fl s.Free)),(36,iS (s.Free.length:Int)),(37,iS t37q7)] [(0,.row 24 (Enc.cells s)),(1,.row 24 [iS 0,.v (.slice none 0 0),.v (.slice none 0 0)]),(2,.row 29 [iS 0,iS 0]),(3,.row 38 (Enc.cells (ix s.Free t37q7)))] 23 (by kernel_rfl) ?_
         exact hK1966 (t37q7) _ _ _ h (leSt_m [(0,0),(1,1),(2,2)] [] (by simp only [push_cast,seval]) (by simp only [push_cast,seval]) rfl rfl rfl)
        ·exact hK1966 (best18) _ _ _ h (leSt_m [(0,0),(1,1),(2,2)] [] (by simp only [push_cast,seval]) (by simp only [push_cast,seval]) rfl rfl rfl)
      ·rintro best20 h
       try dsimp only at h ⊢
       unfold buddy_Take_j1 at h
       refine wk_id ?_
       refine reg_f ?_
       refine rk 2 ?_
       refine rf [(2,.ptr 0 0),(4,.ptr 1 0),(6,.ptr 2 0),(8,iS size7),(9,iS best20),(35,.sl s.Free.length (fl s.Free)),(36,iS (s.Free.length:Int)),(37,iS (IntKind.i64.wrap (t37q7+1)))] [(0,.row 24 (Enc.cells s)),(1,.row 24 [iS 0,.v (.slice none 0 0),.v (.slice none 0 0)]),(2,.row 29 [iS 0,iS 0])] 3 (by kernel_rfl) ?_
       exact hn5 (best20,(IntKind.i64.wrap (t37q7+1))) _ _ _ (Option.some.inj h).symm (leSt_m [(0,0),(1,1),(2,2)] [] (by simp only [push_cast,seval]) (by simp only [push_cast,seval]) rfl rfl rfl)
     ·change R5 (.exit 2) _ _ _
      refine ex_cast hx5 (id:=2) ?_
      obtain ⟨r0,h,e0⟩:=map_sx h
      have e1:=hr5 r0 e0.symm
      subst r0
      refine wk_id ?_
      refine wk_id ?_
      refine seq_np ?_
      refine seq_np ?_
      refine reg_f ?_
      refine rk 2 ?_
      refine rf [(2,.ptr 0 0),(4,.ptr 1 0),(6,.ptr 2 0),(8,iS size7),(9,iS best18),(64,bS (decide (best18 < 0)))] [(0,.row 24 (Enc.cells s)),(1,.row 24 [iS 0,.v (.slice none 0 0),.v (.slice none 0 0)]),(2,.row 29 [iS 0,iS 0])] 3 (by kernel_rfl) ?_
      refine wk_id ?_
      refine cond_sx h (by kernel_rfl) (fun g2026 h=>?_) (fun g2026 h=>?_)
      ·refine seq_np ?_
       refine reg_f ?_
       refine rk 1 ?_
       obtain ⟨r1984,hr1984,h⟩:=bind_sx h
       refine run_call 21 [iS 6,iS 0] (some 66) (by kernel_rfl) ?_
       refine call_0 (buddy_fault_spec 6 0 r1984 hr1984) (by simp only [push_cast,seval]) (by simp only [push_cast,seval]) ?_
       refine back_f ?_
       refine rk 3 ?_
       refine rf [(4,.ptr 1 0),(5,iS 0),(6,.ptr 2 0)] [(0,.row 24 (Enc.cells s)),(1,.row 24 [iS 0,.v (.slice none 0 0),.v (.slice none 0 0)]),(2,.row 29 (Enc.cells r1984))] 3 (by kernel_rfl) ?_
       refine wk_id ?_
       obtain rfl:=Option.some.inj h
       refine ret_at (.tup [.agg [iS 0,.v (.slice none 0 0),.v (.slice none 0 0)],iS 0,.agg (Enc.cells r1984)]) (by kernel_rfl) ?_
       exact ret_e [] [] (by simp only [push_cast,seval]) (by simp only [push_cast,seval]) rfl rfl rfl
      ·refine wk_id ?_
       refine seq_np ?_
       refine reg_f ?_
       refine rk 1 ?_
       obtain ⟨r1986,hr1986,h⟩:=bind_sx h
       refine call_x (buddy_copied_spec s r1986 hr1986) (args:=[.agg (Enc.cells s)]) (dst:=(some 68)) (by kernel_rfl) [(0,.row 24 (Enc.cells s)),(1,.row 24 [iS 0,.v (.slice none 0 0),.v (.slice none 0 0)]),(2,.row 29 [iS 0,iS 0])] 3 (by kernel_rfl) [] [] (.agg [iS r1986.1,.own 3 0 r1986.2.1.length,.own 4 0 r1986.2.2.length]) [(3,.row 38 (fl r1986.2.1)),(4,.row 38 (fl r1986.2.2))] (by simp only [push_cast,seval]) (by simp only [push_cast,seval]) (by kernel_rfl) (.inl rfl) (by simp only [push_cast,seval]) (by simp only [push_cast,seval]) ?_
       refine rk 2 ?_
       refine rf [(4,.ptr 1 0),(6,.ptr 2 0),(8,iS size7),(9,iS best18),(12,.ptr 5 0)] [(0,.row 24 (Enc.cells s)),(1,.row 24 [iS 0,.v (.slice none 0 0),.v (.slice none 0 0)]),(2,.row 29 [iS 0,iS 0]),(3,.row 38 (fl r1986.2.1)),(4,.row 38 (fl r1986.2.2)),(5,.row 24 [iS r1986.1,.own 3 0 r1986.2.1.length,.own 4 0 r1986.2.2.length])] 6 (by kernel_rfl) ?_
       refine wk_id ?_
       refine chk_sx h (fun g1990 h=>?_)
       refine seq_np ?_
       refine reg_f ?_
       have k1989:0≤best18∧best18 < (r1986.2.2.length:Int):=by first | simpa only [Bool.and_eq_true,decide_eq_true_eq,bne_iff_ne,ne_eq] using g1990 | (simp at g1990 ⊢; omega) | simp
       refine rs 7 [none,none,none,some ⟨.ptr 4 (0+(best18).toNat * 2),[],6,[4]⟩,some ⟨.agg (Enc.cells (ix r1986.2.2 best18)),[],6,[4]⟩] _ (by kernel_rfl) (allP_cons (ob_ldw r1986.2.2 best18 2 (0+(best18).toNat * 2) k1989 rfl (by first | rfl | omega) (Enc.cells (ix r1986.2.2 best18)) rfl 6 [4]) (allP_cons (ob_ix_o 4 r1986.2.2.length 0 2 6 best18 k1989) allP_nil)) ?_
       refine rf [(4,.ptr 1 0),(6,.ptr 2 0),(8,iS size7),(9,iS best18),(12,.ptr 5 0),(13,.ptr 6 0)] [(0,.row 24 (Enc.cells s)),(1,.row 24 [iS 0,.v (.slice none 0 0),.v (.slice none 0 0)]),(2,.row 29 [iS 0,iS 0]),(3,.row 38 (fl r1986.2.1)),(4,.row 38 (fl r1986.2.2)),(5,.row 24 [iS r1986.1,.own 3 0 r1986.2.1.length,.own 4 0 r1986.2.2.length]),(6,.row 38 (Enc.cells (ix r1986.2.2 best18)))] 7 (by kernel_rfl) ?_
       refine wk_id ?_
       refine seq_np ?_
       refine reg_f ?_
       refine rk 5 ?_
       obtain ⟨r1993,hr1993,h⟩:=bind_sx h
       refine call_x (slices_Delete_Block_1_spec best18 (IntKind.i64.wrap (best18+1)) r1986.2.2 r1993 hr1993) (args:=[.own 4 0 r1986.2.2.length,iS best18,iS (IntKind.i64.wrap (best18+1))]) (dst:=(some 79)) (by kernel_rfl) [(0,.row 24 (Enc.cells s)),(1,.row 24 [iS 0,.v (.slice none 0 0),.v (.slice none 0 0)]),(2,.row 29 [iS 0,iS 0]),(3,.row 38 (fl r1986.2.1)),(4,.row 38 (fl r1986.2.2)),(5,.row 24 [iS r1986.1,.own 3 0 r1986.2.1.length,.own 4 0 r1986.2.2.length]),(6,.row 38 (Enc.cells (ix r1986.2.2 best18)))] 7 (by kernel_rfl) [(0,4)] [] (.own 4 0 r1993.length) [(4,.row 38 (fl r1993)),(4,.dead)] (by simp only [push_cast,seval]) (by simp only [push_cast,seval]) (by kernel_rfl) (.inl rfl) (by simp only [push_cast,seval]) (by simp only [push_cast,seval]) ?_
       refine rk 2 ?_
       refine rf [(4,.ptr 1 0),(6,.ptr 2 0),(8,iS size7),(12,.ptr 5 0),(13,.ptr 6 0)] [(0,.row 24 (Enc.cells s)),(1,.row 24 [iS 0,.v (.slice none 0 0),.v (.slice none 0 0)]),(2,.row 29 [iS 0,iS 0]),(3,.row 38 (fl r1986.2.1)),(4,.row 38 (fl r1993)),(5,.row 24 [iS r1986.1,.own 3 0 r1986.2.1.length,.own 4 0 r1993.length]),(6,.row 38 (Enc.cells (ix r1986.2.2 best18)))] 8 (by kernel_rfl) ?_
       refine wk_id ?_
       refine seq_np ?_
       refine block_np ?_
       refine loop_sx (S:=Int×GBlock×(List GBlock)×(List GBlock)) (fun a=>([(4,.ptr 0 0),(6,.ptr 1 0),(8,iS size7),(12,.ptr 2 0),(13,.ptr 3 0)],[(0,.row 24 [iS 0,.v (.slice none 0 0),.v (.slice none 0 0)]),(1,.row 29 [iS 0,iS 0]),(2,.row 24 [iS a.1,.own 4 0 a.2.2.1.length,.own 5 0 a.2.2.2.length]),(3,.row 38 (Enc.cells a.2.1)),(4,.row 38 (fl a.2.2.1)),(5,.row 38 (fl a.2.2.2))],6)) h (leSt_m [(0,1),(1,2),(2,5),(3,6),(4,3),(5,4)] [] (by simp only [push_cast,seval]) (by simp only [push_cast,seval]) rfl rfl rfl) ?_
       rintro ⟨c2_Bits7,c3q7,c4q7,c5q7⟩ o6 R6 h hr6 hn6 hx6 ht6
       try dsimp only at h hn6 ⊢
       unfold buddy_Take_l1 at h
       try dsimp only at h
       refine seq_np ?_
       refine seq_np ?_
       refine reg_f ?_
       refine rk 4 ?_
       refine rf [(4,.ptr 0 0),(6,.ptr 1 0),(8,iS size7),(12,.ptr 2 0),(13,.ptr 3 0),(84,bS (decide (size7 < c3q7.Size)))] [(0,.row 24 [iS 0,.v (.slice none 0 0),.v (.slice none 0 0)]),(1,.row 29 [iS 0,iS 0]),(2,.row 24 [iS c2_Bits7,.own 4 0 c4q7.length,.own 5 0 c5q7.length]),(3,.row 38 (Enc.cells c3q7)),(4,.row 38 (fl c4q7)),(5,.row 38 (fl c5q7))] 6 (by kernel_rfl) ?_
       refine wk_id ?_
       refine cond_sx h (by kernel_rfl) (fun g2025 h=>?_) (fun g2025 h=>?_)
       ·refine wk_id ?_
        refine block_np ?_
        refine seq_np ?_
        refine reg_f ?_
        refine rk 5 ?_
        refine rf [(4,.ptr 0 0),(6,.ptr 1 0),(8,iS size7),(12,.ptr 2 0),(13,.ptr 3 0)] [(0,.row 24 [iS 0,.v (.slice none 0 0),.v (.slice none 0 0)]),(1,.row 29 [iS 0,iS 0]),(2,.row 24 [iS c2_Bits7,.own 4 0 c4q7.length,.own 5 0 c5q7.length]),(3,.row 38 [iS c3q7.Start,iS (IntKind.i64.wrap (Int.tdiv c3q7.Size 2))]),(4,.row 38 (fl c4q7)),(5,.row 38 (fl c5q7))] 6 (by kernel_rfl) ?_
        refine wk_id ?_
        refine reg_t ?_
        refine rk 3 ?_
        obtain ⟨r2016,hr2016,h⟩:=bind_sx h
        refine run_call 30 [.agg [iS c3q7.Start,iS (IntKind.i64.wrap (Int.tdiv c3q7.Size 2))]] (some 92) (by kernel_rfl) ?_
        refine callE_0 (buddy_mate_spec (GBlock.mk c3q7.Start (IntKind.i64.wrap (Int.tdiv c3q7.Size 2))) r2016 hr2016) (by simp only [push_cast,seval]) (by simp only [push_cast,seval]) ?_
        refine back_t ?_
        obtain ⟨r2017,hr2017,h⟩:=bind_sx h
        refine call_x (buddy_put_1_spec r2016 c5q7 r2017 hr2017) (args:=[.own 5 0 c5q7.length,.agg (Enc.cells r2016)]) (dst:=(some 93)) (by kernel_rfl) [(0,.row 24 [iS 0,.v (.slice none 0 0),.v (.slice none 0 0)]),(1,.row 29 [iS 0,iS 0]),(2,.row 24 [iS c2_Bits7,.own 4 0 c4q7.length,.own 5 0 c5q7.length]),(3,.row 38 [iS c3q7.Start,iS (IntKind.i64.wrap (Int.tdiv c3q7.Size 2))]),(4,.row 38 (fl c4q7)),(5,.row 38 (fl c5q7))] 10 (by kernel_rfl) [(0,5)] [] (.own 11 0 r2017.length) [(5,.dead),(11,.row 38 (fl r2017)),(5,.dead)] (by simp only [push_cast,seval]) (by simp only [push_cast,seval]) (by kernel_rfl) (.inl rfl) (by simp only [push_cast,seval]) (by simp only [push_cast,seval]) ?_
        refine rk 2 ?_
        refine rt [(4,.ptr 0 0),(6,.ptr 1 0),(8,iS size7),(12,.ptr 2 0),(13,.ptr 3 0)] [(0,.row 24 [iS 0,.v (.slice none 0 0),.v (.slice none 0 0)]),(1,.row 29 [iS 0,iS 0]),(2,.row 24 [iS c2_Bits7,.own 4 0 c4q7.length,.own 11 0 r2017.length]),(3,.row 38 [iS c3q7.Start,iS (IntKind.i64.wrap (Int.tdiv c3q7.Size 2))]),(4,.row 38 (fl c4q7)),(5,.dead),(11,.row 38 (fl r2017))] 15 follows (by kernel_rfl) ?_
        refine wk_id ?_
        exact hn6 (c2_Bits7,(GBlock.mk c3q7.Start (IntKind.i64.wrap (Int.tdiv c3q7.Size 2))),c4q7,r2017) _ _ _ (Option.some.inj h).symm (leSt_m [(0,0),(1,1),(2,2),(3,3),(4,4),(5,11)] [] (by simp only [push_cast,seval]) (by simp only [push_cast,seval]) rfl rfl rfl)
       ·change R6 (.exit 4) _ _ _
        refine ex_cast hx6 (id:=4) ?_
        obtain ⟨r0,h,e0⟩:=map_sx h
        have e1:=hr6 r0 e0.symm
        subst r0
        refine wk_id ?_
        refine wk_id ?_
        refine seq_np ?_
        refine reg_f ?_
        refine rk 3 ?_
        obtain ⟨r2019,hr2019,h⟩:=bind_sx h
        refine call_x (buddy_put_1_spec c3q7 c4q7 r2019 hr2019) (args:=[.own 4 0 c4q7.length,.agg (Enc.cells c3q7)]) (dst:=(some 98)) (by kernel_rfl) [(0,.row 24 [iS 0,.v (.slice none 0 0),.v (.slice none 0 0)]),(1,.row 29 [iS 0,iS 0]),(2,.row 24 [iS c2_Bits7,.own 4 0 c4q7.length,.own 5 0 c5q7.length]),(3,.row 38 (Enc.cells c3q7)),(4,.row 38 (fl c4q7)),(5,.row 38 (fl c5q7))] 6 (by kernel_rfl) [(0,4)] [] (.own 7 0 r2019.length) [(4,.dead),(7,.row 38 (fl r2019)),(4,.dead)] (by simp only [push_cast,seval]) (by simp only [push_cast,seval]) (by kernel_rfl) (.inl rfl) (by simp only [push_cast,seval]) (by simp only [push_cast,seval]) ?_
        refine rk 2 ?_
        refine rf [(4,.ptr 0 0),(6,.ptr 1 0),(12,.ptr 2 0),(13,.ptr 3 0)] [(0,.row 24 [iS 0,.v (.slice none 0 0),.v (.slice none 0 0)]),(1,.row 29 [iS 0,iS 0]),(2,.row 24 [iS c2_Bits7,.own 7 0 r2019.length,.own 5 0 c5q7.length]),(3,.row 38 (Enc.cells c3q7)),(4,.dead),(5,.row 38 (fl c5q7)),(7,.row 38 (fl r2019))] 8 (by kernel_rfl) ?_
        refine wk_id ?_
        refine seq_np ?_
        refine seq_np ?_
        refine reg_f ?_
        refine rk 8 ?_
        refine rf [(4,.ptr 0 0),(6,.ptr 1 0),(12,.ptr 2 0),(13,.ptr 3 0),(107,bS (decide ((5000:Int) < (IntKind.i64.wrap ((r2019.length:Int)+(c5q7.length:Int))))))] [(0,.row 24 [iS 0,.v (.slice none 0 0),.v (.slice none 0 0)]),(1,.row 29 [iS 0,iS 0]),(2,.row 24 [iS c2_Bits7,.own 7 0 r2019.length,.own 5 0 c5q7.length]),(3,.row 38 (Enc.cells c3q7)),(4,.dead),(5,.row 38 (fl c5q7)),(7,.row 38 (fl r2019))] 8 (by kernel_rfl) ?_
        refine wk_id ?_
        refine cond_sx h (by kernel_rfl) (fun g2024 h=>?_) (fun g2024 h=>?_)
        ·refine seq_np ?_
         refine reg_f ?_
         refine rk 1 ?_
         obtain ⟨r2023,hr2023,h⟩:=bind_sx h
         refine run_call 21 [iS 9,iS 0] (some 109) (by kernel_rfl) ?_
         refine call_0 (buddy_fault_spec 9 0 r2023 hr2023) (by simp only [push_cast,seval]) (by simp only [push_cast,seval]) ?_
         refine back_f ?_
         refine rk 3 ?_
         refine rf [(4,.ptr 0 0),(5,iS 0),(6,.ptr 1 0)] [(0,.row 24 [iS 0,.v (.slice none 0 0),.v (.slice none 0 0)]),(1,.row 29 (Enc.cells r2023)),(2,.row 24 [iS c2_Bits7,.own 7 0 r2019.length,.own 5 0 c5q7.length]),(3,.row 38 (Enc.cells c3q7)),(4,.dead),(5,.row 38 (fl c5q7)),(7,.row 38 (fl r2019))] 8 (by kernel_rfl) ?_
         refine wk_id ?_
         obtain rfl:=Option.some.inj h
         refine ret_at (.tup [.agg [iS 0,.v (.slice none 0 0),.v (.slice none 0 0)],iS 0,.agg (Enc.cells r2023)]) (by kernel_rfl) ?_
         exact ret_e [] [] (by simp only [push_cast,seval]) (by simp only [push_cast,seval]) rfl rfl rfl
        ·refine wk_id ?_
         refine seq_np ?_
         refine reg_t ?_
         refine rk 7 ?_
         refine rt [(4,.ptr 0 0),(5,iS c3q7.Start),(6,.ptr 1 0)] [(0,.row 24 [iS c2_Bits7,.own 7 0 r2019.length,.own 5 0 c5q7.length]),(1,.row 29 [iS 0,iS 0]),(2,.row 24 [iS c2_Bits7,.own 7 0 r2019.length,.own 5 0 c5q7.length]),(3,.row 38 (Enc.cells c3q7)),(4,.dead),(5,.row 38 (fl c5q7)),(7,.row 38 (fl r2019))] 15 follows (by kernel_rfl) ?_
         refine wk_id ?_
         obtain rfl:=Option.some.inj h
         refine ret_at (.tup [.agg [iS c2_Bits7,.own 7 0 r2019.length,.own 5 0 c5q7.length],iS c3q7.Start,.agg [iS 0,iS 0]]) (by kernel_rfl) ?_
         exact ret_e [(0,7),(1,5)] [] (by simp only [push_cast,seval]) (by simp only [push_cast,seval]) rfl rfl rfl

set_option maxRecDepth 100000 in
set_option maxHeartbeats 200000000 in
theorem taskmillref_SameBlocks_spec (xa:(List GBlock)) (b:(List GBlock)) (r:Bool) (h:taskmillref_SameBlocks xa b = some r):SpecW Try.prog 19 [.sl xa.length (fl xa),.sl b.length (fl b)] [] 0 (fun x h n=>x = bS r∧h = []∧n = 0):=by
 unfold taskmillref_SameBlocks at h
 refine spec_of (draw_ok _) Try.func19 rfl (by decide) rfl (by kernel_rfl) ?_
 refine seq_np ?_
 refine reg_f ?_
 refine rk 1 ?_
 refine rf [(0,.sl xa.length (fl xa)),(1,.sl b.length (fl b))] [] 0 (by kernel_rfl) ?_
 refine wk_id ?_
 refine seq_np ?_
 refine seq_np ?_
 refine reg_f ?_
 refine rk 5 ?_
 refine rf [(0,.sl xa.length (fl xa)),(1,.sl b.length (fl b)),(10,bS ((xa.length:Int) != (b.length:Int)))] [] 0 (by kernel_rfl) ?_
 refine wk_id ?_
 refine cond_sx h (by kernel_rfl) (fun g2128 h=>?_) (fun g2128 h=>?_)
 ·refine seq_np ?_
  refine reg_f ?_
  refine rk 1 ?_
  refine rf [(4,bS false)] [] 0 (by kernel_rfl) ?_
  refine wk_id ?_
  obtain rfl:=Option.some.inj h
  refine ret_at (bS false) (by kernel_rfl) ?_
  exact ret_e [] [] (by simp only [push_cast,seval]) (by simp only [push_cast,seval]) rfl rfl rfl
 ·refine wk_id ?_
  refine seq_np ?_
  refine seq_np ?_
  refine reg_f ?_
  refine rk 1 ?_
  refine rf [(0,.sl xa.length (fl xa)),(1,.sl b.length (fl b)),(5,iS 0)] [] 0 (by kernel_rfl) ?_
  refine wk_id ?_
  refine block_np ?_
  refine loop_sx (S:=Int) (fun a=>([(0,.sl xa.length (fl xa)),(1,.sl b.length (fl b)),(5,iS a)],[],0)) h (leSt_m [] [] (by simp only [push_cast,seval]) (by simp only [push_cast,seval]) rfl rfl rfl) ?_
  rintro i7 o2 R2 h hr2 hn2 hx2 ht2
  try dsimp only at h hn2 ⊢
  unfold taskmillref_SameBlocks_l1 at h
  try dsimp only at h
  refine seq_np ?_
  refine seq_np ?_
  refine reg_f ?_
  refine rk 4 ?_
  refine rf [(0,.sl xa.length (fl xa)),(1,.sl b.length (fl b)),(5,iS i7),(14,bS (decide (i7 < (xa.length:Int))))] [] 0 (by kernel_rfl) ?_
  refine wk_id ?_
  refine cond_sx h (by kernel_rfl) (fun g2127 h=>?_) (fun g2127 h=>?_)
  ·refine wk_id ?_
   refine seq_np ?_
   refine block_np ?_
   refine chk_sx h (fun g2123 h=>?_)
   refine chk_sx h (fun g2125 h=>?_)
   refine seq_np ?_
   refine reg_t ?_
   have k2122:0≤i7∧i7 < (xa.length:Int):=by first | simpa only [Bool.and_eq_true,decide_eq_true_eq,bne_iff_ne,ne_eq] using g2123 | (simp at g2123 ⊢; omega) | simp
   have k2124:0≤i7∧i7 < (b.length:Int):=by first | simpa only [Bool.and_eq_true,decide_eq_true_eq,bne_iff_ne,ne_eq] using g2125 | (simp at g2125 ⊢; omega) | simp
   refine rs 9 [none,none,some ⟨.iptr (fl xa) ((i7).toNat * 2),[],2,[]⟩,some ⟨.agg (Enc.cells (ix xa i7)),[],3,[]⟩,none,none,some ⟨.iptr (fl b) ((i7).toNat * 2),[],6,[]⟩,some ⟨.agg (Enc.cells (ix b i7)),[],7,[]⟩] _ (by kernel_rfl) (allP_cons (ob_ldw b i7 2 ((i7).toNat * 2) k2124 rfl (by first | rfl | omega) (Enc.cells (ix b i7)) rfl 7 []) (allP_cons (ob_ix_l b 2 6 i7 k2124) (allP_cons (ob_ldw xa i7 2 ((i7).toNat * 2) k2122 rfl (by first | rfl | omega) (Enc.cells (ix xa i7)) rfl 3 []) (allP_cons (ob_ix_l xa 2 2 i7 k2122) allP_nil)))) ?_
   refine rt [(0,.sl xa.length (fl xa)),(1,.sl b.length (fl b)),(5,iS i7),(25,bS (!(((ix xa i7).Start == (ix b i7).Start) && (((ix xa i7).Size == (ix b i7).Size) && true))))] [] 9 follows (by kernel_rfl) ?_
   refine wk_id ?_
   refine cond_sx h (by kernel_rfl) (fun g2126 h=>?_) (fun g2126 h=>?_)
   ·refine seq_np ?_
    refine reg_f ?_
    refine rk 1 ?_
    refine rf [(4,bS false)] [] 9 (by kernel_rfl) ?_
    refine wk_id ?_
    refine rt_cast ht2 ?_
    obtain ⟨r0,h,e0⟩:=map_sx h
    have e1:=hr2 r0 e0.symm
    subst r0
    obtain rfl:=Option.some.inj h
    refine ret_at (bS false) (by kernel_rfl) ?_
    exact ret_e [] [] (by simp only [push_cast,seval]) (by simp only [push_cast,seval]) rfl rfl rfl
   ·refine wk_id ?_
    refine wk_id ?_
    refine reg_f ?_
    refine rk 3 ?_
    refine rf [(0,.sl xa.length (fl xa)),(1,.sl b.length (fl b)),(5,iS (IntKind.i64.wrap (i7+1)))] [] 9 (by kernel_rfl) ?_
    exact hn2 ((IntKind.i64.wrap (i7+1))) _ _ _ (Option.some.inj h).symm (leSt_m [] [] (by simp only [push_cast,seval]) (by simp only [push_cast,seval]) rfl rfl rfl)
  ·change R2 (.exit 0) _ _ _
   refine ex_cast hx2 (id:=0) ?_
   obtain ⟨r0,h,e0⟩:=map_sx h
   have e1:=hr2 r0 e0.symm
   subst r0
   refine wk_id ?_
   refine wk_id ?_
   refine seq_np ?_
   refine reg_f ?_
   refine rk 1 ?_
   refine rf [(4,bS true)] [] 0 (by kernel_rfl) ?_
   refine wk_id ?_
   obtain rfl:=Option.some.inj h
   refine ret_at (bS true) (by kernel_rfl) ?_
   exact ret_e [] [] (by simp only [push_cast,seval]) (by simp only [push_cast,seval]) rfl rfl rfl

set_option maxRecDepth 100000 in
set_option maxHeartbeats 200000000 in
theorem taskmilllaw_buddyBegun_spec (r:Bool) (h:taskmilllaw_buddyBegun = some r):SpecW Try.prog 7 [] [] 0 (fun x h n=>x = bS r∧h = []∧n = 0):=by
 unfold taskmilllaw_buddyBegun at h
 refine spec_of (draw_ok _) Try.func7 rfl (by decide) rfl (by kernel_rfl) ?_
 refine seq_np ?_
 refine reg_f ?_
 refine rk 1 ?_
 refine rf [] [] 0 (by kernel_rfl) ?_
 refine wk_id ?_
 refine seq_np ?_
 refine reg_f ?_
 obtain ⟨r2133,hr2133,h⟩:=bind_sx h
 refine call_x (buddy_New_spec 3 r2133 hr2133) (args:=[iS 3]) (dst:=(some 7)) (by kernel_rfl) [] 0 (by kernel_rfl) [] [] (.tup [.agg [iS r2133.1,.v (.slice none 0 0),.own 0 0 r2133.2.2.length],.agg (Enc.cells r2133.2.1)]) [(0,.row 38 (fl r2133.2.2))] (by simp only [push_cast,seval]) (by simp only [push_cast,seval]) (by kernel_rfl) (.inl rfl) (by simp only [push_cast,seval]) (by simp only [push_cast,seval]) ?_
 refine rk 7 ?_
 refine rf [(1,.ptr 1 0),(2,.ptr 2 0)] [(0,.row 38 (fl r2133.2.2)),(1,.row 24 [iS r2133.1,.v (.slice none 0 0),.own 0 0 r2133.2.2.length]),(2,.row 29 (Enc.cells r2133.2.1))] 3 (by kernel_rfl) ?_
 refine wk_id ?_
 refine seq_np ?_
 refine reg_f ?_
 refine rk 1 ?_
 obtain ⟨r2135,hr2135,h⟩:=bind_sx h
 refine call_x (buddy_Take_spec (Space.mk r2133.1 [] r2133.2.2) 3 r2135 hr2135) (args:=[.agg [iS r2133.1,.v (.slice none 0 0),.own 0 0 r2133.2.2.length],iS 3]) (dst:=(some 12)) (by kernel_rfl) [(0,.row 38 (fl r2133.2.2)),(1,.row 24 [iS r2133.1,.v (.slice none 0 0),.own 0 0 r2133.2.2.length]),(2,.row 29 (Enc.cells r2133.2.1))] 3 (by kernel_rfl) [] [0] (.tup [.agg [iS r2135.1,.own 3 0 r2135.2.2.2.1.length,.own 4 0 r2135.2.2.2.2.length],iS r2135.2.1,.agg (Enc.cells r2135.2.2.1)]) [(3,.row 38 (fl r2135.2.2.2.1)),(4,.row 38 (fl r2135.2.2.2.2))] (by simp only [push_cast,seval]) (by simp only [push_cast,seval]) (by kernel_rfl) (.inr ⟨by simp only [push_cast,seval],by simp only [push_cast,seval]⟩) (by simp only [push_cast,seval]) (by simp only [push_cast,seval]) ?_
 refine rk 9 ?_
 refine rf [(2,.ptr 2 0),(3,.ptr 5 0),(4,iS r2135.2.1),(5,.ptr 6 0)] [(0,.row 38 (fl r2133.2.2)),(1,.row 24 [iS r2133.1,.v (.slice none 0 0),.own 0 0 r2133.2.2.length]),(2,.row 29 (Enc.cells r2133.2.1)),(3,.row 38 (fl r2135.2.2.2.1)),(4,.row 38 (fl r2135.2.2.2.2)),(5,.row 24 [iS r2135.1,.own 3 0 r2135.2.2.2.1.length,.own 4 0 r2135.2.2.2.2.length]),(6,.row 29 (Enc.cells r2135.2.2.1))] 7 (by kernel_rfl) ?_
 refine wk_id ?_
 refine seq_cut (A:=Bool) (fun a=>([(0,bS a)],[],0)) (fun a=>(taskmilllaw_buddyBegun_j1 a) = some r) (fun K2141 hK2141=>?_) ?_
 ·refine reg_f ?_
  refine rk 4 ?_
  refine run_br h 19 (.inl (by kernel_rfl)) (fun g2142 h=>?_) (fun g2142 h=>?_)
  ·refine rk 5 ?_
   refine run_br h 24 (.inl (by kernel_rfl)) (fun g2143 h=>?_) (fun g2143 h=>?_)
   ·refine rk 4 ?_
    refine run_br h 28 (.inl (by kernel_rfl)) (fun g2144 h=>?_) (fun g2144 h=>?_)
    ·refine rn 13 [(3,.ptr 5 0),(28,bS true)] [(0,.row 38 (fl r2133.2.2)),(1,.row 24 [iS r2133.1,.v (.slice none 0 0),.own 0 0 r2133.2.2.length]),(2,.row 29 (Enc.cells r2133.2.1)),(3,.row 38 (fl r2135.2.2.2.1)),(4,.row 38 (fl r2135.2.2.2.2)),(5,.row 24 [iS r2135.1,.own 3 0 r2135.2.2.2.1.length,.own 4 0 r2135.2.2.2.2.length]),(6,.row 29 (Enc.cells r2135.2.2.1))] 7 (by kernel_rfl) ?_
     refine rk 4 ?_
     obtain ⟨r2145,hr2145,h⟩:=bind_sx h
     refine call_x (taskmillref_SameBlocks_spec r2135.2.2.2.2 ([(GBlock.mk 4 4)]:List GBlock) r2145 hr2145) (args:=[.own 4 0 r2135.2.2.2.2.length,.own 7 0 ([(GBlock.mk 4 4)]:List GBlock).length]) (dst:=(some 33)) (by kernel_rfl) [(0,.row 38 (fl r2133.2.2)),(1,.row 24 [iS r2133.1,.v (.slice none 0 0),.own 0 0 r2133.2.2.length]),(2,.row 29 (Enc.cells r2133.2.1)),(3,.row 38 (fl r2135.2.2.2.1)),(4,.row 38 (fl r2135.2.2.2.2)),(5,.row 24 [iS r2135.1,.own 3 0 r2135.2.2.2.1.length,.own 4 0 r2135.2.2.2.2.length]),(6,.row 29 (Enc.cells r2135.2.2.1)),(7,.row 38 (fl ([(GBlock.mk 4 4)]:List GBlock)))] 8 (by kernel_rfl) [] [4,7] (bS r2145) [] (by simp only [push_cast,seval]) (by simp only [push_cast,seval]) (by kernel_rfl) (.inr ⟨by simp only [push_cast,seval],by simp only [push_cast,seval]⟩) (by simp only [push_cast,seval]) (by simp only [push_cast,seval]) ?_
     refine rk 2 ?_
     refine rf [(0,bS r2145)] [(0,.row 38 (fl r2133.2.2)),(1,.row 24 [iS r2133.1,.v (.slice none 0 0),.own 0 0 r2133.2.2.length]),(2,.row 29 (Enc.cells r2133.2.1)),(3,.row 38 (fl r2135.2.2.2.1)),(4,.row 38 (fl r2135.2.2.2.2)),(5,.row 24 [iS r2135.1,.own 3 0 r2135.2.2.2.1.length,.own 4 0 r2135.2.2.2.2.length]),(6,.row 29 (Enc.cells r2135.2.2.1)),(7,.row 38 (fl ([(GBlock.mk 4 4)]:List GBlock)))] 8 (by kernel_rfl) ?_
     exact hK2141 (r2145) _ _ _ h (leSt_m [] [] (by first | ((try simp only [g2142,g2143,g2144]) <;> simp only [push_cast,seval]; done) | ((try simp only [g2142]); (try simp only [g2143]); (try simp only [g2144]); simp only [push_cast,seval]; done) | (exfalso; clear h; simp_all; done)) (by first | ((try simp only [g2142,g2143,g2144]) <;> simp only [push_cast,seval]; done) | ((try simp only [g2142]); (try simp only [g2143]); (try simp only [g2144]); simp only [push_cast,seval]; done) | (exfalso; clear h; simp_all; done)) rfl rfl rfl)
    ·refine rn 13 [(3,.ptr 5 0),(28,bS false)] [(0,.row 38 (fl r2133.2.2)),(1,.row 24 [iS r2133.1,.v (.slice none 0 0),.own 0 0 r2133.2.2.length]),(2,.row 29 (Enc.cells r2133.2.1)),(3,.row 38 (fl r2135.2.2.2.1)),(4,.row 38 (fl r2135.2.2.2.2)),(5,.row 24 [iS r2135.1,.own 3 0 r2135.2.2.2.1.length,.own 4 0 r2135.2.2.2.2.length]),(6,.row 29 (Enc.cells r2135.2.2.1))] 7 (by kernel_rfl) ?_
     refine rk 7 ?_
     refine rf [(0,bS false)] [(0,.row 38 (fl r2133.2.2)),(1,.row 24 [iS r2133.1,.v (.slice none 0 0),.own 0 0 r2133.2.2.length]),(2,.row 29 (Enc.cells r2133.2.1)),(3,.row 38 (fl r2135.2.2.2.1)),(4,.row 38 (fl r2135.2.2.2.2)),(5,.row 24 [iS r2135.1,.own 3 0 r2135.2.2.2.1.length,.own 4 0 r2135.2.2.2.2.length]),(6,.row 29 (Enc.cells r2135.2.2.1))] 7 (by kernel_rfl) ?_
     exact hK2141 (false) _ _ _ h (leSt_m [] [] (by first | ((try simp only [g2142,g2143,g2144]) <;> simp only [push_cast,seval]; done) | ((try simp only [g2142]); (try simp only [g2143]); (try simp only [g2144]); simp only [push_cast,seval]; done) | (exfalso; clear h; simp_all; done)) (by first | ((try simp only [g2142,g2143,g2144]) <;> simp only [push_cast,seval]; done) | ((try simp only [g2142]); (try simp only [g2143]); (try simp only [g2144]); simp only [push_cast,seval]; done) | (exfalso; clear h; simp_all; done)) rfl rfl rfl)
   ·refine rk 11 ?_
    refine rf [(0,bS false)] [(0,.row 38 (fl r2133.2.2)),(1,.row 24 [iS r2133.1,.v (.slice none 0 0),.own 0 0 r2133.2.2.length]),(2,.row 29 (Enc.cells r2133.2.1)),(3,.row 38 (fl r2135.2.2.2.1)),(4,.row 38 (fl r2135.2.2.2.2)),(5,.row 24 [iS r2135.1,.own 3 0 r2135.2.2.2.1.length,.own 4 0 r2135.2.2.2.2.length]),(6,.row 29 (Enc.cells r2135.2.2.1))] 7 (by kernel_rfl) ?_
    exact hK2141 (false) _ _ _ h (leSt_m [] [] (by first | ((try simp only [g2142,g2143]) <;> simp only [push_cast,seval]; done) | ((try simp only [g2142]); (try simp only [g2143]); simp only [push_cast,seval]; done) | (exfalso; clear h; simp_all; done)) (by first | ((try simp only [g2142,g2143]) <;> simp only [push_cast,seval]; done) | ((try simp only [g2142]); (try simp only [g2143]); simp only [push_cast,seval]; done) | (exfalso; clear h; simp_all; done)) rfl rfl rfl)
  ·refine rk 16 ?_
   refine rf [(0,bS false)] [(0,.row 38 (fl r2133.2.2)),(1,.row 24 [iS r2133.1,.v (.slice none 0 0),.own 0 0 r2133.2.2.length]),(2,.row 29 (Enc.cells r2133.2.1)),(3,.row 38 (fl r2135.2.2.2.1)),(4,.row 38 (fl r2135.2.2.2.2)),(5,.row 24 [iS r2135.1,.own 3 0 r2135.2.2.2.1.length,.own 4 0 r2135.2.2.2.2.length]),(6,.row 29 (Enc.cells r2135.2.2.1))] 7 (by kernel_rfl) ?_
   exact hK2141 (false) _ _ _ h (leSt_m [] [] (by (try simp only [g2142]) <;> simp only [push_cast,seval]) (by (try simp only [g2142]) <;> simp only [push_cast,seval]) rfl rfl rfl)
 ·rintro t0q1 h
  try dsimp only at h ⊢
  unfold taskmilllaw_buddyBegun_j1 at h
  obtain rfl:=Option.some.inj h
  refine ret_at (bS t0q1) (by kernel_rfl) ?_
  exact ret_e [] [] (by simp only [push_cast,seval]) (by simp only [push_cast,seval]) rfl rfl rfl

set_option maxRecDepth 100000 in
set_option maxHeartbeats 200000000 in
theorem taskmillref_F_spec (code:Int) (xat:Int) (r:Fault) (h:taskmillref_F code xat = some r):SpecW Try.prog 15 [iS code,iS xat] [] 0 (fun x h n=>x = .agg (Enc.cells r)∧h = []∧n = 0):=by
 unfold taskmillref_F at h
 refine spec_of (draw_ok _) Try.func15 rfl (by decide) rfl (by kernel_rfl) ?_
 refine seq_np ?_
 refine reg_f ?_
 refine rk 1 ?_
 refine rf [(0,iS code),(1,iS xat),(4,.ptr 0 0)] [(0,.row 29 [iS 0,iS 0])] 1 (by kernel_rfl) ?_
 refine wk_id ?_
 refine seq_np ?_
 refine reg_f ?_
 refine rk 4 ?_
 refine rf [(4,.ptr 0 0)] [(0,.row 29 [iS code,iS xat])] 1 (by kernel_rfl) ?_
 refine wk_id ?_
 obtain rfl:=Option.some.inj h
 refine ret_at (.agg [iS code,iS xat]) (by kernel_rfl) ?_
 exact ret_e [] [] (by simp only [push_cast,seval]) (by simp only [push_cast,seval]) rfl rfl rfl

set_option maxRecDepth 100000 in
set_option maxHeartbeats 200000000 in
theorem taskmillref_IsPower_spec (n:Int) (r:Bool) (h:taskmillref_IsPower n = some r):SpecW Try.prog 34 [iS n] [] 0 (fun x h n=>x = bS r∧h = []∧n = 0):=by
 unfold taskmillref_IsPower at h
 refine spec_of (draw_ok _) Try.func34 rfl (by decide) rfl (by kernel_rfl) ?_
 refine seq_np ?_
 refine reg_f ?_
 refine rk 1 ?_
 refine rf [(0,iS n)] [] 0 (by kernel_rfl) ?_
 refine wk_id ?_
 refine seq_np ?_
 refine seq_np ?_
 refine reg_f ?_
 refine rk 1 ?_
 refine rf [(0,iS n),(3,iS 1)] [] 0 (by kernel_rfl) ?_
 refine wk_id ?_
 refine block_np ?_
 refine loop_sx (S:=Int) (fun a=>([(0,iS n),(3,iS a)],[],0)) h (leSt_m [] [] (by simp only [push_cast,seval]) (by simp only [push_cast,seval]) rfl rfl rfl) ?_
 rintro k7 o2 R2 h hr2 hn2 hx2 ht2
 try dsimp only at h hn2 ⊢
 unfold taskmillref_IsPower_l1 at h
 try dsimp only at h
 refine seq_np ?_
 refine seq_np ?_
 refine reg_f ?_
 refine rk 2 ?_
 refine rf [(0,iS n),(3,iS k7),(5,bS (decide ((0:Int) < k7)))] [] 0 (by kernel_rfl) ?_
 refine wk_id ?_
 refine cond_sx h (by kernel_rfl) (fun g2201 h=>?_) (fun g2201 h=>?_)
 ·refine wk_id ?_
  refine seq_np ?_
  refine block_np ?_
  refine seq_np ?_
  refine reg_f ?_
  refine rk 3 ?_
  refine rf [(0,iS n),(3,iS k7),(10,bS (k7 == n))] [] 0 (by kernel_rfl) ?_
  refine wk_id ?_
  refine cond_sx h (by kernel_rfl) (fun g2200 h=>?_) (fun g2200 h=>?_)
  ·refine seq_np ?_
   refine reg_f ?_
   refine rk 1 ?_
   refine rf [(2,bS true)] [] 0 (by kernel_rfl) ?_
   refine wk_id ?_
   refine rt_cast ht2 ?_
   obtain ⟨r0,h,e0⟩:=map_sx h
   have e1:=hr2 r0 e0.symm
   subst r0
   obtain rfl:=Option.some.inj h
   refine ret_at (bS true) (by kernel_rfl) ?_
   exact ret_e [] [] (by simp only [push_cast,seval]) (by simp only [push_cast,seval]) rfl rfl rfl
  ·refine wk_id ?_
   refine wk_id ?_
   refine reg_f ?_
   refine rk 3 ?_
   refine rf [(0,iS n),(3,iS (IntKind.i64.wrap (k7 * 2)))] [] 0 (by kernel_rfl) ?_
   exact hn2 ((IntKind.i64.wrap (k7 * 2))) _ _ _ (Option.some.inj h).symm (leSt_m [] [] (by simp only [push_cast,seval]) (by simp only [push_cast,seval]) rfl rfl rfl)
 ·change R2 (.exit 0) _ _ _
  refine ex_cast hx2 (id:=0) ?_
  obtain ⟨r0,h,e0⟩:=map_sx h
  have e1:=hr2 r0 e0.symm
  subst r0
  refine wk_id ?_
  refine wk_id ?_
  refine seq_np ?_
  refine reg_f ?_
  refine rk 1 ?_
  refine rf [(2,bS false)] [] 0 (by kernel_rfl) ?_
  refine wk_id ?_
  obtain rfl:=Option.some.inj h
  refine ret_at (bS false) (by kernel_rfl) ?_
  exact ret_e [] [] (by simp only [push_cast,seval]) (by simp only [push_cast,seval]) rfl rfl rfl

set_option maxRecDepth 100000 in
set_option maxHeartbeats 200000000 in
theorem taskmillref_MateOf_spec (b:GBlock) (r:GBlock) (h:taskmillref_MateOf b = some r):SpecW Try.prog 36 [.agg (Enc.cells b)] [] 0 (fun x h n=>x = .agg (Enc.cells r)∧h = []∧n = 0):=by
 unfold taskmillref_MateOf at h
 refine spec_of (draw_ok _) Try.func36 rfl (by decide) rfl (by kernel_rfl) ?_
 refine seq_np ?_
 refine reg_f ?_
 refine rk 2 ?_
 refine rf [(1,.ptr 0 0),(2,.ptr 1 0)] [(0,.row 38 (Enc.cells b)),(1,.row 38 [iS 0,iS 0])] 2 (by kernel_rfl) ?_
 refine wk_id ?_
 refine seq_np ?_
 refine chk_sx h (fun g2436 h=>?_)
 refine seq_np ?_
 refine reg_f ?_
 have k2435:b.Size≠0:=by first | simpa only [Bool.and_eq_true,decide_eq_true_eq,bne_iff_ne,ne_eq] using g2436 | (simp at g2436 ⊢; omega) | simp
 refine rs 7 [none,none,none,none,some ⟨iS (IntKind.i64.wrap (Int.tdiv b.Start b.Size)),[],2,[]⟩] _ (by kernel_rfl) (allP_cons (ob_p (v:=iS (IntKind.i64.wrap (Int.tdiv b.Start b.Size))) (nx:=2) (r:=[]) k2435) allP_nil) ?_
 refine rf [(1,.ptr 0 0),(2,.ptr 1 0),(9,bS ((Int.tmod (IntKind.i64.wrap (Int.tdiv b.Start b.Size)) 2) == 0))] [(0,.row 38 (Enc.cells b)),(1,.row 38 [iS 0,iS 0])] 2 (by kernel_rfl) ?_
 refine wk_id ?_
 refine cond_sx h (by kernel_rfl) (fun g2437 h=>?_) (fun g2437 h=>?_)
 ·refine seq_np ?_
  refine reg_f ?_
  refine rk 9 ?_
  refine rf [(2,.ptr 1 0)] [(0,.row 38 (Enc.cells b)),(1,.row 38 [iS (IntKind.i64.wrap (b.Start+b.Size)),iS b.Size])] 2 (by kernel_rfl) ?_
  refine wk_id ?_
  obtain rfl:=Option.some.inj h
  refine ret_at (.agg [iS (IntKind.i64.wrap (b.Start+b.Size)),iS b.Size]) (by kernel_rfl) ?_
  exact ret_e [] [] (by simp only [push_cast,seval]) (by simp only [push_cast,seval]) rfl rfl rfl
 ·refine wk_id ?_
  refine seq_np ?_
  refine reg_f ?_
  refine rk 9 ?_
  refine rf [(2,.ptr 1 0)] [(0,.row 38 (Enc.cells b)),(1,.row 38 [iS (IntKind.i64.wrap (b.Start - b.Size)),iS b.Size])] 2 (by kernel_rfl) ?_
  refine wk_id ?_
  obtain rfl:=Option.some.inj h
  refine ret_at (.agg [iS (IntKind.i64.wrap (b.Start - b.Size)),iS b.Size]) (by kernel_rfl) ?_
  exact ret_e [] [] (by simp only [push_cast,seval]) (by simp only [push_cast,seval]) rfl rfl rfl

set_option maxRecDepth 100000 in
set_option maxHeartbeats 200000000 in
theorem taskmillref_FindBlock_spec (l:(List GBlock)) (b:GBlock) (r:Int) (h:taskmillref_FindBlock l b = some r):SpecW Try.prog 35 [.sl l.length (fl l),.agg (Enc.cells b)] [] 0 (fun x h n=>x = iS r∧h = []∧n = 0):=by
 unfold taskmillref_FindBlock at h
 refine spec_of (draw_ok _) Try.func35 rfl (by decide) rfl (by kernel_rfl) ?_
 refine seq_np ?_
 refine reg_f ?_
 refine rk 2 ?_
 refine rf [(0,.sl l.length (fl l)),(3,.ptr 0 0)] [(0,.row 38 (Enc.cells b))] 1 (by kernel_rfl) ?_
 refine wk_id ?_
 refine seq_np ?_
 refine seq_np ?_
 refine reg_f ?_
 refine rk 1 ?_
 refine rf [(0,.sl l.length (fl l)),(3,.ptr 0 0),(5,iS 0)] [(0,.row 38 (Enc.cells b))] 1 (by kernel_rfl) ?_
 refine wk_id ?_
 refine block_np ?_
 refine loop_sx (S:=Int) (fun a=>([(0,.sl l.length (fl l)),(3,.ptr 0 0),(5,iS a)],[(0,.row 38 (Enc.cells b))],1)) h (leSt_m [(0,0)] [] (by simp only [push_cast,seval]) (by simp only [push_cast,seval]) rfl rfl rfl) ?_
 rintro i7 o2 R2 h hr2 hn2 hx2 ht2
 try dsimp only at h hn2 ⊢
 unfold taskmillref_FindBlock_l1 at h
 try dsimp only at h
 refine seq_np ?_
 refine seq_np ?_
 refine reg_f ?_
 refine rk 4 ?_
 refine rf [(0,.sl l.length (fl l)),(3,.ptr 0 0),(5,iS i7),(9,bS (decide (i7 < (l.length:Int))))] [(0,.row 38 (Enc.cells b))] 1 (by kernel_rfl) ?_
 refine wk_id ?_
 refine cond_sx h (by kernel_rfl) (fun g2499 h=>?_) (fun g2499 h=>?_)
 ·refine wk_id ?_
  refine seq_np ?_
  refine block_np ?_
  refine chk_sx h (fun g2497 h=>?_)
  refine seq_np ?_
  refine reg_t ?_
  have k2496:0≤i7∧i7 < (l.length:Int):=by first | simpa only [Bool.and_eq_true,decide_eq_true_eq,bne_iff_ne,ne_eq] using g2497 | (simp at g2497 ⊢; omega) | simp
  refine rs 6 [none,none,some ⟨.iptr (fl l) ((i7).toNat * 2),[],3,[]⟩,some ⟨.agg (Enc.cells (ix l i7)),[],4,[]⟩] _ (by kernel_rfl) (allP_cons (ob_ldw l i7 2 ((i7).toNat * 2) k2496 rfl (by first | rfl | omega) (Enc.cells (ix l i7)) rfl 4 []) (allP_cons (ob_ix_l l 2 3 i7 k2496) allP_nil)) ?_
  refine rt [(0,.sl l.length (fl l)),(3,.ptr 0 0),(5,iS i7),(17,bS (((ix l i7).Start == b.Start) && (((ix l i7).Size == b.Size) && true)))] [(0,.row 38 (Enc.cells b))] 7 follows (by kernel_rfl) ?_
  refine wk_id ?_
  refine cond_sx h (by kernel_rfl) (fun g2498 h=>?_) (fun g2498 h=>?_)
  ·refine seq_np ?_
   refine reg_f ?_
   refine rk 2 ?_
   refine rf [(4,iS i7)] [(0,.row 38 (Enc.cells b))] 7 (by kernel_rfl) ?_
   refine wk_id ?_
   refine rt_cast ht2 ?_
   obtain ⟨r0,h,e0⟩:=map_sx h
   have e1:=hr2 r0 e0.symm
   subst r0
   obtain rfl:=Option.some.inj h
   refine ret_at (iS i7) (by kernel_rfl) ?_
   exact ret_e [] [] (by simp only [push_cast,seval]) (by simp only [push_cast,seval]) rfl rfl rfl
  ·refine wk_id ?_
   refine wk_id ?_
   refine reg_f ?_
   refine rk 3 ?_
   refine rf [(0,.sl l.length (fl l)),(3,.ptr 0 0),(5,iS (IntKind.i64.wrap (i7+1)))] [(0,.row 38 (Enc.cells b))] 7 (by kernel_rfl) ?_
   exact hn2 ((IntKind.i64.wrap (i7+1))) _ _ _ (Option.some.inj h).symm (leSt_m [(0,0)] [] (by simp only [push_cast,seval]) (by simp only [push_cast,seval]) rfl rfl rfl)
 ·change R2 (.exit 0) _ _ _
  refine ex_cast hx2 (id:=0) ?_
  obtain ⟨r0,h,e0⟩:=map_sx h
  have e1:=hr2 r0 e0.symm
  subst r0
  refine wk_id ?_
  refine wk_id ?_
  refine seq_np ?_
  refine reg_f ?_
  refine rk 1 ?_
  refine rf [(4,iS (-1))] [(0,.row 38 (Enc.cells b))] 1 (by kernel_rfl) ?_
  refine wk_id ?_
  obtain rfl:=Option.some.inj h
  refine ret_at (iS (-1)) (by kernel_rfl) ?_
  exact ret_e [] [] (by simp only [push_cast,seval]) (by simp only [push_cast,seval]) rfl rfl rfl

set_option maxRecDepth 100000 in
set_option maxHeartbeats 200000000 in
theorem taskmillref_SpaceFault_spec (s:Space) (r:Fault) (h:taskmillref_SpaceFault s = some r):SpecW Try.prog 13 [.agg (Enc.cells s)] [] 0 (fun x h n=>x = .agg (Enc.cells r)∧h = []∧n = 0):=by
 unfold taskmillref_SpaceFault at h
 refine spec_of (draw_ok _) Try.func13 rfl (by decide) rfl (by kernel_rfl) ?_
 refine seq_np ?_
 refine reg_f ?_
 refine rk 2 ?_
 refine rf [(1,.ptr 0 0),(2,.ptr 1 0)] [(0,.row 24 (Enc.cells s)),(1,.row 29 [iS 0,iS 0])] 2 (by kernel_rfl) ?_
 refine wk_id ?_
 refine seq_np ?_
 refine seq_cut (A:=Unit) (fun _=>([(1,.ptr 0 0),(2,.ptr 1 0),(29,bS ((decide (s.Bits < 0)) || ((decide ((30:Int) < s.Bits)) || (decide ((5000:Int) < (IntKind.i64.wrap ((s.Used.length:Int)+(s.Free.length:Int))))))))],[(0,.row 24 (Enc.cells s)),(1,.row 29 [iS 0,iS 0])],2)) (fun _=>True) (fun K2536 hK2536=>?_) (fun _ _=>?_)
 ·refine reg_f ?_
  refine rk 4 ?_
  refine run_split 15 (decide (s.Bits < 0)) (.inl (by kernel_rfl)) (fun g2537=>?_) (fun g2537=>?_)
  ·refine rk 14 ?_
   refine rf [(1,.ptr 0 0),(2,.ptr 1 0),(29,bS true)] [(0,.row 24 (Enc.cells s)),(1,.row 29 [iS 0,iS 0])] 2 (by kernel_rfl) ?_
   exact hK2536 () _ _ _ trivial (leSt_m [(0,0),(1,1)] [] (by (try simp only [g2537]) <;> simp only [push_cast,seval]) (by (try simp only [g2537]) <;> simp only [push_cast,seval]) rfl rfl rfl)
  ·refine rk 5 ?_
   refine run_split 20 (decide ((30:Int) < s.Bits)) (.inl (by kernel_rfl)) (fun g2538=>?_) (fun g2538=>?_)
   ·refine rk 9 ?_
    refine rf [(1,.ptr 0 0),(2,.ptr 1 0),(29,bS true)] [(0,.row 24 (Enc.cells s)),(1,.row 29 [iS 0,iS 0])] 2 (by kernel_rfl) ?_
    exact hK2536 () _ _ _ trivial (leSt_m [(0,0),(1,1)] [] (by first | ((try simp only [g2537,g2538]) <;> simp only [push_cast,seval]; done) | ((try simp only [g2537]); (try simp only [g2538]); simp only [push_cast,seval]; done) | (exfalso; clear h; simp_all; done)) (by first | ((try simp only [g2537,g2538]) <;> simp only [push_cast,seval]; done) | ((try simp only [g2537]); (try simp only [g2538]); simp only [push_cast,seval]; done) | (exfalso; clear h; simp_all; done)) rfl rfl rfl)
   ·refine rk 9 ?_
    refine rf [(1,.ptr 0 0),(2,.ptr 1 0),(29,bS (decide ((5000:Int) < (IntKind.i64.wrap ((s.Used.length:Int)+(s.Free.length:Int))))))] [(0,.row 24 (Enc.cells s)),(1,.row 29 [iS 0,iS 0])] 2 (by kernel_rfl) ?_
    exact hK2536 () _ _ _ trivial (leSt_m [(0,0),(1,1)] [] (by first | ((try simp only [g2537,g2538]) <;> simp only [push_cast,seval]; done) | ((try simp only [g2537]); (try simp only [g2538]); simp only [push_cast,seval]; done) | (exfalso; clear h; simp_all; done)) (by first | ((try simp only [g2537,g2538]) <;> simp only [push_cast,seval]; done) | ((try simp only [g2537]); (try simp only [g2538]); simp only [push_cast,seval]; done) | (exfalso; clear h; simp_all; done)) rfl rfl rfl)
 ·dsimp only
  refine cond_sx h (by kernel_rfl) (fun g3597 h=>?_) (fun g3597 h=>?_)
  ·refine seq_np ?_
   refine reg_f ?_
   obtain ⟨r2540,hr2540,h⟩:=bind_sx h
   refine run_call 15 [iS 2,iS 0] (some 30) (by kernel_rfl) ?_
   refine call_0 (taskmillref_F_spec 2 0 r2540 hr2540) (by simp only [push_cast,seval]) (by simp only [push_cast,seval]) ?_
   refine back_f ?_
   refine rk 1 ?_
   refine rf [(2,.ptr 1 0)] [(0,.row 24 (Enc.cells s)),(1,.row 29 (Enc.cells r2540))] 2 (by kernel_rfl) ?_
   refine wk_id ?_
   obtain rfl:=Option.some.inj h
   refine ret_at (.agg (Enc.cells r2540)) (by kernel_rfl) ?_
   exact ret_e [] [] (by simp only [push_cast,seval]) (by simp only [push_cast,seval]) rfl rfl rfl
  ·refine wk_id ?_
   refine chk_sx h (fun g2544 h=>?_)
   refine seq_np ?_
   refine reg_f ?_
   have k2543:0≤s.Bits:=by first | simpa only [Bool.and_eq_true,decide_eq_true_eq,bne_iff_ne,ne_eq] using g2544 | (simp at g2544 ⊢; omega) | simp
   refine rs 4 [none,none,some ⟨iS (IntKind.i64.wrap ((1:Int) * 2 ^ (min (s.Bits).toNat (IntKind.i64).bits))),[],2,[]⟩] _ (by kernel_rfl) (allP_cons (ob_p (v:=iS (IntKind.i64.wrap ((1:Int) * 2 ^ (min (s.Bits).toNat (IntKind.i64).bits)))) (nx:=2) (r:=[]) k2543) allP_nil) ?_
   refine rf [(1,.ptr 0 0),(2,.ptr 1 0),(3,iS (IntKind.i64.wrap ((1:Int) * 2 ^ (min (s.Bits).toNat (IntKind.i64).bits))))] [(0,.row 24 (Enc.cells s)),(1,.row 29 [iS 0,iS 0])] 2 (by kernel_rfl) ?_
   refine wk_id ?_
   refine seq_np ?_
   refine seq_np ?_
   refine reg_f ?_
   refine rk 1 ?_
   refine rf [(1,.ptr 0 0),(2,.ptr 1 0),(3,iS (IntKind.i64.wrap ((1:Int) * 2 ^ (min (s.Bits).toNat (IntKind.i64).bits)))),(4,iS 0)] [(0,.row 24 (Enc.cells s)),(1,.row 29 [iS 0,iS 0])] 2 (by kernel_rfl) ?_
   refine wk_id ?_
   refine block_np ?_
   refine loop_sx (S:=Int) (fun a=>([(1,.ptr 0 0),(2,.ptr 1 0),(3,iS (IntKind.i64.wrap ((1:Int) * 2 ^ (min (s.Bits).toNat (IntKind.i64).bits)))),(4,iS a)],[(0,.row 24 (Enc.cells s)),(1,.row 29 [iS 0,iS 0])],2)) h (leSt_m [(0,0),(1,1)] [] (by simp only [push_cast,seval]) (by simp only [push_cast,seval]) rfl rfl rfl) ?_
   rintro k7 o5 R5 h hr5 hn5 hx5 ht5
   try dsimp only at h hn5 ⊢
   unfold taskmillref_SpaceFault_l4 at h
   try dsimp only at h
   refine seq_np ?_
   refine seq_np ?_
   refine reg_f ?_
   refine rk 2 ?_
   refine rf [(1,.ptr 0 0),(2,.ptr 1 0),(3,iS (IntKind.i64.wrap ((1:Int) * 2 ^ (min (s.Bits).toNat (IntKind.i64).bits)))),(4,iS k7),(35,bS (decide (k7 < 2)))] [(0,.row 24 (Enc.cells s)),(1,.row 29 [iS 0,iS 0])] 2 (by kernel_rfl) ?_
   refine wk_id ?_
   refine cond_sx h (by kernel_rfl) (fun g3596 h=>?_) (fun g3596 h=>?_)
   ·refine wk_id ?_
    refine seq_np ?_
    refine block_np ?_
    refine seq_np ?_
    refine reg_f ?_
    refine rk 3 ?_
    refine rf [(1,.ptr 0 0),(2,.ptr 1 0),(3,iS (IntKind.i64.wrap ((1:Int) * 2 ^ (min (s.Bits).toNat (IntKind.i64).bits)))),(4,iS k7),(5,.sl s.Used.length (fl s.Used))] [(0,.row 24 (Enc.cells s)),(1,.row 29 [iS 0,iS 0])] 2 (by kernel_rfl) ?_
    refine wk_id ?_
    refine seq_cut (A:=(List GBlock)) (fun a=>([(1,.ptr 0 0),(2,.ptr 1 0),(3,iS (IntKind.i64.wrap ((1:Int) * 2 ^ (min (s.Bits).toNat (IntKind.i64).bits)))),(4,iS k7),(5,.sl a.length (fl a))],[(0,.row 24 (Enc.cells s)),(1,.row 29 [iS 0,iS 0])],2)) (fun a=>(taskmillref_SpaceFault_j2 s k7 a) = some o5) (fun K3107 hK3107=>?_) ?_
    ·refine seq_np ?_
     refine reg_f ?_
     refine rk 2 ?_
     refine rf [(1,.ptr 0 0),(2,.ptr 1 0),(3,iS (IntKind.i64.wrap ((1:Int) * 2 ^ (min (s.Bits).toNat (IntKind.i64).bits)))),(4,iS k7),(5,.sl s.Used.length (fl s.Used)),(41,bS (k7 == 1))] [(0,.row 24 (Enc.cells s)),(1,.row 29 [iS 0,iS 0])] 2 (by kernel_rfl) ?_
     refine wk_id ?_
     refine cond_sx h (by kernel_rfl) (fun g3108 h=>?_) (fun g3108 h=>?_)
     ·refine reg_f ?_
      refine rk 3 ?_
      refine rf [(1,.ptr 0 0),(2,.ptr 1 0),(3,iS (IntKind.i64.wrap ((1:Int) * 2 ^ (min (s.Bits).toNat (IntKind.i64).bits)))),(4,iS k7),(5,.sl s.Free.length (fl s.Free))] [(0,.row 24 (Enc.cells s)),(1,.row 29 [iS 0,iS 0])] 2 (by kernel_rfl) ?_
      exact hK3107 (s.Free) _ _ _ h (leSt_m [(0,0),(1,1)] [] (by simp only [push_cast,seval]) (by simp only [push_cast,seval]) rfl rfl rfl)
     ·exact hK3107 (s.Used) _ _ _ h (leSt_m [(0,0),(1,1)] [] (by simp only [push_cast,seval]) (by simp only [push_cast,seval]) rfl rfl rfl)
    ·rintro l9 h
     try dsimp only at h ⊢
     unfold taskmillref_SpaceFault_j2 at h
     refine seq_np ?_
     refine reg_f ?_
     refine rk 1 ?_
     refine rf [(1,.ptr 0 0),(2,.ptr 1 0),(3,iS (IntKind.i64.wrap ((1:Int) * 2 ^ (min (s.Bits).toNat (IntKind.i64).bits)))),(4,iS k7),(5,.sl l9.length (fl l9)),(6,iS 0)] [(0,.row 24 (Enc.cells s)),(1,.row 29 [iS 0,iS 0])] 2 (by kernel_rfl) ?_
     refine wk_id ?_
     refine block_np ?_
     refine loop_sx (S:=Int) (fun a=>([(1,.ptr 0 0),(2,.ptr 1 0),(3,iS (IntKind.i64.wrap ((1:Int) * 2 ^ (min (s.Bits).toNat (IntKind.i64).bits)))),(4,iS k7),(5,.sl l9.length (fl l9)),(6,iS a)],[(0,.row 24 (Enc.cells s)),(1,.row 29 [iS 0,iS 0])],2)) h (leSt_m [(0,0),(1,1)] [] (by simp only [push_cast,seval]) (by simp only [push_cast,seval]) rfl rfl rfl) ?_
     rintro i31 o6 R6 h hr6 hn6 hx6 ht6
     try dsimp only at h hn6 ⊢
     unfold taskmillref_SpaceFault_l1 at h
     try dsimp only at h
     refine seq_np ?_
     refine seq_np ?_
     refine reg_f ?_
     refine rk 4 ?_
     refine rf [(1,.ptr 0 0),(2,.ptr 1 0),(3,iS (IntKind.i64.wrap ((1:Int) * 2 ^ (min (s.Bits).toNat (IntKind.i64).bits)))),(4,iS k7),(5,.sl l9.length (fl l9)),(6,iS i31),(47,bS (decide (i31 < (l9.length:Int))))] [(0,.row 24 (Enc.cells s)),(1,.row 29 [iS 0,iS 0])] 2 (by kernel_rfl) ?_
     refine wk_id ?_
     refine cond_sx h (by kernel_rfl) (fun g3277 h=>?_) (fun g3277 h=>?_)
     ·refine wk_id ?_
      refine seq_np ?_
      refine block_np ?_
      refine chk_sx h (fun g3236 h=>?_)
      refine seq_np ?_
      refine reg_f ?_
      have k3235:0≤i31∧i31 < (l9.length:Int):=by first | simpa only [Bool.and_eq_true,decide_eq_true_eq,bne_iff_ne,ne_eq] using g3236 | (simp at g3236 ⊢; omega) | simp
      refine rs 6 [none,none,some ⟨.iptr (fl l9) ((i31).toNat * 2),[],2,[]⟩,some ⟨.agg (Enc.cells (ix l9 i31)),[],2,[]⟩] _ (by kernel_rfl) (allP_cons (ob_ldw l9 i31 2 ((i31).toNat * 2) k3235 rfl (by first | rfl | omega) (Enc.cells (ix l9 i31)) rfl 2 []) (allP_cons (ob_ix_l l9 2 2 i31 k3235) allP_nil)) ?_
      refine rf [(1,.ptr 0 0),(2,.ptr 1 0),(3,iS (IntKind.i64.wrap ((1:Int) * 2 ^ (min (s.Bits).toNat (IntKind.i64).bits)))),(4,iS k7),(5,.sl l9.length (fl l9)),(6,iS i31),(7,.ptr 2 0)] [(0,.row 24 (Enc.cells s)),(1,.row 29 [iS 0,iS 0]),(2,.row 38 (Enc.cells (ix l9 i31)))] 3 (by kernel_rfl) ?_
      refine wk_id ?_
      refine seq_np ?_
      refine seq_cut (A:=Bool) (fun a=>([(1,.ptr 0 0),(2,.ptr 1 0),(3,iS (IntKind.i64.wrap ((1:Int) * 2 ^ (min (s.Bits).toNat (IntKind.i64).bits)))),(4,iS k7),(5,.sl l9.length (fl l9)),(6,iS i31),(7,.ptr 2 0),(85,bS a)],[(0,.row 24 (Enc.cells s)),(1,.row 29 [iS 0,iS 0]),(2,.row 38 (Enc.cells (ix l9 i31)))],3)) (fun a=>(taskmillref_SpaceFault_j1 s k7 l9 i31 a) = some o6) (fun K3256 hK3256=>?_) ?_
      ·refine reg_f ?_
       refine rk 2 ?_
       obtain ⟨r3257,hr3257,h⟩:=bind_sx h
       refine run_call 34 [iS (ix l9 i31).Size] (some 56) (by kernel_rfl) ?_
       refine call_0 (taskmillref_IsPower_spec (ix l9 i31).Size r3257 hr3257) (by simp only [push_cast,seval]) (by simp only [push_cast,seval]) ?_
       refine back_f ?_
       refine rk 2 ?_
       refine run_br h 58 (.inl (by kernel_rfl)) (fun g3258 h=>?_) (fun g3258 h=>?_)
       ·refine rk 27 ?_
        refine rf [(1,.ptr 0 0),(2,.ptr 1 0),(3,iS (IntKind.i64.wrap ((1:Int) * 2 ^ (min (s.Bits).toNat (IntKind.i64).bits)))),(4,iS k7),(5,.sl l9.length (fl l9)),(6,iS i31),(7,.ptr 2 0),(85,bS true)] [(0,.row 24 (Enc.cells s)),(1,.row 29 [iS 0,iS 0]),(2,.row 38 (Enc.cells (ix l9 i31)))] 3 (by kernel_rfl) ?_
        exact hK3256 (true) _ _ _ h (leSt_m [(0,0),(1,1),(2,2)] [] (by (try simp only [g3258]) <;> simp only [push_cast,seval]) (by (try simp only [g3258]) <;> simp only [push_cast,seval]) rfl rfl rfl)
       ·refine rk 5 ?_
        refine run_br h 63 (.inl (by kernel_rfl)) (fun g3259 h=>?_) (fun g3259 h=>?_)
        ·refine rn 10 [(1,.ptr 0 0),(2,.ptr 1 0),(3,iS (IntKind.i64.wrap ((1:Int) * 2 ^ (min (s.Bits).toNat (IntKind.i64).bits)))),(4,iS k7),(5,.sl l9.length (fl l9)),(6,iS i31),(7,.ptr 2 0),(63,bS true)] [(0,.row 24 (Enc.cells s)),(1,.row 29 [iS 0,iS 0]),(2,.row 38 (Enc.cells (ix l9 i31)))] 3 (by kernel_rfl) ?_
         refine rk 22 ?_
         refine rf [(1,.ptr 0 0),(2,.ptr 1 0),(3,iS (IntKind.i64.wrap ((1:Int) * 2 ^ (min (s.Bits).toNat (IntKind.i64).bits)))),(4,iS k7),(5,.sl l9.length (fl l9)),(6,iS i31),(7,.ptr 2 0),(85,bS true)] [(0,.row 24 (Enc.cells s)),(1,.row 29 [iS 0,iS 0]),(2,.row 38 (Enc.cells (ix l9 i31)))] 3 (by kernel_rfl) ?_
         exact hK3256 (true) _ _ _ h (leSt_m [(0,0),(1,1),(2,2)] [] (by first | ((try simp only [g3258,g3259]) <;> simp only [push_cast,seval]; done) | ((try simp only [g3258]); (try simp only [g3259]); simp only [push_cast,seval]; done) | (exfalso; clear h; simp_all; done)) (by first | ((try simp only [g3258,g3259]) <;> simp only [push_cast,seval]; done) | ((try simp only [g3258]); (try simp only [g3259]); simp only [push_cast,seval]; done) | (exfalso; clear h; simp_all; done)) rfl rfl rfl)
        ·refine rn 10 [(1,.ptr 0 0),(2,.ptr 1 0),(3,iS (IntKind.i64.wrap ((1:Int) * 2 ^ (min (s.Bits).toNat (IntKind.i64).bits)))),(4,iS k7),(5,.sl l9.length (fl l9)),(6,iS i31),(7,.ptr 2 0),(63,bS false)] [(0,.row 24 (Enc.cells s)),(1,.row 29 [iS 0,iS 0]),(2,.row 38 (Enc.cells (ix l9 i31)))] 3 (by kernel_rfl) ?_
         refine chk_sx h (fun g3261 h=>?_)
         have k3260:(ix l9 i31).Size≠0:=by first | simpa only [Bool.and_eq_true,decide_eq_true_eq,bne_iff_ne,ne_eq] using g3261 | (simp at g3261 ⊢; omega) | simp
         refine rs 8 [none,none,none,none,some ⟨iS (Int.tmod (ix l9 i31).Start (ix l9 i31).Size),[],3,[]⟩] _ (by kernel_rfl) (allP_cons (ob_p (v:=iS (Int.tmod (ix l9 i31).Start (ix l9 i31).Size)) (nx:=3) (r:=[]) k3260) allP_nil) ?_
         refine run_br h 71 (.inl (by kernel_rfl)) (fun g3262 h=>?_) (fun g3262 h=>?_)
         ·refine rk 14 ?_
          refine rf [(1,.ptr 0 0),(2,.ptr 1 0),(3,iS (IntKind.i64.wrap ((1:Int) * 2 ^ (min (s.Bits).toNat (IntKind.i64).bits)))),(4,iS k7),(5,.sl l9.length (fl l9)),(6,iS i31),(7,.ptr 2 0),(85,bS true)] [(0,.row 24 (Enc.cells s)),(1,.row 29 [iS 0,iS 0]),(2,.row 38 (Enc.cells (ix l9 i31)))] 3 (by kernel_rfl) ?_
          exact hK3256 (true) _ _ _ h (leSt_m [(0,0),(1,1),(2,2)] [] (by first | ((try simp only [g3258,g3259,g3262]) <;> simp only [push_cast,seval]; done) | ((try simp only [g3258]); (try simp only [g3259]); (try simp only [g3262]); simp only [push_cast,seval]; done) | (exfalso; clear h; simp_all; done)) (by first | ((try simp only [g3258,g3259,g3262]) <;> simp only [push_cast,seval]; done) | ((try simp only [g3258]); (try simp only [g3259]); (try simp only [g3262]); simp only [push_cast,seval]; done) | (exfalso; clear h; simp_all; done)) rfl rfl rfl)
         ·refine rk 6 ?_
          refine run_br h 77 (.inl (by kernel_rfl)) (fun g3263 h=>?_) (fun g3263 h=>?_)
          ·refine rk 8 ?_
           refine rf [(1,.ptr 0 0),(2,.ptr 1 0),(3,iS (IntKind.i64.wrap ((1:Int) * 2 ^ (min (s.Bits).toNat (IntKind.i64).bits)))),(4,iS k7),(5,.sl l9.length (fl l9)),(6,iS i31),(7,.ptr 2 0),(85,bS true)] [(0,.row 24 (Enc.cells s)),(1,.row 29 [iS 0,iS 0]),(2,.row 38 (Enc.cells (ix l9 i31)))] 3 (by kernel_rfl) ?_
           exact hK3256 (true) _ _ _ h (leSt_m [(0,0),(1,1),(2,2)] [] (by first | ((try simp only [g3258,g3259,g3262,g3263]) <;> simp only [push_cast,seval]; done) | ((try simp only [g3258]); (try simp only [g3259]); (try simp only [g3262]); (try simp only [g3263]); simp only [push_cast,seval]; done) | (exfalso; clear h; simp_all; done)) (by first | ((try simp only [g3258,g3259,g3262,g3263]) <;> simp only [push_cast,seval]; done) | ((try simp only [g3258]); (try simp only [g3259]); (try simp only [g3262]); (try simp only [g3263]); simp only [push_cast,seval]; done) | (exfalso; clear h; simp_all; done)) rfl rfl rfl)
          ·refine rk 8 ?_
           refine rf [(1,.ptr 0 0),(2,.ptr 1 0),(3,iS (IntKind.i64.wrap ((1:Int) * 2 ^ (min (s.Bits).toNat (IntKind.i64).bits)))),(4,iS k7),(5,.sl l9.length (fl l9)),(6,iS i31),(7,.ptr 2 0),(85,bS (decide ((IntKind.i64.wrap ((IntKind.i64.wrap ((1:Int) * 2 ^ (min (s.Bits).toNat (IntKind.i64).bits))) - (ix l9 i31).Size)) < (ix l9 i31).Start)))] [(0,.row 24 (Enc.cells s)),(1,.row 29 [iS 0,iS 0]),(2,.row 38 (Enc.cells (ix l9 i31)))] 3 (by kernel_rfl) ?_
           exact hK3256 ((decide ((IntKind.i64.wrap ((IntKind.i64.wrap ((1:Int) * 2 ^ (min (s.Bits).toNat (IntKind.i64).bits))) - (ix l9 i31).Size)) < (ix l9 i31).Start))) _ _ _ h (leSt_m [(0,0),(1,1),(2,2)] [] (by first | ((try simp only [g3258,g3259,g3262,g3263]) <;> simp only [push_cast,seval]; done) | ((try simp only [g3258]); (try simp only [g3259]); (try simp only [g3262]); (try simp only [g3263]); simp only [push_cast,seval]; done) | (exfalso; clear h; simp_all; done)) (by first | ((try simp only [g3258,g3259,g3262,g3263]) <;> simp only [push_cast,seval]; done) | ((try simp only [g3258]); (try simp only [g3259]); (try simp only [g3262]); (try simp only [g3263]); simp only [push_cast,seval]; done) | (exfalso; clear h; simp_all; done)) rfl rfl rfl)
      ·rintro t85q47 h
       try dsimp only at h ⊢
       unfold taskmillref_SpaceFault_j1 at h
       refine cond_sx h (by kernel_rfl) (fun g3276 h=>?_) (fun g3276 h=>?_)
       ·refine seq_np ?_
        refine reg_f ?_
        refine rk 1 ?_
        obtain ⟨r3265,hr3265,h⟩:=bind_sx h
        refine run_call 15 [iS 3,iS k7] (some 87) (by kernel_rfl) ?_
        refine call_0 (taskmillref_F_spec 3 k7 r3265 hr3265) (by simp only [push_cast,seval]) (by simp only [push_cast,seval]) ?_
        refine back_f ?_
        refine rk 1 ?_
        refine rf [(2,.ptr 1 0)] [(0,.row 24 (Enc.cells s)),(1,.row 29 (Enc.cells r3265)),(2,.row 38 (Enc.cells (ix l9 i31)))] 3 (by kernel_rfl) ?_
        refine wk_id ?_
        refine rt_cast ht6 ?_
        obtain ⟨r0,h,e0⟩:=map_sx h
        have e1:=hr6 r0 e0.symm
        subst r0
        refine rt_cast ht5 ?_
        obtain ⟨r0,h,e0⟩:=map_sx h
        have e1:=hr5 r0 e0.symm
        subst r0
        obtain rfl:=Option.some.inj h
        refine ret_at (.agg (Enc.cells r3265)) (by kernel_rfl) ?_
        exact ret_e [] [] (by simp only [push_cast,seval]) (by simp only [push_cast,seval]) rfl rfl rfl
       ·refine wk_id ?_
        refine chk_sx h (fun g3272 h=>?_)
        refine seq_cut (A:=Unit) (fun _=>([(1,.ptr 0 0),(2,.ptr 1 0),(3,iS (IntKind.i64.wrap ((1:Int) * 2 ^ (min (s.Bits).toNat (IntKind.i64).bits)))),(4,iS k7),(5,.sl l9.length (fl l9)),(6,iS i31),(100,bS ((decide ((0:Int) < i31)) && (decide ((ix l9 i31).Start≤(ix l9 (IntKind.i64.wrap (i31 - 1))).Start))))],[(0,.row 24 (Enc.cells s)),(1,.row 29 [iS 0,iS 0]),(2,.row 38 (Enc.cells (ix l9 i31)))],16)) (fun _=>True) (fun K3269 hK3269=>?_) (fun _ _=>?_)
        ·refine reg_t ?_
         refine rk 3 ?_
         refine run_split 90 (decide ((0:Int) < i31)) (.inl (by kernel_rfl)) (fun g3270=>?_) (fun g3270=>?_)
         ·have k3271:0≤(IntKind.i64.wrap (i31 - 1))∧(IntKind.i64.wrap (i31 - 1)) < (l9.length:Int):=by have e:=or_use g3272 (by first | ((try simp only [g3270]) <;> rfl) | ((try simp only [g3270]); rfl) | (exfalso; clear h; simp_all; done)); first | simpa only [Bool.and_eq_true,decide_eq_true_eq,bne_iff_ne,ne_eq] using e | (simp at e ⊢; omega)
          refine rs 10 [none,none,none,none,none,some ⟨.iptr (fl l9) (((IntKind.i64.wrap (i31 - 1))).toNat * 2),[],11,[]⟩,none,some ⟨iS (ix l9 (IntKind.i64.wrap (i31 - 1))).Start,[],13,[]⟩] _ (by kernel_rfl) (allP_cons (ob_ld l9 (IntKind.i64.wrap (i31 - 1)) 2 0 ((((IntKind.i64.wrap (i31 - 1))).toNat * 2)+0) k3271 rfl (by decide) (by first | rfl | omega) (dflS Try.prog 3) (iS (ix l9 (IntKind.i64.wrap (i31 - 1))).Start) rfl 13 []) (allP_cons (ob_ix_l l9 2 11 (IntKind.i64.wrap (i31 - 1)) k3271) allP_nil)) ?_
          refine rt [(1,.ptr 0 0),(2,.ptr 1 0),(3,iS (IntKind.i64.wrap ((1:Int) * 2 ^ (min (s.Bits).toNat (IntKind.i64).bits)))),(4,iS k7),(5,.sl l9.length (fl l9)),(6,iS i31),(100,bS (decide ((ix l9 i31).Start≤(ix l9 (IntKind.i64.wrap (i31 - 1))).Start)))] [(0,.row 24 (Enc.cells s)),(1,.row 29 [iS 0,iS 0]),(2,.row 38 (Enc.cells (ix l9 i31)))] 16 follows (by kernel_rfl) ?_
          exact hK3269 () _ _ _ trivial (leSt_m [(0,0),(1,1),(2,2)] [] (by (try simp only [g3270]) <;> simp only [push_cast,seval]) (by (try simp only [g3270]) <;> simp only [push_cast,seval]) rfl rfl rfl)
         ·refine rk 10 ?_
          refine rt [(1,.ptr 0 0),(2,.ptr 1 0),(3,iS (IntKind.i64.wrap ((1:Int) * 2 ^ (min (s.Bits).toNat (IntKind.i64).bits)))),(4,iS k7),(5,.sl l9.length (fl l9)),(6,iS i31),(100,bS false)] [(0,.row 24 (Enc.cells s)),(1,.row 29 [iS 0,iS 0]),(2,.row 38 (Enc.cells (ix l9 i31)))] 16 follows (by kernel_rfl) ?_
          exact hK3269 () _ _ _ trivial (leSt_m [(0,0),(1,1),(2,2)] [] (by (try simp only [g3270]) <;> simp only [push_cast,seval]) (by (try simp only [g3270]) <;> simp only [push_cast,seval]) rfl rfl rfl)
        ·dsimp only
         refine cond_sx h (by kernel_rfl) (fun g3275 h=>?_) (fun g3275 h=>?_)
         ·refine seq_np ?_
          refine reg_f ?_
          refine rk 1 ?_
          obtain ⟨r3274,hr3274,h⟩:=bind_sx h
          refine run_call 15 [iS 5,iS k7] (some 102) (by kernel_rfl) ?_
          refine call_0 (taskmillref_F_spec 5 k7 r3274 hr3274) (by simp only [push_cast,seval]) (by simp only [push_cast,seval]) ?_
          refine back_f ?_
          refine rk 1 ?_
          refine rf [(2,.ptr 1 0)] [(0,.row 24 (Enc.cells s)),(1,.row 29 (Enc.cells r3274)),(2,.row 38 (Enc.cells (ix l9 i31)))] 16 (by kernel_rfl) ?_
          refine wk_id ?_
          refine rt_cast ht6 ?_
          obtain ⟨r0,h,e0⟩:=map_sx h
          have e1:=hr6 r0 e0.symm
          subst r0
          refine rt_cast ht5 ?_
          obtain ⟨r0,h,e0⟩:=map_sx h
          have e1:=hr5 r0 e0.symm
          subst r0
          obtain rfl:=Option.some.inj h
          refine ret_at (.agg (Enc.cells r3274)) (by kernel_rfl) ?_
          exact ret_e [] [] (by simp only [push_cast,seval]) (by simp only [push_cast,seval]) rfl rfl rfl
         ·refine wk_id ?_
          refine wk_id ?_
          refine reg_f ?_
          refine rk 3 ?_
          refine rf [(1,.ptr 0 0),(2,.ptr 1 0),(3,iS (IntKind.i64.wrap ((1:Int) * 2 ^ (min (s.Bits).toNat (IntKind.i64).bits)))),(4,iS k7),(5,.sl l9.length (fl l9)),(6,iS (IntKind.i64.wrap (i31+1)))] [(0,.row 24 (Enc.cells s)),(1,.row 29 [iS 0,iS 0]),(2,.row 38 (Enc.cells (ix l9 i31)))] 16 (by kernel_rfl) ?_
          exact hn6 ((IntKind.i64.wrap (i31+1))) _ _ _ (Option.some.inj h).symm (leSt_m [(0,0),(1,1)] [] (by simp only [push_cast,seval]) (by simp only [push_cast,seval]) rfl rfl rfl)
     ·change R6 (.exit 2) _ _ _
      refine ex_cast hx6 (id:=2) ?_
      obtain ⟨r0,h,e0⟩:=map_sx h
      have e1:=hr6 r0 e0.symm
      subst r0
      refine wk_id ?_
      refine wk_id ?_
      refine wk_id ?_
      refine reg_f ?_
      refine rk 3 ?_
      refine rf [(1,.ptr 0 0),(2,.ptr 1 0),(3,iS (IntKind.i64.wrap ((1:Int) * 2 ^ (min (s.Bits).toNat (IntKind.i64).bits)))),(4,iS (IntKind.i64.wrap (k7+1)))] [(0,.row 24 (Enc.cells s)),(1,.row 29 [iS 0,iS 0])] 2 (by kernel_rfl) ?_
      exact hn5 ((IntKind.i64.wrap (k7+1))) _ _ _ (Option.some.inj h).symm (leSt_m [(0,0),(1,1)] [] (by simp only [push_cast,seval]) (by simp only [push_cast,seval]) rfl rfl rfl)
   ·change R5 (.exit 0) _ _ _
    refine ex_cast hx5 (id:=0) ?_
    obtain ⟨r0,h,e0⟩:=map_sx h
    have e1:=hr5 r0 e0.symm
    subst r0
    refine wk_id ?_
    refine wk_id ?_
    refine seq_np ?_
    refine reg_f ?_
    refine rk 3 ?_
    refine rf [(1,.ptr 0 0),(2,.ptr 1 0),(3,iS (IntKind.i64.wrap ((1:Int) * 2 ^ (min (s.Bits).toNat (IntKind.i64).bits)))),(8,iS 0),(9,iS 0),(10,iS 0)] [(0,.row 24 (Enc.cells s)),(1,.row 29 [iS 0,iS 0])] 2 (by kernel_rfl) ?_
    refine wk_id ?_
    refine seq_np ?_
    refine block_np ?_
    refine loop_sx (S:=Int×Int×Int) (fun a=>([(1,.ptr 0 0),(2,.ptr 1 0),(3,iS (IntKind.i64.wrap ((1:Int) * 2 ^ (min (s.Bits).toNat (IntKind.i64).bits)))),(8,iS a.1),(9,iS a.2.1),(10,iS a.2.2)],[(0,.row 24 (Enc.cells s)),(1,.row 29 [iS 0,iS 0])],2)) h (leSt_m [(0,0),(1,1)] [] (by simp only [push_cast,seval]) (by simp only [push_cast,seval]) rfl rfl rfl) ?_
    rintro ⟨xat18,u18,f18⟩ o7 R7 h hr7 hn7 hx7 ht7
    try dsimp only at h hn7 ⊢
    unfold taskmillref_SpaceFault_l3 at h
    try dsimp only at h
    refine seq_np ?_
    refine seq_cut (A:=Unit) (fun _=>([(1,.ptr 0 0),(2,.ptr 1 0),(3,iS (IntKind.i64.wrap ((1:Int) * 2 ^ (min (s.Bits).toNat (IntKind.i64).bits)))),(8,iS xat18),(9,iS u18),(10,iS f18),(114,bS ((decide (u18 < (s.Used.length:Int))) || (decide (f18 < (s.Free.length:Int)))))],[(0,.row 24 (Enc.cells s)),(1,.row 29 [iS 0,iS 0])],2)) (fun _=>True) (fun K3420 hK3420=>?_) (fun _ _=>?_)
    ·refine reg_f ?_
     refine rk 6 ?_
     refine run_split 108 (decide (u18 < (s.Used.length:Int))) (.inl (by kernel_rfl)) (fun g3421=>?_) (fun g3421=>?_)
     ·refine rk 6 ?_
      refine rf [(1,.ptr 0 0),(2,.ptr 1 0),(3,iS (IntKind.i64.wrap ((1:Int) * 2 ^ (min (s.Bits).toNat (IntKind.i64).bits)))),(8,iS xat18),(9,iS u18),(10,iS f18),(114,bS true)] [(0,.row 24 (Enc.cells s)),(1,.row 29 [iS 0,iS 0])] 2 (by kernel_rfl) ?_
      exact hK3420 () _ _ _ trivial (leSt_m [(0,0),(1,1)] [] (by (try simp only [g3421]) <;> simp only [push_cast,seval]) (by (try simp only [g3421]) <;> simp only [push_cast,seval]) rfl rfl rfl)
     ·refine rk 6 ?_
      refine rf [(1,.ptr 0 0),(2,.ptr 1 0),(3,iS (IntKind.i64.wrap ((1:Int) * 2 ^ (min (s.Bits).toNat (IntKind.i64).bits)))),(8,iS xat18),(9,iS u18),(10,iS f18),(114,bS (decide (f18 < (s.Free.length:Int))))] [(0,.row 24 (Enc.cells s)),(1,.row 29 [iS 0,iS 0])] 2 (by kernel_rfl) ?_
      exact hK3420 () _ _ _ trivial (leSt_m [(0,0),(1,1)] [] (by (try simp only [g3421]) <;> simp only [push_cast,seval]) (by (try simp only [g3421]) <;> simp only [push_cast,seval]) rfl rfl rfl)
    ·dsimp only
     refine cond_sx h (by kernel_rfl) (fun g3595 h=>?_) (fun g3595 h=>?_)
     ·refine wk_id ?_
      refine block_np ?_
      refine chk_sx h (fun g3428 h=>?_)
      refine seq_cut (A:=Unit) (fun _=>([(1,.ptr 0 0),(2,.ptr 1 0),(3,iS (IntKind.i64.wrap ((1:Int) * 2 ^ (min (s.Bits).toNat (IntKind.i64).bits)))),(8,iS xat18),(9,iS u18),(10,iS f18),(129,bS ((decide (u18 < (s.Used.length:Int))) && ((ix s.Used u18).Start == xat18)))],[(0,.row 24 (Enc.cells s)),(1,.row 29 [iS 0,iS 0])],2)) (fun _=>True) (fun K3425 hK3425=>?_) (fun _ _=>?_)
      ·refine reg_f ?_
       refine rk 6 ?_
       refine run_split 120 (decide (u18 < (s.Used.length:Int))) (.inl (by kernel_rfl)) (fun g3426=>?_) (fun g3426=>?_)
       ·have k3427:0≤u18∧u18 < (s.Used.length:Int):=by have e:=or_use g3428 (by first | ((try simp only [g3426]) <;> rfl) | ((try simp only [g3426]); rfl) | (exfalso; clear h; simp_all; done)); first | simpa only [Bool.and_eq_true,decide_eq_true_eq,bne_iff_ne,ne_eq] using e | (simp at e ⊢; omega)
        refine rs 9 [none,none,none,some ⟨.iptr (fl s.Used) ((u18).toNat * 2),[],2,[]⟩,none,some ⟨iS (ix s.Used u18).Start,[],2,[]⟩] _ (by kernel_rfl) (allP_cons (ob_ld s.Used u18 2 0 (((u18).toNat * 2)+0) k3427 rfl (by decide) (by first | rfl | omega) (dflS Try.prog 3) (iS (ix s.Used u18).Start) rfl 2 []) (allP_cons (ob_ix_l s.Used 2 2 u18 k3427) allP_nil)) ?_
        refine rf [(1,.ptr 0 0),(2,.ptr 1 0),(3,iS (IntKind.i64.wrap ((1:Int) * 2 ^ (min (s.Bits).toNat (IntKind.i64).bits)))),(8,iS xat18),(9,iS u18),(10,iS f18),(129,bS ((ix s.Used u18).Start == xat18))] [(0,.row 24 (Enc.cells s)),(1,.row 29 [iS 0,iS 0])] 2 (by kernel_rfl) ?_
        exact hK3425 () _ _ _ trivial (leSt_m [(0,0),(1,1)] [] (by (try simp only [g3426]) <;> simp only [push_cast,seval]) (by (try simp only [g3426]) <;> simp only [push_cast,seval]) rfl rfl rfl)
       ·refine rk 9 ?_
        refine rf [(1,.ptr 0 0),(2,.ptr 1 0),(3,iS (IntKind.i64.wrap ((1:Int) * 2 ^ (min (s.Bits).toNat (IntKind.i64).bits)))),(8,iS xat18),(9,iS u18),(10,iS f18),(129,bS false)] [(0,.row 24 (Enc.cells s)),(1,.row 29 [iS 0,iS 0])] 2 (by kernel_rfl) ?_
        exact hK3425 () _ _ _ trivial (leSt_m [(0,0),(1,1)] [] (by (try simp only [g3426]) <;> simp only [push_cast,seval]) (by (try simp only [g3426]) <;> simp only [push_cast,seval]) rfl rfl rfl)
      ·dsimp only
       refine cond_sx h (by kernel_rfl) (fun g3447 h=>?_) (fun g3447 h=>?_)
       ·refine chk_sx h (fun g3432 h=>?_)
        refine seq_np ?_
        refine reg_f ?_
        have k3431:0≤u18∧u18 < (s.Used.length:Int):=by first | simpa only [Bool.and_eq_true,decide_eq_true_eq,bne_iff_ne,ne_eq] using g3432 | (simp at g3432 ⊢; omega) | simp
        refine rs 9 [none,none,none,none,some ⟨.iptr (fl s.Used) ((u18).toNat * 2),[],2,[]⟩,none,some ⟨iS (ix s.Used u18).Size,[],2,[]⟩] _ (by kernel_rfl) (allP_cons (ob_ld s.Used u18 2 1 (((u18).toNat * 2)+1) k3431 rfl (by decide) (by first | rfl | omega) (dflS Try.prog 3) (iS (ix s.Used u18).Size) rfl 2 []) (allP_cons (ob_ix_l s.Used 2 2 u18 k3431) allP_nil)) ?_
        refine rf [(1,.ptr 0 0),(2,.ptr 1 0),(3,iS (IntKind.i64.wrap ((1:Int) * 2 ^ (min (s.Bits).toNat (IntKind.i64).bits)))),(8,iS (IntKind.i64.wrap (xat18+(ix s.Used u18).Size))),(9,iS u18),(10,iS f18)] [(0,.row 24 (Enc.cells s)),(1,.row 29 [iS 0,iS 0])] 2 (by kernel_rfl) ?_
        refine wk_id ?_
        refine reg_f ?_
        refine rk 3 ?_
        refine rf [(1,.ptr 0 0),(2,.ptr 1 0),(3,iS (IntKind.i64.wrap ((1:Int) * 2 ^ (min (s.Bits).toNat (IntKind.i64).bits)))),(8,iS (IntKind.i64.wrap (xat18+(ix s.Used u18).Size))),(9,iS (IntKind.i64.wrap (u18+1))),(10,iS f18)] [(0,.row 24 (Enc.cells s)),(1,.row 29 [iS 0,iS 0])] 2 (by kernel_rfl) ?_
        refine wk_id ?_
        exact hn7 ((IntKind.i64.wrap (xat18+(ix s.Used u18).Size)),(IntKind.i64.wrap (u18+1)),f18) _ _ _ (Option.some.inj h).symm (leSt_m [(0,0),(1,1)] [] (by simp only [push_cast,seval]) (by simp only [push_cast,seval]) rfl rfl rfl)
       ·refine chk_sx h (fun g3439 h=>?_)
        refine seq_cut (A:=Unit) (fun _=>([(1,.ptr 0 0),(2,.ptr 1 0),(3,iS (IntKind.i64.wrap ((1:Int) * 2 ^ (min (s.Bits).toNat (IntKind.i64).bits)))),(8,iS xat18),(9,iS u18),(10,iS f18),(154,bS ((decide (f18 < (s.Free.length:Int))) && ((ix s.Free f18).Start == xat18)))],[(0,.row 24 (Enc.cells s)),(1,.row 29 [iS 0,iS 0])],2)) (fun _=>True) (fun K3436 hK3436=>?_) (fun _ _=>?_)
        ·refine reg_f ?_
         refine rk 6 ?_
         refine run_split 145 (decide (f18 < (s.Free.length:Int))) (.inl (by kernel_rfl)) (fun g3437=>?_) (fun g3437=>?_)
         ·have k3438:0≤f18∧f18 < (s.Free.length:Int):=by have e:=or_use g3439 (by first | ((try simp only [g3437]) <;> rfl) | ((try simp only [g3437]); rfl) | (exfalso; clear h; simp_all; done)); first | simpa only [Bool.and_eq_true,decide_eq_true_eq,bne_iff_ne,ne_eq] using e | (simp at e ⊢; omega)
          refine rs 9 [none,none,none,some ⟨.iptr (fl s.Free) ((f18).toNat * 2),[],2,[]⟩,none,some ⟨iS (ix s.Free f18).Start,[],2,[]⟩] _ (by kernel_rfl) (allP_cons (ob_ld s.Free f18 2 0 (((f18).toNat * 2)+0) k3438 rfl (by decide) (by first | rfl | omega) (dflS Try.prog 3) (iS (ix s.Free f18).Start) rfl 2 []) (allP_cons (ob_ix_l s.Free 2 2 f18 k3438) allP_nil)) ?_
          refine rf [(1,.ptr 0 0),(2,.ptr 1 0),(3,iS (IntKind.i64.wrap ((1:Int) * 2 ^ (min (s.Bits).toNat (IntKind.i64).bits)))),(8,iS xat18),(9,iS u18),(10,iS f18),(154,bS ((ix s.Free f18).Start == xat18))] [(0,.row 24 (Enc.cells s)),(1,.row 29 [iS 0,iS 0])] 2 (by kernel_rfl) ?_
          exact hK3436 () _ _ _ trivial (leSt_m [(0,0),(1,1)] [] (by (try simp only [g3437]) <;> simp only [push_cast,seval]) (by (try simp only [g3437]) <;> simp only [push_cast,seval]) rfl rfl rfl)
         ·refine rk 9 ?_
          refine rf [(1,.ptr 0 0),(2,.ptr 1 0),(3,iS (IntKind.i64.wrap ((1:Int) * 2 ^ (min (s.Bits).toNat (IntKind.i64).bits)))),(8,iS xat18),(9,iS u18),(10,iS f18),(154,bS false)] [(0,.row 24 (Enc.cells s)),(1,.row 29 [iS 0,iS 0])] 2 (by kernel_rfl) ?_
          exact hK3436 () _ _ _ trivial (leSt_m [(0,0),(1,1)] [] (by (try simp only [g3437]) <;> simp only [push_cast,seval]) (by (try simp only [g3437]) <;> simp only [push_cast,seval]) rfl rfl rfl)
        ·dsimp only
         refine cond_sx h (by kernel_rfl) (fun g3446 h=>?_) (fun g3446 h=>?_)
         ·refine chk_sx h (fun g3443 h=>?_)
          refine seq_np ?_
          refine reg_f ?_
          have k3442:0≤f18∧f18 < (s.Free.length:Int):=by first | simpa only [Bool.and_eq_true,decide_eq_true_eq,bne_iff_ne,ne_eq] using g3443 | (simp at g3443 ⊢; omega) | simp
          refine rs 9 [none,none,none,none,some ⟨.iptr (fl s.Free) ((f18).toNat * 2),[],2,[]⟩,none,some ⟨iS (ix s.Free f18).Size,[],2,[]⟩] _ (by kernel_rfl) (allP_cons (ob_ld s.Free f18 2 1 (((f18).toNat * 2)+1) k3442 rfl (by decide) (by first | rfl | omega) (dflS Try.prog 3) (iS (ix s.Free f18).Size) rfl 2 []) (allP_cons (ob_ix_l s.Free 2 2 f18 k3442) allP_nil)) ?_
          refine rf [(1,.ptr 0 0),(2,.ptr 1 0),(3,iS (IntKind.i64.wrap ((1:Int) * 2 ^ (min (s.Bits).toNat (IntKind.i64).bits)))),(8,iS (IntKind.i64.wrap (xat18+(ix s.Free f18).Size))),(9,iS u18),(10,iS f18)] [(0,.row 24 (Enc.cells s)),(1,.row 29 [iS 0,iS 0])] 2 (by kernel_rfl) ?_
          refine wk_id ?_
          refine reg_f ?_
          refine rk 3 ?_
          refine rf [(1,.ptr 0 0),(2,.ptr 1 0),(3,iS (IntKind.i64.wrap ((1:Int) * 2 ^ (min (s.Bits).toNat (IntKind.i64).bits)))),(8,iS (IntKind.i64.wrap (xat18+(ix s.Free f18).Size))),(9,iS u18),(10,iS (IntKind.i64.wrap (f18+1)))] [(0,.row 24 (Enc.cells s)),(1,.row 29 [iS 0,iS 0])] 2 (by kernel_rfl) ?_
          refine wk_id ?_
          exact hn7 ((IntKind.i64.wrap (xat18+(ix s.Free f18).Size)),u18,(IntKind.i64.wrap (f18+1))) _ _ _ (Option.some.inj h).symm (leSt_m [(0,0),(1,1)] [] (by simp only [push_cast,seval]) (by simp only [push_cast,seval]) rfl rfl rfl)
         ·refine seq_np ?_
          refine reg_f ?_
          obtain ⟨r3445,hr3445,h⟩:=bind_sx h
          refine run_call 15 [iS 8,iS 0] (some 165) (by kernel_rfl) ?_
          refine call_0 (taskmillref_F_spec 8 0 r3445 hr3445) (by simp only [push_cast,seval]) (by simp only [push_cast,seval]) ?_
          refine back_f ?_
          refine rk 1 ?_
          refine rf [(2,.ptr 1 0)] [(0,.row 24 (Enc.cells s)),(1,.row 29 (Enc.cells r3445))] 2 (by kernel_rfl) ?_
          refine wk_id ?_
          refine rt_cast ht7 ?_
          obtain ⟨r0,h,e0⟩:=map_sx h
          have e1:=hr7 r0 e0.symm
          subst r0
          obtain rfl:=Option.some.inj h
          refine ret_at (.agg (Enc.cells r3445)) (by kernel_rfl) ?_
          exact ret_e [] [] (by simp only [push_cast,seval]) (by simp only [push_cast,seval]) rfl rfl rfl
     ·change R7 (.exit 4) _ _ _
      refine ex_cast hx7 (id:=4) ?_
      obtain ⟨r0,h,e0⟩:=map_sx h
      have e1:=hr7 r0 e0.symm
      subst r0
      refine wk_id ?_
      refine wk_id ?_
      refine seq_np ?_
      refine seq_np ?_
      refine reg_f ?_
      refine rk 3 ?_
      refine rf [(1,.ptr 0 0),(2,.ptr 1 0),(3,iS (IntKind.i64.wrap ((1:Int) * 2 ^ (min (s.Bits).toNat (IntKind.i64).bits)))),(168,bS (xat18 != (IntKind.i64.wrap ((1:Int) * 2 ^ (min (s.Bits).toNat (IntKind.i64).bits)))))] [(0,.row 24 (Enc.cells s)),(1,.row 29 [iS 0,iS 0])] 2 (by kernel_rfl) ?_
      refine wk_id ?_
      refine cond_sx h (by kernel_rfl) (fun g3594 h=>?_) (fun g3594 h=>?_)
      ·refine seq_np ?_
       refine reg_f ?_
       obtain ⟨r3451,hr3451,h⟩:=bind_sx h
       refine run_call 15 [iS 8,iS 0] (some 169) (by kernel_rfl) ?_
       refine call_0 (taskmillref_F_spec 8 0 r3451 hr3451) (by simp only [push_cast,seval]) (by simp only [push_cast,seval]) ?_
       refine back_f ?_
       refine rk 1 ?_
       refine rf [(2,.ptr 1 0)] [(0,.row 24 (Enc.cells s)),(1,.row 29 (Enc.cells r3451))] 2 (by kernel_rfl) ?_
       refine wk_id ?_
       obtain rfl:=Option.some.inj h
       refine ret_at (.agg (Enc.cells r3451)) (by kernel_rfl) ?_
       exact ret_e [] [] (by simp only [push_cast,seval]) (by simp only [push_cast,seval]) rfl rfl rfl
      ·refine wk_id ?_
       refine seq_np ?_
       refine seq_np ?_
       refine reg_f ?_
       refine rk 1 ?_
       refine rf [(1,.ptr 0 0),(2,.ptr 1 0),(3,iS (IntKind.i64.wrap ((1:Int) * 2 ^ (min (s.Bits).toNat (IntKind.i64).bits)))),(11,iS 0)] [(0,.row 24 (Enc.cells s)),(1,.row 29 [iS 0,iS 0])] 2 (by kernel_rfl) ?_
       refine wk_id ?_
       refine block_np ?_
       refine loop_sx (S:=Int) (fun a=>([(1,.ptr 0 0),(2,.ptr 1 0),(3,iS (IntKind.i64.wrap ((1:Int) * 2 ^ (min (s.Bits).toNat (IntKind.i64).bits)))),(11,iS a)],[(0,.row 24 (Enc.cells s)),(1,.row 29 [iS 0,iS 0])],2)) h (leSt_m [(0,0),(1,1)] [] (by simp only [push_cast,seval]) (by simp only [push_cast,seval]) rfl rfl rfl) ?_
       rintro i37 o8 R8 h hr8 hn8 hx8 ht8
       try dsimp only at h hn8 ⊢
       unfold taskmillref_SpaceFault_l2 at h
       try dsimp only at h
       refine seq_np ?_
       refine seq_np ?_
       refine reg_f ?_
       refine rk 5 ?_
       refine rf [(1,.ptr 0 0),(2,.ptr 1 0),(3,iS (IntKind.i64.wrap ((1:Int) * 2 ^ (min (s.Bits).toNat (IntKind.i64).bits)))),(11,iS i37),(174,bS (decide (i37 < (s.Free.length:Int))))] [(0,.row 24 (Enc.cells s)),(1,.row 29 [iS 0,iS 0])] 2 (by kernel_rfl) ?_
       refine wk_id ?_
       refine cond_sx h (by kernel_rfl) (fun g3593 h=>?_) (fun g3593 h=>?_)
       ·refine wk_id ?_
        refine seq_np ?_
        refine block_np ?_
        refine chk_sx h (fun g3584 h=>?_)
        refine seq_cut (A:=Bool) (fun a=>([(1,.ptr 0 0),(2,.ptr 1 0),(3,iS (IntKind.i64.wrap ((1:Int) * 2 ^ (min (s.Bits).toNat (IntKind.i64).bits)))),(11,iS i37),(196,bS a)],[(0,.row 24 (Enc.cells s)),(1,.row 29 [iS 0,iS 0])],2)) (fun a=>(taskmillref_SpaceFault_j3 s i37 a) = some o8) (fun K3582 hK3582=>?_) ?_
        ·refine reg_t ?_
         have k3583:0≤i37∧i37 < (s.Free.length:Int):=by first | simpa only [Bool.and_eq_true,decide_eq_true_eq,bne_iff_ne,ne_eq] using g3584 | (simp at g3584 ⊢; omega) | simp
         refine rs 9 [none,none,none,some ⟨.iptr (fl s.Free) ((i37).toNat * 2),[],5,[]⟩,none,some ⟨iS (ix s.Free i37).Size,[],7,[]⟩] _ (by kernel_rfl) (allP_cons (ob_ld s.Free i37 2 1 (((i37).toNat * 2)+1) k3583 rfl (by decide) (by first | rfl | omega) (dflS Try.prog 3) (iS (ix s.Free i37).Size) rfl 7 []) (allP_cons (ob_ix_l s.Free 2 5 i37 k3583) allP_nil)) ?_
         refine run_br h 185 (.inl (by kernel_rfl)) (fun g3585 h=>?_) (fun g3585 h=>?_)
         ·refine chk_sx h (fun g3587 h=>?_)
          have k3586:0≤i37∧i37 < (s.Free.length:Int):=by first | simpa only [Bool.and_eq_true,decide_eq_true_eq,bne_iff_ne,ne_eq] using g3587 | (simp at g3587 ⊢; omega) | simp
          refine rs 7 [none,none,none,none,none,some ⟨.iptr (fl s.Free) ((i37).toNat * 2),[],16,[]⟩,some ⟨.agg (Enc.cells (ix s.Free i37)),[],17,[]⟩] _ (by kernel_rfl) (allP_cons (ob_ldw s.Free i37 2 ((i37).toNat * 2) k3586 rfl (by first | rfl | omega) (Enc.cells (ix s.Free i37)) rfl 17 []) (allP_cons (ob_ix_l s.Free 2 16 i37 k3586) allP_nil)) ?_
          obtain ⟨r3588,hr3588,h⟩:=bind_sx h
          refine run_call 36 [.agg (Enc.cells (ix s.Free i37))] (some 193) (by kernel_rfl) ?_
          refine callE_0 (taskmillref_MateOf_spec (ix s.Free i37) r3588 hr3588) (by simp only [push_cast,seval]) (by simp only [push_cast,seval]) ?_
          refine back_t ?_
          obtain ⟨r3589,hr3589,h⟩:=bind_sx h
          refine run_call 35 [.sl s.Free.length (fl s.Free),.agg (Enc.cells r3588)] (some 194) (by kernel_rfl) ?_
          refine callE_0 (taskmillref_FindBlock_spec s.Free r3588 r3589 hr3589) (by simp only [push_cast,seval]) (by simp only [push_cast,seval]) ?_
          refine back_t ?_
          refine rk 2 ?_
          refine rt [(1,.ptr 0 0),(2,.ptr 1 0),(3,iS (IntKind.i64.wrap ((1:Int) * 2 ^ (min (s.Bits).toNat (IntKind.i64).bits)))),(11,iS i37),(196,bS (decide ((0:Int)≤r3589)))] [(0,.row 24 (Enc.cells s)),(1,.row 29 [iS 0,iS 0])] 22 follows (by kernel_rfl) ?_
          exact hK3582 ((decide ((0:Int)≤r3589))) _ _ _ h (leSt_m [(0,0),(1,1)] [] (by (try simp only [g3585]) <;> simp only [push_cast,seval]) (by (try simp only [g3585]) <;> simp only [push_cast,seval]) rfl rfl rfl)
         ·refine rk 11 ?_
          refine rt [(1,.ptr 0 0),(2,.ptr 1 0),(3,iS (IntKind.i64.wrap ((1:Int) * 2 ^ (min (s.Bits).toNat (IntKind.i64).bits)))),(11,iS i37),(196,bS false)] [(0,.row 24 (Enc.cells s)),(1,.row 29 [iS 0,iS 0])] 22 follows (by kernel_rfl) ?_
          exact hK3582 (false) _ _ _ h (leSt_m [(0,0),(1,1)] [] (by (try simp only [g3585]) <;> simp only [push_cast,seval]) (by (try simp only [g3585]) <;> simp only [push_cast,seval]) rfl rfl rfl)
        ·rintro t196q13 h
         try dsimp only at h ⊢
         unfold taskmillref_SpaceFault_j3 at h
         refine cond_sx h (by kernel_rfl) (fun g3592 h=>?_) (fun g3592 h=>?_)
         ·refine seq_np ?_
          refine reg_f ?_
          obtain ⟨r3591,hr3591,h⟩:=bind_sx h
          refine run_call 15 [iS 11,iS 0] (some 197) (by kernel_rfl) ?_
          refine call_0 (taskmillref_F_spec 11 0 r3591 hr3591) (by simp only [push_cast,seval]) (by simp only [push_cast,seval]) ?_
          refine back_f ?_
          refine rk 1 ?_
          refine rf [(2,.ptr 1 0)] [(0,.row 24 (Enc.cells s)),(1,.row 29 (Enc.cells r3591))] 2 (by kernel_rfl) ?_
          refine wk_id ?_
          refine rt_cast ht8 ?_
          obtain ⟨r0,h,e0⟩:=map_sx h
          have e1:=hr8 r0 e0.symm
          subst r0
          obtain rfl:=Option.some.inj h
          refine ret_at (.agg (Enc.cells r3591)) (by kernel_rfl) ?_
          exact ret_e [] [] (by simp only [push_cast,seval]) (by simp only [push_cast,seval]) rfl rfl rfl
         ·refine wk_id ?_
          refine wk_id ?_
          refine reg_f ?_
          refine rk 3 ?_
          refine rf [(1,.ptr 0 0),(2,.ptr 1 0),(3,iS (IntKind.i64.wrap ((1:Int) * 2 ^ (min (s.Bits).toNat (IntKind.i64).bits)))),(11,iS (IntKind.i64.wrap (i37+1)))] [(0,.row 24 (Enc.cells s)),(1,.row 29 [iS 0,iS 0])] 2 (by kernel_rfl) ?_
          exact hn8 ((IntKind.i64.wrap (i37+1))) _ _ _ (Option.some.inj h).symm (leSt_m [(0,0),(1,1)] [] (by simp only [push_cast,seval]) (by simp only [push_cast,seval]) rfl rfl rfl)
       ·change R8 (.exit 6) _ _ _
        refine ex_cast hx8 (id:=6) ?_
        obtain ⟨r0,h,e0⟩:=map_sx h
        have e1:=hr8 r0 e0.symm
        subst r0
        refine wk_id ?_
        refine wk_id ?_
        refine seq_np ?_
        refine reg_f ?_
        refine rk 2 ?_
        refine rf [(2,.ptr 1 0)] [(0,.row 24 (Enc.cells s)),(1,.row 29 [iS 0,iS 0])] 2 (by kernel_rfl) ?_
        refine wk_id ?_
        obtain rfl:=Option.some.inj h
        refine ret_at (.agg [iS 0,iS 0]) (by kernel_rfl) ?_
        exact ret_e [] [] (by simp only [push_cast,seval]) (by simp only [push_cast,seval]) rfl rfl rfl

set_option maxRecDepth 100000 in
set_option maxHeartbeats 200000000 in
theorem taskmillref_SameSpace_spec (xa:Space) (b:Space) (r:Bool) (h:taskmillref_SameSpace xa b = some r):SpecW Try.prog 14 [.agg (Enc.cells xa),.agg (Enc.cells b)] [] 0 (fun x h n=>x = bS r∧h = []∧n = 0):=by
 unfold taskmillref_SameSpace at h
 refine spec_of (draw_ok _) Try.func14 rfl (by decide) rfl (by kernel_rfl) ?_
 refine seq_np ?_
 refine reg_f ?_
 refine rk 3 ?_
 refine rf [(2,.ptr 0 0),(3,.ptr 1 0)] [(0,.row 24 (Enc.cells xa)),(1,.row 24 (Enc.cells b))] 2 (by kernel_rfl) ?_
 refine wk_id ?_
 refine seq_cut (A:=Bool) (fun a=>([(4,bS a)],[],0)) (fun a=>(taskmillref_SameSpace_j1 a) = some r) (fun K3611 hK3611=>?_) ?_
 ·refine reg_f ?_
  refine rk 6 ?_
  refine run_br h 10 (.inl (by kernel_rfl)) (fun g3612 h=>?_) (fun g3612 h=>?_)
  ·refine rk 4 ?_
   obtain ⟨r3613,hr3613,h⟩:=bind_sx h
   refine run_call 19 [.sl xa.Used.length (fl xa.Used),.sl b.Used.length (fl b.Used)] (some 15) (by kernel_rfl) ?_
   refine call_0 (taskmillref_SameBlocks_spec xa.Used b.Used r3613 hr3613) (by simp only [push_cast,seval]) (by simp only [push_cast,seval]) ?_
   refine back_f ?_
   refine rk 2 ?_
   refine run_br h 17 (.inl (by kernel_rfl)) (fun g3614 h=>?_) (fun g3614 h=>?_)
   ·refine rn 13 [(2,.ptr 0 0),(3,.ptr 1 0),(17,bS true)] [(0,.row 24 (Enc.cells xa)),(1,.row 24 (Enc.cells b))] 2 (by kernel_rfl) ?_
    refine rk 4 ?_
    obtain ⟨r3615,hr3615,h⟩:=bind_sx h
    refine run_call 19 [.sl xa.Free.length (fl xa.Free),.sl b.Free.length (fl b.Free)] (some 22) (by kernel_rfl) ?_
    refine call_0 (taskmillref_SameBlocks_spec xa.Free b.Free r3615 hr3615) (by simp only [push_cast,seval]) (by simp only [push_cast,seval]) ?_
    refine back_f ?_
    refine rk 2 ?_
    refine rf [(4,bS r3615)] [(0,.row 24 (Enc.cells xa)),(1,.row 24 (Enc.cells b))] 2 (by kernel_rfl) ?_
    exact hK3611 (r3615) _ _ _ h (leSt_m [] [] (by first | ((try simp only [g3612,g3614]) <;> simp only [push_cast,seval]; done) | ((try simp only [g3612]); (try simp only [g3614]); simp only [push_cast,seval]; done) | (exfalso; clear h; simp_all; done)) (by first | ((try simp only [g3612,g3614]) <;> simp only [push_cast,seval]; done) | ((try simp only [g3612]); (try simp only [g3614]); simp only [push_cast,seval]; done) | (exfalso; clear h; simp_all; done)) rfl rfl rfl)
   ·refine rn 13 [(2,.ptr 0 0),(3,.ptr 1 0),(17,bS false)] [(0,.row 24 (Enc.cells xa)),(1,.row 24 (Enc.cells b))] 2 (by kernel_rfl) ?_
    refine rk 7 ?_
    refine rf [(4,bS false)] [(0,.row 24 (Enc.cells xa)),(1,.row 24 (Enc.cells b))] 2 (by kernel_rfl) ?_
    exact hK3611 (false) _ _ _ h (leSt_m [] [] (by first | ((try simp only [g3612,g3614]) <;> simp only [push_cast,seval]; done) | ((try simp only [g3612]); (try simp only [g3614]); simp only [push_cast,seval]; done) | (exfalso; clear h; simp_all; done)) (by first | ((try simp only [g3612,g3614]) <;> simp only [push_cast,seval]; done) | ((try simp only [g3612]); (try simp only [g3614]); simp only [push_cast,seval]; done) | (exfalso; clear h; simp_all; done)) rfl rfl rfl)
  ·refine rk 14 ?_
   refine rf [(4,bS false)] [(0,.row 24 (Enc.cells xa)),(1,.row 24 (Enc.cells b))] 2 (by kernel_rfl) ?_
   exact hK3611 (false) _ _ _ h (leSt_m [] [] (by (try simp only [g3612]) <;> simp only [push_cast,seval]) (by (try simp only [g3612]) <;> simp only [push_cast,seval]) rfl rfl rfl)
 ·rintro t4q1 h
  try dsimp only at h ⊢
  unfold taskmillref_SameSpace_j1 at h
  obtain rfl:=Option.some.inj h
  refine ret_at (bS t4q1) (by kernel_rfl) ?_
  exact ret_e [] [] (by simp only [push_cast,seval]) (by simp only [push_cast,seval]) rfl rfl rfl

end Go.Proofs.Ytpeaimfdeonpgaa
