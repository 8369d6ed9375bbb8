/-
 What laws of the chapter dict compute, and lemmas on it.
 No conditions.
-/
import Derived.Test.YticigkhhhmiglaaProg
import Derived.Test.YticigkhhhmiglaadictG
set_option linter.unusedSimpArgs false
set_option linter.unusedVariables false
namespace Go.Proofs.Yticigkhhhmiglaa
open Go Go.Sx
attribute [local irreducible] Wk RunAt
theorem follows:Try.prog.follows .mixedOrders = true:=by kernel_rfl
set_option maxRecDepth 100000 in
set_option maxHeartbeats 200000000 in
theorem dict_New_spec (r:Int × (List Int) × (List Bucket)) (h:dict_New = some r):SpecW Try.prog 9 [] [] 0 (fun x h n=>x = .agg [iS r.1,.own 0 0 r.2.1.length,.own 1 0 r.2.2.length]∧h = [(0,.row 3 (fl r.2.1)),(1,.row 43 (fl r.2.2))]∧n = 2):=by
 unfold dict_New at h
 refine spec_of (draw_ok _) Try.func9 rfl (by decide) rfl (by kernel_rfl) ?_
 refine seq_np ?_
 refine reg_f ?_
 refine rs 1 [] [] (by kernel_rfl) allP_nil ?_
 refine rf [(0,.ptr 0 0)] [(0,.row 26 [iS 0,.v (.slice none 0 0),.v (.slice none 0 0)])] 1 (by kernel_rfl) ?_
 refine wk_id ?_
 refine seq_np ?_
 refine reg_f ?_
 refine rs 2 [] [] (by kernel_rfl) allP_nil ?_
 refine run_nilF (some 3) 1 43 [iS 0,.v (.slice none 0 0)] (fl ([(Bucket.mk 0 [])]:List Bucket)) (by kernel_rfl) rfl rfl ?_
 refine rs 2 [] [] (by kernel_rfl) allP_nil ?_
 refine rf [(0,.ptr 0 0)] [(0,.row 26 [iS 0,.own 1 0 ([0]:List Int).length,.own 2 0 ([(Bucket.mk 0 [])]:List Bucket).length]),(1,.row 3 (fl ([0]:List Int))),(2,.row 43 (fl ([(Bucket.mk 0 [])]:List Bucket)))] 3 (by kernel_rfl) ?_
 refine wk_id ?_
 obtain rfl:=Option.some.inj h
 refine ret_at (.agg [iS 0,.own 1 0 ([0]:List Int).length,.own 2 0 ([(Bucket.mk 0 [])]:List Bucket).length]) (by kernel_rfl) ?_
 exact ret_e [(0,1),(1,2)] [] (by simp only [push_cast,seval]) (by simp only [push_cast,seval]) rfl rfl rfl

set_option maxRecDepth 100000 in
set_option maxHeartbeats 200000000 in
theorem dict_fault_spec (code:Int) (xat:Int) (r:Fault) (h:dict_fault code xat = some r):SpecW Try.prog 29 [iS code,iS xat] [] 0 (fun x h n=>x = .agg (Enc.cells r)∧h = []∧n = 0):=by
 unfold dict_fault at h
 refine spec_of (draw_ok _) Try.func29 rfl (by decide) rfl (by kernel_rfl) ?_
 refine seq_np ?_
 refine reg_f ?_
 refine rs 1 [] [] (by kernel_rfl) allP_nil ?_
 refine rf [(0,iS code),(1,iS xat),(4,.ptr 0 0)] [(0,.row 29 [iS 0,iS 0])] 1 (by kernel_rfl) ?_
 refine wk_id ?_
 refine seq_np ?_
 refine reg_f ?_
 refine rs 4 [] [] (by kernel_rfl) allP_nil ?_
 refine rf [(4,.ptr 0 0)] [(0,.row 29 [iS code,iS xat])] 1 (by kernel_rfl) ?_
 refine wk_id ?_
 obtain rfl:=Option.some.inj h
 refine ret_at (.agg [iS code,iS xat]) (by kernel_rfl) ?_
 exact ret_e [] [] (by simp only [push_cast,seval]) (by simp only [push_cast,seval]) rfl rfl rfl

set_option maxRecDepth 100000 in
set_option maxHeartbeats 200000000 in
theorem slices_Index_int_spec (s:(List Int)) (v:Int) (r:Int) (h:slices_Index_int s v = some r):SpecW Try.prog 38 [.sl s.length (fl s),iS v] [] 0 (fun x h n=>x = iS r∧h = []∧n = 0):=by
 unfold slices_Index_int at h
 refine spec_of (draw_ok _) Try.func38 rfl (by decide) rfl (by kernel_rfl) ?_
 refine seq_np ?_
 refine reg_f ?_
 refine rs 1 [] [] (by kernel_rfl) allP_nil ?_
 refine rf [(0,.sl s.length (fl s)),(1,iS v)] [] 0 (by kernel_rfl) ?_
 refine wk_id ?_
 refine seq_np ?_
 refine seq_np ?_
 refine reg_f ?_
 refine rs 3 [] [] (by kernel_rfl) allP_nil ?_
 refine rf [(0,.sl s.length (fl s)),(1,iS v),(7,iS ((s.length:Nat):Int)),(8,iS 0)] [] 0 (by kernel_rfl) ?_
 refine wk_id ?_
 refine block_np ?_
 refine loop_sx (S:=Int) (fun a=>([(0,.sl s.length (fl s)),(1,iS v),(7,iS ((s.length:Nat):Int)),(8,iS a)],[],0)) h (leSt_m [] [] (by simp only [push_cast,seval]) (by simp only [push_cast,seval]) rfl rfl rfl) ?_
 rintro t8q7 o2 R2 h hr2 hn2 hx2 ht2
 try dsimp only at h hn2 ⊢
 unfold slices_Index_int_l1 at h
 try dsimp only at h
 refine seq_np ?_
 refine reg_f ?_
 refine rs 1 [] [] (by kernel_rfl) allP_nil ?_
 refine rf [(0,.sl s.length (fl s)),(1,iS v),(7,iS ((s.length:Nat):Int)),(8,iS t8q7),(9,bS (decide (t8q7 < ((s.length:Nat):Int))))] [] 0 (by kernel_rfl) ?_
 refine wk_id ?_
 refine seq_np ?_
 refine cond_sx h (by kernel_rfl) (fun g108 h=>?_) (fun g108 h=>?_)
 ·refine wk_id ?_
  refine seq_np ?_
  refine block_np ?_
  refine seq_np ?_
  refine reg_f ?_
  refine rs 2 [] [] (by kernel_rfl) allP_nil ?_
  refine rf [(0,.sl s.length (fl s)),(1,iS v),(5,iS t8q7),(7,iS ((s.length:Nat):Int)),(8,iS t8q7)] [] 0 (by kernel_rfl) ?_
  refine wk_id ?_
  refine chk_sx h (fun g106 h=>?_)
  refine seq_np ?_
  refine reg_f ?_
  have k105:0≤t8q7∧t8q7 < ((s.length:Nat):Int):=by first | simpa only [Bool.and_eq_true,decide_eq_true_eq,bne_iff_ne,ne_eq] using g106 | (simp at g106 ⊢; omega)
  refine rs 6 [none,none,none,some ⟨.iptr (fl s) ((t8q7).toNat * 1),[],0,[]⟩,some ⟨iS (ix s t8q7),[],0,[]⟩] _ (by kernel_rfl) (allP_cons (ob_ld s t8q7 1 0 ((t8q7).toNat * 1) k105 rfl (by decide) (by first | rfl | omega) (dflS Try.prog 3) (iS (ix s t8q7)) rfl 0 []) (allP_cons (ob_ix_l s 1 0 t8q7 k105) allP_nil)) ?_
  refine rf [(0,.sl s.length (fl s)),(1,iS v),(5,iS t8q7),(7,iS ((s.length:Nat):Int)),(8,iS t8q7),(16,bS (v == (ix s t8q7)))] [] 0 (by kernel_rfl) ?_
  refine wk_id ?_
  refine cond_sx h (by kernel_rfl) (fun g107 h=>?_) (fun g107 h=>?_)
  ·refine seq_np ?_
   refine reg_f ?_
   refine rs 2 [] [] (by kernel_rfl) allP_nil ?_
   refine rf [(4,iS t8q7)] [] 0 (by kernel_rfl) ?_
   refine wk_id ?_
   refine rt_cast ht2 ?_
   obtain ⟨r0,h,e0⟩:=map_sx h
   have e1:=hr2 r0 e0.symm
   subst r0
   obtain rfl:=Option.some.inj h
   refine ret_at (iS t8q7) (by kernel_rfl) ?_
   exact ret_e [] [] (by simp only [push_cast,seval]) (by simp only [push_cast,seval]) rfl rfl rfl
  ·refine wk_id ?_
   refine wk_id ?_
   refine reg_f ?_
   refine rs 2 [] [] (by kernel_rfl) allP_nil ?_
   refine rf [(0,.sl s.length (fl s)),(1,iS v),(7,iS ((s.length:Nat):Int)),(8,iS (IntKind.i64.wrap (t8q7 + 1)))] [] 0 (by kernel_rfl) ?_
   exact hn2 ((IntKind.i64.wrap (t8q7 + 1))) _ _ _ (Option.some.inj h).symm (leSt_m [] [] (by simp only [push_cast,seval]) (by simp only [push_cast,seval]) rfl rfl rfl)
 ·change R2 (.exit 0) _ _ _
  refine ex_cast hx2 (id:=0) ?_
  obtain ⟨r0,h,e0⟩:=map_sx h
  have e1:=hr2 r0 e0.symm
  subst r0
  refine wk_id ?_
  refine wk_id ?_
  refine seq_np ?_
  refine reg_f ?_
  refine rs 1 [] [] (by kernel_rfl) allP_nil ?_
  refine rf [(4,iS (-1))] [] 0 (by kernel_rfl) ?_
  refine wk_id ?_
  obtain rfl:=Option.some.inj h
  refine ret_at (iS (-1)) (by kernel_rfl) ?_
  exact ret_e [] [] (by simp only [push_cast,seval]) (by simp only [push_cast,seval]) rfl rfl rfl

set_option maxRecDepth 100000 in
set_option maxHeartbeats 200000000 in
theorem dict_last_spec (key:Int) (bits:Int) (r:Int) (h:dict_last key bits = some r):SpecW Try.prog 32 [iS key,iS bits] [] 0 (fun x h n=>x = iS r∧h = []∧n = 0):=by
 unfold dict_last at h
 refine spec_of (draw_ok _) Try.func32 rfl (by decide) rfl (by kernel_rfl) ?_
 refine seq_np ?_
 refine reg_f ?_
 refine rs 1 [] [] (by kernel_rfl) allP_nil ?_
 refine rf [(0,iS key),(1,iS bits)] [] 0 (by kernel_rfl) ?_
 refine wk_id ?_
 refine chk_sx h (fun g118 h=>?_)
 refine seq_np ?_
 refine reg_f ?_
 have k117:0≤bits:=by first | simpa only [Bool.and_eq_true,decide_eq_true_eq,bne_iff_ne,ne_eq] using g118 | (simp at g118 ⊢; omega)
 refine rs 6 [none,none,some ⟨iS (IntKind.i64.wrap ((1:Int) * 2 ^ (min (bits).toNat (IntKind.i64).bits))),[],0,[]⟩] _ (by kernel_rfl) (allP_cons (ob_p (v:=iS (IntKind.i64.wrap ((1:Int) * 2 ^ (min (bits).toNat (IntKind.i64).bits)))) (nx:=0) (r:=[]) k117) allP_nil) ?_
 refine rf [(4,iS (IntKind.i64.wrap (((BitVec.ofInt (IntKind.i64).bits key &&& BitVec.ofInt (IntKind.i64).bits (IntKind.i64.wrap ((IntKind.i64.wrap ((1:Int) * 2 ^ (min (bits).toNat (IntKind.i64).bits))) - 1))).toNat:Nat):Int)))] [] 0 (by kernel_rfl) ?_
 refine wk_id ?_
 obtain rfl:=Option.some.inj h
 refine ret_at (iS (IntKind.i64.wrap (((BitVec.ofInt (IntKind.i64).bits key &&& BitVec.ofInt (IntKind.i64).bits (IntKind.i64.wrap ((IntKind.i64.wrap ((1:Int) * 2 ^ (min (bits).toNat (IntKind.i64).bits))) - 1))).toNat:Nat):Int))) (by kernel_rfl) ?_
 exact ret_e [] [] (by simp only [push_cast,seval]) (by simp only [push_cast,seval]) rfl rfl rfl

set_option maxRecDepth 100000 in
set_option maxHeartbeats 200000000 in
theorem dict_Check_1_spec (b:Bucket) (t1:Dict) (r:Bool) (h:dict_Check_1 b t1 = some r):SpecW Try.prog 40 [.agg (Enc.cells b),.iptr (Enc.cells t1) 0] [] 0 (fun x h n=>x = bS r∧h = []∧n = 0):=by
 unfold dict_Check_1 at h
 refine spec_of (draw_ok _) Try.func40 rfl (by decide) rfl (by kernel_rfl) ?_
 refine seq_np ?_
 refine reg_f ?_
 refine rs 2 [] [] (by kernel_rfl) allP_nil ?_
 refine rf [(1,.iptr (Enc.cells t1) 0),(2,.ptr 0 0)] [(0,.row 43 (Enc.cells b))] 1 (by kernel_rfl) ?_
 refine wk_id ?_
 refine seq_np ?_
 refine reg_f ?_
 refine rs 6 [] [] (by kernel_rfl) allP_nil ?_
 refine rf [(3,bS (b.Depth == t1.Depth))] [(0,.row 43 (Enc.cells b))] 1 (by kernel_rfl) ?_
 refine wk_id ?_
 obtain rfl:=Option.some.inj h
 refine ret_at (bS (b.Depth == t1.Depth)) (by kernel_rfl) ?_
 exact ret_e [] [] (by simp only [push_cast,seval]) (by simp only [push_cast,seval]) rfl rfl rfl

set_option maxRecDepth 100000 in
set_option maxHeartbeats 200000000 in
theorem slices_IndexFunc_Bucket_spec (s:(List Bucket)) (f:Dict) (r:Int) (h:slices_IndexFunc_Bucket s f = some r):SpecW Try.prog 48 [.sl s.length (fl s),.clo 40 [.iptr (Enc.cells f) 0]] [] 0 (fun x h n=>x = iS r∧h = []∧n = 0):=by
 unfold slices_IndexFunc_Bucket at h
 refine spec_of (draw_ok _) Try.func48 rfl (by decide) rfl (by kernel_rfl) ?_
 refine seq_np ?_
 refine reg_f ?_
 refine rs 1 [] [] (by kernel_rfl) allP_nil ?_
 refine rf [(0,.sl s.length (fl s)),(1,.clo 40 [.iptr (Enc.cells f) 0])] [] 0 (by kernel_rfl) ?_
 refine wk_id ?_
 refine seq_np ?_
 refine seq_np ?_
 refine reg_f ?_
 refine rs 3 [] [] (by kernel_rfl) allP_nil ?_
 refine rf [(0,.sl s.length (fl s)),(1,.clo 40 [.iptr (Enc.cells f) 0]),(7,iS ((s.length:Nat):Int)),(8,iS 0)] [] 0 (by kernel_rfl) ?_
 refine wk_id ?_
 refine block_np ?_
 refine loop_sx (S:=Int) (fun a=>([(0,.sl s.length (fl s)),(1,.clo 40 [.iptr (Enc.cells f) 0]),(7,iS ((s.length:Nat):Int)),(8,iS a)],[],0)) h (leSt_m [] [] (by simp only [push_cast,seval]) (by simp only [push_cast,seval]) rfl rfl rfl) ?_
 rintro t8q7 o2 R2 h hr2 hn2 hx2 ht2
 try dsimp only at h hn2 ⊢
 unfold slices_IndexFunc_Bucket_l1 at h
 try dsimp only at h
 refine seq_np ?_
 refine reg_f ?_
 refine rs 1 [] [] (by kernel_rfl) allP_nil ?_
 refine rf [(0,.sl s.length (fl s)),(1,.clo 40 [.iptr (Enc.cells f) 0]),(7,iS ((s.length:Nat):Int)),(8,iS t8q7),(9,bS (decide (t8q7 < ((s.length:Nat):Int))))] [] 0 (by kernel_rfl) ?_
 refine wk_id ?_
 refine seq_np ?_
 refine cond_sx h (by kernel_rfl) (fun g384 h=>?_) (fun g384 h=>?_)
 ·refine wk_id ?_
  refine seq_np ?_
  refine block_np ?_
  refine seq_np ?_
  refine reg_f ?_
  refine rs 2 [] [] (by kernel_rfl) allP_nil ?_
  refine rf [(0,.sl s.length (fl s)),(1,.clo 40 [.iptr (Enc.cells f) 0]),(5,iS t8q7),(7,iS ((s.length:Nat):Int)),(8,iS t8q7)] [] 0 (by kernel_rfl) ?_
  refine wk_id ?_
  refine chk_sx h (fun g381 h=>?_)
  refine seq_np ?_
  refine reg_f ?_
  have k380:0≤t8q7∧t8q7 < ((s.length:Nat):Int):=by first | simpa only [Bool.and_eq_true,decide_eq_true_eq,bne_iff_ne,ne_eq] using g381 | (simp at g381 ⊢; omega)
  refine rs 5 [none,none,none,some ⟨.iptr (fl s) ((t8q7).toNat * 2),[],0,[]⟩,some ⟨.agg (Enc.cells (ix s t8q7)),[],0,[]⟩] _ (by kernel_rfl) (allP_cons (ob_ldw s t8q7 2 ((t8q7).toNat * 2) k380 rfl (by first | rfl | omega) [iS (ix s t8q7).Depth,.sl (ix s t8q7).Items.length (fl (ix s t8q7).Items)] rfl 0 []) (allP_cons (ob_ix_l s 2 0 t8q7 k380) allP_nil)) ?_
  obtain ⟨r382,hr382,h⟩:=bind_sx h
  refine run_call 40 [.agg (Enc.cells (ix s t8q7)),.iptr (Enc.cells f) 0] (some 16) (by kernel_rfl) ?_
  refine call_0 (dict_Check_1_spec (ix s t8q7) f r382 hr382) (by simp only [push_cast,seval]) (by simp only [push_cast,seval]) ?_
  refine back_f ?_
  refine rf [(0,.sl s.length (fl s)),(1,.clo 40 [.iptr (Enc.cells f) 0]),(5,iS t8q7),(7,iS ((s.length:Nat):Int)),(8,iS t8q7),(16,bS r382)] [] 0 (by kernel_rfl) ?_
  refine wk_id ?_
  refine cond_sx h (by kernel_rfl) (fun g383 h=>?_) (fun g383 h=>?_)
  ·refine seq_np ?_
   refine reg_f ?_
   refine rs 2 [] [] (by kernel_rfl) allP_nil ?_
   refine rf [(4,iS t8q7)] [] 0 (by kernel_rfl) ?_
   refine wk_id ?_
   refine rt_cast ht2 ?_
   obtain ⟨r0,h,e0⟩:=map_sx h
   have e1:=hr2 r0 e0.symm
   subst r0
   obtain rfl:=Option.some.inj h
   refine ret_at (iS t8q7) (by kernel_rfl) ?_
   exact ret_e [] [] (by simp only [push_cast,seval]) (by simp only [push_cast,seval]) rfl rfl rfl
  ·refine wk_id ?_
   refine wk_id ?_
   refine reg_f ?_
   refine rs 2 [] [] (by kernel_rfl) allP_nil ?_
   refine rf [(0,.sl s.length (fl s)),(1,.clo 40 [.iptr (Enc.cells f) 0]),(7,iS ((s.length:Nat):Int)),(8,iS (IntKind.i64.wrap (t8q7 + 1)))] [] 0 (by kernel_rfl) ?_
   exact hn2 ((IntKind.i64.wrap (t8q7 + 1))) _ _ _ (Option.some.inj h).symm (leSt_m [] [] (by simp only [push_cast,seval]) (by simp only [push_cast,seval]) rfl rfl rfl)
 ·change R2 (.exit 0) _ _ _
  refine ex_cast hx2 (id:=0) ?_
  obtain ⟨r0,h,e0⟩:=map_sx h
  have e1:=hr2 r0 e0.symm
  subst r0
  refine wk_id ?_
  refine wk_id ?_
  refine seq_np ?_
  refine reg_f ?_
  refine rs 1 [] [] (by kernel_rfl) allP_nil ?_
  refine rf [(4,iS (-1))] [] 0 (by kernel_rfl) ?_
  refine wk_id ?_
  obtain rfl:=Option.some.inj h
  refine ret_at (iS (-1)) (by kernel_rfl) ?_
  exact ret_e [] [] (by simp only [push_cast,seval]) (by simp only [push_cast,seval]) rfl rfl rfl

set_option maxRecDepth 100000 in
set_option maxHeartbeats 200000000 in
theorem slices_ContainsFunc_Bucket_spec (s:(List Bucket)) (f:Dict) (r:Bool) (h:slices_ContainsFunc_Bucket s f = some r):SpecW Try.prog 39 [.sl s.length (fl s),.clo 40 [.iptr (Enc.cells f) 0]] [] 0 (fun x h n=>x = bS r∧h = []∧n = 0):=by
 unfold slices_ContainsFunc_Bucket at h
 refine spec_of (draw_ok _) Try.func39 rfl (by decide) rfl (by kernel_rfl) ?_
 refine seq_np ?_
 refine reg_f ?_
 refine rs 1 [] [] (by kernel_rfl) allP_nil ?_
 refine rf [(0,.sl s.length (fl s)),(1,.clo 40 [.iptr (Enc.cells f) 0])] [] 0 (by kernel_rfl) ?_
 refine wk_id ?_
 refine seq_np ?_
 refine reg_f ?_
 refine rs 2 [] [] (by kernel_rfl) allP_nil ?_
 obtain ⟨r387,hr387,h⟩:=bind_sx h
 refine run_call 48 [.sl s.length (fl s),.clo 40 [.iptr (Enc.cells f) 0]] (some 7) (by kernel_rfl) ?_
 refine call_0 (slices_IndexFunc_Bucket_spec s f r387 hr387) (by simp only [push_cast,seval]) (by simp only [push_cast,seval]) ?_
 refine back_f ?_
 refine rs 2 [] [] (by kernel_rfl) allP_nil ?_
 refine rf [(4,bS (decide ((0:Int)≤r387)))] [] 0 (by kernel_rfl) ?_
 refine wk_id ?_
 obtain rfl:=Option.some.inj h
 refine ret_at (bS (decide ((0:Int)≤r387))) (by kernel_rfl) ?_
 exact ret_e [] [] (by simp only [push_cast,seval]) (by simp only [push_cast,seval]) rfl rfl rfl

set_option maxRecDepth 100000 in
set_option maxHeartbeats 200000000 in
theorem dict_Check_spec (d:Dict) (r:Fault) (h:dict_Check d = some r):SpecW Try.prog 22 [.agg (Enc.cells d)] [] 0 (fun x h n=>x = .agg (Enc.cells r)∧h = []∧n = 0):=by
 unfold dict_Check at h
 refine spec_of (draw_ok _) Try.func22 rfl (by decide) rfl (by kernel_rfl) ?_
 refine seq_np ?_
 refine reg_f ?_
 refine rs 2 [] [] (by kernel_rfl) allP_nil ?_
 refine rf [(1,.ptr 0 0),(2,.ptr 1 0)] [(0,.row 26 (Enc.cells d)),(1,.row 29 [iS 0,iS 0])] 2 (by kernel_rfl) ?_
 refine wk_id ?_
 refine seq_np ?_
 refine seq_cut (A:=Unit) (fun _=>([(1,.ptr 0 0),(2,.ptr 1 0),(20,bS ((decide (d.Depth < 0)) || (decide ((12:Int) < d.Depth))))],[(0,.row 26 (Enc.cells d)),(1,.row 29 [iS 0,iS 0])],2)) (fun _=>True) (fun K397 hK397=>?_) (fun _ _=>?_)
 ·refine reg_f ?_
  refine rs 4 [] [] (by kernel_rfl) allP_nil ?_
  refine run_split 16 (decide (d.Depth < 0)) (.inl (by kernel_rfl)) (fun g398=>?_) (fun g398=>?_)
  ·refine rs 4 [] [] (by kernel_rfl) allP_nil ?_
   refine rf [(1,.ptr 0 0),(2,.ptr 1 0),(20,bS true)] [(0,.row 26 (Enc.cells d)),(1,.row 29 [iS 0,iS 0])] 2 (by kernel_rfl) ?_
   exact hK397 () _ _ _ trivial (leSt_m [(0,0),(1,1)] [] (by (try simp only [g398]) <;> simp only [push_cast,seval]) (by (try simp only [g398]) <;> simp only [push_cast,seval]) rfl rfl rfl)
  ·refine rs 4 [] [] (by kernel_rfl) allP_nil ?_
   refine rf [(1,.ptr 0 0),(2,.ptr 1 0),(20,bS (decide ((12:Int) < d.Depth)))] [(0,.row 26 (Enc.cells d)),(1,.row 29 [iS 0,iS 0])] 2 (by kernel_rfl) ?_
   exact hK397 () _ _ _ trivial (leSt_m [(0,0),(1,1)] [] (by (try simp only [g398]) <;> simp only [push_cast,seval]) (by (try simp only [g398]) <;> simp only [push_cast,seval]) rfl rfl rfl)
 ·dsimp only
  refine cond_sx h (by kernel_rfl) (fun g1459 h=>?_) (fun g1459 h=>?_)
  ·refine seq_np ?_
   refine reg_f ?_
   obtain ⟨r400,hr400,h⟩:=bind_sx h
   refine run_call 29 [iS 3,iS (-1)] (some 21) (by kernel_rfl) ?_
   refine call_0 (dict_fault_spec 3 (-1) r400 hr400) (by simp only [push_cast,seval]) (by simp only [push_cast,seval]) ?_
   refine back_f ?_
   refine rs 1 [] [] (by kernel_rfl) allP_nil ?_
   refine rf [(2,.ptr 1 0)] [(0,.row 26 (Enc.cells d)),(1,.row 29 (Enc.cells r400))] 2 (by kernel_rfl) ?_
   refine wk_id ?_
   obtain rfl:=Option.some.inj h
   refine ret_at (.agg (Enc.cells r400)) (by kernel_rfl) ?_
   exact ret_e [] [] (by simp only [push_cast,seval]) (by simp only [push_cast,seval]) rfl rfl rfl
  ·refine wk_id ?_
   refine seq_np ?_
   refine chk_sx h (fun g408 h=>?_)
   refine seq_np ?_
   refine reg_t ?_
   have k407:0≤d.Depth:=by first | simpa only [Bool.and_eq_true,decide_eq_true_eq,bne_iff_ne,ne_eq] using g408 | (simp at g408 ⊢; omega)
   refine rs 7 [none,none,none,none,none,some ⟨iS (IntKind.i64.wrap ((1:Int) * 2 ^ (min (d.Depth).toNat (IntKind.i64).bits))),[],7,[]⟩] _ (by kernel_rfl) (allP_cons (ob_p (v:=iS (IntKind.i64.wrap ((1:Int) * 2 ^ (min (d.Depth).toNat (IntKind.i64).bits)))) (nx:=7) (r:=[]) k407) allP_nil) ?_
   refine rt [(1,.ptr 0 0),(2,.ptr 1 0),(28,bS (((d.Places.length:Nat):Int) != (IntKind.i64.wrap ((1:Int) * 2 ^ (min (d.Depth).toNat (IntKind.i64).bits)))))] [(0,.row 26 (Enc.cells d)),(1,.row 29 [iS 0,iS 0])] 9 follows (by kernel_rfl) ?_
   refine wk_id ?_
   refine cond_sx h (by kernel_rfl) (fun g1458 h=>?_) (fun g1458 h=>?_)
   ·refine seq_np ?_
    refine reg_f ?_
    obtain ⟨r410,hr410,h⟩:=bind_sx h
    refine run_call 29 [iS 8,iS (-1)] (some 29) (by kernel_rfl) ?_
    refine call_0 (dict_fault_spec 8 (-1) r410 hr410) (by simp only [push_cast,seval]) (by simp only [push_cast,seval]) ?_
    refine back_f ?_
    refine rs 1 [] [] (by kernel_rfl) allP_nil ?_
    refine rf [(2,.ptr 1 0)] [(0,.row 26 (Enc.cells d)),(1,.row 29 (Enc.cells r410))] 9 (by kernel_rfl) ?_
    refine wk_id ?_
    obtain rfl:=Option.some.inj h
    refine ret_at (.agg (Enc.cells r410)) (by kernel_rfl) ?_
    exact ret_e [] [] (by simp only [push_cast,seval]) (by simp only [push_cast,seval]) rfl rfl rfl
   ·refine wk_id ?_
    refine seq_np ?_
    refine reg_f ?_
    refine rs 1 [] [] (by kernel_rfl) allP_nil ?_
    refine rf [(1,.ptr 0 0),(2,.ptr 1 0),(3,iS 0)] [(0,.row 26 (Enc.cells d)),(1,.row 29 [iS 0,iS 0])] 9 (by kernel_rfl) ?_
    refine wk_id ?_
    refine seq_np ?_
    refine seq_np ?_
    refine reg_f ?_
    refine rs 4 [] [] (by kernel_rfl) allP_nil ?_
    refine rf [(1,.ptr 0 0),(2,.ptr 1 0),(3,iS 0),(31,.sl d.Places.length (fl d.Places)),(32,iS ((d.Places.length:Nat):Int)),(33,iS 0)] [(0,.row 26 (Enc.cells d)),(1,.row 29 [iS 0,iS 0])] 9 (by kernel_rfl) ?_
    refine wk_id ?_
    refine block_np ?_
    refine loop_sx (S:=Int × Int) (fun a=>([(1,.ptr 0 0),(2,.ptr 1 0),(3,iS a.1),(31,.sl d.Places.length (fl d.Places)),(32,iS ((d.Places.length:Nat):Int)),(33,iS a.2)],[(0,.row 26 (Enc.cells d)),(1,.row 29 [iS 0,iS 0])],2)) h (leSt_m [(0,0),(1,1)] [] (by simp only [push_cast,seval]) (by simp only [push_cast,seval]) rfl rfl rfl) ?_
    rintro ⟨seen18,t33q7⟩ o5 R5 h hr5 hn5 hx5 ht5
    try dsimp only at h hn5 ⊢
    unfold dict_Check_l4 at h
    try dsimp only at h
    refine seq_np ?_
    refine reg_f ?_
    refine rs 1 [] [] (by kernel_rfl) allP_nil ?_
    refine rf [(1,.ptr 0 0),(2,.ptr 1 0),(3,iS seen18),(31,.sl d.Places.length (fl d.Places)),(32,iS ((d.Places.length:Nat):Int)),(33,iS t33q7),(34,bS (decide (t33q7 < ((d.Places.length:Nat):Int))))] [(0,.row 26 (Enc.cells d)),(1,.row 29 [iS 0,iS 0])] 2 (by kernel_rfl) ?_
    refine wk_id ?_
    refine seq_np ?_
    refine cond_sx h (by kernel_rfl) (fun g1457 h=>?_) (fun g1457 h=>?_)
    ·refine wk_id ?_
     refine seq_np ?_
     refine block_cut (A:=Int) (fun a=>([(1,.ptr 0 0),(2,.ptr 1 0),(3,iS a),(31,.sl d.Places.length (fl d.Places)),(32,iS ((d.Places.length:Nat):Int)),(33,iS t33q7)],[(0,.row 26 (Enc.cells d)),(1,.row 29 [iS 0,iS 0])],2)) (fun a=>(dict_Check_j1 d t33q7 a) = some o5) (fun K512 hK512=>?_) ?_
     ·refine chk_sx h (fun g516 h=>?_)
      refine seq_np ?_
      refine reg_f ?_
      have k515:0≤t33q7∧t33q7 < ((d.Places.length:Nat):Int):=by first | simpa only [Bool.and_eq_true,decide_eq_true_eq,bne_iff_ne,ne_eq] using g516 | (simp at g516 ⊢; omega)
      refine rs 5 [none,some ⟨.iptr (fl d.Places) ((t33q7).toNat * 1),[],2,[]⟩,some ⟨iS (ix d.Places t33q7),[],2,[]⟩] _ (by kernel_rfl) (allP_cons (ob_ld d.Places t33q7 1 0 ((t33q7).toNat * 1) k515 rfl (by decide) (by first | rfl | omega) (dflS Try.prog 3) (iS (ix d.Places t33q7)) rfl 2 []) (allP_cons (ob_ix_l d.Places 1 2 t33q7 k515) allP_nil)) ?_
      refine rf [(1,.ptr 0 0),(2,.ptr 1 0),(3,iS seen18),(4,iS t33q7),(5,iS (ix d.Places t33q7)),(31,.sl d.Places.length (fl d.Places)),(32,iS ((d.Places.length:Nat):Int)),(33,iS t33q7)] [(0,.row 26 (Enc.cells d)),(1,.row 29 [iS 0,iS 0])] 2 (by kernel_rfl) ?_
      refine wk_id ?_
      refine seq_np ?_
      refine seq_cut (A:=Unit) (fun _=>([(1,.ptr 0 0),(2,.ptr 1 0),(3,iS seen18),(4,iS t33q7),(5,iS (ix d.Places t33q7)),(31,.sl d.Places.length (fl d.Places)),(32,iS ((d.Places.length:Nat):Int)),(33,iS t33q7),(51,bS ((decide ((ix d.Places t33q7) < 0)) || ((decide (((d.Buckets.length:Nat):Int)≤(ix d.Places t33q7))) || (decide (seen18 < (ix d.Places t33q7))))))],[(0,.row 26 (Enc.cells d)),(1,.row 29 [iS 0,iS 0])],2)) (fun _=>True) (fun K523 hK523=>?_) (fun _ _=>?_)
      ·refine reg_f ?_
       refine rs 3 [] [] (by kernel_rfl) allP_nil ?_
       refine run_split 40 (decide ((ix d.Places t33q7) < 0)) (.inl (by kernel_rfl)) (fun g524=>?_) (fun g524=>?_)
       ·refine rs 11 [] [] (by kernel_rfl) allP_nil ?_
        refine rf [(1,.ptr 0 0),(2,.ptr 1 0),(3,iS seen18),(4,iS t33q7),(5,iS (ix d.Places t33q7)),(31,.sl d.Places.length (fl d.Places)),(32,iS ((d.Places.length:Nat):Int)),(33,iS t33q7),(51,bS true)] [(0,.row 26 (Enc.cells d)),(1,.row 29 [iS 0,iS 0])] 2 (by kernel_rfl) ?_
        exact hK523 () _ _ _ trivial (leSt_m [(0,0),(1,1)] [] (by (try simp only [g524]) <;> simp only [push_cast,seval]) (by (try simp only [g524]) <;> simp only [push_cast,seval]) rfl rfl rfl)
       ·refine rs 7 [] [] (by kernel_rfl) allP_nil ?_
        refine run_split 47 (decide (((d.Buckets.length:Nat):Int)≤(ix d.Places t33q7))) (.inl (by kernel_rfl)) (fun g525=>?_) (fun g525=>?_)
        ·refine rs 4 [] [] (by kernel_rfl) allP_nil ?_
         refine rf [(1,.ptr 0 0),(2,.ptr 1 0),(3,iS seen18),(4,iS t33q7),(5,iS (ix d.Places t33q7)),(31,.sl d.Places.length (fl d.Places)),(32,iS ((d.Places.length:Nat):Int)),(33,iS t33q7),(51,bS true)] [(0,.row 26 (Enc.cells d)),(1,.row 29 [iS 0,iS 0])] 2 (by kernel_rfl) ?_
         exact hK523 () _ _ _ trivial (leSt_m [(0,0),(1,1)] [] (by first | ((try simp only [g524,g525]) <;> simp only [push_cast,seval]; done) | ((try simp only [g524]); (try simp only [g525]); simp only [push_cast,seval]; done) | (exfalso; clear h; simp_all; done)) (by first | ((try simp only [g524,g525]) <;> simp only [push_cast,seval]; done) | ((try simp only [g524]); (try simp only [g525]); simp only [push_cast,seval]; done) | (exfalso; clear h; simp_all; done)) rfl rfl rfl)
        ·refine rs 4 [] [] (by kernel_rfl) allP_nil ?_
         refine rf [(1,.ptr 0 0),(2,.ptr 1 0),(3,iS seen18),(4,iS t33q7),(5,iS (ix d.Places t33q7)),(31,.sl d.Places.length (fl d.Places)),(32,iS ((d.Places.length:Nat):Int)),(33,iS t33q7),(51,bS (decide (seen18 < (ix d.Places t33q7))))] [(0,.row 26 (Enc.cells d)),(1,.row 29 [iS 0,iS 0])] 2 (by kernel_rfl) ?_
         exact hK523 () _ _ _ trivial (leSt_m [(0,0),(1,1)] [] (by first | ((try simp only [g524,g525]) <;> simp only [push_cast,seval]; done) | ((try simp only [g524]); (try simp only [g525]); simp only [push_cast,seval]; done) | (exfalso; clear h; simp_all; done)) (by first | ((try simp only [g524,g525]) <;> simp only [push_cast,seval]; done) | ((try simp only [g524]); (try simp only [g525]); simp only [push_cast,seval]; done) | (exfalso; clear h; simp_all; done)) rfl rfl rfl)
      ·dsimp only
       refine cond_sx h (by kernel_rfl) (fun g529 h=>?_) (fun g529 h=>?_)
       ·refine seq_np ?_
        refine reg_f ?_
        refine rs 1 [] [] (by kernel_rfl) allP_nil ?_
        obtain ⟨r527,hr527,h⟩:=bind_sx h
        refine run_call 29 [iS 5,iS t33q7] (some 53) (by kernel_rfl) ?_
        refine call_0 (dict_fault_spec 5 t33q7 r527 hr527) (by simp only [push_cast,seval]) (by simp only [push_cast,seval]) ?_
        refine back_f ?_
        refine rs 1 [] [] (by kernel_rfl) allP_nil ?_
        refine rf [(2,.ptr 1 0)] [(0,.row 26 (Enc.cells d)),(1,.row 29 (Enc.cells r527))] 2 (by kernel_rfl) ?_
        refine wk_id ?_
        refine rt_cast ht5 ?_
        obtain ⟨r0,h,e0⟩:=map_sx h
        have e1:=hr5 r0 e0.symm
        subst r0
        obtain rfl:=Option.some.inj h
        refine ret_at (.agg (Enc.cells r527)) (by kernel_rfl) ?_
        exact ret_e [] [] (by simp only [push_cast,seval]) (by simp only [push_cast,seval]) rfl rfl rfl
       ·refine wk_id ?_
        refine seq_np ?_
        refine reg_f ?_
        refine rs 3 [] [] (by kernel_rfl) allP_nil ?_
        refine rf [(1,.ptr 0 0),(2,.ptr 1 0),(3,iS seen18),(31,.sl d.Places.length (fl d.Places)),(32,iS ((d.Places.length:Nat):Int)),(33,iS t33q7),(56,bS ((ix d.Places t33q7) == seen18))] [(0,.row 26 (Enc.cells d)),(1,.row 29 [iS 0,iS 0])] 2 (by kernel_rfl) ?_
        refine wk_id ?_
        refine cond_sx h (by kernel_rfl) (fun g528 h=>?_) (fun g528 h=>?_)
        ·refine reg_f ?_
         refine rs 3 [] [] (by kernel_rfl) allP_nil ?_
         refine rf [(1,.ptr 0 0),(2,.ptr 1 0),(3,iS (IntKind.i64.wrap (seen18 + 1))),(31,.sl d.Places.length (fl d.Places)),(32,iS ((d.Places.length:Nat):Int)),(33,iS t33q7)] [(0,.row 26 (Enc.cells d)),(1,.row 29 [iS 0,iS 0])] 2 (by kernel_rfl) ?_
         exact hK512 ((IntKind.i64.wrap (seen18 + 1))) _ _ _ h (leSt_m [(0,0),(1,1)] [] (by simp only [push_cast,seval]) (by simp only [push_cast,seval]) rfl rfl rfl)
        ·exact hK512 (seen18) _ _ _ h (leSt_m [(0,0),(1,1)] [] (by simp only [push_cast,seval]) (by simp only [push_cast,seval]) rfl rfl rfl)
     ·rintro seen20 h
      try dsimp only at h ⊢
      unfold dict_Check_j1 at h
      refine wk_id ?_
      refine reg_f ?_
      refine rs 2 [] [] (by kernel_rfl) allP_nil ?_
      refine rf [(1,.ptr 0 0),(2,.ptr 1 0),(3,iS seen20),(31,.sl d.Places.length (fl d.Places)),(32,iS ((d.Places.length:Nat):Int)),(33,iS (IntKind.i64.wrap (t33q7 + 1)))] [(0,.row 26 (Enc.cells d)),(1,.row 29 [iS 0,iS 0])] 2 (by kernel_rfl) ?_
      exact hn5 (seen20,(IntKind.i64.wrap (t33q7 + 1))) _ _ _ (Option.some.inj h).symm (leSt_m [(0,0),(1,1)] [] (by simp only [push_cast,seval]) (by simp only [push_cast,seval]) rfl rfl rfl)
    ·change R5 (.exit 0) _ _ _
     refine ex_cast hx5 (id:=0) ?_
     obtain ⟨r0,h,e0⟩:=map_sx h
     have e1:=hr5 r0 e0.symm
     subst r0
     refine wk_id ?_
     refine wk_id ?_
     refine seq_np ?_
     refine seq_np ?_
     refine reg_f ?_
     refine rs 5 [] [] (by kernel_rfl) allP_nil ?_
     refine rf [(1,.ptr 0 0),(2,.ptr 1 0),(64,bS (seen18 != ((d.Buckets.length:Nat):Int)))] [(0,.row 26 (Enc.cells d)),(1,.row 29 [iS 0,iS 0])] 2 (by kernel_rfl) ?_
     refine wk_id ?_
     refine cond_sx h (by kernel_rfl) (fun g1456 h=>?_) (fun g1456 h=>?_)
     ·refine seq_np ?_
      refine reg_f ?_
      obtain ⟨r533,hr533,h⟩:=bind_sx h
      refine run_call 29 [iS 8,iS (-1)] (some 65) (by kernel_rfl) ?_
      refine call_0 (dict_fault_spec 8 (-1) r533 hr533) (by simp only [push_cast,seval]) (by simp only [push_cast,seval]) ?_
      refine back_f ?_
      refine rs 1 [] [] (by kernel_rfl) allP_nil ?_
      refine rf [(2,.ptr 1 0)] [(0,.row 26 (Enc.cells d)),(1,.row 29 (Enc.cells r533))] 2 (by kernel_rfl) ?_
      refine wk_id ?_
      obtain rfl:=Option.some.inj h
      refine ret_at (.agg (Enc.cells r533)) (by kernel_rfl) ?_
      exact ret_e [] [] (by simp only [push_cast,seval]) (by simp only [push_cast,seval]) rfl rfl rfl
     ·refine wk_id ?_
      refine seq_np ?_
      refine seq_np ?_
      refine reg_f ?_
      refine rs 4 [] [] (by kernel_rfl) allP_nil ?_
      refine rf [(1,.ptr 0 0),(2,.ptr 1 0),(67,.sl d.Buckets.length (fl d.Buckets)),(68,iS ((d.Buckets.length:Nat):Int)),(69,iS 0)] [(0,.row 26 (Enc.cells d)),(1,.row 29 [iS 0,iS 0])] 2 (by kernel_rfl) ?_
      refine wk_id ?_
      refine block_np ?_
      refine loop_sx (S:=Int) (fun a=>([(1,.ptr 0 0),(2,.ptr 1 0),(67,.sl d.Buckets.length (fl d.Buckets)),(68,iS ((d.Buckets.length:Nat):Int)),(69,iS a)],[(0,.row 26 (Enc.cells d)),(1,.row 29 [iS 0,iS 0])],2)) h (leSt_m [(0,0),(1,1)] [] (by simp only [push_cast,seval]) (by simp only [push_cast,seval]) rfl rfl rfl) ?_
      rintro t69q7 o6 R6 h hr6 hn6 hx6 ht6
      try dsimp only at h hn6 ⊢
      unfold dict_Check_l3 at h
      try dsimp only at h
      refine seq_np ?_
      refine reg_f ?_
      refine rs 1 [] [] (by kernel_rfl) allP_nil ?_
      refine rf [(1,.ptr 0 0),(2,.ptr 1 0),(67,.sl d.Buckets.length (fl d.Buckets)),(68,iS ((d.Buckets.length:Nat):Int)),(69,iS t69q7),(70,bS (decide (t69q7 < ((d.Buckets.length:Nat):Int))))] [(0,.row 26 (Enc.cells d)),(1,.row 29 [iS 0,iS 0])] 2 (by kernel_rfl) ?_
      refine wk_id ?_
      refine seq_np ?_
      refine cond_sx h (by kernel_rfl) (fun g1455 h=>?_) (fun g1455 h=>?_)
      ·refine wk_id ?_
       refine seq_np ?_
       refine block_np ?_
       refine chk_sx h (fun g1199 h=>?_)
       refine seq_np ?_
       refine reg_f ?_
       have k1198:0≤t69q7∧t69q7 < ((d.Buckets.length:Nat):Int):=by first | simpa only [Bool.and_eq_true,decide_eq_true_eq,bne_iff_ne,ne_eq] using g1199 | (simp at g1199 ⊢; omega)
       refine rs 6 [none,some ⟨.iptr (fl d.Buckets) ((t69q7).toNat * 2),[],2,[]⟩,some ⟨.agg (Enc.cells (ix d.Buckets t69q7)),[],2,[]⟩] _ (by kernel_rfl) (allP_cons (ob_ldw d.Buckets t69q7 2 ((t69q7).toNat * 2) k1198 rfl (by first | rfl | omega) [iS (ix d.Buckets t69q7).Depth,.sl (ix d.Buckets t69q7).Items.length (fl (ix d.Buckets t69q7).Items)] rfl 2 []) (allP_cons (ob_ix_l d.Buckets 2 2 t69q7 k1198) allP_nil)) ?_
       refine rf [(1,.ptr 0 0),(2,.ptr 1 0),(6,iS t69q7),(7,.ptr 2 0),(67,.sl d.Buckets.length (fl d.Buckets)),(68,iS ((d.Buckets.length:Nat):Int)),(69,iS t69q7)] [(0,.row 26 (Enc.cells d)),(1,.row 29 [iS 0,iS 0]),(2,.row 43 (Enc.cells (ix d.Buckets t69q7)))] 3 (by kernel_rfl) ?_
       refine wk_id ?_
       refine seq_np ?_
       refine seq_cut (A:=Unit) (fun _=>([(1,.ptr 0 0),(2,.ptr 1 0),(6,iS t69q7),(7,.ptr 2 0),(67,.sl d.Buckets.length (fl d.Buckets)),(68,iS ((d.Buckets.length:Nat):Int)),(69,iS t69q7),(83,bS ((decide ((ix d.Buckets t69q7).Depth < 0)) || (decide (d.Depth < (ix d.Buckets t69q7).Depth))))],[(0,.row 26 (Enc.cells d)),(1,.row 29 [iS 0,iS 0]),(2,.row 43 (Enc.cells (ix d.Buckets t69q7)))],3)) (fun _=>True) (fun K1204 hK1204=>?_) (fun _ _=>?_)
       ·refine reg_f ?_
        refine rs 4 [] [] (by kernel_rfl) allP_nil ?_
        refine run_split 77 (decide ((ix d.Buckets t69q7).Depth < 0)) (.inl (by kernel_rfl)) (fun g1205=>?_) (fun g1205=>?_)
        ·refine rs 6 [] [] (by kernel_rfl) allP_nil ?_
         refine rf [(1,.ptr 0 0),(2,.ptr 1 0),(6,iS t69q7),(7,.ptr 2 0),(67,.sl d.Buckets.length (fl d.Buckets)),(68,iS ((d.Buckets.length:Nat):Int)),(69,iS t69q7),(83,bS true)] [(0,.row 26 (Enc.cells d)),(1,.row 29 [iS 0,iS 0]),(2,.row 43 (Enc.cells (ix d.Buckets t69q7)))] 3 (by kernel_rfl) ?_
         exact hK1204 () _ _ _ trivial (leSt_m [(0,0),(1,1),(2,2)] [] (by (try simp only [g1205]) <;> simp only [push_cast,seval]) (by (try simp only [g1205]) <;> simp only [push_cast,seval]) rfl rfl rfl)
        ·refine rs 6 [] [] (by kernel_rfl) allP_nil ?_
         refine rf [(1,.ptr 0 0),(2,.ptr 1 0),(6,iS t69q7),(7,.ptr 2 0),(67,.sl d.Buckets.length (fl d.Buckets)),(68,iS ((d.Buckets.length:Nat):Int)),(69,iS t69q7),(83,bS (decide (d.Depth < (ix d.Buckets t69q7).Depth)))] [(0,.row 26 (Enc.cells d)),(1,.row 29 [iS 0,iS 0]),(2,.row 43 (Enc.cells (ix d.Buckets t69q7)))] 3 (by kernel_rfl) ?_
         exact hK1204 () _ _ _ trivial (leSt_m [(0,0),(1,1),(2,2)] [] (by (try simp only [g1205]) <;> simp only [push_cast,seval]) (by (try simp only [g1205]) <;> simp only [push_cast,seval]) rfl rfl rfl)
       ·dsimp only
        refine cond_sx h (by kernel_rfl) (fun g1439 h=>?_) (fun g1439 h=>?_)
        ·refine seq_np ?_
         refine reg_f ?_
         refine rs 1 [] [] (by kernel_rfl) allP_nil ?_
         obtain ⟨r1207,hr1207,h⟩:=bind_sx h
         refine run_call 29 [iS 4,iS t69q7] (some 85) (by kernel_rfl) ?_
         refine call_0 (dict_fault_spec 4 t69q7 r1207 hr1207) (by simp only [push_cast,seval]) (by simp only [push_cast,seval]) ?_
         refine back_f ?_
         refine rs 1 [] [] (by kernel_rfl) allP_nil ?_
         refine rf [(2,.ptr 1 0)] [(0,.row 26 (Enc.cells d)),(1,.row 29 (Enc.cells r1207)),(2,.row 43 (Enc.cells (ix d.Buckets t69q7)))] 3 (by kernel_rfl) ?_
         refine wk_id ?_
         refine rt_cast ht6 ?_
         obtain ⟨r0,h,e0⟩:=map_sx h
         have e1:=hr6 r0 e0.symm
         subst r0
         obtain rfl:=Option.some.inj h
         refine ret_at (.agg (Enc.cells r1207)) (by kernel_rfl) ?_
         exact ret_e [] [] (by simp only [push_cast,seval]) (by simp only [push_cast,seval]) rfl rfl rfl
        ·refine wk_id ?_
         refine seq_np ?_
         refine reg_f ?_
         refine rs 3 [] [] (by kernel_rfl) allP_nil ?_
         obtain ⟨r1209,hr1209,h⟩:=bind_sx h
         refine run_call 38 [.sl d.Places.length (fl d.Places),iS t69q7] (some 89) (by kernel_rfl) ?_
         refine call_0 (slices_Index_int_spec d.Places t69q7 r1209 hr1209) (by simp only [push_cast,seval]) (by simp only [push_cast,seval]) ?_
         refine back_f ?_
         refine rs 1 [] [] (by kernel_rfl) allP_nil ?_
         refine rf [(1,.ptr 0 0),(2,.ptr 1 0),(6,iS t69q7),(7,.ptr 2 0),(8,iS r1209),(67,.sl d.Buckets.length (fl d.Buckets)),(68,iS ((d.Buckets.length:Nat):Int)),(69,iS t69q7)] [(0,.row 26 (Enc.cells d)),(1,.row 29 [iS 0,iS 0]),(2,.row 43 (Enc.cells (ix d.Buckets t69q7)))] 3 (by kernel_rfl) ?_
         refine wk_id ?_
         refine seq_np ?_
         refine seq_np ?_
         refine reg_f ?_
         refine rs 4 [] [] (by kernel_rfl) allP_nil ?_
         refine rf [(1,.ptr 0 0),(2,.ptr 1 0),(6,iS t69q7),(7,.ptr 2 0),(8,iS r1209),(67,.sl d.Buckets.length (fl d.Buckets)),(68,iS ((d.Buckets.length:Nat):Int)),(69,iS t69q7),(91,.sl d.Places.length (fl d.Places)),(92,iS ((d.Places.length:Nat):Int)),(93,iS 0)] [(0,.row 26 (Enc.cells d)),(1,.row 29 [iS 0,iS 0]),(2,.row 43 (Enc.cells (ix d.Buckets t69q7)))] 3 (by kernel_rfl) ?_
         refine wk_id ?_
         refine block_np ?_
         refine loop_sx (S:=Int × Int) (fun a=>([(1,.ptr 0 0),(2,.ptr 1 0),(6,iS t69q7),(7,.ptr 2 0),(8,iS a.1),(67,.sl d.Buckets.length (fl d.Buckets)),(68,iS ((d.Buckets.length:Nat):Int)),(69,iS t69q7),(91,.sl d.Places.length (fl d.Places)),(92,iS ((d.Places.length:Nat):Int)),(93,iS a.2)],[(0,.row 26 (Enc.cells d)),(1,.row 29 [iS 0,iS 0]),(2,.row 43 (Enc.cells (ix d.Buckets t69q7)))],3)) h (leSt_m [(0,0),(1,1),(2,2)] [] (by simp only [push_cast,seval]) (by simp only [push_cast,seval]) rfl rfl rfl) ?_
         rintro ⟨first47,t93q31⟩ o7 R7 h hr7 hn7 hx7 ht7
         try dsimp only at h hn7 ⊢
         unfold dict_Check_l2 at h
         try dsimp only at h
         refine seq_np ?_
         refine reg_f ?_
         refine rs 1 [] [] (by kernel_rfl) allP_nil ?_
         refine rf [(1,.ptr 0 0),(2,.ptr 1 0),(6,iS t69q7),(7,.ptr 2 0),(8,iS first47),(67,.sl d.Buckets.length (fl d.Buckets)),(68,iS ((d.Buckets.length:Nat):Int)),(69,iS t69q7),(91,.sl d.Places.length (fl d.Places)),(92,iS ((d.Places.length:Nat):Int)),(93,iS t93q31),(94,bS (decide (t93q31 < ((d.Places.length:Nat):Int))))] [(0,.row 26 (Enc.cells d)),(1,.row 29 [iS 0,iS 0]),(2,.row 43 (Enc.cells (ix d.Buckets t69q7)))] 3 (by kernel_rfl) ?_
         refine wk_id ?_
         refine seq_np ?_
         refine cond_sx h (by kernel_rfl) (fun g1438 h=>?_) (fun g1438 h=>?_)
         ·refine wk_id ?_
          refine seq_np ?_
          refine block_np ?_
          refine chk_sx h (fun g1285 h=>?_)
          refine seq_np ?_
          refine reg_f ?_
          have k1284:0≤t93q31∧t93q31 < ((d.Places.length:Nat):Int):=by first | simpa only [Bool.and_eq_true,decide_eq_true_eq,bne_iff_ne,ne_eq] using g1285 | (simp at g1285 ⊢; omega)
          refine rs 5 [none,some ⟨.iptr (fl d.Places) ((t93q31).toNat * 1),[],3,[]⟩,some ⟨iS (ix d.Places t93q31),[],3,[]⟩] _ (by kernel_rfl) (allP_cons (ob_ld d.Places t93q31 1 0 ((t93q31).toNat * 1) k1284 rfl (by decide) (by first | rfl | omega) (dflS Try.prog 3) (iS (ix d.Places t93q31)) rfl 3 []) (allP_cons (ob_ix_l d.Places 1 3 t93q31 k1284) allP_nil)) ?_
          refine rf [(1,.ptr 0 0),(2,.ptr 1 0),(6,iS t69q7),(7,.ptr 2 0),(8,iS first47),(9,iS t93q31),(10,iS (ix d.Places t93q31)),(67,.sl d.Buckets.length (fl d.Buckets)),(68,iS ((d.Buckets.length:Nat):Int)),(69,iS t69q7),(91,.sl d.Places.length (fl d.Places)),(92,iS ((d.Places.length:Nat):Int)),(93,iS t93q31)] [(0,.row 26 (Enc.cells d)),(1,.row 29 [iS 0,iS 0]),(2,.row 43 (Enc.cells (ix d.Buckets t69q7)))] 3 (by kernel_rfl) ?_
          refine wk_id ?_
          refine seq_np ?_
          refine reg_t ?_
          refine rs 6 [] [] (by kernel_rfl) allP_nil ?_
          obtain ⟨r1288,hr1288,h⟩:=bind_sx h
          refine run_call 32 [iS t93q31,iS (ix d.Buckets t69q7).Depth] (some 104) (by kernel_rfl) ?_
          refine callE_0 (dict_last_spec t93q31 (ix d.Buckets t69q7).Depth r1288 hr1288) (by simp only [push_cast,seval]) (by simp only [push_cast,seval]) ?_
          refine back_t ?_
          refine rs 3 [] [] (by kernel_rfl) allP_nil ?_
          obtain ⟨r1289,hr1289,h⟩:=bind_sx h
          refine run_call 32 [iS first47,iS (ix d.Buckets t69q7).Depth] (some 108) (by kernel_rfl) ?_
          refine callE_0 (dict_last_spec first47 (ix d.Buckets t69q7).Depth r1289 hr1289) (by simp only [push_cast,seval]) (by simp only [push_cast,seval]) ?_
          refine back_t ?_
          refine rs 2 [] [] (by kernel_rfl) allP_nil ?_
          refine rt [(1,.ptr 0 0),(2,.ptr 1 0),(6,iS t69q7),(7,.ptr 2 0),(8,iS first47),(67,.sl d.Buckets.length (fl d.Buckets)),(68,iS ((d.Buckets.length:Nat):Int)),(69,iS t69q7),(91,.sl d.Places.length (fl d.Places)),(92,iS ((d.Places.length:Nat):Int)),(93,iS t93q31),(110,bS (((ix d.Places t93q31) == t69q7) != (r1288 == r1289)))] [(0,.row 26 (Enc.cells d)),(1,.row 29 [iS 0,iS 0]),(2,.row 43 (Enc.cells (ix d.Buckets t69q7)))] 16 follows (by kernel_rfl) ?_
          refine wk_id ?_
          refine cond_sx h (by kernel_rfl) (fun g1292 h=>?_) (fun g1292 h=>?_)
          ·refine seq_np ?_
           refine reg_f ?_
           refine rs 1 [] [] (by kernel_rfl) allP_nil ?_
           obtain ⟨r1291,hr1291,h⟩:=bind_sx h
           refine run_call 29 [iS 4,iS t69q7] (some 112) (by kernel_rfl) ?_
           refine call_0 (dict_fault_spec 4 t69q7 r1291 hr1291) (by simp only [push_cast,seval]) (by simp only [push_cast,seval]) ?_
           refine back_f ?_
           refine rs 1 [] [] (by kernel_rfl) allP_nil ?_
           refine rf [(2,.ptr 1 0)] [(0,.row 26 (Enc.cells d)),(1,.row 29 (Enc.cells r1291)),(2,.row 43 (Enc.cells (ix d.Buckets t69q7)))] 16 (by kernel_rfl) ?_
           refine wk_id ?_
           refine rt_cast ht7 ?_
           obtain ⟨r0,h,e0⟩:=map_sx h
           have e1:=hr7 r0 e0.symm
           subst r0
           refine rt_cast ht6 ?_
           obtain ⟨r0,h,e0⟩:=map_sx h
           have e1:=hr6 r0 e0.symm
           subst r0
           obtain rfl:=Option.some.inj h
           refine ret_at (.agg (Enc.cells r1291)) (by kernel_rfl) ?_
           exact ret_e [] [] (by simp only [push_cast,seval]) (by simp only [push_cast,seval]) rfl rfl rfl
          ·refine wk_id ?_
           refine wk_id ?_
           refine reg_f ?_
           refine rs 2 [] [] (by kernel_rfl) allP_nil ?_
           refine rf [(1,.ptr 0 0),(2,.ptr 1 0),(6,iS t69q7),(7,.ptr 2 0),(8,iS first47),(67,.sl d.Buckets.length (fl d.Buckets)),(68,iS ((d.Buckets.length:Nat):Int)),(69,iS t69q7),(91,.sl d.Places.length (fl d.Places)),(92,iS ((d.Places.length:Nat):Int)),(93,iS (IntKind.i64.wrap (t93q31 + 1)))] [(0,.row 26 (Enc.cells d)),(1,.row 29 [iS 0,iS 0]),(2,.row 43 (Enc.cells (ix d.Buckets t69q7)))] 16 (by kernel_rfl) ?_
           exact hn7 (first47,(IntKind.i64.wrap (t93q31 + 1))) _ _ _ (Option.some.inj h).symm (leSt_m [(0,0),(1,1),(2,2)] [] (by simp only [push_cast,seval]) (by simp only [push_cast,seval]) rfl rfl rfl)
         ·change R7 (.exit 4) _ _ _
          refine ex_cast hx7 (id:=4) ?_
          obtain ⟨r0,h,e0⟩:=map_sx h
          have e1:=hr7 r0 e0.symm
          subst r0
          refine wk_id ?_
          refine wk_id ?_
          refine seq_np ?_
          refine seq_cut (A:=Unit) (fun _=>([(1,.ptr 0 0),(2,.ptr 1 0),(6,iS t69q7),(7,.ptr 2 0),(8,iS first47),(67,.sl d.Buckets.length (fl d.Buckets)),(68,iS ((d.Buckets.length:Nat):Int)),(69,iS t69q7),(122,bS ((decide ((4:Int) < (((ix d.Buckets t69q7).Items.length:Nat):Int))) && (decide ((ix d.Buckets t69q7).Depth < 12))))],[(0,.row 26 (Enc.cells d)),(1,.row 29 [iS 0,iS 0]),(2,.row 43 (Enc.cells (ix d.Buckets t69q7)))],3)) (fun _=>True) (fun K1297 hK1297=>?_) (fun _ _=>?_)
          ·refine reg_f ?_
           refine rs 5 [] [] (by kernel_rfl) allP_nil ?_
           refine run_split 118 (decide ((4:Int) < (((ix d.Buckets t69q7).Items.length:Nat):Int))) (.inl (by kernel_rfl)) (fun g1298=>?_) (fun g1298=>?_)
           ·refine rs 4 [] [] (by kernel_rfl) allP_nil ?_
            refine rf [(1,.ptr 0 0),(2,.ptr 1 0),(6,iS t69q7),(7,.ptr 2 0),(8,iS first47),(67,.sl d.Buckets.length (fl d.Buckets)),(68,iS ((d.Buckets.length:Nat):Int)),(69,iS t69q7),(122,bS (decide ((ix d.Buckets t69q7).Depth < 12)))] [(0,.row 26 (Enc.cells d)),(1,.row 29 [iS 0,iS 0]),(2,.row 43 (Enc.cells (ix d.Buckets t69q7)))] 3 (by kernel_rfl) ?_
            exact hK1297 () _ _ _ trivial (leSt_m [(0,0),(1,1),(2,2)] [] (by (try simp only [g1298]) <;> simp only [push_cast,seval]) (by (try simp only [g1298]) <;> simp only [push_cast,seval]) rfl rfl rfl)
           ·refine rs 4 [] [] (by kernel_rfl) allP_nil ?_
            refine rf [(1,.ptr 0 0),(2,.ptr 1 0),(6,iS t69q7),(7,.ptr 2 0),(8,iS first47),(67,.sl d.Buckets.length (fl d.Buckets)),(68,iS ((d.Buckets.length:Nat):Int)),(69,iS t69q7),(122,bS false)] [(0,.row 26 (Enc.cells d)),(1,.row 29 [iS 0,iS 0]),(2,.row 43 (Enc.cells (ix d.Buckets t69q7)))] 3 (by kernel_rfl) ?_
            exact hK1297 () _ _ _ trivial (leSt_m [(0,0),(1,1),(2,2)] [] (by (try simp only [g1298]) <;> simp only [push_cast,seval]) (by (try simp only [g1298]) <;> simp only [push_cast,seval]) rfl rfl rfl)
          ·dsimp only
           refine cond_sx h (by kernel_rfl) (fun g1437 h=>?_) (fun g1437 h=>?_)
           ·refine seq_np ?_
            refine reg_f ?_
            refine rs 1 [] [] (by kernel_rfl) allP_nil ?_
            obtain ⟨r1300,hr1300,h⟩:=bind_sx h
            refine run_call 29 [iS 2,iS t69q7] (some 124) (by kernel_rfl) ?_
            refine call_0 (dict_fault_spec 2 t69q7 r1300 hr1300) (by simp only [push_cast,seval]) (by simp only [push_cast,seval]) ?_
            refine back_f ?_
            refine rs 1 [] [] (by kernel_rfl) allP_nil ?_
            refine rf [(2,.ptr 1 0)] [(0,.row 26 (Enc.cells d)),(1,.row 29 (Enc.cells r1300)),(2,.row 43 (Enc.cells (ix d.Buckets t69q7)))] 3 (by kernel_rfl) ?_
            refine wk_id ?_
            refine rt_cast ht6 ?_
            obtain ⟨r0,h,e0⟩:=map_sx h
            have e1:=hr6 r0 e0.symm
            subst r0
            obtain rfl:=Option.some.inj h
            refine ret_at (.agg (Enc.cells r1300)) (by kernel_rfl) ?_
            exact ret_e [] [] (by simp only [push_cast,seval]) (by simp only [push_cast,seval]) rfl rfl rfl
           ·refine wk_id ?_
            refine seq_np ?_
            refine seq_np ?_
            refine reg_f ?_
            refine rs 4 [] [] (by kernel_rfl) allP_nil ?_
            refine rf [(1,.ptr 0 0),(2,.ptr 1 0),(6,iS t69q7),(7,.ptr 2 0),(8,iS first47),(67,.sl d.Buckets.length (fl d.Buckets)),(68,iS ((d.Buckets.length:Nat):Int)),(69,iS t69q7),(126,.sl (ix d.Buckets t69q7).Items.length (fl (ix d.Buckets t69q7).Items)),(127,iS (((ix d.Buckets t69q7).Items.length:Nat):Int)),(128,iS 0)] [(0,.row 26 (Enc.cells d)),(1,.row 29 [iS 0,iS 0]),(2,.row 43 (Enc.cells (ix d.Buckets t69q7)))] 3 (by kernel_rfl) ?_
            refine wk_id ?_
            refine block_np ?_
            refine loop_sx (S:=Int) (fun a=>([(1,.ptr 0 0),(2,.ptr 1 0),(6,iS t69q7),(7,.ptr 2 0),(8,iS first47),(67,.sl d.Buckets.length (fl d.Buckets)),(68,iS ((d.Buckets.length:Nat):Int)),(69,iS t69q7),(126,.sl (ix d.Buckets t69q7).Items.length (fl (ix d.Buckets t69q7).Items)),(127,iS (((ix d.Buckets t69q7).Items.length:Nat):Int)),(128,iS a)],[(0,.row 26 (Enc.cells d)),(1,.row 29 [iS 0,iS 0]),(2,.row 43 (Enc.cells (ix d.Buckets t69q7)))],3)) h (leSt_m [(0,0),(1,1),(2,2)] [] (by simp only [push_cast,seval]) (by simp only [push_cast,seval]) rfl rfl rfl) ?_
            rintro t128q31 o8 R8 h hr8 hn8 hx8 ht8
            try dsimp only at h hn8 ⊢
            unfold dict_Check_l1 at h
            try dsimp only at h
            refine seq_np ?_
            refine reg_f ?_
            refine rs 1 [] [] (by kernel_rfl) allP_nil ?_
            refine rf [(1,.ptr 0 0),(2,.ptr 1 0),(6,iS t69q7),(7,.ptr 2 0),(8,iS first47),(67,.sl d.Buckets.length (fl d.Buckets)),(68,iS ((d.Buckets.length:Nat):Int)),(69,iS t69q7),(126,.sl (ix d.Buckets t69q7).Items.length (fl (ix d.Buckets t69q7).Items)),(127,iS (((ix d.Buckets t69q7).Items.length:Nat):Int)),(128,iS t128q31),(129,bS (decide (t128q31 < (((ix d.Buckets t69q7).Items.length:Nat):Int))))] [(0,.row 26 (Enc.cells d)),(1,.row 29 [iS 0,iS 0]),(2,.row 43 (Enc.cells (ix d.Buckets t69q7)))] 3 (by kernel_rfl) ?_
            refine wk_id ?_
            refine seq_np ?_
            refine cond_sx h (by kernel_rfl) (fun g1436 h=>?_) (fun g1436 h=>?_)
            ·refine wk_id ?_
             refine seq_np ?_
             refine block_np ?_
             refine chk_sx h (fun g1411 h=>?_)
             refine seq_np ?_
             refine reg_f ?_
             have k1410:0≤t128q31∧t128q31 < (((ix d.Buckets t69q7).Items.length:Nat):Int):=by first | simpa only [Bool.and_eq_true,decide_eq_true_eq,bne_iff_ne,ne_eq] using g1411 | (simp at g1411 ⊢; omega)
             refine rs 6 [none,some ⟨.iptr (fl (ix d.Buckets t69q7).Items) ((t128q31).toNat * 2),[],3,[]⟩,some ⟨.agg (Enc.cells (ix (ix d.Buckets t69q7).Items t128q31)),[],3,[]⟩] _ (by kernel_rfl) (allP_cons (ob_ldw (ix d.Buckets t69q7).Items t128q31 2 ((t128q31).toNat * 2) k1410 rfl (by first | rfl | omega) [iS (ix (ix d.Buckets t69q7).Items t128q31).Key,iS (ix (ix d.Buckets t69q7).Items t128q31).Value] rfl 3 []) (allP_cons (ob_ix_l (ix d.Buckets t69q7).Items 2 3 t128q31 k1410) allP_nil)) ?_
             refine rf [(1,.ptr 0 0),(2,.ptr 1 0),(6,iS t69q7),(7,.ptr 2 0),(8,iS first47),(11,iS t128q31),(12,.ptr 3 0),(67,.sl d.Buckets.length (fl d.Buckets)),(68,iS ((d.Buckets.length:Nat):Int)),(69,iS t69q7),(126,.sl (ix d.Buckets t69q7).Items.length (fl (ix d.Buckets t69q7).Items)),(127,iS (((ix d.Buckets t69q7).Items.length:Nat):Int)),(128,iS t128q31)] [(0,.row 26 (Enc.cells d)),(1,.row 29 [iS 0,iS 0]),(2,.row 43 (Enc.cells (ix d.Buckets t69q7))),(3,.row 45 (Enc.cells (ix (ix d.Buckets t69q7).Items t128q31)))] 4 (by kernel_rfl) ?_
             refine wk_id ?_
             refine seq_np ?_
             refine seq_np ?_
             refine reg_t ?_
             refine rs 4 [] [] (by kernel_rfl) allP_nil ?_
             obtain ⟨r1418,hr1418,h⟩:=bind_sx h
             refine run_call 32 [iS (ix (ix d.Buckets t69q7).Items t128q31).Key,iS (ix d.Buckets t69q7).Depth] (some 137) (by kernel_rfl) ?_
             refine callE_0 (dict_last_spec (ix (ix d.Buckets t69q7).Items t128q31).Key (ix d.Buckets t69q7).Depth r1418 hr1418) (by simp only [push_cast,seval]) (by simp only [push_cast,seval]) ?_
             refine back_t ?_
             refine rs 3 [] [] (by kernel_rfl) allP_nil ?_
             obtain ⟨r1419,hr1419,h⟩:=bind_sx h
             refine run_call 32 [iS first47,iS (ix d.Buckets t69q7).Depth] (some 141) (by kernel_rfl) ?_
             refine callE_0 (dict_last_spec first47 (ix d.Buckets t69q7).Depth r1419 hr1419) (by simp only [push_cast,seval]) (by simp only [push_cast,seval]) ?_
             refine back_t ?_
             refine rs 1 [] [] (by kernel_rfl) allP_nil ?_
             refine rt [(1,.ptr 0 0),(2,.ptr 1 0),(6,iS t69q7),(7,.ptr 2 0),(8,iS first47),(11,iS t128q31),(12,.ptr 3 0),(67,.sl d.Buckets.length (fl d.Buckets)),(68,iS ((d.Buckets.length:Nat):Int)),(69,iS t69q7),(126,.sl (ix d.Buckets t69q7).Items.length (fl (ix d.Buckets t69q7).Items)),(127,iS (((ix d.Buckets t69q7).Items.length:Nat):Int)),(128,iS t128q31),(142,bS (r1418 != r1419))] [(0,.row 26 (Enc.cells d)),(1,.row 29 [iS 0,iS 0]),(2,.row 43 (Enc.cells (ix d.Buckets t69q7))),(3,.row 45 (Enc.cells (ix (ix d.Buckets t69q7).Items t128q31)))] 14 follows (by kernel_rfl) ?_
             refine wk_id ?_
             refine cond_sx h (by kernel_rfl) (fun g1432 h=>?_) (fun g1432 h=>?_)
             ·refine seq_np ?_
              refine reg_f ?_
              refine rs 1 [] [] (by kernel_rfl) allP_nil ?_
              obtain ⟨r1421,hr1421,h⟩:=bind_sx h
              refine run_call 29 [iS 11,iS t69q7] (some 144) (by kernel_rfl) ?_
              refine call_0 (dict_fault_spec 11 t69q7 r1421 hr1421) (by simp only [push_cast,seval]) (by simp only [push_cast,seval]) ?_
              refine back_f ?_
              refine rs 1 [] [] (by kernel_rfl) allP_nil ?_
              refine rf [(2,.ptr 1 0)] [(0,.row 26 (Enc.cells d)),(1,.row 29 (Enc.cells r1421)),(2,.row 43 (Enc.cells (ix d.Buckets t69q7))),(3,.row 45 (Enc.cells (ix (ix d.Buckets t69q7).Items t128q31)))] 14 (by kernel_rfl) ?_
              refine wk_id ?_
              refine rt_cast ht8 ?_
              obtain ⟨r0,h,e0⟩:=map_sx h
              have e1:=hr8 r0 e0.symm
              subst r0
              refine rt_cast ht6 ?_
              obtain ⟨r0,h,e0⟩:=map_sx h
              have e1:=hr6 r0 e0.symm
              subst r0
              obtain rfl:=Option.some.inj h
              refine ret_at (.agg (Enc.cells r1421)) (by kernel_rfl) ?_
              exact ret_e [] [] (by simp only [push_cast,seval]) (by simp only [push_cast,seval]) rfl rfl rfl
             ·refine wk_id ?_
              refine chk_sx h (fun g1428 h=>?_)
              refine seq_cut (A:=Unit) (fun _=>([(1,.ptr 0 0),(2,.ptr 1 0),(6,iS t69q7),(7,.ptr 2 0),(8,iS first47),(67,.sl d.Buckets.length (fl d.Buckets)),(68,iS ((d.Buckets.length:Nat):Int)),(69,iS t69q7),(126,.sl (ix d.Buckets t69q7).Items.length (fl (ix d.Buckets t69q7).Items)),(127,iS (((ix d.Buckets t69q7).Items.length:Nat):Int)),(128,iS t128q31),(158,bS ((decide ((0:Int) < t128q31)) && (decide ((ix (ix d.Buckets t69q7).Items t128q31).Key≤(ix (ix d.Buckets t69q7).Items (IntKind.i64.wrap (t128q31 - 1))).Key))))],[(0,.row 26 (Enc.cells d)),(1,.row 29 [iS 0,iS 0]),(2,.row 43 (Enc.cells (ix d.Buckets t69q7))),(3,.row 45 (Enc.cells (ix (ix d.Buckets t69q7).Items t128q31)))],28)) (fun _=>True) (fun K1425 hK1425=>?_) (fun _ _=>?_)
              ·refine reg_t ?_
               refine rs 3 [] [] (by kernel_rfl) allP_nil ?_
               refine run_split 147 (decide ((0:Int) < t128q31)) (.inl (by kernel_rfl)) (fun g1426=>?_) (fun g1426=>?_)
               ·have k1427:0≤(IntKind.i64.wrap (t128q31 - 1))∧(IntKind.i64.wrap (t128q31 - 1)) < (((ix d.Buckets t69q7).Items.length:Nat):Int):=by have e:=or_use g1428 (by first | ((try simp only [g1426]) <;> rfl) | ((try simp only [g1426]); rfl) | (exfalso; clear h; simp_all; done)); first | simpa only [Bool.and_eq_true,decide_eq_true_eq,bne_iff_ne,ne_eq] using e | (simp at e ⊢; omega)
                refine rs 11 [none,none,none,none,some ⟨.iptr (fl (ix d.Buckets t69q7).Items) (((IntKind.i64.wrap (t128q31 - 1))).toNat * 2),[],21,[]⟩,none,some ⟨iS (ix (ix d.Buckets t69q7).Items (IntKind.i64.wrap (t128q31 - 1))).Key,[],23,[]⟩] _ (by kernel_rfl) (allP_cons (ob_ld (ix d.Buckets t69q7).Items (IntKind.i64.wrap (t128q31 - 1)) 2 0 ((((IntKind.i64.wrap (t128q31 - 1))).toNat * 2) + 0) k1427 rfl (by decide) (by first | rfl | omega) (dflS Try.prog 3) (iS (ix (ix d.Buckets t69q7).Items (IntKind.i64.wrap (t128q31 - 1))).Key) rfl 23 []) (allP_cons (ob_ix_l (ix d.Buckets t69q7).Items 2 21 (IntKind.i64.wrap (t128q31 - 1)) k1427) allP_nil)) ?_
                refine rt [(1,.ptr 0 0),(2,.ptr 1 0),(6,iS t69q7),(7,.ptr 2 0),(8,iS first47),(67,.sl d.Buckets.length (fl d.Buckets)),(68,iS ((d.Buckets.length:Nat):Int)),(69,iS t69q7),(126,.sl (ix d.Buckets t69q7).Items.length (fl (ix d.Buckets t69q7).Items)),(127,iS (((ix d.Buckets t69q7).Items.length:Nat):Int)),(128,iS t128q31),(158,bS (decide ((ix (ix d.Buckets t69q7).Items t128q31).Key≤(ix (ix d.Buckets t69q7).Items (IntKind.i64.wrap (t128q31 - 1))).Key)))] [(0,.row 26 (Enc.cells d)),(1,.row 29 [iS 0,iS 0]),(2,.row 43 (Enc.cells (ix d.Buckets t69q7))),(3,.row 45 (Enc.cells (ix (ix d.Buckets t69q7).Items t128q31)))] 28 follows (by kernel_rfl) ?_
                exact hK1425 () _ _ _ trivial (leSt_m [(0,0),(1,1),(2,2),(3,3)] [] (by (try simp only [g1426]) <;> simp only [push_cast,seval]) (by (try simp only [g1426]) <;> simp only [push_cast,seval]) rfl rfl rfl)
               ·refine rs 11 [] [] (by kernel_rfl) allP_nil ?_
                refine rt [(1,.ptr 0 0),(2,.ptr 1 0),(6,iS t69q7),(7,.ptr 2 0),(8,iS first47),(67,.sl d.Buckets.length (fl d.Buckets)),(68,iS ((d.Buckets.length:Nat):Int)),(69,iS t69q7),(126,.sl (ix d.Buckets t69q7).Items.length (fl (ix d.Buckets t69q7).Items)),(127,iS (((ix d.Buckets t69q7).Items.length:Nat):Int)),(128,iS t128q31),(158,bS false)] [(0,.row 26 (Enc.cells d)),(1,.row 29 [iS 0,iS 0]),(2,.row 43 (Enc.cells (ix d.Buckets t69q7))),(3,.row 45 (Enc.cells (ix (ix d.Buckets t69q7).Items t128q31)))] 28 follows (by kernel_rfl) ?_
                exact hK1425 () _ _ _ trivial (leSt_m [(0,0),(1,1),(2,2),(3,3)] [] (by (try simp only [g1426]) <;> simp only [push_cast,seval]) (by (try simp only [g1426]) <;> simp only [push_cast,seval]) rfl rfl rfl)
              ·dsimp only
               refine cond_sx h (by kernel_rfl) (fun g1431 h=>?_) (fun g1431 h=>?_)
               ·refine seq_np ?_
                refine reg_f ?_
                refine rs 1 [] [] (by kernel_rfl) allP_nil ?_
                obtain ⟨r1430,hr1430,h⟩:=bind_sx h
                refine run_call 29 [iS 10,iS t69q7] (some 160) (by kernel_rfl) ?_
                refine call_0 (dict_fault_spec 10 t69q7 r1430 hr1430) (by simp only [push_cast,seval]) (by simp only [push_cast,seval]) ?_
                refine back_f ?_
                refine rs 1 [] [] (by kernel_rfl) allP_nil ?_
                refine rf [(2,.ptr 1 0)] [(0,.row 26 (Enc.cells d)),(1,.row 29 (Enc.cells r1430)),(2,.row 43 (Enc.cells (ix d.Buckets t69q7))),(3,.row 45 (Enc.cells (ix (ix d.Buckets t69q7).Items t128q31)))] 28 (by kernel_rfl) ?_
                refine wk_id ?_
                refine rt_cast ht8 ?_
                obtain ⟨r0,h,e0⟩:=map_sx h
                have e1:=hr8 r0 e0.symm
                subst r0
                refine rt_cast ht6 ?_
                obtain ⟨r0,h,e0⟩:=map_sx h
                have e1:=hr6 r0 e0.symm
                subst r0
                obtain rfl:=Option.some.inj h
                refine ret_at (.agg (Enc.cells r1430)) (by kernel_rfl) ?_
                exact ret_e [] [] (by simp only [push_cast,seval]) (by simp only [push_cast,seval]) rfl rfl rfl
               ·refine wk_id ?_
                refine wk_id ?_
                refine reg_f ?_
                refine rs 2 [] [] (by kernel_rfl) allP_nil ?_
                refine rf [(1,.ptr 0 0),(2,.ptr 1 0),(6,iS t69q7),(7,.ptr 2 0),(8,iS first47),(67,.sl d.Buckets.length (fl d.Buckets)),(68,iS ((d.Buckets.length:Nat):Int)),(69,iS t69q7),(126,.sl (ix d.Buckets t69q7).Items.length (fl (ix d.Buckets t69q7).Items)),(127,iS (((ix d.Buckets t69q7).Items.length:Nat):Int)),(128,iS (IntKind.i64.wrap (t128q31 + 1)))] [(0,.row 26 (Enc.cells d)),(1,.row 29 [iS 0,iS 0]),(2,.row 43 (Enc.cells (ix d.Buckets t69q7))),(3,.row 45 (Enc.cells (ix (ix d.Buckets t69q7).Items t128q31)))] 28 (by kernel_rfl) ?_
                exact hn8 ((IntKind.i64.wrap (t128q31 + 1))) _ _ _ (Option.some.inj h).symm (leSt_m [(0,0),(1,1),(2,2)] [] (by simp only [push_cast,seval]) (by simp only [push_cast,seval]) rfl rfl rfl)
            ·change R8 (.exit 6) _ _ _
             refine ex_cast hx8 (id:=6) ?_
             obtain ⟨r0,h,e0⟩:=map_sx h
             have e1:=hr8 r0 e0.symm
             subst r0
             refine wk_id ?_
             refine wk_id ?_
             refine seq_np ?_
             refine reg_f ?_
             refine rs 4 [] [] (by kernel_rfl) allP_nil ?_
             refine rf [(1,.ptr 0 0),(2,.ptr 1 0),(6,iS t69q7),(67,.sl d.Buckets.length (fl d.Buckets)),(68,iS ((d.Buckets.length:Nat):Int)),(69,iS t69q7),(165,bS (decide ((5000:Int) < (((ix d.Buckets t69q7).Items.length:Nat):Int))))] [(0,.row 26 (Enc.cells d)),(1,.row 29 [iS 0,iS 0]),(2,.row 43 (Enc.cells (ix d.Buckets t69q7)))] 3 (by kernel_rfl) ?_
             refine wk_id ?_
             refine cond_sx h (by kernel_rfl) (fun g1435 h=>?_) (fun g1435 h=>?_)
             ·refine seq_np ?_
              refine reg_f ?_
              refine rs 1 [] [] (by kernel_rfl) allP_nil ?_
              obtain ⟨r1434,hr1434,h⟩:=bind_sx h
              refine run_call 29 [iS 9,iS t69q7] (some 167) (by kernel_rfl) ?_
              refine call_0 (dict_fault_spec 9 t69q7 r1434 hr1434) (by simp only [push_cast,seval]) (by simp only [push_cast,seval]) ?_
              refine back_f ?_
              refine rs 1 [] [] (by kernel_rfl) allP_nil ?_
              refine rf [(2,.ptr 1 0)] [(0,.row 26 (Enc.cells d)),(1,.row 29 (Enc.cells r1434)),(2,.row 43 (Enc.cells (ix d.Buckets t69q7)))] 3 (by kernel_rfl) ?_
              refine wk_id ?_
              refine rt_cast ht6 ?_
              obtain ⟨r0,h,e0⟩:=map_sx h
              have e1:=hr6 r0 e0.symm
              subst r0
              obtain rfl:=Option.some.inj h
              refine ret_at (.agg (Enc.cells r1434)) (by kernel_rfl) ?_
              exact ret_e [] [] (by simp only [push_cast,seval]) (by simp only [push_cast,seval]) rfl rfl rfl
             ·refine wk_id ?_
              refine wk_id ?_
              refine reg_f ?_
              refine rs 2 [] [] (by kernel_rfl) allP_nil ?_
              refine rf [(1,.ptr 0 0),(2,.ptr 1 0),(67,.sl d.Buckets.length (fl d.Buckets)),(68,iS ((d.Buckets.length:Nat):Int)),(69,iS (IntKind.i64.wrap (t69q7 + 1)))] [(0,.row 26 (Enc.cells d)),(1,.row 29 [iS 0,iS 0]),(2,.row 43 (Enc.cells (ix d.Buckets t69q7)))] 3 (by kernel_rfl) ?_
              exact hn6 ((IntKind.i64.wrap (t69q7 + 1))) _ _ _ (Option.some.inj h).symm (leSt_m [(0,0),(1,1)] [] (by simp only [push_cast,seval]) (by simp only [push_cast,seval]) rfl rfl rfl)
      ·change R6 (.exit 2) _ _ _
       refine ex_cast hx6 (id:=2) ?_
       obtain ⟨r0,h,e0⟩:=map_sx h
       have e1:=hr6 r0 e0.symm
       subst r0
       refine wk_id ?_
       refine wk_id ?_
       refine seq_np ?_
       refine seq_cut (A:=Bool) (fun a=>([(2,.ptr 0 0),(178,bS a)],[(0,.row 29 [iS 0,iS 0])],1)) (fun a=>(dict_Check_j2 a) = some r) (fun K1449 hK1449=>?_) ?_
       ·refine reg_f ?_
        refine rs 4 [] [] (by kernel_rfl) allP_nil ?_
        refine run_br h 172 (.inl (by kernel_rfl)) (fun g1450 h=>?_) (fun g1450 h=>?_)
        ·refine rs 3 [] [] (by kernel_rfl) allP_nil ?_
         obtain ⟨r1451,hr1451,h⟩:=bind_sx h
         refine call_x (slices_ContainsFunc_Bucket_spec d.Buckets d r1451 hr1451) (args:=[.sl d.Buckets.length (fl d.Buckets),.clo 40 [.ptr 0 0]]) (dst:=(some 176)) (by kernel_rfl) [(0,.row 26 (Enc.cells d)),(1,.row 29 [iS 0,iS 0])] 2 (by kernel_rfl) [] [0] (bS r1451) [] (by simp only [push_cast,seval]) (by simp only [push_cast,seval]) (by kernel_rfl) (.inr ⟨by simp only [push_cast,seval],by simp only [push_cast,seval]⟩) (by simp only [push_cast,seval]) (by simp only [push_cast,seval]) ?_
         refine rs 2 [] [] (by kernel_rfl) allP_nil ?_
         refine rf [(2,.ptr 1 0),(178,bS (!r1451))] [(0,.row 26 (Enc.cells d)),(1,.row 29 [iS 0,iS 0])] 2 (by kernel_rfl) ?_
         exact hK1449 ((!r1451)) _ _ _ h (leSt_m [(0,1)] [] (by (try simp only [g1450]) <;> simp only [push_cast,seval]) (by (try simp only [g1450]) <;> simp only [push_cast,seval]) rfl rfl rfl)
        ·refine rs 6 [] [] (by kernel_rfl) allP_nil ?_
         refine rf [(2,.ptr 1 0),(178,bS false)] [(0,.row 26 (Enc.cells d)),(1,.row 29 [iS 0,iS 0])] 2 (by kernel_rfl) ?_
         exact hK1449 (false) _ _ _ h (leSt_m [(0,1)] [] (by (try simp only [g1450]) <;> simp only [push_cast,seval]) (by (try simp only [g1450]) <;> simp only [push_cast,seval]) rfl rfl rfl)
       ·rintro t178q2 h
        try dsimp only at h ⊢
        unfold dict_Check_j2 at h
        refine cond_sx h (by kernel_rfl) (fun g1454 h=>?_) (fun g1454 h=>?_)
        ·refine seq_np ?_
         refine reg_f ?_
         obtain ⟨r1453,hr1453,h⟩:=bind_sx h
         refine run_call 29 [iS 7,iS (-1)] (some 179) (by kernel_rfl) ?_
         refine call_0 (dict_fault_spec 7 (-1) r1453 hr1453) (by simp only [push_cast,seval]) (by simp only [push_cast,seval]) ?_
         refine back_f ?_
         refine rs 1 [] [] (by kernel_rfl) allP_nil ?_
         refine rf [(2,.ptr 0 0)] [(0,.row 29 (Enc.cells r1453))] 1 (by kernel_rfl) ?_
         refine wk_id ?_
         obtain rfl:=Option.some.inj h
         refine ret_at (.agg (Enc.cells r1453)) (by kernel_rfl) ?_
         exact ret_e [] [] (by simp only [push_cast,seval]) (by simp only [push_cast,seval]) rfl rfl rfl
        ·refine wk_id ?_
         refine seq_np ?_
         refine reg_f ?_
         refine rs 2 [] [] (by kernel_rfl) allP_nil ?_
         refine rf [(2,.ptr 0 0)] [(0,.row 29 [iS 0,iS 0])] 1 (by kernel_rfl) ?_
         refine wk_id ?_
         obtain rfl:=Option.some.inj h
         refine ret_at (.agg [iS 0,iS 0]) (by kernel_rfl) ?_
         exact ret_e [] [] (by simp only [push_cast,seval]) (by simp only [push_cast,seval]) rfl rfl rfl

set_option maxRecDepth 100000 in
set_option maxHeartbeats 200000000 in
theorem slices_Clone_int_spec (s:(List Int)) (r:(List Int)) (h:slices_Clone_int s = some r):SpecW Try.prog 43 [.sl s.length (fl s)] [] 0 (fun x h n=>x = .own 0 0 r.length∧h = [(0,.row 3 (fl r))]∧n = 1):=by
 unfold slices_Clone_int at h
 refine spec_of (draw_ok _) Try.func43 rfl (by decide) rfl (by kernel_rfl) ?_
 refine seq_np ?_
 refine reg_f ?_
 refine rs 1 [] [] (by kernel_rfl) allP_nil ?_
 refine rf [(0,.sl s.length (fl s))] [] 0 (by kernel_rfl) ?_
 refine wk_id ?_
 refine seq_np ?_
 refine seq_np ?_
 refine reg_f ?_
 refine rs 1 [] [] (by kernel_rfl) allP_nil ?_
 refine run_nil s.length (some 4) (by kernel_rfl) (fun g1468=>?_) ?_
 ·obtain rfl:s = []:=List.eq_nil_of_length_eq_zero g1468
  replace h:(some ([])) = some r:=by simpa using h
  refine rf [(0,.sl ([]:List Int).length (fl ([]:List Int))),(4,bS true)] [] 0 (by kernel_rfl) ?_
  refine wk_id ?_
  refine cond_t (by kernel_rfl) ?_
  refine seq_np ?_
  refine reg_f ?_
  refine rs 1 [] [] (by kernel_rfl) allP_nil ?_
  refine rf [(2,.v (.slice none 0 0))] [] 0 (by kernel_rfl) ?_
  refine wk_id ?_
  obtain rfl:=Option.some.inj h
  refine ret_at (.v (.slice none 0 0)) (by kernel_rfl) ?_
  exact ret_e [] [] (by simp only [push_cast,seval]) (by simp only [push_cast,seval]) rfl rfl rfl
 ·refine rf [(0,.sl s.length (fl s)),(4,bS false)] [] 0 (by kernel_rfl) ?_
  refine wk_id ?_
  refine cond_f (by kernel_rfl) ?_
  refine wk_id ?_
  refine chk_sx h (fun g1467 h=>?_)
  refine seq_np ?_
  refine reg_f ?_
  refine run_mk0 Int (some 5) 3 (by kernel_rfl) ?_
  have k1466:(([]:List Int) ++ s).length * 8≤140737488355328:=by first | simpa only [Bool.and_eq_true,decide_eq_true_eq,bne_iff_ne,ne_eq] using g1467 | (simp at g1467 ⊢; omega)
  refine rs 3 [none,some ⟨.own 1 0 (([]:List Int) ++ s).length,[(1,.row 3 (fl (([]:List Int) ++ s))),(0,.dead)],2,[0]⟩] _ (by kernel_rfl) (allP_cons (ob_app (P:=Try.prog) ([]:List Int) s 1 8 rfl (fl s) s.length rfl rfl ((fl s).length = s.length * 1) (app_sl s 1 rfl) 3 (by kernel_rfl) (by decide) k1466 0 1 []) allP_nil) ?_
  refine rf [(2,.own 1 0 (([]:List Int) ++ s).length)] [(0,.dead),(1,.row 3 (fl (([]:List Int) ++ s)))] 2 (by kernel_rfl) ?_
  refine wk_id ?_
  obtain rfl:=Option.some.inj h
  refine ret_at (.own 1 0 (([]:List Int) ++ s).length) (by kernel_rfl) ?_
  exact ret_e [(0,1)] [] (by simp only [push_cast,seval]) (by simp only [push_cast,seval]) rfl rfl rfl

set_option maxRecDepth 100000 in
set_option maxHeartbeats 200000000 in
theorem slices_Clone_Item_spec (s:(List GItem)) (r:(List GItem)) (h:slices_Clone_Item s = some r):SpecW Try.prog 44 [.sl s.length (fl s)] [] 0 (fun x h n=>x = .own 0 0 r.length∧h = [(0,.row 45 (fl r))]∧n = 1):=by
 unfold slices_Clone_Item at h
 refine spec_of (draw_ok _) Try.func44 rfl (by decide) rfl (by kernel_rfl) ?_
 refine seq_np ?_
 refine reg_f ?_
 refine rs 1 [] [] (by kernel_rfl) allP_nil ?_
 refine rf [(0,.sl s.length (fl s))] [] 0 (by kernel_rfl) ?_
 refine wk_id ?_
 refine seq_np ?_
 refine seq_np ?_
 refine reg_f ?_
 refine rs 1 [] [] (by kernel_rfl) allP_nil ?_
 refine run_nil s.length (some 4) (by kernel_rfl) (fun g1479=>?_) ?_
 ·obtain rfl:s = []:=List.eq_nil_of_length_eq_zero g1479
  replace h:(some ([])) = some r:=by simpa using h
  refine rf [(0,.sl ([]:List GItem).length (fl ([]:List GItem))),(4,bS true)] [] 0 (by kernel_rfl) ?_
  refine wk_id ?_
  refine cond_t (by kernel_rfl) ?_
  refine seq_np ?_
  refine reg_f ?_
  refine rs 1 [] [] (by kernel_rfl) allP_nil ?_
  refine rf [(2,.v (.slice none 0 0))] [] 0 (by kernel_rfl) ?_
  refine wk_id ?_
  obtain rfl:=Option.some.inj h
  refine ret_at (.v (.slice none 0 0)) (by kernel_rfl) ?_
  exact ret_e [] [] (by simp only [push_cast,seval]) (by simp only [push_cast,seval]) rfl rfl rfl
 ·refine rf [(0,.sl s.length (fl s)),(4,bS false)] [] 0 (by kernel_rfl) ?_
  refine wk_id ?_
  refine cond_f (by kernel_rfl) ?_
  refine wk_id ?_
  refine chk_sx h (fun g1478 h=>?_)
  refine seq_np ?_
  refine reg_f ?_
  refine run_mk0 GItem (some 5) 45 (by kernel_rfl) ?_
  have k1477:(([]:List GItem) ++ s).length * 16≤140737488355328:=by first | simpa only [Bool.and_eq_true,decide_eq_true_eq,bne_iff_ne,ne_eq] using g1478 | (simp at g1478 ⊢; omega)
  refine rs 3 [none,some ⟨.own 1 0 (([]:List GItem) ++ s).length,[(1,.row 45 (fl (([]:List GItem) ++ s))),(0,.dead)],2,[0]⟩] _ (by kernel_rfl) (allP_cons (ob_app (P:=Try.prog) ([]:List GItem) s 2 16 rfl (fl s) s.length rfl rfl ((fl s).length = s.length * 2) (app_sl s 2 rfl) 45 (by kernel_rfl) (by decide) k1477 0 1 []) allP_nil) ?_
  refine rf [(2,.own 1 0 (([]:List GItem) ++ s).length)] [(0,.dead),(1,.row 45 (fl (([]:List GItem) ++ s)))] 2 (by kernel_rfl) ?_
  refine wk_id ?_
  obtain rfl:=Option.some.inj h
  refine ret_at (.own 1 0 (([]:List GItem) ++ s).length) (by kernel_rfl) ?_
  exact ret_e [(0,1)] [] (by simp only [push_cast,seval]) (by simp only [push_cast,seval]) rfl rfl rfl

set_option maxRecDepth 100000 in
set_option maxHeartbeats 200000000 in
theorem dict_copied_spec (d:Dict) (r:Int × (List Int) × (List Bucket)) (h:dict_copied d = some r):SpecW Try.prog 27 [.agg (Enc.cells d)] [] 0 (fun x h n=>x = .ptr 0 0∧h = [(0,.row 26 [iS r.1,.own 1 0 r.2.1.length,.own 2 0 r.2.2.length]),(1,.row 3 (fl r.2.1)),(2,.row 43 (flD dBucket [3] r.2.2)),((.s 3 0),.fam (famD dBucket 0 r.2.2))]∧n = 4):=by
 unfold dict_copied at h
 refine spec_of (draw_ok _) Try.func27 rfl (by decide) rfl (by kernel_rfl) ?_
 refine seq_np ?_
 refine reg_f ?_
 refine rs 2 [] [] (by kernel_rfl) allP_nil ?_
 refine rf [(1,.ptr 0 0)] [(0,.row 26 (Enc.cells d))] 1 (by kernel_rfl) ?_
 refine wk_id ?_
 refine seq_np ?_
 refine reg_t ?_
 refine rs 4 [] [] (by kernel_rfl) allP_nil ?_
 obtain ⟨r1497,hr1497,h⟩:=bind_sx h
 refine call_x (slices_Clone_int_spec d.Places r1497 hr1497) (args:=[.sl d.Places.length (fl d.Places)]) (dst:=(some 10)) (by kernel_rfl) [(0,.row 26 (Enc.cells d))] 5 (by kernel_rfl) [] [] (.own 5 0 r1497.length) [(5,.row 3 (fl r1497))] (by simp only [push_cast,leL_flD,renL_flD,seval]) (by simp only [push_cast,leL_flD,renL_flD,seval]) (by kernel_rfl) (.inl rfl) (by simp only [push_cast,leL_flD,renL_flD,seval]) (by simp only [push_cast,leL_flD,renL_flD,seval]) ?_
 refine rs 3 [] [] (by kernel_rfl) allP_nil ?_
 refine rt [(1,.ptr 0 0),(3,.ptr 8 0)] [(0,.row 26 (Enc.cells d)),(5,.row 3 (fl r1497)),(8,.row 26 [iS d.Depth,.own 5 0 r1497.length,.v (.slice none 0 0)])] 11 follows (by kernel_rfl) ?_
 refine wk_id ?_
 refine seq_np ?_
 refine seq_np ?_
 refine reg_f ?_
 refine rs 4 [] [] (by kernel_rfl) allP_nil ?_
 refine rf [(3,.ptr 8 0),(14,.sl d.Buckets.length (fl d.Buckets)),(15,iS ((d.Buckets.length:Nat):Int)),(16,iS 0)] [(0,.row 26 (Enc.cells d)),(5,.row 3 (fl r1497)),(8,.row 26 [iS d.Depth,.own 5 0 r1497.length,.v (.slice none 0 0)])] 11 (by kernel_rfl) ?_
 refine wk_id ?_
 refine block_np ?_
 refine loop_sx (S:=Int × (List Int) × (List Bucket)) (fun a=>([(3,.ptr 0 0),(14,.sl d.Buckets.length (fl d.Buckets)),(15,iS ((d.Buckets.length:Nat):Int)),(16,iS a.1)],[(0,.row 26 [iS d.Depth,.own 1 0 a.2.1.length,.own 2 0 a.2.2.length]),(1,.row 3 (fl a.2.1)),(2,.row 43 (flD dBucket [3] a.2.2)),((.s 3 0),.fam (famD dBucket 0 a.2.2))],4)) h (leSt_m [(0,8),(1,5)] [] (by simp only [push_cast,leL_flD,renL_flD,seval]) (by simp only [push_cast,leL_flD,renL_flD,seval]) rfl rfl rfl) ?_
 rintro ⟨t16q7,c1q12,c2q8⟩ o2 R2 h hr2 hn2 hx2 ht2
 try dsimp only at h hn2 ⊢
 unfold dict_copied_l1 at h
 try dsimp only at h
 refine seq_np ?_
 refine reg_f ?_
 refine rs 1 [] [] (by kernel_rfl) allP_nil ?_
 refine rf [(3,.ptr 0 0),(14,.sl d.Buckets.length (fl d.Buckets)),(15,iS ((d.Buckets.length:Nat):Int)),(16,iS t16q7),(17,bS (decide (t16q7 < ((d.Buckets.length:Nat):Int))))] [(0,.row 26 [iS d.Depth,.own 1 0 c1q12.length,.own 2 0 c2q8.length]),(1,.row 3 (fl c1q12)),(2,.row 43 (flD dBucket [3] c2q8)),((.s 3 0),.fam (famD dBucket 0 c2q8))] 4 (by kernel_rfl) ?_
 refine wk_id ?_
 refine seq_np ?_
 refine cond_sx h (by kernel_rfl) (fun g1570 h=>?_) (fun g1570 h=>?_)
 ·refine wk_id ?_
  refine seq_np ?_
  refine block_np ?_
  refine chk_sx h (fun g1563 h=>?_)
  refine seq_np ?_
  refine reg_f ?_
  have k1562:0≤t16q7∧t16q7 < ((d.Buckets.length:Nat):Int):=by first | simpa only [Bool.and_eq_true,decide_eq_true_eq,bne_iff_ne,ne_eq] using g1563 | (simp at g1563 ⊢; omega)
  refine rs 4 [some ⟨.iptr (fl d.Buckets) ((t16q7).toNat * 2),[],4,[]⟩,some ⟨.agg (Enc.cells (ix d.Buckets t16q7)),[],4,[]⟩] _ (by kernel_rfl) (allP_cons (ob_ldw d.Buckets t16q7 2 ((t16q7).toNat * 2) k1562 rfl (by first | rfl | omega) [iS (ix d.Buckets t16q7).Depth,.sl (ix d.Buckets t16q7).Items.length (fl (ix d.Buckets t16q7).Items)] rfl 4 []) (allP_cons (ob_ix_l d.Buckets 2 4 t16q7 k1562) allP_nil)) ?_
  refine rf [(3,.ptr 0 0),(5,.ptr 4 0),(14,.sl d.Buckets.length (fl d.Buckets)),(15,iS ((d.Buckets.length:Nat):Int)),(16,iS t16q7)] [(0,.row 26 [iS d.Depth,.own 1 0 c1q12.length,.own 2 0 c2q8.length]),(1,.row 3 (fl c1q12)),(2,.row 43 (flD dBucket [3] c2q8)),((.s 3 0),.fam (famD dBucket 0 c2q8)),(4,.row 43 (Enc.cells (ix d.Buckets t16q7)))] 5 (by kernel_rfl) ?_
  refine wk_id ?_
  refine reg_t ?_
  refine rs 9 [] [] (by kernel_rfl) allP_nil ?_
  obtain ⟨r1567,hr1567,h⟩:=bind_sx h
  refine call_x (slices_Clone_Item_spec (ix d.Buckets t16q7).Items r1567 hr1567) (args:=[.sl (ix d.Buckets t16q7).Items.length (fl (ix d.Buckets t16q7).Items)]) (dst:=(some 29)) (by kernel_rfl) [(0,.row 26 [iS d.Depth,.own 1 0 c1q12.length,.own 2 0 c2q8.length]),(1,.row 3 (fl c1q12)),(2,.row 43 (flD dBucket [3] c2q8)),((.s 3 0),.fam (famD dBucket 0 c2q8)),(4,.row 43 (Enc.cells (ix d.Buckets t16q7)))] 14 (by kernel_rfl) [] [] (.own 14 0 r1567.length) [(14,.row 45 (fl r1567))] (by simp only [push_cast,leL_flD,renL_flD,seval]) (by simp only [push_cast,leL_flD,renL_flD,seval]) (by kernel_rfl) (.inl rfl) (by simp only [push_cast,leL_flD,renL_flD,seval]) (by simp only [push_cast,leL_flD,renL_flD,seval]) ?_
  refine chk_sx h (fun g1569 h=>?_)
  have k1568:(c2q8 ++ [(Bucket.mk (ix d.Buckets t16q7).Depth r1567)]).length * 32≤140737488355328:=by first | simpa only [Bool.and_eq_true,decide_eq_true_eq,bne_iff_ne,ne_eq] using g1569 | (simp at g1569 ⊢; omega)
  refine rs 2 [] [] (by kernel_rfl) allP_nil ?_
  refine run_opG (some 32) _ ⟨.own 19 0 (c2q8 ++ [(Bucket.mk (ix d.Buckets t16q7).Depth r1567)]).length,[(19,.row 43 (flN dBucket (nA [(some 3)] [(some (Nm.t 14))] ((c2q8.length:Nat):Int)) 0 (c2q8 ++ [(Bucket.mk (ix d.Buckets t16q7).Depth r1567)]))),(2,.dead)],20,[2,17]⟩ [((.s 20 0),.fam (famD dBucket 0 (c2q8 ++ [(Bucket.mk (ix d.Buckets t16q7).Depth r1567)]))),(19,.row 43 (flD dBucket [20] (c2q8 ++ [(Bucket.mk (ix d.Buckets t16q7).Depth r1567)]))),((.s 3 0),.dead),(14,.dead)] 1 [19,(.s 3 0),14] [(.s 3 0),14] (by kernel_rfl) (ob_appN (P:=Try.prog) dBucket [3] [(some (Nm.t 14))] c2q8 (Bucket.mk (ix d.Buckets t16q7).Depth r1567) 2 32 rfl (appCells ([iS (ix d.Buckets t16q7).Depth,.own 14 0 r1567.length]:List SV) 0 (1 * 2)) rfl rfl rfl (0 + 1 * 2≤([iS (ix d.Buckets t16q7).Depth,.own 14 0 r1567.length]:List SV).length) (by first | exact (Nat.le_of_ble_eq_true rfl:0 + 1 * 2≤([iS (ix d.Buckets t16q7).Depth,.own 14 0 r1567.length]:List SV).length) | decide) 43 (by kernel_rfl) (by decide) k1568 2 19 [17]) (ghost_A 20 dBucket (c2q8 ++ [(Bucket.mk (ix d.Buckets t16q7).Depth r1567)]) 19 43 [(some 3)] [(some (Nm.t 14))] ((c2q8.length:Nat):Int) (flD dBucket [20] (c2q8 ++ [(Bucket.mk (ix d.Buckets t16q7).Depth r1567)])) 0 (some 3) (some 14) (by kernel_rfl) (flN_done dBucket [20] ((c2q8.length:Nat):Int) (c2q8 ++ [(Bucket.mk (ix d.Buckets t16q7).Depth r1567)]) rfl) (by kernel_rfl) ⟨_,(by kernel_rfl),off_app _ _⟩ (S_app (fun a=>getH _ (.t 14) = chD dBucket 0 a) rfl)) (by kernel_rfl) ?_
  refine rs 3 [] [] (by kernel_rfl) allP_nil ?_
  refine rt [(3,.ptr 0 0),(14,.sl d.Buckets.length (fl d.Buckets)),(15,iS ((d.Buckets.length:Nat):Int)),(16,iS t16q7)] [(0,.row 26 [iS d.Depth,.own 1 0 c1q12.length,.own 19 0 (c2q8 ++ [(Bucket.mk (ix d.Buckets t16q7).Depth r1567)]).length]),(1,.row 3 (fl c1q12)),(2,.dead),((.s 3 0),.dead),(4,.row 43 (Enc.cells (ix d.Buckets t16q7))),(14,.dead),(17,.row 43 [iS (ix d.Buckets t16q7).Depth,.own 14 0 r1567.length]),(19,.row 43 (flD dBucket [20] (c2q8 ++ [(Bucket.mk (ix d.Buckets t16q7).Depth r1567)]))),((.s 20 0),.fam (famD dBucket 0 (c2q8 ++ [(Bucket.mk (ix d.Buckets t16q7).Depth r1567)])))] 25 follows (by kernel_rfl) ?_
  refine wk_id ?_
  refine wk_id ?_
  refine reg_f ?_
  refine rs 2 [] [] (by kernel_rfl) allP_nil ?_
  refine rf [(3,.ptr 0 0),(14,.sl d.Buckets.length (fl d.Buckets)),(15,iS ((d.Buckets.length:Nat):Int)),(16,iS (IntKind.i64.wrap (t16q7 + 1)))] [(0,.row 26 [iS d.Depth,.own 1 0 c1q12.length,.own 19 0 (c2q8 ++ [(Bucket.mk (ix d.Buckets t16q7).Depth r1567)]).length]),(1,.row 3 (fl c1q12)),(2,.dead),((.s 3 0),.dead),(4,.row 43 (Enc.cells (ix d.Buckets t16q7))),(14,.dead),(17,.row 43 [iS (ix d.Buckets t16q7).Depth,.own 14 0 r1567.length]),(19,.row 43 (flD dBucket [20] (c2q8 ++ [(Bucket.mk (ix d.Buckets t16q7).Depth r1567)]))),((.s 20 0),.fam (famD dBucket 0 (c2q8 ++ [(Bucket.mk (ix d.Buckets t16q7).Depth r1567)])))] 25 (by kernel_rfl) ?_
  exact hn2 ((IntKind.i64.wrap (t16q7 + 1)),c1q12,(c2q8 ++ [(Bucket.mk (ix d.Buckets t16q7).Depth r1567)])) _ _ _ (Option.some.inj h).symm (leSt_m [(0,0),(1,1),(2,19),((.s 3 0),(.s 20 0))] [] (by simp only [push_cast,leL_flD,renL_flD,seval]) (by simp only [push_cast,leL_flD,renL_flD,seval]) rfl rfl rfl)
 ·change R2 (.exit 0) _ _ _
  refine ex_cast hx2 (id:=0) ?_
  obtain ⟨r0,h,e0⟩:=map_sx h
  have e1:=hr2 r0 e0.symm
  subst r0
  refine wk_id ?_
  refine wk_id ?_
  refine seq_np ?_
  refine reg_f ?_
  refine rs 2 [] [] (by kernel_rfl) allP_nil ?_
  refine rf [(2,.ptr 0 0)] [(0,.row 26 [iS d.Depth,.own 1 0 c1q12.length,.own 2 0 c2q8.length]),(1,.row 3 (fl c1q12)),(2,.row 43 (flD dBucket [3] c2q8)),((.s 3 0),.fam (famD dBucket 0 c2q8))] 4 (by kernel_rfl) ?_
  refine wk_id ?_
  obtain rfl:=Option.some.inj h
  refine ret_at (.ptr 0 0) (by kernel_rfl) ?_
  exact ret_e [(0,0),(1,1),(2,2),((.s 3 0),(.s 3 0))] [] (by simp only [push_cast,leL_flD,renL_flD,seval]) (by simp only [push_cast,leL_flD,renL_flD,seval]) rfl rfl rfl

set_option maxRecDepth 100000 in
set_option maxHeartbeats 200000000 in
theorem cmp_isNaN_int_spec (x:Int) (r:Bool) (h:cmp_isNaN_int x = some r):SpecW Try.prog 63 [iS x] [] 0 (fun x h n=>x = bS r∧h = []∧n = 0):=by
 unfold cmp_isNaN_int at h
 refine spec_of (draw_ok _) Try.func63 rfl (by decide) rfl (by kernel_rfl) ?_
 refine seq_np ?_
 refine reg_f ?_
 refine rs 1 [] [] (by kernel_rfl) allP_nil ?_
 refine rf [(0,iS x)] [] 0 (by kernel_rfl) ?_
 refine wk_id ?_
 refine seq_np ?_
 refine reg_f ?_
 refine rs 4 [] [] (by kernel_rfl) allP_nil ?_
 refine rf [(2,bS (x != x))] [] 0 (by kernel_rfl) ?_
 refine wk_id ?_
 obtain rfl:=Option.some.inj h
 refine ret_at (bS (x != x)) (by kernel_rfl) ?_
 exact ret_e [] [] (by simp only [push_cast,leL_flD,renL_flD,seval]) (by simp only [push_cast,leL_flD,renL_flD,seval]) rfl rfl rfl

set_option maxRecDepth 100000 in
set_option maxHeartbeats 200000000 in
theorem cmp_Compare_int_spec (x:Int) (y:Int) (r:Int) (h:cmp_Compare_int x y = some r):SpecW Try.prog 51 [iS x,iS y] [] 0 (fun x h n=>x = iS r∧h = []∧n = 0):=by
 unfold cmp_Compare_int at h
 refine spec_of (draw_ok _) Try.func51 rfl (by decide) rfl (by kernel_rfl) ?_
 refine seq_np ?_
 refine reg_f ?_
 refine rs 1 [] [] (by kernel_rfl) allP_nil ?_
 refine rf [(0,iS x),(1,iS y)] [] 0 (by kernel_rfl) ?_
 refine wk_id ?_
 refine seq_np ?_
 refine reg_f ?_
 refine rs 1 [] [] (by kernel_rfl) allP_nil ?_
 obtain ⟨r1588,hr1588,h⟩:=bind_sx h
 refine run_call 63 [iS x] (some 8) (by kernel_rfl) ?_
 refine call_0 (cmp_isNaN_int_spec x r1588 hr1588) (by simp only [push_cast,leL_flD,renL_flD,seval]) (by simp only [push_cast,leL_flD,renL_flD,seval]) ?_
 refine back_f ?_
 refine rs 1 [] [] (by kernel_rfl) allP_nil ?_
 refine rf [(0,iS x),(1,iS y),(5,bS r1588)] [] 0 (by kernel_rfl) ?_
 refine wk_id ?_
 refine seq_np ?_
 refine reg_f ?_
 refine rs 1 [] [] (by kernel_rfl) allP_nil ?_
 obtain ⟨r1590,hr1590,h⟩:=bind_sx h
 refine run_call 63 [iS y] (some 10) (by kernel_rfl) ?_
 refine call_0 (cmp_isNaN_int_spec y r1590 hr1590) (by simp only [push_cast,leL_flD,renL_flD,seval]) (by simp only [push_cast,leL_flD,renL_flD,seval]) ?_
 refine back_f ?_
 refine rs 1 [] [] (by kernel_rfl) allP_nil ?_
 refine rf [(0,iS x),(1,iS y),(5,bS r1588),(6,bS r1590)] [] 0 (by kernel_rfl) ?_
 refine wk_id ?_
 refine seq_np ?_
 refine seq_np ?_
 refine reg_f ?_
 refine rs 1 [] [] (by kernel_rfl) allP_nil ?_
 refine rf [(0,iS x),(1,iS y),(6,bS r1590),(11,bS r1588)] [] 0 (by kernel_rfl) ?_
 refine wk_id ?_
 refine cond_sx h (by kernel_rfl) (fun g1601 h=>?_) (fun g1601 h=>?_)
 ·refine seq_np ?_
  refine seq_np ?_
  refine reg_f ?_
  refine rs 1 [] [] (by kernel_rfl) allP_nil ?_
  refine rf [(12,bS r1590)] [] 0 (by kernel_rfl) ?_
  refine wk_id ?_
  refine cond_sx h (by kernel_rfl) (fun g1594 h=>?_) (fun g1594 h=>?_)
  ·refine seq_np ?_
   refine reg_f ?_
   refine rs 1 [] [] (by kernel_rfl) allP_nil ?_
   refine rf [(4,iS 0)] [] 0 (by kernel_rfl) ?_
   refine wk_id ?_
   obtain rfl:=Option.some.inj h
   refine ret_at (iS 0) (by kernel_rfl) ?_
   exact ret_e [] [] (by simp only [push_cast,leL_flD,renL_flD,seval]) (by simp only [push_cast,leL_flD,renL_flD,seval]) rfl rfl rfl
  ·refine wk_id ?_
   refine seq_np ?_
   refine reg_f ?_
   refine rs 1 [] [] (by kernel_rfl) allP_nil ?_
   refine rf [(4,iS (-1))] [] 0 (by kernel_rfl) ?_
   refine wk_id ?_
   obtain rfl:=Option.some.inj h
   refine ret_at (iS (-1)) (by kernel_rfl) ?_
   exact ret_e [] [] (by simp only [push_cast,leL_flD,renL_flD,seval]) (by simp only [push_cast,leL_flD,renL_flD,seval]) rfl rfl rfl
 ·refine wk_id ?_
  refine seq_np ?_
  refine seq_np ?_
  refine reg_f ?_
  refine rs 1 [] [] (by kernel_rfl) allP_nil ?_
  refine rf [(0,iS x),(1,iS y),(13,bS r1590)] [] 0 (by kernel_rfl) ?_
  refine wk_id ?_
  refine cond_sx h (by kernel_rfl) (fun g1600 h=>?_) (fun g1600 h=>?_)
  ·refine seq_np ?_
   refine reg_f ?_
   refine rs 1 [] [] (by kernel_rfl) allP_nil ?_
   refine rf [(4,iS 1)] [] 0 (by kernel_rfl) ?_
   refine wk_id ?_
   obtain rfl:=Option.some.inj h
   refine ret_at (iS 1) (by kernel_rfl) ?_
   exact ret_e [] [] (by simp only [push_cast,leL_flD,renL_flD,seval]) (by simp only [push_cast,leL_flD,renL_flD,seval]) rfl rfl rfl
  ·refine wk_id ?_
   refine seq_np ?_
   refine seq_np ?_
   refine reg_f ?_
   refine rs 3 [] [] (by kernel_rfl) allP_nil ?_
   refine rf [(0,iS x),(1,iS y),(16,bS (decide (x < y)))] [] 0 (by kernel_rfl) ?_
   refine wk_id ?_
   refine cond_sx h (by kernel_rfl) (fun g1599 h=>?_) (fun g1599 h=>?_)
   ·refine seq_np ?_
    refine reg_f ?_
    refine rs 1 [] [] (by kernel_rfl) allP_nil ?_
    refine rf [(4,iS (-1))] [] 0 (by kernel_rfl) ?_
    refine wk_id ?_
    obtain rfl:=Option.some.inj h
    refine ret_at (iS (-1)) (by kernel_rfl) ?_
    exact ret_e [] [] (by simp only [push_cast,leL_flD,renL_flD,seval]) (by simp only [push_cast,leL_flD,renL_flD,seval]) rfl rfl rfl
   ·refine wk_id ?_
    refine seq_np ?_
    refine seq_np ?_
    refine reg_f ?_
    refine rs 3 [] [] (by kernel_rfl) allP_nil ?_
    refine rf [(19,bS (decide (y < x)))] [] 0 (by kernel_rfl) ?_
    refine wk_id ?_
    refine cond_sx h (by kernel_rfl) (fun g1598 h=>?_) (fun g1598 h=>?_)
    ·refine seq_np ?_
     refine reg_f ?_
     refine rs 1 [] [] (by kernel_rfl) allP_nil ?_
     refine rf [(4,iS 1)] [] 0 (by kernel_rfl) ?_
     refine wk_id ?_
     obtain rfl:=Option.some.inj h
     refine ret_at (iS 1) (by kernel_rfl) ?_
     exact ret_e [] [] (by simp only [push_cast,leL_flD,renL_flD,seval]) (by simp only [push_cast,leL_flD,renL_flD,seval]) rfl rfl rfl
    ·refine wk_id ?_
     refine seq_np ?_
     refine reg_f ?_
     refine rs 1 [] [] (by kernel_rfl) allP_nil ?_
     refine rf [(4,iS 0)] [] 0 (by kernel_rfl) ?_
     refine wk_id ?_
     obtain rfl:=Option.some.inj h
     refine ret_at (iS 0) (by kernel_rfl) ?_
     exact ret_e [] [] (by simp only [push_cast,leL_flD,renL_flD,seval]) (by simp only [push_cast,leL_flD,renL_flD,seval]) rfl rfl rfl

set_option maxRecDepth 100000 in
set_option maxHeartbeats 200000000 in
theorem dict_byKey_spec (xa:GItem) (b:GItem) (r:Int) (h:dict_byKey xa b = some r):SpecW Try.prog 42 [.agg (Enc.cells xa),.agg (Enc.cells b)] [] 0 (fun x h n=>x = iS r∧h = []∧n = 0):=by
 unfold dict_byKey at h
 refine spec_of (draw_ok _) Try.func42 rfl (by decide) rfl (by kernel_rfl) ?_
 refine seq_np ?_
 refine reg_f ?_
 refine rs 3 [] [] (by kernel_rfl) allP_nil ?_
 refine rf [(2,.ptr 0 0),(3,.ptr 1 0)] [(0,.row 45 (Enc.cells xa)),(1,.row 45 (Enc.cells b))] 2 (by kernel_rfl) ?_
 refine wk_id ?_
 refine seq_np ?_
 refine reg_f ?_
 refine rs 4 [] [] (by kernel_rfl) allP_nil ?_
 obtain ⟨r1604,hr1604,h⟩:=bind_sx h
 refine run_call 51 [iS xa.Key,iS b.Key] (some 9) (by kernel_rfl) ?_
 refine call_0 (cmp_Compare_int_spec xa.Key b.Key r1604 hr1604) (by simp only [push_cast,leL_flD,renL_flD,seval]) (by simp only [push_cast,leL_flD,renL_flD,seval]) ?_
 refine back_f ?_
 refine rs 1 [] [] (by kernel_rfl) allP_nil ?_
 refine rf [(4,iS r1604)] [(0,.row 45 (Enc.cells xa)),(1,.row 45 (Enc.cells b))] 2 (by kernel_rfl) ?_
 refine wk_id ?_
 obtain rfl:=Option.some.inj h
 refine ret_at (iS r1604) (by kernel_rfl) ?_
 exact ret_e [] [] (by simp only [push_cast,leL_flD,renL_flD,seval]) (by simp only [push_cast,leL_flD,renL_flD,seval]) rfl rfl rfl

set_option maxRecDepth 100000 in
set_option maxHeartbeats 200000000 in
theorem slices_BinarySearchFunc_Item_spec (x:(List GItem)) (target:GItem) (r:Int × Bool) (h:slices_BinarySearchFunc_Item x target = some r):SpecW Try.prog 45 [.sl x.length (fl x),.agg (Enc.cells target),.v (.func (.func 42) #[] #[])] [] 0 (fun x h n=>x = .tup [iS r.1,bS r.2]∧h = []∧n = 0):=by
 unfold slices_BinarySearchFunc_Item at h
 refine spec_of (draw_ok _) Try.func45 rfl (by decide) rfl (by kernel_rfl) ?_
 refine seq_np ?_
 refine reg_f ?_
 refine rs 3 [] [] (by kernel_rfl) allP_nil ?_
 refine rf [(0,.sl x.length (fl x)),(2,.v (.func (.func 42) #[] #[])),(4,.ptr 0 0)] [(0,.row 45 (Enc.cells target))] 1 (by kernel_rfl) ?_
 refine wk_id ?_
 refine seq_np ?_
 refine reg_f ?_
 refine rs 3 [] [] (by kernel_rfl) allP_nil ?_
 refine rf [(0,.sl x.length (fl x)),(2,.v (.func (.func 42) #[] #[])),(4,.ptr 0 0),(8,iS ((x.length:Nat):Int))] [(0,.row 45 (Enc.cells target))] 1 (by kernel_rfl) ?_
 refine wk_id ?_
 refine seq_np ?_
 refine reg_f ?_
 refine rs 3 [] [] (by kernel_rfl) allP_nil ?_
 refine rf [(0,.sl x.length (fl x)),(2,.v (.func (.func 42) #[] #[])),(4,.ptr 0 0),(8,iS ((x.length:Nat):Int)),(9,iS 0),(10,iS ((x.length:Nat):Int))] [(0,.row 45 (Enc.cells target))] 1 (by kernel_rfl) ?_
 refine wk_id ?_
 refine seq_np ?_
 refine block_np ?_
 refine loop_sx (S:=Int × Int) (fun a=>([(0,.sl x.length (fl x)),(2,.v (.func (.func 42) #[] #[])),(4,.ptr 0 0),(8,iS ((x.length:Nat):Int)),(9,iS a.1),(10,iS a.2)],[(0,.row 45 (Enc.cells target))],1)) h (leSt_m [(0,0)] [] (by simp only [push_cast,leL_flD,renL_flD,seval]) (by simp only [push_cast,leL_flD,renL_flD,seval]) rfl rfl rfl) ?_
 rintro ⟨i18,j18⟩ o2 R2 h hr2 hn2 hx2 ht2
 try dsimp only at h hn2 ⊢
 unfold slices_BinarySearchFunc_Item_l1 at h
 try dsimp only at h
 refine seq_np ?_
 refine seq_np ?_
 refine reg_f ?_
 refine rs 3 [] [] (by kernel_rfl) allP_nil ?_
 refine rf [(0,.sl x.length (fl x)),(2,.v (.func (.func 42) #[] #[])),(4,.ptr 0 0),(8,iS ((x.length:Nat):Int)),(9,iS i18),(10,iS j18),(17,bS (decide (i18 < j18)))] [(0,.row 45 (Enc.cells target))] 1 (by kernel_rfl) ?_
 refine wk_id ?_
 refine cond_sx h (by kernel_rfl) (fun g1707 h=>?_) (fun g1707 h=>?_)
 ·refine wk_id ?_
  refine block_np ?_
  refine seq_np ?_
  refine reg_f ?_
  refine rs 7 [] [] (by kernel_rfl) allP_nil ?_
  refine rf [(0,.sl x.length (fl x)),(2,.v (.func (.func 42) #[] #[])),(4,.ptr 0 0),(8,iS ((x.length:Nat):Int)),(9,iS i18),(10,iS j18),(11,iS (IntKind.i64.wrap (Int.fdiv (IntKind.u64.wrap (IntKind.i64.wrap (i18 + j18))) (2 ^ (min ((1:Int)).toNat (IntKind.u64).bits)))))] [(0,.row 45 (Enc.cells target))] 1 (by kernel_rfl) ?_
  refine wk_id ?_
  refine chk_sx h (fun g1694 h=>?_)
  refine seq_np ?_
  refine reg_t ?_
  have k1693:0≤(IntKind.i64.wrap (Int.fdiv (IntKind.u64.wrap (IntKind.i64.wrap (i18 + j18))) (2 ^ (min ((1:Int)).toNat (IntKind.u64).bits))))∧(IntKind.i64.wrap (Int.fdiv (IntKind.u64.wrap (IntKind.i64.wrap (i18 + j18))) (2 ^ (min ((1:Int)).toNat (IntKind.u64).bits)))) < ((x.length:Nat):Int):=by first | simpa only [Bool.and_eq_true,decide_eq_true_eq,bne_iff_ne,ne_eq] using g1694 | (simp at g1694 ⊢; omega)
  refine rs 6 [none,none,none,some ⟨.iptr (fl x) (((IntKind.i64.wrap (Int.fdiv (IntKind.u64.wrap (IntKind.i64.wrap (i18 + j18))) (2 ^ (min ((1:Int)).toNat (IntKind.u64).bits))))).toNat * 2),[],4,[]⟩,some ⟨.agg (Enc.cells (ix x (IntKind.i64.wrap (Int.fdiv (IntKind.u64.wrap (IntKind.i64.wrap (i18 + j18))) (2 ^ (min ((1:Int)).toNat (IntKind.u64).bits)))))),[],5,[]⟩] _ (by kernel_rfl) (allP_cons (ob_ldw x (IntKind.i64.wrap (Int.fdiv (IntKind.u64.wrap (IntKind.i64.wrap (i18 + j18))) (2 ^ (min ((1:Int)).toNat (IntKind.u64).bits)))) 2 (((IntKind.i64.wrap (Int.fdiv (IntKind.u64.wrap (IntKind.i64.wrap (i18 + j18))) (2 ^ (min ((1:Int)).toNat (IntKind.u64).bits))))).toNat * 2) k1693 rfl (by first | rfl | omega) [iS (ix x (IntKind.i64.wrap (Int.fdiv (IntKind.u64.wrap (IntKind.i64.wrap (i18 + j18))) (2 ^ (min ((1:Int)).toNat (IntKind.u64).bits))))).Key,iS (ix x (IntKind.i64.wrap (Int.fdiv (IntKind.u64.wrap (IntKind.i64.wrap (i18 + j18))) (2 ^ (min ((1:Int)).toNat (IntKind.u64).bits))))).Value] rfl 5 []) (allP_cons (ob_ix_l x 2 4 (IntKind.i64.wrap (Int.fdiv (IntKind.u64.wrap (IntKind.i64.wrap (i18 + j18))) (2 ^ (min ((1:Int)).toNat (IntKind.u64).bits)))) k1693) allP_nil)) ?_
  obtain ⟨r1695,hr1695,h⟩:=bind_sx h
  refine run_call 42 [.agg (Enc.cells (ix x (IntKind.i64.wrap (Int.fdiv (IntKind.u64.wrap (IntKind.i64.wrap (i18 + j18))) (2 ^ (min ((1:Int)).toNat (IntKind.u64).bits)))))),.agg (Enc.cells target)] (some 30) (by kernel_rfl) ?_
  refine callE_0 (dict_byKey_spec (ix x (IntKind.i64.wrap (Int.fdiv (IntKind.u64.wrap (IntKind.i64.wrap (i18 + j18))) (2 ^ (min ((1:Int)).toNat (IntKind.u64).bits))))) target r1695 hr1695) (by simp only [push_cast,leL_flD,renL_flD,seval]) (by simp only [push_cast,leL_flD,renL_flD,seval]) ?_
  refine back_t ?_
  refine rs 1 [] [] (by kernel_rfl) allP_nil ?_
  refine rt [(0,.sl x.length (fl x)),(2,.v (.func (.func 42) #[] #[])),(4,.ptr 0 0),(8,iS ((x.length:Nat):Int)),(9,iS i18),(10,iS j18),(11,iS (IntKind.i64.wrap (Int.fdiv (IntKind.u64.wrap (IntKind.i64.wrap (i18 + j18))) (2 ^ (min ((1:Int)).toNat (IntKind.u64).bits))))),(31,bS (decide (r1695 < 0)))] [(0,.row 45 (Enc.cells target))] 9 follows (by kernel_rfl) ?_
  refine wk_id ?_
  refine cond_sx h (by kernel_rfl) (fun g1696 h=>?_) (fun g1696 h=>?_)
  ·refine reg_f ?_
   refine rs 3 [] [] (by kernel_rfl) allP_nil ?_
   refine rf [(0,.sl x.length (fl x)),(2,.v (.func (.func 42) #[] #[])),(4,.ptr 0 0),(8,iS ((x.length:Nat):Int)),(9,iS (IntKind.i64.wrap ((IntKind.i64.wrap (Int.fdiv (IntKind.u64.wrap (IntKind.i64.wrap (i18 + j18))) (2 ^ (min ((1:Int)).toNat (IntKind.u64).bits)))) + 1))),(10,iS j18)] [(0,.row 45 (Enc.cells target))] 9 (by kernel_rfl) ?_
   refine wk_id ?_
   exact hn2 ((IntKind.i64.wrap ((IntKind.i64.wrap (Int.fdiv (IntKind.u64.wrap (IntKind.i64.wrap (i18 + j18))) (2 ^ (min ((1:Int)).toNat (IntKind.u64).bits)))) + 1)),j18) _ _ _ (Option.some.inj h).symm (leSt_m [(0,0)] [] (by simp only [push_cast,leL_flD,renL_flD,seval]) (by simp only [push_cast,leL_flD,renL_flD,seval]) rfl rfl rfl)
  ·refine reg_f ?_
   refine rs 2 [] [] (by kernel_rfl) allP_nil ?_
   refine rf [(0,.sl x.length (fl x)),(2,.v (.func (.func 42) #[] #[])),(4,.ptr 0 0),(8,iS ((x.length:Nat):Int)),(9,iS i18),(10,iS (IntKind.i64.wrap (Int.fdiv (IntKind.u64.wrap (IntKind.i64.wrap (i18 + j18))) (2 ^ (min ((1:Int)).toNat (IntKind.u64).bits)))))] [(0,.row 45 (Enc.cells target))] 9 (by kernel_rfl) ?_
   refine wk_id ?_
   exact hn2 (i18,(IntKind.i64.wrap (Int.fdiv (IntKind.u64.wrap (IntKind.i64.wrap (i18 + j18))) (2 ^ (min ((1:Int)).toNat (IntKind.u64).bits))))) _ _ _ (Option.some.inj h).symm (leSt_m [(0,0)] [] (by simp only [push_cast,leL_flD,renL_flD,seval]) (by simp only [push_cast,leL_flD,renL_flD,seval]) rfl rfl rfl)
 ·change R2 (.exit 0) _ _ _
  refine ex_cast hx2 (id:=0) ?_
  obtain ⟨r0,h,e0⟩:=map_sx h
  have e1:=hr2 r0 e0.symm
  subst r0
  refine wk_id ?_
  refine wk_id ?_
  refine seq_cut (A:=Bool) (fun a=>([(6,iS i18),(7,bS a)],[],0)) (fun a=>(slices_BinarySearchFunc_Item_j1 i18 a) = some r) (fun K1702 hK1702=>?_) ?_
  ·refine reg_t ?_
   refine rs 5 [] [] (by kernel_rfl) allP_nil ?_
   refine run_br h 39 (.inl (by kernel_rfl)) (fun g1703 h=>?_) (fun g1703 h=>?_)
   ·refine chk_sx h (fun g1705 h=>?_)
    have k1704:0≤i18∧i18 < ((x.length:Nat):Int):=by first | simpa only [Bool.and_eq_true,decide_eq_true_eq,bne_iff_ne,ne_eq] using g1705 | (simp at g1705 ⊢; omega)
    refine rs 6 [none,none,none,some ⟨.iptr (fl x) ((i18).toNat * 2),[],9,[]⟩,some ⟨.agg (Enc.cells (ix x i18)),[],10,[]⟩] _ (by kernel_rfl) (allP_cons (ob_ldw x i18 2 ((i18).toNat * 2) k1704 rfl (by first | rfl | omega) [iS (ix x i18).Key,iS (ix x i18).Value] rfl 10 []) (allP_cons (ob_ix_l x 2 9 i18 k1704) allP_nil)) ?_
    obtain ⟨r1706,hr1706,h⟩:=bind_sx h
    refine run_call 42 [.agg (Enc.cells (ix x i18)),.agg (Enc.cells target)] (some 46) (by kernel_rfl) ?_
    refine callE_0 (dict_byKey_spec (ix x i18) target r1706 hr1706) (by simp only [push_cast,leL_flD,renL_flD,seval]) (by simp only [push_cast,leL_flD,renL_flD,seval]) ?_
    refine back_t ?_
    refine rs 4 [] [] (by kernel_rfl) allP_nil ?_
    refine rt [(6,iS i18),(7,bS (r1706 == 0))] [(0,.row 45 (Enc.cells target))] 17 follows (by kernel_rfl) ?_
    exact hK1702 ((r1706 == 0)) _ _ _ h (leSt_m [] [] (by (try simp only [g1703]) <;> simp only [push_cast,leL_flD,renL_flD,seval]) (by (try simp only [g1703]) <;> simp only [push_cast,leL_flD,renL_flD,seval]) rfl rfl rfl)
   ·refine rs 11 [] [] (by kernel_rfl) allP_nil ?_
    refine rt [(6,iS i18),(7,bS false)] [(0,.row 45 (Enc.cells target))] 17 follows (by kernel_rfl) ?_
    exact hK1702 (false) _ _ _ h (leSt_m [] [] (by (try simp only [g1703]) <;> simp only [push_cast,leL_flD,renL_flD,seval]) (by (try simp only [g1703]) <;> simp only [push_cast,leL_flD,renL_flD,seval]) rfl rfl rfl)
  ·rintro t7q1 h
   try dsimp only at h ⊢
   unfold slices_BinarySearchFunc_Item_j1 at h
   obtain rfl:=Option.some.inj h
   refine ret_at (.tup [iS i18,bS t7q1]) (by kernel_rfl) ?_
   exact ret_e [] [] (by simp only [push_cast,leL_flD,renL_flD,seval]) (by simp only [push_cast,leL_flD,renL_flD,seval]) rfl rfl rfl

set_option maxRecDepth 100000 in
set_option maxHeartbeats 200000000 in
theorem dict_where_spec (d:Dict) (key:Int) (r:Int × Int × Bool) (h:dict_where d key = some r):SpecW Try.prog 28 [.agg (Enc.cells d),iS key] [] 0 (fun x h n=>x = .tup [iS r.1,iS r.2.1,bS r.2.2]∧h = []∧n = 0):=by
 unfold dict_where at h
 refine spec_of (draw_ok _) Try.func28 rfl (by decide) rfl (by kernel_rfl) ?_
 refine seq_np ?_
 refine reg_f ?_
 refine rs 4 [] [] (by kernel_rfl) allP_nil ?_
 refine rf [(1,iS key),(2,.ptr 0 0)] [(0,.row 26 (Enc.cells d))] 1 (by kernel_rfl) ?_
 refine wk_id ?_
 refine seq_np ?_
 refine reg_t ?_
 refine rs 5 [] [] (by kernel_rfl) allP_nil ?_
 obtain ⟨r1712,hr1712,h⟩:=bind_sx h
 refine run_call 32 [iS key,iS d.Depth] (some 15) (by kernel_rfl) ?_
 refine callE_0 (dict_last_spec key d.Depth r1712 hr1712) (by simp only [push_cast,leL_flD,renL_flD,seval]) (by simp only [push_cast,leL_flD,renL_flD,seval]) ?_
 refine back_t ?_
 refine chk_sx h (fun g1714 h=>?_)
 have k1713:0≤r1712∧r1712 < ((d.Places.length:Nat):Int):=by first | simpa only [Bool.and_eq_true,decide_eq_true_eq,bne_iff_ne,ne_eq] using g1714 | (simp at g1714 ⊢; omega)
 refine rs 3 [some ⟨.iptr (fl d.Places) ((r1712).toNat * 1),[],7,[]⟩,some ⟨iS (ix d.Places r1712),[],8,[]⟩] _ (by kernel_rfl) (allP_cons (ob_ld d.Places r1712 1 0 ((r1712).toNat * 1) k1713 rfl (by decide) (by first | rfl | omega) (dflS Try.prog 3) (iS (ix d.Places r1712)) rfl 8 []) (allP_cons (ob_ix_l d.Places 1 7 r1712 k1713) allP_nil)) ?_
 refine rt [(1,iS key),(2,.ptr 0 0),(7,iS (ix d.Places r1712))] [(0,.row 26 (Enc.cells d))] 10 follows (by kernel_rfl) ?_
 refine wk_id ?_
 refine chk_sx h (fun g1719 h=>?_)
 refine seq_np ?_
 refine reg_f ?_
 have k1718:0≤(ix d.Places r1712)∧(ix d.Places r1712) < ((d.Buckets.length:Nat):Int):=by first | simpa only [Bool.and_eq_true,decide_eq_true_eq,bne_iff_ne,ne_eq] using g1719 | (simp at g1719 ⊢; omega)
 refine rs 8 [none,none,none,some ⟨.iptr (fl d.Buckets) (((ix d.Places r1712)).toNat * 2),[],10,[]⟩,none,some ⟨.sl (ix d.Buckets (ix d.Places r1712)).Items.length (fl (ix d.Buckets (ix d.Places r1712)).Items),[],10,[]⟩] _ (by kernel_rfl) (allP_cons (ob_ld d.Buckets (ix d.Places r1712) 2 1 ((((ix d.Places r1712)).toNat * 2) + 1) k1718 rfl (by decide) (by first | rfl | omega) (dflS Try.prog 40) (.sl (ix d.Buckets (ix d.Places r1712)).Items.length (fl (ix d.Buckets (ix d.Places r1712)).Items)) rfl 10 []) (allP_cons (ob_ix_l d.Buckets 2 10 (ix d.Places r1712) k1718) allP_nil)) ?_
 obtain ⟨r1720,hr1720,h⟩:=bind_sx h
 refine run_call 45 [.sl (ix d.Buckets (ix d.Places r1712)).Items.length (fl (ix d.Buckets (ix d.Places r1712)).Items),.agg [iS key,iS 0],.v (.func (.func 42) #[] #[])] (some 27) (by kernel_rfl) ?_
 refine call_0 (slices_BinarySearchFunc_Item_spec (ix d.Buckets (ix d.Places r1712)).Items (GItem.mk key 0) r1720 hr1720) (by simp only [push_cast,leL_flD,renL_flD,seval]) (by simp only [push_cast,leL_flD,renL_flD,seval]) ?_
 refine back_f ?_
 refine rs 5 [] [] (by kernel_rfl) allP_nil ?_
 refine rf [(7,iS (ix d.Places r1712)),(8,iS r1720.1),(9,bS r1720.2)] [(0,.row 26 (Enc.cells d))] 10 (by kernel_rfl) ?_
 refine wk_id ?_
 refine seq_np ?_
 refine reg_f ?_
 refine rs 6 [] [] (by kernel_rfl) allP_nil ?_
 refine rf [(4,iS (ix d.Places r1712)),(5,iS r1720.1),(6,bS r1720.2)] [(0,.row 26 (Enc.cells d))] 10 (by kernel_rfl) ?_
 refine wk_id ?_
 obtain rfl:=Option.some.inj h
 refine ret_at (.tup [iS (ix d.Places r1712),iS r1720.1,bS r1720.2]) (by kernel_rfl) ?_
 exact ret_e [] [] (by simp only [push_cast,leL_flD,renL_flD,seval]) (by simp only [push_cast,leL_flD,renL_flD,seval]) rfl rfl rfl

set_option maxRecDepth 100000 in
set_option maxHeartbeats 200000000 in
theorem slices_Insert_Item_shift_spec (b off n c i vc:Nat) (va:Option Addr) (w W1 W2:World) (x1 x2:Value) (hi:i < n) (hroom:n + 1≤c) (hc63:c≤9223372036854775807)
  (hov:∀ lb cb,(callFunc 46 #[.slice va 1 vc,.slice (some ⟨b,off + (i + 1) * 2,none⟩) lb cb]).run Try.prog w = .ok (.value (.bool false)) w)
  (hcp1:∀ ty dc sc,(Builtin.copy_ #[40,40] ty #[.slice (some ⟨b,off + (i + 1) * 2,none⟩) (n - i) dc,.slice (some ⟨b,off + i * 2,none⟩) (n + 1 - i) sc]).run Try.prog w.drew = .ok x1 W1)
  (hcp2:∀ ty dc,(Builtin.copy_ #[40,40] ty #[.slice (some ⟨b,off + i * 2,none⟩) (n + 1 - i) dc,.slice va 1 vc]).run Try.prog W1 = .ok x2 W2) :
  Calls Try.prog 30 #[.slice (some ⟨b,off,none⟩) n c,.int .i64 i,.slice va 1 vc] w fun e w'=>e = .returned (.slice (some ⟨b,off,none⟩) (n + 1) c)∧w' = W2:=by
 have mixed:=follows
 have hw1:IntKind.i64.wrap ((i:Int) + 1) = (i:Int) + 1:=by rw [IntKind.wrap_i64]; omega
 have hw2:IntKind.i64.wrap ((n:Int) + 1) = (n:Int) + 1:=by rw [IntKind.wrap_i64]; omega
 have hz2:¬ ((i:Int) = (n:Int)):=by omega
 have hb1:(0:Int)≤(i:Int) + 1:=by omega
 have hin:i≤n:=by omega
 have htn:((i:Int) + 1).toNat = i + 1:=by omega
 have hb3:(i:Int)≤(n:Int) + 1:=by omega
 have hb4:¬ (c = i):=by omega
 have hb5:¬ (c = i + 1):=by omega
 go_enter Try.func30,Try.ntmps30
 go_wp2_with (simp only [hov])
 go_region_law_o (refine Go.Proofs.step_copy_runI rfl _ _ 40 40 rfl _ _ (by simp [Act.eval,Act.put]) (by simp [Act.eval,Act.put]) (hcp1 _ _ _) ?_)
 go_wp2_with (at_builtin; refine Go.Proofs.wpList_copy_runI _ rfl _ _ 40 40 rfl _ _ rfl rfl (hcp2 _ _) ?_)
 go_ret
 exact ⟨rfl,rfl⟩
set_option maxRecDepth 100000 in
set_option maxHeartbeats 4000000 in
theorem slices_Insert_Item_grow_spec (b off n c i vc:Nat) (va:Option Addr) (nb g:Nat) (w W0 W1 W2:World) (x1 x2:Value) (hi:i < n) (hnc:n≤c) (hroom:c < n + 1) (hc63:n + 1≤g) (hg63:g≤9223372036854775807)
  (hap:∀ ty,(Builtin.append_ #[40,3] ty #[.slice (some ⟨b,off,none⟩) i c,.int .i64 ((n:Int) + 1 - i)]).run Try.prog w = .ok (.slice (some ⟨nb,0,none⟩) (n + 1) g) W0)
  (hcp1:∀ ty dc,(Builtin.copy_ #[40,40] ty #[.slice (some ⟨nb,i * 2,none⟩) (n + 1 - i) dc,.slice va 1 vc]).run Try.prog W0 = .ok x1 W1)
  (hcp2:∀ ty dc sc,(Builtin.copy_ #[40,40] ty #[.slice (some ⟨nb,(i + 1) * 2,none⟩) (n - i) dc,.slice (some ⟨b,off + i * 2,none⟩) (n - i) sc]).run Try.prog W1.drew = .ok x2 W2) :
  Calls Try.prog 30 #[.slice (some ⟨b,off,none⟩) n c,.int .i64 i,.slice va 1 vc] w fun e w'=>e = .returned (.slice (some ⟨nb,0,none⟩) (n + 1) g)∧w' = W2:=by
 have mixed:=follows
 have hw1:IntKind.i64.wrap ((i:Int) + 1) = (i:Int) + 1:=by rw [IntKind.wrap_i64]; omega
 have hw2:IntKind.i64.wrap ((n:Int) + 1) = (n:Int) + 1:=by rw [IntKind.wrap_i64]; omega
 have hz2:¬ ((i:Int) = (n:Int)):=by omega
 have hb1:(0:Int)≤(i:Int) + 1:=by omega
 have hin:i≤n:=by omega
 have htn:((i:Int) + 1).toNat = i + 1:=by omega
 have hb3:(i:Int)≤(n:Int) + 1:=by omega
 have hb4:¬ (c = i):=by omega
 have hz3:(c:Int) < (n:Int) + 1:=by omega
 have hb5:¬ (g = i):=by omega
 have hb6:i≤g:=by omega
 have hb7:¬ (g = i + 1):=by omega
 go_enter Try.func30,Try.ntmps30
 go_wp2_with (at_builtin; first | refine Go.Lib.wpList_append_run _ rfl _ _ _ _ rfl _ _ rfl rfl _ _ (hap _) ?_ | refine Go.Proofs.wpList_copy_runI _ rfl _ _ 40 40 rfl _ _ rfl rfl (hcp1 _ _) ?_)
 go_region_law_o (refine Go.Proofs.step_copy_runI rfl _ _ 40 40 rfl _ _ (by simp [Act.eval,Act.put]) (by simp [Act.eval,Act.put]) (hcp2 _ _ _) ?_)
 go_wp2
 go_ret
 exact ⟨rfl,rfl⟩
set_option maxRecDepth 100000 in
set_option maxHeartbeats 4000000 in
theorem slices_Insert_Item_end_spec (a:Option Addr) (n c vc:Nat) (va:Option Addr) (w W1:World) (x:Value) (hnc:n≤c) (hc63:c≤9223372036854775807) (hnil:a = none→n = 0)
  (hap:(Builtin.append_ #[40,40] 40 #[.slice a n c,.slice va 1 vc]).run Try.prog w = .ok x W1) :
  Calls Try.prog 30 #[.slice a n c,.int .i64 n,.slice va 1 vc] w fun e w'=>e = .returned x∧w' = W1:=by
 have mixed:=follows
 go_enter Try.func30,Try.ntmps30
 cases a with
 | none =>
  have:=hnil rfl
  subst this
  go_wp2_with (at_builtin; refine Go.Lib.wpList_append_run _ rfl _ _ _ _ rfl _ _ rfl rfl _ _ hap ?_)
  all_goals (go_ret; exact ⟨rfl,rfl⟩)
 | some a =>
  obtain ⟨ab,ao,asp⟩:=a
  go_wp2_with (at_builtin; refine Go.Lib.wpList_append_run _ rfl _ _ _ _ rfl _ _ rfl rfl _ _ hap ?_)
  all_goals (go_ret; exact ⟨rfl,rfl⟩)
set_option maxRecDepth 100000 in
set_option maxHeartbeats 4000000 in
theorem slices_Insert_Item_spec (i:Int) (c0:(List GItem)) (c1:(List GItem)) (r:List GItem) (h:slices_Insert_Item i c0 c1 = some r):SpecW Try.prog 30 [.own 0 0 c0.length,iS i,.own 1 0 c1.length] [(0,.row 45 (fl c0)),(1,.row 45 (fl c1))] 2 (fun x h n=>x = .own 2 0 r.length∧h = [(0,.dead),(1,.dead),(2,.row 45 (fl r))]∧n = 3):=by
 unfold slices_Insert_Item at h
 obtain ⟨⟨h1,h2,h3,h4⟩,rfl⟩:=bif_some h
 refine insert_spec (α:=GItem) (fO:=46) (tS:=40) (tI:=3) (tB:=4) (by kernel_rfl) (by decide) (by kernel_rfl) (by kernel_rfl) (by decide) (fn_of Try.func30 (by kernel_rfl) (by kernel_rfl)) ?_ ?_ ?_ ?_ c0 c1 i h1 h2 h3 h4
 ·intro x y w h
  rw [run_callFunc_extern Try.func46 (by kernel_rfl) (by kernel_rfl) (by kernel_rfl) (e:=Extern.SlicesOverlaps.overlaps #[40,40] #[4]) (by kernel_rfl),h]
  rfl
 ·(try rw [(show Enc.sz GItem = 2 from rfl)]); (try simp only [Nat.mul_one]); exact slices_Insert_Item_shift_spec
 ·(try rw [(show Enc.sz GItem = 2 from rfl)]); (try simp only [Nat.mul_one]); exact slices_Insert_Item_grow_spec
 ·exact slices_Insert_Item_end_spec

set_option maxRecDepth 100000 in
set_option maxHeartbeats 200000000 in
theorem dict_split_1_spec (n:Int) (c0_Depth:Int) (c1:(List Int)) (c2:(List Bucket)) (r:Int × (List Int) × (List Bucket)) (h:dict_split_1 n c0_Depth c1 c2 = some r):SpecW Try.prog 31 [.ptr 0 0,iS n] [(0,.row 26 [iS c0_Depth,.own 1 0 c1.length,.own 2 0 c2.length]),(1,.row 3 (fl c1)),(2,.row 43 (flD dBucket [3] c2)),((.s 3 0),.fam (famD dBucket 0 c2))] 4 (fun x h n=>x = .tup []∧h = [(0,.row 26 [iS r.1,.own 4 0 r.2.1.length,.own 5 0 r.2.2.length]),(1,.dead),(2,.dead),((.s 3 0),.dead),(4,.row 3 (fl r.2.1)),(5,.row 43 (flD dBucket [6] r.2.2)),((.s 6 0),.fam (famD dBucket 0 r.2.2))]∧n = 7):=by
 unfold dict_split_1 at h
 refine spec_of (draw_ok _) Try.func31 rfl (by decide) rfl (by kernel_rfl) ?_
 refine chk_sx h (fun g1815 h=>?_)
 refine seq_np ?_
 refine reg_f ?_
 have k1814:0≤n∧n < ((c2.length:Nat):Int):=by first | simpa only [Bool.and_eq_true,decide_eq_true_eq,bne_iff_ne,ne_eq] using g1815 | (simp at g1815 ⊢; omega)
 refine rs 9 [none,none,none,none,none,some ⟨.ptr 2 (0 + (n).toNat * 2),[],4,[2]⟩,some ⟨.agg [iS (ixD c2 n).Depth,.own (.s 3 n) 0 (ixD c2 n).Items.length],[],4,[2]⟩] _ (by kernel_rfl) (allP_cons (ob_ldwD dBucket [3] c2 n 2 (0 + (n).toNat * 2) k1814 rfl (by first | rfl | omega) [iS (ixD c2 n).Depth,.own (.s 3 n) 0 (ixD c2 n).Items.length] rfl 4 [2]) (allP_cons (ob_ix_o 2 c2.length 0 2 4 n k1814) allP_nil)) ?_
 refine rf [(0,.ptr 0 0),(1,iS n),(4,.ptr 4 0)] [(0,.row 26 [iS c0_Depth,.own 1 0 c1.length,.own 2 0 c2.length]),(1,.row 3 (fl c1)),(2,.row 43 (flD dBucket [3] c2)),((.s 3 0),.fam (famD dBucket 0 c2)),(4,.row 43 [iS (ixD c2 n).Depth,.own (.s 3 n) 0 (ixD c2 n).Items.length])] 5 (by kernel_rfl) ?_
 refine wk_id ?_
 refine seq_cut (A:=Int × (List Int)) (fun a=>([(0,.ptr 0 0),(1,iS n),(4,.ptr 4 0)],[(0,.row 26 [iS a.1,.own 5 0 a.2.length,.own 2 0 c2.length]),(1,.dead),(2,.row 43 (flD dBucket [3] c2)),((.s 3 0),.fam (famD dBucket 0 c2)),(4,.row 43 [iS (ixD c2 n).Depth,.own (.s 3 n) 0 (ixD c2 n).Items.length]),(5,.row 3 (fl a.2))],6)) (fun a=>(dict_split_1_j3 n c2 a.1 a.2) = some r) (fun K1820 hK1820=>?_) ?_
 ·refine seq_np ?_
  refine reg_t ?_
  refine rs 7 [] [] (by kernel_rfl) allP_nil ?_
  refine rt [(0,.ptr 0 0),(1,iS n),(4,.ptr 4 0),(25,bS ((ixD c2 n).Depth == c0_Depth))] [(0,.row 26 [iS c0_Depth,.own 1 0 c1.length,.own 2 0 c2.length]),(1,.row 3 (fl c1)),(2,.row 43 (flD dBucket [3] c2)),((.s 3 0),.fam (famD dBucket 0 c2)),(4,.row 43 [iS (ixD c2 n).Depth,.own (.s 3 n) 0 (ixD c2 n).Items.length])] 12 follows (by kernel_rfl) ?_
  refine wk_id ?_
  refine cond_sx h (by kernel_rfl) (fun g1825 h=>?_) (fun g1825 h=>?_)
  ·refine chk_sx h (fun g1824 h=>?_)
   refine seq_np ?_
   refine reg_t ?_
   have k1823:(c1 ++ c1).length * 8≤140737488355328:=by first | simpa only [Bool.and_eq_true,decide_eq_true_eq,bne_iff_ne,ne_eq] using g1824 | (simp at g1824 ⊢; omega)
   refine rs 13 [none,none,none,none,none,none,none,none,none,some ⟨.own 21 0 (c1 ++ c1).length,[(21,.row 3 (fl (c1 ++ c1))),(1,.dead)],22,[1,1]⟩] _ (by kernel_rfl) (allP_cons (ob_app (P:=Try.prog) c1 c1 1 8 rfl (appCells (fl c1) 0 (c1.length * 1)) c1.length (app_own c1 1 rfl) rfl (0 + c1.length * 1≤(fl c1).length) (app_own_le c1 1 rfl) 3 (by kernel_rfl) (by decide) k1823 1 21 [1]) allP_nil) ?_
   refine rt [(0,.ptr 0 0),(1,iS n),(4,.ptr 4 0)] [(0,.row 26 [iS c0_Depth,.own 21 0 (c1 ++ c1).length,.own 2 0 c2.length]),(1,.dead),(2,.row 43 (flD dBucket [3] c2)),((.s 3 0),.fam (famD dBucket 0 c2)),(4,.row 43 [iS (ixD c2 n).Depth,.own (.s 3 n) 0 (ixD c2 n).Items.length]),(21,.row 3 (fl (c1 ++ c1)))] 26 follows (by kernel_rfl) ?_
   refine wk_id ?_
   refine reg_f ?_
   refine rs 8 [] [] (by kernel_rfl) allP_nil ?_
   refine rf [(0,.ptr 0 0),(1,iS n),(4,.ptr 4 0)] [(0,.row 26 [iS (IntKind.i64.wrap (c0_Depth + 1)),.own 21 0 (c1 ++ c1).length,.own 2 0 c2.length]),(1,.dead),(2,.row 43 (flD dBucket [3] c2)),((.s 3 0),.fam (famD dBucket 0 c2)),(4,.row 43 [iS (ixD c2 n).Depth,.own (.s 3 n) 0 (ixD c2 n).Items.length]),(21,.row 3 (fl (c1 ++ c1)))] 26 (by kernel_rfl) ?_
   exact hK1820 ((IntKind.i64.wrap (c0_Depth + 1)),(c1 ++ c1)) _ _ _ h (leSt_m [(0,0),(2,2),((.s 3 0),(.s 3 0)),(4,4),(5,21)] [] (by simp only [push_cast,leL_flD,renL_flD,seval]) (by simp only [push_cast,leL_flD,renL_flD,seval]) rfl rfl rfl)
  ·exact hK1820 (c0_Depth,c1) _ _ _ h (leSt_m [(0,0),(2,2),((.s 3 0),(.s 3 0)),(4,4),(5,1)] [] (by simp only [push_cast,leL_flD,renL_flD,seval]) (by simp only [push_cast,leL_flD,renL_flD,seval]) rfl rfl rfl)
 ·rintro ⟨c0_Depth3,c5q7⟩ h
  try dsimp only at h ⊢
  unfold dict_split_1_j3 at h
  refine chk_sx h (fun g1829 h=>?_)
  refine seq_np ?_
  refine reg_f ?_
  have k1828:0≤(ixD c2 n).Depth:=by first | simpa only [Bool.and_eq_true,decide_eq_true_eq,bne_iff_ne,ne_eq] using g1829 | (simp at g1829 ⊢; omega)
  refine rs 4 [none,none,some ⟨iS (IntKind.i64.wrap ((1:Int) * 2 ^ (min ((ixD c2 n).Depth).toNat (IntKind.i64).bits))),[],6,[]⟩] _ (by kernel_rfl) (allP_cons (ob_p (v:=iS (IntKind.i64.wrap ((1:Int) * 2 ^ (min ((ixD c2 n).Depth).toNat (IntKind.i64).bits)))) (nx:=6) (r:=[]) k1828) allP_nil) ?_
  refine rf [(0,.ptr 0 0),(1,iS n),(4,.ptr 4 0),(5,iS (IntKind.i64.wrap ((1:Int) * 2 ^ (min ((ixD c2 n).Depth).toNat (IntKind.i64).bits))))] [(0,.row 26 [iS c0_Depth3,.own 5 0 c5q7.length,.own 2 0 c2.length]),(1,.dead),(2,.row 43 (flD dBucket [3] c2)),((.s 3 0),.fam (famD dBucket 0 c2)),(4,.row 43 [iS (ixD c2 n).Depth,.own (.s 3 n) 0 (ixD c2 n).Items.length]),(5,.row 3 (fl c5q7))] 6 (by kernel_rfl) ?_
  refine wk_id ?_
  refine seq_np ?_
  refine reg_f ?_
  refine rs 2 [] [] (by kernel_rfl) allP_nil ?_
  refine rf [(0,.ptr 0 0),(1,iS n),(4,.ptr 4 0),(5,iS (IntKind.i64.wrap ((1:Int) * 2 ^ (min ((ixD c2 n).Depth).toNat (IntKind.i64).bits)))),(6,.v (.slice none 0 0)),(7,.v (.slice none 0 0))] [(0,.row 26 [iS c0_Depth3,.own 5 0 c5q7.length,.own 2 0 c2.length]),(1,.dead),(2,.row 43 (flD dBucket [3] c2)),((.s 3 0),.fam (famD dBucket 0 c2)),(4,.row 43 [iS (ixD c2 n).Depth,.own (.s 3 n) 0 (ixD c2 n).Items.length]),(5,.row 3 (fl c5q7))] 6 (by kernel_rfl) ?_
  refine wk_id ?_
  refine seq_np ?_
  refine seq_np ?_
  refine reg_f ?_
  refine rs 4 [] [] (by kernel_rfl) allP_nil ?_
  refine rf [(0,.ptr 0 0),(1,iS n),(4,.ptr 4 0),(5,iS (IntKind.i64.wrap ((1:Int) * 2 ^ (min ((ixD c2 n).Depth).toNat (IntKind.i64).bits)))),(6,.v (.slice none 0 0)),(7,.v (.slice none 0 0)),(49,.own (.s 3 n) 0 (ixD c2 n).Items.length),(50,iS (((ixD c2 n).Items.length:Nat):Int)),(51,iS 0)] [(0,.row 26 [iS c0_Depth3,.own 5 0 c5q7.length,.own 2 0 c2.length]),(1,.dead),(2,.row 43 (flD dBucket [3] c2)),((.s 3 0),.fam (famD dBucket 0 c2)),(4,.row 43 [iS (ixD c2 n).Depth,.own (.s 3 n) 0 (ixD c2 n).Items.length]),(5,.row 3 (fl c5q7))] 6 (by kernel_rfl) ?_
  refine wk_id ?_
  refine block_np ?_
  refine loop_sx (S:=Int × (List GItem) × (List GItem)) (fun a=>([(0,.ptr 0 0),(1,iS n),(4,.ptr 4 0),(5,iS (IntKind.i64.wrap ((1:Int) * 2 ^ (min ((ixD c2 n).Depth).toNat (IntKind.i64).bits)))),(6,.own 5 0 a.2.1.length),(7,.own 6 0 a.2.2.length),(49,.own (.s 3 n) 0 (ixD c2 n).Items.length),(50,iS (((ixD c2 n).Items.length:Nat):Int)),(51,iS a.1)],[(0,.row 26 [iS c0_Depth3,.own 7 0 c5q7.length,.own 2 0 c2.length]),(1,.dead),(2,.row 43 (flD dBucket [3] c2)),((.s 3 0),.fam (famD dBucket 0 c2)),(4,.row 43 [iS (ixD c2 n).Depth,.own (.s 3 n) 0 (ixD c2 n).Items.length]),(5,.row 45 (fl a.2.1)),(6,.row 45 (fl a.2.2)),(7,.row 3 (fl c5q7))],8)) h (leSt_m [(0,0),(2,2),((.s 3 0),(.s 3 0)),(4,4),(7,5)] [] (by simp only [push_cast,leL_flD,renL_flD,seval]) (by simp only [push_cast,leL_flD,renL_flD,seval]) rfl rfl rfl) ?_
  rintro ⟨t51q7,c5q21,c6q18⟩ o3 R3 h hr3 hn3 hx3 ht3
  try dsimp only at h hn3 ⊢
  unfold dict_split_1_l2 at h
  try dsimp only at h
  refine seq_np ?_
  refine reg_f ?_
  refine rs 1 [] [] (by kernel_rfl) allP_nil ?_
  refine rf [(0,.ptr 0 0),(1,iS n),(4,.ptr 4 0),(5,iS (IntKind.i64.wrap ((1:Int) * 2 ^ (min ((ixD c2 n).Depth).toNat (IntKind.i64).bits)))),(6,.own 5 0 c5q21.length),(7,.own 6 0 c6q18.length),(49,.own (.s 3 n) 0 (ixD c2 n).Items.length),(50,iS (((ixD c2 n).Items.length:Nat):Int)),(51,iS t51q7),(52,bS (decide (t51q7 < (((ixD c2 n).Items.length:Nat):Int))))] [(0,.row 26 [iS c0_Depth3,.own 7 0 c5q7.length,.own 2 0 c2.length]),(1,.dead),(2,.row 43 (flD dBucket [3] c2)),((.s 3 0),.fam (famD dBucket 0 c2)),(4,.row 43 [iS (ixD c2 n).Depth,.own (.s 3 n) 0 (ixD c2 n).Items.length]),(5,.row 45 (fl c5q21)),(6,.row 45 (fl c6q18)),(7,.row 3 (fl c5q7))] 8 (by kernel_rfl) ?_
  refine wk_id ?_
  refine seq_np ?_
  refine cond_sx h (by kernel_rfl) (fun g2002 h=>?_) (fun g2002 h=>?_)
  ·refine wk_id ?_
   refine seq_np ?_
   refine block_cut (A:=(List GItem) × (List GItem)) (fun a=>([(0,.ptr 0 0),(1,iS n),(4,.ptr 4 0),(5,iS (IntKind.i64.wrap ((1:Int) * 2 ^ (min ((ixD c2 n).Depth).toNat (IntKind.i64).bits)))),(6,.own 5 0 a.1.length),(7,.own 6 0 a.2.length),(49,.own (.s 3 n) 0 (ixD c2 n).Items.length),(50,iS (((ixD c2 n).Items.length:Nat):Int)),(51,iS t51q7)],[(0,.row 26 [iS c0_Depth3,.own 7 0 c5q7.length,.own 2 0 c2.length]),(1,.dead),(2,.row 43 (flD dBucket [3] c2)),((.s 3 0),.fam (famD dBucket 0 c2)),(4,.row 43 [iS (ixD c2 n).Depth,.own (.s 3 n) 0 (ixD c2 n).Items.length]),(5,.row 45 (fl a.1)),(6,.row 45 (fl a.2)),(7,.row 3 (fl c5q7))],8)) (fun a=>(dict_split_1_j1 n c2 c0_Depth3 c5q7 t51q7 a.1 a.2) = some o3) (fun K1931 hK1931=>?_) ?_
   ·refine chk_sx h (fun g1935 h=>?_)
    refine seq_np ?_
    refine reg_f ?_
    have k1934:0≤t51q7∧t51q7 < (((ixD c2 n).Items.length:Nat):Int):=by first | simpa only [Bool.and_eq_true,decide_eq_true_eq,bne_iff_ne,ne_eq] using g1935 | (simp at g1935 ⊢; omega)
    refine rs 4 [some ⟨.ptr (.s 3 n) (0 + (t51q7).toNat * 2),[],8,[(.s 3 0)]⟩,some ⟨.agg (Enc.cells (ix (ixD c2 n).Items t51q7)),[],8,[(.s 3 0)]⟩] _ (by kernel_rfl) (allP_cons (ob_ldw (ixD c2 n).Items t51q7 2 (0 + (t51q7).toNat * 2) k1934 rfl (by first | rfl | omega) [iS (ix (ixD c2 n).Items t51q7).Key,iS (ix (ixD c2 n).Items t51q7).Value] rfl 8 [(.s 3 0)]) (allP_cons (ob_ix_o (.s 3 n) (ixD c2 n).Items.length 0 2 8 t51q7 k1934) allP_nil)) ?_
    refine rf [(0,.ptr 0 0),(1,iS n),(4,.ptr 4 0),(5,iS (IntKind.i64.wrap ((1:Int) * 2 ^ (min ((ixD c2 n).Depth).toNat (IntKind.i64).bits)))),(6,.own 5 0 c5q21.length),(7,.own 6 0 c6q18.length),(9,.ptr 8 0),(49,.own (.s 3 n) 0 (ixD c2 n).Items.length),(50,iS (((ixD c2 n).Items.length:Nat):Int)),(51,iS t51q7)] [(0,.row 26 [iS c0_Depth3,.own 7 0 c5q7.length,.own 2 0 c2.length]),(1,.dead),(2,.row 43 (flD dBucket [3] c2)),((.s 3 0),.fam (famD dBucket 0 c2)),(4,.row 43 [iS (ixD c2 n).Depth,.own (.s 3 n) 0 (ixD c2 n).Items.length]),(5,.row 45 (fl c5q21)),(6,.row 45 (fl c6q18)),(7,.row 3 (fl c5q7)),(8,.row 45 (Enc.cells (ix (ixD c2 n).Items t51q7)))] 9 (by kernel_rfl) ?_
    refine wk_id ?_
    refine seq_np ?_
    refine reg_f ?_
    refine rs 5 [] [] (by kernel_rfl) allP_nil ?_
    refine rf [(0,.ptr 0 0),(1,iS n),(4,.ptr 4 0),(5,iS (IntKind.i64.wrap ((1:Int) * 2 ^ (min ((ixD c2 n).Depth).toNat (IntKind.i64).bits)))),(6,.own 5 0 c5q21.length),(7,.own 6 0 c6q18.length),(9,.ptr 8 0),(49,.own (.s 3 n) 0 (ixD c2 n).Items.length),(50,iS (((ixD c2 n).Items.length:Nat):Int)),(51,iS t51q7),(59,bS ((IntKind.i64.wrap (((BitVec.ofInt (IntKind.i64).bits (ix (ixD c2 n).Items t51q7).Key &&& BitVec.ofInt (IntKind.i64).bits (IntKind.i64.wrap ((1:Int) * 2 ^ (min ((ixD c2 n).Depth).toNat (IntKind.i64).bits)))).toNat:Nat):Int)) == 0))] [(0,.row 26 [iS c0_Depth3,.own 7 0 c5q7.length,.own 2 0 c2.length]),(1,.dead),(2,.row 43 (flD dBucket [3] c2)),((.s 3 0),.fam (famD dBucket 0 c2)),(4,.row 43 [iS (ixD c2 n).Depth,.own (.s 3 n) 0 (ixD c2 n).Items.length]),(5,.row 45 (fl c5q21)),(6,.row 45 (fl c6q18)),(7,.row 3 (fl c5q7)),(8,.row 45 (Enc.cells (ix (ixD c2 n).Items t51q7)))] 9 (by kernel_rfl) ?_
    refine wk_id ?_
    refine cond_sx h (by kernel_rfl) (fun g1944 h=>?_) (fun g1944 h=>?_)
    ·refine chk_sx h (fun g1939 h=>?_)
     refine reg_f ?_
     have k1938:(c5q21 ++ ([(ix (ixD c2 n).Items t51q7)]:List GItem)).length * 16≤140737488355328:=by first | simpa only [Bool.and_eq_true,decide_eq_true_eq,bne_iff_ne,ne_eq] using g1939 | (simp at g1939 ⊢; omega)
     refine rs 5 [none,none,none,some ⟨.own 10 0 (c5q21 ++ ([(ix (ixD c2 n).Items t51q7)]:List GItem)).length,[(10,.row 45 (fl (c5q21 ++ ([(ix (ixD c2 n).Items t51q7)]:List GItem)))),(5,.dead)],11,[5,9]⟩] _ (by kernel_rfl) (allP_cons (ob_app (P:=Try.prog) c5q21 ([(ix (ixD c2 n).Items t51q7)]:List GItem) 2 16 rfl (appCells (fl ([(ix (ixD c2 n).Items t51q7)]:List GItem)) 0 (([(ix (ixD c2 n).Items t51q7)]:List GItem).length * 2)) ([(ix (ixD c2 n).Items t51q7)]:List GItem).length (app_own ([(ix (ixD c2 n).Items t51q7)]:List GItem) 2 rfl) rfl (0 + ([(ix (ixD c2 n).Items t51q7)]:List GItem).length * 2≤(fl ([(ix (ixD c2 n).Items t51q7)]:List GItem)).length) (app_own_le ([(ix (ixD c2 n).Items t51q7)]:List GItem) 2 rfl) 45 (by kernel_rfl) (by decide) k1938 5 10 [9]) allP_nil) ?_
     refine rf [(0,.ptr 0 0),(1,iS n),(4,.ptr 4 0),(5,iS (IntKind.i64.wrap ((1:Int) * 2 ^ (min ((ixD c2 n).Depth).toNat (IntKind.i64).bits)))),(6,.own 10 0 (c5q21 ++ ([(ix (ixD c2 n).Items t51q7)]:List GItem)).length),(7,.own 6 0 c6q18.length),(49,.own (.s 3 n) 0 (ixD c2 n).Items.length),(50,iS (((ixD c2 n).Items.length:Nat):Int)),(51,iS t51q7)] [(0,.row 26 [iS c0_Depth3,.own 7 0 c5q7.length,.own 2 0 c2.length]),(1,.dead),(2,.row 43 (flD dBucket [3] c2)),((.s 3 0),.fam (famD dBucket 0 c2)),(4,.row 43 [iS (ixD c2 n).Depth,.own (.s 3 n) 0 (ixD c2 n).Items.length]),(5,.dead),(6,.row 45 (fl c6q18)),(7,.row 3 (fl c5q7)),(8,.row 45 (Enc.cells (ix (ixD c2 n).Items t51q7))),(9,.row 45 (fl ([(ix (ixD c2 n).Items t51q7)]:List GItem))),(10,.row 45 (fl (c5q21 ++ ([(ix (ixD c2 n).Items t51q7)]:List GItem))))] 11 (by kernel_rfl) ?_
     exact hK1931 ((c5q21 ++ ([(ix (ixD c2 n).Items t51q7)]:List GItem)),c6q18) _ _ _ h (leSt_m [(0,0),(2,2),((.s 3 0),(.s 3 0)),(4,4),(5,10),(6,6),(7,7)] [] (by simp only [push_cast,leL_flD,renL_flD,seval]) (by simp only [push_cast,leL_flD,renL_flD,seval]) rfl rfl rfl)
    ·refine chk_sx h (fun g1943 h=>?_)
     refine reg_f ?_
     have k1942:(c6q18 ++ ([(ix (ixD c2 n).Items t51q7)]:List GItem)).length * 16≤140737488355328:=by first | simpa only [Bool.and_eq_true,decide_eq_true_eq,bne_iff_ne,ne_eq] using g1943 | (simp at g1943 ⊢; omega)
     refine rs 5 [none,none,none,some ⟨.own 10 0 (c6q18 ++ ([(ix (ixD c2 n).Items t51q7)]:List GItem)).length,[(10,.row 45 (fl (c6q18 ++ ([(ix (ixD c2 n).Items t51q7)]:List GItem)))),(6,.dead)],11,[6,9]⟩] _ (by kernel_rfl) (allP_cons (ob_app (P:=Try.prog) c6q18 ([(ix (ixD c2 n).Items t51q7)]:List GItem) 2 16 rfl (appCells (fl ([(ix (ixD c2 n).Items t51q7)]:List GItem)) 0 (([(ix (ixD c2 n).Items t51q7)]:List GItem).length * 2)) ([(ix (ixD c2 n).Items t51q7)]:List GItem).length (app_own ([(ix (ixD c2 n).Items t51q7)]:List GItem) 2 rfl) rfl (0 + ([(ix (ixD c2 n).Items t51q7)]:List GItem).length * 2≤(fl ([(ix (ixD c2 n).Items t51q7)]:List GItem)).length) (app_own_le ([(ix (ixD c2 n).Items t51q7)]:List GItem) 2 rfl) 45 (by kernel_rfl) (by decide) k1942 6 10 [9]) allP_nil) ?_
     refine rf [(0,.ptr 0 0),(1,iS n),(4,.ptr 4 0),(5,iS (IntKind.i64.wrap ((1:Int) * 2 ^ (min ((ixD c2 n).Depth).toNat (IntKind.i64).bits)))),(6,.own 5 0 c5q21.length),(7,.own 10 0 (c6q18 ++ ([(ix (ixD c2 n).Items t51q7)]:List GItem)).length),(49,.own (.s 3 n) 0 (ixD c2 n).Items.length),(50,iS (((ixD c2 n).Items.length:Nat):Int)),(51,iS t51q7)] [(0,.row 26 [iS c0_Depth3,.own 7 0 c5q7.length,.own 2 0 c2.length]),(1,.dead),(2,.row 43 (flD dBucket [3] c2)),((.s 3 0),.fam (famD dBucket 0 c2)),(4,.row 43 [iS (ixD c2 n).Depth,.own (.s 3 n) 0 (ixD c2 n).Items.length]),(5,.row 45 (fl c5q21)),(6,.dead),(7,.row 3 (fl c5q7)),(8,.row 45 (Enc.cells (ix (ixD c2 n).Items t51q7))),(9,.row 45 (fl ([(ix (ixD c2 n).Items t51q7)]:List GItem))),(10,.row 45 (fl (c6q18 ++ ([(ix (ixD c2 n).Items t51q7)]:List GItem))))] 11 (by kernel_rfl) ?_
     exact hK1931 (c5q21,(c6q18 ++ ([(ix (ixD c2 n).Items t51q7)]:List GItem))) _ _ _ h (leSt_m [(0,0),(2,2),((.s 3 0),(.s 3 0)),(4,4),(5,5),(6,10),(7,7)] [] (by simp only [push_cast,leL_flD,renL_flD,seval]) (by simp only [push_cast,leL_flD,renL_flD,seval]) rfl rfl rfl)
   ·rintro ⟨c5q23,c6q20⟩ h
    try dsimp only at h ⊢
    unfold dict_split_1_j1 at h
    refine wk_id ?_
    refine reg_f ?_
    refine rs 2 [] [] (by kernel_rfl) allP_nil ?_
    refine rf [(0,.ptr 0 0),(1,iS n),(4,.ptr 4 0),(5,iS (IntKind.i64.wrap ((1:Int) * 2 ^ (min ((ixD c2 n).Depth).toNat (IntKind.i64).bits)))),(6,.own 5 0 c5q23.length),(7,.own 6 0 c6q20.length),(49,.own (.s 3 n) 0 (ixD c2 n).Items.length),(50,iS (((ixD c2 n).Items.length:Nat):Int)),(51,iS (IntKind.i64.wrap (t51q7 + 1)))] [(0,.row 26 [iS c0_Depth3,.own 7 0 c5q7.length,.own 2 0 c2.length]),(1,.dead),(2,.row 43 (flD dBucket [3] c2)),((.s 3 0),.fam (famD dBucket 0 c2)),(4,.row 43 [iS (ixD c2 n).Depth,.own (.s 3 n) 0 (ixD c2 n).Items.length]),(5,.row 45 (fl c5q23)),(6,.row 45 (fl c6q20)),(7,.row 3 (fl c5q7))] 8 (by kernel_rfl) ?_
    exact hn3 ((IntKind.i64.wrap (t51q7 + 1)),c5q23,c6q20) _ _ _ (Option.some.inj h).symm (leSt_m [(0,0),(2,2),((.s 3 0),(.s 3 0)),(4,4),(5,5),(6,6),(7,7)] [] (by simp only [push_cast,leL_flD,renL_flD,seval]) (by simp only [push_cast,leL_flD,renL_flD,seval]) rfl rfl rfl)
  ·change R3 (.exit 0) _ _ _
   refine ex_cast hx3 (id:=0) ?_
   obtain ⟨r0,h,e0⟩:=map_sx h
   have e1:=hr3 r0 e0.symm
   subst r0
   refine wk_id ?_
   refine wk_id ?_
   refine chk_sx h (fun g1948 h=>?_)
   refine seq_np ?_
   refine reg_t ?_
   have k1947:0≤n∧n < ((c2.length:Nat):Int):=by first | simpa only [Bool.and_eq_true,decide_eq_true_eq,bne_iff_ne,ne_eq] using g1948 | (simp at g1948 ⊢; omega)
   refine rs 11 [none,none,none,none,none,none,none,none,none,none,some ⟨.ptr 2 (0 + (n).toNat * 2),[],18,[2]⟩] _ (by kernel_rfl) (allP_cons (ob_ix_o 2 c2.length 0 2 18 n k1947) allP_nil) ?_
   refine run_opG none _ ⟨.any,[(2,.row 43 (flN dBucket (nA [(some 3)] [(some (Nm.t 5))] n) 0 (c2.set n.toNat (Bucket.mk (IntKind.i64.wrap ((ixD c2 n).Depth + 1)) c5q21))))],19,[2]⟩ [((.s 19 0),.fam (famD dBucket 0 (c2.set n.toNat (Bucket.mk (IntKind.i64.wrap ((ixD c2 n).Depth + 1)) c5q21)))),(2,.row 43 (flD dBucket [19] (c2.set n.toNat (Bucket.mk (IntKind.i64.wrap ((ixD c2 n).Depth + 1)) c5q21)))),((.s 3 0),.dead),(5,.dead)] 1 [2,(.s 3 0),5] [(.s 3 0),5] (by kernel_rfl) (ob_stN (P:=Try.prog) dBucket [3] [(some (Nm.t 5))] c2 n 2 0 (0 + (n).toNat * 2) k1947 rfl [iS (IntKind.i64.wrap ((ixD c2 n).Depth + 1)),.own 5 0 c5q21.length] (Bucket.mk (IntKind.i64.wrap ((ixD c2 n).Depth + 1)) c5q21) (Nat.le_of_ble_eq_true rfl) (by first | rfl | omega) rfl rfl 2 19 43 43 (by kernel_rfl) rfl) (ghost_A 19 dBucket (c2.set n.toNat (Bucket.mk (IntKind.i64.wrap ((ixD c2 n).Depth + 1)) c5q21)) 2 43 [(some 3)] [(some (Nm.t 5))] n (flD dBucket [19] (c2.set n.toNat (Bucket.mk (IntKind.i64.wrap ((ixD c2 n).Depth + 1)) c5q21))) 0 (some 3) (some 5) (by kernel_rfl) (flN_done dBucket [19] n (c2.set n.toNat (Bucket.mk (IntKind.i64.wrap ((ixD c2 n).Depth + 1)) c5q21)) rfl) (by kernel_rfl) ⟨_,(by kernel_rfl),(off_set c2 n (Bucket.mk (IntKind.i64.wrap ((ixD c2 n).Depth + 1)) c5q21) k1947)⟩ (S_set (fun a=>getH _ (.t 5) = chD dBucket 0 a) k1947 rfl)) (by kernel_rfl) ?_
   refine run_eqH 0 (.row 26 [iS c0_Depth3,.own 7 0 c5q7.length,.own 2 0 c2.length]) (.row 26 [iS c0_Depth3,.own 7 0 c5q7.length,.own 2 0 (c2.set n.toNat (Bucket.mk (IntKind.i64.wrap ((ixD c2 n).Depth + 1)) c5q21)).length]) (congrArg (fun nq=>(.row 26 [iS c0_Depth3,.own 7 0 c5q7.length,.own 2 0 nq]:Chunk)) (show c2.length = (c2.set n.toNat (Bucket.mk (IntKind.i64.wrap ((ixD c2 n).Depth + 1)) c5q21)).length from (List.length_set ..).symm)) (by kernel_rfl) ?_
   refine rt [(0,.ptr 0 0),(1,iS n),(4,.ptr 4 0),(5,iS (IntKind.i64.wrap ((1:Int) * 2 ^ (min ((ixD c2 n).Depth).toNat (IntKind.i64).bits)))),(7,.own 6 0 c6q18.length)] [(0,.row 26 [iS c0_Depth3,.own 7 0 c5q7.length,.own 2 0 (c2.set n.toNat (Bucket.mk (IntKind.i64.wrap ((ixD c2 n).Depth + 1)) c5q21)).length]),(1,.dead),(2,.row 43 (flD dBucket [19] (c2.set n.toNat (Bucket.mk (IntKind.i64.wrap ((ixD c2 n).Depth + 1)) c5q21)))),((.s 3 0),.dead),(4,.row 43 [iS (ixD c2 n).Depth,.own (.s 3 n) 0 (ixD c2 n).Items.length]),(5,.dead),(6,.row 45 (fl c6q18)),(7,.row 3 (fl c5q7)),((.s 19 0),.fam (famD dBucket 0 (c2.set n.toNat (Bucket.mk (IntKind.i64.wrap ((ixD c2 n).Depth + 1)) c5q21))))] 21 follows (by kernel_rfl) ?_
   refine wk_id ?_
   refine chk_sx h (fun g1952 h=>?_)
   refine seq_np ?_
   refine reg_t ?_
   have k1951:((c2.set n.toNat (Bucket.mk (IntKind.i64.wrap ((ixD c2 n).Depth + 1)) c5q21)) ++ [(Bucket.mk (IntKind.i64.wrap ((ixD c2 n).Depth + 1)) c6q18)]).length * 32≤140737488355328:=by first | simpa only [Bool.and_eq_true,decide_eq_true_eq,bne_iff_ne,ne_eq] using g1952 | (simp at g1952 ⊢; omega)
   refine rs 11 [] [] (by kernel_rfl) allP_nil ?_
   refine run_opG (some 91) _ ⟨.own 33 0 ((c2.set n.toNat (Bucket.mk (IntKind.i64.wrap ((ixD c2 n).Depth + 1)) c5q21)) ++ [(Bucket.mk (IntKind.i64.wrap ((ixD c2 n).Depth + 1)) c6q18)]).length,[(33,.row 43 (flN dBucket (nA [(some 19)] [(some (Nm.t 6))] (((c2.set n.toNat (Bucket.mk (IntKind.i64.wrap ((ixD c2 n).Depth + 1)) c5q21)).length:Nat):Int)) 0 ((c2.set n.toNat (Bucket.mk (IntKind.i64.wrap ((ixD c2 n).Depth + 1)) c5q21)) ++ [(Bucket.mk (IntKind.i64.wrap ((ixD c2 n).Depth + 1)) c6q18)]))),(2,.dead)],34,[2,31]⟩ [((.s 34 0),.fam (famD dBucket 0 ((c2.set n.toNat (Bucket.mk (IntKind.i64.wrap ((ixD c2 n).Depth + 1)) c5q21)) ++ [(Bucket.mk (IntKind.i64.wrap ((ixD c2 n).Depth + 1)) c6q18)]))),(33,.row 43 (flD dBucket [34] ((c2.set n.toNat (Bucket.mk (IntKind.i64.wrap ((ixD c2 n).Depth + 1)) c5q21)) ++ [(Bucket.mk (IntKind.i64.wrap ((ixD c2 n).Depth + 1)) c6q18)]))),((.s 19 0),.dead),(6,.dead)] 1 [33,(.s 19 0),6] [(.s 19 0),6] (by kernel_rfl) (ob_appN (P:=Try.prog) dBucket [19] [(some (Nm.t 6))] (c2.set n.toNat (Bucket.mk (IntKind.i64.wrap ((ixD c2 n).Depth + 1)) c5q21)) (Bucket.mk (IntKind.i64.wrap ((ixD c2 n).Depth + 1)) c6q18) 2 32 rfl (appCells ([iS (IntKind.i64.wrap ((ixD c2 n).Depth + 1)),.own 6 0 c6q18.length]:List SV) 0 (1 * 2)) rfl rfl rfl (0 + 1 * 2≤([iS (IntKind.i64.wrap ((ixD c2 n).Depth + 1)),.own 6 0 c6q18.length]:List SV).length) (by first | exact (Nat.le_of_ble_eq_true rfl:0 + 1 * 2≤([iS (IntKind.i64.wrap ((ixD c2 n).Depth + 1)),.own 6 0 c6q18.length]:List SV).length) | decide) 43 (by kernel_rfl) (by decide) k1951 2 33 [31]) (ghost_A 34 dBucket ((c2.set n.toNat (Bucket.mk (IntKind.i64.wrap ((ixD c2 n).Depth + 1)) c5q21)) ++ [(Bucket.mk (IntKind.i64.wrap ((ixD c2 n).Depth + 1)) c6q18)]) 33 43 [(some 19)] [(some (Nm.t 6))] (((c2.set n.toNat (Bucket.mk (IntKind.i64.wrap ((ixD c2 n).Depth + 1)) c5q21)).length:Nat):Int) (flD dBucket [34] ((c2.set n.toNat (Bucket.mk (IntKind.i64.wrap ((ixD c2 n).Depth + 1)) c5q21)) ++ [(Bucket.mk (IntKind.i64.wrap ((ixD c2 n).Depth + 1)) c6q18)])) 0 (some 19) (some 6) (by kernel_rfl) (flN_done dBucket [34] (((c2.set n.toNat (Bucket.mk (IntKind.i64.wrap ((ixD c2 n).Depth + 1)) c5q21)).length:Nat):Int) ((c2.set n.toNat (Bucket.mk (IntKind.i64.wrap ((ixD c2 n).Depth + 1)) c5q21)) ++ [(Bucket.mk (IntKind.i64.wrap ((ixD c2 n).Depth + 1)) c6q18)]) rfl) (by kernel_rfl) ⟨_,(by kernel_rfl),off_app _ _⟩ (S_app (fun a=>getH _ (.t 6) = chD dBucket 0 a) rfl)) (by kernel_rfl) ?_
   refine rs 3 [] [] (by kernel_rfl) allP_nil ?_
   refine rt [(0,.ptr 0 0),(1,iS n),(5,iS (IntKind.i64.wrap ((1:Int) * 2 ^ (min ((ixD c2 n).Depth).toNat (IntKind.i64).bits))))] [(0,.row 26 [iS c0_Depth3,.own 7 0 c5q7.length,.own 33 0 ((c2.set n.toNat (Bucket.mk (IntKind.i64.wrap ((ixD c2 n).Depth + 1)) c5q21)) ++ [(Bucket.mk (IntKind.i64.wrap ((ixD c2 n).Depth + 1)) c6q18)]).length]),(1,.dead),(2,.dead),((.s 3 0),.dead),(4,.row 43 [iS (ixD c2 n).Depth,.own (.s 3 n) 0 (ixD c2 n).Items.length]),(5,.dead),(6,.dead),(7,.row 3 (fl c5q7)),((.s 19 0),.dead),(31,.row 43 [iS (IntKind.i64.wrap ((ixD c2 n).Depth + 1)),.own 6 0 c6q18.length]),(33,.row 43 (flD dBucket [34] ((c2.set n.toNat (Bucket.mk (IntKind.i64.wrap ((ixD c2 n).Depth + 1)) c5q21)) ++ [(Bucket.mk (IntKind.i64.wrap ((ixD c2 n).Depth + 1)) c6q18)]))),((.s 34 0),.fam (famD dBucket 0 ((c2.set n.toNat (Bucket.mk (IntKind.i64.wrap ((ixD c2 n).Depth + 1)) c5q21)) ++ [(Bucket.mk (IntKind.i64.wrap ((ixD c2 n).Depth + 1)) c6q18)])))] 39 follows (by kernel_rfl) ?_
   refine wk_id ?_
   refine seq_np ?_
   refine reg_f ?_
   refine rs 6 [] [] (by kernel_rfl) allP_nil ?_
   refine rf [(0,.ptr 0 0),(1,iS n),(5,iS (IntKind.i64.wrap ((1:Int) * 2 ^ (min ((ixD c2 n).Depth).toNat (IntKind.i64).bits)))),(97,.own 7 0 c5q7.length),(98,iS ((c5q7.length:Nat):Int)),(99,iS 0)] [(0,.row 26 [iS c0_Depth3,.own 7 0 c5q7.length,.own 33 0 ((c2.set n.toNat (Bucket.mk (IntKind.i64.wrap ((ixD c2 n).Depth + 1)) c5q21)) ++ [(Bucket.mk (IntKind.i64.wrap ((ixD c2 n).Depth + 1)) c6q18)]).length]),(1,.dead),(2,.dead),((.s 3 0),.dead),(4,.row 43 [iS (ixD c2 n).Depth,.own (.s 3 n) 0 (ixD c2 n).Items.length]),(5,.dead),(6,.dead),(7,.row 3 (fl c5q7)),((.s 19 0),.dead),(31,.row 43 [iS (IntKind.i64.wrap ((ixD c2 n).Depth + 1)),.own 6 0 c6q18.length]),(33,.row 43 (flD dBucket [34] ((c2.set n.toNat (Bucket.mk (IntKind.i64.wrap ((ixD c2 n).Depth + 1)) c5q21)) ++ [(Bucket.mk (IntKind.i64.wrap ((ixD c2 n).Depth + 1)) c6q18)]))),((.s 34 0),.fam (famD dBucket 0 ((c2.set n.toNat (Bucket.mk (IntKind.i64.wrap ((ixD c2 n).Depth + 1)) c5q21)) ++ [(Bucket.mk (IntKind.i64.wrap ((ixD c2 n).Depth + 1)) c6q18)])))] 39 (by kernel_rfl) ?_
   refine wk_id ?_
   refine block_np ?_
   refine loop_sx (S:=Int × (List Int)) (fun a=>([(0,.ptr 0 0),(1,iS n),(5,iS (IntKind.i64.wrap ((1:Int) * 2 ^ (min ((ixD c2 n).Depth).toNat (IntKind.i64).bits)))),(97,.own 4 0 a.2.length),(98,iS ((c5q7.length:Nat):Int)),(99,iS a.1)],[(0,.row 26 [iS c0_Depth3,.own 4 0 a.2.length,.own 5 0 ((c2.set n.toNat (Bucket.mk (IntKind.i64.wrap ((ixD c2 n).Depth + 1)) c5q21)) ++ [(Bucket.mk (IntKind.i64.wrap ((ixD c2 n).Depth + 1)) c6q18)]).length]),(1,.dead),(2,.dead),((.s 3 0),.dead),(4,.row 3 (fl a.2)),(5,.row 43 (flD dBucket [6] ((c2.set n.toNat (Bucket.mk (IntKind.i64.wrap ((ixD c2 n).Depth + 1)) c5q21)) ++ [(Bucket.mk (IntKind.i64.wrap ((ixD c2 n).Depth + 1)) c6q18)]))),((.s 6 0),.fam (famD dBucket 0 ((c2.set n.toNat (Bucket.mk (IntKind.i64.wrap ((ixD c2 n).Depth + 1)) c5q21)) ++ [(Bucket.mk (IntKind.i64.wrap ((ixD c2 n).Depth + 1)) c6q18)])))],7)) h (leSt_m [(0,0),(4,7),(5,33),((.s 6 0),(.s 34 0))] [] (by simp only [push_cast,leL_flD,renL_flD,seval]) (by simp only [push_cast,leL_flD,renL_flD,seval]) rfl rfl rfl) ?_
   rintro ⟨t99q3,c4q9⟩ o4 R4 h hr4 hn4 hx4 ht4
   try dsimp only at h hn4 ⊢
   unfold dict_split_1_l1 at h
   try dsimp only at h
   refine seq_np ?_
   refine reg_f ?_
   refine rs 1 [] [] (by kernel_rfl) allP_nil ?_
   refine rf [(0,.ptr 0 0),(1,iS n),(5,iS (IntKind.i64.wrap ((1:Int) * 2 ^ (min ((ixD c2 n).Depth).toNat (IntKind.i64).bits)))),(97,.own 4 0 c4q9.length),(98,iS ((c5q7.length:Nat):Int)),(99,iS t99q3),(100,bS (decide (t99q3 < ((c5q7.length:Nat):Int))))] [(0,.row 26 [iS c0_Depth3,.own 4 0 c4q9.length,.own 5 0 ((c2.set n.toNat (Bucket.mk (IntKind.i64.wrap ((ixD c2 n).Depth + 1)) c5q21)) ++ [(Bucket.mk (IntKind.i64.wrap ((ixD c2 n).Depth + 1)) c6q18)]).length]),(1,.dead),(2,.dead),((.s 3 0),.dead),(4,.row 3 (fl c4q9)),(5,.row 43 (flD dBucket [6] ((c2.set n.toNat (Bucket.mk (IntKind.i64.wrap ((ixD c2 n).Depth + 1)) c5q21)) ++ [(Bucket.mk (IntKind.i64.wrap ((ixD c2 n).Depth + 1)) c6q18)]))),((.s 6 0),.fam (famD dBucket 0 ((c2.set n.toNat (Bucket.mk (IntKind.i64.wrap ((ixD c2 n).Depth + 1)) c5q21)) ++ [(Bucket.mk (IntKind.i64.wrap ((ixD c2 n).Depth + 1)) c6q18)])))] 7 (by kernel_rfl) ?_
   refine wk_id ?_
   refine seq_np ?_
   refine cond_sx h (by kernel_rfl) (fun g2001 h=>?_) (fun g2001 h=>?_)
   ·refine wk_id ?_
    refine seq_np ?_
    refine block_cut (A:=(List Int)) (fun a=>([(0,.ptr 0 0),(1,iS n),(5,iS (IntKind.i64.wrap ((1:Int) * 2 ^ (min ((ixD c2 n).Depth).toNat (IntKind.i64).bits)))),(97,.own 4 0 a.length),(98,iS ((c5q7.length:Nat):Int)),(99,iS t99q3)],[(0,.row 26 [iS c0_Depth3,.own 4 0 a.length,.own 5 0 ((c2.set n.toNat (Bucket.mk (IntKind.i64.wrap ((ixD c2 n).Depth + 1)) c5q21)) ++ [(Bucket.mk (IntKind.i64.wrap ((ixD c2 n).Depth + 1)) c6q18)]).length]),(1,.dead),(2,.dead),((.s 3 0),.dead),(4,.row 3 (fl a)),(5,.row 43 (flD dBucket [6] ((c2.set n.toNat (Bucket.mk (IntKind.i64.wrap ((ixD c2 n).Depth + 1)) c5q21)) ++ [(Bucket.mk (IntKind.i64.wrap ((ixD c2 n).Depth + 1)) c6q18)]))),((.s 6 0),.fam (famD dBucket 0 ((c2.set n.toNat (Bucket.mk (IntKind.i64.wrap ((ixD c2 n).Depth + 1)) c5q21)) ++ [(Bucket.mk (IntKind.i64.wrap ((ixD c2 n).Depth + 1)) c6q18)])))],7)) (fun a=>(dict_split_1_j2 n c2 c0_Depth3 c5q7 c5q21 c6q18 t99q3 a) = some o4) (fun K1988 hK1988=>?_) ?_
    ·refine chk_sx h (fun g1992 h=>?_)
     refine seq_np ?_
     refine reg_f ?_
     have k1991:0≤t99q3∧t99q3 < ((c4q9.length:Nat):Int):=by first | simpa only [Bool.and_eq_true,decide_eq_true_eq,bne_iff_ne,ne_eq] using g1992 | (simp at g1992 ⊢; omega)
     refine rs 5 [none,some ⟨.ptr 4 (0 + (t99q3).toNat * 1),[],7,[4]⟩,some ⟨iS (ix c4q9 t99q3),[],7,[4]⟩] _ (by kernel_rfl) (allP_cons (ob_ld c4q9 t99q3 1 0 (0 + (t99q3).toNat * 1) k1991 rfl (by decide) (by first | rfl | omega) (dflS Try.prog 3) (iS (ix c4q9 t99q3)) rfl 7 [4]) (allP_cons (ob_ix_o 4 c4q9.length 0 1 7 t99q3 k1991) allP_nil)) ?_
     refine rf [(0,.ptr 0 0),(1,iS n),(5,iS (IntKind.i64.wrap ((1:Int) * 2 ^ (min ((ixD c2 n).Depth).toNat (IntKind.i64).bits)))),(10,iS t99q3),(11,iS (ix c4q9 t99q3)),(97,.own 4 0 c4q9.length),(98,iS ((c5q7.length:Nat):Int)),(99,iS t99q3)] [(0,.row 26 [iS c0_Depth3,.own 4 0 c4q9.length,.own 5 0 ((c2.set n.toNat (Bucket.mk (IntKind.i64.wrap ((ixD c2 n).Depth + 1)) c5q21)) ++ [(Bucket.mk (IntKind.i64.wrap ((ixD c2 n).Depth + 1)) c6q18)]).length]),(1,.dead),(2,.dead),((.s 3 0),.dead),(4,.row 3 (fl c4q9)),(5,.row 43 (flD dBucket [6] ((c2.set n.toNat (Bucket.mk (IntKind.i64.wrap ((ixD c2 n).Depth + 1)) c5q21)) ++ [(Bucket.mk (IntKind.i64.wrap ((ixD c2 n).Depth + 1)) c6q18)]))),((.s 6 0),.fam (famD dBucket 0 ((c2.set n.toNat (Bucket.mk (IntKind.i64.wrap ((ixD c2 n).Depth + 1)) c5q21)) ++ [(Bucket.mk (IntKind.i64.wrap ((ixD c2 n).Depth + 1)) c6q18)])))] 7 (by kernel_rfl) ?_
     refine wk_id ?_
     refine seq_cut (A:=Unit) (fun _=>([(0,.ptr 0 0),(1,iS n),(5,iS (IntKind.i64.wrap ((1:Int) * 2 ^ (min ((ixD c2 n).Depth).toNat (IntKind.i64).bits)))),(10,iS t99q3),(97,.own 4 0 c4q9.length),(98,iS ((c5q7.length:Nat):Int)),(99,iS t99q3),(112,bS (((ix c4q9 t99q3) == n) && ((IntKind.i64.wrap (((BitVec.ofInt (IntKind.i64).bits t99q3 &&& BitVec.ofInt (IntKind.i64).bits (IntKind.i64.wrap ((1:Int) * 2 ^ (min ((ixD c2 n).Depth).toNat (IntKind.i64).bits)))).toNat:Nat):Int)) != 0)))],[(0,.row 26 [iS c0_Depth3,.own 4 0 c4q9.length,.own 5 0 ((c2.set n.toNat (Bucket.mk (IntKind.i64.wrap ((ixD c2 n).Depth + 1)) c5q21)) ++ [(Bucket.mk (IntKind.i64.wrap ((ixD c2 n).Depth + 1)) c6q18)]).length]),(4,.row 3 (fl c4q9)),(5,.row 43 (flD dBucket [6] ((c2.set n.toNat (Bucket.mk (IntKind.i64.wrap ((ixD c2 n).Depth + 1)) c5q21)) ++ [(Bucket.mk (IntKind.i64.wrap ((ixD c2 n).Depth + 1)) c6q18)]))),((.s 6 0),.fam (famD dBucket 0 ((c2.set n.toNat (Bucket.mk (IntKind.i64.wrap ((ixD c2 n).Depth + 1)) c5q21)) ++ [(Bucket.mk (IntKind.i64.wrap ((ixD c2 n).Depth + 1)) c6q18)])))],7)) (fun _=>True) (fun K1994 hK1994=>?_) (fun _ _=>?_)
     ·refine reg_f ?_
      refine rs 4 [] [] (by kernel_rfl) allP_nil ?_
      refine run_split 107 ((ix c4q9 t99q3) == n) (.inl (by kernel_rfl)) (fun g1995=>?_) (fun g1995=>?_)
      ·refine rs 5 [] [] (by kernel_rfl) allP_nil ?_
       refine rf [(0,.ptr 0 0),(1,iS n),(5,iS (IntKind.i64.wrap ((1:Int) * 2 ^ (min ((ixD c2 n).Depth).toNat (IntKind.i64).bits)))),(10,iS t99q3),(97,.own 4 0 c4q9.length),(98,iS ((c5q7.length:Nat):Int)),(99,iS t99q3),(112,bS ((IntKind.i64.wrap (((BitVec.ofInt (IntKind.i64).bits t99q3 &&& BitVec.ofInt (IntKind.i64).bits (IntKind.i64.wrap ((1:Int) * 2 ^ (min ((ixD c2 n).Depth).toNat (IntKind.i64).bits)))).toNat:Nat):Int)) != 0))] [(0,.row 26 [iS c0_Depth3,.own 4 0 c4q9.length,.own 5 0 ((c2.set n.toNat (Bucket.mk (IntKind.i64.wrap ((ixD c2 n).Depth + 1)) c5q21)) ++ [(Bucket.mk (IntKind.i64.wrap ((ixD c2 n).Depth + 1)) c6q18)]).length]),(1,.dead),(2,.dead),((.s 3 0),.dead),(4,.row 3 (fl c4q9)),(5,.row 43 (flD dBucket [6] ((c2.set n.toNat (Bucket.mk (IntKind.i64.wrap ((ixD c2 n).Depth + 1)) c5q21)) ++ [(Bucket.mk (IntKind.i64.wrap ((ixD c2 n).Depth + 1)) c6q18)]))),((.s 6 0),.fam (famD dBucket 0 ((c2.set n.toNat (Bucket.mk (IntKind.i64.wrap ((ixD c2 n).Depth + 1)) c5q21)) ++ [(Bucket.mk (IntKind.i64.wrap ((ixD c2 n).Depth + 1)) c6q18)])))] 7 (by kernel_rfl) ?_
       exact hK1994 () _ _ _ trivial (leSt_m [(0,0),(4,4),(5,5),((.s 6 0),(.s 6 0))] [] (by (try simp only [g1995]) <;> simp only [push_cast,leL_flD,renL_flD,seval]) (by (try simp only [g1995]) <;> simp only [push_cast,leL_flD,renL_flD,seval]) rfl rfl rfl)
      ·refine rs 5 [] [] (by kernel_rfl) allP_nil ?_
       refine rf [(0,.ptr 0 0),(1,iS n),(5,iS (IntKind.i64.wrap ((1:Int) * 2 ^ (min ((ixD c2 n).Depth).toNat (IntKind.i64).bits)))),(10,iS t99q3),(97,.own 4 0 c4q9.length),(98,iS ((c5q7.length:Nat):Int)),(99,iS t99q3),(112,bS false)] [(0,.row 26 [iS c0_Depth3,.own 4 0 c4q9.length,.own 5 0 ((c2.set n.toNat (Bucket.mk (IntKind.i64.wrap ((ixD c2 n).Depth + 1)) c5q21)) ++ [(Bucket.mk (IntKind.i64.wrap ((ixD c2 n).Depth + 1)) c6q18)]).length]),(1,.dead),(2,.dead),((.s 3 0),.dead),(4,.row 3 (fl c4q9)),(5,.row 43 (flD dBucket [6] ((c2.set n.toNat (Bucket.mk (IntKind.i64.wrap ((ixD c2 n).Depth + 1)) c5q21)) ++ [(Bucket.mk (IntKind.i64.wrap ((ixD c2 n).Depth + 1)) c6q18)]))),((.s 6 0),.fam (famD dBucket 0 ((c2.set n.toNat (Bucket.mk (IntKind.i64.wrap ((ixD c2 n).Depth + 1)) c5q21)) ++ [(Bucket.mk (IntKind.i64.wrap ((ixD c2 n).Depth + 1)) c6q18)])))] 7 (by kernel_rfl) ?_
       exact hK1994 () _ _ _ trivial (leSt_m [(0,0),(4,4),(5,5),((.s 6 0),(.s 6 0))] [] (by (try simp only [g1995]) <;> simp only [push_cast,leL_flD,renL_flD,seval]) (by (try simp only [g1995]) <;> simp only [push_cast,leL_flD,renL_flD,seval]) rfl rfl rfl)
     ·dsimp only
      refine cond_sx h (by kernel_rfl) (fun g2000 h=>?_) (fun g2000 h=>?_)
      ·refine chk_sx h (fun g1999 h=>?_)
       refine reg_t ?_
       have k1998:0≤t99q3∧t99q3 < ((c4q9.length:Nat):Int):=by first | simpa only [Bool.and_eq_true,decide_eq_true_eq,bne_iff_ne,ne_eq] using g1999 | (simp at g1999 ⊢; omega)
       refine rs 13 [none,none,none,none,none,none,none,none,none,none,none,some ⟨.ptr 4 (0 + (t99q3).toNat * 1),[],18,[4]⟩,some ⟨.any,[(4,.row 3 (fl (c4q9.set t99q3.toNat (IntKind.i64.wrap (((((c2.set n.toNat (Bucket.mk (IntKind.i64.wrap ((ixD c2 n).Depth + 1)) c5q21)) ++ [(Bucket.mk (IntKind.i64.wrap ((ixD c2 n).Depth + 1)) c6q18)]).length:Nat):Int) - 1)))))],19,[4]⟩] _ (by kernel_rfl) (allP_cons (ob_st (P:=Try.prog) c4q9 t99q3 1 0 (0 + (t99q3).toNat * 1) k1998 rfl [iS (IntKind.i64.wrap (((((c2.set n.toNat (Bucket.mk (IntKind.i64.wrap ((ixD c2 n).Depth + 1)) c5q21)) ++ [(Bucket.mk (IntKind.i64.wrap ((ixD c2 n).Depth + 1)) c6q18)]).length:Nat):Int) - 1))] (IntKind.i64.wrap (((((c2.set n.toNat (Bucket.mk (IntKind.i64.wrap ((ixD c2 n).Depth + 1)) c5q21)) ++ [(Bucket.mk (IntKind.i64.wrap ((ixD c2 n).Depth + 1)) c6q18)]).length:Nat):Int) - 1)) (Nat.le_of_ble_eq_true rfl) (by first | rfl | omega) rfl 4 19 3 3 (by kernel_rfl) rfl) (allP_cons (ob_ix_o 4 c4q9.length 0 1 18 t99q3 k1998) allP_nil)) ?_
       refine run_eqF 97 (.own 4 0 c4q9.length) (.own 4 0 (c4q9.set t99q3.toNat (IntKind.i64.wrap (((((c2.set n.toNat (Bucket.mk (IntKind.i64.wrap ((ixD c2 n).Depth + 1)) c5q21)) ++ [(Bucket.mk (IntKind.i64.wrap ((ixD c2 n).Depth + 1)) c6q18)]).length:Nat):Int) - 1))).length) (congrArg (fun nq=>(.own 4 0 nq:SV)) (show c4q9.length = (c4q9.set t99q3.toNat (IntKind.i64.wrap (((((c2.set n.toNat (Bucket.mk (IntKind.i64.wrap ((ixD c2 n).Depth + 1)) c5q21)) ++ [(Bucket.mk (IntKind.i64.wrap ((ixD c2 n).Depth + 1)) c6q18)]).length:Nat):Int) - 1))).length from (List.length_set ..).symm)) (by kernel_rfl) ?_
       refine run_eqH 0 (.row 26 [iS c0_Depth3,.own 4 0 c4q9.length,.own 5 0 ((c2.set n.toNat (Bucket.mk (IntKind.i64.wrap ((ixD c2 n).Depth + 1)) c5q21)) ++ [(Bucket.mk (IntKind.i64.wrap ((ixD c2 n).Depth + 1)) c6q18)]).length]) (.row 26 [iS c0_Depth3,.own 4 0 (c4q9.set t99q3.toNat (IntKind.i64.wrap (((((c2.set n.toNat (Bucket.mk (IntKind.i64.wrap ((ixD c2 n).Depth + 1)) c5q21)) ++ [(Bucket.mk (IntKind.i64.wrap ((ixD c2 n).Depth + 1)) c6q18)]).length:Nat):Int) - 1))).length,.own 5 0 ((c2.set n.toNat (Bucket.mk (IntKind.i64.wrap ((ixD c2 n).Depth + 1)) c5q21)) ++ [(Bucket.mk (IntKind.i64.wrap ((ixD c2 n).Depth + 1)) c6q18)]).length]) (congrArg (fun nq=>(.row 26 [iS c0_Depth3,.own 4 0 nq,.own 5 0 ((c2.set n.toNat (Bucket.mk (IntKind.i64.wrap ((ixD c2 n).Depth + 1)) c5q21)) ++ [(Bucket.mk (IntKind.i64.wrap ((ixD c2 n).Depth + 1)) c6q18)]).length]:Chunk)) (show c4q9.length = (c4q9.set t99q3.toNat (IntKind.i64.wrap (((((c2.set n.toNat (Bucket.mk (IntKind.i64.wrap ((ixD c2 n).Depth + 1)) c5q21)) ++ [(Bucket.mk (IntKind.i64.wrap ((ixD c2 n).Depth + 1)) c6q18)]).length:Nat):Int) - 1))).length from (List.length_set ..).symm)) (by kernel_rfl) ?_
       refine rt [(0,.ptr 0 0),(1,iS n),(5,iS (IntKind.i64.wrap ((1:Int) * 2 ^ (min ((ixD c2 n).Depth).toNat (IntKind.i64).bits)))),(97,.own 4 0 (c4q9.set t99q3.toNat (IntKind.i64.wrap (((((c2.set n.toNat (Bucket.mk (IntKind.i64.wrap ((ixD c2 n).Depth + 1)) c5q21)) ++ [(Bucket.mk (IntKind.i64.wrap ((ixD c2 n).Depth + 1)) c6q18)]).length:Nat):Int) - 1))).length),(98,iS ((c5q7.length:Nat):Int)),(99,iS t99q3)] [(0,.row 26 [iS c0_Depth3,.own 4 0 (c4q9.set t99q3.toNat (IntKind.i64.wrap (((((c2.set n.toNat (Bucket.mk (IntKind.i64.wrap ((ixD c2 n).Depth + 1)) c5q21)) ++ [(Bucket.mk (IntKind.i64.wrap ((ixD c2 n).Depth + 1)) c6q18)]).length:Nat):Int) - 1))).length,.own 5 0 ((c2.set n.toNat (Bucket.mk (IntKind.i64.wrap ((ixD c2 n).Depth + 1)) c5q21)) ++ [(Bucket.mk (IntKind.i64.wrap ((ixD c2 n).Depth + 1)) c6q18)]).length]),(4,.row 3 (fl (c4q9.set t99q3.toNat (IntKind.i64.wrap (((((c2.set n.toNat (Bucket.mk (IntKind.i64.wrap ((ixD c2 n).Depth + 1)) c5q21)) ++ [(Bucket.mk (IntKind.i64.wrap ((ixD c2 n).Depth + 1)) c6q18)]).length:Nat):Int) - 1))))),(5,.row 43 (flD dBucket [6] ((c2.set n.toNat (Bucket.mk (IntKind.i64.wrap ((ixD c2 n).Depth + 1)) c5q21)) ++ [(Bucket.mk (IntKind.i64.wrap ((ixD c2 n).Depth + 1)) c6q18)]))),((.s 6 0),.fam (famD dBucket 0 ((c2.set n.toNat (Bucket.mk (IntKind.i64.wrap ((ixD c2 n).Depth + 1)) c5q21)) ++ [(Bucket.mk (IntKind.i64.wrap ((ixD c2 n).Depth + 1)) c6q18)])))] 20 follows (by kernel_rfl) ?_
       exact hK1988 ((c4q9.set t99q3.toNat (IntKind.i64.wrap (((((c2.set n.toNat (Bucket.mk (IntKind.i64.wrap ((ixD c2 n).Depth + 1)) c5q21)) ++ [(Bucket.mk (IntKind.i64.wrap ((ixD c2 n).Depth + 1)) c6q18)]).length:Nat):Int) - 1)))) _ _ _ h (leSt_m [(0,0),(4,4),(5,5),((.s 6 0),(.s 6 0))] [] (by simp only [push_cast,leL_flD,renL_flD,seval]) (by simp only [push_cast,leL_flD,renL_flD,seval]) rfl rfl rfl)
      ·exact hK1988 (c4q9) _ _ _ h (leSt_m [(0,0),(4,4),(5,5),((.s 6 0),(.s 6 0))] [] (by simp only [push_cast,leL_flD,renL_flD,seval]) (by simp only [push_cast,leL_flD,renL_flD,seval]) rfl rfl rfl)
    ·rintro c4q11 h
     try dsimp only at h ⊢
     unfold dict_split_1_j2 at h
     refine wk_id ?_
     refine reg_f ?_
     refine rs 2 [] [] (by kernel_rfl) allP_nil ?_
     refine rf [(0,.ptr 0 0),(1,iS n),(5,iS (IntKind.i64.wrap ((1:Int) * 2 ^ (min ((ixD c2 n).Depth).toNat (IntKind.i64).bits)))),(97,.own 4 0 c4q11.length),(98,iS ((c5q7.length:Nat):Int)),(99,iS (IntKind.i64.wrap (t99q3 + 1)))] [(0,.row 26 [iS c0_Depth3,.own 4 0 c4q11.length,.own 5 0 ((c2.set n.toNat (Bucket.mk (IntKind.i64.wrap ((ixD c2 n).Depth + 1)) c5q21)) ++ [(Bucket.mk (IntKind.i64.wrap ((ixD c2 n).Depth + 1)) c6q18)]).length]),(1,.dead),(2,.dead),((.s 3 0),.dead),(4,.row 3 (fl c4q11)),(5,.row 43 (flD dBucket [6] ((c2.set n.toNat (Bucket.mk (IntKind.i64.wrap ((ixD c2 n).Depth + 1)) c5q21)) ++ [(Bucket.mk (IntKind.i64.wrap ((ixD c2 n).Depth + 1)) c6q18)]))),((.s 6 0),.fam (famD dBucket 0 ((c2.set n.toNat (Bucket.mk (IntKind.i64.wrap ((ixD c2 n).Depth + 1)) c5q21)) ++ [(Bucket.mk (IntKind.i64.wrap ((ixD c2 n).Depth + 1)) c6q18)])))] 7 (by kernel_rfl) ?_
     exact hn4 ((IntKind.i64.wrap (t99q3 + 1)),c4q11) _ _ _ (Option.some.inj h).symm (leSt_m [(0,0),(4,4),(5,5),((.s 6 0),(.s 6 0))] [] (by simp only [push_cast,leL_flD,renL_flD,seval]) (by simp only [push_cast,leL_flD,renL_flD,seval]) rfl rfl rfl)
   ·change R4 (.exit 2) _ _ _
    refine ex_cast hx4 (id:=2) ?_
    obtain ⟨r0,h,e0⟩:=map_sx h
    have e1:=hr4 r0 e0.symm
    subst r0
    refine wk_id ?_
    obtain rfl:=Option.some.inj h
    refine ret_an (.tup []) (by kernel_rfl) ?_
    exact ret_e [(0,0),(4,4),(5,5),((.s 6 0),(.s 6 0))] [] (by simp only [push_cast,leL_flD,renL_flD,seval]) (by simp only [push_cast,leL_flD,renL_flD,seval]) rfl rfl rfl

set_option maxRecDepth 100000 in
set_option maxHeartbeats 200000000 in
theorem dict_number_1_spec (c0_Depth:Int) (c1:(List Int)) (c2:(List Bucket)) (r:Int × (List Bucket) × (List Int)) (h:dict_number_1 c0_Depth c1 c2 = some r):SpecW Try.prog 33 [.ptr 0 0] [(0,.row 26 [iS c0_Depth,.own 1 0 c1.length,.own 2 0 c2.length]),(1,.row 3 (fl c1)),(2,.row 43 (flD dBucket [3] c2)),((.s 3 0),.fam (famD dBucket 0 c2))] 4 (fun x h n=>x = .tup []∧h = [(0,.row 26 [iS r.1,.own 1 0 r.2.2.length,.own 4 0 r.2.1.length]),(1,.row 3 (fl r.2.2)),(2,.dead),((.s 3 0),.dead),(4,.row 43 (fl r.2.1))]∧n = 5):=by
 unfold dict_number_1 at h
 refine spec_of (draw_ok _) Try.func33 rfl (by decide) rfl (by kernel_rfl) ?_
 refine seq_np ?_
 refine reg_f ?_
 refine rs 2 [] [] (by kernel_rfl) allP_nil ?_
 refine rf [(0,.ptr 0 0),(2,.mp 4)] [(0,.row 26 [iS c0_Depth,.own 1 0 c1.length,.own 2 0 c2.length]),(1,.row 3 (fl c1)),(2,.row 43 (flD dBucket [3] c2)),((.s 3 0),.fam (famD dBucket 0 c2)),(4,.map (mi []))] 5 (by kernel_rfl) ?_
 refine wk_id ?_
 refine seq_np ?_
 refine reg_f ?_
 refine rs 1 [] [] (by kernel_rfl) allP_nil ?_
 refine rf [(0,.ptr 0 0),(2,.mp 4),(3,.v (.slice none 0 0))] [(0,.row 26 [iS c0_Depth,.own 1 0 c1.length,.own 2 0 c2.length]),(1,.row 3 (fl c1)),(2,.row 43 (flD dBucket [3] c2)),((.s 3 0),.fam (famD dBucket 0 c2)),(4,.map (mi []))] 5 (by kernel_rfl) ?_
 refine wk_id ?_
 refine seq_np ?_
 refine seq_np ?_
 refine reg_f ?_
 refine rs 6 [] [] (by kernel_rfl) allP_nil ?_
 refine rf [(0,.ptr 0 0),(2,.mp 4),(3,.v (.slice none 0 0)),(12,.own 1 0 c1.length),(13,iS ((c1.length:Nat):Int)),(14,iS 0)] [(0,.row 26 [iS c0_Depth,.own 1 0 c1.length,.own 2 0 c2.length]),(1,.row 3 (fl c1)),(2,.row 43 (flD dBucket [3] c2)),((.s 3 0),.fam (famD dBucket 0 c2)),(4,.map (mi []))] 5 (by kernel_rfl) ?_
 refine wk_id ?_
 refine block_np ?_
 refine loop_sx (S:=Int × (List Bucket) × (List Int) × (List (Int × Int)) × (List Bucket)) (fun a=>([(0,.ptr 0 0),(2,.mp 4),(3,.own 5 0 a.2.2.2.2.length),(12,.own 1 0 a.2.2.1.length),(13,iS ((c1.length:Nat):Int)),(14,iS a.1)],[(0,.row 26 [iS c0_Depth,.own 1 0 a.2.2.1.length,.sl a.2.1.length (fl a.2.1)]),(1,.row 3 (fl a.2.2.1)),(2,.dead),((.s 3 0),.dead),(4,.map (mi a.2.2.2.1)),(5,.row 43 (fl a.2.2.2.2))],6)) h (leSt_m [(0,0),(1,1),(4,4)] [2,(.s 3 0)] (by simp only [↓leS_frzD dBucket [3] c2,leS_frz,leS_cut,leL_flD,renL_flD,push_cast,seval]) (by simp only [↓leS_frzD dBucket [3] c2,leS_frz,leS_cut,leL_flD,renL_flD,push_cast,seval]) rfl rfl rfl) ?_
 rintro ⟨t14q7,c0_Buckets11,c1q9,c4q19,c5q18⟩ o2 R2 h hr2 hn2 hx2 ht2
 try dsimp only at h hn2 ⊢
 unfold dict_number_1_l1 at h
 try dsimp only at h
 refine seq_np ?_
 refine reg_f ?_
 refine rs 1 [] [] (by kernel_rfl) allP_nil ?_
 refine rf [(0,.ptr 0 0),(2,.mp 4),(3,.own 5 0 c5q18.length),(12,.own 1 0 c1q9.length),(13,iS ((c1.length:Nat):Int)),(14,iS t14q7),(15,bS (decide (t14q7 < ((c1.length:Nat):Int))))] [(0,.row 26 [iS c0_Depth,.own 1 0 c1q9.length,.sl c0_Buckets11.length (fl c0_Buckets11)]),(1,.row 3 (fl c1q9)),(2,.dead),((.s 3 0),.dead),(4,.map (mi c4q19)),(5,.row 43 (fl c5q18))] 6 (by kernel_rfl) ?_
 refine wk_id ?_
 refine seq_np ?_
 refine cond_sx h (by kernel_rfl) (fun g2221 h=>?_) (fun g2221 h=>?_)
 ·refine wk_id ?_
  refine seq_np ?_
  refine block_np ?_
  refine chk_sx h (fun g2200 h=>?_)
  refine seq_np ?_
  refine reg_f ?_
  have k2199:0≤t14q7∧t14q7 < ((c1q9.length:Nat):Int):=by first | simpa only [Bool.and_eq_true,decide_eq_true_eq,bne_iff_ne,ne_eq] using g2200 | (simp at g2200 ⊢; omega)
  refine rs 5 [none,some ⟨.ptr 1 (0 + (t14q7).toNat * 1),[],6,[1]⟩,some ⟨iS (ix c1q9 t14q7),[],6,[1]⟩] _ (by kernel_rfl) (allP_cons (ob_ld c1q9 t14q7 1 0 (0 + (t14q7).toNat * 1) k2199 rfl (by decide) (by first | rfl | omega) (dflS Try.prog 3) (iS (ix c1q9 t14q7)) rfl 6 [1]) (allP_cons (ob_ix_o 1 c1q9.length 0 1 6 t14q7 k2199) allP_nil)) ?_
  refine rf [(0,.ptr 0 0),(2,.mp 4),(3,.own 5 0 c5q18.length),(4,iS t14q7),(5,iS (ix c1q9 t14q7)),(12,.own 1 0 c1q9.length),(13,iS ((c1.length:Nat):Int)),(14,iS t14q7)] [(0,.row 26 [iS c0_Depth,.own 1 0 c1q9.length,.sl c0_Buckets11.length (fl c0_Buckets11)]),(1,.row 3 (fl c1q9)),(2,.dead),((.s 3 0),.dead),(4,.map (mi c4q19)),(5,.row 43 (fl c5q18))] 6 (by kernel_rfl) ?_
  refine wk_id ?_
  refine seq_np ?_
  refine reg_f ?_
  refine rs 8 [none,none,some ⟨.tup [iS (miGet c4q19 (ix c1q9 t14q7)),bS (miHas c4q19 (ix c1q9 t14q7))],[],6,[4]⟩] _ (by kernel_rfl) (allP_cons (ob_look2 (.int .i64) rfl (ix c1q9 t14q7) c4q19 4 6) allP_nil) ?_
  refine rf [(0,.ptr 0 0),(2,.mp 4),(3,.own 5 0 c5q18.length),(4,iS t14q7),(5,iS (ix c1q9 t14q7)),(6,iS (miGet c4q19 (ix c1q9 t14q7))),(7,bS (miHas c4q19 (ix c1q9 t14q7))),(12,.own 1 0 c1q9.length),(13,iS ((c1.length:Nat):Int)),(14,iS t14q7)] [(0,.row 26 [iS c0_Depth,.own 1 0 c1q9.length,.sl c0_Buckets11.length (fl c0_Buckets11)]),(1,.row 3 (fl c1q9)),(2,.dead),((.s 3 0),.dead),(4,.map (mi c4q19)),(5,.row 43 (fl c5q18))] 6 (by kernel_rfl) ?_
  refine wk_id ?_
  refine seq_cut (A:=Int × (List (Int × Int)) × (List Bucket)) (fun a=>([(0,.ptr 0 0),(2,.mp 4),(3,.own 5 0 a.2.2.length),(4,iS t14q7),(6,iS a.1),(12,.own 1 0 c1q9.length),(13,iS ((c1.length:Nat):Int)),(14,iS t14q7)],[(0,.row 26 [iS c0_Depth,.own 1 0 c1q9.length,.sl c0_Buckets11.length (fl c0_Buckets11)]),(1,.row 3 (fl c1q9)),(2,.dead),((.s 3 0),.dead),(4,.map (mi a.2.1)),(5,.row 43 (fl a.2.2))],6)) (fun a=>(dict_number_1_j1 c0_Depth c1 t14q7 c0_Buckets11 c1q9 a.1 a.2.1 a.2.2) = some o2) (fun K2207 hK2207=>?_) ?_
  ·refine seq_np ?_
   refine reg_f ?_
   refine rs 2 [] [] (by kernel_rfl) allP_nil ?_
   refine rf [(0,.ptr 0 0),(2,.mp 4),(3,.own 5 0 c5q18.length),(4,iS t14q7),(5,iS (ix c1q9 t14q7)),(6,iS (miGet c4q19 (ix c1q9 t14q7))),(12,.own 1 0 c1q9.length),(13,iS ((c1.length:Nat):Int)),(14,iS t14q7),(26,bS (!(miHas c4q19 (ix c1q9 t14q7))))] [(0,.row 26 [iS c0_Depth,.own 1 0 c1q9.length,.sl c0_Buckets11.length (fl c0_Buckets11)]),(1,.row 3 (fl c1q9)),(2,.dead),((.s 3 0),.dead),(4,.map (mi c4q19)),(5,.row 43 (fl c5q18))] 6 (by kernel_rfl) ?_
   refine wk_id ?_
   refine cond_sx h (by kernel_rfl) (fun g2216 h=>?_) (fun g2216 h=>?_)
   ·refine seq_np ?_
    refine reg_f ?_
    refine rs 3 [] [] (by kernel_rfl) allP_nil ?_
    refine rf [(0,.ptr 0 0),(2,.mp 4),(3,.own 5 0 c5q18.length),(4,iS t14q7),(5,iS (ix c1q9 t14q7)),(6,iS ((c5q18.length:Nat):Int)),(12,.own 1 0 c1q9.length),(13,iS ((c1.length:Nat):Int)),(14,iS t14q7)] [(0,.row 26 [iS c0_Depth,.own 1 0 c1q9.length,.sl c0_Buckets11.length (fl c0_Buckets11)]),(1,.row 3 (fl c1q9)),(2,.dead),((.s 3 0),.dead),(4,.map (mi c4q19)),(5,.row 43 (fl c5q18))] 6 (by kernel_rfl) ?_
    refine wk_id ?_
    refine seq_np ?_
    refine reg_f ?_
    refine rs 4 [none,none,none,some ⟨.any,[(4,.map (mi (miSet c4q19 (ix c1q9 t14q7) ((c5q18.length:Nat):Int))))],6,[4]⟩] _ (by kernel_rfl) (allP_cons (ob_mset (.int .i64) rfl (ix c1q9 t14q7) ((c5q18.length:Nat):Int) c4q19 4 6) allP_nil) ?_
    refine rf [(0,.ptr 0 0),(2,.mp 4),(3,.own 5 0 c5q18.length),(4,iS t14q7),(5,iS (ix c1q9 t14q7)),(6,iS ((c5q18.length:Nat):Int)),(12,.own 1 0 c1q9.length),(13,iS ((c1.length:Nat):Int)),(14,iS t14q7)] [(0,.row 26 [iS c0_Depth,.own 1 0 c1q9.length,.sl c0_Buckets11.length (fl c0_Buckets11)]),(1,.row 3 (fl c1q9)),(2,.dead),((.s 3 0),.dead),(4,.map (mi (miSet c4q19 (ix c1q9 t14q7) ((c5q18.length:Nat):Int)))),(5,.row 43 (fl c5q18))] 6 (by kernel_rfl) ?_
    refine wk_id ?_
    refine chk_sx h (fun g2213 h=>?_)
    refine chk_sx h (fun g2215 h=>?_)
    refine reg_f ?_
    have k2212:0≤(ix c1q9 t14q7)∧(ix c1q9 t14q7) < ((c0_Buckets11.length:Nat):Int):=by first | simpa only [Bool.and_eq_true,decide_eq_true_eq,bne_iff_ne,ne_eq] using g2213 | (simp at g2213 ⊢; omega)
    have k2214:(c5q18 ++ ([(ix c0_Buckets11 (ix c1q9 t14q7))]:List Bucket)).length * 32≤140737488355328:=by first | simpa only [Bool.and_eq_true,decide_eq_true_eq,bne_iff_ne,ne_eq] using g2215 | (simp at g2215 ⊢; omega)
    refine rs 11 [none,none,none,none,none,none,some ⟨.iptr (fl c0_Buckets11) (((ix c1q9 t14q7)).toNat * 2),[],6,[]⟩,some ⟨.agg (Enc.cells (ix c0_Buckets11 (ix c1q9 t14q7))),[],6,[]⟩,none,some ⟨.own 7 0 (c5q18 ++ ([(ix c0_Buckets11 (ix c1q9 t14q7))]:List Bucket)).length,[(7,.row 43 (fl (c5q18 ++ ([(ix c0_Buckets11 (ix c1q9 t14q7))]:List Bucket)))),(5,.dead)],8,[5,6]⟩] _ (by kernel_rfl) (allP_cons (ob_app (P:=Try.prog) c5q18 ([(ix c0_Buckets11 (ix c1q9 t14q7))]:List Bucket) 2 32 rfl (appCells (fl ([(ix c0_Buckets11 (ix c1q9 t14q7))]:List Bucket)) 0 (([(ix c0_Buckets11 (ix c1q9 t14q7))]:List Bucket).length * 2)) ([(ix c0_Buckets11 (ix c1q9 t14q7))]:List Bucket).length (app_own ([(ix c0_Buckets11 (ix c1q9 t14q7))]:List Bucket) 2 rfl) rfl (0 + ([(ix c0_Buckets11 (ix c1q9 t14q7))]:List Bucket).length * 2≤(fl ([(ix c0_Buckets11 (ix c1q9 t14q7))]:List Bucket)).length) (app_own_le ([(ix c0_Buckets11 (ix c1q9 t14q7))]:List Bucket) 2 rfl) 43 (by kernel_rfl) (by decide) k2214 5 7 [6]) (allP_cons (ob_ldw c0_Buckets11 (ix c1q9 t14q7) 2 (((ix c1q9 t14q7)).toNat * 2) k2212 rfl (by first | rfl | omega) [iS (ix c0_Buckets11 (ix c1q9 t14q7)).Depth,.sl (ix c0_Buckets11 (ix c1q9 t14q7)).Items.length (fl (ix c0_Buckets11 (ix c1q9 t14q7)).Items)] rfl 6 []) (allP_cons (ob_ix_l c0_Buckets11 2 6 (ix c1q9 t14q7) k2212) allP_nil))) ?_
    refine rf [(0,.ptr 0 0),(2,.mp 4),(3,.own 7 0 (c5q18 ++ ([(ix c0_Buckets11 (ix c1q9 t14q7))]:List Bucket)).length),(4,iS t14q7),(6,iS ((c5q18.length:Nat):Int)),(12,.own 1 0 c1q9.length),(13,iS ((c1.length:Nat):Int)),(14,iS t14q7)] [(0,.row 26 [iS c0_Depth,.own 1 0 c1q9.length,.sl c0_Buckets11.length (fl c0_Buckets11)]),(1,.row 3 (fl c1q9)),(2,.dead),((.s 3 0),.dead),(4,.map (mi (miSet c4q19 (ix c1q9 t14q7) ((c5q18.length:Nat):Int)))),(5,.dead),(6,.row 43 (fl ([(ix c0_Buckets11 (ix c1q9 t14q7))]:List Bucket))),(7,.row 43 (fl (c5q18 ++ ([(ix c0_Buckets11 (ix c1q9 t14q7))]:List Bucket))))] 8 (by kernel_rfl) ?_
    exact hK2207 (((c5q18.length:Nat):Int),(miSet c4q19 (ix c1q9 t14q7) ((c5q18.length:Nat):Int)),(c5q18 ++ ([(ix c0_Buckets11 (ix c1q9 t14q7))]:List Bucket))) _ _ _ h (leSt_m [(0,0),(1,1),(4,4),(5,7)] [] (by simp only [push_cast,leL_flD,renL_flD,seval]) (by simp only [push_cast,leL_flD,renL_flD,seval]) rfl rfl rfl)
   ·exact hK2207 ((miGet c4q19 (ix c1q9 t14q7)),c4q19,c5q18) _ _ _ h (leSt_m [(0,0),(1,1),(4,4),(5,5)] [] (by simp only [push_cast,leL_flD,renL_flD,seval]) (by simp only [push_cast,leL_flD,renL_flD,seval]) rfl rfl rfl)
  ·rintro ⟨n13,c4q22,c5q21⟩ h
   try dsimp only at h ⊢
   unfold dict_number_1_j1 at h
   refine chk_sx h (fun g2220 h=>?_)
   refine reg_f ?_
   have k2219:0≤t14q7∧t14q7 < ((c1q9.length:Nat):Int):=by first | simpa only [Bool.and_eq_true,decide_eq_true_eq,bne_iff_ne,ne_eq] using g2220 | (simp at g2220 ⊢; omega)
   refine rs 8 [none,none,none,none,none,none,some ⟨.ptr 1 (0 + (t14q7).toNat * 1),[],6,[1]⟩,some ⟨.any,[(1,.row 3 (fl (c1q9.set t14q7.toNat n13)))],6,[1]⟩] _ (by kernel_rfl) (allP_cons (ob_st (P:=Try.prog) c1q9 t14q7 1 0 (0 + (t14q7).toNat * 1) k2219 rfl [iS n13] n13 (Nat.le_of_ble_eq_true rfl) (by first | rfl | omega) rfl 1 6 3 3 (by kernel_rfl) rfl) (allP_cons (ob_ix_o 1 c1q9.length 0 1 6 t14q7 k2219) allP_nil)) ?_
   refine run_eqF 12 (.own 1 0 c1q9.length) (.own 1 0 (c1q9.set t14q7.toNat n13).length) (congrArg (fun nq=>(.own 1 0 nq:SV)) (show c1q9.length = (c1q9.set t14q7.toNat n13).length from (List.length_set ..).symm)) (by kernel_rfl) ?_
   refine run_eqH 0 (.row 26 [iS c0_Depth,.own 1 0 c1q9.length,.sl c0_Buckets11.length (fl c0_Buckets11)]) (.row 26 [iS c0_Depth,.own 1 0 (c1q9.set t14q7.toNat n13).length,.sl c0_Buckets11.length (fl c0_Buckets11)]) (congrArg (fun nq=>(.row 26 [iS c0_Depth,.own 1 0 nq,.sl c0_Buckets11.length (fl c0_Buckets11)]:Chunk)) (show c1q9.length = (c1q9.set t14q7.toNat n13).length from (List.length_set ..).symm)) (by kernel_rfl) ?_
   refine rf [(0,.ptr 0 0),(2,.mp 4),(3,.own 5 0 c5q21.length),(12,.own 1 0 (c1q9.set t14q7.toNat n13).length),(13,iS ((c1.length:Nat):Int)),(14,iS t14q7)] [(0,.row 26 [iS c0_Depth,.own 1 0 (c1q9.set t14q7.toNat n13).length,.sl c0_Buckets11.length (fl c0_Buckets11)]),(1,.row 3 (fl (c1q9.set t14q7.toNat n13))),(2,.dead),((.s 3 0),.dead),(4,.map (mi c4q22)),(5,.row 43 (fl c5q21))] 6 (by kernel_rfl) ?_
   refine wk_id ?_
   refine wk_id ?_
   refine reg_f ?_
   refine rs 2 [] [] (by kernel_rfl) allP_nil ?_
   refine rf [(0,.ptr 0 0),(2,.mp 4),(3,.own 5 0 c5q21.length),(12,.own 1 0 (c1q9.set t14q7.toNat n13).length),(13,iS ((c1.length:Nat):Int)),(14,iS (IntKind.i64.wrap (t14q7 + 1)))] [(0,.row 26 [iS c0_Depth,.own 1 0 (c1q9.set t14q7.toNat n13).length,.sl c0_Buckets11.length (fl c0_Buckets11)]),(1,.row 3 (fl (c1q9.set t14q7.toNat n13))),(2,.dead),((.s 3 0),.dead),(4,.map (mi c4q22)),(5,.row 43 (fl c5q21))] 6 (by kernel_rfl) ?_
   exact hn2 ((IntKind.i64.wrap (t14q7 + 1)),c0_Buckets11,(c1q9.set t14q7.toNat n13),c4q22,c5q21) _ _ _ (Option.some.inj h).symm (leSt_m [(0,0),(1,1),(4,4),(5,5)] [] (by simp only [push_cast,leL_flD,renL_flD,seval]) (by simp only [push_cast,leL_flD,renL_flD,seval]) rfl rfl rfl)
 ·change R2 (.exit 0) _ _ _
  refine ex_cast hx2 (id:=0) ?_
  obtain ⟨r0,h,e0⟩:=map_sx h
  have e1:=hr2 r0 e0.symm
  subst r0
  refine wk_id ?_
  refine wk_id ?_
  refine reg_f ?_
  refine rs 5 [] [] (by kernel_rfl) allP_nil ?_
  refine rf [] [(0,.row 26 [iS c0_Depth,.own 1 0 c1q9.length,.own 5 0 c5q18.length]),(1,.row 3 (fl c1q9)),(2,.dead),((.s 3 0),.dead),(4,.map (mi c4q19)),(5,.row 43 (fl c5q18))] 6 (by kernel_rfl) ?_
  obtain rfl:=Option.some.inj h
  refine ret_an (.tup []) (by kernel_rfl) ?_
  exact ret_e [(0,0),(1,1),(4,5)] [] (by simp only [push_cast,leL_flD,renL_flD,seval]) (by simp only [push_cast,leL_flD,renL_flD,seval]) rfl rfl rfl

set_option maxRecDepth 100000 in
set_option maxHeartbeats 200000000 in
theorem dict_Put_spec (d:Dict) (key:Int) (value:Int) (r:Int × (List Bucket) × Bool × Fault × (List Int)) (h:dict_Put d key value = some r):SpecW Try.prog 10 [.agg (Enc.cells d),iS key,iS value] [] 0 (fun x h n=>x = .tup [.agg [iS r.1,.own 0 0 r.2.2.2.2.length,.sl r.2.1.length (fl r.2.1)],bS r.2.2.1,.agg (Enc.cells r.2.2.2.1)]∧h = [(0,.row 3 (fl r.2.2.2.2))]∧n = 1):=by
 unfold dict_Put at h
 refine spec_of (draw_ok _) Try.func10 rfl (by decide) rfl (by kernel_rfl) ?_
 refine seq_np ?_
 refine reg_f ?_
 refine rs 4 [] [] (by kernel_rfl) allP_nil ?_
 refine rf [(1,iS key),(2,iS value),(3,.ptr 0 0),(6,.ptr 1 0),(8,.ptr 2 0)] [(0,.row 26 (Enc.cells d)),(1,.row 26 [iS 0,.v (.slice none 0 0),.v (.slice none 0 0)]),(2,.row 29 [iS 0,iS 0])] 3 (by kernel_rfl) ?_
 refine wk_id ?_
 refine seq_np ?_
 refine seq_np ?_
 refine reg_f ?_
 refine rs 1 [] [] (by kernel_rfl) allP_nil ?_
 obtain ⟨r2227,hr2227,h⟩:=bind_sx h
 refine run_call 22 [.agg (Enc.cells d)] (some 16) (by kernel_rfl) ?_
 refine call_0 (dict_Check_spec d r2227 hr2227) (by simp only [push_cast,leL_flD,renL_flD,seval]) (by simp only [push_cast,leL_flD,renL_flD,seval]) ?_
 refine back_f ?_
 refine rs 2 [] [] (by kernel_rfl) allP_nil ?_
 refine rf [(1,iS key),(2,iS value),(3,.ptr 0 0),(6,.ptr 1 0),(8,.ptr 2 0),(9,.ptr 3 0)] [(0,.row 26 (Enc.cells d)),(1,.row 26 [iS 0,.v (.slice none 0 0),.v (.slice none 0 0)]),(2,.row 29 [iS 0,iS 0]),(3,.row 29 (Enc.cells r2227))] 4 (by kernel_rfl) ?_
 refine wk_id ?_
 refine seq_np ?_
 refine reg_f ?_
 refine rs 3 [] [] (by kernel_rfl) allP_nil ?_
 refine rf [(1,iS key),(2,iS value),(3,.ptr 0 0),(6,.ptr 1 0),(8,.ptr 2 0),(9,.ptr 3 0),(19,bS (r2227.Code != 0))] [(0,.row 26 (Enc.cells d)),(1,.row 26 [iS 0,.v (.slice none 0 0),.v (.slice none 0 0)]),(2,.row 29 [iS 0,iS 0]),(3,.row 29 (Enc.cells r2227))] 4 (by kernel_rfl) ?_
 refine wk_id ?_
 refine cond_sx h (by kernel_rfl) (fun g2340 h=>?_) (fun g2340 h=>?_)
 ·refine seq_np ?_
  refine reg_t ?_
  refine rs 5 [] [] (by kernel_rfl) allP_nil ?_
  refine rt [(6,.ptr 1 0),(7,bS false),(8,.ptr 2 0)] [(0,.row 26 (Enc.cells d)),(1,.row 26 [iS 0,.v (.slice none 0 0),.v (.slice none 0 0)]),(2,.row 29 (Enc.cells r2227)),(3,.row 29 (Enc.cells r2227))] 9 follows (by kernel_rfl) ?_
  refine wk_id ?_
  obtain rfl:=Option.some.inj h
  refine ret_at (.tup [.agg [iS 0,.v (.slice none 0 0),.v (.slice none 0 0)],bS false,.agg (Enc.cells r2227)]) (by kernel_rfl) ?_
  exact ret_e [] [] (by simp only [push_cast,leL_flD,renL_flD,seval]) (by simp only [push_cast,leL_flD,renL_flD,seval]) rfl rfl rfl
 ·refine wk_id ?_
  refine seq_np ?_
  refine reg_f ?_
  refine rs 1 [] [] (by kernel_rfl) allP_nil ?_
  obtain ⟨r2229,hr2229,h⟩:=bind_sx h
  refine call_x (dict_copied_spec d r2229 hr2229) (args:=[.agg (Enc.cells d)]) (dst:=(some 23)) (by kernel_rfl) [(0,.row 26 (Enc.cells d)),(1,.row 26 [iS 0,.v (.slice none 0 0),.v (.slice none 0 0)]),(2,.row 29 [iS 0,iS 0]),(3,.row 29 (Enc.cells r2227))] 4 (by kernel_rfl) [] [] (.ptr 4 0) [(4,.row 26 [iS r2229.1,.own 5 0 r2229.2.1.length,.own 6 0 r2229.2.2.length]),(5,.row 3 (fl r2229.2.1)),(6,.row 43 (flD dBucket [7] r2229.2.2)),((.s 7 0),.fam (famD dBucket 0 r2229.2.2))] (by simp only [push_cast,leL_flD,renL_flD,seval]) (by simp only [push_cast,leL_flD,renL_flD,seval]) (by kernel_rfl) (.inl rfl) (by first | (simp only [push_cast,leL_flD,renL_flD,seval]; done) | (simp only [push_cast,leL_flD,renL_flD,seval]; kernel_rfl) | kernel_rfl) (by first | (simp only [push_cast,leL_flD,renL_flD,seval]; done) | (simp only [push_cast,leL_flD,renL_flD,seval]; kernel_rfl) | kernel_rfl) ?_
  refine rs 1 [] [] (by kernel_rfl) allP_nil ?_
  refine rf [(1,iS key),(2,iS value),(6,.ptr 1 0),(8,.ptr 2 0),(10,.ptr 4 0)] [(0,.row 26 (Enc.cells d)),(1,.row 26 [iS 0,.v (.slice none 0 0),.v (.slice none 0 0)]),(2,.row 29 [iS 0,iS 0]),(3,.row 29 (Enc.cells r2227)),(4,.row 26 [iS r2229.1,.own 5 0 r2229.2.1.length,.own 6 0 r2229.2.2.length]),(5,.row 3 (fl r2229.2.1)),(6,.row 43 (flD dBucket [7] r2229.2.2)),((.s 7 0),.fam (famD dBucket 0 r2229.2.2))] 8 (by kernel_rfl) ?_
  refine wk_id ?_
  refine seq_np ?_
  refine reg_f ?_
  refine rs 4 [] [] (by kernel_rfl) allP_nil ?_
  obtain ⟨r2231,hr2231,h⟩:=bind_sx h
  refine call_x (dict_where_spec (Dict.mk r2229.1 r2229.2.1 r2229.2.2) key r2231 hr2231) (args:=[.agg [iS r2229.1,.own 5 0 r2229.2.1.length,.own 6 0 r2229.2.2.length],iS key]) (dst:=(some 29)) (by kernel_rfl) [(0,.row 26 (Enc.cells d)),(1,.row 26 [iS 0,.v (.slice none 0 0),.v (.slice none 0 0)]),(2,.row 29 [iS 0,iS 0]),(3,.row 29 (Enc.cells r2227)),(4,.row 26 [iS r2229.1,.own 5 0 r2229.2.1.length,.own 6 0 r2229.2.2.length]),(5,.row 3 (fl r2229.2.1)),(6,.row 43 (flD dBucket [7] r2229.2.2)),((.s 7 0),.fam (famD dBucket 0 r2229.2.2))] 8 (by kernel_rfl) [] [5,6,(.s 7 0)] (.tup [iS r2231.1,iS r2231.2.1,bS r2231.2.2]) [] (by simp only [↓leS_frzD dBucket [7] r2229.2.2,leS_frz,leL_flD,renL_flD,push_cast,seval]) (by simp only [↓leS_frzD dBucket [7] r2229.2.2,leS_frz,leL_flD,renL_flD,push_cast,seval]) (by kernel_rfl) (.inr ⟨by simp only [push_cast,leL_flD,renL_flD,seval],by simp only [push_cast,leL_flD,renL_flD,seval]⟩) (by simp only [push_cast,leL_flD,renL_flD,seval]) (by simp only [push_cast,leL_flD,renL_flD,seval]) ?_
  refine rs 7 [] [] (by kernel_rfl) allP_nil ?_
  refine rf [(1,iS key),(2,iS value),(6,.ptr 1 0),(8,.ptr 2 0),(10,.ptr 4 0),(11,iS r2231.1),(12,iS r2231.2.1),(13,bS r2231.2.2)] [(0,.row 26 (Enc.cells d)),(1,.row 26 [iS 0,.v (.slice none 0 0),.v (.slice none 0 0)]),(2,.row 29 [iS 0,iS 0]),(3,.row 29 (Enc.cells r2227)),(4,.row 26 [iS r2229.1,.own 5 0 r2229.2.1.length,.own 6 0 r2229.2.2.length]),(5,.row 3 (fl r2229.2.1)),(6,.row 43 (flD dBucket [7] r2229.2.2)),((.s 7 0),.fam (famD dBucket 0 r2229.2.2))] 8 (by kernel_rfl) ?_
  refine wk_id ?_
  refine seq_np ?_
  refine seq_np ?_
  refine reg_f ?_
  refine rs 1 [] [] (by kernel_rfl) allP_nil ?_
  refine rf [(1,iS key),(2,iS value),(6,.ptr 1 0),(8,.ptr 2 0),(10,.ptr 4 0),(11,iS r2231.1),(12,iS r2231.2.1),(33,bS r2231.2.2)] [(0,.row 26 (Enc.cells d)),(1,.row 26 [iS 0,.v (.slice none 0 0),.v (.slice none 0 0)]),(2,.row 29 [iS 0,iS 0]),(3,.row 29 (Enc.cells r2227)),(4,.row 26 [iS r2229.1,.own 5 0 r2229.2.1.length,.own 6 0 r2229.2.2.length]),(5,.row 3 (fl r2229.2.1)),(6,.row 43 (flD dBucket [7] r2229.2.2)),((.s 7 0),.fam (famD dBucket 0 r2229.2.2))] 8 (by kernel_rfl) ?_
  refine wk_id ?_
  refine cond_sx h (by kernel_rfl) (fun g2339 h=>?_) (fun g2339 h=>?_)
  ·refine chk_sx h (fun g2242 h=>?_)
   refine chk_sx h (fun g2244 h=>?_)
   refine seq_np ?_
   refine reg_f ?_
   have k2241:0≤r2231.1∧r2231.1 < ((r2229.2.2.length:Nat):Int):=by first | simpa only [Bool.and_eq_true,decide_eq_true_eq,bne_iff_ne,ne_eq] using g2242 | (simp at g2242 ⊢; omega)
   have k2243:0≤r2231.2.1∧r2231.2.1 < (((ixD r2229.2.2 r2231.1).Items.length:Nat):Int):=by first | simpa only [Bool.and_eq_true,decide_eq_true_eq,bne_iff_ne,ne_eq] using g2244 | (simp at g2244 ⊢; omega)
   refine rs 13 [none,none,none,none,none,some ⟨.ptr 6 (0 + (r2231.1).toNat * 2),[],8,[6]⟩,none,some ⟨.own (.s 7 r2231.1) 0 (ixD r2229.2.2 r2231.1).Items.length,[],8,[6]⟩,none,none,some ⟨.ptr (.s 7 r2231.1) (0 + (r2231.2.1).toNat * 2),[],8,[(.s 7 0)]⟩,none,some ⟨.any,[((.s 7 0),.fam (famD dBucket 0 (r2229.2.2.set r2231.1.toNat ({ (ixD r2229.2.2 r2231.1) with Items:=((ixD r2229.2.2 r2231.1).Items.set r2231.2.1.toNat ({ ix (ixD r2229.2.2 r2231.1).Items r2231.2.1 with Value:=value }:GItem)) }:Bucket))))],8,[(.s 7 0)]⟩] _ (by kernel_rfl) (allP_cons (ob_stM (P:=Try.prog) dBucket 0 r2229.2.2 r2231.1 k2241 ({ (ixD r2229.2.2 r2231.1) with Items:=((ixD r2229.2.2 r2231.1).Items.set r2231.2.1.toNat ({ ix (ixD r2229.2.2 r2231.1).Items r2231.2.1 with Value:=value }:GItem)) }:Bucket) (ixD r2229.2.2 r2231.1).Items r2231.2.1 2 1 ((0 + (r2231.2.1).toNat * 2) + 1) k2243 rfl [iS value] ({ ix (ixD r2229.2.2 r2231.1).Items r2231.2.1 with Value:=value }:GItem) (Nat.le_of_ble_eq_true rfl) (by first | rfl | omega) rfl 45 (by first | rfl | simp only [chD]; rfl) 7 8 3 (by kernel_rfl) rfl) (allP_cons (ob_ix_o (.s 7 r2231.1) (ixD r2229.2.2 r2231.1).Items.length 0 2 8 r2231.2.1 k2243) (allP_cons (ob_ldD dBucket [7] r2229.2.2 r2231.1 2 1 ((0 + (r2231.1).toNat * 2) + 1) k2241 rfl (by decide) (by first | rfl | omega) (dflS Try.prog 40) (.own (.s 7 r2231.1) 0 (ixD r2229.2.2 r2231.1).Items.length) rfl 8 [6]) (allP_cons (ob_ix_o 6 r2229.2.2.length 0 2 8 r2231.1 k2241) allP_nil)))) ?_
   refine run_eqH 6 (.row 43 (flD dBucket [7] r2229.2.2)) (.row 43 (flD dBucket [7] (r2229.2.2.set r2231.1.toNat ({ (ixD r2229.2.2 r2231.1) with Items:=((ixD r2229.2.2 r2231.1).Items.set r2231.2.1.toNat ({ ix (ixD r2229.2.2 r2231.1).Items r2231.2.1 with Value:=value }:GItem)) }:Bucket)))) (congrArg (Chunk.row 43) (flD_same k2241 ({ (ixD r2229.2.2 r2231.1) with Items:=((ixD r2229.2.2 r2231.1).Items.set r2231.2.1.toNat ({ ix (ixD r2229.2.2 r2231.1).Items r2231.2.1 with Value:=value }:GItem)) }:Bucket) (by first | rfl | simp only [dcs,dBucket,List.length_set]))) (by kernel_rfl) ?_
   refine run_eqH 4 (.row 26 [iS r2229.1,.own 5 0 r2229.2.1.length,.own 6 0 r2229.2.2.length]) (.row 26 [iS r2229.1,.own 5 0 r2229.2.1.length,.own 6 0 (r2229.2.2.set r2231.1.toNat ({ (ixD r2229.2.2 r2231.1) with Items:=((ixD r2229.2.2 r2231.1).Items.set r2231.2.1.toNat ({ ix (ixD r2229.2.2 r2231.1).Items r2231.2.1 with Value:=value }:GItem)) }:Bucket)).length]) (congrArg (fun nq=>(.row 26 [iS r2229.1,.own 5 0 r2229.2.1.length,.own 6 0 nq]:Chunk)) (show r2229.2.2.length = (r2229.2.2.set r2231.1.toNat ({ (ixD r2229.2.2 r2231.1) with Items:=((ixD r2229.2.2 r2231.1).Items.set r2231.2.1.toNat ({ ix (ixD r2229.2.2 r2231.1).Items r2231.2.1 with Value:=value }:GItem)) }:Bucket)).length from (List.length_set ..).symm)) (by kernel_rfl) ?_
   refine rf [(6,.ptr 1 0),(8,.ptr 2 0),(10,.ptr 4 0)] [(0,.row 26 (Enc.cells d)),(1,.row 26 [iS 0,.v (.slice none 0 0),.v (.slice none 0 0)]),(2,.row 29 [iS 0,iS 0]),(3,.row 29 (Enc.cells r2227)),(4,.row 26 [iS r2229.1,.own 5 0 r2229.2.1.length,.own 6 0 (r2229.2.2.set r2231.1.toNat ({ (ixD r2229.2.2 r2231.1) with Items:=((ixD r2229.2.2 r2231.1).Items.set r2231.2.1.toNat ({ ix (ixD r2229.2.2 r2231.1).Items r2231.2.1 with Value:=value }:GItem)) }:Bucket)).length]),(5,.row 3 (fl r2229.2.1)),(6,.row 43 (flD dBucket [7] (r2229.2.2.set r2231.1.toNat ({ (ixD r2229.2.2 r2231.1) with Items:=((ixD r2229.2.2 r2231.1).Items.set r2231.2.1.toNat ({ ix (ixD r2229.2.2 r2231.1).Items r2231.2.1 with Value:=value }:GItem)) }:Bucket)))),((.s 7 0),.fam (famD dBucket 0 (r2229.2.2.set r2231.1.toNat ({ (ixD r2229.2.2 r2231.1) with Items:=((ixD r2229.2.2 r2231.1).Items.set r2231.2.1.toNat ({ ix (ixD r2229.2.2 r2231.1).Items r2231.2.1 with Value:=value }:GItem)) }:Bucket))))] 8 (by kernel_rfl) ?_
   refine wk_id ?_
   refine seq_np ?_
   refine reg_f ?_
   refine rs 7 [] [] (by kernel_rfl) allP_nil ?_
   refine rf [(6,.ptr 1 0),(7,bS true),(8,.ptr 2 0)] [(0,.row 26 (Enc.cells d)),(1,.row 26 [iS r2229.1,.own 5 0 r2229.2.1.length,.own 6 0 (r2229.2.2.set r2231.1.toNat ({ (ixD r2229.2.2 r2231.1) with Items:=((ixD r2229.2.2 r2231.1).Items.set r2231.2.1.toNat ({ ix (ixD r2229.2.2 r2231.1).Items r2231.2.1 with Value:=value }:GItem)) }:Bucket)).length]),(2,.row 29 [iS 0,iS 0]),(3,.row 29 (Enc.cells r2227)),(4,.row 26 [iS r2229.1,.own 5 0 r2229.2.1.length,.own 6 0 (r2229.2.2.set r2231.1.toNat ({ (ixD r2229.2.2 r2231.1) with Items:=((ixD r2229.2.2 r2231.1).Items.set r2231.2.1.toNat ({ ix (ixD r2229.2.2 r2231.1).Items r2231.2.1 with Value:=value }:GItem)) }:Bucket)).length]),(5,.row 3 (fl r2229.2.1)),(6,.row 43 (flD dBucket [7] (r2229.2.2.set r2231.1.toNat ({ (ixD r2229.2.2 r2231.1) with Items:=((ixD r2229.2.2 r2231.1).Items.set r2231.2.1.toNat ({ ix (ixD r2229.2.2 r2231.1).Items r2231.2.1 with Value:=value }:GItem)) }:Bucket)))),((.s 7 0),.fam (famD dBucket 0 (r2229.2.2.set r2231.1.toNat ({ (ixD r2229.2.2 r2231.1) with Items:=((ixD r2229.2.2 r2231.1).Items.set r2231.2.1.toNat ({ ix (ixD r2229.2.2 r2231.1).Items r2231.2.1 with Value:=value }:GItem)) }:Bucket))))] 8 (by kernel_rfl) ?_
   refine wk_id ?_
   obtain rfl:=Option.some.inj h
   refine ret_at (.tup [.agg [iS r2229.1,.own 5 0 r2229.2.1.length,.own 6 0 (r2229.2.2.set r2231.1.toNat ({ (ixD r2229.2.2 r2231.1) with Items:=((ixD r2229.2.2 r2231.1).Items.set r2231.2.1.toNat ({ ix (ixD r2229.2.2 r2231.1).Items r2231.2.1 with Value:=value }:GItem)) }:Bucket)).length],bS true,.agg [iS 0,iS 0]]) (by kernel_rfl) ?_
   exact ret_e [(0,5)] [6,(.s 7 0)] (by simp only [↓leS_frzD dBucket [7] (r2229.2.2.set r2231.1.toNat ({ (ixD r2229.2.2 r2231.1) with Items:=((ixD r2229.2.2 r2231.1).Items.set r2231.2.1.toNat ({ ix (ixD r2229.2.2 r2231.1).Items r2231.2.1 with Value:=value }:GItem)) }:Bucket)),leS_frz,leS_cut,leL_flD,renL_flD,push_cast,seval]) (by simp only [↓leS_frzD dBucket [7] (r2229.2.2.set r2231.1.toNat ({ (ixD r2229.2.2 r2231.1) with Items:=((ixD r2229.2.2 r2231.1).Items.set r2231.2.1.toNat ({ ix (ixD r2229.2.2 r2231.1).Items r2231.2.1 with Value:=value }:GItem)) }:Bucket)),leS_frz,leS_cut,leL_flD,renL_flD,push_cast,seval]) rfl rfl rfl
  ·refine wk_id ?_
   refine chk_sx h (fun g2248 h=>?_)
   refine seq_np ?_
   refine reg_f ?_
   have k2247:0≤r2231.1∧r2231.1 < ((r2229.2.2.length:Nat):Int):=by first | simpa only [Bool.and_eq_true,decide_eq_true_eq,bne_iff_ne,ne_eq] using g2248 | (simp at g2248 ⊢; omega)
   refine rs 7 [none,none,none,none,none,some ⟨.ptr 6 (0 + (r2231.1).toNat * 2),[],8,[6]⟩] _ (by kernel_rfl) (allP_cons (ob_ix_o 6 r2229.2.2.length 0 2 8 r2231.1 k2247) allP_nil) ?_
   refine rf [(1,iS key),(2,iS value),(6,.ptr 1 0),(8,.ptr 2 0),(10,.ptr 4 0),(11,iS r2231.1),(12,iS r2231.2.1),(14,.ptr 6 (0 + (r2231.1).toNat * 2))] [(0,.row 26 (Enc.cells d)),(1,.row 26 [iS 0,.v (.slice none 0 0),.v (.slice none 0 0)]),(2,.row 29 [iS 0,iS 0]),(3,.row 29 (Enc.cells r2227)),(4,.row 26 [iS r2229.1,.own 5 0 r2229.2.1.length,.own 6 0 r2229.2.2.length]),(5,.row 3 (fl r2229.2.1)),(6,.row 43 (flD dBucket [7] r2229.2.2)),((.s 7 0),.fam (famD dBucket 0 r2229.2.2))] 8 (by kernel_rfl) ?_
   refine wk_id ?_
   refine seq_np ?_
   refine seq_np ?_
   refine reg_f ?_
   refine rs 6 [none,none,none,some ⟨.own (.s 7 r2231.1) 0 (ixD r2229.2.2 r2231.1).Items.length,[],8,[6]⟩] _ (by kernel_rfl) (allP_cons (ob_ldD dBucket [7] r2229.2.2 r2231.1 2 1 ((0 + (r2231.1).toNat * 2) + 1) k2247 rfl (by decide) (by first | rfl | omega) (dflS Try.prog 40) (.own (.s 7 r2231.1) 0 (ixD r2229.2.2 r2231.1).Items.length) rfl 8 [6]) allP_nil) ?_
   refine rf [(1,iS key),(2,iS value),(6,.ptr 1 0),(8,.ptr 2 0),(10,.ptr 4 0),(11,iS r2231.1),(12,iS r2231.2.1),(14,.ptr 6 (0 + (r2231.1).toNat * 2)),(61,bS ((((ixD r2229.2.2 r2231.1).Items.length:Nat):Int) == 5000))] [(0,.row 26 (Enc.cells d)),(1,.row 26 [iS 0,.v (.slice none 0 0),.v (.slice none 0 0)]),(2,.row 29 [iS 0,iS 0]),(3,.row 29 (Enc.cells r2227)),(4,.row 26 [iS r2229.1,.own 5 0 r2229.2.1.length,.own 6 0 r2229.2.2.length]),(5,.row 3 (fl r2229.2.1)),(6,.row 43 (flD dBucket [7] r2229.2.2)),((.s 7 0),.fam (famD dBucket 0 r2229.2.2))] 8 (by kernel_rfl) ?_
   refine wk_id ?_
   refine cond_sx h (by kernel_rfl) (fun g2338 h=>?_) (fun g2338 h=>?_)
   ·refine seq_np ?_
    refine reg_f ?_
    refine rs 1 [] [] (by kernel_rfl) allP_nil ?_
    obtain ⟨r2252,hr2252,h⟩:=bind_sx h
    refine run_call 29 [iS 9,iS 0] (some 63) (by kernel_rfl) ?_
    refine call_0 (dict_fault_spec 9 0 r2252 hr2252) (by simp only [push_cast,leL_flD,renL_flD,seval]) (by simp only [push_cast,leL_flD,renL_flD,seval]) ?_
    refine back_f ?_
    refine rs 3 [] [] (by kernel_rfl) allP_nil ?_
    refine rf [(6,.ptr 1 0),(7,bS false),(8,.ptr 2 0)] [(0,.row 26 (Enc.cells d)),(1,.row 26 [iS 0,.v (.slice none 0 0),.v (.slice none 0 0)]),(2,.row 29 (Enc.cells r2252)),(3,.row 29 (Enc.cells r2227)),(4,.row 26 [iS r2229.1,.own 5 0 r2229.2.1.length,.own 6 0 r2229.2.2.length]),(5,.row 3 (fl r2229.2.1)),(6,.row 43 (flD dBucket [7] r2229.2.2)),((.s 7 0),.fam (famD dBucket 0 r2229.2.2))] 8 (by kernel_rfl) ?_
    refine wk_id ?_
    obtain rfl:=Option.some.inj h
    refine ret_at (.tup [.agg [iS 0,.v (.slice none 0 0),.v (.slice none 0 0)],bS false,.agg (Enc.cells r2252)]) (by kernel_rfl) ?_
    exact ret_e [] [] (by simp only [push_cast,leL_flD,renL_flD,seval]) (by simp only [push_cast,leL_flD,renL_flD,seval]) rfl rfl rfl
   ·refine wk_id ?_
    refine seq_np ?_
    refine reg_f ?_
    refine rs 10 [none,none,none,none,some ⟨.own (.s 7 r2231.1) 0 (ixD r2229.2.2 r2231.1).Items.length,[],8,[6]⟩] _ (by kernel_rfl) (allP_cons (ob_ldD dBucket [7] r2229.2.2 r2231.1 2 1 ((0 + (r2231.1).toNat * 2) + 1) k2247 rfl (by decide) (by first | rfl | omega) (dflS Try.prog 40) (.own (.s 7 r2231.1) 0 (ixD r2229.2.2 r2231.1).Items.length) rfl 8 [6]) allP_nil) ?_
    obtain ⟨r2254,hr2254,h⟩:=bind_sx h
    refine call_x (slices_Insert_Item_spec r2231.2.1 (ixD r2229.2.2 r2231.1).Items ([(GItem.mk key value)]:List GItem) r2254 hr2254) (args:=[.own (.s 7 r2231.1) 0 (ixD r2229.2.2 r2231.1).Items.length,iS r2231.2.1,.own 8 0 ([(GItem.mk key value)]:List GItem).length]) (dst:=(some 74)) (by kernel_rfl) [(0,.row 26 (Enc.cells d)),(1,.row 26 [iS 0,.v (.slice none 0 0),.v (.slice none 0 0)]),(2,.row 29 [iS 0,iS 0]),(3,.row 29 (Enc.cells r2227)),(4,.row 26 [iS r2229.1,.own 5 0 r2229.2.1.length,.own 6 0 r2229.2.2.length]),(5,.row 3 (fl r2229.2.1)),(6,.row 43 (flD dBucket [7] r2229.2.2)),((.s 7 0),.fam (famD dBucket 0 r2229.2.2)),(8,.row 45 (fl ([(GItem.mk key value)]:List GItem)))] 9 (by kernel_rfl) [(0,(.s 7 r2231.1)),(1,8)] [] (.own 11 0 r2254.length) [((.s 7 0),.fam (upI (famD dBucket 0 r2229.2.2) r2231.1 (.dead))),(8,.dead),(11,.row 45 (fl r2254)),((.s 7 0),.fam (upI (famD dBucket 0 r2229.2.2) r2231.1 (.dead))),(8,.dead)] (by simp only [push_cast,leL_flD,renL_flD,seval]) (by simp only [push_cast,leL_flD,renL_flD,seval]) (by kernel_rfl) (.inl rfl) (by first | (simp only [push_cast,leL_flD,renL_flD,seval]; done) | (simp only [push_cast,leL_flD,renL_flD,seval]; kernel_rfl) | kernel_rfl) (by first | (simp only [push_cast,leL_flD,renL_flD,seval]; done) | (simp only [push_cast,leL_flD,renL_flD,seval]; kernel_rfl) | kernel_rfl) ?_
    refine rs 2 [] [] (by kernel_rfl) allP_nil ?_
    refine run_opGb none _ ⟨.any,[(6,.row 43 (flN dBucket (nA [(some 7)] [(some (Nm.t 11))] r2231.1) 0 (r2229.2.2.set r2231.1.toNat ({ (ixD r2229.2.2 r2231.1) with Items:=r2254 }:Bucket))))],12,[6]⟩ [((.s 12 0),.fam (famD dBucket 0 (r2229.2.2.set r2231.1.toNat ({ (ixD r2229.2.2 r2231.1) with Items:=r2254 }:Bucket)))),(6,.row 43 (flD dBucket [12] (r2229.2.2.set r2231.1.toNat ({ (ixD r2229.2.2 r2231.1) with Items:=r2254 }:Bucket)))),((.s 7 0),.dead),(11,.dead)] 1 [6,(.s 7 0),11] [(.s 7 0),11] (by kernel_rfl) (ob_stN (P:=Try.prog) dBucket [7] [(some (Nm.t 11))] r2229.2.2 r2231.1 2 1 ((0 + (r2231.1).toNat * 2) + 1) k2247 rfl [.own 11 0 r2254.length] ({ (ixD r2229.2.2 r2231.1) with Items:=r2254 }:Bucket) (Nat.le_of_ble_eq_true rfl) (by first | rfl | omega) rfl rfl 6 12 43 40 (by kernel_rfl) rfl) (ghost_A 12 dBucket (r2229.2.2.set r2231.1.toNat ({ (ixD r2229.2.2 r2231.1) with Items:=r2254 }:Bucket)) 6 43 [(some 7)] [(some (Nm.t 11))] r2231.1 (flD dBucket [12] (r2229.2.2.set r2231.1.toNat ({ (ixD r2229.2.2 r2231.1) with Items:=r2254 }:Bucket))) 0 (some 7) (some 11) (by kernel_rfl) (flN_done dBucket [12] r2231.1 (r2229.2.2.set r2231.1.toNat ({ (ixD r2229.2.2 r2231.1) with Items:=r2254 }:Bucket)) rfl) (by kernel_rfl) ⟨_,(by kernel_rfl),(off_hole r2229.2.2 r2231.1 ({ (ixD r2229.2.2 r2231.1) with Items:=r2254 }:Bucket) k2247 (.dead))⟩ (S_set (fun a=>getH _ (.t 11) = chD dBucket 0 a) k2247 rfl)) (by kernel_rfl) (And.intro (born_fam (upI (famD dBucket 0 r2229.2.2) r2231.1 (.dead)) (by kernel_rfl)) (And.intro (by kernel_rfl) trivial)) ?_
    refine run_eqH 4 (.row 26 [iS r2229.1,.own 5 0 r2229.2.1.length,.own 6 0 r2229.2.2.length]) (.row 26 [iS r2229.1,.own 5 0 r2229.2.1.length,.own 6 0 (r2229.2.2.set r2231.1.toNat ({ (ixD r2229.2.2 r2231.1) with Items:=r2254 }:Bucket)).length]) (congrArg (fun nq=>(.row 26 [iS r2229.1,.own 5 0 r2229.2.1.length,.own 6 0 nq]:Chunk)) (show r2229.2.2.length = (r2229.2.2.set r2231.1.toNat ({ (ixD r2229.2.2 r2231.1) with Items:=r2254 }:Bucket)).length from (List.length_set ..).symm)) (by kernel_rfl) ?_
    refine rf [(1,iS key),(6,.ptr 1 0),(8,.ptr 2 0),(10,.ptr 4 0),(11,iS r2231.1)] [(0,.row 26 (Enc.cells d)),(1,.row 26 [iS 0,.v (.slice none 0 0),.v (.slice none 0 0)]),(2,.row 29 [iS 0,iS 0]),(3,.row 29 (Enc.cells r2227)),(4,.row 26 [iS r2229.1,.own 5 0 r2229.2.1.length,.own 6 0 (r2229.2.2.set r2231.1.toNat ({ (ixD r2229.2.2 r2231.1) with Items:=r2254 }:Bucket)).length]),(5,.row 3 (fl r2229.2.1)),(6,.row 43 (flD dBucket [12] (r2229.2.2.set r2231.1.toNat ({ (ixD r2229.2.2 r2231.1) with Items:=r2254 }:Bucket)))),((.s 7 0),.dead),(8,.dead),(11,.dead),((.s 12 0),.fam (famD dBucket 0 (r2229.2.2.set r2231.1.toNat ({ (ixD r2229.2.2 r2231.1) with Items:=r2254 }:Bucket))))] 13 (by kernel_rfl) ?_
    refine wk_id ?_
    refine seq_np ?_
    refine block_np ?_
    refine loop_sx (S:=Int × Int × (List Int) × (List Bucket)) (fun a=>([(1,iS key),(6,.ptr 0 0),(8,.ptr 1 0),(10,.ptr 2 0),(11,iS a.1)],[(0,.row 26 [iS 0,.v (.slice none 0 0),.v (.slice none 0 0)]),(1,.row 29 [iS 0,iS 0]),(2,.row 26 [iS a.2.1,.own 3 0 a.2.2.1.length,.own 4 0 a.2.2.2.length]),(3,.row 3 (fl a.2.2.1)),(4,.row 43 (flD dBucket [5] a.2.2.2)),((.s 5 0),.fam (famD dBucket 0 a.2.2.2))],6)) h (leSt_m [(0,1),(1,2),(2,4),(3,5),(4,6),((.s 5 0),(.s 12 0))] [] (by simp only [push_cast,leL_flD,renL_flD,seval]) (by simp only [push_cast,leL_flD,renL_flD,seval]) rfl rfl rfl) ?_
    rintro ⟨n7,c2_Depth7,c3q7,c4q7⟩ o2 R2 h hr2 hn2 hx2 ht2
    try dsimp only at h hn2 ⊢
    unfold dict_Put_l1 at h
    try dsimp only at h
    refine seq_np ?_
    refine chk_sx h (fun g2321 h=>?_)
    refine chk_sx h (fun g2324 h=>?_)
    refine seq_cut (A:=Unit) (fun _=>([(1,iS key),(6,.ptr 0 0),(8,.ptr 1 0),(10,.ptr 2 0),(11,iS n7),(97,bS ((decide ((4:Int) < (((ixD c4q7 n7).Items.length:Nat):Int))) && (decide ((ixD c4q7 n7).Depth < 12))))],[(0,.row 26 [iS 0,.v (.slice none 0 0),.v (.slice none 0 0)]),(1,.row 29 [iS 0,iS 0]),(2,.row 26 [iS c2_Depth7,.own 3 0 c3q7.length,.own 4 0 c4q7.length]),(3,.row 3 (fl c3q7)),(4,.row 43 (flD dBucket [5] c4q7)),((.s 5 0),.fam (famD dBucket 0 c4q7))],6)) (fun _=>True) (fun K2319 hK2319=>?_) (fun _ _=>?_)
    ·refine reg_f ?_
     have k2320:0≤n7∧n7 < ((c4q7.length:Nat):Int):=by first | simpa only [Bool.and_eq_true,decide_eq_true_eq,bne_iff_ne,ne_eq] using g2321 | (simp at g2321 ⊢; omega)
     refine rs 11 [none,none,none,none,none,some ⟨.ptr 4 (0 + (n7).toNat * 2),[],6,[4]⟩,none,some ⟨.own (.s 5 n7) 0 (ixD c4q7 n7).Items.length,[],6,[4]⟩] _ (by kernel_rfl) (allP_cons (ob_ldD dBucket [5] c4q7 n7 2 1 ((0 + (n7).toNat * 2) + 1) k2320 rfl (by decide) (by first | rfl | omega) (dflS Try.prog 40) (.own (.s 5 n7) 0 (ixD c4q7 n7).Items.length) rfl 6 [4]) (allP_cons (ob_ix_o 4 c4q7.length 0 2 6 n7 k2320) allP_nil)) ?_
     refine run_split 87 (decide ((4:Int) < (((ixD c4q7 n7).Items.length:Nat):Int))) (.inl (by kernel_rfl)) (fun g2322=>?_) (fun g2322=>?_)
     ·have k2323:0≤n7∧n7 < ((c4q7.length:Nat):Int):=by have e:=or_use g2324 (by first | ((try simp only [g2322]) <;> rfl) | ((try simp only [g2322]); rfl) | (exfalso; clear h; simp_all; done)); first | simpa only [Bool.and_eq_true,decide_eq_true_eq,bne_iff_ne,ne_eq] using e | (simp at e ⊢; omega)
      refine rs 10 [none,none,none,none,none,some ⟨.ptr 4 (0 + (n7).toNat * 2),[],6,[4]⟩,none,some ⟨iS (ixD c4q7 n7).Depth,[],6,[4]⟩] _ (by kernel_rfl) (allP_cons (ob_ldD dBucket [5] c4q7 n7 2 0 ((0 + (n7).toNat * 2) + 0) k2323 rfl (by decide) (by first | rfl | omega) (dflS Try.prog 3) (iS (ixD c4q7 n7).Depth) rfl 6 [4]) (allP_cons (ob_ix_o 4 c4q7.length 0 2 6 n7 k2323) allP_nil)) ?_
      refine rf [(1,iS key),(6,.ptr 0 0),(8,.ptr 1 0),(10,.ptr 2 0),(11,iS n7),(97,bS (decide ((ixD c4q7 n7).Depth < 12)))] [(0,.row 26 [iS 0,.v (.slice none 0 0),.v (.slice none 0 0)]),(1,.row 29 [iS 0,iS 0]),(2,.row 26 [iS c2_Depth7,.own 3 0 c3q7.length,.own 4 0 c4q7.length]),(3,.row 3 (fl c3q7)),(4,.row 43 (flD dBucket [5] c4q7)),((.s 5 0),.fam (famD dBucket 0 c4q7))] 6 (by kernel_rfl) ?_
      exact hK2319 () _ _ _ trivial (leSt_m [(0,0),(1,1),(2,2),(3,3),(4,4),((.s 5 0),(.s 5 0))] [] (by (try simp only [g2322]) <;> simp only [push_cast,leL_flD,renL_flD,seval]) (by (try simp only [g2322]) <;> simp only [push_cast,leL_flD,renL_flD,seval]) rfl rfl rfl)
     ·refine rs 10 [] [] (by kernel_rfl) allP_nil ?_
      refine rf [(1,iS key),(6,.ptr 0 0),(8,.ptr 1 0),(10,.ptr 2 0),(11,iS n7),(97,bS false)] [(0,.row 26 [iS 0,.v (.slice none 0 0),.v (.slice none 0 0)]),(1,.row 29 [iS 0,iS 0]),(2,.row 26 [iS c2_Depth7,.own 3 0 c3q7.length,.own 4 0 c4q7.length]),(3,.row 3 (fl c3q7)),(4,.row 43 (flD dBucket [5] c4q7)),((.s 5 0),.fam (famD dBucket 0 c4q7))] 6 (by kernel_rfl) ?_
      exact hK2319 () _ _ _ trivial (leSt_m [(0,0),(1,1),(2,2),(3,3),(4,4),((.s 5 0),(.s 5 0))] [] (by (try simp only [g2322]) <;> simp only [push_cast,leL_flD,renL_flD,seval]) (by (try simp only [g2322]) <;> simp only [push_cast,leL_flD,renL_flD,seval]) rfl rfl rfl)
    ·dsimp only
     refine cond_sx h (by kernel_rfl) (fun g2337 h=>?_) (fun g2337 h=>?_)
     ·refine wk_id ?_
      refine block_np ?_
      refine seq_np ?_
      refine reg_f ?_
      refine rs 2 [] [] (by kernel_rfl) allP_nil ?_
      obtain ⟨r2326,hr2326,h⟩:=bind_sx h
      refine call_x (dict_split_1_spec n7 c2_Depth7 c3q7 c4q7 r2326 hr2326) (args:=[.ptr 2 0,iS n7]) (dst:=(some 100)) (by kernel_rfl) [(0,.row 26 [iS 0,.v (.slice none 0 0),.v (.slice none 0 0)]),(1,.row 29 [iS 0,iS 0]),(2,.row 26 [iS c2_Depth7,.own 3 0 c3q7.length,.own 4 0 c4q7.length]),(3,.row 3 (fl c3q7)),(4,.row 43 (flD dBucket [5] c4q7)),((.s 5 0),.fam (famD dBucket 0 c4q7))] 6 (by kernel_rfl) [(0,2),(1,3),(2,4),((.s 3 0),(.s 5 0))] [] (.tup []) [(2,.row 26 [iS r2326.1,.own 10 0 r2326.2.1.length,.own 11 0 r2326.2.2.length]),(3,.dead),(4,.dead),((.s 5 0),.dead),(10,.row 3 (fl r2326.2.1)),(11,.row 43 (flD dBucket [12] r2326.2.2)),((.s 12 0),.fam (famD dBucket 0 r2326.2.2)),(2,.dead),(3,.dead),(4,.dead),((.s 5 0),.dead)] (by simp only [push_cast,leL_flD,renL_flD,seval]) (by simp only [push_cast,leL_flD,renL_flD,seval]) (by kernel_rfl) (.inl rfl) (by first | (simp only [push_cast,leL_flD,renL_flD,seval]; done) | (simp only [push_cast,leL_flD,renL_flD,seval]; kernel_rfl) | kernel_rfl) (by first | (simp only [push_cast,leL_flD,renL_flD,seval]; done) | (simp only [push_cast,leL_flD,renL_flD,seval]; kernel_rfl) | kernel_rfl) ?_ (hfam:=(And.intro trivial (And.intro trivial (And.intro trivial (And.intro (fun _=>Or.inl rfl) trivial)))))
      refine rf [(1,iS key),(6,.ptr 0 0),(8,.ptr 1 0),(10,.ptr 2 0)] [(0,.row 26 [iS 0,.v (.slice none 0 0),.v (.slice none 0 0)]),(1,.row 29 [iS 0,iS 0]),(2,.row 26 [iS r2326.1,.own 10 0 r2326.2.1.length,.own 11 0 r2326.2.2.length]),(3,.dead),(4,.dead),((.s 5 0),.dead),(10,.row 3 (fl r2326.2.1)),(11,.row 43 (flD dBucket [12] r2326.2.2)),((.s 12 0),.fam (famD dBucket 0 r2326.2.2))] 13 (by kernel_rfl) ?_
      refine wk_id ?_
      refine reg_t ?_
      refine rs 9 [] [] (by kernel_rfl) allP_nil ?_
      obtain ⟨r2330,hr2330,h⟩:=bind_sx h
      refine run_call 32 [iS key,iS r2326.1] (some 110) (by kernel_rfl) ?_
      refine callE_0 (dict_last_spec key r2326.1 r2330 hr2330) (by simp only [push_cast,leL_flD,renL_flD,seval]) (by simp only [push_cast,leL_flD,renL_flD,seval]) ?_
      refine back_t ?_
      refine chk_sx h (fun g2332 h=>?_)
      have k2331:0≤r2330∧r2330 < ((r2326.2.1.length:Nat):Int):=by first | simpa only [Bool.and_eq_true,decide_eq_true_eq,bne_iff_ne,ne_eq] using g2332 | (simp at g2332 ⊢; omega)
      refine rs 3 [some ⟨.ptr 10 (0 + (r2330).toNat * 1),[],23,[10]⟩,some ⟨iS (ix r2326.2.1 r2330),[],24,[10]⟩] _ (by kernel_rfl) (allP_cons (ob_ld r2326.2.1 r2330 1 0 (0 + (r2330).toNat * 1) k2331 rfl (by decide) (by first | rfl | omega) (dflS Try.prog 3) (iS (ix r2326.2.1 r2330)) rfl 24 [10]) (allP_cons (ob_ix_o 10 r2326.2.1.length 0 1 23 r2330 k2331) allP_nil)) ?_
      refine rt [(1,iS key),(6,.ptr 0 0),(8,.ptr 1 0),(10,.ptr 2 0),(11,iS (ix r2326.2.1 r2330))] [(0,.row 26 [iS 0,.v (.slice none 0 0),.v (.slice none 0 0)]),(1,.row 29 [iS 0,iS 0]),(2,.row 26 [iS r2326.1,.own 10 0 r2326.2.1.length,.own 11 0 r2326.2.2.length]),(3,.dead),(4,.dead),((.s 5 0),.dead),(10,.row 3 (fl r2326.2.1)),(11,.row 43 (flD dBucket [12] r2326.2.2)),((.s 12 0),.fam (famD dBucket 0 r2326.2.2))] 26 follows (by kernel_rfl) ?_
      refine wk_id ?_
      exact hn2 ((ix r2326.2.1 r2330),r2326.1,r2326.2.1,r2326.2.2) _ _ _ (Option.some.inj h).symm (leSt_m [(0,0),(1,1),(2,2),(3,10),(4,11),((.s 5 0),(.s 12 0))] [] (by simp only [push_cast,leL_flD,renL_flD,seval]) (by simp only [push_cast,leL_flD,renL_flD,seval]) rfl rfl rfl)
     ·change R2 (.exit 0) _ _ _
      refine ex_cast hx2 (id:=0) ?_
      obtain ⟨r0,h,e0⟩:=map_sx h
      have e1:=hr2 r0 e0.symm
      subst r0
      refine wk_id ?_
      refine wk_id ?_
      refine seq_np ?_
      refine reg_f ?_
      refine rs 1 [] [] (by kernel_rfl) allP_nil ?_
      obtain ⟨r2335,hr2335,h⟩:=bind_sx h
      refine call_x (dict_number_1_spec c2_Depth7 c3q7 c4q7 r2335 hr2335) (args:=[.ptr 2 0]) (dst:=(some 114)) (by kernel_rfl) [(0,.row 26 [iS 0,.v (.slice none 0 0),.v (.slice none 0 0)]),(1,.row 29 [iS 0,iS 0]),(2,.row 26 [iS c2_Depth7,.own 3 0 c3q7.length,.own 4 0 c4q7.length]),(3,.row 3 (fl c3q7)),(4,.row 43 (flD dBucket [5] c4q7)),((.s 5 0),.fam (famD dBucket 0 c4q7))] 6 (by kernel_rfl) [(0,2),(1,3),(2,4),((.s 3 0),(.s 5 0))] [] (.tup []) [(2,.row 26 [iS r2335.1,.own 3 0 r2335.2.2.length,.own 10 0 r2335.2.1.length]),(3,.row 3 (fl r2335.2.2)),(4,.dead),((.s 5 0),.dead),(10,.row 43 (fl r2335.2.1)),(2,.dead),(3,.dead),(4,.dead),((.s 5 0),.dead)] (by simp only [push_cast,leL_flD,renL_flD,seval]) (by simp only [push_cast,leL_flD,renL_flD,seval]) (by kernel_rfl) (.inl rfl) (by first | (simp only [push_cast,leL_flD,renL_flD,seval]; done) | (simp only [push_cast,leL_flD,renL_flD,seval]; kernel_rfl) | kernel_rfl) (by first | (simp only [push_cast,leL_flD,renL_flD,seval]; done) | (simp only [push_cast,leL_flD,renL_flD,seval]; kernel_rfl) | kernel_rfl) ?_ (hfam:=(And.intro trivial (And.intro trivial (And.intro trivial (And.intro (fun _=>Or.inl rfl) trivial)))))
      refine rf [(6,.ptr 0 0),(8,.ptr 1 0),(10,.ptr 2 0)] [(0,.row 26 [iS 0,.v (.slice none 0 0),.v (.slice none 0 0)]),(1,.row 29 [iS 0,iS 0]),(2,.row 26 [iS r2335.1,.own 3 0 r2335.2.2.length,.own 10 0 r2335.2.1.length]),(3,.row 3 (fl r2335.2.2)),(4,.dead),((.s 5 0),.dead),(10,.row 43 (fl r2335.2.1))] 11 (by kernel_rfl) ?_
      refine wk_id ?_
      refine seq_np ?_
      refine reg_f ?_
      refine rs 7 [] [] (by kernel_rfl) allP_nil ?_
      refine rf [(6,.ptr 0 0),(7,bS false),(8,.ptr 1 0)] [(0,.row 26 [iS r2335.1,.own 3 0 r2335.2.2.length,.own 10 0 r2335.2.1.length]),(1,.row 29 [iS 0,iS 0]),(2,.row 26 [iS r2335.1,.own 3 0 r2335.2.2.length,.own 10 0 r2335.2.1.length]),(3,.row 3 (fl r2335.2.2)),(4,.dead),((.s 5 0),.dead),(10,.row 43 (fl r2335.2.1))] 11 (by kernel_rfl) ?_
      refine wk_id ?_
      obtain rfl:=Option.some.inj h
      refine ret_at (.tup [.agg [iS r2335.1,.own 3 0 r2335.2.2.length,.own 10 0 r2335.2.1.length],bS false,.agg [iS 0,iS 0]]) (by kernel_rfl) ?_
      exact ret_e [(0,3)] [10] (by simp only [leS_frz,leS_cut,leL_flD,renL_flD,push_cast,seval]) (by simp only [leS_frz,leS_cut,leL_flD,renL_flD,push_cast,seval]) rfl rfl rfl

set_option maxRecDepth 100000 in
set_option maxHeartbeats 200000000 in
theorem taskmilllaw_dictBegun_spec (r:Bool) (h:taskmilllaw_dictBegun = some r):SpecW Try.prog 8 [] [] 0 (fun x h n=>x = bS r∧h = []∧n = 0):=by
 unfold taskmilllaw_dictBegun at h
 refine spec_of (draw_ok _) Try.func8 rfl (by decide) rfl (by kernel_rfl) ?_
 refine seq_np ?_
 refine reg_f ?_
 refine rs 1 [] [] (by kernel_rfl) allP_nil ?_
 refine rf [] [] 0 (by kernel_rfl) ?_
 refine wk_id ?_
 refine seq_np ?_
 refine reg_f ?_
 obtain ⟨r2355,hr2355,h⟩:=bind_sx h
 refine call_x (dict_New_spec r2355 hr2355) (args:=[]) (dst:=(some 6)) (by kernel_rfl) [] 0 (by kernel_rfl) [] [] (.agg [iS r2355.1,.own 0 0 r2355.2.1.length,.own 1 0 r2355.2.2.length]) [(0,.row 3 (fl r2355.2.1)),(1,.row 43 (fl r2355.2.2))] (by simp only [push_cast,leL_flD,renL_flD,seval]) (by simp only [push_cast,leL_flD,renL_flD,seval]) (by kernel_rfl) (.inl rfl) (by simp only [push_cast,leL_flD,renL_flD,seval]) (by simp only [push_cast,leL_flD,renL_flD,seval]) ?_
 refine rs 2 [] [] (by kernel_rfl) allP_nil ?_
 refine rf [(1,.ptr 2 0)] [(0,.row 3 (fl r2355.2.1)),(1,.row 43 (fl r2355.2.2)),(2,.row 26 [iS r2355.1,.own 0 0 r2355.2.1.length,.own 1 0 r2355.2.2.length])] 3 (by kernel_rfl) ?_
 refine wk_id ?_
 refine seq_np ?_
 refine seq_np ?_
 refine reg_f ?_
 refine rs 1 [] [] (by kernel_rfl) allP_nil ?_
 refine rf [(1,.ptr 2 0),(2,iS 0)] [(0,.row 3 (fl r2355.2.1)),(1,.row 43 (fl r2355.2.2)),(2,.row 26 [iS r2355.1,.own 0 0 r2355.2.1.length,.own 1 0 r2355.2.2.length])] 3 (by kernel_rfl) ?_
 refine wk_id ?_
 refine block_np ?_
 refine loop_sx (S:=Int × Int × (List Bucket) × (List Int)) (fun a=>([(1,.ptr 0 0),(2,iS a.1)],[(0,.row 26 [iS a.2.1,.own 1 0 a.2.2.2.length,.sl a.2.2.1.length (fl a.2.2.1)]),(1,.row 3 (fl a.2.2.2))],2)) h (leSt_m [(0,2),(1,0)] [1] (by simp only [leS_frz,leS_cut,leL_flD,renL_flD,push_cast,seval]) (by simp only [leS_frz,leS_cut,leL_flD,renL_flD,push_cast,seval]) rfl rfl rfl) ?_
 rintro ⟨k7,c0_Depth11,c0_Buckets7,c1q11⟩ o2 R2 h hr2 hn2 hx2 ht2
 try dsimp only at h hn2 ⊢
 unfold taskmilllaw_dictBegun_l1 at h
 try dsimp only at h
 refine seq_np ?_
 refine seq_np ?_
 refine reg_f ?_
 refine rs 2 [] [] (by kernel_rfl) allP_nil ?_
 refine rf [(1,.ptr 0 0),(2,iS k7),(8,bS (decide (k7 < 5)))] [(0,.row 26 [iS c0_Depth11,.own 1 0 c1q11.length,.sl c0_Buckets7.length (fl c0_Buckets7)]),(1,.row 3 (fl c1q11))] 2 (by kernel_rfl) ?_
 refine wk_id ?_
 refine cond_sx h (by kernel_rfl) (fun g2398 h=>?_) (fun g2398 h=>?_)
 ·refine wk_mk [(1,.ptr 0 0),(2,iS k7),(8,bS (decide (k7 < 5)))] [(0,.row 26 [iS c0_Depth11,.sl c1q11.length (fl c1q11),.sl c0_Buckets7.length (fl c0_Buckets7)])] 2 (leSt_m [(0,0)] [1] (by simp only [leS_frz,leS_cut,leL_flD,renL_flD,push_cast,seval]) (by simp only [leS_frz,leS_cut,leL_flD,renL_flD,push_cast,seval]) rfl rfl rfl) ?_
  refine seq_np ?_
  refine block_np ?_
  refine seq_np ?_
  refine reg_f ?_
  refine rs 3 [] [] (by kernel_rfl) allP_nil ?_
  obtain ⟨r2386,hr2386,h⟩:=bind_sx h
  refine call_x (dict_Put_spec (Dict.mk c0_Depth11 c1q11 c0_Buckets7) k7 k7 r2386 hr2386) (args:=[.agg [iS c0_Depth11,.sl c1q11.length (fl c1q11),.sl c0_Buckets7.length (fl c0_Buckets7)],iS k7,iS k7]) (dst:=(some 15)) (by kernel_rfl) [(0,.row 26 [iS c0_Depth11,.sl c1q11.length (fl c1q11),.sl c0_Buckets7.length (fl c0_Buckets7)])] 2 (by kernel_rfl) [] [] (.tup [.agg [iS r2386.1,.own 2 0 r2386.2.2.2.2.length,.sl r2386.2.1.length (fl r2386.2.1)],bS r2386.2.2.1,.agg (Enc.cells r2386.2.2.2.1)]) [(2,.row 3 (fl r2386.2.2.2.2))] (by simp only [push_cast,leL_flD,renL_flD,seval]) (by simp only [push_cast,leL_flD,renL_flD,seval]) (by kernel_rfl) (.inl rfl) (by simp only [push_cast,leL_flD,renL_flD,seval]) (by simp only [push_cast,leL_flD,renL_flD,seval]) ?_
  refine rs 9 [] [] (by kernel_rfl) allP_nil ?_
  refine rf [(1,.ptr 0 0),(2,iS k7),(3,.ptr 3 0),(5,.ptr 4 0)] [(0,.row 26 [iS c0_Depth11,.sl c1q11.length (fl c1q11),.sl c0_Buckets7.length (fl c0_Buckets7)]),(2,.row 3 (fl r2386.2.2.2.2)),(3,.row 26 [iS r2386.1,.own 2 0 r2386.2.2.2.2.length,.sl r2386.2.1.length (fl r2386.2.1)]),(4,.row 29 (Enc.cells r2386.2.2.2.1))] 5 (by kernel_rfl) ?_
  refine wk_id ?_
  refine seq_np ?_
  refine seq_np ?_
  refine reg_f ?_
  refine rs 3 [] [] (by kernel_rfl) allP_nil ?_
  refine rf [(1,.ptr 0 0),(2,iS k7),(3,.ptr 3 0),(21,bS (r2386.2.2.2.1.Code != 0))] [(0,.row 26 [iS c0_Depth11,.sl c1q11.length (fl c1q11),.sl c0_Buckets7.length (fl c0_Buckets7)]),(2,.row 3 (fl r2386.2.2.2.2)),(3,.row 26 [iS r2386.1,.own 2 0 r2386.2.2.2.2.length,.sl r2386.2.1.length (fl r2386.2.1)]),(4,.row 29 (Enc.cells r2386.2.2.2.1))] 5 (by kernel_rfl) ?_
  refine wk_id ?_
  refine cond_sx h (by kernel_rfl) (fun g2388 h=>?_) (fun g2388 h=>?_)
  ·refine seq_np ?_
   refine reg_f ?_
   refine rs 1 [] [] (by kernel_rfl) allP_nil ?_
   refine rf [(0,bS false)] [(0,.row 26 [iS c0_Depth11,.sl c1q11.length (fl c1q11),.sl c0_Buckets7.length (fl c0_Buckets7)]),(2,.row 3 (fl r2386.2.2.2.2)),(3,.row 26 [iS r2386.1,.own 2 0 r2386.2.2.2.2.length,.sl r2386.2.1.length (fl r2386.2.1)]),(4,.row 29 (Enc.cells r2386.2.2.2.1))] 5 (by kernel_rfl) ?_
   refine wk_id ?_
   refine rt_cast ht2 ?_
   obtain ⟨r0,h,e0⟩:=map_sx h
   have e1:=hr2 r0 e0.symm
   subst r0
   obtain rfl:=Option.some.inj h
   refine ret_at (bS false) (by kernel_rfl) ?_
   exact ret_e [] [] (by simp only [push_cast,leL_flD,renL_flD,seval]) (by simp only [push_cast,leL_flD,renL_flD,seval]) rfl rfl rfl
  ·refine wk_id ?_
   refine reg_f ?_
   refine rs 2 [] [] (by kernel_rfl) allP_nil ?_
   refine rf [(1,.ptr 0 0),(2,iS k7)] [(0,.row 26 [iS r2386.1,.own 2 0 r2386.2.2.2.2.length,.sl r2386.2.1.length (fl r2386.2.1)]),(2,.row 3 (fl r2386.2.2.2.2)),(3,.row 26 [iS r2386.1,.own 2 0 r2386.2.2.2.2.length,.sl r2386.2.1.length (fl r2386.2.1)]),(4,.row 29 (Enc.cells r2386.2.2.2.1))] 5 (by kernel_rfl) ?_
   refine wk_id ?_
   refine wk_id ?_
   refine reg_f ?_
   refine rs 3 [] [] (by kernel_rfl) allP_nil ?_
   refine rf [(1,.ptr 0 0),(2,iS (IntKind.i64.wrap (k7 + 1)))] [(0,.row 26 [iS r2386.1,.own 2 0 r2386.2.2.2.2.length,.sl r2386.2.1.length (fl r2386.2.1)]),(2,.row 3 (fl r2386.2.2.2.2)),(3,.row 26 [iS r2386.1,.own 2 0 r2386.2.2.2.2.length,.sl r2386.2.1.length (fl r2386.2.1)]),(4,.row 29 (Enc.cells r2386.2.2.2.1))] 5 (by kernel_rfl) ?_
   exact hn2 ((IntKind.i64.wrap (k7 + 1)),r2386.1,r2386.2.1,r2386.2.2.2.2) _ _ _ (Option.some.inj h).symm (leSt_m [(0,0),(1,2)] [] (by simp only [push_cast,leL_flD,renL_flD,seval]) (by simp only [push_cast,leL_flD,renL_flD,seval]) rfl rfl rfl)
 ·change R2 (.exit 0) _ _ _
  refine ex_cast hx2 (id:=0) ?_
  obtain ⟨r0,h,e0⟩:=map_sx h
  have e1:=hr2 r0 e0.symm
  subst r0
  refine wk_id ?_
  refine wk_id ?_
  refine chk_sx h (fun g2397 h=>?_)
  refine seq_cut (A:=Unit) (fun _=>([(0,bS ((c0_Depth11 == 1) && ((((c0_Buckets7.length:Nat):Int) == 2) && ((((ix c0_Buckets7 (0:Int)).Items.length:Nat):Int) == 3))))],[(0,.row 26 [iS c0_Depth11,.own 1 0 c1q11.length,.sl c0_Buckets7.length (fl c0_Buckets7)]),(1,.row 3 (fl c1q11))],2)) (fun _=>True) (fun K2393 hK2393=>?_) (fun _ _=>?_)
  ·refine reg_f ?_
   refine rs 4 [] [] (by kernel_rfl) allP_nil ?_
   refine run_split 26 (c0_Depth11 == 1) (.inl (by kernel_rfl)) (fun g2394=>?_) (fun g2394=>?_)
   ·refine rs 6 [] [] (by kernel_rfl) allP_nil ?_
    refine run_split 32 (((c0_Buckets7.length:Nat):Int) == 2) (.inl (by kernel_rfl)) (fun g2395=>?_) (fun g2395=>?_)
    ·have k2396:0≤(0:Int)∧(0:Int) < ((c0_Buckets7.length:Nat):Int):=by have e:=or_use g2397 (by first | ((try simp only [g2394,g2395]) <;> rfl) | ((try simp only [g2394]); (try simp only [g2395]); rfl) | (exfalso; clear h; simp_all; done)); first | simpa only [Bool.and_eq_true,decide_eq_true_eq,bne_iff_ne,ne_eq] using e | (simp at e ⊢; omega)
     refine rs 9 [none,none,some ⟨.iptr (fl c0_Buckets7) (((0:Int)).toNat * 2),[],2,[]⟩,none,some ⟨.sl (ix c0_Buckets7 (0:Int)).Items.length (fl (ix c0_Buckets7 (0:Int)).Items),[],2,[]⟩] _ (by kernel_rfl) (allP_cons (ob_ld c0_Buckets7 (0:Int) 2 1 ((((0:Int)).toNat * 2) + 1) k2396 rfl (by decide) (by first | rfl | omega) (dflS Try.prog 40) (.sl (ix c0_Buckets7 (0:Int)).Items.length (fl (ix c0_Buckets7 (0:Int)).Items)) rfl 2 []) (allP_cons (ob_ix_l c0_Buckets7 2 2 0 k2396) allP_nil)) ?_
     refine rf [(0,bS ((((ix c0_Buckets7 (0:Int)).Items.length:Nat):Int) == 3))] [(0,.row 26 [iS c0_Depth11,.own 1 0 c1q11.length,.sl c0_Buckets7.length (fl c0_Buckets7)]),(1,.row 3 (fl c1q11))] 2 (by kernel_rfl) ?_
     exact hK2393 () _ _ _ trivial (leSt_m [(0,0),(1,1)] [] (by first | ((try simp only [g2394,g2395]) <;> simp only [push_cast,leL_flD,renL_flD,seval]; done) | ((try simp only [g2394]); (try simp only [g2395]); simp only [push_cast,leL_flD,renL_flD,seval]; done) | (exfalso; clear h; simp_all; done)) (by first | ((try simp only [g2394,g2395]) <;> simp only [push_cast,leL_flD,renL_flD,seval]; done) | ((try simp only [g2394]); (try simp only [g2395]); simp only [push_cast,leL_flD,renL_flD,seval]; done) | (exfalso; clear h; simp_all; done)) rfl rfl rfl)
    ·refine rs 9 [] [] (by kernel_rfl) allP_nil ?_
     refine rf [(0,bS false)] [(0,.row 26 [iS c0_Depth11,.own 1 0 c1q11.length,.sl c0_Buckets7.length (fl c0_Buckets7)]),(1,.row 3 (fl c1q11))] 2 (by kernel_rfl) ?_
     exact hK2393 () _ _ _ trivial (leSt_m [(0,0),(1,1)] [] (by first | ((try simp only [g2394,g2395]) <;> simp only [push_cast,leL_flD,renL_flD,seval]; done) | ((try simp only [g2394]); (try simp only [g2395]); simp only [push_cast,leL_flD,renL_flD,seval]; done) | (exfalso; clear h; simp_all; done)) (by first | ((try simp only [g2394,g2395]) <;> simp only [push_cast,leL_flD,renL_flD,seval]; done) | ((try simp only [g2394]); (try simp only [g2395]); simp only [push_cast,leL_flD,renL_flD,seval]; done) | (exfalso; clear h; simp_all; done)) rfl rfl rfl)
   ·refine rs 15 [] [] (by kernel_rfl) allP_nil ?_
    refine rf [(0,bS false)] [(0,.row 26 [iS c0_Depth11,.own 1 0 c1q11.length,.sl c0_Buckets7.length (fl c0_Buckets7)]),(1,.row 3 (fl c1q11))] 2 (by kernel_rfl) ?_
    exact hK2393 () _ _ _ trivial (leSt_m [(0,0),(1,1)] [] (by (try simp only [g2394]) <;> simp only [push_cast,leL_flD,renL_flD,seval]) (by (try simp only [g2394]) <;> simp only [push_cast,leL_flD,renL_flD,seval]) rfl rfl rfl)
  ·dsimp only
   obtain rfl:=Option.some.inj h
   refine ret_at (bS ((c0_Depth11 == 1) && ((((c0_Buckets7.length:Nat):Int) == 2) && ((((ix c0_Buckets7 (0:Int)).Items.length:Nat):Int) == 3)))) (by kernel_rfl) ?_
   exact ret_e [] [] (by simp only [push_cast,leL_flD,renL_flD,seval]) (by simp only [push_cast,leL_flD,renL_flD,seval]) rfl rfl rfl

set_option maxRecDepth 100000 in
set_option maxHeartbeats 200000000 in
theorem taskmillref_Ints_spec (xa:(List Int)) (b:(List Int)) (r:Bool) (h:taskmillref_Ints xa b = some r):SpecW Try.prog 34 [.sl xa.length (fl xa),.sl b.length (fl b)] [] 0 (fun x h n=>x = bS r∧h = []∧n = 0):=by
 unfold taskmillref_Ints at h
 refine spec_of (draw_ok _) Try.func34 rfl (by decide) rfl (by kernel_rfl) ?_
 refine seq_np ?_
 refine reg_f ?_
 refine rs 1 [] [] (by kernel_rfl) allP_nil ?_
 refine rf [(0,.sl xa.length (fl xa)),(1,.sl b.length (fl b))] [] 0 (by kernel_rfl) ?_
 refine wk_id ?_
 refine seq_np ?_
 refine seq_np ?_
 refine reg_f ?_
 refine rs 5 [] [] (by kernel_rfl) allP_nil ?_
 refine rf [(0,.sl xa.length (fl xa)),(1,.sl b.length (fl b)),(10,bS (((xa.length:Nat):Int) != ((b.length:Nat):Int)))] [] 0 (by kernel_rfl) ?_
 refine wk_id ?_
 refine cond_sx h (by kernel_rfl) (fun g2539 h=>?_) (fun g2539 h=>?_)
 ·refine seq_np ?_
  refine reg_f ?_
  refine rs 1 [] [] (by kernel_rfl) allP_nil ?_
  refine rf [(4,bS false)] [] 0 (by kernel_rfl) ?_
  refine wk_id ?_
  obtain rfl:=Option.some.inj h
  refine ret_at (bS false) (by kernel_rfl) ?_
  exact ret_e [] [] (by simp only [push_cast,leL_flD,renL_flD,seval]) (by simp only [push_cast,leL_flD,renL_flD,seval]) rfl rfl rfl
 ·refine wk_id ?_
  refine seq_np ?_
  refine seq_np ?_
  refine reg_f ?_
  refine rs 1 [] [] (by kernel_rfl) allP_nil ?_
  refine rf [(0,.sl xa.length (fl xa)),(1,.sl b.length (fl b)),(5,iS 0)] [] 0 (by kernel_rfl) ?_
  refine wk_id ?_
  refine block_np ?_
  refine loop_sx (S:=Int) (fun a=>([(0,.sl xa.length (fl xa)),(1,.sl b.length (fl b)),(5,iS a)],[],0)) h (leSt_m [] [] (by simp only [push_cast,leL_flD,renL_flD,seval]) (by simp only [push_cast,leL_flD,renL_flD,seval]) rfl rfl rfl) ?_
  rintro i7 o2 R2 h hr2 hn2 hx2 ht2
  try dsimp only at h hn2 ⊢
  unfold taskmillref_Ints_l1 at h
  try dsimp only at h
  refine seq_np ?_
  refine seq_np ?_
  refine reg_f ?_
  refine rs 4 [] [] (by kernel_rfl) allP_nil ?_
  refine rf [(0,.sl xa.length (fl xa)),(1,.sl b.length (fl b)),(5,iS i7),(14,bS (decide (i7 < ((xa.length:Nat):Int))))] [] 0 (by kernel_rfl) ?_
  refine wk_id ?_
  refine cond_sx h (by kernel_rfl) (fun g2538 h=>?_) (fun g2538 h=>?_)
  ·refine wk_id ?_
   refine seq_np ?_
   refine block_np ?_
   refine chk_sx h (fun g2534 h=>?_)
   refine chk_sx h (fun g2536 h=>?_)
   refine seq_np ?_
   refine reg_t ?_
   have k2533:0≤i7∧i7 < ((xa.length:Nat):Int):=by first | simpa only [Bool.and_eq_true,decide_eq_true_eq,bne_iff_ne,ne_eq] using g2534 | (simp at g2534 ⊢; omega)
   have k2535:0≤i7∧i7 < ((b.length:Nat):Int):=by first | simpa only [Bool.and_eq_true,decide_eq_true_eq,bne_iff_ne,ne_eq] using g2536 | (simp at g2536 ⊢; omega)
   refine rs 9 [none,none,some ⟨.iptr (fl xa) ((i7).toNat * 1),[],2,[]⟩,some ⟨iS (ix xa i7),[],3,[]⟩,none,none,some ⟨.iptr (fl b) ((i7).toNat * 1),[],6,[]⟩,some ⟨iS (ix b i7),[],7,[]⟩] _ (by kernel_rfl) (allP_cons (ob_ld b i7 1 0 ((i7).toNat * 1) k2535 rfl (by decide) (by first | rfl | omega) (dflS Try.prog 3) (iS (ix b i7)) rfl 7 []) (allP_cons (ob_ix_l b 1 6 i7 k2535) (allP_cons (ob_ld xa i7 1 0 ((i7).toNat * 1) k2533 rfl (by decide) (by first | rfl | omega) (dflS Try.prog 3) (iS (ix xa i7)) rfl 3 []) (allP_cons (ob_ix_l xa 1 2 i7 k2533) allP_nil)))) ?_
   refine rt [(0,.sl xa.length (fl xa)),(1,.sl b.length (fl b)),(5,iS i7),(25,bS ((ix xa i7) != (ix b i7)))] [] 9 follows (by kernel_rfl) ?_
   refine wk_id ?_
   refine cond_sx h (by kernel_rfl) (fun g2537 h=>?_) (fun g2537 h=>?_)
   ·refine seq_np ?_
    refine reg_f ?_
    refine rs 1 [] [] (by kernel_rfl) allP_nil ?_
    refine rf [(4,bS false)] [] 9 (by kernel_rfl) ?_
    refine wk_id ?_
    refine rt_cast ht2 ?_
    obtain ⟨r0,h,e0⟩:=map_sx h
    have e1:=hr2 r0 e0.symm
    subst r0
    obtain rfl:=Option.some.inj h
    refine ret_at (bS false) (by kernel_rfl) ?_
    exact ret_e [] [] (by simp only [push_cast,leL_flD,renL_flD,seval]) (by simp only [push_cast,leL_flD,renL_flD,seval]) rfl rfl rfl
   ·refine wk_id ?_
    refine wk_id ?_
    refine reg_f ?_
    refine rs 3 [] [] (by kernel_rfl) allP_nil ?_
    refine rf [(0,.sl xa.length (fl xa)),(1,.sl b.length (fl b)),(5,iS (IntKind.i64.wrap (i7 + 1)))] [] 9 (by kernel_rfl) ?_
    exact hn2 ((IntKind.i64.wrap (i7 + 1))) _ _ _ (Option.some.inj h).symm (leSt_m [] [] (by simp only [push_cast,leL_flD,renL_flD,seval]) (by simp only [push_cast,leL_flD,renL_flD,seval]) rfl rfl rfl)
  ·change R2 (.exit 0) _ _ _
   refine ex_cast hx2 (id:=0) ?_
   obtain ⟨r0,h,e0⟩:=map_sx h
   have e1:=hr2 r0 e0.symm
   subst r0
   refine wk_id ?_
   refine wk_id ?_
   refine seq_np ?_
   refine reg_f ?_
   refine rs 1 [] [] (by kernel_rfl) allP_nil ?_
   refine rf [(4,bS true)] [] 0 (by kernel_rfl) ?_
   refine wk_id ?_
   obtain rfl:=Option.some.inj h
   refine ret_at (bS true) (by kernel_rfl) ?_
   exact ret_e [] [] (by simp only [push_cast,leL_flD,renL_flD,seval]) (by simp only [push_cast,leL_flD,renL_flD,seval]) rfl rfl rfl

set_option maxRecDepth 100000 in
set_option maxHeartbeats 200000000 in
theorem taskmillref_SameItems_spec (xa:(List GItem)) (b:(List GItem)) (r:Bool) (h:taskmillref_SameItems xa b = some r):SpecW Try.prog 25 [.sl xa.length (fl xa),.sl b.length (fl b)] [] 0 (fun x h n=>x = bS r∧h = []∧n = 0):=by
 unfold taskmillref_SameItems at h
 refine spec_of (draw_ok _) Try.func25 rfl (by decide) rfl (by kernel_rfl) ?_
 refine seq_np ?_
 refine reg_f ?_
 refine rs 1 [] [] (by kernel_rfl) allP_nil ?_
 refine rf [(0,.sl xa.length (fl xa)),(1,.sl b.length (fl b))] [] 0 (by kernel_rfl) ?_
 refine wk_id ?_
 refine seq_np ?_
 refine seq_np ?_
 refine reg_f ?_
 refine rs 5 [] [] (by kernel_rfl) allP_nil ?_
 refine rf [(0,.sl xa.length (fl xa)),(1,.sl b.length (fl b)),(10,bS (((xa.length:Nat):Int) != ((b.length:Nat):Int)))] [] 0 (by kernel_rfl) ?_
 refine wk_id ?_
 refine cond_sx h (by kernel_rfl) (fun g2648 h=>?_) (fun g2648 h=>?_)
 ·refine seq_np ?_
  refine reg_f ?_
  refine rs 1 [] [] (by kernel_rfl) allP_nil ?_
  refine rf [(4,bS false)] [] 0 (by kernel_rfl) ?_
  refine wk_id ?_
  obtain rfl:=Option.some.inj h
  refine ret_at (bS false) (by kernel_rfl) ?_
  exact ret_e [] [] (by simp only [push_cast,leL_flD,renL_flD,seval]) (by simp only [push_cast,leL_flD,renL_flD,seval]) rfl rfl rfl
 ·refine wk_id ?_
  refine seq_np ?_
  refine seq_np ?_
  refine reg_f ?_
  refine rs 1 [] [] (by kernel_rfl) allP_nil ?_
  refine rf [(0,.sl xa.length (fl xa)),(1,.sl b.length (fl b)),(5,iS 0)] [] 0 (by kernel_rfl) ?_
  refine wk_id ?_
  refine block_np ?_
  refine loop_sx (S:=Int) (fun a=>([(0,.sl xa.length (fl xa)),(1,.sl b.length (fl b)),(5,iS a)],[],0)) h (leSt_m [] [] (by simp only [push_cast,leL_flD,renL_flD,seval]) (by simp only [push_cast,leL_flD,renL_flD,seval]) rfl rfl rfl) ?_
  rintro i7 o2 R2 h hr2 hn2 hx2 ht2
  try dsimp only at h hn2 ⊢
  unfold taskmillref_SameItems_l1 at h
  try dsimp only at h
  refine seq_np ?_
  refine seq_np ?_
  refine reg_f ?_
  refine rs 4 [] [] (by kernel_rfl) allP_nil ?_
  refine rf [(0,.sl xa.length (fl xa)),(1,.sl b.length (fl b)),(5,iS i7),(14,bS (decide (i7 < ((xa.length:Nat):Int))))] [] 0 (by kernel_rfl) ?_
  refine wk_id ?_
  refine cond_sx h (by kernel_rfl) (fun g2647 h=>?_) (fun g2647 h=>?_)
  ·refine wk_id ?_
   refine seq_np ?_
   refine block_np ?_
   refine chk_sx h (fun g2643 h=>?_)
   refine chk_sx h (fun g2645 h=>?_)
   refine seq_np ?_
   refine reg_t ?_
   have k2642:0≤i7∧i7 < ((xa.length:Nat):Int):=by first | simpa only [Bool.and_eq_true,decide_eq_true_eq,bne_iff_ne,ne_eq] using g2643 | (simp at g2643 ⊢; omega)
   have k2644:0≤i7∧i7 < ((b.length:Nat):Int):=by first | simpa only [Bool.and_eq_true,decide_eq_true_eq,bne_iff_ne,ne_eq] using g2645 | (simp at g2645 ⊢; omega)
   refine rs 9 [none,none,some ⟨.iptr (fl xa) ((i7).toNat * 2),[],2,[]⟩,some ⟨.agg (Enc.cells (ix xa i7)),[],3,[]⟩,none,none,some ⟨.iptr (fl b) ((i7).toNat * 2),[],6,[]⟩,some ⟨.agg (Enc.cells (ix b i7)),[],7,[]⟩] _ (by kernel_rfl) (allP_cons (ob_ldw b i7 2 ((i7).toNat * 2) k2644 rfl (by first | rfl | omega) [iS (ix b i7).Key,iS (ix b i7).Value] rfl 7 []) (allP_cons (ob_ix_l b 2 6 i7 k2644) (allP_cons (ob_ldw xa i7 2 ((i7).toNat * 2) k2642 rfl (by first | rfl | omega) [iS (ix xa i7).Key,iS (ix xa i7).Value] rfl 3 []) (allP_cons (ob_ix_l xa 2 2 i7 k2642) allP_nil)))) ?_
   refine rt [(0,.sl xa.length (fl xa)),(1,.sl b.length (fl b)),(5,iS i7),(25,bS (!(((ix xa i7).Key == (ix b i7).Key) && (((ix xa i7).Value == (ix b i7).Value) && true))))] [] 9 follows (by kernel_rfl) ?_
   refine wk_id ?_
   refine cond_sx h (by kernel_rfl) (fun g2646 h=>?_) (fun g2646 h=>?_)
   ·refine seq_np ?_
    refine reg_f ?_
    refine rs 1 [] [] (by kernel_rfl) allP_nil ?_
    refine rf [(4,bS false)] [] 9 (by kernel_rfl) ?_
    refine wk_id ?_
    refine rt_cast ht2 ?_
    obtain ⟨r0,h,e0⟩:=map_sx h
    have e1:=hr2 r0 e0.symm
    subst r0
    obtain rfl:=Option.some.inj h
    refine ret_at (bS false) (by kernel_rfl) ?_
    exact ret_e [] [] (by simp only [push_cast,leL_flD,renL_flD,seval]) (by simp only [push_cast,leL_flD,renL_flD,seval]) rfl rfl rfl
   ·refine wk_id ?_
    refine wk_id ?_
    refine reg_f ?_
    refine rs 3 [] [] (by kernel_rfl) allP_nil ?_
    refine rf [(0,.sl xa.length (fl xa)),(1,.sl b.length (fl b)),(5,iS (IntKind.i64.wrap (i7 + 1)))] [] 9 (by kernel_rfl) ?_
    exact hn2 ((IntKind.i64.wrap (i7 + 1))) _ _ _ (Option.some.inj h).symm (leSt_m [] [] (by simp only [push_cast,leL_flD,renL_flD,seval]) (by simp only [push_cast,leL_flD,renL_flD,seval]) rfl rfl rfl)
  ·change R2 (.exit 0) _ _ _
   refine ex_cast hx2 (id:=0) ?_
   obtain ⟨r0,h,e0⟩:=map_sx h
   have e1:=hr2 r0 e0.symm
   subst r0
   refine wk_id ?_
   refine wk_id ?_
   refine seq_np ?_
   refine reg_f ?_
   refine rs 1 [] [] (by kernel_rfl) allP_nil ?_
   refine rf [(4,bS true)] [] 0 (by kernel_rfl) ?_
   refine wk_id ?_
   obtain rfl:=Option.some.inj h
   refine ret_at (bS true) (by kernel_rfl) ?_
   exact ret_e [] [] (by simp only [push_cast,leL_flD,renL_flD,seval]) (by simp only [push_cast,leL_flD,renL_flD,seval]) rfl rfl rfl

set_option maxRecDepth 100000 in
set_option maxHeartbeats 200000000 in
theorem taskmillref_SameDict_spec (xa:Dict) (b:Dict) (r:Bool) (h:taskmillref_SameDict xa b = some r):SpecW Try.prog 11 [.agg (Enc.cells xa),.agg (Enc.cells b)] [] 0 (fun x h n=>x = bS r∧h = []∧n = 0):=by
 unfold taskmillref_SameDict at h
 refine spec_of (draw_ok _) Try.func11 rfl (by decide) rfl (by kernel_rfl) ?_
 refine seq_np ?_
 refine reg_f ?_
 refine rs 3 [] [] (by kernel_rfl) allP_nil ?_
 refine rf [(2,.ptr 0 0),(3,.ptr 1 0)] [(0,.row 26 (Enc.cells xa)),(1,.row 26 (Enc.cells b))] 2 (by kernel_rfl) ?_
 refine wk_id ?_
 refine seq_np ?_
 refine seq_cut (A:=Bool) (fun a=>([(2,.ptr 0 0),(3,.ptr 1 0),(27,bS a)],[(0,.row 26 (Enc.cells xa)),(1,.row 26 (Enc.cells b))],2)) (fun a=>(taskmillref_SameDict_j2 xa b a) = some r) (fun K2692 hK2692=>?_) ?_
 ·refine reg_f ?_
  refine rs 6 [] [] (by kernel_rfl) allP_nil ?_
  refine run_br h 11 (.inl (by kernel_rfl)) (fun g2693 h=>?_) (fun g2693 h=>?_)
  ·refine rs 16 [] [] (by kernel_rfl) allP_nil ?_
   refine rf [(2,.ptr 0 0),(3,.ptr 1 0),(27,bS true)] [(0,.row 26 (Enc.cells xa)),(1,.row 26 (Enc.cells b))] 2 (by kernel_rfl) ?_
   exact hK2692 (true) _ _ _ h (leSt_m [(0,0),(1,1)] [] (by (try simp only [g2693]) <;> simp only [push_cast,leL_flD,renL_flD,seval]) (by (try simp only [g2693]) <;> simp only [push_cast,leL_flD,renL_flD,seval]) rfl rfl rfl)
  ·refine rs 4 [] [] (by kernel_rfl) allP_nil ?_
   obtain ⟨r2694,hr2694,h⟩:=bind_sx h
   refine run_call 34 [.sl xa.Places.length (fl xa.Places),.sl b.Places.length (fl b.Places)] (some 16) (by kernel_rfl) ?_
   refine call_0 (taskmillref_Ints_spec xa.Places b.Places r2694 hr2694) (by simp only [push_cast,leL_flD,renL_flD,seval]) (by simp only [push_cast,leL_flD,renL_flD,seval]) ?_
   refine back_f ?_
   refine rs 3 [] [] (by kernel_rfl) allP_nil ?_
   refine run_br h 19 (.inl (by kernel_rfl)) (fun g2695 h=>?_) (fun g2695 h=>?_)
   ·refine rn 14 [(2,.ptr 0 0),(3,.ptr 1 0),(19,bS true)] [(0,.row 26 (Enc.cells xa)),(1,.row 26 (Enc.cells b))] 2 (by kernel_rfl) ?_
    refine rs 8 [] [] (by kernel_rfl) allP_nil ?_
    refine rf [(2,.ptr 0 0),(3,.ptr 1 0),(27,bS true)] [(0,.row 26 (Enc.cells xa)),(1,.row 26 (Enc.cells b))] 2 (by kernel_rfl) ?_
    exact hK2692 (true) _ _ _ h (leSt_m [(0,0),(1,1)] [] (by first | ((try simp only [g2693,g2695]) <;> simp only [push_cast,leL_flD,renL_flD,seval]; done) | ((try simp only [g2693]); (try simp only [g2695]); simp only [push_cast,leL_flD,renL_flD,seval]; done) | (exfalso; clear h; simp_all; done)) (by first | ((try simp only [g2693,g2695]) <;> simp only [push_cast,leL_flD,renL_flD,seval]; done) | ((try simp only [g2693]); (try simp only [g2695]); simp only [push_cast,leL_flD,renL_flD,seval]; done) | (exfalso; clear h; simp_all; done)) rfl rfl rfl)
   ·refine rn 14 [(2,.ptr 0 0),(3,.ptr 1 0),(19,bS false)] [(0,.row 26 (Enc.cells xa)),(1,.row 26 (Enc.cells b))] 2 (by kernel_rfl) ?_
    refine rs 8 [] [] (by kernel_rfl) allP_nil ?_
    refine rf [(2,.ptr 0 0),(3,.ptr 1 0),(27,bS (((xa.Buckets.length:Nat):Int) != ((b.Buckets.length:Nat):Int)))] [(0,.row 26 (Enc.cells xa)),(1,.row 26 (Enc.cells b))] 2 (by kernel_rfl) ?_
    exact hK2692 ((((xa.Buckets.length:Nat):Int) != ((b.Buckets.length:Nat):Int))) _ _ _ h (leSt_m [(0,0),(1,1)] [] (by first | ((try simp only [g2693,g2695]) <;> simp only [push_cast,leL_flD,renL_flD,seval]; done) | ((try simp only [g2693]); (try simp only [g2695]); simp only [push_cast,leL_flD,renL_flD,seval]; done) | (exfalso; clear h; simp_all; done)) (by first | ((try simp only [g2693,g2695]) <;> simp only [push_cast,leL_flD,renL_flD,seval]; done) | ((try simp only [g2693]); (try simp only [g2695]); simp only [push_cast,leL_flD,renL_flD,seval]; done) | (exfalso; clear h; simp_all; done)) rfl rfl rfl)
 ·rintro t27q2 h
  try dsimp only at h ⊢
  unfold taskmillref_SameDict_j2 at h
  refine cond_sx h (by kernel_rfl) (fun g2862 h=>?_) (fun g2862 h=>?_)
  ·refine seq_np ?_
   refine reg_f ?_
   refine rs 1 [] [] (by kernel_rfl) allP_nil ?_
   refine rf [(4,bS false)] [(0,.row 26 (Enc.cells xa)),(1,.row 26 (Enc.cells b))] 2 (by kernel_rfl) ?_
   refine wk_id ?_
   obtain rfl:=Option.some.inj h
   refine ret_at (bS false) (by kernel_rfl) ?_
   exact ret_e [] [] (by simp only [push_cast,leL_flD,renL_flD,seval]) (by simp only [push_cast,leL_flD,renL_flD,seval]) rfl rfl rfl
  ·refine wk_id ?_
   refine seq_np ?_
   refine seq_np ?_
   refine reg_f ?_
   refine rs 1 [] [] (by kernel_rfl) allP_nil ?_
   refine rf [(2,.ptr 0 0),(3,.ptr 1 0),(5,iS 0)] [(0,.row 26 (Enc.cells xa)),(1,.row 26 (Enc.cells b))] 2 (by kernel_rfl) ?_
   refine wk_id ?_
   refine block_np ?_
   refine loop_sx (S:=Int) (fun a=>([(2,.ptr 0 0),(3,.ptr 1 0),(5,iS a)],[(0,.row 26 (Enc.cells xa)),(1,.row 26 (Enc.cells b))],2)) h (leSt_m [(0,0),(1,1)] [] (by simp only [push_cast,leL_flD,renL_flD,seval]) (by simp only [push_cast,leL_flD,renL_flD,seval]) rfl rfl rfl) ?_
   rintro i7 o2 R2 h hr2 hn2 hx2 ht2
   try dsimp only at h hn2 ⊢
   unfold taskmillref_SameDict_l1 at h
   try dsimp only at h
   refine seq_np ?_
   refine seq_np ?_
   refine reg_f ?_
   refine rs 5 [] [] (by kernel_rfl) allP_nil ?_
   refine rf [(2,.ptr 0 0),(3,.ptr 1 0),(5,iS i7),(32,bS (decide (i7 < ((xa.Buckets.length:Nat):Int))))] [(0,.row 26 (Enc.cells xa)),(1,.row 26 (Enc.cells b))] 2 (by kernel_rfl) ?_
   refine wk_id ?_
   refine cond_sx h (by kernel_rfl) (fun g2861 h=>?_) (fun g2861 h=>?_)
   ·refine wk_id ?_
    refine seq_np ?_
    refine block_np ?_
    refine chk_sx h (fun g2851 h=>?_)
    refine chk_sx h (fun g2853 h=>?_)
    refine seq_cut (A:=Bool) (fun a=>([(2,.ptr 0 0),(3,.ptr 1 0),(5,iS i7),(63,bS a)],[(0,.row 26 (Enc.cells xa)),(1,.row 26 (Enc.cells b))],2)) (fun a=>(taskmillref_SameDict_j1 xa b i7 a) = some o2) (fun K2849 hK2849=>?_) ?_
    ·refine reg_t ?_
     have k2850:0≤i7∧i7 < ((xa.Buckets.length:Nat):Int):=by first | simpa only [Bool.and_eq_true,decide_eq_true_eq,bne_iff_ne,ne_eq] using g2851 | (simp at g2851 ⊢; omega)
     have k2852:0≤i7∧i7 < ((b.Buckets.length:Nat):Int):=by first | simpa only [Bool.and_eq_true,decide_eq_true_eq,bne_iff_ne,ne_eq] using g2853 | (simp at g2853 ⊢; omega)
     refine rs 14 [none,none,none,some ⟨.iptr (fl xa.Buckets) ((i7).toNat * 2),[],5,[]⟩,none,some ⟨iS (ix xa.Buckets i7).Depth,[],7,[]⟩,none,none,none,some ⟨.iptr (fl b.Buckets) ((i7).toNat * 2),[],11,[]⟩,none,some ⟨iS (ix b.Buckets i7).Depth,[],13,[]⟩] _ (by kernel_rfl) (allP_cons (ob_ld b.Buckets i7 2 0 (((i7).toNat * 2) + 0) k2852 rfl (by decide) (by first | rfl | omega) (dflS Try.prog 3) (iS (ix b.Buckets i7).Depth) rfl 13 []) (allP_cons (ob_ix_l b.Buckets 2 11 i7 k2852) (allP_cons (ob_ld xa.Buckets i7 2 0 (((i7).toNat * 2) + 0) k2850 rfl (by decide) (by first | rfl | omega) (dflS Try.prog 3) (iS (ix xa.Buckets i7).Depth) rfl 7 []) (allP_cons (ob_ix_l xa.Buckets 2 5 i7 k2850) allP_nil)))) ?_
     refine run_br h 48 (.inl (by kernel_rfl)) (fun g2854 h=>?_) (fun g2854 h=>?_)
     ·refine rs 15 [] [] (by kernel_rfl) allP_nil ?_
      refine rt [(2,.ptr 0 0),(3,.ptr 1 0),(5,iS i7),(63,bS true)] [(0,.row 26 (Enc.cells xa)),(1,.row 26 (Enc.cells b))] 31 follows (by kernel_rfl) ?_
      exact hK2849 (true) _ _ _ h (leSt_m [(0,0),(1,1)] [] (by (try simp only [g2854]) <;> simp only [push_cast,leL_flD,renL_flD,seval]) (by (try simp only [g2854]) <;> simp only [push_cast,leL_flD,renL_flD,seval]) rfl rfl rfl)
     ·refine chk_sx h (fun g2856 h=>?_)
      have k2855:0≤i7∧i7 < ((xa.Buckets.length:Nat):Int):=by first | simpa only [Bool.and_eq_true,decide_eq_true_eq,bne_iff_ne,ne_eq] using g2856 | (simp at g2856 ⊢; omega)
      refine chk_sx h (fun g2858 h=>?_)
      have k2857:0≤i7∧i7 < ((b.Buckets.length:Nat):Int):=by first | simpa only [Bool.and_eq_true,decide_eq_true_eq,bne_iff_ne,ne_eq] using g2858 | (simp at g2858 ⊢; omega)
      refine rs 12 [none,none,none,some ⟨.iptr (fl xa.Buckets) ((i7).toNat * 2),[],19,[]⟩,none,some ⟨.sl (ix xa.Buckets i7).Items.length (fl (ix xa.Buckets i7).Items),[],21,[]⟩,none,none,none,some ⟨.iptr (fl b.Buckets) ((i7).toNat * 2),[],25,[]⟩,none,some ⟨.sl (ix b.Buckets i7).Items.length (fl (ix b.Buckets i7).Items),[],27,[]⟩] _ (by kernel_rfl) (allP_cons (ob_ld b.Buckets i7 2 1 (((i7).toNat * 2) + 1) k2857 rfl (by decide) (by first | rfl | omega) (dflS Try.prog 40) (.sl (ix b.Buckets i7).Items.length (fl (ix b.Buckets i7).Items)) rfl 27 []) (allP_cons (ob_ix_l b.Buckets 2 25 i7 k2857) (allP_cons (ob_ld xa.Buckets i7 2 1 (((i7).toNat * 2) + 1) k2855 rfl (by decide) (by first | rfl | omega) (dflS Try.prog 40) (.sl (ix xa.Buckets i7).Items.length (fl (ix xa.Buckets i7).Items)) rfl 21 []) (allP_cons (ob_ix_l xa.Buckets 2 19 i7 k2855) allP_nil)))) ?_
      obtain ⟨r2859,hr2859,h⟩:=bind_sx h
      refine run_call 25 [.sl (ix xa.Buckets i7).Items.length (fl (ix xa.Buckets i7).Items),.sl (ix b.Buckets i7).Items.length (fl (ix b.Buckets i7).Items)] (some 61) (by kernel_rfl) ?_
      refine callE_0 (taskmillref_SameItems_spec (ix xa.Buckets i7).Items (ix b.Buckets i7).Items r2859 hr2859) (by simp only [push_cast,leL_flD,renL_flD,seval]) (by simp only [push_cast,leL_flD,renL_flD,seval]) ?_
      refine back_t ?_
      refine rs 2 [] [] (by kernel_rfl) allP_nil ?_
      refine rt [(2,.ptr 0 0),(3,.ptr 1 0),(5,iS i7),(63,bS (!r2859))] [(0,.row 26 (Enc.cells xa)),(1,.row 26 (Enc.cells b))] 31 follows (by kernel_rfl) ?_
      exact hK2849 ((!r2859)) _ _ _ h (leSt_m [(0,0),(1,1)] [] (by (try simp only [g2854]) <;> simp only [push_cast,leL_flD,renL_flD,seval]) (by (try simp only [g2854]) <;> simp only [push_cast,leL_flD,renL_flD,seval]) rfl rfl rfl)
    ·rintro t63q13 h
     try dsimp only at h ⊢
     unfold taskmillref_SameDict_j1 at h
     refine cond_sx h (by kernel_rfl) (fun g2860 h=>?_) (fun g2860 h=>?_)
     ·refine seq_np ?_
      refine reg_f ?_
      refine rs 1 [] [] (by kernel_rfl) allP_nil ?_
      refine rf [(4,bS false)] [(0,.row 26 (Enc.cells xa)),(1,.row 26 (Enc.cells b))] 2 (by kernel_rfl) ?_
      refine wk_id ?_
      refine rt_cast ht2 ?_
      obtain ⟨r0,h,e0⟩:=map_sx h
      have e1:=hr2 r0 e0.symm
      subst r0
      obtain rfl:=Option.some.inj h
      refine ret_at (bS false) (by kernel_rfl) ?_
      exact ret_e [] [] (by simp only [push_cast,leL_flD,renL_flD,seval]) (by simp only [push_cast,leL_flD,renL_flD,seval]) rfl rfl rfl
     ·refine wk_id ?_
      refine wk_id ?_
      refine reg_f ?_
      refine rs 3 [] [] (by kernel_rfl) allP_nil ?_
      refine rf [(2,.ptr 0 0),(3,.ptr 1 0),(5,iS (IntKind.i64.wrap (i7 + 1)))] [(0,.row 26 (Enc.cells xa)),(1,.row 26 (Enc.cells b))] 2 (by kernel_rfl) ?_
      exact hn2 ((IntKind.i64.wrap (i7 + 1))) _ _ _ (Option.some.inj h).symm (leSt_m [(0,0),(1,1)] [] (by simp only [push_cast,leL_flD,renL_flD,seval]) (by simp only [push_cast,leL_flD,renL_flD,seval]) rfl rfl rfl)
   ·change R2 (.exit 0) _ _ _
    refine ex_cast hx2 (id:=0) ?_
    obtain ⟨r0,h,e0⟩:=map_sx h
    have e1:=hr2 r0 e0.symm
    subst r0
    refine wk_id ?_
    refine wk_id ?_
    refine seq_np ?_
    refine reg_f ?_
    refine rs 1 [] [] (by kernel_rfl) allP_nil ?_
    refine rf [(4,bS true)] [(0,.row 26 (Enc.cells xa)),(1,.row 26 (Enc.cells b))] 2 (by kernel_rfl) ?_
    refine wk_id ?_
    obtain rfl:=Option.some.inj h
    refine ret_at (bS true) (by kernel_rfl) ?_
    exact ret_e [] [] (by simp only [push_cast,leL_flD,renL_flD,seval]) (by simp only [push_cast,leL_flD,renL_flD,seval]) rfl rfl rfl

set_option maxRecDepth 100000 in
set_option maxHeartbeats 200000000 in
theorem taskmilllaw_vastDict_spec (d:Dict) (r:Bool) (h:taskmilllaw_vastDict d = some r):SpecW Try.prog 12 [.agg (Enc.cells d)] [] 0 (fun x h n=>x = bS r∧h = []∧n = 0):=by
 unfold taskmilllaw_vastDict at h
 refine spec_of (draw_ok _) Try.func12 rfl (by decide) rfl (by kernel_rfl) ?_
 refine seq_np ?_
 refine reg_f ?_
 refine rs 2 [] [] (by kernel_rfl) allP_nil ?_
 refine rf [(1,.ptr 0 0)] [(0,.row 26 (Enc.cells d))] 1 (by kernel_rfl) ?_
 refine wk_id ?_
 refine seq_np ?_
 refine reg_f ?_
 refine rs 1 [] [] (by kernel_rfl) allP_nil ?_
 refine rf [(1,.ptr 0 0),(3,iS 0)] [(0,.row 26 (Enc.cells d))] 1 (by kernel_rfl) ?_
 refine wk_id ?_
 refine seq_np ?_
 refine seq_np ?_
 refine reg_f ?_
 refine rs 1 [] [] (by kernel_rfl) allP_nil ?_
 refine rf [(1,.ptr 0 0),(3,iS 0),(4,iS 0)] [(0,.row 26 (Enc.cells d))] 1 (by kernel_rfl) ?_
 refine wk_id ?_
 refine block_np ?_
 refine loop_sx (S:=Int × Int) (fun a=>([(1,.ptr 0 0),(3,iS a.1),(4,iS a.2)],[(0,.row 26 (Enc.cells d))],1)) h (leSt_m [(0,0)] [] (by simp only [push_cast,leL_flD,renL_flD,seval]) (by simp only [push_cast,leL_flD,renL_flD,seval]) rfl rfl rfl) ?_
 rintro ⟨n7,i7⟩ o2 R2 h hr2 hn2 hx2 ht2
 try dsimp only at h hn2 ⊢
 unfold taskmilllaw_vastDict_l1 at h
 try dsimp only at h
 refine seq_np ?_
 refine seq_np ?_
 refine reg_f ?_
 refine rs 5 [] [] (by kernel_rfl) allP_nil ?_
 refine rf [(1,.ptr 0 0),(3,iS n7),(4,iS i7),(9,bS (decide (i7 < ((d.Buckets.length:Nat):Int))))] [(0,.row 26 (Enc.cells d))] 1 (by kernel_rfl) ?_
 refine wk_id ?_
 refine cond_sx h (by kernel_rfl) (fun g3234 h=>?_) (fun g3234 h=>?_)
 ·refine wk_id ?_
  refine seq_np ?_
  refine block_np ?_
  refine chk_sx h (fun g3228 h=>?_)
  refine reg_f ?_
  have k3227:0≤i7∧i7 < ((d.Buckets.length:Nat):Int):=by first | simpa only [Bool.and_eq_true,decide_eq_true_eq,bne_iff_ne,ne_eq] using g3228 | (simp at g3228 ⊢; omega)
  refine rs 10 [none,none,none,none,some ⟨.iptr (fl d.Buckets) ((i7).toNat * 2),[],1,[]⟩,none,some ⟨.sl (ix d.Buckets i7).Items.length (fl (ix d.Buckets i7).Items),[],1,[]⟩] _ (by kernel_rfl) (allP_cons (ob_ld d.Buckets i7 2 1 (((i7).toNat * 2) + 1) k3227 rfl (by decide) (by first | rfl | omega) (dflS Try.prog 40) (.sl (ix d.Buckets i7).Items.length (fl (ix d.Buckets i7).Items)) rfl 1 []) (allP_cons (ob_ix_l d.Buckets 2 1 i7 k3227) allP_nil)) ?_
  refine rf [(1,.ptr 0 0),(3,iS (IntKind.i64.wrap (n7 + (((ix d.Buckets i7).Items.length:Nat):Int)))),(4,iS i7)] [(0,.row 26 (Enc.cells d))] 1 (by kernel_rfl) ?_
  refine wk_id ?_
  refine wk_id ?_
  refine reg_f ?_
  refine rs 3 [] [] (by kernel_rfl) allP_nil ?_
  refine rf [(1,.ptr 0 0),(3,iS (IntKind.i64.wrap (n7 + (((ix d.Buckets i7).Items.length:Nat):Int)))),(4,iS (IntKind.i64.wrap (i7 + 1)))] [(0,.row 26 (Enc.cells d))] 1 (by kernel_rfl) ?_
  exact hn2 ((IntKind.i64.wrap (n7 + (((ix d.Buckets i7).Items.length:Nat):Int))),(IntKind.i64.wrap (i7 + 1))) _ _ _ (Option.some.inj h).symm (leSt_m [(0,0)] [] (by simp only [push_cast,leL_flD,renL_flD,seval]) (by simp only [push_cast,leL_flD,renL_flD,seval]) rfl rfl rfl)
 ·change R2 (.exit 0) _ _ _
  refine ex_cast hx2 (id:=0) ?_
  obtain ⟨r0,h,e0⟩:=map_sx h
  have e1:=hr2 r0 e0.symm
  subst r0
  refine wk_id ?_
  refine wk_id ?_
  refine seq_cut (A:=Unit) (fun _=>([(2,bS ((decide ((6000:Int) < n7)) || ((decide ((300:Int) < ((d.Buckets.length:Nat):Int))) || (decide ((5000:Int) < ((d.Places.length:Nat):Int))))))],[(0,.row 26 (Enc.cells d))],1)) (fun _=>True) (fun K3231 hK3231=>?_) (fun _ _=>?_)
  ·refine reg_f ?_
   refine rs 3 [] [] (by kernel_rfl) allP_nil ?_
   refine run_split 23 (decide ((6000:Int) < n7)) (.inl (by kernel_rfl)) (fun g3232=>?_) (fun g3232=>?_)
   ·refine rs 12 [] [] (by kernel_rfl) allP_nil ?_
    refine rf [(2,bS true)] [(0,.row 26 (Enc.cells d))] 1 (by kernel_rfl) ?_
    exact hK3231 () _ _ _ trivial (leSt_m [(0,0)] [] (by (try simp only [g3232]) <;> simp only [push_cast,leL_flD,renL_flD,seval]) (by (try simp only [g3232]) <;> simp only [push_cast,leL_flD,renL_flD,seval]) rfl rfl rfl)
   ·refine rs 6 [] [] (by kernel_rfl) allP_nil ?_
    refine run_split 29 (decide ((300:Int) < ((d.Buckets.length:Nat):Int))) (.inl (by kernel_rfl)) (fun g3233=>?_) (fun g3233=>?_)
    ·refine rs 6 [] [] (by kernel_rfl) allP_nil ?_
     refine rf [(2,bS true)] [(0,.row 26 (Enc.cells d))] 1 (by kernel_rfl) ?_
     exact hK3231 () _ _ _ trivial (leSt_m [(0,0)] [] (by first | ((try simp only [g3232,g3233]) <;> simp only [push_cast,leL_flD,renL_flD,seval]; done) | ((try simp only [g3232]); (try simp only [g3233]); simp only [push_cast,leL_flD,renL_flD,seval]; done) | (exfalso; clear h; simp_all; done)) (by first | ((try simp only [g3232,g3233]) <;> simp only [push_cast,leL_flD,renL_flD,seval]; done) | ((try simp only [g3232]); (try simp only [g3233]); simp only [push_cast,leL_flD,renL_flD,seval]; done) | (exfalso; clear h; simp_all; done)) rfl rfl rfl)
    ·refine rs 6 [] [] (by kernel_rfl) allP_nil ?_
     refine rf [(2,bS (decide ((5000:Int) < ((d.Places.length:Nat):Int))))] [(0,.row 26 (Enc.cells d))] 1 (by kernel_rfl) ?_
     exact hK3231 () _ _ _ trivial (leSt_m [(0,0)] [] (by first | ((try simp only [g3232,g3233]) <;> simp only [push_cast,leL_flD,renL_flD,seval]; done) | ((try simp only [g3232]); (try simp only [g3233]); simp only [push_cast,leL_flD,renL_flD,seval]; done) | (exfalso; clear h; simp_all; done)) (by first | ((try simp only [g3232,g3233]) <;> simp only [push_cast,leL_flD,renL_flD,seval]; done) | ((try simp only [g3232]); (try simp only [g3233]); simp only [push_cast,leL_flD,renL_flD,seval]; done) | (exfalso; clear h; simp_all; done)) rfl rfl rfl)
  ·dsimp only
   obtain rfl:=Option.some.inj h
   refine ret_at (bS ((decide ((6000:Int) < n7)) || ((decide ((300:Int) < ((d.Buckets.length:Nat):Int))) || (decide ((5000:Int) < ((d.Places.length:Nat):Int)))))) (by kernel_rfl) ?_
   exact ret_e [] [] (by simp only [push_cast,leL_flD,renL_flD,seval]) (by simp only [push_cast,leL_flD,renL_flD,seval]) rfl rfl rfl

set_option maxRecDepth 100000 in
set_option maxHeartbeats 200000000 in
theorem taskmilllaw_own_spec (l:(List Int)) (r:(List Int)) (h:taskmilllaw_own l = some r):SpecW Try.prog 35 [.sl l.length (fl l)] [] 0 (fun x h n=>x = .own 0 0 r.length∧h = [(0,.row 3 (fl r))]∧n = 1):=by
 unfold taskmilllaw_own at h
 refine spec_of (draw_ok _) Try.func35 rfl (by decide) rfl (by kernel_rfl) ?_
 refine seq_np ?_
 refine reg_f ?_
 refine rs 1 [] [] (by kernel_rfl) allP_nil ?_
 refine rf [(0,.sl l.length (fl l))] [] 0 (by kernel_rfl) ?_
 refine wk_id ?_
 refine chk_sx h (fun g3242 h=>?_)
 refine seq_np ?_
 refine reg_f ?_
 have k3241:l.length * 8≤140737488355328:=by first | simpa only [Bool.and_eq_true,decide_eq_true_eq,bne_iff_ne,ne_eq] using g3242 | (simp at g3242 ⊢; omega)
 refine rs 3 [none,some ⟨.own 0 0 l.length,[(0,.row 3 (fl l))],1,[]⟩] _ (by kernel_rfl) (allP_cons (ob_app0 (P:=Try.prog) l 1 8 rfl (fl l) l.length rfl rfl ((fl l).length = l.length * 1) (app_sl l 1 rfl) 3 (by kernel_rfl) (by decide) k3241 0 []) allP_nil) ?_
 refine rf [(2,.own 0 0 l.length)] [(0,.row 3 (fl l))] 1 (by kernel_rfl) ?_
 refine wk_id ?_
 obtain rfl:=Option.some.inj h
 refine ret_at (.own 0 0 l.length) (by kernel_rfl) ?_
 exact ret_e [(0,0)] [] (by simp only [push_cast,leL_flD,renL_flD,seval]) (by simp only [push_cast,leL_flD,renL_flD,seval]) rfl rfl rfl

end Go.Proofs.Yticigkhhhmiglaa
