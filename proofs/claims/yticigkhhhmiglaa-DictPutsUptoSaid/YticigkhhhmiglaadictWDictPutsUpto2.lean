/-
 What laws of the chapter dict compute, and lemmas on it.
 No conditions.
-/
import Derived.Test.YticigkhhhmiglaadictWDictPutsUpto1
set_option linter.unusedSimpArgs false
set_option linter.unusedVariables false
namespace Go.Proofs.Yticigkhhhmiglaa
open Go Go.Sx
attribute [local irreducible] Wk RunAt
set_option maxRecDepth 100000 in
set_option maxHeartbeats 200000000 in
theorem taskmilllaw_ownDict_spec (d:Dict) (r:Int × (List Int) × (List Bucket)) (h:taskmilllaw_ownDict d = some r):SpecW Try.prog 13 [.agg (Enc.cells d)] [] 0 (fun x h n=>x = .agg [iS r.1,.own 0 0 r.2.1.length,.own 1 0 r.2.2.length]∧h = [(0,.row 3 (fl r.2.1)),(1,.row 43 (flD dBucket [2] r.2.2)),((.s 2 0),.fam (famD dBucket 0 r.2.2))]∧n = 3):=by
 unfold taskmilllaw_ownDict at h
 refine spec_of (draw_ok _) Try.func13 rfl (by decide) rfl (by kernel_rfl) ?_
 refine seq_np ?_
 refine reg_f ?_
 refine rs 2 [] [] (by kernel_rfl) allP_nil ?_
 refine rf [(1,.ptr 0 0),(2,.ptr 1 0)] [(0,.row 26 (Enc.cells d)),(1,.row 26 [iS 0,.v (.slice none 0 0),.v (.slice none 0 0)])] 2 (by kernel_rfl) ?_
 refine wk_id ?_
 refine seq_np ?_
 refine reg_t ?_
 refine rs 4 [] [] (by kernel_rfl) allP_nil ?_
 obtain ⟨r3273,hr3273,h⟩:=bind_sx h
 refine call_x (taskmilllaw_own_spec d.Places r3273 hr3273) (args:=[.sl d.Places.length (fl d.Places)]) (dst:=(some 9)) (by kernel_rfl) [(0,.row 26 (Enc.cells d)),(1,.row 26 [iS 0,.v (.slice none 0 0),.v (.slice none 0 0)])] 6 (by kernel_rfl) [] [] (.own 6 0 r3273.length) [(6,.row 3 (fl r3273))] (by simp only [push_cast,leL_flD,renL_flD,seval]) (by simp only [push_cast,leL_flD,renL_flD,seval]) (by kernel_rfl) (.inl rfl) (by simp only [push_cast,leL_flD,renL_flD,seval]) (by simp only [push_cast,leL_flD,renL_flD,seval]) ?_
 refine rs 3 [] [] (by kernel_rfl) allP_nil ?_
 refine rt [(1,.ptr 0 0),(2,.ptr 1 0),(3,.ptr 9 0)] [(0,.row 26 (Enc.cells d)),(1,.row 26 [iS 0,.v (.slice none 0 0),.v (.slice none 0 0)]),(6,.row 3 (fl r3273)),(9,.row 26 [iS d.Depth,.own 6 0 r3273.length,.v (.slice none 0 0)])] 12 follows (by kernel_rfl) ?_
 refine wk_id ?_
 refine seq_np ?_
 refine seq_np ?_
 refine reg_f ?_
 refine rs 1 [] [] (by kernel_rfl) allP_nil ?_
 refine rf [(1,.ptr 0 0),(2,.ptr 1 0),(3,.ptr 9 0),(4,iS 0)] [(0,.row 26 (Enc.cells d)),(1,.row 26 [iS 0,.v (.slice none 0 0),.v (.slice none 0 0)]),(6,.row 3 (fl r3273)),(9,.row 26 [iS d.Depth,.own 6 0 r3273.length,.v (.slice none 0 0)])] 12 (by kernel_rfl) ?_
 refine wk_id ?_
 refine block_np ?_
 refine loop_sx (S:=Int × (List Int) × (List Bucket)) (fun a=>([(1,.ptr 0 0),(2,.ptr 1 0),(3,.ptr 2 0),(4,iS a.1)],[(0,.row 26 (Enc.cells d)),(1,.row 26 [iS 0,.v (.slice none 0 0),.v (.slice none 0 0)]),(2,.row 26 [iS d.Depth,.own 3 0 a.2.1.length,.own 4 0 a.2.2.length]),(3,.row 3 (fl a.2.1)),(4,.row 43 (flD dBucket [5] a.2.2)),((.s 5 0),.fam (famD dBucket 0 a.2.2))],6)) h (leSt_m [(0,0),(1,1),(2,9),(3,6)] [] (by simp only [push_cast,leL_flD,renL_flD,seval]) (by simp only [push_cast,leL_flD,renL_flD,seval]) rfl rfl rfl) ?_
 rintro ⟨i7,c3q11,c4q7⟩ o2 R2 h hr2 hn2 hx2 ht2
 try dsimp only at h hn2 ⊢
 unfold taskmilllaw_ownDict_l1 at h
 try dsimp only at h
 refine seq_np ?_
 refine seq_np ?_
 refine reg_f ?_
 refine rs 5 [] [] (by kernel_rfl) allP_nil ?_
 refine rf [(1,.ptr 0 0),(2,.ptr 1 0),(3,.ptr 2 0),(4,iS i7),(15,bS (decide (i7 < ((d.Buckets.length:Nat):Int))))] [(0,.row 26 (Enc.cells d)),(1,.row 26 [iS 0,.v (.slice none 0 0),.v (.slice none 0 0)]),(2,.row 26 [iS d.Depth,.own 3 0 c3q11.length,.own 4 0 c4q7.length]),(3,.row 3 (fl c3q11)),(4,.row 43 (flD dBucket [5] c4q7)),((.s 5 0),.fam (famD dBucket 0 c4q7))] 6 (by kernel_rfl) ?_
 refine wk_id ?_
 refine cond_sx h (by kernel_rfl) (fun g3382 h=>?_) (fun g3382 h=>?_)
 ·refine wk_id ?_
  refine seq_np ?_
  refine block_np ?_
  refine chk_sx h (fun g3375 h=>?_)
  refine chk_sx h (fun g3377 h=>?_)
  refine chk_sx h (fun g3379 h=>?_)
  refine chk_sx h (fun g3381 h=>?_)
  refine reg_t ?_
  have k3374:0≤i7∧i7 < ((d.Buckets.length:Nat):Int):=by first | simpa only [Bool.and_eq_true,decide_eq_true_eq,bne_iff_ne,ne_eq] using g3375 | (simp at g3375 ⊢; omega)
  have k3376:0≤i7∧i7 < ((d.Buckets.length:Nat):Int):=by first | simpa only [Bool.and_eq_true,decide_eq_true_eq,bne_iff_ne,ne_eq] using g3377 | (simp at g3377 ⊢; omega)
  have k3378:(ix d.Buckets i7).Items.length * 16≤140737488355328:=by first | simpa only [Bool.and_eq_true,decide_eq_true_eq,bne_iff_ne,ne_eq] using g3379 | (simp at g3379 ⊢; omega)
  have k3380:(c4q7 ++ [(Bucket.mk (ix d.Buckets i7).Depth (ix d.Buckets i7).Items)]).length * 32≤140737488355328:=by first | simpa only [Bool.and_eq_true,decide_eq_true_eq,bne_iff_ne,ne_eq] using g3381 | (simp at g3381 ⊢; omega)
  refine rs 17 [none,none,none,none,none,some ⟨.iptr (fl d.Buckets) ((i7).toNat * 2),[],11,[]⟩,none,some ⟨iS (ix d.Buckets i7).Depth,[],13,[]⟩,none,none,none,some ⟨.iptr (fl d.Buckets) ((i7).toNat * 2),[],17,[]⟩,none,some ⟨.sl (ix d.Buckets i7).Items.length (fl (ix d.Buckets i7).Items),[],19,[]⟩,some ⟨.own 20 0 (ix d.Buckets i7).Items.length,[(20,.row 45 (fl (ix d.Buckets i7).Items))],21,[]⟩] _ (by kernel_rfl) (allP_cons (ob_app0 (P:=Try.prog) (ix d.Buckets i7).Items 2 16 rfl (fl (ix d.Buckets i7).Items) (ix d.Buckets i7).Items.length rfl rfl ((fl (ix d.Buckets i7).Items).length = (ix d.Buckets i7).Items.length * 2) (app_sl (ix d.Buckets i7).Items 2 rfl) 45 (by kernel_rfl) (by decide) k3378 20 []) (allP_cons (ob_ld d.Buckets i7 2 1 (((i7).toNat * 2) + 1) k3376 rfl (by decide) (by first | rfl | omega) (dflS Try.prog 40) (.sl (ix d.Buckets i7).Items.length (fl (ix d.Buckets i7).Items)) rfl 19 []) (allP_cons (ob_ix_l d.Buckets 2 17 i7 k3376) (allP_cons (ob_ld d.Buckets i7 2 0 (((i7).toNat * 2) + 0) k3374 rfl (by decide) (by first | rfl | omega) (dflS Try.prog 3) (iS (ix d.Buckets i7).Depth) rfl 13 []) (allP_cons (ob_ix_l d.Buckets 2 11 i7 k3374) allP_nil))))) ?_
  refine run_opG (some 35) _ ⟨.own 25 0 (c4q7 ++ [(Bucket.mk (ix d.Buckets i7).Depth (ix d.Buckets i7).Items)]).length,[(25,.row 43 (flN dBucket (nA [(some 5)] [(some (Nm.t 20))] ((c4q7.length:Nat):Int)) 0 (c4q7 ++ [(Bucket.mk (ix d.Buckets i7).Depth (ix d.Buckets i7).Items)]))),(4,.dead)],26,[4,23]⟩ [((.s 26 0),.fam (famD dBucket 0 (c4q7 ++ [(Bucket.mk (ix d.Buckets i7).Depth (ix d.Buckets i7).Items)]))),(25,.row 43 (flD dBucket [26] (c4q7 ++ [(Bucket.mk (ix d.Buckets i7).Depth (ix d.Buckets i7).Items)]))),((.s 5 0),.dead),(20,.dead)] 1 [25,(.s 5 0),20] [(.s 5 0),20] (by kernel_rfl) (ob_appN (P:=Try.prog) dBucket [5] [(some (Nm.t 20))] c4q7 (Bucket.mk (ix d.Buckets i7).Depth (ix d.Buckets i7).Items) 2 32 rfl (appCells ([iS (ix d.Buckets i7).Depth,.own 20 0 (ix d.Buckets i7).Items.length]:List SV) 0 (1 * 2)) rfl rfl rfl (0 + 1 * 2≤([iS (ix d.Buckets i7).Depth,.own 20 0 (ix d.Buckets i7).Items.length]:List SV).length) (by first | exact (Nat.le_of_ble_eq_true rfl:0 + 1 * 2≤([iS (ix d.Buckets i7).Depth,.own 20 0 (ix d.Buckets i7).Items.length]:List SV).length) | decide) 43 (by kernel_rfl) (by decide) k3380 4 25 [23]) (ghost_A 26 dBucket (c4q7 ++ [(Bucket.mk (ix d.Buckets i7).Depth (ix d.Buckets i7).Items)]) 25 43 [(some 5)] [(some (Nm.t 20))] ((c4q7.length:Nat):Int) (flD dBucket [26] (c4q7 ++ [(Bucket.mk (ix d.Buckets i7).Depth (ix d.Buckets i7).Items)])) 0 (some 5) (some 20) (by kernel_rfl) (flN_done dBucket [26] ((c4q7.length:Nat):Int) (c4q7 ++ [(Bucket.mk (ix d.Buckets i7).Depth (ix d.Buckets i7).Items)]) rfl) (by kernel_rfl) ⟨_,(by kernel_rfl),off_app _ _⟩ (S_app (fun a=>getH _ (.t 20) = chD dBucket 0 a) rfl)) (by kernel_rfl) ?_
  refine rs 2 [] [] (by kernel_rfl) allP_nil ?_
  refine rt [(1,.ptr 0 0),(2,.ptr 1 0),(3,.ptr 2 0),(4,iS i7)] [(0,.row 26 (Enc.cells d)),(1,.row 26 [iS 0,.v (.slice none 0 0),.v (.slice none 0 0)]),(2,.row 26 [iS d.Depth,.own 3 0 c3q11.length,.own 25 0 (c4q7 ++ [(Bucket.mk (ix d.Buckets i7).Depth (ix d.Buckets i7).Items)]).length]),(3,.row 3 (fl c3q11)),(4,.dead),((.s 5 0),.dead),(20,.dead),(23,.row 43 [iS (ix d.Buckets i7).Depth,.own 20 0 (ix d.Buckets i7).Items.length]),(25,.row 43 (flD dBucket [26] (c4q7 ++ [(Bucket.mk (ix d.Buckets i7).Depth (ix d.Buckets i7).Items)]))),((.s 26 0),.fam (famD dBucket 0 (c4q7 ++ [(Bucket.mk (ix d.Buckets i7).Depth (ix d.Buckets i7).Items)])))] 30 follows (by kernel_rfl) ?_
  refine wk_id ?_
  refine wk_id ?_
  refine reg_f ?_
  refine rs 3 [] [] (by kernel_rfl) allP_nil ?_
  refine rf [(1,.ptr 0 0),(2,.ptr 1 0),(3,.ptr 2 0),(4,iS (IntKind.i64.wrap (i7 + 1)))] [(0,.row 26 (Enc.cells d)),(1,.row 26 [iS 0,.v (.slice none 0 0),.v (.slice none 0 0)]),(2,.row 26 [iS d.Depth,.own 3 0 c3q11.length,.own 25 0 (c4q7 ++ [(Bucket.mk (ix d.Buckets i7).Depth (ix d.Buckets i7).Items)]).length]),(3,.row 3 (fl c3q11)),(4,.dead),((.s 5 0),.dead),(20,.dead),(23,.row 43 [iS (ix d.Buckets i7).Depth,.own 20 0 (ix d.Buckets i7).Items.length]),(25,.row 43 (flD dBucket [26] (c4q7 ++ [(Bucket.mk (ix d.Buckets i7).Depth (ix d.Buckets i7).Items)]))),((.s 26 0),.fam (famD dBucket 0 (c4q7 ++ [(Bucket.mk (ix d.Buckets i7).Depth (ix d.Buckets i7).Items)])))] 30 (by kernel_rfl) ?_
  exact hn2 ((IntKind.i64.wrap (i7 + 1)),c3q11,(c4q7 ++ [(Bucket.mk (ix d.Buckets i7).Depth (ix d.Buckets i7).Items)])) _ _ _ (Option.some.inj h).symm (leSt_m [(0,0),(1,1),(2,2),(3,3),(4,25),((.s 5 0),(.s 26 0))] [] (by simp only [push_cast,leL_flD,renL_flD,seval]) (by simp only [push_cast,leL_flD,renL_flD,seval]) rfl rfl rfl)
 ·change R2 (.exit 0) _ _ _
  refine ex_cast hx2 (id:=0) ?_
  obtain ⟨r0,h,e0⟩:=map_sx h
  have e1:=hr2 r0 e0.symm
  subst r0
  refine wk_id ?_
  refine wk_id ?_
  refine seq_np ?_
  refine reg_f ?_
  refine rs 2 [] [] (by kernel_rfl) allP_nil ?_
  refine rf [(2,.ptr 1 0)] [(0,.row 26 (Enc.cells d)),(1,.row 26 [iS d.Depth,.own 3 0 c3q11.length,.own 4 0 c4q7.length]),(2,.row 26 [iS d.Depth,.own 3 0 c3q11.length,.own 4 0 c4q7.length]),(3,.row 3 (fl c3q11)),(4,.row 43 (flD dBucket [5] c4q7)),((.s 5 0),.fam (famD dBucket 0 c4q7))] 6 (by kernel_rfl) ?_
  refine wk_id ?_
  obtain rfl:=Option.some.inj h
  refine ret_at (.agg [iS d.Depth,.own 3 0 c3q11.length,.own 4 0 c4q7.length]) (by kernel_rfl) ?_
  exact ret_e [(0,3),(1,4),((.s 2 0),(.s 5 0))] [] (by simp only [push_cast,leL_flD,renL_flD,seval]) (by simp only [push_cast,leL_flD,renL_flD,seval]) rfl rfl rfl

set_option maxRecDepth 100000 in
set_option maxHeartbeats 200000000 in
theorem slices_Delete_Item_1_spec (i:Int) (j:Int) (c0:(List GItem)) (r:(List GItem)) (h:slices_Delete_Item_1 i j c0 = some r):SpecW Try.prog 36 [.own 0 0 c0.length,iS i,iS j] [(0,.row 45 (fl c0))] 1 (fun x h n=>x = .own 0 0 r.length∧h = [(0,.row 45 (fl r))]∧n = 1):=by
 unfold slices_Delete_Item_1 at h
 refine spec_of (draw_ok _) Try.func36 rfl (by decide) rfl (by kernel_rfl) ?_
 refine seq_np ?_
 refine reg_f ?_
 refine rs 1 [] [] (by kernel_rfl) allP_nil ?_
 refine rf [(0,.own 0 0 c0.length),(1,iS i),(2,iS j)] [(0,.row 45 (fl c0))] 1 (by kernel_rfl) ?_
 refine wk_id ?_
 refine chk_sx h (fun g3425 h=>?_)
 refine seq_np ?_
 refine reg_f ?_
 have k3424:0≤i∧i≤j∧j≤((c0.length:Nat):Int):=by first | simpa only [Bool.and_eq_true,decide_eq_true_eq,bne_iff_ne,ne_eq] using g3425 | (simp at g3425 ⊢; omega)
 refine rs 5 [] [] (by kernel_rfl) allP_nil ?_
 refine run_bchk (some 13) [0] c0.length i j ((c0.length:Nat):Int) (by kernel_rfl) ⟨k3424.1,k3424.2.1,by omega,by omega⟩ ?_
 refine rf [(0,.own 0 0 c0.length),(1,iS i),(2,iS j)] [(0,.row 45 (fl c0))] 1 (by kernel_rfl) ?_
 refine wk_id ?_
 refine seq_np ?_
 refine seq_np ?_
 refine reg_f ?_
 refine rs 3 [] [] (by kernel_rfl) allP_nil ?_
 refine rf [(0,.own 0 0 c0.length),(1,iS i),(2,iS j),(16,bS (i == j))] [(0,.row 45 (fl c0))] 1 (by kernel_rfl) ?_
 refine wk_id ?_
 refine cond_sx h (by kernel_rfl) (fun g3467 h=>?_) (fun g3467 h=>?_)
 ·refine seq_np ?_
  refine reg_f ?_
  refine rs 2 [] [] (by kernel_rfl) allP_nil ?_
  refine rf [(6,.own 0 0 c0.length)] [(0,.row 45 (fl c0))] 1 (by kernel_rfl) ?_
  refine wk_id ?_
  obtain rfl:=Option.some.inj h
  refine ret_at (.own 0 0 c0.length) (by kernel_rfl) ?_
  exact ret_e [(0,0)] [] (by simp only [push_cast,leL_flD,renL_flD,seval]) (by simp only [push_cast,leL_flD,renL_flD,seval]) rfl rfl rfl
 ·refine wk_id ?_
  refine seq_np ?_
  refine reg_f ?_
  refine rs 3 [] [] (by kernel_rfl) allP_nil ?_
  refine rf [(0,.own 0 0 c0.length),(1,iS i),(2,iS j),(7,iS ((c0.length:Nat):Int))] [(0,.row 45 (fl c0))] 1 (by kernel_rfl) ?_
  refine wk_id ?_
  refine chk_sx h (fun g3440 h=>?_)
  refine chk_sx h (fun g3443 h=>?_)
  refine seq_np ?_
  refine reg_t ?_
  have k3439:0≤(0:Int)∧(0:Int)≤i∧i≤((c0.length:Nat):Int):=by first | simpa only [Bool.and_eq_true,decide_eq_true_eq,bne_iff_ne,ne_eq] using g3440 | (simp at g3440 ⊢; omega)
  have f3441:(cut c0 (0:Int) i).length = (i).toNat - ((0:Int)).toNat∧0≤(0:Int)∧(0:Int)≤i∧i≤((c0.length:Nat):Int):=⟨cut_len _ _ _ k3439,k3439⟩
  have k3442:0≤j∧j≤((c0.length:Nat):Int)∧((c0.length:Nat):Int)≤((c0.length:Nat):Int):=by first | simpa only [Bool.and_eq_true,decide_eq_true_eq,bne_iff_ne,ne_eq] using g3443 | (simp at g3443 ⊢; omega)
  have f3444:(cut c0 j ((c0.length:Nat):Int)).length = (((c0.length:Nat):Int)).toNat - (j).toNat∧0≤j∧j≤((c0.length:Nat):Int)∧((c0.length:Nat):Int)≤((c0.length:Nat):Int):=⟨cut_len _ _ _ k3442,k3442⟩
  refine rs 6 [none,none,some ⟨.own 0 (((0:Int)).toNat * 2) (cut c0 (0:Int) i).length,[],3,[0]⟩,none,none,some ⟨.own 0 ((j).toNat * 2) (cut c0 j ((c0.length:Nat):Int)).length,[],6,[0]⟩] _ (by kernel_rfl) (allP_cons (ob_cutP (P:=Try.prog) c0 j ((c0.length:Nat):Int) 2 6 0 45 (by kernel_rfl) k3442) (allP_cons (ob_cutP (P:=Try.prog) c0 (0:Int) i 2 3 0 45 (by kernel_rfl) k3439) allP_nil)) ?_
  have k3447:i + ((((cut c0 j ((c0.length:Nat):Int))).length:Nat):Int)≤((c0.length:Nat):Int):=by omega
  have k3446:(putL c0 (cut c0 j ((c0.length:Nat):Int)) (i).toNat).length = c0.length:=putL_len (by omega)
  refine run_appIn c0 (cut c0 j ((c0.length:Nat):Int)) (some 26) 0 (((0:Int)).toNat * 2) (cut c0 (0:Int) i).length 2 (cut c0 j ((c0.length:Nat):Int)).length 45 40 (.own 0 ((j).toNat * 2) (cut c0 j ((c0.length:Nat):Int)).length) (appCells (fl c0) ((j).toNat * 2) ((cut c0 j ((c0.length:Nat):Int)).length * 2)) [0] (((j).toNat * 2) + (cut c0 j ((c0.length:Nat):Int)).length * 2≤(fl c0).length) (0:Int) i (by kernel_rfl) (by kernel_rfl) (app_cut_le c0 j ((c0.length:Nat):Int) 2 rfl k3442) (app_cut c0 j ((c0.length:Nat):Int) 2 rfl) rfl rfl (by decide) (by first | rfl | simp) f3441 k3447 ?_
  have f3445:((cut c0 (0:Int) i).length + (cut c0 j ((c0.length:Nat):Int)).length) = ((i + (((cut c0 j ((c0.length:Nat):Int)).length:Nat):Int))).toNat - ((0:Int)).toNat∧0≤(0:Int)∧(0:Int)≤(i + (((cut c0 j ((c0.length:Nat):Int)).length:Nat):Int))∧(i + (((cut c0 j ((c0.length:Nat):Int)).length:Nat):Int))≤(((putL c0 (cut c0 j ((c0.length:Nat):Int)) (i).toNat).length:Nat):Int):=by omega
  have f3448:(cut c0 (0:Int) i).length = (i).toNat - ((0:Int)).toNat∧0≤(0:Int)∧(0:Int)≤i∧i≤(((putL c0 (cut c0 j ((c0.length:Nat):Int)) (i).toNat).length:Nat):Int):=⟨f3441.1,f3441.2.1,f3441.2.2.1,by rw [k3446]; exact f3441.2.2.2⟩
  have f3449:(cut c0 j ((c0.length:Nat):Int)).length = (((c0.length:Nat):Int)).toNat - (j).toNat∧0≤j∧j≤((c0.length:Nat):Int)∧((c0.length:Nat):Int)≤(((putL c0 (cut c0 j ((c0.length:Nat):Int)) (i).toNat).length:Nat):Int):=⟨f3444.1,f3444.2.1,f3444.2.2.1,by rw [k3446]; exact f3444.2.2.2⟩
  refine run_eqF 0 (.own 0 0 c0.length) (.own 0 0 (putL c0 (cut c0 j ((c0.length:Nat):Int)) (i).toNat).length) (congrArg (fun nq=>(.own 0 0 nq:SV)) (show c0.length = (putL c0 (cut c0 j ((c0.length:Nat):Int)) (i).toNat).length from k3446.symm)) (by kernel_rfl) ?_
  have t3450:(cut (putL c0 (cut c0 j ((c0.length:Nat):Int)) (i).toNat) 0 (i + (((cut c0 j ((c0.length:Nat):Int)).length:Nat):Int))).length = ((cut c0 (0:Int) i).length + (cut c0 j ((c0.length:Nat):Int)).length):=by rw [cut_len _ _ _ f3445.2]; exact f3445.1.symm
  refine rs 1 [] [] (by kernel_rfl) allP_nil ?_
  refine rt [(0,.own 0 (((0:Int)).toNat * 2) ((cut c0 (0:Int) i).length + (cut c0 j ((c0.length:Nat):Int)).length)),(7,iS ((c0.length:Nat):Int))] [(0,.row 45 (fl (putL c0 (cut c0 j ((c0.length:Nat):Int)) (i).toNat)))] 9 follows (by kernel_rfl) ?_
  refine wk_id ?_
  refine seq_np ?_
  refine reg_f ?_
  refine rs 4 [] [] (by kernel_rfl) allP_nil ?_
  have k3460:0≤((((cut c0 (0:Int) i).length + (cut c0 j ((c0.length:Nat):Int)).length):Nat):Int)∧((((cut c0 (0:Int) i).length + (cut c0 j ((c0.length:Nat):Int)).length):Nat):Int)≤((c0.length:Nat):Int)∧(0:Int) + ((c0.length:Nat):Int)≤(((putL c0 (cut c0 j ((c0.length:Nat):Int)) (i).toNat).length:Nat):Int):=by omega
  have f3459:((((c0.length:Nat):Int)).toNat - (((((cut c0 (0:Int) i).length + (cut c0 j ((c0.length:Nat):Int)).length):Nat):Int)).toNat) = (((c0.length:Nat):Int)).toNat - (((((cut c0 (0:Int) i).length + (cut c0 j ((c0.length:Nat):Int)).length):Nat):Int)).toNat∧0≤((((cut c0 (0:Int) i).length + (cut c0 j ((c0.length:Nat):Int)).length):Nat):Int)∧((((cut c0 (0:Int) i).length + (cut c0 j ((c0.length:Nat):Int)).length):Nat):Int)≤((c0.length:Nat):Int)∧((c0.length:Nat):Int)≤(((putL c0 (cut c0 j ((c0.length:Nat):Int)) (i).toNat).length:Nat):Int):=by omega
  refine run_sub (putL c0 (cut c0 j ((c0.length:Nat):Int)) (i).toNat) (some 31) 0 (((0:Int)).toNat * 2) ((cut c0 (0:Int) i).length + (cut c0 j ((c0.length:Nat):Int)).length) 2 45 ((((cut c0 (0:Int) i).length + (cut c0 j ((c0.length:Nat):Int)).length):Nat):Int) ((c0.length:Nat):Int) (0:Int) (by kernel_rfl) rfl (by decide) (by first | rfl | simp) f3445.2.1 k3460 ((((((cut c0 (0:Int) i).length + (cut c0 j ((c0.length:Nat):Int)).length):Nat):Int)).toNat * 2) ((((c0.length:Nat):Int)).toNat - (((((cut c0 (0:Int) i).length + (cut c0 j ((c0.length:Nat):Int)).length):Nat):Int)).toNat) (by first | rfl | rw [Int.zero_add]) rfl ?_
  have k3461:(wipe (putL c0 (cut c0 j ((c0.length:Nat):Int)) (i).toNat) ((((cut c0 (0:Int) i).length + (cut c0 j ((c0.length:Nat):Int)).length):Nat):Int) ((c0.length:Nat):Int)).length = (putL c0 (cut c0 j ((c0.length:Nat):Int)) (i).toNat).length:=wipe_len (by omega)
  refine run_clr (putL c0 (cut c0 j ((c0.length:Nat):Int)) (i).toNat) none 0 ((((((cut c0 (0:Int) i).length + (cut c0 j ((c0.length:Nat):Int)).length):Nat):Int)).toNat * 2) ((((c0.length:Nat):Int)).toNat - (((((cut c0 (0:Int) i).length + (cut c0 j ((c0.length:Nat):Int)).length):Nat):Int)).toNat) 2 45 [.v (.int .i64 0),.v (.int .i64 0)] ((((cut c0 (0:Int) i).length + (cut c0 j ((c0.length:Nat):Int)).length):Nat):Int) ((c0.length:Nat):Int) (by kernel_rfl) rfl rfl (by decide) (by first | rfl | simp) f3459 ?_
  have f3462:(cut c0 (0:Int) i).length = (i).toNat - ((0:Int)).toNat∧0≤(0:Int)∧(0:Int)≤i∧i≤(((wipe (putL c0 (cut c0 j ((c0.length:Nat):Int)) (i).toNat) ((((cut c0 (0:Int) i).length + (cut c0 j ((c0.length:Nat):Int)).length):Nat):Int) ((c0.length:Nat):Int)).length:Nat):Int):=⟨f3448.1,f3448.2.1,f3448.2.2.1,by rw [k3461]; exact f3448.2.2.2⟩
  have f3463:(cut c0 j ((c0.length:Nat):Int)).length = (((c0.length:Nat):Int)).toNat - (j).toNat∧0≤j∧j≤((c0.length:Nat):Int)∧((c0.length:Nat):Int)≤(((wipe (putL c0 (cut c0 j ((c0.length:Nat):Int)) (i).toNat) ((((cut c0 (0:Int) i).length + (cut c0 j ((c0.length:Nat):Int)).length):Nat):Int) ((c0.length:Nat):Int)).length:Nat):Int):=⟨f3449.1,f3449.2.1,f3449.2.2.1,by rw [k3461]; exact f3449.2.2.2⟩
  have f3464:((cut c0 (0:Int) i).length + (cut c0 j ((c0.length:Nat):Int)).length) = ((i + (((cut c0 j ((c0.length:Nat):Int)).length:Nat):Int))).toNat - ((0:Int)).toNat∧0≤(0:Int)∧(0:Int)≤(i + (((cut c0 j ((c0.length:Nat):Int)).length:Nat):Int))∧(i + (((cut c0 j ((c0.length:Nat):Int)).length:Nat):Int))≤(((wipe (putL c0 (cut c0 j ((c0.length:Nat):Int)) (i).toNat) ((((cut c0 (0:Int) i).length + (cut c0 j ((c0.length:Nat):Int)).length):Nat):Int) ((c0.length:Nat):Int)).length:Nat):Int):=⟨f3445.1,f3445.2.1,f3445.2.2.1,by rw [k3461]; exact f3445.2.2.2⟩
  have t3465:(cut (wipe (putL c0 (cut c0 j ((c0.length:Nat):Int)) (i).toNat) ((((cut c0 (0:Int) i).length + (cut c0 j ((c0.length:Nat):Int)).length):Nat):Int) ((c0.length:Nat):Int)) 0 (i + (((cut c0 j ((c0.length:Nat):Int)).length:Nat):Int))).length = ((cut c0 (0:Int) i).length + (cut c0 j ((c0.length:Nat):Int)).length):=by rw [cut_len _ _ _ f3464.2]; exact f3464.1.symm
  have f3466:((((c0.length:Nat):Int)).toNat - (((((cut c0 (0:Int) i).length + (cut c0 j ((c0.length:Nat):Int)).length):Nat):Int)).toNat) = (((c0.length:Nat):Int)).toNat - (((((cut c0 (0:Int) i).length + (cut c0 j ((c0.length:Nat):Int)).length):Nat):Int)).toNat∧0≤((((cut c0 (0:Int) i).length + (cut c0 j ((c0.length:Nat):Int)).length):Nat):Int)∧((((cut c0 (0:Int) i).length + (cut c0 j ((c0.length:Nat):Int)).length):Nat):Int)≤((c0.length:Nat):Int)∧((c0.length:Nat):Int)≤(((wipe (putL c0 (cut c0 j ((c0.length:Nat):Int)) (i).toNat) ((((cut c0 (0:Int) i).length + (cut c0 j ((c0.length:Nat):Int)).length):Nat):Int) ((c0.length:Nat):Int)).length:Nat):Int):=⟨f3459.1,f3459.2.1,f3459.2.2.1,by rw [k3461]; exact f3459.2.2.2⟩
  refine rf [(0,.own 0 (((0:Int)).toNat * 2) ((cut c0 (0:Int) i).length + (cut c0 j ((c0.length:Nat):Int)).length))] [(0,.row 45 (fl (wipe (putL c0 (cut c0 j ((c0.length:Nat):Int)) (i).toNat) ((((cut c0 (0:Int) i).length + (cut c0 j ((c0.length:Nat):Int)).length):Nat):Int) ((c0.length:Nat):Int))))] 9 (by kernel_rfl) ?_
  refine wk_id ?_
  refine seq_np ?_
  refine reg_f ?_
  refine rs 2 [] [] (by kernel_rfl) allP_nil ?_
  refine rf [(6,.own 0 (((0:Int)).toNat * 2) ((cut c0 (0:Int) i).length + (cut c0 j ((c0.length:Nat):Int)).length))] [(0,.row 45 (fl (wipe (putL c0 (cut c0 j ((c0.length:Nat):Int)) (i).toNat) ((((cut c0 (0:Int) i).length + (cut c0 j ((c0.length:Nat):Int)).length):Nat):Int) ((c0.length:Nat):Int))))] 9 (by kernel_rfl) ?_
  refine wk_id ?_
  obtain rfl:=Option.some.inj h
  refine ret_at (.own 0 (((0:Int)).toNat * 2) ((cut c0 (0:Int) i).length + (cut c0 j ((c0.length:Nat):Int)).length)) (by kernel_rfl) ?_
  exact ret_e [(0,0)] [] (by (try simp only [t3465]) <;> simp only [push_cast,leL_flD,renL_flD,seval]) (by (try simp only [t3465]) <;> simp only [push_cast,leL_flD,renL_flD,seval]) rfl rfl rfl

set_option maxRecDepth 100000 in
set_option maxHeartbeats 200000000 in
theorem dict_Drop_spec (d:Dict) (key:Int) (r:Int × Bool × Fault × (List Int) × (List Bucket)) (h:dict_Drop d key = some r):SpecW Try.prog 14 [.agg (Enc.cells d),iS key] [] 0 (fun x h n=>x = .tup [.agg [iS r.1,.own 0 0 r.2.2.2.1.length,.own 1 0 r.2.2.2.2.length],bS r.2.1,.agg (Enc.cells r.2.2.1)]∧h = [(0,.row 3 (fl r.2.2.2.1)),(1,.row 43 (flD dBucket [2] r.2.2.2.2)),((.s 2 0),.fam (famD dBucket 0 r.2.2.2.2))]∧n = 3):=by
 unfold dict_Drop at h
 refine spec_of (draw_ok _) Try.func14 rfl (by decide) rfl (by kernel_rfl) ?_
 refine seq_np ?_
 refine reg_f ?_
 refine rs 4 [] [] (by kernel_rfl) allP_nil ?_
 refine rf [(1,iS key),(2,.ptr 0 0),(4,.ptr 1 0),(6,.ptr 2 0)] [(0,.row 26 (Enc.cells d)),(1,.row 26 [iS 0,.v (.slice none 0 0),.v (.slice none 0 0)]),(2,.row 29 [iS 0,iS 0])] 3 (by kernel_rfl) ?_
 refine wk_id ?_
 refine seq_np ?_
 refine seq_np ?_
 refine reg_f ?_
 refine rs 1 [] [] (by kernel_rfl) allP_nil ?_
 obtain ⟨r3477,hr3477,h⟩:=bind_sx h
 refine run_call 22 [.agg (Enc.cells d)] (some 13) (by kernel_rfl) ?_
 refine call_0 (dict_Check_spec d r3477 hr3477) (by simp only [push_cast,leL_flD,renL_flD,seval]) (by simp only [push_cast,leL_flD,renL_flD,seval]) ?_
 refine back_f ?_
 refine rs 2 [] [] (by kernel_rfl) allP_nil ?_
 refine rf [(1,iS key),(2,.ptr 0 0),(4,.ptr 1 0),(6,.ptr 2 0),(7,.ptr 3 0)] [(0,.row 26 (Enc.cells d)),(1,.row 26 [iS 0,.v (.slice none 0 0),.v (.slice none 0 0)]),(2,.row 29 [iS 0,iS 0]),(3,.row 29 (Enc.cells r3477))] 4 (by kernel_rfl) ?_
 refine wk_id ?_
 refine seq_np ?_
 refine reg_f ?_
 refine rs 3 [] [] (by kernel_rfl) allP_nil ?_
 refine rf [(1,iS key),(2,.ptr 0 0),(4,.ptr 1 0),(6,.ptr 2 0),(7,.ptr 3 0),(16,bS (r3477.Code != 0))] [(0,.row 26 (Enc.cells d)),(1,.row 26 [iS 0,.v (.slice none 0 0),.v (.slice none 0 0)]),(2,.row 29 [iS 0,iS 0]),(3,.row 29 (Enc.cells r3477))] 4 (by kernel_rfl) ?_
 refine wk_id ?_
 refine cond_sx h (by kernel_rfl) (fun g3501 h=>?_) (fun g3501 h=>?_)
 ·refine seq_np ?_
  refine reg_t ?_
  refine rs 5 [] [] (by kernel_rfl) allP_nil ?_
  refine rt [(4,.ptr 1 0),(5,bS false),(6,.ptr 2 0)] [(0,.row 26 (Enc.cells d)),(1,.row 26 [iS 0,.v (.slice none 0 0),.v (.slice none 0 0)]),(2,.row 29 (Enc.cells r3477)),(3,.row 29 (Enc.cells r3477))] 9 follows (by kernel_rfl) ?_
  refine wk_id ?_
  obtain rfl:=Option.some.inj h
  refine ret_at (.tup [.agg [iS 0,.v (.slice none 0 0),.v (.slice none 0 0)],bS false,.agg (Enc.cells r3477)]) (by kernel_rfl) ?_
  exact ret_e [] [] (by simp only [push_cast,leL_flD,renL_flD,seval]) (by simp only [push_cast,leL_flD,renL_flD,seval]) rfl rfl rfl
 ·refine wk_id ?_
  refine seq_np ?_
  refine reg_f ?_
  refine rs 1 [] [] (by kernel_rfl) allP_nil ?_
  obtain ⟨r3479,hr3479,h⟩:=bind_sx h
  refine call_x (dict_copied_spec d r3479 hr3479) (args:=[.agg (Enc.cells d)]) (dst:=(some 20)) (by kernel_rfl) [(0,.row 26 (Enc.cells d)),(1,.row 26 [iS 0,.v (.slice none 0 0),.v (.slice none 0 0)]),(2,.row 29 [iS 0,iS 0]),(3,.row 29 (Enc.cells r3477))] 4 (by kernel_rfl) [] [] (.ptr 4 0) [(4,.row 26 [iS r3479.1,.own 5 0 r3479.2.1.length,.own 6 0 r3479.2.2.length]),(5,.row 3 (fl r3479.2.1)),(6,.row 43 (flD dBucket [7] r3479.2.2)),((.s 7 0),.fam (famD dBucket 0 r3479.2.2))] (by simp only [push_cast,leL_flD,renL_flD,seval]) (by simp only [push_cast,leL_flD,renL_flD,seval]) (by kernel_rfl) (.inl rfl) (by first | (simp only [push_cast,leL_flD,renL_flD,seval]; done) | (simp only [push_cast,leL_flD,renL_flD,seval]; kernel_rfl) | kernel_rfl) (by first | (simp only [push_cast,leL_flD,renL_flD,seval]; done) | (simp only [push_cast,leL_flD,renL_flD,seval]; kernel_rfl) | kernel_rfl) ?_
  refine rs 1 [] [] (by kernel_rfl) allP_nil ?_
  refine rf [(1,iS key),(4,.ptr 1 0),(6,.ptr 2 0),(8,.ptr 4 0)] [(0,.row 26 (Enc.cells d)),(1,.row 26 [iS 0,.v (.slice none 0 0),.v (.slice none 0 0)]),(2,.row 29 [iS 0,iS 0]),(3,.row 29 (Enc.cells r3477)),(4,.row 26 [iS r3479.1,.own 5 0 r3479.2.1.length,.own 6 0 r3479.2.2.length]),(5,.row 3 (fl r3479.2.1)),(6,.row 43 (flD dBucket [7] r3479.2.2)),((.s 7 0),.fam (famD dBucket 0 r3479.2.2))] 8 (by kernel_rfl) ?_
  refine wk_id ?_
  refine seq_np ?_
  refine reg_f ?_
  refine rs 4 [] [] (by kernel_rfl) allP_nil ?_
  obtain ⟨r3481,hr3481,h⟩:=bind_sx h
  refine call_x (dict_where_spec (Dict.mk r3479.1 r3479.2.1 r3479.2.2) key r3481 hr3481) (args:=[.agg [iS r3479.1,.own 5 0 r3479.2.1.length,.own 6 0 r3479.2.2.length],iS key]) (dst:=(some 26)) (by kernel_rfl) [(0,.row 26 (Enc.cells d)),(1,.row 26 [iS 0,.v (.slice none 0 0),.v (.slice none 0 0)]),(2,.row 29 [iS 0,iS 0]),(3,.row 29 (Enc.cells r3477)),(4,.row 26 [iS r3479.1,.own 5 0 r3479.2.1.length,.own 6 0 r3479.2.2.length]),(5,.row 3 (fl r3479.2.1)),(6,.row 43 (flD dBucket [7] r3479.2.2)),((.s 7 0),.fam (famD dBucket 0 r3479.2.2))] 8 (by kernel_rfl) [] [5,6,(.s 7 0)] (.tup [iS r3481.1,iS r3481.2.1,bS r3481.2.2]) [] (by simp only [↓leS_frzD dBucket [7] r3479.2.2,leS_frz,leL_flD,renL_flD,push_cast,seval]) (by simp only [↓leS_frzD dBucket [7] r3479.2.2,leS_frz,leL_flD,renL_flD,push_cast,seval]) (by kernel_rfl) (.inr ⟨by simp only [push_cast,leL_flD,renL_flD,seval],by simp only [push_cast,leL_flD,renL_flD,seval]⟩) (by simp only [push_cast,leL_flD,renL_flD,seval]) (by simp only [push_cast,leL_flD,renL_flD,seval]) ?_
  refine rs 7 [] [] (by kernel_rfl) allP_nil ?_
  refine rf [(4,.ptr 1 0),(6,.ptr 2 0),(8,.ptr 4 0),(9,iS r3481.1),(10,iS r3481.2.1),(11,bS r3481.2.2)] [(0,.row 26 (Enc.cells d)),(1,.row 26 [iS 0,.v (.slice none 0 0),.v (.slice none 0 0)]),(2,.row 29 [iS 0,iS 0]),(3,.row 29 (Enc.cells r3477)),(4,.row 26 [iS r3479.1,.own 5 0 r3479.2.1.length,.own 6 0 r3479.2.2.length]),(5,.row 3 (fl r3479.2.1)),(6,.row 43 (flD dBucket [7] r3479.2.2)),((.s 7 0),.fam (famD dBucket 0 r3479.2.2))] 8 (by kernel_rfl) ?_
  refine wk_id ?_
  refine seq_cut (A:=Bool × Int × (List Int) × (List Bucket)) (fun a=>([(4,.ptr 0 0),(6,.ptr 1 0),(8,.ptr 2 0),(11,bS a.1)],[(0,.row 26 [iS 0,.v (.slice none 0 0),.v (.slice none 0 0)]),(1,.row 29 [iS 0,iS 0]),(2,.row 26 [iS a.2.1,.own 3 0 a.2.2.1.length,.own 4 0 a.2.2.2.length]),(3,.row 3 (fl a.2.2.1)),(4,.row 43 (flD dBucket [5] a.2.2.2)),((.s 5 0),.fam (famD dBucket 0 a.2.2.2))],6)) (fun a=>(dict_Drop_j1 a.1 a.2.1 a.2.2.1 a.2.2.2) = some r) (fun K3489 hK3489=>?_) ?_
  ·refine seq_np ?_
   refine reg_f ?_
   refine rs 1 [] [] (by kernel_rfl) allP_nil ?_
   refine rf [(4,.ptr 1 0),(6,.ptr 2 0),(8,.ptr 4 0),(9,iS r3481.1),(10,iS r3481.2.1),(11,bS r3481.2.2),(30,bS r3481.2.2)] [(0,.row 26 (Enc.cells d)),(1,.row 26 [iS 0,.v (.slice none 0 0),.v (.slice none 0 0)]),(2,.row 29 [iS 0,iS 0]),(3,.row 29 (Enc.cells r3477)),(4,.row 26 [iS r3479.1,.own 5 0 r3479.2.1.length,.own 6 0 r3479.2.2.length]),(5,.row 3 (fl r3479.2.1)),(6,.row 43 (flD dBucket [7] r3479.2.2)),((.s 7 0),.fam (famD dBucket 0 r3479.2.2))] 8 (by kernel_rfl) ?_
   refine wk_id ?_
   refine cond_sx h (by kernel_rfl) (fun g3500 h=>?_) (fun g3500 h=>?_)
   ·refine chk_sx h (fun g3496 h=>?_)
    refine reg_t ?_
    have k3495:0≤r3481.1∧r3481.1 < ((r3479.2.2.length:Nat):Int):=by first | simpa only [Bool.and_eq_true,decide_eq_true_eq,bne_iff_ne,ne_eq] using g3496 | (simp at g3496 ⊢; omega)
    refine rs 16 [none,none,none,none,none,none,none,none,none,none,some ⟨.ptr 6 (0 + (r3481.1).toNat * 2),[],18,[6]⟩,none,some ⟨.own (.s 7 r3481.1) 0 (ixD r3479.2.2 r3481.1).Items.length,[],20,[6]⟩] _ (by kernel_rfl) (allP_cons (ob_ldD dBucket [7] r3479.2.2 r3481.1 2 1 ((0 + (r3481.1).toNat * 2) + 1) k3495 rfl (by decide) (by first | rfl | omega) (dflS Try.prog 40) (.own (.s 7 r3481.1) 0 (ixD r3479.2.2 r3481.1).Items.length) rfl 20 [6]) (allP_cons (ob_ix_o 6 r3479.2.2.length 0 2 18 r3481.1 k3495) allP_nil)) ?_
    obtain ⟨r3497,hr3497,h⟩:=bind_sx h
    refine call_x (slices_Delete_Item_1_spec r3481.2.1 (IntKind.i64.wrap (r3481.2.1 + 1)) (ixD r3479.2.2 r3481.1).Items r3497 hr3497) (args:=[.own (.s 7 r3481.1) 0 (ixD r3479.2.2 r3481.1).Items.length,iS r3481.2.1,iS (IntKind.i64.wrap (r3481.2.1 + 1))]) (dst:=(some 47)) (by kernel_rfl) [(0,.row 26 (Enc.cells d)),(1,.row 26 [iS 0,.v (.slice none 0 0),.v (.slice none 0 0)]),(2,.row 29 [iS 0,iS 0]),(3,.row 29 (Enc.cells r3477)),(4,.row 26 [iS r3479.1,.own 5 0 r3479.2.1.length,.own 6 0 r3479.2.2.length]),(5,.row 3 (fl r3479.2.1)),(6,.row 43 (flD dBucket [7] r3479.2.2)),((.s 7 0),.fam (famD dBucket 0 r3479.2.2))] 24 (by kernel_rfl) [(0,(.s 7 r3481.1))] [] (.own (.s 7 r3481.1) 0 r3497.length) [((.s 7 0),.fam (upI (famD dBucket 0 r3479.2.2) r3481.1 (.row 45 (fl r3497)))),((.s 7 0),.fam (upI (famD dBucket 0 r3479.2.2) r3481.1 (.dead)))] (by simp only [push_cast,leL_flD,renL_flD,seval]) (by simp only [push_cast,leL_flD,renL_flD,seval]) (by kernel_rfl) (.inl rfl) (by first | (simp only [push_cast,leL_flD,renL_flD,seval]; done) | (simp only [push_cast,leL_flD,renL_flD,seval]; kernel_rfl) | kernel_rfl) (by first | (simp only [push_cast,leL_flD,renL_flD,seval]; done) | (simp only [push_cast,leL_flD,renL_flD,seval]; kernel_rfl) | kernel_rfl) ?_
    refine chk_sx h (fun g3499 h=>?_)
    have k3498:0≤r3481.1∧r3481.1 < ((r3479.2.2.length:Nat):Int):=by first | simpa only [Bool.and_eq_true,decide_eq_true_eq,bne_iff_ne,ne_eq] using g3499 | (simp at g3499 ⊢; omega)
    refine rs 3 [some ⟨.ptr 6 (0 + (r3481.1).toNat * 2),[],26,[6]⟩,none,some ⟨.any,[(6,.row 43 (flD dBucket [7] (r3479.2.2.set r3481.1.toNat ({ (ixD r3479.2.2 r3481.1) with Items:=r3497 }:Bucket))))],28,[6]⟩] _ (by kernel_rfl) (allP_cons (ob_stD (P:=Try.prog) dBucket [7] r3479.2.2 r3481.1 2 1 ((0 + (r3481.1).toNat * 2) + 1) k3498 rfl [.own (.s 7 r3481.1) 0 r3497.length] ({ (ixD r3479.2.2 r3481.1) with Items:=r3497 }:Bucket) (Nat.le_of_ble_eq_true rfl) (by first | rfl | omega) rfl 6 28 43 40 (by kernel_rfl) rfl) (allP_cons (ob_ix_o 6 r3479.2.2.length 0 2 26 r3481.1 k3498) allP_nil)) ?_
    refine run_eqS 7 (upI (famD dBucket 0 r3479.2.2) r3481.1 (.row 45 (fl r3497))) (famD dBucket 0 (r3479.2.2.set r3481.1.toNat ({ (ixD r3479.2.2 r3481.1) with Items:=r3497 }:Bucket))) (famD_set k3498 ({ (ixD r3479.2.2 r3481.1) with Items:=r3497 }:Bucket)) (by kernel_rfl) ?_
    refine run_eqH 4 (.row 26 [iS r3479.1,.own 5 0 r3479.2.1.length,.own 6 0 r3479.2.2.length]) (.row 26 [iS r3479.1,.own 5 0 r3479.2.1.length,.own 6 0 (r3479.2.2.set r3481.1.toNat ({ (ixD r3479.2.2 r3481.1) with Items:=r3497 }:Bucket)).length]) (congrArg (fun nq=>(.row 26 [iS r3479.1,.own 5 0 r3479.2.1.length,.own 6 0 nq]:Chunk)) (show r3479.2.2.length = (r3479.2.2.set r3481.1.toNat ({ (ixD r3479.2.2 r3481.1) with Items:=r3497 }:Bucket)).length from (List.length_set ..).symm)) (by kernel_rfl) ?_
    refine rt [(4,.ptr 1 0),(6,.ptr 2 0),(8,.ptr 4 0),(11,bS r3481.2.2)] [(0,.row 26 (Enc.cells d)),(1,.row 26 [iS 0,.v (.slice none 0 0),.v (.slice none 0 0)]),(2,.row 29 [iS 0,iS 0]),(3,.row 29 (Enc.cells r3477)),(4,.row 26 [iS r3479.1,.own 5 0 r3479.2.1.length,.own 6 0 (r3479.2.2.set r3481.1.toNat ({ (ixD r3479.2.2 r3481.1) with Items:=r3497 }:Bucket)).length]),(5,.row 3 (fl r3479.2.1)),(6,.row 43 (flD dBucket [7] (r3479.2.2.set r3481.1.toNat ({ (ixD r3479.2.2 r3481.1) with Items:=r3497 }:Bucket)))),((.s 7 0),.fam (famD dBucket 0 (r3479.2.2.set r3481.1.toNat ({ (ixD r3479.2.2 r3481.1) with Items:=r3497 }:Bucket))))] 29 follows (by kernel_rfl) ?_
    exact hK3489 (r3481.2.2,r3479.1,r3479.2.1,(r3479.2.2.set r3481.1.toNat ({ (ixD r3479.2.2 r3481.1) with Items:=r3497 }:Bucket))) _ _ _ h (leSt_m [(0,1),(1,2),(2,4),(3,5),(4,6),((.s 5 0),(.s 7 0))] [] (by simp only [push_cast,leL_flD,renL_flD,seval]) (by simp only [push_cast,leL_flD,renL_flD,seval]) rfl rfl rfl)
   ·exact hK3489 (r3481.2.2,r3479.1,r3479.2.1,r3479.2.2) _ _ _ h (leSt_m [(0,1),(1,2),(2,4),(3,5),(4,6),((.s 5 0),(.s 7 0))] [] (by simp only [push_cast,leL_flD,renL_flD,seval]) (by simp only [push_cast,leL_flD,renL_flD,seval]) rfl rfl rfl)
  ·rintro ⟨ok1,c2_Depth1,c3q1,c4q1⟩ h
   try dsimp only at h ⊢
   unfold dict_Drop_j1 at h
   refine seq_np ?_
   refine reg_f ?_
   refine rs 8 [] [] (by kernel_rfl) allP_nil ?_
   refine rf [(4,.ptr 0 0),(5,bS ok1),(6,.ptr 1 0)] [(0,.row 26 [iS c2_Depth1,.own 3 0 c3q1.length,.own 4 0 c4q1.length]),(1,.row 29 [iS 0,iS 0]),(2,.row 26 [iS c2_Depth1,.own 3 0 c3q1.length,.own 4 0 c4q1.length]),(3,.row 3 (fl c3q1)),(4,.row 43 (flD dBucket [5] c4q1)),((.s 5 0),.fam (famD dBucket 0 c4q1))] 6 (by kernel_rfl) ?_
   refine wk_id ?_
   obtain rfl:=Option.some.inj h
   refine ret_at (.tup [.agg [iS c2_Depth1,.own 3 0 c3q1.length,.own 4 0 c4q1.length],bS ok1,.agg [iS 0,iS 0]]) (by kernel_rfl) ?_
   exact ret_e [(0,3),(1,4),((.s 2 0),(.s 5 0))] [] (by simp only [push_cast,leL_flD,renL_flD,seval]) (by simp only [push_cast,leL_flD,renL_flD,seval]) rfl rfl rfl

set_option maxRecDepth 100000 in
set_option maxHeartbeats 200000000 in
theorem taskmillref_F_spec (code:Int) (xat:Int) (r:Fault) (h:taskmillref_F code xat = some r):SpecW Try.prog 20 [iS code,iS xat] [] 0 (fun x h n=>x = .agg (Enc.cells r)∧h = []∧n = 0):=by
 unfold taskmillref_F at h
 refine spec_of (draw_ok _) Try.func20 rfl (by decide) rfl (by kernel_rfl) ?_
 refine seq_np ?_
 refine reg_f ?_
 refine rs 1 [] [] (by kernel_rfl) allP_nil ?_
 refine rf [(0,iS code),(1,iS xat),(4,.ptr 0 0)] [(0,.row 29 [iS 0,iS 0])] 1 (by kernel_rfl) ?_
 refine wk_id ?_
 refine seq_np ?_
 refine reg_f ?_
 refine rs 4 [] [] (by kernel_rfl) allP_nil ?_
 refine rf [(4,.ptr 0 0)] [(0,.row 29 [iS code,iS xat])] 1 (by kernel_rfl) ?_
 refine wk_id ?_
 obtain rfl:=Option.some.inj h
 refine ret_at (.agg [iS code,iS xat]) (by kernel_rfl) ?_
 exact ret_e [] [] (by simp only [push_cast,leL_flD,renL_flD,seval]) (by simp only [push_cast,leL_flD,renL_flD,seval]) rfl rfl rfl

set_option maxRecDepth 100000 in
set_option maxHeartbeats 200000000 in
theorem taskmillref_Bits_spec (n:Int) (many:Int) (r:Int) (h:taskmillref_Bits n many = some r):SpecW Try.prog 19 [iS n,iS many] [] 0 (fun x h n=>x = iS r∧h = []∧n = 0):=by
 unfold taskmillref_Bits at h
 refine spec_of (draw_ok _) Try.func19 rfl (by decide) rfl (by kernel_rfl) ?_
 refine seq_np ?_
 refine reg_f ?_
 refine rs 1 [] [] (by kernel_rfl) allP_nil ?_
 refine rf [(0,iS n),(1,iS many)] [] 0 (by kernel_rfl) ?_
 refine wk_id ?_
 refine seq_np ?_
 refine reg_f ?_
 refine rs 1 [] [] (by kernel_rfl) allP_nil ?_
 refine rf [(0,iS n),(1,iS many),(5,iS 0)] [] 0 (by kernel_rfl) ?_
 refine wk_id ?_
 refine seq_np ?_
 refine seq_np ?_
 refine reg_f ?_
 refine rs 1 [] [] (by kernel_rfl) allP_nil ?_
 refine rf [(0,iS n),(1,iS many),(5,iS 0),(6,iS 0)] [] 0 (by kernel_rfl) ?_
 refine wk_id ?_
 refine block_np ?_
 refine loop_sx (S:=Int × Int) (fun a=>([(0,iS n),(1,iS many),(5,iS a.1),(6,iS a.2)],[],0)) h (leSt_m [] [] (by simp only [push_cast,leL_flD,renL_flD,seval]) (by simp only [push_cast,leL_flD,renL_flD,seval]) rfl rfl rfl) ?_
 rintro ⟨s18,i7⟩ o2 R2 h hr2 hn2 hx2 ht2
 try dsimp only at h hn2 ⊢
 unfold taskmillref_Bits_l1 at h
 try dsimp only at h
 refine seq_np ?_
 refine seq_np ?_
 refine reg_f ?_
 refine rs 3 [] [] (by kernel_rfl) allP_nil ?_
 refine rf [(0,iS n),(1,iS many),(5,iS s18),(6,iS i7),(9,bS (decide (i7 < many)))] [] 0 (by kernel_rfl) ?_
 refine wk_id ?_
 refine cond_sx h (by kernel_rfl) (fun g3659 h=>?_) (fun g3659 h=>?_)
 ·refine wk_id ?_
  refine seq_np ?_
  refine block_cut (A:=Int) (fun a=>([(0,iS n),(1,iS many),(5,iS a),(6,iS i7)],[],0)) (fun a=>(taskmillref_Bits_j1 n many i7 a) = some o2) (fun K3649 hK3649=>?_) ?_
  ·refine chk_sx h (fun g3653 h=>?_)
   refine seq_np ?_
   refine reg_f ?_
   have k3652:0≤i7:=by first | simpa only [Bool.and_eq_true,decide_eq_true_eq,bne_iff_ne,ne_eq] using g3653 | (simp at g3653 ⊢; omega)
   refine rs 5 [none,none,some ⟨iS (Int.fdiv n (2 ^ (min (i7).toNat (IntKind.i64).bits))),[],0,[]⟩] _ (by kernel_rfl) (allP_cons (ob_p (v:=iS (Int.fdiv n (2 ^ (min (i7).toNat (IntKind.i64).bits)))) (nx:=0) (r:=[]) k3652) allP_nil) ?_
   refine rf [(0,iS n),(1,iS many),(5,iS s18),(6,iS i7),(16,bS ((IntKind.i64.wrap (((BitVec.ofInt (IntKind.i64).bits (Int.fdiv n (2 ^ (min (i7).toNat (IntKind.i64).bits))) &&& BitVec.ofInt (IntKind.i64).bits 1).toNat:Nat):Int)) == 1))] [] 0 (by kernel_rfl) ?_
   refine wk_id ?_
   refine cond_sx h (by kernel_rfl) (fun g3658 h=>?_) (fun g3658 h=>?_)
   ·refine chk_sx h (fun g3657 h=>?_)
    refine reg_f ?_
    have k3656:0≤i7:=by first | simpa only [Bool.and_eq_true,decide_eq_true_eq,bne_iff_ne,ne_eq] using g3657 | (simp at g3657 ⊢; omega)
    refine rs 5 [none,none,some ⟨iS (IntKind.i64.wrap ((1:Int) * 2 ^ (min (i7).toNat (IntKind.i64).bits))),[],0,[]⟩] _ (by kernel_rfl) (allP_cons (ob_p (v:=iS (IntKind.i64.wrap ((1:Int) * 2 ^ (min (i7).toNat (IntKind.i64).bits)))) (nx:=0) (r:=[]) k3656) allP_nil) ?_
    refine rf [(0,iS n),(1,iS many),(5,iS (IntKind.i64.wrap (s18 + (IntKind.i64.wrap ((1:Int) * 2 ^ (min (i7).toNat (IntKind.i64).bits)))))),(6,iS i7)] [] 0 (by kernel_rfl) ?_
    exact hK3649 ((IntKind.i64.wrap (s18 + (IntKind.i64.wrap ((1:Int) * 2 ^ (min (i7).toNat (IntKind.i64).bits)))))) _ _ _ h (leSt_m [] [] (by simp only [push_cast,leL_flD,renL_flD,seval]) (by simp only [push_cast,leL_flD,renL_flD,seval]) rfl rfl rfl)
   ·exact hK3649 (s18) _ _ _ h (leSt_m [] [] (by simp only [push_cast,leL_flD,renL_flD,seval]) (by simp only [push_cast,leL_flD,renL_flD,seval]) rfl rfl rfl)
  ·rintro s20 h
   try dsimp only at h ⊢
   unfold taskmillref_Bits_j1 at h
   refine wk_id ?_
   refine reg_f ?_
   refine rs 3 [] [] (by kernel_rfl) allP_nil ?_
   refine rf [(0,iS n),(1,iS many),(5,iS s20),(6,iS (IntKind.i64.wrap (i7 + 1)))] [] 0 (by kernel_rfl) ?_
   exact hn2 (s20,(IntKind.i64.wrap (i7 + 1))) _ _ _ (Option.some.inj h).symm (leSt_m [] [] (by simp only [push_cast,leL_flD,renL_flD,seval]) (by simp only [push_cast,leL_flD,renL_flD,seval]) rfl rfl rfl)
 ·change R2 (.exit 0) _ _ _
  refine ex_cast hx2 (id:=0) ?_
  obtain ⟨r0,h,e0⟩:=map_sx h
  have e1:=hr2 r0 e0.symm
  subst r0
  refine wk_id ?_
  refine wk_id ?_
  refine seq_np ?_
  refine reg_f ?_
  refine rs 2 [] [] (by kernel_rfl) allP_nil ?_
  refine rf [(4,iS s18)] [] 0 (by kernel_rfl) ?_
  refine wk_id ?_
  obtain rfl:=Option.some.inj h
  refine ret_at (iS s18) (by kernel_rfl) ?_
  exact ret_e [] [] (by simp only [push_cast,leL_flD,renL_flD,seval]) (by simp only [push_cast,leL_flD,renL_flD,seval]) rfl rfl rfl

set_option maxRecDepth 100000 in
set_option maxHeartbeats 200000000 in
theorem taskmillref_DictFault_spec (d:Dict) (r:Fault) (h:taskmillref_DictFault d = some r):SpecW Try.prog 15 [.agg (Enc.cells d)] [] 0 (fun x h n=>x = .agg (Enc.cells r)∧h = []∧n = 0):=by
 unfold taskmillref_DictFault at h
 refine spec_of (draw_ok _) Try.func15 rfl (by decide) rfl (by kernel_rfl) ?_
 refine seq_np ?_
 refine reg_f ?_
 refine rs 2 [] [] (by kernel_rfl) allP_nil ?_
 refine rf [(1,.ptr 0 0),(2,.ptr 1 0)] [(0,.row 26 (Enc.cells d)),(1,.row 29 [iS 0,iS 0])] 2 (by kernel_rfl) ?_
 refine wk_id ?_
 refine seq_np ?_
 refine seq_cut (A:=Unit) (fun _=>([(1,.ptr 0 0),(2,.ptr 1 0),(20,bS ((decide (d.Depth < 0)) || (decide ((12:Int) < d.Depth))))],[(0,.row 26 (Enc.cells d)),(1,.row 29 [iS 0,iS 0])],2)) (fun _=>True) (fun K3876 hK3876=>?_) (fun _ _=>?_)
 ·refine reg_f ?_
  refine rs 4 [] [] (by kernel_rfl) allP_nil ?_
  refine run_split 16 (decide (d.Depth < 0)) (.inl (by kernel_rfl)) (fun g3877=>?_) (fun g3877=>?_)
  ·refine rs 4 [] [] (by kernel_rfl) allP_nil ?_
   refine rf [(1,.ptr 0 0),(2,.ptr 1 0),(20,bS true)] [(0,.row 26 (Enc.cells d)),(1,.row 29 [iS 0,iS 0])] 2 (by kernel_rfl) ?_
   exact hK3876 () _ _ _ trivial (leSt_m [(0,0),(1,1)] [] (by (try simp only [g3877]) <;> simp only [push_cast,leL_flD,renL_flD,seval]) (by (try simp only [g3877]) <;> simp only [push_cast,leL_flD,renL_flD,seval]) rfl rfl rfl)
  ·refine rs 4 [] [] (by kernel_rfl) allP_nil ?_
   refine rf [(1,.ptr 0 0),(2,.ptr 1 0),(20,bS (decide ((12:Int) < d.Depth)))] [(0,.row 26 (Enc.cells d)),(1,.row 29 [iS 0,iS 0])] 2 (by kernel_rfl) ?_
   exact hK3876 () _ _ _ trivial (leSt_m [(0,0),(1,1)] [] (by (try simp only [g3877]) <;> simp only [push_cast,leL_flD,renL_flD,seval]) (by (try simp only [g3877]) <;> simp only [push_cast,leL_flD,renL_flD,seval]) rfl rfl rfl)
 ·dsimp only
  refine cond_sx h (by kernel_rfl) (fun g5052 h=>?_) (fun g5052 h=>?_)
  ·refine seq_np ?_
   refine reg_f ?_
   obtain ⟨r3879,hr3879,h⟩:=bind_sx h
   refine run_call 20 [iS 3,iS (-1)] (some 21) (by kernel_rfl) ?_
   refine call_0 (taskmillref_F_spec 3 (-1) r3879 hr3879) (by simp only [push_cast,leL_flD,renL_flD,seval]) (by simp only [push_cast,leL_flD,renL_flD,seval]) ?_
   refine back_f ?_
   refine rs 1 [] [] (by kernel_rfl) allP_nil ?_
   refine rf [(2,.ptr 1 0)] [(0,.row 26 (Enc.cells d)),(1,.row 29 (Enc.cells r3879))] 2 (by kernel_rfl) ?_
   refine wk_id ?_
   obtain rfl:=Option.some.inj h
   refine ret_at (.agg (Enc.cells r3879)) (by kernel_rfl) ?_
   exact ret_e [] [] (by simp only [push_cast,leL_flD,renL_flD,seval]) (by simp only [push_cast,leL_flD,renL_flD,seval]) rfl rfl rfl
  ·refine wk_id ?_
   refine seq_np ?_
   refine chk_sx h (fun g3887 h=>?_)
   refine seq_np ?_
   refine reg_t ?_
   have k3886:0≤d.Depth:=by first | simpa only [Bool.and_eq_true,decide_eq_true_eq,bne_iff_ne,ne_eq] using g3887 | (simp at g3887 ⊢; omega)
   refine rs 7 [none,none,none,none,none,some ⟨iS (IntKind.i64.wrap ((1:Int) * 2 ^ (min (d.Depth).toNat (IntKind.i64).bits))),[],7,[]⟩] _ (by kernel_rfl) (allP_cons (ob_p (v:=iS (IntKind.i64.wrap ((1:Int) * 2 ^ (min (d.Depth).toNat (IntKind.i64).bits)))) (nx:=7) (r:=[]) k3886) allP_nil) ?_
   refine rt [(1,.ptr 0 0),(2,.ptr 1 0),(28,bS (((d.Places.length:Nat):Int) != (IntKind.i64.wrap ((1:Int) * 2 ^ (min (d.Depth).toNat (IntKind.i64).bits)))))] [(0,.row 26 (Enc.cells d)),(1,.row 29 [iS 0,iS 0])] 9 follows (by kernel_rfl) ?_
   refine wk_id ?_
   refine cond_sx h (by kernel_rfl) (fun g5051 h=>?_) (fun g5051 h=>?_)
   ·refine seq_np ?_
    refine reg_f ?_
    obtain ⟨r3889,hr3889,h⟩:=bind_sx h
    refine run_call 20 [iS 8,iS (-1)] (some 29) (by kernel_rfl) ?_
    refine call_0 (taskmillref_F_spec 8 (-1) r3889 hr3889) (by simp only [push_cast,leL_flD,renL_flD,seval]) (by simp only [push_cast,leL_flD,renL_flD,seval]) ?_
    refine back_f ?_
    refine rs 1 [] [] (by kernel_rfl) allP_nil ?_
    refine rf [(2,.ptr 1 0)] [(0,.row 26 (Enc.cells d)),(1,.row 29 (Enc.cells r3889))] 9 (by kernel_rfl) ?_
    refine wk_id ?_
    obtain rfl:=Option.some.inj h
    refine ret_at (.agg (Enc.cells r3889)) (by kernel_rfl) ?_
    exact ret_e [] [] (by simp only [push_cast,leL_flD,renL_flD,seval]) (by simp only [push_cast,leL_flD,renL_flD,seval]) rfl rfl rfl
   ·refine wk_id ?_
    refine seq_np ?_
    refine reg_f ?_
    refine rs 1 [] [] (by kernel_rfl) allP_nil ?_
    refine rf [(1,.ptr 0 0),(2,.ptr 1 0),(3,iS 0)] [(0,.row 26 (Enc.cells d)),(1,.row 29 [iS 0,iS 0])] 9 (by kernel_rfl) ?_
    refine wk_id ?_
    refine seq_np ?_
    refine seq_np ?_
    refine reg_f ?_
    refine rs 1 [] [] (by kernel_rfl) allP_nil ?_
    refine rf [(1,.ptr 0 0),(2,.ptr 1 0),(3,iS 0),(4,iS 0)] [(0,.row 26 (Enc.cells d)),(1,.row 29 [iS 0,iS 0])] 9 (by kernel_rfl) ?_
    refine wk_id ?_
    refine block_np ?_
    refine loop_sx (S:=Int × Int) (fun a=>([(1,.ptr 0 0),(2,.ptr 1 0),(3,iS a.1),(4,iS a.2)],[(0,.row 26 (Enc.cells d)),(1,.row 29 [iS 0,iS 0])],2)) h (leSt_m [(0,0),(1,1)] [] (by simp only [push_cast,leL_flD,renL_flD,seval]) (by simp only [push_cast,leL_flD,renL_flD,seval]) rfl rfl rfl) ?_
    rintro ⟨least18,i19⟩ o6 R6 h hr6 hn6 hx6 ht6
    try dsimp only at h hn6 ⊢
    unfold taskmillref_DictFault_l5 at h
    try dsimp only at h
    refine seq_np ?_
    refine seq_np ?_
    refine reg_f ?_
    refine rs 5 [] [] (by kernel_rfl) allP_nil ?_
    refine rf [(1,.ptr 0 0),(2,.ptr 1 0),(3,iS least18),(4,iS i19),(34,bS (decide (i19 < ((d.Places.length:Nat):Int))))] [(0,.row 26 (Enc.cells d)),(1,.row 29 [iS 0,iS 0])] 2 (by kernel_rfl) ?_
    refine wk_id ?_
    refine cond_sx h (by kernel_rfl) (fun g5050 h=>?_) (fun g5050 h=>?_)
    ·refine wk_id ?_
     refine seq_np ?_
     refine block_cut (A:=Int) (fun a=>([(1,.ptr 0 0),(2,.ptr 1 0),(3,iS a),(4,iS i19)],[(0,.row 26 (Enc.cells d)),(1,.row 29 [iS 0,iS 0])],2)) (fun a=>(taskmillref_DictFault_j1 d i19 a) = some o6) (fun K3991 hK3991=>?_) ?_
     ·refine chk_sx h (fun g3995 h=>?_)
      refine seq_np ?_
      refine reg_f ?_
      have k3994:0≤i19∧i19 < ((d.Places.length:Nat):Int):=by first | simpa only [Bool.and_eq_true,decide_eq_true_eq,bne_iff_ne,ne_eq] using g3995 | (simp at g3995 ⊢; omega)
      refine rs 6 [none,none,none,some ⟨.iptr (fl d.Places) ((i19).toNat * 1),[],2,[]⟩,some ⟨iS (ix d.Places i19),[],2,[]⟩] _ (by kernel_rfl) (allP_cons (ob_ld d.Places i19 1 0 ((i19).toNat * 1) k3994 rfl (by decide) (by first | rfl | omega) (dflS Try.prog 3) (iS (ix d.Places i19)) rfl 2 []) (allP_cons (ob_ix_l d.Places 1 2 i19 k3994) allP_nil)) ?_
      refine rf [(1,.ptr 0 0),(2,.ptr 1 0),(3,iS least18),(4,iS i19),(5,iS (ix d.Places i19))] [(0,.row 26 (Enc.cells d)),(1,.row 29 [iS 0,iS 0])] 2 (by kernel_rfl) ?_
      refine wk_id ?_
      refine seq_np ?_
      refine seq_cut (A:=Unit) (fun _=>([(1,.ptr 0 0),(2,.ptr 1 0),(3,iS least18),(4,iS i19),(5,iS (ix d.Places i19)),(55,bS ((decide ((ix d.Places i19) < 0)) || ((decide (((d.Buckets.length:Nat):Int)≤(ix d.Places i19))) || (decide (least18 < (ix d.Places i19))))))],[(0,.row 26 (Enc.cells d)),(1,.row 29 [iS 0,iS 0])],2)) (fun _=>True) (fun K4002 hK4002=>?_) (fun _ _=>?_)
      ·refine reg_f ?_
       refine rs 3 [] [] (by kernel_rfl) allP_nil ?_
       refine run_split 44 (decide ((ix d.Places i19) < 0)) (.inl (by kernel_rfl)) (fun g4003=>?_) (fun g4003=>?_)
       ·refine rs 11 [] [] (by kernel_rfl) allP_nil ?_
        refine rf [(1,.ptr 0 0),(2,.ptr 1 0),(3,iS least18),(4,iS i19),(5,iS (ix d.Places i19)),(55,bS true)] [(0,.row 26 (Enc.cells d)),(1,.row 29 [iS 0,iS 0])] 2 (by kernel_rfl) ?_
        exact hK4002 () _ _ _ trivial (leSt_m [(0,0),(1,1)] [] (by (try simp only [g4003]) <;> simp only [push_cast,leL_flD,renL_flD,seval]) (by (try simp only [g4003]) <;> simp only [push_cast,leL_flD,renL_flD,seval]) rfl rfl rfl)
       ·refine rs 7 [] [] (by kernel_rfl) allP_nil ?_
        refine run_split 51 (decide (((d.Buckets.length:Nat):Int)≤(ix d.Places i19))) (.inl (by kernel_rfl)) (fun g4004=>?_) (fun g4004=>?_)
        ·refine rs 4 [] [] (by kernel_rfl) allP_nil ?_
         refine rf [(1,.ptr 0 0),(2,.ptr 1 0),(3,iS least18),(4,iS i19),(5,iS (ix d.Places i19)),(55,bS true)] [(0,.row 26 (Enc.cells d)),(1,.row 29 [iS 0,iS 0])] 2 (by kernel_rfl) ?_
         exact hK4002 () _ _ _ trivial (leSt_m [(0,0),(1,1)] [] (by first | ((try simp only [g4003,g4004]) <;> simp only [push_cast,leL_flD,renL_flD,seval]; done) | ((try simp only [g4003]); (try simp only [g4004]); simp only [push_cast,leL_flD,renL_flD,seval]; done) | (exfalso; clear h; simp_all; done)) (by first | ((try simp only [g4003,g4004]) <;> simp only [push_cast,leL_flD,renL_flD,seval]; done) | ((try simp only [g4003]); (try simp only [g4004]); simp only [push_cast,leL_flD,renL_flD,seval]; done) | (exfalso; clear h; simp_all; done)) rfl rfl rfl)
        ·refine rs 4 [] [] (by kernel_rfl) allP_nil ?_
         refine rf [(1,.ptr 0 0),(2,.ptr 1 0),(3,iS least18),(4,iS i19),(5,iS (ix d.Places i19)),(55,bS (decide (least18 < (ix d.Places i19))))] [(0,.row 26 (Enc.cells d)),(1,.row 29 [iS 0,iS 0])] 2 (by kernel_rfl) ?_
         exact hK4002 () _ _ _ trivial (leSt_m [(0,0),(1,1)] [] (by first | ((try simp only [g4003,g4004]) <;> simp only [push_cast,leL_flD,renL_flD,seval]; done) | ((try simp only [g4003]); (try simp only [g4004]); simp only [push_cast,leL_flD,renL_flD,seval]; done) | (exfalso; clear h; simp_all; done)) (by first | ((try simp only [g4003,g4004]) <;> simp only [push_cast,leL_flD,renL_flD,seval]; done) | ((try simp only [g4003]); (try simp only [g4004]); simp only [push_cast,leL_flD,renL_flD,seval]; done) | (exfalso; clear h; simp_all; done)) rfl rfl rfl)
      ·dsimp only
       refine cond_sx h (by kernel_rfl) (fun g4008 h=>?_) (fun g4008 h=>?_)
       ·refine seq_np ?_
        refine reg_f ?_
        refine rs 1 [] [] (by kernel_rfl) allP_nil ?_
        obtain ⟨r4006,hr4006,h⟩:=bind_sx h
        refine run_call 20 [iS 5,iS i19] (some 57) (by kernel_rfl) ?_
        refine call_0 (taskmillref_F_spec 5 i19 r4006 hr4006) (by simp only [push_cast,leL_flD,renL_flD,seval]) (by simp only [push_cast,leL_flD,renL_flD,seval]) ?_
        refine back_f ?_
        refine rs 1 [] [] (by kernel_rfl) allP_nil ?_
        refine rf [(2,.ptr 1 0)] [(0,.row 26 (Enc.cells d)),(1,.row 29 (Enc.cells r4006))] 2 (by kernel_rfl) ?_
        refine wk_id ?_
        refine rt_cast ht6 ?_
        obtain ⟨r0,h,e0⟩:=map_sx h
        have e1:=hr6 r0 e0.symm
        subst r0
        obtain rfl:=Option.some.inj h
        refine ret_at (.agg (Enc.cells r4006)) (by kernel_rfl) ?_
        exact ret_e [] [] (by simp only [push_cast,leL_flD,renL_flD,seval]) (by simp only [push_cast,leL_flD,renL_flD,seval]) rfl rfl rfl
       ·refine wk_id ?_
        refine seq_np ?_
        refine reg_f ?_
        refine rs 3 [] [] (by kernel_rfl) allP_nil ?_
        refine rf [(1,.ptr 0 0),(2,.ptr 1 0),(3,iS least18),(4,iS i19),(60,bS ((ix d.Places i19) == least18))] [(0,.row 26 (Enc.cells d)),(1,.row 29 [iS 0,iS 0])] 2 (by kernel_rfl) ?_
        refine wk_id ?_
        refine cond_sx h (by kernel_rfl) (fun g4007 h=>?_) (fun g4007 h=>?_)
        ·refine reg_f ?_
         refine rs 3 [] [] (by kernel_rfl) allP_nil ?_
         refine rf [(1,.ptr 0 0),(2,.ptr 1 0),(3,iS (IntKind.i64.wrap (least18 + 1))),(4,iS i19)] [(0,.row 26 (Enc.cells d)),(1,.row 29 [iS 0,iS 0])] 2 (by kernel_rfl) ?_
         exact hK3991 ((IntKind.i64.wrap (least18 + 1))) _ _ _ h (leSt_m [(0,0),(1,1)] [] (by simp only [push_cast,leL_flD,renL_flD,seval]) (by simp only [push_cast,leL_flD,renL_flD,seval]) rfl rfl rfl)
        ·exact hK3991 (least18) _ _ _ h (leSt_m [(0,0),(1,1)] [] (by simp only [push_cast,leL_flD,renL_flD,seval]) (by simp only [push_cast,leL_flD,renL_flD,seval]) rfl rfl rfl)
     ·rintro least20 h
      try dsimp only at h ⊢
      unfold taskmillref_DictFault_j1 at h
      refine wk_id ?_
      refine reg_f ?_
      refine rs 3 [] [] (by kernel_rfl) allP_nil ?_
      refine rf [(1,.ptr 0 0),(2,.ptr 1 0),(3,iS least20),(4,iS (IntKind.i64.wrap (i19 + 1)))] [(0,.row 26 (Enc.cells d)),(1,.row 29 [iS 0,iS 0])] 2 (by kernel_rfl) ?_
      exact hn6 (least20,(IntKind.i64.wrap (i19 + 1))) _ _ _ (Option.some.inj h).symm (leSt_m [(0,0),(1,1)] [] (by simp only [push_cast,leL_flD,renL_flD,seval]) (by simp only [push_cast,leL_flD,renL_flD,seval]) rfl rfl rfl)
    ·change R6 (.exit 0) _ _ _
     refine ex_cast hx6 (id:=0) ?_
     obtain ⟨r0,h,e0⟩:=map_sx h
     have e1:=hr6 r0 e0.symm
     subst r0
     refine wk_id ?_
     refine wk_id ?_
     refine seq_np ?_
     refine seq_np ?_
     refine reg_f ?_
     refine rs 5 [] [] (by kernel_rfl) allP_nil ?_
     refine rf [(1,.ptr 0 0),(2,.ptr 1 0),(67,bS (decide (least18 < ((d.Buckets.length:Nat):Int))))] [(0,.row 26 (Enc.cells d)),(1,.row 29 [iS 0,iS 0])] 2 (by kernel_rfl) ?_
     refine wk_id ?_
     refine cond_sx h (by kernel_rfl) (fun g5049 h=>?_) (fun g5049 h=>?_)
     ·refine seq_np ?_
      refine reg_f ?_
      obtain ⟨r4012,hr4012,h⟩:=bind_sx h
      refine run_call 20 [iS 8,iS (-1)] (some 68) (by kernel_rfl) ?_
      refine call_0 (taskmillref_F_spec 8 (-1) r4012 hr4012) (by simp only [push_cast,leL_flD,renL_flD,seval]) (by simp only [push_cast,leL_flD,renL_flD,seval]) ?_
      refine back_f ?_
      refine rs 1 [] [] (by kernel_rfl) allP_nil ?_
      refine rf [(2,.ptr 1 0)] [(0,.row 26 (Enc.cells d)),(1,.row 29 (Enc.cells r4012))] 2 (by kernel_rfl) ?_
      refine wk_id ?_
      obtain rfl:=Option.some.inj h
      refine ret_at (.agg (Enc.cells r4012)) (by kernel_rfl) ?_
      exact ret_e [] [] (by simp only [push_cast,leL_flD,renL_flD,seval]) (by simp only [push_cast,leL_flD,renL_flD,seval]) rfl rfl rfl
     ·refine wk_id ?_
      refine seq_np ?_
      refine reg_f ?_
      refine rs 1 [] [] (by kernel_rfl) allP_nil ?_
      refine rf [(1,.ptr 0 0),(2,.ptr 1 0),(6,bS false)] [(0,.row 26 (Enc.cells d)),(1,.row 29 [iS 0,iS 0])] 2 (by kernel_rfl) ?_
      refine wk_id ?_
      refine seq_np ?_
      refine seq_np ?_
      refine reg_f ?_
      refine rs 1 [] [] (by kernel_rfl) allP_nil ?_
      refine rf [(1,.ptr 0 0),(2,.ptr 1 0),(6,bS false),(7,iS 0)] [(0,.row 26 (Enc.cells d)),(1,.row 29 [iS 0,iS 0])] 2 (by kernel_rfl) ?_
      refine wk_id ?_
      refine block_np ?_
      refine loop_sx (S:=Bool × Int) (fun a=>([(1,.ptr 0 0),(2,.ptr 1 0),(6,bS a.1),(7,iS a.2)],[(0,.row 26 (Enc.cells d)),(1,.row 29 [iS 0,iS 0])],2)) h (leSt_m [(0,0),(1,1)] [] (by simp only [push_cast,leL_flD,renL_flD,seval]) (by simp only [push_cast,leL_flD,renL_flD,seval]) rfl rfl rfl) ?_
      rintro ⟨xsome7,n7⟩ o7 R7 h hr7 hn7 hx7 ht7
      try dsimp only at h hn7 ⊢
      unfold taskmillref_DictFault_l4 at h
      try dsimp only at h
      refine seq_np ?_
      refine seq_np ?_
      refine reg_f ?_
      refine rs 5 [] [] (by kernel_rfl) allP_nil ?_
      refine rf [(1,.ptr 0 0),(2,.ptr 1 0),(6,bS xsome7),(7,iS n7),(73,bS (decide (n7 < ((d.Buckets.length:Nat):Int))))] [(0,.row 26 (Enc.cells d)),(1,.row 29 [iS 0,iS 0])] 2 (by kernel_rfl) ?_
      refine wk_id ?_
      refine cond_sx h (by kernel_rfl) (fun g5048 h=>?_) (fun g5048 h=>?_)
      ·refine wk_id ?_
       refine seq_np ?_
       refine block_np ?_
       refine chk_sx h (fun g4765 h=>?_)
       refine seq_np ?_
       refine reg_f ?_
       have k4764:0≤n7∧n7 < ((d.Buckets.length:Nat):Int):=by first | simpa only [Bool.and_eq_true,decide_eq_true_eq,bne_iff_ne,ne_eq] using g4765 | (simp at g4765 ⊢; omega)
       refine rs 7 [none,none,none,some ⟨.iptr (fl d.Buckets) ((n7).toNat * 2),[],2,[]⟩,some ⟨.agg (Enc.cells (ix d.Buckets n7)),[],2,[]⟩] _ (by kernel_rfl) (allP_cons (ob_ldw d.Buckets n7 2 ((n7).toNat * 2) k4764 rfl (by first | rfl | omega) [iS (ix d.Buckets n7).Depth,.sl (ix d.Buckets n7).Items.length (fl (ix d.Buckets n7).Items)] rfl 2 []) (allP_cons (ob_ix_l d.Buckets 2 2 n7 k4764) allP_nil)) ?_
       refine rf [(1,.ptr 0 0),(2,.ptr 1 0),(6,bS xsome7),(7,iS n7),(8,.ptr 2 0)] [(0,.row 26 (Enc.cells d)),(1,.row 29 [iS 0,iS 0]),(2,.row 43 (Enc.cells (ix d.Buckets n7)))] 3 (by kernel_rfl) ?_
       refine wk_id ?_
       refine seq_cut (A:=Unit) (fun _=>([(1,.ptr 0 0),(2,.ptr 1 0),(6,bS (xsome7 || ((ix d.Buckets n7).Depth == d.Depth))),(7,iS n7),(8,.ptr 2 0)],[(0,.row 26 (Enc.cells d)),(1,.row 29 [iS 0,iS 0]),(2,.row 43 (Enc.cells (ix d.Buckets n7)))],3)) (fun _=>True) (fun K4767 hK4767=>?_) (fun _ _=>?_)
       ·refine reg_f ?_
        refine rs 2 [] [] (by kernel_rfl) allP_nil ?_
        refine run_split 82 xsome7 (.inl (by kernel_rfl)) (fun g4768=>?_) (fun g4768=>?_)
        ·refine rs 7 [] [] (by kernel_rfl) allP_nil ?_
         refine rf [(1,.ptr 0 0),(2,.ptr 1 0),(6,bS true),(7,iS n7),(8,.ptr 2 0)] [(0,.row 26 (Enc.cells d)),(1,.row 29 [iS 0,iS 0]),(2,.row 43 (Enc.cells (ix d.Buckets n7)))] 3 (by kernel_rfl) ?_
         exact hK4767 () _ _ _ trivial (leSt_m [(0,0),(1,1),(2,2)] [] (by (try simp only [g4768]) <;> simp only [push_cast,leL_flD,renL_flD,seval]) (by (try simp only [g4768]) <;> simp only [push_cast,leL_flD,renL_flD,seval]) rfl rfl rfl)
        ·refine rs 7 [] [] (by kernel_rfl) allP_nil ?_
         refine rf [(1,.ptr 0 0),(2,.ptr 1 0),(6,bS ((ix d.Buckets n7).Depth == d.Depth)),(7,iS n7),(8,.ptr 2 0)] [(0,.row 26 (Enc.cells d)),(1,.row 29 [iS 0,iS 0]),(2,.row 43 (Enc.cells (ix d.Buckets n7)))] 3 (by kernel_rfl) ?_
         exact hK4767 () _ _ _ trivial (leSt_m [(0,0),(1,1),(2,2)] [] (by (try simp only [g4768]) <;> simp only [push_cast,leL_flD,renL_flD,seval]) (by (try simp only [g4768]) <;> simp only [push_cast,leL_flD,renL_flD,seval]) rfl rfl rfl)
       ·dsimp only
        refine seq_np ?_
        refine seq_cut (A:=Unit) (fun _=>([(1,.ptr 0 0),(2,.ptr 1 0),(6,bS (xsome7 || ((ix d.Buckets n7).Depth == d.Depth))),(7,iS n7),(8,.ptr 2 0),(98,bS ((decide ((ix d.Buckets n7).Depth < 0)) || (decide (d.Depth < (ix d.Buckets n7).Depth))))],[(0,.row 26 (Enc.cells d)),(1,.row 29 [iS 0,iS 0]),(2,.row 43 (Enc.cells (ix d.Buckets n7)))],3)) (fun _=>True) (fun K4773 hK4773=>?_) (fun _ _=>?_)
        ·refine reg_f ?_
         refine rs 4 [] [] (by kernel_rfl) allP_nil ?_
         refine run_split 92 (decide ((ix d.Buckets n7).Depth < 0)) (.inl (by kernel_rfl)) (fun g4774=>?_) (fun g4774=>?_)
         ·refine rs 6 [] [] (by kernel_rfl) allP_nil ?_
          refine rf [(1,.ptr 0 0),(2,.ptr 1 0),(6,bS (xsome7 || ((ix d.Buckets n7).Depth == d.Depth))),(7,iS n7),(8,.ptr 2 0),(98,bS true)] [(0,.row 26 (Enc.cells d)),(1,.row 29 [iS 0,iS 0]),(2,.row 43 (Enc.cells (ix d.Buckets n7)))] 3 (by kernel_rfl) ?_
          exact hK4773 () _ _ _ trivial (leSt_m [(0,0),(1,1),(2,2)] [] (by (try simp only [g4774]) <;> simp only [push_cast,leL_flD,renL_flD,seval]) (by (try simp only [g4774]) <;> simp only [push_cast,leL_flD,renL_flD,seval]) rfl rfl rfl)
         ·refine rs 6 [] [] (by kernel_rfl) allP_nil ?_
          refine rf [(1,.ptr 0 0),(2,.ptr 1 0),(6,bS (xsome7 || ((ix d.Buckets n7).Depth == d.Depth))),(7,iS n7),(8,.ptr 2 0),(98,bS (decide (d.Depth < (ix d.Buckets n7).Depth)))] [(0,.row 26 (Enc.cells d)),(1,.row 29 [iS 0,iS 0]),(2,.row 43 (Enc.cells (ix d.Buckets n7)))] 3 (by kernel_rfl) ?_
          exact hK4773 () _ _ _ trivial (leSt_m [(0,0),(1,1),(2,2)] [] (by (try simp only [g4774]) <;> simp only [push_cast,leL_flD,renL_flD,seval]) (by (try simp only [g4774]) <;> simp only [push_cast,leL_flD,renL_flD,seval]) rfl rfl rfl)
        ·dsimp only
         refine cond_sx h (by kernel_rfl) (fun g5038 h=>?_) (fun g5038 h=>?_)
         ·refine seq_np ?_
          refine reg_f ?_
          refine rs 1 [] [] (by kernel_rfl) allP_nil ?_
          obtain ⟨r4776,hr4776,h⟩:=bind_sx h
          refine run_call 20 [iS 4,iS n7] (some 100) (by kernel_rfl) ?_
          refine call_0 (taskmillref_F_spec 4 n7 r4776 hr4776) (by simp only [push_cast,leL_flD,renL_flD,seval]) (by simp only [push_cast,leL_flD,renL_flD,seval]) ?_
          refine back_f ?_
          refine rs 1 [] [] (by kernel_rfl) allP_nil ?_
          refine rf [(2,.ptr 1 0)] [(0,.row 26 (Enc.cells d)),(1,.row 29 (Enc.cells r4776)),(2,.row 43 (Enc.cells (ix d.Buckets n7)))] 3 (by kernel_rfl) ?_
          refine wk_id ?_
          refine rt_cast ht7 ?_
          obtain ⟨r0,h,e0⟩:=map_sx h
          have e1:=hr7 r0 e0.symm
          subst r0
          obtain rfl:=Option.some.inj h
          refine ret_at (.agg (Enc.cells r4776)) (by kernel_rfl) ?_
          exact ret_e [] [] (by simp only [push_cast,leL_flD,renL_flD,seval]) (by simp only [push_cast,leL_flD,renL_flD,seval]) rfl rfl rfl
         ·refine wk_id ?_
          refine seq_np ?_
          refine reg_f ?_
          refine rs 1 [] [] (by kernel_rfl) allP_nil ?_
          refine rf [(1,.ptr 0 0),(2,.ptr 1 0),(6,bS (xsome7 || ((ix d.Buckets n7).Depth == d.Depth))),(7,iS n7),(8,.ptr 2 0),(9,iS 0)] [(0,.row 26 (Enc.cells d)),(1,.row 29 [iS 0,iS 0]),(2,.row 43 (Enc.cells (ix d.Buckets n7)))] 3 (by kernel_rfl) ?_
          refine wk_id ?_
          refine seq_np ?_
          refine block_np ?_
          refine loop_sx (S:=Int) (fun a=>([(1,.ptr 0 0),(2,.ptr 1 0),(6,bS (xsome7 || ((ix d.Buckets n7).Depth == d.Depth))),(7,iS n7),(8,.ptr 2 0),(9,iS a)],[(0,.row 26 (Enc.cells d)),(1,.row 29 [iS 0,iS 0]),(2,.row 43 (Enc.cells (ix d.Buckets n7)))],3)) h (leSt_m [(0,0),(1,1),(2,2)] [] (by simp only [push_cast,leL_flD,renL_flD,seval]) (by simp only [push_cast,leL_flD,renL_flD,seval]) rfl rfl rfl) ?_
          rintro first31 o8 R8 h hr8 hn8 hx8 ht8
          try dsimp only at h hn8 ⊢
          unfold taskmillref_DictFault_l3 at h
          try dsimp only at h
          refine seq_np ?_
          refine chk_sx h (fun g4810 h=>?_)
          refine seq_np ?_
          refine reg_f ?_
          have k4809:0≤first31∧first31 < ((d.Places.length:Nat):Int):=by first | simpa only [Bool.and_eq_true,decide_eq_true_eq,bne_iff_ne,ne_eq] using g4810 | (simp at g4810 ⊢; omega)
          refine rs 7 [none,none,none,some ⟨.iptr (fl d.Places) ((first31).toNat * 1),[],3,[]⟩,some ⟨iS (ix d.Places first31),[],3,[]⟩] _ (by kernel_rfl) (allP_cons (ob_ld d.Places first31 1 0 ((first31).toNat * 1) k4809 rfl (by decide) (by first | rfl | omega) (dflS Try.prog 3) (iS (ix d.Places first31)) rfl 3 []) (allP_cons (ob_ix_l d.Places 1 3 first31 k4809) allP_nil)) ?_
          refine rf [(1,.ptr 0 0),(2,.ptr 1 0),(6,bS (xsome7 || ((ix d.Buckets n7).Depth == d.Depth))),(7,iS n7),(8,.ptr 2 0),(9,iS first31),(107,bS ((ix d.Places first31) != n7))] [(0,.row 26 (Enc.cells d)),(1,.row 29 [iS 0,iS 0]),(2,.row 43 (Enc.cells (ix d.Buckets n7)))] 3 (by kernel_rfl) ?_
          refine wk_id ?_
          refine cond_sx h (by kernel_rfl) (fun g5037 h=>?_) (fun g5037 h=>?_)
          ·refine wk_id ?_
           refine block_np ?_
           refine reg_f ?_
           refine rs 3 [] [] (by kernel_rfl) allP_nil ?_
           refine rf [(1,.ptr 0 0),(2,.ptr 1 0),(6,bS (xsome7 || ((ix d.Buckets n7).Depth == d.Depth))),(7,iS n7),(8,.ptr 2 0),(9,iS (IntKind.i64.wrap (first31 + 1)))] [(0,.row 26 (Enc.cells d)),(1,.row 29 [iS 0,iS 0]),(2,.row 43 (Enc.cells (ix d.Buckets n7)))] 3 (by kernel_rfl) ?_
           refine wk_id ?_
           exact hn8 ((IntKind.i64.wrap (first31 + 1))) _ _ _ (Option.some.inj h).symm (leSt_m [(0,0),(1,1),(2,2)] [] (by simp only [push_cast,leL_flD,renL_flD,seval]) (by simp only [push_cast,leL_flD,renL_flD,seval]) rfl rfl rfl)
          ·change R8 (.exit 4) _ _ _
           refine ex_cast hx8 (id:=4) ?_
           obtain ⟨r0,h,e0⟩:=map_sx h
           have e1:=hr8 r0 e0.symm
           subst r0
           refine wk_id ?_
           refine wk_id ?_
           refine seq_np ?_
           refine reg_f ?_
           refine rs 3 [] [] (by kernel_rfl) allP_nil ?_
           obtain ⟨r4812,hr4812,h⟩:=bind_sx h
           refine run_call 19 [iS first31,iS (ix d.Buckets n7).Depth] (some 113) (by kernel_rfl) ?_
           refine call_0 (taskmillref_Bits_spec first31 (ix d.Buckets n7).Depth r4812 hr4812) (by simp only [push_cast,leL_flD,renL_flD,seval]) (by simp only [push_cast,leL_flD,renL_flD,seval]) ?_
           refine back_f ?_
           refine rs 1 [] [] (by kernel_rfl) allP_nil ?_
           refine rf [(1,.ptr 0 0),(2,.ptr 1 0),(6,bS (xsome7 || ((ix d.Buckets n7).Depth == d.Depth))),(7,iS n7),(8,.ptr 2 0),(10,iS r4812)] [(0,.row 26 (Enc.cells d)),(1,.row 29 [iS 0,iS 0]),(2,.row 43 (Enc.cells (ix d.Buckets n7)))] 3 (by kernel_rfl) ?_
           refine wk_id ?_
           refine seq_np ?_
           refine seq_np ?_
           refine reg_f ?_
           refine rs 1 [] [] (by kernel_rfl) allP_nil ?_
           refine rf [(1,.ptr 0 0),(2,.ptr 1 0),(6,bS (xsome7 || ((ix d.Buckets n7).Depth == d.Depth))),(7,iS n7),(8,.ptr 2 0),(10,iS r4812),(11,iS 0)] [(0,.row 26 (Enc.cells d)),(1,.row 29 [iS 0,iS 0]),(2,.row 43 (Enc.cells (ix d.Buckets n7)))] 3 (by kernel_rfl) ?_
           refine wk_id ?_
           refine block_np ?_
           refine loop_sx (S:=Int × Int) (fun a=>([(1,.ptr 0 0),(2,.ptr 1 0),(6,bS (xsome7 || ((ix d.Buckets n7).Depth == d.Depth))),(7,iS n7),(8,.ptr 2 0),(10,iS a.1),(11,iS a.2)],[(0,.row 26 (Enc.cells d)),(1,.row 29 [iS 0,iS 0]),(2,.row 43 (Enc.cells (ix d.Buckets n7)))],3)) h (leSt_m [(0,0),(1,1),(2,2)] [] (by simp only [push_cast,leL_flD,renL_flD,seval]) (by simp only [push_cast,leL_flD,renL_flD,seval]) rfl rfl rfl) ?_
           rintro ⟨same47,i65⟩ o9 R9 h hr9 hn9 hx9 ht9
           try dsimp only at h hn9 ⊢
           unfold taskmillref_DictFault_l2 at h
           try dsimp only at h
           refine seq_np ?_
           refine seq_np ?_
           refine reg_f ?_
           refine rs 5 [] [] (by kernel_rfl) allP_nil ?_
           refine rf [(1,.ptr 0 0),(2,.ptr 1 0),(6,bS (xsome7 || ((ix d.Buckets n7).Depth == d.Depth))),(7,iS n7),(8,.ptr 2 0),(10,iS same47),(11,iS i65),(118,bS (decide (i65 < ((d.Places.length:Nat):Int))))] [(0,.row 26 (Enc.cells d)),(1,.row 29 [iS 0,iS 0]),(2,.row 43 (Enc.cells (ix d.Buckets n7)))] 3 (by kernel_rfl) ?_
           refine wk_id ?_
           refine cond_sx h (by kernel_rfl) (fun g5036 h=>?_) (fun g5036 h=>?_)
           ·refine wk_id ?_
            refine seq_np ?_
            refine block_np ?_
            refine chk_sx h (fun g4879 h=>?_)
            refine seq_np ?_
            refine reg_t ?_
            have k4878:0≤i65∧i65 < ((d.Places.length:Nat):Int):=by first | simpa only [Bool.and_eq_true,decide_eq_true_eq,bne_iff_ne,ne_eq] using g4879 | (simp at g4879 ⊢; omega)
            refine rs 10 [none,none,none,some ⟨.iptr (fl d.Places) ((i65).toNat * 1),[],6,[]⟩,some ⟨iS (ix d.Places i65),[],7,[]⟩] _ (by kernel_rfl) (allP_cons (ob_ld d.Places i65 1 0 ((i65).toNat * 1) k4878 rfl (by decide) (by first | rfl | omega) (dflS Try.prog 3) (iS (ix d.Places i65)) rfl 7 []) (allP_cons (ob_ix_l d.Places 1 6 i65 k4878) allP_nil)) ?_
            obtain ⟨r4880,hr4880,h⟩:=bind_sx h
            refine run_call 19 [iS i65,iS (ix d.Buckets n7).Depth] (some 131) (by kernel_rfl) ?_
            refine callE_0 (taskmillref_Bits_spec i65 (ix d.Buckets n7).Depth r4880 hr4880) (by simp only [push_cast,leL_flD,renL_flD,seval]) (by simp only [push_cast,leL_flD,renL_flD,seval]) ?_
            refine back_t ?_
            refine rs 3 [] [] (by kernel_rfl) allP_nil ?_
            refine rt [(1,.ptr 0 0),(2,.ptr 1 0),(6,bS (xsome7 || ((ix d.Buckets n7).Depth == d.Depth))),(7,iS n7),(8,.ptr 2 0),(10,iS same47),(11,iS i65),(134,bS (((ix d.Places i65) == n7) != (r4880 == same47)))] [(0,.row 26 (Enc.cells d)),(1,.row 29 [iS 0,iS 0]),(2,.row 43 (Enc.cells (ix d.Buckets n7)))] 17 follows (by kernel_rfl) ?_
            refine wk_id ?_
            refine cond_sx h (by kernel_rfl) (fun g4883 h=>?_) (fun g4883 h=>?_)
            ·refine seq_np ?_
             refine reg_f ?_
             refine rs 1 [] [] (by kernel_rfl) allP_nil ?_
             obtain ⟨r4882,hr4882,h⟩:=bind_sx h
             refine run_call 20 [iS 4,iS n7] (some 136) (by kernel_rfl) ?_
             refine call_0 (taskmillref_F_spec 4 n7 r4882 hr4882) (by simp only [push_cast,leL_flD,renL_flD,seval]) (by simp only [push_cast,leL_flD,renL_flD,seval]) ?_
             refine back_f ?_
             refine rs 1 [] [] (by kernel_rfl) allP_nil ?_
             refine rf [(2,.ptr 1 0)] [(0,.row 26 (Enc.cells d)),(1,.row 29 (Enc.cells r4882)),(2,.row 43 (Enc.cells (ix d.Buckets n7)))] 17 (by kernel_rfl) ?_
             refine wk_id ?_
             refine rt_cast ht9 ?_
             obtain ⟨r0,h,e0⟩:=map_sx h
             have e1:=hr9 r0 e0.symm
             subst r0
             refine rt_cast ht7 ?_
             obtain ⟨r0,h,e0⟩:=map_sx h
             have e1:=hr7 r0 e0.symm
             subst r0
             obtain rfl:=Option.some.inj h
             refine ret_at (.agg (Enc.cells r4882)) (by kernel_rfl) ?_
             exact ret_e [] [] (by simp only [push_cast,leL_flD,renL_flD,seval]) (by simp only [push_cast,leL_flD,renL_flD,seval]) rfl rfl rfl
            ·refine wk_id ?_
             refine wk_id ?_
             refine reg_f ?_
             refine rs 3 [] [] (by kernel_rfl) allP_nil ?_
             refine rf [(1,.ptr 0 0),(2,.ptr 1 0),(6,bS (xsome7 || ((ix d.Buckets n7).Depth == d.Depth))),(7,iS n7),(8,.ptr 2 0),(10,iS same47),(11,iS (IntKind.i64.wrap (i65 + 1)))] [(0,.row 26 (Enc.cells d)),(1,.row 29 [iS 0,iS 0]),(2,.row 43 (Enc.cells (ix d.Buckets n7)))] 17 (by kernel_rfl) ?_
             exact hn9 (same47,(IntKind.i64.wrap (i65 + 1))) _ _ _ (Option.some.inj h).symm (leSt_m [(0,0),(1,1),(2,2)] [] (by simp only [push_cast,leL_flD,renL_flD,seval]) (by simp only [push_cast,leL_flD,renL_flD,seval]) rfl rfl rfl)
           ·change R9 (.exit 6) _ _ _
            refine ex_cast hx9 (id:=6) ?_
            obtain ⟨r0,h,e0⟩:=map_sx h
            have e1:=hr9 r0 e0.symm
            subst r0
            refine wk_id ?_
            refine wk_id ?_
            refine seq_np ?_
            refine seq_cut (A:=Unit) (fun _=>([(1,.ptr 0 0),(2,.ptr 1 0),(6,bS (xsome7 || ((ix d.Buckets n7).Depth == d.Depth))),(7,iS n7),(8,.ptr 2 0),(10,iS same47),(145,bS ((decide ((4:Int) < (((ix d.Buckets n7).Items.length:Nat):Int))) && (decide ((ix d.Buckets n7).Depth < 12))))],[(0,.row 26 (Enc.cells d)),(1,.row 29 [iS 0,iS 0]),(2,.row 43 (Enc.cells (ix d.Buckets n7)))],3)) (fun _=>True) (fun K4888 hK4888=>?_) (fun _ _=>?_)
            ·refine reg_f ?_
             refine rs 5 [] [] (by kernel_rfl) allP_nil ?_
             refine run_split 141 (decide ((4:Int) < (((ix d.Buckets n7).Items.length:Nat):Int))) (.inl (by kernel_rfl)) (fun g4889=>?_) (fun g4889=>?_)
             ·refine rs 4 [] [] (by kernel_rfl) allP_nil ?_
              refine rf [(1,.ptr 0 0),(2,.ptr 1 0),(6,bS (xsome7 || ((ix d.Buckets n7).Depth == d.Depth))),(7,iS n7),(8,.ptr 2 0),(10,iS same47),(145,bS (decide ((ix d.Buckets n7).Depth < 12)))] [(0,.row 26 (Enc.cells d)),(1,.row 29 [iS 0,iS 0]),(2,.row 43 (Enc.cells (ix d.Buckets n7)))] 3 (by kernel_rfl) ?_
              exact hK4888 () _ _ _ trivial (leSt_m [(0,0),(1,1),(2,2)] [] (by (try simp only [g4889]) <;> simp only [push_cast,leL_flD,renL_flD,seval]) (by (try simp only [g4889]) <;> simp only [push_cast,leL_flD,renL_flD,seval]) rfl rfl rfl)
             ·refine rs 4 [] [] (by kernel_rfl) allP_nil ?_
              refine rf [(1,.ptr 0 0),(2,.ptr 1 0),(6,bS (xsome7 || ((ix d.Buckets n7).Depth == d.Depth))),(7,iS n7),(8,.ptr 2 0),(10,iS same47),(145,bS false)] [(0,.row 26 (Enc.cells d)),(1,.row 29 [iS 0,iS 0]),(2,.row 43 (Enc.cells (ix d.Buckets n7)))] 3 (by kernel_rfl) ?_
              exact hK4888 () _ _ _ trivial (leSt_m [(0,0),(1,1),(2,2)] [] (by (try simp only [g4889]) <;> simp only [push_cast,leL_flD,renL_flD,seval]) (by (try simp only [g4889]) <;> simp only [push_cast,leL_flD,renL_flD,seval]) rfl rfl rfl)
            ·dsimp only
             refine cond_sx h (by kernel_rfl) (fun g5035 h=>?_) (fun g5035 h=>?_)
             ·refine seq_np ?_
              refine reg_f ?_
              refine rs 1 [] [] (by kernel_rfl) allP_nil ?_
              obtain ⟨r4891,hr4891,h⟩:=bind_sx h
              refine run_call 20 [iS 2,iS n7] (some 147) (by kernel_rfl) ?_
              refine call_0 (taskmillref_F_spec 2 n7 r4891 hr4891) (by simp only [push_cast,leL_flD,renL_flD,seval]) (by simp only [push_cast,leL_flD,renL_flD,seval]) ?_
              refine back_f ?_
              refine rs 1 [] [] (by kernel_rfl) allP_nil ?_
              refine rf [(2,.ptr 1 0)] [(0,.row 26 (Enc.cells d)),(1,.row 29 (Enc.cells r4891)),(2,.row 43 (Enc.cells (ix d.Buckets n7)))] 3 (by kernel_rfl) ?_
              refine wk_id ?_
              refine rt_cast ht7 ?_
              obtain ⟨r0,h,e0⟩:=map_sx h
              have e1:=hr7 r0 e0.symm
              subst r0
              obtain rfl:=Option.some.inj h
              refine ret_at (.agg (Enc.cells r4891)) (by kernel_rfl) ?_
              exact ret_e [] [] (by simp only [push_cast,leL_flD,renL_flD,seval]) (by simp only [push_cast,leL_flD,renL_flD,seval]) rfl rfl rfl
             ·refine wk_id ?_
              refine seq_np ?_
              refine seq_np ?_
              refine reg_f ?_
              refine rs 1 [] [] (by kernel_rfl) allP_nil ?_
              refine rf [(1,.ptr 0 0),(2,.ptr 1 0),(6,bS (xsome7 || ((ix d.Buckets n7).Depth == d.Depth))),(7,iS n7),(8,.ptr 2 0),(10,iS same47),(12,iS 0)] [(0,.row 26 (Enc.cells d)),(1,.row 29 [iS 0,iS 0]),(2,.row 43 (Enc.cells (ix d.Buckets n7)))] 3 (by kernel_rfl) ?_
              refine wk_id ?_
              refine block_np ?_
              refine loop_sx (S:=Int) (fun a=>([(1,.ptr 0 0),(2,.ptr 1 0),(6,bS (xsome7 || ((ix d.Buckets n7).Depth == d.Depth))),(7,iS n7),(8,.ptr 2 0),(10,iS same47),(12,iS a)],[(0,.row 26 (Enc.cells d)),(1,.row 29 [iS 0,iS 0]),(2,.row 43 (Enc.cells (ix d.Buckets n7)))],3)) h (leSt_m [(0,0),(1,1),(2,2)] [] (by simp only [push_cast,leL_flD,renL_flD,seval]) (by simp only [push_cast,leL_flD,renL_flD,seval]) rfl rfl rfl) ?_
              rintro i71 o10 R10 h hr10 hn10 hx10 ht10
              try dsimp only at h hn10 ⊢
              unfold taskmillref_DictFault_l1 at h
              try dsimp only at h
              refine seq_np ?_
              refine seq_np ?_
              refine reg_f ?_
              refine rs 5 [] [] (by kernel_rfl) allP_nil ?_
              refine rf [(1,.ptr 0 0),(2,.ptr 1 0),(6,bS (xsome7 || ((ix d.Buckets n7).Depth == d.Depth))),(7,iS n7),(8,.ptr 2 0),(10,iS same47),(12,iS i71),(152,bS (decide (i71 < (((ix d.Buckets n7).Items.length:Nat):Int))))] [(0,.row 26 (Enc.cells d)),(1,.row 29 [iS 0,iS 0]),(2,.row 43 (Enc.cells (ix d.Buckets n7)))] 3 (by kernel_rfl) ?_
              refine wk_id ?_
              refine cond_sx h (by kernel_rfl) (fun g5034 h=>?_) (fun g5034 h=>?_)
              ·refine wk_id ?_
               refine seq_np ?_
               refine block_np ?_
               refine seq_np ?_
               refine chk_sx h (fun g5012 h=>?_)
               refine seq_np ?_
               refine reg_t ?_
               have k5011:0≤i71∧i71 < (((ix d.Buckets n7).Items.length:Nat):Int):=by first | simpa only [Bool.and_eq_true,decide_eq_true_eq,bne_iff_ne,ne_eq] using g5012 | (simp at g5012 ⊢; omega)
               refine rs 8 [none,none,none,some ⟨.iptr (fl (ix d.Buckets n7).Items) ((i71).toNat * 2),[],6,[]⟩,none,some ⟨iS (ix (ix d.Buckets n7).Items i71).Key,[],8,[]⟩] _ (by kernel_rfl) (allP_cons (ob_ld (ix d.Buckets n7).Items i71 2 0 (((i71).toNat * 2) + 0) k5011 rfl (by decide) (by first | rfl | omega) (dflS Try.prog 3) (iS (ix (ix d.Buckets n7).Items i71).Key) rfl 8 []) (allP_cons (ob_ix_l (ix d.Buckets n7).Items 2 6 i71 k5011) allP_nil)) ?_
               obtain ⟨r5013,hr5013,h⟩:=bind_sx h
               refine run_call 19 [iS (ix (ix d.Buckets n7).Items i71).Key,iS (ix d.Buckets n7).Depth] (some 163) (by kernel_rfl) ?_
               refine callE_0 (taskmillref_Bits_spec (ix (ix d.Buckets n7).Items i71).Key (ix d.Buckets n7).Depth r5013 hr5013) (by simp only [push_cast,leL_flD,renL_flD,seval]) (by simp only [push_cast,leL_flD,renL_flD,seval]) ?_
               refine back_t ?_
               refine rs 2 [] [] (by kernel_rfl) allP_nil ?_
               refine rt [(1,.ptr 0 0),(2,.ptr 1 0),(6,bS (xsome7 || ((ix d.Buckets n7).Depth == d.Depth))),(7,iS n7),(8,.ptr 2 0),(10,iS same47),(12,iS i71),(165,bS (r5013 != same47))] [(0,.row 26 (Enc.cells d)),(1,.row 29 [iS 0,iS 0]),(2,.row 43 (Enc.cells (ix d.Buckets n7)))] 14 follows (by kernel_rfl) ?_
               refine wk_id ?_
               refine cond_sx h (by kernel_rfl) (fun g5030 h=>?_) (fun g5030 h=>?_)
               ·refine seq_np ?_
                refine reg_f ?_
                refine rs 1 [] [] (by kernel_rfl) allP_nil ?_
                obtain ⟨r5015,hr5015,h⟩:=bind_sx h
                refine run_call 20 [iS 11,iS n7] (some 167) (by kernel_rfl) ?_
                refine call_0 (taskmillref_F_spec 11 n7 r5015 hr5015) (by simp only [push_cast,leL_flD,renL_flD,seval]) (by simp only [push_cast,leL_flD,renL_flD,seval]) ?_
                refine back_f ?_
                refine rs 1 [] [] (by kernel_rfl) allP_nil ?_
                refine rf [(2,.ptr 1 0)] [(0,.row 26 (Enc.cells d)),(1,.row 29 (Enc.cells r5015)),(2,.row 43 (Enc.cells (ix d.Buckets n7)))] 14 (by kernel_rfl) ?_
                refine wk_id ?_
                refine rt_cast ht10 ?_
                obtain ⟨r0,h,e0⟩:=map_sx h
                have e1:=hr10 r0 e0.symm
                subst r0
                refine rt_cast ht7 ?_
                obtain ⟨r0,h,e0⟩:=map_sx h
                have e1:=hr7 r0 e0.symm
                subst r0
                obtain rfl:=Option.some.inj h
                refine ret_at (.agg (Enc.cells r5015)) (by kernel_rfl) ?_
                exact ret_e [] [] (by simp only [push_cast,leL_flD,renL_flD,seval]) (by simp only [push_cast,leL_flD,renL_flD,seval]) rfl rfl rfl
               ·refine wk_id ?_
                refine chk_sx h (fun g5024 h=>?_)
                refine chk_sx h (fun g5026 h=>?_)
                refine seq_cut (A:=Unit) (fun _=>([(1,.ptr 0 0),(2,.ptr 1 0),(6,bS (xsome7 || ((ix d.Buckets n7).Depth == d.Depth))),(7,iS n7),(8,.ptr 2 0),(10,iS same47),(12,iS i71),(185,bS ((decide ((0:Int) < i71)) && (decide ((ix (ix d.Buckets n7).Items i71).Key≤(ix (ix d.Buckets n7).Items (IntKind.i64.wrap (i71 - 1))).Key))))],[(0,.row 26 (Enc.cells d)),(1,.row 29 [iS 0,iS 0]),(2,.row 43 (Enc.cells (ix d.Buckets n7)))],32)) (fun _=>True) (fun K5021 hK5021=>?_) (fun _ _=>?_)
                ·refine reg_t ?_
                 refine rs 3 [] [] (by kernel_rfl) allP_nil ?_
                 refine run_split 170 (decide ((0:Int) < i71)) (.inl (by kernel_rfl)) (fun g5022=>?_) (fun g5022=>?_)
                 ·have k5023:0≤i71∧i71 < (((ix d.Buckets n7).Items.length:Nat):Int):=by have e:=or_use g5024 (by first | ((try simp only [g5022]) <;> rfl) | ((try simp only [g5022]); rfl) | (exfalso; clear h; simp_all; done)); first | simpa only [Bool.and_eq_true,decide_eq_true_eq,bne_iff_ne,ne_eq] using e | (simp at e ⊢; omega)
                  have k5025:0≤(IntKind.i64.wrap (i71 - 1))∧(IntKind.i64.wrap (i71 - 1)) < (((ix d.Buckets n7).Items.length:Nat):Int):=by have e:=or_use g5026 (by first | ((try simp only [g5022]) <;> rfl) | ((try simp only [g5022]); rfl) | (exfalso; clear h; simp_all; done)); first | simpa only [Bool.and_eq_true,decide_eq_true_eq,bne_iff_ne,ne_eq] using e | (simp at e ⊢; omega)
                  refine rs 15 [none,none,none,some ⟨.iptr (fl (ix d.Buckets n7).Items) ((i71).toNat * 2),[],20,[]⟩,none,some ⟨iS (ix (ix d.Buckets n7).Items i71).Key,[],22,[]⟩,none,none,none,none,some ⟨.iptr (fl (ix d.Buckets n7).Items) (((IntKind.i64.wrap (i71 - 1))).toNat * 2),[],27,[]⟩,none,some ⟨iS (ix (ix d.Buckets n7).Items (IntKind.i64.wrap (i71 - 1))).Key,[],29,[]⟩] _ (by kernel_rfl) (allP_cons (ob_ld (ix d.Buckets n7).Items (IntKind.i64.wrap (i71 - 1)) 2 0 ((((IntKind.i64.wrap (i71 - 1))).toNat * 2) + 0) k5025 rfl (by decide) (by first | rfl | omega) (dflS Try.prog 3) (iS (ix (ix d.Buckets n7).Items (IntKind.i64.wrap (i71 - 1))).Key) rfl 29 []) (allP_cons (ob_ix_l (ix d.Buckets n7).Items 2 27 (IntKind.i64.wrap (i71 - 1)) k5025) (allP_cons (ob_ld (ix d.Buckets n7).Items i71 2 0 (((i71).toNat * 2) + 0) k5023 rfl (by decide) (by first | rfl | omega) (dflS Try.prog 3) (iS (ix (ix d.Buckets n7).Items i71).Key) rfl 22 []) (allP_cons (ob_ix_l (ix d.Buckets n7).Items 2 20 i71 k5023) allP_nil)))) ?_
                  refine rt [(1,.ptr 0 0),(2,.ptr 1 0),(6,bS (xsome7 || ((ix d.Buckets n7).Depth == d.Depth))),(7,iS n7),(8,.ptr 2 0),(10,iS same47),(12,iS i71),(185,bS (decide ((ix (ix d.Buckets n7).Items i71).Key≤(ix (ix d.Buckets n7).Items (IntKind.i64.wrap (i71 - 1))).Key)))] [(0,.row 26 (Enc.cells d)),(1,.row 29 [iS 0,iS 0]),(2,.row 43 (Enc.cells (ix d.Buckets n7)))] 32 follows (by kernel_rfl) ?_
                  exact hK5021 () _ _ _ trivial (leSt_m [(0,0),(1,1),(2,2)] [] (by (try simp only [g5022]) <;> simp only [push_cast,leL_flD,renL_flD,seval]) (by (try simp only [g5022]) <;> simp only [push_cast,leL_flD,renL_flD,seval]) rfl rfl rfl)
                 ·refine rs 15 [] [] (by kernel_rfl) allP_nil ?_
                  refine rt [(1,.ptr 0 0),(2,.ptr 1 0),(6,bS (xsome7 || ((ix d.Buckets n7).Depth == d.Depth))),(7,iS n7),(8,.ptr 2 0),(10,iS same47),(12,iS i71),(185,bS false)] [(0,.row 26 (Enc.cells d)),(1,.row 29 [iS 0,iS 0]),(2,.row 43 (Enc.cells (ix d.Buckets n7)))] 32 follows (by kernel_rfl) ?_
                  exact hK5021 () _ _ _ trivial (leSt_m [(0,0),(1,1),(2,2)] [] (by (try simp only [g5022]) <;> simp only [push_cast,leL_flD,renL_flD,seval]) (by (try simp only [g5022]) <;> simp only [push_cast,leL_flD,renL_flD,seval]) rfl rfl rfl)
                ·dsimp only
                 refine cond_sx h (by kernel_rfl) (fun g5029 h=>?_) (fun g5029 h=>?_)
                 ·refine seq_np ?_
                  refine reg_f ?_
                  refine rs 1 [] [] (by kernel_rfl) allP_nil ?_
                  obtain ⟨r5028,hr5028,h⟩:=bind_sx h
                  refine run_call 20 [iS 10,iS n7] (some 187) (by kernel_rfl) ?_
                  refine call_0 (taskmillref_F_spec 10 n7 r5028 hr5028) (by simp only [push_cast,leL_flD,renL_flD,seval]) (by simp only [push_cast,leL_flD,renL_flD,seval]) ?_
                  refine back_f ?_
                  refine rs 1 [] [] (by kernel_rfl) allP_nil ?_
                  refine rf [(2,.ptr 1 0)] [(0,.row 26 (Enc.cells d)),(1,.row 29 (Enc.cells r5028)),(2,.row 43 (Enc.cells (ix d.Buckets n7)))] 32 (by kernel_rfl) ?_
                  refine wk_id ?_
                  refine rt_cast ht10 ?_
                  obtain ⟨r0,h,e0⟩:=map_sx h
                  have e1:=hr10 r0 e0.symm
                  subst r0
                  refine rt_cast ht7 ?_
                  obtain ⟨r0,h,e0⟩:=map_sx h
                  have e1:=hr7 r0 e0.symm
                  subst r0
                  obtain rfl:=Option.some.inj h
                  refine ret_at (.agg (Enc.cells r5028)) (by kernel_rfl) ?_
                  exact ret_e [] [] (by simp only [push_cast,leL_flD,renL_flD,seval]) (by simp only [push_cast,leL_flD,renL_flD,seval]) rfl rfl rfl
                 ·refine wk_id ?_
                  refine wk_id ?_
                  refine reg_f ?_
                  refine rs 3 [] [] (by kernel_rfl) allP_nil ?_
                  refine rf [(1,.ptr 0 0),(2,.ptr 1 0),(6,bS (xsome7 || ((ix d.Buckets n7).Depth == d.Depth))),(7,iS n7),(8,.ptr 2 0),(10,iS same47),(12,iS (IntKind.i64.wrap (i71 + 1)))] [(0,.row 26 (Enc.cells d)),(1,.row 29 [iS 0,iS 0]),(2,.row 43 (Enc.cells (ix d.Buckets n7)))] 32 (by kernel_rfl) ?_
                  exact hn10 ((IntKind.i64.wrap (i71 + 1))) _ _ _ (Option.some.inj h).symm (leSt_m [(0,0),(1,1),(2,2)] [] (by simp only [push_cast,leL_flD,renL_flD,seval]) (by simp only [push_cast,leL_flD,renL_flD,seval]) rfl rfl rfl)
              ·change R10 (.exit 8) _ _ _
               refine ex_cast hx10 (id:=8) ?_
               obtain ⟨r0,h,e0⟩:=map_sx h
               have e1:=hr10 r0 e0.symm
               subst r0
               refine wk_id ?_
               refine wk_id ?_
               refine seq_np ?_
               refine reg_f ?_
               refine rs 4 [] [] (by kernel_rfl) allP_nil ?_
               refine rf [(1,.ptr 0 0),(2,.ptr 1 0),(6,bS (xsome7 || ((ix d.Buckets n7).Depth == d.Depth))),(7,iS n7),(191,bS (decide ((5000:Int) < (((ix d.Buckets n7).Items.length:Nat):Int))))] [(0,.row 26 (Enc.cells d)),(1,.row 29 [iS 0,iS 0]),(2,.row 43 (Enc.cells (ix d.Buckets n7)))] 3 (by kernel_rfl) ?_
               refine wk_id ?_
               refine cond_sx h (by kernel_rfl) (fun g5033 h=>?_) (fun g5033 h=>?_)
               ·refine seq_np ?_
                refine reg_f ?_
                refine rs 1 [] [] (by kernel_rfl) allP_nil ?_
                obtain ⟨r5032,hr5032,h⟩:=bind_sx h
                refine run_call 20 [iS 9,iS n7] (some 193) (by kernel_rfl) ?_
                refine call_0 (taskmillref_F_spec 9 n7 r5032 hr5032) (by simp only [push_cast,leL_flD,renL_flD,seval]) (by simp only [push_cast,leL_flD,renL_flD,seval]) ?_
                refine back_f ?_
                refine rs 1 [] [] (by kernel_rfl) allP_nil ?_
                refine rf [(2,.ptr 1 0)] [(0,.row 26 (Enc.cells d)),(1,.row 29 (Enc.cells r5032)),(2,.row 43 (Enc.cells (ix d.Buckets n7)))] 3 (by kernel_rfl) ?_
                refine wk_id ?_
                refine rt_cast ht7 ?_
                obtain ⟨r0,h,e0⟩:=map_sx h
                have e1:=hr7 r0 e0.symm
                subst r0
                obtain rfl:=Option.some.inj h
                refine ret_at (.agg (Enc.cells r5032)) (by kernel_rfl) ?_
                exact ret_e [] [] (by simp only [push_cast,leL_flD,renL_flD,seval]) (by simp only [push_cast,leL_flD,renL_flD,seval]) rfl rfl rfl
               ·refine wk_id ?_
                refine wk_id ?_
                refine reg_f ?_
                refine rs 3 [] [] (by kernel_rfl) allP_nil ?_
                refine rf [(1,.ptr 0 0),(2,.ptr 1 0),(6,bS (xsome7 || ((ix d.Buckets n7).Depth == d.Depth))),(7,iS (IntKind.i64.wrap (n7 + 1)))] [(0,.row 26 (Enc.cells d)),(1,.row 29 [iS 0,iS 0]),(2,.row 43 (Enc.cells (ix d.Buckets n7)))] 3 (by kernel_rfl) ?_
                exact hn7 ((xsome7 || ((ix d.Buckets n7).Depth == d.Depth)),(IntKind.i64.wrap (n7 + 1))) _ _ _ (Option.some.inj h).symm (leSt_m [(0,0),(1,1)] [] (by simp only [push_cast,leL_flD,renL_flD,seval]) (by simp only [push_cast,leL_flD,renL_flD,seval]) rfl rfl rfl)
      ·change R7 (.exit 2) _ _ _
       refine ex_cast hx7 (id:=2) ?_
       obtain ⟨r0,h,e0⟩:=map_sx h
       have e1:=hr7 r0 e0.symm
       subst r0
       refine wk_id ?_
       refine wk_id ?_
       refine seq_np ?_
       refine seq_cut (A:=Unit) (fun _=>([(2,.ptr 1 0),(200,bS ((decide ((0:Int) < d.Depth)) && (!xsome7)))],[(0,.row 26 (Enc.cells d)),(1,.row 29 [iS 0,iS 0])],2)) (fun _=>True) (fun K5043 hK5043=>?_) (fun _ _=>?_)
       ·refine reg_f ?_
        refine rs 4 [] [] (by kernel_rfl) allP_nil ?_
        refine run_split 197 (decide ((0:Int) < d.Depth)) (.inl (by kernel_rfl)) (fun g5044=>?_) (fun g5044=>?_)
        ·refine rs 3 [] [] (by kernel_rfl) allP_nil ?_
         refine rf [(2,.ptr 1 0),(200,bS (!xsome7))] [(0,.row 26 (Enc.cells d)),(1,.row 29 [iS 0,iS 0])] 2 (by kernel_rfl) ?_
         exact hK5043 () _ _ _ trivial (leSt_m [(0,0),(1,1)] [] (by (try simp only [g5044]) <;> simp only [push_cast,leL_flD,renL_flD,seval]) (by (try simp only [g5044]) <;> simp only [push_cast,leL_flD,renL_flD,seval]) rfl rfl rfl)
        ·refine rs 3 [] [] (by kernel_rfl) allP_nil ?_
         refine rf [(2,.ptr 1 0),(200,bS false)] [(0,.row 26 (Enc.cells d)),(1,.row 29 [iS 0,iS 0])] 2 (by kernel_rfl) ?_
         exact hK5043 () _ _ _ trivial (leSt_m [(0,0),(1,1)] [] (by (try simp only [g5044]) <;> simp only [push_cast,leL_flD,renL_flD,seval]) (by (try simp only [g5044]) <;> simp only [push_cast,leL_flD,renL_flD,seval]) rfl rfl rfl)
       ·dsimp only
        refine cond_sx h (by kernel_rfl) (fun g5047 h=>?_) (fun g5047 h=>?_)
        ·refine seq_np ?_
         refine reg_f ?_
         obtain ⟨r5046,hr5046,h⟩:=bind_sx h
         refine run_call 20 [iS 7,iS (-1)] (some 201) (by kernel_rfl) ?_
         refine call_0 (taskmillref_F_spec 7 (-1) r5046 hr5046) (by simp only [push_cast,leL_flD,renL_flD,seval]) (by simp only [push_cast,leL_flD,renL_flD,seval]) ?_
         refine back_f ?_
         refine rs 1 [] [] (by kernel_rfl) allP_nil ?_
         refine rf [(2,.ptr 1 0)] [(0,.row 26 (Enc.cells d)),(1,.row 29 (Enc.cells r5046))] 2 (by kernel_rfl) ?_
         refine wk_id ?_
         obtain rfl:=Option.some.inj h
         refine ret_at (.agg (Enc.cells r5046)) (by kernel_rfl) ?_
         exact ret_e [] [] (by simp only [push_cast,leL_flD,renL_flD,seval]) (by simp only [push_cast,leL_flD,renL_flD,seval]) rfl rfl rfl
        ·refine wk_id ?_
         refine seq_np ?_
         refine reg_f ?_
         refine rs 2 [] [] (by kernel_rfl) allP_nil ?_
         refine rf [(2,.ptr 1 0)] [(0,.row 26 (Enc.cells d)),(1,.row 29 [iS 0,iS 0])] 2 (by kernel_rfl) ?_
         refine wk_id ?_
         obtain rfl:=Option.some.inj h
         refine ret_at (.agg [iS 0,iS 0]) (by kernel_rfl) ?_
         exact ret_e [] [] (by simp only [push_cast,leL_flD,renL_flD,seval]) (by simp only [push_cast,leL_flD,renL_flD,seval]) rfl rfl rfl

set_option maxRecDepth 100000 in
set_option maxHeartbeats 200000000 in
theorem taskmillref_PutItem_spec (l:(List GItem)) (x:GItem) (r:(List GItem)) (h:taskmillref_PutItem l x = some r):SpecW Try.prog 26 [.sl l.length (fl l),.agg (Enc.cells x)] [] 0 (fun x h n=>x = .own 0 0 r.length∧h = [(0,.row 45 (fl r))]∧n = 1):=by
 unfold taskmillref_PutItem at h
 refine spec_of (draw_ok _) Try.func26 rfl (by decide) rfl (by kernel_rfl) ?_
 refine seq_np ?_
 refine reg_f ?_
 refine rs 2 [] [] (by kernel_rfl) allP_nil ?_
 refine rf [(0,.sl l.length (fl l)),(3,.ptr 0 0)] [(0,.row 45 (Enc.cells x))] 1 (by kernel_rfl) ?_
 refine wk_id ?_
 refine seq_np ?_
 refine reg_f ?_
 refine rs 1 [] [] (by kernel_rfl) allP_nil ?_
 refine rf [(0,.sl l.length (fl l)),(3,.ptr 0 0),(5,iS 0)] [(0,.row 45 (Enc.cells x))] 1 (by kernel_rfl) ?_
 refine wk_id ?_
 refine seq_np ?_
 refine block_np ?_
 refine loop_sx (S:=Int) (fun a=>([(0,.sl l.length (fl l)),(3,.ptr 0 0),(5,iS a)],[(0,.row 45 (Enc.cells x))],1)) h (leSt_m [(0,0)] [] (by simp only [push_cast,leL_flD,renL_flD,seval]) (by simp only [push_cast,leL_flD,renL_flD,seval]) rfl rfl rfl) ?_
 rintro k7 o2 R2 h hr2 hn2 hx2 ht2
 try dsimp only at h hn2 ⊢
 unfold taskmillref_PutItem_l1 at h
 try dsimp only at h
 refine seq_np ?_
 refine chk_sx h (fun g5148 h=>?_)
 refine seq_cut (A:=Unit) (fun _=>([(0,.sl l.length (fl l)),(3,.ptr 0 0),(5,iS k7),(20,bS ((decide (k7 < ((l.length:Nat):Int))) && (decide ((ix l k7).Key < x.Key))))],[(0,.row 45 (Enc.cells x))],15)) (fun _=>True) (fun K5145 hK5145=>?_) (fun _ _=>?_)
 ·refine reg_t ?_
  refine rs 5 [] [] (by kernel_rfl) allP_nil ?_
  refine run_split 11 (decide (k7 < ((l.length:Nat):Int))) (.inl (by kernel_rfl)) (fun g5146=>?_) (fun g5146=>?_)
  ·have k5147:0≤k7∧k7 < ((l.length:Nat):Int):=by have e:=or_use g5148 (by first | ((try simp only [g5146]) <;> rfl) | ((try simp only [g5146]); rfl) | (exfalso; clear h; simp_all; done)); first | simpa only [Bool.and_eq_true,decide_eq_true_eq,bne_iff_ne,ne_eq] using e | (simp at e ⊢; omega)
   refine rs 9 [none,none,some ⟨.iptr (fl l) ((k7).toNat * 2),[],8,[]⟩,none,some ⟨iS (ix l k7).Key,[],10,[]⟩] _ (by kernel_rfl) (allP_cons (ob_ld l k7 2 0 (((k7).toNat * 2) + 0) k5147 rfl (by decide) (by first | rfl | omega) (dflS Try.prog 3) (iS (ix l k7).Key) rfl 10 []) (allP_cons (ob_ix_l l 2 8 k7 k5147) allP_nil)) ?_
   refine rt [(0,.sl l.length (fl l)),(3,.ptr 0 0),(5,iS k7),(20,bS (decide ((ix l k7).Key < x.Key)))] [(0,.row 45 (Enc.cells x))] 15 follows (by kernel_rfl) ?_
   exact hK5145 () _ _ _ trivial (leSt_m [(0,0)] [] (by (try simp only [g5146]) <;> simp only [push_cast,leL_flD,renL_flD,seval]) (by (try simp only [g5146]) <;> simp only [push_cast,leL_flD,renL_flD,seval]) rfl rfl rfl)
  ·refine rs 9 [] [] (by kernel_rfl) allP_nil ?_
   refine rt [(0,.sl l.length (fl l)),(3,.ptr 0 0),(5,iS k7),(20,bS false)] [(0,.row 45 (Enc.cells x))] 15 follows (by kernel_rfl) ?_
   exact hK5145 () _ _ _ trivial (leSt_m [(0,0)] [] (by (try simp only [g5146]) <;> simp only [push_cast,leL_flD,renL_flD,seval]) (by (try simp only [g5146]) <;> simp only [push_cast,leL_flD,renL_flD,seval]) rfl rfl rfl)
 ·dsimp only
  refine cond_sx h (by kernel_rfl) (fun g5193 h=>?_) (fun g5193 h=>?_)
  ·refine wk_id ?_
   refine block_np ?_
   refine reg_f ?_
   refine rs 3 [] [] (by kernel_rfl) allP_nil ?_
   refine rf [(0,.sl l.length (fl l)),(3,.ptr 0 0),(5,iS (IntKind.i64.wrap (k7 + 1)))] [(0,.row 45 (Enc.cells x))] 15 (by kernel_rfl) ?_
   refine wk_id ?_
   exact hn2 ((IntKind.i64.wrap (k7 + 1))) _ _ _ (Option.some.inj h).symm (leSt_m [(0,0)] [] (by simp only [push_cast,leL_flD,renL_flD,seval]) (by simp only [push_cast,leL_flD,renL_flD,seval]) rfl rfl rfl)
  ·change R2 (.exit 0) _ _ _
   refine ex_cast hx2 (id:=0) ?_
   obtain ⟨r0,h,e0⟩:=map_sx h
   have e1:=hr2 r0 e0.symm
   subst r0
   refine wk_id ?_
   refine wk_id ?_
   refine seq_np ?_
   refine chk_sx h (fun g5163 h=>?_)
   refine seq_cut (A:=Unit) (fun _=>([(0,.sl l.length (fl l)),(3,.ptr 0 0),(5,iS k7),(36,bS ((decide (k7 < ((l.length:Nat):Int))) && ((ix l k7).Key == x.Key)))],[(0,.row 45 (Enc.cells x))],29)) (fun _=>True) (fun K5160 hK5160=>?_) (fun _ _=>?_)
   ·refine reg_t ?_
    refine rs 5 [] [] (by kernel_rfl) allP_nil ?_
    refine run_split 27 (decide (k7 < ((l.length:Nat):Int))) (.inl (by kernel_rfl)) (fun g5161=>?_) (fun g5161=>?_)
    ·have k5162:0≤k7∧k7 < ((l.length:Nat):Int):=by have e:=or_use g5163 (by first | ((try simp only [g5161]) <;> rfl) | ((try simp only [g5161]); rfl) | (exfalso; clear h; simp_all; done)); first | simpa only [Bool.and_eq_true,decide_eq_true_eq,bne_iff_ne,ne_eq] using e | (simp at e ⊢; omega)
     refine rs 9 [none,none,some ⟨.iptr (fl l) ((k7).toNat * 2),[],22,[]⟩,none,some ⟨iS (ix l k7).Key,[],24,[]⟩] _ (by kernel_rfl) (allP_cons (ob_ld l k7 2 0 (((k7).toNat * 2) + 0) k5162 rfl (by decide) (by first | rfl | omega) (dflS Try.prog 3) (iS (ix l k7).Key) rfl 24 []) (allP_cons (ob_ix_l l 2 22 k7 k5162) allP_nil)) ?_
     refine rt [(0,.sl l.length (fl l)),(3,.ptr 0 0),(5,iS k7),(36,bS ((ix l k7).Key == x.Key))] [(0,.row 45 (Enc.cells x))] 29 follows (by kernel_rfl) ?_
     exact hK5160 () _ _ _ trivial (leSt_m [(0,0)] [] (by (try simp only [g5161]) <;> simp only [push_cast,leL_flD,renL_flD,seval]) (by (try simp only [g5161]) <;> simp only [push_cast,leL_flD,renL_flD,seval]) rfl rfl rfl)
    ·refine rs 9 [] [] (by kernel_rfl) allP_nil ?_
     refine rt [(0,.sl l.length (fl l)),(3,.ptr 0 0),(5,iS k7),(36,bS false)] [(0,.row 45 (Enc.cells x))] 29 follows (by kernel_rfl) ?_
     exact hK5160 () _ _ _ trivial (leSt_m [(0,0)] [] (by (try simp only [g5161]) <;> simp only [push_cast,leL_flD,renL_flD,seval]) (by (try simp only [g5161]) <;> simp only [push_cast,leL_flD,renL_flD,seval]) rfl rfl rfl)
   ·dsimp only
    refine cond_sx h (by kernel_rfl) (fun g5192 h=>?_) (fun g5192 h=>?_)
    ·refine chk_sx h (fun g5167 h=>?_)
     refine seq_np ?_
     refine reg_f ?_
     have k5166:l.length * 16≤140737488355328:=by first | simpa only [Bool.and_eq_true,decide_eq_true_eq,bne_iff_ne,ne_eq] using g5167 | (simp at g5167 ⊢; omega)
     refine rs 3 [none,some ⟨.own 29 0 l.length,[(29,.row 45 (fl l))],30,[]⟩] _ (by kernel_rfl) (allP_cons (ob_app0 (P:=Try.prog) l 2 16 rfl (fl l) l.length rfl rfl ((fl l).length = l.length * 2) (app_sl l 2 rfl) 45 (by kernel_rfl) (by decide) k5166 29 []) allP_nil) ?_
     refine rf [(3,.ptr 0 0),(5,iS k7),(6,.own 29 0 l.length)] [(0,.row 45 (Enc.cells x)),(29,.row 45 (fl l))] 30 (by kernel_rfl) ?_
     refine wk_id ?_
     refine chk_sx h (fun g5171 h=>?_)
     refine seq_np ?_
     refine reg_f ?_
     have k5170:0≤k7∧k7 < ((l.length:Nat):Int):=by first | simpa only [Bool.and_eq_true,decide_eq_true_eq,bne_iff_ne,ne_eq] using g5171 | (simp at g5171 ⊢; omega)
     refine rs 5 [none,none,none,some ⟨.ptr 29 (0 + (k7).toNat * 2),[],30,[29]⟩,some ⟨.any,[(29,.row 45 (fl (l.set k7.toNat (x:GItem))))],30,[29]⟩] _ (by kernel_rfl) (allP_cons (ob_st (P:=Try.prog) l k7 2 0 (0 + (k7).toNat * 2) k5170 rfl [iS x.Key,iS x.Value] (x:GItem) (Nat.le_of_ble_eq_true rfl) (by first | rfl | omega) rfl 29 30 45 45 (by kernel_rfl) rfl) (allP_cons (ob_ix_o 29 l.length 0 2 30 k7 k5170) allP_nil)) ?_
     refine run_eqF 6 (.own 29 0 l.length) (.own 29 0 (l.set k7.toNat (x:GItem)).length) (congrArg (fun nq=>(.own 29 0 nq:SV)) (show l.length = (l.set k7.toNat (x:GItem)).length from (List.length_set ..).symm)) (by kernel_rfl) ?_
     refine rf [(6,.own 29 0 (l.set k7.toNat (x:GItem)).length)] [(0,.row 45 (Enc.cells x)),(29,.row 45 (fl (l.set k7.toNat (x:GItem))))] 30 (by kernel_rfl) ?_
     refine wk_id ?_
     refine seq_np ?_
     refine reg_f ?_
     refine rs 2 [] [] (by kernel_rfl) allP_nil ?_
     refine rf [(4,.own 29 0 (l.set k7.toNat (x:GItem)).length)] [(0,.row 45 (Enc.cells x)),(29,.row 45 (fl (l.set k7.toNat (x:GItem))))] 30 (by kernel_rfl) ?_
     refine wk_id ?_
     obtain rfl:=Option.some.inj h
     refine ret_at (.own 29 0 (l.set k7.toNat (x:GItem)).length) (by kernel_rfl) ?_
     exact ret_e [(0,29)] [] (by simp only [push_cast,leL_flD,renL_flD,seval]) (by simp only [push_cast,leL_flD,renL_flD,seval]) rfl rfl rfl
    ·refine wk_id ?_
     refine chk_sx h (fun g5183 h=>?_)
     refine chk_sx h (fun g5185 h=>?_)
     refine chk_sx h (fun g5187 h=>?_)
     refine chk_sx h (fun g5189 h=>?_)
     refine chk_sx h (fun g5191 h=>?_)
     refine seq_np ?_
     refine reg_t ?_
     have k5182:0≤(0:Int)∧(0:Int)≤k7∧k7≤((l.length:Nat):Int):=by first | simpa only [Bool.and_eq_true,decide_eq_true_eq,bne_iff_ne,ne_eq] using g5183 | (simp at g5183 ⊢; omega)
     have k5184:(cut l (0:Int) k7).length * 16≤140737488355328:=by first | simpa only [Bool.and_eq_true,decide_eq_true_eq,bne_iff_ne,ne_eq] using g5185 | (simp at g5185 ⊢; omega)
     have k5186:((cut l (0:Int) k7) ++ ([x]:List GItem)).length * 16≤140737488355328:=by first | simpa only [Bool.and_eq_true,decide_eq_true_eq,bne_iff_ne,ne_eq] using g5187 | (simp at g5187 ⊢; omega)
     have k5188:0≤k7∧k7≤((l.length:Nat):Int)∧((l.length:Nat):Int)≤((l.length:Nat):Int):=by first | simpa only [Bool.and_eq_true,decide_eq_true_eq,bne_iff_ne,ne_eq] using g5189 | (simp at g5189 ⊢; omega)
     have k5190:(((cut l (0:Int) k7) ++ ([x]:List GItem)) ++ (cut l k7 ((l.length:Nat):Int))).length * 16≤140737488355328:=by first | simpa only [Bool.and_eq_true,decide_eq_true_eq,bne_iff_ne,ne_eq] using g5191 | (simp at g5191 ⊢; omega)
     refine rs 12 [none,none,some ⟨.sl (cut l (0:Int) k7).length (fl (cut l (0:Int) k7)),[],31,[]⟩,some ⟨.own 32 0 (cut l (0:Int) k7).length,[(32,.row 45 (fl (cut l (0:Int) k7)))],33,[]⟩,none,none,some ⟨.own 37 0 ((cut l (0:Int) k7) ++ ([x]:List GItem)).length,[(37,.row 45 (fl ((cut l (0:Int) k7) ++ ([x]:List GItem)))),(32,.dead)],38,[32,35]⟩,none,none,some ⟨.sl (cut l k7 ((l.length:Nat):Int)).length (fl (cut l k7 ((l.length:Nat):Int))),[],41,[]⟩,some ⟨.own 42 0 (((cut l (0:Int) k7) ++ ([x]:List GItem)) ++ (cut l k7 ((l.length:Nat):Int))).length,[(42,.row 45 (fl (((cut l (0:Int) k7) ++ ([x]:List GItem)) ++ (cut l k7 ((l.length:Nat):Int))))),(37,.dead)],43,[37]⟩] _ (by kernel_rfl) (allP_cons (ob_app (P:=Try.prog) ((cut l (0:Int) k7) ++ ([x]:List GItem)) (cut l k7 ((l.length:Nat):Int)) 2 16 rfl (fl (cut l k7 ((l.length:Nat):Int))) (cut l k7 ((l.length:Nat):Int)).length rfl rfl ((fl (cut l k7 ((l.length:Nat):Int))).length = (cut l k7 ((l.length:Nat):Int)).length * 2) (app_sl (cut l k7 ((l.length:Nat):Int)) 2 rfl) 45 (by kernel_rfl) (by decide) k5190 37 42 []) (allP_cons (ob_cut l k7 ((l.length:Nat):Int) 2 41 rfl k5188) (allP_cons (ob_app (P:=Try.prog) (cut l (0:Int) k7) ([x]:List GItem) 2 16 rfl (appCells (fl ([x]:List GItem)) 0 (([x]:List GItem).length * 2)) ([x]:List GItem).length (app_own ([x]:List GItem) 2 rfl) rfl (0 + ([x]:List GItem).length * 2≤(fl ([x]:List GItem)).length) (app_own_le ([x]:List GItem) 2 rfl) 45 (by kernel_rfl) (by decide) k5186 32 37 [35]) (allP_cons (ob_app0 (P:=Try.prog) (cut l (0:Int) k7) 2 16 rfl (fl (cut l (0:Int) k7)) (cut l (0:Int) k7).length rfl rfl ((fl (cut l (0:Int) k7)).length = (cut l (0:Int) k7).length * 2) (app_sl (cut l (0:Int) k7) 2 rfl) 45 (by kernel_rfl) (by decide) k5184 32 []) (allP_cons (ob_cut l (0:Int) k7 2 31 rfl k5182) allP_nil))))) ?_
     refine rt [(4,.own 42 0 (((cut l (0:Int) k7) ++ ([x]:List GItem)) ++ (cut l k7 ((l.length:Nat):Int))).length)] [(0,.row 45 (Enc.cells x)),(32,.dead),(35,.row 45 (fl ([x]:List GItem))),(37,.dead),(42,.row 45 (fl (((cut l (0:Int) k7) ++ ([x]:List GItem)) ++ (cut l k7 ((l.length:Nat):Int)))))] 45 follows (by kernel_rfl) ?_
     refine wk_id ?_
     obtain rfl:=Option.some.inj h
     refine ret_at (.own 42 0 (((cut l (0:Int) k7) ++ ([x]:List GItem)) ++ (cut l k7 ((l.length:Nat):Int))).length) (by kernel_rfl) ?_
     exact ret_e [(0,42)] [] (by simp only [push_cast,leL_flD,renL_flD,seval]) (by simp only [push_cast,leL_flD,renL_flD,seval]) rfl rfl rfl

set_option maxRecDepth 100000 in
set_option maxHeartbeats 200000000 in
theorem taskmillref_ItemsOf_spec (d:Dict) (r:(List GItem)) (h:taskmillref_ItemsOf d = some r):SpecW Try.prog 17 [.agg (Enc.cells d)] [] 0 (fun x h n=>x = .own 0 0 r.length∧h = [(0,.row 45 (fl r))]∧n = 1):=by
 unfold taskmillref_ItemsOf at h
 refine spec_of (draw_ok _) Try.func17 rfl (by decide) rfl (by kernel_rfl) ?_
 refine seq_np ?_
 refine reg_f ?_
 refine rs 2 [] [] (by kernel_rfl) allP_nil ?_
 refine rf [(1,.ptr 0 0)] [(0,.row 26 (Enc.cells d))] 1 (by kernel_rfl) ?_
 refine wk_id ?_
 refine seq_np ?_
 refine reg_f ?_
 refine rs 1 [] [] (by kernel_rfl) allP_nil ?_
 refine rf [(1,.ptr 0 0),(3,.v (.slice none 0 0))] [(0,.row 26 (Enc.cells d))] 1 (by kernel_rfl) ?_
 refine wk_id ?_
 refine seq_np ?_
 refine seq_np ?_
 refine reg_f ?_
 refine rs 1 [] [] (by kernel_rfl) allP_nil ?_
 refine rf [(1,.ptr 0 0),(3,.v (.slice none 0 0)),(4,iS 0)] [(0,.row 26 (Enc.cells d))] 1 (by kernel_rfl) ?_
 refine wk_id ?_
 refine block_np ?_
 refine loop_sx (S:=Int × (List GItem)) (fun a=>([(1,.ptr 0 0),(3,.own 1 0 a.2.length),(4,iS a.1)],[(0,.row 26 (Enc.cells d)),(1,.row 45 (fl a.2))],2)) h (leSt_m [(0,0)] [] (by simp only [push_cast,leL_flD,renL_flD,seval]) (by simp only [push_cast,leL_flD,renL_flD,seval]) rfl rfl rfl) ?_
 rintro ⟨n7,c1q29⟩ o3 R3 h hr3 hn3 hx3 ht3
 try dsimp only at h hn3 ⊢
 unfold taskmillref_ItemsOf_l2 at h
 try dsimp only at h
 refine seq_np ?_
 refine seq_np ?_
 refine reg_f ?_
 refine rs 5 [] [] (by kernel_rfl) allP_nil ?_
 refine rf [(1,.ptr 0 0),(3,.own 1 0 c1q29.length),(4,iS n7),(10,bS (decide (n7 < ((d.Buckets.length:Nat):Int))))] [(0,.row 26 (Enc.cells d)),(1,.row 45 (fl c1q29))] 2 (by kernel_rfl) ?_
 refine wk_id ?_
 refine cond_sx h (by kernel_rfl) (fun g5597 h=>?_) (fun g5597 h=>?_)
 ·refine wk_id ?_
  refine seq_np ?_
  refine block_np ?_
  refine seq_np ?_
  refine reg_f ?_
  refine rs 1 [] [] (by kernel_rfl) allP_nil ?_
  refine rf [(1,.ptr 0 0),(3,.own 1 0 c1q29.length),(4,iS n7),(5,iS 0)] [(0,.row 26 (Enc.cells d)),(1,.row 45 (fl c1q29))] 2 (by kernel_rfl) ?_
  refine wk_id ?_
  refine block_np ?_
  refine loop_sx (S:=Int × (List GItem)) (fun a=>([(1,.ptr 0 0),(3,.own 1 0 a.2.length),(4,iS n7),(5,iS a.1)],[(0,.row 26 (Enc.cells d)),(1,.row 45 (fl a.2))],2)) h (leSt_m [(0,0),(1,1)] [] (by simp only [push_cast,leL_flD,renL_flD,seval]) (by simp only [push_cast,leL_flD,renL_flD,seval]) rfl rfl rfl) ?_
  rintro ⟨i29,c1q37⟩ o4 R4 h hr4 hn4 hx4 ht4
  try dsimp only at h hn4 ⊢
  unfold taskmillref_ItemsOf_l1 at h
  try dsimp only at h
  refine seq_np ?_
  refine chk_sx h (fun g5575 h=>?_)
  refine seq_np ?_
  refine reg_f ?_
  have k5574:0≤n7∧n7 < ((d.Buckets.length:Nat):Int):=by first | simpa only [Bool.and_eq_true,decide_eq_true_eq,bne_iff_ne,ne_eq] using g5575 | (simp at g5575 ⊢; omega)
  refine rs 9 [none,none,none,none,some ⟨.iptr (fl d.Buckets) ((n7).toNat * 2),[],2,[]⟩,none,some ⟨.sl (ix d.Buckets n7).Items.length (fl (ix d.Buckets n7).Items),[],2,[]⟩] _ (by kernel_rfl) (allP_cons (ob_ld d.Buckets n7 2 1 (((n7).toNat * 2) + 1) k5574 rfl (by decide) (by first | rfl | omega) (dflS Try.prog 40) (.sl (ix d.Buckets n7).Items.length (fl (ix d.Buckets n7).Items)) rfl 2 []) (allP_cons (ob_ix_l d.Buckets 2 2 n7 k5574) allP_nil)) ?_
  refine rf [(1,.ptr 0 0),(3,.own 1 0 c1q37.length),(4,iS n7),(5,iS i29),(21,bS (decide (i29 < (((ix d.Buckets n7).Items.length:Nat):Int))))] [(0,.row 26 (Enc.cells d)),(1,.row 45 (fl c1q37))] 2 (by kernel_rfl) ?_
  refine wk_id ?_
  refine cond_sx h (by kernel_rfl) (fun g5596 h=>?_) (fun g5596 h=>?_)
  ·refine wk_id ?_
   refine seq_np ?_
   refine block_np ?_
   refine chk_sx h (fun g5592 h=>?_)
   refine chk_sx h (fun g5594 h=>?_)
   refine reg_f ?_
   have k5591:0≤n7∧n7 < ((d.Buckets.length:Nat):Int):=by first | simpa only [Bool.and_eq_true,decide_eq_true_eq,bne_iff_ne,ne_eq] using g5592 | (simp at g5592 ⊢; omega)
   have k5593:0≤i29∧i29 < (((ix d.Buckets n7).Items.length:Nat):Int):=by first | simpa only [Bool.and_eq_true,decide_eq_true_eq,bne_iff_ne,ne_eq] using g5594 | (simp at g5594 ⊢; omega)
   refine rs 10 [none,none,none,none,some ⟨.iptr (fl d.Buckets) ((n7).toNat * 2),[],2,[]⟩,none,some ⟨.sl (ix d.Buckets n7).Items.length (fl (ix d.Buckets n7).Items),[],2,[]⟩,none,some ⟨.iptr (fl (ix d.Buckets n7).Items) ((i29).toNat * 2),[],2,[]⟩,some ⟨.agg (Enc.cells (ix (ix d.Buckets n7).Items i29)),[],2,[]⟩] _ (by kernel_rfl) (allP_cons (ob_ldw (ix d.Buckets n7).Items i29 2 ((i29).toNat * 2) k5593 rfl (by first | rfl | omega) [iS (ix (ix d.Buckets n7).Items i29).Key,iS (ix (ix d.Buckets n7).Items i29).Value] rfl 2 []) (allP_cons (ob_ix_l (ix d.Buckets n7).Items 2 2 i29 k5593) (allP_cons (ob_ld d.Buckets n7 2 1 (((n7).toNat * 2) + 1) k5591 rfl (by decide) (by first | rfl | omega) (dflS Try.prog 40) (.sl (ix d.Buckets n7).Items.length (fl (ix d.Buckets n7).Items)) rfl 2 []) (allP_cons (ob_ix_l d.Buckets 2 2 n7 k5591) allP_nil)))) ?_
   obtain ⟨r5595,hr5595,h⟩:=bind_sx h
   refine call_x (taskmillref_PutItem_spec c1q37 (ix (ix d.Buckets n7).Items i29) r5595 hr5595) (args:=[.own 1 0 c1q37.length,.agg (Enc.cells (ix (ix d.Buckets n7).Items i29))]) (dst:=(some 34)) (by kernel_rfl) [(0,.row 26 (Enc.cells d)),(1,.row 45 (fl c1q37))] 2 (by kernel_rfl) [] [1] (.own 2 0 r5595.length) [(2,.row 45 (fl r5595))] (by simp only [push_cast,leL_flD,renL_flD,seval]) (by simp only [push_cast,leL_flD,renL_flD,seval]) (by kernel_rfl) (.inr ⟨by simp only [push_cast,leL_flD,renL_flD,seval],by simp only [push_cast,leL_flD,renL_flD,seval]⟩) (by simp only [push_cast,leL_flD,renL_flD,seval]) (by simp only [push_cast,leL_flD,renL_flD,seval]) ?_
   refine rs 1 [] [] (by kernel_rfl) allP_nil ?_
   refine rf [(1,.ptr 0 0),(3,.own 2 0 r5595.length),(4,iS n7),(5,iS i29)] [(0,.row 26 (Enc.cells d)),(1,.row 45 (fl c1q37)),(2,.row 45 (fl r5595))] 3 (by kernel_rfl) ?_
   refine wk_id ?_
   refine wk_id ?_
   refine reg_f ?_
   refine rs 3 [] [] (by kernel_rfl) allP_nil ?_
   refine rf [(1,.ptr 0 0),(3,.own 2 0 r5595.length),(4,iS n7),(5,iS (IntKind.i64.wrap (i29 + 1)))] [(0,.row 26 (Enc.cells d)),(1,.row 45 (fl c1q37)),(2,.row 45 (fl r5595))] 3 (by kernel_rfl) ?_
   exact hn4 ((IntKind.i64.wrap (i29 + 1)),r5595) _ _ _ (Option.some.inj h).symm (leSt_m [(0,0),(1,2)] [] (by simp only [push_cast,leL_flD,renL_flD,seval]) (by simp only [push_cast,leL_flD,renL_flD,seval]) rfl rfl rfl)
  ·change R4 (.exit 2) _ _ _
   refine ex_cast hx4 (id:=2) ?_
   obtain ⟨r0,h,e0⟩:=map_sx h
   have e1:=hr4 r0 e0.symm
   subst r0
   refine wk_id ?_
   refine wk_id ?_
   refine wk_id ?_
   refine reg_f ?_
   refine rs 3 [] [] (by kernel_rfl) allP_nil ?_
   refine rf [(1,.ptr 0 0),(3,.own 1 0 c1q37.length),(4,iS (IntKind.i64.wrap (n7 + 1)))] [(0,.row 26 (Enc.cells d)),(1,.row 45 (fl c1q37))] 2 (by kernel_rfl) ?_
   exact hn3 ((IntKind.i64.wrap (n7 + 1)),c1q37) _ _ _ (Option.some.inj h).symm (leSt_m [(0,0),(1,1)] [] (by simp only [push_cast,leL_flD,renL_flD,seval]) (by simp only [push_cast,leL_flD,renL_flD,seval]) rfl rfl rfl)
 ·change R3 (.exit 0) _ _ _
  refine ex_cast hx3 (id:=0) ?_
  obtain ⟨r0,h,e0⟩:=map_sx h
  have e1:=hr3 r0 e0.symm
  subst r0
  refine wk_id ?_
  refine wk_id ?_
  refine seq_np ?_
  refine reg_f ?_
  refine rs 2 [] [] (by kernel_rfl) allP_nil ?_
  refine rf [(2,.own 1 0 c1q29.length)] [(0,.row 26 (Enc.cells d)),(1,.row 45 (fl c1q29))] 2 (by kernel_rfl) ?_
  refine wk_id ?_
  obtain rfl:=Option.some.inj h
  refine ret_at (.own 1 0 c1q29.length) (by kernel_rfl) ?_
  exact ret_e [(0,1)] [] (by simp only [push_cast,leL_flD,renL_flD,seval]) (by simp only [push_cast,leL_flD,renL_flD,seval]) rfl rfl rfl

set_option maxRecDepth 100000 in
set_option maxHeartbeats 200000000 in
theorem taskmillref_FindItem_spec (l:(List GItem)) (key:Int) (r:Int) (h:taskmillref_FindItem l key = some r):SpecW Try.prog 16 [.sl l.length (fl l),iS key] [] 0 (fun x h n=>x = iS r∧h = []∧n = 0):=by
 unfold taskmillref_FindItem at h
 refine spec_of (draw_ok _) Try.func16 rfl (by decide) rfl (by kernel_rfl) ?_
 refine seq_np ?_
 refine reg_f ?_
 refine rs 1 [] [] (by kernel_rfl) allP_nil ?_
 refine rf [(0,.sl l.length (fl l)),(1,iS key)] [] 0 (by kernel_rfl) ?_
 refine wk_id ?_
 refine seq_np ?_
 refine seq_np ?_
 refine reg_f ?_
 refine rs 1 [] [] (by kernel_rfl) allP_nil ?_
 refine rf [(0,.sl l.length (fl l)),(1,iS key),(5,iS 0)] [] 0 (by kernel_rfl) ?_
 refine wk_id ?_
 refine block_np ?_
 refine loop_sx (S:=Int) (fun a=>([(0,.sl l.length (fl l)),(1,iS key),(5,iS a)],[],0)) h (leSt_m [] [] (by simp only [push_cast,leL_flD,renL_flD,seval]) (by simp only [push_cast,leL_flD,renL_flD,seval]) rfl rfl rfl) ?_
 rintro i7 o2 R2 h hr2 hn2 hx2 ht2
 try dsimp only at h hn2 ⊢
 unfold taskmillref_FindItem_l1 at h
 try dsimp only at h
 refine seq_np ?_
 refine seq_np ?_
 refine reg_f ?_
 refine rs 4 [] [] (by kernel_rfl) allP_nil ?_
 refine rf [(0,.sl l.length (fl l)),(1,iS key),(5,iS i7),(9,bS (decide (i7 < ((l.length:Nat):Int))))] [] 0 (by kernel_rfl) ?_
 refine wk_id ?_
 refine cond_sx h (by kernel_rfl) (fun g5659 h=>?_) (fun g5659 h=>?_)
 ·refine wk_id ?_
  refine seq_np ?_
  refine block_np ?_
  refine chk_sx h (fun g5657 h=>?_)
  refine seq_np ?_
  refine reg_f ?_
  have k5656:0≤i7∧i7 < ((l.length:Nat):Int):=by first | simpa only [Bool.and_eq_true,decide_eq_true_eq,bne_iff_ne,ne_eq] using g5657 | (simp at g5657 ⊢; omega)
  refine rs 7 [none,none,some ⟨.iptr (fl l) ((i7).toNat * 2),[],0,[]⟩,none,some ⟨iS (ix l i7).Key,[],0,[]⟩] _ (by kernel_rfl) (allP_cons (ob_ld l i7 2 0 (((i7).toNat * 2) + 0) k5656 rfl (by decide) (by first | rfl | omega) (dflS Try.prog 3) (iS (ix l i7).Key) rfl 0 []) (allP_cons (ob_ix_l l 2 0 i7 k5656) allP_nil)) ?_
  refine rf [(0,.sl l.length (fl l)),(1,iS key),(5,iS i7),(18,bS ((ix l i7).Key == key))] [] 0 (by kernel_rfl) ?_
  refine wk_id ?_
  refine cond_sx h (by kernel_rfl) (fun g5658 h=>?_) (fun g5658 h=>?_)
  ·refine seq_np ?_
   refine reg_f ?_
   refine rs 2 [] [] (by kernel_rfl) allP_nil ?_
   refine rf [(4,iS i7)] [] 0 (by kernel_rfl) ?_
   refine wk_id ?_
   refine rt_cast ht2 ?_
   obtain ⟨r0,h,e0⟩:=map_sx h
   have e1:=hr2 r0 e0.symm
   subst r0
   obtain rfl:=Option.some.inj h
   refine ret_at (iS i7) (by kernel_rfl) ?_
   exact ret_e [] [] (by simp only [push_cast,leL_flD,renL_flD,seval]) (by simp only [push_cast,leL_flD,renL_flD,seval]) rfl rfl rfl
  ·refine wk_id ?_
   refine wk_id ?_
   refine reg_f ?_
   refine rs 3 [] [] (by kernel_rfl) allP_nil ?_
   refine rf [(0,.sl l.length (fl l)),(1,iS key),(5,iS (IntKind.i64.wrap (i7 + 1)))] [] 0 (by kernel_rfl) ?_
   exact hn2 ((IntKind.i64.wrap (i7 + 1))) _ _ _ (Option.some.inj h).symm (leSt_m [] [] (by simp only [push_cast,leL_flD,renL_flD,seval]) (by simp only [push_cast,leL_flD,renL_flD,seval]) rfl rfl rfl)
 ·change R2 (.exit 0) _ _ _
  refine ex_cast hx2 (id:=0) ?_
  obtain ⟨r0,h,e0⟩:=map_sx h
  have e1:=hr2 r0 e0.symm
  subst r0
  refine wk_id ?_
  refine wk_id ?_
  refine seq_np ?_
  refine reg_f ?_
  refine rs 1 [] [] (by kernel_rfl) allP_nil ?_
  refine rf [(4,iS (-1))] [] 0 (by kernel_rfl) ?_
  refine wk_id ?_
  obtain rfl:=Option.some.inj h
  refine ret_at (iS (-1)) (by kernel_rfl) ?_
  exact ret_e [] [] (by simp only [push_cast,leL_flD,renL_flD,seval]) (by simp only [push_cast,leL_flD,renL_flD,seval]) rfl rfl rfl

set_option maxRecDepth 100000 in
set_option maxHeartbeats 200000000 in
theorem taskmillref_NoItem_spec (l:(List GItem)) (key:Int) (r:(List GItem)) (h:taskmillref_NoItem l key = some r):SpecW Try.prog 18 [.sl l.length (fl l),iS key] [] 0 (fun x h n=>x = .own 0 0 r.length∧h = [(0,.row 45 (fl r))]∧n = 1):=by
 unfold taskmillref_NoItem at h
 refine spec_of (draw_ok _) Try.func18 rfl (by decide) rfl (by kernel_rfl) ?_
 refine seq_np ?_
 refine reg_f ?_
 refine rs 1 [] [] (by kernel_rfl) allP_nil ?_
 refine rf [(0,.sl l.length (fl l)),(1,iS key)] [] 0 (by kernel_rfl) ?_
 refine wk_id ?_
 refine seq_np ?_
 refine reg_f ?_
 refine rs 1 [] [] (by kernel_rfl) allP_nil ?_
 refine rf [(0,.sl l.length (fl l)),(1,iS key),(5,.v (.slice none 0 0))] [] 0 (by kernel_rfl) ?_
 refine wk_id ?_
 refine seq_np ?_
 refine seq_np ?_
 refine reg_f ?_
 refine rs 1 [] [] (by kernel_rfl) allP_nil ?_
 refine rf [(0,.sl l.length (fl l)),(1,iS key),(5,.v (.slice none 0 0)),(6,iS 0)] [] 0 (by kernel_rfl) ?_
 refine wk_id ?_
 refine block_np ?_
 refine loop_sx (S:=Int × (List GItem)) (fun a=>([(0,.sl l.length (fl l)),(1,iS key),(5,.own 0 0 a.2.length),(6,iS a.1)],[(0,.row 45 (fl a.2))],1)) h (leSt_m [] [] (by simp only [push_cast,leL_flD,renL_flD,seval]) (by simp only [push_cast,leL_flD,renL_flD,seval]) rfl rfl rfl) ?_
 rintro ⟨i7,c0q19⟩ o2 R2 h hr2 hn2 hx2 ht2
 try dsimp only at h hn2 ⊢
 unfold taskmillref_NoItem_l1 at h
 try dsimp only at h
 refine seq_np ?_
 refine seq_np ?_
 refine reg_f ?_
 refine rs 4 [] [] (by kernel_rfl) allP_nil ?_
 refine rf [(0,.sl l.length (fl l)),(1,iS key),(5,.own 0 0 c0q19.length),(6,iS i7),(10,bS (decide (i7 < ((l.length:Nat):Int))))] [(0,.row 45 (fl c0q19))] 1 (by kernel_rfl) ?_
 refine wk_id ?_
 refine cond_sx h (by kernel_rfl) (fun g5819 h=>?_) (fun g5819 h=>?_)
 ·refine wk_id ?_
  refine seq_np ?_
  refine block_cut (A:=(List GItem)) (fun a=>([(0,.sl l.length (fl l)),(1,iS key),(5,.own 0 0 a.length),(6,iS i7)],[(0,.row 45 (fl a))],1)) (fun a=>(taskmillref_NoItem_j1 l key i7 a) = some o2) (fun K5805 hK5805=>?_) ?_
  ·refine chk_sx h (fun g5809 h=>?_)
   refine seq_np ?_
   refine reg_f ?_
   have k5808:0≤i7∧i7 < ((l.length:Nat):Int):=by first | simpa only [Bool.and_eq_true,decide_eq_true_eq,bne_iff_ne,ne_eq] using g5809 | (simp at g5809 ⊢; omega)
   refine rs 7 [none,none,some ⟨.iptr (fl l) ((i7).toNat * 2),[],1,[]⟩,none,some ⟨iS (ix l i7).Key,[],1,[]⟩] _ (by kernel_rfl) (allP_cons (ob_ld l i7 2 0 (((i7).toNat * 2) + 0) k5808 rfl (by decide) (by first | rfl | omega) (dflS Try.prog 3) (iS (ix l i7).Key) rfl 1 []) (allP_cons (ob_ix_l l 2 1 i7 k5808) allP_nil)) ?_
   refine rf [(0,.sl l.length (fl l)),(1,iS key),(5,.own 0 0 c0q19.length),(6,iS i7),(19,bS ((ix l i7).Key != key))] [(0,.row 45 (fl c0q19))] 1 (by kernel_rfl) ?_
   refine wk_id ?_
   refine cond_sx h (by kernel_rfl) (fun g5818 h=>?_) (fun g5818 h=>?_)
   ·refine chk_sx h (fun g5815 h=>?_)
    refine chk_sx h (fun g5817 h=>?_)
    refine reg_f ?_
    have k5814:0≤i7∧i7 < ((l.length:Nat):Int):=by first | simpa only [Bool.and_eq_true,decide_eq_true_eq,bne_iff_ne,ne_eq] using g5815 | (simp at g5815 ⊢; omega)
    have k5816:(c0q19 ++ ([(ix l i7)]:List GItem)).length * 16≤140737488355328:=by first | simpa only [Bool.and_eq_true,decide_eq_true_eq,bne_iff_ne,ne_eq] using g5817 | (simp at g5817 ⊢; omega)
    refine rs 8 [none,none,none,some ⟨.iptr (fl l) ((i7).toNat * 2),[],1,[]⟩,some ⟨.agg (Enc.cells (ix l i7)),[],1,[]⟩,none,some ⟨.own 2 0 (c0q19 ++ ([(ix l i7)]:List GItem)).length,[(2,.row 45 (fl (c0q19 ++ ([(ix l i7)]:List GItem)))),(0,.dead)],3,[0,1]⟩] _ (by kernel_rfl) (allP_cons (ob_app (P:=Try.prog) c0q19 ([(ix l i7)]:List GItem) 2 16 rfl (appCells (fl ([(ix l i7)]:List GItem)) 0 (([(ix l i7)]:List GItem).length * 2)) ([(ix l i7)]:List GItem).length (app_own ([(ix l i7)]:List GItem) 2 rfl) rfl (0 + ([(ix l i7)]:List GItem).length * 2≤(fl ([(ix l i7)]:List GItem)).length) (app_own_le ([(ix l i7)]:List GItem) 2 rfl) 45 (by kernel_rfl) (by decide) k5816 0 2 [1]) (allP_cons (ob_ldw l i7 2 ((i7).toNat * 2) k5814 rfl (by first | rfl | omega) [iS (ix l i7).Key,iS (ix l i7).Value] rfl 1 []) (allP_cons (ob_ix_l l 2 1 i7 k5814) allP_nil))) ?_
    refine rf [(0,.sl l.length (fl l)),(1,iS key),(5,.own 2 0 (c0q19 ++ ([(ix l i7)]:List GItem)).length),(6,iS i7)] [(0,.dead),(1,.row 45 (fl ([(ix l i7)]:List GItem))),(2,.row 45 (fl (c0q19 ++ ([(ix l i7)]:List GItem))))] 3 (by kernel_rfl) ?_
    exact hK5805 ((c0q19 ++ ([(ix l i7)]:List GItem))) _ _ _ h (leSt_m [(0,2)] [] (by simp only [push_cast,leL_flD,renL_flD,seval]) (by simp only [push_cast,leL_flD,renL_flD,seval]) rfl rfl rfl)
   ·exact hK5805 (c0q19) _ _ _ h (leSt_m [(0,0)] [] (by simp only [push_cast,leL_flD,renL_flD,seval]) (by simp only [push_cast,leL_flD,renL_flD,seval]) rfl rfl rfl)
  ·rintro c0q21 h
   try dsimp only at h ⊢
   unfold taskmillref_NoItem_j1 at h
   refine wk_id ?_
   refine reg_f ?_
   refine rs 3 [] [] (by kernel_rfl) allP_nil ?_
   refine rf [(0,.sl l.length (fl l)),(1,iS key),(5,.own 0 0 c0q21.length),(6,iS (IntKind.i64.wrap (i7 + 1)))] [(0,.row 45 (fl c0q21))] 1 (by kernel_rfl) ?_
   exact hn2 ((IntKind.i64.wrap (i7 + 1)),c0q21) _ _ _ (Option.some.inj h).symm (leSt_m [(0,0)] [] (by simp only [push_cast,leL_flD,renL_flD,seval]) (by simp only [push_cast,leL_flD,renL_flD,seval]) rfl rfl rfl)
 ·change R2 (.exit 0) _ _ _
  refine ex_cast hx2 (id:=0) ?_
  obtain ⟨r0,h,e0⟩:=map_sx h
  have e1:=hr2 r0 e0.symm
  subst r0
  refine wk_id ?_
  refine wk_id ?_
  refine seq_np ?_
  refine reg_f ?_
  refine rs 2 [] [] (by kernel_rfl) allP_nil ?_
  refine rf [(4,.own 0 0 c0q19.length)] [(0,.row 45 (fl c0q19))] 1 (by kernel_rfl) ?_
  refine wk_id ?_
  obtain rfl:=Option.some.inj h
  refine ret_at (.own 0 0 c0q19.length) (by kernel_rfl) ?_
  exact ret_e [(0,0)] [] (by simp only [push_cast,leL_flD,renL_flD,seval]) (by simp only [push_cast,leL_flD,renL_flD,seval]) rfl rfl rfl

set_option maxRecDepth 100000 in
set_option maxHeartbeats 200000000 in
theorem taskmillref_PutDict_1_spec (t0:(List part)) (t1:GItem) (r:Int) (h:taskmillref_PutDict_1 t0 t1 = some r):SpecW Try.prog 37 [.iptr [.sl t0.length (fl t0)] 0,.iptr (Enc.cells t1) 0] [] 0 (fun x h n=>x = iS r∧h = []∧n = 0):=by
 unfold taskmillref_PutDict_1 at h
 refine spec_of (draw_ok _) Try.func37 rfl (by decide) rfl (by kernel_rfl) ?_
 refine seq_np ?_
 refine reg_f ?_
 refine rs 1 [] [] (by kernel_rfl) allP_nil ?_
 refine rf [(0,.iptr [.sl t0.length (fl t0)] 0),(1,.iptr (Enc.cells t1) 0)] [] 0 (by kernel_rfl) ?_
 refine wk_id ?_
 refine seq_np ?_
 refine seq_np ?_
 refine reg_f ?_
 refine rs 1 [] [] (by kernel_rfl) allP_nil ?_
 refine rf [(0,.iptr [.sl t0.length (fl t0)] 0),(1,.iptr (Enc.cells t1) 0),(3,iS 0)] [] 0 (by kernel_rfl) ?_
 refine wk_id ?_
 refine block_np ?_
 refine loop_sx (S:=Int) (fun a=>([(0,.iptr [.sl t0.length (fl t0)] 0),(1,.iptr (Enc.cells t1) 0),(3,iS a)],[],0)) h (leSt_m [] [] (by simp only [push_cast,leL_flD,renL_flD,seval]) (by simp only [push_cast,leL_flD,renL_flD,seval]) rfl rfl rfl) ?_
 rintro i7 o2 R2 h hr2 hn2 hx2 ht2
 try dsimp only at h hn2 ⊢
 unfold taskmillref_PutDict_1_l1 at h
 try dsimp only at h
 refine seq_np ?_
 refine seq_np ?_
 refine reg_f ?_
 refine rs 4 [] [] (by kernel_rfl) allP_nil ?_
 refine rf [(0,.iptr [.sl t0.length (fl t0)] 0),(1,.iptr (Enc.cells t1) 0),(3,iS i7),(7,bS (decide (i7 < ((t0.length:Nat):Int))))] [] 0 (by kernel_rfl) ?_
 refine wk_id ?_
 refine cond_sx h (by kernel_rfl) (fun g6065 h=>?_) (fun g6065 h=>?_)
 ·refine wk_id ?_
  refine seq_np ?_
  refine block_np ?_
  refine chk_sx h (fun g6060 h=>?_)
  refine seq_np ?_
  refine reg_t ?_
  have k6059:0≤i7∧i7 < ((t0.length:Nat):Int):=by first | simpa only [Bool.and_eq_true,decide_eq_true_eq,bne_iff_ne,ne_eq] using g6060 | (simp at g6060 ⊢; omega)
  refine rs 7 [none,none,none,none,some ⟨.iptr (fl t0) ((i7).toNat * 3),[],4,[]⟩,none,some ⟨iS (ix t0 i7).depth,[],6,[]⟩] _ (by kernel_rfl) (allP_cons (ob_ld t0 i7 3 0 (((i7).toNat * 3) + 0) k6059 rfl (by decide) (by first | rfl | omega) (dflS Try.prog 3) (iS (ix t0 i7).depth) rfl 6 []) (allP_cons (ob_ix_l t0 3 4 i7 k6059) allP_nil)) ?_
  obtain ⟨r6061,hr6061,h⟩:=bind_sx h
  refine run_call 19 [iS t1.Key,iS (ix t0 i7).depth] (some 17) (by kernel_rfl) ?_
  refine callE_0 (taskmillref_Bits_spec t1.Key (ix t0 i7).depth r6061 hr6061) (by simp only [push_cast,leL_flD,renL_flD,seval]) (by simp only [push_cast,leL_flD,renL_flD,seval]) ?_
  refine back_t ?_
  refine chk_sx h (fun g6063 h=>?_)
  have k6062:0≤i7∧i7 < ((t0.length:Nat):Int):=by first | simpa only [Bool.and_eq_true,decide_eq_true_eq,bne_iff_ne,ne_eq] using g6063 | (simp at g6063 ⊢; omega)
  refine rs 6 [none,none,some ⟨.iptr (fl t0) ((i7).toNat * 3),[],10,[]⟩,none,some ⟨iS (ix t0 i7).bits,[],12,[]⟩] _ (by kernel_rfl) (allP_cons (ob_ld t0 i7 3 1 (((i7).toNat * 3) + 1) k6062 rfl (by decide) (by first | rfl | omega) (dflS Try.prog 3) (iS (ix t0 i7).bits) rfl 12 []) (allP_cons (ob_ix_l t0 3 10 i7 k6062) allP_nil)) ?_
  refine rt [(0,.iptr [.sl t0.length (fl t0)] 0),(1,.iptr (Enc.cells t1) 0),(3,iS i7),(23,bS (r6061 == (ix t0 i7).bits))] [] 14 follows (by kernel_rfl) ?_
  refine wk_id ?_
  refine cond_sx h (by kernel_rfl) (fun g6064 h=>?_) (fun g6064 h=>?_)
  ·refine seq_np ?_
   refine reg_f ?_
   refine rs 2 [] [] (by kernel_rfl) allP_nil ?_
   refine rf [(2,iS i7)] [] 14 (by kernel_rfl) ?_
   refine wk_id ?_
   refine rt_cast ht2 ?_
   obtain ⟨r0,h,e0⟩:=map_sx h
   have e1:=hr2 r0 e0.symm
   subst r0
   obtain rfl:=Option.some.inj h
   refine ret_at (iS i7) (by kernel_rfl) ?_
   exact ret_e [] [] (by simp only [push_cast,leL_flD,renL_flD,seval]) (by simp only [push_cast,leL_flD,renL_flD,seval]) rfl rfl rfl
  ·refine wk_id ?_
   refine wk_id ?_
   refine reg_f ?_
   refine rs 3 [] [] (by kernel_rfl) allP_nil ?_
   refine rf [(0,.iptr [.sl t0.length (fl t0)] 0),(1,.iptr (Enc.cells t1) 0),(3,iS (IntKind.i64.wrap (i7 + 1)))] [] 14 (by kernel_rfl) ?_
   exact hn2 ((IntKind.i64.wrap (i7 + 1))) _ _ _ (Option.some.inj h).symm (leSt_m [] [] (by simp only [push_cast,leL_flD,renL_flD,seval]) (by simp only [push_cast,leL_flD,renL_flD,seval]) rfl rfl rfl)
 ·change R2 (.exit 0) _ _ _
  refine ex_cast hx2 (id:=0) ?_
  obtain ⟨r0,h,e0⟩:=map_sx h
  have e1:=hr2 r0 e0.symm
  subst r0
  refine wk_id ?_
  refine wk_id ?_
  refine seq_np ?_
  refine reg_f ?_
  refine rs 1 [] [] (by kernel_rfl) allP_nil ?_
  refine rf [(2,iS 0)] [] 0 (by kernel_rfl) ?_
  refine wk_id ?_
  obtain rfl:=Option.some.inj h
  refine ret_at (iS 0) (by kernel_rfl) ?_
  exact ret_e [] [] (by simp only [push_cast,leL_flD,renL_flD,seval]) (by simp only [push_cast,leL_flD,renL_flD,seval]) rfl rfl rfl

set_option maxRecDepth 100000 in
set_option maxHeartbeats 200000000 in
theorem taskmillref_PutDict_spec (d:Dict) (x:GItem) (r:Int × (List Int) × (List Bucket)) (h:taskmillref_PutDict d x = some r):SpecW Try.prog 21 [.agg (Enc.cells d),.agg (Enc.cells x)] [] 0 (fun x h n=>x = .agg [iS r.1,.own 0 0 r.2.1.length,.own 1 0 r.2.2.length]∧h = [(0,.row 3 (fl r.2.1)),(1,.row 43 (fl r.2.2))]∧n = 2):=by
 unfold taskmillref_PutDict at h
 refine spec_of (draw_ok _) Try.func21 rfl (by decide) rfl (by kernel_rfl) ?_
 refine seq_np ?_
 refine reg_f ?_
 refine rs 3 [] [] (by kernel_rfl) allP_nil ?_
 refine rf [(2,.ptr 0 0),(3,.ptr 1 0),(4,.ptr 2 0)] [(0,.row 26 (Enc.cells d)),(1,.row 45 (Enc.cells x)),(2,.row 26 [iS 0,.v (.slice none 0 0),.v (.slice none 0 0)])] 3 (by kernel_rfl) ?_
 refine wk_id ?_
 refine seq_np ?_
 refine reg_f ?_
 refine rs 1 [] [] (by kernel_rfl) allP_nil ?_
 refine rf [(2,.ptr 0 0),(3,.ptr 1 0),(4,.ptr 2 0),(5,.ptr 3 0)] [(0,.row 26 (Enc.cells d)),(1,.row 45 (Enc.cells x)),(2,.row 26 [iS 0,.v (.slice none 0 0),.v (.slice none 0 0)]),(3,.row 72 [.v (.slice none 0 0)])] 4 (by kernel_rfl) ?_
 refine wk_id ?_
 refine seq_np ?_
 refine seq_np ?_
 refine reg_f ?_
 refine rs 1 [] [] (by kernel_rfl) allP_nil ?_
 refine rf [(2,.ptr 0 0),(3,.ptr 1 0),(4,.ptr 2 0),(5,.ptr 3 0),(6,iS 0)] [(0,.row 26 (Enc.cells d)),(1,.row 45 (Enc.cells x)),(2,.row 26 [iS 0,.v (.slice none 0 0),.v (.slice none 0 0)]),(3,.row 72 [.v (.slice none 0 0)])] 4 (by kernel_rfl) ?_
 refine wk_id ?_
 refine block_np ?_
 refine loop_sx (S:=Int × (List part)) (fun a=>([(2,.ptr 0 0),(3,.ptr 1 0),(4,.ptr 2 0),(5,.ptr 3 0),(6,iS a.1)],[(0,.row 26 (Enc.cells d)),(1,.row 45 (Enc.cells x)),(2,.row 26 [iS 0,.v (.slice none 0 0),.v (.slice none 0 0)]),(3,.row 72 [.own 4 0 a.2.length]),(4,.row 74 (fl a.2))],5)) h (leSt_m [(0,0),(1,1),(2,2),(3,3)] [] (by simp only [push_cast,leL_flD,renL_flD,seval]) (by simp only [push_cast,leL_flD,renL_flD,seval]) rfl rfl rfl) ?_
 rintro ⟨n7,c4q15⟩ o8 R8 h hr8 hn8 hx8 ht8
 try dsimp only at h hn8 ⊢
 unfold taskmillref_PutDict_l7 at h
 try dsimp only at h
 refine seq_np ?_
 refine seq_np ?_
 refine reg_f ?_
 refine rs 5 [] [] (by kernel_rfl) allP_nil ?_
 refine rf [(2,.ptr 0 0),(3,.ptr 1 0),(4,.ptr 2 0),(5,.ptr 3 0),(6,iS n7),(23,bS (decide (n7 < ((d.Buckets.length:Nat):Int))))] [(0,.row 26 (Enc.cells d)),(1,.row 45 (Enc.cells x)),(2,.row 26 [iS 0,.v (.slice none 0 0),.v (.slice none 0 0)]),(3,.row 72 [.own 4 0 c4q15.length]),(4,.row 74 (fl c4q15))] 5 (by kernel_rfl) ?_
 refine wk_id ?_
 refine cond_sx h (by kernel_rfl) (fun g8509 h=>?_) (fun g8509 h=>?_)
 ·refine wk_id ?_
  refine seq_np ?_
  refine block_np ?_
  refine seq_np ?_
  refine reg_f ?_
  refine rs 1 [] [] (by kernel_rfl) allP_nil ?_
  refine rf [(2,.ptr 0 0),(3,.ptr 1 0),(4,.ptr 2 0),(5,.ptr 3 0),(6,iS n7),(7,iS 0)] [(0,.row 26 (Enc.cells d)),(1,.row 45 (Enc.cells x)),(2,.row 26 [iS 0,.v (.slice none 0 0),.v (.slice none 0 0)]),(3,.row 72 [.own 4 0 c4q15.length]),(4,.row 74 (fl c4q15))] 5 (by kernel_rfl) ?_
  refine wk_id ?_
  refine seq_np ?_
  refine block_np ?_
  refine loop_sx (S:=Int) (fun a=>([(2,.ptr 0 0),(3,.ptr 1 0),(4,.ptr 2 0),(5,.ptr 3 0),(6,iS n7),(7,iS a)],[(0,.row 26 (Enc.cells d)),(1,.row 45 (Enc.cells x)),(2,.row 26 [iS 0,.v (.slice none 0 0),.v (.slice none 0 0)]),(3,.row 72 [.own 4 0 c4q15.length]),(4,.row 74 (fl c4q15))],5)) h (leSt_m [(0,0),(1,1),(2,2),(3,3),(4,4)] [] (by simp only [push_cast,leL_flD,renL_flD,seval]) (by simp only [push_cast,leL_flD,renL_flD,seval]) rfl rfl rfl) ?_
  rintro first31 o9 R9 h hr9 hn9 hx9 ht9
  try dsimp only at h hn9 ⊢
  unfold taskmillref_PutDict_l1 at h
  try dsimp only at h
  refine seq_np ?_
  refine chk_sx h (fun g6723 h=>?_)
  refine seq_np ?_
  refine reg_f ?_
  have k6722:0≤first31∧first31 < ((d.Places.length:Nat):Int):=by first | simpa only [Bool.and_eq_true,decide_eq_true_eq,bne_iff_ne,ne_eq] using g6723 | (simp at g6723 ⊢; omega)
  refine rs 7 [none,none,none,some ⟨.iptr (fl d.Places) ((first31).toNat * 1),[],5,[]⟩,some ⟨iS (ix d.Places first31),[],5,[]⟩] _ (by kernel_rfl) (allP_cons (ob_ld d.Places first31 1 0 ((first31).toNat * 1) k6722 rfl (by decide) (by first | rfl | omega) (dflS Try.prog 3) (iS (ix d.Places first31)) rfl 5 []) (allP_cons (ob_ix_l d.Places 1 5 first31 k6722) allP_nil)) ?_
  refine rf [(2,.ptr 0 0),(3,.ptr 1 0),(4,.ptr 2 0),(5,.ptr 3 0),(6,iS n7),(7,iS first31),(32,bS ((ix d.Places first31) != n7))] [(0,.row 26 (Enc.cells d)),(1,.row 45 (Enc.cells x)),(2,.row 26 [iS 0,.v (.slice none 0 0),.v (.slice none 0 0)]),(3,.row 72 [.own 4 0 c4q15.length]),(4,.row 74 (fl c4q15))] 5 (by kernel_rfl) ?_
  refine wk_id ?_
  refine cond_sx h (by kernel_rfl) (fun g6742 h=>?_) (fun g6742 h=>?_)
  ·refine wk_id ?_
   refine block_np ?_
   refine reg_f ?_
   refine rs 3 [] [] (by kernel_rfl) allP_nil ?_
   refine rf [(2,.ptr 0 0),(3,.ptr 1 0),(4,.ptr 2 0),(5,.ptr 3 0),(6,iS n7),(7,iS (IntKind.i64.wrap (first31 + 1)))] [(0,.row 26 (Enc.cells d)),(1,.row 45 (Enc.cells x)),(2,.row 26 [iS 0,.v (.slice none 0 0),.v (.slice none 0 0)]),(3,.row 72 [.own 4 0 c4q15.length]),(4,.row 74 (fl c4q15))] 5 (by kernel_rfl) ?_
   refine wk_id ?_
   exact hn9 ((IntKind.i64.wrap (first31 + 1))) _ _ _ (Option.some.inj h).symm (leSt_m [(0,0),(1,1),(2,2),(3,3),(4,4)] [] (by simp only [push_cast,leL_flD,renL_flD,seval]) (by simp only [push_cast,leL_flD,renL_flD,seval]) rfl rfl rfl)
  ·change R9 (.exit 2) _ _ _
   refine ex_cast hx9 (id:=2) ?_
   obtain ⟨r0,h,e0⟩:=map_sx h
   have e1:=hr9 r0 e0.symm
   subst r0
   refine wk_id ?_
   refine wk_id ?_
   refine chk_sx h (fun g6734 h=>?_)
   refine chk_sx h (fun g6736 h=>?_)
   refine reg_t ?_
   have k6733:0≤n7∧n7 < ((d.Buckets.length:Nat):Int):=by first | simpa only [Bool.and_eq_true,decide_eq_true_eq,bne_iff_ne,ne_eq] using g6734 | (simp at g6734 ⊢; omega)
   have k6735:0≤n7∧n7 < ((d.Buckets.length:Nat):Int):=by first | simpa only [Bool.and_eq_true,decide_eq_true_eq,bne_iff_ne,ne_eq] using g6736 | (simp at g6736 ⊢; omega)
   refine rs 14 [none,none,none,none,some ⟨.iptr (fl d.Buckets) ((n7).toNat * 2),[],9,[]⟩,none,some ⟨iS (ix d.Buckets n7).Depth,[],11,[]⟩,none,none,none,none,some ⟨.iptr (fl d.Buckets) ((n7).toNat * 2),[],16,[]⟩,none,some ⟨iS (ix d.Buckets n7).Depth,[],18,[]⟩] _ (by kernel_rfl) (allP_cons (ob_ld d.Buckets n7 2 0 (((n7).toNat * 2) + 0) k6735 rfl (by decide) (by first | rfl | omega) (dflS Try.prog 3) (iS (ix d.Buckets n7).Depth) rfl 18 []) (allP_cons (ob_ix_l d.Buckets 2 16 n7 k6735) (allP_cons (ob_ld d.Buckets n7 2 0 (((n7).toNat * 2) + 0) k6733 rfl (by decide) (by first | rfl | omega) (dflS Try.prog 3) (iS (ix d.Buckets n7).Depth) rfl 11 []) (allP_cons (ob_ix_l d.Buckets 2 9 n7 k6733) allP_nil)))) ?_
   obtain ⟨r6737,hr6737,h⟩:=bind_sx h
   refine run_call 19 [iS first31,iS (ix d.Buckets n7).Depth] (some 49) (by kernel_rfl) ?_
   refine callE_0 (taskmillref_Bits_spec first31 (ix d.Buckets n7).Depth r6737 hr6737) (by simp only [push_cast,leL_flD,renL_flD,seval]) (by simp only [push_cast,leL_flD,renL_flD,seval]) ?_
   refine back_t ?_
   refine chk_sx h (fun g6739 h=>?_)
   have k6738:0≤n7∧n7 < ((d.Buckets.length:Nat):Int):=by first | simpa only [Bool.and_eq_true,decide_eq_true_eq,bne_iff_ne,ne_eq] using g6739 | (simp at g6739 ⊢; omega)
   refine chk_sx h (fun g6741 h=>?_)
   have k6740:(c4q15 ++ ([(part.mk (ix d.Buckets n7).Depth r6737 (ix d.Buckets n7).Items)]:List part)).length * 40≤140737488355328:=by first | simpa only [Bool.and_eq_true,decide_eq_true_eq,bne_iff_ne,ne_eq] using g6741 | (simp at g6741 ⊢; omega)
   refine rs 10 [none,none,none,some ⟨.iptr (fl d.Buckets) ((n7).toNat * 2),[],23,[]⟩,none,some ⟨.sl (ix d.Buckets n7).Items.length (fl (ix d.Buckets n7).Items),[],25,[]⟩,none,none,some ⟨.own 29 0 (c4q15 ++ ([(part.mk (ix d.Buckets n7).Depth r6737 (ix d.Buckets n7).Items)]:List part)).length,[(29,.row 74 (fl (c4q15 ++ ([(part.mk (ix d.Buckets n7).Depth r6737 (ix d.Buckets n7).Items)]:List part)))),(4,.dead)],30,[4,27]⟩] _ (by kernel_rfl) (allP_cons (ob_app (P:=Try.prog) c4q15 ([(part.mk (ix d.Buckets n7).Depth r6737 (ix d.Buckets n7).Items)]:List part) 3 40 rfl (appCells (fl ([(part.mk (ix d.Buckets n7).Depth r6737 (ix d.Buckets n7).Items)]:List part)) 0 (([(part.mk (ix d.Buckets n7).Depth r6737 (ix d.Buckets n7).Items)]:List part).length * 3)) ([(part.mk (ix d.Buckets n7).Depth r6737 (ix d.Buckets n7).Items)]:List part).length (app_own ([(part.mk (ix d.Buckets n7).Depth r6737 (ix d.Buckets n7).Items)]:List part) 3 rfl) rfl (0 + ([(part.mk (ix d.Buckets n7).Depth r6737 (ix d.Buckets n7).Items)]:List part).length * 3≤(fl ([(part.mk (ix d.Buckets n7).Depth r6737 (ix d.Buckets n7).Items)]:List part)).length) (app_own_le ([(part.mk (ix d.Buckets n7).Depth r6737 (ix d.Buckets n7).Items)]:List part) 3 rfl) 74 (by kernel_rfl) (by decide) k6740 4 29 [27]) (allP_cons (ob_ld d.Buckets n7 2 1 (((n7).toNat * 2) + 1) k6738 rfl (by decide) (by first | rfl | omega) (dflS Try.prog 40) (.sl (ix d.Buckets n7).Items.length (fl (ix d.Buckets n7).Items)) rfl 25 []) (allP_cons (ob_ix_l d.Buckets 2 23 n7 k6738) allP_nil))) ?_
   refine rt [(2,.ptr 0 0),(3,.ptr 1 0),(4,.ptr 2 0),(5,.ptr 3 0),(6,iS n7)] [(0,.row 26 (Enc.cells d)),(1,.row 45 (Enc.cells x)),(2,.row 26 [iS 0,.v (.slice none 0 0),.v (.slice none 0 0)]),(3,.row 72 [.own 29 0 (c4q15 ++ ([(part.mk (ix d.Buckets n7).Depth r6737 (ix d.Buckets n7).Items)]:List part)).length]),(4,.dead),(27,.row 74 (fl ([(part.mk (ix d.Buckets n7).Depth r6737 (ix d.Buckets n7).Items)]:List part))),(29,.row 74 (fl (c4q15 ++ ([(part.mk (ix d.Buckets n7).Depth r6737 (ix d.Buckets n7).Items)]:List part))))] 32 follows (by kernel_rfl) ?_
   refine wk_id ?_
   refine wk_id ?_
   refine reg_f ?_
   refine rs 3 [] [] (by kernel_rfl) allP_nil ?_
   refine rf [(2,.ptr 0 0),(3,.ptr 1 0),(4,.ptr 2 0),(5,.ptr 3 0),(6,iS (IntKind.i64.wrap (n7 + 1)))] [(0,.row 26 (Enc.cells d)),(1,.row 45 (Enc.cells x)),(2,.row 26 [iS 0,.v (.slice none 0 0),.v (.slice none 0 0)]),(3,.row 72 [.own 29 0 (c4q15 ++ ([(part.mk (ix d.Buckets n7).Depth r6737 (ix d.Buckets n7).Items)]:List part)).length]),(4,.dead),(27,.row 74 (fl ([(part.mk (ix d.Buckets n7).Depth r6737 (ix d.Buckets n7).Items)]:List part))),(29,.row 74 (fl (c4q15 ++ ([(part.mk (ix d.Buckets n7).Depth r6737 (ix d.Buckets n7).Items)]:List part))))] 32 (by kernel_rfl) ?_
   exact hn8 ((IntKind.i64.wrap (n7 + 1)),(c4q15 ++ ([(part.mk (ix d.Buckets n7).Depth r6737 (ix d.Buckets n7).Items)]:List part))) _ _ _ (Option.some.inj h).symm (leSt_m [(0,0),(1,1),(2,2),(3,3),(4,29)] [] (by simp only [push_cast,leL_flD,renL_flD,seval]) (by simp only [push_cast,leL_flD,renL_flD,seval]) rfl rfl rfl)
 ·change R8 (.exit 0) _ _ _
  refine ex_cast hx8 (id:=0) ?_
  obtain ⟨r0,h,e0⟩:=map_sx h
  have e1:=hr8 r0 e0.symm
  subst r0
  refine wk_id ?_
  refine wk_id ?_
  refine seq_np ?_
  refine reg_f ?_
  refine rs 2 [] [] (by kernel_rfl) allP_nil ?_
  refine rf [(2,.ptr 0 0),(3,.ptr 1 0),(4,.ptr 2 0),(5,.ptr 3 0),(8,.clo 37 [.ptr 3 0,.ptr 1 0])] [(0,.row 26 (Enc.cells d)),(1,.row 45 (Enc.cells x)),(2,.row 26 [iS 0,.v (.slice none 0 0),.v (.slice none 0 0)]),(3,.row 72 [.own 4 0 c4q15.length]),(4,.row 74 (fl c4q15))] 5 (by kernel_rfl) ?_
  refine wk_id ?_
  refine seq_np ?_
  refine reg_t ?_
  refine rs 2 [] [] (by kernel_rfl) allP_nil ?_
  obtain ⟨r6750,hr6750,h⟩:=bind_sx h
  refine call_x (taskmillref_PutDict_1_spec c4q15 x r6750 hr6750) (args:=[.ptr 3 0,.ptr 1 0]) (dst:=(some 62)) (by kernel_rfl) [(0,.row 26 (Enc.cells d)),(1,.row 45 (Enc.cells x)),(2,.row 26 [iS 0,.v (.slice none 0 0),.v (.slice none 0 0)]),(3,.row 72 [.own 4 0 c4q15.length]),(4,.row 74 (fl c4q15))] 7 (by kernel_rfl) [] [4,1,3] (iS r6750) [] (by simp only [push_cast,leL_flD,renL_flD,seval]) (by simp only [push_cast,leL_flD,renL_flD,seval]) (by kernel_rfl) (.inr ⟨by simp only [push_cast,leL_flD,renL_flD,seval],by simp only [push_cast,leL_flD,renL_flD,seval]⟩) (by simp only [push_cast,leL_flD,renL_flD,seval]) (by simp only [push_cast,leL_flD,renL_flD,seval]) ?_
  refine rs 2 [] [] (by kernel_rfl) allP_nil ?_
  obtain ⟨r6751,hr6751,h⟩:=bind_sx h
  refine call_x (taskmillref_PutDict_1_spec c4q15 x r6751 hr6751) (args:=[.ptr 3 0,.ptr 1 0]) (dst:=(some 65)) (by kernel_rfl) [(0,.row 26 (Enc.cells d)),(1,.row 45 (Enc.cells x)),(2,.row 26 [iS 0,.v (.slice none 0 0),.v (.slice none 0 0)]),(3,.row 72 [.own 4 0 c4q15.length]),(4,.row 74 (fl c4q15))] 10 (by kernel_rfl) [] [4,1,3] (iS r6751) [] (by simp only [push_cast,leL_flD,renL_flD,seval]) (by simp only [push_cast,leL_flD,renL_flD,seval]) (by kernel_rfl) (.inr ⟨by simp only [push_cast,leL_flD,renL_flD,seval],by simp only [push_cast,leL_flD,renL_flD,seval]⟩) (by simp only [push_cast,leL_flD,renL_flD,seval]) (by simp only [push_cast,leL_flD,renL_flD,seval]) ?_
  refine chk_sx h (fun g6753 h=>?_)
  have k6752:0≤r6751∧r6751 < ((c4q15.length:Nat):Int):=by first | simpa only [Bool.and_eq_true,decide_eq_true_eq,bne_iff_ne,ne_eq] using g6753 | (simp at g6753 ⊢; omega)
  refine rs 4 [some ⟨.ptr 4 (0 + (r6751).toNat * 3),[],11,[4]⟩,none,some ⟨.sl (ix c4q15 r6751).items.length (fl (ix c4q15 r6751).items),[],13,[4]⟩] _ (by kernel_rfl) (allP_cons (ob_ld c4q15 r6751 3 2 ((0 + (r6751).toNat * 3) + 2) k6752 rfl (by decide) (by first | rfl | omega) (dflS Try.prog 40) (.sl (ix c4q15 r6751).items.length (fl (ix c4q15 r6751).items)) rfl 13 [4]) (allP_cons (ob_ix_o 4 c4q15.length 0 3 11 r6751 k6752) allP_nil)) ?_
  obtain ⟨r6754,hr6754,h⟩:=bind_sx h
  refine call_x (SpecW.frz (taskmillref_PutItem_spec (ix c4q15 r6751).items x r6754 hr6754)) (args:=[.sl (ix c4q15 r6751).items.length (fl (ix c4q15 r6751).items),.agg (Enc.cells x)]) (dst:=(some 70)) (by kernel_rfl) [(0,.row 26 (Enc.cells d)),(1,.row 45 (Enc.cells x)),(2,.row 26 [iS 0,.v (.slice none 0 0),.v (.slice none 0 0)]),(3,.row 72 [.own 4 0 c4q15.length]),(4,.row 74 (fl c4q15))] 15 (by kernel_rfl) [] [] (.sl r6754.length (fl r6754)) [(15,.dead)] (by simp only [push_cast,leL_flD,renL_flD,seval]) (by simp only [push_cast,leL_flD,renL_flD,seval]) (by kernel_rfl) (.inl rfl) (by simp only [push_cast,leL_flD,renL_flD,seval]) (by simp only [push_cast,leL_flD,renL_flD,seval]) ?_
  refine rn 11 [(2,.ptr 0 0),(4,.ptr 2 0),(5,.ptr 3 0),(8,.clo 37 [.ptr 3 0,.ptr 1 0]),(60,.own 4 0 c4q15.length),(62,iS r6750),(70,.sl r6754.length (fl r6754))] [(0,.row 26 (Enc.cells d)),(1,.row 45 (Enc.cells x)),(2,.row 26 [iS 0,.v (.slice none 0 0),.v (.slice none 0 0)]),(3,.row 72 [.own 4 0 c4q15.length]),(4,.row 74 (fl c4q15)),(15,.dead)] 17 (by kernel_rfl) ?_
  refine chk_sx h (fun g6756 h=>?_)
  have k6755:0≤r6750∧r6750 < ((c4q15.length:Nat):Int):=by first | simpa only [Bool.and_eq_true,decide_eq_true_eq,bne_iff_ne,ne_eq] using g6756 | (simp at g6756 ⊢; omega)
  refine rs 3 [some ⟨.ptr 4 (0 + (r6750).toNat * 3),[],17,[4]⟩,none,some ⟨.any,[(4,.row 74 (fl (c4q15.set r6750.toNat ({ ix c4q15 r6750 with items:=r6754 }:part))))],19,[4]⟩] _ (by kernel_rfl) (allP_cons (ob_st (P:=Try.prog) c4q15 r6750 3 2 ((0 + (r6750).toNat * 3) + 2) k6755 rfl [.sl r6754.length (fl r6754)] ({ ix c4q15 r6750 with items:=r6754 }:part) (Nat.le_of_ble_eq_true rfl) (by first | rfl | omega) rfl 4 19 74 40 (by kernel_rfl) rfl) (allP_cons (ob_ix_o 4 c4q15.length 0 3 17 r6750 k6755) allP_nil)) ?_
  refine run_eqH 3 (.row 72 [.own 4 0 c4q15.length]) (.row 72 [.own 4 0 (c4q15.set r6750.toNat ({ ix c4q15 r6750 with items:=r6754 }:part)).length]) (congrArg (fun nq=>(.row 72 [.own 4 0 nq]:Chunk)) (show c4q15.length = (c4q15.set r6750.toNat ({ ix c4q15 r6750 with items:=r6754 }:part)).length from (List.length_set ..).symm)) (by kernel_rfl) ?_
  refine rt [(2,.ptr 0 0),(4,.ptr 2 0),(5,.ptr 3 0),(8,.clo 37 [.ptr 3 0,.ptr 1 0])] [(0,.row 26 (Enc.cells d)),(1,.row 45 (Enc.cells x)),(2,.row 26 [iS 0,.v (.slice none 0 0),.v (.slice none 0 0)]),(3,.row 72 [.own 4 0 (c4q15.set r6750.toNat ({ ix c4q15 r6750 with items:=r6754 }:part)).length]),(4,.row 74 (fl (c4q15.set r6750.toNat ({ ix c4q15 r6750 with items:=r6754 }:part)))),(15,.dead)] 20 follows (by kernel_rfl) ?_
  refine wk_id ?_
  refine seq_np ?_
  refine block_np ?_
  refine loop_sx (S:=(List part)) (fun a=>([(2,.ptr 0 0),(4,.ptr 1 0),(5,.ptr 2 0),(8,.clo 37 [.ptr 2 0,.ptr 3 0])],[(0,.row 26 (Enc.cells d)),(1,.row 26 [iS 0,.v (.slice none 0 0),.v (.slice none 0 0)]),(2,.row 72 [.own 4 0 a.length]),(3,.row 45 (Enc.cells x)),(4,.row 74 (fl a))],5)) h (leSt_m [(0,0),(1,2),(2,3),(3,1),(4,4)] [] (by simp only [push_cast,leL_flD,renL_flD,seval]) (by simp only [push_cast,leL_flD,renL_flD,seval]) rfl rfl rfl) ?_
  rintro c4q36 o10 R10 h hr10 hn10 hx10 ht10
  try dsimp only at h hn10 ⊢
  unfold taskmillref_PutDict_l6 at h
  try dsimp only at h
  refine seq_np ?_
  refine seq_cut (A:=Bool) (fun a=>([(2,.ptr 0 0),(4,.ptr 1 0),(5,.ptr 2 0),(8,.clo 37 [.ptr 2 0,.ptr 3 0]),(89,bS a)],[(0,.row 26 (Enc.cells d)),(1,.row 26 [iS 0,.v (.slice none 0 0),.v (.slice none 0 0)]),(2,.row 72 [.own 4 0 c4q36.length]),(3,.row 45 (Enc.cells x)),(4,.row 74 (fl c4q36))],5)) (fun a=>(taskmillref_PutDict_j5 d x c4q36 a) = some o10) (fun K7128 hK7128=>?_) ?_
  ·refine reg_t ?_
   refine rs 2 [] [] (by kernel_rfl) allP_nil ?_
   obtain ⟨r7129,hr7129,h⟩:=bind_sx h
   refine call_x (taskmillref_PutDict_1_spec c4q36 x r7129 hr7129) (args:=[.ptr 2 0,.ptr 3 0]) (dst:=(some 75)) (by kernel_rfl) [(0,.row 26 (Enc.cells d)),(1,.row 26 [iS 0,.v (.slice none 0 0),.v (.slice none 0 0)]),(2,.row 72 [.own 4 0 c4q36.length]),(3,.row 45 (Enc.cells x)),(4,.row 74 (fl c4q36))] 7 (by kernel_rfl) [] [4,2,3] (iS r7129) [] (by simp only [push_cast,leL_flD,renL_flD,seval]) (by simp only [push_cast,leL_flD,renL_flD,seval]) (by kernel_rfl) (.inr ⟨by simp only [push_cast,leL_flD,renL_flD,seval],by simp only [push_cast,leL_flD,renL_flD,seval]⟩) (by simp only [push_cast,leL_flD,renL_flD,seval]) (by simp only [push_cast,leL_flD,renL_flD,seval]) ?_
   refine chk_sx h (fun g7131 h=>?_)
   have k7130:0≤r7129∧r7129 < ((c4q36.length:Nat):Int):=by first | simpa only [Bool.and_eq_true,decide_eq_true_eq,bne_iff_ne,ne_eq] using g7131 | (simp at g7131 ⊢; omega)
   refine rs 6 [some ⟨.ptr 4 (0 + (r7129).toNat * 3),[],8,[4]⟩,none,some ⟨.sl (ix c4q36 r7129).items.length (fl (ix c4q36 r7129).items),[],10,[4]⟩] _ (by kernel_rfl) (allP_cons (ob_ld c4q36 r7129 3 2 ((0 + (r7129).toNat * 3) + 2) k7130 rfl (by decide) (by first | rfl | omega) (dflS Try.prog 40) (.sl (ix c4q36 r7129).items.length (fl (ix c4q36 r7129).items)) rfl 10 [4]) (allP_cons (ob_ix_o 4 c4q36.length 0 3 8 r7129 k7130) allP_nil)) ?_
   refine run_br h 81 (.inl (by kernel_rfl)) (fun g7132 h=>?_) (fun g7132 h=>?_)
   ·refine rs 2 [] [] (by kernel_rfl) allP_nil ?_
    obtain ⟨r7133,hr7133,h⟩:=bind_sx h
    refine call_x (taskmillref_PutDict_1_spec c4q36 x r7133 hr7133) (args:=[.ptr 2 0,.ptr 3 0]) (dst:=(some 84)) (by kernel_rfl) [(0,.row 26 (Enc.cells d)),(1,.row 26 [iS 0,.v (.slice none 0 0),.v (.slice none 0 0)]),(2,.row 72 [.own 4 0 c4q36.length]),(3,.row 45 (Enc.cells x)),(4,.row 74 (fl c4q36))] 16 (by kernel_rfl) [] [4,2,3] (iS r7133) [] (by simp only [push_cast,leL_flD,renL_flD,seval]) (by simp only [push_cast,leL_flD,renL_flD,seval]) (by kernel_rfl) (.inr ⟨by simp only [push_cast,leL_flD,renL_flD,seval],by simp only [push_cast,leL_flD,renL_flD,seval]⟩) (by simp only [push_cast,leL_flD,renL_flD,seval]) (by simp only [push_cast,leL_flD,renL_flD,seval]) ?_
    refine rn 12 [(2,.ptr 0 0),(4,.ptr 1 0),(5,.ptr 2 0),(8,.clo 37 [.ptr 2 0,.ptr 3 0]),(81,bS true),(82,.gd true (.own 4 0 c4q36.length)),(84,iS r7133)] [(0,.row 26 (Enc.cells d)),(1,.row 26 [iS 0,.v (.slice none 0 0),.v (.slice none 0 0)]),(2,.row 72 [.own 4 0 c4q36.length]),(3,.row 45 (Enc.cells x)),(4,.row 74 (fl c4q36))] 17 (by kernel_rfl) ?_
    refine chk_sx h (fun g7135 h=>?_)
    have k7134:0≤r7133∧r7133 < ((c4q36.length:Nat):Int):=by first | simpa only [Bool.and_eq_true,decide_eq_true_eq,bne_iff_ne,ne_eq] using g7135 | (simp at g7135 ⊢; omega)
    refine rs 5 [some ⟨.ptr 4 (0 + (r7133).toNat * 3),[],17,[4]⟩,none,some ⟨iS (ix c4q36 r7133).depth,[],19,[4]⟩] _ (by kernel_rfl) (allP_cons (ob_ld c4q36 r7133 3 0 ((0 + (r7133).toNat * 3) + 0) k7134 rfl (by decide) (by first | rfl | omega) (dflS Try.prog 3) (iS (ix c4q36 r7133).depth) rfl 19 [4]) (allP_cons (ob_ix_o 4 c4q36.length 0 3 17 r7133 k7134) allP_nil)) ?_
    refine rt [(2,.ptr 0 0),(4,.ptr 1 0),(5,.ptr 2 0),(8,.clo 37 [.ptr 2 0,.ptr 3 0]),(89,bS (decide ((ix c4q36 r7133).depth < 12)))] [(0,.row 26 (Enc.cells d)),(1,.row 26 [iS 0,.v (.slice none 0 0),.v (.slice none 0 0)]),(2,.row 72 [.own 4 0 c4q36.length]),(3,.row 45 (Enc.cells x)),(4,.row 74 (fl c4q36))] 22 follows (by kernel_rfl) ?_
    exact hK7128 ((decide ((ix c4q36 r7133).depth < 12))) _ _ _ h (leSt_m [(0,0),(1,1),(2,2),(3,3),(4,4)] [] (by (try simp only [g7132]) <;> simp only [push_cast,leL_flD,renL_flD,seval]) (by (try simp only [g7132]) <;> simp only [push_cast,leL_flD,renL_flD,seval]) rfl rfl rfl)
   ·refine rs 8 [] [] (by kernel_rfl) allP_nil ?_
    refine rt [(2,.ptr 0 0),(4,.ptr 1 0),(5,.ptr 2 0),(8,.clo 37 [.ptr 2 0,.ptr 3 0]),(89,bS false)] [(0,.row 26 (Enc.cells d)),(1,.row 26 [iS 0,.v (.slice none 0 0),.v (.slice none 0 0)]),(2,.row 72 [.own 4 0 c4q36.length]),(3,.row 45 (Enc.cells x)),(4,.row 74 (fl c4q36))] 22 follows (by kernel_rfl) ?_
    exact hK7128 (false) _ _ _ h (leSt_m [(0,0),(1,1),(2,2),(3,3),(4,4)] [] (by (try simp only [g7132]) <;> simp only [push_cast,leL_flD,renL_flD,seval]) (by (try simp only [g7132]) <;> simp only [push_cast,leL_flD,renL_flD,seval]) rfl rfl rfl)
  ·rintro t89q8 h
   try dsimp only at h ⊢
   unfold taskmillref_PutDict_j5 at h
   refine cond_sx h (by kernel_rfl) (fun g8508 h=>?_) (fun g8508 h=>?_)
   ·refine wk_id ?_
    refine block_np ?_
    refine seq_np ?_
    refine reg_f ?_
    refine rs 1 [] [] (by kernel_rfl) allP_nil ?_
    obtain ⟨r7137,hr7137,h⟩:=bind_sx h
    refine call_x (taskmillref_PutDict_1_spec c4q36 x r7137 hr7137) (args:=[.ptr 2 0,.ptr 3 0]) (dst:=(some 91)) (by kernel_rfl) [(0,.row 26 (Enc.cells d)),(1,.row 26 [iS 0,.v (.slice none 0 0),.v (.slice none 0 0)]),(2,.row 72 [.own 4 0 c4q36.length]),(3,.row 45 (Enc.cells x)),(4,.row 74 (fl c4q36))] 5 (by kernel_rfl) [] [4,2,3] (iS r7137) [] (by simp only [push_cast,leL_flD,renL_flD,seval]) (by simp only [push_cast,leL_flD,renL_flD,seval]) (by kernel_rfl) (.inr ⟨by simp only [push_cast,leL_flD,renL_flD,seval],by simp only [push_cast,leL_flD,renL_flD,seval]⟩) (by simp only [push_cast,leL_flD,renL_flD,seval]) (by simp only [push_cast,leL_flD,renL_flD,seval]) ?_
    refine rs 1 [] [] (by kernel_rfl) allP_nil ?_
    refine rf [(2,.ptr 0 0),(4,.ptr 1 0),(5,.ptr 2 0),(8,.clo 37 [.ptr 2 0,.ptr 3 0]),(9,iS r7137)] [(0,.row 26 (Enc.cells d)),(1,.row 26 [iS 0,.v (.slice none 0 0),.v (.slice none 0 0)]),(2,.row 72 [.own 4 0 c4q36.length]),(3,.row 45 (Enc.cells x)),(4,.row 74 (fl c4q36))] 5 (by kernel_rfl) ?_
    refine wk_id ?_
    refine chk_sx h (fun g7141 h=>?_)
    refine seq_np ?_
    refine reg_f ?_
    have k7140:0≤r7137∧r7137 < ((c4q36.length:Nat):Int):=by first | simpa only [Bool.and_eq_true,decide_eq_true_eq,bne_iff_ne,ne_eq] using g7141 | (simp at g7141 ⊢; omega)
    refine rs 6 [none,none,some ⟨.ptr 4 (0 + (r7137).toNat * 3),[],5,[4]⟩,some ⟨.agg (Enc.cells (ix c4q36 r7137)),[],5,[4]⟩] _ (by kernel_rfl) (allP_cons (ob_ldw c4q36 r7137 3 (0 + (r7137).toNat * 3) k7140 rfl (by first | rfl | omega) [iS (ix c4q36 r7137).depth,iS (ix c4q36 r7137).bits,.sl (ix c4q36 r7137).items.length (fl (ix c4q36 r7137).items)] rfl 5 [4]) (allP_cons (ob_ix_o 4 c4q36.length 0 3 5 r7137 k7140) allP_nil)) ?_
    refine rf [(2,.ptr 0 0),(4,.ptr 1 0),(5,.ptr 2 0),(8,.clo 37 [.ptr 2 0,.ptr 3 0]),(9,iS r7137),(10,.ptr 5 0)] [(0,.row 26 (Enc.cells d)),(1,.row 26 [iS 0,.v (.slice none 0 0),.v (.slice none 0 0)]),(2,.row 72 [.own 4 0 c4q36.length]),(3,.row 45 (Enc.cells x)),(4,.row 74 (fl c4q36)),(5,.row 74 (Enc.cells (ix c4q36 r7137)))] 6 (by kernel_rfl) ?_
    refine wk_id ?_
    refine seq_np ?_
    refine reg_f ?_
    refine rs 8 [] [] (by kernel_rfl) allP_nil ?_
    refine rf [(2,.ptr 0 0),(4,.ptr 1 0),(5,.ptr 2 0),(8,.clo 37 [.ptr 2 0,.ptr 3 0]),(9,iS r7137),(10,.ptr 5 0),(11,.ptr 6 0)] [(0,.row 26 (Enc.cells d)),(1,.row 26 [iS 0,.v (.slice none 0 0),.v (.slice none 0 0)]),(2,.row 72 [.own 4 0 c4q36.length]),(3,.row 45 (Enc.cells x)),(4,.row 74 (fl c4q36)),(5,.row 74 (Enc.cells (ix c4q36 r7137))),(6,.row 74 [iS (IntKind.i64.wrap ((ix c4q36 r7137).depth + 1)),iS (ix c4q36 r7137).bits,.v (.slice none 0 0)])] 7 (by kernel_rfl) ?_
    refine wk_id ?_
    refine chk_sx h (fun g7145 h=>?_)
    refine seq_np ?_
    refine reg_t ?_
    have k7144:0≤(ix c4q36 r7137).depth:=by first | simpa only [Bool.and_eq_true,decide_eq_true_eq,bne_iff_ne,ne_eq] using g7145 | (simp at g7145 ⊢; omega)
    refine rs 12 [none,none,none,none,none,none,none,some ⟨iS (IntKind.i64.wrap ((1:Int) * 2 ^ (min ((ix c4q36 r7137).depth).toNat (IntKind.i64).bits))),[],14,[]⟩] _ (by kernel_rfl) (allP_cons (ob_p (v:=iS (IntKind.i64.wrap ((1:Int) * 2 ^ (min ((ix c4q36 r7137).depth).toNat (IntKind.i64).bits)))) (nx:=14) (r:=[]) k7144) allP_nil) ?_
    refine rt [(2,.ptr 0 0),(4,.ptr 1 0),(5,.ptr 2 0),(8,.clo 37 [.ptr 2 0,.ptr 3 0]),(9,iS r7137),(10,.ptr 5 0),(11,.ptr 6 0),(12,.ptr 17 0)] [(0,.row 26 (Enc.cells d)),(1,.row 26 [iS 0,.v (.slice none 0 0),.v (.slice none 0 0)]),(2,.row 72 [.own 4 0 c4q36.length]),(3,.row 45 (Enc.cells x)),(4,.row 74 (fl c4q36)),(5,.row 74 (Enc.cells (ix c4q36 r7137))),(6,.row 74 [iS (IntKind.i64.wrap ((ix c4q36 r7137).depth + 1)),iS (ix c4q36 r7137).bits,.v (.slice none 0 0)]),(17,.row 74 [iS (IntKind.i64.wrap ((ix c4q36 r7137).depth + 1)),iS (IntKind.i64.wrap ((ix c4q36 r7137).bits + (IntKind.i64.wrap ((1:Int) * 2 ^ (min ((ix c4q36 r7137).depth).toNat (IntKind.i64).bits))))),.v (.slice none 0 0)])] 20 follows (by kernel_rfl) ?_
    refine wk_id ?_
    refine seq_np ?_
    refine seq_np ?_
    refine reg_f ?_
    refine rs 1 [] [] (by kernel_rfl) allP_nil ?_
    refine rf [(2,.ptr 0 0),(4,.ptr 1 0),(5,.ptr 2 0),(8,.clo 37 [.ptr 2 0,.ptr 3 0]),(9,iS r7137),(10,.ptr 5 0),(11,.ptr 6 0),(12,.ptr 17 0),(13,iS 0)] [(0,.row 26 (Enc.cells d)),(1,.row 26 [iS 0,.v (.slice none 0 0),.v (.slice none 0 0)]),(2,.row 72 [.own 4 0 c4q36.length]),(3,.row 45 (Enc.cells x)),(4,.row 74 (fl c4q36)),(5,.row 74 (Enc.cells (ix c4q36 r7137))),(6,.row 74 [iS (IntKind.i64.wrap ((ix c4q36 r7137).depth + 1)),iS (ix c4q36 r7137).bits,.v (.slice none 0 0)]),(17,.row 74 [iS (IntKind.i64.wrap ((ix c4q36 r7137).depth + 1)),iS (IntKind.i64.wrap ((ix c4q36 r7137).bits + (IntKind.i64.wrap ((1:Int) * 2 ^ (min ((ix c4q36 r7137).depth).toNat (IntKind.i64).bits))))),.v (.slice none 0 0)])] 20 (by kernel_rfl) ?_
    refine wk_id ?_
    refine block_np ?_
    refine loop_sx (S:=Int × Int × part × Int × Int × Int × Int × (List GItem) × (List GItem)) (fun a=>([(2,.ptr 0 0),(4,.ptr 1 0),(5,.ptr 2 0),(8,.clo 37 [.ptr 2 0,.ptr 3 0]),(9,iS a.1),(10,.ptr 4 0),(11,.ptr 5 0),(12,.ptr 6 0),(13,iS a.2.1)],[(0,.row 26 (Enc.cells d)),(1,.row 26 [iS 0,.v (.slice none 0 0),.v (.slice none 0 0)]),(2,.row 72 [.own 7 0 c4q36.length]),(3,.row 45 (Enc.cells x)),(4,.row 74 (Enc.cells a.2.2.1)),(5,.row 74 [iS a.2.2.2.1,iS a.2.2.2.2.1,.own 8 0 a.2.2.2.2.2.2.2.1.length]),(6,.row 74 [iS a.2.2.2.2.2.1,iS a.2.2.2.2.2.2.1,.own 9 0 a.2.2.2.2.2.2.2.2.length]),(7,.row 74 (fl c4q36)),(8,.row 45 (fl a.2.2.2.2.2.2.2.1)),(9,.row 45 (fl a.2.2.2.2.2.2.2.2))],10)) h (leSt_m [(0,0),(1,1),(2,2),(3,3),(4,5),(5,6),(6,17),(7,4)] [] (by simp only [push_cast,leL_flD,renL_flD,seval]) (by simp only [push_cast,leL_flD,renL_flD,seval]) rfl rfl rfl) ?_
    rintro ⟨i33,k25,c4q45,c5_depth29,c5_bits29,c6_depth29,c6_bits29,c8q48,c9q48⟩ o11 R11 h hr11 hn11 hx11 ht11
    try dsimp only at h hn11 ⊢
    unfold taskmillref_PutDict_l2 at h
    try dsimp only at h
    refine seq_np ?_
    refine seq_np ?_
    refine reg_f ?_
    refine rs 5 [] [] (by kernel_rfl) allP_nil ?_
    refine rf [(2,.ptr 0 0),(4,.ptr 1 0),(5,.ptr 2 0),(8,.clo 37 [.ptr 2 0,.ptr 3 0]),(9,iS i33),(10,.ptr 4 0),(11,.ptr 5 0),(12,.ptr 6 0),(13,iS k25),(116,bS (decide (k25 < ((c4q45.items.length:Nat):Int))))] [(0,.row 26 (Enc.cells d)),(1,.row 26 [iS 0,.v (.slice none 0 0),.v (.slice none 0 0)]),(2,.row 72 [.own 7 0 c4q36.length]),(3,.row 45 (Enc.cells x)),(4,.row 74 (Enc.cells c4q45)),(5,.row 74 [iS c5_depth29,iS c5_bits29,.own 8 0 c8q48.length]),(6,.row 74 [iS c6_depth29,iS c6_bits29,.own 9 0 c9q48.length]),(7,.row 74 (fl c4q36)),(8,.row 45 (fl c8q48)),(9,.row 45 (fl c9q48))] 10 (by kernel_rfl) ?_
    refine wk_id ?_
    refine cond_sx h (by kernel_rfl) (fun g7343 h=>?_) (fun g7343 h=>?_)
    ·refine wk_id ?_
     refine seq_np ?_
     refine block_cut (A:=(List GItem) × (List GItem)) (fun a=>([(2,.ptr 0 0),(4,.ptr 1 0),(5,.ptr 2 0),(8,.clo 37 [.ptr 2 0,.ptr 3 0]),(9,iS i33),(10,.ptr 4 0),(11,.ptr 5 0),(12,.ptr 6 0),(13,iS k25)],[(0,.row 26 (Enc.cells d)),(1,.row 26 [iS 0,.v (.slice none 0 0),.v (.slice none 0 0)]),(2,.row 72 [.own 7 0 c4q36.length]),(3,.row 45 (Enc.cells x)),(4,.row 74 (Enc.cells c4q45)),(5,.row 74 [iS c5_depth29,iS c5_bits29,.own 8 0 a.1.length]),(6,.row 74 [iS c6_depth29,iS c6_bits29,.own 9 0 a.2.length]),(7,.row 74 (fl c4q36)),(8,.row 45 (fl a.1)),(9,.row 45 (fl a.2))],10)) (fun a=>(taskmillref_PutDict_j1 d x c4q36 i33 k25 c4q45 c5_depth29 c5_bits29 c6_depth29 c6_bits29 a.1 a.2) = some o11) (fun K7307 hK7307=>?_) ?_
     ·refine chk_sx h (fun g7313 h=>?_)
      refine chk_sx h (fun g7315 h=>?_)
      refine seq_np ?_
      refine reg_t ?_
      have k7312:0≤k25∧k25 < ((c4q45.items.length:Nat):Int):=by first | simpa only [Bool.and_eq_true,decide_eq_true_eq,bne_iff_ne,ne_eq] using g7313 | (simp at g7313 ⊢; omega)
      have k7314:0≤c4q45.depth:=by first | simpa only [Bool.and_eq_true,decide_eq_true_eq,bne_iff_ne,ne_eq] using g7315 | (simp at g7315 ⊢; omega)
      refine rs 11 [none,none,none,some ⟨.iptr (fl c4q45.items) ((k25).toNat * 2),[],13,[]⟩,none,some ⟨iS (ix c4q45.items k25).Key,[],15,[]⟩,none,none,some ⟨iS (Int.fdiv (ix c4q45.items k25).Key (2 ^ (min (c4q45.depth).toNat (IntKind.i64).bits))),[],18,[]⟩] _ (by kernel_rfl) (allP_cons (ob_p (v:=iS (Int.fdiv (ix c4q45.items k25).Key (2 ^ (min (c4q45.depth).toNat (IntKind.i64).bits)))) (nx:=18) (r:=[]) k7314) (allP_cons (ob_ld c4q45.items k25 2 0 (((k25).toNat * 2) + 0) k7312 rfl (by decide) (by first | rfl | omega) (dflS Try.prog 3) (iS (ix c4q45.items k25).Key) rfl 15 []) (allP_cons (ob_ix_l c4q45.items 2 13 k25 k7312) allP_nil))) ?_
      refine rt [(2,.ptr 0 0),(4,.ptr 1 0),(5,.ptr 2 0),(8,.clo 37 [.ptr 2 0,.ptr 3 0]),(9,iS i33),(10,.ptr 4 0),(11,.ptr 5 0),(12,.ptr 6 0),(13,iS k25),(129,bS ((IntKind.i64.wrap (((BitVec.ofInt (IntKind.i64).bits (Int.fdiv (ix c4q45.items k25).Key (2 ^ (min (c4q45.depth).toNat (IntKind.i64).bits))) &&& BitVec.ofInt (IntKind.i64).bits 1).toNat:Nat):Int)) == 0))] [(0,.row 26 (Enc.cells d)),(1,.row 26 [iS 0,.v (.slice none 0 0),.v (.slice none 0 0)]),(2,.row 72 [.own 7 0 c4q36.length]),(3,.row 45 (Enc.cells x)),(4,.row 74 (Enc.cells c4q45)),(5,.row 74 [iS c5_depth29,iS c5_bits29,.own 8 0 c8q48.length]),(6,.row 74 [iS c6_depth29,iS c6_bits29,.own 9 0 c9q48.length]),(7,.row 74 (fl c4q36)),(8,.row 45 (fl c8q48)),(9,.row 45 (fl c9q48))] 21 follows (by kernel_rfl) ?_
      refine wk_id ?_
      refine cond_sx h (by kernel_rfl) (fun g7332 h=>?_) (fun g7332 h=>?_)
      ·refine chk_sx h (fun g7321 h=>?_)
       refine chk_sx h (fun g7323 h=>?_)
       refine reg_t ?_
       have k7320:0≤k25∧k25 < ((c4q45.items.length:Nat):Int):=by first | simpa only [Bool.and_eq_true,decide_eq_true_eq,bne_iff_ne,ne_eq] using g7321 | (simp at g7321 ⊢; omega)
       have k7322:(c8q48 ++ ([(ix c4q45.items k25)]:List GItem)).length * 16≤140737488355328:=by first | simpa only [Bool.and_eq_true,decide_eq_true_eq,bne_iff_ne,ne_eq] using g7323 | (simp at g7323 ⊢; omega)
       refine rs 11 [none,none,none,none,none,some ⟨.iptr (fl c4q45.items) ((k25).toNat * 2),[],26,[]⟩,some ⟨.agg (Enc.cells (ix c4q45.items k25)),[],27,[]⟩,none,some ⟨.own 30 0 (c8q48 ++ ([(ix c4q45.items k25)]:List GItem)).length,[(30,.row 45 (fl (c8q48 ++ ([(ix c4q45.items k25)]:List GItem)))),(8,.dead)],31,[8,28]⟩] _ (by kernel_rfl) (allP_cons (ob_app (P:=Try.prog) c8q48 ([(ix c4q45.items k25)]:List GItem) 2 16 rfl (appCells (fl ([(ix c4q45.items k25)]:List GItem)) 0 (([(ix c4q45.items k25)]:List GItem).length * 2)) ([(ix c4q45.items k25)]:List GItem).length (app_own ([(ix c4q45.items k25)]:List GItem) 2 rfl) rfl (0 + ([(ix c4q45.items k25)]:List GItem).length * 2≤(fl ([(ix c4q45.items k25)]:List GItem)).length) (app_own_le ([(ix c4q45.items k25)]:List GItem) 2 rfl) 45 (by kernel_rfl) (by decide) k7322 8 30 [28]) (allP_cons (ob_ldw c4q45.items k25 2 ((k25).toNat * 2) k7320 rfl (by first | rfl | omega) [iS (ix c4q45.items k25).Key,iS (ix c4q45.items k25).Value] rfl 27 []) (allP_cons (ob_ix_l c4q45.items 2 26 k25 k7320) allP_nil))) ?_
       refine rt [(2,.ptr 0 0),(4,.ptr 1 0),(5,.ptr 2 0),(8,.clo 37 [.ptr 2 0,.ptr 3 0]),(9,iS i33),(10,.ptr 4 0),(11,.ptr 5 0),(12,.ptr 6 0),(13,iS k25)] [(0,.row 26 (Enc.cells d)),(1,.row 26 [iS 0,.v (.slice none 0 0),.v (.slice none 0 0)]),(2,.row 72 [.own 7 0 c4q36.length]),(3,.row 45 (Enc.cells x)),(4,.row 74 (Enc.cells c4q45)),(5,.row 74 [iS c5_depth29,iS c5_bits29,.own 30 0 (c8q48 ++ ([(ix c4q45.items k25)]:List GItem)).length]),(6,.row 74 [iS c6_depth29,iS c6_bits29,.own 9 0 c9q48.length]),(7,.row 74 (fl c4q36)),(8,.dead),(9,.row 45 (fl c9q48)),(28,.row 45 (fl ([(ix c4q45.items k25)]:List GItem))),(30,.row 45 (fl (c8q48 ++ ([(ix c4q45.items k25)]:List GItem))))] 34 follows (by kernel_rfl) ?_
       exact hK7307 ((c8q48 ++ ([(ix c4q45.items k25)]:List GItem)),c9q48) _ _ _ h (leSt_m [(0,0),(1,1),(2,2),(3,3),(4,4),(5,5),(6,6),(7,7),(8,30),(9,9)] [] (by simp only [push_cast,leL_flD,renL_flD,seval]) (by simp only [push_cast,leL_flD,renL_flD,seval]) rfl rfl rfl)
      ·refine chk_sx h (fun g7329 h=>?_)
       refine chk_sx h (fun g7331 h=>?_)
       refine reg_t ?_
       have k7328:0≤k25∧k25 < ((c4q45.items.length:Nat):Int):=by first | simpa only [Bool.and_eq_true,decide_eq_true_eq,bne_iff_ne,ne_eq] using g7329 | (simp at g7329 ⊢; omega)
       have k7330:(c9q48 ++ ([(ix c4q45.items k25)]:List GItem)).length * 16≤140737488355328:=by first | simpa only [Bool.and_eq_true,decide_eq_true_eq,bne_iff_ne,ne_eq] using g7331 | (simp at g7331 ⊢; omega)
       refine rs 11 [none,none,none,none,none,some ⟨.iptr (fl c4q45.items) ((k25).toNat * 2),[],26,[]⟩,some ⟨.agg (Enc.cells (ix c4q45.items k25)),[],27,[]⟩,none,some ⟨.own 30 0 (c9q48 ++ ([(ix c4q45.items k25)]:List GItem)).length,[(30,.row 45 (fl (c9q48 ++ ([(ix c4q45.items k25)]:List GItem)))),(9,.dead)],31,[9,28]⟩] _ (by kernel_rfl) (allP_cons (ob_app (P:=Try.prog) c9q48 ([(ix c4q45.items k25)]:List GItem) 2 16 rfl (appCells (fl ([(ix c4q45.items k25)]:List GItem)) 0 (([(ix c4q45.items k25)]:List GItem).length * 2)) ([(ix c4q45.items k25)]:List GItem).length (app_own ([(ix c4q45.items k25)]:List GItem) 2 rfl) rfl (0 + ([(ix c4q45.items k25)]:List GItem).length * 2≤(fl ([(ix c4q45.items k25)]:List GItem)).length) (app_own_le ([(ix c4q45.items k25)]:List GItem) 2 rfl) 45 (by kernel_rfl) (by decide) k7330 9 30 [28]) (allP_cons (ob_ldw c4q45.items k25 2 ((k25).toNat * 2) k7328 rfl (by first | rfl | omega) [iS (ix c4q45.items k25).Key,iS (ix c4q45.items k25).Value] rfl 27 []) (allP_cons (ob_ix_l c4q45.items 2 26 k25 k7328) allP_nil))) ?_
       refine rt [(2,.ptr 0 0),(4,.ptr 1 0),(5,.ptr 2 0),(8,.clo 37 [.ptr 2 0,.ptr 3 0]),(9,iS i33),(10,.ptr 4 0),(11,.ptr 5 0),(12,.ptr 6 0),(13,iS k25)] [(0,.row 26 (Enc.cells d)),(1,.row 26 [iS 0,.v (.slice none 0 0),.v (.slice none 0 0)]),(2,.row 72 [.own 7 0 c4q36.length]),(3,.row 45 (Enc.cells x)),(4,.row 74 (Enc.cells c4q45)),(5,.row 74 [iS c5_depth29,iS c5_bits29,.own 8 0 c8q48.length]),(6,.row 74 [iS c6_depth29,iS c6_bits29,.own 30 0 (c9q48 ++ ([(ix c4q45.items k25)]:List GItem)).length]),(7,.row 74 (fl c4q36)),(8,.row 45 (fl c8q48)),(9,.dead),(28,.row 45 (fl ([(ix c4q45.items k25)]:List GItem))),(30,.row 45 (fl (c9q48 ++ ([(ix c4q45.items k25)]:List GItem))))] 34 follows (by kernel_rfl) ?_
       exact hK7307 (c8q48,(c9q48 ++ ([(ix c4q45.items k25)]:List GItem))) _ _ _ h (leSt_m [(0,0),(1,1),(2,2),(3,3),(4,4),(5,5),(6,6),(7,7),(8,8),(9,30)] [] (by simp only [push_cast,leL_flD,renL_flD,seval]) (by simp only [push_cast,leL_flD,renL_flD,seval]) rfl rfl rfl)
     ·rintro ⟨c8q50,c9q50⟩ h
      try dsimp only at h ⊢
      unfold taskmillref_PutDict_j1 at h
      refine wk_id ?_
      refine reg_f ?_
      refine rs 3 [] [] (by kernel_rfl) allP_nil ?_
      refine rf [(2,.ptr 0 0),(4,.ptr 1 0),(5,.ptr 2 0),(8,.clo 37 [.ptr 2 0,.ptr 3 0]),(9,iS i33),(10,.ptr 4 0),(11,.ptr 5 0),(12,.ptr 6 0),(13,iS (IntKind.i64.wrap (k25 + 1)))] [(0,.row 26 (Enc.cells d)),(1,.row 26 [iS 0,.v (.slice none 0 0),.v (.slice none 0 0)]),(2,.row 72 [.own 7 0 c4q36.length]),(3,.row 45 (Enc.cells x)),(4,.row 74 (Enc.cells c4q45)),(5,.row 74 [iS c5_depth29,iS c5_bits29,.own 8 0 c8q50.length]),(6,.row 74 [iS c6_depth29,iS c6_bits29,.own 9 0 c9q50.length]),(7,.row 74 (fl c4q36)),(8,.row 45 (fl c8q50)),(9,.row 45 (fl c9q50))] 10 (by kernel_rfl) ?_
      exact hn11 (i33,(IntKind.i64.wrap (k25 + 1)),c4q45,c5_depth29,c5_bits29,c6_depth29,c6_bits29,c8q50,c9q50) _ _ _ (Option.some.inj h).symm (leSt_m [(0,0),(1,1),(2,2),(3,3),(4,4),(5,5),(6,6),(7,7),(8,8),(9,9)] [] (by simp only [push_cast,leL_flD,renL_flD,seval]) (by simp only [push_cast,leL_flD,renL_flD,seval]) rfl rfl rfl)
    ·change R11 (.exit 6) _ _ _
     refine ex_cast hx11 (id:=6) ?_
     obtain ⟨r0,h,e0⟩:=map_sx h
     have e1:=hr11 r0 e0.symm
     subst r0
     refine wk_id ?_
     refine wk_mk [(2,.ptr 0 0),(4,.ptr 1 0),(5,.ptr 2 0),(8,.clo 37 [.ptr 2 0,.ptr 3 0]),(9,iS i33),(10,.ptr 4 0),(11,.ptr 5 0),(12,.ptr 6 0),(13,iS k25),(116,bS (decide (k25 < ((c4q45.items.length:Nat):Int))))] [(0,.row 26 (Enc.cells d)),(1,.row 26 [iS 0,.v (.slice none 0 0),.v (.slice none 0 0)]),(2,.row 72 [.own 7 0 c4q36.length]),(3,.row 45 (Enc.cells x)),(4,.row 74 (Enc.cells c4q45)),(5,.row 74 [iS c5_depth29,iS c5_bits29,.sl c8q48.length (fl c8q48)]),(6,.row 74 [iS c6_depth29,iS c6_bits29,.own 9 0 c9q48.length]),(7,.row 74 (fl c4q36)),(9,.row 45 (fl c9q48))] 10 (leSt_m [(0,0),(1,1),(2,2),(3,3),(4,4),(5,5),(6,6),(7,7),(9,9)] [8] (by simp only [leS_frz,leS_cut,leL_flD,renL_flD,push_cast,seval]) (by simp only [leS_frz,leS_cut,leL_flD,renL_flD,push_cast,seval]) rfl rfl rfl) ?_
     refine chk_sx h (fun g7338 h=>?_)
     refine seq_np ?_
     refine reg_f ?_
     have k7337:0≤i33∧i33 < ((c4q36.length:Nat):Int):=by first | simpa only [Bool.and_eq_true,decide_eq_true_eq,bne_iff_ne,ne_eq] using g7338 | (simp at g7338 ⊢; omega)
     refine rs 5 [none,none,none,some ⟨.ptr 7 (0 + (i33).toNat * 3),[],10,[7]⟩,some ⟨.any,[(7,.row 74 (fl (c4q36.set i33.toNat ((part.mk c5_depth29 c5_bits29 c8q48):part))))],10,[7]⟩] _ (by kernel_rfl) (allP_cons (ob_st (P:=Try.prog) c4q36 i33 3 0 (0 + (i33).toNat * 3) k7337 rfl [iS c5_depth29,iS c5_bits29,.sl c8q48.length (fl c8q48)] ((part.mk c5_depth29 c5_bits29 c8q48):part) (Nat.le_of_ble_eq_true rfl) (by first | rfl | omega) rfl 7 10 74 74 (by kernel_rfl) rfl) (allP_cons (ob_ix_o 7 c4q36.length 0 3 10 i33 k7337) allP_nil)) ?_
     refine run_eqH 2 (.row 72 [.own 7 0 c4q36.length]) (.row 72 [.own 7 0 (c4q36.set i33.toNat ((part.mk c5_depth29 c5_bits29 c8q48):part)).length]) (congrArg (fun nq=>(.row 72 [.own 7 0 nq]:Chunk)) (show c4q36.length = (c4q36.set i33.toNat ((part.mk c5_depth29 c5_bits29 c8q48):part)).length from (List.length_set ..).symm)) (by kernel_rfl) ?_
     refine rf [(2,.ptr 0 0),(4,.ptr 1 0),(5,.ptr 2 0),(8,.clo 37 [.ptr 2 0,.ptr 3 0]),(12,.ptr 6 0)] [(0,.row 26 (Enc.cells d)),(1,.row 26 [iS 0,.v (.slice none 0 0),.v (.slice none 0 0)]),(2,.row 72 [.own 7 0 (c4q36.set i33.toNat ((part.mk c5_depth29 c5_bits29 c8q48):part)).length]),(3,.row 45 (Enc.cells x)),(4,.row 74 (Enc.cells c4q45)),(5,.row 74 [iS c5_depth29,iS c5_bits29,.sl c8q48.length (fl c8q48)]),(6,.row 74 [iS c6_depth29,iS c6_bits29,.own 9 0 c9q48.length]),(7,.row 74 (fl (c4q36.set i33.toNat ((part.mk c5_depth29 c5_bits29 c8q48):part)))),(9,.row 45 (fl c9q48))] 10 (by kernel_rfl) ?_
     refine wk_mk [(2,.ptr 0 0),(4,.ptr 1 0),(5,.ptr 2 0),(8,.clo 37 [.ptr 2 0,.ptr 3 0]),(12,.ptr 6 0)] [(0,.row 26 (Enc.cells d)),(1,.row 26 [iS 0,.v (.slice none 0 0),.v (.slice none 0 0)]),(2,.row 72 [.own 7 0 (c4q36.set i33.toNat ((part.mk c5_depth29 c5_bits29 c8q48):part)).length]),(3,.row 45 (Enc.cells x)),(4,.row 74 (Enc.cells c4q45)),(5,.row 74 [iS c5_depth29,iS c5_bits29,.sl c8q48.length (fl c8q48)]),(6,.row 74 [iS c6_depth29,iS c6_bits29,.sl c9q48.length (fl c9q48)]),(7,.row 74 (fl (c4q36.set i33.toNat ((part.mk c5_depth29 c5_bits29 c8q48):part))))] 10 (leSt_m [(0,0),(1,1),(2,2),(3,3),(4,4),(5,5),(6,6),(7,7)] [9] (by simp only [leS_frz,leS_cut,leL_flD,renL_flD,push_cast,seval]) (by simp only [leS_frz,leS_cut,leL_flD,renL_flD,push_cast,seval]) rfl rfl rfl) ?_
     refine chk_sx h (fun g7342 h=>?_)
     refine reg_f ?_
     have k7341:((c4q36.set i33.toNat ((part.mk c5_depth29 c5_bits29 c8q48):part)) ++ ([(part.mk c6_depth29 c6_bits29 c9q48)]:List part)).length * 40≤140737488355328:=by first | simpa only [Bool.and_eq_true,decide_eq_true_eq,bne_iff_ne,ne_eq] using g7342 | (simp at g7342 ⊢; omega)
     refine rs 5 [none,none,none,some ⟨.own 11 0 ((c4q36.set i33.toNat ((part.mk c5_depth29 c5_bits29 c8q48):part)) ++ ([(part.mk c6_depth29 c6_bits29 c9q48)]:List part)).length,[(11,.row 74 (fl ((c4q36.set i33.toNat ((part.mk c5_depth29 c5_bits29 c8q48):part)) ++ ([(part.mk c6_depth29 c6_bits29 c9q48)]:List part)))),(7,.dead)],12,[7,10]⟩] _ (by kernel_rfl) (allP_cons (ob_app (P:=Try.prog) (c4q36.set i33.toNat ((part.mk c5_depth29 c5_bits29 c8q48):part)) ([(part.mk c6_depth29 c6_bits29 c9q48)]:List part) 3 40 rfl (appCells (fl ([(part.mk c6_depth29 c6_bits29 c9q48)]:List part)) 0 (([(part.mk c6_depth29 c6_bits29 c9q48)]:List part).length * 3)) ([(part.mk c6_depth29 c6_bits29 c9q48)]:List part).length (app_own ([(part.mk c6_depth29 c6_bits29 c9q48)]:List part) 3 rfl) rfl (0 + ([(part.mk c6_depth29 c6_bits29 c9q48)]:List part).length * 3≤(fl ([(part.mk c6_depth29 c6_bits29 c9q48)]:List part)).length) (app_own_le ([(part.mk c6_depth29 c6_bits29 c9q48)]:List part) 3 rfl) 74 (by kernel_rfl) (by decide) k7341 7 11 [10]) allP_nil) ?_
     refine rf [(2,.ptr 0 0),(4,.ptr 1 0),(5,.ptr 2 0),(8,.clo 37 [.ptr 2 0,.ptr 3 0])] [(0,.row 26 (Enc.cells d)),(1,.row 26 [iS 0,.v (.slice none 0 0),.v (.slice none 0 0)]),(2,.row 72 [.own 11 0 ((c4q36.set i33.toNat ((part.mk c5_depth29 c5_bits29 c8q48):part)) ++ ([(part.mk c6_depth29 c6_bits29 c9q48)]:List part)).length]),(3,.row 45 (Enc.cells x)),(4,.row 74 (Enc.cells c4q45)),(5,.row 74 [iS c5_depth29,iS c5_bits29,.sl c8q48.length (fl c8q48)]),(6,.row 74 [iS c6_depth29,iS c6_bits29,.sl c9q48.length (fl c9q48)]),(7,.dead),(10,.row 74 (fl ([(part.mk c6_depth29 c6_bits29 c9q48)]:List part))),(11,.row 74 (fl ((c4q36.set i33.toNat ((part.mk c5_depth29 c5_bits29 c8q48):part)) ++ ([(part.mk c6_depth29 c6_bits29 c9q48)]:List part))))] 12 (by kernel_rfl) ?_
     refine wk_id ?_
     exact hn10 (((c4q36.set i33.toNat ((part.mk c5_depth29 c5_bits29 c8q48):part)) ++ ([(part.mk c6_depth29 c6_bits29 c9q48)]:List part))) _ _ _ (Option.some.inj h).symm (leSt_m [(0,0),(1,1),(2,2),(3,3),(4,11)] [] (by simp only [push_cast,leL_flD,renL_flD,seval]) (by simp only [push_cast,leL_flD,renL_flD,seval]) rfl rfl rfl)
   ·change R10 (.exit 4) _ _ _
    refine ex_cast hx10 (id:=4) ?_
    obtain ⟨r0,h,e0⟩:=map_sx h
    have e1:=hr10 r0 e0.symm
    subst r0
    refine wk_id ?_
    refine wk_id ?_
    refine seq_np ?_
    refine reg_f ?_
    refine rs 5 [] [] (by kernel_rfl) allP_nil ?_
    refine rf [(4,.ptr 1 0),(5,.ptr 2 0),(14,.ptr 5 0)] [(0,.row 26 (Enc.cells d)),(1,.row 26 [iS 0,.v (.slice none 0 0),.v (.slice none 0 0)]),(2,.row 72 [.own 4 0 c4q36.length]),(3,.row 45 (Enc.cells x)),(4,.row 74 (fl c4q36)),(5,.row 26 [iS d.Depth,.v (.slice none 0 0),.v (.slice none 0 0)])] 6 (by kernel_rfl) ?_
    refine wk_id ?_
    refine seq_np ?_
    refine seq_np ?_
    refine reg_f ?_
    refine rs 1 [] [] (by kernel_rfl) allP_nil ?_
    refine rf [(4,.ptr 1 0),(5,.ptr 2 0),(14,.ptr 5 0),(15,iS 0)] [(0,.row 26 (Enc.cells d)),(1,.row 26 [iS 0,.v (.slice none 0 0),.v (.slice none 0 0)]),(2,.row 72 [.own 4 0 c4q36.length]),(3,.row 45 (Enc.cells x)),(4,.row 74 (fl c4q36)),(5,.row 26 [iS d.Depth,.v (.slice none 0 0),.v (.slice none 0 0)])] 6 (by kernel_rfl) ?_
    refine wk_id ?_
    refine block_np ?_
    refine loop_sx (S:=Int × Int) (fun a=>([(4,.ptr 0 0),(5,.ptr 1 0),(14,.ptr 2 0),(15,iS a.1)],[(0,.row 26 [iS 0,.v (.slice none 0 0),.v (.slice none 0 0)]),(1,.row 72 [.own 3 0 c4q36.length]),(2,.row 26 [iS a.2,.v (.slice none 0 0),.v (.slice none 0 0)]),(3,.row 74 (fl c4q36))],4)) h (leSt_m [(0,1),(1,2),(2,5),(3,4)] [] (by simp only [push_cast,leL_flD,renL_flD,seval]) (by simp only [push_cast,leL_flD,renL_flD,seval]) rfl rfl rfl) ?_
    rintro ⟨i39,c2_Depth18⟩ o12 R12 h hr12 hn12 hx12 ht12
    try dsimp only at h hn12 ⊢
    unfold taskmillref_PutDict_l5 at h
    try dsimp only at h
    refine seq_np ?_
    refine seq_np ?_
    refine reg_f ?_
    refine rs 4 [] [] (by kernel_rfl) allP_nil ?_
    refine rf [(4,.ptr 0 0),(5,.ptr 1 0),(14,.ptr 2 0),(15,iS i39),(164,bS (decide (i39 < ((c4q36.length:Nat):Int))))] [(0,.row 26 [iS 0,.v (.slice none 0 0),.v (.slice none 0 0)]),(1,.row 72 [.own 3 0 c4q36.length]),(2,.row 26 [iS c2_Depth18,.v (.slice none 0 0),.v (.slice none 0 0)]),(3,.row 74 (fl c4q36))] 4 (by kernel_rfl) ?_
    refine wk_id ?_
    refine cond_sx h (by kernel_rfl) (fun g8507 h=>?_) (fun g8507 h=>?_)
    ·refine wk_id ?_
     refine seq_np ?_
     refine block_cut (A:=Int) (fun a=>([(4,.ptr 0 0),(5,.ptr 1 0),(14,.ptr 2 0),(15,iS i39)],[(0,.row 26 [iS 0,.v (.slice none 0 0),.v (.slice none 0 0)]),(1,.row 72 [.own 3 0 c4q36.length]),(2,.row 26 [iS a,.v (.slice none 0 0),.v (.slice none 0 0)]),(3,.row 74 (fl c4q36))],4)) (fun a=>(taskmillref_PutDict_j2 c4q36 i39 a) = some o12) (fun K7425 hK7425=>?_) ?_
     ·refine chk_sx h (fun g7429 h=>?_)
      refine seq_np ?_
      refine reg_t ?_
      have k7428:0≤i39∧i39 < ((c4q36.length:Nat):Int):=by first | simpa only [Bool.and_eq_true,decide_eq_true_eq,bne_iff_ne,ne_eq] using g7429 | (simp at g7429 ⊢; omega)
      refine rs 8 [none,none,some ⟨.ptr 3 (0 + (i39).toNat * 3),[],6,[3]⟩,none,some ⟨iS (ix c4q36 i39).depth,[],8,[3]⟩] _ (by kernel_rfl) (allP_cons (ob_ld c4q36 i39 3 0 ((0 + (i39).toNat * 3) + 0) k7428 rfl (by decide) (by first | rfl | omega) (dflS Try.prog 3) (iS (ix c4q36 i39).depth) rfl 8 [3]) (allP_cons (ob_ix_o 3 c4q36.length 0 3 6 i39 k7428) allP_nil)) ?_
      refine rt [(4,.ptr 0 0),(5,.ptr 1 0),(14,.ptr 2 0),(15,iS i39),(174,bS (decide (c2_Depth18 < (ix c4q36 i39).depth)))] [(0,.row 26 [iS 0,.v (.slice none 0 0),.v (.slice none 0 0)]),(1,.row 72 [.own 3 0 c4q36.length]),(2,.row 26 [iS c2_Depth18,.v (.slice none 0 0),.v (.slice none 0 0)]),(3,.row 74 (fl c4q36))] 12 follows (by kernel_rfl) ?_
      refine wk_id ?_
      refine cond_sx h (by kernel_rfl) (fun g7434 h=>?_) (fun g7434 h=>?_)
      ·refine chk_sx h (fun g7433 h=>?_)
       refine reg_f ?_
       have k7432:0≤i39∧i39 < ((c4q36.length:Nat):Int):=by first | simpa only [Bool.and_eq_true,decide_eq_true_eq,bne_iff_ne,ne_eq] using g7433 | (simp at g7433 ⊢; omega)
       refine rs 7 [none,none,some ⟨.ptr 3 (0 + (i39).toNat * 3),[],12,[3]⟩,none,some ⟨iS (ix c4q36 i39).depth,[],12,[3]⟩] _ (by kernel_rfl) (allP_cons (ob_ld c4q36 i39 3 0 ((0 + (i39).toNat * 3) + 0) k7432 rfl (by decide) (by first | rfl | omega) (dflS Try.prog 3) (iS (ix c4q36 i39).depth) rfl 12 [3]) (allP_cons (ob_ix_o 3 c4q36.length 0 3 12 i39 k7432) allP_nil)) ?_
       refine rf [(4,.ptr 0 0),(5,.ptr 1 0),(14,.ptr 2 0),(15,iS i39)] [(0,.row 26 [iS 0,.v (.slice none 0 0),.v (.slice none 0 0)]),(1,.row 72 [.own 3 0 c4q36.length]),(2,.row 26 [iS (ix c4q36 i39).depth,.v (.slice none 0 0),.v (.slice none 0 0)]),(3,.row 74 (fl c4q36))] 12 (by kernel_rfl) ?_
       exact hK7425 ((ix c4q36 i39).depth) _ _ _ h (leSt_m [(0,0),(1,1),(2,2),(3,3)] [] (by simp only [push_cast,leL_flD,renL_flD,seval]) (by simp only [push_cast,leL_flD,renL_flD,seval]) rfl rfl rfl)
      ·exact hK7425 (c2_Depth18) _ _ _ h (leSt_m [(0,0),(1,1),(2,2),(3,3)] [] (by simp only [push_cast,leL_flD,renL_flD,seval]) (by simp only [push_cast,leL_flD,renL_flD,seval]) rfl rfl rfl)
     ·rintro c2_Depth20 h
      try dsimp only at h ⊢
      unfold taskmillref_PutDict_j2 at h
      refine wk_id ?_
      refine reg_f ?_
      refine rs 3 [] [] (by kernel_rfl) allP_nil ?_
      refine rf [(4,.ptr 0 0),(5,.ptr 1 0),(14,.ptr 2 0),(15,iS (IntKind.i64.wrap (i39 + 1)))] [(0,.row 26 [iS 0,.v (.slice none 0 0),.v (.slice none 0 0)]),(1,.row 72 [.own 3 0 c4q36.length]),(2,.row 26 [iS c2_Depth20,.v (.slice none 0 0),.v (.slice none 0 0)]),(3,.row 74 (fl c4q36))] 4 (by kernel_rfl) ?_
      exact hn12 ((IntKind.i64.wrap (i39 + 1)),c2_Depth20) _ _ _ (Option.some.inj h).symm (leSt_m [(0,0),(1,1),(2,2),(3,3)] [] (by simp only [push_cast,leL_flD,renL_flD,seval]) (by simp only [push_cast,leL_flD,renL_flD,seval]) rfl rfl rfl)
    ·change R12 (.exit 8) _ _ _
     refine ex_cast hx12 (id:=8) ?_
     obtain ⟨r0,h,e0⟩:=map_sx h
     have e1:=hr12 r0 e0.symm
     subst r0
     refine wk_id ?_
     refine wk_id ?_
     refine chk_sx h (fun g7438 h=>?_)
     refine seq_np ?_
     refine reg_f ?_
     have k7437:0≤((c4q36.length:Nat):Int)∧((c4q36.length:Nat):Int)≤4611686018427387904∧(8:Int) * ((c4q36.length:Nat):Int)≤140737488355328:=by first | simpa only [Bool.and_eq_true,decide_eq_true_eq,bne_iff_ne,ne_eq] using g7438 | (simp at g7438 ⊢; omega)
     refine rs 4 [none,none,some ⟨.own 4 0 (List.replicate (((c4q36.length:Nat):Int)).toNat (default:Int)).length,[(4,.row 3 (fl (List.replicate (((c4q36.length:Nat):Int)).toNat (default:Int))))],5,[]⟩] _ (by kernel_rfl) (allP_cons (ob_mk (P:=Try.prog) (α:=Int) ((c4q36.length:Nat):Int) 3 8 (by kernel_rfl) [iS 0] rfl 1 rfl (by decide) k7437 4) allP_nil) ?_
     refine rf [(4,.ptr 0 0),(5,.ptr 1 0),(14,.ptr 2 0),(16,.own 4 0 (List.replicate (((c4q36.length:Nat):Int)).toNat (default:Int)).length)] [(0,.row 26 [iS 0,.v (.slice none 0 0),.v (.slice none 0 0)]),(1,.row 72 [.own 3 0 c4q36.length]),(2,.row 26 [iS c2_Depth18,.v (.slice none 0 0),.v (.slice none 0 0)]),(3,.row 74 (fl c4q36)),(4,.row 3 (fl (List.replicate (((c4q36.length:Nat):Int)).toNat (default:Int))))] 5 (by kernel_rfl) ?_
     refine wk_id ?_
     refine seq_np ?_
     refine seq_np ?_
     refine reg_f ?_
     refine rs 1 [] [] (by kernel_rfl) allP_nil ?_
     refine rf [(4,.ptr 0 0),(5,.ptr 1 0),(14,.ptr 2 0),(16,.own 4 0 (List.replicate (((c4q36.length:Nat):Int)).toNat (default:Int)).length),(17,iS 0)] [(0,.row 26 [iS 0,.v (.slice none 0 0),.v (.slice none 0 0)]),(1,.row 72 [.own 3 0 c4q36.length]),(2,.row 26 [iS c2_Depth18,.v (.slice none 0 0),.v (.slice none 0 0)]),(3,.row 74 (fl c4q36)),(4,.row 3 (fl (List.replicate (((c4q36.length:Nat):Int)).toNat (default:Int))))] 5 (by kernel_rfl) ?_
     refine wk_id ?_
     refine block_np ?_
     refine loop_sx (S:=Int × (List Int) × (List Int) × (List Bucket)) (fun a=>([(4,.ptr 0 0),(5,.ptr 1 0),(14,.ptr 2 0),(16,.own 3 0 a.2.1.length),(17,iS a.1)],[(0,.row 26 [iS 0,.v (.slice none 0 0),.v (.slice none 0 0)]),(1,.row 72 [.own 4 0 c4q36.length]),(2,.row 26 [iS c2_Depth18,.own 5 0 a.2.2.1.length,.own 6 0 a.2.2.2.length]),(3,.row 3 (fl a.2.1)),(4,.row 74 (fl c4q36)),(5,.row 3 (fl a.2.2.1)),(6,.row 43 (fl a.2.2.2))],7)) h (leSt_m [(0,0),(1,1),(2,2),(3,4),(4,3)] [] (by simp only [push_cast,leL_flD,renL_flD,seval]) (by simp only [push_cast,leL_flD,renL_flD,seval]) rfl rfl rfl) ?_
     rintro ⟨i45,c3q95,c5q66,c6q91⟩ o13 R13 h hr13 hn13 hx13 ht13
     try dsimp only at h hn13 ⊢
     unfold taskmillref_PutDict_l4 at h
     try dsimp only at h
     refine seq_np ?_
     refine chk_sx h (fun g8104 h=>?_)
     refine seq_np ?_
     refine reg_f ?_
     have k8103:0≤c2_Depth18:=by first | simpa only [Bool.and_eq_true,decide_eq_true_eq,bne_iff_ne,ne_eq] using g8104 | (simp at g8104 ⊢; omega)
     refine rs 5 [none,none,none,some ⟨iS (IntKind.i64.wrap ((1:Int) * 2 ^ (min (c2_Depth18).toNat (IntKind.i64).bits))),[],7,[]⟩] _ (by kernel_rfl) (allP_cons (ob_p (v:=iS (IntKind.i64.wrap ((1:Int) * 2 ^ (min (c2_Depth18).toNat (IntKind.i64).bits)))) (nx:=7) (r:=[]) k8103) allP_nil) ?_
     refine rf [(4,.ptr 0 0),(5,.ptr 1 0),(14,.ptr 2 0),(16,.own 3 0 c3q95.length),(17,iS i45),(188,bS (decide (i45 < (IntKind.i64.wrap ((1:Int) * 2 ^ (min (c2_Depth18).toNat (IntKind.i64).bits))))))] [(0,.row 26 [iS 0,.v (.slice none 0 0),.v (.slice none 0 0)]),(1,.row 72 [.own 4 0 c4q36.length]),(2,.row 26 [iS c2_Depth18,.own 5 0 c5q66.length,.own 6 0 c6q91.length]),(3,.row 3 (fl c3q95)),(4,.row 74 (fl c4q36)),(5,.row 3 (fl c5q66)),(6,.row 43 (fl c6q91))] 7 (by kernel_rfl) ?_
     refine wk_id ?_
     refine cond_sx h (by kernel_rfl) (fun g8506 h=>?_) (fun g8506 h=>?_)
     ·refine wk_id ?_
      refine seq_np ?_
      refine block_np ?_
      refine seq_np ?_
      refine reg_f ?_
      refine rs 1 [] [] (by kernel_rfl) allP_nil ?_
      refine rf [(4,.ptr 0 0),(5,.ptr 1 0),(14,.ptr 2 0),(16,.own 3 0 c3q95.length),(17,iS i45),(18,iS 0)] [(0,.row 26 [iS 0,.v (.slice none 0 0),.v (.slice none 0 0)]),(1,.row 72 [.own 4 0 c4q36.length]),(2,.row 26 [iS c2_Depth18,.own 5 0 c5q66.length,.own 6 0 c6q91.length]),(3,.row 3 (fl c3q95)),(4,.row 74 (fl c4q36)),(5,.row 3 (fl c5q66)),(6,.row 43 (fl c6q91))] 7 (by kernel_rfl) ?_
      refine wk_id ?_
      refine block_np ?_
      refine loop_sx (S:=Int × (List Int) × (List Int) × (List Bucket)) (fun a=>([(4,.ptr 0 0),(5,.ptr 1 0),(14,.ptr 2 0),(16,.own 3 0 a.2.1.length),(17,iS i45),(18,iS a.1)],[(0,.row 26 [iS 0,.v (.slice none 0 0),.v (.slice none 0 0)]),(1,.row 72 [.own 4 0 c4q36.length]),(2,.row 26 [iS c2_Depth18,.own 5 0 a.2.2.1.length,.own 6 0 a.2.2.2.length]),(3,.row 3 (fl a.2.1)),(4,.row 74 (fl c4q36)),(5,.row 3 (fl a.2.2.1)),(6,.row 43 (fl a.2.2.2))],7)) h (leSt_m [(0,0),(1,1),(2,2),(3,3),(4,4),(5,5),(6,6)] [] (by simp only [push_cast,leL_flD,renL_flD,seval]) (by simp only [push_cast,leL_flD,renL_flD,seval]) rfl rfl rfl) ?_
      rintro ⟨k49,c3q125,c5q85,c6q121⟩ o14 R14 h hr14 hn14 hx14 ht14
      try dsimp only at h hn14 ⊢
      unfold taskmillref_PutDict_l3 at h
      try dsimp only at h
      refine seq_np ?_
      refine seq_np ?_
      refine reg_f ?_
      refine rs 4 [] [] (by kernel_rfl) allP_nil ?_
      refine rf [(4,.ptr 0 0),(5,.ptr 1 0),(14,.ptr 2 0),(16,.own 3 0 c3q125.length),(17,iS i45),(18,iS k49),(194,bS (decide (k49 < ((c4q36.length:Nat):Int))))] [(0,.row 26 [iS 0,.v (.slice none 0 0),.v (.slice none 0 0)]),(1,.row 72 [.own 4 0 c4q36.length]),(2,.row 26 [iS c2_Depth18,.own 5 0 c5q85.length,.own 6 0 c6q121.length]),(3,.row 3 (fl c3q125)),(4,.row 74 (fl c4q36)),(5,.row 3 (fl c5q85)),(6,.row 43 (fl c6q121))] 7 (by kernel_rfl) ?_
      refine wk_id ?_
      refine cond_sx h (by kernel_rfl) (fun g8505 h=>?_) (fun g8505 h=>?_)
      ·refine wk_id ?_
       refine seq_np ?_
       refine block_cut (A:=(List Int) × (List Int) × (List Bucket)) (fun a=>([(4,.ptr 0 0),(5,.ptr 1 0),(14,.ptr 2 0),(16,.own 3 0 a.1.length),(17,iS i45),(18,iS k49)],[(0,.row 26 [iS 0,.v (.slice none 0 0),.v (.slice none 0 0)]),(1,.row 72 [.own 4 0 c4q36.length]),(2,.row 26 [iS c2_Depth18,.own 5 0 a.2.1.length,.own 6 0 a.2.2.length]),(3,.row 3 (fl a.1)),(4,.row 74 (fl c4q36)),(5,.row 3 (fl a.2.1)),(6,.row 43 (fl a.2.2))],7)) (fun a=>(taskmillref_PutDict_j3 c4q36 c2_Depth18 i45 k49 a.1 a.2.1 a.2.2) = some o14) (fun K8445 hK8445=>?_) ?_
       ·refine seq_np ?_
        refine chk_sx h (fun g8458 h=>?_)
        refine seq_np ?_
        refine reg_t ?_
        have k8457:0≤k49∧k49 < ((c4q36.length:Nat):Int):=by first | simpa only [Bool.and_eq_true,decide_eq_true_eq,bne_iff_ne,ne_eq] using g8458 | (simp at g8458 ⊢; omega)
        refine rs 6 [none,none,none,some ⟨.ptr 4 (0 + (k49).toNat * 3),[],10,[4]⟩,none,some ⟨iS (ix c4q36 k49).depth,[],12,[4]⟩] _ (by kernel_rfl) (allP_cons (ob_ld c4q36 k49 3 0 ((0 + (k49).toNat * 3) + 0) k8457 rfl (by decide) (by first | rfl | omega) (dflS Try.prog 3) (iS (ix c4q36 k49).depth) rfl 12 [4]) (allP_cons (ob_ix_o 4 c4q36.length 0 3 10 k49 k8457) allP_nil)) ?_
        obtain ⟨r8459,hr8459,h⟩:=bind_sx h
        refine run_call 19 [iS i45,iS (ix c4q36 k49).depth] (some 203) (by kernel_rfl) ?_
        refine callE_0 (taskmillref_Bits_spec i45 (ix c4q36 k49).depth r8459 hr8459) (by simp only [push_cast,leL_flD,renL_flD,seval]) (by simp only [push_cast,leL_flD,renL_flD,seval]) ?_
        refine back_t ?_
        refine chk_sx h (fun g8461 h=>?_)
        have k8460:0≤k49∧k49 < ((c4q36.length:Nat):Int):=by first | simpa only [Bool.and_eq_true,decide_eq_true_eq,bne_iff_ne,ne_eq] using g8461 | (simp at g8461 ⊢; omega)
        refine rs 6 [none,none,some ⟨.ptr 4 (0 + (k49).toNat * 3),[],16,[4]⟩,none,some ⟨iS (ix c4q36 k49).bits,[],18,[4]⟩] _ (by kernel_rfl) (allP_cons (ob_ld c4q36 k49 3 1 ((0 + (k49).toNat * 3) + 1) k8460 rfl (by decide) (by first | rfl | omega) (dflS Try.prog 3) (iS (ix c4q36 k49).bits) rfl 18 [4]) (allP_cons (ob_ix_o 4 c4q36.length 0 3 16 k49 k8460) allP_nil)) ?_
        refine rt [(4,.ptr 0 0),(5,.ptr 1 0),(14,.ptr 2 0),(16,.own 3 0 c3q125.length),(17,iS i45),(18,iS k49),(209,bS (r8459 != (ix c4q36 k49).bits))] [(0,.row 26 [iS 0,.v (.slice none 0 0),.v (.slice none 0 0)]),(1,.row 72 [.own 4 0 c4q36.length]),(2,.row 26 [iS c2_Depth18,.own 5 0 c5q85.length,.own 6 0 c6q121.length]),(3,.row 3 (fl c3q125)),(4,.row 74 (fl c4q36)),(5,.row 3 (fl c5q85)),(6,.row 43 (fl c6q121))] 20 follows (by kernel_rfl) ?_
        refine wk_id ?_
        refine cond_sx h (by kernel_rfl) (fun g8504 h=>?_) (fun g8504 h=>?_)
        ·exact hK8445 (c3q125,c5q85,c6q121) _ _ _ h (leSt_m [(0,0),(1,1),(2,2),(3,3),(4,4),(5,5),(6,6)] [] (by simp only [push_cast,leL_flD,renL_flD,seval]) (by simp only [push_cast,leL_flD,renL_flD,seval]) rfl rfl rfl)
        ·refine wk_id ?_
         refine seq_cut (A:=(List Int) × (List Bucket)) (fun a=>([(4,.ptr 0 0),(5,.ptr 1 0),(14,.ptr 2 0),(16,.own 3 0 a.1.length),(17,iS i45),(18,iS k49)],[(0,.row 26 [iS 0,.v (.slice none 0 0),.v (.slice none 0 0)]),(1,.row 72 [.own 4 0 c4q36.length]),(2,.row 26 [iS c2_Depth18,.own 5 0 c5q85.length,.own 6 0 a.2.length]),(3,.row 3 (fl a.1)),(4,.row 74 (fl c4q36)),(5,.row 3 (fl c5q85)),(6,.row 43 (fl a.2))],7)) (fun a=>(taskmillref_PutDict_j4 c4q36 c2_Depth18 i45 k49 c5q85 a.1 a.2) = some o14) (fun K8474 hK8474=>?_) ?_
         ·refine chk_sx h (fun g8478 h=>?_)
          refine seq_np ?_
          refine reg_f ?_
          have k8477:0≤k49∧k49 < ((c3q125.length:Nat):Int):=by first | simpa only [Bool.and_eq_true,decide_eq_true_eq,bne_iff_ne,ne_eq] using g8478 | (simp at g8478 ⊢; omega)
          refine rs 5 [none,none,some ⟨.ptr 3 (0 + (k49).toNat * 1),[],20,[3]⟩,some ⟨iS (ix c3q125 k49),[],20,[3]⟩] _ (by kernel_rfl) (allP_cons (ob_ld c3q125 k49 1 0 (0 + (k49).toNat * 1) k8477 rfl (by decide) (by first | rfl | omega) (dflS Try.prog 3) (iS (ix c3q125 k49)) rfl 20 [3]) (allP_cons (ob_ix_o 3 c3q125.length 0 1 20 k49 k8477) allP_nil)) ?_
          refine rf [(4,.ptr 0 0),(5,.ptr 1 0),(14,.ptr 2 0),(16,.own 3 0 c3q125.length),(17,iS i45),(18,iS k49),(214,bS ((ix c3q125 k49) == 0))] [(0,.row 26 [iS 0,.v (.slice none 0 0),.v (.slice none 0 0)]),(1,.row 72 [.own 4 0 c4q36.length]),(2,.row 26 [iS c2_Depth18,.own 5 0 c5q85.length,.own 6 0 c6q121.length]),(3,.row 3 (fl c3q125)),(4,.row 74 (fl c4q36)),(5,.row 3 (fl c5q85)),(6,.row 43 (fl c6q121))] 20 (by kernel_rfl) ?_
          refine wk_id ?_
          refine cond_sx h (by kernel_rfl) (fun g8495 h=>?_) (fun g8495 h=>?_)
          ·refine chk_sx h (fun g8486 h=>?_)
           refine chk_sx h (fun g8488 h=>?_)
           refine chk_sx h (fun g8490 h=>?_)
           refine seq_np ?_
           refine reg_t ?_
           have k8485:0≤k49∧k49 < ((c4q36.length:Nat):Int):=by first | simpa only [Bool.and_eq_true,decide_eq_true_eq,bne_iff_ne,ne_eq] using g8486 | (simp at g8486 ⊢; omega)
           have k8487:0≤k49∧k49 < ((c4q36.length:Nat):Int):=by first | simpa only [Bool.and_eq_true,decide_eq_true_eq,bne_iff_ne,ne_eq] using g8488 | (simp at g8488 ⊢; omega)
           have k8489:(c6q121 ++ ([(Bucket.mk (ix c4q36 k49).depth (ix c4q36 k49).items)]:List Bucket)).length * 32≤140737488355328:=by first | simpa only [Bool.and_eq_true,decide_eq_true_eq,bne_iff_ne,ne_eq] using g8490 | (simp at g8490 ⊢; omega)
           refine rs 17 [none,none,none,none,some ⟨.ptr 4 (0 + (k49).toNat * 3),[],24,[4]⟩,none,some ⟨iS (ix c4q36 k49).depth,[],26,[4]⟩,none,none,some ⟨.ptr 4 (0 + (k49).toNat * 3),[],29,[4]⟩,none,some ⟨.sl (ix c4q36 k49).items.length (fl (ix c4q36 k49).items),[],31,[4]⟩,none,none,some ⟨.own 35 0 (c6q121 ++ ([(Bucket.mk (ix c4q36 k49).depth (ix c4q36 k49).items)]:List Bucket)).length,[(35,.row 43 (fl (c6q121 ++ ([(Bucket.mk (ix c4q36 k49).depth (ix c4q36 k49).items)]:List Bucket)))),(6,.dead)],36,[6,33]⟩] _ (by kernel_rfl) (allP_cons (ob_app (P:=Try.prog) c6q121 ([(Bucket.mk (ix c4q36 k49).depth (ix c4q36 k49).items)]:List Bucket) 2 32 rfl (appCells (fl ([(Bucket.mk (ix c4q36 k49).depth (ix c4q36 k49).items)]:List Bucket)) 0 (([(Bucket.mk (ix c4q36 k49).depth (ix c4q36 k49).items)]:List Bucket).length * 2)) ([(Bucket.mk (ix c4q36 k49).depth (ix c4q36 k49).items)]:List Bucket).length (app_own ([(Bucket.mk (ix c4q36 k49).depth (ix c4q36 k49).items)]:List Bucket) 2 rfl) rfl (0 + ([(Bucket.mk (ix c4q36 k49).depth (ix c4q36 k49).items)]:List Bucket).length * 2≤(fl ([(Bucket.mk (ix c4q36 k49).depth (ix c4q36 k49).items)]:List Bucket)).length) (app_own_le ([(Bucket.mk (ix c4q36 k49).depth (ix c4q36 k49).items)]:List Bucket) 2 rfl) 43 (by kernel_rfl) (by decide) k8489 6 35 [33]) (allP_cons (ob_ld c4q36 k49 3 2 ((0 + (k49).toNat * 3) + 2) k8487 rfl (by decide) (by first | rfl | omega) (dflS Try.prog 40) (.sl (ix c4q36 k49).items.length (fl (ix c4q36 k49).items)) rfl 31 [4]) (allP_cons (ob_ix_o 4 c4q36.length 0 3 29 k49 k8487) (allP_cons (ob_ld c4q36 k49 3 0 ((0 + (k49).toNat * 3) + 0) k8485 rfl (by decide) (by first | rfl | omega) (dflS Try.prog 3) (iS (ix c4q36 k49).depth) rfl 26 [4]) (allP_cons (ob_ix_o 4 c4q36.length 0 3 24 k49 k8485) allP_nil))))) ?_
           refine rt [(4,.ptr 0 0),(5,.ptr 1 0),(14,.ptr 2 0),(16,.own 3 0 c3q125.length),(17,iS i45),(18,iS k49)] [(0,.row 26 [iS 0,.v (.slice none 0 0),.v (.slice none 0 0)]),(1,.row 72 [.own 4 0 c4q36.length]),(2,.row 26 [iS c2_Depth18,.own 5 0 c5q85.length,.own 35 0 (c6q121 ++ ([(Bucket.mk (ix c4q36 k49).depth (ix c4q36 k49).items)]:List Bucket)).length]),(3,.row 3 (fl c3q125)),(4,.row 74 (fl c4q36)),(5,.row 3 (fl c5q85)),(6,.dead),(33,.row 43 (fl ([(Bucket.mk (ix c4q36 k49).depth (ix c4q36 k49).items)]:List Bucket))),(35,.row 43 (fl (c6q121 ++ ([(Bucket.mk (ix c4q36 k49).depth (ix c4q36 k49).items)]:List Bucket))))] 39 follows (by kernel_rfl) ?_
           refine wk_id ?_
           refine chk_sx h (fun g8494 h=>?_)
           refine reg_f ?_
           have k8493:0≤k49∧k49 < ((c3q125.length:Nat):Int):=by first | simpa only [Bool.and_eq_true,decide_eq_true_eq,bne_iff_ne,ne_eq] using g8494 | (simp at g8494 ⊢; omega)
           refine rs 7 [none,none,none,none,none,some ⟨.ptr 3 (0 + (k49).toNat * 1),[],39,[3]⟩,some ⟨.any,[(3,.row 3 (fl (c3q125.set k49.toNat (((c6q121 ++ ([(Bucket.mk (ix c4q36 k49).depth (ix c4q36 k49).items)]:List Bucket)).length:Nat):Int))))],39,[3]⟩] _ (by kernel_rfl) (allP_cons (ob_st (P:=Try.prog) c3q125 k49 1 0 (0 + (k49).toNat * 1) k8493 rfl [iS (((c6q121 ++ ([(Bucket.mk (ix c4q36 k49).depth (ix c4q36 k49).items)]:List Bucket)).length:Nat):Int)] (((c6q121 ++ ([(Bucket.mk (ix c4q36 k49).depth (ix c4q36 k49).items)]:List Bucket)).length:Nat):Int) (Nat.le_of_ble_eq_true rfl) (by first | rfl | omega) rfl 3 39 3 3 (by kernel_rfl) rfl) (allP_cons (ob_ix_o 3 c3q125.length 0 1 39 k49 k8493) allP_nil)) ?_
           refine run_eqF 16 (.own 3 0 c3q125.length) (.own 3 0 (c3q125.set k49.toNat (((c6q121 ++ ([(Bucket.mk (ix c4q36 k49).depth (ix c4q36 k49).items)]:List Bucket)).length:Nat):Int)).length) (congrArg (fun nq=>(.own 3 0 nq:SV)) (show c3q125.length = (c3q125.set k49.toNat (((c6q121 ++ ([(Bucket.mk (ix c4q36 k49).depth (ix c4q36 k49).items)]:List Bucket)).length:Nat):Int)).length from (List.length_set ..).symm)) (by kernel_rfl) ?_
           refine rf [(4,.ptr 0 0),(5,.ptr 1 0),(14,.ptr 2 0),(16,.own 3 0 (c3q125.set k49.toNat (((c6q121 ++ ([(Bucket.mk (ix c4q36 k49).depth (ix c4q36 k49).items)]:List Bucket)).length:Nat):Int)).length),(17,iS i45),(18,iS k49)] [(0,.row 26 [iS 0,.v (.slice none 0 0),.v (.slice none 0 0)]),(1,.row 72 [.own 4 0 c4q36.length]),(2,.row 26 [iS c2_Depth18,.own 5 0 c5q85.length,.own 35 0 (c6q121 ++ ([(Bucket.mk (ix c4q36 k49).depth (ix c4q36 k49).items)]:List Bucket)).length]),(3,.row 3 (fl (c3q125.set k49.toNat (((c6q121 ++ ([(Bucket.mk (ix c4q36 k49).depth (ix c4q36 k49).items)]:List Bucket)).length:Nat):Int)))),(4,.row 74 (fl c4q36)),(5,.row 3 (fl c5q85)),(6,.dead),(33,.row 43 (fl ([(Bucket.mk (ix c4q36 k49).depth (ix c4q36 k49).items)]:List Bucket))),(35,.row 43 (fl (c6q121 ++ ([(Bucket.mk (ix c4q36 k49).depth (ix c4q36 k49).items)]:List Bucket))))] 39 (by kernel_rfl) ?_
           exact hK8474 ((c3q125.set k49.toNat (((c6q121 ++ ([(Bucket.mk (ix c4q36 k49).depth (ix c4q36 k49).items)]:List Bucket)).length:Nat):Int)),(c6q121 ++ ([(Bucket.mk (ix c4q36 k49).depth (ix c4q36 k49).items)]:List Bucket))) _ _ _ h (leSt_m [(0,0),(1,1),(2,2),(3,3),(4,4),(5,5),(6,35)] [] (by simp only [push_cast,leL_flD,renL_flD,seval]) (by simp only [push_cast,leL_flD,renL_flD,seval]) rfl rfl rfl)
          ·exact hK8474 (c3q125,c6q121) _ _ _ h (leSt_m [(0,0),(1,1),(2,2),(3,3),(4,4),(5,5),(6,6)] [] (by simp only [push_cast,leL_flD,renL_flD,seval]) (by simp only [push_cast,leL_flD,renL_flD,seval]) rfl rfl rfl)
         ·rintro ⟨c3q130,c6q126⟩ h
          try dsimp only at h ⊢
          unfold taskmillref_PutDict_j4 at h
          refine chk_sx h (fun g8501 h=>?_)
          refine chk_sx h (fun g8503 h=>?_)
          refine reg_t ?_
          have k8500:0≤k49∧k49 < ((c3q130.length:Nat):Int):=by first | simpa only [Bool.and_eq_true,decide_eq_true_eq,bne_iff_ne,ne_eq] using g8501 | (simp at g8501 ⊢; omega)
          have k8502:(c5q85 ++ ([(IntKind.i64.wrap ((ix c3q130 k49) - 1))]:List Int)).length * 8≤140737488355328:=by first | simpa only [Bool.and_eq_true,decide_eq_true_eq,bne_iff_ne,ne_eq] using g8503 | (simp at g8503 ⊢; omega)
          refine rs 11 [none,none,none,none,some ⟨.ptr 3 (0 + (k49).toNat * 1),[],11,[3]⟩,some ⟨iS (ix c3q130 k49),[],12,[3]⟩,none,none,some ⟨.own 16 0 (c5q85 ++ ([(IntKind.i64.wrap ((ix c3q130 k49) - 1))]:List Int)).length,[(16,.row 3 (fl (c5q85 ++ ([(IntKind.i64.wrap ((ix c3q130 k49) - 1))]:List Int)))),(5,.dead)],17,[5,14]⟩] _ (by kernel_rfl) (allP_cons (ob_app (P:=Try.prog) c5q85 ([(IntKind.i64.wrap ((ix c3q130 k49) - 1))]:List Int) 1 8 rfl (appCells (fl ([(IntKind.i64.wrap ((ix c3q130 k49) - 1))]:List Int)) 0 (([(IntKind.i64.wrap ((ix c3q130 k49) - 1))]:List Int).length * 1)) ([(IntKind.i64.wrap ((ix c3q130 k49) - 1))]:List Int).length (app_own ([(IntKind.i64.wrap ((ix c3q130 k49) - 1))]:List Int) 1 rfl) rfl (0 + ([(IntKind.i64.wrap ((ix c3q130 k49) - 1))]:List Int).length * 1≤(fl ([(IntKind.i64.wrap ((ix c3q130 k49) - 1))]:List Int)).length) (app_own_le ([(IntKind.i64.wrap ((ix c3q130 k49) - 1))]:List Int) 1 rfl) 3 (by kernel_rfl) (by decide) k8502 5 16 [14]) (allP_cons (ob_ld c3q130 k49 1 0 (0 + (k49).toNat * 1) k8500 rfl (by decide) (by first | rfl | omega) (dflS Try.prog 3) (iS (ix c3q130 k49)) rfl 12 [3]) (allP_cons (ob_ix_o 3 c3q130.length 0 1 11 k49 k8500) allP_nil))) ?_
          refine rt [(4,.ptr 0 0),(5,.ptr 1 0),(14,.ptr 2 0),(16,.own 3 0 c3q130.length),(17,iS i45),(18,iS k49)] [(0,.row 26 [iS 0,.v (.slice none 0 0),.v (.slice none 0 0)]),(1,.row 72 [.own 4 0 c4q36.length]),(2,.row 26 [iS c2_Depth18,.own 16 0 (c5q85 ++ ([(IntKind.i64.wrap ((ix c3q130 k49) - 1))]:List Int)).length,.own 6 0 c6q126.length]),(3,.row 3 (fl c3q130)),(4,.row 74 (fl c4q36)),(5,.dead),(6,.row 43 (fl c6q126)),(14,.row 3 (fl ([(IntKind.i64.wrap ((ix c3q130 k49) - 1))]:List Int))),(16,.row 3 (fl (c5q85 ++ ([(IntKind.i64.wrap ((ix c3q130 k49) - 1))]:List Int))))] 20 follows (by kernel_rfl) ?_
          exact hK8445 (c3q130,(c5q85 ++ ([(IntKind.i64.wrap ((ix c3q130 k49) - 1))]:List Int)),c6q126) _ _ _ h (leSt_m [(0,0),(1,1),(2,2),(3,3),(4,4),(5,16),(6,6)] [] (by simp only [push_cast,leL_flD,renL_flD,seval]) (by simp only [push_cast,leL_flD,renL_flD,seval]) rfl rfl rfl)
       ·rintro ⟨c3q129,c5q87,c6q125⟩ h
        try dsimp only at h ⊢
        unfold taskmillref_PutDict_j3 at h
        refine wk_id ?_
        refine reg_f ?_
        refine rs 3 [] [] (by kernel_rfl) allP_nil ?_
        refine rf [(4,.ptr 0 0),(5,.ptr 1 0),(14,.ptr 2 0),(16,.own 3 0 c3q129.length),(17,iS i45),(18,iS (IntKind.i64.wrap (k49 + 1)))] [(0,.row 26 [iS 0,.v (.slice none 0 0),.v (.slice none 0 0)]),(1,.row 72 [.own 4 0 c4q36.length]),(2,.row 26 [iS c2_Depth18,.own 5 0 c5q87.length,.own 6 0 c6q125.length]),(3,.row 3 (fl c3q129)),(4,.row 74 (fl c4q36)),(5,.row 3 (fl c5q87)),(6,.row 43 (fl c6q125))] 7 (by kernel_rfl) ?_
        exact hn14 ((IntKind.i64.wrap (k49 + 1)),c3q129,c5q87,c6q125) _ _ _ (Option.some.inj h).symm (leSt_m [(0,0),(1,1),(2,2),(3,3),(4,4),(5,5),(6,6)] [] (by simp only [push_cast,leL_flD,renL_flD,seval]) (by simp only [push_cast,leL_flD,renL_flD,seval]) rfl rfl rfl)
      ·change R14 (.exit 12) _ _ _
       refine ex_cast hx14 (id:=12) ?_
       obtain ⟨r0,h,e0⟩:=map_sx h
       have e1:=hr14 r0 e0.symm
       subst r0
       refine wk_id ?_
       refine wk_id ?_
       refine wk_id ?_
       refine reg_f ?_
       refine rs 3 [] [] (by kernel_rfl) allP_nil ?_
       refine rf [(4,.ptr 0 0),(5,.ptr 1 0),(14,.ptr 2 0),(16,.own 3 0 c3q125.length),(17,iS (IntKind.i64.wrap (i45 + 1)))] [(0,.row 26 [iS 0,.v (.slice none 0 0),.v (.slice none 0 0)]),(1,.row 72 [.own 4 0 c4q36.length]),(2,.row 26 [iS c2_Depth18,.own 5 0 c5q85.length,.own 6 0 c6q121.length]),(3,.row 3 (fl c3q125)),(4,.row 74 (fl c4q36)),(5,.row 3 (fl c5q85)),(6,.row 43 (fl c6q121))] 7 (by kernel_rfl) ?_
       exact hn13 ((IntKind.i64.wrap (i45 + 1)),c3q125,c5q85,c6q121) _ _ _ (Option.some.inj h).symm (leSt_m [(0,0),(1,1),(2,2),(3,3),(4,4),(5,5),(6,6)] [] (by simp only [push_cast,leL_flD,renL_flD,seval]) (by simp only [push_cast,leL_flD,renL_flD,seval]) rfl rfl rfl)
     ·change R13 (.exit 10) _ _ _
      refine ex_cast hx13 (id:=10) ?_
      obtain ⟨r0,h,e0⟩:=map_sx h
      have e1:=hr13 r0 e0.symm
      subst r0
      refine wk_id ?_
      refine wk_id ?_
      refine seq_np ?_
      refine reg_f ?_
      refine rs 2 [] [] (by kernel_rfl) allP_nil ?_
      refine rf [(4,.ptr 0 0)] [(0,.row 26 [iS c2_Depth18,.own 5 0 c5q66.length,.own 6 0 c6q91.length]),(1,.row 72 [.own 4 0 c4q36.length]),(2,.row 26 [iS c2_Depth18,.own 5 0 c5q66.length,.own 6 0 c6q91.length]),(3,.row 3 (fl c3q95)),(4,.row 74 (fl c4q36)),(5,.row 3 (fl c5q66)),(6,.row 43 (fl c6q91))] 7 (by kernel_rfl) ?_
      refine wk_id ?_
      obtain rfl:=Option.some.inj h
      refine ret_at (.agg [iS c2_Depth18,.own 5 0 c5q66.length,.own 6 0 c6q91.length]) (by kernel_rfl) ?_
      exact ret_e [(0,5),(1,6)] [] (by simp only [push_cast,leL_flD,renL_flD,seval]) (by simp only [push_cast,leL_flD,renL_flD,seval]) rfl rfl rfl

end Go.Proofs.Yticigkhhhmiglaa
