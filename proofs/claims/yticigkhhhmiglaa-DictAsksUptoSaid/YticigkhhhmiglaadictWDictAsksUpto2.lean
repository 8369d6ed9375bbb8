/-
  What laws of the chapter dict compute, and lemmas on it.
  No conditions.
-/
import Derived.Test.YticigkhhhmiglaadictWDictAsksUpto1
set_option linter.unusedSimpArgs false
set_option linter.unusedVariables false
namespace Go.Proofs.Yticigkhhhmiglaa
open Go Go.Sx
attribute [local irreducible] Wk RunAt
set_option maxRecDepth 100000 in
set_option maxHeartbeats 200000000 in
theorem taskmilllaw_ownDict_spec (d : Dict) (r : Int × (List Int) × (List Bucket)) (h : taskmilllaw_ownDict d = some r) : SpecW Try.prog 13 [.agg (Enc.cells d)] [] 0 (fun x h n => x = .agg [iS r.1, .own 0 0 r.2.1.length, .own 1 0 r.2.2.length] ∧ h = [(0, .row 3 (fl r.2.1)), (1, .row 43 (flD dBucket [2] r.2.2)), ((.s 2 0), .fam (famD dBucket 0 r.2.2))] ∧ n = 3) := by
  unfold taskmilllaw_ownDict at h
  refine spec_of (draw_ok _) Try.func13 rfl (by decide) rfl (by kernel_rfl) ?_
  refine seq_np ?_
  refine reg_f ?_
  refine rs 2 [] [] (by kernel_rfl) allP_nil ?_
  refine rf [(1, .ptr 0 0), (2, .ptr 1 0)] [(0, .row 26 (Enc.cells d)), (1, .row 26 [iS 0, .v (.slice none 0 0), .v (.slice none 0 0)])] 2 (by kernel_rfl) ?_
  refine wk_id ?_
  refine seq_np ?_
  refine reg_t ?_
  refine rs 4 [] [] (by kernel_rfl) allP_nil ?_
  obtain ⟨r3273, hr3273, h⟩ := bind_sx h
  refine call_x (taskmilllaw_own_spec d.Places r3273 hr3273) (args := [.sl d.Places.length (fl d.Places)]) (dst := (some 9)) (by kernel_rfl) [(0, .row 26 (Enc.cells d)), (1, .row 26 [iS 0, .v (.slice none 0 0), .v (.slice none 0 0)])] 6 (by kernel_rfl) [] [] (.own 6 0 r3273.length) [(6, .row 3 (fl r3273))] (by simp only [push_cast, leL_flD, renL_flD, seval]) (by simp only [push_cast, leL_flD, renL_flD, seval]) (by kernel_rfl) (.inl rfl) (by simp only [push_cast, leL_flD, renL_flD, seval]) (by simp only [push_cast, leL_flD, renL_flD, seval]) ?_
  refine rs 3 [] [] (by kernel_rfl) allP_nil ?_
  refine rt [(1, .ptr 0 0), (2, .ptr 1 0), (3, .ptr 9 0)] [(0, .row 26 (Enc.cells d)), (1, .row 26 [iS 0, .v (.slice none 0 0), .v (.slice none 0 0)]), (6, .row 3 (fl r3273)), (9, .row 26 [iS d.Depth, .own 6 0 r3273.length, .v (.slice none 0 0)])] 12 follows (by kernel_rfl) ?_
  refine wk_id ?_
  refine seq_np ?_
  refine seq_np ?_
  refine reg_f ?_
  refine rs 1 [] [] (by kernel_rfl) allP_nil ?_
  refine rf [(1, .ptr 0 0), (2, .ptr 1 0), (3, .ptr 9 0), (4, iS 0)] [(0, .row 26 (Enc.cells d)), (1, .row 26 [iS 0, .v (.slice none 0 0), .v (.slice none 0 0)]), (6, .row 3 (fl r3273)), (9, .row 26 [iS d.Depth, .own 6 0 r3273.length, .v (.slice none 0 0)])] 12 (by kernel_rfl) ?_
  refine wk_id ?_
  refine block_np ?_
  refine loop_sx (S := Int × (List Int) × (List Bucket)) (fun a => ([(1, .ptr 0 0), (2, .ptr 1 0), (3, .ptr 2 0), (4, iS a.1)], [(0, .row 26 (Enc.cells d)), (1, .row 26 [iS 0, .v (.slice none 0 0), .v (.slice none 0 0)]), (2, .row 26 [iS d.Depth, .own 3 0 a.2.1.length, .own 4 0 a.2.2.length]), (3, .row 3 (fl a.2.1)), (4, .row 43 (flD dBucket [5] a.2.2)), ((.s 5 0), .fam (famD dBucket 0 a.2.2))], 6)) h (leSt_m [(0, 0), (1, 1), (2, 9), (3, 6)] [] (by simp only [push_cast, leL_flD, renL_flD, seval]) (by simp only [push_cast, leL_flD, renL_flD, seval]) rfl rfl rfl) ?_
  rintro ⟨i7, c3q11, c4q7⟩ o2 R2 h hr2 hn2 hx2 ht2
  try dsimp only at h hn2 ⊢
  unfold taskmilllaw_ownDict_l1 at h
  try dsimp only at h
  refine seq_np ?_
  refine seq_np ?_
  refine reg_f ?_
  refine rs 5 [] [] (by kernel_rfl) allP_nil ?_
  refine rf [(1, .ptr 0 0), (2, .ptr 1 0), (3, .ptr 2 0), (4, iS i7), (15, bS (decide (i7 < ((d.Buckets.length : Nat) : Int))))] [(0, .row 26 (Enc.cells d)), (1, .row 26 [iS 0, .v (.slice none 0 0), .v (.slice none 0 0)]), (2, .row 26 [iS d.Depth, .own 3 0 c3q11.length, .own 4 0 c4q7.length]), (3, .row 3 (fl c3q11)), (4, .row 43 (flD dBucket [5] c4q7)), ((.s 5 0), .fam (famD dBucket 0 c4q7))] 6 (by kernel_rfl) ?_
  refine wk_id ?_
  refine cond_sx h (by kernel_rfl) (fun g3382 h => ?_) (fun g3382 h => ?_)
  · refine wk_id ?_
    refine seq_np ?_
    refine block_np ?_
    refine chk_sx h (fun g3375 h => ?_)
    refine chk_sx h (fun g3377 h => ?_)
    refine chk_sx h (fun g3379 h => ?_)
    refine chk_sx h (fun g3381 h => ?_)
    refine reg_t ?_
    have k3374 : 0 ≤ i7 ∧ i7 < ((d.Buckets.length : Nat) : Int) := by first | simpa only [Bool.and_eq_true, decide_eq_true_eq, bne_iff_ne, ne_eq] using g3375 | (simp at g3375 ⊢; omega)
    have k3376 : 0 ≤ i7 ∧ i7 < ((d.Buckets.length : Nat) : Int) := by first | simpa only [Bool.and_eq_true, decide_eq_true_eq, bne_iff_ne, ne_eq] using g3377 | (simp at g3377 ⊢; omega)
    have k3378 : (ix d.Buckets i7).Items.length * 16 ≤ 140737488355328 := by first | simpa only [Bool.and_eq_true, decide_eq_true_eq, bne_iff_ne, ne_eq] using g3379 | (simp at g3379 ⊢; omega)
    have k3380 : (c4q7 ++ [(Bucket.mk (ix d.Buckets i7).Depth (ix d.Buckets i7).Items)]).length * 32 ≤ 140737488355328 := by first | simpa only [Bool.and_eq_true, decide_eq_true_eq, bne_iff_ne, ne_eq] using g3381 | (simp at g3381 ⊢; omega)
    refine rs 17 [none, none, none, none, none, some ⟨.iptr (fl d.Buckets) ((i7).toNat * 2), [], 11, []⟩, none, some ⟨iS (ix d.Buckets i7).Depth, [], 13, []⟩, none, none, none, some ⟨.iptr (fl d.Buckets) ((i7).toNat * 2), [], 17, []⟩, none, some ⟨.sl (ix d.Buckets i7).Items.length (fl (ix d.Buckets i7).Items), [], 19, []⟩, some ⟨.own 20 0 (ix d.Buckets i7).Items.length, [(20, .row 45 (fl (ix d.Buckets i7).Items))], 21, []⟩] _ (by kernel_rfl) (allP_cons (ob_app0 (P := Try.prog) (ix d.Buckets i7).Items 2 16 rfl (fl (ix d.Buckets i7).Items) (ix d.Buckets i7).Items.length rfl rfl ((fl (ix d.Buckets i7).Items).length = (ix d.Buckets i7).Items.length * 2) (app_sl (ix d.Buckets i7).Items 2 rfl) 45 (by kernel_rfl) (by decide) k3378 20 []) (allP_cons (ob_ld d.Buckets i7 2 1 (((i7).toNat * 2) + 1) k3376 rfl (by decide) (by first | rfl | omega) (dflS Try.prog 40) (.sl (ix d.Buckets i7).Items.length (fl (ix d.Buckets i7).Items)) rfl 19 []) (allP_cons (ob_ix_l d.Buckets 2 17 i7 k3376) (allP_cons (ob_ld d.Buckets i7 2 0 (((i7).toNat * 2) + 0) k3374 rfl (by decide) (by first | rfl | omega) (dflS Try.prog 3) (iS (ix d.Buckets i7).Depth) rfl 13 []) (allP_cons (ob_ix_l d.Buckets 2 11 i7 k3374) allP_nil))))) ?_
    refine run_opG (some 35) _ ⟨.own 25 0 (c4q7 ++ [(Bucket.mk (ix d.Buckets i7).Depth (ix d.Buckets i7).Items)]).length, [(25, .row 43 (flN dBucket (nA [(some 5)] [(some (Nm.t 20))] ((c4q7.length : Nat) : Int)) 0 (c4q7 ++ [(Bucket.mk (ix d.Buckets i7).Depth (ix d.Buckets i7).Items)]))), (4, .dead)], 26, [4, 23]⟩ [((.s 26 0), .fam (famD dBucket 0 (c4q7 ++ [(Bucket.mk (ix d.Buckets i7).Depth (ix d.Buckets i7).Items)]))), (25, .row 43 (flD dBucket [26] (c4q7 ++ [(Bucket.mk (ix d.Buckets i7).Depth (ix d.Buckets i7).Items)]))), ((.s 5 0), .dead), (20, .dead)] 1 [25, (.s 5 0), 20] [(.s 5 0), 20] (by kernel_rfl) (ob_appN (P := Try.prog) dBucket [5] [(some (Nm.t 20))] c4q7 (Bucket.mk (ix d.Buckets i7).Depth (ix d.Buckets i7).Items) 2 32 rfl (appCells ([iS (ix d.Buckets i7).Depth, .own 20 0 (ix d.Buckets i7).Items.length] : List SV) 0 (1 * 2)) rfl rfl rfl (0 + 1 * 2 ≤ ([iS (ix d.Buckets i7).Depth, .own 20 0 (ix d.Buckets i7).Items.length] : List SV).length) (by first | exact (Nat.le_of_ble_eq_true rfl : 0 + 1 * 2 ≤ ([iS (ix d.Buckets i7).Depth, .own 20 0 (ix d.Buckets i7).Items.length] : List SV).length) | decide) 43 (by kernel_rfl) (by decide) k3380 4 25 [23]) (ghost_A 26 dBucket (c4q7 ++ [(Bucket.mk (ix d.Buckets i7).Depth (ix d.Buckets i7).Items)]) 25 43 [(some 5)] [(some (Nm.t 20))] ((c4q7.length : Nat) : Int) (flD dBucket [26] (c4q7 ++ [(Bucket.mk (ix d.Buckets i7).Depth (ix d.Buckets i7).Items)])) 0 (some 5) (some 20) (by kernel_rfl) (flN_done dBucket [26] ((c4q7.length : Nat) : Int) (c4q7 ++ [(Bucket.mk (ix d.Buckets i7).Depth (ix d.Buckets i7).Items)]) rfl) (by kernel_rfl) ⟨_, (by kernel_rfl), off_app _ _⟩ (S_app (fun a => getH _ (.t 20) = chD dBucket 0 a) rfl)) (by kernel_rfl) ?_
    refine rs 2 [] [] (by kernel_rfl) allP_nil ?_
    refine rt [(1, .ptr 0 0), (2, .ptr 1 0), (3, .ptr 2 0), (4, iS i7)] [(0, .row 26 (Enc.cells d)), (1, .row 26 [iS 0, .v (.slice none 0 0), .v (.slice none 0 0)]), (2, .row 26 [iS d.Depth, .own 3 0 c3q11.length, .own 25 0 (c4q7 ++ [(Bucket.mk (ix d.Buckets i7).Depth (ix d.Buckets i7).Items)]).length]), (3, .row 3 (fl c3q11)), (4, .dead), ((.s 5 0), .dead), (20, .dead), (23, .row 43 [iS (ix d.Buckets i7).Depth, .own 20 0 (ix d.Buckets i7).Items.length]), (25, .row 43 (flD dBucket [26] (c4q7 ++ [(Bucket.mk (ix d.Buckets i7).Depth (ix d.Buckets i7).Items)]))), ((.s 26 0), .fam (famD dBucket 0 (c4q7 ++ [(Bucket.mk (ix d.Buckets i7).Depth (ix d.Buckets i7).Items)])))] 30 follows (by kernel_rfl) ?_
    refine wk_id ?_
    refine wk_id ?_
    refine reg_f ?_
    refine rs 3 [] [] (by kernel_rfl) allP_nil ?_
    refine rf [(1, .ptr 0 0), (2, .ptr 1 0), (3, .ptr 2 0), (4, iS (IntKind.i64.wrap (i7 + 1)))] [(0, .row 26 (Enc.cells d)), (1, .row 26 [iS 0, .v (.slice none 0 0), .v (.slice none 0 0)]), (2, .row 26 [iS d.Depth, .own 3 0 c3q11.length, .own 25 0 (c4q7 ++ [(Bucket.mk (ix d.Buckets i7).Depth (ix d.Buckets i7).Items)]).length]), (3, .row 3 (fl c3q11)), (4, .dead), ((.s 5 0), .dead), (20, .dead), (23, .row 43 [iS (ix d.Buckets i7).Depth, .own 20 0 (ix d.Buckets i7).Items.length]), (25, .row 43 (flD dBucket [26] (c4q7 ++ [(Bucket.mk (ix d.Buckets i7).Depth (ix d.Buckets i7).Items)]))), ((.s 26 0), .fam (famD dBucket 0 (c4q7 ++ [(Bucket.mk (ix d.Buckets i7).Depth (ix d.Buckets i7).Items)])))] 30 (by kernel_rfl) ?_
    exact hn2 ((IntKind.i64.wrap (i7 + 1)), c3q11, (c4q7 ++ [(Bucket.mk (ix d.Buckets i7).Depth (ix d.Buckets i7).Items)])) _ _ _ (Option.some.inj h).symm (leSt_m [(0, 0), (1, 1), (2, 2), (3, 3), (4, 25), ((.s 5 0), (.s 26 0))] [] (by simp only [push_cast, leL_flD, renL_flD, seval]) (by simp only [push_cast, leL_flD, renL_flD, seval]) rfl rfl rfl)
  · change R2 (.exit 0) _ _ _
    refine ex_cast hx2 (id := 0) ?_
    obtain ⟨r0, h, e0⟩ := map_sx h
    have e1 := hr2 r0 e0.symm
    subst r0
    refine wk_id ?_
    refine wk_id ?_
    refine seq_np ?_
    refine reg_f ?_
    refine rs 2 [] [] (by kernel_rfl) allP_nil ?_
    refine rf [(2, .ptr 1 0)] [(0, .row 26 (Enc.cells d)), (1, .row 26 [iS d.Depth, .own 3 0 c3q11.length, .own 4 0 c4q7.length]), (2, .row 26 [iS d.Depth, .own 3 0 c3q11.length, .own 4 0 c4q7.length]), (3, .row 3 (fl c3q11)), (4, .row 43 (flD dBucket [5] c4q7)), ((.s 5 0), .fam (famD dBucket 0 c4q7))] 6 (by kernel_rfl) ?_
    refine wk_id ?_
    obtain rfl := Option.some.inj h
    refine ret_at (.agg [iS d.Depth, .own 3 0 c3q11.length, .own 4 0 c4q7.length]) (by kernel_rfl) ?_
    exact ret_e [(0, 3), (1, 4), ((.s 2 0), (.s 5 0))] [] (by simp only [push_cast, leL_flD, renL_flD, seval]) (by simp only [push_cast, leL_flD, renL_flD, seval]) rfl rfl rfl

set_option maxRecDepth 100000 in
set_option maxHeartbeats 200000000 in
theorem taskmillref_F_spec (code : Int) (xat : Int) (r : Fault) (h : taskmillref_F code xat = some r) : SpecW Try.prog 20 [iS code, iS xat] [] 0 (fun x h n => x = .agg (Enc.cells r) ∧ h = [] ∧ n = 0) := by
  unfold taskmillref_F at h
  refine spec_of (draw_ok _) Try.func20 rfl (by decide) rfl (by kernel_rfl) ?_
  refine seq_np ?_
  refine reg_f ?_
  refine rs 1 [] [] (by kernel_rfl) allP_nil ?_
  refine rf [(0, iS code), (1, iS xat), (4, .ptr 0 0)] [(0, .row 29 [iS 0, iS 0])] 1 (by kernel_rfl) ?_
  refine wk_id ?_
  refine seq_np ?_
  refine reg_f ?_
  refine rs 4 [] [] (by kernel_rfl) allP_nil ?_
  refine rf [(4, .ptr 0 0)] [(0, .row 29 [iS code, iS xat])] 1 (by kernel_rfl) ?_
  refine wk_id ?_
  obtain rfl := Option.some.inj h
  refine ret_at (.agg [iS code, iS xat]) (by kernel_rfl) ?_
  exact ret_e [] [] (by simp only [push_cast, leL_flD, renL_flD, seval]) (by simp only [push_cast, leL_flD, renL_flD, seval]) rfl rfl rfl

set_option maxRecDepth 100000 in
set_option maxHeartbeats 200000000 in
theorem taskmillref_Bits_spec (n : Int) (many : Int) (r : Int) (h : taskmillref_Bits n many = some r) : SpecW Try.prog 19 [iS n, iS many] [] 0 (fun x h n => x = iS r ∧ h = [] ∧ n = 0) := by
  unfold taskmillref_Bits at h
  refine spec_of (draw_ok _) Try.func19 rfl (by decide) rfl (by kernel_rfl) ?_
  refine seq_np ?_
  refine reg_f ?_
  refine rs 1 [] [] (by kernel_rfl) allP_nil ?_
  refine rf [(0, iS n), (1, iS many)] [] 0 (by kernel_rfl) ?_
  refine wk_id ?_
  refine seq_np ?_
  refine reg_f ?_
  refine rs 1 [] [] (by kernel_rfl) allP_nil ?_
  refine rf [(0, iS n), (1, iS many), (5, iS 0)] [] 0 (by kernel_rfl) ?_
  refine wk_id ?_
  refine seq_np ?_
  refine seq_np ?_
  refine reg_f ?_
  refine rs 1 [] [] (by kernel_rfl) allP_nil ?_
  refine rf [(0, iS n), (1, iS many), (5, iS 0), (6, iS 0)] [] 0 (by kernel_rfl) ?_
  refine wk_id ?_
  refine block_np ?_
  refine loop_sx (S := Int × Int) (fun a => ([(0, iS n), (1, iS many), (5, iS a.1), (6, iS a.2)], [], 0)) h (leSt_m [] [] (by simp only [push_cast, leL_flD, renL_flD, seval]) (by simp only [push_cast, leL_flD, renL_flD, seval]) rfl rfl rfl) ?_
  rintro ⟨s18, i7⟩ o2 R2 h hr2 hn2 hx2 ht2
  try dsimp only at h hn2 ⊢
  unfold taskmillref_Bits_l1 at h
  try dsimp only at h
  refine seq_np ?_
  refine seq_np ?_
  refine reg_f ?_
  refine rs 3 [] [] (by kernel_rfl) allP_nil ?_
  refine rf [(0, iS n), (1, iS many), (5, iS s18), (6, iS i7), (9, bS (decide (i7 < many)))] [] 0 (by kernel_rfl) ?_
  refine wk_id ?_
  refine cond_sx h (by kernel_rfl) (fun g3659 h => ?_) (fun g3659 h => ?_)
  · refine wk_id ?_
    refine seq_np ?_
    refine block_cut (A := Int) (fun a => ([(0, iS n), (1, iS many), (5, iS a), (6, iS i7)], [], 0)) (fun a => (taskmillref_Bits_j1 n many i7 a) = some o2) (fun K3649 hK3649 => ?_) ?_
    · refine chk_sx h (fun g3653 h => ?_)
      refine seq_np ?_
      refine reg_f ?_
      have k3652 : 0 ≤ i7 := by first | simpa only [Bool.and_eq_true, decide_eq_true_eq, bne_iff_ne, ne_eq] using g3653 | (simp at g3653 ⊢; omega)
      refine rs 5 [none, none, some ⟨iS (Int.fdiv n (2 ^ (min (i7).toNat (IntKind.i64).bits))), [], 0, []⟩] _ (by kernel_rfl) (allP_cons (ob_p (v := iS (Int.fdiv n (2 ^ (min (i7).toNat (IntKind.i64).bits)))) (nx := 0) (r := []) k3652) allP_nil) ?_
      refine rf [(0, iS n), (1, iS many), (5, iS s18), (6, iS i7), (16, bS ((IntKind.i64.wrap (((BitVec.ofInt (IntKind.i64).bits (Int.fdiv n (2 ^ (min (i7).toNat (IntKind.i64).bits))) &&& BitVec.ofInt (IntKind.i64).bits 1).toNat : Nat) : Int)) == 1))] [] 0 (by kernel_rfl) ?_
      refine wk_id ?_
      refine cond_sx h (by kernel_rfl) (fun g3658 h => ?_) (fun g3658 h => ?_)
      · refine chk_sx h (fun g3657 h => ?_)
        refine reg_f ?_
        have k3656 : 0 ≤ i7 := by first | simpa only [Bool.and_eq_true, decide_eq_true_eq, bne_iff_ne, ne_eq] using g3657 | (simp at g3657 ⊢; omega)
        refine rs 5 [none, none, some ⟨iS (IntKind.i64.wrap ((1 : Int) * 2 ^ (min (i7).toNat (IntKind.i64).bits))), [], 0, []⟩] _ (by kernel_rfl) (allP_cons (ob_p (v := iS (IntKind.i64.wrap ((1 : Int) * 2 ^ (min (i7).toNat (IntKind.i64).bits)))) (nx := 0) (r := []) k3656) allP_nil) ?_
        refine rf [(0, iS n), (1, iS many), (5, iS (IntKind.i64.wrap (s18 + (IntKind.i64.wrap ((1 : Int) * 2 ^ (min (i7).toNat (IntKind.i64).bits)))))), (6, iS i7)] [] 0 (by kernel_rfl) ?_
        exact hK3649 ((IntKind.i64.wrap (s18 + (IntKind.i64.wrap ((1 : Int) * 2 ^ (min (i7).toNat (IntKind.i64).bits)))))) _ _ _ h (leSt_m [] [] (by simp only [push_cast, leL_flD, renL_flD, seval]) (by simp only [push_cast, leL_flD, renL_flD, seval]) rfl rfl rfl)
      · exact hK3649 (s18) _ _ _ h (leSt_m [] [] (by simp only [push_cast, leL_flD, renL_flD, seval]) (by simp only [push_cast, leL_flD, renL_flD, seval]) rfl rfl rfl)
    · rintro s20 h
      try dsimp only at h ⊢
      unfold taskmillref_Bits_j1 at h
      refine wk_id ?_
      refine reg_f ?_
      refine rs 3 [] [] (by kernel_rfl) allP_nil ?_
      refine rf [(0, iS n), (1, iS many), (5, iS s20), (6, iS (IntKind.i64.wrap (i7 + 1)))] [] 0 (by kernel_rfl) ?_
      exact hn2 (s20, (IntKind.i64.wrap (i7 + 1))) _ _ _ (Option.some.inj h).symm (leSt_m [] [] (by simp only [push_cast, leL_flD, renL_flD, seval]) (by simp only [push_cast, leL_flD, renL_flD, seval]) rfl rfl rfl)
  · change R2 (.exit 0) _ _ _
    refine ex_cast hx2 (id := 0) ?_
    obtain ⟨r0, h, e0⟩ := map_sx h
    have e1 := hr2 r0 e0.symm
    subst r0
    refine wk_id ?_
    refine wk_id ?_
    refine seq_np ?_
    refine reg_f ?_
    refine rs 2 [] [] (by kernel_rfl) allP_nil ?_
    refine rf [(4, iS s18)] [] 0 (by kernel_rfl) ?_
    refine wk_id ?_
    obtain rfl := Option.some.inj h
    refine ret_at (iS s18) (by kernel_rfl) ?_
    exact ret_e [] [] (by simp only [push_cast, leL_flD, renL_flD, seval]) (by simp only [push_cast, leL_flD, renL_flD, seval]) rfl rfl rfl

set_option maxRecDepth 100000 in
set_option maxHeartbeats 200000000 in
theorem taskmillref_DictFault_spec (d : Dict) (r : Fault) (h : taskmillref_DictFault d = some r) : SpecW Try.prog 15 [.agg (Enc.cells d)] [] 0 (fun x h n => x = .agg (Enc.cells r) ∧ h = [] ∧ n = 0) := by
  unfold taskmillref_DictFault at h
  refine spec_of (draw_ok _) Try.func15 rfl (by decide) rfl (by kernel_rfl) ?_
  refine seq_np ?_
  refine reg_f ?_
  refine rs 2 [] [] (by kernel_rfl) allP_nil ?_
  refine rf [(1, .ptr 0 0), (2, .ptr 1 0)] [(0, .row 26 (Enc.cells d)), (1, .row 29 [iS 0, iS 0])] 2 (by kernel_rfl) ?_
  refine wk_id ?_
  refine seq_np ?_
  refine seq_cut (A := Unit) (fun _ => ([(1, .ptr 0 0), (2, .ptr 1 0), (20, bS ((decide (d.Depth < 0)) || (decide ((12 : Int) < d.Depth))))], [(0, .row 26 (Enc.cells d)), (1, .row 29 [iS 0, iS 0])], 2)) (fun _ => True) (fun K3876 hK3876 => ?_) (fun _ _ => ?_)
  · refine reg_f ?_
    refine rs 4 [] [] (by kernel_rfl) allP_nil ?_
    refine run_split 16 (decide (d.Depth < 0)) (.inl (by kernel_rfl)) (fun g3877 => ?_) (fun g3877 => ?_)
    · refine rs 4 [] [] (by kernel_rfl) allP_nil ?_
      refine rf [(1, .ptr 0 0), (2, .ptr 1 0), (20, bS true)] [(0, .row 26 (Enc.cells d)), (1, .row 29 [iS 0, iS 0])] 2 (by kernel_rfl) ?_
      exact hK3876 () _ _ _ trivial (leSt_m [(0, 0), (1, 1)] [] (by (try simp only [g3877]) <;> simp only [push_cast, leL_flD, renL_flD, seval]) (by (try simp only [g3877]) <;> simp only [push_cast, leL_flD, renL_flD, seval]) rfl rfl rfl)
    · refine rs 4 [] [] (by kernel_rfl) allP_nil ?_
      refine rf [(1, .ptr 0 0), (2, .ptr 1 0), (20, bS (decide ((12 : Int) < d.Depth)))] [(0, .row 26 (Enc.cells d)), (1, .row 29 [iS 0, iS 0])] 2 (by kernel_rfl) ?_
      exact hK3876 () _ _ _ trivial (leSt_m [(0, 0), (1, 1)] [] (by (try simp only [g3877]) <;> simp only [push_cast, leL_flD, renL_flD, seval]) (by (try simp only [g3877]) <;> simp only [push_cast, leL_flD, renL_flD, seval]) rfl rfl rfl)
  · dsimp only
    refine cond_sx h (by kernel_rfl) (fun g5052 h => ?_) (fun g5052 h => ?_)
    · refine seq_np ?_
      refine reg_f ?_
      obtain ⟨r3879, hr3879, h⟩ := bind_sx h
      refine run_call 20 [iS 3, iS (-1)] (some 21) (by kernel_rfl) ?_
      refine call_0 (taskmillref_F_spec 3 (-1) r3879 hr3879) (by simp only [push_cast, leL_flD, renL_flD, seval]) (by simp only [push_cast, leL_flD, renL_flD, seval]) ?_
      refine back_f ?_
      refine rs 1 [] [] (by kernel_rfl) allP_nil ?_
      refine rf [(2, .ptr 1 0)] [(0, .row 26 (Enc.cells d)), (1, .row 29 (Enc.cells r3879))] 2 (by kernel_rfl) ?_
      refine wk_id ?_
      obtain rfl := Option.some.inj h
      refine ret_at (.agg (Enc.cells r3879)) (by kernel_rfl) ?_
      exact ret_e [] [] (by simp only [push_cast, leL_flD, renL_flD, seval]) (by simp only [push_cast, leL_flD, renL_flD, seval]) rfl rfl rfl
    · refine wk_id ?_
      refine seq_np ?_
      refine chk_sx h (fun g3887 h => ?_)
      refine seq_np ?_
      refine reg_t ?_
      have k3886 : 0 ≤ d.Depth := by first | simpa only [Bool.and_eq_true, decide_eq_true_eq, bne_iff_ne, ne_eq] using g3887 | (simp at g3887 ⊢; omega)
      refine rs 7 [none, none, none, none, none, some ⟨iS (IntKind.i64.wrap ((1 : Int) * 2 ^ (min (d.Depth).toNat (IntKind.i64).bits))), [], 7, []⟩] _ (by kernel_rfl) (allP_cons (ob_p (v := iS (IntKind.i64.wrap ((1 : Int) * 2 ^ (min (d.Depth).toNat (IntKind.i64).bits)))) (nx := 7) (r := []) k3886) allP_nil) ?_
      refine rt [(1, .ptr 0 0), (2, .ptr 1 0), (28, bS (((d.Places.length : Nat) : Int) != (IntKind.i64.wrap ((1 : Int) * 2 ^ (min (d.Depth).toNat (IntKind.i64).bits)))))] [(0, .row 26 (Enc.cells d)), (1, .row 29 [iS 0, iS 0])] 9 follows (by kernel_rfl) ?_
      refine wk_id ?_
      refine cond_sx h (by kernel_rfl) (fun g5051 h => ?_) (fun g5051 h => ?_)
      · refine seq_np ?_
        refine reg_f ?_
        obtain ⟨r3889, hr3889, h⟩ := bind_sx h
        refine run_call 20 [iS 8, iS (-1)] (some 29) (by kernel_rfl) ?_
        refine call_0 (taskmillref_F_spec 8 (-1) r3889 hr3889) (by simp only [push_cast, leL_flD, renL_flD, seval]) (by simp only [push_cast, leL_flD, renL_flD, seval]) ?_
        refine back_f ?_
        refine rs 1 [] [] (by kernel_rfl) allP_nil ?_
        refine rf [(2, .ptr 1 0)] [(0, .row 26 (Enc.cells d)), (1, .row 29 (Enc.cells r3889))] 9 (by kernel_rfl) ?_
        refine wk_id ?_
        obtain rfl := Option.some.inj h
        refine ret_at (.agg (Enc.cells r3889)) (by kernel_rfl) ?_
        exact ret_e [] [] (by simp only [push_cast, leL_flD, renL_flD, seval]) (by simp only [push_cast, leL_flD, renL_flD, seval]) rfl rfl rfl
      · refine wk_id ?_
        refine seq_np ?_
        refine reg_f ?_
        refine rs 1 [] [] (by kernel_rfl) allP_nil ?_
        refine rf [(1, .ptr 0 0), (2, .ptr 1 0), (3, iS 0)] [(0, .row 26 (Enc.cells d)), (1, .row 29 [iS 0, iS 0])] 9 (by kernel_rfl) ?_
        refine wk_id ?_
        refine seq_np ?_
        refine seq_np ?_
        refine reg_f ?_
        refine rs 1 [] [] (by kernel_rfl) allP_nil ?_
        refine rf [(1, .ptr 0 0), (2, .ptr 1 0), (3, iS 0), (4, iS 0)] [(0, .row 26 (Enc.cells d)), (1, .row 29 [iS 0, iS 0])] 9 (by kernel_rfl) ?_
        refine wk_id ?_
        refine block_np ?_
        refine loop_sx (S := Int × Int) (fun a => ([(1, .ptr 0 0), (2, .ptr 1 0), (3, iS a.1), (4, iS a.2)], [(0, .row 26 (Enc.cells d)), (1, .row 29 [iS 0, iS 0])], 2)) h (leSt_m [(0, 0), (1, 1)] [] (by simp only [push_cast, leL_flD, renL_flD, seval]) (by simp only [push_cast, leL_flD, renL_flD, seval]) rfl rfl rfl) ?_
        rintro ⟨least18, i19⟩ o6 R6 h hr6 hn6 hx6 ht6
        try dsimp only at h hn6 ⊢
        unfold taskmillref_DictFault_l5 at h
        try dsimp only at h
        refine seq_np ?_
        refine seq_np ?_
        refine reg_f ?_
        refine rs 5 [] [] (by kernel_rfl) allP_nil ?_
        refine rf [(1, .ptr 0 0), (2, .ptr 1 0), (3, iS least18), (4, iS i19), (34, bS (decide (i19 < ((d.Places.length : Nat) : Int))))] [(0, .row 26 (Enc.cells d)), (1, .row 29 [iS 0, iS 0])] 2 (by kernel_rfl) ?_
        refine wk_id ?_
        refine cond_sx h (by kernel_rfl) (fun g5050 h => ?_) (fun g5050 h => ?_)
        · refine wk_id ?_
          refine seq_np ?_
          refine block_cut (A := Int) (fun a => ([(1, .ptr 0 0), (2, .ptr 1 0), (3, iS a), (4, iS i19)], [(0, .row 26 (Enc.cells d)), (1, .row 29 [iS 0, iS 0])], 2)) (fun a => (taskmillref_DictFault_j1 d i19 a) = some o6) (fun K3991 hK3991 => ?_) ?_
          · refine chk_sx h (fun g3995 h => ?_)
            refine seq_np ?_
            refine reg_f ?_
            have k3994 : 0 ≤ i19 ∧ i19 < ((d.Places.length : Nat) : Int) := by first | simpa only [Bool.and_eq_true, decide_eq_true_eq, bne_iff_ne, ne_eq] using g3995 | (simp at g3995 ⊢; omega)
            refine rs 6 [none, none, none, some ⟨.iptr (fl d.Places) ((i19).toNat * 1), [], 2, []⟩, some ⟨iS (ix d.Places i19), [], 2, []⟩] _ (by kernel_rfl) (allP_cons (ob_ld d.Places i19 1 0 ((i19).toNat * 1) k3994 rfl (by decide) (by first | rfl | omega) (dflS Try.prog 3) (iS (ix d.Places i19)) rfl 2 []) (allP_cons (ob_ix_l d.Places 1 2 i19 k3994) allP_nil)) ?_
            refine rf [(1, .ptr 0 0), (2, .ptr 1 0), (3, iS least18), (4, iS i19), (5, iS (ix d.Places i19))] [(0, .row 26 (Enc.cells d)), (1, .row 29 [iS 0, iS 0])] 2 (by kernel_rfl) ?_
            refine wk_id ?_
            refine seq_np ?_
            refine seq_cut (A := Unit) (fun _ => ([(1, .ptr 0 0), (2, .ptr 1 0), (3, iS least18), (4, iS i19), (5, iS (ix d.Places i19)), (55, bS ((decide ((ix d.Places i19) < 0)) || ((decide (((d.Buckets.length : Nat) : Int) ≤ (ix d.Places i19))) || (decide (least18 < (ix d.Places i19))))))], [(0, .row 26 (Enc.cells d)), (1, .row 29 [iS 0, iS 0])], 2)) (fun _ => True) (fun K4002 hK4002 => ?_) (fun _ _ => ?_)
            · refine reg_f ?_
              refine rs 3 [] [] (by kernel_rfl) allP_nil ?_
              refine run_split 44 (decide ((ix d.Places i19) < 0)) (.inl (by kernel_rfl)) (fun g4003 => ?_) (fun g4003 => ?_)
              · refine rs 11 [] [] (by kernel_rfl) allP_nil ?_
                refine rf [(1, .ptr 0 0), (2, .ptr 1 0), (3, iS least18), (4, iS i19), (5, iS (ix d.Places i19)), (55, bS true)] [(0, .row 26 (Enc.cells d)), (1, .row 29 [iS 0, iS 0])] 2 (by kernel_rfl) ?_
                exact hK4002 () _ _ _ trivial (leSt_m [(0, 0), (1, 1)] [] (by (try simp only [g4003]) <;> simp only [push_cast, leL_flD, renL_flD, seval]) (by (try simp only [g4003]) <;> simp only [push_cast, leL_flD, renL_flD, seval]) rfl rfl rfl)
              · refine rs 7 [] [] (by kernel_rfl) allP_nil ?_
                refine run_split 51 (decide (((d.Buckets.length : Nat) : Int) ≤ (ix d.Places i19))) (.inl (by kernel_rfl)) (fun g4004 => ?_) (fun g4004 => ?_)
                · refine rs 4 [] [] (by kernel_rfl) allP_nil ?_
                  refine rf [(1, .ptr 0 0), (2, .ptr 1 0), (3, iS least18), (4, iS i19), (5, iS (ix d.Places i19)), (55, bS true)] [(0, .row 26 (Enc.cells d)), (1, .row 29 [iS 0, iS 0])] 2 (by kernel_rfl) ?_
                  exact hK4002 () _ _ _ trivial (leSt_m [(0, 0), (1, 1)] [] (by first | ((try simp only [g4003, g4004]) <;> simp only [push_cast, leL_flD, renL_flD, seval]; done) | ((try simp only [g4003]); (try simp only [g4004]); simp only [push_cast, leL_flD, renL_flD, seval]; done) | (exfalso; clear h; simp_all; done)) (by first | ((try simp only [g4003, g4004]) <;> simp only [push_cast, leL_flD, renL_flD, seval]; done) | ((try simp only [g4003]); (try simp only [g4004]); simp only [push_cast, leL_flD, renL_flD, seval]; done) | (exfalso; clear h; simp_all; done)) rfl rfl rfl)
                · refine rs 4 [] [] (by kernel_rfl) allP_nil ?_
                  refine rf [(1, .ptr 0 0), (2, .ptr 1 0), (3, iS least18), (4, iS i19), (5, iS (ix d.Places i19)), (55, bS (decide (least18 < (ix d.Places i19))))] [(0, .row 26 (Enc.cells d)), (1, .row 29 [iS 0, iS 0])] 2 (by kernel_rfl) ?_
                  exact hK4002 () _ _ _ trivial (leSt_m [(0, 0), (1, 1)] [] (by first | ((try simp only [g4003, g4004]) <;> simp only [push_cast, leL_flD, renL_flD, seval]; done) | ((try simp only [g4003]); (try simp only [g4004]); simp only [push_cast, leL_flD, renL_flD, seval]; done) | (exfalso; clear h; simp_all; done)) (by first | ((try simp only [g4003, g4004]) <;> simp only [push_cast, leL_flD, renL_flD, seval]; done) | ((try simp only [g4003]); (try simp only [g4004]); simp only [push_cast, leL_flD, renL_flD, seval]; done) | (exfalso; clear h; simp_all; done)) rfl rfl rfl)
            · dsimp only
              refine cond_sx h (by kernel_rfl) (fun g4008 h => ?_) (fun g4008 h => ?_)
              · refine seq_np ?_
                refine reg_f ?_
                refine rs 1 [] [] (by kernel_rfl) allP_nil ?_
                obtain ⟨r4006, hr4006, h⟩ := bind_sx h
                refine run_call 20 [iS 5, iS i19] (some 57) (by kernel_rfl) ?_
                refine call_0 (taskmillref_F_spec 5 i19 r4006 hr4006) (by simp only [push_cast, leL_flD, renL_flD, seval]) (by simp only [push_cast, leL_flD, renL_flD, seval]) ?_
                refine back_f ?_
                refine rs 1 [] [] (by kernel_rfl) allP_nil ?_
                refine rf [(2, .ptr 1 0)] [(0, .row 26 (Enc.cells d)), (1, .row 29 (Enc.cells r4006))] 2 (by kernel_rfl) ?_
                refine wk_id ?_
                refine rt_cast ht6 ?_
                obtain ⟨r0, h, e0⟩ := map_sx h
                have e1 := hr6 r0 e0.symm
                subst r0
                obtain rfl := Option.some.inj h
                refine ret_at (.agg (Enc.cells r4006)) (by kernel_rfl) ?_
                exact ret_e [] [] (by simp only [push_cast, leL_flD, renL_flD, seval]) (by simp only [push_cast, leL_flD, renL_flD, seval]) rfl rfl rfl
              · refine wk_id ?_
                refine seq_np ?_
                refine reg_f ?_
                refine rs 3 [] [] (by kernel_rfl) allP_nil ?_
                refine rf [(1, .ptr 0 0), (2, .ptr 1 0), (3, iS least18), (4, iS i19), (60, bS ((ix d.Places i19) == least18))] [(0, .row 26 (Enc.cells d)), (1, .row 29 [iS 0, iS 0])] 2 (by kernel_rfl) ?_
                refine wk_id ?_
                refine cond_sx h (by kernel_rfl) (fun g4007 h => ?_) (fun g4007 h => ?_)
                · refine reg_f ?_
                  refine rs 3 [] [] (by kernel_rfl) allP_nil ?_
                  refine rf [(1, .ptr 0 0), (2, .ptr 1 0), (3, iS (IntKind.i64.wrap (least18 + 1))), (4, iS i19)] [(0, .row 26 (Enc.cells d)), (1, .row 29 [iS 0, iS 0])] 2 (by kernel_rfl) ?_
                  exact hK3991 ((IntKind.i64.wrap (least18 + 1))) _ _ _ h (leSt_m [(0, 0), (1, 1)] [] (by simp only [push_cast, leL_flD, renL_flD, seval]) (by simp only [push_cast, leL_flD, renL_flD, seval]) rfl rfl rfl)
                · exact hK3991 (least18) _ _ _ h (leSt_m [(0, 0), (1, 1)] [] (by simp only [push_cast, leL_flD, renL_flD, seval]) (by simp only [push_cast, leL_flD, renL_flD, seval]) rfl rfl rfl)
          · rintro least20 h
            try dsimp only at h ⊢
            unfold taskmillref_DictFault_j1 at h
            refine wk_id ?_
            refine reg_f ?_
            refine rs 3 [] [] (by kernel_rfl) allP_nil ?_
            refine rf [(1, .ptr 0 0), (2, .ptr 1 0), (3, iS least20), (4, iS (IntKind.i64.wrap (i19 + 1)))] [(0, .row 26 (Enc.cells d)), (1, .row 29 [iS 0, iS 0])] 2 (by kernel_rfl) ?_
            exact hn6 (least20, (IntKind.i64.wrap (i19 + 1))) _ _ _ (Option.some.inj h).symm (leSt_m [(0, 0), (1, 1)] [] (by simp only [push_cast, leL_flD, renL_flD, seval]) (by simp only [push_cast, leL_flD, renL_flD, seval]) rfl rfl rfl)
        · change R6 (.exit 0) _ _ _
          refine ex_cast hx6 (id := 0) ?_
          obtain ⟨r0, h, e0⟩ := map_sx h
          have e1 := hr6 r0 e0.symm
          subst r0
          refine wk_id ?_
          refine wk_id ?_
          refine seq_np ?_
          refine seq_np ?_
          refine reg_f ?_
          refine rs 5 [] [] (by kernel_rfl) allP_nil ?_
          refine rf [(1, .ptr 0 0), (2, .ptr 1 0), (67, bS (decide (least18 < ((d.Buckets.length : Nat) : Int))))] [(0, .row 26 (Enc.cells d)), (1, .row 29 [iS 0, iS 0])] 2 (by kernel_rfl) ?_
          refine wk_id ?_
          refine cond_sx h (by kernel_rfl) (fun g5049 h => ?_) (fun g5049 h => ?_)
          · refine seq_np ?_
            refine reg_f ?_
            obtain ⟨r4012, hr4012, h⟩ := bind_sx h
            refine run_call 20 [iS 8, iS (-1)] (some 68) (by kernel_rfl) ?_
            refine call_0 (taskmillref_F_spec 8 (-1) r4012 hr4012) (by simp only [push_cast, leL_flD, renL_flD, seval]) (by simp only [push_cast, leL_flD, renL_flD, seval]) ?_
            refine back_f ?_
            refine rs 1 [] [] (by kernel_rfl) allP_nil ?_
            refine rf [(2, .ptr 1 0)] [(0, .row 26 (Enc.cells d)), (1, .row 29 (Enc.cells r4012))] 2 (by kernel_rfl) ?_
            refine wk_id ?_
            obtain rfl := Option.some.inj h
            refine ret_at (.agg (Enc.cells r4012)) (by kernel_rfl) ?_
            exact ret_e [] [] (by simp only [push_cast, leL_flD, renL_flD, seval]) (by simp only [push_cast, leL_flD, renL_flD, seval]) rfl rfl rfl
          · refine wk_id ?_
            refine seq_np ?_
            refine reg_f ?_
            refine rs 1 [] [] (by kernel_rfl) allP_nil ?_
            refine rf [(1, .ptr 0 0), (2, .ptr 1 0), (6, bS false)] [(0, .row 26 (Enc.cells d)), (1, .row 29 [iS 0, iS 0])] 2 (by kernel_rfl) ?_
            refine wk_id ?_
            refine seq_np ?_
            refine seq_np ?_
            refine reg_f ?_
            refine rs 1 [] [] (by kernel_rfl) allP_nil ?_
            refine rf [(1, .ptr 0 0), (2, .ptr 1 0), (6, bS false), (7, iS 0)] [(0, .row 26 (Enc.cells d)), (1, .row 29 [iS 0, iS 0])] 2 (by kernel_rfl) ?_
            refine wk_id ?_
            refine block_np ?_
            refine loop_sx (S := Bool × Int) (fun a => ([(1, .ptr 0 0), (2, .ptr 1 0), (6, bS a.1), (7, iS a.2)], [(0, .row 26 (Enc.cells d)), (1, .row 29 [iS 0, iS 0])], 2)) h (leSt_m [(0, 0), (1, 1)] [] (by simp only [push_cast, leL_flD, renL_flD, seval]) (by simp only [push_cast, leL_flD, renL_flD, seval]) rfl rfl rfl) ?_
            rintro ⟨xsome7, n7⟩ o7 R7 h hr7 hn7 hx7 ht7
            try dsimp only at h hn7 ⊢
            unfold taskmillref_DictFault_l4 at h
            try dsimp only at h
            refine seq_np ?_
            refine seq_np ?_
            refine reg_f ?_
            refine rs 5 [] [] (by kernel_rfl) allP_nil ?_
            refine rf [(1, .ptr 0 0), (2, .ptr 1 0), (6, bS xsome7), (7, iS n7), (73, bS (decide (n7 < ((d.Buckets.length : Nat) : Int))))] [(0, .row 26 (Enc.cells d)), (1, .row 29 [iS 0, iS 0])] 2 (by kernel_rfl) ?_
            refine wk_id ?_
            refine cond_sx h (by kernel_rfl) (fun g5048 h => ?_) (fun g5048 h => ?_)
            · refine wk_id ?_
              refine seq_np ?_
              refine block_np ?_
              refine chk_sx h (fun g4765 h => ?_)
              refine seq_np ?_
              refine reg_f ?_
              have k4764 : 0 ≤ n7 ∧ n7 < ((d.Buckets.length : Nat) : Int) := by first | simpa only [Bool.and_eq_true, decide_eq_true_eq, bne_iff_ne, ne_eq] using g4765 | (simp at g4765 ⊢; omega)
              refine rs 7 [none, none, none, some ⟨.iptr (fl d.Buckets) ((n7).toNat * 2), [], 2, []⟩, some ⟨.agg (Enc.cells (ix d.Buckets n7)), [], 2, []⟩] _ (by kernel_rfl) (allP_cons (ob_ldw d.Buckets n7 2 ((n7).toNat * 2) k4764 rfl (by first | rfl | omega) [iS (ix d.Buckets n7).Depth, .sl (ix d.Buckets n7).Items.length (fl (ix d.Buckets n7).Items)] rfl 2 []) (allP_cons (ob_ix_l d.Buckets 2 2 n7 k4764) allP_nil)) ?_
              refine rf [(1, .ptr 0 0), (2, .ptr 1 0), (6, bS xsome7), (7, iS n7), (8, .ptr 2 0)] [(0, .row 26 (Enc.cells d)), (1, .row 29 [iS 0, iS 0]), (2, .row 43 (Enc.cells (ix d.Buckets n7)))] 3 (by kernel_rfl) ?_
              refine wk_id ?_
              refine seq_cut (A := Unit) (fun _ => ([(1, .ptr 0 0), (2, .ptr 1 0), (6, bS (xsome7 || ((ix d.Buckets n7).Depth == d.Depth))), (7, iS n7), (8, .ptr 2 0)], [(0, .row 26 (Enc.cells d)), (1, .row 29 [iS 0, iS 0]), (2, .row 43 (Enc.cells (ix d.Buckets n7)))], 3)) (fun _ => True) (fun K4767 hK4767 => ?_) (fun _ _ => ?_)
              · refine reg_f ?_
                refine rs 2 [] [] (by kernel_rfl) allP_nil ?_
                refine run_split 82 xsome7 (.inl (by kernel_rfl)) (fun g4768 => ?_) (fun g4768 => ?_)
                · refine rs 7 [] [] (by kernel_rfl) allP_nil ?_
                  refine rf [(1, .ptr 0 0), (2, .ptr 1 0), (6, bS true), (7, iS n7), (8, .ptr 2 0)] [(0, .row 26 (Enc.cells d)), (1, .row 29 [iS 0, iS 0]), (2, .row 43 (Enc.cells (ix d.Buckets n7)))] 3 (by kernel_rfl) ?_
                  exact hK4767 () _ _ _ trivial (leSt_m [(0, 0), (1, 1), (2, 2)] [] (by (try simp only [g4768]) <;> simp only [push_cast, leL_flD, renL_flD, seval]) (by (try simp only [g4768]) <;> simp only [push_cast, leL_flD, renL_flD, seval]) rfl rfl rfl)
                · refine rs 7 [] [] (by kernel_rfl) allP_nil ?_
                  refine rf [(1, .ptr 0 0), (2, .ptr 1 0), (6, bS ((ix d.Buckets n7).Depth == d.Depth)), (7, iS n7), (8, .ptr 2 0)] [(0, .row 26 (Enc.cells d)), (1, .row 29 [iS 0, iS 0]), (2, .row 43 (Enc.cells (ix d.Buckets n7)))] 3 (by kernel_rfl) ?_
                  exact hK4767 () _ _ _ trivial (leSt_m [(0, 0), (1, 1), (2, 2)] [] (by (try simp only [g4768]) <;> simp only [push_cast, leL_flD, renL_flD, seval]) (by (try simp only [g4768]) <;> simp only [push_cast, leL_flD, renL_flD, seval]) rfl rfl rfl)
              · dsimp only
                refine seq_np ?_
                refine seq_cut (A := Unit) (fun _ => ([(1, .ptr 0 0), (2, .ptr 1 0), (6, bS (xsome7 || ((ix d.Buckets n7).Depth == d.Depth))), (7, iS n7), (8, .ptr 2 0), (98, bS ((decide ((ix d.Buckets n7).Depth < 0)) || (decide (d.Depth < (ix d.Buckets n7).Depth))))], [(0, .row 26 (Enc.cells d)), (1, .row 29 [iS 0, iS 0]), (2, .row 43 (Enc.cells (ix d.Buckets n7)))], 3)) (fun _ => True) (fun K4773 hK4773 => ?_) (fun _ _ => ?_)
                · refine reg_f ?_
                  refine rs 4 [] [] (by kernel_rfl) allP_nil ?_
                  refine run_split 92 (decide ((ix d.Buckets n7).Depth < 0)) (.inl (by kernel_rfl)) (fun g4774 => ?_) (fun g4774 => ?_)
                  · refine rs 6 [] [] (by kernel_rfl) allP_nil ?_
                    refine rf [(1, .ptr 0 0), (2, .ptr 1 0), (6, bS (xsome7 || ((ix d.Buckets n7).Depth == d.Depth))), (7, iS n7), (8, .ptr 2 0), (98, bS true)] [(0, .row 26 (Enc.cells d)), (1, .row 29 [iS 0, iS 0]), (2, .row 43 (Enc.cells (ix d.Buckets n7)))] 3 (by kernel_rfl) ?_
                    exact hK4773 () _ _ _ trivial (leSt_m [(0, 0), (1, 1), (2, 2)] [] (by (try simp only [g4774]) <;> simp only [push_cast, leL_flD, renL_flD, seval]) (by (try simp only [g4774]) <;> simp only [push_cast, leL_flD, renL_flD, seval]) rfl rfl rfl)
                  · refine rs 6 [] [] (by kernel_rfl) allP_nil ?_
                    refine rf [(1, .ptr 0 0), (2, .ptr 1 0), (6, bS (xsome7 || ((ix d.Buckets n7).Depth == d.Depth))), (7, iS n7), (8, .ptr 2 0), (98, bS (decide (d.Depth < (ix d.Buckets n7).Depth)))] [(0, .row 26 (Enc.cells d)), (1, .row 29 [iS 0, iS 0]), (2, .row 43 (Enc.cells (ix d.Buckets n7)))] 3 (by kernel_rfl) ?_
                    exact hK4773 () _ _ _ trivial (leSt_m [(0, 0), (1, 1), (2, 2)] [] (by (try simp only [g4774]) <;> simp only [push_cast, leL_flD, renL_flD, seval]) (by (try simp only [g4774]) <;> simp only [push_cast, leL_flD, renL_flD, seval]) rfl rfl rfl)
                · dsimp only
                  refine cond_sx h (by kernel_rfl) (fun g5038 h => ?_) (fun g5038 h => ?_)
                  · refine seq_np ?_
                    refine reg_f ?_
                    refine rs 1 [] [] (by kernel_rfl) allP_nil ?_
                    obtain ⟨r4776, hr4776, h⟩ := bind_sx h
                    refine run_call 20 [iS 4, iS n7] (some 100) (by kernel_rfl) ?_
                    refine call_0 (taskmillref_F_spec 4 n7 r4776 hr4776) (by simp only [push_cast, leL_flD, renL_flD, seval]) (by simp only [push_cast, leL_flD, renL_flD, seval]) ?_
                    refine back_f ?_
                    refine rs 1 [] [] (by kernel_rfl) allP_nil ?_
                    refine rf [(2, .ptr 1 0)] [(0, .row 26 (Enc.cells d)), (1, .row 29 (Enc.cells r4776)), (2, .row 43 (Enc.cells (ix d.Buckets n7)))] 3 (by kernel_rfl) ?_
                    refine wk_id ?_
                    refine rt_cast ht7 ?_
                    obtain ⟨r0, h, e0⟩ := map_sx h
                    have e1 := hr7 r0 e0.symm
                    subst r0
                    obtain rfl := Option.some.inj h
                    refine ret_at (.agg (Enc.cells r4776)) (by kernel_rfl) ?_
                    exact ret_e [] [] (by simp only [push_cast, leL_flD, renL_flD, seval]) (by simp only [push_cast, leL_flD, renL_flD, seval]) rfl rfl rfl
                  · refine wk_id ?_
                    refine seq_np ?_
                    refine reg_f ?_
                    refine rs 1 [] [] (by kernel_rfl) allP_nil ?_
                    refine rf [(1, .ptr 0 0), (2, .ptr 1 0), (6, bS (xsome7 || ((ix d.Buckets n7).Depth == d.Depth))), (7, iS n7), (8, .ptr 2 0), (9, iS 0)] [(0, .row 26 (Enc.cells d)), (1, .row 29 [iS 0, iS 0]), (2, .row 43 (Enc.cells (ix d.Buckets n7)))] 3 (by kernel_rfl) ?_
                    refine wk_id ?_
                    refine seq_np ?_
                    refine block_np ?_
                    refine loop_sx (S := Int) (fun a => ([(1, .ptr 0 0), (2, .ptr 1 0), (6, bS (xsome7 || ((ix d.Buckets n7).Depth == d.Depth))), (7, iS n7), (8, .ptr 2 0), (9, iS a)], [(0, .row 26 (Enc.cells d)), (1, .row 29 [iS 0, iS 0]), (2, .row 43 (Enc.cells (ix d.Buckets n7)))], 3)) h (leSt_m [(0, 0), (1, 1), (2, 2)] [] (by simp only [push_cast, leL_flD, renL_flD, seval]) (by simp only [push_cast, leL_flD, renL_flD, seval]) rfl rfl rfl) ?_
                    rintro first31 o8 R8 h hr8 hn8 hx8 ht8
                    try dsimp only at h hn8 ⊢
                    unfold taskmillref_DictFault_l3 at h
                    try dsimp only at h
                    refine seq_np ?_
                    refine chk_sx h (fun g4810 h => ?_)
                    refine seq_np ?_
                    refine reg_f ?_
                    have k4809 : 0 ≤ first31 ∧ first31 < ((d.Places.length : Nat) : Int) := by first | simpa only [Bool.and_eq_true, decide_eq_true_eq, bne_iff_ne, ne_eq] using g4810 | (simp at g4810 ⊢; omega)
                    refine rs 7 [none, none, none, some ⟨.iptr (fl d.Places) ((first31).toNat * 1), [], 3, []⟩, some ⟨iS (ix d.Places first31), [], 3, []⟩] _ (by kernel_rfl) (allP_cons (ob_ld d.Places first31 1 0 ((first31).toNat * 1) k4809 rfl (by decide) (by first | rfl | omega) (dflS Try.prog 3) (iS (ix d.Places first31)) rfl 3 []) (allP_cons (ob_ix_l d.Places 1 3 first31 k4809) allP_nil)) ?_
                    refine rf [(1, .ptr 0 0), (2, .ptr 1 0), (6, bS (xsome7 || ((ix d.Buckets n7).Depth == d.Depth))), (7, iS n7), (8, .ptr 2 0), (9, iS first31), (107, bS ((ix d.Places first31) != n7))] [(0, .row 26 (Enc.cells d)), (1, .row 29 [iS 0, iS 0]), (2, .row 43 (Enc.cells (ix d.Buckets n7)))] 3 (by kernel_rfl) ?_
                    refine wk_id ?_
                    refine cond_sx h (by kernel_rfl) (fun g5037 h => ?_) (fun g5037 h => ?_)
                    · refine wk_id ?_
                      refine block_np ?_
                      refine reg_f ?_
                      refine rs 3 [] [] (by kernel_rfl) allP_nil ?_
                      refine rf [(1, .ptr 0 0), (2, .ptr 1 0), (6, bS (xsome7 || ((ix d.Buckets n7).Depth == d.Depth))), (7, iS n7), (8, .ptr 2 0), (9, iS (IntKind.i64.wrap (first31 + 1)))] [(0, .row 26 (Enc.cells d)), (1, .row 29 [iS 0, iS 0]), (2, .row 43 (Enc.cells (ix d.Buckets n7)))] 3 (by kernel_rfl) ?_
                      refine wk_id ?_
                      exact hn8 ((IntKind.i64.wrap (first31 + 1))) _ _ _ (Option.some.inj h).symm (leSt_m [(0, 0), (1, 1), (2, 2)] [] (by simp only [push_cast, leL_flD, renL_flD, seval]) (by simp only [push_cast, leL_flD, renL_flD, seval]) rfl rfl rfl)
                    · change R8 (.exit 4) _ _ _
                      refine ex_cast hx8 (id := 4) ?_
                      obtain ⟨r0, h, e0⟩ := map_sx h
                      have e1 := hr8 r0 e0.symm
                      subst r0
                      refine wk_id ?_
                      refine wk_id ?_
                      refine seq_np ?_
                      refine reg_f ?_
                      refine rs 3 [] [] (by kernel_rfl) allP_nil ?_
                      obtain ⟨r4812, hr4812, h⟩ := bind_sx h
                      refine run_call 19 [iS first31, iS (ix d.Buckets n7).Depth] (some 113) (by kernel_rfl) ?_
                      refine call_0 (taskmillref_Bits_spec first31 (ix d.Buckets n7).Depth r4812 hr4812) (by simp only [push_cast, leL_flD, renL_flD, seval]) (by simp only [push_cast, leL_flD, renL_flD, seval]) ?_
                      refine back_f ?_
                      refine rs 1 [] [] (by kernel_rfl) allP_nil ?_
                      refine rf [(1, .ptr 0 0), (2, .ptr 1 0), (6, bS (xsome7 || ((ix d.Buckets n7).Depth == d.Depth))), (7, iS n7), (8, .ptr 2 0), (10, iS r4812)] [(0, .row 26 (Enc.cells d)), (1, .row 29 [iS 0, iS 0]), (2, .row 43 (Enc.cells (ix d.Buckets n7)))] 3 (by kernel_rfl) ?_
                      refine wk_id ?_
                      refine seq_np ?_
                      refine seq_np ?_
                      refine reg_f ?_
                      refine rs 1 [] [] (by kernel_rfl) allP_nil ?_
                      refine rf [(1, .ptr 0 0), (2, .ptr 1 0), (6, bS (xsome7 || ((ix d.Buckets n7).Depth == d.Depth))), (7, iS n7), (8, .ptr 2 0), (10, iS r4812), (11, iS 0)] [(0, .row 26 (Enc.cells d)), (1, .row 29 [iS 0, iS 0]), (2, .row 43 (Enc.cells (ix d.Buckets n7)))] 3 (by kernel_rfl) ?_
                      refine wk_id ?_
                      refine block_np ?_
                      refine loop_sx (S := Int × Int) (fun a => ([(1, .ptr 0 0), (2, .ptr 1 0), (6, bS (xsome7 || ((ix d.Buckets n7).Depth == d.Depth))), (7, iS n7), (8, .ptr 2 0), (10, iS a.1), (11, iS a.2)], [(0, .row 26 (Enc.cells d)), (1, .row 29 [iS 0, iS 0]), (2, .row 43 (Enc.cells (ix d.Buckets n7)))], 3)) h (leSt_m [(0, 0), (1, 1), (2, 2)] [] (by simp only [push_cast, leL_flD, renL_flD, seval]) (by simp only [push_cast, leL_flD, renL_flD, seval]) rfl rfl rfl) ?_
                      rintro ⟨same47, i65⟩ o9 R9 h hr9 hn9 hx9 ht9
                      try dsimp only at h hn9 ⊢
                      unfold taskmillref_DictFault_l2 at h
                      try dsimp only at h
                      refine seq_np ?_
                      refine seq_np ?_
                      refine reg_f ?_
                      refine rs 5 [] [] (by kernel_rfl) allP_nil ?_
                      refine rf [(1, .ptr 0 0), (2, .ptr 1 0), (6, bS (xsome7 || ((ix d.Buckets n7).Depth == d.Depth))), (7, iS n7), (8, .ptr 2 0), (10, iS same47), (11, iS i65), (118, bS (decide (i65 < ((d.Places.length : Nat) : Int))))] [(0, .row 26 (Enc.cells d)), (1, .row 29 [iS 0, iS 0]), (2, .row 43 (Enc.cells (ix d.Buckets n7)))] 3 (by kernel_rfl) ?_
                      refine wk_id ?_
                      refine cond_sx h (by kernel_rfl) (fun g5036 h => ?_) (fun g5036 h => ?_)
                      · refine wk_id ?_
                        refine seq_np ?_
                        refine block_np ?_
                        refine chk_sx h (fun g4879 h => ?_)
                        refine seq_np ?_
                        refine reg_t ?_
                        have k4878 : 0 ≤ i65 ∧ i65 < ((d.Places.length : Nat) : Int) := by first | simpa only [Bool.and_eq_true, decide_eq_true_eq, bne_iff_ne, ne_eq] using g4879 | (simp at g4879 ⊢; omega)
                        refine rs 10 [none, none, none, some ⟨.iptr (fl d.Places) ((i65).toNat * 1), [], 6, []⟩, some ⟨iS (ix d.Places i65), [], 7, []⟩] _ (by kernel_rfl) (allP_cons (ob_ld d.Places i65 1 0 ((i65).toNat * 1) k4878 rfl (by decide) (by first | rfl | omega) (dflS Try.prog 3) (iS (ix d.Places i65)) rfl 7 []) (allP_cons (ob_ix_l d.Places 1 6 i65 k4878) allP_nil)) ?_
                        obtain ⟨r4880, hr4880, h⟩ := bind_sx h
                        refine run_call 19 [iS i65, iS (ix d.Buckets n7).Depth] (some 131) (by kernel_rfl) ?_
                        refine callE_0 (taskmillref_Bits_spec i65 (ix d.Buckets n7).Depth r4880 hr4880) (by simp only [push_cast, leL_flD, renL_flD, seval]) (by simp only [push_cast, leL_flD, renL_flD, seval]) ?_
                        refine back_t ?_
                        refine rs 3 [] [] (by kernel_rfl) allP_nil ?_
                        refine rt [(1, .ptr 0 0), (2, .ptr 1 0), (6, bS (xsome7 || ((ix d.Buckets n7).Depth == d.Depth))), (7, iS n7), (8, .ptr 2 0), (10, iS same47), (11, iS i65), (134, bS (((ix d.Places i65) == n7) != (r4880 == same47)))] [(0, .row 26 (Enc.cells d)), (1, .row 29 [iS 0, iS 0]), (2, .row 43 (Enc.cells (ix d.Buckets n7)))] 17 follows (by kernel_rfl) ?_
                        refine wk_id ?_
                        refine cond_sx h (by kernel_rfl) (fun g4883 h => ?_) (fun g4883 h => ?_)
                        · refine seq_np ?_
                          refine reg_f ?_
                          refine rs 1 [] [] (by kernel_rfl) allP_nil ?_
                          obtain ⟨r4882, hr4882, h⟩ := bind_sx h
                          refine run_call 20 [iS 4, iS n7] (some 136) (by kernel_rfl) ?_
                          refine call_0 (taskmillref_F_spec 4 n7 r4882 hr4882) (by simp only [push_cast, leL_flD, renL_flD, seval]) (by simp only [push_cast, leL_flD, renL_flD, seval]) ?_
                          refine back_f ?_
                          refine rs 1 [] [] (by kernel_rfl) allP_nil ?_
                          refine rf [(2, .ptr 1 0)] [(0, .row 26 (Enc.cells d)), (1, .row 29 (Enc.cells r4882)), (2, .row 43 (Enc.cells (ix d.Buckets n7)))] 17 (by kernel_rfl) ?_
                          refine wk_id ?_
                          refine rt_cast ht9 ?_
                          obtain ⟨r0, h, e0⟩ := map_sx h
                          have e1 := hr9 r0 e0.symm
                          subst r0
                          refine rt_cast ht7 ?_
                          obtain ⟨r0, h, e0⟩ := map_sx h
                          have e1 := hr7 r0 e0.symm
                          subst r0
                          obtain rfl := Option.some.inj h
                          refine ret_at (.agg (Enc.cells r4882)) (by kernel_rfl) ?_
                          exact ret_e [] [] (by simp only [push_cast, leL_flD, renL_flD, seval]) (by simp only [push_cast, leL_flD, renL_flD, seval]) rfl rfl rfl
                        · refine wk_id ?_
                          refine wk_id ?_
                          refine reg_f ?_
                          refine rs 3 [] [] (by kernel_rfl) allP_nil ?_
                          refine rf [(1, .ptr 0 0), (2, .ptr 1 0), (6, bS (xsome7 || ((ix d.Buckets n7).Depth == d.Depth))), (7, iS n7), (8, .ptr 2 0), (10, iS same47), (11, iS (IntKind.i64.wrap (i65 + 1)))] [(0, .row 26 (Enc.cells d)), (1, .row 29 [iS 0, iS 0]), (2, .row 43 (Enc.cells (ix d.Buckets n7)))] 17 (by kernel_rfl) ?_
                          exact hn9 (same47, (IntKind.i64.wrap (i65 + 1))) _ _ _ (Option.some.inj h).symm (leSt_m [(0, 0), (1, 1), (2, 2)] [] (by simp only [push_cast, leL_flD, renL_flD, seval]) (by simp only [push_cast, leL_flD, renL_flD, seval]) rfl rfl rfl)
                      · change R9 (.exit 6) _ _ _
                        refine ex_cast hx9 (id := 6) ?_
                        obtain ⟨r0, h, e0⟩ := map_sx h
                        have e1 := hr9 r0 e0.symm
                        subst r0
                        refine wk_id ?_
                        refine wk_id ?_
                        refine seq_np ?_
                        refine seq_cut (A := Unit) (fun _ => ([(1, .ptr 0 0), (2, .ptr 1 0), (6, bS (xsome7 || ((ix d.Buckets n7).Depth == d.Depth))), (7, iS n7), (8, .ptr 2 0), (10, iS same47), (145, bS ((decide ((4 : Int) < (((ix d.Buckets n7).Items.length : Nat) : Int))) && (decide ((ix d.Buckets n7).Depth < 12))))], [(0, .row 26 (Enc.cells d)), (1, .row 29 [iS 0, iS 0]), (2, .row 43 (Enc.cells (ix d.Buckets n7)))], 3)) (fun _ => True) (fun K4888 hK4888 => ?_) (fun _ _ => ?_)
                        · refine reg_f ?_
                          refine rs 5 [] [] (by kernel_rfl) allP_nil ?_
                          refine run_split 141 (decide ((4 : Int) < (((ix d.Buckets n7).Items.length : Nat) : Int))) (.inl (by kernel_rfl)) (fun g4889 => ?_) (fun g4889 => ?_)
                          · refine rs 4 [] [] (by kernel_rfl) allP_nil ?_
                            refine rf [(1, .ptr 0 0), (2, .ptr 1 0), (6, bS (xsome7 || ((ix d.Buckets n7).Depth == d.Depth))), (7, iS n7), (8, .ptr 2 0), (10, iS same47), (145, bS (decide ((ix d.Buckets n7).Depth < 12)))] [(0, .row 26 (Enc.cells d)), (1, .row 29 [iS 0, iS 0]), (2, .row 43 (Enc.cells (ix d.Buckets n7)))] 3 (by kernel_rfl) ?_
                            exact hK4888 () _ _ _ trivial (leSt_m [(0, 0), (1, 1), (2, 2)] [] (by (try simp only [g4889]) <;> simp only [push_cast, leL_flD, renL_flD, seval]) (by (try simp only [g4889]) <;> simp only [push_cast, leL_flD, renL_flD, seval]) rfl rfl rfl)
                          · refine rs 4 [] [] (by kernel_rfl) allP_nil ?_
                            refine rf [(1, .ptr 0 0), (2, .ptr 1 0), (6, bS (xsome7 || ((ix d.Buckets n7).Depth == d.Depth))), (7, iS n7), (8, .ptr 2 0), (10, iS same47), (145, bS false)] [(0, .row 26 (Enc.cells d)), (1, .row 29 [iS 0, iS 0]), (2, .row 43 (Enc.cells (ix d.Buckets n7)))] 3 (by kernel_rfl) ?_
                            exact hK4888 () _ _ _ trivial (leSt_m [(0, 0), (1, 1), (2, 2)] [] (by (try simp only [g4889]) <;> simp only [push_cast, leL_flD, renL_flD, seval]) (by (try simp only [g4889]) <;> simp only [push_cast, leL_flD, renL_flD, seval]) rfl rfl rfl)
                        · dsimp only
                          refine cond_sx h (by kernel_rfl) (fun g5035 h => ?_) (fun g5035 h => ?_)
                          · refine seq_np ?_
                            refine reg_f ?_
                            refine rs 1 [] [] (by kernel_rfl) allP_nil ?_
                            obtain ⟨r4891, hr4891, h⟩ := bind_sx h
                            refine run_call 20 [iS 2, iS n7] (some 147) (by kernel_rfl) ?_
                            refine call_0 (taskmillref_F_spec 2 n7 r4891 hr4891) (by simp only [push_cast, leL_flD, renL_flD, seval]) (by simp only [push_cast, leL_flD, renL_flD, seval]) ?_
                            refine back_f ?_
                            refine rs 1 [] [] (by kernel_rfl) allP_nil ?_
                            refine rf [(2, .ptr 1 0)] [(0, .row 26 (Enc.cells d)), (1, .row 29 (Enc.cells r4891)), (2, .row 43 (Enc.cells (ix d.Buckets n7)))] 3 (by kernel_rfl) ?_
                            refine wk_id ?_
                            refine rt_cast ht7 ?_
                            obtain ⟨r0, h, e0⟩ := map_sx h
                            have e1 := hr7 r0 e0.symm
                            subst r0
                            obtain rfl := Option.some.inj h
                            refine ret_at (.agg (Enc.cells r4891)) (by kernel_rfl) ?_
                            exact ret_e [] [] (by simp only [push_cast, leL_flD, renL_flD, seval]) (by simp only [push_cast, leL_flD, renL_flD, seval]) rfl rfl rfl
                          · refine wk_id ?_
                            refine seq_np ?_
                            refine seq_np ?_
                            refine reg_f ?_
                            refine rs 1 [] [] (by kernel_rfl) allP_nil ?_
                            refine rf [(1, .ptr 0 0), (2, .ptr 1 0), (6, bS (xsome7 || ((ix d.Buckets n7).Depth == d.Depth))), (7, iS n7), (8, .ptr 2 0), (10, iS same47), (12, iS 0)] [(0, .row 26 (Enc.cells d)), (1, .row 29 [iS 0, iS 0]), (2, .row 43 (Enc.cells (ix d.Buckets n7)))] 3 (by kernel_rfl) ?_
                            refine wk_id ?_
                            refine block_np ?_
                            refine loop_sx (S := Int) (fun a => ([(1, .ptr 0 0), (2, .ptr 1 0), (6, bS (xsome7 || ((ix d.Buckets n7).Depth == d.Depth))), (7, iS n7), (8, .ptr 2 0), (10, iS same47), (12, iS a)], [(0, .row 26 (Enc.cells d)), (1, .row 29 [iS 0, iS 0]), (2, .row 43 (Enc.cells (ix d.Buckets n7)))], 3)) h (leSt_m [(0, 0), (1, 1), (2, 2)] [] (by simp only [push_cast, leL_flD, renL_flD, seval]) (by simp only [push_cast, leL_flD, renL_flD, seval]) rfl rfl rfl) ?_
                            rintro i71 o10 R10 h hr10 hn10 hx10 ht10
                            try dsimp only at h hn10 ⊢
                            unfold taskmillref_DictFault_l1 at h
                            try dsimp only at h
                            refine seq_np ?_
                            refine seq_np ?_
                            refine reg_f ?_
                            refine rs 5 [] [] (by kernel_rfl) allP_nil ?_
                            refine rf [(1, .ptr 0 0), (2, .ptr 1 0), (6, bS (xsome7 || ((ix d.Buckets n7).Depth == d.Depth))), (7, iS n7), (8, .ptr 2 0), (10, iS same47), (12, iS i71), (152, bS (decide (i71 < (((ix d.Buckets n7).Items.length : Nat) : Int))))] [(0, .row 26 (Enc.cells d)), (1, .row 29 [iS 0, iS 0]), (2, .row 43 (Enc.cells (ix d.Buckets n7)))] 3 (by kernel_rfl) ?_
                            refine wk_id ?_
                            refine cond_sx h (by kernel_rfl) (fun g5034 h => ?_) (fun g5034 h => ?_)
                            · refine wk_id ?_
                              refine seq_np ?_
                              refine block_np ?_
                              refine seq_np ?_
                              refine chk_sx h (fun g5012 h => ?_)
                              refine seq_np ?_
                              refine reg_t ?_
                              have k5011 : 0 ≤ i71 ∧ i71 < (((ix d.Buckets n7).Items.length : Nat) : Int) := by first | simpa only [Bool.and_eq_true, decide_eq_true_eq, bne_iff_ne, ne_eq] using g5012 | (simp at g5012 ⊢; omega)
                              refine rs 8 [none, none, none, some ⟨.iptr (fl (ix d.Buckets n7).Items) ((i71).toNat * 2), [], 6, []⟩, none, some ⟨iS (ix (ix d.Buckets n7).Items i71).Key, [], 8, []⟩] _ (by kernel_rfl) (allP_cons (ob_ld (ix d.Buckets n7).Items i71 2 0 (((i71).toNat * 2) + 0) k5011 rfl (by decide) (by first | rfl | omega) (dflS Try.prog 3) (iS (ix (ix d.Buckets n7).Items i71).Key) rfl 8 []) (allP_cons (ob_ix_l (ix d.Buckets n7).Items 2 6 i71 k5011) allP_nil)) ?_
                              obtain ⟨r5013, hr5013, h⟩ := bind_sx h
                              refine run_call 19 [iS (ix (ix d.Buckets n7).Items i71).Key, iS (ix d.Buckets n7).Depth] (some 163) (by kernel_rfl) ?_
                              refine callE_0 (taskmillref_Bits_spec (ix (ix d.Buckets n7).Items i71).Key (ix d.Buckets n7).Depth r5013 hr5013) (by simp only [push_cast, leL_flD, renL_flD, seval]) (by simp only [push_cast, leL_flD, renL_flD, seval]) ?_
                              refine back_t ?_
                              refine rs 2 [] [] (by kernel_rfl) allP_nil ?_
                              refine rt [(1, .ptr 0 0), (2, .ptr 1 0), (6, bS (xsome7 || ((ix d.Buckets n7).Depth == d.Depth))), (7, iS n7), (8, .ptr 2 0), (10, iS same47), (12, iS i71), (165, bS (r5013 != same47))] [(0, .row 26 (Enc.cells d)), (1, .row 29 [iS 0, iS 0]), (2, .row 43 (Enc.cells (ix d.Buckets n7)))] 14 follows (by kernel_rfl) ?_
                              refine wk_id ?_
                              refine cond_sx h (by kernel_rfl) (fun g5030 h => ?_) (fun g5030 h => ?_)
                              · refine seq_np ?_
                                refine reg_f ?_
                                refine rs 1 [] [] (by kernel_rfl) allP_nil ?_
                                obtain ⟨r5015, hr5015, h⟩ := bind_sx h
                                refine run_call 20 [iS 11, iS n7] (some 167) (by kernel_rfl) ?_
                                refine call_0 (taskmillref_F_spec 11 n7 r5015 hr5015) (by simp only [push_cast, leL_flD, renL_flD, seval]) (by simp only [push_cast, leL_flD, renL_flD, seval]) ?_
                                refine back_f ?_
                                refine rs 1 [] [] (by kernel_rfl) allP_nil ?_
                                refine rf [(2, .ptr 1 0)] [(0, .row 26 (Enc.cells d)), (1, .row 29 (Enc.cells r5015)), (2, .row 43 (Enc.cells (ix d.Buckets n7)))] 14 (by kernel_rfl) ?_
                                refine wk_id ?_
                                refine rt_cast ht10 ?_
                                obtain ⟨r0, h, e0⟩ := map_sx h
                                have e1 := hr10 r0 e0.symm
                                subst r0
                                refine rt_cast ht7 ?_
                                obtain ⟨r0, h, e0⟩ := map_sx h
                                have e1 := hr7 r0 e0.symm
                                subst r0
                                obtain rfl := Option.some.inj h
                                refine ret_at (.agg (Enc.cells r5015)) (by kernel_rfl) ?_
                                exact ret_e [] [] (by simp only [push_cast, leL_flD, renL_flD, seval]) (by simp only [push_cast, leL_flD, renL_flD, seval]) rfl rfl rfl
                              · refine wk_id ?_
                                refine chk_sx h (fun g5024 h => ?_)
                                refine chk_sx h (fun g5026 h => ?_)
                                refine seq_cut (A := Unit) (fun _ => ([(1, .ptr 0 0), (2, .ptr 1 0), (6, bS (xsome7 || ((ix d.Buckets n7).Depth == d.Depth))), (7, iS n7), (8, .ptr 2 0), (10, iS same47), (12, iS i71), (185, bS ((decide ((0 : Int) < i71)) && (decide ((ix (ix d.Buckets n7).Items i71).Key ≤ (ix (ix d.Buckets n7).Items (IntKind.i64.wrap (i71 - 1))).Key))))], [(0, .row 26 (Enc.cells d)), (1, .row 29 [iS 0, iS 0]), (2, .row 43 (Enc.cells (ix d.Buckets n7)))], 32)) (fun _ => True) (fun K5021 hK5021 => ?_) (fun _ _ => ?_)
                                · refine reg_t ?_
                                  refine rs 3 [] [] (by kernel_rfl) allP_nil ?_
                                  refine run_split 170 (decide ((0 : Int) < i71)) (.inl (by kernel_rfl)) (fun g5022 => ?_) (fun g5022 => ?_)
                                  · have k5023 : 0 ≤ i71 ∧ i71 < (((ix d.Buckets n7).Items.length : Nat) : Int) := by have e := or_use g5024 (by first | ((try simp only [g5022]) <;> rfl) | ((try simp only [g5022]); rfl) | (exfalso; clear h; simp_all; done)); first | simpa only [Bool.and_eq_true, decide_eq_true_eq, bne_iff_ne, ne_eq] using e | (simp at e ⊢; omega)
                                    have k5025 : 0 ≤ (IntKind.i64.wrap (i71 - 1)) ∧ (IntKind.i64.wrap (i71 - 1)) < (((ix d.Buckets n7).Items.length : Nat) : Int) := by have e := or_use g5026 (by first | ((try simp only [g5022]) <;> rfl) | ((try simp only [g5022]); rfl) | (exfalso; clear h; simp_all; done)); first | simpa only [Bool.and_eq_true, decide_eq_true_eq, bne_iff_ne, ne_eq] using e | (simp at e ⊢; omega)
                                    refine rs 15 [none, none, none, some ⟨.iptr (fl (ix d.Buckets n7).Items) ((i71).toNat * 2), [], 20, []⟩, none, some ⟨iS (ix (ix d.Buckets n7).Items i71).Key, [], 22, []⟩, none, none, none, none, some ⟨.iptr (fl (ix d.Buckets n7).Items) (((IntKind.i64.wrap (i71 - 1))).toNat * 2), [], 27, []⟩, none, some ⟨iS (ix (ix d.Buckets n7).Items (IntKind.i64.wrap (i71 - 1))).Key, [], 29, []⟩] _ (by kernel_rfl) (allP_cons (ob_ld (ix d.Buckets n7).Items (IntKind.i64.wrap (i71 - 1)) 2 0 ((((IntKind.i64.wrap (i71 - 1))).toNat * 2) + 0) k5025 rfl (by decide) (by first | rfl | omega) (dflS Try.prog 3) (iS (ix (ix d.Buckets n7).Items (IntKind.i64.wrap (i71 - 1))).Key) rfl 29 []) (allP_cons (ob_ix_l (ix d.Buckets n7).Items 2 27 (IntKind.i64.wrap (i71 - 1)) k5025) (allP_cons (ob_ld (ix d.Buckets n7).Items i71 2 0 (((i71).toNat * 2) + 0) k5023 rfl (by decide) (by first | rfl | omega) (dflS Try.prog 3) (iS (ix (ix d.Buckets n7).Items i71).Key) rfl 22 []) (allP_cons (ob_ix_l (ix d.Buckets n7).Items 2 20 i71 k5023) allP_nil)))) ?_
                                    refine rt [(1, .ptr 0 0), (2, .ptr 1 0), (6, bS (xsome7 || ((ix d.Buckets n7).Depth == d.Depth))), (7, iS n7), (8, .ptr 2 0), (10, iS same47), (12, iS i71), (185, bS (decide ((ix (ix d.Buckets n7).Items i71).Key ≤ (ix (ix d.Buckets n7).Items (IntKind.i64.wrap (i71 - 1))).Key)))] [(0, .row 26 (Enc.cells d)), (1, .row 29 [iS 0, iS 0]), (2, .row 43 (Enc.cells (ix d.Buckets n7)))] 32 follows (by kernel_rfl) ?_
                                    exact hK5021 () _ _ _ trivial (leSt_m [(0, 0), (1, 1), (2, 2)] [] (by (try simp only [g5022]) <;> simp only [push_cast, leL_flD, renL_flD, seval]) (by (try simp only [g5022]) <;> simp only [push_cast, leL_flD, renL_flD, seval]) rfl rfl rfl)
                                  · refine rs 15 [] [] (by kernel_rfl) allP_nil ?_
                                    refine rt [(1, .ptr 0 0), (2, .ptr 1 0), (6, bS (xsome7 || ((ix d.Buckets n7).Depth == d.Depth))), (7, iS n7), (8, .ptr 2 0), (10, iS same47), (12, iS i71), (185, bS false)] [(0, .row 26 (Enc.cells d)), (1, .row 29 [iS 0, iS 0]), (2, .row 43 (Enc.cells (ix d.Buckets n7)))] 32 follows (by kernel_rfl) ?_
                                    exact hK5021 () _ _ _ trivial (leSt_m [(0, 0), (1, 1), (2, 2)] [] (by (try simp only [g5022]) <;> simp only [push_cast, leL_flD, renL_flD, seval]) (by (try simp only [g5022]) <;> simp only [push_cast, leL_flD, renL_flD, seval]) rfl rfl rfl)
                                · dsimp only
                                  refine cond_sx h (by kernel_rfl) (fun g5029 h => ?_) (fun g5029 h => ?_)
                                  · refine seq_np ?_
                                    refine reg_f ?_
                                    refine rs 1 [] [] (by kernel_rfl) allP_nil ?_
                                    obtain ⟨r5028, hr5028, h⟩ := bind_sx h
                                    refine run_call 20 [iS 10, iS n7] (some 187) (by kernel_rfl) ?_
                                    refine call_0 (taskmillref_F_spec 10 n7 r5028 hr5028) (by simp only [push_cast, leL_flD, renL_flD, seval]) (by simp only [push_cast, leL_flD, renL_flD, seval]) ?_
                                    refine back_f ?_
                                    refine rs 1 [] [] (by kernel_rfl) allP_nil ?_
                                    refine rf [(2, .ptr 1 0)] [(0, .row 26 (Enc.cells d)), (1, .row 29 (Enc.cells r5028)), (2, .row 43 (Enc.cells (ix d.Buckets n7)))] 32 (by kernel_rfl) ?_
                                    refine wk_id ?_
                                    refine rt_cast ht10 ?_
                                    obtain ⟨r0, h, e0⟩ := map_sx h
                                    have e1 := hr10 r0 e0.symm
                                    subst r0
                                    refine rt_cast ht7 ?_
                                    obtain ⟨r0, h, e0⟩ := map_sx h
                                    have e1 := hr7 r0 e0.symm
                                    subst r0
                                    obtain rfl := Option.some.inj h
                                    refine ret_at (.agg (Enc.cells r5028)) (by kernel_rfl) ?_
                                    exact ret_e [] [] (by simp only [push_cast, leL_flD, renL_flD, seval]) (by simp only [push_cast, leL_flD, renL_flD, seval]) rfl rfl rfl
                                  · refine wk_id ?_
                                    refine wk_id ?_
                                    refine reg_f ?_
                                    refine rs 3 [] [] (by kernel_rfl) allP_nil ?_
                                    refine rf [(1, .ptr 0 0), (2, .ptr 1 0), (6, bS (xsome7 || ((ix d.Buckets n7).Depth == d.Depth))), (7, iS n7), (8, .ptr 2 0), (10, iS same47), (12, iS (IntKind.i64.wrap (i71 + 1)))] [(0, .row 26 (Enc.cells d)), (1, .row 29 [iS 0, iS 0]), (2, .row 43 (Enc.cells (ix d.Buckets n7)))] 32 (by kernel_rfl) ?_
                                    exact hn10 ((IntKind.i64.wrap (i71 + 1))) _ _ _ (Option.some.inj h).symm (leSt_m [(0, 0), (1, 1), (2, 2)] [] (by simp only [push_cast, leL_flD, renL_flD, seval]) (by simp only [push_cast, leL_flD, renL_flD, seval]) rfl rfl rfl)
                            · change R10 (.exit 8) _ _ _
                              refine ex_cast hx10 (id := 8) ?_
                              obtain ⟨r0, h, e0⟩ := map_sx h
                              have e1 := hr10 r0 e0.symm
                              subst r0
                              refine wk_id ?_
                              refine wk_id ?_
                              refine seq_np ?_
                              refine reg_f ?_
                              refine rs 4 [] [] (by kernel_rfl) allP_nil ?_
                              refine rf [(1, .ptr 0 0), (2, .ptr 1 0), (6, bS (xsome7 || ((ix d.Buckets n7).Depth == d.Depth))), (7, iS n7), (191, bS (decide ((5000 : Int) < (((ix d.Buckets n7).Items.length : Nat) : Int))))] [(0, .row 26 (Enc.cells d)), (1, .row 29 [iS 0, iS 0]), (2, .row 43 (Enc.cells (ix d.Buckets n7)))] 3 (by kernel_rfl) ?_
                              refine wk_id ?_
                              refine cond_sx h (by kernel_rfl) (fun g5033 h => ?_) (fun g5033 h => ?_)
                              · refine seq_np ?_
                                refine reg_f ?_
                                refine rs 1 [] [] (by kernel_rfl) allP_nil ?_
                                obtain ⟨r5032, hr5032, h⟩ := bind_sx h
                                refine run_call 20 [iS 9, iS n7] (some 193) (by kernel_rfl) ?_
                                refine call_0 (taskmillref_F_spec 9 n7 r5032 hr5032) (by simp only [push_cast, leL_flD, renL_flD, seval]) (by simp only [push_cast, leL_flD, renL_flD, seval]) ?_
                                refine back_f ?_
                                refine rs 1 [] [] (by kernel_rfl) allP_nil ?_
                                refine rf [(2, .ptr 1 0)] [(0, .row 26 (Enc.cells d)), (1, .row 29 (Enc.cells r5032)), (2, .row 43 (Enc.cells (ix d.Buckets n7)))] 3 (by kernel_rfl) ?_
                                refine wk_id ?_
                                refine rt_cast ht7 ?_
                                obtain ⟨r0, h, e0⟩ := map_sx h
                                have e1 := hr7 r0 e0.symm
                                subst r0
                                obtain rfl := Option.some.inj h
                                refine ret_at (.agg (Enc.cells r5032)) (by kernel_rfl) ?_
                                exact ret_e [] [] (by simp only [push_cast, leL_flD, renL_flD, seval]) (by simp only [push_cast, leL_flD, renL_flD, seval]) rfl rfl rfl
                              · refine wk_id ?_
                                refine wk_id ?_
                                refine reg_f ?_
                                refine rs 3 [] [] (by kernel_rfl) allP_nil ?_
                                refine rf [(1, .ptr 0 0), (2, .ptr 1 0), (6, bS (xsome7 || ((ix d.Buckets n7).Depth == d.Depth))), (7, iS (IntKind.i64.wrap (n7 + 1)))] [(0, .row 26 (Enc.cells d)), (1, .row 29 [iS 0, iS 0]), (2, .row 43 (Enc.cells (ix d.Buckets n7)))] 3 (by kernel_rfl) ?_
                                exact hn7 ((xsome7 || ((ix d.Buckets n7).Depth == d.Depth)), (IntKind.i64.wrap (n7 + 1))) _ _ _ (Option.some.inj h).symm (leSt_m [(0, 0), (1, 1)] [] (by simp only [push_cast, leL_flD, renL_flD, seval]) (by simp only [push_cast, leL_flD, renL_flD, seval]) rfl rfl rfl)
            · change R7 (.exit 2) _ _ _
              refine ex_cast hx7 (id := 2) ?_
              obtain ⟨r0, h, e0⟩ := map_sx h
              have e1 := hr7 r0 e0.symm
              subst r0
              refine wk_id ?_
              refine wk_id ?_
              refine seq_np ?_
              refine seq_cut (A := Unit) (fun _ => ([(2, .ptr 1 0), (200, bS ((decide ((0 : Int) < d.Depth)) && (!xsome7)))], [(0, .row 26 (Enc.cells d)), (1, .row 29 [iS 0, iS 0])], 2)) (fun _ => True) (fun K5043 hK5043 => ?_) (fun _ _ => ?_)
              · refine reg_f ?_
                refine rs 4 [] [] (by kernel_rfl) allP_nil ?_
                refine run_split 197 (decide ((0 : Int) < d.Depth)) (.inl (by kernel_rfl)) (fun g5044 => ?_) (fun g5044 => ?_)
                · refine rs 3 [] [] (by kernel_rfl) allP_nil ?_
                  refine rf [(2, .ptr 1 0), (200, bS (!xsome7))] [(0, .row 26 (Enc.cells d)), (1, .row 29 [iS 0, iS 0])] 2 (by kernel_rfl) ?_
                  exact hK5043 () _ _ _ trivial (leSt_m [(0, 0), (1, 1)] [] (by (try simp only [g5044]) <;> simp only [push_cast, leL_flD, renL_flD, seval]) (by (try simp only [g5044]) <;> simp only [push_cast, leL_flD, renL_flD, seval]) rfl rfl rfl)
                · refine rs 3 [] [] (by kernel_rfl) allP_nil ?_
                  refine rf [(2, .ptr 1 0), (200, bS false)] [(0, .row 26 (Enc.cells d)), (1, .row 29 [iS 0, iS 0])] 2 (by kernel_rfl) ?_
                  exact hK5043 () _ _ _ trivial (leSt_m [(0, 0), (1, 1)] [] (by (try simp only [g5044]) <;> simp only [push_cast, leL_flD, renL_flD, seval]) (by (try simp only [g5044]) <;> simp only [push_cast, leL_flD, renL_flD, seval]) rfl rfl rfl)
              · dsimp only
                refine cond_sx h (by kernel_rfl) (fun g5047 h => ?_) (fun g5047 h => ?_)
                · refine seq_np ?_
                  refine reg_f ?_
                  obtain ⟨r5046, hr5046, h⟩ := bind_sx h
                  refine run_call 20 [iS 7, iS (-1)] (some 201) (by kernel_rfl) ?_
                  refine call_0 (taskmillref_F_spec 7 (-1) r5046 hr5046) (by simp only [push_cast, leL_flD, renL_flD, seval]) (by simp only [push_cast, leL_flD, renL_flD, seval]) ?_
                  refine back_f ?_
                  refine rs 1 [] [] (by kernel_rfl) allP_nil ?_
                  refine rf [(2, .ptr 1 0)] [(0, .row 26 (Enc.cells d)), (1, .row 29 (Enc.cells r5046))] 2 (by kernel_rfl) ?_
                  refine wk_id ?_
                  obtain rfl := Option.some.inj h
                  refine ret_at (.agg (Enc.cells r5046)) (by kernel_rfl) ?_
                  exact ret_e [] [] (by simp only [push_cast, leL_flD, renL_flD, seval]) (by simp only [push_cast, leL_flD, renL_flD, seval]) rfl rfl rfl
                · refine wk_id ?_
                  refine seq_np ?_
                  refine reg_f ?_
                  refine rs 2 [] [] (by kernel_rfl) allP_nil ?_
                  refine rf [(2, .ptr 1 0)] [(0, .row 26 (Enc.cells d)), (1, .row 29 [iS 0, iS 0])] 2 (by kernel_rfl) ?_
                  refine wk_id ?_
                  obtain rfl := Option.some.inj h
                  refine ret_at (.agg [iS 0, iS 0]) (by kernel_rfl) ?_
                  exact ret_e [] [] (by simp only [push_cast, leL_flD, renL_flD, seval]) (by simp only [push_cast, leL_flD, renL_flD, seval]) rfl rfl rfl

set_option maxRecDepth 100000 in
set_option maxHeartbeats 200000000 in
theorem taskmillref_PutItem_spec (l : (List GItem)) (x : GItem) (r : (List GItem)) (h : taskmillref_PutItem l x = some r) : SpecW Try.prog 26 [.sl l.length (fl l), .agg (Enc.cells x)] [] 0 (fun x h n => x = .own 0 0 r.length ∧ h = [(0, .row 45 (fl r))] ∧ n = 1) := by
  unfold taskmillref_PutItem at h
  refine spec_of (draw_ok _) Try.func26 rfl (by decide) rfl (by kernel_rfl) ?_
  refine seq_np ?_
  refine reg_f ?_
  refine rs 2 [] [] (by kernel_rfl) allP_nil ?_
  refine rf [(0, .sl l.length (fl l)), (3, .ptr 0 0)] [(0, .row 45 (Enc.cells x))] 1 (by kernel_rfl) ?_
  refine wk_id ?_
  refine seq_np ?_
  refine reg_f ?_
  refine rs 1 [] [] (by kernel_rfl) allP_nil ?_
  refine rf [(0, .sl l.length (fl l)), (3, .ptr 0 0), (5, iS 0)] [(0, .row 45 (Enc.cells x))] 1 (by kernel_rfl) ?_
  refine wk_id ?_
  refine seq_np ?_
  refine block_np ?_
  refine loop_sx (S := Int) (fun a => ([(0, .sl l.length (fl l)), (3, .ptr 0 0), (5, iS a)], [(0, .row 45 (Enc.cells x))], 1)) h (leSt_m [(0, 0)] [] (by simp only [push_cast, leL_flD, renL_flD, seval]) (by simp only [push_cast, leL_flD, renL_flD, seval]) rfl rfl rfl) ?_
  rintro k7 o2 R2 h hr2 hn2 hx2 ht2
  try dsimp only at h hn2 ⊢
  unfold taskmillref_PutItem_l1 at h
  try dsimp only at h
  refine seq_np ?_
  refine chk_sx h (fun g5148 h => ?_)
  refine seq_cut (A := Unit) (fun _ => ([(0, .sl l.length (fl l)), (3, .ptr 0 0), (5, iS k7), (20, bS ((decide (k7 < ((l.length : Nat) : Int))) && (decide ((ix l k7).Key < x.Key))))], [(0, .row 45 (Enc.cells x))], 15)) (fun _ => True) (fun K5145 hK5145 => ?_) (fun _ _ => ?_)
  · refine reg_t ?_
    refine rs 5 [] [] (by kernel_rfl) allP_nil ?_
    refine run_split 11 (decide (k7 < ((l.length : Nat) : Int))) (.inl (by kernel_rfl)) (fun g5146 => ?_) (fun g5146 => ?_)
    · have k5147 : 0 ≤ k7 ∧ k7 < ((l.length : Nat) : Int) := by have e := or_use g5148 (by first | ((try simp only [g5146]) <;> rfl) | ((try simp only [g5146]); rfl) | (exfalso; clear h; simp_all; done)); first | simpa only [Bool.and_eq_true, decide_eq_true_eq, bne_iff_ne, ne_eq] using e | (simp at e ⊢; omega)
      refine rs 9 [none, none, some ⟨.iptr (fl l) ((k7).toNat * 2), [], 8, []⟩, none, some ⟨iS (ix l k7).Key, [], 10, []⟩] _ (by kernel_rfl) (allP_cons (ob_ld l k7 2 0 (((k7).toNat * 2) + 0) k5147 rfl (by decide) (by first | rfl | omega) (dflS Try.prog 3) (iS (ix l k7).Key) rfl 10 []) (allP_cons (ob_ix_l l 2 8 k7 k5147) allP_nil)) ?_
      refine rt [(0, .sl l.length (fl l)), (3, .ptr 0 0), (5, iS k7), (20, bS (decide ((ix l k7).Key < x.Key)))] [(0, .row 45 (Enc.cells x))] 15 follows (by kernel_rfl) ?_
      exact hK5145 () _ _ _ trivial (leSt_m [(0, 0)] [] (by (try simp only [g5146]) <;> simp only [push_cast, leL_flD, renL_flD, seval]) (by (try simp only [g5146]) <;> simp only [push_cast, leL_flD, renL_flD, seval]) rfl rfl rfl)
    · refine rs 9 [] [] (by kernel_rfl) allP_nil ?_
      refine rt [(0, .sl l.length (fl l)), (3, .ptr 0 0), (5, iS k7), (20, bS false)] [(0, .row 45 (Enc.cells x))] 15 follows (by kernel_rfl) ?_
      exact hK5145 () _ _ _ trivial (leSt_m [(0, 0)] [] (by (try simp only [g5146]) <;> simp only [push_cast, leL_flD, renL_flD, seval]) (by (try simp only [g5146]) <;> simp only [push_cast, leL_flD, renL_flD, seval]) rfl rfl rfl)
  · dsimp only
    refine cond_sx h (by kernel_rfl) (fun g5193 h => ?_) (fun g5193 h => ?_)
    · refine wk_id ?_
      refine block_np ?_
      refine reg_f ?_
      refine rs 3 [] [] (by kernel_rfl) allP_nil ?_
      refine rf [(0, .sl l.length (fl l)), (3, .ptr 0 0), (5, iS (IntKind.i64.wrap (k7 + 1)))] [(0, .row 45 (Enc.cells x))] 15 (by kernel_rfl) ?_
      refine wk_id ?_
      exact hn2 ((IntKind.i64.wrap (k7 + 1))) _ _ _ (Option.some.inj h).symm (leSt_m [(0, 0)] [] (by simp only [push_cast, leL_flD, renL_flD, seval]) (by simp only [push_cast, leL_flD, renL_flD, seval]) rfl rfl rfl)
    · change R2 (.exit 0) _ _ _
      refine ex_cast hx2 (id := 0) ?_
      obtain ⟨r0, h, e0⟩ := map_sx h
      have e1 := hr2 r0 e0.symm
      subst r0
      refine wk_id ?_
      refine wk_id ?_
      refine seq_np ?_
      refine chk_sx h (fun g5163 h => ?_)
      refine seq_cut (A := Unit) (fun _ => ([(0, .sl l.length (fl l)), (3, .ptr 0 0), (5, iS k7), (36, bS ((decide (k7 < ((l.length : Nat) : Int))) && ((ix l k7).Key == x.Key)))], [(0, .row 45 (Enc.cells x))], 29)) (fun _ => True) (fun K5160 hK5160 => ?_) (fun _ _ => ?_)
      · refine reg_t ?_
        refine rs 5 [] [] (by kernel_rfl) allP_nil ?_
        refine run_split 27 (decide (k7 < ((l.length : Nat) : Int))) (.inl (by kernel_rfl)) (fun g5161 => ?_) (fun g5161 => ?_)
        · have k5162 : 0 ≤ k7 ∧ k7 < ((l.length : Nat) : Int) := by have e := or_use g5163 (by first | ((try simp only [g5161]) <;> rfl) | ((try simp only [g5161]); rfl) | (exfalso; clear h; simp_all; done)); first | simpa only [Bool.and_eq_true, decide_eq_true_eq, bne_iff_ne, ne_eq] using e | (simp at e ⊢; omega)
          refine rs 9 [none, none, some ⟨.iptr (fl l) ((k7).toNat * 2), [], 22, []⟩, none, some ⟨iS (ix l k7).Key, [], 24, []⟩] _ (by kernel_rfl) (allP_cons (ob_ld l k7 2 0 (((k7).toNat * 2) + 0) k5162 rfl (by decide) (by first | rfl | omega) (dflS Try.prog 3) (iS (ix l k7).Key) rfl 24 []) (allP_cons (ob_ix_l l 2 22 k7 k5162) allP_nil)) ?_
          refine rt [(0, .sl l.length (fl l)), (3, .ptr 0 0), (5, iS k7), (36, bS ((ix l k7).Key == x.Key))] [(0, .row 45 (Enc.cells x))] 29 follows (by kernel_rfl) ?_
          exact hK5160 () _ _ _ trivial (leSt_m [(0, 0)] [] (by (try simp only [g5161]) <;> simp only [push_cast, leL_flD, renL_flD, seval]) (by (try simp only [g5161]) <;> simp only [push_cast, leL_flD, renL_flD, seval]) rfl rfl rfl)
        · refine rs 9 [] [] (by kernel_rfl) allP_nil ?_
          refine rt [(0, .sl l.length (fl l)), (3, .ptr 0 0), (5, iS k7), (36, bS false)] [(0, .row 45 (Enc.cells x))] 29 follows (by kernel_rfl) ?_
          exact hK5160 () _ _ _ trivial (leSt_m [(0, 0)] [] (by (try simp only [g5161]) <;> simp only [push_cast, leL_flD, renL_flD, seval]) (by (try simp only [g5161]) <;> simp only [push_cast, leL_flD, renL_flD, seval]) rfl rfl rfl)
      · dsimp only
        refine cond_sx h (by kernel_rfl) (fun g5192 h => ?_) (fun g5192 h => ?_)
        · refine chk_sx h (fun g5167 h => ?_)
          refine seq_np ?_
          refine reg_f ?_
          have k5166 : l.length * 16 ≤ 140737488355328 := by first | simpa only [Bool.and_eq_true, decide_eq_true_eq, bne_iff_ne, ne_eq] using g5167 | (simp at g5167 ⊢; omega)
          refine rs 3 [none, some ⟨.own 29 0 l.length, [(29, .row 45 (fl l))], 30, []⟩] _ (by kernel_rfl) (allP_cons (ob_app0 (P := Try.prog) l 2 16 rfl (fl l) l.length rfl rfl ((fl l).length = l.length * 2) (app_sl l 2 rfl) 45 (by kernel_rfl) (by decide) k5166 29 []) allP_nil) ?_
          refine rf [(3, .ptr 0 0), (5, iS k7), (6, .own 29 0 l.length)] [(0, .row 45 (Enc.cells x)), (29, .row 45 (fl l))] 30 (by kernel_rfl) ?_
          refine wk_id ?_
          refine chk_sx h (fun g5171 h => ?_)
          refine seq_np ?_
          refine reg_f ?_
          have k5170 : 0 ≤ k7 ∧ k7 < ((l.length : Nat) : Int) := by first | simpa only [Bool.and_eq_true, decide_eq_true_eq, bne_iff_ne, ne_eq] using g5171 | (simp at g5171 ⊢; omega)
          refine rs 5 [none, none, none, some ⟨.ptr 29 (0 + (k7).toNat * 2), [], 30, [29]⟩, some ⟨.any, [(29, .row 45 (fl (l.set k7.toNat (x : GItem))))], 30, [29]⟩] _ (by kernel_rfl) (allP_cons (ob_st (P := Try.prog) l k7 2 0 (0 + (k7).toNat * 2) k5170 rfl [iS x.Key, iS x.Value] (x : GItem) (Nat.le_of_ble_eq_true rfl) (by first | rfl | omega) rfl 29 30 45 45 (by kernel_rfl) rfl) (allP_cons (ob_ix_o 29 l.length 0 2 30 k7 k5170) allP_nil)) ?_
          refine run_eqF 6 (.own 29 0 l.length) (.own 29 0 (l.set k7.toNat (x : GItem)).length) (congrArg (fun nq => (.own 29 0 nq : SV)) (show l.length = (l.set k7.toNat (x : GItem)).length from (List.length_set ..).symm)) (by kernel_rfl) ?_
          refine rf [(6, .own 29 0 (l.set k7.toNat (x : GItem)).length)] [(0, .row 45 (Enc.cells x)), (29, .row 45 (fl (l.set k7.toNat (x : GItem))))] 30 (by kernel_rfl) ?_
          refine wk_id ?_
          refine seq_np ?_
          refine reg_f ?_
          refine rs 2 [] [] (by kernel_rfl) allP_nil ?_
          refine rf [(4, .own 29 0 (l.set k7.toNat (x : GItem)).length)] [(0, .row 45 (Enc.cells x)), (29, .row 45 (fl (l.set k7.toNat (x : GItem))))] 30 (by kernel_rfl) ?_
          refine wk_id ?_
          obtain rfl := Option.some.inj h
          refine ret_at (.own 29 0 (l.set k7.toNat (x : GItem)).length) (by kernel_rfl) ?_
          exact ret_e [(0, 29)] [] (by simp only [push_cast, leL_flD, renL_flD, seval]) (by simp only [push_cast, leL_flD, renL_flD, seval]) rfl rfl rfl
        · refine wk_id ?_
          refine chk_sx h (fun g5183 h => ?_)
          refine chk_sx h (fun g5185 h => ?_)
          refine chk_sx h (fun g5187 h => ?_)
          refine chk_sx h (fun g5189 h => ?_)
          refine chk_sx h (fun g5191 h => ?_)
          refine seq_np ?_
          refine reg_t ?_
          have k5182 : 0 ≤ (0 : Int) ∧ (0 : Int) ≤ k7 ∧ k7 ≤ ((l.length : Nat) : Int) := by first | simpa only [Bool.and_eq_true, decide_eq_true_eq, bne_iff_ne, ne_eq] using g5183 | (simp at g5183 ⊢; omega)
          have k5184 : (cut l (0 : Int) k7).length * 16 ≤ 140737488355328 := by first | simpa only [Bool.and_eq_true, decide_eq_true_eq, bne_iff_ne, ne_eq] using g5185 | (simp at g5185 ⊢; omega)
          have k5186 : ((cut l (0 : Int) k7) ++ ([x] : List GItem)).length * 16 ≤ 140737488355328 := by first | simpa only [Bool.and_eq_true, decide_eq_true_eq, bne_iff_ne, ne_eq] using g5187 | (simp at g5187 ⊢; omega)
          have k5188 : 0 ≤ k7 ∧ k7 ≤ ((l.length : Nat) : Int) ∧ ((l.length : Nat) : Int) ≤ ((l.length : Nat) : Int) := by first | simpa only [Bool.and_eq_true, decide_eq_true_eq, bne_iff_ne, ne_eq] using g5189 | (simp at g5189 ⊢; omega)
          have k5190 : (((cut l (0 : Int) k7) ++ ([x] : List GItem)) ++ (cut l k7 ((l.length : Nat) : Int))).length * 16 ≤ 140737488355328 := by first | simpa only [Bool.and_eq_true, decide_eq_true_eq, bne_iff_ne, ne_eq] using g5191 | (simp at g5191 ⊢; omega)
          refine rs 12 [none, none, some ⟨.sl (cut l (0 : Int) k7).length (fl (cut l (0 : Int) k7)), [], 31, []⟩, some ⟨.own 32 0 (cut l (0 : Int) k7).length, [(32, .row 45 (fl (cut l (0 : Int) k7)))], 33, []⟩, none, none, some ⟨.own 37 0 ((cut l (0 : Int) k7) ++ ([x] : List GItem)).length, [(37, .row 45 (fl ((cut l (0 : Int) k7) ++ ([x] : List GItem)))), (32, .dead)], 38, [32, 35]⟩, none, none, some ⟨.sl (cut l k7 ((l.length : Nat) : Int)).length (fl (cut l k7 ((l.length : Nat) : Int))), [], 41, []⟩, some ⟨.own 42 0 (((cut l (0 : Int) k7) ++ ([x] : List GItem)) ++ (cut l k7 ((l.length : Nat) : Int))).length, [(42, .row 45 (fl (((cut l (0 : Int) k7) ++ ([x] : List GItem)) ++ (cut l k7 ((l.length : Nat) : Int))))), (37, .dead)], 43, [37]⟩] _ (by kernel_rfl) (allP_cons (ob_app (P := Try.prog) ((cut l (0 : Int) k7) ++ ([x] : List GItem)) (cut l k7 ((l.length : Nat) : Int)) 2 16 rfl (fl (cut l k7 ((l.length : Nat) : Int))) (cut l k7 ((l.length : Nat) : Int)).length rfl rfl ((fl (cut l k7 ((l.length : Nat) : Int))).length = (cut l k7 ((l.length : Nat) : Int)).length * 2) (app_sl (cut l k7 ((l.length : Nat) : Int)) 2 rfl) 45 (by kernel_rfl) (by decide) k5190 37 42 []) (allP_cons (ob_cut l k7 ((l.length : Nat) : Int) 2 41 rfl k5188) (allP_cons (ob_app (P := Try.prog) (cut l (0 : Int) k7) ([x] : List GItem) 2 16 rfl (appCells (fl ([x] : List GItem)) 0 (([x] : List GItem).length * 2)) ([x] : List GItem).length (app_own ([x] : List GItem) 2 rfl) rfl (0 + ([x] : List GItem).length * 2 ≤ (fl ([x] : List GItem)).length) (app_own_le ([x] : List GItem) 2 rfl) 45 (by kernel_rfl) (by decide) k5186 32 37 [35]) (allP_cons (ob_app0 (P := Try.prog) (cut l (0 : Int) k7) 2 16 rfl (fl (cut l (0 : Int) k7)) (cut l (0 : Int) k7).length rfl rfl ((fl (cut l (0 : Int) k7)).length = (cut l (0 : Int) k7).length * 2) (app_sl (cut l (0 : Int) k7) 2 rfl) 45 (by kernel_rfl) (by decide) k5184 32 []) (allP_cons (ob_cut l (0 : Int) k7 2 31 rfl k5182) allP_nil))))) ?_
          refine rt [(4, .own 42 0 (((cut l (0 : Int) k7) ++ ([x] : List GItem)) ++ (cut l k7 ((l.length : Nat) : Int))).length)] [(0, .row 45 (Enc.cells x)), (32, .dead), (35, .row 45 (fl ([x] : List GItem))), (37, .dead), (42, .row 45 (fl (((cut l (0 : Int) k7) ++ ([x] : List GItem)) ++ (cut l k7 ((l.length : Nat) : Int)))))] 45 follows (by kernel_rfl) ?_
          refine wk_id ?_
          obtain rfl := Option.some.inj h
          refine ret_at (.own 42 0 (((cut l (0 : Int) k7) ++ ([x] : List GItem)) ++ (cut l k7 ((l.length : Nat) : Int))).length) (by kernel_rfl) ?_
          exact ret_e [(0, 42)] [] (by simp only [push_cast, leL_flD, renL_flD, seval]) (by simp only [push_cast, leL_flD, renL_flD, seval]) rfl rfl rfl

set_option maxRecDepth 100000 in
set_option maxHeartbeats 200000000 in
theorem taskmillref_ItemsOf_spec (d : Dict) (r : (List GItem)) (h : taskmillref_ItemsOf d = some r) : SpecW Try.prog 17 [.agg (Enc.cells d)] [] 0 (fun x h n => x = .own 0 0 r.length ∧ h = [(0, .row 45 (fl r))] ∧ n = 1) := by
  unfold taskmillref_ItemsOf at h
  refine spec_of (draw_ok _) Try.func17 rfl (by decide) rfl (by kernel_rfl) ?_
  refine seq_np ?_
  refine reg_f ?_
  refine rs 2 [] [] (by kernel_rfl) allP_nil ?_
  refine rf [(1, .ptr 0 0)] [(0, .row 26 (Enc.cells d))] 1 (by kernel_rfl) ?_
  refine wk_id ?_
  refine seq_np ?_
  refine reg_f ?_
  refine rs 1 [] [] (by kernel_rfl) allP_nil ?_
  refine rf [(1, .ptr 0 0), (3, .v (.slice none 0 0))] [(0, .row 26 (Enc.cells d))] 1 (by kernel_rfl) ?_
  refine wk_id ?_
  refine seq_np ?_
  refine seq_np ?_
  refine reg_f ?_
  refine rs 1 [] [] (by kernel_rfl) allP_nil ?_
  refine rf [(1, .ptr 0 0), (3, .v (.slice none 0 0)), (4, iS 0)] [(0, .row 26 (Enc.cells d))] 1 (by kernel_rfl) ?_
  refine wk_id ?_
  refine block_np ?_
  refine loop_sx (S := Int × (List GItem)) (fun a => ([(1, .ptr 0 0), (3, .own 1 0 a.2.length), (4, iS a.1)], [(0, .row 26 (Enc.cells d)), (1, .row 45 (fl a.2))], 2)) h (leSt_m [(0, 0)] [] (by simp only [push_cast, leL_flD, renL_flD, seval]) (by simp only [push_cast, leL_flD, renL_flD, seval]) rfl rfl rfl) ?_
  rintro ⟨n7, c1q29⟩ o3 R3 h hr3 hn3 hx3 ht3
  try dsimp only at h hn3 ⊢
  unfold taskmillref_ItemsOf_l2 at h
  try dsimp only at h
  refine seq_np ?_
  refine seq_np ?_
  refine reg_f ?_
  refine rs 5 [] [] (by kernel_rfl) allP_nil ?_
  refine rf [(1, .ptr 0 0), (3, .own 1 0 c1q29.length), (4, iS n7), (10, bS (decide (n7 < ((d.Buckets.length : Nat) : Int))))] [(0, .row 26 (Enc.cells d)), (1, .row 45 (fl c1q29))] 2 (by kernel_rfl) ?_
  refine wk_id ?_
  refine cond_sx h (by kernel_rfl) (fun g5597 h => ?_) (fun g5597 h => ?_)
  · refine wk_id ?_
    refine seq_np ?_
    refine block_np ?_
    refine seq_np ?_
    refine reg_f ?_
    refine rs 1 [] [] (by kernel_rfl) allP_nil ?_
    refine rf [(1, .ptr 0 0), (3, .own 1 0 c1q29.length), (4, iS n7), (5, iS 0)] [(0, .row 26 (Enc.cells d)), (1, .row 45 (fl c1q29))] 2 (by kernel_rfl) ?_
    refine wk_id ?_
    refine block_np ?_
    refine loop_sx (S := Int × (List GItem)) (fun a => ([(1, .ptr 0 0), (3, .own 1 0 a.2.length), (4, iS n7), (5, iS a.1)], [(0, .row 26 (Enc.cells d)), (1, .row 45 (fl a.2))], 2)) h (leSt_m [(0, 0), (1, 1)] [] (by simp only [push_cast, leL_flD, renL_flD, seval]) (by simp only [push_cast, leL_flD, renL_flD, seval]) rfl rfl rfl) ?_
    rintro ⟨i29, c1q37⟩ o4 R4 h hr4 hn4 hx4 ht4
    try dsimp only at h hn4 ⊢
    unfold taskmillref_ItemsOf_l1 at h
    try dsimp only at h
    refine seq_np ?_
    refine chk_sx h (fun g5575 h => ?_)
    refine seq_np ?_
    refine reg_f ?_
    have k5574 : 0 ≤ n7 ∧ n7 < ((d.Buckets.length : Nat) : Int) := by first | simpa only [Bool.and_eq_true, decide_eq_true_eq, bne_iff_ne, ne_eq] using g5575 | (simp at g5575 ⊢; omega)
    refine rs 9 [none, none, none, none, some ⟨.iptr (fl d.Buckets) ((n7).toNat * 2), [], 2, []⟩, none, some ⟨.sl (ix d.Buckets n7).Items.length (fl (ix d.Buckets n7).Items), [], 2, []⟩] _ (by kernel_rfl) (allP_cons (ob_ld d.Buckets n7 2 1 (((n7).toNat * 2) + 1) k5574 rfl (by decide) (by first | rfl | omega) (dflS Try.prog 40) (.sl (ix d.Buckets n7).Items.length (fl (ix d.Buckets n7).Items)) rfl 2 []) (allP_cons (ob_ix_l d.Buckets 2 2 n7 k5574) allP_nil)) ?_
    refine rf [(1, .ptr 0 0), (3, .own 1 0 c1q37.length), (4, iS n7), (5, iS i29), (21, bS (decide (i29 < (((ix d.Buckets n7).Items.length : Nat) : Int))))] [(0, .row 26 (Enc.cells d)), (1, .row 45 (fl c1q37))] 2 (by kernel_rfl) ?_
    refine wk_id ?_
    refine cond_sx h (by kernel_rfl) (fun g5596 h => ?_) (fun g5596 h => ?_)
    · refine wk_id ?_
      refine seq_np ?_
      refine block_np ?_
      refine chk_sx h (fun g5592 h => ?_)
      refine chk_sx h (fun g5594 h => ?_)
      refine reg_f ?_
      have k5591 : 0 ≤ n7 ∧ n7 < ((d.Buckets.length : Nat) : Int) := by first | simpa only [Bool.and_eq_true, decide_eq_true_eq, bne_iff_ne, ne_eq] using g5592 | (simp at g5592 ⊢; omega)
      have k5593 : 0 ≤ i29 ∧ i29 < (((ix d.Buckets n7).Items.length : Nat) : Int) := by first | simpa only [Bool.and_eq_true, decide_eq_true_eq, bne_iff_ne, ne_eq] using g5594 | (simp at g5594 ⊢; omega)
      refine rs 10 [none, none, none, none, some ⟨.iptr (fl d.Buckets) ((n7).toNat * 2), [], 2, []⟩, none, some ⟨.sl (ix d.Buckets n7).Items.length (fl (ix d.Buckets n7).Items), [], 2, []⟩, none, some ⟨.iptr (fl (ix d.Buckets n7).Items) ((i29).toNat * 2), [], 2, []⟩, some ⟨.agg (Enc.cells (ix (ix d.Buckets n7).Items i29)), [], 2, []⟩] _ (by kernel_rfl) (allP_cons (ob_ldw (ix d.Buckets n7).Items i29 2 ((i29).toNat * 2) k5593 rfl (by first | rfl | omega) [iS (ix (ix d.Buckets n7).Items i29).Key, iS (ix (ix d.Buckets n7).Items i29).Value] rfl 2 []) (allP_cons (ob_ix_l (ix d.Buckets n7).Items 2 2 i29 k5593) (allP_cons (ob_ld d.Buckets n7 2 1 (((n7).toNat * 2) + 1) k5591 rfl (by decide) (by first | rfl | omega) (dflS Try.prog 40) (.sl (ix d.Buckets n7).Items.length (fl (ix d.Buckets n7).Items)) rfl 2 []) (allP_cons (ob_ix_l d.Buckets 2 2 n7 k5591) allP_nil)))) ?_
      obtain ⟨r5595, hr5595, h⟩ := bind_sx h
      refine call_x (taskmillref_PutItem_spec c1q37 (ix (ix d.Buckets n7).Items i29) r5595 hr5595) (args := [.own 1 0 c1q37.length, .agg (Enc.cells (ix (ix d.Buckets n7).Items i29))]) (dst := (some 34)) (by kernel_rfl) [(0, .row 26 (Enc.cells d)), (1, .row 45 (fl c1q37))] 2 (by kernel_rfl) [] [1] (.own 2 0 r5595.length) [(2, .row 45 (fl r5595))] (by simp only [push_cast, leL_flD, renL_flD, seval]) (by simp only [push_cast, leL_flD, renL_flD, seval]) (by kernel_rfl) (.inr ⟨by simp only [push_cast, leL_flD, renL_flD, seval], by simp only [push_cast, leL_flD, renL_flD, seval]⟩) (by simp only [push_cast, leL_flD, renL_flD, seval]) (by simp only [push_cast, leL_flD, renL_flD, seval]) ?_
      refine rs 1 [] [] (by kernel_rfl) allP_nil ?_
      refine rf [(1, .ptr 0 0), (3, .own 2 0 r5595.length), (4, iS n7), (5, iS i29)] [(0, .row 26 (Enc.cells d)), (1, .row 45 (fl c1q37)), (2, .row 45 (fl r5595))] 3 (by kernel_rfl) ?_
      refine wk_id ?_
      refine wk_id ?_
      refine reg_f ?_
      refine rs 3 [] [] (by kernel_rfl) allP_nil ?_
      refine rf [(1, .ptr 0 0), (3, .own 2 0 r5595.length), (4, iS n7), (5, iS (IntKind.i64.wrap (i29 + 1)))] [(0, .row 26 (Enc.cells d)), (1, .row 45 (fl c1q37)), (2, .row 45 (fl r5595))] 3 (by kernel_rfl) ?_
      exact hn4 ((IntKind.i64.wrap (i29 + 1)), r5595) _ _ _ (Option.some.inj h).symm (leSt_m [(0, 0), (1, 2)] [] (by simp only [push_cast, leL_flD, renL_flD, seval]) (by simp only [push_cast, leL_flD, renL_flD, seval]) rfl rfl rfl)
    · change R4 (.exit 2) _ _ _
      refine ex_cast hx4 (id := 2) ?_
      obtain ⟨r0, h, e0⟩ := map_sx h
      have e1 := hr4 r0 e0.symm
      subst r0
      refine wk_id ?_
      refine wk_id ?_
      refine wk_id ?_
      refine reg_f ?_
      refine rs 3 [] [] (by kernel_rfl) allP_nil ?_
      refine rf [(1, .ptr 0 0), (3, .own 1 0 c1q37.length), (4, iS (IntKind.i64.wrap (n7 + 1)))] [(0, .row 26 (Enc.cells d)), (1, .row 45 (fl c1q37))] 2 (by kernel_rfl) ?_
      exact hn3 ((IntKind.i64.wrap (n7 + 1)), c1q37) _ _ _ (Option.some.inj h).symm (leSt_m [(0, 0), (1, 1)] [] (by simp only [push_cast, leL_flD, renL_flD, seval]) (by simp only [push_cast, leL_flD, renL_flD, seval]) rfl rfl rfl)
  · change R3 (.exit 0) _ _ _
    refine ex_cast hx3 (id := 0) ?_
    obtain ⟨r0, h, e0⟩ := map_sx h
    have e1 := hr3 r0 e0.symm
    subst r0
    refine wk_id ?_
    refine wk_id ?_
    refine seq_np ?_
    refine reg_f ?_
    refine rs 2 [] [] (by kernel_rfl) allP_nil ?_
    refine rf [(2, .own 1 0 c1q29.length)] [(0, .row 26 (Enc.cells d)), (1, .row 45 (fl c1q29))] 2 (by kernel_rfl) ?_
    refine wk_id ?_
    obtain rfl := Option.some.inj h
    refine ret_at (.own 1 0 c1q29.length) (by kernel_rfl) ?_
    exact ret_e [(0, 1)] [] (by simp only [push_cast, leL_flD, renL_flD, seval]) (by simp only [push_cast, leL_flD, renL_flD, seval]) rfl rfl rfl

set_option maxRecDepth 100000 in
set_option maxHeartbeats 200000000 in
theorem taskmillref_FindItem_spec (l : (List GItem)) (key : Int) (r : Int) (h : taskmillref_FindItem l key = some r) : SpecW Try.prog 16 [.sl l.length (fl l), iS key] [] 0 (fun x h n => x = iS r ∧ h = [] ∧ n = 0) := by
  unfold taskmillref_FindItem at h
  refine spec_of (draw_ok _) Try.func16 rfl (by decide) rfl (by kernel_rfl) ?_
  refine seq_np ?_
  refine reg_f ?_
  refine rs 1 [] [] (by kernel_rfl) allP_nil ?_
  refine rf [(0, .sl l.length (fl l)), (1, iS key)] [] 0 (by kernel_rfl) ?_
  refine wk_id ?_
  refine seq_np ?_
  refine seq_np ?_
  refine reg_f ?_
  refine rs 1 [] [] (by kernel_rfl) allP_nil ?_
  refine rf [(0, .sl l.length (fl l)), (1, iS key), (5, iS 0)] [] 0 (by kernel_rfl) ?_
  refine wk_id ?_
  refine block_np ?_
  refine loop_sx (S := Int) (fun a => ([(0, .sl l.length (fl l)), (1, iS key), (5, iS a)], [], 0)) h (leSt_m [] [] (by simp only [push_cast, leL_flD, renL_flD, seval]) (by simp only [push_cast, leL_flD, renL_flD, seval]) rfl rfl rfl) ?_
  rintro i7 o2 R2 h hr2 hn2 hx2 ht2
  try dsimp only at h hn2 ⊢
  unfold taskmillref_FindItem_l1 at h
  try dsimp only at h
  refine seq_np ?_
  refine seq_np ?_
  refine reg_f ?_
  refine rs 4 [] [] (by kernel_rfl) allP_nil ?_
  refine rf [(0, .sl l.length (fl l)), (1, iS key), (5, iS i7), (9, bS (decide (i7 < ((l.length : Nat) : Int))))] [] 0 (by kernel_rfl) ?_
  refine wk_id ?_
  refine cond_sx h (by kernel_rfl) (fun g5659 h => ?_) (fun g5659 h => ?_)
  · refine wk_id ?_
    refine seq_np ?_
    refine block_np ?_
    refine chk_sx h (fun g5657 h => ?_)
    refine seq_np ?_
    refine reg_f ?_
    have k5656 : 0 ≤ i7 ∧ i7 < ((l.length : Nat) : Int) := by first | simpa only [Bool.and_eq_true, decide_eq_true_eq, bne_iff_ne, ne_eq] using g5657 | (simp at g5657 ⊢; omega)
    refine rs 7 [none, none, some ⟨.iptr (fl l) ((i7).toNat * 2), [], 0, []⟩, none, some ⟨iS (ix l i7).Key, [], 0, []⟩] _ (by kernel_rfl) (allP_cons (ob_ld l i7 2 0 (((i7).toNat * 2) + 0) k5656 rfl (by decide) (by first | rfl | omega) (dflS Try.prog 3) (iS (ix l i7).Key) rfl 0 []) (allP_cons (ob_ix_l l 2 0 i7 k5656) allP_nil)) ?_
    refine rf [(0, .sl l.length (fl l)), (1, iS key), (5, iS i7), (18, bS ((ix l i7).Key == key))] [] 0 (by kernel_rfl) ?_
    refine wk_id ?_
    refine cond_sx h (by kernel_rfl) (fun g5658 h => ?_) (fun g5658 h => ?_)
    · refine seq_np ?_
      refine reg_f ?_
      refine rs 2 [] [] (by kernel_rfl) allP_nil ?_
      refine rf [(4, iS i7)] [] 0 (by kernel_rfl) ?_
      refine wk_id ?_
      refine rt_cast ht2 ?_
      obtain ⟨r0, h, e0⟩ := map_sx h
      have e1 := hr2 r0 e0.symm
      subst r0
      obtain rfl := Option.some.inj h
      refine ret_at (iS i7) (by kernel_rfl) ?_
      exact ret_e [] [] (by simp only [push_cast, leL_flD, renL_flD, seval]) (by simp only [push_cast, leL_flD, renL_flD, seval]) rfl rfl rfl
    · refine wk_id ?_
      refine wk_id ?_
      refine reg_f ?_
      refine rs 3 [] [] (by kernel_rfl) allP_nil ?_
      refine rf [(0, .sl l.length (fl l)), (1, iS key), (5, iS (IntKind.i64.wrap (i7 + 1)))] [] 0 (by kernel_rfl) ?_
      exact hn2 ((IntKind.i64.wrap (i7 + 1))) _ _ _ (Option.some.inj h).symm (leSt_m [] [] (by simp only [push_cast, leL_flD, renL_flD, seval]) (by simp only [push_cast, leL_flD, renL_flD, seval]) rfl rfl rfl)
  · change R2 (.exit 0) _ _ _
    refine ex_cast hx2 (id := 0) ?_
    obtain ⟨r0, h, e0⟩ := map_sx h
    have e1 := hr2 r0 e0.symm
    subst r0
    refine wk_id ?_
    refine wk_id ?_
    refine seq_np ?_
    refine reg_f ?_
    refine rs 1 [] [] (by kernel_rfl) allP_nil ?_
    refine rf [(4, iS (-1))] [] 0 (by kernel_rfl) ?_
    refine wk_id ?_
    obtain rfl := Option.some.inj h
    refine ret_at (iS (-1)) (by kernel_rfl) ?_
    exact ret_e [] [] (by simp only [push_cast, leL_flD, renL_flD, seval]) (by simp only [push_cast, leL_flD, renL_flD, seval]) rfl rfl rfl

set_option maxRecDepth 100000 in
set_option maxHeartbeats 200000000 in
theorem dict_Get_spec (d : Dict) (key : Int) (r : Int × Bool × Fault) (h : dict_Get d key = some r) : SpecW Try.prog 23 [.agg (Enc.cells d), iS key] [] 0 (fun x h n => x = .tup [iS r.1, bS r.2.1, .agg (Enc.cells r.2.2)] ∧ h = [] ∧ n = 0) := by
  unfold dict_Get at h
  refine spec_of (draw_ok _) Try.func23 rfl (by decide) rfl (by kernel_rfl) ?_
  refine seq_np ?_
  refine reg_f ?_
  refine rs 4 [] [] (by kernel_rfl) allP_nil ?_
  refine rf [(1, iS key), (2, .ptr 0 0), (6, .ptr 1 0)] [(0, .row 26 (Enc.cells d)), (1, .row 29 [iS 0, iS 0])] 2 (by kernel_rfl) ?_
  refine wk_id ?_
  refine seq_np ?_
  refine seq_np ?_
  refine reg_f ?_
  refine rs 1 [] [] (by kernel_rfl) allP_nil ?_
  obtain ⟨r8944, hr8944, h⟩ := bind_sx h
  refine run_call 22 [.agg (Enc.cells d)] (some 12) (by kernel_rfl) ?_
  refine call_0 (dict_Check_spec d r8944 hr8944) (by simp only [push_cast, leL_flD, renL_flD, seval]) (by simp only [push_cast, leL_flD, renL_flD, seval]) ?_
  refine back_f ?_
  refine rs 2 [] [] (by kernel_rfl) allP_nil ?_
  refine rf [(1, iS key), (2, .ptr 0 0), (6, .ptr 1 0), (7, .ptr 2 0)] [(0, .row 26 (Enc.cells d)), (1, .row 29 [iS 0, iS 0]), (2, .row 29 (Enc.cells r8944))] 3 (by kernel_rfl) ?_
  refine wk_id ?_
  refine seq_np ?_
  refine reg_f ?_
  refine rs 3 [] [] (by kernel_rfl) allP_nil ?_
  refine rf [(1, iS key), (2, .ptr 0 0), (6, .ptr 1 0), (7, .ptr 2 0), (15, bS (r8944.Code != 0))] [(0, .row 26 (Enc.cells d)), (1, .row 29 [iS 0, iS 0]), (2, .row 29 (Enc.cells r8944))] 3 (by kernel_rfl) ?_
  refine wk_id ?_
  refine cond_sx h (by kernel_rfl) (fun g8957 h => ?_) (fun g8957 h => ?_)
  · refine seq_np ?_
    refine reg_t ?_
    refine rs 4 [] [] (by kernel_rfl) allP_nil ?_
    refine rt [(4, iS 0), (5, bS false), (6, .ptr 1 0)] [(0, .row 26 (Enc.cells d)), (1, .row 29 (Enc.cells r8944)), (2, .row 29 (Enc.cells r8944))] 7 follows (by kernel_rfl) ?_
    refine wk_id ?_
    obtain rfl := Option.some.inj h
    refine ret_at (.tup [iS 0, bS false, .agg (Enc.cells r8944)]) (by kernel_rfl) ?_
    exact ret_e [] [] (by simp only [push_cast, leL_flD, renL_flD, seval]) (by simp only [push_cast, leL_flD, renL_flD, seval]) rfl rfl rfl
  · refine wk_id ?_
    refine seq_np ?_
    refine reg_f ?_
    refine rs 2 [] [] (by kernel_rfl) allP_nil ?_
    obtain ⟨r8946, hr8946, h⟩ := bind_sx h
    refine run_call 28 [.agg (Enc.cells d), iS key] (some 20) (by kernel_rfl) ?_
    refine call_0 (dict_where_spec d key r8946 hr8946) (by simp only [push_cast, leL_flD, renL_flD, seval]) (by simp only [push_cast, leL_flD, renL_flD, seval]) ?_
    refine back_f ?_
    refine rs 7 [] [] (by kernel_rfl) allP_nil ?_
    refine rf [(2, .ptr 0 0), (6, .ptr 1 0), (8, iS r8946.1), (9, iS r8946.2.1), (10, bS r8946.2.2)] [(0, .row 26 (Enc.cells d)), (1, .row 29 [iS 0, iS 0]), (2, .row 29 (Enc.cells r8944))] 3 (by kernel_rfl) ?_
    refine wk_id ?_
    refine seq_np ?_
    refine seq_np ?_
    refine reg_f ?_
    refine rs 2 [] [] (by kernel_rfl) allP_nil ?_
    refine rf [(2, .ptr 0 0), (6, .ptr 1 0), (8, iS r8946.1), (9, iS r8946.2.1), (25, bS (!r8946.2.2))] [(0, .row 26 (Enc.cells d)), (1, .row 29 [iS 0, iS 0]), (2, .row 29 (Enc.cells r8944))] 3 (by kernel_rfl) ?_
    refine wk_id ?_
    refine cond_sx h (by kernel_rfl) (fun g8956 h => ?_) (fun g8956 h => ?_)
    · refine seq_np ?_
      refine reg_f ?_
      refine rs 4 [] [] (by kernel_rfl) allP_nil ?_
      refine rf [(4, iS 0), (5, bS false), (6, .ptr 1 0)] [(0, .row 26 (Enc.cells d)), (1, .row 29 [iS 0, iS 0]), (2, .row 29 (Enc.cells r8944))] 3 (by kernel_rfl) ?_
      refine wk_id ?_
      obtain rfl := Option.some.inj h
      refine ret_at (.tup [iS 0, bS false, .agg [iS 0, iS 0]]) (by kernel_rfl) ?_
      exact ret_e [] [] (by simp only [push_cast, leL_flD, renL_flD, seval]) (by simp only [push_cast, leL_flD, renL_flD, seval]) rfl rfl rfl
    · refine wk_id ?_
      refine chk_sx h (fun g8953 h => ?_)
      refine chk_sx h (fun g8955 h => ?_)
      refine seq_np ?_
      refine reg_f ?_
      have k8952 : 0 ≤ r8946.1 ∧ r8946.1 < ((d.Buckets.length : Nat) : Int) := by first | simpa only [Bool.and_eq_true, decide_eq_true_eq, bne_iff_ne, ne_eq] using g8953 | (simp at g8953 ⊢; omega)
      have k8954 : 0 ≤ r8946.2.1 ∧ r8946.2.1 < (((ix d.Buckets r8946.1).Items.length : Nat) : Int) := by first | simpa only [Bool.and_eq_true, decide_eq_true_eq, bne_iff_ne, ne_eq] using g8955 | (simp at g8955 ⊢; omega)
      refine rs 14 [none, none, none, some ⟨.iptr (fl d.Buckets) ((r8946.1).toNat * 2), [], 3, []⟩, none, some ⟨.sl (ix d.Buckets r8946.1).Items.length (fl (ix d.Buckets r8946.1).Items), [], 3, []⟩, none, some ⟨.iptr (fl (ix d.Buckets r8946.1).Items) ((r8946.2.1).toNat * 2), [], 3, []⟩, none, some ⟨iS (ix (ix d.Buckets r8946.1).Items r8946.2.1).Value, [], 3, []⟩] _ (by kernel_rfl) (allP_cons (ob_ld (ix d.Buckets r8946.1).Items r8946.2.1 2 1 (((r8946.2.1).toNat * 2) + 1) k8954 rfl (by decide) (by first | rfl | omega) (dflS Try.prog 3) (iS (ix (ix d.Buckets r8946.1).Items r8946.2.1).Value) rfl 3 []) (allP_cons (ob_ix_l (ix d.Buckets r8946.1).Items 2 3 r8946.2.1 k8954) (allP_cons (ob_ld d.Buckets r8946.1 2 1 (((r8946.1).toNat * 2) + 1) k8952 rfl (by decide) (by first | rfl | omega) (dflS Try.prog 40) (.sl (ix d.Buckets r8946.1).Items.length (fl (ix d.Buckets r8946.1).Items)) rfl 3 []) (allP_cons (ob_ix_l d.Buckets 2 3 r8946.1 k8952) allP_nil)))) ?_
      refine rf [(4, iS (ix (ix d.Buckets r8946.1).Items r8946.2.1).Value), (5, bS true), (6, .ptr 1 0)] [(0, .row 26 (Enc.cells d)), (1, .row 29 [iS 0, iS 0]), (2, .row 29 (Enc.cells r8944))] 3 (by kernel_rfl) ?_
      refine wk_id ?_
      obtain rfl := Option.some.inj h
      refine ret_at (.tup [iS (ix (ix d.Buckets r8946.1).Items r8946.2.1).Value, bS true, .agg [iS 0, iS 0]]) (by kernel_rfl) ?_
      exact ret_e [] [] (by simp only [push_cast, leL_flD, renL_flD, seval]) (by simp only [push_cast, leL_flD, renL_flD, seval]) rfl rfl rfl

set_option maxRecDepth 100000 in
set_option maxHeartbeats 200000000 in
def laysSortF_spec_ren : Go.Shelf.Ren := ⟨fun | 6 => 41 | 15 => 50 | 14 => 49 | 28 => 61 | 29 => 62 | 20 => 53 | 21 => 54 | 22 => 55 | 23 => 56 | 24 => 57 | 25 => 58 | 26 => 59 | 27 => 60 | 46 => 65 | 47 => 66 | 48 => 67 | 49 => 68 | 50 => 69 | 57 => 70 | n => n, fun | 22 => 40 | 24 => 45 | 25 => 80 | 3 => 3 | 39 => 89 | 0 => 0 | 53 => 98 | 55 => 100 | 4 => 4 | 46 => 92 | 45 => 91 | 50 => 82 | 5 => 5 | 9 => 9 | 66 => 102 | 70 => 106 | 76 => 108 | 77 => 109 | n => n, fun | n => n⟩
theorem laysSortF_spec : Go.Proofs.SlLaysF0.n6 Try.prog laysSortF_spec_ren where
  mixed := by kernel_rfl
  f6 := ⟨ "slices.SortFunc[[]taskmill/api.Item,taskmill/api.Item]", by decide, Try.func41.trans (congrArg some (by kernel_rfl))⟩
  f14 := ⟨ "slices.pdqsortCmpFunc[taskmill/api.Item]", by decide, Try.func49.trans (congrArg some (by kernel_rfl))⟩
  f15 := Try.func50.trans (congrArg some (by kernel_rfl))
  f20 := ⟨ "slices.insertionSortCmpFunc[taskmill/api.Item]", by decide, Try.func53.trans (congrArg some (by kernel_rfl))⟩
  f21 := ⟨ "slices.heapSortCmpFunc[taskmill/api.Item]", by decide, Try.func54.trans (congrArg some (by kernel_rfl))⟩
  f22 := ⟨ "slices.breakPatternsCmpFunc[taskmill/api.Item]", by decide, Try.func55.trans (congrArg some (by kernel_rfl))⟩
  f23 := ⟨ "slices.choosePivotCmpFunc[taskmill/api.Item]", by decide, Try.func56.trans (congrArg some (by kernel_rfl))⟩
  f24 := ⟨ "slices.reverseRangeCmpFunc[taskmill/api.Item]", by decide, Try.func57.trans (congrArg some (by kernel_rfl))⟩
  f25 := ⟨ "slices.partialInsertionSortCmpFunc[taskmill/api.Item]", by decide, Try.func58.trans (congrArg some (by kernel_rfl))⟩
  f26 := ⟨ "slices.partitionEqualCmpFunc[taskmill/api.Item]", by decide, Try.func59.trans (congrArg some (by kernel_rfl))⟩
  f27 := ⟨ "slices.partitionCmpFunc[taskmill/api.Item]", by decide, Try.func60.trans (congrArg some (by kernel_rfl))⟩
  f28 := Try.func61.trans (congrArg some (by kernel_rfl))
  f29 := Try.func62.trans (congrArg some (by kernel_rfl))
  f46 := ⟨ "slices.siftDownCmpFunc[taskmill/api.Item]", by decide, Try.func65.trans (congrArg some (by kernel_rfl))⟩
  f47 := Try.func66.trans (congrArg some (by kernel_rfl))
  f48 := Try.func67.trans (congrArg some (by kernel_rfl))
  f49 := ⟨ "slices.medianAdjacentCmpFunc[taskmill/api.Item]", by decide, Try.func68.trans (congrArg some (by kernel_rfl))⟩
  f50 := ⟨ "slices.medianCmpFunc[taskmill/api.Item]", by decide, Try.func69.trans (congrArg some (by kernel_rfl))⟩
  f57 := ⟨ "slices.order2CmpFunc[taskmill/api.Item]", by decide, Try.func70.trans (congrArg some (by kernel_rfl))⟩
  t0 := Try.underlying0
  a0 := Try.isAgg0
  z0 := Try.sizeOf0
  v0 := Try.zeroValue0
  t3 := Try.underlying3
  a3 := Try.isAgg3
  z3 := Try.sizeOf3
  v3 := Try.zeroValue3
  t4 := Try.underlying4
  a4 := Try.isAgg4
  z4 := Try.sizeOf4
  v4 := Try.zeroValue4
  t5 := Try.underlying5
  a5 := Try.isAgg5
  z5 := Try.sizeOf5
  v5 := Try.zeroValue5
  t9 := Try.underlying9
  a9 := Try.isAgg9
  z9 := Try.sizeOf9
  v9 := Try.zeroValue9
  t22 := Try.underlying40
  a22 := Try.isAgg40
  z22 := Try.sizeOf40
  v22 := Try.zeroValue40
  t25 := Try.underlying80
  a25 := Try.isAgg80
  z25 := Try.sizeOf80
  v25 := Try.zeroValue80
  t39 := Try.underlying89
  a39 := Try.isAgg89
  z39 := Try.sizeOf89
  v39 := Try.zeroValue89
  t45 := Try.underlying91
  a45 := Try.isAgg91
  z45 := Try.sizeOf91
  v45 := Try.zeroValue91
  t46 := Try.underlying92
  a46 := Try.isAgg92
  z46 := Try.sizeOf92
  v46 := Try.zeroValue92
  t50 := Try.underlying82
  a50 := Try.isAgg82
  z50 := Try.sizeOf82
  v50 := Try.zeroValue82
  t53 := Try.underlying98
  a53 := Try.isAgg98
  z53 := Try.sizeOf98
  v53 := Try.zeroValue98
  t55 := Try.underlying100
  a55 := Try.isAgg100
  z55 := Try.sizeOf100
  v55 := Try.zeroValue100
  t66 := Try.underlying102
  a66 := Try.isAgg102
  z66 := Try.sizeOf102
  v66 := Try.zeroValue102
  t70 := Try.underlying106
  a70 := Try.isAgg106
  z70 := Try.sizeOf106
  v70 := Try.zeroValue106
  t76 := Try.underlying108
  a76 := Try.isAgg108
  z76 := Try.sizeOf108
  v76 := Try.zeroValue108
  t77 := Try.underlying109
  a77 := Try.isAgg109
  z77 := Try.sizeOf109
  v77 := Try.zeroValue109
def laysCmp_ren : Go.Shelf.Ren := ⟨fun | 5 => 51 | 7 => 63 | n => n, fun | 22 => 3 | 3 => 3 | 4 => 4 | n => n, fun | n => n⟩
theorem laysCmp : Go.Proofs.SlLaysC2.n5 Try.prog laysCmp_ren where
  mixed := by kernel_rfl
  f5 := ⟨ "cmp.Compare[int]", by decide, Try.func51.trans (congrArg some (by kernel_rfl))⟩
  f7 := ⟨ "cmp.isNaN[int]", by decide, Try.func63.trans (congrArg some (by kernel_rfl))⟩
  t3 := Try.underlying3
  a3 := Try.isAgg3
  z3 := Try.sizeOf3
  v3 := Try.zeroValue3
  t4 := Try.underlying4
  a4 := Try.isAgg4
  z4 := Try.sizeOf4
  v4 := Try.zeroValue4
  t22 := Try.underlying3
  a22 := Try.isAgg3
  z22 := Try.sizeOf3
  v22 := Try.zeroValue3
theorem sfCall_42 (x y : GItem) (W : World) : Calls Try.prog 42 #[.agg (sfEnc_42 x).toArray, .agg (sfEnc_42 y).toArray] W fun e w' => e = .returned (.int .i64 (sfCf_42 x y)) ∧ ∃ q os', w' = Go.Sort.grow (W.drewN q) os' := by
  have hcon := fun W' => Go.Proofs.AnyG.cmp_Compare_int laysCmp x.Key y.Key W'
  change ∀ W', Calls Try.prog 51 _ _ _ at hcon
  unfold sfCf_42 sfEnc_42
  generalize Go.Lib.compareInt x.Key y.Key = r at hcon ⊢
  have mixed := follows
  go_enter Try.func42, Try.ntmps42
  go_wp2_with (go_at_call 51; refine (hcon _).mono ?_; rintro e w' ⟨rfl, rfl⟩)
  go_ret
  exact ⟨rfl, 0, _, by rw [Go.Sort.alloc_eq_grow, Go.Sort.alloc_eq_grow, Go.Sort.grow_grow]; rfl⟩
theorem sfLt_42 (x y : GItem) : Go.Proofs.ltOf sfCf_42 x y = decide (x.Key < y.Key) := by
  unfold Go.Proofs.ltOf sfCf_42 Go.Lib.compareInt
  by_cases h1 : x.Key < y.Key
  · simp [h1]
  · by_cases h2 : y.Key < x.Key <;> simp [h1, h2]
theorem sfSwo_42 : Go.Sort.SWO (Go.Proofs.ltOf sfCf_42) where
  irrefl x := by rw [sfLt_42]; simp
  trans x y z h1 h2 := by rw [sfLt_42] at *; simp at *; omega
  ntrans x y z h1 h2 := by rw [sfLt_42] at *; simp at *; omega
set_option maxRecDepth 100000 in
set_option maxHeartbeats 4000000 in
theorem slices_SortFunc_Item_spec (c0 : (List GItem)) (r : List GItem) (h : slices_SortFunc_Item c0 = some r) : SpecW Try.prog 41 [.own 0 0 c0.length, .v (.func (.func 42) #[] #[])] [(0, .row 45 (fl c0))] 1 (fun x h n => x = .tup [] ∧ h = [(0, .row 45 (fl r))] ∧ n = 1) := by
  unfold slices_SortFunc_Item at h
  obtain ⟨h1, rfl⟩ := bif_some h
  have eg : ∀ args w, (callFunc 42 args).run Try.prog w = .ok (.enter 42 args) w := Go.Proofs.enters_of Try.func42 (by kernel_rfl) rfl
  exact sortF_spec (P := Try.prog) sfEnc_42 2 (fun _ => rfl) (by decide) (fun _ => rfl) sfCf_42 sfSwo_42 (fn_of Try.func41 (by kernel_rfl) (by kernel_rfl)) (fun b o c d w hh hb hz => Go.Proofs.AnyQ.slices_SortFunc_eq laysSortF_spec 2 Try.isAgg45 Try.sizeOf45 sfEnc_42 (fun _ => rfl) (fun x v hv => by simp [sfEnc_42] at hv; rcases hv with rfl | rfl <;> rfl) sfCf_42 sfSwo_42 42 #[] b o c d w eg (fun _ _ _ _ x y => sfCall_42 x y _) hh hb hz) (fun p c w => Go.Proofs.AnyF.slices_SortFunc_none laysSortF_spec p c (.func (.func 42) #[] #[]) w) c0 h1

set_option maxRecDepth 100000 in
set_option maxHeartbeats 200000000 in
theorem dict_All_spec (d : Dict) (r : Fault × (List GItem)) (h : dict_All d = some r) : SpecW Try.prog 24 [.agg (Enc.cells d)] [] 0 (fun x h n => x = .tup [.own 0 0 r.2.length, .agg (Enc.cells r.1)] ∧ h = [(0, .row 45 (fl r.2))] ∧ n = 1) := by
  unfold dict_All at h
  refine spec_of (draw_ok _) Try.func24 rfl (by decide) rfl (by kernel_rfl) ?_
  refine seq_np ?_
  refine reg_f ?_
  refine rs 3 [] [] (by kernel_rfl) allP_nil ?_
  refine rf [(1, .ptr 0 0), (3, .ptr 1 0)] [(0, .row 26 (Enc.cells d)), (1, .row 29 [iS 0, iS 0])] 2 (by kernel_rfl) ?_
  refine wk_id ?_
  refine seq_np ?_
  refine seq_np ?_
  refine reg_f ?_
  refine rs 1 [] [] (by kernel_rfl) allP_nil ?_
  obtain ⟨r8983, hr8983, h⟩ := bind_sx h
  refine run_call 22 [.agg (Enc.cells d)] (some 9) (by kernel_rfl) ?_
  refine call_0 (dict_Check_spec d r8983 hr8983) (by simp only [push_cast, leL_flD, renL_flD, seval]) (by simp only [push_cast, leL_flD, renL_flD, seval]) ?_
  refine back_f ?_
  refine rs 2 [] [] (by kernel_rfl) allP_nil ?_
  refine rf [(1, .ptr 0 0), (3, .ptr 1 0), (4, .ptr 2 0)] [(0, .row 26 (Enc.cells d)), (1, .row 29 [iS 0, iS 0]), (2, .row 29 (Enc.cells r8983))] 3 (by kernel_rfl) ?_
  refine wk_id ?_
  refine seq_np ?_
  refine reg_f ?_
  refine rs 3 [] [] (by kernel_rfl) allP_nil ?_
  refine rf [(1, .ptr 0 0), (3, .ptr 1 0), (4, .ptr 2 0), (12, bS (r8983.Code != 0))] [(0, .row 26 (Enc.cells d)), (1, .row 29 [iS 0, iS 0]), (2, .row 29 (Enc.cells r8983))] 3 (by kernel_rfl) ?_
  refine wk_id ?_
  refine cond_sx h (by kernel_rfl) (fun g9051 h => ?_) (fun g9051 h => ?_)
  · refine seq_np ?_
    refine reg_t ?_
    refine rs 3 [] [] (by kernel_rfl) allP_nil ?_
    refine rt [(2, .v (.slice none 0 0)), (3, .ptr 1 0)] [(0, .row 26 (Enc.cells d)), (1, .row 29 (Enc.cells r8983)), (2, .row 29 (Enc.cells r8983))] 6 follows (by kernel_rfl) ?_
    refine wk_id ?_
    obtain rfl := Option.some.inj h
    refine ret_at (.tup [.v (.slice none 0 0), .agg (Enc.cells r8983)]) (by kernel_rfl) ?_
    exact ret_e [] [] (by simp only [push_cast, leL_flD, renL_flD, seval]) (by simp only [push_cast, leL_flD, renL_flD, seval]) rfl rfl rfl
  · refine wk_id ?_
    refine seq_np ?_
    refine reg_f ?_
    refine rs 1 [] [] (by kernel_rfl) allP_nil ?_
    refine rf [(1, .ptr 0 0), (3, .ptr 1 0), (5, .v (.slice none 0 0))] [(0, .row 26 (Enc.cells d)), (1, .row 29 [iS 0, iS 0]), (2, .row 29 (Enc.cells r8983))] 3 (by kernel_rfl) ?_
    refine wk_id ?_
    refine seq_np ?_
    refine seq_np ?_
    refine reg_f ?_
    refine rs 4 [] [] (by kernel_rfl) allP_nil ?_
    refine rf [(3, .ptr 1 0), (5, .v (.slice none 0 0)), (15, .sl d.Buckets.length (fl d.Buckets)), (16, iS ((d.Buckets.length : Nat) : Int)), (17, iS 0)] [(0, .row 26 (Enc.cells d)), (1, .row 29 [iS 0, iS 0]), (2, .row 29 (Enc.cells r8983))] 3 (by kernel_rfl) ?_
    refine wk_id ?_
    refine block_np ?_
    refine loop_sx (S := Int × (List GItem)) (fun a => ([(3, .ptr 0 0), (5, .own 1 0 a.2.length), (15, .sl d.Buckets.length (fl d.Buckets)), (16, iS ((d.Buckets.length : Nat) : Int)), (17, iS a.1)], [(0, .row 29 [iS 0, iS 0]), (1, .row 45 (fl a.2))], 2)) h (leSt_m [(0, 1)] [] (by simp only [push_cast, leL_flD, renL_flD, seval]) (by simp only [push_cast, leL_flD, renL_flD, seval]) rfl rfl rfl) ?_
    rintro ⟨t17q7, c1q7⟩ o2 R2 h hr2 hn2 hx2 ht2
    try dsimp only at h hn2 ⊢
    unfold dict_All_l1 at h
    try dsimp only at h
    refine seq_np ?_
    refine reg_f ?_
    refine rs 1 [] [] (by kernel_rfl) allP_nil ?_
    refine rf [(3, .ptr 0 0), (5, .own 1 0 c1q7.length), (15, .sl d.Buckets.length (fl d.Buckets)), (16, iS ((d.Buckets.length : Nat) : Int)), (17, iS t17q7), (18, bS (decide (t17q7 < ((d.Buckets.length : Nat) : Int))))] [(0, .row 29 [iS 0, iS 0]), (1, .row 45 (fl c1q7))] 2 (by kernel_rfl) ?_
    refine wk_id ?_
    refine seq_np ?_
    refine cond_sx h (by kernel_rfl) (fun g9050 h => ?_) (fun g9050 h => ?_)
    · refine wk_id ?_
      refine seq_np ?_
      refine block_np ?_
      refine chk_sx h (fun g9039 h => ?_)
      refine seq_np ?_
      refine reg_f ?_
      have k9038 : 0 ≤ t17q7 ∧ t17q7 < ((d.Buckets.length : Nat) : Int) := by first | simpa only [Bool.and_eq_true, decide_eq_true_eq, bne_iff_ne, ne_eq] using g9039 | (simp at g9039 ⊢; omega)
      refine rs 4 [some ⟨.iptr (fl d.Buckets) ((t17q7).toNat * 2), [], 2, []⟩, some ⟨.agg (Enc.cells (ix d.Buckets t17q7)), [], 2, []⟩] _ (by kernel_rfl) (allP_cons (ob_ldw d.Buckets t17q7 2 ((t17q7).toNat * 2) k9038 rfl (by first | rfl | omega) [iS (ix d.Buckets t17q7).Depth, .sl (ix d.Buckets t17q7).Items.length (fl (ix d.Buckets t17q7).Items)] rfl 2 []) (allP_cons (ob_ix_l d.Buckets 2 2 t17q7 k9038) allP_nil)) ?_
      refine rf [(3, .ptr 0 0), (5, .own 1 0 c1q7.length), (7, .ptr 2 0), (15, .sl d.Buckets.length (fl d.Buckets)), (16, iS ((d.Buckets.length : Nat) : Int)), (17, iS t17q7)] [(0, .row 29 [iS 0, iS 0]), (1, .row 45 (fl c1q7)), (2, .row 43 (Enc.cells (ix d.Buckets t17q7)))] 3 (by kernel_rfl) ?_
      refine wk_id ?_
      refine chk_sx h (fun g9043 h => ?_)
      refine reg_f ?_
      have k9042 : (c1q7 ++ (ix d.Buckets t17q7).Items).length * 16 ≤ 140737488355328 := by first | simpa only [Bool.and_eq_true, decide_eq_true_eq, bne_iff_ne, ne_eq] using g9043 | (simp at g9043 ⊢; omega)
      refine rs 5 [none, none, none, some ⟨.own 3 0 (c1q7 ++ (ix d.Buckets t17q7).Items).length, [(3, .row 45 (fl (c1q7 ++ (ix d.Buckets t17q7).Items))), (1, .dead)], 4, [1]⟩] _ (by kernel_rfl) (allP_cons (ob_app (P := Try.prog) c1q7 (ix d.Buckets t17q7).Items 2 16 rfl (fl (ix d.Buckets t17q7).Items) (ix d.Buckets t17q7).Items.length rfl rfl ((fl (ix d.Buckets t17q7).Items).length = (ix d.Buckets t17q7).Items.length * 2) (app_sl (ix d.Buckets t17q7).Items 2 rfl) 45 (by kernel_rfl) (by decide) k9042 1 3 []) allP_nil) ?_
      refine rf [(3, .ptr 0 0), (5, .own 3 0 (c1q7 ++ (ix d.Buckets t17q7).Items).length), (15, .sl d.Buckets.length (fl d.Buckets)), (16, iS ((d.Buckets.length : Nat) : Int)), (17, iS t17q7)] [(0, .row 29 [iS 0, iS 0]), (1, .dead), (2, .row 43 (Enc.cells (ix d.Buckets t17q7))), (3, .row 45 (fl (c1q7 ++ (ix d.Buckets t17q7).Items)))] 4 (by kernel_rfl) ?_
      refine wk_id ?_
      refine wk_id ?_
      refine reg_f ?_
      refine rs 2 [] [] (by kernel_rfl) allP_nil ?_
      refine rf [(3, .ptr 0 0), (5, .own 3 0 (c1q7 ++ (ix d.Buckets t17q7).Items).length), (15, .sl d.Buckets.length (fl d.Buckets)), (16, iS ((d.Buckets.length : Nat) : Int)), (17, iS (IntKind.i64.wrap (t17q7 + 1)))] [(0, .row 29 [iS 0, iS 0]), (1, .dead), (2, .row 43 (Enc.cells (ix d.Buckets t17q7))), (3, .row 45 (fl (c1q7 ++ (ix d.Buckets t17q7).Items)))] 4 (by kernel_rfl) ?_
      exact hn2 ((IntKind.i64.wrap (t17q7 + 1)), (c1q7 ++ (ix d.Buckets t17q7).Items)) _ _ _ (Option.some.inj h).symm (leSt_m [(0, 0), (1, 3)] [] (by simp only [push_cast, leL_flD, renL_flD, seval]) (by simp only [push_cast, leL_flD, renL_flD, seval]) rfl rfl rfl)
    · change R2 (.exit 0) _ _ _
      refine ex_cast hx2 (id := 0) ?_
      obtain ⟨r0, h, e0⟩ := map_sx h
      have e1 := hr2 r0 e0.symm
      subst r0
      refine wk_id ?_
      refine wk_id ?_
      refine seq_np ?_
      refine reg_f ?_
      refine rs 1 [] [] (by kernel_rfl) allP_nil ?_
      obtain ⟨r9047, hr9047, h⟩ := bind_sx h
      refine call_x (slices_SortFunc_Item_spec c1q7 r9047 hr9047) (args := [.own 1 0 c1q7.length, .v (.func (.func 42) #[] #[])]) (dst := (some 27)) (by kernel_rfl) [(0, .row 29 [iS 0, iS 0]), (1, .row 45 (fl c1q7))] 2 (by kernel_rfl) [(0, 1)] [] (.tup []) [(1, .row 45 (fl r9047)), (1, .dead)] (by simp only [push_cast, leL_flD, renL_flD, seval]) (by simp only [push_cast, leL_flD, renL_flD, seval]) (by kernel_rfl) (.inl rfl) (by simp only [push_cast, leL_flD, renL_flD, seval]) (by simp only [push_cast, leL_flD, renL_flD, seval]) ?_
      refine chk_sx h (fun g9049 h => ?_)
      have e9048 : c1q7.length = r9047.length := (of_decide_eq_true g9049).symm
      refine run_eqF 5 (.own 1 0 c1q7.length) (.own 1 0 r9047.length) (congrArg (fun nq => (.own 1 0 nq : SV)) (show c1q7.length = r9047.length from e9048)) (by kernel_rfl) ?_
      refine rf [(3, .ptr 0 0), (5, .own 1 0 r9047.length)] [(0, .row 29 [iS 0, iS 0]), (1, .row 45 (fl r9047))] 3 (by kernel_rfl) ?_
      refine wk_id ?_
      refine seq_np ?_
      refine reg_f ?_
      refine rs 4 [] [] (by kernel_rfl) allP_nil ?_
      refine rf [(2, .own 1 0 r9047.length), (3, .ptr 0 0)] [(0, .row 29 [iS 0, iS 0]), (1, .row 45 (fl r9047))] 3 (by kernel_rfl) ?_
      refine wk_id ?_
      obtain rfl := Option.some.inj h
      refine ret_at (.tup [.own 1 0 r9047.length, .agg [iS 0, iS 0]]) (by kernel_rfl) ?_
      exact ret_e [(0, 1)] [] (by simp only [push_cast, leL_flD, renL_flD, seval]) (by simp only [push_cast, leL_flD, renL_flD, seval]) rfl rfl rfl

set_option maxRecDepth 100000 in
set_option maxHeartbeats 200000000 in
theorem taskmilllaw_DictAsks_spec (d : Dict) (key : Int) (r : Bool) (h : taskmilllaw_DictAsks d key = some r) : SpecW Try.prog 6 [.agg (Enc.cells d), iS key] [] 0 (fun x h n => x = bS r ∧ h = [] ∧ n = 0) := by
  unfold taskmilllaw_DictAsks at h
  refine spec_of (draw_ok _) Try.func6 rfl (by decide) rfl (by kernel_rfl) ?_
  refine seq_np ?_
  refine reg_f ?_
  refine rs 2 [] [] (by kernel_rfl) allP_nil ?_
  refine rf [(1, iS key), (2, .ptr 0 0)] [(0, .row 26 (Enc.cells d))] 1 (by kernel_rfl) ?_
  refine wk_id ?_
  refine seq_np ?_
  refine seq_np ?_
  refine reg_f ?_
  obtain ⟨r9078, hr9078, h⟩ := bind_sx h
  refine run_call 8 [] (some 15) (by kernel_rfl) ?_
  refine call_0 (taskmilllaw_dictBegun_spec r9078 hr9078) (by simp only [push_cast, leL_flD, renL_flD, seval]) (by simp only [push_cast, leL_flD, renL_flD, seval]) ?_
  refine back_f ?_
  refine rs 1 [] [] (by kernel_rfl) allP_nil ?_
  refine rf [(1, iS key), (2, .ptr 0 0), (16, bS (!r9078))] [(0, .row 26 (Enc.cells d))] 1 (by kernel_rfl) ?_
  refine wk_id ?_
  refine cond_sx h (by kernel_rfl) (fun g9151 h => ?_) (fun g9151 h => ?_)
  · refine seq_np ?_
    refine reg_f ?_
    refine rs 1 [] [] (by kernel_rfl) allP_nil ?_
    refine rf [(4, bS false)] [(0, .row 26 (Enc.cells d))] 1 (by kernel_rfl) ?_
    refine wk_id ?_
    obtain rfl := Option.some.inj h
    refine ret_at (bS false) (by kernel_rfl) ?_
    exact ret_e [] [] (by simp only [push_cast, leL_flD, renL_flD, seval]) (by simp only [push_cast, leL_flD, renL_flD, seval]) rfl rfl rfl
  · refine wk_id ?_
    refine seq_np ?_
    refine seq_np ?_
    refine reg_f ?_
    refine rs 1 [] [] (by kernel_rfl) allP_nil ?_
    obtain ⟨r9082, hr9082, h⟩ := bind_sx h
    refine run_call 12 [.agg (Enc.cells d)] (some 18) (by kernel_rfl) ?_
    refine call_0 (taskmilllaw_vastDict_spec d r9082 hr9082) (by simp only [push_cast, leL_flD, renL_flD, seval]) (by simp only [push_cast, leL_flD, renL_flD, seval]) ?_
    refine back_f ?_
    refine rf [(1, iS key), (2, .ptr 0 0), (18, bS r9082)] [(0, .row 26 (Enc.cells d))] 1 (by kernel_rfl) ?_
    refine wk_id ?_
    refine cond_sx h (by kernel_rfl) (fun g9150 h => ?_) (fun g9150 h => ?_)
    · refine seq_np ?_
      refine reg_f ?_
      refine rs 1 [] [] (by kernel_rfl) allP_nil ?_
      refine rf [(4, bS true)] [(0, .row 26 (Enc.cells d))] 1 (by kernel_rfl) ?_
      refine wk_id ?_
      obtain rfl := Option.some.inj h
      refine ret_at (bS true) (by kernel_rfl) ?_
      exact ret_e [] [] (by simp only [push_cast, leL_flD, renL_flD, seval]) (by simp only [push_cast, leL_flD, renL_flD, seval]) rfl rfl rfl
    · refine wk_id ?_
      refine seq_np ?_
      refine reg_f ?_
      refine rs 1 [] [] (by kernel_rfl) allP_nil ?_
      obtain ⟨r9084, hr9084, h⟩ := bind_sx h
      refine call_x (taskmilllaw_ownDict_spec d r9084 hr9084) (args := [.agg (Enc.cells d)]) (dst := (some 20)) (by kernel_rfl) [(0, .row 26 (Enc.cells d))] 1 (by kernel_rfl) [] [] (.agg [iS r9084.1, .own 1 0 r9084.2.1.length, .own 2 0 r9084.2.2.length]) [(1, .row 3 (fl r9084.2.1)), (2, .row 43 (flD dBucket [3] r9084.2.2)), ((.s 3 0), .fam (famD dBucket 0 r9084.2.2))] (by simp only [push_cast, leL_flD, renL_flD, seval]) (by simp only [push_cast, leL_flD, renL_flD, seval]) (by kernel_rfl) (.inl rfl) (by first | (simp only [push_cast, leL_flD, renL_flD, seval]; done) | (simp only [push_cast, leL_flD, renL_flD, seval]; kernel_rfl) | kernel_rfl) (by first | (simp only [push_cast, leL_flD, renL_flD, seval]; done) | (simp only [push_cast, leL_flD, renL_flD, seval]; kernel_rfl) | kernel_rfl) ?_
      refine rs 2 [] [] (by kernel_rfl) allP_nil ?_
      refine rf [(1, iS key), (2, .ptr 0 0), (5, .ptr 4 0)] [(0, .row 26 (Enc.cells d)), (1, .row 3 (fl r9084.2.1)), (2, .row 43 (flD dBucket [3] r9084.2.2)), ((.s 3 0), .fam (famD dBucket 0 r9084.2.2)), (4, .row 26 [iS r9084.1, .own 1 0 r9084.2.1.length, .own 2 0 r9084.2.2.length])] 5 (by kernel_rfl) ?_
      refine wk_id ?_
      refine seq_np ?_
      refine reg_f ?_
      refine rs 1 [] [] (by kernel_rfl) allP_nil ?_
      obtain ⟨r9086, hr9086, h⟩ := bind_sx h
      refine call_x (dict_Check_spec (Dict.mk r9084.1 r9084.2.1 r9084.2.2) r9086 hr9086) (args := [.agg [iS r9084.1, .own 1 0 r9084.2.1.length, .own 2 0 r9084.2.2.length]]) (dst := (some 22)) (by kernel_rfl) [(0, .row 26 (Enc.cells d)), (1, .row 3 (fl r9084.2.1)), (2, .row 43 (flD dBucket [3] r9084.2.2)), ((.s 3 0), .fam (famD dBucket 0 r9084.2.2)), (4, .row 26 [iS r9084.1, .own 1 0 r9084.2.1.length, .own 2 0 r9084.2.2.length])] 5 (by kernel_rfl) [] [1, 2, (.s 3 0)] (.agg (Enc.cells r9086)) [] (by simp only [↓leS_frzD dBucket [3] r9084.2.2, leS_frz, leL_flD, renL_flD, push_cast, seval]) (by simp only [↓leS_frzD dBucket [3] r9084.2.2, leS_frz, leL_flD, renL_flD, push_cast, seval]) (by kernel_rfl) (.inr ⟨by simp only [push_cast, leL_flD, renL_flD, seval], by simp only [push_cast, leL_flD, renL_flD, seval]⟩) (by simp only [push_cast, leL_flD, renL_flD, seval]) (by simp only [push_cast, leL_flD, renL_flD, seval]) ?_
      refine rs 2 [] [] (by kernel_rfl) allP_nil ?_
      refine rf [(1, iS key), (2, .ptr 0 0), (5, .ptr 4 0), (6, .ptr 5 0)] [(0, .row 26 (Enc.cells d)), (1, .row 3 (fl r9084.2.1)), (2, .row 43 (flD dBucket [3] r9084.2.2)), ((.s 3 0), .fam (famD dBucket 0 r9084.2.2)), (4, .row 26 [iS r9084.1, .own 1 0 r9084.2.1.length, .own 2 0 r9084.2.2.length]), (5, .row 29 (Enc.cells r9086))] 6 (by kernel_rfl) ?_
      refine wk_id ?_
      refine seq_np ?_
      refine reg_f ?_
      refine rs 2 [] [] (by kernel_rfl) allP_nil ?_
      obtain ⟨r9088, hr9088, h⟩ := bind_sx h
      refine call_x (dict_Get_spec (Dict.mk r9084.1 r9084.2.1 r9084.2.2) key r9088 hr9088) (args := [.agg [iS r9084.1, .own 1 0 r9084.2.1.length, .own 2 0 r9084.2.2.length], iS key]) (dst := (some 26)) (by kernel_rfl) [(0, .row 26 (Enc.cells d)), (1, .row 3 (fl r9084.2.1)), (2, .row 43 (flD dBucket [3] r9084.2.2)), ((.s 3 0), .fam (famD dBucket 0 r9084.2.2)), (4, .row 26 [iS r9084.1, .own 1 0 r9084.2.1.length, .own 2 0 r9084.2.2.length]), (5, .row 29 (Enc.cells r9086))] 6 (by kernel_rfl) [] [1, 2, (.s 3 0)] (.tup [iS r9088.1, bS r9088.2.1, .agg (Enc.cells r9088.2.2)]) [] (by simp only [↓leS_frzD dBucket [3] r9084.2.2, leS_frz, leL_flD, renL_flD, push_cast, seval]) (by simp only [↓leS_frzD dBucket [3] r9084.2.2, leS_frz, leL_flD, renL_flD, push_cast, seval]) (by kernel_rfl) (.inr ⟨by simp only [push_cast, leL_flD, renL_flD, seval], by simp only [push_cast, leL_flD, renL_flD, seval]⟩) (by simp only [push_cast, leL_flD, renL_flD, seval]) (by simp only [push_cast, leL_flD, renL_flD, seval]) ?_
      refine rs 8 [] [] (by kernel_rfl) allP_nil ?_
      refine rf [(1, iS key), (2, .ptr 0 0), (5, .ptr 4 0), (6, .ptr 5 0), (7, iS r9088.1), (8, bS r9088.2.1), (9, .ptr 6 0)] [(0, .row 26 (Enc.cells d)), (1, .row 3 (fl r9084.2.1)), (2, .row 43 (flD dBucket [3] r9084.2.2)), ((.s 3 0), .fam (famD dBucket 0 r9084.2.2)), (4, .row 26 [iS r9084.1, .own 1 0 r9084.2.1.length, .own 2 0 r9084.2.2.length]), (5, .row 29 (Enc.cells r9086)), (6, .row 29 (Enc.cells r9088.2.2))] 7 (by kernel_rfl) ?_
      refine wk_id ?_
      refine seq_np ?_
      refine reg_f ?_
      refine rs 1 [] [] (by kernel_rfl) allP_nil ?_
      obtain ⟨r9090, hr9090, h⟩ := bind_sx h
      refine call_x (dict_All_spec (Dict.mk r9084.1 r9084.2.1 r9084.2.2) r9090 hr9090) (args := [.agg [iS r9084.1, .own 1 0 r9084.2.1.length, .own 2 0 r9084.2.2.length]]) (dst := (some 32)) (by kernel_rfl) [(0, .row 26 (Enc.cells d)), (1, .row 3 (fl r9084.2.1)), (2, .row 43 (flD dBucket [3] r9084.2.2)), ((.s 3 0), .fam (famD dBucket 0 r9084.2.2)), (4, .row 26 [iS r9084.1, .own 1 0 r9084.2.1.length, .own 2 0 r9084.2.2.length]), (5, .row 29 (Enc.cells r9086)), (6, .row 29 (Enc.cells r9088.2.2))] 7 (by kernel_rfl) [] [1, 2, (.s 3 0)] (.tup [.own 7 0 r9090.2.length, .agg (Enc.cells r9090.1)]) [(7, .row 45 (fl r9090.2))] (by simp only [↓leS_frzD dBucket [3] r9084.2.2, leS_frz, leL_flD, renL_flD, push_cast, seval]) (by simp only [↓leS_frzD dBucket [3] r9084.2.2, leS_frz, leL_flD, renL_flD, push_cast, seval]) (by kernel_rfl) (.inr ⟨by simp only [push_cast, leL_flD, renL_flD, seval], by simp only [push_cast, leL_flD, renL_flD, seval]⟩) (by simp only [push_cast, leL_flD, renL_flD, seval]) (by simp only [push_cast, leL_flD, renL_flD, seval]) ?_
      refine rs 6 [] [] (by kernel_rfl) allP_nil ?_
      refine rf [(1, iS key), (2, .ptr 0 0), (5, .ptr 4 0), (6, .ptr 5 0), (7, iS r9088.1), (8, bS r9088.2.1), (9, .ptr 6 0), (10, .own 7 0 r9090.2.length), (11, .ptr 8 0)] [(0, .row 26 (Enc.cells d)), (1, .row 3 (fl r9084.2.1)), (2, .row 43 (flD dBucket [3] r9084.2.2)), ((.s 3 0), .fam (famD dBucket 0 r9084.2.2)), (4, .row 26 [iS r9084.1, .own 1 0 r9084.2.1.length, .own 2 0 r9084.2.2.length]), (5, .row 29 (Enc.cells r9086)), (6, .row 29 (Enc.cells r9088.2.2)), (7, .row 45 (fl r9090.2)), (8, .row 29 (Enc.cells r9090.1))] 9 (by kernel_rfl) ?_
      refine wk_id ?_
      refine seq_np ?_
      refine reg_f ?_
      refine rs 1 [] [] (by kernel_rfl) allP_nil ?_
      obtain ⟨r9092, hr9092, h⟩ := bind_sx h
      refine run_call 15 [.agg (Enc.cells d)] (some 36) (by kernel_rfl) ?_
      refine call_0 (taskmillref_DictFault_spec d r9092 hr9092) (by simp only [push_cast, leL_flD, renL_flD, seval]) (by simp only [push_cast, leL_flD, renL_flD, seval]) ?_
      refine back_f ?_
      refine rs 2 [] [] (by kernel_rfl) allP_nil ?_
      refine rf [(1, iS key), (2, .ptr 0 0), (5, .ptr 4 0), (6, .ptr 5 0), (7, iS r9088.1), (8, bS r9088.2.1), (9, .ptr 6 0), (10, .own 7 0 r9090.2.length), (11, .ptr 8 0), (12, .ptr 9 0)] [(0, .row 26 (Enc.cells d)), (1, .row 3 (fl r9084.2.1)), (2, .row 43 (flD dBucket [3] r9084.2.2)), ((.s 3 0), .fam (famD dBucket 0 r9084.2.2)), (4, .row 26 [iS r9084.1, .own 1 0 r9084.2.1.length, .own 2 0 r9084.2.2.length]), (5, .row 29 (Enc.cells r9086)), (6, .row 29 (Enc.cells r9088.2.2)), (7, .row 45 (fl r9090.2)), (8, .row 29 (Enc.cells r9090.1)), (9, .row 29 (Enc.cells r9092))] 10 (by kernel_rfl) ?_
      refine wk_id ?_
      refine seq_np ?_
      refine seq_cut (A := Int × Bool × Bool × (List GItem) × Fault) (fun a => ([(1, iS key), (2, .ptr 0 0), (7, iS a.1), (8, bS a.2.1), (10, .own 1 0 a.2.2.2.1.length), (12, .ptr 2 0), (55, bS a.2.2.1)], [(0, .row 26 (Enc.cells d)), (1, .row 45 (fl a.2.2.2.1)), (2, .row 29 (Enc.cells a.2.2.2.2))], 3)) (fun a => (taskmilllaw_DictAsks_j1 d key a.1 a.2.1 a.2.2.1 a.2.2.2.1 a.2.2.2.2) = some r) (fun K9105 hK9105 => ?_) ?_
      · refine reg_f ?_
        refine rs 4 [] [] (by kernel_rfl) allP_nil ?_
        refine run_br h 40 (.inl (by kernel_rfl)) (fun g9106 h => ?_) (fun g9106 h => ?_)
        · refine rs 15 [] [] (by kernel_rfl) allP_nil ?_
          refine rf [(1, iS key), (2, .ptr 0 0), (7, iS r9088.1), (8, bS r9088.2.1), (10, .own 7 0 r9090.2.length), (12, .ptr 9 0), (55, bS true)] [(0, .row 26 (Enc.cells d)), (1, .row 3 (fl r9084.2.1)), (2, .row 43 (flD dBucket [3] r9084.2.2)), ((.s 3 0), .fam (famD dBucket 0 r9084.2.2)), (4, .row 26 [iS r9084.1, .own 1 0 r9084.2.1.length, .own 2 0 r9084.2.2.length]), (5, .row 29 (Enc.cells r9086)), (6, .row 29 (Enc.cells r9088.2.2)), (7, .row 45 (fl r9090.2)), (8, .row 29 (Enc.cells r9090.1)), (9, .row 29 (Enc.cells r9092))] 10 (by kernel_rfl) ?_
          exact hK9105 (r9088.1, r9088.2.1, true, r9090.2, r9092) _ _ _ h (leSt_m [(0, 0), (1, 7), (2, 9)] [] (by (try simp only [g9106]) <;> simp only [push_cast, leL_flD, renL_flD, seval]) (by (try simp only [g9106]) <;> simp only [push_cast, leL_flD, renL_flD, seval]) rfl rfl rfl)
        · refine rs 5 [] [] (by kernel_rfl) allP_nil ?_
          refine run_br h 45 (.inl (by kernel_rfl)) (fun g9107 h => ?_) (fun g9107 h => ?_)
          · refine rs 10 [] [] (by kernel_rfl) allP_nil ?_
            refine rf [(1, iS key), (2, .ptr 0 0), (7, iS r9088.1), (8, bS r9088.2.1), (10, .own 7 0 r9090.2.length), (12, .ptr 9 0), (55, bS true)] [(0, .row 26 (Enc.cells d)), (1, .row 3 (fl r9084.2.1)), (2, .row 43 (flD dBucket [3] r9084.2.2)), ((.s 3 0), .fam (famD dBucket 0 r9084.2.2)), (4, .row 26 [iS r9084.1, .own 1 0 r9084.2.1.length, .own 2 0 r9084.2.2.length]), (5, .row 29 (Enc.cells r9086)), (6, .row 29 (Enc.cells r9088.2.2)), (7, .row 45 (fl r9090.2)), (8, .row 29 (Enc.cells r9090.1)), (9, .row 29 (Enc.cells r9092))] 10 (by kernel_rfl) ?_
            exact hK9105 (r9088.1, r9088.2.1, true, r9090.2, r9092) _ _ _ h (leSt_m [(0, 0), (1, 7), (2, 9)] [] (by first | ((try simp only [g9106, g9107]) <;> simp only [push_cast, leL_flD, renL_flD, seval]; done) | ((try simp only [g9106]); (try simp only [g9107]); simp only [push_cast, leL_flD, renL_flD, seval]; done) | (exfalso; clear h; simp_all; done)) (by first | ((try simp only [g9106, g9107]) <;> simp only [push_cast, leL_flD, renL_flD, seval]; done) | ((try simp only [g9106]); (try simp only [g9107]); simp only [push_cast, leL_flD, renL_flD, seval]; done) | (exfalso; clear h; simp_all; done)) rfl rfl rfl)
          · refine rs 5 [] [] (by kernel_rfl) allP_nil ?_
            refine run_br h 50 (.inl (by kernel_rfl)) (fun g9108 h => ?_) (fun g9108 h => ?_)
            · refine rn 14 [(1, iS key), (2, .ptr 0 0), (5, .ptr 4 0), (7, iS r9088.1), (8, bS r9088.2.1), (10, .own 7 0 r9090.2.length), (12, .ptr 9 0), (50, bS true)] [(0, .row 26 (Enc.cells d)), (1, .row 3 (fl r9084.2.1)), (2, .row 43 (flD dBucket [3] r9084.2.2)), ((.s 3 0), .fam (famD dBucket 0 r9084.2.2)), (4, .row 26 [iS r9084.1, .own 1 0 r9084.2.1.length, .own 2 0 r9084.2.2.length]), (5, .row 29 (Enc.cells r9086)), (6, .row 29 (Enc.cells r9088.2.2)), (7, .row 45 (fl r9090.2)), (8, .row 29 (Enc.cells r9090.1)), (9, .row 29 (Enc.cells r9092))] 10 (by kernel_rfl) ?_
              refine rs 5 [] [] (by kernel_rfl) allP_nil ?_
              refine rf [(1, iS key), (2, .ptr 0 0), (7, iS r9088.1), (8, bS r9088.2.1), (10, .own 7 0 r9090.2.length), (12, .ptr 9 0), (55, bS true)] [(0, .row 26 (Enc.cells d)), (1, .row 3 (fl r9084.2.1)), (2, .row 43 (flD dBucket [3] r9084.2.2)), ((.s 3 0), .fam (famD dBucket 0 r9084.2.2)), (4, .row 26 [iS r9084.1, .own 1 0 r9084.2.1.length, .own 2 0 r9084.2.2.length]), (5, .row 29 (Enc.cells r9086)), (6, .row 29 (Enc.cells r9088.2.2)), (7, .row 45 (fl r9090.2)), (8, .row 29 (Enc.cells r9090.1)), (9, .row 29 (Enc.cells r9092))] 10 (by kernel_rfl) ?_
              exact hK9105 (r9088.1, r9088.2.1, true, r9090.2, r9092) _ _ _ h (leSt_m [(0, 0), (1, 7), (2, 9)] [] (by first | ((try simp only [g9106, g9107, g9108]) <;> simp only [push_cast, leL_flD, renL_flD, seval]; done) | ((try simp only [g9106]); (try simp only [g9107]); (try simp only [g9108]); simp only [push_cast, leL_flD, renL_flD, seval]; done) | (exfalso; clear h; simp_all; done)) (by first | ((try simp only [g9106, g9107, g9108]) <;> simp only [push_cast, leL_flD, renL_flD, seval]; done) | ((try simp only [g9106]); (try simp only [g9107]); (try simp only [g9108]); simp only [push_cast, leL_flD, renL_flD, seval]; done) | (exfalso; clear h; simp_all; done)) rfl rfl rfl)
            · refine rn 14 [(1, iS key), (2, .ptr 0 0), (5, .ptr 4 0), (7, iS r9088.1), (8, bS r9088.2.1), (10, .own 7 0 r9090.2.length), (12, .ptr 9 0), (50, bS false)] [(0, .row 26 (Enc.cells d)), (1, .row 3 (fl r9084.2.1)), (2, .row 43 (flD dBucket [3] r9084.2.2)), ((.s 3 0), .fam (famD dBucket 0 r9084.2.2)), (4, .row 26 [iS r9084.1, .own 1 0 r9084.2.1.length, .own 2 0 r9084.2.2.length]), (5, .row 29 (Enc.cells r9086)), (6, .row 29 (Enc.cells r9088.2.2)), (7, .row 45 (fl r9090.2)), (8, .row 29 (Enc.cells r9090.1)), (9, .row 29 (Enc.cells r9092))] 10 (by kernel_rfl) ?_
              refine rs 2 [] [] (by kernel_rfl) allP_nil ?_
              obtain ⟨r9109, hr9109, h⟩ := bind_sx h
              refine call_x (taskmillref_SameDict_spec (Dict.mk r9084.1 r9084.2.1 r9084.2.2) d r9109 hr9109) (args := [.agg [iS r9084.1, .own 1 0 r9084.2.1.length, .own 2 0 r9084.2.2.length], .agg (Enc.cells d)]) (dst := (some 53)) (by kernel_rfl) [(0, .row 26 (Enc.cells d)), (1, .row 3 (fl r9084.2.1)), (2, .row 43 (flD dBucket [3] r9084.2.2)), ((.s 3 0), .fam (famD dBucket 0 r9084.2.2)), (4, .row 26 [iS r9084.1, .own 1 0 r9084.2.1.length, .own 2 0 r9084.2.2.length]), (5, .row 29 (Enc.cells r9086)), (6, .row 29 (Enc.cells r9088.2.2)), (7, .row 45 (fl r9090.2)), (8, .row 29 (Enc.cells r9090.1)), (9, .row 29 (Enc.cells r9092))] 10 (by kernel_rfl) [] [1, 2, (.s 3 0)] (bS r9109) [] (by simp only [↓leS_frzD dBucket [3] r9084.2.2, leS_frz, leL_flD, renL_flD, push_cast, seval]) (by simp only [↓leS_frzD dBucket [3] r9084.2.2, leS_frz, leL_flD, renL_flD, push_cast, seval]) (by kernel_rfl) (.inr ⟨by simp only [push_cast, leL_flD, renL_flD, seval], by simp only [push_cast, leL_flD, renL_flD, seval]⟩) (by simp only [push_cast, leL_flD, renL_flD, seval]) (by simp only [push_cast, leL_flD, renL_flD, seval]) ?_
              refine rs 2 [] [] (by kernel_rfl) allP_nil ?_
              refine rf [(1, iS key), (2, .ptr 0 0), (7, iS r9088.1), (8, bS r9088.2.1), (10, .own 7 0 r9090.2.length), (12, .ptr 9 0), (55, bS (!r9109))] [(0, .row 26 (Enc.cells d)), (1, .row 3 (fl r9084.2.1)), (2, .row 43 (flD dBucket [3] r9084.2.2)), ((.s 3 0), .fam (famD dBucket 0 r9084.2.2)), (4, .row 26 [iS r9084.1, .own 1 0 r9084.2.1.length, .own 2 0 r9084.2.2.length]), (5, .row 29 (Enc.cells r9086)), (6, .row 29 (Enc.cells r9088.2.2)), (7, .row 45 (fl r9090.2)), (8, .row 29 (Enc.cells r9090.1)), (9, .row 29 (Enc.cells r9092))] 10 (by kernel_rfl) ?_
              exact hK9105 (r9088.1, r9088.2.1, (!r9109), r9090.2, r9092) _ _ _ h (leSt_m [(0, 0), (1, 7), (2, 9)] [] (by first | ((try simp only [g9106, g9107, g9108]) <;> simp only [push_cast, leL_flD, renL_flD, seval]; done) | ((try simp only [g9106]); (try simp only [g9107]); (try simp only [g9108]); simp only [push_cast, leL_flD, renL_flD, seval]; done) | (exfalso; clear h; simp_all; done)) (by first | ((try simp only [g9106, g9107, g9108]) <;> simp only [push_cast, leL_flD, renL_flD, seval]; done) | ((try simp only [g9106]); (try simp only [g9107]); (try simp only [g9108]); simp only [push_cast, leL_flD, renL_flD, seval]; done) | (exfalso; clear h; simp_all; done)) rfl rfl rfl)
      · rintro ⟨v2, xis2, t55q2, c1q2, c2q2⟩ h
        try dsimp only at h ⊢
        unfold taskmilllaw_DictAsks_j1 at h
        refine cond_sx h (by kernel_rfl) (fun g9149 h => ?_) (fun g9149 h => ?_)
        · refine seq_np ?_
          refine reg_f ?_
          refine rs 1 [] [] (by kernel_rfl) allP_nil ?_
          refine rf [(4, bS false)] [(0, .row 26 (Enc.cells d)), (1, .row 45 (fl c1q2)), (2, .row 29 (Enc.cells c2q2))] 3 (by kernel_rfl) ?_
          refine wk_id ?_
          obtain rfl := Option.some.inj h
          refine ret_at (bS false) (by kernel_rfl) ?_
          exact ret_e [] [] (by simp only [push_cast, leL_flD, renL_flD, seval]) (by simp only [push_cast, leL_flD, renL_flD, seval]) rfl rfl rfl
        · refine wk_id ?_
          refine seq_np ?_
          refine seq_np ?_
          refine reg_f ?_
          refine rs 3 [] [] (by kernel_rfl) allP_nil ?_
          refine rf [(1, iS key), (2, .ptr 0 0), (7, iS v2), (8, bS xis2), (10, .own 1 0 c1q2.length), (58, bS (c2q2.Code != 0))] [(0, .row 26 (Enc.cells d)), (1, .row 45 (fl c1q2)), (2, .row 29 (Enc.cells c2q2))] 3 (by kernel_rfl) ?_
          refine wk_id ?_
          refine cond_sx h (by kernel_rfl) (fun g9148 h => ?_) (fun g9148 h => ?_)
          · refine seq_cut (A := Unit) (fun _ => ([(4, bS ((v2 == 0) && ((!xis2) && (((c1q2.length : Nat) : Int) == 0))))], [(0, .row 26 (Enc.cells d)), (1, .row 45 (fl c1q2)), (2, .row 29 (Enc.cells c2q2))], 3)) (fun _ => True) (fun K9115 hK9115 => ?_) (fun _ _ => ?_)
            · refine reg_f ?_
              refine rs 3 [] [] (by kernel_rfl) allP_nil ?_
              refine run_split 61 (v2 == 0) (.inl (by kernel_rfl)) (fun g9116 => ?_) (fun g9116 => ?_)
              · refine rs 4 [] [] (by kernel_rfl) allP_nil ?_
                refine run_split 65 (!xis2) (.inl (by kernel_rfl)) (fun g9117 => ?_) (fun g9117 => ?_)
                · refine rs 5 [] [] (by kernel_rfl) allP_nil ?_
                  refine rf [(4, bS (((c1q2.length : Nat) : Int) == 0))] [(0, .row 26 (Enc.cells d)), (1, .row 45 (fl c1q2)), (2, .row 29 (Enc.cells c2q2))] 3 (by kernel_rfl) ?_
                  exact hK9115 () _ _ _ trivial (leSt_m [(0, 0), (1, 1), (2, 2)] [] (by first | ((try simp only [g9116, g9117]) <;> simp only [push_cast, leL_flD, renL_flD, seval]; done) | ((try simp only [g9116]); (try simp only [g9117]); simp only [push_cast, leL_flD, renL_flD, seval]; done) | (exfalso; clear h; simp_all; done)) (by first | ((try simp only [g9116, g9117]) <;> simp only [push_cast, leL_flD, renL_flD, seval]; done) | ((try simp only [g9116]); (try simp only [g9117]); simp only [push_cast, leL_flD, renL_flD, seval]; done) | (exfalso; clear h; simp_all; done)) rfl rfl rfl)
                · refine rs 5 [] [] (by kernel_rfl) allP_nil ?_
                  refine rf [(4, bS false)] [(0, .row 26 (Enc.cells d)), (1, .row 45 (fl c1q2)), (2, .row 29 (Enc.cells c2q2))] 3 (by kernel_rfl) ?_
                  exact hK9115 () _ _ _ trivial (leSt_m [(0, 0), (1, 1), (2, 2)] [] (by first | ((try simp only [g9116, g9117]) <;> simp only [push_cast, leL_flD, renL_flD, seval]; done) | ((try simp only [g9116]); (try simp only [g9117]); simp only [push_cast, leL_flD, renL_flD, seval]; done) | (exfalso; clear h; simp_all; done)) (by first | ((try simp only [g9116, g9117]) <;> simp only [push_cast, leL_flD, renL_flD, seval]; done) | ((try simp only [g9116]); (try simp only [g9117]); simp only [push_cast, leL_flD, renL_flD, seval]; done) | (exfalso; clear h; simp_all; done)) rfl rfl rfl)
              · refine rs 9 [] [] (by kernel_rfl) allP_nil ?_
                refine rf [(4, bS false)] [(0, .row 26 (Enc.cells d)), (1, .row 45 (fl c1q2)), (2, .row 29 (Enc.cells c2q2))] 3 (by kernel_rfl) ?_
                exact hK9115 () _ _ _ trivial (leSt_m [(0, 0), (1, 1), (2, 2)] [] (by (try simp only [g9116]) <;> simp only [push_cast, leL_flD, renL_flD, seval]) (by (try simp only [g9116]) <;> simp only [push_cast, leL_flD, renL_flD, seval]) rfl rfl rfl)
            · dsimp only
              obtain rfl := Option.some.inj h
              refine ret_at (bS ((v2 == 0) && ((!xis2) && (((c1q2.length : Nat) : Int) == 0)))) (by kernel_rfl) ?_
              exact ret_e [] [] (by simp only [push_cast, leL_flD, renL_flD, seval]) (by simp only [push_cast, leL_flD, renL_flD, seval]) rfl rfl rfl
          · refine wk_id ?_
            refine seq_np ?_
            refine reg_f ?_
            refine rs 1 [] [] (by kernel_rfl) allP_nil ?_
            obtain ⟨r9119, hr9119, h⟩ := bind_sx h
            refine call_x (taskmillref_ItemsOf_spec d r9119 hr9119) (args := [.agg (Enc.cells d)]) (dst := (some 71)) (by kernel_rfl) [(0, .row 26 (Enc.cells d)), (1, .row 45 (fl c1q2)), (2, .row 29 (Enc.cells c2q2))] 3 (by kernel_rfl) [] [] (.own 3 0 r9119.length) [(3, .row 45 (fl r9119))] (by simp only [push_cast, leL_flD, renL_flD, seval]) (by simp only [push_cast, leL_flD, renL_flD, seval]) (by kernel_rfl) (.inl rfl) (by simp only [push_cast, leL_flD, renL_flD, seval]) (by simp only [push_cast, leL_flD, renL_flD, seval]) ?_
            refine rs 1 [] [] (by kernel_rfl) allP_nil ?_
            refine rf [(1, iS key), (7, iS v2), (8, bS xis2), (10, .own 1 0 c1q2.length), (13, .own 3 0 r9119.length)] [(0, .row 26 (Enc.cells d)), (1, .row 45 (fl c1q2)), (2, .row 29 (Enc.cells c2q2)), (3, .row 45 (fl r9119))] 4 (by kernel_rfl) ?_
            refine wk_id ?_
            refine seq_np ?_
            refine reg_f ?_
            refine rs 2 [] [] (by kernel_rfl) allP_nil ?_
            obtain ⟨r9121, hr9121, h⟩ := bind_sx h
            refine call_x (taskmillref_FindItem_spec r9119 key r9121 hr9121) (args := [.own 3 0 r9119.length, iS key]) (dst := (some 74)) (by kernel_rfl) [(0, .row 26 (Enc.cells d)), (1, .row 45 (fl c1q2)), (2, .row 29 (Enc.cells c2q2)), (3, .row 45 (fl r9119))] 4 (by kernel_rfl) [] [3] (iS r9121) [] (by simp only [push_cast, leL_flD, renL_flD, seval]) (by simp only [push_cast, leL_flD, renL_flD, seval]) (by kernel_rfl) (.inr ⟨by simp only [push_cast, leL_flD, renL_flD, seval], by simp only [push_cast, leL_flD, renL_flD, seval]⟩) (by simp only [push_cast, leL_flD, renL_flD, seval]) (by simp only [push_cast, leL_flD, renL_flD, seval]) ?_
            refine rs 1 [] [] (by kernel_rfl) allP_nil ?_
            refine rf [(7, iS v2), (8, bS xis2), (10, .own 1 0 c1q2.length), (13, .own 3 0 r9119.length), (14, iS r9121)] [(0, .row 26 (Enc.cells d)), (1, .row 45 (fl c1q2)), (2, .row 29 (Enc.cells c2q2)), (3, .row 45 (fl r9119))] 4 (by kernel_rfl) ?_
            refine wk_id ?_
            refine seq_np ?_
            refine chk_sx h (fun g9141 h => ?_)
            refine seq_cut (A := Unit) (fun _ => ([(10, .own 1 0 c1q2.length), (13, .own 3 0 r9119.length), (99, bS ((xis2 != (decide ((0 : Int) ≤ r9121))) || (bif (decide ((0 : Int) ≤ r9121)) then ((v2 != (ix r9119 r9121).Value) || ((decide (r9121 < 0)) && (v2 != 0))) else ((decide (r9121 < 0)) && (v2 != 0)))))], [(0, .row 26 (Enc.cells d)), (1, .row 45 (fl c1q2)), (2, .row 29 (Enc.cells c2q2)), (3, .row 45 (fl r9119))], 4)) (fun _ => True) (fun K9137 hK9137 => ?_) (fun _ _ => ?_)
            · refine reg_f ?_
              refine rs 5 [] [] (by kernel_rfl) allP_nil ?_
              refine run_split 79 (xis2 != (decide ((0 : Int) ≤ r9121))) (.inl (by kernel_rfl)) (fun g9138 => ?_) (fun g9138 => ?_)
              · refine rs 20 [] [] (by kernel_rfl) allP_nil ?_
                refine rf [(10, .own 1 0 c1q2.length), (13, .own 3 0 r9119.length), (99, bS true)] [(0, .row 26 (Enc.cells d)), (1, .row 45 (fl c1q2)), (2, .row 29 (Enc.cells c2q2)), (3, .row 45 (fl r9119))] 4 (by kernel_rfl) ?_
                exact hK9137 () _ _ _ trivial (leSt_m [(0, 0), (1, 1), (2, 2), (3, 3)] [] (by (try simp only [g9138]) <;> simp only [push_cast, leL_flD, renL_flD, seval]) (by (try simp only [g9138]) <;> simp only [push_cast, leL_flD, renL_flD, seval]) rfl rfl rfl)
              · refine rs 3 [] [] (by kernel_rfl) allP_nil ?_
                refine run_split 82 (decide ((0 : Int) ≤ r9121)) (.inr (by kernel_rfl)) (fun g9139 => ?_) (fun g9139 => ?_)
                · have k9140 : 0 ≤ r9121 ∧ r9121 < ((r9119.length : Nat) : Int) := by have e := or_use g9141 (by first | ((try simp only [g9138, g9139]) <;> rfl) | ((try simp only [g9138]); (try simp only [g9139]); rfl) | (exfalso; clear h; simp_all; done)); first | simpa only [Bool.and_eq_true, decide_eq_true_eq, bne_iff_ne, ne_eq] using e | (simp at e ⊢; omega)
                  refine rs 10 [none, none, none, some ⟨.ptr 3 (0 + (r9121).toNat * 2), [], 4, [3]⟩, none, some ⟨iS (ix r9119 r9121).Value, [], 4, [3]⟩] _ (by kernel_rfl) (allP_cons (ob_ld r9119 r9121 2 1 ((0 + (r9121).toNat * 2) + 1) k9140 rfl (by decide) (by first | rfl | omega) (dflS Try.prog 3) (iS (ix r9119 r9121).Value) rfl 4 [3]) (allP_cons (ob_ix_o 3 r9119.length 0 2 4 r9121 k9140) allP_nil)) ?_
                  refine run_split 92 (v2 != (ix r9119 r9121).Value) (.inl (by kernel_rfl)) (fun g9142 => ?_) (fun g9142 => ?_)
                  · refine rn 18 [(7, iS v2), (10, .own 1 0 c1q2.length), (13, .own 3 0 r9119.length), (14, iS r9121), (92, bS true)] [(0, .row 26 (Enc.cells d)), (1, .row 45 (fl c1q2)), (2, .row 29 (Enc.cells c2q2)), (3, .row 45 (fl r9119))] 4 (by kernel_rfl) ?_
                    refine rs 7 [] [] (by kernel_rfl) allP_nil ?_
                    refine rf [(10, .own 1 0 c1q2.length), (13, .own 3 0 r9119.length), (99, bS true)] [(0, .row 26 (Enc.cells d)), (1, .row 45 (fl c1q2)), (2, .row 29 (Enc.cells c2q2)), (3, .row 45 (fl r9119))] 4 (by kernel_rfl) ?_
                    exact hK9137 () _ _ _ trivial (leSt_m [(0, 0), (1, 1), (2, 2), (3, 3)] [] (by first | ((try simp only [g9138, g9139, g9142]) <;> simp only [push_cast, leL_flD, renL_flD, seval]; done) | ((try simp only [g9138]); (try simp only [g9139]); (try simp only [g9142]); simp only [push_cast, leL_flD, renL_flD, seval]; done) | (exfalso; clear h; simp_all; done)) (by first | ((try simp only [g9138, g9139, g9142]) <;> simp only [push_cast, leL_flD, renL_flD, seval]; done) | ((try simp only [g9138]); (try simp only [g9139]); (try simp only [g9142]); simp only [push_cast, leL_flD, renL_flD, seval]; done) | (exfalso; clear h; simp_all; done)) rfl rfl rfl)
                  · refine rn 18 [(7, iS v2), (10, .own 1 0 c1q2.length), (13, .own 3 0 r9119.length), (14, iS r9121), (92, bS false)] [(0, .row 26 (Enc.cells d)), (1, .row 45 (fl c1q2)), (2, .row 29 (Enc.cells c2q2)), (3, .row 45 (fl r9119))] 4 (by kernel_rfl) ?_
                    refine rs 3 [] [] (by kernel_rfl) allP_nil ?_
                    refine run_split 95 (decide (r9121 < 0)) (.inr (by kernel_rfl)) (fun g9143 => ?_) (fun g9143 => ?_)
                    · refine rs 4 [] [] (by kernel_rfl) allP_nil ?_
                      refine rf [(10, .own 1 0 c1q2.length), (13, .own 3 0 r9119.length), (99, bS (v2 != 0))] [(0, .row 26 (Enc.cells d)), (1, .row 45 (fl c1q2)), (2, .row 29 (Enc.cells c2q2)), (3, .row 45 (fl r9119))] 4 (by kernel_rfl) ?_
                      exact hK9137 () _ _ _ trivial (leSt_m [(0, 0), (1, 1), (2, 2), (3, 3)] [] (by first | ((try simp only [g9138, g9139, g9142, g9143]) <;> simp only [push_cast, leL_flD, renL_flD, seval]; done) | ((try simp only [g9138]); (try simp only [g9139]); (try simp only [g9142]); (try simp only [g9143]); simp only [push_cast, leL_flD, renL_flD, seval]; done) | (exfalso; clear h; simp_all; done)) (by first | ((try simp only [g9138, g9139, g9142, g9143]) <;> simp only [push_cast, leL_flD, renL_flD, seval]; done) | ((try simp only [g9138]); (try simp only [g9139]); (try simp only [g9142]); (try simp only [g9143]); simp only [push_cast, leL_flD, renL_flD, seval]; done) | (exfalso; clear h; simp_all; done)) rfl rfl rfl)
                    · refine rs 4 [] [] (by kernel_rfl) allP_nil ?_
                      refine rf [(10, .own 1 0 c1q2.length), (13, .own 3 0 r9119.length), (99, bS false)] [(0, .row 26 (Enc.cells d)), (1, .row 45 (fl c1q2)), (2, .row 29 (Enc.cells c2q2)), (3, .row 45 (fl r9119))] 4 (by kernel_rfl) ?_
                      exact hK9137 () _ _ _ trivial (leSt_m [(0, 0), (1, 1), (2, 2), (3, 3)] [] (by first | ((try simp only [g9138, g9139, g9142, g9143]) <;> simp only [push_cast, leL_flD, renL_flD, seval]; done) | ((try simp only [g9138]); (try simp only [g9139]); (try simp only [g9142]); (try simp only [g9143]); simp only [push_cast, leL_flD, renL_flD, seval]; done) | (exfalso; clear h; simp_all; done)) (by first | ((try simp only [g9138, g9139, g9142, g9143]) <;> simp only [push_cast, leL_flD, renL_flD, seval]; done) | ((try simp only [g9138]); (try simp only [g9139]); (try simp only [g9142]); (try simp only [g9143]); simp only [push_cast, leL_flD, renL_flD, seval]; done) | (exfalso; clear h; simp_all; done)) rfl rfl rfl)
                · refine rs 13 [] [] (by kernel_rfl) allP_nil ?_
                  refine run_split 95 (decide (r9121 < 0)) (.inr (by kernel_rfl)) (fun g9144 => ?_) (fun g9144 => ?_)
                  · refine rn 21 [(7, iS v2), (10, .own 1 0 c1q2.length), (13, .own 3 0 r9119.length), (92, bS false), (95, .gd true (bS true))] [(0, .row 26 (Enc.cells d)), (1, .row 45 (fl c1q2)), (2, .row 29 (Enc.cells c2q2)), (3, .row 45 (fl r9119))] 4 (by kernel_rfl) ?_
                    refine rs 4 [] [] (by kernel_rfl) allP_nil ?_
                    refine rf [(10, .own 1 0 c1q2.length), (13, .own 3 0 r9119.length), (99, bS (v2 != 0))] [(0, .row 26 (Enc.cells d)), (1, .row 45 (fl c1q2)), (2, .row 29 (Enc.cells c2q2)), (3, .row 45 (fl r9119))] 4 (by kernel_rfl) ?_
                    exact hK9137 () _ _ _ trivial (leSt_m [(0, 0), (1, 1), (2, 2), (3, 3)] [] (by first | ((try simp only [g9138, g9139, g9144]) <;> simp only [push_cast, leL_flD, renL_flD, seval]; done) | ((try simp only [g9138]); (try simp only [g9139]); (try simp only [g9144]); simp only [push_cast, leL_flD, renL_flD, seval]; done) | (exfalso; clear h; simp_all; done)) (by first | ((try simp only [g9138, g9139, g9144]) <;> simp only [push_cast, leL_flD, renL_flD, seval]; done) | ((try simp only [g9138]); (try simp only [g9139]); (try simp only [g9144]); simp only [push_cast, leL_flD, renL_flD, seval]; done) | (exfalso; clear h; simp_all; done)) rfl rfl rfl)
                  · refine rn 21 [(7, iS v2), (10, .own 1 0 c1q2.length), (13, .own 3 0 r9119.length), (92, bS false), (95, .gd true (bS false))] [(0, .row 26 (Enc.cells d)), (1, .row 45 (fl c1q2)), (2, .row 29 (Enc.cells c2q2)), (3, .row 45 (fl r9119))] 4 (by kernel_rfl) ?_
                    refine rs 4 [] [] (by kernel_rfl) allP_nil ?_
                    refine rf [(10, .own 1 0 c1q2.length), (13, .own 3 0 r9119.length), (99, bS false)] [(0, .row 26 (Enc.cells d)), (1, .row 45 (fl c1q2)), (2, .row 29 (Enc.cells c2q2)), (3, .row 45 (fl r9119))] 4 (by kernel_rfl) ?_
                    exact hK9137 () _ _ _ trivial (leSt_m [(0, 0), (1, 1), (2, 2), (3, 3)] [] (by first | ((try simp only [g9138, g9139, g9144]) <;> simp only [push_cast, leL_flD, renL_flD, seval]; done) | ((try simp only [g9138]); (try simp only [g9139]); (try simp only [g9144]); simp only [push_cast, leL_flD, renL_flD, seval]; done) | (exfalso; clear h; simp_all; done)) (by first | ((try simp only [g9138, g9139, g9144]) <;> simp only [push_cast, leL_flD, renL_flD, seval]; done) | ((try simp only [g9138]); (try simp only [g9139]); (try simp only [g9144]); simp only [push_cast, leL_flD, renL_flD, seval]; done) | (exfalso; clear h; simp_all; done)) rfl rfl rfl)
            · dsimp only
              refine cond_sx h (by kernel_rfl) (fun g9147 h => ?_) (fun g9147 h => ?_)
              · refine seq_np ?_
                refine reg_f ?_
                refine rs 1 [] [] (by kernel_rfl) allP_nil ?_
                refine rf [(4, bS false)] [(0, .row 26 (Enc.cells d)), (1, .row 45 (fl c1q2)), (2, .row 29 (Enc.cells c2q2)), (3, .row 45 (fl r9119))] 4 (by kernel_rfl) ?_
                refine wk_id ?_
                obtain rfl := Option.some.inj h
                refine ret_at (bS false) (by kernel_rfl) ?_
                exact ret_e [] [] (by simp only [push_cast, leL_flD, renL_flD, seval]) (by simp only [push_cast, leL_flD, renL_flD, seval]) rfl rfl rfl
              · refine wk_id ?_
                refine seq_np ?_
                refine reg_f ?_
                refine rs 2 [] [] (by kernel_rfl) allP_nil ?_
                obtain ⟨r9146, hr9146, h⟩ := bind_sx h
                refine call_x (taskmillref_SameItems_spec c1q2 r9119 r9146 hr9146) (args := [.own 1 0 c1q2.length, .own 3 0 r9119.length]) (dst := (some 102)) (by kernel_rfl) [(0, .row 26 (Enc.cells d)), (1, .row 45 (fl c1q2)), (2, .row 29 (Enc.cells c2q2)), (3, .row 45 (fl r9119))] 4 (by kernel_rfl) [] [1, 3] (bS r9146) [] (by simp only [push_cast, leL_flD, renL_flD, seval]) (by simp only [push_cast, leL_flD, renL_flD, seval]) (by kernel_rfl) (.inr ⟨by simp only [push_cast, leL_flD, renL_flD, seval], by simp only [push_cast, leL_flD, renL_flD, seval]⟩) (by simp only [push_cast, leL_flD, renL_flD, seval]) (by simp only [push_cast, leL_flD, renL_flD, seval]) ?_
                refine rs 1 [] [] (by kernel_rfl) allP_nil ?_
                refine rf [(4, bS r9146)] [(0, .row 26 (Enc.cells d)), (1, .row 45 (fl c1q2)), (2, .row 29 (Enc.cells c2q2)), (3, .row 45 (fl r9119))] 4 (by kernel_rfl) ?_
                refine wk_id ?_
                obtain rfl := Option.some.inj h
                refine ret_at (bS r9146) (by kernel_rfl) ?_
                exact ret_e [] [] (by simp only [push_cast, leL_flD, renL_flD, seval]) (by simp only [push_cast, leL_flD, renL_flD, seval]) rfl rfl rfl

end Go.Proofs.Yticigkhhhmiglaa
