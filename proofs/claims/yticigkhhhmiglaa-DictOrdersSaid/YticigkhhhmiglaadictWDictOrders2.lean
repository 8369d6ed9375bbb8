/-
  What laws of the chapter dict compute, and lemmas on it.
  No conditions.
-/
import Derived.Test.YticigkhhhmiglaadictWDictOrders1
set_option linter.unusedSimpArgs false
set_option linter.unusedVariables false
namespace Go.Proofs.Yticigkhhhmiglaa
open Go Go.Sx
attribute [local irreducible] Wk RunAt
set_option maxRecDepth 100000 in
set_option maxHeartbeats 200000000 in
theorem taskmilllaw_DictOrders_spec (keys : (List Int)) (xby : Int) (r : Bool) (h : taskmilllaw_DictOrders keys xby = some r) : SpecW Try.prog 3 [.sl keys.length (fl keys), iS xby] [] 0 (fun x h n => x = bS r ∧ h = [] ∧ n = 0) := by
  unfold taskmilllaw_DictOrders at h
  refine spec_of (draw_ok _) Try.func3 rfl (by decide) rfl (by kernel_rfl) ?_
  refine seq_np ?_
  refine reg_f ?_
  refine rs 1 [] [] (by kernel_rfl) allP_nil ?_
  refine rf [(0, .sl keys.length (fl keys)), (1, iS xby)] [] 0 (by kernel_rfl) ?_
  refine wk_id ?_
  refine seq_np ?_
  refine seq_np ?_
  refine reg_f ?_
  obtain ⟨r2867, hr2867, h⟩ := bind_sx h
  refine run_call 8 [] (some 16) (by kernel_rfl) ?_
  refine call_0 (taskmilllaw_dictBegun_spec r2867 hr2867) (by simp only [push_cast, leL_flD, renL_flD, seval]) (by simp only [push_cast, leL_flD, renL_flD, seval]) ?_
  refine back_f ?_
  refine rs 1 [] [] (by kernel_rfl) allP_nil ?_
  refine rf [(0, .sl keys.length (fl keys)), (1, iS xby), (17, bS (!r2867))] [] 0 (by kernel_rfl) ?_
  refine wk_id ?_
  refine cond_sx h (by kernel_rfl) (fun g3039 h => ?_) (fun g3039 h => ?_)
  · refine seq_np ?_
    refine reg_f ?_
    refine rs 1 [] [] (by kernel_rfl) allP_nil ?_
    refine rf [(4, bS false)] [] 0 (by kernel_rfl) ?_
    refine wk_id ?_
    obtain rfl := Option.some.inj h
    refine ret_at (bS false) (by kernel_rfl) ?_
    exact ret_e [] [] (by simp only [push_cast, leL_flD, renL_flD, seval]) (by simp only [push_cast, leL_flD, renL_flD, seval]) rfl rfl rfl
  · refine wk_id ?_
    refine seq_np ?_
    refine seq_cut (A := Unit) (fun _ => ([(0, .sl keys.length (fl keys)), (1, iS xby), (24, bS ((decide ((100 : Int) < ((keys.length : Nat) : Int))) || (decide (xby < 0))))], [], 0)) (fun _ => True) (fun K2871 hK2871 => ?_) (fun _ _ => ?_)
    · refine reg_f ?_
      refine rs 4 [] [] (by kernel_rfl) allP_nil ?_
      refine run_split 21 (decide ((100 : Int) < ((keys.length : Nat) : Int))) (.inl (by kernel_rfl)) (fun g2872 => ?_) (fun g2872 => ?_)
      · refine rs 3 [] [] (by kernel_rfl) allP_nil ?_
        refine rf [(0, .sl keys.length (fl keys)), (1, iS xby), (24, bS true)] [] 0 (by kernel_rfl) ?_
        exact hK2871 () _ _ _ trivial (leSt_m [] [] (by (try simp only [g2872]) <;> simp only [push_cast, leL_flD, renL_flD, seval]) (by (try simp only [g2872]) <;> simp only [push_cast, leL_flD, renL_flD, seval]) rfl rfl rfl)
      · refine rs 3 [] [] (by kernel_rfl) allP_nil ?_
        refine rf [(0, .sl keys.length (fl keys)), (1, iS xby), (24, bS (decide (xby < 0)))] [] 0 (by kernel_rfl) ?_
        exact hK2871 () _ _ _ trivial (leSt_m [] [] (by (try simp only [g2872]) <;> simp only [push_cast, leL_flD, renL_flD, seval]) (by (try simp only [g2872]) <;> simp only [push_cast, leL_flD, renL_flD, seval]) rfl rfl rfl)
    · dsimp only
      refine cond_sx h (by kernel_rfl) (fun g3038 h => ?_) (fun g3038 h => ?_)
      · refine seq_np ?_
        refine reg_f ?_
        refine rs 1 [] [] (by kernel_rfl) allP_nil ?_
        refine rf [(4, bS true)] [] 0 (by kernel_rfl) ?_
        refine wk_id ?_
        obtain rfl := Option.some.inj h
        refine ret_at (bS true) (by kernel_rfl) ?_
        exact ret_e [] [] (by simp only [push_cast, leL_flD, renL_flD, seval]) (by simp only [push_cast, leL_flD, renL_flD, seval]) rfl rfl rfl
      · refine wk_id ?_
        refine seq_np ?_
        refine reg_f ?_
        obtain ⟨r2875, hr2875, h⟩ := bind_sx h
        refine call_x (dict_New_spec r2875 hr2875) (args := []) (dst := (some 25)) (by kernel_rfl) [] 0 (by kernel_rfl) [] [] (.agg [iS r2875.1, .own 0 0 r2875.2.1.length, .own 1 0 r2875.2.2.length]) [(0, .row 3 (fl r2875.2.1)), (1, .row 43 (fl r2875.2.2))] (by simp only [push_cast, leL_flD, renL_flD, seval]) (by simp only [push_cast, leL_flD, renL_flD, seval]) (by kernel_rfl) (.inl rfl) (by simp only [push_cast, leL_flD, renL_flD, seval]) (by simp only [push_cast, leL_flD, renL_flD, seval]) ?_
        obtain ⟨r2876, hr2876, h⟩ := bind_sx h
        refine call_x (dict_New_spec r2876 hr2876) (args := []) (dst := (some 26)) (by kernel_rfl) [(0, .row 3 (fl r2875.2.1)), (1, .row 43 (fl r2875.2.2))] 2 (by kernel_rfl) [] [] (.agg [iS r2876.1, .own 2 0 r2876.2.1.length, .own 3 0 r2876.2.2.length]) [(2, .row 3 (fl r2876.2.1)), (3, .row 43 (fl r2876.2.2))] (by simp only [push_cast, leL_flD, renL_flD, seval]) (by simp only [push_cast, leL_flD, renL_flD, seval]) (by kernel_rfl) (.inl rfl) (by simp only [push_cast, leL_flD, renL_flD, seval]) (by simp only [push_cast, leL_flD, renL_flD, seval]) ?_
        refine rs 4 [] [] (by kernel_rfl) allP_nil ?_
        refine rf [(0, .sl keys.length (fl keys)), (1, iS xby), (5, .ptr 4 0), (6, .ptr 5 0)] [(0, .row 3 (fl r2875.2.1)), (1, .row 43 (fl r2875.2.2)), (2, .row 3 (fl r2876.2.1)), (3, .row 43 (fl r2876.2.2)), (4, .row 26 [iS r2875.1, .own 0 0 r2875.2.1.length, .own 1 0 r2875.2.2.length]), (5, .row 26 [iS r2876.1, .own 2 0 r2876.2.1.length, .own 3 0 r2876.2.2.length])] 6 (by kernel_rfl) ?_
        refine wk_id ?_
        refine seq_np ?_
        refine seq_np ?_
        refine reg_f ?_
        refine rs 1 [] [] (by kernel_rfl) allP_nil ?_
        refine rf [(0, .sl keys.length (fl keys)), (1, iS xby), (5, .ptr 4 0), (6, .ptr 5 0), (7, iS 0)] [(0, .row 3 (fl r2875.2.1)), (1, .row 43 (fl r2875.2.2)), (2, .row 3 (fl r2876.2.1)), (3, .row 43 (fl r2876.2.2)), (4, .row 26 [iS r2875.1, .own 0 0 r2875.2.1.length, .own 1 0 r2875.2.2.length]), (5, .row 26 [iS r2876.1, .own 2 0 r2876.2.1.length, .own 3 0 r2876.2.2.length])] 6 (by kernel_rfl) ?_
        refine wk_id ?_
        refine block_np ?_
        refine loop_sx (S := Int × Int × (List Bucket) × Int × (List Bucket) × (List Int) × (List Int)) (fun a => ([(0, .sl keys.length (fl keys)), (1, iS xby), (5, .ptr 0 0), (6, .ptr 1 0), (7, iS a.1)], [(0, .row 26 [iS a.2.1, .own 2 0 a.2.2.2.2.2.1.length, .sl a.2.2.1.length (fl a.2.2.1)]), (1, .row 26 [iS a.2.2.2.1, .own 3 0 a.2.2.2.2.2.2.length, .sl a.2.2.2.2.1.length (fl a.2.2.2.2.1)]), (2, .row 3 (fl a.2.2.2.2.2.1)), (3, .row 3 (fl a.2.2.2.2.2.2))], 4)) h (leSt_m [(0, 4), (1, 5), (2, 0), (3, 2)] [1, 3] (by simp only [leS_frz, leS_cut, leL_flD, renL_flD, push_cast, seval]) (by simp only [leS_frz, leS_cut, leL_flD, renL_flD, push_cast, seval]) rfl rfl rfl) ?_
        rintro ⟨i7, c0_Depth11, c0_Buckets7, c1_Depth11, c1_Buckets7, c2q11, c3q11⟩ o2 R2 h hr2 hn2 hx2 ht2
        try dsimp only at h hn2 ⊢
        unfold taskmilllaw_DictOrders_l1 at h
        try dsimp only at h
        refine seq_np ?_
        refine seq_np ?_
        refine reg_f ?_
        refine rs 4 [] [] (by kernel_rfl) allP_nil ?_
        refine rf [(0, .sl keys.length (fl keys)), (1, iS xby), (5, .ptr 0 0), (6, .ptr 1 0), (7, iS i7), (30, bS (decide (i7 < ((keys.length : Nat) : Int))))] [(0, .row 26 [iS c0_Depth11, .own 2 0 c2q11.length, .sl c0_Buckets7.length (fl c0_Buckets7)]), (1, .row 26 [iS c1_Depth11, .own 3 0 c3q11.length, .sl c1_Buckets7.length (fl c1_Buckets7)]), (2, .row 3 (fl c2q11)), (3, .row 3 (fl c3q11))] 4 (by kernel_rfl) ?_
        refine wk_id ?_
        refine cond_sx h (by kernel_rfl) (fun g3037 h => ?_) (fun g3037 h => ?_)
        · refine wk_id ?_
          refine seq_np ?_
          refine block_np ?_
          refine chk_sx h (fun g3012 h => ?_)
          refine seq_np ?_
          refine reg_f ?_
          have k3011 : 0 ≤ i7 ∧ i7 < ((keys.length : Nat) : Int) := by first | simpa only [Bool.and_eq_true, decide_eq_true_eq, bne_iff_ne, ne_eq] using g3012 | (simp at g3012 ⊢; omega)
          refine rs 5 [none, none, some ⟨.iptr (fl keys) ((i7).toNat * 1), [], 4, []⟩, some ⟨iS (ix keys i7), [], 4, []⟩] _ (by kernel_rfl) (allP_cons (ob_ld keys i7 1 0 ((i7).toNat * 1) k3011 rfl (by decide) (by first | rfl | omega) (dflS Try.prog 3) (iS (ix keys i7)) rfl 4 []) (allP_cons (ob_ix_l keys 1 4 i7 k3011) allP_nil)) ?_
          refine rf [(0, .sl keys.length (fl keys)), (1, iS xby), (5, .ptr 0 0), (6, .ptr 1 0), (7, iS i7), (8, iS (ix keys i7))] [(0, .row 26 [iS c0_Depth11, .own 2 0 c2q11.length, .sl c0_Buckets7.length (fl c0_Buckets7)]), (1, .row 26 [iS c1_Depth11, .own 3 0 c3q11.length, .sl c1_Buckets7.length (fl c1_Buckets7)]), (2, .row 3 (fl c2q11)), (3, .row 3 (fl c3q11))] 4 (by kernel_rfl) ?_
          refine wk_mk [(0, .sl keys.length (fl keys)), (1, iS xby), (5, .ptr 0 0), (6, .ptr 1 0), (7, iS i7), (8, iS (ix keys i7))] [(0, .row 26 [iS c0_Depth11, .sl c2q11.length (fl c2q11), .sl c0_Buckets7.length (fl c0_Buckets7)]), (1, .row 26 [iS c1_Depth11, .own 3 0 c3q11.length, .sl c1_Buckets7.length (fl c1_Buckets7)]), (3, .row 3 (fl c3q11))] 4 (leSt_m [(0, 0), (1, 1), (3, 3)] [2] (by simp only [leS_frz, leS_cut, leL_flD, renL_flD, push_cast, seval]) (by simp only [leS_frz, leS_cut, leL_flD, renL_flD, push_cast, seval]) rfl rfl rfl) ?_
          refine seq_np ?_
          refine reg_f ?_
          refine rs 3 [] [] (by kernel_rfl) allP_nil ?_
          obtain ⟨r3014, hr3014, h⟩ := bind_sx h
          refine call_x (dict_Put_spec (Dict.mk c0_Depth11 c2q11 c0_Buckets7) (ix keys i7) (ix keys i7) r3014 hr3014) (args := [.agg [iS c0_Depth11, .sl c2q11.length (fl c2q11), .sl c0_Buckets7.length (fl c0_Buckets7)], iS (ix keys i7), iS (ix keys i7)]) (dst := (some 41)) (by kernel_rfl) [(0, .row 26 [iS c0_Depth11, .sl c2q11.length (fl c2q11), .sl c0_Buckets7.length (fl c0_Buckets7)]), (1, .row 26 [iS c1_Depth11, .own 3 0 c3q11.length, .sl c1_Buckets7.length (fl c1_Buckets7)]), (3, .row 3 (fl c3q11))] 4 (by kernel_rfl) [] [] (.tup [.agg [iS r3014.1, .own 4 0 r3014.2.2.2.2.length, .sl r3014.2.1.length (fl r3014.2.1)], bS r3014.2.2.1, .agg (Enc.cells r3014.2.2.2.1)]) [(4, .row 3 (fl r3014.2.2.2.2))] (by simp only [push_cast, leL_flD, renL_flD, seval]) (by simp only [push_cast, leL_flD, renL_flD, seval]) (by kernel_rfl) (.inl rfl) (by simp only [push_cast, leL_flD, renL_flD, seval]) (by simp only [push_cast, leL_flD, renL_flD, seval]) ?_
          refine rs 9 [] [] (by kernel_rfl) allP_nil ?_
          refine rf [(0, .sl keys.length (fl keys)), (1, iS xby), (5, .ptr 0 0), (6, .ptr 1 0), (7, iS i7), (9, .ptr 5 0), (11, .ptr 6 0)] [(0, .row 26 [iS c0_Depth11, .sl c2q11.length (fl c2q11), .sl c0_Buckets7.length (fl c0_Buckets7)]), (1, .row 26 [iS c1_Depth11, .own 3 0 c3q11.length, .sl c1_Buckets7.length (fl c1_Buckets7)]), (3, .row 3 (fl c3q11)), (4, .row 3 (fl r3014.2.2.2.2)), (5, .row 26 [iS r3014.1, .own 4 0 r3014.2.2.2.2.length, .sl r3014.2.1.length (fl r3014.2.1)]), (6, .row 29 (Enc.cells r3014.2.2.2.1))] 7 (by kernel_rfl) ?_
          refine wk_id ?_
          refine chk_sx h (fun g3022 h => ?_)
          refine chk_sx h (fun g3024 h => ?_)
          refine chk_sx h (fun g3026 h => ?_)
          refine seq_np ?_
          refine reg_f ?_
          have k3021 : ((keys.length : Nat) : Int) ≠ 0 := by first | simpa only [Bool.and_eq_true, decide_eq_true_eq, bne_iff_ne, ne_eq] using g3022 | (simp at g3022 ⊢; omega)
          have k3023 : ((keys.length : Nat) : Int) ≠ 0 := by first | simpa only [Bool.and_eq_true, decide_eq_true_eq, bne_iff_ne, ne_eq] using g3024 | (simp at g3024 ⊢; omega)
          have k3025 : 0 ≤ (Int.tmod (IntKind.i64.wrap ((IntKind.i64.wrap ((Int.tmod xby ((keys.length : Nat) : Int)) + ((keys.length : Nat) : Int))) - i7)) ((keys.length : Nat) : Int)) ∧ (Int.tmod (IntKind.i64.wrap ((IntKind.i64.wrap ((Int.tmod xby ((keys.length : Nat) : Int)) + ((keys.length : Nat) : Int))) - i7)) ((keys.length : Nat) : Int)) < ((keys.length : Nat) : Int) := by first | simpa only [Bool.and_eq_true, decide_eq_true_eq, bne_iff_ne, ne_eq] using g3026 | (simp at g3026 ⊢; omega)
          refine rs 16 [none, none, none, none, some ⟨iS (Int.tmod xby ((keys.length : Nat) : Int)), [], 7, []⟩, none, none, none, none, none, none, none, some ⟨iS (Int.tmod (IntKind.i64.wrap ((IntKind.i64.wrap ((Int.tmod xby ((keys.length : Nat) : Int)) + ((keys.length : Nat) : Int))) - i7)) ((keys.length : Nat) : Int)), [], 7, []⟩, some ⟨.iptr (fl keys) (((Int.tmod (IntKind.i64.wrap ((IntKind.i64.wrap ((Int.tmod xby ((keys.length : Nat) : Int)) + ((keys.length : Nat) : Int))) - i7)) ((keys.length : Nat) : Int))).toNat * 1), [], 7, []⟩, some ⟨iS (ix keys (Int.tmod (IntKind.i64.wrap ((IntKind.i64.wrap ((Int.tmod xby ((keys.length : Nat) : Int)) + ((keys.length : Nat) : Int))) - i7)) ((keys.length : Nat) : Int))), [], 7, []⟩] _ (by kernel_rfl) (allP_cons (ob_ld keys (Int.tmod (IntKind.i64.wrap ((IntKind.i64.wrap ((Int.tmod xby ((keys.length : Nat) : Int)) + ((keys.length : Nat) : Int))) - i7)) ((keys.length : Nat) : Int)) 1 0 (((Int.tmod (IntKind.i64.wrap ((IntKind.i64.wrap ((Int.tmod xby ((keys.length : Nat) : Int)) + ((keys.length : Nat) : Int))) - i7)) ((keys.length : Nat) : Int))).toNat * 1) k3025 rfl (by decide) (by first | rfl | omega) (dflS Try.prog 3) (iS (ix keys (Int.tmod (IntKind.i64.wrap ((IntKind.i64.wrap ((Int.tmod xby ((keys.length : Nat) : Int)) + ((keys.length : Nat) : Int))) - i7)) ((keys.length : Nat) : Int)))) rfl 7 []) (allP_cons (ob_ix_l keys 1 7 (Int.tmod (IntKind.i64.wrap ((IntKind.i64.wrap ((Int.tmod xby ((keys.length : Nat) : Int)) + ((keys.length : Nat) : Int))) - i7)) ((keys.length : Nat) : Int)) k3025) (allP_cons (ob_p (v := iS (Int.tmod (IntKind.i64.wrap ((IntKind.i64.wrap ((Int.tmod xby ((keys.length : Nat) : Int)) + ((keys.length : Nat) : Int))) - i7)) ((keys.length : Nat) : Int))) (nx := 7) (r := []) k3023) (allP_cons (ob_p (v := iS (Int.tmod xby ((keys.length : Nat) : Int))) (nx := 7) (r := []) k3021) allP_nil)))) ?_
          refine rf [(0, .sl keys.length (fl keys)), (1, iS xby), (5, .ptr 0 0), (6, .ptr 1 0), (7, iS i7), (9, .ptr 5 0), (11, .ptr 6 0), (12, iS (ix keys (Int.tmod (IntKind.i64.wrap ((IntKind.i64.wrap ((Int.tmod xby ((keys.length : Nat) : Int)) + ((keys.length : Nat) : Int))) - i7)) ((keys.length : Nat) : Int))))] [(0, .row 26 [iS c0_Depth11, .sl c2q11.length (fl c2q11), .sl c0_Buckets7.length (fl c0_Buckets7)]), (1, .row 26 [iS c1_Depth11, .own 3 0 c3q11.length, .sl c1_Buckets7.length (fl c1_Buckets7)]), (3, .row 3 (fl c3q11)), (4, .row 3 (fl r3014.2.2.2.2)), (5, .row 26 [iS r3014.1, .own 4 0 r3014.2.2.2.2.length, .sl r3014.2.1.length (fl r3014.2.1)]), (6, .row 29 (Enc.cells r3014.2.2.2.1))] 7 (by kernel_rfl) ?_
          refine wk_mk [(0, .sl keys.length (fl keys)), (1, iS xby), (5, .ptr 0 0), (6, .ptr 1 0), (7, iS i7), (9, .ptr 5 0), (11, .ptr 6 0), (12, iS (ix keys (Int.tmod (IntKind.i64.wrap ((IntKind.i64.wrap ((Int.tmod xby ((keys.length : Nat) : Int)) + ((keys.length : Nat) : Int))) - i7)) ((keys.length : Nat) : Int))))] [(0, .row 26 [iS c0_Depth11, .sl c2q11.length (fl c2q11), .sl c0_Buckets7.length (fl c0_Buckets7)]), (1, .row 26 [iS c1_Depth11, .sl c3q11.length (fl c3q11), .sl c1_Buckets7.length (fl c1_Buckets7)]), (4, .row 3 (fl r3014.2.2.2.2)), (5, .row 26 [iS r3014.1, .own 4 0 r3014.2.2.2.2.length, .sl r3014.2.1.length (fl r3014.2.1)]), (6, .row 29 (Enc.cells r3014.2.2.2.1))] 7 (leSt_m [(0, 0), (1, 1), (4, 4), (5, 5), (6, 6)] [3] (by simp only [leS_frz, leS_cut, leL_flD, renL_flD, push_cast, seval]) (by simp only [leS_frz, leS_cut, leL_flD, renL_flD, push_cast, seval]) rfl rfl rfl) ?_
          refine seq_np ?_
          refine reg_f ?_
          refine rs 3 [] [] (by kernel_rfl) allP_nil ?_
          obtain ⟨r3028, hr3028, h⟩ := bind_sx h
          refine call_x (dict_Put_spec (Dict.mk c1_Depth11 c3q11 c1_Buckets7) (ix keys (Int.tmod (IntKind.i64.wrap ((IntKind.i64.wrap ((Int.tmod xby ((keys.length : Nat) : Int)) + ((keys.length : Nat) : Int))) - i7)) ((keys.length : Nat) : Int))) (ix keys (Int.tmod (IntKind.i64.wrap ((IntKind.i64.wrap ((Int.tmod xby ((keys.length : Nat) : Int)) + ((keys.length : Nat) : Int))) - i7)) ((keys.length : Nat) : Int))) r3028 hr3028) (args := [.agg [iS c1_Depth11, .sl c3q11.length (fl c3q11), .sl c1_Buckets7.length (fl c1_Buckets7)], iS (ix keys (Int.tmod (IntKind.i64.wrap ((IntKind.i64.wrap ((Int.tmod xby ((keys.length : Nat) : Int)) + ((keys.length : Nat) : Int))) - i7)) ((keys.length : Nat) : Int))), iS (ix keys (Int.tmod (IntKind.i64.wrap ((IntKind.i64.wrap ((Int.tmod xby ((keys.length : Nat) : Int)) + ((keys.length : Nat) : Int))) - i7)) ((keys.length : Nat) : Int)))]) (dst := (some 64)) (by kernel_rfl) [(0, .row 26 [iS c0_Depth11, .sl c2q11.length (fl c2q11), .sl c0_Buckets7.length (fl c0_Buckets7)]), (1, .row 26 [iS c1_Depth11, .sl c3q11.length (fl c3q11), .sl c1_Buckets7.length (fl c1_Buckets7)]), (4, .row 3 (fl r3014.2.2.2.2)), (5, .row 26 [iS r3014.1, .own 4 0 r3014.2.2.2.2.length, .sl r3014.2.1.length (fl r3014.2.1)]), (6, .row 29 (Enc.cells r3014.2.2.2.1))] 7 (by kernel_rfl) [] [] (.tup [.agg [iS r3028.1, .own 7 0 r3028.2.2.2.2.length, .sl r3028.2.1.length (fl r3028.2.1)], bS r3028.2.2.1, .agg (Enc.cells r3028.2.2.2.1)]) [(7, .row 3 (fl r3028.2.2.2.2))] (by simp only [push_cast, leL_flD, renL_flD, seval]) (by simp only [push_cast, leL_flD, renL_flD, seval]) (by kernel_rfl) (.inl rfl) (by simp only [push_cast, leL_flD, renL_flD, seval]) (by simp only [push_cast, leL_flD, renL_flD, seval]) ?_
          refine rs 9 [] [] (by kernel_rfl) allP_nil ?_
          refine rf [(0, .sl keys.length (fl keys)), (1, iS xby), (5, .ptr 0 0), (6, .ptr 1 0), (7, iS i7), (9, .ptr 5 0), (11, .ptr 6 0), (13, .ptr 8 0), (15, .ptr 9 0)] [(0, .row 26 [iS c0_Depth11, .sl c2q11.length (fl c2q11), .sl c0_Buckets7.length (fl c0_Buckets7)]), (1, .row 26 [iS c1_Depth11, .sl c3q11.length (fl c3q11), .sl c1_Buckets7.length (fl c1_Buckets7)]), (4, .row 3 (fl r3014.2.2.2.2)), (5, .row 26 [iS r3014.1, .own 4 0 r3014.2.2.2.2.length, .sl r3014.2.1.length (fl r3014.2.1)]), (6, .row 29 (Enc.cells r3014.2.2.2.1)), (7, .row 3 (fl r3028.2.2.2.2)), (8, .row 26 [iS r3028.1, .own 7 0 r3028.2.2.2.2.length, .sl r3028.2.1.length (fl r3028.2.1)]), (9, .row 29 (Enc.cells r3028.2.2.2.1))] 10 (by kernel_rfl) ?_
          refine wk_id ?_
          refine seq_np ?_
          refine seq_cut (A := Unit) (fun _ => ([(0, .sl keys.length (fl keys)), (1, iS xby), (5, .ptr 0 0), (6, .ptr 1 0), (7, iS i7), (9, .ptr 5 0), (13, .ptr 8 0), (75, bS ((r3014.2.2.2.1.Code != 0) || (r3028.2.2.2.1.Code != 0)))], [(0, .row 26 [iS c0_Depth11, .sl c2q11.length (fl c2q11), .sl c0_Buckets7.length (fl c0_Buckets7)]), (1, .row 26 [iS c1_Depth11, .sl c3q11.length (fl c3q11), .sl c1_Buckets7.length (fl c1_Buckets7)]), (4, .row 3 (fl r3014.2.2.2.2)), (5, .row 26 [iS r3014.1, .own 4 0 r3014.2.2.2.2.length, .sl r3014.2.1.length (fl r3014.2.1)]), (6, .row 29 (Enc.cells r3014.2.2.2.1)), (7, .row 3 (fl r3028.2.2.2.2)), (8, .row 26 [iS r3028.1, .own 7 0 r3028.2.2.2.2.length, .sl r3028.2.1.length (fl r3028.2.1)]), (9, .row 29 (Enc.cells r3028.2.2.2.1))], 10)) (fun _ => True) (fun K3032 hK3032 => ?_) (fun _ _ => ?_)
          · refine reg_f ?_
            refine rs 4 [] [] (by kernel_rfl) allP_nil ?_
            refine run_split 71 (r3014.2.2.2.1.Code != 0) (.inl (by kernel_rfl)) (fun g3033 => ?_) (fun g3033 => ?_)
            · refine rs 4 [] [] (by kernel_rfl) allP_nil ?_
              refine rf [(0, .sl keys.length (fl keys)), (1, iS xby), (5, .ptr 0 0), (6, .ptr 1 0), (7, iS i7), (9, .ptr 5 0), (13, .ptr 8 0), (75, bS true)] [(0, .row 26 [iS c0_Depth11, .sl c2q11.length (fl c2q11), .sl c0_Buckets7.length (fl c0_Buckets7)]), (1, .row 26 [iS c1_Depth11, .sl c3q11.length (fl c3q11), .sl c1_Buckets7.length (fl c1_Buckets7)]), (4, .row 3 (fl r3014.2.2.2.2)), (5, .row 26 [iS r3014.1, .own 4 0 r3014.2.2.2.2.length, .sl r3014.2.1.length (fl r3014.2.1)]), (6, .row 29 (Enc.cells r3014.2.2.2.1)), (7, .row 3 (fl r3028.2.2.2.2)), (8, .row 26 [iS r3028.1, .own 7 0 r3028.2.2.2.2.length, .sl r3028.2.1.length (fl r3028.2.1)]), (9, .row 29 (Enc.cells r3028.2.2.2.1))] 10 (by kernel_rfl) ?_
              exact hK3032 () _ _ _ trivial (leSt_m [(0, 0), (1, 1), (4, 4), (5, 5), (6, 6), (7, 7), (8, 8), (9, 9)] [] (by (try simp only [g3033]) <;> simp only [push_cast, leL_flD, renL_flD, seval]) (by (try simp only [g3033]) <;> simp only [push_cast, leL_flD, renL_flD, seval]) rfl rfl rfl)
            · refine rs 4 [] [] (by kernel_rfl) allP_nil ?_
              refine rf [(0, .sl keys.length (fl keys)), (1, iS xby), (5, .ptr 0 0), (6, .ptr 1 0), (7, iS i7), (9, .ptr 5 0), (13, .ptr 8 0), (75, bS (r3028.2.2.2.1.Code != 0))] [(0, .row 26 [iS c0_Depth11, .sl c2q11.length (fl c2q11), .sl c0_Buckets7.length (fl c0_Buckets7)]), (1, .row 26 [iS c1_Depth11, .sl c3q11.length (fl c3q11), .sl c1_Buckets7.length (fl c1_Buckets7)]), (4, .row 3 (fl r3014.2.2.2.2)), (5, .row 26 [iS r3014.1, .own 4 0 r3014.2.2.2.2.length, .sl r3014.2.1.length (fl r3014.2.1)]), (6, .row 29 (Enc.cells r3014.2.2.2.1)), (7, .row 3 (fl r3028.2.2.2.2)), (8, .row 26 [iS r3028.1, .own 7 0 r3028.2.2.2.2.length, .sl r3028.2.1.length (fl r3028.2.1)]), (9, .row 29 (Enc.cells r3028.2.2.2.1))] 10 (by kernel_rfl) ?_
              exact hK3032 () _ _ _ trivial (leSt_m [(0, 0), (1, 1), (4, 4), (5, 5), (6, 6), (7, 7), (8, 8), (9, 9)] [] (by (try simp only [g3033]) <;> simp only [push_cast, leL_flD, renL_flD, seval]) (by (try simp only [g3033]) <;> simp only [push_cast, leL_flD, renL_flD, seval]) rfl rfl rfl)
          · dsimp only
            refine cond_sx h (by kernel_rfl) (fun g3034 h => ?_) (fun g3034 h => ?_)
            · refine seq_np ?_
              refine reg_f ?_
              refine rs 1 [] [] (by kernel_rfl) allP_nil ?_
              refine rf [(4, bS false)] [(0, .row 26 [iS c0_Depth11, .sl c2q11.length (fl c2q11), .sl c0_Buckets7.length (fl c0_Buckets7)]), (1, .row 26 [iS c1_Depth11, .sl c3q11.length (fl c3q11), .sl c1_Buckets7.length (fl c1_Buckets7)]), (4, .row 3 (fl r3014.2.2.2.2)), (5, .row 26 [iS r3014.1, .own 4 0 r3014.2.2.2.2.length, .sl r3014.2.1.length (fl r3014.2.1)]), (6, .row 29 (Enc.cells r3014.2.2.2.1)), (7, .row 3 (fl r3028.2.2.2.2)), (8, .row 26 [iS r3028.1, .own 7 0 r3028.2.2.2.2.length, .sl r3028.2.1.length (fl r3028.2.1)]), (9, .row 29 (Enc.cells r3028.2.2.2.1))] 10 (by kernel_rfl) ?_
              refine wk_id ?_
              refine rt_cast ht2 ?_
              obtain ⟨r0, h, e0⟩ := map_sx h
              have e1 := hr2 r0 e0.symm
              subst r0
              obtain rfl := Option.some.inj h
              refine ret_at (bS false) (by kernel_rfl) ?_
              exact ret_e [] [] (by simp only [push_cast, leL_flD, renL_flD, seval]) (by simp only [push_cast, leL_flD, renL_flD, seval]) rfl rfl rfl
            · refine wk_id ?_
              refine seq_np ?_
              refine reg_f ?_
              refine rs 2 [] [] (by kernel_rfl) allP_nil ?_
              refine rf [(0, .sl keys.length (fl keys)), (1, iS xby), (5, .ptr 0 0), (6, .ptr 1 0), (7, iS i7), (13, .ptr 8 0)] [(0, .row 26 [iS r3014.1, .own 4 0 r3014.2.2.2.2.length, .sl r3014.2.1.length (fl r3014.2.1)]), (1, .row 26 [iS c1_Depth11, .sl c3q11.length (fl c3q11), .sl c1_Buckets7.length (fl c1_Buckets7)]), (4, .row 3 (fl r3014.2.2.2.2)), (5, .row 26 [iS r3014.1, .own 4 0 r3014.2.2.2.2.length, .sl r3014.2.1.length (fl r3014.2.1)]), (6, .row 29 (Enc.cells r3014.2.2.2.1)), (7, .row 3 (fl r3028.2.2.2.2)), (8, .row 26 [iS r3028.1, .own 7 0 r3028.2.2.2.2.length, .sl r3028.2.1.length (fl r3028.2.1)]), (9, .row 29 (Enc.cells r3028.2.2.2.1))] 10 (by kernel_rfl) ?_
              refine wk_id ?_
              refine reg_f ?_
              refine rs 2 [] [] (by kernel_rfl) allP_nil ?_
              refine rf [(0, .sl keys.length (fl keys)), (1, iS xby), (5, .ptr 0 0), (6, .ptr 1 0), (7, iS i7)] [(0, .row 26 [iS r3014.1, .own 4 0 r3014.2.2.2.2.length, .sl r3014.2.1.length (fl r3014.2.1)]), (1, .row 26 [iS r3028.1, .own 7 0 r3028.2.2.2.2.length, .sl r3028.2.1.length (fl r3028.2.1)]), (4, .row 3 (fl r3014.2.2.2.2)), (5, .row 26 [iS r3014.1, .own 4 0 r3014.2.2.2.2.length, .sl r3014.2.1.length (fl r3014.2.1)]), (6, .row 29 (Enc.cells r3014.2.2.2.1)), (7, .row 3 (fl r3028.2.2.2.2)), (8, .row 26 [iS r3028.1, .own 7 0 r3028.2.2.2.2.length, .sl r3028.2.1.length (fl r3028.2.1)]), (9, .row 29 (Enc.cells r3028.2.2.2.1))] 10 (by kernel_rfl) ?_
              refine wk_id ?_
              refine wk_id ?_
              refine reg_f ?_
              refine rs 3 [] [] (by kernel_rfl) allP_nil ?_
              refine rf [(0, .sl keys.length (fl keys)), (1, iS xby), (5, .ptr 0 0), (6, .ptr 1 0), (7, iS (IntKind.i64.wrap (i7 + 1)))] [(0, .row 26 [iS r3014.1, .own 4 0 r3014.2.2.2.2.length, .sl r3014.2.1.length (fl r3014.2.1)]), (1, .row 26 [iS r3028.1, .own 7 0 r3028.2.2.2.2.length, .sl r3028.2.1.length (fl r3028.2.1)]), (4, .row 3 (fl r3014.2.2.2.2)), (5, .row 26 [iS r3014.1, .own 4 0 r3014.2.2.2.2.length, .sl r3014.2.1.length (fl r3014.2.1)]), (6, .row 29 (Enc.cells r3014.2.2.2.1)), (7, .row 3 (fl r3028.2.2.2.2)), (8, .row 26 [iS r3028.1, .own 7 0 r3028.2.2.2.2.length, .sl r3028.2.1.length (fl r3028.2.1)]), (9, .row 29 (Enc.cells r3028.2.2.2.1))] 10 (by kernel_rfl) ?_
              exact hn2 ((IntKind.i64.wrap (i7 + 1)), r3014.1, r3014.2.1, r3028.1, r3028.2.1, r3014.2.2.2.2, r3028.2.2.2.2) _ _ _ (Option.some.inj h).symm (leSt_m [(0, 0), (1, 1), (2, 4), (3, 7)] [] (by simp only [push_cast, leL_flD, renL_flD, seval]) (by simp only [push_cast, leL_flD, renL_flD, seval]) rfl rfl rfl)
        · change R2 (.exit 0) _ _ _
          refine ex_cast hx2 (id := 0) ?_
          obtain ⟨r0, h, e0⟩ := map_sx h
          have e1 := hr2 r0 e0.symm
          subst r0
          refine wk_id ?_
          refine wk_id ?_
          refine seq_np ?_
          refine reg_f ?_
          refine rs 2 [] [] (by kernel_rfl) allP_nil ?_
          obtain ⟨r3036, hr3036, h⟩ := bind_sx h
          refine call_x (taskmillref_SameDict_spec (Dict.mk c0_Depth11 c2q11 c0_Buckets7) (Dict.mk c1_Depth11 c3q11 c1_Buckets7) r3036 hr3036) (args := [.agg [iS c0_Depth11, .own 2 0 c2q11.length, .sl c0_Buckets7.length (fl c0_Buckets7)], .agg [iS c1_Depth11, .own 3 0 c3q11.length, .sl c1_Buckets7.length (fl c1_Buckets7)]]) (dst := (some 80)) (by kernel_rfl) [(0, .row 26 [iS c0_Depth11, .own 2 0 c2q11.length, .sl c0_Buckets7.length (fl c0_Buckets7)]), (1, .row 26 [iS c1_Depth11, .own 3 0 c3q11.length, .sl c1_Buckets7.length (fl c1_Buckets7)]), (2, .row 3 (fl c2q11)), (3, .row 3 (fl c3q11))] 4 (by kernel_rfl) [] [2, 3] (bS r3036) [] (by simp only [push_cast, leL_flD, renL_flD, seval]) (by simp only [push_cast, leL_flD, renL_flD, seval]) (by kernel_rfl) (.inr ⟨by simp only [push_cast, leL_flD, renL_flD, seval], by simp only [push_cast, leL_flD, renL_flD, seval]⟩) (by simp only [push_cast, leL_flD, renL_flD, seval]) (by simp only [push_cast, leL_flD, renL_flD, seval]) ?_
          refine rs 1 [] [] (by kernel_rfl) allP_nil ?_
          refine rf [(4, bS r3036)] [(0, .row 26 [iS c0_Depth11, .own 2 0 c2q11.length, .sl c0_Buckets7.length (fl c0_Buckets7)]), (1, .row 26 [iS c1_Depth11, .own 3 0 c3q11.length, .sl c1_Buckets7.length (fl c1_Buckets7)]), (2, .row 3 (fl c2q11)), (3, .row 3 (fl c3q11))] 4 (by kernel_rfl) ?_
          refine wk_id ?_
          obtain rfl := Option.some.inj h
          refine ret_at (bS r3036) (by kernel_rfl) ?_
          exact ret_e [] [] (by simp only [push_cast, leL_flD, renL_flD, seval]) (by simp only [push_cast, leL_flD, renL_flD, seval]) rfl rfl rfl

end Go.Proofs.Yticigkhhhmiglaa
