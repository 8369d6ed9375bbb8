/-
  What laws of the chapter sync compute, and lemmas on it.
  No conditions.
-/
import Derived.Test.YtoamlpgadgfhlaasyncW1
set_option linter.unusedSimpArgs false
set_option linter.unusedVariables false
namespace Go.Proofs.Ytoamlpgadgfhlaa
open Go Go.Sx
attribute [local irreducible] Wk RunAt
set_option maxRecDepth 100000 in
set_option maxHeartbeats 10000000 in
theorem taskmilllaw_SyncCounts_spec (free : Int) (moves : (List Int)) (r : Bool) (h : taskmilllaw_SyncCounts free moves = some r) : SpecW Try.prog 4 [iS free, .sl moves.length (fl moves)] [] 0 (fun x h n => x = bS r ∧ h = [] ∧ n = 0) := by
  unfold taskmilllaw_SyncCounts at h
  refine spec_of (draw_ok _) Try.func4 rfl (by decide) rfl (by kernel_rfl) ?_
  refine seq_np ?_
  refine reg_f ?_
  refine rs 1 [] [] (by kernel_rfl) allP_nil ?_
  refine rf [(0, iS free), (1, .sl moves.length (fl moves))] [] 0 (by kernel_rfl) ?_
  refine wk_id ?_
  refine seq_np ?_
  refine seq_np ?_
  refine reg_f ?_
  obtain ⟨r2000, hr2000, h⟩ := bind_sx h
  refine run_call 12 [] (some 20) (by kernel_rfl) ?_
  refine call_0 (taskmilllaw_syncBegun_spec r2000 hr2000) (by simp only [push_cast, seval]) (by simp only [push_cast, seval]) ?_
  refine back_f ?_
  refine rs 1 [] [] (by kernel_rfl) allP_nil ?_
  refine rf [(0, iS free), (1, .sl moves.length (fl moves)), (21, bS (!r2000))] [] 0 (by kernel_rfl) ?_
  refine wk_id ?_
  refine cond_sx h (by kernel_rfl) (fun g2777 h => ?_) (fun g2777 h => ?_)
  · refine seq_np ?_
    refine reg_f ?_
    refine rs 1 [] [] (by kernel_rfl) allP_nil ?_
    refine rf [(4, bS false)] [] 0 (by kernel_rfl) ?_
    refine wk_id ?_
    obtain rfl := Option.some.inj h
    refine ret_at (bS false) (by kernel_rfl) ?_
    exact ret_e [] [] (by simp only [push_cast, seval]) (by simp only [push_cast, seval]) rfl rfl rfl
  · refine wk_id ?_
    refine seq_np ?_
    refine seq_cut (A := Unit) (fun _ => ([(0, iS free), (1, .sl moves.length (fl moves)), (32, bS ((decide (free < 0)) || ((decide ((1000 : Int) < free)) || (decide ((200 : Int) < ((moves.length : Nat) : Int))))))], [], 0)) (fun _ => True) (fun K2006 hK2006 => ?_) (fun _ _ => ?_)
    · refine reg_f ?_
      refine rs 3 [] [] (by kernel_rfl) allP_nil ?_
      refine run_split 24 (decide (free < 0)) (.inl (by kernel_rfl)) (fun g2007 => ?_) (fun g2007 => ?_)
      · refine rs 8 [] [] (by kernel_rfl) allP_nil ?_
        refine rf [(0, iS free), (1, .sl moves.length (fl moves)), (32, bS true)] [] 0 (by kernel_rfl) ?_
        exact hK2006 () _ _ _ trivial (leSt_m [] [] (by (try simp only [g2007]) <;> simp only [push_cast, seval]) (by (try simp only [g2007]) <;> simp only [push_cast, seval]) rfl rfl rfl)
      · refine rs 4 [] [] (by kernel_rfl) allP_nil ?_
        refine run_split 28 (decide ((1000 : Int) < free)) (.inl (by kernel_rfl)) (fun g2008 => ?_) (fun g2008 => ?_)
        · refine rs 4 [] [] (by kernel_rfl) allP_nil ?_
          refine rf [(0, iS free), (1, .sl moves.length (fl moves)), (32, bS true)] [] 0 (by kernel_rfl) ?_
          exact hK2006 () _ _ _ trivial (leSt_m [] [] (by (try simp only [g2007, g2008]) <;> simp only [push_cast, seval]) (by (try simp only [g2007, g2008]) <;> simp only [push_cast, seval]) rfl rfl rfl)
        · refine rs 4 [] [] (by kernel_rfl) allP_nil ?_
          refine rf [(0, iS free), (1, .sl moves.length (fl moves)), (32, bS (decide ((200 : Int) < ((moves.length : Nat) : Int))))] [] 0 (by kernel_rfl) ?_
          exact hK2006 () _ _ _ trivial (leSt_m [] [] (by (try simp only [g2007, g2008]) <;> simp only [push_cast, seval]) (by (try simp only [g2007, g2008]) <;> simp only [push_cast, seval]) rfl rfl rfl)
    · dsimp only
      refine cond_sx h (by kernel_rfl) (fun g2776 h => ?_) (fun g2776 h => ?_)
      · refine seq_np ?_
        refine reg_f ?_
        refine rs 1 [] [] (by kernel_rfl) allP_nil ?_
        refine rf [(4, bS true)] [] 0 (by kernel_rfl) ?_
        refine wk_id ?_
        obtain rfl := Option.some.inj h
        refine ret_at (bS true) (by kernel_rfl) ?_
        exact ret_e [] [] (by simp only [push_cast, seval]) (by simp only [push_cast, seval]) rfl rfl rfl
      · refine wk_id ?_
        refine seq_np ?_
        refine reg_f ?_
        refine rs 4 [] [] (by kernel_rfl) allP_nil ?_
        refine rf [(0, iS free), (1, .sl moves.length (fl moves)), (5, .ptr 0 0)] [(0, .row 24 [iS free, .v (.slice none 0 0)])] 1 (by kernel_rfl) ?_
        refine wk_id ?_
        refine seq_np ?_
        refine reg_f ?_
        refine rs 3 [] [] (by kernel_rfl) allP_nil ?_
        refine rf [(0, iS free), (1, .sl moves.length (fl moves)), (5, .ptr 0 0), (6, iS 0), (7, iS 0), (8, iS 0)] [(0, .row 24 [iS free, .v (.slice none 0 0)])] 1 (by kernel_rfl) ?_
        refine wk_id ?_
        refine chk_sx h (fun g2012 h => ?_)
        refine seq_np ?_
        refine reg_f ?_
        have k2011 : 0 ≤ (IntKind.i64.wrap (((moves.length : Nat) : Int) + 1)) ∧ (IntKind.i64.wrap (((moves.length : Nat) : Int) + 1)) ≤ 4611686018427387904 ∧ (8 : Int) * (IntKind.i64.wrap (((moves.length : Nat) : Int) + 1)) ≤ 140737488355328 := by first | simpa only [Bool.and_eq_true, decide_eq_true_eq, bne_iff_ne, ne_eq] using g2012 | (simp at g2012 ⊢; omega)
        refine rs 5 [none, none, none, some ⟨.own 1 0 (List.replicate ((IntKind.i64.wrap (((moves.length : Nat) : Int) + 1))).toNat (default : Int)).length, [(1, .row 3 (fl (List.replicate ((IntKind.i64.wrap (((moves.length : Nat) : Int) + 1))).toNat (default : Int))))], 2, []⟩] _ (by kernel_rfl) (allP_cons (ob_mk (P := Try.prog) (α := Int) (IntKind.i64.wrap (((moves.length : Nat) : Int) + 1)) 3 8 (by kernel_rfl) [iS 0] rfl 1 rfl (by decide) k2011 1) allP_nil) ?_
        refine rf [(0, iS free), (1, .sl moves.length (fl moves)), (5, .ptr 0 0), (6, iS 0), (7, iS 0), (8, iS 0), (9, .own 1 0 (List.replicate ((IntKind.i64.wrap (((moves.length : Nat) : Int) + 1))).toNat (default : Int)).length)] [(0, .row 24 [iS free, .v (.slice none 0 0)]), (1, .row 3 (fl (List.replicate ((IntKind.i64.wrap (((moves.length : Nat) : Int) + 1))).toNat (default : Int))))] 2 (by kernel_rfl) ?_
        refine wk_id ?_
        refine seq_np ?_
        refine seq_np ?_
        refine reg_f ?_
        refine rs 1 [] [] (by kernel_rfl) allP_nil ?_
        refine rf [(0, iS free), (1, .sl moves.length (fl moves)), (5, .ptr 0 0), (6, iS 0), (7, iS 0), (8, iS 0), (9, .own 1 0 (List.replicate ((IntKind.i64.wrap (((moves.length : Nat) : Int) + 1))).toNat (default : Int)).length), (10, iS 0)] [(0, .row 24 [iS free, .v (.slice none 0 0)]), (1, .row 3 (fl (List.replicate ((IntKind.i64.wrap (((moves.length : Nat) : Int) + 1))).toNat (default : Int))))] 2 (by kernel_rfl) ?_
        refine wk_id ?_
        refine block_np ?_
        refine loop_sx (S := Int × Int × Int × Int × Int × (List Int) × (List Want)) (fun a => ([(0, iS free), (1, .sl moves.length (fl moves)), (5, .ptr 0 0), (6, iS a.1), (7, iS a.2.1), (8, iS a.2.2.1), (9, .own 1 0 a.2.2.2.2.2.1.length), (10, iS a.2.2.2.1)], [(0, .row 24 [iS a.2.2.2.2.1, .own 2 0 a.2.2.2.2.2.2.length]), (1, .row 3 (fl a.2.2.2.2.2.1)), (2, .row 42 (fl a.2.2.2.2.2.2))], 3)) h (leSt_m [(0, 0), (1, 1)] [] (by simp only [push_cast, seval]) (by simp only [push_cast, seval]) rfl rfl rfl) ?_
        rintro ⟨got29, released18, last29, i7, c0_Free18, c1q18, c2q29⟩ o3 R3 h hr3 hn3 hx3 ht3
        try dsimp only at h hn3 ⊢
        unfold taskmilllaw_SyncCounts_l2 at h
        try dsimp only at h
        refine seq_np ?_
        refine seq_np ?_
        refine reg_f ?_
        refine rs 4 [] [] (by kernel_rfl) allP_nil ?_
        refine rf [(0, iS free), (1, .sl moves.length (fl moves)), (5, .ptr 0 0), (6, iS got29), (7, iS released18), (8, iS last29), (9, .own 1 0 c1q18.length), (10, iS i7), (42, bS (decide (i7 < ((moves.length : Nat) : Int))))] [(0, .row 24 [iS c0_Free18, .own 2 0 c2q29.length]), (1, .row 3 (fl c1q18)), (2, .row 42 (fl c2q29))] 3 (by kernel_rfl) ?_
        refine wk_id ?_
        refine cond_sx h (by kernel_rfl) (fun g2775 h => ?_) (fun g2775 h => ?_)
        · refine wk_id ?_
          refine seq_np ?_
          refine block_np ?_
          refine chk_sx h (fun g2588 h => ?_)
          refine seq_np ?_
          refine reg_f ?_
          have k2587 : 0 ≤ i7 ∧ i7 < ((moves.length : Nat) : Int) := by first | simpa only [Bool.and_eq_true, decide_eq_true_eq, bne_iff_ne, ne_eq] using g2588 | (simp at g2588 ⊢; omega)
          refine rs 5 [none, none, some ⟨.iptr (fl moves) ((i7).toNat * 1), [], 3, []⟩, some ⟨iS (ix moves i7), [], 3, []⟩] _ (by kernel_rfl) (allP_cons (ob_ld moves i7 1 0 ((i7).toNat * 1) k2587 rfl (by decide) (by first | rfl | omega) (dflS Try.prog 3) (iS (ix moves i7)) rfl 3 []) (allP_cons (ob_ix_l moves 1 3 i7 k2587) allP_nil)) ?_
          refine rf [(0, iS free), (1, .sl moves.length (fl moves)), (5, .ptr 0 0), (6, iS got29), (7, iS released18), (8, iS last29), (9, .own 1 0 c1q18.length), (10, iS i7), (11, iS (ix moves i7))] [(0, .row 24 [iS c0_Free18, .own 2 0 c2q29.length]), (1, .row 3 (fl c1q18)), (2, .row 42 (fl c2q29))] 3 (by kernel_rfl) ?_
          refine wk_id ?_
          refine seq_np ?_
          refine seq_cut (A := Unit) (fun _ => ([(0, iS free), (1, .sl moves.length (fl moves)), (5, .ptr 0 0), (6, iS got29), (7, iS released18), (8, iS last29), (9, .own 1 0 c1q18.length), (10, iS i7), (11, iS (ix moves i7)), (54, bS ((decide ((1000 : Int) < (ix moves i7))) || (decide ((ix moves i7) < (-1000)))))], [(0, .row 24 [iS c0_Free18, .own 2 0 c2q29.length]), (1, .row 3 (fl c1q18)), (2, .row 42 (fl c2q29))], 3)) (fun _ => True) (fun K2592 hK2592 => ?_) (fun _ _ => ?_)
          · refine reg_f ?_
            refine rs 3 [] [] (by kernel_rfl) allP_nil ?_
            refine run_split 51 (decide ((1000 : Int) < (ix moves i7))) (.inl (by kernel_rfl)) (fun g2593 => ?_) (fun g2593 => ?_)
            · refine rs 3 [] [] (by kernel_rfl) allP_nil ?_
              refine rf [(0, iS free), (1, .sl moves.length (fl moves)), (5, .ptr 0 0), (6, iS got29), (7, iS released18), (8, iS last29), (9, .own 1 0 c1q18.length), (10, iS i7), (11, iS (ix moves i7)), (54, bS true)] [(0, .row 24 [iS c0_Free18, .own 2 0 c2q29.length]), (1, .row 3 (fl c1q18)), (2, .row 42 (fl c2q29))] 3 (by kernel_rfl) ?_
              exact hK2592 () _ _ _ trivial (leSt_m [(0, 0), (1, 1), (2, 2)] [] (by (try simp only [g2593]) <;> simp only [push_cast, seval]) (by (try simp only [g2593]) <;> simp only [push_cast, seval]) rfl rfl rfl)
            · refine rs 3 [] [] (by kernel_rfl) allP_nil ?_
              refine rf [(0, iS free), (1, .sl moves.length (fl moves)), (5, .ptr 0 0), (6, iS got29), (7, iS released18), (8, iS last29), (9, .own 1 0 c1q18.length), (10, iS i7), (11, iS (ix moves i7)), (54, bS (decide ((ix moves i7) < (-1000))))] [(0, .row 24 [iS c0_Free18, .own 2 0 c2q29.length]), (1, .row 3 (fl c1q18)), (2, .row 42 (fl c2q29))] 3 (by kernel_rfl) ?_
              exact hK2592 () _ _ _ trivial (leSt_m [(0, 0), (1, 1), (2, 2)] [] (by (try simp only [g2593]) <;> simp only [push_cast, seval]) (by (try simp only [g2593]) <;> simp only [push_cast, seval]) rfl rfl rfl)
          · dsimp only
            refine cond_sx h (by kernel_rfl) (fun g2774 h => ?_) (fun g2774 h => ?_)
            · refine seq_np ?_
              refine reg_f ?_
              refine rs 1 [] [] (by kernel_rfl) allP_nil ?_
              refine rf [(4, bS true)] [(0, .row 24 [iS c0_Free18, .own 2 0 c2q29.length]), (1, .row 3 (fl c1q18)), (2, .row 42 (fl c2q29))] 3 (by kernel_rfl) ?_
              refine wk_id ?_
              refine rt_cast ht3 ?_
              obtain ⟨r0, h, e0⟩ := map_sx h
              have e1 := hr3 r0 e0.symm
              subst r0
              obtain rfl := Option.some.inj h
              refine ret_at (bS true) (by kernel_rfl) ?_
              exact ret_e [] [] (by simp only [push_cast, seval]) (by simp only [push_cast, seval]) rfl rfl rfl
            · refine wk_id ?_
              refine seq_np ?_
              refine reg_f ?_
              refine rs 1 [] [] (by kernel_rfl) allP_nil ?_
              refine rf [(0, iS free), (1, .sl moves.length (fl moves)), (5, .ptr 0 0), (6, iS got29), (7, iS released18), (8, iS last29), (9, .own 1 0 c1q18.length), (10, iS i7), (11, iS (ix moves i7)), (12, .v (.slice none 0 0))] [(0, .row 24 [iS c0_Free18, .own 2 0 c2q29.length]), (1, .row 3 (fl c1q18)), (2, .row 42 (fl c2q29))] 3 (by kernel_rfl) ?_
              refine wk_id ?_
              refine seq_cut (A := Int × Int × (List Int) × (List Int) × (List Want)) (fun a => ([(0, iS free), (1, .sl moves.length (fl moves)), (5, .ptr 0 0), (6, iS got29), (7, iS a.1), (8, iS last29), (9, .own 1 0 a.2.2.1.length), (10, iS i7), (12, .own 2 0 a.2.2.2.1.length)], [(0, .row 24 [iS a.2.1, .own 3 0 a.2.2.2.2.length]), (1, .row 3 (fl a.2.2.1)), (2, .row 3 (fl a.2.2.2.1)), (3, .row 42 (fl a.2.2.2.2))], 4)) (fun a => (taskmilllaw_SyncCounts_j1 free moves got29 last29 i7 a.1 a.2.1 a.2.2.1 a.2.2.2.1 a.2.2.2.2) = some o3) (fun K2605 hK2605 => ?_) ?_
              · refine seq_np ?_
                refine reg_f ?_
                refine rs 2 [] [] (by kernel_rfl) allP_nil ?_
                refine rf [(0, iS free), (1, .sl moves.length (fl moves)), (5, .ptr 0 0), (6, iS got29), (7, iS released18), (8, iS last29), (9, .own 1 0 c1q18.length), (10, iS i7), (11, iS (ix moves i7)), (12, .v (.slice none 0 0)), (56, bS (decide ((0 : Int) < (ix moves i7))))] [(0, .row 24 [iS c0_Free18, .own 2 0 c2q29.length]), (1, .row 3 (fl c1q18)), (2, .row 42 (fl c2q29))] 3 (by kernel_rfl) ?_
                refine wk_id ?_
                refine cond_sx h (by kernel_rfl) (fun g2622 h => ?_) (fun g2622 h => ?_)
                · refine chk_sx h (fun g2609 h => ?_)
                  refine seq_np ?_
                  refine reg_f ?_
                  have k2608 : 0 ≤ (IntKind.i64.wrap (i7 + 1)) ∧ (IntKind.i64.wrap (i7 + 1)) < ((c1q18.length : Nat) : Int) := by first | simpa only [Bool.and_eq_true, decide_eq_true_eq, bne_iff_ne, ne_eq] using g2609 | (simp at g2609 ⊢; omega)
                  refine rs 6 [none, none, none, none, some ⟨.ptr 1 (0 + ((IntKind.i64.wrap (i7 + 1))).toNat * 1), [], 3, [1]⟩, some ⟨.any, [(1, .row 3 (fl (c1q18.set (IntKind.i64.wrap (i7 + 1)).toNat (ix moves i7))))], 3, [1]⟩] _ (by kernel_rfl) (allP_cons (ob_st (P := Try.prog) c1q18 (IntKind.i64.wrap (i7 + 1)) 1 0 (0 + ((IntKind.i64.wrap (i7 + 1))).toNat * 1) k2608 rfl [iS (ix moves i7)] (ix moves i7) (Nat.le_of_ble_eq_true rfl) (by first | rfl | omega) rfl 1 3 3 3 (by kernel_rfl) rfl) (allP_cons (ob_ix_o 1 c1q18.length 0 1 3 (IntKind.i64.wrap (i7 + 1)) k2608) allP_nil)) ?_
                  refine rf [(0, iS free), (1, .sl moves.length (fl moves)), (5, .ptr 0 0), (6, iS got29), (7, iS released18), (8, iS last29), (9, .own 1 0 c1q18.length), (10, iS i7), (11, iS (ix moves i7)), (12, .v (.slice none 0 0))] [(0, .row 24 [iS c0_Free18, .own 2 0 c2q29.length]), (1, .row 3 (fl (c1q18.set (IntKind.i64.wrap (i7 + 1)).toNat (ix moves i7)))), (2, .row 42 (fl c2q29))] 3 (by kernel_rfl) ?_
                  refine wk_id ?_
                  refine seq_np ?_
                  refine reg_f ?_
                  refine rs 4 [] [] (by kernel_rfl) allP_nil ?_
                  obtain ⟨r2611, hr2611, h⟩ := bind_sx h
                  refine call_x (sync_Acquire_spec (Sema.mk c0_Free18 c2q29) (IntKind.i64.wrap (i7 + 1)) (ix moves i7) false r2611 hr2611) (args := [.agg [iS c0_Free18, .own 2 0 c2q29.length], iS (IntKind.i64.wrap (i7 + 1)), iS (ix moves i7), bS false]) (dst := (some 67)) (by kernel_rfl) [(0, .row 24 [iS c0_Free18, .own 2 0 c2q29.length]), (1, .row 3 (fl (c1q18.set (IntKind.i64.wrap (i7 + 1)).toNat (ix moves i7)))), (2, .row 42 (fl c2q29))] 3 (by kernel_rfl) [] [2] (.tup [.agg [iS r2611.1, .own 3 0 r2611.2.2.2.length], bS r2611.2.1, .agg (Enc.cells r2611.2.2.1)]) [(3, .row 42 (fl r2611.2.2.2))] (by simp only [push_cast, seval]) (by simp only [push_cast, seval]) (by kernel_rfl) (.inr ⟨by simp only [push_cast, seval], by simp only [push_cast, seval]⟩) (by simp only [push_cast, seval]) (by simp only [push_cast, seval]) ?_
                  refine rs 9 [] [] (by kernel_rfl) allP_nil ?_
                  refine rf [(0, iS free), (1, .sl moves.length (fl moves)), (5, .ptr 0 0), (6, iS got29), (7, iS released18), (8, iS last29), (9, .own 1 0 c1q18.length), (10, iS i7), (12, .v (.slice none 0 0)), (13, .ptr 4 0), (14, bS r2611.2.1), (15, .ptr 5 0)] [(0, .row 24 [iS c0_Free18, .own 2 0 c2q29.length]), (1, .row 3 (fl (c1q18.set (IntKind.i64.wrap (i7 + 1)).toNat (ix moves i7)))), (2, .row 42 (fl c2q29)), (3, .row 42 (fl r2611.2.2.2)), (4, .row 24 [iS r2611.1, .own 3 0 r2611.2.2.2.length]), (5, .row 29 (Enc.cells r2611.2.2.1))] 6 (by kernel_rfl) ?_
                  refine wk_id ?_
                  refine seq_np ?_
                  refine seq_np ?_
                  refine reg_f ?_
                  refine rs 3 [] [] (by kernel_rfl) allP_nil ?_
                  refine rf [(0, iS free), (1, .sl moves.length (fl moves)), (5, .ptr 0 0), (6, iS got29), (7, iS released18), (8, iS last29), (9, .own 1 0 c1q18.length), (10, iS i7), (12, .v (.slice none 0 0)), (13, .ptr 4 0), (14, bS r2611.2.1), (73, bS (r2611.2.2.1.Code != 0))] [(0, .row 24 [iS c0_Free18, .own 2 0 c2q29.length]), (1, .row 3 (fl (c1q18.set (IntKind.i64.wrap (i7 + 1)).toNat (ix moves i7)))), (2, .row 42 (fl c2q29)), (3, .row 42 (fl r2611.2.2.2)), (4, .row 24 [iS r2611.1, .own 3 0 r2611.2.2.2.length]), (5, .row 29 (Enc.cells r2611.2.2.1))] 6 (by kernel_rfl) ?_
                  refine wk_id ?_
                  refine cond_sx h (by kernel_rfl) (fun g2617 h => ?_) (fun g2617 h => ?_)
                  · refine seq_np ?_
                    refine reg_f ?_
                    refine rs 1 [] [] (by kernel_rfl) allP_nil ?_
                    refine rf [(4, bS false)] [(0, .row 24 [iS c0_Free18, .own 2 0 c2q29.length]), (1, .row 3 (fl (c1q18.set (IntKind.i64.wrap (i7 + 1)).toNat (ix moves i7)))), (2, .row 42 (fl c2q29)), (3, .row 42 (fl r2611.2.2.2)), (4, .row 24 [iS r2611.1, .own 3 0 r2611.2.2.2.length]), (5, .row 29 (Enc.cells r2611.2.2.1))] 6 (by kernel_rfl) ?_
                    refine wk_id ?_
                    refine rt_cast ht3 ?_
                    obtain ⟨r0, h, e0⟩ := map_sx h
                    have e1 := hr3 r0 e0.symm
                    subst r0
                    obtain rfl := Option.some.inj h
                    refine ret_at (bS false) (by kernel_rfl) ?_
                    exact ret_e [] [] (by simp only [push_cast, seval]) (by simp only [push_cast, seval]) rfl rfl rfl
                  · refine wk_id ?_
                    refine seq_cut (A := (List Int) × Int × (List Want)) (fun a => ([(0, iS free), (1, .sl moves.length (fl moves)), (5, .ptr 0 0), (6, iS got29), (7, iS released18), (8, iS last29), (9, .own 1 0 (c1q18.set (IntKind.i64.wrap (i7 + 1)).toNat (ix moves i7)).length), (10, iS i7), (12, .own 2 0 a.1.length), (13, .ptr 3 0)], [(0, .row 24 [iS c0_Free18, .own 4 0 c2q29.length]), (1, .row 3 (fl (c1q18.set (IntKind.i64.wrap (i7 + 1)).toNat (ix moves i7)))), (2, .row 3 (fl a.1)), (3, .row 24 [iS a.2.1, .own 5 0 a.2.2.length]), (4, .row 42 (fl c2q29)), (5, .row 42 (fl a.2.2))], 6)) (fun a => (taskmilllaw_SyncCounts_j2 free moves got29 released18 last29 i7 c0_Free18 c1q18 c2q29 a.1 a.2.1 a.2.2) = some o3) (fun K2615 hK2615 => ?_) ?_
                    · refine seq_np ?_
                      refine reg_f ?_
                      refine rs 1 [] [] (by kernel_rfl) allP_nil ?_
                      refine rf [(0, iS free), (1, .sl moves.length (fl moves)), (5, .ptr 0 0), (6, iS got29), (7, iS released18), (8, iS last29), (9, .own 1 0 c1q18.length), (10, iS i7), (12, .v (.slice none 0 0)), (13, .ptr 4 0), (74, bS r2611.2.1)] [(0, .row 24 [iS c0_Free18, .own 2 0 c2q29.length]), (1, .row 3 (fl (c1q18.set (IntKind.i64.wrap (i7 + 1)).toNat (ix moves i7)))), (2, .row 42 (fl c2q29)), (3, .row 42 (fl r2611.2.2.2)), (4, .row 24 [iS r2611.1, .own 3 0 r2611.2.2.2.length]), (5, .row 29 (Enc.cells r2611.2.2.1))] 6 (by kernel_rfl) ?_
                      refine wk_id ?_
                      refine cond_sx h (by kernel_rfl) (fun g2616 h => ?_) (fun g2616 h => ?_)
                      · refine reg_f ?_
                        refine rs 4 [] [] (by kernel_rfl) allP_nil ?_
                        refine rf [(0, iS free), (1, .sl moves.length (fl moves)), (5, .ptr 0 0), (6, iS got29), (7, iS released18), (8, iS last29), (9, .own 1 0 c1q18.length), (10, iS i7), (12, .own 6 0 ([(IntKind.i64.wrap (i7 + 1))] : List Int).length), (13, .ptr 4 0)] [(0, .row 24 [iS c0_Free18, .own 2 0 c2q29.length]), (1, .row 3 (fl (c1q18.set (IntKind.i64.wrap (i7 + 1)).toNat (ix moves i7)))), (2, .row 42 (fl c2q29)), (3, .row 42 (fl r2611.2.2.2)), (4, .row 24 [iS r2611.1, .own 3 0 r2611.2.2.2.length]), (5, .row 29 (Enc.cells r2611.2.2.1)), (6, .row 3 (fl ([(IntKind.i64.wrap (i7 + 1))] : List Int)))] 7 (by kernel_rfl) ?_
                        exact hK2615 (([(IntKind.i64.wrap (i7 + 1))] : List Int), r2611.1, r2611.2.2.2) _ _ _ h (leSt_m [(0, 0), (1, 1), (2, 6), (3, 4), (4, 2), (5, 3)] [] (by simp only [push_cast, seval]) (by simp only [push_cast, seval]) rfl rfl rfl)
                      · exact hK2615 ([], r2611.1, r2611.2.2.2) _ _ _ h (leSt_m [(0, 0), (1, 1), (3, 4), (4, 2), (5, 3)] [] (by simp only [push_cast, seval]) (by simp only [push_cast, seval]) rfl rfl rfl)
                    · rintro ⟨c2q36, c3_Free14, c5q10⟩ h
                      try dsimp only at h ⊢
                      unfold taskmilllaw_SyncCounts_j2 at h
                      refine reg_f ?_
                      refine rs 2 [] [] (by kernel_rfl) allP_nil ?_
                      refine rf [(0, iS free), (1, .sl moves.length (fl moves)), (5, .ptr 0 0), (6, iS got29), (7, iS released18), (8, iS last29), (9, .own 1 0 (c1q18.set (IntKind.i64.wrap (i7 + 1)).toNat (ix moves i7)).length), (10, iS i7), (12, .own 2 0 c2q36.length)] [(0, .row 24 [iS c3_Free14, .own 5 0 c5q10.length]), (1, .row 3 (fl (c1q18.set (IntKind.i64.wrap (i7 + 1)).toNat (ix moves i7)))), (2, .row 3 (fl c2q36)), (3, .row 24 [iS c3_Free14, .own 5 0 c5q10.length]), (4, .row 42 (fl c2q29)), (5, .row 42 (fl c5q10))] 6 (by kernel_rfl) ?_
                      exact hK2605 (released18, c3_Free14, (c1q18.set (IntKind.i64.wrap (i7 + 1)).toNat (ix moves i7)), c2q36, c5q10) _ _ _ h (leSt_m [(0, 0), (1, 1), (2, 2), (3, 5)] [] (by simp only [push_cast, seval]) (by simp only [push_cast, seval]) rfl rfl rfl)
                · refine seq_np ?_
                  refine reg_f ?_
                  refine rs 3 [] [] (by kernel_rfl) allP_nil ?_
                  obtain ⟨r2619, hr2619, h⟩ := bind_sx h
                  refine call_x (sync_Release_spec (Sema.mk c0_Free18 c2q29) (IntKind.i64.wrap (0 - (ix moves i7))) r2619 hr2619) (args := [.agg [iS c0_Free18, .own 2 0 c2q29.length], iS (IntKind.i64.wrap (0 - (ix moves i7)))]) (dst := (some 83)) (by kernel_rfl) [(0, .row 24 [iS c0_Free18, .own 2 0 c2q29.length]), (1, .row 3 (fl c1q18)), (2, .row 42 (fl c2q29))] 3 (by kernel_rfl) [] [2] (.tup [.agg [iS r2619.1, .own 3 0 r2619.2.2.1.length], .own 4 0 r2619.2.2.2.length, .agg (Enc.cells r2619.2.1)]) [(3, .row 42 (fl r2619.2.2.1)), (4, .row 3 (fl r2619.2.2.2))] (by simp only [push_cast, seval]) (by simp only [push_cast, seval]) (by kernel_rfl) (.inr ⟨by simp only [push_cast, seval], by simp only [push_cast, seval]⟩) (by simp only [push_cast, seval]) (by simp only [push_cast, seval]) ?_
                  refine rs 9 [] [] (by kernel_rfl) allP_nil ?_
                  refine rf [(0, iS free), (1, .sl moves.length (fl moves)), (5, .ptr 0 0), (6, iS got29), (7, iS released18), (8, iS last29), (9, .own 1 0 c1q18.length), (10, iS i7), (11, iS (ix moves i7)), (16, .ptr 5 0), (17, .own 4 0 r2619.2.2.2.length), (18, .ptr 6 0)] [(0, .row 24 [iS c0_Free18, .own 2 0 c2q29.length]), (1, .row 3 (fl c1q18)), (2, .row 42 (fl c2q29)), (3, .row 42 (fl r2619.2.2.1)), (4, .row 3 (fl r2619.2.2.2)), (5, .row 24 [iS r2619.1, .own 3 0 r2619.2.2.1.length]), (6, .row 29 (Enc.cells r2619.2.1))] 7 (by kernel_rfl) ?_
                  refine wk_id ?_
                  refine seq_np ?_
                  refine seq_np ?_
                  refine reg_f ?_
                  refine rs 3 [] [] (by kernel_rfl) allP_nil ?_
                  refine rf [(0, iS free), (1, .sl moves.length (fl moves)), (5, .ptr 0 0), (6, iS got29), (7, iS released18), (8, iS last29), (9, .own 1 0 c1q18.length), (10, iS i7), (11, iS (ix moves i7)), (16, .ptr 5 0), (17, .own 4 0 r2619.2.2.2.length), (89, bS (r2619.2.1.Code != 0))] [(0, .row 24 [iS c0_Free18, .own 2 0 c2q29.length]), (1, .row 3 (fl c1q18)), (2, .row 42 (fl c2q29)), (3, .row 42 (fl r2619.2.2.1)), (4, .row 3 (fl r2619.2.2.2)), (5, .row 24 [iS r2619.1, .own 3 0 r2619.2.2.1.length]), (6, .row 29 (Enc.cells r2619.2.1))] 7 (by kernel_rfl) ?_
                  refine wk_id ?_
                  refine cond_sx h (by kernel_rfl) (fun g2621 h => ?_) (fun g2621 h => ?_)
                  · refine seq_np ?_
                    refine reg_f ?_
                    refine rs 1 [] [] (by kernel_rfl) allP_nil ?_
                    refine rf [(4, bS false)] [(0, .row 24 [iS c0_Free18, .own 2 0 c2q29.length]), (1, .row 3 (fl c1q18)), (2, .row 42 (fl c2q29)), (3, .row 42 (fl r2619.2.2.1)), (4, .row 3 (fl r2619.2.2.2)), (5, .row 24 [iS r2619.1, .own 3 0 r2619.2.2.1.length]), (6, .row 29 (Enc.cells r2619.2.1))] 7 (by kernel_rfl) ?_
                    refine wk_id ?_
                    refine rt_cast ht3 ?_
                    obtain ⟨r0, h, e0⟩ := map_sx h
                    have e1 := hr3 r0 e0.symm
                    subst r0
                    obtain rfl := Option.some.inj h
                    refine ret_at (bS false) (by kernel_rfl) ?_
                    exact ret_e [] [] (by simp only [push_cast, seval]) (by simp only [push_cast, seval]) rfl rfl rfl
                  · refine wk_id ?_
                    refine seq_np ?_
                    refine reg_f ?_
                    refine rs 4 [] [] (by kernel_rfl) allP_nil ?_
                    refine rf [(0, iS free), (1, .sl moves.length (fl moves)), (5, .ptr 0 0), (6, iS got29), (7, iS (IntKind.i64.wrap (released18 - (ix moves i7)))), (8, iS last29), (9, .own 1 0 c1q18.length), (10, iS i7), (16, .ptr 5 0), (17, .own 4 0 r2619.2.2.2.length)] [(0, .row 24 [iS c0_Free18, .own 2 0 c2q29.length]), (1, .row 3 (fl c1q18)), (2, .row 42 (fl c2q29)), (3, .row 42 (fl r2619.2.2.1)), (4, .row 3 (fl r2619.2.2.2)), (5, .row 24 [iS r2619.1, .own 3 0 r2619.2.2.1.length]), (6, .row 29 (Enc.cells r2619.2.1))] 7 (by kernel_rfl) ?_
                    refine wk_id ?_
                    refine seq_np ?_
                    refine reg_f ?_
                    refine rs 2 [] [] (by kernel_rfl) allP_nil ?_
                    refine rf [(0, iS free), (1, .sl moves.length (fl moves)), (5, .ptr 0 0), (6, iS got29), (7, iS (IntKind.i64.wrap (released18 - (ix moves i7)))), (8, iS last29), (9, .own 1 0 c1q18.length), (10, iS i7), (12, .own 4 0 r2619.2.2.2.length), (16, .ptr 5 0)] [(0, .row 24 [iS c0_Free18, .own 2 0 c2q29.length]), (1, .row 3 (fl c1q18)), (2, .row 42 (fl c2q29)), (3, .row 42 (fl r2619.2.2.1)), (4, .row 3 (fl r2619.2.2.2)), (5, .row 24 [iS r2619.1, .own 3 0 r2619.2.2.1.length]), (6, .row 29 (Enc.cells r2619.2.1))] 7 (by kernel_rfl) ?_
                    refine wk_id ?_
                    refine reg_f ?_
                    refine rs 2 [] [] (by kernel_rfl) allP_nil ?_
                    refine rf [(0, iS free), (1, .sl moves.length (fl moves)), (5, .ptr 0 0), (6, iS got29), (7, iS (IntKind.i64.wrap (released18 - (ix moves i7)))), (8, iS last29), (9, .own 1 0 c1q18.length), (10, iS i7), (12, .own 4 0 r2619.2.2.2.length)] [(0, .row 24 [iS r2619.1, .own 3 0 r2619.2.2.1.length]), (1, .row 3 (fl c1q18)), (2, .row 42 (fl c2q29)), (3, .row 42 (fl r2619.2.2.1)), (4, .row 3 (fl r2619.2.2.2)), (5, .row 24 [iS r2619.1, .own 3 0 r2619.2.2.1.length]), (6, .row 29 (Enc.cells r2619.2.1))] 7 (by kernel_rfl) ?_
                    exact hK2605 ((IntKind.i64.wrap (released18 - (ix moves i7))), r2619.1, c1q18, r2619.2.2.2, r2619.2.2.1) _ _ _ h (leSt_m [(0, 0), (1, 1), (2, 4), (3, 3)] [] (by simp only [push_cast, seval]) (by simp only [push_cast, seval]) rfl rfl rfl)
              · rintro ⟨released21, c0_Free21, c1q21, c2q35, c3q13⟩ h
                try dsimp only at h ⊢
                unfold taskmilllaw_SyncCounts_j1 at h
                refine seq_np ?_
                refine seq_np ?_
                refine reg_f ?_
                refine rs 1 [] [] (by kernel_rfl) allP_nil ?_
                refine rf [(0, iS free), (1, .sl moves.length (fl moves)), (5, .ptr 0 0), (6, iS got29), (7, iS released21), (8, iS last29), (9, .own 1 0 c1q21.length), (10, iS i7), (12, .own 2 0 c2q35.length), (19, iS 0)] [(0, .row 24 [iS c0_Free21, .own 3 0 c3q13.length]), (1, .row 3 (fl c1q21)), (2, .row 3 (fl c2q35)), (3, .row 42 (fl c3q13))] 4 (by kernel_rfl) ?_
                refine wk_id ?_
                refine block_np ?_
                refine loop_sx (S := Int × Int × Int) (fun a => ([(0, iS free), (1, .sl moves.length (fl moves)), (5, .ptr 0 0), (6, iS a.1), (7, iS released21), (8, iS a.2.1), (9, .own 1 0 c1q21.length), (10, iS i7), (12, .own 2 0 c2q35.length), (19, iS a.2.2)], [(0, .row 24 [iS c0_Free21, .own 3 0 c3q13.length]), (1, .row 3 (fl c1q21)), (2, .row 3 (fl c2q35)), (3, .row 42 (fl c3q13))], 4)) h (leSt_m [(0, 0), (1, 1), (2, 2), (3, 3)] [] (by simp only [push_cast, seval]) (by simp only [push_cast, seval]) rfl rfl rfl) ?_
                rintro ⟨got39, last39, k31⟩ o4 R4 h hr4 hn4 hx4 ht4
                try dsimp only at h hn4 ⊢
                unfold taskmilllaw_SyncCounts_l1 at h
                try dsimp only at h
                refine seq_np ?_
                refine seq_np ?_
                refine reg_f ?_
                refine rs 4 [] [] (by kernel_rfl) allP_nil ?_
                refine rf [(0, iS free), (1, .sl moves.length (fl moves)), (5, .ptr 0 0), (6, iS got39), (7, iS released21), (8, iS last39), (9, .own 1 0 c1q21.length), (10, iS i7), (12, .own 2 0 c2q35.length), (19, iS k31), (98, bS (decide (k31 < ((c2q35.length : Nat) : Int))))] [(0, .row 24 [iS c0_Free21, .own 3 0 c3q13.length]), (1, .row 3 (fl c1q21)), (2, .row 3 (fl c2q35)), (3, .row 42 (fl c3q13))] 4 (by kernel_rfl) ?_
                refine wk_id ?_
                refine cond_sx h (by kernel_rfl) (fun g2773 h => ?_) (fun g2773 h => ?_)
                · refine wk_id ?_
                  refine seq_np ?_
                  refine block_np ?_
                  refine seq_np ?_
                  refine chk_sx h (fun g2748 h => ?_)
                  refine chk_sx h (fun g2751 h => ?_)
                  refine seq_cut (A := Unit) (fun _ => ([(0, iS free), (1, .sl moves.length (fl moves)), (5, .ptr 0 0), (6, iS got39), (7, iS released21), (9, .own 1 0 c1q21.length), (10, iS i7), (12, .own 2 0 c2q35.length), (19, iS k31), (115, bS ((decide ((ix c2q35 k31) ≤ last39)) || (decide (((moves.length : Nat) : Int) < (ix c2q35 k31)))))], [(0, .row 24 [iS c0_Free21, .own 3 0 c3q13.length]), (1, .row 3 (fl c1q21)), (2, .row 3 (fl c2q35)), (3, .row 42 (fl c3q13))], 4)) (fun _ => True) (fun K2746 hK2746 => ?_) (fun _ _ => ?_)
                  · refine reg_f ?_
                    have k2747 : 0 ≤ k31 ∧ k31 < ((c2q35.length : Nat) : Int) := by first | simpa only [Bool.and_eq_true, decide_eq_true_eq, bne_iff_ne, ne_eq] using g2748 | (simp at g2748 ⊢; omega)
                    refine rs 7 [none, none, some ⟨.ptr 2 (0 + (k31).toNat * 1), [], 4, [2]⟩, some ⟨iS (ix c2q35 k31), [], 4, [2]⟩] _ (by kernel_rfl) (allP_cons (ob_ld c2q35 k31 1 0 (0 + (k31).toNat * 1) k2747 rfl (by decide) (by first | rfl | omega) (dflS Try.prog 3) (iS (ix c2q35 k31)) rfl 4 [2]) (allP_cons (ob_ix_o 2 c2q35.length 0 1 4 k31 k2747) allP_nil)) ?_
                    refine run_split 107 (decide ((ix c2q35 k31) ≤ last39)) (.inl (by kernel_rfl)) (fun g2749 => ?_) (fun g2749 => ?_)
                    · refine rs 8 [] [] (by kernel_rfl) allP_nil ?_
                      refine rf [(0, iS free), (1, .sl moves.length (fl moves)), (5, .ptr 0 0), (6, iS got39), (7, iS released21), (9, .own 1 0 c1q21.length), (10, iS i7), (12, .own 2 0 c2q35.length), (19, iS k31), (115, bS true)] [(0, .row 24 [iS c0_Free21, .own 3 0 c3q13.length]), (1, .row 3 (fl c1q21)), (2, .row 3 (fl c2q35)), (3, .row 42 (fl c3q13))] 4 (by kernel_rfl) ?_
                      exact hK2746 () _ _ _ trivial (leSt_m [(0, 0), (1, 1), (2, 2), (3, 3)] [] (by (try simp only [g2749]) <;> simp only [push_cast, seval]) (by (try simp only [g2749]) <;> simp only [push_cast, seval]) rfl rfl rfl)
                    · have k2750 : 0 ≤ k31 ∧ k31 < ((c2q35.length : Nat) : Int) := by have e := or_use g2751 (by (try simp only [g2749]) <;> rfl); first | simpa only [Bool.and_eq_true, decide_eq_true_eq, bne_iff_ne, ne_eq] using e | (simp at e ⊢; omega)
                      refine rs 8 [none, none, some ⟨.ptr 2 (0 + (k31).toNat * 1), [], 4, [2]⟩, some ⟨iS (ix c2q35 k31), [], 4, [2]⟩] _ (by kernel_rfl) (allP_cons (ob_ld c2q35 k31 1 0 (0 + (k31).toNat * 1) k2750 rfl (by decide) (by first | rfl | omega) (dflS Try.prog 3) (iS (ix c2q35 k31)) rfl 4 [2]) (allP_cons (ob_ix_o 2 c2q35.length 0 1 4 k31 k2750) allP_nil)) ?_
                      refine rf [(0, iS free), (1, .sl moves.length (fl moves)), (5, .ptr 0 0), (6, iS got39), (7, iS released21), (9, .own 1 0 c1q21.length), (10, iS i7), (12, .own 2 0 c2q35.length), (19, iS k31), (115, bS (decide (((moves.length : Nat) : Int) < (ix c2q35 k31))))] [(0, .row 24 [iS c0_Free21, .own 3 0 c3q13.length]), (1, .row 3 (fl c1q21)), (2, .row 3 (fl c2q35)), (3, .row 42 (fl c3q13))] 4 (by kernel_rfl) ?_
                      exact hK2746 () _ _ _ trivial (leSt_m [(0, 0), (1, 1), (2, 2), (3, 3)] [] (by (try simp only [g2749]) <;> simp only [push_cast, seval]) (by (try simp only [g2749]) <;> simp only [push_cast, seval]) rfl rfl rfl)
                  · dsimp only
                    refine cond_sx h (by kernel_rfl) (fun g2760 h => ?_) (fun g2760 h => ?_)
                    · refine seq_np ?_
                      refine reg_f ?_
                      refine rs 1 [] [] (by kernel_rfl) allP_nil ?_
                      refine rf [(4, bS false)] [(0, .row 24 [iS c0_Free21, .own 3 0 c3q13.length]), (1, .row 3 (fl c1q21)), (2, .row 3 (fl c2q35)), (3, .row 42 (fl c3q13))] 4 (by kernel_rfl) ?_
                      refine wk_id ?_
                      refine rt_cast ht4 ?_
                      obtain ⟨r0, h, e0⟩ := map_sx h
                      have e1 := hr4 r0 e0.symm
                      subst r0
                      refine rt_cast ht3 ?_
                      obtain ⟨r0, h, e0⟩ := map_sx h
                      have e1 := hr3 r0 e0.symm
                      subst r0
                      obtain rfl := Option.some.inj h
                      refine ret_at (bS false) (by kernel_rfl) ?_
                      exact ret_e [] [] (by simp only [push_cast, seval]) (by simp only [push_cast, seval]) rfl rfl rfl
                    · refine wk_id ?_
                      refine chk_sx h (fun g2755 h => ?_)
                      refine seq_np ?_
                      refine reg_f ?_
                      have k2754 : 0 ≤ k31 ∧ k31 < ((c2q35.length : Nat) : Int) := by first | simpa only [Bool.and_eq_true, decide_eq_true_eq, bne_iff_ne, ne_eq] using g2755 | (simp at g2755 ⊢; omega)
                      refine rs 5 [none, none, some ⟨.ptr 2 (0 + (k31).toNat * 1), [], 4, [2]⟩, some ⟨iS (ix c2q35 k31), [], 4, [2]⟩] _ (by kernel_rfl) (allP_cons (ob_ld c2q35 k31 1 0 (0 + (k31).toNat * 1) k2754 rfl (by decide) (by first | rfl | omega) (dflS Try.prog 3) (iS (ix c2q35 k31)) rfl 4 [2]) (allP_cons (ob_ix_o 2 c2q35.length 0 1 4 k31 k2754) allP_nil)) ?_
                      refine rf [(0, iS free), (1, .sl moves.length (fl moves)), (5, .ptr 0 0), (6, iS got39), (7, iS released21), (8, iS (ix c2q35 k31)), (9, .own 1 0 c1q21.length), (10, iS i7), (12, .own 2 0 c2q35.length), (19, iS k31)] [(0, .row 24 [iS c0_Free21, .own 3 0 c3q13.length]), (1, .row 3 (fl c1q21)), (2, .row 3 (fl c2q35)), (3, .row 42 (fl c3q13))] 4 (by kernel_rfl) ?_
                      refine wk_id ?_
                      refine chk_sx h (fun g2759 h => ?_)
                      refine reg_f ?_
                      have k2758 : 0 ≤ (ix c2q35 k31) ∧ (ix c2q35 k31) < ((c1q21.length : Nat) : Int) := by first | simpa only [Bool.and_eq_true, decide_eq_true_eq, bne_iff_ne, ne_eq] using g2759 | (simp at g2759 ⊢; omega)
                      refine rs 7 [none, none, none, some ⟨.ptr 1 (0 + ((ix c2q35 k31)).toNat * 1), [], 4, [1]⟩, some ⟨iS (ix c1q21 (ix c2q35 k31)), [], 4, [1]⟩] _ (by kernel_rfl) (allP_cons (ob_ld c1q21 (ix c2q35 k31) 1 0 (0 + ((ix c2q35 k31)).toNat * 1) k2758 rfl (by decide) (by first | rfl | omega) (dflS Try.prog 3) (iS (ix c1q21 (ix c2q35 k31))) rfl 4 [1]) (allP_cons (ob_ix_o 1 c1q21.length 0 1 4 (ix c2q35 k31) k2758) allP_nil)) ?_
                      refine rf [(0, iS free), (1, .sl moves.length (fl moves)), (5, .ptr 0 0), (6, iS (IntKind.i64.wrap (got39 + (ix c1q21 (ix c2q35 k31))))), (7, iS released21), (8, iS (ix c2q35 k31)), (9, .own 1 0 c1q21.length), (10, iS i7), (12, .own 2 0 c2q35.length), (19, iS k31)] [(0, .row 24 [iS c0_Free21, .own 3 0 c3q13.length]), (1, .row 3 (fl c1q21)), (2, .row 3 (fl c2q35)), (3, .row 42 (fl c3q13))] 4 (by kernel_rfl) ?_
                      refine wk_id ?_
                      refine wk_id ?_
                      refine reg_f ?_
                      refine rs 3 [] [] (by kernel_rfl) allP_nil ?_
                      refine rf [(0, iS free), (1, .sl moves.length (fl moves)), (5, .ptr 0 0), (6, iS (IntKind.i64.wrap (got39 + (ix c1q21 (ix c2q35 k31))))), (7, iS released21), (8, iS (ix c2q35 k31)), (9, .own 1 0 c1q21.length), (10, iS i7), (12, .own 2 0 c2q35.length), (19, iS (IntKind.i64.wrap (k31 + 1)))] [(0, .row 24 [iS c0_Free21, .own 3 0 c3q13.length]), (1, .row 3 (fl c1q21)), (2, .row 3 (fl c2q35)), (3, .row 42 (fl c3q13))] 4 (by kernel_rfl) ?_
                      exact hn4 ((IntKind.i64.wrap (got39 + (ix c1q21 (ix c2q35 k31)))), (ix c2q35 k31), (IntKind.i64.wrap (k31 + 1))) _ _ _ (Option.some.inj h).symm (leSt_m [(0, 0), (1, 1), (2, 2), (3, 3)] [] (by simp only [push_cast, seval]) (by simp only [push_cast, seval]) rfl rfl rfl)
                · refine ex_cast hx4 (id := 2) ?_
                  obtain ⟨r0, h, e0⟩ := map_sx h
                  have e1 := hr4 r0 e0.symm
                  subst r0
                  refine wk_id ?_
                  refine wk_id ?_
                  refine chk_sx h (fun g2771 h => ?_)
                  refine seq_cut (A := Unit) (fun _ => ([(0, iS free), (1, .sl moves.length (fl moves)), (5, .ptr 0 0), (6, iS got39), (7, iS released21), (8, iS last39), (9, .own 1 0 c1q21.length), (10, iS i7), (154, bS (((IntKind.i64.wrap (c0_Free21 + got39)) != (IntKind.i64.wrap (free + released21))) || ((decide (c0_Free21 < 0)) || ((decide ((0 : Int) < ((c3q13.length : Nat) : Int))) && (decide ((ix c3q13 (0 : Int)).N ≤ c0_Free21))))))], [(0, .row 24 [iS c0_Free21, .own 3 0 c3q13.length]), (1, .row 3 (fl c1q21)), (2, .row 3 (fl c2q35)), (3, .row 42 (fl c3q13))], 33)) (fun _ => True) (fun K2766 hK2766 => ?_) (fun _ _ => ?_)
                  · refine reg_t ?_
                    refine rs 9 [] [] (by kernel_rfl) allP_nil ?_
                    refine run_split 134 ((IntKind.i64.wrap (c0_Free21 + got39)) != (IntKind.i64.wrap (free + released21))) (.inl (by kernel_rfl)) (fun g2767 => ?_) (fun g2767 => ?_)
                    · refine rs 20 [] [] (by kernel_rfl) allP_nil ?_
                      refine rt [(0, iS free), (1, .sl moves.length (fl moves)), (5, .ptr 0 0), (6, iS got39), (7, iS released21), (8, iS last39), (9, .own 1 0 c1q21.length), (10, iS i7), (154, bS true)] [(0, .row 24 [iS c0_Free21, .own 3 0 c3q13.length]), (1, .row 3 (fl c1q21)), (2, .row 3 (fl c2q35)), (3, .row 42 (fl c3q13))] 33 follows (by kernel_rfl) ?_
                      exact hK2766 () _ _ _ trivial (leSt_m [(0, 0), (1, 1), (2, 2), (3, 3)] [] (by (try simp only [g2767]) <;> simp only [push_cast, seval]) (by (try simp only [g2767]) <;> simp only [push_cast, seval]) rfl rfl rfl)
                    · refine rs 5 [] [] (by kernel_rfl) allP_nil ?_
                      refine run_split 139 (decide (c0_Free21 < 0)) (.inl (by kernel_rfl)) (fun g2768 => ?_) (fun g2768 => ?_)
                      · refine rs 15 [] [] (by kernel_rfl) allP_nil ?_
                        refine rt [(0, iS free), (1, .sl moves.length (fl moves)), (5, .ptr 0 0), (6, iS got39), (7, iS released21), (8, iS last39), (9, .own 1 0 c1q21.length), (10, iS i7), (154, bS true)] [(0, .row 24 [iS c0_Free21, .own 3 0 c3q13.length]), (1, .row 3 (fl c1q21)), (2, .row 3 (fl c2q35)), (3, .row 42 (fl c3q13))] 33 follows (by kernel_rfl) ?_
                        exact hK2766 () _ _ _ trivial (leSt_m [(0, 0), (1, 1), (2, 2), (3, 3)] [] (by (try simp only [g2767, g2768]) <;> simp only [push_cast, seval]) (by (try simp only [g2767, g2768]) <;> simp only [push_cast, seval]) rfl rfl rfl)
                      · refine rs 5 [] [] (by kernel_rfl) allP_nil ?_
                        refine run_split 144 (decide ((0 : Int) < ((c3q13.length : Nat) : Int))) (.inr (by kernel_rfl)) (fun g2769 => ?_) (fun g2769 => ?_)
                        · refine rn 19 [(0, iS free), (1, .sl moves.length (fl moves)), (5, .ptr 0 0), (6, iS got39), (7, iS released21), (8, iS last39), (9, .own 1 0 c1q21.length), (10, iS i7), (139, bS false), (144, .gd true (bS true))] [(0, .row 24 [iS c0_Free21, .own 3 0 c3q13.length]), (1, .row 3 (fl c1q21)), (2, .row 3 (fl c2q35)), (3, .row 42 (fl c3q13))] 23 (by kernel_rfl) ?_
                          have k2770 : 0 ≤ (0 : Int) ∧ (0 : Int) < ((c3q13.length : Nat) : Int) := by have e := or_use g2771 (by (try simp only [g2767, g2768, g2769]) <;> rfl); first | simpa only [Bool.and_eq_true, decide_eq_true_eq, bne_iff_ne, ne_eq] using e | (simp at e ⊢; omega)
                          refine rs 10 [none, none, some ⟨.ptr 3 (0 + ((0 : Int)).toNat * 3), [], 25, [3]⟩, none, some ⟨iS (ix c3q13 (0 : Int)).N, [], 27, [3]⟩] _ (by kernel_rfl) (allP_cons (ob_ld c3q13 (0 : Int) 3 2 ((0 + ((0 : Int)).toNat * 3) + 2) k2770 rfl (by decide) (by first | rfl | omega) (dflS Try.prog 3) (iS (ix c3q13 (0 : Int)).N) rfl 27 [3]) (allP_cons (ob_ix_o 3 c3q13.length 0 3 25 0 k2770) allP_nil)) ?_
                          refine rt [(0, iS free), (1, .sl moves.length (fl moves)), (5, .ptr 0 0), (6, iS got39), (7, iS released21), (8, iS last39), (9, .own 1 0 c1q21.length), (10, iS i7), (154, bS (decide ((ix c3q13 (0 : Int)).N ≤ c0_Free21)))] [(0, .row 24 [iS c0_Free21, .own 3 0 c3q13.length]), (1, .row 3 (fl c1q21)), (2, .row 3 (fl c2q35)), (3, .row 42 (fl c3q13))] 33 follows (by kernel_rfl) ?_
                          exact hK2766 () _ _ _ trivial (leSt_m [(0, 0), (1, 1), (2, 2), (3, 3)] [] (by (try simp only [g2767, g2768, g2769]) <;> simp only [push_cast, seval]) (by (try simp only [g2767, g2768, g2769]) <;> simp only [push_cast, seval]) rfl rfl rfl)
                        · refine rn 19 [(0, iS free), (1, .sl moves.length (fl moves)), (5, .ptr 0 0), (6, iS got39), (7, iS released21), (8, iS last39), (9, .own 1 0 c1q21.length), (10, iS i7), (139, bS false), (144, .gd true (bS false))] [(0, .row 24 [iS c0_Free21, .own 3 0 c3q13.length]), (1, .row 3 (fl c1q21)), (2, .row 3 (fl c2q35)), (3, .row 42 (fl c3q13))] 23 (by kernel_rfl) ?_
                          refine rs 10 [] [] (by kernel_rfl) allP_nil ?_
                          refine rt [(0, iS free), (1, .sl moves.length (fl moves)), (5, .ptr 0 0), (6, iS got39), (7, iS released21), (8, iS last39), (9, .own 1 0 c1q21.length), (10, iS i7), (154, bS false)] [(0, .row 24 [iS c0_Free21, .own 3 0 c3q13.length]), (1, .row 3 (fl c1q21)), (2, .row 3 (fl c2q35)), (3, .row 42 (fl c3q13))] 33 follows (by kernel_rfl) ?_
                          exact hK2766 () _ _ _ trivial (leSt_m [(0, 0), (1, 1), (2, 2), (3, 3)] [] (by (try simp only [g2767, g2768, g2769]) <;> simp only [push_cast, seval]) (by (try simp only [g2767, g2768, g2769]) <;> simp only [push_cast, seval]) rfl rfl rfl)
                  · dsimp only
                    refine cond_sx h (by kernel_rfl) (fun g2772 h => ?_) (fun g2772 h => ?_)
                    · refine seq_np ?_
                      refine reg_f ?_
                      refine rs 1 [] [] (by kernel_rfl) allP_nil ?_
                      refine rf [(4, bS false)] [(0, .row 24 [iS c0_Free21, .own 3 0 c3q13.length]), (1, .row 3 (fl c1q21)), (2, .row 3 (fl c2q35)), (3, .row 42 (fl c3q13))] 33 (by kernel_rfl) ?_
                      refine wk_id ?_
                      refine rt_cast ht3 ?_
                      obtain ⟨r0, h, e0⟩ := map_sx h
                      have e1 := hr3 r0 e0.symm
                      subst r0
                      obtain rfl := Option.some.inj h
                      refine ret_at (bS false) (by kernel_rfl) ?_
                      exact ret_e [] [] (by simp only [push_cast, seval]) (by simp only [push_cast, seval]) rfl rfl rfl
                    · refine wk_id ?_
                      refine wk_id ?_
                      refine reg_f ?_
                      refine rs 3 [] [] (by kernel_rfl) allP_nil ?_
                      refine rf [(0, iS free), (1, .sl moves.length (fl moves)), (5, .ptr 0 0), (6, iS got39), (7, iS released21), (8, iS last39), (9, .own 1 0 c1q21.length), (10, iS (IntKind.i64.wrap (i7 + 1)))] [(0, .row 24 [iS c0_Free21, .own 3 0 c3q13.length]), (1, .row 3 (fl c1q21)), (2, .row 3 (fl c2q35)), (3, .row 42 (fl c3q13))] 33 (by kernel_rfl) ?_
                      exact hn3 (got39, released21, last39, (IntKind.i64.wrap (i7 + 1)), c0_Free21, c1q21, c3q13) _ _ _ (Option.some.inj h).symm (leSt_m [(0, 0), (1, 1), (2, 3)] [] (by simp only [push_cast, seval]) (by simp only [push_cast, seval]) rfl rfl rfl)
        · refine ex_cast hx3 (id := 0) ?_
          obtain ⟨r0, h, e0⟩ := map_sx h
          have e1 := hr3 r0 e0.symm
          subst r0
          refine wk_id ?_
          refine wk_id ?_
          refine seq_np ?_
          refine reg_f ?_
          refine rs 1 [] [] (by kernel_rfl) allP_nil ?_
          refine rf [(4, bS true)] [(0, .row 24 [iS c0_Free18, .own 2 0 c2q29.length]), (1, .row 3 (fl c1q18)), (2, .row 42 (fl c2q29))] 3 (by kernel_rfl) ?_
          refine wk_id ?_
          obtain rfl := Option.some.inj h
          refine ret_at (bS true) (by kernel_rfl) ?_
          exact ret_e [] [] (by simp only [push_cast, seval]) (by simp only [push_cast, seval]) rfl rfl rfl

set_option maxRecDepth 100000 in
set_option maxHeartbeats 10000000 in
theorem taskmilllaw_SyncMutex_spec (tasks : Int) (r : Bool) (h : taskmilllaw_SyncMutex tasks = some r) : SpecW Try.prog 5 [iS tasks] [] 0 (fun x h n => x = bS r ∧ h = [] ∧ n = 0) := by
  unfold taskmilllaw_SyncMutex at h
  refine spec_of (draw_ok _) Try.func5 rfl (by decide) rfl (by kernel_rfl) ?_
  refine seq_np ?_
  refine reg_f ?_
  refine rs 1 [] [] (by kernel_rfl) allP_nil ?_
  refine rf [(0, iS tasks)] [] 0 (by kernel_rfl) ?_
  refine wk_id ?_
  refine seq_np ?_
  refine seq_np ?_
  refine reg_f ?_
  obtain ⟨r2826, hr2826, h⟩ := bind_sx h
  refine run_call 12 [] (some 15) (by kernel_rfl) ?_
  refine call_0 (taskmilllaw_syncBegun_spec r2826 hr2826) (by simp only [push_cast, seval]) (by simp only [push_cast, seval]) ?_
  refine back_f ?_
  refine rs 1 [] [] (by kernel_rfl) allP_nil ?_
  refine rf [(0, iS tasks), (16, bS (!r2826))] [] 0 (by kernel_rfl) ?_
  refine wk_id ?_
  refine cond_sx h (by kernel_rfl) (fun g2981 h => ?_) (fun g2981 h => ?_)
  · refine seq_np ?_
    refine reg_f ?_
    refine rs 1 [] [] (by kernel_rfl) allP_nil ?_
    refine rf [(2, bS false)] [] 0 (by kernel_rfl) ?_
    refine wk_id ?_
    obtain rfl := Option.some.inj h
    refine ret_at (bS false) (by kernel_rfl) ?_
    exact ret_e [] [] (by simp only [push_cast, seval]) (by simp only [push_cast, seval]) rfl rfl rfl
  · refine wk_id ?_
    refine seq_np ?_
    refine seq_cut (A := Unit) (fun _ => ([(0, iS tasks), (22, bS ((decide (tasks < 1)) || (decide ((60 : Int) < tasks))))], [], 0)) (fun _ => True) (fun K2830 hK2830 => ?_) (fun _ _ => ?_)
    · refine reg_f ?_
      refine rs 3 [] [] (by kernel_rfl) allP_nil ?_
      refine run_split 19 (decide (tasks < 1)) (.inl (by kernel_rfl)) (fun g2831 => ?_) (fun g2831 => ?_)
      · refine rs 3 [] [] (by kernel_rfl) allP_nil ?_
        refine rf [(0, iS tasks), (22, bS true)] [] 0 (by kernel_rfl) ?_
        exact hK2830 () _ _ _ trivial (leSt_m [] [] (by (try simp only [g2831]) <;> simp only [push_cast, seval]) (by (try simp only [g2831]) <;> simp only [push_cast, seval]) rfl rfl rfl)
      · refine rs 3 [] [] (by kernel_rfl) allP_nil ?_
        refine rf [(0, iS tasks), (22, bS (decide ((60 : Int) < tasks)))] [] 0 (by kernel_rfl) ?_
        exact hK2830 () _ _ _ trivial (leSt_m [] [] (by (try simp only [g2831]) <;> simp only [push_cast, seval]) (by (try simp only [g2831]) <;> simp only [push_cast, seval]) rfl rfl rfl)
    · dsimp only
      refine cond_sx h (by kernel_rfl) (fun g2980 h => ?_) (fun g2980 h => ?_)
      · refine seq_np ?_
        refine reg_f ?_
        refine rs 1 [] [] (by kernel_rfl) allP_nil ?_
        refine rf [(2, bS true)] [] 0 (by kernel_rfl) ?_
        refine wk_id ?_
        obtain rfl := Option.some.inj h
        refine ret_at (bS true) (by kernel_rfl) ?_
        exact ret_e [] [] (by simp only [push_cast, seval]) (by simp only [push_cast, seval]) rfl rfl rfl
      · refine wk_id ?_
        refine seq_np ?_
        refine reg_f ?_
        refine rs 3 [] [] (by kernel_rfl) allP_nil ?_
        refine rf [(0, iS tasks), (3, .ptr 0 0)] [(0, .row 24 [iS 1, .v (.slice none 0 0)])] 1 (by kernel_rfl) ?_
        refine wk_id ?_
        refine seq_np ?_
        refine seq_np ?_
        refine reg_f ?_
        refine rs 1 [] [] (by kernel_rfl) allP_nil ?_
        refine rf [(0, iS tasks), (3, .ptr 0 0), (4, iS 1)] [(0, .row 24 [iS 1, .v (.slice none 0 0)])] 1 (by kernel_rfl) ?_
        refine wk_id ?_
        refine block_np ?_
        refine loop_sx (S := Int × Int × (List Want)) (fun a => ([(0, iS tasks), (3, .ptr 0 0), (4, iS a.1)], [(0, .row 24 [iS a.2.1, .own 1 0 a.2.2.length]), (1, .row 42 (fl a.2.2))], 2)) h (leSt_m [(0, 0)] [] (by simp only [push_cast, seval]) (by simp only [push_cast, seval]) rfl rfl rfl) ?_
        rintro ⟨t9, c0_Free9, c1q9⟩ o3 R3 h hr3 hn3 hx3 ht3
        try dsimp only at h hn3 ⊢
        unfold taskmilllaw_SyncMutex_l2 at h
        try dsimp only at h
        refine seq_np ?_
        refine seq_np ?_
        refine reg_f ?_
        refine rs 3 [] [] (by kernel_rfl) allP_nil ?_
        refine rf [(0, iS tasks), (3, .ptr 0 0), (4, iS t9), (26, bS (decide (t9 ≤ tasks)))] [(0, .row 24 [iS c0_Free9, .own 1 0 c1q9.length]), (1, .row 42 (fl c1q9))] 2 (by kernel_rfl) ?_
        refine wk_id ?_
        refine cond_sx h (by kernel_rfl) (fun g2979 h => ?_) (fun g2979 h => ?_)
        · refine wk_id ?_
          refine seq_np ?_
          refine block_np ?_
          refine seq_np ?_
          refine reg_f ?_
          refine rs 2 [] [] (by kernel_rfl) allP_nil ?_
          obtain ⟨r2875, hr2875, h⟩ := bind_sx h
          refine call_x (sync_Acquire_spec (Sema.mk c0_Free9 c1q9) t9 1 false r2875 hr2875) (args := [.agg [iS c0_Free9, .own 1 0 c1q9.length], iS t9, iS 1, bS false]) (dst := (some 32)) (by kernel_rfl) [(0, .row 24 [iS c0_Free9, .own 1 0 c1q9.length]), (1, .row 42 (fl c1q9))] 2 (by kernel_rfl) [] [1] (.tup [.agg [iS r2875.1, .own 2 0 r2875.2.2.2.length], bS r2875.2.1, .agg (Enc.cells r2875.2.2.1)]) [(2, .row 42 (fl r2875.2.2.2))] (by simp only [push_cast, seval]) (by simp only [push_cast, seval]) (by kernel_rfl) (.inr ⟨by simp only [push_cast, seval], by simp only [push_cast, seval]⟩) (by simp only [push_cast, seval]) (by simp only [push_cast, seval]) ?_
          refine rs 9 [] [] (by kernel_rfl) allP_nil ?_
          refine rf [(0, iS tasks), (3, .ptr 0 0), (4, iS t9), (5, .ptr 3 0), (6, bS r2875.2.1), (7, .ptr 4 0)] [(0, .row 24 [iS c0_Free9, .own 1 0 c1q9.length]), (1, .row 42 (fl c1q9)), (2, .row 42 (fl r2875.2.2.2)), (3, .row 24 [iS r2875.1, .own 2 0 r2875.2.2.2.length]), (4, .row 29 (Enc.cells r2875.2.2.1))] 5 (by kernel_rfl) ?_
          refine wk_id ?_
          refine seq_np ?_
          refine seq_cut (A := Unit) (fun _ => ([(0, iS tasks), (3, .ptr 0 0), (4, iS t9), (5, .ptr 3 0), (44, bS ((r2875.2.2.1.Code != 0) || (r2875.2.1 != (t9 == 1))))], [(0, .row 24 [iS c0_Free9, .own 1 0 c1q9.length]), (1, .row 42 (fl c1q9)), (2, .row 42 (fl r2875.2.2.2)), (3, .row 24 [iS r2875.1, .own 2 0 r2875.2.2.2.length]), (4, .row 29 (Enc.cells r2875.2.2.1))], 5)) (fun _ => True) (fun K2879 hK2879 => ?_) (fun _ _ => ?_)
          · refine reg_f ?_
            refine rs 4 [] [] (by kernel_rfl) allP_nil ?_
            refine run_split 39 (r2875.2.2.1.Code != 0) (.inl (by kernel_rfl)) (fun g2880 => ?_) (fun g2880 => ?_)
            · refine rs 5 [] [] (by kernel_rfl) allP_nil ?_
              refine rf [(0, iS tasks), (3, .ptr 0 0), (4, iS t9), (5, .ptr 3 0), (44, bS true)] [(0, .row 24 [iS c0_Free9, .own 1 0 c1q9.length]), (1, .row 42 (fl c1q9)), (2, .row 42 (fl r2875.2.2.2)), (3, .row 24 [iS r2875.1, .own 2 0 r2875.2.2.2.length]), (4, .row 29 (Enc.cells r2875.2.2.1))] 5 (by kernel_rfl) ?_
              exact hK2879 () _ _ _ trivial (leSt_m [(0, 0), (1, 1), (2, 2), (3, 3), (4, 4)] [] (by (try simp only [g2880]) <;> simp only [push_cast, seval]) (by (try simp only [g2880]) <;> simp only [push_cast, seval]) rfl rfl rfl)
            · refine rs 5 [] [] (by kernel_rfl) allP_nil ?_
              refine rf [(0, iS tasks), (3, .ptr 0 0), (4, iS t9), (5, .ptr 3 0), (44, bS (r2875.2.1 != (t9 == 1)))] [(0, .row 24 [iS c0_Free9, .own 1 0 c1q9.length]), (1, .row 42 (fl c1q9)), (2, .row 42 (fl r2875.2.2.2)), (3, .row 24 [iS r2875.1, .own 2 0 r2875.2.2.2.length]), (4, .row 29 (Enc.cells r2875.2.2.1))] 5 (by kernel_rfl) ?_
              exact hK2879 () _ _ _ trivial (leSt_m [(0, 0), (1, 1), (2, 2), (3, 3), (4, 4)] [] (by (try simp only [g2880]) <;> simp only [push_cast, seval]) (by (try simp only [g2880]) <;> simp only [push_cast, seval]) rfl rfl rfl)
          · dsimp only
            refine cond_sx h (by kernel_rfl) (fun g2881 h => ?_) (fun g2881 h => ?_)
            · refine seq_np ?_
              refine reg_f ?_
              refine rs 1 [] [] (by kernel_rfl) allP_nil ?_
              refine rf [(2, bS false)] [(0, .row 24 [iS c0_Free9, .own 1 0 c1q9.length]), (1, .row 42 (fl c1q9)), (2, .row 42 (fl r2875.2.2.2)), (3, .row 24 [iS r2875.1, .own 2 0 r2875.2.2.2.length]), (4, .row 29 (Enc.cells r2875.2.2.1))] 5 (by kernel_rfl) ?_
              refine wk_id ?_
              refine rt_cast ht3 ?_
              obtain ⟨r0, h, e0⟩ := map_sx h
              have e1 := hr3 r0 e0.symm
              subst r0
              obtain rfl := Option.some.inj h
              refine ret_at (bS false) (by kernel_rfl) ?_
              exact ret_e [] [] (by simp only [push_cast, seval]) (by simp only [push_cast, seval]) rfl rfl rfl
            · refine wk_id ?_
              refine reg_f ?_
              refine rs 2 [] [] (by kernel_rfl) allP_nil ?_
              refine rf [(0, iS tasks), (3, .ptr 0 0), (4, iS t9)] [(0, .row 24 [iS r2875.1, .own 2 0 r2875.2.2.2.length]), (1, .row 42 (fl c1q9)), (2, .row 42 (fl r2875.2.2.2)), (3, .row 24 [iS r2875.1, .own 2 0 r2875.2.2.2.length]), (4, .row 29 (Enc.cells r2875.2.2.1))] 5 (by kernel_rfl) ?_
              refine wk_id ?_
              refine wk_id ?_
              refine reg_f ?_
              refine rs 3 [] [] (by kernel_rfl) allP_nil ?_
              refine rf [(0, iS tasks), (3, .ptr 0 0), (4, iS (IntKind.i64.wrap (t9 + 1)))] [(0, .row 24 [iS r2875.1, .own 2 0 r2875.2.2.2.length]), (1, .row 42 (fl c1q9)), (2, .row 42 (fl r2875.2.2.2)), (3, .row 24 [iS r2875.1, .own 2 0 r2875.2.2.2.length]), (4, .row 29 (Enc.cells r2875.2.2.1))] 5 (by kernel_rfl) ?_
              exact hn3 ((IntKind.i64.wrap (t9 + 1)), r2875.1, r2875.2.2.2) _ _ _ (Option.some.inj h).symm (leSt_m [(0, 0), (1, 2)] [] (by simp only [push_cast, seval]) (by simp only [push_cast, seval]) rfl rfl rfl)
        · refine ex_cast hx3 (id := 0) ?_
          obtain ⟨r0, h, e0⟩ := map_sx h
          have e1 := hr3 r0 e0.symm
          subst r0
          refine wk_id ?_
          refine wk_id ?_
          refine seq_np ?_
          refine seq_np ?_
          refine reg_f ?_
          refine rs 1 [] [] (by kernel_rfl) allP_nil ?_
          refine rf [(0, iS tasks), (3, .ptr 0 0), (8, iS 2)] [(0, .row 24 [iS c0_Free9, .own 1 0 c1q9.length]), (1, .row 42 (fl c1q9))] 2 (by kernel_rfl) ?_
          refine wk_id ?_
          refine block_np ?_
          refine loop_sx (S := Int × Int × (List Want)) (fun a => ([(0, iS tasks), (3, .ptr 0 0), (8, iS a.1)], [(0, .row 24 [iS a.2.1, .own 1 0 a.2.2.length]), (1, .row 42 (fl a.2.2))], 2)) h (leSt_m [(0, 0), (1, 1)] [] (by simp only [push_cast, seval]) (by simp only [push_cast, seval]) rfl rfl rfl) ?_
          rintro ⟨t15, c0_Free15, c1q15⟩ o4 R4 h hr4 hn4 hx4 ht4
          try dsimp only at h hn4 ⊢
          unfold taskmilllaw_SyncMutex_l1 at h
          try dsimp only at h
          refine seq_np ?_
          refine seq_np ?_
          refine reg_f ?_
          refine rs 3 [] [] (by kernel_rfl) allP_nil ?_
          refine rf [(0, iS tasks), (3, .ptr 0 0), (8, iS t15), (48, bS (decide (t15 ≤ tasks)))] [(0, .row 24 [iS c0_Free15, .own 1 0 c1q15.length]), (1, .row 42 (fl c1q15))] 2 (by kernel_rfl) ?_
          refine wk_id ?_
          refine cond_sx h (by kernel_rfl) (fun g2978 h => ?_) (fun g2978 h => ?_)
          · refine wk_id ?_
            refine seq_np ?_
            refine block_np ?_
            refine seq_np ?_
            refine reg_f ?_
            refine rs 1 [] [] (by kernel_rfl) allP_nil ?_
            obtain ⟨r2955, hr2955, h⟩ := bind_sx h
            refine call_x (sync_Release_spec (Sema.mk c0_Free15 c1q15) 1 r2955 hr2955) (args := [.agg [iS c0_Free15, .own 1 0 c1q15.length], iS 1]) (dst := (some 53)) (by kernel_rfl) [(0, .row 24 [iS c0_Free15, .own 1 0 c1q15.length]), (1, .row 42 (fl c1q15))] 2 (by kernel_rfl) [] [1] (.tup [.agg [iS r2955.1, .own 2 0 r2955.2.2.1.length], .own 3 0 r2955.2.2.2.length, .agg (Enc.cells r2955.2.1)]) [(2, .row 42 (fl r2955.2.2.1)), (3, .row 3 (fl r2955.2.2.2))] (by simp only [push_cast, seval]) (by simp only [push_cast, seval]) (by kernel_rfl) (.inr ⟨by simp only [push_cast, seval], by simp only [push_cast, seval]⟩) (by simp only [push_cast, seval]) (by simp only [push_cast, seval]) ?_
            refine rs 9 [] [] (by kernel_rfl) allP_nil ?_
            refine rf [(0, iS tasks), (3, .ptr 0 0), (8, iS t15), (9, .ptr 4 0), (10, .own 3 0 r2955.2.2.2.length), (11, .ptr 5 0)] [(0, .row 24 [iS c0_Free15, .own 1 0 c1q15.length]), (1, .row 42 (fl c1q15)), (2, .row 42 (fl r2955.2.2.1)), (3, .row 3 (fl r2955.2.2.2)), (4, .row 24 [iS r2955.1, .own 2 0 r2955.2.2.1.length]), (5, .row 29 (Enc.cells r2955.2.1))] 6 (by kernel_rfl) ?_
            refine wk_id ?_
            refine seq_np ?_
            refine seq_cut (A := Bool × Int × (List Want)) (fun a => ([(0, iS tasks), (3, .ptr 0 0), (8, iS t15), (9, .ptr 1 0), (66, bS a.1)], [(0, .row 24 [iS c0_Free15, .own 2 0 c1q15.length]), (1, .row 24 [iS a.2.1, .own 3 0 a.2.2.length]), (2, .row 42 (fl c1q15)), (3, .row 42 (fl a.2.2))], 4)) (fun a => (taskmilllaw_SyncMutex_j1 tasks t15 c0_Free15 c1q15 a.1 a.2.1 a.2.2) = some o4) (fun K2964 hK2964 => ?_) ?_
            · refine reg_f ?_
              refine rs 4 [] [] (by kernel_rfl) allP_nil ?_
              refine run_br h 60 (.inl (by kernel_rfl)) (fun g2965 h => ?_) (fun g2965 h => ?_)
              · refine rs 6 [] [] (by kernel_rfl) allP_nil ?_
                refine rf [(0, iS tasks), (3, .ptr 0 0), (8, iS t15), (9, .ptr 4 0), (66, bS true)] [(0, .row 24 [iS c0_Free15, .own 1 0 c1q15.length]), (1, .row 42 (fl c1q15)), (2, .row 42 (fl r2955.2.2.1)), (3, .row 3 (fl r2955.2.2.2)), (4, .row 24 [iS r2955.1, .own 2 0 r2955.2.2.1.length]), (5, .row 29 (Enc.cells r2955.2.1))] 6 (by kernel_rfl) ?_
                exact hK2964 (true, r2955.1, r2955.2.2.1) _ _ _ h (leSt_m [(0, 0), (1, 4), (2, 1), (3, 2)] [] (by (try simp only [g2965]) <;> simp only [push_cast, seval]) (by (try simp only [g2965]) <;> simp only [push_cast, seval]) rfl rfl rfl)
              · refine rs 3 [] [] (by kernel_rfl) allP_nil ?_
                obtain ⟨r2966, hr2966, h⟩ := bind_sx h
                refine call_x (taskmillref_Ints_spec r2955.2.2.2 ([t15] : List Int) r2966 hr2966) (args := [.own 3 0 r2955.2.2.2.length, .own 6 0 ([t15] : List Int).length]) (dst := (some 64)) (by kernel_rfl) [(0, .row 24 [iS c0_Free15, .own 1 0 c1q15.length]), (1, .row 42 (fl c1q15)), (2, .row 42 (fl r2955.2.2.1)), (3, .row 3 (fl r2955.2.2.2)), (4, .row 24 [iS r2955.1, .own 2 0 r2955.2.2.1.length]), (5, .row 29 (Enc.cells r2955.2.1)), (6, .row 3 (fl ([t15] : List Int)))] 7 (by kernel_rfl) [] [3, 6] (bS r2966) [] (by simp only [push_cast, seval]) (by simp only [push_cast, seval]) (by kernel_rfl) (.inr ⟨by simp only [push_cast, seval], by simp only [push_cast, seval]⟩) (by simp only [push_cast, seval]) (by simp only [push_cast, seval]) ?_
                refine rs 2 [] [] (by kernel_rfl) allP_nil ?_
                refine rf [(0, iS tasks), (3, .ptr 0 0), (8, iS t15), (9, .ptr 4 0), (66, bS (!r2966))] [(0, .row 24 [iS c0_Free15, .own 1 0 c1q15.length]), (1, .row 42 (fl c1q15)), (2, .row 42 (fl r2955.2.2.1)), (3, .row 3 (fl r2955.2.2.2)), (4, .row 24 [iS r2955.1, .own 2 0 r2955.2.2.1.length]), (5, .row 29 (Enc.cells r2955.2.1)), (6, .row 3 (fl ([t15] : List Int)))] 7 (by kernel_rfl) ?_
                exact hK2964 ((!r2966), r2955.1, r2955.2.2.1) _ _ _ h (leSt_m [(0, 0), (1, 4), (2, 1), (3, 2)] [] (by (try simp only [g2965]) <;> simp only [push_cast, seval]) (by (try simp only [g2965]) <;> simp only [push_cast, seval]) rfl rfl rfl)
            · rintro ⟨t66q14, c1_Free14, c3q14⟩ h
              try dsimp only at h ⊢
              unfold taskmilllaw_SyncMutex_j1 at h
              refine cond_sx h (by kernel_rfl) (fun g2967 h => ?_) (fun g2967 h => ?_)
              · refine seq_np ?_
                refine reg_f ?_
                refine rs 1 [] [] (by kernel_rfl) allP_nil ?_
                refine rf [(2, bS false)] [(0, .row 24 [iS c0_Free15, .own 2 0 c1q15.length]), (1, .row 24 [iS c1_Free14, .own 3 0 c3q14.length]), (2, .row 42 (fl c1q15)), (3, .row 42 (fl c3q14))] 4 (by kernel_rfl) ?_
                refine wk_id ?_
                refine rt_cast ht4 ?_
                obtain ⟨r0, h, e0⟩ := map_sx h
                have e1 := hr4 r0 e0.symm
                subst r0
                obtain rfl := Option.some.inj h
                refine ret_at (bS false) (by kernel_rfl) ?_
                exact ret_e [] [] (by simp only [push_cast, seval]) (by simp only [push_cast, seval]) rfl rfl rfl
              · refine wk_id ?_
                refine reg_f ?_
                refine rs 2 [] [] (by kernel_rfl) allP_nil ?_
                refine rf [(0, iS tasks), (3, .ptr 0 0), (8, iS t15)] [(0, .row 24 [iS c1_Free14, .own 3 0 c3q14.length]), (1, .row 24 [iS c1_Free14, .own 3 0 c3q14.length]), (2, .row 42 (fl c1q15)), (3, .row 42 (fl c3q14))] 4 (by kernel_rfl) ?_
                refine wk_id ?_
                refine wk_id ?_
                refine reg_f ?_
                refine rs 3 [] [] (by kernel_rfl) allP_nil ?_
                refine rf [(0, iS tasks), (3, .ptr 0 0), (8, iS (IntKind.i64.wrap (t15 + 1)))] [(0, .row 24 [iS c1_Free14, .own 3 0 c3q14.length]), (1, .row 24 [iS c1_Free14, .own 3 0 c3q14.length]), (2, .row 42 (fl c1q15)), (3, .row 42 (fl c3q14))] 4 (by kernel_rfl) ?_
                exact hn4 ((IntKind.i64.wrap (t15 + 1)), c1_Free14, c3q14) _ _ _ (Option.some.inj h).symm (leSt_m [(0, 0), (1, 3)] [] (by simp only [push_cast, seval]) (by simp only [push_cast, seval]) rfl rfl rfl)
          · refine ex_cast hx4 (id := 2) ?_
            obtain ⟨r0, h, e0⟩ := map_sx h
            have e1 := hr4 r0 e0.symm
            subst r0
            refine wk_id ?_
            refine wk_id ?_
            refine seq_np ?_
            refine reg_f ?_
            refine rs 1 [] [] (by kernel_rfl) allP_nil ?_
            obtain ⟨r2969, hr2969, h⟩ := bind_sx h
            refine call_x (sync_Release_spec (Sema.mk c0_Free15 c1q15) 1 r2969 hr2969) (args := [.agg [iS c0_Free15, .own 1 0 c1q15.length], iS 1]) (dst := (some 70)) (by kernel_rfl) [(0, .row 24 [iS c0_Free15, .own 1 0 c1q15.length]), (1, .row 42 (fl c1q15))] 2 (by kernel_rfl) [] [1] (.tup [.agg [iS r2969.1, .own 2 0 r2969.2.2.1.length], .own 3 0 r2969.2.2.2.length, .agg (Enc.cells r2969.2.1)]) [(2, .row 42 (fl r2969.2.2.1)), (3, .row 3 (fl r2969.2.2.2))] (by simp only [push_cast, seval]) (by simp only [push_cast, seval]) (by kernel_rfl) (.inr ⟨by simp only [push_cast, seval], by simp only [push_cast, seval]⟩) (by simp only [push_cast, seval]) (by simp only [push_cast, seval]) ?_
            refine rs 9 [] [] (by kernel_rfl) allP_nil ?_
            refine rf [(12, .ptr 4 0), (13, .own 3 0 r2969.2.2.2.length), (14, .ptr 5 0)] [(0, .row 24 [iS c0_Free15, .own 1 0 c1q15.length]), (1, .row 42 (fl c1q15)), (2, .row 42 (fl r2969.2.2.1)), (3, .row 3 (fl r2969.2.2.2)), (4, .row 24 [iS r2969.1, .own 2 0 r2969.2.2.1.length]), (5, .row 29 (Enc.cells r2969.2.1))] 6 (by kernel_rfl) ?_
            refine wk_id ?_
            refine seq_cut (A := Bool) (fun a => ([(2, bS a)], [], 0)) (fun a => (taskmilllaw_SyncMutex_j2 a) = some r) (fun K2974 hK2974 => ?_) ?_
            · refine reg_f ?_
              refine rs 4 [] [] (by kernel_rfl) allP_nil ?_
              refine run_br h 77 (.inl (by kernel_rfl)) (fun g2975 h => ?_) (fun g2975 h => ?_)
              · refine rs 5 [] [] (by kernel_rfl) allP_nil ?_
                refine run_br h 82 (.inl (by kernel_rfl)) (fun g2976 h => ?_) (fun g2976 h => ?_)
                · refine rs 2 [] [] (by kernel_rfl) allP_nil ?_
                  obtain ⟨r2977, hr2977, h⟩ := bind_sx h
                  refine call_x (taskmilllaw_sameSema_spec (Sema.mk r2969.1 r2969.2.2.1) (Sema.mk 1 []) r2977 hr2977) (args := [.agg [iS r2969.1, .own 2 0 r2969.2.2.1.length], .agg [iS 1, .v (.slice none 0 0)]]) (dst := (some 85)) (by kernel_rfl) [(0, .row 24 [iS c0_Free15, .own 1 0 c1q15.length]), (1, .row 42 (fl c1q15)), (2, .row 42 (fl r2969.2.2.1)), (3, .row 3 (fl r2969.2.2.2)), (4, .row 24 [iS r2969.1, .own 2 0 r2969.2.2.1.length]), (5, .row 29 (Enc.cells r2969.2.1))] 6 (by kernel_rfl) [] [2] (bS r2977) [] (by simp only [push_cast, seval]) (by simp only [push_cast, seval]) (by kernel_rfl) (.inr ⟨by simp only [push_cast, seval], by simp only [push_cast, seval]⟩) (by simp only [push_cast, seval]) (by simp only [push_cast, seval]) ?_
                  refine rs 2 [] [] (by kernel_rfl) allP_nil ?_
                  refine rf [(2, bS r2977)] [(0, .row 24 [iS c0_Free15, .own 1 0 c1q15.length]), (1, .row 42 (fl c1q15)), (2, .row 42 (fl r2969.2.2.1)), (3, .row 3 (fl r2969.2.2.2)), (4, .row 24 [iS r2969.1, .own 2 0 r2969.2.2.1.length]), (5, .row 29 (Enc.cells r2969.2.1))] 6 (by kernel_rfl) ?_
                  exact hK2974 (r2977) _ _ _ h (leSt_m [] [] (by (try simp only [g2975, g2976]) <;> simp only [push_cast, seval]) (by (try simp only [g2975, g2976]) <;> simp only [push_cast, seval]) rfl rfl rfl)
                · refine rs 5 [] [] (by kernel_rfl) allP_nil ?_
                  refine rf [(2, bS false)] [(0, .row 24 [iS c0_Free15, .own 1 0 c1q15.length]), (1, .row 42 (fl c1q15)), (2, .row 42 (fl r2969.2.2.1)), (3, .row 3 (fl r2969.2.2.2)), (4, .row 24 [iS r2969.1, .own 2 0 r2969.2.2.1.length]), (5, .row 29 (Enc.cells r2969.2.1))] 6 (by kernel_rfl) ?_
                  exact hK2974 (false) _ _ _ h (leSt_m [] [] (by (try simp only [g2975, g2976]) <;> simp only [push_cast, seval]) (by (try simp only [g2975, g2976]) <;> simp only [push_cast, seval]) rfl rfl rfl)
              · refine rs 10 [] [] (by kernel_rfl) allP_nil ?_
                refine rf [(2, bS false)] [(0, .row 24 [iS c0_Free15, .own 1 0 c1q15.length]), (1, .row 42 (fl c1q15)), (2, .row 42 (fl r2969.2.2.1)), (3, .row 3 (fl r2969.2.2.2)), (4, .row 24 [iS r2969.1, .own 2 0 r2969.2.2.1.length]), (5, .row 29 (Enc.cells r2969.2.1))] 6 (by kernel_rfl) ?_
                exact hK2974 (false) _ _ _ h (leSt_m [] [] (by (try simp only [g2975]) <;> simp only [push_cast, seval]) (by (try simp only [g2975]) <;> simp only [push_cast, seval]) rfl rfl rfl)
            · rintro t2q1 h
              try dsimp only at h ⊢
              unfold taskmilllaw_SyncMutex_j2 at h
              obtain rfl := Option.some.inj h
              refine ret_at (bS t2q1) (by kernel_rfl) ?_
              exact ret_e [] [] (by simp only [push_cast, seval]) (by simp only [push_cast, seval]) rfl rfl rfl

set_option maxRecDepth 100000 in
set_option maxHeartbeats 10000000 in
theorem taskmilllaw_own_spec (l : (List Int)) (r : (List Int)) (h : taskmilllaw_own l = some r) : SpecW Try.prog 24 [.sl l.length (fl l)] [] 0 (fun x h n => x = .own 0 0 r.length ∧ h = [(0, .row 3 (fl r))] ∧ n = 1) := by
  unfold taskmilllaw_own at h
  refine spec_of (draw_ok _) Try.func24 rfl (by decide) rfl (by kernel_rfl) ?_
  refine seq_np ?_
  refine reg_f ?_
  refine rs 1 [] [] (by kernel_rfl) allP_nil ?_
  refine rf [(0, .sl l.length (fl l))] [] 0 (by kernel_rfl) ?_
  refine wk_id ?_
  refine chk_sx h (fun g2991 h => ?_)
  refine seq_np ?_
  refine reg_f ?_
  have k2990 : l.length * 8 ≤ 140737488355328 := by first | simpa only [Bool.and_eq_true, decide_eq_true_eq, bne_iff_ne, ne_eq] using g2991 | (simp at g2991 ⊢; omega)
  refine rs 3 [none, some ⟨.own 0 0 l.length, [(0, .row 3 (fl l))], 1, []⟩] _ (by kernel_rfl) (allP_cons (ob_app0 (P := Try.prog) l 1 8 rfl (fl l) l.length rfl rfl ((fl l).length = l.length * 1) (app_sl l 1 rfl) 3 (by kernel_rfl) (by decide) k2990 0 []) allP_nil) ?_
  refine rf [(2, .own 0 0 l.length)] [(0, .row 3 (fl l))] 1 (by kernel_rfl) ?_
  refine wk_id ?_
  obtain rfl := Option.some.inj h
  refine ret_at (.own 0 0 l.length) (by kernel_rfl) ?_
  exact ret_e [(0, 0)] [] (by simp only [push_cast, seval]) (by simp only [push_cast, seval]) rfl rfl rfl

set_option maxRecDepth 100000 in
set_option maxHeartbeats 10000000 in
theorem sync_line_spec (l : (List Int)) (r : Fault) (h : sync_line l = some r) : SpecW Try.prog 45 [.sl l.length (fl l)] [] 0 (fun x h n => x = .agg (Enc.cells r) ∧ h = [] ∧ n = 0) := by
  unfold sync_line at h
  refine spec_of (draw_ok _) Try.func45 rfl (by decide) rfl (by kernel_rfl) ?_
  refine seq_np ?_
  refine reg_f ?_
  refine rs 1 [] [] (by kernel_rfl) allP_nil ?_
  refine rf [(0, .sl l.length (fl l)), (2, .ptr 0 0)] [(0, .row 29 [iS 0, iS 0])] 1 (by kernel_rfl) ?_
  refine wk_id ?_
  refine seq_np ?_
  refine seq_np ?_
  refine reg_f ?_
  refine rs 3 [] [] (by kernel_rfl) allP_nil ?_
  refine rf [(0, .sl l.length (fl l)), (2, .ptr 0 0), (8, bS (decide ((5000 : Int) < ((l.length : Nat) : Int))))] [(0, .row 29 [iS 0, iS 0])] 1 (by kernel_rfl) ?_
  refine wk_id ?_
  refine cond_sx h (by kernel_rfl) (fun g3108 h => ?_) (fun g3108 h => ?_)
  · refine seq_np ?_
    refine reg_f ?_
    obtain ⟨r3020, hr3020, h⟩ := bind_sx h
    refine run_call 38 [iS 2, iS 0] (some 9) (by kernel_rfl) ?_
    refine call_0 (sync_fault_spec 2 0 r3020 hr3020) (by simp only [push_cast, seval]) (by simp only [push_cast, seval]) ?_
    refine back_f ?_
    refine rs 1 [] [] (by kernel_rfl) allP_nil ?_
    refine rf [(2, .ptr 0 0)] [(0, .row 29 (Enc.cells r3020))] 1 (by kernel_rfl) ?_
    refine wk_id ?_
    obtain rfl := Option.some.inj h
    refine ret_at (.agg (Enc.cells r3020)) (by kernel_rfl) ?_
    exact ret_e [] [] (by simp only [push_cast, seval]) (by simp only [push_cast, seval]) rfl rfl rfl
  · refine wk_id ?_
    refine seq_np ?_
    refine reg_f ?_
    refine rs 2 [] [] (by kernel_rfl) allP_nil ?_
    refine rf [(0, .sl l.length (fl l)), (2, .ptr 0 0), (3, .mp 1)] [(0, .row 29 [iS 0, iS 0]), (1, .map (mi []))] 2 (by kernel_rfl) ?_
    refine wk_id ?_
    refine seq_np ?_
    refine seq_np ?_
    refine reg_f ?_
    refine rs 3 [] [] (by kernel_rfl) allP_nil ?_
    refine rf [(2, .ptr 0 0), (3, .mp 1), (11, .sl l.length (fl l)), (12, iS ((l.length : Nat) : Int)), (13, iS 0)] [(0, .row 29 [iS 0, iS 0]), (1, .map (mi []))] 2 (by kernel_rfl) ?_
    refine wk_id ?_
    refine block_np ?_
    refine loop_sx (S := Int × (List (Int × Int))) (fun a => ([(2, .ptr 0 0), (3, .mp 1), (11, .sl l.length (fl l)), (12, iS ((l.length : Nat) : Int)), (13, iS a.1)], [(0, .row 29 [iS 0, iS 0]), (1, .map (mi a.2))], 2)) h (leSt_m [(0, 0), (1, 1)] [] (by simp only [push_cast, seval]) (by simp only [push_cast, seval]) rfl rfl rfl) ?_
    rintro ⟨t13q7, c1q7⟩ o2 R2 h hr2 hn2 hx2 ht2
    try dsimp only at h hn2 ⊢
    unfold sync_line_l1 at h
    try dsimp only at h
    refine seq_np ?_
    refine reg_f ?_
    refine rs 1 [] [] (by kernel_rfl) allP_nil ?_
    refine rf [(2, .ptr 0 0), (3, .mp 1), (11, .sl l.length (fl l)), (12, iS ((l.length : Nat) : Int)), (13, iS t13q7), (14, bS (decide (t13q7 < ((l.length : Nat) : Int))))] [(0, .row 29 [iS 0, iS 0]), (1, .map (mi c1q7))] 2 (by kernel_rfl) ?_
    refine wk_id ?_
    refine seq_np ?_
    refine cond_sx h (by kernel_rfl) (fun g3107 h => ?_) (fun g3107 h => ?_)
    · refine wk_id ?_
      refine seq_np ?_
      refine block_np ?_
      refine chk_sx h (fun g3096 h => ?_)
      refine seq_np ?_
      refine reg_f ?_
      have k3095 : 0 ≤ t13q7 ∧ t13q7 < ((l.length : Nat) : Int) := by first | simpa only [Bool.and_eq_true, decide_eq_true_eq, bne_iff_ne, ne_eq] using g3096 | (simp at g3096 ⊢; omega)
      refine rs 5 [none, some ⟨.iptr (fl l) ((t13q7).toNat * 1), [], 2, []⟩, some ⟨iS (ix l t13q7), [], 2, []⟩] _ (by kernel_rfl) (allP_cons (ob_ld l t13q7 1 0 ((t13q7).toNat * 1) k3095 rfl (by decide) (by first | rfl | omega) (dflS Try.prog 3) (iS (ix l t13q7)) rfl 2 []) (allP_cons (ob_ix_l l 1 2 t13q7 k3095) allP_nil)) ?_
      refine rf [(2, .ptr 0 0), (3, .mp 1), (4, iS t13q7), (5, iS (ix l t13q7)), (11, .sl l.length (fl l)), (12, iS ((l.length : Nat) : Int)), (13, iS t13q7)] [(0, .row 29 [iS 0, iS 0]), (1, .map (mi c1q7))] 2 (by kernel_rfl) ?_
      refine wk_id ?_
      refine seq_np ?_
      refine seq_np ?_
      refine reg_f ?_
      refine rs 2 [] [] (by kernel_rfl) allP_nil ?_
      refine rf [(2, .ptr 0 0), (3, .mp 1), (4, iS t13q7), (5, iS (ix l t13q7)), (11, .sl l.length (fl l)), (12, iS ((l.length : Nat) : Int)), (13, iS t13q7), (19, bS (decide ((ix l t13q7) < 1)))] [(0, .row 29 [iS 0, iS 0]), (1, .map (mi c1q7))] 2 (by kernel_rfl) ?_
      refine wk_id ?_
      refine cond_sx h (by kernel_rfl) (fun g3106 h => ?_) (fun g3106 h => ?_)
      · refine seq_np ?_
        refine reg_f ?_
        refine rs 2 [] [] (by kernel_rfl) allP_nil ?_
        obtain ⟨r3100, hr3100, h⟩ := bind_sx h
        refine run_call 38 [iS 3, iS (IntKind.i64.wrap (t13q7 + 1))] (some 22) (by kernel_rfl) ?_
        refine call_0 (sync_fault_spec 3 (IntKind.i64.wrap (t13q7 + 1)) r3100 hr3100) (by simp only [push_cast, seval]) (by simp only [push_cast, seval]) ?_
        refine back_f ?_
        refine rs 1 [] [] (by kernel_rfl) allP_nil ?_
        refine rf [(2, .ptr 0 0)] [(0, .row 29 (Enc.cells r3100)), (1, .map (mi c1q7))] 2 (by kernel_rfl) ?_
        refine wk_id ?_
        refine rt_cast ht2 ?_
        obtain ⟨r0, h, e0⟩ := map_sx h
        have e1 := hr2 r0 e0.symm
        subst r0
        obtain rfl := Option.some.inj h
        refine ret_at (.agg (Enc.cells r3100)) (by kernel_rfl) ?_
        exact ret_e [] [] (by simp only [push_cast, seval]) (by simp only [push_cast, seval]) rfl rfl rfl
      · refine wk_id ?_
        refine seq_np ?_
        refine seq_np ?_
        refine reg_f ?_
        refine rs 4 [none, none, some ⟨iS (miGet c1q7 (ix l t13q7)), [], 2, [1]⟩] _ (by kernel_rfl) (allP_cons (ob_look (.int .i64) rfl (ix l t13q7) c1q7 1 2) allP_nil) ?_
        refine rf [(2, .ptr 0 0), (3, .mp 1), (4, iS t13q7), (5, iS (ix l t13q7)), (11, .sl l.length (fl l)), (12, iS ((l.length : Nat) : Int)), (13, iS t13q7), (26, bS (decide ((0 : Int) < (miGet c1q7 (ix l t13q7)))))] [(0, .row 29 [iS 0, iS 0]), (1, .map (mi c1q7))] 2 (by kernel_rfl) ?_
        refine wk_id ?_
        refine cond_sx h (by kernel_rfl) (fun g3105 h => ?_) (fun g3105 h => ?_)
        · refine seq_np ?_
          refine reg_f ?_
          refine rs 2 [] [] (by kernel_rfl) allP_nil ?_
          obtain ⟨r3104, hr3104, h⟩ := bind_sx h
          refine run_call 38 [iS 10, iS (IntKind.i64.wrap (t13q7 + 1))] (some 29) (by kernel_rfl) ?_
          refine call_0 (sync_fault_spec 10 (IntKind.i64.wrap (t13q7 + 1)) r3104 hr3104) (by simp only [push_cast, seval]) (by simp only [push_cast, seval]) ?_
          refine back_f ?_
          refine rs 1 [] [] (by kernel_rfl) allP_nil ?_
          refine rf [(2, .ptr 0 0)] [(0, .row 29 (Enc.cells r3104)), (1, .map (mi c1q7))] 2 (by kernel_rfl) ?_
          refine wk_id ?_
          refine rt_cast ht2 ?_
          obtain ⟨r0, h, e0⟩ := map_sx h
          have e1 := hr2 r0 e0.symm
          subst r0
          obtain rfl := Option.some.inj h
          refine ret_at (.agg (Enc.cells r3104)) (by kernel_rfl) ?_
          exact ret_e [] [] (by simp only [push_cast, seval]) (by simp only [push_cast, seval]) rfl rfl rfl
        · refine wk_id ?_
          refine reg_f ?_
          refine rs 3 [none, none, some ⟨.any, [(1, .map (mi (miSet c1q7 (ix l t13q7) 1)))], 2, [1]⟩] _ (by kernel_rfl) (allP_cons (ob_mset (.int .i64) rfl (ix l t13q7) 1 c1q7 1 2) allP_nil) ?_
          refine rf [(2, .ptr 0 0), (3, .mp 1), (11, .sl l.length (fl l)), (12, iS ((l.length : Nat) : Int)), (13, iS t13q7)] [(0, .row 29 [iS 0, iS 0]), (1, .map (mi (miSet c1q7 (ix l t13q7) 1)))] 2 (by kernel_rfl) ?_
          refine wk_id ?_
          refine wk_id ?_
          refine reg_f ?_
          refine rs 2 [] [] (by kernel_rfl) allP_nil ?_
          refine rf [(2, .ptr 0 0), (3, .mp 1), (11, .sl l.length (fl l)), (12, iS ((l.length : Nat) : Int)), (13, iS (IntKind.i64.wrap (t13q7 + 1)))] [(0, .row 29 [iS 0, iS 0]), (1, .map (mi (miSet c1q7 (ix l t13q7) 1)))] 2 (by kernel_rfl) ?_
          exact hn2 ((IntKind.i64.wrap (t13q7 + 1)), (miSet c1q7 (ix l t13q7) 1)) _ _ _ (Option.some.inj h).symm (leSt_m [(0, 0), (1, 1)] [] (by simp only [push_cast, seval]) (by simp only [push_cast, seval]) rfl rfl rfl)
    · refine ex_cast hx2 (id := 0) ?_
      obtain ⟨r0, h, e0⟩ := map_sx h
      have e1 := hr2 r0 e0.symm
      subst r0
      refine wk_id ?_
      refine wk_id ?_
      refine seq_np ?_
      refine reg_f ?_
      refine rs 2 [] [] (by kernel_rfl) allP_nil ?_
      refine rf [(2, .ptr 0 0)] [(0, .row 29 [iS 0, iS 0]), (1, .map (mi c1q7))] 2 (by kernel_rfl) ?_
      refine wk_id ?_
      obtain rfl := Option.some.inj h
      refine ret_at (.agg [iS 0, iS 0]) (by kernel_rfl) ?_
      exact ret_e [] [] (by simp only [push_cast, seval]) (by simp only [push_cast, seval]) rfl rfl rfl

set_option maxRecDepth 100000 in
set_option maxHeartbeats 10000000 in
theorem sync_comes_spec (l : (List Int)) (task : Int) (r : Fault) (h : sync_comes l task = some r) : SpecW Try.prog 46 [.sl l.length (fl l), iS task] [] 0 (fun x h n => x = .agg (Enc.cells r) ∧ h = [] ∧ n = 0) := by
  unfold sync_comes at h
  refine spec_of (draw_ok _) Try.func46 rfl (by decide) rfl (by kernel_rfl) ?_
  refine seq_np ?_
  refine reg_f ?_
  refine rs 1 [] [] (by kernel_rfl) allP_nil ?_
  refine rf [(0, .sl l.length (fl l)), (1, iS task), (4, .ptr 0 0)] [(0, .row 29 [iS 0, iS 0])] 1 (by kernel_rfl) ?_
  refine wk_id ?_
  refine seq_np ?_
  refine block_np ?_
  refine seq_np ?_
  refine reg_f ?_
  refine rs 3 [] [] (by kernel_rfl) allP_nil ?_
  refine rf [(0, .sl l.length (fl l)), (1, iS task), (4, .ptr 0 0), (5, bS (decide (task < 1)))] [(0, .row 29 [iS 0, iS 0])] 1 (by kernel_rfl) ?_
  refine wk_id ?_
  refine cond_sx h (by kernel_rfl) (fun g3147 h => ?_) (fun g3147 h => ?_)
  · refine seq_np ?_
    refine reg_f ?_
    obtain ⟨r3138, hr3138, h⟩ := bind_sx h
    refine run_call 38 [iS 3, iS (-1)] (some 8) (by kernel_rfl) ?_
    refine call_0 (sync_fault_spec 3 (-1) r3138 hr3138) (by simp only [push_cast, seval]) (by simp only [push_cast, seval]) ?_
    refine back_f ?_
    refine rs 1 [] [] (by kernel_rfl) allP_nil ?_
    refine rf [(4, .ptr 0 0)] [(0, .row 29 (Enc.cells r3138))] 1 (by kernel_rfl) ?_
    refine wk_id ?_
    obtain rfl := Option.some.inj h
    refine ret_at (.agg (Enc.cells r3138)) (by kernel_rfl) ?_
    exact ret_e [] [] (by simp only [push_cast, seval]) (by simp only [push_cast, seval]) rfl rfl rfl
  · refine seq_np ?_
    refine reg_f ?_
    refine rs 2 [] [] (by kernel_rfl) allP_nil ?_
    obtain ⟨r3140, hr3140, h⟩ := bind_sx h
    refine run_call 42 [.sl l.length (fl l), iS task] (some 12) (by kernel_rfl) ?_
    refine call_0 (slices_Contains_int_spec l task r3140 hr3140) (by simp only [push_cast, seval]) (by simp only [push_cast, seval]) ?_
    refine back_f ?_
    refine rs 1 [] [] (by kernel_rfl) allP_nil ?_
    refine rf [(0, .sl l.length (fl l)), (4, .ptr 0 0), (9, bS r3140)] [(0, .row 29 [iS 0, iS 0])] 1 (by kernel_rfl) ?_
    refine wk_id ?_
    refine cond_sx h (by kernel_rfl) (fun g3146 h => ?_) (fun g3146 h => ?_)
    · refine seq_np ?_
      refine reg_f ?_
      obtain ⟨r3142, hr3142, h⟩ := bind_sx h
      refine run_call 38 [iS 10, iS (-1)] (some 13) (by kernel_rfl) ?_
      refine call_0 (sync_fault_spec 10 (-1) r3142 hr3142) (by simp only [push_cast, seval]) (by simp only [push_cast, seval]) ?_
      refine back_f ?_
      refine rs 1 [] [] (by kernel_rfl) allP_nil ?_
      refine rf [(4, .ptr 0 0)] [(0, .row 29 (Enc.cells r3142))] 1 (by kernel_rfl) ?_
      refine wk_id ?_
      obtain rfl := Option.some.inj h
      refine ret_at (.agg (Enc.cells r3142)) (by kernel_rfl) ?_
      exact ret_e [] [] (by simp only [push_cast, seval]) (by simp only [push_cast, seval]) rfl rfl rfl
    · refine seq_np ?_
      refine reg_f ?_
      refine rs 4 [] [] (by kernel_rfl) allP_nil ?_
      refine rf [(4, .ptr 0 0), (14, bS (((l.length : Nat) : Int) == 5000))] [(0, .row 29 [iS 0, iS 0])] 1 (by kernel_rfl) ?_
      refine wk_id ?_
      refine cond_sx h (by kernel_rfl) (fun g3145 h => ?_) (fun g3145 h => ?_)
      · refine seq_np ?_
        refine reg_f ?_
        obtain ⟨r3144, hr3144, h⟩ := bind_sx h
        refine run_call 38 [iS 9, iS 0] (some 18) (by kernel_rfl) ?_
        refine call_0 (sync_fault_spec 9 0 r3144 hr3144) (by simp only [push_cast, seval]) (by simp only [push_cast, seval]) ?_
        refine back_f ?_
        refine rs 1 [] [] (by kernel_rfl) allP_nil ?_
        refine rf [(4, .ptr 0 0)] [(0, .row 29 (Enc.cells r3144))] 1 (by kernel_rfl) ?_
        refine wk_id ?_
        obtain rfl := Option.some.inj h
        refine ret_at (.agg (Enc.cells r3144)) (by kernel_rfl) ?_
        exact ret_e [] [] (by simp only [push_cast, seval]) (by simp only [push_cast, seval]) rfl rfl rfl
      · refine wk_id ?_
        refine wk_id ?_
        refine seq_np ?_
        refine reg_f ?_
        refine rs 2 [] [] (by kernel_rfl) allP_nil ?_
        refine rf [(4, .ptr 0 0)] [(0, .row 29 [iS 0, iS 0])] 1 (by kernel_rfl) ?_
        refine wk_id ?_
        obtain rfl := Option.some.inj h
        refine ret_at (.agg [iS 0, iS 0]) (by kernel_rfl) ?_
        exact ret_e [] [] (by simp only [push_cast, seval]) (by simp only [push_cast, seval]) rfl rfl rfl

set_option maxRecDepth 100000 in
set_option maxHeartbeats 10000000 in
theorem slices_Clone_int_spec (s : (List Int)) (r : (List Int)) (h : slices_Clone_int s = some r) : SpecW Try.prog 47 [.sl s.length (fl s)] [] 0 (fun x h n => x = .own 0 0 r.length ∧ h = [(0, .row 3 (fl r))] ∧ n = 1) := by
  unfold slices_Clone_int at h
  refine spec_of (draw_ok _) Try.func47 rfl (by decide) rfl (by kernel_rfl) ?_
  refine seq_np ?_
  refine reg_f ?_
  refine rs 1 [] [] (by kernel_rfl) allP_nil ?_
  refine rf [(0, .sl s.length (fl s))] [] 0 (by kernel_rfl) ?_
  refine wk_id ?_
  refine seq_np ?_
  refine seq_np ?_
  refine reg_f ?_
  refine rs 1 [] [] (by kernel_rfl) allP_nil ?_
  refine run_nil s.length (some 4) (by kernel_rfl) (fun g3156 => ?_) ?_
  · obtain rfl : s = [] := List.eq_nil_of_length_eq_zero g3156
    replace h : (some ([])) = some r := by simpa using h
    refine rf [(0, .sl ([] : List Int).length (fl ([] : List Int))), (4, bS true)] [] 0 (by kernel_rfl) ?_
    refine wk_id ?_
    refine cond_t (by kernel_rfl) ?_
    refine seq_np ?_
    refine reg_f ?_
    refine rs 1 [] [] (by kernel_rfl) allP_nil ?_
    refine rf [(2, .v (.slice none 0 0))] [] 0 (by kernel_rfl) ?_
    refine wk_id ?_
    obtain rfl := Option.some.inj h
    refine ret_at (.v (.slice none 0 0)) (by kernel_rfl) ?_
    exact ret_e [] [] (by simp only [push_cast, seval]) (by simp only [push_cast, seval]) rfl rfl rfl
  · refine rf [(0, .sl s.length (fl s)), (4, bS false)] [] 0 (by kernel_rfl) ?_
    refine wk_id ?_
    refine cond_f (by kernel_rfl) ?_
    refine wk_id ?_
    refine chk_sx h (fun g3155 h => ?_)
    refine seq_np ?_
    refine reg_f ?_
    refine run_mk0 Int (some 5) 3 (by kernel_rfl) ?_
    have k3154 : (([] : List Int) ++ s).length * 8 ≤ 140737488355328 := by first | simpa only [Bool.and_eq_true, decide_eq_true_eq, bne_iff_ne, ne_eq] using g3155 | (simp at g3155 ⊢; omega)
    refine rs 3 [none, some ⟨.own 1 0 (([] : List Int) ++ s).length, [(1, .row 3 (fl (([] : List Int) ++ s))), (0, .dead)], 2, [0]⟩] _ (by kernel_rfl) (allP_cons (ob_app (P := Try.prog) ([] : List Int) s 1 8 rfl (fl s) s.length rfl rfl ((fl s).length = s.length * 1) (app_sl s 1 rfl) 3 (by kernel_rfl) (by decide) k3154 0 1 []) allP_nil) ?_
    refine rf [(2, .own 1 0 (([] : List Int) ++ s).length)] [(0, .dead), (1, .row 3 (fl (([] : List Int) ++ s)))] 2 (by kernel_rfl) ?_
    refine wk_id ?_
    obtain rfl := Option.some.inj h
    refine ret_at (.own 1 0 (([] : List Int) ++ s).length) (by kernel_rfl) ?_
    exact ret_e [(0, 1)] [] (by simp only [push_cast, seval]) (by simp only [push_cast, seval]) rfl rfl rfl

set_option maxRecDepth 100000 in
set_option maxHeartbeats 10000000 in
theorem sync_Arrive_spec (g : Gate) (task : Int) (r : Int × Fault × (List Int) × (List Int)) (h : sync_Arrive g task = some r) : SpecW Try.prog 25 [.agg (Enc.cells g), iS task] [] 0 (fun x h n => x = .tup [.agg [iS r.1, .own 0 0 r.2.2.1.length], .own 1 0 r.2.2.2.length, .agg (Enc.cells r.2.1)] ∧ h = [(0, .row 3 (fl r.2.2.1)), (1, .row 3 (fl r.2.2.2))] ∧ n = 2) := by
  unfold sync_Arrive at h
  refine spec_of (draw_ok _) Try.func25 rfl (by decide) rfl (by kernel_rfl) ?_
  refine seq_np ?_
  refine reg_f ?_
  refine rs 4 [] [] (by kernel_rfl) allP_nil ?_
  refine rf [(1, iS task), (2, .ptr 0 0), (4, .ptr 1 0), (6, .ptr 2 0)] [(0, .row 48 (Enc.cells g)), (1, .row 48 [iS 0, .v (.slice none 0 0)]), (2, .row 29 [iS 0, iS 0])] 3 (by kernel_rfl) ?_
  refine wk_id ?_
  refine seq_np ?_
  refine seq_np ?_
  refine reg_f ?_
  refine rs 2 [] [] (by kernel_rfl) allP_nil ?_
  obtain ⟨r3164, hr3164, h⟩ := bind_sx h
  refine run_call 45 [.sl g.Line.length (fl g.Line)] (some 12) (by kernel_rfl) ?_
  refine call_0 (sync_line_spec g.Line r3164 hr3164) (by simp only [push_cast, seval]) (by simp only [push_cast, seval]) ?_
  refine back_f ?_
  refine rs 2 [] [] (by kernel_rfl) allP_nil ?_
  refine rf [(1, iS task), (2, .ptr 0 0), (4, .ptr 1 0), (6, .ptr 2 0), (7, .ptr 3 0)] [(0, .row 48 (Enc.cells g)), (1, .row 48 [iS 0, .v (.slice none 0 0)]), (2, .row 29 [iS 0, iS 0]), (3, .row 29 (Enc.cells r3164))] 4 (by kernel_rfl) ?_
  refine wk_id ?_
  refine seq_np ?_
  refine reg_f ?_
  refine rs 3 [] [] (by kernel_rfl) allP_nil ?_
  refine rf [(1, iS task), (2, .ptr 0 0), (4, .ptr 1 0), (6, .ptr 2 0), (7, .ptr 3 0), (15, bS (r3164.Code != 0))] [(0, .row 48 (Enc.cells g)), (1, .row 48 [iS 0, .v (.slice none 0 0)]), (2, .row 29 [iS 0, iS 0]), (3, .row 29 (Enc.cells r3164))] 4 (by kernel_rfl) ?_
  refine wk_id ?_
  refine cond_sx h (by kernel_rfl) (fun g3192 h => ?_) (fun g3192 h => ?_)
  · refine seq_np ?_
    refine reg_t ?_
    refine rs 5 [] [] (by kernel_rfl) allP_nil ?_
    refine rt [(4, .ptr 1 0), (5, .v (.slice none 0 0)), (6, .ptr 2 0)] [(0, .row 48 (Enc.cells g)), (1, .row 48 [iS 0, .v (.slice none 0 0)]), (2, .row 29 (Enc.cells r3164)), (3, .row 29 (Enc.cells r3164))] 9 follows (by kernel_rfl) ?_
    refine wk_id ?_
    obtain rfl := Option.some.inj h
    refine ret_at (.tup [.agg [iS 0, .v (.slice none 0 0)], .v (.slice none 0 0), .agg (Enc.cells r3164)]) (by kernel_rfl) ?_
    exact ret_e [] [] (by simp only [push_cast, seval]) (by simp only [push_cast, seval]) rfl rfl rfl
  · refine wk_id ?_
    refine seq_np ?_
    refine seq_cut (A := Unit) (fun _ => ([(1, iS task), (2, .ptr 0 0), (4, .ptr 1 0), (6, .ptr 2 0), (25, bS ((decide (g.Need < 1)) || (decide ((5000 : Int) < g.Need))))], [(0, .row 48 (Enc.cells g)), (1, .row 48 [iS 0, .v (.slice none 0 0)]), (2, .row 29 [iS 0, iS 0]), (3, .row 29 (Enc.cells r3164))], 4)) (fun _ => True) (fun K3169 hK3169 => ?_) (fun _ _ => ?_)
    · refine reg_f ?_
      refine rs 4 [] [] (by kernel_rfl) allP_nil ?_
      refine run_split 21 (decide (g.Need < 1)) (.inl (by kernel_rfl)) (fun g3170 => ?_) (fun g3170 => ?_)
      · refine rs 4 [] [] (by kernel_rfl) allP_nil ?_
        refine rf [(1, iS task), (2, .ptr 0 0), (4, .ptr 1 0), (6, .ptr 2 0), (25, bS true)] [(0, .row 48 (Enc.cells g)), (1, .row 48 [iS 0, .v (.slice none 0 0)]), (2, .row 29 [iS 0, iS 0]), (3, .row 29 (Enc.cells r3164))] 4 (by kernel_rfl) ?_
        exact hK3169 () _ _ _ trivial (leSt_m [(0, 0), (1, 1), (2, 2), (3, 3)] [] (by (try simp only [g3170]) <;> simp only [push_cast, seval]) (by (try simp only [g3170]) <;> simp only [push_cast, seval]) rfl rfl rfl)
      · refine rs 4 [] [] (by kernel_rfl) allP_nil ?_
        refine rf [(1, iS task), (2, .ptr 0 0), (4, .ptr 1 0), (6, .ptr 2 0), (25, bS (decide ((5000 : Int) < g.Need)))] [(0, .row 48 (Enc.cells g)), (1, .row 48 [iS 0, .v (.slice none 0 0)]), (2, .row 29 [iS 0, iS 0]), (3, .row 29 (Enc.cells r3164))] 4 (by kernel_rfl) ?_
        exact hK3169 () _ _ _ trivial (leSt_m [(0, 0), (1, 1), (2, 2), (3, 3)] [] (by (try simp only [g3170]) <;> simp only [push_cast, seval]) (by (try simp only [g3170]) <;> simp only [push_cast, seval]) rfl rfl rfl)
    · dsimp only
      refine cond_sx h (by kernel_rfl) (fun g3191 h => ?_) (fun g3191 h => ?_)
      · refine seq_np ?_
        refine reg_f ?_
        refine rs 1 [] [] (by kernel_rfl) allP_nil ?_
        obtain ⟨r3172, hr3172, h⟩ := bind_sx h
        refine run_call 38 [iS 3, iS 0] (some 27) (by kernel_rfl) ?_
        refine call_0 (sync_fault_spec 3 0 r3172 hr3172) (by simp only [push_cast, seval]) (by simp only [push_cast, seval]) ?_
        refine back_f ?_
        refine rs 3 [] [] (by kernel_rfl) allP_nil ?_
        refine rf [(4, .ptr 1 0), (5, .v (.slice none 0 0)), (6, .ptr 2 0)] [(0, .row 48 (Enc.cells g)), (1, .row 48 [iS 0, .v (.slice none 0 0)]), (2, .row 29 (Enc.cells r3172)), (3, .row 29 (Enc.cells r3164))] 4 (by kernel_rfl) ?_
        refine wk_id ?_
        obtain rfl := Option.some.inj h
        refine ret_at (.tup [.agg [iS 0, .v (.slice none 0 0)], .v (.slice none 0 0), .agg (Enc.cells r3172)]) (by kernel_rfl) ?_
        exact ret_e [] [] (by simp only [push_cast, seval]) (by simp only [push_cast, seval]) rfl rfl rfl
      · refine wk_id ?_
        refine seq_np ?_
        refine seq_np ?_
        refine reg_f ?_
        refine rs 6 [] [] (by kernel_rfl) allP_nil ?_
        refine rf [(1, iS task), (2, .ptr 0 0), (4, .ptr 1 0), (6, .ptr 2 0), (33, bS (decide (g.Need ≤ ((g.Line.length : Nat) : Int))))] [(0, .row 48 (Enc.cells g)), (1, .row 48 [iS 0, .v (.slice none 0 0)]), (2, .row 29 [iS 0, iS 0]), (3, .row 29 (Enc.cells r3164))] 4 (by kernel_rfl) ?_
        refine wk_id ?_
        refine cond_sx h (by kernel_rfl) (fun g3190 h => ?_) (fun g3190 h => ?_)
        · refine seq_np ?_
          refine reg_f ?_
          refine rs 1 [] [] (by kernel_rfl) allP_nil ?_
          obtain ⟨r3176, hr3176, h⟩ := bind_sx h
          refine run_call 38 [iS 5, iS 0] (some 35) (by kernel_rfl) ?_
          refine call_0 (sync_fault_spec 5 0 r3176 hr3176) (by simp only [push_cast, seval]) (by simp only [push_cast, seval]) ?_
          refine back_f ?_
          refine rs 3 [] [] (by kernel_rfl) allP_nil ?_
          refine rf [(4, .ptr 1 0), (5, .v (.slice none 0 0)), (6, .ptr 2 0)] [(0, .row 48 (Enc.cells g)), (1, .row 48 [iS 0, .v (.slice none 0 0)]), (2, .row 29 (Enc.cells r3176)), (3, .row 29 (Enc.cells r3164))] 4 (by kernel_rfl) ?_
          refine wk_id ?_
          obtain rfl := Option.some.inj h
          refine ret_at (.tup [.agg [iS 0, .v (.slice none 0 0)], .v (.slice none 0 0), .agg (Enc.cells r3176)]) (by kernel_rfl) ?_
          exact ret_e [] [] (by simp only [push_cast, seval]) (by simp only [push_cast, seval]) rfl rfl rfl
        · refine wk_id ?_
          refine seq_np ?_
          refine seq_np ?_
          refine reg_f ?_
          refine rs 3 [] [] (by kernel_rfl) allP_nil ?_
          obtain ⟨r3180, hr3180, h⟩ := bind_sx h
          refine run_call 46 [.sl g.Line.length (fl g.Line), iS task] (some 39) (by kernel_rfl) ?_
          refine call_0 (sync_comes_spec g.Line task r3180 hr3180) (by simp only [push_cast, seval]) (by simp only [push_cast, seval]) ?_
          refine back_f ?_
          refine rs 2 [] [] (by kernel_rfl) allP_nil ?_
          refine rf [(1, iS task), (2, .ptr 0 0), (4, .ptr 1 0), (6, .ptr 2 0), (8, .ptr 4 0)] [(0, .row 48 (Enc.cells g)), (1, .row 48 [iS 0, .v (.slice none 0 0)]), (2, .row 29 [iS 0, iS 0]), (3, .row 29 (Enc.cells r3164)), (4, .row 29 (Enc.cells r3180))] 5 (by kernel_rfl) ?_
          refine wk_id ?_
          refine seq_np ?_
          refine reg_f ?_
          refine rs 3 [] [] (by kernel_rfl) allP_nil ?_
          refine rf [(1, iS task), (2, .ptr 0 0), (4, .ptr 1 0), (6, .ptr 2 0), (8, .ptr 4 0), (42, bS (r3180.Code != 0))] [(0, .row 48 (Enc.cells g)), (1, .row 48 [iS 0, .v (.slice none 0 0)]), (2, .row 29 [iS 0, iS 0]), (3, .row 29 (Enc.cells r3164)), (4, .row 29 (Enc.cells r3180))] 5 (by kernel_rfl) ?_
          refine wk_id ?_
          refine cond_sx h (by kernel_rfl) (fun g3189 h => ?_) (fun g3189 h => ?_)
          · refine seq_np ?_
            refine reg_t ?_
            refine rs 5 [] [] (by kernel_rfl) allP_nil ?_
            refine rt [(4, .ptr 1 0), (5, .v (.slice none 0 0)), (6, .ptr 2 0)] [(0, .row 48 (Enc.cells g)), (1, .row 48 [iS 0, .v (.slice none 0 0)]), (2, .row 29 (Enc.cells r3180)), (3, .row 29 (Enc.cells r3164)), (4, .row 29 (Enc.cells r3180))] 10 follows (by kernel_rfl) ?_
            refine wk_id ?_
            obtain rfl := Option.some.inj h
            refine ret_at (.tup [.agg [iS 0, .v (.slice none 0 0)], .v (.slice none 0 0), .agg (Enc.cells r3180)]) (by kernel_rfl) ?_
            exact ret_e [] [] (by simp only [push_cast, seval]) (by simp only [push_cast, seval]) rfl rfl rfl
          · refine wk_id ?_
            refine seq_np ?_
            refine reg_f ?_
            refine rs 2 [] [] (by kernel_rfl) allP_nil ?_
            obtain ⟨r3184, hr3184, h⟩ := bind_sx h
            refine call_x (slices_Clone_int_spec g.Line r3184 hr3184) (args := [.sl g.Line.length (fl g.Line)]) (dst := (some 47)) (by kernel_rfl) [(0, .row 48 (Enc.cells g)), (1, .row 48 [iS 0, .v (.slice none 0 0)]), (2, .row 29 [iS 0, iS 0]), (3, .row 29 (Enc.cells r3164)), (4, .row 29 (Enc.cells r3180))] 5 (by kernel_rfl) [] [] (.own 5 0 r3184.length) [(5, .row 3 (fl r3184))] (by simp only [push_cast, seval]) (by simp only [push_cast, seval]) (by kernel_rfl) (.inl rfl) (by simp only [push_cast, seval]) (by simp only [push_cast, seval]) ?_
            refine chk_sx h (fun g3186 h => ?_)
            have k3185 : (r3184 ++ ([task] : List Int)).length * 8 ≤ 140737488355328 := by first | simpa only [Bool.and_eq_true, decide_eq_true_eq, bne_iff_ne, ne_eq] using g3186 | (simp at g3186 ⊢; omega)
            refine rs 4 [none, none, some ⟨.own 7 0 (r3184 ++ ([task] : List Int)).length, [(7, .row 3 (fl (r3184 ++ ([task] : List Int)))), (5, .dead)], 8, [5, 6]⟩] _ (by kernel_rfl) (allP_cons (ob_app (P := Try.prog) r3184 ([task] : List Int) 1 8 rfl (appCells (fl ([task] : List Int)) 0 (([task] : List Int).length * 1)) ([task] : List Int).length (app_own ([task] : List Int) 1 rfl) rfl (0 + ([task] : List Int).length * 1 ≤ (fl ([task] : List Int)).length) (app_own_le ([task] : List Int) 1 rfl) 3 (by kernel_rfl) (by decide) k3185 5 7 [6]) allP_nil) ?_
            refine rf [(2, .ptr 0 0), (4, .ptr 1 0), (6, .ptr 2 0), (9, .own 7 0 (r3184 ++ ([task] : List Int)).length)] [(0, .row 48 (Enc.cells g)), (1, .row 48 [iS 0, .v (.slice none 0 0)]), (2, .row 29 [iS 0, iS 0]), (3, .row 29 (Enc.cells r3164)), (4, .row 29 (Enc.cells r3180)), (5, .dead), (6, .row 3 (fl ([task] : List Int))), (7, .row 3 (fl (r3184 ++ ([task] : List Int))))] 8 (by kernel_rfl) ?_
            refine wk_id ?_
            refine seq_np ?_
            refine seq_np ?_
            refine reg_f ?_
            refine rs 5 [] [] (by kernel_rfl) allP_nil ?_
            refine rf [(2, .ptr 0 0), (4, .ptr 1 0), (6, .ptr 2 0), (9, .own 7 0 (r3184 ++ ([task] : List Int)).length), (55, bS ((((r3184 ++ ([task] : List Int)).length : Nat) : Int) == g.Need))] [(0, .row 48 (Enc.cells g)), (1, .row 48 [iS 0, .v (.slice none 0 0)]), (2, .row 29 [iS 0, iS 0]), (3, .row 29 (Enc.cells r3164)), (4, .row 29 (Enc.cells r3180)), (5, .dead), (6, .row 3 (fl ([task] : List Int))), (7, .row 3 (fl (r3184 ++ ([task] : List Int))))] 8 (by kernel_rfl) ?_
            refine wk_id ?_
            refine cond_sx h (by kernel_rfl) (fun g3188 h => ?_) (fun g3188 h => ?_)
            · refine seq_np ?_
              refine reg_f ?_
              refine rs 8 [] [] (by kernel_rfl) allP_nil ?_
              refine rf [(4, .ptr 1 0), (5, .own 7 0 (r3184 ++ ([task] : List Int)).length), (6, .ptr 2 0)] [(0, .row 48 (Enc.cells g)), (1, .row 48 [iS g.Need, .v (.slice none 0 0)]), (2, .row 29 [iS 0, iS 0]), (3, .row 29 (Enc.cells r3164)), (4, .row 29 (Enc.cells r3180)), (5, .dead), (6, .row 3 (fl ([task] : List Int))), (7, .row 3 (fl (r3184 ++ ([task] : List Int))))] 8 (by kernel_rfl) ?_
              refine wk_id ?_
              obtain rfl := Option.some.inj h
              refine ret_at (.tup [.agg [iS g.Need, .v (.slice none 0 0)], .own 7 0 (r3184 ++ ([task] : List Int)).length, .agg [iS 0, iS 0]]) (by kernel_rfl) ?_
              exact ret_e [(1, 7)] [] (by simp only [push_cast, seval]) (by simp only [push_cast, seval]) rfl rfl rfl
            · refine wk_id ?_
              refine seq_np ?_
              refine reg_f ?_
              refine rs 8 [] [] (by kernel_rfl) allP_nil ?_
              refine rf [(4, .ptr 1 0), (5, .v (.slice none 0 0)), (6, .ptr 2 0)] [(0, .row 48 (Enc.cells g)), (1, .row 48 [iS g.Need, .own 7 0 (r3184 ++ ([task] : List Int)).length]), (2, .row 29 [iS 0, iS 0]), (3, .row 29 (Enc.cells r3164)), (4, .row 29 (Enc.cells r3180)), (5, .dead), (6, .row 3 (fl ([task] : List Int))), (7, .row 3 (fl (r3184 ++ ([task] : List Int))))] 8 (by kernel_rfl) ?_
              refine wk_id ?_
              obtain rfl := Option.some.inj h
              refine ret_at (.tup [.agg [iS g.Need, .own 7 0 (r3184 ++ ([task] : List Int)).length], .v (.slice none 0 0), .agg [iS 0, iS 0]]) (by kernel_rfl) ?_
              exact ret_e [(0, 7)] [] (by simp only [push_cast, seval]) (by simp only [push_cast, seval]) rfl rfl rfl

set_option maxRecDepth 100000 in
set_option maxHeartbeats 10000000 in
theorem taskmillref_LineFault_spec (l : (List Int)) (r : Fault) (h : taskmillref_LineFault l = some r) : SpecW Try.prog 48 [.sl l.length (fl l)] [] 0 (fun x h n => x = .agg (Enc.cells r) ∧ h = [] ∧ n = 0) := by
  unfold taskmillref_LineFault at h
  refine spec_of (draw_ok _) Try.func48 rfl (by decide) rfl (by kernel_rfl) ?_
  refine seq_np ?_
  refine reg_f ?_
  refine rs 1 [] [] (by kernel_rfl) allP_nil ?_
  refine rf [(0, .sl l.length (fl l)), (2, .ptr 0 0)] [(0, .row 29 [iS 0, iS 0])] 1 (by kernel_rfl) ?_
  refine wk_id ?_
  refine seq_np ?_
  refine seq_np ?_
  refine reg_f ?_
  refine rs 3 [] [] (by kernel_rfl) allP_nil ?_
  refine rf [(0, .sl l.length (fl l)), (2, .ptr 0 0), (6, bS (decide ((5000 : Int) < ((l.length : Nat) : Int))))] [(0, .row 29 [iS 0, iS 0])] 1 (by kernel_rfl) ?_
  refine wk_id ?_
  refine cond_sx h (by kernel_rfl) (fun g3384 h => ?_) (fun g3384 h => ?_)
  · refine seq_np ?_
    refine reg_f ?_
    obtain ⟨r3236, hr3236, h⟩ := bind_sx h
    refine run_call 19 [iS 2, iS 0] (some 7) (by kernel_rfl) ?_
    refine call_0 (taskmillref_F_spec 2 0 r3236 hr3236) (by simp only [push_cast, seval]) (by simp only [push_cast, seval]) ?_
    refine back_f ?_
    refine rs 1 [] [] (by kernel_rfl) allP_nil ?_
    refine rf [(2, .ptr 0 0)] [(0, .row 29 (Enc.cells r3236))] 1 (by kernel_rfl) ?_
    refine wk_id ?_
    obtain rfl := Option.some.inj h
    refine ret_at (.agg (Enc.cells r3236)) (by kernel_rfl) ?_
    exact ret_e [] [] (by simp only [push_cast, seval]) (by simp only [push_cast, seval]) rfl rfl rfl
  · refine wk_id ?_
    refine seq_np ?_
    refine seq_np ?_
    refine reg_f ?_
    refine rs 1 [] [] (by kernel_rfl) allP_nil ?_
    refine rf [(0, .sl l.length (fl l)), (2, .ptr 0 0), (3, iS 0)] [(0, .row 29 [iS 0, iS 0])] 1 (by kernel_rfl) ?_
    refine wk_id ?_
    refine block_np ?_
    refine loop_sx (S := Int) (fun a => ([(0, .sl l.length (fl l)), (2, .ptr 0 0), (3, iS a)], [(0, .row 29 [iS 0, iS 0])], 1)) h (leSt_m [(0, 0)] [] (by simp only [push_cast, seval]) (by simp only [push_cast, seval]) rfl rfl rfl) ?_
    rintro i7 o2 R2 h hr2 hn2 hx2 ht2
    try dsimp only at h hn2 ⊢
    unfold taskmillref_LineFault_l1 at h
    try dsimp only at h
    refine seq_np ?_
    refine seq_np ?_
    refine reg_f ?_
    refine rs 4 [] [] (by kernel_rfl) allP_nil ?_
    refine rf [(0, .sl l.length (fl l)), (2, .ptr 0 0), (3, iS i7), (11, bS (decide (i7 < ((l.length : Nat) : Int))))] [(0, .row 29 [iS 0, iS 0])] 1 (by kernel_rfl) ?_
    refine wk_id ?_
    refine cond_sx h (by kernel_rfl) (fun g3383 h => ?_) (fun g3383 h => ?_)
    · refine wk_id ?_
      refine seq_np ?_
      refine block_np ?_
      refine seq_np ?_
      refine chk_sx h (fun g3366 h => ?_)
      refine seq_np ?_
      refine reg_f ?_
      have k3365 : 0 ≤ i7 ∧ i7 < ((l.length : Nat) : Int) := by first | simpa only [Bool.and_eq_true, decide_eq_true_eq, bne_iff_ne, ne_eq] using g3366 | (simp at g3366 ⊢; omega)
      refine rs 5 [none, none, some ⟨.iptr (fl l) ((i7).toNat * 1), [], 1, []⟩, some ⟨iS (ix l i7), [], 1, []⟩] _ (by kernel_rfl) (allP_cons (ob_ld l i7 1 0 ((i7).toNat * 1) k3365 rfl (by decide) (by first | rfl | omega) (dflS Try.prog 3) (iS (ix l i7)) rfl 1 []) (allP_cons (ob_ix_l l 1 1 i7 k3365) allP_nil)) ?_
      refine rf [(0, .sl l.length (fl l)), (2, .ptr 0 0), (3, iS i7), (18, bS (decide ((ix l i7) < 1)))] [(0, .row 29 [iS 0, iS 0])] 1 (by kernel_rfl) ?_
      refine wk_id ?_
      refine cond_sx h (by kernel_rfl) (fun g3382 h => ?_) (fun g3382 h => ?_)
      · refine seq_np ?_
        refine reg_f ?_
        refine rs 2 [] [] (by kernel_rfl) allP_nil ?_
        obtain ⟨r3368, hr3368, h⟩ := bind_sx h
        refine run_call 19 [iS 3, iS (IntKind.i64.wrap (i7 + 1))] (some 21) (by kernel_rfl) ?_
        refine call_0 (taskmillref_F_spec 3 (IntKind.i64.wrap (i7 + 1)) r3368 hr3368) (by simp only [push_cast, seval]) (by simp only [push_cast, seval]) ?_
        refine back_f ?_
        refine rs 1 [] [] (by kernel_rfl) allP_nil ?_
        refine rf [(2, .ptr 0 0)] [(0, .row 29 (Enc.cells r3368))] 1 (by kernel_rfl) ?_
        refine wk_id ?_
        refine rt_cast ht2 ?_
        obtain ⟨r0, h, e0⟩ := map_sx h
        have e1 := hr2 r0 e0.symm
        subst r0
        obtain rfl := Option.some.inj h
        refine ret_at (.agg (Enc.cells r3368)) (by kernel_rfl) ?_
        exact ret_e [] [] (by simp only [push_cast, seval]) (by simp only [push_cast, seval]) rfl rfl rfl
      · refine wk_id ?_
        refine chk_sx h (fun g3375 h => ?_)
        refine chk_sx h (fun g3377 h => ?_)
        refine seq_np ?_
        refine reg_t ?_
        have k3374 : 0 ≤ (0 : Int) ∧ (0 : Int) ≤ i7 ∧ i7 ≤ ((l.length : Nat) : Int) := by first | simpa only [Bool.and_eq_true, decide_eq_true_eq, bne_iff_ne, ne_eq] using g3375 | (simp at g3375 ⊢; omega)
        have k3376 : 0 ≤ i7 ∧ i7 < ((l.length : Nat) : Int) := by first | simpa only [Bool.and_eq_true, decide_eq_true_eq, bne_iff_ne, ne_eq] using g3377 | (simp at g3377 ⊢; omega)
        refine rs 7 [none, none, some ⟨.sl (cut l (0 : Int) i7).length (fl (cut l (0 : Int) i7)), [], 3, []⟩, none, none, some ⟨.iptr (fl l) ((i7).toNat * 1), [], 6, []⟩, some ⟨iS (ix l i7), [], 7, []⟩] _ (by kernel_rfl) (allP_cons (ob_ld l i7 1 0 ((i7).toNat * 1) k3376 rfl (by decide) (by first | rfl | omega) (dflS Try.prog 3) (iS (ix l i7)) rfl 7 []) (allP_cons (ob_ix_l l 1 6 i7 k3376) (allP_cons (ob_cut l (0 : Int) i7 1 3 rfl k3374) allP_nil))) ?_
        obtain ⟨r3378, hr3378, h⟩ := bind_sx h
        refine run_call 22 [.sl (cut l (0 : Int) i7).length (fl (cut l (0 : Int) i7)), iS (ix l i7)] (some 29) (by kernel_rfl) ?_
        refine callE_0 (taskmillref_Has_spec (cut l (0 : Int) i7) (ix l i7) r3378 hr3378) (by simp only [push_cast, seval]) (by simp only [push_cast, seval]) ?_
        refine back_t ?_
        refine rt [(0, .sl l.length (fl l)), (2, .ptr 0 0), (3, iS i7), (29, bS r3378)] [(0, .row 29 [iS 0, iS 0])] 9 follows (by kernel_rfl) ?_
        refine wk_id ?_
        refine cond_sx h (by kernel_rfl) (fun g3381 h => ?_) (fun g3381 h => ?_)
        · refine seq_np ?_
          refine reg_f ?_
          refine rs 2 [] [] (by kernel_rfl) allP_nil ?_
          obtain ⟨r3380, hr3380, h⟩ := bind_sx h
          refine run_call 19 [iS 10, iS (IntKind.i64.wrap (i7 + 1))] (some 32) (by kernel_rfl) ?_
          refine call_0 (taskmillref_F_spec 10 (IntKind.i64.wrap (i7 + 1)) r3380 hr3380) (by simp only [push_cast, seval]) (by simp only [push_cast, seval]) ?_
          refine back_f ?_
          refine rs 1 [] [] (by kernel_rfl) allP_nil ?_
          refine rf [(2, .ptr 0 0)] [(0, .row 29 (Enc.cells r3380))] 9 (by kernel_rfl) ?_
          refine wk_id ?_
          refine rt_cast ht2 ?_
          obtain ⟨r0, h, e0⟩ := map_sx h
          have e1 := hr2 r0 e0.symm
          subst r0
          obtain rfl := Option.some.inj h
          refine ret_at (.agg (Enc.cells r3380)) (by kernel_rfl) ?_
          exact ret_e [] [] (by simp only [push_cast, seval]) (by simp only [push_cast, seval]) rfl rfl rfl
        · refine wk_id ?_
          refine wk_id ?_
          refine reg_f ?_
          refine rs 3 [] [] (by kernel_rfl) allP_nil ?_
          refine rf [(0, .sl l.length (fl l)), (2, .ptr 0 0), (3, iS (IntKind.i64.wrap (i7 + 1)))] [(0, .row 29 [iS 0, iS 0])] 9 (by kernel_rfl) ?_
          exact hn2 ((IntKind.i64.wrap (i7 + 1))) _ _ _ (Option.some.inj h).symm (leSt_m [(0, 0)] [] (by simp only [push_cast, seval]) (by simp only [push_cast, seval]) rfl rfl rfl)
    · refine ex_cast hx2 (id := 0) ?_
      obtain ⟨r0, h, e0⟩ := map_sx h
      have e1 := hr2 r0 e0.symm
      subst r0
      refine wk_id ?_
      refine wk_id ?_
      refine seq_np ?_
      refine reg_f ?_
      refine rs 2 [] [] (by kernel_rfl) allP_nil ?_
      refine rf [(2, .ptr 0 0)] [(0, .row 29 [iS 0, iS 0])] 1 (by kernel_rfl) ?_
      refine wk_id ?_
      obtain rfl := Option.some.inj h
      refine ret_at (.agg [iS 0, iS 0]) (by kernel_rfl) ?_
      exact ret_e [] [] (by simp only [push_cast, seval]) (by simp only [push_cast, seval]) rfl rfl rfl

set_option maxRecDepth 100000 in
set_option maxHeartbeats 10000000 in
theorem taskmillref_GateFault_spec (g : Gate) (r : Fault) (h : taskmillref_GateFault g = some r) : SpecW Try.prog 27 [.agg (Enc.cells g)] [] 0 (fun x h n => x = .agg (Enc.cells r) ∧ h = [] ∧ n = 0) := by
  unfold taskmillref_GateFault at h
  refine spec_of (draw_ok _) Try.func27 rfl (by decide) rfl (by kernel_rfl) ?_
  refine seq_np ?_
  refine reg_f ?_
  refine rs 2 [] [] (by kernel_rfl) allP_nil ?_
  refine rf [(1, .ptr 0 0), (2, .ptr 1 0)] [(0, .row 48 (Enc.cells g)), (1, .row 29 [iS 0, iS 0])] 2 (by kernel_rfl) ?_
  refine wk_id ?_
  refine seq_np ?_
  refine reg_f ?_
  refine rs 2 [] [] (by kernel_rfl) allP_nil ?_
  obtain ⟨r3398, hr3398, h⟩ := bind_sx h
  refine run_call 48 [.sl g.Line.length (fl g.Line)] (some 6) (by kernel_rfl) ?_
  refine call_0 (taskmillref_LineFault_spec g.Line r3398 hr3398) (by simp only [push_cast, seval]) (by simp only [push_cast, seval]) ?_
  refine back_f ?_
  refine rs 2 [] [] (by kernel_rfl) allP_nil ?_
  refine rf [(1, .ptr 0 0), (2, .ptr 1 0), (3, .ptr 2 0)] [(0, .row 48 (Enc.cells g)), (1, .row 29 [iS 0, iS 0]), (2, .row 29 (Enc.cells r3398))] 3 (by kernel_rfl) ?_
  refine wk_id ?_
  refine seq_cut (A := Fault) (fun a => ([(1, .ptr 0 0), (2, .ptr 1 0), (3, .ptr 2 0)], [(0, .row 48 (Enc.cells g)), (1, .row 29 [iS 0, iS 0]), (2, .row 29 (Enc.cells a))], 3)) (fun a => (taskmillref_GateFault_j2 g a) = some r) (fun K3404 hK3404 => ?_) ?_
  · refine seq_cut (A := Unit) (fun _ => ([(1, .ptr 0 0), (2, .ptr 1 0), (3, .ptr 2 0), (19, bS ((r3398.Code == 0) && ((decide (g.Need < 1)) || (decide ((5000 : Int) < g.Need)))))], [(0, .row 48 (Enc.cells g)), (1, .row 29 [iS 0, iS 0]), (2, .row 29 (Enc.cells r3398))], 3)) (fun _ => True) (fun K3407 hK3407 => ?_) (fun _ _ => ?_)
    · refine reg_f ?_
      refine rs 4 [] [] (by kernel_rfl) allP_nil ?_
      refine run_split 10 (r3398.Code == 0) (.inl (by kernel_rfl)) (fun g3408 => ?_) (fun g3408 => ?_)
      · refine rs 4 [] [] (by kernel_rfl) allP_nil ?_
        refine run_split 14 (decide (g.Need < 1)) (.inr (by kernel_rfl)) (fun g3409 => ?_) (fun g3409 => ?_)
        · refine rs 5 [] [] (by kernel_rfl) allP_nil ?_
          refine rf [(1, .ptr 0 0), (2, .ptr 1 0), (3, .ptr 2 0), (19, bS true)] [(0, .row 48 (Enc.cells g)), (1, .row 29 [iS 0, iS 0]), (2, .row 29 (Enc.cells r3398))] 3 (by kernel_rfl) ?_
          exact hK3407 () _ _ _ trivial (leSt_m [(0, 0), (1, 1), (2, 2)] [] (by (try simp only [g3408, g3409]) <;> simp only [push_cast, seval]) (by (try simp only [g3408, g3409]) <;> simp only [push_cast, seval]) rfl rfl rfl)
        · refine rs 5 [] [] (by kernel_rfl) allP_nil ?_
          refine rf [(1, .ptr 0 0), (2, .ptr 1 0), (3, .ptr 2 0), (19, bS (decide ((5000 : Int) < g.Need)))] [(0, .row 48 (Enc.cells g)), (1, .row 29 [iS 0, iS 0]), (2, .row 29 (Enc.cells r3398))] 3 (by kernel_rfl) ?_
          exact hK3407 () _ _ _ trivial (leSt_m [(0, 0), (1, 1), (2, 2)] [] (by (try simp only [g3408, g3409]) <;> simp only [push_cast, seval]) (by (try simp only [g3408, g3409]) <;> simp only [push_cast, seval]) rfl rfl rfl)
      · refine rs 9 [] [] (by kernel_rfl) allP_nil ?_
        refine rf [(1, .ptr 0 0), (2, .ptr 1 0), (3, .ptr 2 0), (19, bS false)] [(0, .row 48 (Enc.cells g)), (1, .row 29 [iS 0, iS 0]), (2, .row 29 (Enc.cells r3398))] 3 (by kernel_rfl) ?_
        exact hK3407 () _ _ _ trivial (leSt_m [(0, 0), (1, 1), (2, 2)] [] (by (try simp only [g3408]) <;> simp only [push_cast, seval]) (by (try simp only [g3408]) <;> simp only [push_cast, seval]) rfl rfl rfl)
    · dsimp only
      refine cond_sx h (by kernel_rfl) (fun g3412 h => ?_) (fun g3412 h => ?_)
      · refine reg_f ?_
        obtain ⟨r3411, hr3411, h⟩ := bind_sx h
        refine run_call 19 [iS 3, iS 0] (some 20) (by kernel_rfl) ?_
        refine call_0 (taskmillref_F_spec 3 0 r3411 hr3411) (by simp only [push_cast, seval]) (by simp only [push_cast, seval]) ?_
        refine back_f ?_
        refine rs 1 [] [] (by kernel_rfl) allP_nil ?_
        refine rf [(1, .ptr 0 0), (2, .ptr 1 0), (3, .ptr 2 0)] [(0, .row 48 (Enc.cells g)), (1, .row 29 [iS 0, iS 0]), (2, .row 29 (Enc.cells r3411))] 3 (by kernel_rfl) ?_
        exact hK3404 (r3411) _ _ _ h (leSt_m [(0, 0), (1, 1), (2, 2)] [] (by simp only [push_cast, seval]) (by simp only [push_cast, seval]) rfl rfl rfl)
      · exact hK3404 (r3398) _ _ _ h (leSt_m [(0, 0), (1, 1), (2, 2)] [] (by simp only [push_cast, seval]) (by simp only [push_cast, seval]) rfl rfl rfl)
  · rintro c2q1 h
    try dsimp only at h ⊢
    unfold taskmillref_GateFault_j2 at h
    refine seq_cut (A := Fault) (fun a => ([(2, .ptr 0 0), (3, .ptr 1 0)], [(0, .row 29 [iS 0, iS 0]), (1, .row 29 (Enc.cells a))], 2)) (fun a => (taskmillref_GateFault_j1 a) = some r) (fun K3417 hK3417 => ?_) ?_
    · refine seq_cut (A := Unit) (fun _ => ([(2, .ptr 1 0), (3, .ptr 2 0), (31, bS ((c2q1.Code == 0) && (decide (g.Need ≤ ((g.Line.length : Nat) : Int)))))], [(0, .row 48 (Enc.cells g)), (1, .row 29 [iS 0, iS 0]), (2, .row 29 (Enc.cells c2q1))], 3)) (fun _ => True) (fun K3419 hK3419 => ?_) (fun _ _ => ?_)
      · refine reg_f ?_
        refine rs 4 [] [] (by kernel_rfl) allP_nil ?_
        refine run_split 24 (c2q1.Code == 0) (.inl (by kernel_rfl)) (fun g3420 => ?_) (fun g3420 => ?_)
        · refine rs 7 [] [] (by kernel_rfl) allP_nil ?_
          refine rf [(2, .ptr 1 0), (3, .ptr 2 0), (31, bS (decide (g.Need ≤ ((g.Line.length : Nat) : Int))))] [(0, .row 48 (Enc.cells g)), (1, .row 29 [iS 0, iS 0]), (2, .row 29 (Enc.cells c2q1))] 3 (by kernel_rfl) ?_
          exact hK3419 () _ _ _ trivial (leSt_m [(0, 0), (1, 1), (2, 2)] [] (by (try simp only [g3420]) <;> simp only [push_cast, seval]) (by (try simp only [g3420]) <;> simp only [push_cast, seval]) rfl rfl rfl)
        · refine rs 7 [] [] (by kernel_rfl) allP_nil ?_
          refine rf [(2, .ptr 1 0), (3, .ptr 2 0), (31, bS false)] [(0, .row 48 (Enc.cells g)), (1, .row 29 [iS 0, iS 0]), (2, .row 29 (Enc.cells c2q1))] 3 (by kernel_rfl) ?_
          exact hK3419 () _ _ _ trivial (leSt_m [(0, 0), (1, 1), (2, 2)] [] (by (try simp only [g3420]) <;> simp only [push_cast, seval]) (by (try simp only [g3420]) <;> simp only [push_cast, seval]) rfl rfl rfl)
      · dsimp only
        refine cond_sx h (by kernel_rfl) (fun g3423 h => ?_) (fun g3423 h => ?_)
        · refine reg_f ?_
          obtain ⟨r3422, hr3422, h⟩ := bind_sx h
          refine run_call 19 [iS 5, iS 0] (some 32) (by kernel_rfl) ?_
          refine call_0 (taskmillref_F_spec 5 0 r3422 hr3422) (by simp only [push_cast, seval]) (by simp only [push_cast, seval]) ?_
          refine back_f ?_
          refine rs 1 [] [] (by kernel_rfl) allP_nil ?_
          refine rf [(2, .ptr 1 0), (3, .ptr 2 0)] [(0, .row 48 (Enc.cells g)), (1, .row 29 [iS 0, iS 0]), (2, .row 29 (Enc.cells r3422))] 3 (by kernel_rfl) ?_
          exact hK3417 (r3422) _ _ _ h (leSt_m [(0, 1), (1, 2)] [] (by simp only [push_cast, seval]) (by simp only [push_cast, seval]) rfl rfl rfl)
        · exact hK3417 (c2q1) _ _ _ h (leSt_m [(0, 1), (1, 2)] [] (by simp only [push_cast, seval]) (by simp only [push_cast, seval]) rfl rfl rfl)
    · rintro c1q1 h
      try dsimp only at h ⊢
      unfold taskmillref_GateFault_j1 at h
      refine seq_np ?_
      refine reg_f ?_
      refine rs 2 [] [] (by kernel_rfl) allP_nil ?_
      refine rf [(2, .ptr 0 0)] [(0, .row 29 (Enc.cells c1q1)), (1, .row 29 (Enc.cells c1q1))] 2 (by kernel_rfl) ?_
      refine wk_id ?_
      obtain rfl := Option.some.inj h
      refine ret_at (.agg (Enc.cells c1q1)) (by kernel_rfl) ?_
      exact ret_e [] [] (by simp only [push_cast, seval]) (by simp only [push_cast, seval]) rfl rfl rfl

set_option maxRecDepth 100000 in
set_option maxHeartbeats 10000000 in
theorem taskmillref_ComeFault_spec (w : Fault) (l : (List Int)) (task : Int) (r : Fault) (h : taskmillref_ComeFault w l task = some r) : SpecW Try.prog 26 [.agg (Enc.cells w), .sl l.length (fl l), iS task] [] 0 (fun x h n => x = .agg (Enc.cells r) ∧ h = [] ∧ n = 0) := by
  unfold taskmillref_ComeFault at h
  refine spec_of (draw_ok _) Try.func26 rfl (by decide) rfl (by kernel_rfl) ?_
  refine seq_np ?_
  refine reg_f ?_
  refine rs 2 [] [] (by kernel_rfl) allP_nil ?_
  refine rf [(1, .sl l.length (fl l)), (2, iS task), (3, .ptr 0 0), (6, .ptr 1 0)] [(0, .row 29 (Enc.cells w)), (1, .row 29 [iS 0, iS 0])] 2 (by kernel_rfl) ?_
  refine wk_id ?_
  refine seq_np ?_
  refine seq_np ?_
  refine reg_f ?_
  refine rs 3 [] [] (by kernel_rfl) allP_nil ?_
  refine rf [(1, .sl l.length (fl l)), (2, iS task), (3, .ptr 0 0), (6, .ptr 1 0), (9, bS (w.Code != 0))] [(0, .row 29 (Enc.cells w)), (1, .row 29 [iS 0, iS 0])] 2 (by kernel_rfl) ?_
  refine wk_id ?_
  refine cond_sx h (by kernel_rfl) (fun g3452 h => ?_) (fun g3452 h => ?_)
  · refine seq_np ?_
    refine reg_f ?_
    refine rs 2 [] [] (by kernel_rfl) allP_nil ?_
    refine rf [(6, .ptr 1 0)] [(0, .row 29 (Enc.cells w)), (1, .row 29 (Enc.cells w))] 2 (by kernel_rfl) ?_
    refine wk_id ?_
    obtain rfl := Option.some.inj h
    refine ret_at (.agg (Enc.cells w)) (by kernel_rfl) ?_
    exact ret_e [] [] (by simp only [push_cast, seval]) (by simp only [push_cast, seval]) rfl rfl rfl
  · refine wk_id ?_
    refine seq_np ?_
    refine seq_np ?_
    refine reg_f ?_
    refine rs 2 [] [] (by kernel_rfl) allP_nil ?_
    refine rf [(1, .sl l.length (fl l)), (2, iS task), (6, .ptr 1 0), (12, bS (decide (task < 1)))] [(0, .row 29 (Enc.cells w)), (1, .row 29 [iS 0, iS 0])] 2 (by kernel_rfl) ?_
    refine wk_id ?_
    refine cond_sx h (by kernel_rfl) (fun g3451 h => ?_) (fun g3451 h => ?_)
    · refine seq_np ?_
      refine reg_f ?_
      obtain ⟨r3437, hr3437, h⟩ := bind_sx h
      refine run_call 19 [iS 3, iS (-1)] (some 13) (by kernel_rfl) ?_
      refine call_0 (taskmillref_F_spec 3 (-1) r3437 hr3437) (by simp only [push_cast, seval]) (by simp only [push_cast, seval]) ?_
      refine back_f ?_
      refine rs 1 [] [] (by kernel_rfl) allP_nil ?_
      refine rf [(6, .ptr 1 0)] [(0, .row 29 (Enc.cells w)), (1, .row 29 (Enc.cells r3437))] 2 (by kernel_rfl) ?_
      refine wk_id ?_
      obtain rfl := Option.some.inj h
      refine ret_at (.agg (Enc.cells r3437)) (by kernel_rfl) ?_
      exact ret_e [] [] (by simp only [push_cast, seval]) (by simp only [push_cast, seval]) rfl rfl rfl
    · refine wk_id ?_
      refine seq_np ?_
      refine seq_np ?_
      refine reg_f ?_
      refine rs 2 [] [] (by kernel_rfl) allP_nil ?_
      obtain ⟨r3442, hr3442, h⟩ := bind_sx h
      refine run_call 22 [.sl l.length (fl l), iS task] (some 16) (by kernel_rfl) ?_
      refine call_0 (taskmillref_Has_spec l task r3442 hr3442) (by simp only [push_cast, seval]) (by simp only [push_cast, seval]) ?_
      refine back_f ?_
      refine rf [(1, .sl l.length (fl l)), (6, .ptr 1 0), (16, bS r3442)] [(0, .row 29 (Enc.cells w)), (1, .row 29 [iS 0, iS 0])] 2 (by kernel_rfl) ?_
      refine wk_id ?_
      refine cond_sx h (by kernel_rfl) (fun g3450 h => ?_) (fun g3450 h => ?_)
      · refine seq_np ?_
        refine reg_f ?_
        obtain ⟨r3444, hr3444, h⟩ := bind_sx h
        refine run_call 19 [iS 10, iS (-1)] (some 17) (by kernel_rfl) ?_
        refine call_0 (taskmillref_F_spec 10 (-1) r3444 hr3444) (by simp only [push_cast, seval]) (by simp only [push_cast, seval]) ?_
        refine back_f ?_
        refine rs 1 [] [] (by kernel_rfl) allP_nil ?_
        refine rf [(6, .ptr 1 0)] [(0, .row 29 (Enc.cells w)), (1, .row 29 (Enc.cells r3444))] 2 (by kernel_rfl) ?_
        refine wk_id ?_
        obtain rfl := Option.some.inj h
        refine ret_at (.agg (Enc.cells r3444)) (by kernel_rfl) ?_
        exact ret_e [] [] (by simp only [push_cast, seval]) (by simp only [push_cast, seval]) rfl rfl rfl
      · refine wk_id ?_
        refine seq_np ?_
        refine seq_np ?_
        refine reg_f ?_
        refine rs 3 [] [] (by kernel_rfl) allP_nil ?_
        refine rf [(6, .ptr 1 0), (20, bS (((l.length : Nat) : Int) == 5000))] [(0, .row 29 (Enc.cells w)), (1, .row 29 [iS 0, iS 0])] 2 (by kernel_rfl) ?_
        refine wk_id ?_
        refine cond_sx h (by kernel_rfl) (fun g3449 h => ?_) (fun g3449 h => ?_)
        · refine seq_np ?_
          refine reg_f ?_
          obtain ⟨r3448, hr3448, h⟩ := bind_sx h
          refine run_call 19 [iS 9, iS 0] (some 21) (by kernel_rfl) ?_
          refine call_0 (taskmillref_F_spec 9 0 r3448 hr3448) (by simp only [push_cast, seval]) (by simp only [push_cast, seval]) ?_
          refine back_f ?_
          refine rs 1 [] [] (by kernel_rfl) allP_nil ?_
          refine rf [(6, .ptr 1 0)] [(0, .row 29 (Enc.cells w)), (1, .row 29 (Enc.cells r3448))] 2 (by kernel_rfl) ?_
          refine wk_id ?_
          obtain rfl := Option.some.inj h
          refine ret_at (.agg (Enc.cells r3448)) (by kernel_rfl) ?_
          exact ret_e [] [] (by simp only [push_cast, seval]) (by simp only [push_cast, seval]) rfl rfl rfl
        · refine wk_id ?_
          refine seq_np ?_
          refine reg_f ?_
          refine rs 2 [] [] (by kernel_rfl) allP_nil ?_
          refine rf [(6, .ptr 1 0)] [(0, .row 29 (Enc.cells w)), (1, .row 29 [iS 0, iS 0])] 2 (by kernel_rfl) ?_
          refine wk_id ?_
          obtain rfl := Option.some.inj h
          refine ret_at (.agg [iS 0, iS 0]) (by kernel_rfl) ?_
          exact ret_e [] [] (by simp only [push_cast, seval]) (by simp only [push_cast, seval]) rfl rfl rfl

set_option maxRecDepth 100000 in
set_option maxHeartbeats 10000000 in
theorem taskmilllaw_sameGate_spec (xa : Gate) (b : Gate) (r : Bool) (h : taskmilllaw_sameGate xa b = some r) : SpecW Try.prog 28 [.agg (Enc.cells xa), .agg (Enc.cells b)] [] 0 (fun x h n => x = bS r ∧ h = [] ∧ n = 0) := by
  unfold taskmilllaw_sameGate at h
  refine spec_of (draw_ok _) Try.func28 rfl (by decide) rfl (by kernel_rfl) ?_
  refine seq_np ?_
  refine reg_f ?_
  refine rs 3 [] [] (by kernel_rfl) allP_nil ?_
  refine rf [(2, .ptr 0 0), (3, .ptr 1 0)] [(0, .row 48 (Enc.cells xa)), (1, .row 48 (Enc.cells b))] 2 (by kernel_rfl) ?_
  refine wk_id ?_
  refine seq_cut (A := Bool) (fun a => ([(4, bS a)], [], 0)) (fun a => (taskmilllaw_sameGate_j1 a) = some r) (fun K3462 hK3462 => ?_) ?_
  · refine reg_f ?_
    refine rs 6 [] [] (by kernel_rfl) allP_nil ?_
    refine run_br h 10 (.inl (by kernel_rfl)) (fun g3463 h => ?_) (fun g3463 h => ?_)
    · refine rs 4 [] [] (by kernel_rfl) allP_nil ?_
      obtain ⟨r3464, hr3464, h⟩ := bind_sx h
      refine run_call 23 [.sl xa.Line.length (fl xa.Line), .sl b.Line.length (fl b.Line)] (some 15) (by kernel_rfl) ?_
      refine call_0 (taskmillref_Ints_spec xa.Line b.Line r3464 hr3464) (by simp only [push_cast, seval]) (by simp only [push_cast, seval]) ?_
      refine back_f ?_
      refine rs 2 [] [] (by kernel_rfl) allP_nil ?_
      refine rf [(4, bS r3464)] [(0, .row 48 (Enc.cells xa)), (1, .row 48 (Enc.cells b))] 2 (by kernel_rfl) ?_
      exact hK3462 (r3464) _ _ _ h (leSt_m [] [] (by (try simp only [g3463]) <;> simp only [push_cast, seval]) (by (try simp only [g3463]) <;> simp only [push_cast, seval]) rfl rfl rfl)
    · refine rs 7 [] [] (by kernel_rfl) allP_nil ?_
      refine rf [(4, bS false)] [(0, .row 48 (Enc.cells xa)), (1, .row 48 (Enc.cells b))] 2 (by kernel_rfl) ?_
      exact hK3462 (false) _ _ _ h (leSt_m [] [] (by (try simp only [g3463]) <;> simp only [push_cast, seval]) (by (try simp only [g3463]) <;> simp only [push_cast, seval]) rfl rfl rfl)
  · rintro t4q1 h
    try dsimp only at h ⊢
    unfold taskmilllaw_sameGate_j1 at h
    obtain rfl := Option.some.inj h
    refine ret_at (bS t4q1) (by kernel_rfl) ?_
    exact ret_e [] [] (by simp only [push_cast, seval]) (by simp only [push_cast, seval]) rfl rfl rfl

set_option maxRecDepth 100000 in
set_option maxHeartbeats 10000000 in
theorem taskmilllaw_SyncGates_spec (g : Gate) (task : Int) (r : Bool) (h : taskmilllaw_SyncGates g task = some r) : SpecW Try.prog 6 [.agg (Enc.cells g), iS task] [] 0 (fun x h n => x = bS r ∧ h = [] ∧ n = 0) := by
  unfold taskmilllaw_SyncGates at h
  refine spec_of (draw_ok _) Try.func6 rfl (by decide) rfl (by kernel_rfl) ?_
  refine seq_np ?_
  refine reg_f ?_
  refine rs 2 [] [] (by kernel_rfl) allP_nil ?_
  refine rf [(1, iS task), (2, .ptr 0 0)] [(0, .row 48 (Enc.cells g))] 1 (by kernel_rfl) ?_
  refine wk_id ?_
  refine seq_np ?_
  refine seq_np ?_
  refine reg_f ?_
  obtain ⟨r3490, hr3490, h⟩ := bind_sx h
  refine run_call 12 [] (some 11) (by kernel_rfl) ?_
  refine call_0 (taskmilllaw_syncBegun_spec r3490 hr3490) (by simp only [push_cast, seval]) (by simp only [push_cast, seval]) ?_
  refine back_f ?_
  refine rs 1 [] [] (by kernel_rfl) allP_nil ?_
  refine rf [(1, iS task), (2, .ptr 0 0), (12, bS (!r3490))] [(0, .row 48 (Enc.cells g))] 1 (by kernel_rfl) ?_
  refine wk_id ?_
  refine cond_sx h (by kernel_rfl) (fun g3555 h => ?_) (fun g3555 h => ?_)
  · refine seq_np ?_
    refine reg_f ?_
    refine rs 1 [] [] (by kernel_rfl) allP_nil ?_
    refine rf [(4, bS false)] [(0, .row 48 (Enc.cells g))] 1 (by kernel_rfl) ?_
    refine wk_id ?_
    obtain rfl := Option.some.inj h
    refine ret_at (bS false) (by kernel_rfl) ?_
    exact ret_e [] [] (by simp only [push_cast, seval]) (by simp only [push_cast, seval]) rfl rfl rfl
  · refine wk_id ?_
    refine seq_np ?_
    refine seq_np ?_
    refine reg_f ?_
    refine rs 3 [] [] (by kernel_rfl) allP_nil ?_
    obtain ⟨r3494, hr3494, h⟩ := bind_sx h
    refine run_call 13 [iS ((g.Line.length : Nat) : Int)] (some 16) (by kernel_rfl) ?_
    refine call_0 (taskmilllaw_long_spec ((g.Line.length : Nat) : Int) r3494 hr3494) (by simp only [push_cast, seval]) (by simp only [push_cast, seval]) ?_
    refine back_f ?_
    refine rf [(1, iS task), (2, .ptr 0 0), (16, bS r3494)] [(0, .row 48 (Enc.cells g))] 1 (by kernel_rfl) ?_
    refine wk_id ?_
    refine cond_sx h (by kernel_rfl) (fun g3554 h => ?_) (fun g3554 h => ?_)
    · refine seq_np ?_
      refine reg_f ?_
      refine rs 1 [] [] (by kernel_rfl) allP_nil ?_
      refine rf [(4, bS true)] [(0, .row 48 (Enc.cells g))] 1 (by kernel_rfl) ?_
      refine wk_id ?_
      obtain rfl := Option.some.inj h
      refine ret_at (bS true) (by kernel_rfl) ?_
      exact ret_e [] [] (by simp only [push_cast, seval]) (by simp only [push_cast, seval]) rfl rfl rfl
    · refine wk_id ?_
      refine seq_np ?_
      refine reg_t ?_
      refine rs 4 [] [] (by kernel_rfl) allP_nil ?_
      obtain ⟨r3496, hr3496, h⟩ := bind_sx h
      refine call_x (taskmilllaw_own_spec g.Line r3496 hr3496) (args := [.sl g.Line.length (fl g.Line)]) (dst := (some 21)) (by kernel_rfl) [(0, .row 48 (Enc.cells g))] 5 (by kernel_rfl) [] [] (.own 5 0 r3496.length) [(5, .row 3 (fl r3496))] (by simp only [push_cast, seval]) (by simp only [push_cast, seval]) (by kernel_rfl) (.inl rfl) (by simp only [push_cast, seval]) (by simp only [push_cast, seval]) ?_
      refine rs 3 [] [] (by kernel_rfl) allP_nil ?_
      refine rt [(1, iS task), (2, .ptr 0 0), (5, .ptr 8 0)] [(0, .row 48 (Enc.cells g)), (5, .row 3 (fl r3496)), (8, .row 48 [iS g.Need, .own 5 0 r3496.length])] 11 follows (by kernel_rfl) ?_
      refine wk_id ?_
      refine seq_np ?_
      refine reg_f ?_
      refine rs 2 [] [] (by kernel_rfl) allP_nil ?_
      obtain ⟨r3498, hr3498, h⟩ := bind_sx h
      refine call_x (sync_Arrive_spec (Gate.mk g.Need r3496) task r3498 hr3498) (args := [.agg [iS g.Need, .own 5 0 r3496.length], iS task]) (dst := (some 26)) (by kernel_rfl) [(0, .row 48 (Enc.cells g)), (5, .row 3 (fl r3496)), (8, .row 48 [iS g.Need, .own 5 0 r3496.length])] 11 (by kernel_rfl) [] [5] (.tup [.agg [iS r3498.1, .own 11 0 r3498.2.2.1.length], .own 12 0 r3498.2.2.2.length, .agg (Enc.cells r3498.2.1)]) [(11, .row 3 (fl r3498.2.2.1)), (12, .row 3 (fl r3498.2.2.2))] (by simp only [push_cast, seval]) (by simp only [push_cast, seval]) (by kernel_rfl) (.inr ⟨by simp only [push_cast, seval], by simp only [push_cast, seval]⟩) (by simp only [push_cast, seval]) (by simp only [push_cast, seval]) ?_
      refine rs 9 [] [] (by kernel_rfl) allP_nil ?_
      refine rf [(1, iS task), (2, .ptr 0 0), (5, .ptr 8 0), (6, .ptr 13 0), (7, .own 12 0 r3498.2.2.2.length), (8, .ptr 14 0)] [(0, .row 48 (Enc.cells g)), (5, .row 3 (fl r3496)), (8, .row 48 [iS g.Need, .own 5 0 r3496.length]), (11, .row 3 (fl r3498.2.2.1)), (12, .row 3 (fl r3498.2.2.2)), (13, .row 48 [iS r3498.1, .own 11 0 r3498.2.2.1.length]), (14, .row 29 (Enc.cells r3498.2.1))] 15 (by kernel_rfl) ?_
      refine wk_id ?_
      refine seq_np ?_
      refine reg_t ?_
      refine rs 1 [] [] (by kernel_rfl) allP_nil ?_
      obtain ⟨r3501, hr3501, h⟩ := bind_sx h
      refine run_call 27 [.agg (Enc.cells g)] (some 31) (by kernel_rfl) ?_
      refine callE_0 (taskmillref_GateFault_spec g r3501 hr3501) (by simp only [push_cast, seval]) (by simp only [push_cast, seval]) ?_
      refine back_t ?_
      refine rs 3 [] [] (by kernel_rfl) allP_nil ?_
      obtain ⟨r3502, hr3502, h⟩ := bind_sx h
      refine run_call 26 [.agg (Enc.cells r3501), .sl g.Line.length (fl g.Line), iS task] (some 35) (by kernel_rfl) ?_
      refine callE_0 (taskmillref_ComeFault_spec r3501 g.Line task r3502 hr3502) (by simp only [push_cast, seval]) (by simp only [push_cast, seval]) ?_
      refine back_t ?_
      refine rs 2 [] [] (by kernel_rfl) allP_nil ?_
      refine rt [(1, iS task), (2, .ptr 0 0), (5, .ptr 8 0), (6, .ptr 13 0), (7, .own 12 0 r3498.2.2.2.length), (8, .ptr 14 0), (9, .ptr 21 0)] [(0, .row 48 (Enc.cells g)), (5, .row 3 (fl r3496)), (8, .row 48 [iS g.Need, .own 5 0 r3496.length]), (11, .row 3 (fl r3498.2.2.1)), (12, .row 3 (fl r3498.2.2.2)), (13, .row 48 [iS r3498.1, .own 11 0 r3498.2.2.1.length]), (14, .row 29 (Enc.cells r3498.2.1)), (21, .row 29 (Enc.cells r3502))] 24 follows (by kernel_rfl) ?_
      refine wk_id ?_
      refine seq_np ?_
      refine seq_cut (A := Bool × Int × (List Int) × Fault × (List Int)) (fun a => ([(1, iS task), (2, .ptr 0 0), (6, .ptr 1 0), (7, .own 2 0 a.2.2.1.length), (9, .ptr 3 0), (44, bS a.1)], [(0, .row 48 (Enc.cells g)), (1, .row 48 [iS a.2.1, .own 4 0 a.2.2.2.2.length]), (2, .row 3 (fl a.2.2.1)), (3, .row 29 (Enc.cells a.2.2.2.1)), (4, .row 3 (fl a.2.2.2.2))], 5)) (fun a => (taskmilllaw_SyncGates_j4 g task a.1 a.2.1 a.2.2.1 a.2.2.2.1 a.2.2.2.2) = some r) (fun K3511 hK3511 => ?_) ?_
      · refine reg_f ?_
        refine rs 4 [] [] (by kernel_rfl) allP_nil ?_
        refine run_br h 39 (.inl (by kernel_rfl)) (fun g3512 h => ?_) (fun g3512 h => ?_)
        · refine rs 5 [] [] (by kernel_rfl) allP_nil ?_
          refine rf [(1, iS task), (2, .ptr 0 0), (6, .ptr 13 0), (7, .own 12 0 r3498.2.2.2.length), (9, .ptr 21 0), (44, bS true)] [(0, .row 48 (Enc.cells g)), (5, .row 3 (fl r3496)), (8, .row 48 [iS g.Need, .own 5 0 r3496.length]), (11, .row 3 (fl r3498.2.2.1)), (12, .row 3 (fl r3498.2.2.2)), (13, .row 48 [iS r3498.1, .own 11 0 r3498.2.2.1.length]), (14, .row 29 (Enc.cells r3498.2.1)), (21, .row 29 (Enc.cells r3502))] 24 (by kernel_rfl) ?_
          exact hK3511 (true, r3498.1, r3498.2.2.2, r3502, r3498.2.2.1) _ _ _ h (leSt_m [(0, 0), (1, 13), (2, 12), (3, 21), (4, 11)] [] (by (try simp only [g3512]) <;> simp only [push_cast, seval]) (by (try simp only [g3512]) <;> simp only [push_cast, seval]) rfl rfl rfl)
        · refine rs 2 [] [] (by kernel_rfl) allP_nil ?_
          obtain ⟨r3513, hr3513, h⟩ := bind_sx h
          refine call_x (taskmilllaw_sameGate_spec (Gate.mk g.Need r3496) g r3513 hr3513) (args := [.agg [iS g.Need, .own 5 0 r3496.length], .agg (Enc.cells g)]) (dst := (some 42)) (by kernel_rfl) [(0, .row 48 (Enc.cells g)), (5, .row 3 (fl r3496)), (8, .row 48 [iS g.Need, .own 5 0 r3496.length]), (11, .row 3 (fl r3498.2.2.1)), (12, .row 3 (fl r3498.2.2.2)), (13, .row 48 [iS r3498.1, .own 11 0 r3498.2.2.1.length]), (14, .row 29 (Enc.cells r3498.2.1)), (21, .row 29 (Enc.cells r3502))] 24 (by kernel_rfl) [] [5] (bS r3513) [] (by simp only [push_cast, seval]) (by simp only [push_cast, seval]) (by kernel_rfl) (.inr ⟨by simp only [push_cast, seval], by simp only [push_cast, seval]⟩) (by simp only [push_cast, seval]) (by simp only [push_cast, seval]) ?_
          refine rs 2 [] [] (by kernel_rfl) allP_nil ?_
          refine rf [(1, iS task), (2, .ptr 0 0), (6, .ptr 13 0), (7, .own 12 0 r3498.2.2.2.length), (9, .ptr 21 0), (44, bS (!r3513))] [(0, .row 48 (Enc.cells g)), (5, .row 3 (fl r3496)), (8, .row 48 [iS g.Need, .own 5 0 r3496.length]), (11, .row 3 (fl r3498.2.2.1)), (12, .row 3 (fl r3498.2.2.2)), (13, .row 48 [iS r3498.1, .own 11 0 r3498.2.2.1.length]), (14, .row 29 (Enc.cells r3498.2.1)), (21, .row 29 (Enc.cells r3502))] 24 (by kernel_rfl) ?_
          exact hK3511 ((!r3513), r3498.1, r3498.2.2.2, r3502, r3498.2.2.1) _ _ _ h (leSt_m [(0, 0), (1, 13), (2, 12), (3, 21), (4, 11)] [] (by (try simp only [g3512]) <;> simp only [push_cast, seval]) (by (try simp only [g3512]) <;> simp only [push_cast, seval]) rfl rfl rfl)
      · rintro ⟨t44q2, c1_Need2, c2q2, c3q2, c4q2⟩ h
        try dsimp only at h ⊢
        unfold taskmilllaw_SyncGates_j4 at h
        refine cond_sx h (by kernel_rfl) (fun g3553 h => ?_) (fun g3553 h => ?_)
        · refine seq_np ?_
          refine reg_f ?_
          refine rs 1 [] [] (by kernel_rfl) allP_nil ?_
          refine rf [(4, bS false)] [(0, .row 48 (Enc.cells g)), (1, .row 48 [iS c1_Need2, .own 4 0 c4q2.length]), (2, .row 3 (fl c2q2)), (3, .row 29 (Enc.cells c3q2)), (4, .row 3 (fl c4q2))] 5 (by kernel_rfl) ?_
          refine wk_id ?_
          obtain rfl := Option.some.inj h
          refine ret_at (bS false) (by kernel_rfl) ?_
          exact ret_e [] [] (by simp only [push_cast, seval]) (by simp only [push_cast, seval]) rfl rfl rfl
        · refine wk_id ?_
          refine seq_np ?_
          refine seq_np ?_
          refine reg_f ?_
          refine rs 3 [] [] (by kernel_rfl) allP_nil ?_
          refine rf [(1, iS task), (2, .ptr 0 0), (6, .ptr 1 0), (7, .own 2 0 c2q2.length), (47, bS (c3q2.Code != 0))] [(0, .row 48 (Enc.cells g)), (1, .row 48 [iS c1_Need2, .own 4 0 c4q2.length]), (2, .row 3 (fl c2q2)), (3, .row 29 (Enc.cells c3q2)), (4, .row 3 (fl c4q2))] 5 (by kernel_rfl) ?_
          refine wk_id ?_
          refine cond_sx h (by kernel_rfl) (fun g3552 h => ?_) (fun g3552 h => ?_)
          · refine seq_cut (A := Bool) (fun a => ([(4, bS a)], [], 0)) (fun a => (taskmilllaw_SyncGates_j1 a) = some r) (fun K3522 hK3522 => ?_) ?_
            · refine reg_f ?_
              refine rs 2 [] [] (by kernel_rfl) allP_nil ?_
              obtain ⟨r3523, hr3523, h⟩ := bind_sx h
              refine call_x (taskmilllaw_sameGate_spec (Gate.mk c1_Need2 c4q2) (Gate.mk 0 []) r3523 hr3523) (args := [.agg [iS c1_Need2, .own 4 0 c4q2.length], .agg [iS 0, .v (.slice none 0 0)]]) (dst := (some 50)) (by kernel_rfl) [(0, .row 48 (Enc.cells g)), (1, .row 48 [iS c1_Need2, .own 4 0 c4q2.length]), (2, .row 3 (fl c2q2)), (3, .row 29 (Enc.cells c3q2)), (4, .row 3 (fl c4q2))] 5 (by kernel_rfl) [] [4] (bS r3523) [] (by simp only [push_cast, seval]) (by simp only [push_cast, seval]) (by kernel_rfl) (.inr ⟨by simp only [push_cast, seval], by simp only [push_cast, seval]⟩) (by simp only [push_cast, seval]) (by simp only [push_cast, seval]) ?_
              refine rs 1 [] [] (by kernel_rfl) allP_nil ?_
              refine run_br h 51 (.inl (by kernel_rfl)) (fun g3524 h => ?_) (fun g3524 h => ?_)
              · refine rs 5 [] [] (by kernel_rfl) allP_nil ?_
                refine rf [(4, bS (((c2q2.length : Nat) : Int) == 0))] [(0, .row 48 (Enc.cells g)), (1, .row 48 [iS c1_Need2, .own 4 0 c4q2.length]), (2, .row 3 (fl c2q2)), (3, .row 29 (Enc.cells c3q2)), (4, .row 3 (fl c4q2))] 5 (by kernel_rfl) ?_
                exact hK3522 ((((c2q2.length : Nat) : Int) == 0)) _ _ _ h (leSt_m [] [] (by (try simp only [g3524]) <;> simp only [push_cast, seval]) (by (try simp only [g3524]) <;> simp only [push_cast, seval]) rfl rfl rfl)
              · refine rs 5 [] [] (by kernel_rfl) allP_nil ?_
                refine rf [(4, bS false)] [(0, .row 48 (Enc.cells g)), (1, .row 48 [iS c1_Need2, .own 4 0 c4q2.length]), (2, .row 3 (fl c2q2)), (3, .row 29 (Enc.cells c3q2)), (4, .row 3 (fl c4q2))] 5 (by kernel_rfl) ?_
                exact hK3522 (false) _ _ _ h (leSt_m [] [] (by (try simp only [g3524]) <;> simp only [push_cast, seval]) (by (try simp only [g3524]) <;> simp only [push_cast, seval]) rfl rfl rfl)
            · rintro t4q4 h
              try dsimp only at h ⊢
              unfold taskmilllaw_SyncGates_j1 at h
              obtain rfl := Option.some.inj h
              refine ret_at (bS t4q4) (by kernel_rfl) ?_
              exact ret_e [] [] (by simp only [push_cast, seval]) (by simp only [push_cast, seval]) rfl rfl rfl
          · refine wk_id ?_
            refine seq_np ?_
            refine reg_f ?_
            refine rs 2 [] [] (by kernel_rfl) allP_nil ?_
            obtain ⟨r3528, hr3528, h⟩ := bind_sx h
            refine call_x (taskmilllaw_own_spec g.Line r3528 hr3528) (args := [.sl g.Line.length (fl g.Line)]) (dst := (some 58)) (by kernel_rfl) [(0, .row 48 (Enc.cells g)), (1, .row 48 [iS c1_Need2, .own 4 0 c4q2.length]), (2, .row 3 (fl c2q2)), (3, .row 29 (Enc.cells c3q2)), (4, .row 3 (fl c4q2))] 5 (by kernel_rfl) [] [] (.own 5 0 r3528.length) [(5, .row 3 (fl r3528))] (by simp only [push_cast, seval]) (by simp only [push_cast, seval]) (by kernel_rfl) (.inl rfl) (by simp only [push_cast, seval]) (by simp only [push_cast, seval]) ?_
            refine chk_sx h (fun g3530 h => ?_)
            have k3529 : (r3528 ++ ([task] : List Int)).length * 8 ≤ 140737488355328 := by first | simpa only [Bool.and_eq_true, decide_eq_true_eq, bne_iff_ne, ne_eq] using g3530 | (simp at g3530 ⊢; omega)
            refine rs 4 [none, none, some ⟨.own 7 0 (r3528 ++ ([task] : List Int)).length, [(7, .row 3 (fl (r3528 ++ ([task] : List Int)))), (5, .dead)], 8, [5, 6]⟩] _ (by kernel_rfl) (allP_cons (ob_app (P := Try.prog) r3528 ([task] : List Int) 1 8 rfl (appCells (fl ([task] : List Int)) 0 (([task] : List Int).length * 1)) ([task] : List Int).length (app_own ([task] : List Int) 1 rfl) rfl (0 + ([task] : List Int).length * 1 ≤ (fl ([task] : List Int)).length) (app_own_le ([task] : List Int) 1 rfl) 3 (by kernel_rfl) (by decide) k3529 5 7 [6]) allP_nil) ?_
            refine rf [(2, .ptr 0 0), (6, .ptr 1 0), (7, .own 2 0 c2q2.length), (10, .own 7 0 (r3528 ++ ([task] : List Int)).length)] [(0, .row 48 (Enc.cells g)), (1, .row 48 [iS c1_Need2, .own 4 0 c4q2.length]), (2, .row 3 (fl c2q2)), (3, .row 29 (Enc.cells c3q2)), (4, .row 3 (fl c4q2)), (5, .dead), (6, .row 3 (fl ([task] : List Int))), (7, .row 3 (fl (r3528 ++ ([task] : List Int))))] 8 (by kernel_rfl) ?_
            refine wk_id ?_
            refine seq_np ?_
            refine seq_np ?_
            refine reg_f ?_
            refine rs 5 [] [] (by kernel_rfl) allP_nil ?_
            refine rf [(2, .ptr 0 0), (6, .ptr 1 0), (7, .own 2 0 c2q2.length), (10, .own 7 0 (r3528 ++ ([task] : List Int)).length), (66, bS ((((r3528 ++ ([task] : List Int)).length : Nat) : Int) == g.Need))] [(0, .row 48 (Enc.cells g)), (1, .row 48 [iS c1_Need2, .own 4 0 c4q2.length]), (2, .row 3 (fl c2q2)), (3, .row 29 (Enc.cells c3q2)), (4, .row 3 (fl c4q2)), (5, .dead), (6, .row 3 (fl ([task] : List Int))), (7, .row 3 (fl (r3528 ++ ([task] : List Int))))] 8 (by kernel_rfl) ?_
            refine wk_id ?_
            refine cond_sx h (by kernel_rfl) (fun g3551 h => ?_) (fun g3551 h => ?_)
            · refine seq_cut (A := Bool) (fun a => ([(4, bS a)], [], 0)) (fun a => (taskmilllaw_SyncGates_j2 a) = some r) (fun K3541 hK3541 => ?_) ?_
              · refine reg_f ?_
                refine rs 4 [] [] (by kernel_rfl) allP_nil ?_
                obtain ⟨r3542, hr3542, h⟩ := bind_sx h
                refine call_x (taskmilllaw_sameGate_spec (Gate.mk c1_Need2 c4q2) (Gate.mk g.Need []) r3542 hr3542) (args := [.agg [iS c1_Need2, .own 4 0 c4q2.length], .agg [iS g.Need, .v (.slice none 0 0)]]) (dst := (some 71)) (by kernel_rfl) [(0, .row 48 (Enc.cells g)), (1, .row 48 [iS c1_Need2, .own 4 0 c4q2.length]), (2, .row 3 (fl c2q2)), (3, .row 29 (Enc.cells c3q2)), (4, .row 3 (fl c4q2)), (5, .dead), (6, .row 3 (fl ([task] : List Int))), (7, .row 3 (fl (r3528 ++ ([task] : List Int))))] 8 (by kernel_rfl) [] [4] (bS r3542) [] (by simp only [push_cast, seval]) (by simp only [push_cast, seval]) (by kernel_rfl) (.inr ⟨by simp only [push_cast, seval], by simp only [push_cast, seval]⟩) (by simp only [push_cast, seval]) (by simp only [push_cast, seval]) ?_
                refine rs 1 [] [] (by kernel_rfl) allP_nil ?_
                refine run_br h 72 (.inl (by kernel_rfl)) (fun g3543 h => ?_) (fun g3543 h => ?_)
                · refine rs 2 [] [] (by kernel_rfl) allP_nil ?_
                  obtain ⟨r3544, hr3544, h⟩ := bind_sx h
                  refine call_x (taskmillref_Ints_spec c2q2 (r3528 ++ ([task] : List Int)) r3544 hr3544) (args := [.own 2 0 c2q2.length, .own 7 0 (r3528 ++ ([task] : List Int)).length]) (dst := (some 75)) (by kernel_rfl) [(0, .row 48 (Enc.cells g)), (1, .row 48 [iS c1_Need2, .own 4 0 c4q2.length]), (2, .row 3 (fl c2q2)), (3, .row 29 (Enc.cells c3q2)), (4, .row 3 (fl c4q2)), (5, .dead), (6, .row 3 (fl ([task] : List Int))), (7, .row 3 (fl (r3528 ++ ([task] : List Int))))] 8 (by kernel_rfl) [] [2, 7] (bS r3544) [] (by simp only [push_cast, seval]) (by simp only [push_cast, seval]) (by kernel_rfl) (.inr ⟨by simp only [push_cast, seval], by simp only [push_cast, seval]⟩) (by simp only [push_cast, seval]) (by simp only [push_cast, seval]) ?_
                  refine rs 2 [] [] (by kernel_rfl) allP_nil ?_
                  refine rf [(4, bS r3544)] [(0, .row 48 (Enc.cells g)), (1, .row 48 [iS c1_Need2, .own 4 0 c4q2.length]), (2, .row 3 (fl c2q2)), (3, .row 29 (Enc.cells c3q2)), (4, .row 3 (fl c4q2)), (5, .dead), (6, .row 3 (fl ([task] : List Int))), (7, .row 3 (fl (r3528 ++ ([task] : List Int))))] 8 (by kernel_rfl) ?_
                  exact hK3541 (r3544) _ _ _ h (leSt_m [] [] (by (try simp only [g3543]) <;> simp only [push_cast, seval]) (by (try simp only [g3543]) <;> simp only [push_cast, seval]) rfl rfl rfl)
                · refine rs 5 [] [] (by kernel_rfl) allP_nil ?_
                  refine rf [(4, bS false)] [(0, .row 48 (Enc.cells g)), (1, .row 48 [iS c1_Need2, .own 4 0 c4q2.length]), (2, .row 3 (fl c2q2)), (3, .row 29 (Enc.cells c3q2)), (4, .row 3 (fl c4q2)), (5, .dead), (6, .row 3 (fl ([task] : List Int))), (7, .row 3 (fl (r3528 ++ ([task] : List Int))))] 8 (by kernel_rfl) ?_
                  exact hK3541 (false) _ _ _ h (leSt_m [] [] (by (try simp only [g3543]) <;> simp only [push_cast, seval]) (by (try simp only [g3543]) <;> simp only [push_cast, seval]) rfl rfl rfl)
              · rintro t4q6 h
                try dsimp only at h ⊢
                unfold taskmilllaw_SyncGates_j2 at h
                obtain rfl := Option.some.inj h
                refine ret_at (bS t4q6) (by kernel_rfl) ?_
                exact ret_e [] [] (by simp only [push_cast, seval]) (by simp only [push_cast, seval]) rfl rfl rfl
            · refine wk_id ?_
              refine seq_cut (A := Bool) (fun a => ([(4, bS a)], [], 0)) (fun a => (taskmilllaw_SyncGates_j3 a) = some r) (fun K3548 hK3548 => ?_) ?_
              · refine reg_f ?_
                refine rs 5 [] [] (by kernel_rfl) allP_nil ?_
                obtain ⟨r3549, hr3549, h⟩ := bind_sx h
                refine call_x (taskmilllaw_sameGate_spec (Gate.mk c1_Need2 c4q2) (Gate.mk g.Need (r3528 ++ ([task] : List Int))) r3549 hr3549) (args := [.agg [iS c1_Need2, .own 4 0 c4q2.length], .agg [iS g.Need, .own 7 0 (r3528 ++ ([task] : List Int)).length]]) (dst := (some 82)) (by kernel_rfl) [(0, .row 48 (Enc.cells g)), (1, .row 48 [iS c1_Need2, .own 4 0 c4q2.length]), (2, .row 3 (fl c2q2)), (3, .row 29 (Enc.cells c3q2)), (4, .row 3 (fl c4q2)), (5, .dead), (6, .row 3 (fl ([task] : List Int))), (7, .row 3 (fl (r3528 ++ ([task] : List Int))))] 8 (by kernel_rfl) [] [4, 7] (bS r3549) [] (by simp only [push_cast, seval]) (by simp only [push_cast, seval]) (by kernel_rfl) (.inr ⟨by simp only [push_cast, seval], by simp only [push_cast, seval]⟩) (by simp only [push_cast, seval]) (by simp only [push_cast, seval]) ?_
                refine rs 1 [] [] (by kernel_rfl) allP_nil ?_
                refine run_br h 83 (.inl (by kernel_rfl)) (fun g3550 h => ?_) (fun g3550 h => ?_)
                · refine rs 5 [] [] (by kernel_rfl) allP_nil ?_
                  refine rf [(4, bS (((c2q2.length : Nat) : Int) == 0))] [(0, .row 48 (Enc.cells g)), (1, .row 48 [iS c1_Need2, .own 4 0 c4q2.length]), (2, .row 3 (fl c2q2)), (3, .row 29 (Enc.cells c3q2)), (4, .row 3 (fl c4q2)), (5, .dead), (6, .row 3 (fl ([task] : List Int))), (7, .row 3 (fl (r3528 ++ ([task] : List Int))))] 8 (by kernel_rfl) ?_
                  exact hK3548 ((((c2q2.length : Nat) : Int) == 0)) _ _ _ h (leSt_m [] [] (by (try simp only [g3550]) <;> simp only [push_cast, seval]) (by (try simp only [g3550]) <;> simp only [push_cast, seval]) rfl rfl rfl)
                · refine rs 5 [] [] (by kernel_rfl) allP_nil ?_
                  refine rf [(4, bS false)] [(0, .row 48 (Enc.cells g)), (1, .row 48 [iS c1_Need2, .own 4 0 c4q2.length]), (2, .row 3 (fl c2q2)), (3, .row 29 (Enc.cells c3q2)), (4, .row 3 (fl c4q2)), (5, .dead), (6, .row 3 (fl ([task] : List Int))), (7, .row 3 (fl (r3528 ++ ([task] : List Int))))] 8 (by kernel_rfl) ?_
                  exact hK3548 (false) _ _ _ h (leSt_m [] [] (by (try simp only [g3550]) <;> simp only [push_cast, seval]) (by (try simp only [g3550]) <;> simp only [push_cast, seval]) rfl rfl rfl)
              · rintro t4q7 h
                try dsimp only at h ⊢
                unfold taskmilllaw_SyncGates_j3 at h
                obtain rfl := Option.some.inj h
                refine ret_at (bS t4q7) (by kernel_rfl) ?_
                exact ret_e [] [] (by simp only [push_cast, seval]) (by simp only [push_cast, seval]) rfl rfl rfl

set_option maxRecDepth 100000 in
set_option maxHeartbeats 10000000 in
theorem taskmilllaw_SyncRounds_spec (need : Int) (tasks : Int) (r : Bool) (h : taskmilllaw_SyncRounds need tasks = some r) : SpecW Try.prog 7 [iS need, iS tasks] [] 0 (fun x h n => x = bS r ∧ h = [] ∧ n = 0) := by
  unfold taskmilllaw_SyncRounds at h
  refine spec_of (draw_ok _) Try.func7 rfl (by decide) rfl (by kernel_rfl) ?_
  refine seq_np ?_
  refine reg_f ?_
  refine rs 1 [] [] (by kernel_rfl) allP_nil ?_
  refine rf [(0, iS need), (1, iS tasks)] [] 0 (by kernel_rfl) ?_
  refine wk_id ?_
  refine seq_np ?_
  refine seq_np ?_
  refine reg_f ?_
  obtain ⟨r3647, hr3647, h⟩ := bind_sx h
  refine run_call 12 [] (some 11) (by kernel_rfl) ?_
  refine call_0 (taskmilllaw_syncBegun_spec r3647 hr3647) (by simp only [push_cast, seval]) (by simp only [push_cast, seval]) ?_
  refine back_f ?_
  refine rs 1 [] [] (by kernel_rfl) allP_nil ?_
  refine rf [(0, iS need), (1, iS tasks), (12, bS (!r3647))] [] 0 (by kernel_rfl) ?_
  refine wk_id ?_
  refine cond_sx h (by kernel_rfl) (fun g4002 h => ?_) (fun g4002 h => ?_)
  · refine seq_np ?_
    refine reg_f ?_
    refine rs 1 [] [] (by kernel_rfl) allP_nil ?_
    refine rf [(4, bS false)] [] 0 (by kernel_rfl) ?_
    refine wk_id ?_
    obtain rfl := Option.some.inj h
    refine ret_at (bS false) (by kernel_rfl) ?_
    exact ret_e [] [] (by simp only [push_cast, seval]) (by simp only [push_cast, seval]) rfl rfl rfl
  · refine wk_id ?_
    refine seq_np ?_
    refine seq_cut (A := Unit) (fun _ => ([(0, iS need), (1, iS tasks), (26, bS ((decide (need < 1)) || ((decide ((20 : Int) < need)) || ((decide (tasks < 0)) || (decide ((100 : Int) < tasks))))))], [], 0)) (fun _ => True) (fun K3655 hK3655 => ?_) (fun _ _ => ?_)
    · refine reg_f ?_
      refine rs 3 [] [] (by kernel_rfl) allP_nil ?_
      refine run_split 15 (decide (need < 1)) (.inl (by kernel_rfl)) (fun g3656 => ?_) (fun g3656 => ?_)
      · refine rs 11 [] [] (by kernel_rfl) allP_nil ?_
        refine rf [(0, iS need), (1, iS tasks), (26, bS true)] [] 0 (by kernel_rfl) ?_
        exact hK3655 () _ _ _ trivial (leSt_m [] [] (by (try simp only [g3656]) <;> simp only [push_cast, seval]) (by (try simp only [g3656]) <;> simp only [push_cast, seval]) rfl rfl rfl)
      · refine rs 4 [] [] (by kernel_rfl) allP_nil ?_
        refine run_split 19 (decide ((20 : Int) < need)) (.inl (by kernel_rfl)) (fun g3657 => ?_) (fun g3657 => ?_)
        · refine rs 7 [] [] (by kernel_rfl) allP_nil ?_
          refine rf [(0, iS need), (1, iS tasks), (26, bS true)] [] 0 (by kernel_rfl) ?_
          exact hK3655 () _ _ _ trivial (leSt_m [] [] (by (try simp only [g3656, g3657]) <;> simp only [push_cast, seval]) (by (try simp only [g3656, g3657]) <;> simp only [push_cast, seval]) rfl rfl rfl)
        · refine rs 4 [] [] (by kernel_rfl) allP_nil ?_
          refine run_split 23 (decide (tasks < 0)) (.inl (by kernel_rfl)) (fun g3658 => ?_) (fun g3658 => ?_)
          · refine rn 11 [(0, iS need), (1, iS tasks), (23, bS true)] [] 0 (by kernel_rfl) ?_
            refine rs 3 [] [] (by kernel_rfl) allP_nil ?_
            refine rf [(0, iS need), (1, iS tasks), (26, bS true)] [] 0 (by kernel_rfl) ?_
            exact hK3655 () _ _ _ trivial (leSt_m [] [] (by (try simp only [g3656, g3657, g3658]) <;> simp only [push_cast, seval]) (by (try simp only [g3656, g3657, g3658]) <;> simp only [push_cast, seval]) rfl rfl rfl)
          · refine rn 11 [(0, iS need), (1, iS tasks), (23, bS false)] [] 0 (by kernel_rfl) ?_
            refine rs 3 [] [] (by kernel_rfl) allP_nil ?_
            refine rf [(0, iS need), (1, iS tasks), (26, bS (decide ((100 : Int) < tasks)))] [] 0 (by kernel_rfl) ?_
            exact hK3655 () _ _ _ trivial (leSt_m [] [] (by (try simp only [g3656, g3657, g3658]) <;> simp only [push_cast, seval]) (by (try simp only [g3656, g3657, g3658]) <;> simp only [push_cast, seval]) rfl rfl rfl)
    · dsimp only
      refine cond_sx h (by kernel_rfl) (fun g4001 h => ?_) (fun g4001 h => ?_)
      · refine seq_np ?_
        refine reg_f ?_
        refine rs 1 [] [] (by kernel_rfl) allP_nil ?_
        refine rf [(4, bS true)] [] 0 (by kernel_rfl) ?_
        refine wk_id ?_
        obtain rfl := Option.some.inj h
        refine ret_at (bS true) (by kernel_rfl) ?_
        exact ret_e [] [] (by simp only [push_cast, seval]) (by simp only [push_cast, seval]) rfl rfl rfl
      · refine wk_id ?_
        refine seq_np ?_
        refine reg_f ?_
        refine rs 4 [] [] (by kernel_rfl) allP_nil ?_
        refine rf [(0, iS need), (1, iS tasks), (5, .ptr 0 0)] [(0, .row 48 [iS need, .v (.slice none 0 0)])] 1 (by kernel_rfl) ?_
        refine wk_id ?_
        refine seq_np ?_
        refine seq_np ?_
        refine reg_f ?_
        refine rs 1 [] [] (by kernel_rfl) allP_nil ?_
        refine rf [(0, iS need), (1, iS tasks), (5, .ptr 0 0), (6, iS 1)] [(0, .row 48 [iS need, .v (.slice none 0 0)])] 1 (by kernel_rfl) ?_
        refine wk_id ?_
        refine block_np ?_
        refine loop_sx (S := Int × Int × (List Int)) (fun a => ([(0, iS need), (1, iS tasks), (5, .ptr 0 0), (6, iS a.1)], [(0, .row 48 [iS a.2.1, .own 1 0 a.2.2.length]), (1, .row 3 (fl a.2.2))], 2)) h (leSt_m [(0, 0)] [] (by simp only [push_cast, seval]) (by simp only [push_cast, seval]) rfl rfl rfl) ?_
        rintro ⟨t7, c0_Need7, c1q7⟩ o3 R3 h hr3 hn3 hx3 ht3
        try dsimp only at h hn3 ⊢
        unfold taskmilllaw_SyncRounds_l2 at h
        try dsimp only at h
        refine seq_np ?_
        refine seq_np ?_
        refine reg_f ?_
        refine rs 3 [] [] (by kernel_rfl) allP_nil ?_
        refine rf [(0, iS need), (1, iS tasks), (5, .ptr 0 0), (6, iS t7), (31, bS (decide (t7 ≤ tasks)))] [(0, .row 48 [iS c0_Need7, .own 1 0 c1q7.length]), (1, .row 3 (fl c1q7))] 2 (by kernel_rfl) ?_
        refine wk_id ?_
        refine cond_sx h (by kernel_rfl) (fun g4000 h => ?_) (fun g4000 h => ?_)
        · refine wk_id ?_
          refine seq_np ?_
          refine block_np ?_
          refine seq_np ?_
          refine reg_f ?_
          refine rs 2 [] [] (by kernel_rfl) allP_nil ?_
          obtain ⟨r3932, hr3932, h⟩ := bind_sx h
          refine call_x (sync_Arrive_spec (Gate.mk c0_Need7 c1q7) t7 r3932 hr3932) (args := [.agg [iS c0_Need7, .own 1 0 c1q7.length], iS t7]) (dst := (some 37)) (by kernel_rfl) [(0, .row 48 [iS c0_Need7, .own 1 0 c1q7.length]), (1, .row 3 (fl c1q7))] 2 (by kernel_rfl) [] [1] (.tup [.agg [iS r3932.1, .own 2 0 r3932.2.2.1.length], .own 3 0 r3932.2.2.2.length, .agg (Enc.cells r3932.2.1)]) [(2, .row 3 (fl r3932.2.2.1)), (3, .row 3 (fl r3932.2.2.2))] (by simp only [push_cast, seval]) (by simp only [push_cast, seval]) (by kernel_rfl) (.inr ⟨by simp only [push_cast, seval], by simp only [push_cast, seval]⟩) (by simp only [push_cast, seval]) (by simp only [push_cast, seval]) ?_
          refine rs 9 [] [] (by kernel_rfl) allP_nil ?_
          refine rf [(0, iS need), (1, iS tasks), (5, .ptr 0 0), (6, iS t7), (7, .ptr 4 0), (8, .own 3 0 r3932.2.2.2.length), (9, .ptr 5 0)] [(0, .row 48 [iS c0_Need7, .own 1 0 c1q7.length]), (1, .row 3 (fl c1q7)), (2, .row 3 (fl r3932.2.2.1)), (3, .row 3 (fl r3932.2.2.2)), (4, .row 48 [iS r3932.1, .own 2 0 r3932.2.2.1.length]), (5, .row 29 (Enc.cells r3932.2.1))] 6 (by kernel_rfl) ?_
          refine wk_id ?_
          refine seq_np ?_
          refine seq_np ?_
          refine reg_f ?_
          refine rs 3 [] [] (by kernel_rfl) allP_nil ?_
          refine rf [(0, iS need), (1, iS tasks), (5, .ptr 0 0), (6, iS t7), (7, .ptr 4 0), (8, .own 3 0 r3932.2.2.2.length), (43, bS (r3932.2.1.Code != 0))] [(0, .row 48 [iS c0_Need7, .own 1 0 c1q7.length]), (1, .row 3 (fl c1q7)), (2, .row 3 (fl r3932.2.2.1)), (3, .row 3 (fl r3932.2.2.2)), (4, .row 48 [iS r3932.1, .own 2 0 r3932.2.2.1.length]), (5, .row 29 (Enc.cells r3932.2.1))] 6 (by kernel_rfl) ?_
          refine wk_id ?_
          refine cond_sx h (by kernel_rfl) (fun g3999 h => ?_) (fun g3999 h => ?_)
          · refine seq_np ?_
            refine reg_f ?_
            refine rs 1 [] [] (by kernel_rfl) allP_nil ?_
            refine rf [(4, bS false)] [(0, .row 48 [iS c0_Need7, .own 1 0 c1q7.length]), (1, .row 3 (fl c1q7)), (2, .row 3 (fl r3932.2.2.1)), (3, .row 3 (fl r3932.2.2.2)), (4, .row 48 [iS r3932.1, .own 2 0 r3932.2.2.1.length]), (5, .row 29 (Enc.cells r3932.2.1))] 6 (by kernel_rfl) ?_
            refine wk_id ?_
            refine rt_cast ht3 ?_
            obtain ⟨r0, h, e0⟩ := map_sx h
            have e1 := hr3 r0 e0.symm
            subst r0
            obtain rfl := Option.some.inj h
            refine ret_at (bS false) (by kernel_rfl) ?_
            exact ret_e [] [] (by simp only [push_cast, seval]) (by simp only [push_cast, seval]) rfl rfl rfl
          · refine wk_id ?_
            refine seq_cut (A := Int × (List Int)) (fun a => ([(0, iS need), (1, iS tasks), (5, .ptr 0 0), (6, iS t7), (7, .ptr 1 0)], [(0, .row 48 [iS c0_Need7, .own 2 0 c1q7.length]), (1, .row 48 [iS a.1, .own 3 0 a.2.length]), (2, .row 3 (fl c1q7)), (3, .row 3 (fl a.2))], 4)) (fun a => (taskmilllaw_SyncRounds_j1 need tasks t7 c0_Need7 c1q7 a.1 a.2) = some o3) (fun K3957 hK3957 => ?_) ?_
            · refine chk_sx h (fun g3961 h => ?_)
              refine seq_np ?_
              refine reg_f ?_
              have k3960 : need ≠ 0 := by first | simpa only [Bool.and_eq_true, decide_eq_true_eq, bne_iff_ne, ne_eq] using g3961 | (simp at g3961 ⊢; omega)
              refine rs 4 [none, none, some ⟨iS (Int.tmod t7 need), [], 6, []⟩] _ (by kernel_rfl) (allP_cons (ob_p (v := iS (Int.tmod t7 need)) (nx := 6) (r := []) k3960) allP_nil) ?_
              refine rf [(0, iS need), (1, iS tasks), (5, .ptr 0 0), (6, iS t7), (7, .ptr 4 0), (8, .own 3 0 r3932.2.2.2.length), (47, bS ((Int.tmod t7 need) != 0))] [(0, .row 48 [iS c0_Need7, .own 1 0 c1q7.length]), (1, .row 3 (fl c1q7)), (2, .row 3 (fl r3932.2.2.1)), (3, .row 3 (fl r3932.2.2.2)), (4, .row 48 [iS r3932.1, .own 2 0 r3932.2.2.1.length]), (5, .row 29 (Enc.cells r3932.2.1))] 6 (by kernel_rfl) ?_
              refine wk_id ?_
              refine cond_sx h (by kernel_rfl) (fun g3998 h => ?_) (fun g3998 h => ?_)
              · refine chk_sx h (fun g3968 h => ?_)
                refine seq_cut (A := Unit) (fun _ => ([(0, iS need), (1, iS tasks), (5, .ptr 0 0), (6, iS t7), (7, .ptr 4 0), (59, bS ((decide ((0 : Int) < ((r3932.2.2.2.length : Nat) : Int))) || (((r3932.2.2.1.length : Nat) : Int) != (Int.tmod t7 need))))], [(0, .row 48 [iS c0_Need7, .own 1 0 c1q7.length]), (1, .row 3 (fl c1q7)), (2, .row 3 (fl r3932.2.2.1)), (3, .row 3 (fl r3932.2.2.2)), (4, .row 48 [iS r3932.1, .own 2 0 r3932.2.2.1.length]), (5, .row 29 (Enc.cells r3932.2.1))], 18)) (fun _ => True) (fun K3965 hK3965 => ?_) (fun _ _ => ?_)
                · refine reg_t ?_
                  refine rs 4 [] [] (by kernel_rfl) allP_nil ?_
                  refine run_split 51 (decide ((0 : Int) < ((r3932.2.2.2.length : Nat) : Int))) (.inl (by kernel_rfl)) (fun g3966 => ?_) (fun g3966 => ?_)
                  · refine rs 8 [] [] (by kernel_rfl) allP_nil ?_
                    refine rt [(0, iS need), (1, iS tasks), (5, .ptr 0 0), (6, iS t7), (7, .ptr 4 0), (59, bS true)] [(0, .row 48 [iS c0_Need7, .own 1 0 c1q7.length]), (1, .row 3 (fl c1q7)), (2, .row 3 (fl r3932.2.2.1)), (3, .row 3 (fl r3932.2.2.2)), (4, .row 48 [iS r3932.1, .own 2 0 r3932.2.2.1.length]), (5, .row 29 (Enc.cells r3932.2.1))] 18 follows (by kernel_rfl) ?_
                    exact hK3965 () _ _ _ trivial (leSt_m [(0, 0), (1, 1), (2, 2), (3, 3), (4, 4), (5, 5)] [] (by (try simp only [g3966]) <;> simp only [push_cast, seval]) (by (try simp only [g3966]) <;> simp only [push_cast, seval]) rfl rfl rfl)
                  · have k3967 : need ≠ 0 := by have e := or_use g3968 (by (try simp only [g3966]) <;> rfl); first | simpa only [Bool.and_eq_true, decide_eq_true_eq, bne_iff_ne, ne_eq] using e | (simp at e ⊢; omega)
                    refine rs 8 [none, none, none, none, none, some ⟨iS (Int.tmod t7 need), [], 15, []⟩] _ (by kernel_rfl) (allP_cons (ob_p (v := iS (Int.tmod t7 need)) (nx := 15) (r := []) k3967) allP_nil) ?_
                    refine rt [(0, iS need), (1, iS tasks), (5, .ptr 0 0), (6, iS t7), (7, .ptr 4 0), (59, bS (((r3932.2.2.1.length : Nat) : Int) != (Int.tmod t7 need)))] [(0, .row 48 [iS c0_Need7, .own 1 0 c1q7.length]), (1, .row 3 (fl c1q7)), (2, .row 3 (fl r3932.2.2.1)), (3, .row 3 (fl r3932.2.2.2)), (4, .row 48 [iS r3932.1, .own 2 0 r3932.2.2.1.length]), (5, .row 29 (Enc.cells r3932.2.1))] 18 follows (by kernel_rfl) ?_
                    exact hK3965 () _ _ _ trivial (leSt_m [(0, 0), (1, 1), (2, 2), (3, 3), (4, 4), (5, 5)] [] (by (try simp only [g3966]) <;> simp only [push_cast, seval]) (by (try simp only [g3966]) <;> simp only [push_cast, seval]) rfl rfl rfl)
                · dsimp only
                  refine cond_sx h (by kernel_rfl) (fun g3969 h => ?_) (fun g3969 h => ?_)
                  · refine seq_np ?_
                    refine reg_f ?_
                    refine rs 1 [] [] (by kernel_rfl) allP_nil ?_
                    refine rf [(4, bS false)] [(0, .row 48 [iS c0_Need7, .own 1 0 c1q7.length]), (1, .row 3 (fl c1q7)), (2, .row 3 (fl r3932.2.2.1)), (3, .row 3 (fl r3932.2.2.2)), (4, .row 48 [iS r3932.1, .own 2 0 r3932.2.2.1.length]), (5, .row 29 (Enc.cells r3932.2.1))] 18 (by kernel_rfl) ?_
                    refine wk_id ?_
                    refine rt_cast ht3 ?_
                    obtain ⟨r0, h, e0⟩ := map_sx h
                    have e1 := hr3 r0 e0.symm
                    subst r0
                    obtain rfl := Option.some.inj h
                    refine ret_at (bS false) (by kernel_rfl) ?_
                    exact ret_e [] [] (by simp only [push_cast, seval]) (by simp only [push_cast, seval]) rfl rfl rfl
                  · exact hK3957 (r3932.1, r3932.2.2.1) _ _ _ h (leSt_m [(0, 0), (1, 4), (2, 1), (3, 2)] [] (by simp only [push_cast, seval]) (by simp only [push_cast, seval]) rfl rfl rfl)
              · refine seq_np ?_
                refine seq_cut (A := Unit) (fun _ => ([(0, iS need), (1, iS tasks), (5, .ptr 0 0), (6, iS t7), (7, .ptr 4 0), (8, .own 3 0 r3932.2.2.2.length), (69, bS ((((r3932.2.2.2.length : Nat) : Int) != need) || (decide ((0 : Int) < ((r3932.2.2.1.length : Nat) : Int)))))], [(0, .row 48 [iS c0_Need7, .own 1 0 c1q7.length]), (1, .row 3 (fl c1q7)), (2, .row 3 (fl r3932.2.2.1)), (3, .row 3 (fl r3932.2.2.2)), (4, .row 48 [iS r3932.1, .own 2 0 r3932.2.2.1.length]), (5, .row 29 (Enc.cells r3932.2.1))], 6)) (fun _ => True) (fun K3973 hK3973 => ?_) (fun _ _ => ?_)
                · refine reg_f ?_
                  refine rs 5 [] [] (by kernel_rfl) allP_nil ?_
                  refine run_split 64 (((r3932.2.2.2.length : Nat) : Int) != need) (.inl (by kernel_rfl)) (fun g3974 => ?_) (fun g3974 => ?_)
                  · refine rs 5 [] [] (by kernel_rfl) allP_nil ?_
                    refine rf [(0, iS need), (1, iS tasks), (5, .ptr 0 0), (6, iS t7), (7, .ptr 4 0), (8, .own 3 0 r3932.2.2.2.length), (69, bS true)] [(0, .row 48 [iS c0_Need7, .own 1 0 c1q7.length]), (1, .row 3 (fl c1q7)), (2, .row 3 (fl r3932.2.2.1)), (3, .row 3 (fl r3932.2.2.2)), (4, .row 48 [iS r3932.1, .own 2 0 r3932.2.2.1.length]), (5, .row 29 (Enc.cells r3932.2.1))] 6 (by kernel_rfl) ?_
                    exact hK3973 () _ _ _ trivial (leSt_m [(0, 0), (1, 1), (2, 2), (3, 3), (4, 4), (5, 5)] [] (by (try simp only [g3974]) <;> simp only [push_cast, seval]) (by (try simp only [g3974]) <;> simp only [push_cast, seval]) rfl rfl rfl)
                  · refine rs 5 [] [] (by kernel_rfl) allP_nil ?_
                    refine rf [(0, iS need), (1, iS tasks), (5, .ptr 0 0), (6, iS t7), (7, .ptr 4 0), (8, .own 3 0 r3932.2.2.2.length), (69, bS (decide ((0 : Int) < ((r3932.2.2.1.length : Nat) : Int))))] [(0, .row 48 [iS c0_Need7, .own 1 0 c1q7.length]), (1, .row 3 (fl c1q7)), (2, .row 3 (fl r3932.2.2.1)), (3, .row 3 (fl r3932.2.2.2)), (4, .row 48 [iS r3932.1, .own 2 0 r3932.2.2.1.length]), (5, .row 29 (Enc.cells r3932.2.1))] 6 (by kernel_rfl) ?_
                    exact hK3973 () _ _ _ trivial (leSt_m [(0, 0), (1, 1), (2, 2), (3, 3), (4, 4), (5, 5)] [] (by (try simp only [g3974]) <;> simp only [push_cast, seval]) (by (try simp only [g3974]) <;> simp only [push_cast, seval]) rfl rfl rfl)
                · dsimp only
                  refine cond_sx h (by kernel_rfl) (fun g3997 h => ?_) (fun g3997 h => ?_)
                  · refine seq_np ?_
                    refine reg_f ?_
                    refine rs 1 [] [] (by kernel_rfl) allP_nil ?_
                    refine rf [(4, bS false)] [(0, .row 48 [iS c0_Need7, .own 1 0 c1q7.length]), (1, .row 3 (fl c1q7)), (2, .row 3 (fl r3932.2.2.1)), (3, .row 3 (fl r3932.2.2.2)), (4, .row 48 [iS r3932.1, .own 2 0 r3932.2.2.1.length]), (5, .row 29 (Enc.cells r3932.2.1))] 6 (by kernel_rfl) ?_
                    refine wk_id ?_
                    refine rt_cast ht3 ?_
                    obtain ⟨r0, h, e0⟩ := map_sx h
                    have e1 := hr3 r0 e0.symm
                    subst r0
                    obtain rfl := Option.some.inj h
                    refine ret_at (bS false) (by kernel_rfl) ?_
                    exact ret_e [] [] (by simp only [push_cast, seval]) (by simp only [push_cast, seval]) rfl rfl rfl
                  · refine wk_id ?_
                    refine seq_np ?_
                    refine reg_f ?_
                    refine rs 1 [] [] (by kernel_rfl) allP_nil ?_
                    refine rf [(0, iS need), (1, iS tasks), (5, .ptr 0 0), (6, iS t7), (7, .ptr 4 0), (8, .own 3 0 r3932.2.2.2.length), (10, iS 0)] [(0, .row 48 [iS c0_Need7, .own 1 0 c1q7.length]), (1, .row 3 (fl c1q7)), (2, .row 3 (fl r3932.2.2.1)), (3, .row 3 (fl r3932.2.2.2)), (4, .row 48 [iS r3932.1, .own 2 0 r3932.2.2.1.length]), (5, .row 29 (Enc.cells r3932.2.1))] 6 (by kernel_rfl) ?_
                    refine wk_id ?_
                    refine block_np ?_
                    refine loop_sx (S := Int × Int × (List Int) × (List Int)) (fun a => ([(0, iS need), (1, iS tasks), (5, .ptr 0 0), (6, iS t7), (7, .ptr 1 0), (8, .own 2 0 a.2.2.1.length), (10, iS a.1)], [(0, .row 48 [iS c0_Need7, .own 3 0 c1q7.length]), (1, .row 48 [iS a.2.1, .own 4 0 a.2.2.2.length]), (2, .row 3 (fl a.2.2.1)), (3, .row 3 (fl c1q7)), (4, .row 3 (fl a.2.2.2))], 5)) h (leSt_m [(0, 0), (1, 4), (2, 3), (3, 1), (4, 2)] [] (by simp only [push_cast, seval]) (by simp only [push_cast, seval]) rfl rfl rfl) ?_
                    rintro ⟨i29, c1_Need58, c2q48, c4q32⟩ o4 R4 h hr4 hn4 hx4 ht4
                    try dsimp only at h hn4 ⊢
                    unfold taskmilllaw_SyncRounds_l1 at h
                    try dsimp only at h
                    refine seq_np ?_
                    refine seq_np ?_
                    refine reg_f ?_
                    refine rs 3 [] [] (by kernel_rfl) allP_nil ?_
                    refine rf [(0, iS need), (1, iS tasks), (5, .ptr 0 0), (6, iS t7), (7, .ptr 1 0), (8, .own 2 0 c2q48.length), (10, iS i29), (72, bS (decide (i29 < need)))] [(0, .row 48 [iS c0_Need7, .own 3 0 c1q7.length]), (1, .row 48 [iS c1_Need58, .own 4 0 c4q32.length]), (2, .row 3 (fl c2q48)), (3, .row 3 (fl c1q7)), (4, .row 3 (fl c4q32))] 5 (by kernel_rfl) ?_
                    refine wk_id ?_
                    refine cond_sx h (by kernel_rfl) (fun g3996 h => ?_) (fun g3996 h => ?_)
                    · refine wk_id ?_
                      refine seq_np ?_
                      refine block_np ?_
                      refine chk_sx h (fun g3994 h => ?_)
                      refine seq_np ?_
                      refine reg_f ?_
                      have k3993 : 0 ≤ i29 ∧ i29 < ((c2q48.length : Nat) : Int) := by first | simpa only [Bool.and_eq_true, decide_eq_true_eq, bne_iff_ne, ne_eq] using g3994 | (simp at g3994 ⊢; omega)
                      refine rs 11 [none, none, some ⟨.ptr 2 (0 + (i29).toNat * 1), [], 5, [2]⟩, some ⟨iS (ix c2q48 i29), [], 5, [2]⟩] _ (by kernel_rfl) (allP_cons (ob_ld c2q48 i29 1 0 (0 + (i29).toNat * 1) k3993 rfl (by decide) (by first | rfl | omega) (dflS Try.prog 3) (iS (ix c2q48 i29)) rfl 5 [2]) (allP_cons (ob_ix_o 2 c2q48.length 0 1 5 i29 k3993) allP_nil)) ?_
                      refine rf [(0, iS need), (1, iS tasks), (5, .ptr 0 0), (6, iS t7), (7, .ptr 1 0), (8, .own 2 0 c2q48.length), (10, iS i29), (85, bS ((ix c2q48 i29) != (IntKind.i64.wrap ((IntKind.i64.wrap ((IntKind.i64.wrap (t7 - need)) + 1)) + i29))))] [(0, .row 48 [iS c0_Need7, .own 3 0 c1q7.length]), (1, .row 48 [iS c1_Need58, .own 4 0 c4q32.length]), (2, .row 3 (fl c2q48)), (3, .row 3 (fl c1q7)), (4, .row 3 (fl c4q32))] 5 (by kernel_rfl) ?_
                      refine wk_id ?_
                      refine cond_sx h (by kernel_rfl) (fun g3995 h => ?_) (fun g3995 h => ?_)
                      · refine seq_np ?_
                        refine reg_f ?_
                        refine rs 1 [] [] (by kernel_rfl) allP_nil ?_
                        refine rf [(4, bS false)] [(0, .row 48 [iS c0_Need7, .own 3 0 c1q7.length]), (1, .row 48 [iS c1_Need58, .own 4 0 c4q32.length]), (2, .row 3 (fl c2q48)), (3, .row 3 (fl c1q7)), (4, .row 3 (fl c4q32))] 5 (by kernel_rfl) ?_
                        refine wk_id ?_
                        refine rt_cast ht4 ?_
                        obtain ⟨r0, h, e0⟩ := map_sx h
                        have e1 := hr4 r0 e0.symm
                        subst r0
                        refine rt_cast ht3 ?_
                        obtain ⟨r0, h, e0⟩ := map_sx h
                        have e1 := hr3 r0 e0.symm
                        subst r0
                        obtain rfl := Option.some.inj h
                        refine ret_at (bS false) (by kernel_rfl) ?_
                        exact ret_e [] [] (by simp only [push_cast, seval]) (by simp only [push_cast, seval]) rfl rfl rfl
                      · refine wk_id ?_
                        refine wk_id ?_
                        refine reg_f ?_
                        refine rs 3 [] [] (by kernel_rfl) allP_nil ?_
                        refine rf [(0, iS need), (1, iS tasks), (5, .ptr 0 0), (6, iS t7), (7, .ptr 1 0), (8, .own 2 0 c2q48.length), (10, iS (IntKind.i64.wrap (i29 + 1)))] [(0, .row 48 [iS c0_Need7, .own 3 0 c1q7.length]), (1, .row 48 [iS c1_Need58, .own 4 0 c4q32.length]), (2, .row 3 (fl c2q48)), (3, .row 3 (fl c1q7)), (4, .row 3 (fl c4q32))] 5 (by kernel_rfl) ?_
                        exact hn4 ((IntKind.i64.wrap (i29 + 1)), c1_Need58, c2q48, c4q32) _ _ _ (Option.some.inj h).symm (leSt_m [(0, 0), (1, 1), (2, 2), (3, 3), (4, 4)] [] (by simp only [push_cast, seval]) (by simp only [push_cast, seval]) rfl rfl rfl)
                    · refine ex_cast hx4 (id := 2) ?_
                      obtain ⟨r0, h, e0⟩ := map_sx h
                      have e1 := hr4 r0 e0.symm
                      subst r0
                      refine wk_id ?_
                      exact hK3957 (c1_Need58, c4q32) _ _ _ h (leSt_m [(0, 0), (1, 1), (2, 3), (3, 4)] [] (by simp only [push_cast, seval]) (by simp only [push_cast, seval]) rfl rfl rfl)
            · rintro ⟨c1_Need55, c3q21⟩ h
              try dsimp only at h ⊢
              unfold taskmilllaw_SyncRounds_j1 at h
              refine reg_f ?_
              refine rs 2 [] [] (by kernel_rfl) allP_nil ?_
              refine rf [(0, iS need), (1, iS tasks), (5, .ptr 0 0), (6, iS t7)] [(0, .row 48 [iS c1_Need55, .own 3 0 c3q21.length]), (1, .row 48 [iS c1_Need55, .own 3 0 c3q21.length]), (2, .row 3 (fl c1q7)), (3, .row 3 (fl c3q21))] 4 (by kernel_rfl) ?_
              refine wk_id ?_
              refine wk_id ?_
              refine reg_f ?_
              refine rs 3 [] [] (by kernel_rfl) allP_nil ?_
              refine rf [(0, iS need), (1, iS tasks), (5, .ptr 0 0), (6, iS (IntKind.i64.wrap (t7 + 1)))] [(0, .row 48 [iS c1_Need55, .own 3 0 c3q21.length]), (1, .row 48 [iS c1_Need55, .own 3 0 c3q21.length]), (2, .row 3 (fl c1q7)), (3, .row 3 (fl c3q21))] 4 (by kernel_rfl) ?_
              exact hn3 ((IntKind.i64.wrap (t7 + 1)), c1_Need55, c3q21) _ _ _ (Option.some.inj h).symm (leSt_m [(0, 0), (1, 3)] [] (by simp only [push_cast, seval]) (by simp only [push_cast, seval]) rfl rfl rfl)
        · refine ex_cast hx3 (id := 0) ?_
          obtain ⟨r0, h, e0⟩ := map_sx h
          have e1 := hr3 r0 e0.symm
          subst r0
          refine wk_id ?_
          refine wk_id ?_
          refine seq_np ?_
          refine reg_f ?_
          refine rs 1 [] [] (by kernel_rfl) allP_nil ?_
          refine rf [(4, bS true)] [(0, .row 48 [iS c0_Need7, .own 1 0 c1q7.length]), (1, .row 3 (fl c1q7))] 2 (by kernel_rfl) ?_
          refine wk_id ?_
          obtain rfl := Option.some.inj h
          refine ret_at (bS true) (by kernel_rfl) ?_
          exact ret_e [] [] (by simp only [push_cast, seval]) (by simp only [push_cast, seval]) rfl rfl rfl

set_option maxRecDepth 100000 in
set_option maxHeartbeats 10000000 in
theorem sync_once_spec (xo : Once) (r : Fault) (h : sync_once xo = some r) : SpecW Try.prog 49 [.agg (Enc.cells xo)] [] 0 (fun x h n => x = .agg (Enc.cells r) ∧ h = [] ∧ n = 0) := by
  unfold sync_once at h
  refine spec_of (draw_ok _) Try.func49 rfl (by decide) rfl (by kernel_rfl) ?_
  refine seq_np ?_
  refine reg_f ?_
  refine rs 2 [] [] (by kernel_rfl) allP_nil ?_
  refine rf [(1, .ptr 0 0), (2, .ptr 1 0)] [(0, .row 58 (Enc.cells xo)), (1, .row 29 [iS 0, iS 0])] 2 (by kernel_rfl) ?_
  refine wk_id ?_
  refine seq_np ?_
  refine seq_np ?_
  refine reg_f ?_
  refine rs 2 [] [] (by kernel_rfl) allP_nil ?_
  obtain ⟨r4029, hr4029, h⟩ := bind_sx h
  refine run_call 45 [.sl xo.Line.length (fl xo.Line)] (some 6) (by kernel_rfl) ?_
  refine call_0 (sync_line_spec xo.Line r4029 hr4029) (by simp only [push_cast, seval]) (by simp only [push_cast, seval]) ?_
  refine back_f ?_
  refine rs 2 [] [] (by kernel_rfl) allP_nil ?_
  refine rf [(1, .ptr 0 0), (2, .ptr 1 0), (3, .ptr 2 0)] [(0, .row 58 (Enc.cells xo)), (1, .row 29 [iS 0, iS 0]), (2, .row 29 (Enc.cells r4029))] 3 (by kernel_rfl) ?_
  refine wk_id ?_
  refine seq_np ?_
  refine reg_f ?_
  refine rs 3 [] [] (by kernel_rfl) allP_nil ?_
  refine rf [(1, .ptr 0 0), (2, .ptr 1 0), (3, .ptr 2 0), (9, bS (r4029.Code != 0))] [(0, .row 58 (Enc.cells xo)), (1, .row 29 [iS 0, iS 0]), (2, .row 29 (Enc.cells r4029))] 3 (by kernel_rfl) ?_
  refine wk_id ?_
  refine cond_sx h (by kernel_rfl) (fun g4074 h => ?_) (fun g4074 h => ?_)
  · refine seq_np ?_
    refine reg_f ?_
    refine rs 2 [] [] (by kernel_rfl) allP_nil ?_
    refine rf [(2, .ptr 1 0)] [(0, .row 58 (Enc.cells xo)), (1, .row 29 (Enc.cells r4029)), (2, .row 29 (Enc.cells r4029))] 3 (by kernel_rfl) ?_
    refine wk_id ?_
    obtain rfl := Option.some.inj h
    refine ret_at (.agg (Enc.cells r4029)) (by kernel_rfl) ?_
    exact ret_e [] [] (by simp only [push_cast, seval]) (by simp only [push_cast, seval]) rfl rfl rfl
  · refine wk_id ?_
    refine seq_np ?_
    refine seq_np ?_
    refine reg_f ?_
    refine rs 3 [] [] (by kernel_rfl) allP_nil ?_
    refine rf [(1, .ptr 0 0), (2, .ptr 1 0), (13, bS (decide (xo.By < 0)))] [(0, .row 58 (Enc.cells xo)), (1, .row 29 [iS 0, iS 0]), (2, .row 29 (Enc.cells r4029))] 3 (by kernel_rfl) ?_
    refine wk_id ?_
    refine cond_sx h (by kernel_rfl) (fun g4073 h => ?_) (fun g4073 h => ?_)
    · refine seq_np ?_
      refine reg_f ?_
      obtain ⟨r4033, hr4033, h⟩ := bind_sx h
      refine run_call 38 [iS 3, iS 0] (some 14) (by kernel_rfl) ?_
      refine call_0 (sync_fault_spec 3 0 r4033 hr4033) (by simp only [push_cast, seval]) (by simp only [push_cast, seval]) ?_
      refine back_f ?_
      refine rs 1 [] [] (by kernel_rfl) allP_nil ?_
      refine rf [(2, .ptr 1 0)] [(0, .row 58 (Enc.cells xo)), (1, .row 29 (Enc.cells r4033)), (2, .row 29 (Enc.cells r4029))] 3 (by kernel_rfl) ?_
      refine wk_id ?_
      obtain rfl := Option.some.inj h
      refine ret_at (.agg (Enc.cells r4033)) (by kernel_rfl) ?_
      exact ret_e [] [] (by simp only [push_cast, seval]) (by simp only [push_cast, seval]) rfl rfl rfl
    · refine wk_id ?_
      refine seq_np ?_
      refine seq_cut (A := Bool) (fun a => ([(2, .ptr 0 0), (39, bS a)], [(0, .row 29 [iS 0, iS 0])], 1)) (fun a => (sync_once_j1 a) = some r) (fun K4059 hK4059 => ?_) ?_
      · refine reg_f ?_
        refine rs 3 [] [] (by kernel_rfl) allP_nil ?_
        refine run_br h 17 (.inl (by kernel_rfl)) (fun g4060 h => ?_) (fun g4060 h => ?_)
        · refine rs 5 [] [] (by kernel_rfl) allP_nil ?_
          refine run_br h 22 (.inl (by kernel_rfl)) (fun g4061 h => ?_) (fun g4061 h => ?_)
          · refine rs 17 [] [] (by kernel_rfl) allP_nil ?_
            refine rf [(2, .ptr 1 0), (39, bS true)] [(0, .row 58 (Enc.cells xo)), (1, .row 29 [iS 0, iS 0]), (2, .row 29 (Enc.cells r4029))] 3 (by kernel_rfl) ?_
            exact hK4059 (true) _ _ _ h (leSt_m [(0, 1)] [] (by (try simp only [g4060, g4061]) <;> simp only [push_cast, seval]) (by (try simp only [g4060, g4061]) <;> simp only [push_cast, seval]) rfl rfl rfl)
          · refine rs 4 [] [] (by kernel_rfl) allP_nil ?_
            refine run_br h 26 (.inr (by kernel_rfl)) (fun g4062 h => ?_) (fun g4062 h => ?_)
            · refine rn 12 [(1, .ptr 0 0), (2, .ptr 1 0), (22, bS false), (26, .gd true (bS true))] [(0, .row 58 (Enc.cells xo)), (1, .row 29 [iS 0, iS 0]), (2, .row 29 (Enc.cells r4029))] 3 (by kernel_rfl) ?_
              refine rs 7 [] [] (by kernel_rfl) allP_nil ?_
              refine run_br h 33 (.inl (by kernel_rfl)) (fun g4063 h => ?_) (fun g4063 h => ?_)
              · refine rs 6 [] [] (by kernel_rfl) allP_nil ?_
                refine rf [(2, .ptr 1 0), (39, bS true)] [(0, .row 58 (Enc.cells xo)), (1, .row 29 [iS 0, iS 0]), (2, .row 29 (Enc.cells r4029))] 3 (by kernel_rfl) ?_
                exact hK4059 (true) _ _ _ h (leSt_m [(0, 1)] [] (by (try simp only [g4060, g4061, g4062, g4063]) <;> simp only [push_cast, seval]) (by (try simp only [g4060, g4061, g4062, g4063]) <;> simp only [push_cast, seval]) rfl rfl rfl)
              · refine rs 4 [] [] (by kernel_rfl) allP_nil ?_
                obtain ⟨r4064, hr4064, h⟩ := bind_sx h
                refine run_call 42 [.sl xo.Line.length (fl xo.Line), iS xo.By] (some 38) (by kernel_rfl) ?_
                refine call_0 (slices_Contains_int_spec xo.Line xo.By r4064 hr4064) (by simp only [push_cast, seval]) (by simp only [push_cast, seval]) ?_
                refine back_f ?_
                refine rs 1 [] [] (by kernel_rfl) allP_nil ?_
                refine rf [(2, .ptr 1 0), (39, bS r4064)] [(0, .row 58 (Enc.cells xo)), (1, .row 29 [iS 0, iS 0]), (2, .row 29 (Enc.cells r4029))] 3 (by kernel_rfl) ?_
                exact hK4059 (r4064) _ _ _ h (leSt_m [(0, 1)] [] (by (try simp only [g4060, g4061, g4062, g4063]) <;> simp only [push_cast, seval]) (by (try simp only [g4060, g4061, g4062, g4063]) <;> simp only [push_cast, seval]) rfl rfl rfl)
            · refine rn 12 [(1, .ptr 0 0), (2, .ptr 1 0), (22, bS false), (26, .gd true (bS false))] [(0, .row 58 (Enc.cells xo)), (1, .row 29 [iS 0, iS 0]), (2, .row 29 (Enc.cells r4029))] 3 (by kernel_rfl) ?_
              refine rs 11 [] [] (by kernel_rfl) allP_nil ?_
              obtain ⟨r4065, hr4065, h⟩ := bind_sx h
              refine run_call 42 [.sl xo.Line.length (fl xo.Line), iS xo.By] (some 38) (by kernel_rfl) ?_
              refine call_0 (slices_Contains_int_spec xo.Line xo.By r4065 hr4065) (by simp only [push_cast, seval]) (by simp only [push_cast, seval]) ?_
              refine back_f ?_
              refine rs 1 [] [] (by kernel_rfl) allP_nil ?_
              refine rf [(2, .ptr 1 0), (39, bS r4065)] [(0, .row 58 (Enc.cells xo)), (1, .row 29 [iS 0, iS 0]), (2, .row 29 (Enc.cells r4029))] 3 (by kernel_rfl) ?_
              exact hK4059 (r4065) _ _ _ h (leSt_m [(0, 1)] [] (by (try simp only [g4060, g4061, g4062]) <;> simp only [push_cast, seval]) (by (try simp only [g4060, g4061, g4062]) <;> simp only [push_cast, seval]) rfl rfl rfl)
        · refine rs 9 [] [] (by kernel_rfl) allP_nil ?_
          refine run_br h 26 (.inr (by kernel_rfl)) (fun g4066 h => ?_) (fun g4066 h => ?_)
          · refine rs 7 [] [] (by kernel_rfl) allP_nil ?_
            refine run_br h 33 (.inl (by kernel_rfl)) (fun g4067 h => ?_) (fun g4067 h => ?_)
            · refine rn 19 [(1, .ptr 0 0), (2, .ptr 1 0), (33, bS true)] [(0, .row 58 (Enc.cells xo)), (1, .row 29 [iS 0, iS 0]), (2, .row 29 (Enc.cells r4029))] 3 (by kernel_rfl) ?_
              refine rs 6 [] [] (by kernel_rfl) allP_nil ?_
              refine rf [(2, .ptr 1 0), (39, bS true)] [(0, .row 58 (Enc.cells xo)), (1, .row 29 [iS 0, iS 0]), (2, .row 29 (Enc.cells r4029))] 3 (by kernel_rfl) ?_
              exact hK4059 (true) _ _ _ h (leSt_m [(0, 1)] [] (by (try simp only [g4060, g4066, g4067]) <;> simp only [push_cast, seval]) (by (try simp only [g4060, g4066, g4067]) <;> simp only [push_cast, seval]) rfl rfl rfl)
            · refine rn 19 [(1, .ptr 0 0), (2, .ptr 1 0), (33, bS false)] [(0, .row 58 (Enc.cells xo)), (1, .row 29 [iS 0, iS 0]), (2, .row 29 (Enc.cells r4029))] 3 (by kernel_rfl) ?_
              refine rs 4 [] [] (by kernel_rfl) allP_nil ?_
              obtain ⟨r4068, hr4068, h⟩ := bind_sx h
              refine run_call 42 [.sl xo.Line.length (fl xo.Line), iS xo.By] (some 38) (by kernel_rfl) ?_
              refine call_0 (slices_Contains_int_spec xo.Line xo.By r4068 hr4068) (by simp only [push_cast, seval]) (by simp only [push_cast, seval]) ?_
              refine back_f ?_
              refine rs 1 [] [] (by kernel_rfl) allP_nil ?_
              refine rf [(2, .ptr 1 0), (39, bS r4068)] [(0, .row 58 (Enc.cells xo)), (1, .row 29 [iS 0, iS 0]), (2, .row 29 (Enc.cells r4029))] 3 (by kernel_rfl) ?_
              exact hK4059 (r4068) _ _ _ h (leSt_m [(0, 1)] [] (by (try simp only [g4060, g4066, g4067]) <;> simp only [push_cast, seval]) (by (try simp only [g4060, g4066, g4067]) <;> simp only [push_cast, seval]) rfl rfl rfl)
          · refine rs 11 [] [] (by kernel_rfl) allP_nil ?_
            obtain ⟨r4069, hr4069, h⟩ := bind_sx h
            refine run_call 42 [.sl xo.Line.length (fl xo.Line), iS xo.By] (some 38) (by kernel_rfl) ?_
            refine call_0 (slices_Contains_int_spec xo.Line xo.By r4069 hr4069) (by simp only [push_cast, seval]) (by simp only [push_cast, seval]) ?_
            refine back_f ?_
            refine rs 1 [] [] (by kernel_rfl) allP_nil ?_
            refine rf [(2, .ptr 1 0), (39, bS r4069)] [(0, .row 58 (Enc.cells xo)), (1, .row 29 [iS 0, iS 0]), (2, .row 29 (Enc.cells r4029))] 3 (by kernel_rfl) ?_
            exact hK4059 (r4069) _ _ _ h (leSt_m [(0, 1)] [] (by (try simp only [g4060, g4066]) <;> simp only [push_cast, seval]) (by (try simp only [g4060, g4066]) <;> simp only [push_cast, seval]) rfl rfl rfl)
      · rintro t39q2 h
        try dsimp only at h ⊢
        unfold sync_once_j1 at h
        refine cond_sx h (by kernel_rfl) (fun g4072 h => ?_) (fun g4072 h => ?_)
        · refine seq_np ?_
          refine reg_f ?_
          obtain ⟨r4071, hr4071, h⟩ := bind_sx h
          refine run_call 38 [iS 5, iS 0] (some 40) (by kernel_rfl) ?_
          refine call_0 (sync_fault_spec 5 0 r4071 hr4071) (by simp only [push_cast, seval]) (by simp only [push_cast, seval]) ?_
          refine back_f ?_
          refine rs 1 [] [] (by kernel_rfl) allP_nil ?_
          refine rf [(2, .ptr 0 0)] [(0, .row 29 (Enc.cells r4071))] 1 (by kernel_rfl) ?_
          refine wk_id ?_
          obtain rfl := Option.some.inj h
          refine ret_at (.agg (Enc.cells r4071)) (by kernel_rfl) ?_
          exact ret_e [] [] (by simp only [push_cast, seval]) (by simp only [push_cast, seval]) rfl rfl rfl
        · refine wk_id ?_
          refine seq_np ?_
          refine reg_f ?_
          refine rs 2 [] [] (by kernel_rfl) allP_nil ?_
          refine rf [(2, .ptr 0 0)] [(0, .row 29 [iS 0, iS 0])] 1 (by kernel_rfl) ?_
          refine wk_id ?_
          obtain rfl := Option.some.inj h
          refine ret_at (.agg [iS 0, iS 0]) (by kernel_rfl) ?_
          exact ret_e [] [] (by simp only [push_cast, seval]) (by simp only [push_cast, seval]) rfl rfl rfl

set_option maxRecDepth 100000 in
set_option maxHeartbeats 10000000 in
theorem sync_Begin_spec (xo : Once) (task : Int) (r : Int × Bool × Int × Fault × (List Int)) (h : sync_Begin xo task = some r) : SpecW Try.prog 29 [.agg (Enc.cells xo), iS task] [] 0 (fun x h n => x = .tup [.agg [iS r.1, bS r.2.1, .own 0 0 r.2.2.2.2.length], iS r.2.2.1, .agg (Enc.cells r.2.2.2.1)] ∧ h = [(0, .row 3 (fl r.2.2.2.2))] ∧ n = 1) := by
  unfold sync_Begin at h
  refine spec_of (draw_ok _) Try.func29 rfl (by decide) rfl (by kernel_rfl) ?_
  refine seq_np ?_
  refine reg_f ?_
  refine rs 4 [] [] (by kernel_rfl) allP_nil ?_
  refine rf [(1, iS task), (2, .ptr 0 0), (4, .ptr 1 0), (6, .ptr 2 0)] [(0, .row 58 (Enc.cells xo)), (1, .row 58 [iS 0, bS false, .v (.slice none 0 0)]), (2, .row 29 [iS 0, iS 0])] 3 (by kernel_rfl) ?_
  refine wk_id ?_
  refine seq_np ?_
  refine reg_f ?_
  refine rs 1 [] [] (by kernel_rfl) allP_nil ?_
  obtain ⟨r4092, hr4092, h⟩ := bind_sx h
  refine run_call 49 [.agg (Enc.cells xo)] (some 10) (by kernel_rfl) ?_
  refine call_0 (sync_once_spec xo r4092 hr4092) (by simp only [push_cast, seval]) (by simp only [push_cast, seval]) ?_
  refine back_f ?_
  refine rs 2 [] [] (by kernel_rfl) allP_nil ?_
  refine rf [(1, iS task), (2, .ptr 0 0), (4, .ptr 1 0), (6, .ptr 2 0), (7, .ptr 3 0)] [(0, .row 58 (Enc.cells xo)), (1, .row 58 [iS 0, bS false, .v (.slice none 0 0)]), (2, .row 29 [iS 0, iS 0]), (3, .row 29 (Enc.cells r4092))] 4 (by kernel_rfl) ?_
  refine wk_id ?_
  refine seq_cut (A := Fault) (fun a => ([(1, iS task), (2, .ptr 0 0), (4, .ptr 1 0), (6, .ptr 2 0), (7, .ptr 3 0)], [(0, .row 58 (Enc.cells xo)), (1, .row 58 [iS 0, bS false, .v (.slice none 0 0)]), (2, .row 29 [iS 0, iS 0]), (3, .row 29 (Enc.cells a))], 4)) (fun a => (sync_Begin_j2 xo task a) = some r) (fun K4096 hK4096 => ?_) ?_
  · refine seq_np ?_
    refine reg_f ?_
    refine rs 3 [] [] (by kernel_rfl) allP_nil ?_
    refine rf [(1, iS task), (2, .ptr 0 0), (4, .ptr 1 0), (6, .ptr 2 0), (7, .ptr 3 0), (13, bS (r4092.Code == 0))] [(0, .row 58 (Enc.cells xo)), (1, .row 58 [iS 0, bS false, .v (.slice none 0 0)]), (2, .row 29 [iS 0, iS 0]), (3, .row 29 (Enc.cells r4092))] 4 (by kernel_rfl) ?_
    refine wk_id ?_
    refine cond_sx h (by kernel_rfl) (fun g4099 h => ?_) (fun g4099 h => ?_)
    · refine reg_f ?_
      refine rs 3 [] [] (by kernel_rfl) allP_nil ?_
      obtain ⟨r4098, hr4098, h⟩ := bind_sx h
      refine run_call 46 [.sl xo.Line.length (fl xo.Line), iS task] (some 17) (by kernel_rfl) ?_
      refine call_0 (sync_comes_spec xo.Line task r4098 hr4098) (by simp only [push_cast, seval]) (by simp only [push_cast, seval]) ?_
      refine back_f ?_
      refine rs 1 [] [] (by kernel_rfl) allP_nil ?_
      refine rf [(1, iS task), (2, .ptr 0 0), (4, .ptr 1 0), (6, .ptr 2 0), (7, .ptr 3 0)] [(0, .row 58 (Enc.cells xo)), (1, .row 58 [iS 0, bS false, .v (.slice none 0 0)]), (2, .row 29 [iS 0, iS 0]), (3, .row 29 (Enc.cells r4098))] 4 (by kernel_rfl) ?_
      exact hK4096 (r4098) _ _ _ h (leSt_m [(0, 0), (1, 1), (2, 2), (3, 3)] [] (by simp only [push_cast, seval]) (by simp only [push_cast, seval]) rfl rfl rfl)
    · exact hK4096 (r4092) _ _ _ h (leSt_m [(0, 0), (1, 1), (2, 2), (3, 3)] [] (by simp only [push_cast, seval]) (by simp only [push_cast, seval]) rfl rfl rfl)
  · rintro c3q2 h
    try dsimp only at h ⊢
    unfold sync_Begin_j2 at h
    refine seq_cut (A := Fault) (fun a => ([(1, iS task), (2, .ptr 0 0), (4, .ptr 1 0), (6, .ptr 2 0), (7, .ptr 3 0)], [(0, .row 58 (Enc.cells xo)), (1, .row 58 [iS 0, bS false, .v (.slice none 0 0)]), (2, .row 29 [iS 0, iS 0]), (3, .row 29 (Enc.cells a))], 4)) (fun a => (sync_Begin_j1 xo task a) = some r) (fun K4104 hK4104 => ?_) ?_
    · refine seq_cut (A := Unit) (fun _ => ([(1, iS task), (2, .ptr 0 0), (4, .ptr 1 0), (6, .ptr 2 0), (7, .ptr 3 0), (26, bS ((c3q2.Code == 0) && (xo.By == task)))], [(0, .row 58 (Enc.cells xo)), (1, .row 58 [iS 0, bS false, .v (.slice none 0 0)]), (2, .row 29 [iS 0, iS 0]), (3, .row 29 (Enc.cells c3q2))], 4)) (fun _ => True) (fun K4106 hK4106 => ?_) (fun _ _ => ?_)
      · refine reg_f ?_
        refine rs 4 [] [] (by kernel_rfl) allP_nil ?_
        refine run_split 21 (c3q2.Code == 0) (.inl (by kernel_rfl)) (fun g4107 => ?_) (fun g4107 => ?_)
        · refine rs 5 [] [] (by kernel_rfl) allP_nil ?_
          refine rf [(1, iS task), (2, .ptr 0 0), (4, .ptr 1 0), (6, .ptr 2 0), (7, .ptr 3 0), (26, bS (xo.By == task))] [(0, .row 58 (Enc.cells xo)), (1, .row 58 [iS 0, bS false, .v (.slice none 0 0)]), (2, .row 29 [iS 0, iS 0]), (3, .row 29 (Enc.cells c3q2))] 4 (by kernel_rfl) ?_
          exact hK4106 () _ _ _ trivial (leSt_m [(0, 0), (1, 1), (2, 2), (3, 3)] [] (by (try simp only [g4107]) <;> simp only [push_cast, seval]) (by (try simp only [g4107]) <;> simp only [push_cast, seval]) rfl rfl rfl)
        · refine rs 5 [] [] (by kernel_rfl) allP_nil ?_
          refine rf [(1, iS task), (2, .ptr 0 0), (4, .ptr 1 0), (6, .ptr 2 0), (7, .ptr 3 0), (26, bS false)] [(0, .row 58 (Enc.cells xo)), (1, .row 58 [iS 0, bS false, .v (.slice none 0 0)]), (2, .row 29 [iS 0, iS 0]), (3, .row 29 (Enc.cells c3q2))] 4 (by kernel_rfl) ?_
          exact hK4106 () _ _ _ trivial (leSt_m [(0, 0), (1, 1), (2, 2), (3, 3)] [] (by (try simp only [g4107]) <;> simp only [push_cast, seval]) (by (try simp only [g4107]) <;> simp only [push_cast, seval]) rfl rfl rfl)
      · dsimp only
        refine cond_sx h (by kernel_rfl) (fun g4110 h => ?_) (fun g4110 h => ?_)
        · refine reg_f ?_
          obtain ⟨r4109, hr4109, h⟩ := bind_sx h
          refine run_call 38 [iS 11, iS (-1)] (some 27) (by kernel_rfl) ?_
          refine call_0 (sync_fault_spec 11 (-1) r4109 hr4109) (by simp only [push_cast, seval]) (by simp only [push_cast, seval]) ?_
          refine back_f ?_
          refine rs 1 [] [] (by kernel_rfl) allP_nil ?_
          refine rf [(1, iS task), (2, .ptr 0 0), (4, .ptr 1 0), (6, .ptr 2 0), (7, .ptr 3 0)] [(0, .row 58 (Enc.cells xo)), (1, .row 58 [iS 0, bS false, .v (.slice none 0 0)]), (2, .row 29 [iS 0, iS 0]), (3, .row 29 (Enc.cells r4109))] 4 (by kernel_rfl) ?_
          exact hK4104 (r4109) _ _ _ h (leSt_m [(0, 0), (1, 1), (2, 2), (3, 3)] [] (by simp only [push_cast, seval]) (by simp only [push_cast, seval]) rfl rfl rfl)
        · exact hK4104 (c3q2) _ _ _ h (leSt_m [(0, 0), (1, 1), (2, 2), (3, 3)] [] (by simp only [push_cast, seval]) (by simp only [push_cast, seval]) rfl rfl rfl)
    · rintro c3q3 h
      try dsimp only at h ⊢
      unfold sync_Begin_j1 at h
      refine seq_np ?_
      refine seq_np ?_
      refine reg_f ?_
      refine rs 3 [] [] (by kernel_rfl) allP_nil ?_
      refine rf [(1, iS task), (2, .ptr 0 0), (4, .ptr 1 0), (6, .ptr 2 0), (7, .ptr 3 0), (30, bS (c3q3.Code != 0))] [(0, .row 58 (Enc.cells xo)), (1, .row 58 [iS 0, bS false, .v (.slice none 0 0)]), (2, .row 29 [iS 0, iS 0]), (3, .row 29 (Enc.cells c3q3))] 4 (by kernel_rfl) ?_
      refine wk_id ?_
      refine cond_sx h (by kernel_rfl) (fun g4124 h => ?_) (fun g4124 h => ?_)
      · refine seq_np ?_
        refine reg_t ?_
        refine rs 5 [] [] (by kernel_rfl) allP_nil ?_
        refine rt [(4, .ptr 1 0), (5, iS 0), (6, .ptr 2 0)] [(0, .row 58 (Enc.cells xo)), (1, .row 58 [iS 0, bS false, .v (.slice none 0 0)]), (2, .row 29 (Enc.cells c3q3)), (3, .row 29 (Enc.cells c3q3))] 9 follows (by kernel_rfl) ?_
        refine wk_id ?_
        obtain rfl := Option.some.inj h
        refine ret_at (.tup [.agg [iS 0, bS false, .v (.slice none 0 0)], iS 0, .agg (Enc.cells c3q3)]) (by kernel_rfl) ?_
        exact ret_e [] [] (by simp only [push_cast, seval]) (by simp only [push_cast, seval]) rfl rfl rfl
      · refine wk_id ?_
        refine seq_np ?_
        refine reg_t ?_
        refine rs 6 [] [] (by kernel_rfl) allP_nil ?_
        obtain ⟨r4113, hr4113, h⟩ := bind_sx h
        refine call_x (slices_Clone_int_spec xo.Line r4113 hr4113) (args := [.sl xo.Line.length (fl xo.Line)]) (dst := (some 39)) (by kernel_rfl) [(0, .row 58 (Enc.cells xo)), (1, .row 58 [iS 0, bS false, .v (.slice none 0 0)]), (2, .row 29 [iS 0, iS 0]), (3, .row 29 (Enc.cells c3q3))] 10 (by kernel_rfl) [] [] (.own 10 0 r4113.length) [(10, .row 3 (fl r4113))] (by simp only [push_cast, seval]) (by simp only [push_cast, seval]) (by kernel_rfl) (.inl rfl) (by simp only [push_cast, seval]) (by simp only [push_cast, seval]) ?_
        refine rs 3 [] [] (by kernel_rfl) allP_nil ?_
        refine rt [(1, iS task), (2, .ptr 0 0), (4, .ptr 1 0), (6, .ptr 2 0), (8, .ptr 13 0)] [(0, .row 58 (Enc.cells xo)), (1, .row 58 [iS 0, bS false, .v (.slice none 0 0)]), (2, .row 29 [iS 0, iS 0]), (3, .row 29 (Enc.cells c3q3)), (10, .row 3 (fl r4113)), (13, .row 58 [iS xo.By, bS xo.Done, .own 10 0 r4113.length])] 16 follows (by kernel_rfl) ?_
        refine wk_id ?_
        refine seq_np ?_
        refine block_np ?_
        refine seq_np ?_
        refine reg_f ?_
        refine rs 3 [] [] (by kernel_rfl) allP_nil ?_
        refine rf [(1, iS task), (2, .ptr 0 0), (4, .ptr 1 0), (6, .ptr 2 0), (8, .ptr 13 0), (41, bS xo.Done)] [(0, .row 58 (Enc.cells xo)), (1, .row 58 [iS 0, bS false, .v (.slice none 0 0)]), (2, .row 29 [iS 0, iS 0]), (3, .row 29 (Enc.cells c3q3)), (10, .row 3 (fl r4113)), (13, .row 58 [iS xo.By, bS xo.Done, .own 10 0 r4113.length])] 16 (by kernel_rfl) ?_
        refine wk_id ?_
        refine cond_sx h (by kernel_rfl) (fun g4123 h => ?_) (fun g4123 h => ?_)
        · refine seq_np ?_
          refine reg_f ?_
          refine rs 5 [] [] (by kernel_rfl) allP_nil ?_
          refine rf [(4, .ptr 1 0), (5, iS 2), (6, .ptr 2 0)] [(0, .row 58 (Enc.cells xo)), (1, .row 58 [iS xo.By, bS xo.Done, .own 10 0 r4113.length]), (2, .row 29 [iS 0, iS 0]), (3, .row 29 (Enc.cells c3q3)), (10, .row 3 (fl r4113)), (13, .row 58 [iS xo.By, bS xo.Done, .own 10 0 r4113.length])] 16 (by kernel_rfl) ?_
          refine wk_id ?_
          obtain rfl := Option.some.inj h
          refine ret_at (.tup [.agg [iS xo.By, bS xo.Done, .own 10 0 r4113.length], iS 2, .agg [iS 0, iS 0]]) (by kernel_rfl) ?_
          exact ret_e [(0, 10)] [] (by simp only [push_cast, seval]) (by simp only [push_cast, seval]) rfl rfl rfl
        · refine seq_np ?_
          refine reg_f ?_
          refine rs 4 [] [] (by kernel_rfl) allP_nil ?_
          refine rf [(1, iS task), (4, .ptr 1 0), (6, .ptr 2 0), (8, .ptr 13 0), (46, bS (xo.By == 0))] [(0, .row 58 (Enc.cells xo)), (1, .row 58 [iS 0, bS false, .v (.slice none 0 0)]), (2, .row 29 [iS 0, iS 0]), (3, .row 29 (Enc.cells c3q3)), (10, .row 3 (fl r4113)), (13, .row 58 [iS xo.By, bS xo.Done, .own 10 0 r4113.length])] 16 (by kernel_rfl) ?_
          refine wk_id ?_
          refine cond_sx h (by kernel_rfl) (fun g4122 h => ?_) (fun g4122 h => ?_)
          · refine seq_np ?_
            refine reg_f ?_
            refine rs 3 [] [] (by kernel_rfl) allP_nil ?_
            refine rf [(4, .ptr 1 0), (6, .ptr 2 0), (8, .ptr 13 0)] [(0, .row 58 (Enc.cells xo)), (1, .row 58 [iS 0, bS false, .v (.slice none 0 0)]), (2, .row 29 [iS 0, iS 0]), (3, .row 29 (Enc.cells c3q3)), (10, .row 3 (fl r4113)), (13, .row 58 [iS task, bS xo.Done, .own 10 0 r4113.length])] 16 (by kernel_rfl) ?_
            refine wk_id ?_
            refine seq_np ?_
            refine reg_f ?_
            refine rs 5 [] [] (by kernel_rfl) allP_nil ?_
            refine rf [(4, .ptr 1 0), (5, iS 1), (6, .ptr 2 0)] [(0, .row 58 (Enc.cells xo)), (1, .row 58 [iS task, bS xo.Done, .own 10 0 r4113.length]), (2, .row 29 [iS 0, iS 0]), (3, .row 29 (Enc.cells c3q3)), (10, .row 3 (fl r4113)), (13, .row 58 [iS task, bS xo.Done, .own 10 0 r4113.length])] 16 (by kernel_rfl) ?_
            refine wk_id ?_
            obtain rfl := Option.some.inj h
            refine ret_at (.tup [.agg [iS task, bS xo.Done, .own 10 0 r4113.length], iS 1, .agg [iS 0, iS 0]]) (by kernel_rfl) ?_
            exact ret_e [(0, 10)] [] (by simp only [push_cast, seval]) (by simp only [push_cast, seval]) rfl rfl rfl
          · refine wk_id ?_
            refine wk_id ?_
            refine chk_sx h (fun g4121 h => ?_)
            refine seq_np ?_
            refine reg_f ?_
            have k4120 : (r4113 ++ ([task] : List Int)).length * 8 ≤ 140737488355328 := by first | simpa only [Bool.and_eq_true, decide_eq_true_eq, bne_iff_ne, ne_eq] using g4121 | (simp at g4121 ⊢; omega)
            refine rs 7 [none, none, none, none, some ⟨.own 17 0 (r4113 ++ ([task] : List Int)).length, [(17, .row 3 (fl (r4113 ++ ([task] : List Int)))), (10, .dead)], 18, [10, 16]⟩] _ (by kernel_rfl) (allP_cons (ob_app (P := Try.prog) r4113 ([task] : List Int) 1 8 rfl (appCells (fl ([task] : List Int)) 0 (([task] : List Int).length * 1)) ([task] : List Int).length (app_own ([task] : List Int) 1 rfl) rfl (0 + ([task] : List Int).length * 1 ≤ (fl ([task] : List Int)).length) (app_own_le ([task] : List Int) 1 rfl) 3 (by kernel_rfl) (by decide) k4120 10 17 [16]) allP_nil) ?_
            refine rf [(4, .ptr 1 0), (6, .ptr 2 0), (8, .ptr 13 0)] [(0, .row 58 (Enc.cells xo)), (1, .row 58 [iS 0, bS false, .v (.slice none 0 0)]), (2, .row 29 [iS 0, iS 0]), (3, .row 29 (Enc.cells c3q3)), (10, .dead), (13, .row 58 [iS xo.By, bS xo.Done, .own 17 0 (r4113 ++ ([task] : List Int)).length]), (16, .row 3 (fl ([task] : List Int))), (17, .row 3 (fl (r4113 ++ ([task] : List Int))))] 18 (by kernel_rfl) ?_
            refine wk_id ?_
            refine seq_np ?_
            refine reg_f ?_
            refine rs 5 [] [] (by kernel_rfl) allP_nil ?_
            refine rf [(4, .ptr 1 0), (5, iS 0), (6, .ptr 2 0)] [(0, .row 58 (Enc.cells xo)), (1, .row 58 [iS xo.By, bS xo.Done, .own 17 0 (r4113 ++ ([task] : List Int)).length]), (2, .row 29 [iS 0, iS 0]), (3, .row 29 (Enc.cells c3q3)), (10, .dead), (13, .row 58 [iS xo.By, bS xo.Done, .own 17 0 (r4113 ++ ([task] : List Int)).length]), (16, .row 3 (fl ([task] : List Int))), (17, .row 3 (fl (r4113 ++ ([task] : List Int))))] 18 (by kernel_rfl) ?_
            refine wk_id ?_
            obtain rfl := Option.some.inj h
            refine ret_at (.tup [.agg [iS xo.By, bS xo.Done, .own 17 0 (r4113 ++ ([task] : List Int)).length], iS 0, .agg [iS 0, iS 0]]) (by kernel_rfl) ?_
            exact ret_e [(0, 17)] [] (by simp only [push_cast, seval]) (by simp only [push_cast, seval]) rfl rfl rfl

set_option maxRecDepth 100000 in
set_option maxHeartbeats 10000000 in
theorem sync_End_spec (xo : Once) (task : Int) (r : Int × Bool × Fault × (List Int)) (h : sync_End xo task = some r) : SpecW Try.prog 30 [.agg (Enc.cells xo), iS task] [] 0 (fun x h n => x = .tup [.agg [iS r.1, bS r.2.1, .v (.slice none 0 0)], .own 0 0 r.2.2.2.length, .agg (Enc.cells r.2.2.1)] ∧ h = [(0, .row 3 (fl r.2.2.2))] ∧ n = 1) := by
  unfold sync_End at h
  refine spec_of (draw_ok _) Try.func30 rfl (by decide) rfl (by kernel_rfl) ?_
  refine seq_np ?_
  refine reg_f ?_
  refine rs 4 [] [] (by kernel_rfl) allP_nil ?_
  refine rf [(1, iS task), (2, .ptr 0 0), (4, .ptr 1 0), (6, .ptr 2 0)] [(0, .row 58 (Enc.cells xo)), (1, .row 58 [iS 0, bS false, .v (.slice none 0 0)]), (2, .row 29 [iS 0, iS 0])] 3 (by kernel_rfl) ?_
  refine wk_id ?_
  refine seq_np ?_
  refine seq_np ?_
  refine reg_f ?_
  refine rs 1 [] [] (by kernel_rfl) allP_nil ?_
  obtain ⟨r4135, hr4135, h⟩ := bind_sx h
  refine run_call 49 [.agg (Enc.cells xo)] (some 9) (by kernel_rfl) ?_
  refine call_0 (sync_once_spec xo r4135 hr4135) (by simp only [push_cast, seval]) (by simp only [push_cast, seval]) ?_
  refine back_f ?_
  refine rs 2 [] [] (by kernel_rfl) allP_nil ?_
  refine rf [(1, iS task), (2, .ptr 0 0), (4, .ptr 1 0), (6, .ptr 2 0), (7, .ptr 3 0)] [(0, .row 58 (Enc.cells xo)), (1, .row 58 [iS 0, bS false, .v (.slice none 0 0)]), (2, .row 29 [iS 0, iS 0]), (3, .row 29 (Enc.cells r4135))] 4 (by kernel_rfl) ?_
  refine wk_id ?_
  refine seq_np ?_
  refine reg_f ?_
  refine rs 3 [] [] (by kernel_rfl) allP_nil ?_
  refine rf [(1, iS task), (2, .ptr 0 0), (4, .ptr 1 0), (6, .ptr 2 0), (7, .ptr 3 0), (12, bS (r4135.Code != 0))] [(0, .row 58 (Enc.cells xo)), (1, .row 58 [iS 0, bS false, .v (.slice none 0 0)]), (2, .row 29 [iS 0, iS 0]), (3, .row 29 (Enc.cells r4135))] 4 (by kernel_rfl) ?_
  refine wk_id ?_
  refine cond_sx h (by kernel_rfl) (fun g4147 h => ?_) (fun g4147 h => ?_)
  · refine seq_np ?_
    refine reg_t ?_
    refine rs 5 [] [] (by kernel_rfl) allP_nil ?_
    refine rt [(4, .ptr 1 0), (5, .v (.slice none 0 0)), (6, .ptr 2 0)] [(0, .row 58 (Enc.cells xo)), (1, .row 58 [iS 0, bS false, .v (.slice none 0 0)]), (2, .row 29 (Enc.cells r4135)), (3, .row 29 (Enc.cells r4135))] 9 follows (by kernel_rfl) ?_
    refine wk_id ?_
    obtain rfl := Option.some.inj h
    refine ret_at (.tup [.agg [iS 0, bS false, .v (.slice none 0 0)], .v (.slice none 0 0), .agg (Enc.cells r4135)]) (by kernel_rfl) ?_
    exact ret_e [] [] (by simp only [push_cast, seval]) (by simp only [push_cast, seval]) rfl rfl rfl
  · refine wk_id ?_
    refine seq_np ?_
    refine seq_cut (A := Unit) (fun _ => ([(2, .ptr 0 0), (4, .ptr 1 0), (6, .ptr 2 0), (22, bS ((decide (task < 1)) || (xo.By != task)))], [(0, .row 58 (Enc.cells xo)), (1, .row 58 [iS 0, bS false, .v (.slice none 0 0)]), (2, .row 29 [iS 0, iS 0]), (3, .row 29 (Enc.cells r4135))], 4)) (fun _ => True) (fun K4140 hK4140 => ?_) (fun _ _ => ?_)
    · refine reg_f ?_
      refine rs 3 [] [] (by kernel_rfl) allP_nil ?_
      refine run_split 17 (decide (task < 1)) (.inl (by kernel_rfl)) (fun g4141 => ?_) (fun g4141 => ?_)
      · refine rs 5 [] [] (by kernel_rfl) allP_nil ?_
        refine rf [(2, .ptr 0 0), (4, .ptr 1 0), (6, .ptr 2 0), (22, bS true)] [(0, .row 58 (Enc.cells xo)), (1, .row 58 [iS 0, bS false, .v (.slice none 0 0)]), (2, .row 29 [iS 0, iS 0]), (3, .row 29 (Enc.cells r4135))] 4 (by kernel_rfl) ?_
        exact hK4140 () _ _ _ trivial (leSt_m [(0, 0), (1, 1), (2, 2), (3, 3)] [] (by (try simp only [g4141]) <;> simp only [push_cast, seval]) (by (try simp only [g4141]) <;> simp only [push_cast, seval]) rfl rfl rfl)
      · refine rs 5 [] [] (by kernel_rfl) allP_nil ?_
        refine rf [(2, .ptr 0 0), (4, .ptr 1 0), (6, .ptr 2 0), (22, bS (xo.By != task))] [(0, .row 58 (Enc.cells xo)), (1, .row 58 [iS 0, bS false, .v (.slice none 0 0)]), (2, .row 29 [iS 0, iS 0]), (3, .row 29 (Enc.cells r4135))] 4 (by kernel_rfl) ?_
        exact hK4140 () _ _ _ trivial (leSt_m [(0, 0), (1, 1), (2, 2), (3, 3)] [] (by (try simp only [g4141]) <;> simp only [push_cast, seval]) (by (try simp only [g4141]) <;> simp only [push_cast, seval]) rfl rfl rfl)
    · dsimp only
      refine cond_sx h (by kernel_rfl) (fun g4146 h => ?_) (fun g4146 h => ?_)
      · refine seq_np ?_
        refine reg_f ?_
        refine rs 1 [] [] (by kernel_rfl) allP_nil ?_
        obtain ⟨r4143, hr4143, h⟩ := bind_sx h
        refine run_call 38 [iS 11, iS (-1)] (some 24) (by kernel_rfl) ?_
        refine call_0 (sync_fault_spec 11 (-1) r4143 hr4143) (by simp only [push_cast, seval]) (by simp only [push_cast, seval]) ?_
        refine back_f ?_
        refine rs 3 [] [] (by kernel_rfl) allP_nil ?_
        refine rf [(4, .ptr 1 0), (5, .v (.slice none 0 0)), (6, .ptr 2 0)] [(0, .row 58 (Enc.cells xo)), (1, .row 58 [iS 0, bS false, .v (.slice none 0 0)]), (2, .row 29 (Enc.cells r4143)), (3, .row 29 (Enc.cells r4135))] 4 (by kernel_rfl) ?_
        refine wk_id ?_
        obtain rfl := Option.some.inj h
        refine ret_at (.tup [.agg [iS 0, bS false, .v (.slice none 0 0)], .v (.slice none 0 0), .agg (Enc.cells r4143)]) (by kernel_rfl) ?_
        exact ret_e [] [] (by simp only [push_cast, seval]) (by simp only [push_cast, seval]) rfl rfl rfl
      · refine wk_id ?_
        refine seq_np ?_
        refine reg_f ?_
        refine rs 3 [] [] (by kernel_rfl) allP_nil ?_
        obtain ⟨r4145, hr4145, h⟩ := bind_sx h
        refine call_x (slices_Clone_int_spec xo.Line r4145 hr4145) (args := [.sl xo.Line.length (fl xo.Line)]) (dst := (some 28)) (by kernel_rfl) [(0, .row 58 (Enc.cells xo)), (1, .row 58 [iS 0, bS false, .v (.slice none 0 0)]), (2, .row 29 [iS 0, iS 0]), (3, .row 29 (Enc.cells r4135))] 4 (by kernel_rfl) [] [] (.own 4 0 r4145.length) [(4, .row 3 (fl r4145))] (by simp only [push_cast, seval]) (by simp only [push_cast, seval]) (by kernel_rfl) (.inl rfl) (by simp only [push_cast, seval]) (by simp only [push_cast, seval]) ?_
        refine rs 4 [] [] (by kernel_rfl) allP_nil ?_
        refine rf [(4, .ptr 1 0), (5, .own 4 0 r4145.length), (6, .ptr 2 0)] [(0, .row 58 (Enc.cells xo)), (1, .row 58 [iS 0, bS true, .v (.slice none 0 0)]), (2, .row 29 [iS 0, iS 0]), (3, .row 29 (Enc.cells r4135)), (4, .row 3 (fl r4145))] 5 (by kernel_rfl) ?_
        refine wk_id ?_
        obtain rfl := Option.some.inj h
        refine ret_at (.tup [.agg [iS 0, bS true, .v (.slice none 0 0)], .own 4 0 r4145.length, .agg [iS 0, iS 0]]) (by kernel_rfl) ?_
        exact ret_e [(0, 4)] [] (by simp only [push_cast, seval]) (by simp only [push_cast, seval]) rfl rfl rfl

set_option maxRecDepth 100000 in
set_option maxHeartbeats 10000000 in
theorem taskmillref_OnceFault_spec (xo : Once) (r : Fault) (h : taskmillref_OnceFault xo = some r) : SpecW Try.prog 31 [.agg (Enc.cells xo)] [] 0 (fun x h n => x = .agg (Enc.cells r) ∧ h = [] ∧ n = 0) := by
  unfold taskmillref_OnceFault at h
  refine spec_of (draw_ok _) Try.func31 rfl (by decide) rfl (by kernel_rfl) ?_
  refine seq_np ?_
  refine reg_f ?_
  refine rs 2 [] [] (by kernel_rfl) allP_nil ?_
  refine rf [(1, .ptr 0 0), (2, .ptr 1 0)] [(0, .row 58 (Enc.cells xo)), (1, .row 29 [iS 0, iS 0])] 2 (by kernel_rfl) ?_
  refine wk_id ?_
  refine seq_np ?_
  refine reg_f ?_
  refine rs 2 [] [] (by kernel_rfl) allP_nil ?_
  obtain ⟨r4173, hr4173, h⟩ := bind_sx h
  refine run_call 48 [.sl xo.Line.length (fl xo.Line)] (some 6) (by kernel_rfl) ?_
  refine call_0 (taskmillref_LineFault_spec xo.Line r4173 hr4173) (by simp only [push_cast, seval]) (by simp only [push_cast, seval]) ?_
  refine back_f ?_
  refine rs 2 [] [] (by kernel_rfl) allP_nil ?_
  refine rf [(1, .ptr 0 0), (2, .ptr 1 0), (3, .ptr 2 0)] [(0, .row 58 (Enc.cells xo)), (1, .row 29 [iS 0, iS 0]), (2, .row 29 (Enc.cells r4173))] 3 (by kernel_rfl) ?_
  refine wk_id ?_
  refine seq_cut (A := Fault) (fun a => ([(1, .ptr 0 0), (2, .ptr 1 0), (3, .ptr 2 0)], [(0, .row 58 (Enc.cells xo)), (1, .row 29 [iS 0, iS 0]), (2, .row 29 (Enc.cells a))], 3)) (fun a => (taskmillref_OnceFault_j3 xo a) = some r) (fun K4178 hK4178 => ?_) ?_
  · refine seq_cut (A := Unit) (fun _ => ([(1, .ptr 0 0), (2, .ptr 1 0), (3, .ptr 2 0), (14, bS ((r4173.Code == 0) && (decide (xo.By < 0))))], [(0, .row 58 (Enc.cells xo)), (1, .row 29 [iS 0, iS 0]), (2, .row 29 (Enc.cells r4173))], 3)) (fun _ => True) (fun K4180 hK4180 => ?_) (fun _ _ => ?_)
    · refine reg_f ?_
      refine rs 4 [] [] (by kernel_rfl) allP_nil ?_
      refine run_split 10 (r4173.Code == 0) (.inl (by kernel_rfl)) (fun g4181 => ?_) (fun g4181 => ?_)
      · refine rs 4 [] [] (by kernel_rfl) allP_nil ?_
        refine rf [(1, .ptr 0 0), (2, .ptr 1 0), (3, .ptr 2 0), (14, bS (decide (xo.By < 0)))] [(0, .row 58 (Enc.cells xo)), (1, .row 29 [iS 0, iS 0]), (2, .row 29 (Enc.cells r4173))] 3 (by kernel_rfl) ?_
        exact hK4180 () _ _ _ trivial (leSt_m [(0, 0), (1, 1), (2, 2)] [] (by (try simp only [g4181]) <;> simp only [push_cast, seval]) (by (try simp only [g4181]) <;> simp only [push_cast, seval]) rfl rfl rfl)
      · refine rs 4 [] [] (by kernel_rfl) allP_nil ?_
        refine rf [(1, .ptr 0 0), (2, .ptr 1 0), (3, .ptr 2 0), (14, bS false)] [(0, .row 58 (Enc.cells xo)), (1, .row 29 [iS 0, iS 0]), (2, .row 29 (Enc.cells r4173))] 3 (by kernel_rfl) ?_
        exact hK4180 () _ _ _ trivial (leSt_m [(0, 0), (1, 1), (2, 2)] [] (by (try simp only [g4181]) <;> simp only [push_cast, seval]) (by (try simp only [g4181]) <;> simp only [push_cast, seval]) rfl rfl rfl)
    · dsimp only
      refine cond_sx h (by kernel_rfl) (fun g4184 h => ?_) (fun g4184 h => ?_)
      · refine reg_f ?_
        obtain ⟨r4183, hr4183, h⟩ := bind_sx h
        refine run_call 19 [iS 3, iS 0] (some 15) (by kernel_rfl) ?_
        refine call_0 (taskmillref_F_spec 3 0 r4183 hr4183) (by simp only [push_cast, seval]) (by simp only [push_cast, seval]) ?_
        refine back_f ?_
        refine rs 1 [] [] (by kernel_rfl) allP_nil ?_
        refine rf [(1, .ptr 0 0), (2, .ptr 1 0), (3, .ptr 2 0)] [(0, .row 58 (Enc.cells xo)), (1, .row 29 [iS 0, iS 0]), (2, .row 29 (Enc.cells r4183))] 3 (by kernel_rfl) ?_
        exact hK4178 (r4183) _ _ _ h (leSt_m [(0, 0), (1, 1), (2, 2)] [] (by simp only [push_cast, seval]) (by simp only [push_cast, seval]) rfl rfl rfl)
      · exact hK4178 (r4173) _ _ _ h (leSt_m [(0, 0), (1, 1), (2, 2)] [] (by simp only [push_cast, seval]) (by simp only [push_cast, seval]) rfl rfl rfl)
  · rintro c2q1 h
    try dsimp only at h ⊢
    unfold taskmillref_OnceFault_j3 at h
    refine seq_cut (A := Fault) (fun a => ([(2, .ptr 0 0), (3, .ptr 1 0)], [(0, .row 29 [iS 0, iS 0]), (1, .row 29 (Enc.cells a))], 2)) (fun a => (taskmillref_OnceFault_j1 a) = some r) (fun K4201 hK4201 => ?_) ?_
    · refine seq_cut (A := Bool) (fun a => ([(2, .ptr 0 0), (3, .ptr 1 0), (45, bS a)], [(0, .row 29 [iS 0, iS 0]), (1, .row 29 (Enc.cells c2q1))], 2)) (fun a => (taskmillref_OnceFault_j2 c2q1 a) = some r) (fun K4214 hK4214 => ?_) ?_
      · refine reg_f ?_
        refine rs 4 [] [] (by kernel_rfl) allP_nil ?_
        refine run_br h 19 (.inl (by kernel_rfl)) (fun g4215 h => ?_) (fun g4215 h => ?_)
        · refine rs 3 [] [] (by kernel_rfl) allP_nil ?_
          refine run_br h 22 (.inr (by kernel_rfl)) (fun g4216 h => ?_) (fun g4216 h => ?_)
          · refine rs 5 [] [] (by kernel_rfl) allP_nil ?_
            refine run_br h 27 (.inr (by kernel_rfl)) (fun g4217 h => ?_) (fun g4217 h => ?_)
            · refine rn 12 [(1, .ptr 0 0), (2, .ptr 1 0), (3, .ptr 2 0), (19, bS true), (27, .gd true (bS true))] [(0, .row 58 (Enc.cells xo)), (1, .row 29 [iS 0, iS 0]), (2, .row 29 (Enc.cells c2q1))] 3 (by kernel_rfl) ?_
              refine rs 18 [] [] (by kernel_rfl) allP_nil ?_
              refine rf [(2, .ptr 1 0), (3, .ptr 2 0), (45, bS true)] [(0, .row 58 (Enc.cells xo)), (1, .row 29 [iS 0, iS 0]), (2, .row 29 (Enc.cells c2q1))] 3 (by kernel_rfl) ?_
              exact hK4214 (true) _ _ _ h (leSt_m [(0, 1), (1, 2)] [] (by (try simp only [g4215, g4216, g4217]) <;> simp only [push_cast, seval]) (by (try simp only [g4215, g4216, g4217]) <;> simp only [push_cast, seval]) rfl rfl rfl)
            · refine rn 12 [(1, .ptr 0 0), (2, .ptr 1 0), (3, .ptr 2 0), (19, bS true), (27, .gd true (bS false))] [(0, .row 58 (Enc.cells xo)), (1, .row 29 [iS 0, iS 0]), (2, .row 29 (Enc.cells c2q1))] 3 (by kernel_rfl) ?_
              refine rs 4 [] [] (by kernel_rfl) allP_nil ?_
              refine run_br h 31 (.inr (by kernel_rfl)) (fun g4218 h => ?_) (fun g4218 h => ?_)
              · refine rs 7 [] [] (by kernel_rfl) allP_nil ?_
                refine run_br h 38 (.inr (by kernel_rfl)) (fun g4219 h => ?_) (fun g4219 h => ?_)
                · refine rs 7 [] [] (by kernel_rfl) allP_nil ?_
                  refine rf [(2, .ptr 1 0), (3, .ptr 2 0), (45, bS true)] [(0, .row 58 (Enc.cells xo)), (1, .row 29 [iS 0, iS 0]), (2, .row 29 (Enc.cells c2q1))] 3 (by kernel_rfl) ?_
                  exact hK4214 (true) _ _ _ h (leSt_m [(0, 1), (1, 2)] [] (by (try simp only [g4215, g4216, g4217, g4218, g4219]) <;> simp only [push_cast, seval]) (by (try simp only [g4215, g4216, g4217, g4218, g4219]) <;> simp only [push_cast, seval]) rfl rfl rfl)
                · refine rs 4 [] [] (by kernel_rfl) allP_nil ?_
                  obtain ⟨r4220, hr4220, h⟩ := bind_sx h
                  refine run_call 22 [.sl xo.Line.length (fl xo.Line), iS xo.By] (some 43) (by kernel_rfl) ?_
                  refine call_0 (taskmillref_Has_spec xo.Line xo.By r4220 hr4220) (by simp only [push_cast, seval]) (by simp only [push_cast, seval]) ?_
                  refine back_f ?_
                  refine rs 2 [] [] (by kernel_rfl) allP_nil ?_
                  refine rf [(2, .ptr 1 0), (3, .ptr 2 0), (45, bS r4220)] [(0, .row 58 (Enc.cells xo)), (1, .row 29 [iS 0, iS 0]), (2, .row 29 (Enc.cells c2q1))] 3 (by kernel_rfl) ?_
                  exact hK4214 (r4220) _ _ _ h (leSt_m [(0, 1), (1, 2)] [] (by (try simp only [g4215, g4216, g4217, g4218, g4219]) <;> simp only [push_cast, seval]) (by (try simp only [g4215, g4216, g4217, g4218, g4219]) <;> simp only [push_cast, seval]) rfl rfl rfl)
              · refine rs 11 [] [] (by kernel_rfl) allP_nil ?_
                obtain ⟨r4221, hr4221, h⟩ := bind_sx h
                refine run_call 22 [.sl xo.Line.length (fl xo.Line), iS xo.By] (some 43) (by kernel_rfl) ?_
                refine call_0 (taskmillref_Has_spec xo.Line xo.By r4221 hr4221) (by simp only [push_cast, seval]) (by simp only [push_cast, seval]) ?_
                refine back_f ?_
                refine rs 2 [] [] (by kernel_rfl) allP_nil ?_
                refine rf [(2, .ptr 1 0), (3, .ptr 2 0), (45, bS r4221)] [(0, .row 58 (Enc.cells xo)), (1, .row 29 [iS 0, iS 0]), (2, .row 29 (Enc.cells c2q1))] 3 (by kernel_rfl) ?_
                exact hK4214 (r4221) _ _ _ h (leSt_m [(0, 1), (1, 2)] [] (by (try simp only [g4215, g4216, g4217, g4218]) <;> simp only [push_cast, seval]) (by (try simp only [g4215, g4216, g4217, g4218]) <;> simp only [push_cast, seval]) rfl rfl rfl)
          · refine rs 9 [] [] (by kernel_rfl) allP_nil ?_
            refine run_br h 31 (.inr (by kernel_rfl)) (fun g4222 h => ?_) (fun g4222 h => ?_)
            · refine rn 16 [(1, .ptr 0 0), (2, .ptr 1 0), (3, .ptr 2 0), (19, bS true), (27, .gd true (bS false)), (31, .gd true (bS true))] [(0, .row 58 (Enc.cells xo)), (1, .row 29 [iS 0, iS 0]), (2, .row 29 (Enc.cells c2q1))] 3 (by kernel_rfl) ?_
              refine rs 7 [] [] (by kernel_rfl) allP_nil ?_
              refine run_br h 38 (.inr (by kernel_rfl)) (fun g4223 h => ?_) (fun g4223 h => ?_)
              · refine rs 7 [] [] (by kernel_rfl) allP_nil ?_
                refine rf [(2, .ptr 1 0), (3, .ptr 2 0), (45, bS true)] [(0, .row 58 (Enc.cells xo)), (1, .row 29 [iS 0, iS 0]), (2, .row 29 (Enc.cells c2q1))] 3 (by kernel_rfl) ?_
                exact hK4214 (true) _ _ _ h (leSt_m [(0, 1), (1, 2)] [] (by (try simp only [g4215, g4216, g4222, g4223]) <;> simp only [push_cast, seval]) (by (try simp only [g4215, g4216, g4222, g4223]) <;> simp only [push_cast, seval]) rfl rfl rfl)
              · refine rs 4 [] [] (by kernel_rfl) allP_nil ?_
                obtain ⟨r4224, hr4224, h⟩ := bind_sx h
                refine run_call 22 [.sl xo.Line.length (fl xo.Line), iS xo.By] (some 43) (by kernel_rfl) ?_
                refine call_0 (taskmillref_Has_spec xo.Line xo.By r4224 hr4224) (by simp only [push_cast, seval]) (by simp only [push_cast, seval]) ?_
                refine back_f ?_
                refine rs 2 [] [] (by kernel_rfl) allP_nil ?_
                refine rf [(2, .ptr 1 0), (3, .ptr 2 0), (45, bS r4224)] [(0, .row 58 (Enc.cells xo)), (1, .row 29 [iS 0, iS 0]), (2, .row 29 (Enc.cells c2q1))] 3 (by kernel_rfl) ?_
                exact hK4214 (r4224) _ _ _ h (leSt_m [(0, 1), (1, 2)] [] (by (try simp only [g4215, g4216, g4222, g4223]) <;> simp only [push_cast, seval]) (by (try simp only [g4215, g4216, g4222, g4223]) <;> simp only [push_cast, seval]) rfl rfl rfl)
            · refine rn 16 [(1, .ptr 0 0), (2, .ptr 1 0), (3, .ptr 2 0), (19, bS true), (27, .gd true (bS false)), (31, .gd true (bS false))] [(0, .row 58 (Enc.cells xo)), (1, .row 29 [iS 0, iS 0]), (2, .row 29 (Enc.cells c2q1))] 3 (by kernel_rfl) ?_
              refine rs 11 [] [] (by kernel_rfl) allP_nil ?_
              obtain ⟨r4225, hr4225, h⟩ := bind_sx h
              refine run_call 22 [.sl xo.Line.length (fl xo.Line), iS xo.By] (some 43) (by kernel_rfl) ?_
              refine call_0 (taskmillref_Has_spec xo.Line xo.By r4225 hr4225) (by simp only [push_cast, seval]) (by simp only [push_cast, seval]) ?_
              refine back_f ?_
              refine rs 2 [] [] (by kernel_rfl) allP_nil ?_
              refine rf [(2, .ptr 1 0), (3, .ptr 2 0), (45, bS r4225)] [(0, .row 58 (Enc.cells xo)), (1, .row 29 [iS 0, iS 0]), (2, .row 29 (Enc.cells c2q1))] 3 (by kernel_rfl) ?_
              exact hK4214 (r4225) _ _ _ h (leSt_m [(0, 1), (1, 2)] [] (by (try simp only [g4215, g4216, g4222]) <;> simp only [push_cast, seval]) (by (try simp only [g4215, g4216, g4222]) <;> simp only [push_cast, seval]) rfl rfl rfl)
        · refine rs 26 [] [] (by kernel_rfl) allP_nil ?_
          refine rf [(2, .ptr 1 0), (3, .ptr 2 0), (45, bS false)] [(0, .row 58 (Enc.cells xo)), (1, .row 29 [iS 0, iS 0]), (2, .row 29 (Enc.cells c2q1))] 3 (by kernel_rfl) ?_
          exact hK4214 (false) _ _ _ h (leSt_m [(0, 1), (1, 2)] [] (by (try simp only [g4215]) <;> simp only [push_cast, seval]) (by (try simp only [g4215]) <;> simp only [push_cast, seval]) rfl rfl rfl)
      · rintro t45q2 h
        try dsimp only at h ⊢
        unfold taskmillref_OnceFault_j2 at h
        refine cond_sx h (by kernel_rfl) (fun g4228 h => ?_) (fun g4228 h => ?_)
        · refine reg_f ?_
          obtain ⟨r4227, hr4227, h⟩ := bind_sx h
          refine run_call 19 [iS 5, iS 0] (some 46) (by kernel_rfl) ?_
          refine call_0 (taskmillref_F_spec 5 0 r4227 hr4227) (by simp only [push_cast, seval]) (by simp only [push_cast, seval]) ?_
          refine back_f ?_
          refine rs 1 [] [] (by kernel_rfl) allP_nil ?_
          refine rf [(2, .ptr 0 0), (3, .ptr 1 0)] [(0, .row 29 [iS 0, iS 0]), (1, .row 29 (Enc.cells r4227))] 2 (by kernel_rfl) ?_
          exact hK4201 (r4227) _ _ _ h (leSt_m [(0, 0), (1, 1)] [] (by simp only [push_cast, seval]) (by simp only [push_cast, seval]) rfl rfl rfl)
        · exact hK4201 (c2q1) _ _ _ h (leSt_m [(0, 0), (1, 1)] [] (by simp only [push_cast, seval]) (by simp only [push_cast, seval]) rfl rfl rfl)
    · rintro c1q1 h
      try dsimp only at h ⊢
      unfold taskmillref_OnceFault_j1 at h
      refine seq_np ?_
      refine reg_f ?_
      refine rs 2 [] [] (by kernel_rfl) allP_nil ?_
      refine rf [(2, .ptr 0 0)] [(0, .row 29 (Enc.cells c1q1)), (1, .row 29 (Enc.cells c1q1))] 2 (by kernel_rfl) ?_
      refine wk_id ?_
      obtain rfl := Option.some.inj h
      refine ret_at (.agg (Enc.cells c1q1)) (by kernel_rfl) ?_
      exact ret_e [] [] (by simp only [push_cast, seval]) (by simp only [push_cast, seval]) rfl rfl rfl

set_option maxRecDepth 100000 in
set_option maxHeartbeats 10000000 in
theorem taskmilllaw_sameOnce_spec (xa : Once) (b : Once) (r : Bool) (h : taskmilllaw_sameOnce xa b = some r) : SpecW Try.prog 32 [.agg (Enc.cells xa), .agg (Enc.cells b)] [] 0 (fun x h n => x = bS r ∧ h = [] ∧ n = 0) := by
  unfold taskmilllaw_sameOnce at h
  refine spec_of (draw_ok _) Try.func32 rfl (by decide) rfl (by kernel_rfl) ?_
  refine seq_np ?_
  refine reg_f ?_
  refine rs 3 [] [] (by kernel_rfl) allP_nil ?_
  refine rf [(2, .ptr 0 0), (3, .ptr 1 0)] [(0, .row 58 (Enc.cells xa)), (1, .row 58 (Enc.cells b))] 2 (by kernel_rfl) ?_
  refine wk_id ?_
  refine seq_cut (A := Bool) (fun a => ([(4, bS a)], [], 0)) (fun a => (taskmilllaw_sameOnce_j1 a) = some r) (fun K4246 hK4246 => ?_) ?_
  · refine reg_f ?_
    refine rs 6 [] [] (by kernel_rfl) allP_nil ?_
    refine run_br h 10 (.inl (by kernel_rfl)) (fun g4247 h => ?_) (fun g4247 h => ?_)
    · refine rs 7 [] [] (by kernel_rfl) allP_nil ?_
      refine run_br h 17 (.inl (by kernel_rfl)) (fun g4248 h => ?_) (fun g4248 h => ?_)
      · refine rs 4 [] [] (by kernel_rfl) allP_nil ?_
        obtain ⟨r4249, hr4249, h⟩ := bind_sx h
        refine run_call 23 [.sl xa.Line.length (fl xa.Line), .sl b.Line.length (fl b.Line)] (some 22) (by kernel_rfl) ?_
        refine call_0 (taskmillref_Ints_spec xa.Line b.Line r4249 hr4249) (by simp only [push_cast, seval]) (by simp only [push_cast, seval]) ?_
        refine back_f ?_
        refine rs 2 [] [] (by kernel_rfl) allP_nil ?_
        refine rf [(4, bS r4249)] [(0, .row 58 (Enc.cells xa)), (1, .row 58 (Enc.cells b))] 2 (by kernel_rfl) ?_
        exact hK4246 (r4249) _ _ _ h (leSt_m [] [] (by (try simp only [g4247, g4248]) <;> simp only [push_cast, seval]) (by (try simp only [g4247, g4248]) <;> simp only [push_cast, seval]) rfl rfl rfl)
      · refine rs 7 [] [] (by kernel_rfl) allP_nil ?_
        refine rf [(4, bS false)] [(0, .row 58 (Enc.cells xa)), (1, .row 58 (Enc.cells b))] 2 (by kernel_rfl) ?_
        exact hK4246 (false) _ _ _ h (leSt_m [] [] (by (try simp only [g4247, g4248]) <;> simp only [push_cast, seval]) (by (try simp only [g4247, g4248]) <;> simp only [push_cast, seval]) rfl rfl rfl)
    · refine rs 14 [] [] (by kernel_rfl) allP_nil ?_
      refine rf [(4, bS false)] [(0, .row 58 (Enc.cells xa)), (1, .row 58 (Enc.cells b))] 2 (by kernel_rfl) ?_
      exact hK4246 (false) _ _ _ h (leSt_m [] [] (by (try simp only [g4247]) <;> simp only [push_cast, seval]) (by (try simp only [g4247]) <;> simp only [push_cast, seval]) rfl rfl rfl)
  · rintro t4q1 h
    try dsimp only at h ⊢
    unfold taskmilllaw_sameOnce_j1 at h
    obtain rfl := Option.some.inj h
    refine ret_at (bS t4q1) (by kernel_rfl) ?_
    exact ret_e [] [] (by simp only [push_cast, seval]) (by simp only [push_cast, seval]) rfl rfl rfl

end Go.Proofs.Ytoamlpgadgfhlaa
