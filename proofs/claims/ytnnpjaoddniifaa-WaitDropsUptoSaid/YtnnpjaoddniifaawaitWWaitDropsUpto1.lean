/-
  What laws of the chapter wait compute, and lemmas on it.
  No conditions.
-/
import Derived.Test.YtnnpjaoddniifaaProg
import Derived.Test.YtnnpjaoddniifaawaitG
set_option linter.unusedSimpArgs false
set_option linter.unusedVariables false
namespace Go.Proofs.Ytnnpjaoddniifaa
open Go Go.Sx
attribute [local irreducible] Wk RunAt
theorem follows : Try.prog.follows .mixedOrders = true := by kernel_rfl
set_option maxRecDepth 100000 in
set_option maxHeartbeats 200000000 in
theorem wait_fault_spec (code : Int) (xat : Int) (r : Fault) (h : wait_fault code xat = some r) : SpecW Try.prog 30 [iS code, iS xat] [] 0 (fun x h n => x = .agg (Enc.cells r) ∧ h = [] ∧ n = 0) := by
  unfold wait_fault at h
  refine spec_of (draw_ok _) Try.func30 rfl (by decide) rfl (by kernel_rfl) ?_
  refine seq_np ?_
  refine reg_f ?_
  refine rs 1 [] [] (by kernel_rfl) allP_nil ?_
  refine rf [(0, iS code), (1, iS xat), (4, .ptr 0 0)] [(0, .row 27 [iS 0, iS 0])] 1 (by kernel_rfl) ?_
  refine wk_id ?_
  refine seq_np ?_
  refine reg_f ?_
  refine rs 4 [] [] (by kernel_rfl) allP_nil ?_
  refine rf [(4, .ptr 0 0)] [(0, .row 27 [iS code, iS xat])] 1 (by kernel_rfl) ?_
  refine wk_id ?_
  obtain rfl := Option.some.inj h
  refine ret_at (.agg [iS code, iS xat]) (by kernel_rfl) ?_
  exact ret_e [] [] (by simp only [push_cast, seval]) (by simp only [push_cast, seval]) rfl rfl rfl

set_option maxRecDepth 100000 in
set_option maxHeartbeats 200000000 in
theorem wait_Check_spec (l : (List Line)) (r : Fault) (h : wait_Check l = some r) : SpecW Try.prog 11 [.sl l.length (fl l)] [] 0 (fun x h n => x = .agg (Enc.cells r) ∧ h = [] ∧ n = 0) := by
  unfold wait_Check at h
  refine spec_of (draw_ok _) Try.func11 rfl (by decide) rfl (by kernel_rfl) ?_
  refine seq_np ?_
  refine reg_f ?_
  refine rs 1 [] [] (by kernel_rfl) allP_nil ?_
  refine rf [(0, .sl l.length (fl l)), (2, .ptr 0 0)] [(0, .row 27 [iS 0, iS 0])] 1 (by kernel_rfl) ?_
  refine wk_id ?_
  refine seq_np ?_
  refine seq_np ?_
  refine reg_f ?_
  refine rs 3 [] [] (by kernel_rfl) allP_nil ?_
  refine rf [(0, .sl l.length (fl l)), (2, .ptr 0 0), (11, bS (decide ((5000 : Int) < ((l.length : Nat) : Int))))] [(0, .row 27 [iS 0, iS 0])] 1 (by kernel_rfl) ?_
  refine wk_id ?_
  refine cond_sx h (by kernel_rfl) (fun g516 h => ?_) (fun g516 h => ?_)
  · refine seq_np ?_
    refine reg_f ?_
    obtain ⟨r102, hr102, h⟩ := bind_sx h
    refine run_call 30 [iS 2, iS 0] (some 12) (by kernel_rfl) ?_
    refine call_0 (wait_fault_spec 2 0 r102 hr102) (by simp only [push_cast, seval]) (by simp only [push_cast, seval]) ?_
    refine back_f ?_
    refine rs 1 [] [] (by kernel_rfl) allP_nil ?_
    refine rf [(2, .ptr 0 0)] [(0, .row 27 (Enc.cells r102))] 1 (by kernel_rfl) ?_
    refine wk_id ?_
    obtain rfl := Option.some.inj h
    refine ret_at (.agg (Enc.cells r102)) (by kernel_rfl) ?_
    exact ret_e [] [] (by simp only [push_cast, seval]) (by simp only [push_cast, seval]) rfl rfl rfl
  · refine wk_id ?_
    refine seq_np ?_
    refine reg_f ?_
    refine rs 3 [] [] (by kernel_rfl) allP_nil ?_
    refine rf [(0, .sl l.length (fl l)), (2, .ptr 0 0), (3, .mp 1), (4, iS 0)] [(0, .row 27 [iS 0, iS 0]), (1, .map (mi []))] 2 (by kernel_rfl) ?_
    refine wk_id ?_
    refine seq_np ?_
    refine seq_np ?_
    refine reg_f ?_
    refine rs 3 [] [] (by kernel_rfl) allP_nil ?_
    refine rf [(0, .sl l.length (fl l)), (2, .ptr 0 0), (3, .mp 1), (4, iS 0), (14, .sl l.length (fl l)), (15, iS ((l.length : Nat) : Int)), (16, iS 0)] [(0, .row 27 [iS 0, iS 0]), (1, .map (mi []))] 2 (by kernel_rfl) ?_
    refine wk_id ?_
    refine block_np ?_
    refine loop_sx (S := Int × Int × (List (Int × Int))) (fun a => ([(0, .sl l.length (fl l)), (2, .ptr 0 0), (3, .mp 1), (4, iS a.1), (14, .sl l.length (fl l)), (15, iS ((l.length : Nat) : Int)), (16, iS a.2.1)], [(0, .row 27 [iS 0, iS 0]), (1, .map (mi a.2.2))], 2)) h (leSt_m [(0, 0), (1, 1)] [] (by simp only [push_cast, seval]) (by simp only [push_cast, seval]) rfl rfl rfl) ?_
    rintro ⟨n7, t16q7, c1q29⟩ o3 R3 h hr3 hn3 hx3 ht3
    try dsimp only at h hn3 ⊢
    unfold wait_Check_l2 at h
    try dsimp only at h
    refine seq_np ?_
    refine reg_f ?_
    refine rs 1 [] [] (by kernel_rfl) allP_nil ?_
    refine rf [(0, .sl l.length (fl l)), (2, .ptr 0 0), (3, .mp 1), (4, iS n7), (14, .sl l.length (fl l)), (15, iS ((l.length : Nat) : Int)), (16, iS t16q7), (17, bS (decide (t16q7 < ((l.length : Nat) : Int))))] [(0, .row 27 [iS 0, iS 0]), (1, .map (mi c1q29))] 2 (by kernel_rfl) ?_
    refine wk_id ?_
    refine seq_np ?_
    refine cond_sx h (by kernel_rfl) (fun g515 h => ?_) (fun g515 h => ?_)
    · refine wk_id ?_
      refine seq_np ?_
      refine block_np ?_
      refine chk_sx h (fun g426 h => ?_)
      refine seq_np ?_
      refine reg_f ?_
      have k425 : 0 ≤ t16q7 ∧ t16q7 < ((l.length : Nat) : Int) := by first | simpa only [Bool.and_eq_true, decide_eq_true_eq, bne_iff_ne, ne_eq] using g426 | (simp at g426 ⊢; omega)
      refine rs 6 [none, some ⟨.iptr (fl l) ((t16q7).toNat * 2), [], 2, []⟩, some ⟨.agg (Enc.cells (ix l t16q7)), [], 2, []⟩] _ (by kernel_rfl) (allP_cons (ob_ldw l t16q7 2 ((t16q7).toNat * 2) k425 rfl (by first | rfl | omega) [iS (ix l t16q7).At, .sl (ix l t16q7).Tasks.length (fl (ix l t16q7).Tasks)] rfl 2 []) (allP_cons (ob_ix_l l 2 2 t16q7 k425) allP_nil)) ?_
      refine rf [(0, .sl l.length (fl l)), (2, .ptr 0 0), (3, .mp 1), (4, iS n7), (5, iS t16q7), (6, .ptr 2 0), (14, .sl l.length (fl l)), (15, iS ((l.length : Nat) : Int)), (16, iS t16q7)] [(0, .row 27 [iS 0, iS 0]), (1, .map (mi c1q29)), (2, .row 55 (Enc.cells (ix l t16q7)))] 3 (by kernel_rfl) ?_
      refine wk_id ?_
      refine seq_np ?_
      refine seq_np ?_
      refine reg_f ?_
      refine rs 6 [] [] (by kernel_rfl) allP_nil ?_
      refine rf [(0, .sl l.length (fl l)), (2, .ptr 0 0), (3, .mp 1), (4, iS (IntKind.i64.wrap (n7 + (((ix l t16q7).Tasks.length : Nat) : Int)))), (5, iS t16q7), (6, .ptr 2 0), (14, .sl l.length (fl l)), (15, iS ((l.length : Nat) : Int)), (16, iS t16q7)] [(0, .row 27 [iS 0, iS 0]), (1, .map (mi c1q29)), (2, .row 55 (Enc.cells (ix l t16q7)))] 3 (by kernel_rfl) ?_
      refine wk_id ?_
      refine seq_np ?_
      refine reg_f ?_
      refine rs 2 [] [] (by kernel_rfl) allP_nil ?_
      refine rf [(0, .sl l.length (fl l)), (2, .ptr 0 0), (3, .mp 1), (4, iS (IntKind.i64.wrap (n7 + (((ix l t16q7).Tasks.length : Nat) : Int)))), (5, iS t16q7), (6, .ptr 2 0), (14, .sl l.length (fl l)), (15, iS ((l.length : Nat) : Int)), (16, iS t16q7), (27, bS (decide ((5000 : Int) < (IntKind.i64.wrap (n7 + (((ix l t16q7).Tasks.length : Nat) : Int))))))] [(0, .row 27 [iS 0, iS 0]), (1, .map (mi c1q29)), (2, .row 55 (Enc.cells (ix l t16q7)))] 3 (by kernel_rfl) ?_
      refine wk_id ?_
      refine cond_sx h (by kernel_rfl) (fun g514 h => ?_) (fun g514 h => ?_)
      · refine seq_np ?_
        refine reg_f ?_
        refine rs 1 [] [] (by kernel_rfl) allP_nil ?_
        obtain ⟨r430, hr430, h⟩ := bind_sx h
        refine run_call 30 [iS 2, iS t16q7] (some 29) (by kernel_rfl) ?_
        refine call_0 (wait_fault_spec 2 t16q7 r430 hr430) (by simp only [push_cast, seval]) (by simp only [push_cast, seval]) ?_
        refine back_f ?_
        refine rs 1 [] [] (by kernel_rfl) allP_nil ?_
        refine rf [(2, .ptr 0 0)] [(0, .row 27 (Enc.cells r430)), (1, .map (mi c1q29)), (2, .row 55 (Enc.cells (ix l t16q7)))] 3 (by kernel_rfl) ?_
        refine wk_id ?_
        refine rt_cast ht3 ?_
        obtain ⟨r0, h, e0⟩ := map_sx h
        have e1 := hr3 r0 e0.symm
        subst r0
        obtain rfl := Option.some.inj h
        refine ret_at (.agg (Enc.cells r430)) (by kernel_rfl) ?_
        exact ret_e [] [] (by simp only [push_cast, seval]) (by simp only [push_cast, seval]) rfl rfl rfl
      · refine wk_id ?_
        refine seq_np ?_
        refine chk_sx h (fun g444 h => ?_)
        refine seq_cut (A := Unit) (fun _ => ([(0, .sl l.length (fl l)), (2, .ptr 0 0), (3, .mp 1), (4, iS (IntKind.i64.wrap (n7 + (((ix l t16q7).Tasks.length : Nat) : Int)))), (5, iS t16q7), (6, .ptr 2 0), (14, .sl l.length (fl l)), (15, iS ((l.length : Nat) : Int)), (16, iS t16q7), (48, bS (bif (decide ((0 : Int) < t16q7)) then ((decide ((ix l t16q7).At ≤ (ix l (IntKind.i64.wrap (t16q7 - 1))).At)) || ((((ix l t16q7).Tasks.length : Nat) : Int) == 0)) else ((((ix l t16q7).Tasks.length : Nat) : Int) == 0)))], [(0, .row 27 [iS 0, iS 0]), (1, .map (mi c1q29)), (2, .row 55 (Enc.cells (ix l t16q7)))], 22)) (fun _ => True) (fun K441 hK441 => ?_) (fun _ _ => ?_)
        · refine reg_t ?_
          refine rs 3 [] [] (by kernel_rfl) allP_nil ?_
          refine run_split 32 (decide ((0 : Int) < t16q7)) (.inl (by kernel_rfl)) (fun g442 => ?_) (fun g442 => ?_)
          · have k443 : 0 ≤ (IntKind.i64.wrap (t16q7 - 1)) ∧ (IntKind.i64.wrap (t16q7 - 1)) < ((l.length : Nat) : Int) := by have e := or_use g444 (by first | ((try simp only [g442]) <;> rfl) | ((try simp only [g442]); rfl) | (exfalso; clear h; simp_all; done)); first | simpa only [Bool.and_eq_true, decide_eq_true_eq, bne_iff_ne, ne_eq] using e | (simp at e ⊢; omega)
            refine rs 11 [none, none, none, some ⟨.iptr (fl l) (((IntKind.i64.wrap (t16q7 - 1))).toNat * 2), [], 9, []⟩, none, some ⟨iS (ix l (IntKind.i64.wrap (t16q7 - 1))).At, [], 11, []⟩] _ (by kernel_rfl) (allP_cons (ob_ld l (IntKind.i64.wrap (t16q7 - 1)) 2 0 ((((IntKind.i64.wrap (t16q7 - 1))).toNat * 2) + 0) k443 rfl (by decide) (by first | rfl | omega) (dflS Try.prog 3) (iS (ix l (IntKind.i64.wrap (t16q7 - 1))).At) rfl 11 []) (allP_cons (ob_ix_l l 2 9 (IntKind.i64.wrap (t16q7 - 1)) k443) allP_nil)) ?_
            refine run_split 43 (decide ((ix l t16q7).At ≤ (ix l (IntKind.i64.wrap (t16q7 - 1))).At)) (.inl (by kernel_rfl)) (fun g445 => ?_) (fun g445 => ?_)
            · refine rs 5 [] [] (by kernel_rfl) allP_nil ?_
              refine rt [(0, .sl l.length (fl l)), (2, .ptr 0 0), (3, .mp 1), (4, iS (IntKind.i64.wrap (n7 + (((ix l t16q7).Tasks.length : Nat) : Int)))), (5, iS t16q7), (6, .ptr 2 0), (14, .sl l.length (fl l)), (15, iS ((l.length : Nat) : Int)), (16, iS t16q7), (48, bS true)] [(0, .row 27 [iS 0, iS 0]), (1, .map (mi c1q29)), (2, .row 55 (Enc.cells (ix l t16q7)))] 22 follows (by kernel_rfl) ?_
              exact hK441 () _ _ _ trivial (leSt_m [(0, 0), (1, 1), (2, 2)] [] (by first | ((try simp only [g442, g445]) <;> simp only [push_cast, seval]; done) | ((try simp only [g442]); (try simp only [g445]); simp only [push_cast, seval]; done) | (exfalso; clear h; simp_all; done)) (by first | ((try simp only [g442, g445]) <;> simp only [push_cast, seval]; done) | ((try simp only [g442]); (try simp only [g445]); simp only [push_cast, seval]; done) | (exfalso; clear h; simp_all; done)) rfl rfl rfl)
            · refine rs 5 [] [] (by kernel_rfl) allP_nil ?_
              refine rt [(0, .sl l.length (fl l)), (2, .ptr 0 0), (3, .mp 1), (4, iS (IntKind.i64.wrap (n7 + (((ix l t16q7).Tasks.length : Nat) : Int)))), (5, iS t16q7), (6, .ptr 2 0), (14, .sl l.length (fl l)), (15, iS ((l.length : Nat) : Int)), (16, iS t16q7), (48, bS ((((ix l t16q7).Tasks.length : Nat) : Int) == 0))] [(0, .row 27 [iS 0, iS 0]), (1, .map (mi c1q29)), (2, .row 55 (Enc.cells (ix l t16q7)))] 22 follows (by kernel_rfl) ?_
              exact hK441 () _ _ _ trivial (leSt_m [(0, 0), (1, 1), (2, 2)] [] (by first | ((try simp only [g442, g445]) <;> simp only [push_cast, seval]; done) | ((try simp only [g442]); (try simp only [g445]); simp only [push_cast, seval]; done) | (exfalso; clear h; simp_all; done)) (by first | ((try simp only [g442, g445]) <;> simp only [push_cast, seval]; done) | ((try simp only [g442]); (try simp only [g445]); simp only [push_cast, seval]; done) | (exfalso; clear h; simp_all; done)) rfl rfl rfl)
          · refine rs 16 [] [] (by kernel_rfl) allP_nil ?_
            refine rt [(0, .sl l.length (fl l)), (2, .ptr 0 0), (3, .mp 1), (4, iS (IntKind.i64.wrap (n7 + (((ix l t16q7).Tasks.length : Nat) : Int)))), (5, iS t16q7), (6, .ptr 2 0), (14, .sl l.length (fl l)), (15, iS ((l.length : Nat) : Int)), (16, iS t16q7), (48, bS ((((ix l t16q7).Tasks.length : Nat) : Int) == 0))] [(0, .row 27 [iS 0, iS 0]), (1, .map (mi c1q29)), (2, .row 55 (Enc.cells (ix l t16q7)))] 22 follows (by kernel_rfl) ?_
            exact hK441 () _ _ _ trivial (leSt_m [(0, 0), (1, 1), (2, 2)] [] (by (try simp only [g442]) <;> simp only [push_cast, seval]) (by (try simp only [g442]) <;> simp only [push_cast, seval]) rfl rfl rfl)
        · dsimp only
          refine cond_sx h (by kernel_rfl) (fun g513 h => ?_) (fun g513 h => ?_)
          · refine seq_np ?_
            refine reg_f ?_
            refine rs 1 [] [] (by kernel_rfl) allP_nil ?_
            obtain ⟨r447, hr447, h⟩ := bind_sx h
            refine run_call 30 [iS 5, iS t16q7] (some 50) (by kernel_rfl) ?_
            refine call_0 (wait_fault_spec 5 t16q7 r447 hr447) (by simp only [push_cast, seval]) (by simp only [push_cast, seval]) ?_
            refine back_f ?_
            refine rs 1 [] [] (by kernel_rfl) allP_nil ?_
            refine rf [(2, .ptr 0 0)] [(0, .row 27 (Enc.cells r447)), (1, .map (mi c1q29)), (2, .row 55 (Enc.cells (ix l t16q7)))] 22 (by kernel_rfl) ?_
            refine wk_id ?_
            refine rt_cast ht3 ?_
            obtain ⟨r0, h, e0⟩ := map_sx h
            have e1 := hr3 r0 e0.symm
            subst r0
            obtain rfl := Option.some.inj h
            refine ret_at (.agg (Enc.cells r447)) (by kernel_rfl) ?_
            exact ret_e [] [] (by simp only [push_cast, seval]) (by simp only [push_cast, seval]) rfl rfl rfl
          · refine wk_id ?_
            refine seq_np ?_
            refine reg_f ?_
            refine rs 4 [] [] (by kernel_rfl) allP_nil ?_
            refine rf [(0, .sl l.length (fl l)), (2, .ptr 0 0), (3, .mp 1), (4, iS (IntKind.i64.wrap (n7 + (((ix l t16q7).Tasks.length : Nat) : Int)))), (5, iS t16q7), (14, .sl l.length (fl l)), (15, iS ((l.length : Nat) : Int)), (16, iS t16q7), (52, .sl (ix l t16q7).Tasks.length (fl (ix l t16q7).Tasks)), (53, iS (((ix l t16q7).Tasks.length : Nat) : Int)), (54, iS 0)] [(0, .row 27 [iS 0, iS 0]), (1, .map (mi c1q29)), (2, .row 55 (Enc.cells (ix l t16q7)))] 22 (by kernel_rfl) ?_
            refine wk_id ?_
            refine block_np ?_
            refine loop_sx (S := Int × (List (Int × Int))) (fun a => ([(0, .sl l.length (fl l)), (2, .ptr 0 0), (3, .mp 1), (4, iS (IntKind.i64.wrap (n7 + (((ix l t16q7).Tasks.length : Nat) : Int)))), (5, iS t16q7), (14, .sl l.length (fl l)), (15, iS ((l.length : Nat) : Int)), (16, iS t16q7), (52, .sl (ix l t16q7).Tasks.length (fl (ix l t16q7).Tasks)), (53, iS (((ix l t16q7).Tasks.length : Nat) : Int)), (54, iS a.1)], [(0, .row 27 [iS 0, iS 0]), (1, .map (mi a.2))], 2)) h (leSt_m [(0, 0), (1, 1)] [] (by simp only [push_cast, seval]) (by simp only [push_cast, seval]) rfl rfl rfl) ?_
            rintro ⟨t54q29, c1q37⟩ o4 R4 h hr4 hn4 hx4 ht4
            try dsimp only at h hn4 ⊢
            unfold wait_Check_l1 at h
            try dsimp only at h
            refine seq_np ?_
            refine reg_f ?_
            refine rs 1 [] [] (by kernel_rfl) allP_nil ?_
            refine rf [(0, .sl l.length (fl l)), (2, .ptr 0 0), (3, .mp 1), (4, iS (IntKind.i64.wrap (n7 + (((ix l t16q7).Tasks.length : Nat) : Int)))), (5, iS t16q7), (14, .sl l.length (fl l)), (15, iS ((l.length : Nat) : Int)), (16, iS t16q7), (52, .sl (ix l t16q7).Tasks.length (fl (ix l t16q7).Tasks)), (53, iS (((ix l t16q7).Tasks.length : Nat) : Int)), (54, iS t54q29), (55, bS (decide (t54q29 < (((ix l t16q7).Tasks.length : Nat) : Int))))] [(0, .row 27 [iS 0, iS 0]), (1, .map (mi c1q37))] 2 (by kernel_rfl) ?_
            refine wk_id ?_
            refine seq_np ?_
            refine cond_sx h (by kernel_rfl) (fun g512 h => ?_) (fun g512 h => ?_)
            · refine wk_id ?_
              refine seq_np ?_
              refine block_np ?_
              refine chk_sx h (fun g501 h => ?_)
              refine seq_np ?_
              refine reg_f ?_
              have k500 : 0 ≤ t54q29 ∧ t54q29 < (((ix l t16q7).Tasks.length : Nat) : Int) := by first | simpa only [Bool.and_eq_true, decide_eq_true_eq, bne_iff_ne, ne_eq] using g501 | (simp at g501 ⊢; omega)
              refine rs 3 [some ⟨.iptr (fl (ix l t16q7).Tasks) ((t54q29).toNat * 1), [], 2, []⟩, some ⟨iS (ix (ix l t16q7).Tasks t54q29), [], 2, []⟩] _ (by kernel_rfl) (allP_cons (ob_ld (ix l t16q7).Tasks t54q29 1 0 ((t54q29).toNat * 1) k500 rfl (by decide) (by first | rfl | omega) (dflS Try.prog 3) (iS (ix (ix l t16q7).Tasks t54q29)) rfl 2 []) (allP_cons (ob_ix_l (ix l t16q7).Tasks 1 2 t54q29 k500) allP_nil)) ?_
              refine rf [(0, .sl l.length (fl l)), (2, .ptr 0 0), (3, .mp 1), (4, iS (IntKind.i64.wrap (n7 + (((ix l t16q7).Tasks.length : Nat) : Int)))), (5, iS t16q7), (8, iS (ix (ix l t16q7).Tasks t54q29)), (14, .sl l.length (fl l)), (15, iS ((l.length : Nat) : Int)), (16, iS t16q7), (52, .sl (ix l t16q7).Tasks.length (fl (ix l t16q7).Tasks)), (53, iS (((ix l t16q7).Tasks.length : Nat) : Int)), (54, iS t54q29)] [(0, .row 27 [iS 0, iS 0]), (1, .map (mi c1q37))] 2 (by kernel_rfl) ?_
              refine wk_id ?_
              refine seq_np ?_
              refine seq_np ?_
              refine reg_f ?_
              refine rs 2 [] [] (by kernel_rfl) allP_nil ?_
              refine rf [(0, .sl l.length (fl l)), (2, .ptr 0 0), (3, .mp 1), (4, iS (IntKind.i64.wrap (n7 + (((ix l t16q7).Tasks.length : Nat) : Int)))), (5, iS t16q7), (8, iS (ix (ix l t16q7).Tasks t54q29)), (14, .sl l.length (fl l)), (15, iS ((l.length : Nat) : Int)), (16, iS t16q7), (52, .sl (ix l t16q7).Tasks.length (fl (ix l t16q7).Tasks)), (53, iS (((ix l t16q7).Tasks.length : Nat) : Int)), (54, iS t54q29), (59, bS (decide ((ix (ix l t16q7).Tasks t54q29) < 1)))] [(0, .row 27 [iS 0, iS 0]), (1, .map (mi c1q37))] 2 (by kernel_rfl) ?_
              refine wk_id ?_
              refine cond_sx h (by kernel_rfl) (fun g511 h => ?_) (fun g511 h => ?_)
              · refine seq_np ?_
                refine reg_f ?_
                refine rs 1 [] [] (by kernel_rfl) allP_nil ?_
                obtain ⟨r505, hr505, h⟩ := bind_sx h
                refine run_call 30 [iS 3, iS t16q7] (some 61) (by kernel_rfl) ?_
                refine call_0 (wait_fault_spec 3 t16q7 r505 hr505) (by simp only [push_cast, seval]) (by simp only [push_cast, seval]) ?_
                refine back_f ?_
                refine rs 1 [] [] (by kernel_rfl) allP_nil ?_
                refine rf [(2, .ptr 0 0)] [(0, .row 27 (Enc.cells r505)), (1, .map (mi c1q37))] 2 (by kernel_rfl) ?_
                refine wk_id ?_
                refine rt_cast ht4 ?_
                obtain ⟨r0, h, e0⟩ := map_sx h
                have e1 := hr4 r0 e0.symm
                subst r0
                refine rt_cast ht3 ?_
                obtain ⟨r0, h, e0⟩ := map_sx h
                have e1 := hr3 r0 e0.symm
                subst r0
                obtain rfl := Option.some.inj h
                refine ret_at (.agg (Enc.cells r505)) (by kernel_rfl) ?_
                exact ret_e [] [] (by simp only [push_cast, seval]) (by simp only [push_cast, seval]) rfl rfl rfl
              · refine wk_id ?_
                refine seq_np ?_
                refine seq_np ?_
                refine reg_f ?_
                refine rs 4 [none, none, some ⟨iS (miGet c1q37 (ix (ix l t16q7).Tasks t54q29)), [], 2, [1]⟩] _ (by kernel_rfl) (allP_cons (ob_look (.int .i64) rfl (ix (ix l t16q7).Tasks t54q29) c1q37 1 2) allP_nil) ?_
                refine rf [(0, .sl l.length (fl l)), (2, .ptr 0 0), (3, .mp 1), (4, iS (IntKind.i64.wrap (n7 + (((ix l t16q7).Tasks.length : Nat) : Int)))), (5, iS t16q7), (8, iS (ix (ix l t16q7).Tasks t54q29)), (14, .sl l.length (fl l)), (15, iS ((l.length : Nat) : Int)), (16, iS t16q7), (52, .sl (ix l t16q7).Tasks.length (fl (ix l t16q7).Tasks)), (53, iS (((ix l t16q7).Tasks.length : Nat) : Int)), (54, iS t54q29), (65, bS (decide ((0 : Int) < (miGet c1q37 (ix (ix l t16q7).Tasks t54q29)))))] [(0, .row 27 [iS 0, iS 0]), (1, .map (mi c1q37))] 2 (by kernel_rfl) ?_
                refine wk_id ?_
                refine cond_sx h (by kernel_rfl) (fun g510 h => ?_) (fun g510 h => ?_)
                · refine seq_np ?_
                  refine reg_f ?_
                  refine rs 1 [] [] (by kernel_rfl) allP_nil ?_
                  obtain ⟨r509, hr509, h⟩ := bind_sx h
                  refine run_call 30 [iS 10, iS t16q7] (some 67) (by kernel_rfl) ?_
                  refine call_0 (wait_fault_spec 10 t16q7 r509 hr509) (by simp only [push_cast, seval]) (by simp only [push_cast, seval]) ?_
                  refine back_f ?_
                  refine rs 1 [] [] (by kernel_rfl) allP_nil ?_
                  refine rf [(2, .ptr 0 0)] [(0, .row 27 (Enc.cells r509)), (1, .map (mi c1q37))] 2 (by kernel_rfl) ?_
                  refine wk_id ?_
                  refine rt_cast ht4 ?_
                  obtain ⟨r0, h, e0⟩ := map_sx h
                  have e1 := hr4 r0 e0.symm
                  subst r0
                  refine rt_cast ht3 ?_
                  obtain ⟨r0, h, e0⟩ := map_sx h
                  have e1 := hr3 r0 e0.symm
                  subst r0
                  obtain rfl := Option.some.inj h
                  refine ret_at (.agg (Enc.cells r509)) (by kernel_rfl) ?_
                  exact ret_e [] [] (by simp only [push_cast, seval]) (by simp only [push_cast, seval]) rfl rfl rfl
                · refine wk_id ?_
                  refine reg_f ?_
                  refine rs 3 [none, none, some ⟨.any, [(1, .map (mi (miSet c1q37 (ix (ix l t16q7).Tasks t54q29) 1)))], 2, [1]⟩] _ (by kernel_rfl) (allP_cons (ob_mset (.int .i64) rfl (ix (ix l t16q7).Tasks t54q29) 1 c1q37 1 2) allP_nil) ?_
                  refine rf [(0, .sl l.length (fl l)), (2, .ptr 0 0), (3, .mp 1), (4, iS (IntKind.i64.wrap (n7 + (((ix l t16q7).Tasks.length : Nat) : Int)))), (5, iS t16q7), (14, .sl l.length (fl l)), (15, iS ((l.length : Nat) : Int)), (16, iS t16q7), (52, .sl (ix l t16q7).Tasks.length (fl (ix l t16q7).Tasks)), (53, iS (((ix l t16q7).Tasks.length : Nat) : Int)), (54, iS t54q29)] [(0, .row 27 [iS 0, iS 0]), (1, .map (mi (miSet c1q37 (ix (ix l t16q7).Tasks t54q29) 1)))] 2 (by kernel_rfl) ?_
                  refine wk_id ?_
                  refine wk_id ?_
                  refine reg_f ?_
                  refine rs 2 [] [] (by kernel_rfl) allP_nil ?_
                  refine rf [(0, .sl l.length (fl l)), (2, .ptr 0 0), (3, .mp 1), (4, iS (IntKind.i64.wrap (n7 + (((ix l t16q7).Tasks.length : Nat) : Int)))), (5, iS t16q7), (14, .sl l.length (fl l)), (15, iS ((l.length : Nat) : Int)), (16, iS t16q7), (52, .sl (ix l t16q7).Tasks.length (fl (ix l t16q7).Tasks)), (53, iS (((ix l t16q7).Tasks.length : Nat) : Int)), (54, iS (IntKind.i64.wrap (t54q29 + 1)))] [(0, .row 27 [iS 0, iS 0]), (1, .map (mi (miSet c1q37 (ix (ix l t16q7).Tasks t54q29) 1)))] 2 (by kernel_rfl) ?_
                  exact hn4 ((IntKind.i64.wrap (t54q29 + 1)), (miSet c1q37 (ix (ix l t16q7).Tasks t54q29) 1)) _ _ _ (Option.some.inj h).symm (leSt_m [(0, 0), (1, 1)] [] (by simp only [push_cast, seval]) (by simp only [push_cast, seval]) rfl rfl rfl)
            · change R4 (.exit 2) _ _ _
              refine ex_cast hx4 (id := 2) ?_
              obtain ⟨r0, h, e0⟩ := map_sx h
              have e1 := hr4 r0 e0.symm
              subst r0
              refine wk_id ?_
              refine wk_id ?_
              refine wk_id ?_
              refine reg_f ?_
              refine rs 2 [] [] (by kernel_rfl) allP_nil ?_
              refine rf [(0, .sl l.length (fl l)), (2, .ptr 0 0), (3, .mp 1), (4, iS (IntKind.i64.wrap (n7 + (((ix l t16q7).Tasks.length : Nat) : Int)))), (14, .sl l.length (fl l)), (15, iS ((l.length : Nat) : Int)), (16, iS (IntKind.i64.wrap (t16q7 + 1)))] [(0, .row 27 [iS 0, iS 0]), (1, .map (mi c1q37))] 2 (by kernel_rfl) ?_
              exact hn3 ((IntKind.i64.wrap (n7 + (((ix l t16q7).Tasks.length : Nat) : Int))), (IntKind.i64.wrap (t16q7 + 1)), c1q37) _ _ _ (Option.some.inj h).symm (leSt_m [(0, 0), (1, 1)] [] (by simp only [push_cast, seval]) (by simp only [push_cast, seval]) rfl rfl rfl)
    · change R3 (.exit 0) _ _ _
      refine ex_cast hx3 (id := 0) ?_
      obtain ⟨r0, h, e0⟩ := map_sx h
      have e1 := hr3 r0 e0.symm
      subst r0
      refine wk_id ?_
      refine wk_id ?_
      refine seq_np ?_
      refine reg_f ?_
      refine rs 2 [] [] (by kernel_rfl) allP_nil ?_
      refine rf [(2, .ptr 0 0)] [(0, .row 27 [iS 0, iS 0]), (1, .map (mi c1q29))] 2 (by kernel_rfl) ?_
      refine wk_id ?_
      obtain rfl := Option.some.inj h
      refine ret_at (.agg [iS 0, iS 0]) (by kernel_rfl) ?_
      exact ret_e [] [] (by simp only [push_cast, seval]) (by simp only [push_cast, seval]) rfl rfl rfl

set_option maxRecDepth 100000 in
set_option maxHeartbeats 200000000 in
theorem slices_Index_int_spec (s : (List Int)) (v : Int) (r : Int) (h : slices_Index_int s v = some r) : SpecW Try.prog 52 [.sl s.length (fl s), iS v] [] 0 (fun x h n => x = iS r ∧ h = [] ∧ n = 0) := by
  unfold slices_Index_int at h
  refine spec_of (draw_ok _) Try.func52 rfl (by decide) rfl (by kernel_rfl) ?_
  refine seq_np ?_
  refine reg_f ?_
  refine rs 1 [] [] (by kernel_rfl) allP_nil ?_
  refine rf [(0, .sl s.length (fl s)), (1, iS v)] [] 0 (by kernel_rfl) ?_
  refine wk_id ?_
  refine seq_np ?_
  refine seq_np ?_
  refine reg_f ?_
  refine rs 3 [] [] (by kernel_rfl) allP_nil ?_
  refine rf [(0, .sl s.length (fl s)), (1, iS v), (7, iS ((s.length : Nat) : Int)), (8, iS 0)] [] 0 (by kernel_rfl) ?_
  refine wk_id ?_
  refine block_np ?_
  refine loop_sx (S := Int) (fun a => ([(0, .sl s.length (fl s)), (1, iS v), (7, iS ((s.length : Nat) : Int)), (8, iS a)], [], 0)) h (leSt_m [] [] (by simp only [push_cast, seval]) (by simp only [push_cast, seval]) rfl rfl rfl) ?_
  rintro t8q7 o2 R2 h hr2 hn2 hx2 ht2
  try dsimp only at h hn2 ⊢
  unfold slices_Index_int_l1 at h
  try dsimp only at h
  refine seq_np ?_
  refine reg_f ?_
  refine rs 1 [] [] (by kernel_rfl) allP_nil ?_
  refine rf [(0, .sl s.length (fl s)), (1, iS v), (7, iS ((s.length : Nat) : Int)), (8, iS t8q7), (9, bS (decide (t8q7 < ((s.length : Nat) : Int))))] [] 0 (by kernel_rfl) ?_
  refine wk_id ?_
  refine seq_np ?_
  refine cond_sx h (by kernel_rfl) (fun g584 h => ?_) (fun g584 h => ?_)
  · refine wk_id ?_
    refine seq_np ?_
    refine block_np ?_
    refine seq_np ?_
    refine reg_f ?_
    refine rs 2 [] [] (by kernel_rfl) allP_nil ?_
    refine rf [(0, .sl s.length (fl s)), (1, iS v), (5, iS t8q7), (7, iS ((s.length : Nat) : Int)), (8, iS t8q7)] [] 0 (by kernel_rfl) ?_
    refine wk_id ?_
    refine chk_sx h (fun g582 h => ?_)
    refine seq_np ?_
    refine reg_f ?_
    have k581 : 0 ≤ t8q7 ∧ t8q7 < ((s.length : Nat) : Int) := by first | simpa only [Bool.and_eq_true, decide_eq_true_eq, bne_iff_ne, ne_eq] using g582 | (simp at g582 ⊢; omega)
    refine rs 6 [none, none, none, some ⟨.iptr (fl s) ((t8q7).toNat * 1), [], 0, []⟩, some ⟨iS (ix s t8q7), [], 0, []⟩] _ (by kernel_rfl) (allP_cons (ob_ld s t8q7 1 0 ((t8q7).toNat * 1) k581 rfl (by decide) (by first | rfl | omega) (dflS Try.prog 3) (iS (ix s t8q7)) rfl 0 []) (allP_cons (ob_ix_l s 1 0 t8q7 k581) allP_nil)) ?_
    refine rf [(0, .sl s.length (fl s)), (1, iS v), (5, iS t8q7), (7, iS ((s.length : Nat) : Int)), (8, iS t8q7), (16, bS (v == (ix s t8q7)))] [] 0 (by kernel_rfl) ?_
    refine wk_id ?_
    refine cond_sx h (by kernel_rfl) (fun g583 h => ?_) (fun g583 h => ?_)
    · refine seq_np ?_
      refine reg_f ?_
      refine rs 2 [] [] (by kernel_rfl) allP_nil ?_
      refine rf [(4, iS t8q7)] [] 0 (by kernel_rfl) ?_
      refine wk_id ?_
      refine rt_cast ht2 ?_
      obtain ⟨r0, h, e0⟩ := map_sx h
      have e1 := hr2 r0 e0.symm
      subst r0
      obtain rfl := Option.some.inj h
      refine ret_at (iS t8q7) (by kernel_rfl) ?_
      exact ret_e [] [] (by simp only [push_cast, seval]) (by simp only [push_cast, seval]) rfl rfl rfl
    · refine wk_id ?_
      refine wk_id ?_
      refine reg_f ?_
      refine rs 2 [] [] (by kernel_rfl) allP_nil ?_
      refine rf [(0, .sl s.length (fl s)), (1, iS v), (7, iS ((s.length : Nat) : Int)), (8, iS (IntKind.i64.wrap (t8q7 + 1)))] [] 0 (by kernel_rfl) ?_
      exact hn2 ((IntKind.i64.wrap (t8q7 + 1))) _ _ _ (Option.some.inj h).symm (leSt_m [] [] (by simp only [push_cast, seval]) (by simp only [push_cast, seval]) rfl rfl rfl)
  · change R2 (.exit 0) _ _ _
    refine ex_cast hx2 (id := 0) ?_
    obtain ⟨r0, h, e0⟩ := map_sx h
    have e1 := hr2 r0 e0.symm
    subst r0
    refine wk_id ?_
    refine wk_id ?_
    refine seq_np ?_
    refine reg_f ?_
    refine rs 1 [] [] (by kernel_rfl) allP_nil ?_
    refine rf [(4, iS (-1))] [] 0 (by kernel_rfl) ?_
    refine wk_id ?_
    obtain rfl := Option.some.inj h
    refine ret_at (iS (-1)) (by kernel_rfl) ?_
    exact ret_e [] [] (by simp only [push_cast, seval]) (by simp only [push_cast, seval]) rfl rfl rfl

set_option maxRecDepth 100000 in
set_option maxHeartbeats 200000000 in
theorem slices_Contains_int_spec (s : (List Int)) (v : Int) (r : Bool) (h : slices_Contains_int s v = some r) : SpecW Try.prog 43 [.sl s.length (fl s), iS v] [] 0 (fun x h n => x = bS r ∧ h = [] ∧ n = 0) := by
  unfold slices_Contains_int at h
  refine spec_of (draw_ok _) Try.func43 rfl (by decide) rfl (by kernel_rfl) ?_
  refine seq_np ?_
  refine reg_f ?_
  refine rs 1 [] [] (by kernel_rfl) allP_nil ?_
  refine rf [(0, .sl s.length (fl s)), (1, iS v)] [] 0 (by kernel_rfl) ?_
  refine wk_id ?_
  refine seq_np ?_
  refine reg_f ?_
  refine rs 2 [] [] (by kernel_rfl) allP_nil ?_
  obtain ⟨r587, hr587, h⟩ := bind_sx h
  refine run_call 52 [.sl s.length (fl s), iS v] (some 7) (by kernel_rfl) ?_
  refine call_0 (slices_Index_int_spec s v r587 hr587) (by simp only [push_cast, seval]) (by simp only [push_cast, seval]) ?_
  refine back_f ?_
  refine rs 2 [] [] (by kernel_rfl) allP_nil ?_
  refine rf [(4, bS (decide ((0 : Int) ≤ r587)))] [] 0 (by kernel_rfl) ?_
  refine wk_id ?_
  obtain rfl := Option.some.inj h
  refine ret_at (bS (decide ((0 : Int) ≤ r587))) (by kernel_rfl) ?_
  exact ret_e [] [] (by simp only [push_cast, seval]) (by simp only [push_cast, seval]) rfl rfl rfl

set_option maxRecDepth 100000 in
set_option maxHeartbeats 200000000 in
theorem wait_Of_1_spec (w : Line) (c0 : Int) (r : Bool × Int) (h : wait_Of_1 w c0 = some r) : SpecW Try.prog 42 [.agg (Enc.cells w), .ptr 0 0] [(0, .row 3 [iS c0])] 1 (fun x h n => x = bS r.1 ∧ h = [(0, .row 3 [iS r.2])] ∧ n = 1) := by
  unfold wait_Of_1 at h
  refine spec_of (draw_ok _) Try.func42 rfl (by decide) rfl (by kernel_rfl) ?_
  refine seq_np ?_
  refine reg_f ?_
  refine rs 2 [] [] (by kernel_rfl) allP_nil ?_
  refine rf [(1, .ptr 0 0), (2, .ptr 1 0)] [(0, .row 3 [iS c0]), (1, .row 55 (Enc.cells w))] 2 (by kernel_rfl) ?_
  refine wk_id ?_
  refine seq_np ?_
  refine reg_f ?_
  refine rs 3 [] [] (by kernel_rfl) allP_nil ?_
  obtain ⟨r590, hr590, h⟩ := bind_sx h
  refine run_call 43 [.sl w.Tasks.length (fl w.Tasks), iS c0] (some 7) (by kernel_rfl) ?_
  refine call_0 (slices_Contains_int_spec w.Tasks c0 r590 hr590) (by simp only [push_cast, seval]) (by simp only [push_cast, seval]) ?_
  refine back_f ?_
  refine rs 1 [] [] (by kernel_rfl) allP_nil ?_
  refine rf [(3, bS r590)] [(0, .row 3 [iS c0]), (1, .row 55 (Enc.cells w))] 2 (by kernel_rfl) ?_
  refine wk_id ?_
  obtain rfl := Option.some.inj h
  refine ret_at (bS r590) (by kernel_rfl) ?_
  exact ret_e [(0, 0)] [] (by simp only [push_cast, seval]) (by simp only [push_cast, seval]) rfl rfl rfl

set_option maxRecDepth 100000 in
set_option maxHeartbeats 200000000 in
theorem slices_IndexFunc_Line_spec (s : (List Line)) (c0 : Int) (r : Int × Int) (h : slices_IndexFunc_Line s c0 = some r) : SpecW Try.prog 41 [.sl s.length (fl s), .clo 42 [.ptr 0 0]] [(0, .row 3 [iS c0])] 1 (fun x h n => x = iS r.1 ∧ h = [(0, .row 3 [iS r.2])] ∧ n = 1) := by
  unfold slices_IndexFunc_Line at h
  refine spec_of (draw_ok _) Try.func41 rfl (by decide) rfl (by kernel_rfl) ?_
  refine seq_np ?_
  refine reg_f ?_
  refine rs 1 [] [] (by kernel_rfl) allP_nil ?_
  refine rf [(0, .sl s.length (fl s)), (1, .clo 42 [.ptr 0 0])] [(0, .row 3 [iS c0])] 1 (by kernel_rfl) ?_
  refine wk_id ?_
  refine seq_np ?_
  refine seq_np ?_
  refine reg_f ?_
  refine rs 3 [] [] (by kernel_rfl) allP_nil ?_
  refine rf [(0, .sl s.length (fl s)), (1, .clo 42 [.ptr 0 0]), (7, iS ((s.length : Nat) : Int)), (8, iS 0)] [(0, .row 3 [iS c0])] 1 (by kernel_rfl) ?_
  refine wk_id ?_
  refine block_np ?_
  refine loop_sx (S := Int × Int) (fun a => ([(0, .sl s.length (fl s)), (1, .clo 42 [.ptr 0 0]), (7, iS ((s.length : Nat) : Int)), (8, iS a.1)], [(0, .row 3 [iS a.2])], 1)) h (leSt_m [(0, 0)] [] (by simp only [push_cast, seval]) (by simp only [push_cast, seval]) rfl rfl rfl) ?_
  rintro ⟨t8q7, c0q9⟩ o2 R2 h hr2 hn2 hx2 ht2
  try dsimp only at h hn2 ⊢
  unfold slices_IndexFunc_Line_l1 at h
  try dsimp only at h
  refine seq_np ?_
  refine reg_f ?_
  refine rs 1 [] [] (by kernel_rfl) allP_nil ?_
  refine rf [(0, .sl s.length (fl s)), (1, .clo 42 [.ptr 0 0]), (7, iS ((s.length : Nat) : Int)), (8, iS t8q7), (9, bS (decide (t8q7 < ((s.length : Nat) : Int))))] [(0, .row 3 [iS c0q9])] 1 (by kernel_rfl) ?_
  refine wk_id ?_
  refine seq_np ?_
  refine cond_sx h (by kernel_rfl) (fun g663 h => ?_) (fun g663 h => ?_)
  · refine wk_id ?_
    refine seq_np ?_
    refine block_np ?_
    refine seq_np ?_
    refine reg_f ?_
    refine rs 2 [] [] (by kernel_rfl) allP_nil ?_
    refine rf [(0, .sl s.length (fl s)), (1, .clo 42 [.ptr 0 0]), (5, iS t8q7), (7, iS ((s.length : Nat) : Int)), (8, iS t8q7)] [(0, .row 3 [iS c0q9])] 1 (by kernel_rfl) ?_
    refine wk_id ?_
    refine chk_sx h (fun g660 h => ?_)
    refine seq_np ?_
    refine reg_f ?_
    have k659 : 0 ≤ t8q7 ∧ t8q7 < ((s.length : Nat) : Int) := by first | simpa only [Bool.and_eq_true, decide_eq_true_eq, bne_iff_ne, ne_eq] using g660 | (simp at g660 ⊢; omega)
    refine rs 5 [none, none, none, some ⟨.iptr (fl s) ((t8q7).toNat * 2), [], 1, []⟩, some ⟨.agg (Enc.cells (ix s t8q7)), [], 1, []⟩] _ (by kernel_rfl) (allP_cons (ob_ldw s t8q7 2 ((t8q7).toNat * 2) k659 rfl (by first | rfl | omega) [iS (ix s t8q7).At, .sl (ix s t8q7).Tasks.length (fl (ix s t8q7).Tasks)] rfl 1 []) (allP_cons (ob_ix_l s 2 1 t8q7 k659) allP_nil)) ?_
    obtain ⟨r661, hr661, h⟩ := bind_sx h
    refine call_x (wait_Of_1_spec (ix s t8q7) c0q9 r661 hr661) (args := [.agg (Enc.cells (ix s t8q7)), .ptr 0 0]) (dst := (some 16)) (by kernel_rfl) [(0, .row 3 [iS c0q9])] 1 (by kernel_rfl) [(0, 0)] [] (bS r661.1) [(0, .row 3 [iS r661.2]), (0, .dead)] (by simp only [push_cast, seval]) (by simp only [push_cast, seval]) (by kernel_rfl) (.inl rfl) (by simp only [push_cast, seval]) (by simp only [push_cast, seval]) ?_
    refine rf [(0, .sl s.length (fl s)), (1, .clo 42 [.ptr 0 0]), (5, iS t8q7), (7, iS ((s.length : Nat) : Int)), (8, iS t8q7), (16, bS r661.1)] [(0, .row 3 [iS r661.2])] 2 (by kernel_rfl) ?_
    refine wk_id ?_
    refine cond_sx h (by kernel_rfl) (fun g662 h => ?_) (fun g662 h => ?_)
    · refine seq_np ?_
      refine reg_f ?_
      refine rs 2 [] [] (by kernel_rfl) allP_nil ?_
      refine rf [(4, iS t8q7)] [(0, .row 3 [iS r661.2])] 2 (by kernel_rfl) ?_
      refine wk_id ?_
      refine rt_cast ht2 ?_
      obtain ⟨r0, h, e0⟩ := map_sx h
      have e1 := hr2 r0 e0.symm
      subst r0
      obtain rfl := Option.some.inj h
      refine ret_at (iS t8q7) (by kernel_rfl) ?_
      exact ret_e [(0, 0)] [] (by simp only [push_cast, seval]) (by simp only [push_cast, seval]) rfl rfl rfl
    · refine wk_id ?_
      refine wk_id ?_
      refine reg_f ?_
      refine rs 2 [] [] (by kernel_rfl) allP_nil ?_
      refine rf [(0, .sl s.length (fl s)), (1, .clo 42 [.ptr 0 0]), (7, iS ((s.length : Nat) : Int)), (8, iS (IntKind.i64.wrap (t8q7 + 1)))] [(0, .row 3 [iS r661.2])] 2 (by kernel_rfl) ?_
      exact hn2 ((IntKind.i64.wrap (t8q7 + 1)), r661.2) _ _ _ (Option.some.inj h).symm (leSt_m [(0, 0)] [] (by simp only [push_cast, seval]) (by simp only [push_cast, seval]) rfl rfl rfl)
  · change R2 (.exit 0) _ _ _
    refine ex_cast hx2 (id := 0) ?_
    obtain ⟨r0, h, e0⟩ := map_sx h
    have e1 := hr2 r0 e0.symm
    subst r0
    refine wk_id ?_
    refine wk_id ?_
    refine seq_np ?_
    refine reg_f ?_
    refine rs 1 [] [] (by kernel_rfl) allP_nil ?_
    refine rf [(4, iS (-1))] [(0, .row 3 [iS c0q9])] 1 (by kernel_rfl) ?_
    refine wk_id ?_
    obtain rfl := Option.some.inj h
    refine ret_at (iS (-1)) (by kernel_rfl) ?_
    exact ret_e [(0, 0)] [] (by simp only [push_cast, seval]) (by simp only [push_cast, seval]) rfl rfl rfl

set_option maxRecDepth 100000 in
set_option maxHeartbeats 200000000 in
theorem wait_Of_spec (l : (List Line)) (task : Int) (r : Int) (h : wait_Of l task = some r) : SpecW Try.prog 31 [.sl l.length (fl l), iS task] [] 0 (fun x h n => x = iS r ∧ h = [] ∧ n = 0) := by
  unfold wait_Of at h
  refine spec_of (draw_ok _) Try.func31 rfl (by decide) rfl (by kernel_rfl) ?_
  refine seq_np ?_
  refine reg_f ?_
  refine rs 2 [] [] (by kernel_rfl) allP_nil ?_
  refine rf [(0, .sl l.length (fl l)), (3, .ptr 0 0)] [(0, .row 3 [iS task])] 1 (by kernel_rfl) ?_
  refine wk_id ?_
  refine seq_np ?_
  refine reg_f ?_
  refine rs 2 [] [] (by kernel_rfl) allP_nil ?_
  obtain ⟨r666, hr666, h⟩ := bind_sx h
  refine call_x (slices_IndexFunc_Line_spec l task r666 hr666) (args := [.sl l.length (fl l), .clo 42 [.ptr 0 0]]) (dst := (some 7)) (by kernel_rfl) [(0, .row 3 [iS task])] 1 (by kernel_rfl) [(0, 0)] [] (iS r666.1) [(0, .row 3 [iS r666.2]), (0, .dead)] (by simp only [push_cast, seval]) (by simp only [push_cast, seval]) (by kernel_rfl) (.inl rfl) (by simp only [push_cast, seval]) (by simp only [push_cast, seval]) ?_
  refine rs 1 [] [] (by kernel_rfl) allP_nil ?_
  refine rf [(4, iS r666.1)] [(0, .row 3 [iS r666.2])] 2 (by kernel_rfl) ?_
  refine wk_id ?_
  obtain rfl := Option.some.inj h
  refine ret_at (iS r666.1) (by kernel_rfl) ?_
  exact ret_e [] [] (by simp only [push_cast, seval]) (by simp only [push_cast, seval]) rfl rfl rfl

set_option maxRecDepth 100000 in
set_option maxHeartbeats 200000000 in
theorem cmp_isNaN_int_spec (x : Int) (r : Bool) (h : cmp_isNaN_int x = some r) : SpecW Try.prog 53 [iS x] [] 0 (fun x h n => x = bS r ∧ h = [] ∧ n = 0) := by
  unfold cmp_isNaN_int at h
  refine spec_of (draw_ok _) Try.func53 rfl (by decide) rfl (by kernel_rfl) ?_
  refine seq_np ?_
  refine reg_f ?_
  refine rs 1 [] [] (by kernel_rfl) allP_nil ?_
  refine rf [(0, iS x)] [] 0 (by kernel_rfl) ?_
  refine wk_id ?_
  refine seq_np ?_
  refine reg_f ?_
  refine rs 4 [] [] (by kernel_rfl) allP_nil ?_
  refine rf [(2, bS (x != x))] [] 0 (by kernel_rfl) ?_
  refine wk_id ?_
  obtain rfl := Option.some.inj h
  refine ret_at (bS (x != x)) (by kernel_rfl) ?_
  exact ret_e [] [] (by simp only [push_cast, seval]) (by simp only [push_cast, seval]) rfl rfl rfl

set_option maxRecDepth 100000 in
set_option maxHeartbeats 200000000 in
theorem cmp_Compare_int_spec (x : Int) (y : Int) (r : Int) (h : cmp_Compare_int x y = some r) : SpecW Try.prog 46 [iS x, iS y] [] 0 (fun x h n => x = iS r ∧ h = [] ∧ n = 0) := by
  unfold cmp_Compare_int at h
  refine spec_of (draw_ok _) Try.func46 rfl (by decide) rfl (by kernel_rfl) ?_
  refine seq_np ?_
  refine reg_f ?_
  refine rs 1 [] [] (by kernel_rfl) allP_nil ?_
  refine rf [(0, iS x), (1, iS y)] [] 0 (by kernel_rfl) ?_
  refine wk_id ?_
  refine seq_np ?_
  refine reg_f ?_
  refine rs 1 [] [] (by kernel_rfl) allP_nil ?_
  obtain ⟨r681, hr681, h⟩ := bind_sx h
  refine run_call 53 [iS x] (some 8) (by kernel_rfl) ?_
  refine call_0 (cmp_isNaN_int_spec x r681 hr681) (by simp only [push_cast, seval]) (by simp only [push_cast, seval]) ?_
  refine back_f ?_
  refine rs 1 [] [] (by kernel_rfl) allP_nil ?_
  refine rf [(0, iS x), (1, iS y), (5, bS r681)] [] 0 (by kernel_rfl) ?_
  refine wk_id ?_
  refine seq_np ?_
  refine reg_f ?_
  refine rs 1 [] [] (by kernel_rfl) allP_nil ?_
  obtain ⟨r683, hr683, h⟩ := bind_sx h
  refine run_call 53 [iS y] (some 10) (by kernel_rfl) ?_
  refine call_0 (cmp_isNaN_int_spec y r683 hr683) (by simp only [push_cast, seval]) (by simp only [push_cast, seval]) ?_
  refine back_f ?_
  refine rs 1 [] [] (by kernel_rfl) allP_nil ?_
  refine rf [(0, iS x), (1, iS y), (5, bS r681), (6, bS r683)] [] 0 (by kernel_rfl) ?_
  refine wk_id ?_
  refine seq_np ?_
  refine seq_np ?_
  refine reg_f ?_
  refine rs 1 [] [] (by kernel_rfl) allP_nil ?_
  refine rf [(0, iS x), (1, iS y), (6, bS r683), (11, bS r681)] [] 0 (by kernel_rfl) ?_
  refine wk_id ?_
  refine cond_sx h (by kernel_rfl) (fun g694 h => ?_) (fun g694 h => ?_)
  · refine seq_np ?_
    refine seq_np ?_
    refine reg_f ?_
    refine rs 1 [] [] (by kernel_rfl) allP_nil ?_
    refine rf [(12, bS r683)] [] 0 (by kernel_rfl) ?_
    refine wk_id ?_
    refine cond_sx h (by kernel_rfl) (fun g687 h => ?_) (fun g687 h => ?_)
    · refine seq_np ?_
      refine reg_f ?_
      refine rs 1 [] [] (by kernel_rfl) allP_nil ?_
      refine rf [(4, iS 0)] [] 0 (by kernel_rfl) ?_
      refine wk_id ?_
      obtain rfl := Option.some.inj h
      refine ret_at (iS 0) (by kernel_rfl) ?_
      exact ret_e [] [] (by simp only [push_cast, seval]) (by simp only [push_cast, seval]) rfl rfl rfl
    · refine wk_id ?_
      refine seq_np ?_
      refine reg_f ?_
      refine rs 1 [] [] (by kernel_rfl) allP_nil ?_
      refine rf [(4, iS (-1))] [] 0 (by kernel_rfl) ?_
      refine wk_id ?_
      obtain rfl := Option.some.inj h
      refine ret_at (iS (-1)) (by kernel_rfl) ?_
      exact ret_e [] [] (by simp only [push_cast, seval]) (by simp only [push_cast, seval]) rfl rfl rfl
  · refine wk_id ?_
    refine seq_np ?_
    refine seq_np ?_
    refine reg_f ?_
    refine rs 1 [] [] (by kernel_rfl) allP_nil ?_
    refine rf [(0, iS x), (1, iS y), (13, bS r683)] [] 0 (by kernel_rfl) ?_
    refine wk_id ?_
    refine cond_sx h (by kernel_rfl) (fun g693 h => ?_) (fun g693 h => ?_)
    · refine seq_np ?_
      refine reg_f ?_
      refine rs 1 [] [] (by kernel_rfl) allP_nil ?_
      refine rf [(4, iS 1)] [] 0 (by kernel_rfl) ?_
      refine wk_id ?_
      obtain rfl := Option.some.inj h
      refine ret_at (iS 1) (by kernel_rfl) ?_
      exact ret_e [] [] (by simp only [push_cast, seval]) (by simp only [push_cast, seval]) rfl rfl rfl
    · refine wk_id ?_
      refine seq_np ?_
      refine seq_np ?_
      refine reg_f ?_
      refine rs 3 [] [] (by kernel_rfl) allP_nil ?_
      refine rf [(0, iS x), (1, iS y), (16, bS (decide (x < y)))] [] 0 (by kernel_rfl) ?_
      refine wk_id ?_
      refine cond_sx h (by kernel_rfl) (fun g692 h => ?_) (fun g692 h => ?_)
      · refine seq_np ?_
        refine reg_f ?_
        refine rs 1 [] [] (by kernel_rfl) allP_nil ?_
        refine rf [(4, iS (-1))] [] 0 (by kernel_rfl) ?_
        refine wk_id ?_
        obtain rfl := Option.some.inj h
        refine ret_at (iS (-1)) (by kernel_rfl) ?_
        exact ret_e [] [] (by simp only [push_cast, seval]) (by simp only [push_cast, seval]) rfl rfl rfl
      · refine wk_id ?_
        refine seq_np ?_
        refine seq_np ?_
        refine reg_f ?_
        refine rs 3 [] [] (by kernel_rfl) allP_nil ?_
        refine rf [(19, bS (decide (y < x)))] [] 0 (by kernel_rfl) ?_
        refine wk_id ?_
        refine cond_sx h (by kernel_rfl) (fun g691 h => ?_) (fun g691 h => ?_)
        · refine seq_np ?_
          refine reg_f ?_
          refine rs 1 [] [] (by kernel_rfl) allP_nil ?_
          refine rf [(4, iS 1)] [] 0 (by kernel_rfl) ?_
          refine wk_id ?_
          obtain rfl := Option.some.inj h
          refine ret_at (iS 1) (by kernel_rfl) ?_
          exact ret_e [] [] (by simp only [push_cast, seval]) (by simp only [push_cast, seval]) rfl rfl rfl
        · refine wk_id ?_
          refine seq_np ?_
          refine reg_f ?_
          refine rs 1 [] [] (by kernel_rfl) allP_nil ?_
          refine rf [(4, iS 0)] [] 0 (by kernel_rfl) ?_
          refine wk_id ?_
          obtain rfl := Option.some.inj h
          refine ret_at (iS 0) (by kernel_rfl) ?_
          exact ret_e [] [] (by simp only [push_cast, seval]) (by simp only [push_cast, seval]) rfl rfl rfl

set_option maxRecDepth 100000 in
set_option maxHeartbeats 200000000 in
theorem wait_find_1_spec (w : Line) (xat : Int) (r : Int) (h : wait_find_1 w xat = some r) : SpecW Try.prog 45 [.agg (Enc.cells w), iS xat] [] 0 (fun x h n => x = iS r ∧ h = [] ∧ n = 0) := by
  unfold wait_find_1 at h
  refine spec_of (draw_ok _) Try.func45 rfl (by decide) rfl (by kernel_rfl) ?_
  refine seq_np ?_
  refine reg_f ?_
  refine rs 2 [] [] (by kernel_rfl) allP_nil ?_
  refine rf [(1, iS xat), (2, .ptr 0 0)] [(0, .row 55 (Enc.cells w))] 1 (by kernel_rfl) ?_
  refine wk_id ?_
  refine seq_np ?_
  refine reg_f ?_
  refine rs 3 [] [] (by kernel_rfl) allP_nil ?_
  obtain ⟨r697, hr697, h⟩ := bind_sx h
  refine run_call 46 [iS w.At, iS xat] (some 8) (by kernel_rfl) ?_
  refine call_0 (cmp_Compare_int_spec w.At xat r697 hr697) (by simp only [push_cast, seval]) (by simp only [push_cast, seval]) ?_
  refine back_f ?_
  refine rs 1 [] [] (by kernel_rfl) allP_nil ?_
  refine rf [(4, iS r697)] [(0, .row 55 (Enc.cells w))] 1 (by kernel_rfl) ?_
  refine wk_id ?_
  obtain rfl := Option.some.inj h
  refine ret_at (iS r697) (by kernel_rfl) ?_
  exact ret_e [] [] (by simp only [push_cast, seval]) (by simp only [push_cast, seval]) rfl rfl rfl

set_option maxRecDepth 100000 in
set_option maxHeartbeats 200000000 in
theorem slices_BinarySearchFunc_int_spec (x : (List Line)) (target : Int) (r : Int × Bool) (h : slices_BinarySearchFunc_int x target = some r) : SpecW Try.prog 44 [.sl x.length (fl x), iS target, .v (.func (.func 45) #[] #[])] [] 0 (fun x h n => x = .tup [iS r.1, bS r.2] ∧ h = [] ∧ n = 0) := by
  unfold slices_BinarySearchFunc_int at h
  refine spec_of (draw_ok _) Try.func44 rfl (by decide) rfl (by kernel_rfl) ?_
  refine seq_np ?_
  refine reg_f ?_
  refine rs 2 [] [] (by kernel_rfl) allP_nil ?_
  refine rf [(0, .sl x.length (fl x)), (1, iS target), (2, .v (.func (.func 45) #[] #[]))] [] 0 (by kernel_rfl) ?_
  refine wk_id ?_
  refine seq_np ?_
  refine reg_f ?_
  refine rs 3 [] [] (by kernel_rfl) allP_nil ?_
  refine rf [(0, .sl x.length (fl x)), (1, iS target), (2, .v (.func (.func 45) #[] #[])), (8, iS ((x.length : Nat) : Int))] [] 0 (by kernel_rfl) ?_
  refine wk_id ?_
  refine seq_np ?_
  refine reg_f ?_
  refine rs 3 [] [] (by kernel_rfl) allP_nil ?_
  refine rf [(0, .sl x.length (fl x)), (1, iS target), (2, .v (.func (.func 45) #[] #[])), (8, iS ((x.length : Nat) : Int)), (9, iS 0), (10, iS ((x.length : Nat) : Int))] [] 0 (by kernel_rfl) ?_
  refine wk_id ?_
  refine seq_np ?_
  refine block_np ?_
  refine loop_sx (S := Int × Int) (fun a => ([(0, .sl x.length (fl x)), (1, iS target), (2, .v (.func (.func 45) #[] #[])), (8, iS ((x.length : Nat) : Int)), (9, iS a.1), (10, iS a.2)], [], 0)) h (leSt_m [] [] (by simp only [push_cast, seval]) (by simp only [push_cast, seval]) rfl rfl rfl) ?_
  rintro ⟨i18, j18⟩ o2 R2 h hr2 hn2 hx2 ht2
  try dsimp only at h hn2 ⊢
  unfold slices_BinarySearchFunc_int_l1 at h
  try dsimp only at h
  refine seq_np ?_
  refine seq_np ?_
  refine reg_f ?_
  refine rs 3 [] [] (by kernel_rfl) allP_nil ?_
  refine rf [(0, .sl x.length (fl x)), (1, iS target), (2, .v (.func (.func 45) #[] #[])), (8, iS ((x.length : Nat) : Int)), (9, iS i18), (10, iS j18), (17, bS (decide (i18 < j18)))] [] 0 (by kernel_rfl) ?_
  refine wk_id ?_
  refine cond_sx h (by kernel_rfl) (fun g800 h => ?_) (fun g800 h => ?_)
  · refine wk_id ?_
    refine block_np ?_
    refine seq_np ?_
    refine reg_f ?_
    refine rs 7 [] [] (by kernel_rfl) allP_nil ?_
    refine rf [(0, .sl x.length (fl x)), (1, iS target), (2, .v (.func (.func 45) #[] #[])), (8, iS ((x.length : Nat) : Int)), (9, iS i18), (10, iS j18), (11, iS (IntKind.i64.wrap (Int.fdiv (IntKind.u64.wrap (IntKind.i64.wrap (i18 + j18))) (2 ^ (min ((1 : Int)).toNat (IntKind.u64).bits)))))] [] 0 (by kernel_rfl) ?_
    refine wk_id ?_
    refine chk_sx h (fun g787 h => ?_)
    refine seq_np ?_
    refine reg_f ?_
    have k786 : 0 ≤ (IntKind.i64.wrap (Int.fdiv (IntKind.u64.wrap (IntKind.i64.wrap (i18 + j18))) (2 ^ (min ((1 : Int)).toNat (IntKind.u64).bits)))) ∧ (IntKind.i64.wrap (Int.fdiv (IntKind.u64.wrap (IntKind.i64.wrap (i18 + j18))) (2 ^ (min ((1 : Int)).toNat (IntKind.u64).bits)))) < ((x.length : Nat) : Int) := by first | simpa only [Bool.and_eq_true, decide_eq_true_eq, bne_iff_ne, ne_eq] using g787 | (simp at g787 ⊢; omega)
    refine rs 6 [none, none, none, some ⟨.iptr (fl x) (((IntKind.i64.wrap (Int.fdiv (IntKind.u64.wrap (IntKind.i64.wrap (i18 + j18))) (2 ^ (min ((1 : Int)).toNat (IntKind.u64).bits))))).toNat * 2), [], 0, []⟩, some ⟨.agg (Enc.cells (ix x (IntKind.i64.wrap (Int.fdiv (IntKind.u64.wrap (IntKind.i64.wrap (i18 + j18))) (2 ^ (min ((1 : Int)).toNat (IntKind.u64).bits)))))), [], 0, []⟩] _ (by kernel_rfl) (allP_cons (ob_ldw x (IntKind.i64.wrap (Int.fdiv (IntKind.u64.wrap (IntKind.i64.wrap (i18 + j18))) (2 ^ (min ((1 : Int)).toNat (IntKind.u64).bits)))) 2 (((IntKind.i64.wrap (Int.fdiv (IntKind.u64.wrap (IntKind.i64.wrap (i18 + j18))) (2 ^ (min ((1 : Int)).toNat (IntKind.u64).bits))))).toNat * 2) k786 rfl (by first | rfl | omega) [iS (ix x (IntKind.i64.wrap (Int.fdiv (IntKind.u64.wrap (IntKind.i64.wrap (i18 + j18))) (2 ^ (min ((1 : Int)).toNat (IntKind.u64).bits))))).At, .sl (ix x (IntKind.i64.wrap (Int.fdiv (IntKind.u64.wrap (IntKind.i64.wrap (i18 + j18))) (2 ^ (min ((1 : Int)).toNat (IntKind.u64).bits))))).Tasks.length (fl (ix x (IntKind.i64.wrap (Int.fdiv (IntKind.u64.wrap (IntKind.i64.wrap (i18 + j18))) (2 ^ (min ((1 : Int)).toNat (IntKind.u64).bits))))).Tasks)] rfl 0 []) (allP_cons (ob_ix_l x 2 0 (IntKind.i64.wrap (Int.fdiv (IntKind.u64.wrap (IntKind.i64.wrap (i18 + j18))) (2 ^ (min ((1 : Int)).toNat (IntKind.u64).bits)))) k786) allP_nil)) ?_
    obtain ⟨r788, hr788, h⟩ := bind_sx h
    refine run_call 45 [.agg (Enc.cells (ix x (IntKind.i64.wrap (Int.fdiv (IntKind.u64.wrap (IntKind.i64.wrap (i18 + j18))) (2 ^ (min ((1 : Int)).toNat (IntKind.u64).bits)))))), iS target] (some 30) (by kernel_rfl) ?_
    refine call_0 (wait_find_1_spec (ix x (IntKind.i64.wrap (Int.fdiv (IntKind.u64.wrap (IntKind.i64.wrap (i18 + j18))) (2 ^ (min ((1 : Int)).toNat (IntKind.u64).bits))))) target r788 hr788) (by simp only [push_cast, seval]) (by simp only [push_cast, seval]) ?_
    refine back_f ?_
    refine rs 1 [] [] (by kernel_rfl) allP_nil ?_
    refine rf [(0, .sl x.length (fl x)), (1, iS target), (2, .v (.func (.func 45) #[] #[])), (8, iS ((x.length : Nat) : Int)), (9, iS i18), (10, iS j18), (11, iS (IntKind.i64.wrap (Int.fdiv (IntKind.u64.wrap (IntKind.i64.wrap (i18 + j18))) (2 ^ (min ((1 : Int)).toNat (IntKind.u64).bits))))), (31, bS (decide (r788 < 0)))] [] 0 (by kernel_rfl) ?_
    refine wk_id ?_
    refine cond_sx h (by kernel_rfl) (fun g789 h => ?_) (fun g789 h => ?_)
    · refine reg_f ?_
      refine rs 3 [] [] (by kernel_rfl) allP_nil ?_
      refine rf [(0, .sl x.length (fl x)), (1, iS target), (2, .v (.func (.func 45) #[] #[])), (8, iS ((x.length : Nat) : Int)), (9, iS (IntKind.i64.wrap ((IntKind.i64.wrap (Int.fdiv (IntKind.u64.wrap (IntKind.i64.wrap (i18 + j18))) (2 ^ (min ((1 : Int)).toNat (IntKind.u64).bits)))) + 1))), (10, iS j18)] [] 0 (by kernel_rfl) ?_
      refine wk_id ?_
      exact hn2 ((IntKind.i64.wrap ((IntKind.i64.wrap (Int.fdiv (IntKind.u64.wrap (IntKind.i64.wrap (i18 + j18))) (2 ^ (min ((1 : Int)).toNat (IntKind.u64).bits)))) + 1)), j18) _ _ _ (Option.some.inj h).symm (leSt_m [] [] (by simp only [push_cast, seval]) (by simp only [push_cast, seval]) rfl rfl rfl)
    · refine reg_f ?_
      refine rs 2 [] [] (by kernel_rfl) allP_nil ?_
      refine rf [(0, .sl x.length (fl x)), (1, iS target), (2, .v (.func (.func 45) #[] #[])), (8, iS ((x.length : Nat) : Int)), (9, iS i18), (10, iS (IntKind.i64.wrap (Int.fdiv (IntKind.u64.wrap (IntKind.i64.wrap (i18 + j18))) (2 ^ (min ((1 : Int)).toNat (IntKind.u64).bits)))))] [] 0 (by kernel_rfl) ?_
      refine wk_id ?_
      exact hn2 (i18, (IntKind.i64.wrap (Int.fdiv (IntKind.u64.wrap (IntKind.i64.wrap (i18 + j18))) (2 ^ (min ((1 : Int)).toNat (IntKind.u64).bits))))) _ _ _ (Option.some.inj h).symm (leSt_m [] [] (by simp only [push_cast, seval]) (by simp only [push_cast, seval]) rfl rfl rfl)
  · change R2 (.exit 0) _ _ _
    refine ex_cast hx2 (id := 0) ?_
    obtain ⟨r0, h, e0⟩ := map_sx h
    have e1 := hr2 r0 e0.symm
    subst r0
    refine wk_id ?_
    refine wk_id ?_
    refine seq_cut (A := Bool) (fun a => ([(6, iS i18), (7, bS a)], [], 0)) (fun a => (slices_BinarySearchFunc_int_j1 i18 a) = some r) (fun K795 hK795 => ?_) ?_
    · refine reg_f ?_
      refine rs 5 [] [] (by kernel_rfl) allP_nil ?_
      refine run_br h 39 (.inl (by kernel_rfl)) (fun g796 h => ?_) (fun g796 h => ?_)
      · refine chk_sx h (fun g798 h => ?_)
        have k797 : 0 ≤ i18 ∧ i18 < ((x.length : Nat) : Int) := by first | simpa only [Bool.and_eq_true, decide_eq_true_eq, bne_iff_ne, ne_eq] using g798 | (simp at g798 ⊢; omega)
        refine rs 6 [none, none, none, some ⟨.iptr (fl x) ((i18).toNat * 2), [], 0, []⟩, some ⟨.agg (Enc.cells (ix x i18)), [], 0, []⟩] _ (by kernel_rfl) (allP_cons (ob_ldw x i18 2 ((i18).toNat * 2) k797 rfl (by first | rfl | omega) [iS (ix x i18).At, .sl (ix x i18).Tasks.length (fl (ix x i18).Tasks)] rfl 0 []) (allP_cons (ob_ix_l x 2 0 i18 k797) allP_nil)) ?_
        obtain ⟨r799, hr799, h⟩ := bind_sx h
        refine run_call 45 [.agg (Enc.cells (ix x i18)), iS target] (some 46) (by kernel_rfl) ?_
        refine call_0 (wait_find_1_spec (ix x i18) target r799 hr799) (by simp only [push_cast, seval]) (by simp only [push_cast, seval]) ?_
        refine back_f ?_
        refine rs 4 [] [] (by kernel_rfl) allP_nil ?_
        refine rf [(6, iS i18), (7, bS (r799 == 0))] [] 0 (by kernel_rfl) ?_
        exact hK795 ((r799 == 0)) _ _ _ h (leSt_m [] [] (by (try simp only [g796]) <;> simp only [push_cast, seval]) (by (try simp only [g796]) <;> simp only [push_cast, seval]) rfl rfl rfl)
      · refine rs 11 [] [] (by kernel_rfl) allP_nil ?_
        refine rf [(6, iS i18), (7, bS false)] [] 0 (by kernel_rfl) ?_
        exact hK795 (false) _ _ _ h (leSt_m [] [] (by (try simp only [g796]) <;> simp only [push_cast, seval]) (by (try simp only [g796]) <;> simp only [push_cast, seval]) rfl rfl rfl)
    · rintro t7q1 h
      try dsimp only at h ⊢
      unfold slices_BinarySearchFunc_int_j1 at h
      obtain rfl := Option.some.inj h
      refine ret_at (.tup [iS i18, bS t7q1]) (by kernel_rfl) ?_
      exact ret_e [] [] (by simp only [push_cast, seval]) (by simp only [push_cast, seval]) rfl rfl rfl

set_option maxRecDepth 100000 in
set_option maxHeartbeats 200000000 in
theorem wait_find_spec (l : (List Line)) (xat : Int) (r : Int × Bool) (h : wait_find l xat = some r) : SpecW Try.prog 32 [.sl l.length (fl l), iS xat] [] 0 (fun x h n => x = .tup [iS r.1, bS r.2] ∧ h = [] ∧ n = 0) := by
  unfold wait_find at h
  refine spec_of (draw_ok _) Try.func32 rfl (by decide) rfl (by kernel_rfl) ?_
  refine seq_np ?_
  refine reg_f ?_
  refine rs 2 [] [] (by kernel_rfl) allP_nil ?_
  refine rf [(0, .sl l.length (fl l)), (1, iS xat)] [] 0 (by kernel_rfl) ?_
  refine wk_id ?_
  refine seq_np ?_
  refine reg_f ?_
  refine rs 2 [] [] (by kernel_rfl) allP_nil ?_
  obtain ⟨r803, hr803, h⟩ := bind_sx h
  refine run_call 44 [.sl l.length (fl l), iS xat, .v (.func (.func 45) #[] #[])] (some 8) (by kernel_rfl) ?_
  refine call_0 (slices_BinarySearchFunc_int_spec l xat r803 hr803) (by simp only [push_cast, seval]) (by simp only [push_cast, seval]) ?_
  refine back_f ?_
  refine rs 4 [] [] (by kernel_rfl) allP_nil ?_
  refine rf [(4, iS r803.1), (5, bS r803.2)] [] 0 (by kernel_rfl) ?_
  refine wk_id ?_
  obtain rfl := Option.some.inj h
  refine ret_at (.tup [iS r803.1, bS r803.2]) (by kernel_rfl) ?_
  exact ret_e [] [] (by simp only [push_cast, seval]) (by simp only [push_cast, seval]) rfl rfl rfl

set_option maxRecDepth 100000 in
set_option maxHeartbeats 200000000 in
theorem slices_Clone_Line_spec (s : (List Line)) (r : (List Line)) (h : slices_Clone_Line s = some r) : SpecW Try.prog 34 [.sl s.length (fl s)] [] 0 (fun x h n => x = .own 0 0 r.length ∧ h = [(0, .row 55 (fl r))] ∧ n = 1) := by
  unfold slices_Clone_Line at h
  refine spec_of (draw_ok _) Try.func34 rfl (by decide) rfl (by kernel_rfl) ?_
  refine seq_np ?_
  refine reg_f ?_
  refine rs 1 [] [] (by kernel_rfl) allP_nil ?_
  refine rf [(0, .sl s.length (fl s))] [] 0 (by kernel_rfl) ?_
  refine wk_id ?_
  refine seq_np ?_
  refine seq_np ?_
  refine reg_f ?_
  refine rs 1 [] [] (by kernel_rfl) allP_nil ?_
  refine run_nil s.length (some 4) (by kernel_rfl) (fun g811 => ?_) ?_
  · obtain rfl : s = [] := List.eq_nil_of_length_eq_zero g811
    replace h : (some ([])) = some r := by simpa using h
    refine rf [(0, .sl ([] : List Line).length (fl ([] : List Line))), (4, bS true)] [] 0 (by kernel_rfl) ?_
    refine wk_id ?_
    refine cond_t (by kernel_rfl) ?_
    refine seq_np ?_
    refine reg_f ?_
    refine rs 1 [] [] (by kernel_rfl) allP_nil ?_
    refine rf [(2, .v (.slice none 0 0))] [] 0 (by kernel_rfl) ?_
    refine wk_id ?_
    obtain rfl := Option.some.inj h
    refine ret_at (.v (.slice none 0 0)) (by kernel_rfl) ?_
    exact ret_e [] [] (by simp only [push_cast, seval]) (by simp only [push_cast, seval]) rfl rfl rfl
  · refine rf [(0, .sl s.length (fl s)), (4, bS false)] [] 0 (by kernel_rfl) ?_
    refine wk_id ?_
    refine cond_f (by kernel_rfl) ?_
    refine wk_id ?_
    refine chk_sx h (fun g810 h => ?_)
    refine seq_np ?_
    refine reg_f ?_
    refine run_mk0 Line (some 5) 55 (by kernel_rfl) ?_
    have k809 : (([] : List Line) ++ s).length * 32 ≤ 140737488355328 := by first | simpa only [Bool.and_eq_true, decide_eq_true_eq, bne_iff_ne, ne_eq] using g810 | (simp at g810 ⊢; omega)
    refine rs 3 [none, some ⟨.own 1 0 (([] : List Line) ++ s).length, [(1, .row 55 (fl (([] : List Line) ++ s))), (0, .dead)], 2, [0]⟩] _ (by kernel_rfl) (allP_cons (ob_app (P := Try.prog) ([] : List Line) s 2 32 rfl (fl s) s.length rfl rfl ((fl s).length = s.length * 2) (app_sl s 2 rfl) 55 (by kernel_rfl) (by decide) k809 0 1 []) allP_nil) ?_
    refine rf [(2, .own 1 0 (([] : List Line) ++ s).length)] [(0, .dead), (1, .row 55 (fl (([] : List Line) ++ s)))] 2 (by kernel_rfl) ?_
    refine wk_id ?_
    obtain rfl := Option.some.inj h
    refine ret_at (.own 1 0 (([] : List Line) ++ s).length) (by kernel_rfl) ?_
    exact ret_e [(0, 1)] [] (by simp only [push_cast, seval]) (by simp only [push_cast, seval]) rfl rfl rfl

set_option maxRecDepth 100000 in
set_option maxHeartbeats 200000000 in
theorem slices_Insert_Line_shift_spec (b off n c i vc : Nat) (va : Option Addr) (w W1 W2 : World) (x1 x2 : Value) (hi : i < n) (hroom : n + 1 ≤ c) (hc63 : c ≤ 9223372036854775807)
    (hov : ∀ lb cb, (callFunc 47 #[.slice va 1 vc, .slice (some ⟨b, off + (i + 1) * 2, none⟩) lb cb]).run Try.prog w = .ok (.value (.bool false)) w)
    (hcp1 : ∀ ty dc sc, (Builtin.copy_ #[22, 22] ty #[.slice (some ⟨b, off + (i + 1) * 2, none⟩) (n - i) dc, .slice (some ⟨b, off + i * 2, none⟩) (n + 1 - i) sc]).run Try.prog w.drew = .ok x1 W1)
    (hcp2 : ∀ ty dc, (Builtin.copy_ #[22, 22] ty #[.slice (some ⟨b, off + i * 2, none⟩) (n + 1 - i) dc, .slice va 1 vc]).run Try.prog W1 = .ok x2 W2) :
    Calls Try.prog 33 #[.slice (some ⟨b, off, none⟩) n c, .int .i64 i, .slice va 1 vc] w fun e w' => e = .returned (.slice (some ⟨b, off, none⟩) (n + 1) c) ∧ w' = W2 := by
  have mixed := follows
  have hw1 : IntKind.i64.wrap ((i : Int) + 1) = (i : Int) + 1 := by rw [IntKind.wrap_i64]; omega
  have hw2 : IntKind.i64.wrap ((n : Int) + 1) = (n : Int) + 1 := by rw [IntKind.wrap_i64]; omega
  have hz2 : ¬ ((i : Int) = (n : Int)) := by omega
  have hb1 : (0 : Int) ≤ (i : Int) + 1 := by omega
  have hin : i ≤ n := by omega
  have htn : ((i : Int) + 1).toNat = i + 1 := by omega
  have hb3 : (i : Int) ≤ (n : Int) + 1 := by omega
  have hb4 : ¬ (c = i) := by omega
  have hb5 : ¬ (c = i + 1) := by omega
  go_enter Try.func33, Try.ntmps33
  go_wp2_with (simp only [hov])
  go_region_law_o (refine Go.Proofs.step_copy_runI rfl _ _ 22 22 rfl _ _ (by simp [Act.eval, Act.put]) (by simp [Act.eval, Act.put]) (hcp1 _ _ _) ?_)
  go_wp2_with (at_builtin; refine Go.Proofs.wpList_copy_runI _ rfl _ _ 22 22 rfl _ _ rfl rfl (hcp2 _ _) ?_)
  go_ret
  exact ⟨rfl, rfl⟩
set_option maxRecDepth 100000 in
set_option maxHeartbeats 4000000 in
theorem slices_Insert_Line_grow_spec (b off n c i vc : Nat) (va : Option Addr) (nb g : Nat) (w W0 W1 W2 : World) (x1 x2 : Value) (hi : i < n) (hnc : n ≤ c) (hroom : c < n + 1) (hc63 : n + 1 ≤ g) (hg63 : g ≤ 9223372036854775807)
    (hap : ∀ ty, (Builtin.append_ #[22, 3] ty #[.slice (some ⟨b, off, none⟩) i c, .int .i64 ((n : Int) + 1 - i)]).run Try.prog w = .ok (.slice (some ⟨nb, 0, none⟩) (n + 1) g) W0)
    (hcp1 : ∀ ty dc, (Builtin.copy_ #[22, 22] ty #[.slice (some ⟨nb, i * 2, none⟩) (n + 1 - i) dc, .slice va 1 vc]).run Try.prog W0 = .ok x1 W1)
    (hcp2 : ∀ ty dc sc, (Builtin.copy_ #[22, 22] ty #[.slice (some ⟨nb, (i + 1) * 2, none⟩) (n - i) dc, .slice (some ⟨b, off + i * 2, none⟩) (n - i) sc]).run Try.prog W1.drew = .ok x2 W2) :
    Calls Try.prog 33 #[.slice (some ⟨b, off, none⟩) n c, .int .i64 i, .slice va 1 vc] w fun e w' => e = .returned (.slice (some ⟨nb, 0, none⟩) (n + 1) g) ∧ w' = W2 := by
  have mixed := follows
  have hw1 : IntKind.i64.wrap ((i : Int) + 1) = (i : Int) + 1 := by rw [IntKind.wrap_i64]; omega
  have hw2 : IntKind.i64.wrap ((n : Int) + 1) = (n : Int) + 1 := by rw [IntKind.wrap_i64]; omega
  have hz2 : ¬ ((i : Int) = (n : Int)) := by omega
  have hb1 : (0 : Int) ≤ (i : Int) + 1 := by omega
  have hin : i ≤ n := by omega
  have htn : ((i : Int) + 1).toNat = i + 1 := by omega
  have hb3 : (i : Int) ≤ (n : Int) + 1 := by omega
  have hb4 : ¬ (c = i) := by omega
  have hz3 : (c : Int) < (n : Int) + 1 := by omega
  have hb5 : ¬ (g = i) := by omega
  have hb6 : i ≤ g := by omega
  have hb7 : ¬ (g = i + 1) := by omega
  go_enter Try.func33, Try.ntmps33
  go_wp2_with (at_builtin; first | refine Go.Lib.wpList_append_run _ rfl _ _ _ _ rfl _ _ rfl rfl _ _ (hap _) ?_ | refine Go.Proofs.wpList_copy_runI _ rfl _ _ 22 22 rfl _ _ rfl rfl (hcp1 _ _) ?_)
  go_region_law_o (refine Go.Proofs.step_copy_runI rfl _ _ 22 22 rfl _ _ (by simp [Act.eval, Act.put]) (by simp [Act.eval, Act.put]) (hcp2 _ _ _) ?_)
  go_wp2
  go_ret
  exact ⟨rfl, rfl⟩
set_option maxRecDepth 100000 in
set_option maxHeartbeats 4000000 in
theorem slices_Insert_Line_end_spec (a : Option Addr) (n c vc : Nat) (va : Option Addr) (w W1 : World) (x : Value) (hnc : n ≤ c) (hc63 : c ≤ 9223372036854775807) (hnil : a = none → n = 0)
    (hap : (Builtin.append_ #[22, 22] 22 #[.slice a n c, .slice va 1 vc]).run Try.prog w = .ok x W1) :
    Calls Try.prog 33 #[.slice a n c, .int .i64 n, .slice va 1 vc] w fun e w' => e = .returned x ∧ w' = W1 := by
  have mixed := follows
  go_enter Try.func33, Try.ntmps33
  cases a with
  | none =>
    have := hnil rfl
    subst this
    go_wp2_with (at_builtin; refine Go.Lib.wpList_append_run _ rfl _ _ _ _ rfl _ _ rfl rfl _ _ hap ?_)
    all_goals (go_ret; exact ⟨rfl, rfl⟩)
  | some a =>
    obtain ⟨ab, ao, asp⟩ := a
    go_wp2_with (at_builtin; refine Go.Lib.wpList_append_run _ rfl _ _ _ _ rfl _ _ rfl rfl _ _ hap ?_)
    all_goals (go_ret; exact ⟨rfl, rfl⟩)
set_option maxRecDepth 100000 in
set_option maxHeartbeats 4000000 in
theorem slices_Insert_Line_spec (i : Int) (c0 : (List Line)) (c1 : (List Line)) (r : List Line) (h : slices_Insert_Line i c0 c1 = some r) : SpecW Try.prog 33 [.own 0 0 c0.length, iS i, .own 1 0 c1.length] [(0, .row 55 (fl c0)), (1, .row 55 (fl c1))] 2 (fun x h n => x = .own 2 0 r.length ∧ h = [(0, .dead), (1, .dead), (2, .row 55 (fl r))] ∧ n = 3) := by
  unfold slices_Insert_Line at h
  obtain ⟨⟨h1, h2, h3, h4⟩, rfl⟩ := bif_some h
  refine insert_spec (α := Line) (fO := 47) (tS := 22) (tI := 3) (tB := 4) (by kernel_rfl) (by decide) (by kernel_rfl) (by kernel_rfl) (by decide) (fn_of Try.func33 (by kernel_rfl) (by kernel_rfl)) ?_ ?_ ?_ ?_ c0 c1 i h1 h2 h3 h4
  · intro x y w h
    rw [run_callFunc_extern Try.func47 (by kernel_rfl) (by kernel_rfl) (by kernel_rfl) (e := Extern.SlicesOverlaps.overlaps #[22, 22] #[4]) (by kernel_rfl), h]
    rfl
  · (try rw [(show Enc.sz Line = 2 from rfl)]); (try simp only [Nat.mul_one]); exact slices_Insert_Line_shift_spec
  · (try rw [(show Enc.sz Line = 2 from rfl)]); (try simp only [Nat.mul_one]); exact slices_Insert_Line_grow_spec
  · exact slices_Insert_Line_end_spec

set_option maxRecDepth 100000 in
set_option maxHeartbeats 200000000 in
theorem slices_Clone_int_spec (s : (List Int)) (r : (List Int)) (h : slices_Clone_int s = some r) : SpecW Try.prog 35 [.sl s.length (fl s)] [] 0 (fun x h n => x = .own 0 0 r.length ∧ h = [(0, .row 3 (fl r))] ∧ n = 1) := by
  unfold slices_Clone_int at h
  refine spec_of (draw_ok _) Try.func35 rfl (by decide) rfl (by kernel_rfl) ?_
  refine seq_np ?_
  refine reg_f ?_
  refine rs 1 [] [] (by kernel_rfl) allP_nil ?_
  refine rf [(0, .sl s.length (fl s))] [] 0 (by kernel_rfl) ?_
  refine wk_id ?_
  refine seq_np ?_
  refine seq_np ?_
  refine reg_f ?_
  refine rs 1 [] [] (by kernel_rfl) allP_nil ?_
  refine run_nil s.length (some 4) (by kernel_rfl) (fun g825 => ?_) ?_
  · obtain rfl : s = [] := List.eq_nil_of_length_eq_zero g825
    replace h : (some ([])) = some r := by simpa using h
    refine rf [(0, .sl ([] : List Int).length (fl ([] : List Int))), (4, bS true)] [] 0 (by kernel_rfl) ?_
    refine wk_id ?_
    refine cond_t (by kernel_rfl) ?_
    refine seq_np ?_
    refine reg_f ?_
    refine rs 1 [] [] (by kernel_rfl) allP_nil ?_
    refine rf [(2, .v (.slice none 0 0))] [] 0 (by kernel_rfl) ?_
    refine wk_id ?_
    obtain rfl := Option.some.inj h
    refine ret_at (.v (.slice none 0 0)) (by kernel_rfl) ?_
    exact ret_e [] [] (by simp only [push_cast, seval]) (by simp only [push_cast, seval]) rfl rfl rfl
  · refine rf [(0, .sl s.length (fl s)), (4, bS false)] [] 0 (by kernel_rfl) ?_
    refine wk_id ?_
    refine cond_f (by kernel_rfl) ?_
    refine wk_id ?_
    refine chk_sx h (fun g824 h => ?_)
    refine seq_np ?_
    refine reg_f ?_
    refine run_mk0 Int (some 5) 3 (by kernel_rfl) ?_
    have k823 : (([] : List Int) ++ s).length * 8 ≤ 140737488355328 := by first | simpa only [Bool.and_eq_true, decide_eq_true_eq, bne_iff_ne, ne_eq] using g824 | (simp at g824 ⊢; omega)
    refine rs 3 [none, some ⟨.own 1 0 (([] : List Int) ++ s).length, [(1, .row 3 (fl (([] : List Int) ++ s))), (0, .dead)], 2, [0]⟩] _ (by kernel_rfl) (allP_cons (ob_app (P := Try.prog) ([] : List Int) s 1 8 rfl (fl s) s.length rfl rfl ((fl s).length = s.length * 1) (app_sl s 1 rfl) 3 (by kernel_rfl) (by decide) k823 0 1 []) allP_nil) ?_
    refine rf [(2, .own 1 0 (([] : List Int) ++ s).length)] [(0, .dead), (1, .row 3 (fl (([] : List Int) ++ s)))] 2 (by kernel_rfl) ?_
    refine wk_id ?_
    obtain rfl := Option.some.inj h
    refine ret_at (.own 1 0 (([] : List Int) ++ s).length) (by kernel_rfl) ?_
    exact ret_e [(0, 1)] [] (by simp only [push_cast, seval]) (by simp only [push_cast, seval]) rfl rfl rfl

set_option maxRecDepth 100000 in
set_option maxHeartbeats 200000000 in
theorem slices_Insert_int_shift_spec (b off n c i vc : Nat) (va : Option Addr) (w W1 W2 : World) (x1 x2 : Value) (hi : i < n) (hroom : n + 1 ≤ c) (hc63 : c ≤ 9223372036854775807)
    (hov : ∀ lb cb, (callFunc 49 #[.slice va 1 vc, .slice (some ⟨b, off + (i + 1), none⟩) lb cb]).run Try.prog w = .ok (.value (.bool false)) w)
    (hcp1 : ∀ ty dc sc, (Builtin.copy_ #[34, 34] ty #[.slice (some ⟨b, off + (i + 1), none⟩) (n - i) dc, .slice (some ⟨b, off + i, none⟩) (n + 1 - i) sc]).run Try.prog w.drew = .ok x1 W1)
    (hcp2 : ∀ ty dc, (Builtin.copy_ #[34, 34] ty #[.slice (some ⟨b, off + i, none⟩) (n + 1 - i) dc, .slice va 1 vc]).run Try.prog W1 = .ok x2 W2) :
    Calls Try.prog 36 #[.slice (some ⟨b, off, none⟩) n c, .int .i64 i, .slice va 1 vc] w fun e w' => e = .returned (.slice (some ⟨b, off, none⟩) (n + 1) c) ∧ w' = W2 := by
  have mixed := follows
  have hw1 : IntKind.i64.wrap ((i : Int) + 1) = (i : Int) + 1 := by rw [IntKind.wrap_i64]; omega
  have hw2 : IntKind.i64.wrap ((n : Int) + 1) = (n : Int) + 1 := by rw [IntKind.wrap_i64]; omega
  have hz2 : ¬ ((i : Int) = (n : Int)) := by omega
  have hb1 : (0 : Int) ≤ (i : Int) + 1 := by omega
  have hin : i ≤ n := by omega
  have htn : ((i : Int) + 1).toNat = i + 1 := by omega
  have hb3 : (i : Int) ≤ (n : Int) + 1 := by omega
  have hb4 : ¬ (c = i) := by omega
  have hb5 : ¬ (c = i + 1) := by omega
  go_enter Try.func36, Try.ntmps36
  go_wp2_with (simp only [hov])
  go_region_law_o (refine Go.Proofs.step_copy_runI rfl _ _ 34 34 rfl _ _ (by simp [Act.eval, Act.put]) (by simp [Act.eval, Act.put]) (hcp1 _ _ _) ?_)
  go_wp2_with (at_builtin; refine Go.Proofs.wpList_copy_runI _ rfl _ _ 34 34 rfl _ _ rfl rfl (hcp2 _ _) ?_)
  go_ret
  exact ⟨rfl, rfl⟩
set_option maxRecDepth 100000 in
set_option maxHeartbeats 4000000 in
theorem slices_Insert_int_grow_spec (b off n c i vc : Nat) (va : Option Addr) (nb g : Nat) (w W0 W1 W2 : World) (x1 x2 : Value) (hi : i < n) (hnc : n ≤ c) (hroom : c < n + 1) (hc63 : n + 1 ≤ g) (hg63 : g ≤ 9223372036854775807)
    (hap : ∀ ty, (Builtin.append_ #[34, 3] ty #[.slice (some ⟨b, off, none⟩) i c, .int .i64 ((n : Int) + 1 - i)]).run Try.prog w = .ok (.slice (some ⟨nb, 0, none⟩) (n + 1) g) W0)
    (hcp1 : ∀ ty dc, (Builtin.copy_ #[34, 34] ty #[.slice (some ⟨nb, i, none⟩) (n + 1 - i) dc, .slice va 1 vc]).run Try.prog W0 = .ok x1 W1)
    (hcp2 : ∀ ty dc sc, (Builtin.copy_ #[34, 34] ty #[.slice (some ⟨nb, (i + 1), none⟩) (n - i) dc, .slice (some ⟨b, off + i, none⟩) (n - i) sc]).run Try.prog W1.drew = .ok x2 W2) :
    Calls Try.prog 36 #[.slice (some ⟨b, off, none⟩) n c, .int .i64 i, .slice va 1 vc] w fun e w' => e = .returned (.slice (some ⟨nb, 0, none⟩) (n + 1) g) ∧ w' = W2 := by
  have mixed := follows
  have hw1 : IntKind.i64.wrap ((i : Int) + 1) = (i : Int) + 1 := by rw [IntKind.wrap_i64]; omega
  have hw2 : IntKind.i64.wrap ((n : Int) + 1) = (n : Int) + 1 := by rw [IntKind.wrap_i64]; omega
  have hz2 : ¬ ((i : Int) = (n : Int)) := by omega
  have hb1 : (0 : Int) ≤ (i : Int) + 1 := by omega
  have hin : i ≤ n := by omega
  have htn : ((i : Int) + 1).toNat = i + 1 := by omega
  have hb3 : (i : Int) ≤ (n : Int) + 1 := by omega
  have hb4 : ¬ (c = i) := by omega
  have hz3 : (c : Int) < (n : Int) + 1 := by omega
  have hb5 : ¬ (g = i) := by omega
  have hb6 : i ≤ g := by omega
  have hb7 : ¬ (g = i + 1) := by omega
  go_enter Try.func36, Try.ntmps36
  go_wp2_with (at_builtin; first | refine Go.Lib.wpList_append_run _ rfl _ _ _ _ rfl _ _ rfl rfl _ _ (hap _) ?_ | refine Go.Proofs.wpList_copy_runI _ rfl _ _ 34 34 rfl _ _ rfl rfl (hcp1 _ _) ?_)
  go_region_law_o (refine Go.Proofs.step_copy_runI rfl _ _ 34 34 rfl _ _ (by simp [Act.eval, Act.put]) (by simp [Act.eval, Act.put]) (hcp2 _ _ _) ?_)
  go_wp2
  go_ret
  exact ⟨rfl, rfl⟩
set_option maxRecDepth 100000 in
set_option maxHeartbeats 4000000 in
theorem slices_Insert_int_end_spec (a : Option Addr) (n c vc : Nat) (va : Option Addr) (w W1 : World) (x : Value) (hnc : n ≤ c) (hc63 : c ≤ 9223372036854775807) (hnil : a = none → n = 0)
    (hap : (Builtin.append_ #[34, 34] 34 #[.slice a n c, .slice va 1 vc]).run Try.prog w = .ok x W1) :
    Calls Try.prog 36 #[.slice a n c, .int .i64 n, .slice va 1 vc] w fun e w' => e = .returned x ∧ w' = W1 := by
  have mixed := follows
  go_enter Try.func36, Try.ntmps36
  cases a with
  | none =>
    have := hnil rfl
    subst this
    go_wp2_with (at_builtin; refine Go.Lib.wpList_append_run _ rfl _ _ _ _ rfl _ _ rfl rfl _ _ hap ?_)
    all_goals (go_ret; exact ⟨rfl, rfl⟩)
  | some a =>
    obtain ⟨ab, ao, asp⟩ := a
    go_wp2_with (at_builtin; refine Go.Lib.wpList_append_run _ rfl _ _ _ _ rfl _ _ rfl rfl _ _ hap ?_)
    all_goals (go_ret; exact ⟨rfl, rfl⟩)
set_option maxRecDepth 100000 in
set_option maxHeartbeats 4000000 in
theorem slices_Insert_int_spec (i : Int) (c0 : (List Int)) (c1 : (List Int)) (r : List Int) (h : slices_Insert_int i c0 c1 = some r) : SpecW Try.prog 36 [.own 0 0 c0.length, iS i, .own 1 0 c1.length] [(0, .row 3 (fl c0)), (1, .row 3 (fl c1))] 2 (fun x h n => x = .own 2 0 r.length ∧ h = [(0, .dead), (1, .dead), (2, .row 3 (fl r))] ∧ n = 3) := by
  unfold slices_Insert_int at h
  obtain ⟨⟨h1, h2, h3, h4⟩, rfl⟩ := bif_some h
  refine insert_spec (α := Int) (fO := 49) (tS := 34) (tI := 3) (tB := 4) (by kernel_rfl) (by decide) (by kernel_rfl) (by kernel_rfl) (by decide) (fn_of Try.func36 (by kernel_rfl) (by kernel_rfl)) ?_ ?_ ?_ ?_ c0 c1 i h1 h2 h3 h4
  · intro x y w h
    rw [run_callFunc_extern Try.func49 (by kernel_rfl) (by kernel_rfl) (by kernel_rfl) (e := Extern.SlicesOverlaps.overlaps #[34, 34] #[4]) (by kernel_rfl), h]
    rfl
  · (try rw [(show Enc.sz Int = 1 from rfl)]); (try simp only [Nat.mul_one]); exact slices_Insert_int_shift_spec
  · (try rw [(show Enc.sz Int = 1 from rfl)]); (try simp only [Nat.mul_one]); exact slices_Insert_int_grow_spec
  · exact slices_Insert_int_end_spec

set_option maxRecDepth 100000 in
set_option maxHeartbeats 200000000 in
theorem wait_with_spec (l : (List Line)) (i : Int) (tasks : (List Int)) (r : (List Line)) (h : wait_with l i tasks = some r) : SpecW Try.prog 37 [.sl l.length (fl l), iS i, .sl tasks.length (fl tasks)] [] 0 (fun x h n => x = .own 0 0 r.length ∧ h = [(0, .row 55 (fl r))] ∧ n = 1) := by
  unfold wait_with at h
  refine spec_of (draw_ok _) Try.func37 rfl (by decide) rfl (by kernel_rfl) ?_
  refine seq_np ?_
  refine reg_f ?_
  refine rs 1 [] [] (by kernel_rfl) allP_nil ?_
  refine rf [(0, .sl l.length (fl l)), (1, iS i), (2, .sl tasks.length (fl tasks))] [] 0 (by kernel_rfl) ?_
  refine wk_id ?_
  refine seq_np ?_
  refine reg_f ?_
  refine rs 1 [] [] (by kernel_rfl) allP_nil ?_
  refine rf [(0, .sl l.length (fl l)), (1, iS i), (2, .sl tasks.length (fl tasks)), (7, .v (.slice none 0 0))] [] 0 (by kernel_rfl) ?_
  refine wk_id ?_
  refine seq_np ?_
  refine seq_np ?_
  refine reg_f ?_
  refine rs 3 [] [] (by kernel_rfl) allP_nil ?_
  refine rf [(1, iS i), (2, .sl tasks.length (fl tasks)), (7, .v (.slice none 0 0)), (10, .sl l.length (fl l)), (11, iS ((l.length : Nat) : Int)), (12, iS 0)] [] 0 (by kernel_rfl) ?_
  refine wk_id ?_
  refine block_np ?_
  refine loop_sx (S := Int × (List Line)) (fun a => ([(1, iS i), (2, .sl tasks.length (fl tasks)), (7, .own 0 0 a.2.length), (10, .sl l.length (fl l)), (11, iS ((l.length : Nat) : Int)), (12, iS a.1)], [(0, .row 55 (fl a.2))], 1)) h (leSt_m [] [] (by simp only [push_cast, seval]) (by simp only [push_cast, seval]) rfl rfl rfl) ?_
  rintro ⟨t12q7, c0q19⟩ o2 R2 h hr2 hn2 hx2 ht2
  try dsimp only at h hn2 ⊢
  unfold wait_with_l1 at h
  try dsimp only at h
  refine seq_np ?_
  refine reg_f ?_
  refine rs 1 [] [] (by kernel_rfl) allP_nil ?_
  refine rf [(1, iS i), (2, .sl tasks.length (fl tasks)), (7, .own 0 0 c0q19.length), (10, .sl l.length (fl l)), (11, iS ((l.length : Nat) : Int)), (12, iS t12q7), (13, bS (decide (t12q7 < ((l.length : Nat) : Int))))] [(0, .row 55 (fl c0q19))] 1 (by kernel_rfl) ?_
  refine wk_id ?_
  refine seq_np ?_
  refine cond_sx h (by kernel_rfl) (fun g1010 h => ?_) (fun g1010 h => ?_)
  · refine wk_id ?_
    refine seq_np ?_
    refine block_cut (A := (List Line)) (fun a => ([(1, iS i), (2, .sl tasks.length (fl tasks)), (7, .own 0 0 a.length), (10, .sl l.length (fl l)), (11, iS ((l.length : Nat) : Int)), (12, iS t12q7)], [(0, .row 55 (fl a))], 1)) (fun a => (wait_with_j1 l i tasks t12q7 a) = some o2) (fun K994 hK994 => ?_) ?_
    · refine chk_sx h (fun g998 h => ?_)
      refine seq_np ?_
      refine reg_f ?_
      have k997 : 0 ≤ t12q7 ∧ t12q7 < ((l.length : Nat) : Int) := by first | simpa only [Bool.and_eq_true, decide_eq_true_eq, bne_iff_ne, ne_eq] using g998 | (simp at g998 ⊢; omega)
      refine rs 6 [none, some ⟨.iptr (fl l) ((t12q7).toNat * 2), [], 1, []⟩, some ⟨.agg (Enc.cells (ix l t12q7)), [], 1, []⟩] _ (by kernel_rfl) (allP_cons (ob_ldw l t12q7 2 ((t12q7).toNat * 2) k997 rfl (by first | rfl | omega) [iS (ix l t12q7).At, .sl (ix l t12q7).Tasks.length (fl (ix l t12q7).Tasks)] rfl 1 []) (allP_cons (ob_ix_l l 2 1 t12q7 k997) allP_nil)) ?_
      refine rf [(1, iS i), (2, .sl tasks.length (fl tasks)), (7, .own 0 0 c0q19.length), (8, iS t12q7), (9, .ptr 1 0), (10, .sl l.length (fl l)), (11, iS ((l.length : Nat) : Int)), (12, iS t12q7)] [(0, .row 55 (fl c0q19)), (1, .row 55 (Enc.cells (ix l t12q7)))] 2 (by kernel_rfl) ?_
      refine wk_id ?_
      refine seq_cut (A := (List Int)) (fun a => ([(1, iS i), (2, .sl tasks.length (fl tasks)), (7, .own 0 0 c0q19.length), (9, .ptr 1 0), (10, .sl l.length (fl l)), (11, iS ((l.length : Nat) : Int)), (12, iS t12q7)], [(0, .row 55 (fl c0q19)), (1, .row 55 [iS (ix l t12q7).At, .sl a.length (fl a)])], 2)) (fun a => (wait_with_j2 l i tasks t12q7 c0q19 a) = some o2) (fun K1001 hK1001 => ?_) ?_
      · refine seq_np ?_
        refine reg_f ?_
        refine rs 3 [] [] (by kernel_rfl) allP_nil ?_
        refine rf [(1, iS i), (2, .sl tasks.length (fl tasks)), (7, .own 0 0 c0q19.length), (9, .ptr 1 0), (10, .sl l.length (fl l)), (11, iS ((l.length : Nat) : Int)), (12, iS t12q7), (19, bS (t12q7 == i))] [(0, .row 55 (fl c0q19)), (1, .row 55 (Enc.cells (ix l t12q7)))] 2 (by kernel_rfl) ?_
        refine wk_id ?_
        refine cond_sx h (by kernel_rfl) (fun g1002 h => ?_) (fun g1002 h => ?_)
        · refine reg_f ?_
          refine rs 3 [] [] (by kernel_rfl) allP_nil ?_
          refine rf [(1, iS i), (2, .sl tasks.length (fl tasks)), (7, .own 0 0 c0q19.length), (9, .ptr 1 0), (10, .sl l.length (fl l)), (11, iS ((l.length : Nat) : Int)), (12, iS t12q7)] [(0, .row 55 (fl c0q19)), (1, .row 55 [iS (ix l t12q7).At, .sl tasks.length (fl tasks)])] 2 (by kernel_rfl) ?_
          exact hK1001 (tasks) _ _ _ h (leSt_m [(0, 0), (1, 1)] [] (by simp only [push_cast, seval]) (by simp only [push_cast, seval]) rfl rfl rfl)
        · exact hK1001 ((ix l t12q7).Tasks) _ _ _ h (leSt_m [(0, 0), (1, 1)] [] (by simp only [push_cast, seval]) (by simp only [push_cast, seval]) rfl rfl rfl)
      · rintro c1_Tasks9 h
        try dsimp only at h ⊢
        unfold wait_with_j2 at h
        refine seq_np ?_
        refine reg_f ?_
        refine rs 4 [] [] (by kernel_rfl) allP_nil ?_
        refine rf [(1, iS i), (2, .sl tasks.length (fl tasks)), (7, .own 0 0 c0q19.length), (9, .ptr 1 0), (10, .sl l.length (fl l)), (11, iS ((l.length : Nat) : Int)), (12, iS t12q7), (25, bS (decide ((0 : Int) < ((c1_Tasks9.length : Nat) : Int))))] [(0, .row 55 (fl c0q19)), (1, .row 55 [iS (ix l t12q7).At, .sl c1_Tasks9.length (fl c1_Tasks9)])] 2 (by kernel_rfl) ?_
        refine wk_id ?_
        refine cond_sx h (by kernel_rfl) (fun g1009 h => ?_) (fun g1009 h => ?_)
        · refine reg_t ?_
          refine rs 5 [] [] (by kernel_rfl) allP_nil ?_
          obtain ⟨r1006, hr1006, h⟩ := bind_sx h
          refine call_x (SpecW.frz (slices_Clone_int_spec c1_Tasks9 r1006 hr1006)) (args := [.sl c1_Tasks9.length (fl c1_Tasks9)]) (dst := (some 31)) (by kernel_rfl) [(0, .row 55 (fl c0q19)), (1, .row 55 [iS (ix l t12q7).At, .sl c1_Tasks9.length (fl c1_Tasks9)])] 7 (by kernel_rfl) [] [] (.sl r1006.length (fl r1006)) [(7, .dead)] (by simp only [push_cast, seval]) (by simp only [push_cast, seval]) (by kernel_rfl) (.inl rfl) (by simp only [push_cast, seval]) (by simp only [push_cast, seval]) ?_
          refine chk_sx h (fun g1008 h => ?_)
          have k1007 : (c0q19 ++ ([(Line.mk (ix l t12q7).At r1006)] : List Line)).length * 32 ≤ 140737488355328 := by first | simpa only [Bool.and_eq_true, decide_eq_true_eq, bne_iff_ne, ne_eq] using g1008 | (simp at g1008 ⊢; omega)
          refine rs 4 [none, none, some ⟨.own 12 0 (c0q19 ++ ([(Line.mk (ix l t12q7).At r1006)] : List Line)).length, [(12, .row 55 (fl (c0q19 ++ ([(Line.mk (ix l t12q7).At r1006)] : List Line)))), (0, .dead)], 13, [0, 10]⟩] _ (by kernel_rfl) (allP_cons (ob_app (P := Try.prog) c0q19 ([(Line.mk (ix l t12q7).At r1006)] : List Line) 2 32 rfl (appCells (fl ([(Line.mk (ix l t12q7).At r1006)] : List Line)) 0 (([(Line.mk (ix l t12q7).At r1006)] : List Line).length * 2)) ([(Line.mk (ix l t12q7).At r1006)] : List Line).length (app_own ([(Line.mk (ix l t12q7).At r1006)] : List Line) 2 rfl) rfl (0 + ([(Line.mk (ix l t12q7).At r1006)] : List Line).length * 2 ≤ (fl ([(Line.mk (ix l t12q7).At r1006)] : List Line)).length) (app_own_le ([(Line.mk (ix l t12q7).At r1006)] : List Line) 2 rfl) 55 (by kernel_rfl) (by decide) k1007 0 12 [10]) allP_nil) ?_
          refine rt [(1, iS i), (2, .sl tasks.length (fl tasks)), (7, .own 12 0 (c0q19 ++ ([(Line.mk (ix l t12q7).At r1006)] : List Line)).length), (10, .sl l.length (fl l)), (11, iS ((l.length : Nat) : Int)), (12, iS t12q7)] [(0, .dead), (1, .row 55 [iS (ix l t12q7).At, .sl c1_Tasks9.length (fl c1_Tasks9)]), (7, .dead), (10, .row 55 (fl ([(Line.mk (ix l t12q7).At r1006)] : List Line))), (12, .row 55 (fl (c0q19 ++ ([(Line.mk (ix l t12q7).At r1006)] : List Line))))] 15 follows (by kernel_rfl) ?_
          exact hK994 ((c0q19 ++ ([(Line.mk (ix l t12q7).At r1006)] : List Line))) _ _ _ h (leSt_m [(0, 12)] [] (by simp only [push_cast, seval]) (by simp only [push_cast, seval]) rfl rfl rfl)
        · exact hK994 (c0q19) _ _ _ h (leSt_m [(0, 0)] [] (by simp only [push_cast, seval]) (by simp only [push_cast, seval]) rfl rfl rfl)
    · rintro c0q21 h
      try dsimp only at h ⊢
      unfold wait_with_j1 at h
      refine wk_id ?_
      refine reg_f ?_
      refine rs 2 [] [] (by kernel_rfl) allP_nil ?_
      refine rf [(1, iS i), (2, .sl tasks.length (fl tasks)), (7, .own 0 0 c0q21.length), (10, .sl l.length (fl l)), (11, iS ((l.length : Nat) : Int)), (12, iS (IntKind.i64.wrap (t12q7 + 1)))] [(0, .row 55 (fl c0q21))] 1 (by kernel_rfl) ?_
      exact hn2 ((IntKind.i64.wrap (t12q7 + 1)), c0q21) _ _ _ (Option.some.inj h).symm (leSt_m [(0, 0)] [] (by simp only [push_cast, seval]) (by simp only [push_cast, seval]) rfl rfl rfl)
  · change R2 (.exit 0) _ _ _
    refine ex_cast hx2 (id := 0) ?_
    obtain ⟨r0, h, e0⟩ := map_sx h
    have e1 := hr2 r0 e0.symm
    subst r0
    refine wk_id ?_
    refine wk_id ?_
    refine seq_np ?_
    refine reg_f ?_
    refine rs 2 [] [] (by kernel_rfl) allP_nil ?_
    refine rf [(6, .own 0 0 c0q19.length)] [(0, .row 55 (fl c0q19))] 1 (by kernel_rfl) ?_
    refine wk_id ?_
    obtain rfl := Option.some.inj h
    refine ret_at (.own 0 0 c0q19.length) (by kernel_rfl) ?_
    exact ret_e [(0, 0)] [] (by simp only [push_cast, seval]) (by simp only [push_cast, seval]) rfl rfl rfl

set_option maxRecDepth 100000 in
set_option maxHeartbeats 200000000 in
theorem wait_Add_spec (l : (List Line)) (xat : Int) (task : Int) (first : Bool) (r : Fault × (List Line)) (h : wait_Add l xat task first = some r) : SpecW Try.prog 12 [.sl l.length (fl l), iS xat, iS task, bS first] [] 0 (fun x h n => x = .tup [.own 0 0 r.2.length, .agg (Enc.cells r.1)] ∧ h = [(0, .row 55 (fl r.2))] ∧ n = 1) := by
  unfold wait_Add at h
  refine spec_of (draw_ok _) Try.func12 rfl (by decide) rfl (by kernel_rfl) ?_
  refine seq_np ?_
  refine reg_f ?_
  refine rs 2 [] [] (by kernel_rfl) allP_nil ?_
  refine rf [(0, .sl l.length (fl l)), (1, iS xat), (2, iS task), (3, bS first), (9, .ptr 0 0)] [(0, .row 27 [iS 0, iS 0])] 1 (by kernel_rfl) ?_
  refine wk_id ?_
  refine seq_np ?_
  refine seq_np ?_
  refine reg_f ?_
  refine rs 1 [] [] (by kernel_rfl) allP_nil ?_
  obtain ⟨r1018, hr1018, h⟩ := bind_sx h
  refine run_call 11 [.sl l.length (fl l)] (some 16) (by kernel_rfl) ?_
  refine call_0 (wait_Check_spec l r1018 hr1018) (by simp only [push_cast, seval]) (by simp only [push_cast, seval]) ?_
  refine back_f ?_
  refine rs 2 [] [] (by kernel_rfl) allP_nil ?_
  refine rf [(0, .sl l.length (fl l)), (1, iS xat), (2, iS task), (3, bS first), (9, .ptr 0 0), (10, .ptr 1 0)] [(0, .row 27 [iS 0, iS 0]), (1, .row 27 (Enc.cells r1018))] 2 (by kernel_rfl) ?_
  refine wk_id ?_
  refine seq_np ?_
  refine reg_f ?_
  refine rs 3 [] [] (by kernel_rfl) allP_nil ?_
  refine rf [(0, .sl l.length (fl l)), (1, iS xat), (2, iS task), (3, bS first), (9, .ptr 0 0), (10, .ptr 1 0), (19, bS (r1018.Code != 0))] [(0, .row 27 [iS 0, iS 0]), (1, .row 27 (Enc.cells r1018))] 2 (by kernel_rfl) ?_
  refine wk_id ?_
  refine cond_sx h (by kernel_rfl) (fun g1080 h => ?_) (fun g1080 h => ?_)
  · refine seq_np ?_
    refine reg_t ?_
    refine rs 3 [] [] (by kernel_rfl) allP_nil ?_
    refine rt [(8, .v (.slice none 0 0)), (9, .ptr 0 0)] [(0, .row 27 (Enc.cells r1018)), (1, .row 27 (Enc.cells r1018))] 5 follows (by kernel_rfl) ?_
    refine wk_id ?_
    obtain rfl := Option.some.inj h
    refine ret_at (.tup [.v (.slice none 0 0), .agg (Enc.cells r1018)]) (by kernel_rfl) ?_
    exact ret_e [] [] (by simp only [push_cast, seval]) (by simp only [push_cast, seval]) rfl rfl rfl
  · refine wk_id ?_
    refine seq_np ?_
    refine seq_np ?_
    refine reg_f ?_
    refine rs 2 [] [] (by kernel_rfl) allP_nil ?_
    refine rf [(0, .sl l.length (fl l)), (1, iS xat), (2, iS task), (3, bS first), (9, .ptr 0 0), (22, bS (decide (task < 1)))] [(0, .row 27 [iS 0, iS 0]), (1, .row 27 (Enc.cells r1018))] 2 (by kernel_rfl) ?_
    refine wk_id ?_
    refine cond_sx h (by kernel_rfl) (fun g1079 h => ?_) (fun g1079 h => ?_)
    · refine seq_np ?_
      refine reg_f ?_
      obtain ⟨r1022, hr1022, h⟩ := bind_sx h
      refine run_call 30 [iS 3, iS (-1)] (some 23) (by kernel_rfl) ?_
      refine call_0 (wait_fault_spec 3 (-1) r1022 hr1022) (by simp only [push_cast, seval]) (by simp only [push_cast, seval]) ?_
      refine back_f ?_
      refine rs 2 [] [] (by kernel_rfl) allP_nil ?_
      refine rf [(8, .v (.slice none 0 0)), (9, .ptr 0 0)] [(0, .row 27 (Enc.cells r1022)), (1, .row 27 (Enc.cells r1018))] 2 (by kernel_rfl) ?_
      refine wk_id ?_
      obtain rfl := Option.some.inj h
      refine ret_at (.tup [.v (.slice none 0 0), .agg (Enc.cells r1022)]) (by kernel_rfl) ?_
      exact ret_e [] [] (by simp only [push_cast, seval]) (by simp only [push_cast, seval]) rfl rfl rfl
    · refine wk_id ?_
      refine seq_np ?_
      refine seq_np ?_
      refine reg_f ?_
      refine rs 2 [] [] (by kernel_rfl) allP_nil ?_
      obtain ⟨r1027, hr1027, h⟩ := bind_sx h
      refine run_call 31 [.sl l.length (fl l), iS task] (some 26) (by kernel_rfl) ?_
      refine call_0 (wait_Of_spec l task r1027 hr1027) (by simp only [push_cast, seval]) (by simp only [push_cast, seval]) ?_
      refine back_f ?_
      refine rs 1 [] [] (by kernel_rfl) allP_nil ?_
      refine rf [(0, .sl l.length (fl l)), (1, iS xat), (2, iS task), (3, bS first), (9, .ptr 0 0), (27, bS (decide ((0 : Int) ≤ r1027)))] [(0, .row 27 [iS 0, iS 0]), (1, .row 27 (Enc.cells r1018))] 2 (by kernel_rfl) ?_
      refine wk_id ?_
      refine cond_sx h (by kernel_rfl) (fun g1078 h => ?_) (fun g1078 h => ?_)
      · refine seq_np ?_
        refine reg_f ?_
        obtain ⟨r1029, hr1029, h⟩ := bind_sx h
        refine run_call 30 [iS 10, iS (-1)] (some 28) (by kernel_rfl) ?_
        refine call_0 (wait_fault_spec 10 (-1) r1029 hr1029) (by simp only [push_cast, seval]) (by simp only [push_cast, seval]) ?_
        refine back_f ?_
        refine rs 2 [] [] (by kernel_rfl) allP_nil ?_
        refine rf [(8, .v (.slice none 0 0)), (9, .ptr 0 0)] [(0, .row 27 (Enc.cells r1029)), (1, .row 27 (Enc.cells r1018))] 2 (by kernel_rfl) ?_
        refine wk_id ?_
        obtain rfl := Option.some.inj h
        refine ret_at (.tup [.v (.slice none 0 0), .agg (Enc.cells r1029)]) (by kernel_rfl) ?_
        exact ret_e [] [] (by simp only [push_cast, seval]) (by simp only [push_cast, seval]) rfl rfl rfl
      · refine wk_id ?_
        refine seq_np ?_
        refine reg_f ?_
        refine rs 2 [] [] (by kernel_rfl) allP_nil ?_
        obtain ⟨r1031, hr1031, h⟩ := bind_sx h
        refine run_call 32 [.sl l.length (fl l), iS xat] (some 32) (by kernel_rfl) ?_
        refine call_0 (wait_find_spec l xat r1031 hr1031) (by simp only [push_cast, seval]) (by simp only [push_cast, seval]) ?_
        refine back_f ?_
        refine rs 5 [] [] (by kernel_rfl) allP_nil ?_
        refine rf [(0, .sl l.length (fl l)), (1, iS xat), (2, iS task), (3, bS first), (9, .ptr 0 0), (11, iS r1031.1), (12, bS r1031.2)] [(0, .row 27 [iS 0, iS 0]), (1, .row 27 (Enc.cells r1018))] 2 (by kernel_rfl) ?_
        refine wk_id ?_
        refine seq_cut (A := (List Line) × Int) (fun a => ([(0, .sl a.1.length (fl a.1)), (2, iS task), (3, bS first), (9, .ptr 0 0), (11, iS a.2)], [(0, .row 27 [iS 0, iS 0])], 1)) (fun a => (wait_Add_j2 task first a.1 a.2) = some r) (fun K1036 hK1036 => ?_) ?_
        · refine seq_np ?_
          refine reg_f ?_
          refine rs 2 [] [] (by kernel_rfl) allP_nil ?_
          refine rf [(0, .sl l.length (fl l)), (1, iS xat), (2, iS task), (3, bS first), (9, .ptr 0 0), (11, iS r1031.1), (36, bS (!r1031.2))] [(0, .row 27 [iS 0, iS 0]), (1, .row 27 (Enc.cells r1018))] 2 (by kernel_rfl) ?_
          refine wk_id ?_
          refine cond_sx h (by kernel_rfl) (fun g1041 h => ?_) (fun g1041 h => ?_)
          · refine reg_f ?_
            refine rs 1 [] [] (by kernel_rfl) allP_nil ?_
            obtain ⟨r1039, hr1039, h⟩ := bind_sx h
            refine call_x (slices_Clone_Line_spec l r1039 hr1039) (args := [.sl l.length (fl l)]) (dst := (some 38)) (by kernel_rfl) [(0, .row 27 [iS 0, iS 0]), (1, .row 27 (Enc.cells r1018))] 2 (by kernel_rfl) [] [] (.own 2 0 r1039.length) [(2, .row 55 (fl r1039))] (by simp only [push_cast, seval]) (by simp only [push_cast, seval]) (by kernel_rfl) (.inl rfl) (by simp only [push_cast, seval]) (by simp only [push_cast, seval]) ?_
            refine rs 3 [] [] (by kernel_rfl) allP_nil ?_
            refine run_nilF (some 42) 1 55 [iS xat, .v (.slice none 0 0)] (fl ([(Line.mk xat [])] : List Line)) (by kernel_rfl) rfl rfl ?_
            obtain ⟨r1040, hr1040, h⟩ := bind_sx h
            refine call_x (slices_Insert_Line_spec r1031.1 r1039 ([(Line.mk xat [])] : List Line) r1040 hr1040) (args := [.own 2 0 r1039.length, iS r1031.1, .own 3 0 ([(Line.mk xat [])] : List Line).length]) (dst := (some 43)) (by kernel_rfl) [(0, .row 27 [iS 0, iS 0]), (1, .row 27 (Enc.cells r1018)), (2, .row 55 (fl r1039)), (3, .row 55 (fl ([(Line.mk xat [])] : List Line)))] 4 (by kernel_rfl) [(0, 2), (1, 3)] [] (.own 6 0 r1040.length) [(2, .dead), (3, .dead), (6, .row 55 (fl r1040)), (2, .dead), (3, .dead)] (by simp only [push_cast, seval]) (by simp only [push_cast, seval]) (by kernel_rfl) (.inl rfl) (by simp only [push_cast, seval]) (by simp only [push_cast, seval]) ?_
            refine rs 1 [] [] (by kernel_rfl) allP_nil ?_
            refine rf [(0, .own 6 0 r1040.length), (2, iS task), (3, bS first), (9, .ptr 0 0), (11, iS r1031.1)] [(0, .row 27 [iS 0, iS 0]), (1, .row 27 (Enc.cells r1018)), (2, .dead), (3, .dead), (6, .row 55 (fl r1040))] 7 (by kernel_rfl) ?_
            exact hK1036 (r1040, r1031.1) _ _ _ h (leSt_m [(0, 0)] [6] (by simp only [leS_frz, leS_cut, push_cast, seval]) (by simp only [leS_frz, leS_cut, push_cast, seval]) rfl rfl rfl)
          · exact hK1036 (l, r1031.1) _ _ _ h (leSt_m [(0, 0)] [] (by simp only [push_cast, seval]) (by simp only [push_cast, seval]) rfl rfl rfl)
        · rintro ⟨l2, i1⟩ h
          try dsimp only at h ⊢
          unfold wait_Add_j2 at h
          refine chk_sx h (fun g1048 h => ?_)
          refine seq_np ?_
          refine reg_f ?_
          have k1047 : 0 ≤ i1 ∧ i1 < ((l2.length : Nat) : Int) := by first | simpa only [Bool.and_eq_true, decide_eq_true_eq, bne_iff_ne, ne_eq] using g1048 | (simp at g1048 ⊢; omega)
          refine rs 5 [none, none, some ⟨.iptr (fl l2) ((i1).toNat * 2), [], 1, []⟩, none, some ⟨.sl (ix l2 i1).Tasks.length (fl (ix l2 i1).Tasks), [], 1, []⟩] _ (by kernel_rfl) (allP_cons (ob_ld l2 i1 2 1 (((i1).toNat * 2) + 1) k1047 rfl (by decide) (by first | rfl | omega) (dflS Try.prog 34) (.sl (ix l2 i1).Tasks.length (fl (ix l2 i1).Tasks)) rfl 1 []) (allP_cons (ob_ix_l l2 2 1 i1 k1047) allP_nil)) ?_
          obtain ⟨r1049, hr1049, h⟩ := bind_sx h
          refine call_x (slices_Clone_int_spec (ix l2 i1).Tasks r1049 hr1049) (args := [.sl (ix l2 i1).Tasks.length (fl (ix l2 i1).Tasks)]) (dst := (some 49)) (by kernel_rfl) [(0, .row 27 [iS 0, iS 0])] 1 (by kernel_rfl) [] [] (.own 1 0 r1049.length) [(1, .row 3 (fl r1049))] (by simp only [push_cast, seval]) (by simp only [push_cast, seval]) (by kernel_rfl) (.inl rfl) (by simp only [push_cast, seval]) (by simp only [push_cast, seval]) ?_
          refine chk_sx h (fun g1051 h => ?_)
          have k1050 : (r1049 ++ ([task] : List Int)).length * 8 ≤ 140737488355328 := by first | simpa only [Bool.and_eq_true, decide_eq_true_eq, bne_iff_ne, ne_eq] using g1051 | (simp at g1051 ⊢; omega)
          refine rs 4 [none, none, some ⟨.own 3 0 (r1049 ++ ([task] : List Int)).length, [(3, .row 3 (fl (r1049 ++ ([task] : List Int)))), (1, .dead)], 4, [1, 2]⟩] _ (by kernel_rfl) (allP_cons (ob_app (P := Try.prog) r1049 ([task] : List Int) 1 8 rfl (appCells (fl ([task] : List Int)) 0 (([task] : List Int).length * 1)) ([task] : List Int).length (app_own ([task] : List Int) 1 rfl) rfl (0 + ([task] : List Int).length * 1 ≤ (fl ([task] : List Int)).length) (app_own_le ([task] : List Int) 1 rfl) 3 (by kernel_rfl) (by decide) k1050 1 3 [2]) allP_nil) ?_
          refine rf [(0, .sl l2.length (fl l2)), (2, iS task), (3, bS first), (9, .ptr 0 0), (11, iS i1), (13, .own 3 0 (r1049 ++ ([task] : List Int)).length)] [(0, .row 27 [iS 0, iS 0]), (1, .dead), (2, .row 3 (fl ([task] : List Int))), (3, .row 3 (fl (r1049 ++ ([task] : List Int))))] 4 (by kernel_rfl) ?_
          refine wk_id ?_
          refine seq_cut (A := (List Int)) (fun a => ([(0, .sl l2.length (fl l2)), (9, .ptr 0 0), (11, iS i1), (13, .own 1 0 a.length)], [(0, .row 27 [iS 0, iS 0]), (1, .row 3 (fl a))], 2)) (fun a => (wait_Add_j1 l2 i1 a) = some r) (fun K1058 hK1058 => ?_) ?_
          · refine seq_np ?_
            refine reg_f ?_
            refine rs 1 [] [] (by kernel_rfl) allP_nil ?_
            refine rf [(0, .sl l2.length (fl l2)), (2, iS task), (9, .ptr 0 0), (11, iS i1), (13, .own 3 0 (r1049 ++ ([task] : List Int)).length), (53, bS first)] [(0, .row 27 [iS 0, iS 0]), (1, .dead), (2, .row 3 (fl ([task] : List Int))), (3, .row 3 (fl (r1049 ++ ([task] : List Int))))] 4 (by kernel_rfl) ?_
            refine wk_id ?_
            refine cond_sx h (by kernel_rfl) (fun g1067 h => ?_) (fun g1067 h => ?_)
            · refine chk_sx h (fun g1064 h => ?_)
              refine reg_f ?_
              have k1063 : 0 ≤ i1 ∧ i1 < ((l2.length : Nat) : Int) := by first | simpa only [Bool.and_eq_true, decide_eq_true_eq, bne_iff_ne, ne_eq] using g1064 | (simp at g1064 ⊢; omega)
              refine rs 5 [none, none, some ⟨.iptr (fl l2) ((i1).toNat * 2), [], 4, []⟩, none, some ⟨.sl (ix l2 i1).Tasks.length (fl (ix l2 i1).Tasks), [], 4, []⟩] _ (by kernel_rfl) (allP_cons (ob_ld l2 i1 2 1 (((i1).toNat * 2) + 1) k1063 rfl (by decide) (by first | rfl | omega) (dflS Try.prog 34) (.sl (ix l2 i1).Tasks.length (fl (ix l2 i1).Tasks)) rfl 4 []) (allP_cons (ob_ix_l l2 2 4 i1 k1063) allP_nil)) ?_
              obtain ⟨r1065, hr1065, h⟩ := bind_sx h
              refine call_x (slices_Clone_int_spec (ix l2 i1).Tasks r1065 hr1065) (args := [.sl (ix l2 i1).Tasks.length (fl (ix l2 i1).Tasks)]) (dst := (some 59)) (by kernel_rfl) [(0, .row 27 [iS 0, iS 0]), (1, .dead), (2, .row 3 (fl ([task] : List Int))), (3, .row 3 (fl (r1049 ++ ([task] : List Int))))] 4 (by kernel_rfl) [] [] (.own 4 0 r1065.length) [(4, .row 3 (fl r1065))] (by simp only [push_cast, seval]) (by simp only [push_cast, seval]) (by kernel_rfl) (.inl rfl) (by simp only [push_cast, seval]) (by simp only [push_cast, seval]) ?_
              refine rs 2 [] [] (by kernel_rfl) allP_nil ?_
              obtain ⟨r1066, hr1066, h⟩ := bind_sx h
              refine call_x (slices_Insert_int_spec 0 r1065 ([task] : List Int) r1066 hr1066) (args := [.own 4 0 r1065.length, iS 0, .own 5 0 ([task] : List Int).length]) (dst := (some 62)) (by kernel_rfl) [(0, .row 27 [iS 0, iS 0]), (1, .dead), (2, .row 3 (fl ([task] : List Int))), (3, .row 3 (fl (r1049 ++ ([task] : List Int)))), (4, .row 3 (fl r1065)), (5, .row 3 (fl ([task] : List Int)))] 6 (by kernel_rfl) [(0, 4), (1, 5)] [] (.own 8 0 r1066.length) [(4, .dead), (5, .dead), (8, .row 3 (fl r1066)), (4, .dead), (5, .dead)] (by simp only [push_cast, seval]) (by simp only [push_cast, seval]) (by kernel_rfl) (.inl rfl) (by simp only [push_cast, seval]) (by simp only [push_cast, seval]) ?_
              refine rs 1 [] [] (by kernel_rfl) allP_nil ?_
              refine rf [(0, .sl l2.length (fl l2)), (9, .ptr 0 0), (11, iS i1), (13, .own 8 0 r1066.length)] [(0, .row 27 [iS 0, iS 0]), (1, .dead), (2, .row 3 (fl ([task] : List Int))), (3, .row 3 (fl (r1049 ++ ([task] : List Int)))), (4, .dead), (5, .dead), (8, .row 3 (fl r1066))] 9 (by kernel_rfl) ?_
              exact hK1058 (r1066) _ _ _ h (leSt_m [(0, 0), (1, 8)] [] (by simp only [push_cast, seval]) (by simp only [push_cast, seval]) rfl rfl rfl)
            · exact hK1058 ((r1049 ++ ([task] : List Int))) _ _ _ h (leSt_m [(0, 0), (1, 3)] [] (by simp only [push_cast, seval]) (by simp only [push_cast, seval]) rfl rfl rfl)
          · rintro c1q1 h
            try dsimp only at h ⊢
            unfold wait_Add_j1 at h
            refine seq_np ?_
            refine reg_f ?_
            refine rs 3 [] [] (by kernel_rfl) allP_nil ?_
            obtain ⟨r1069, hr1069, h⟩ := bind_sx h
            refine call_x (SpecW.give (wait_with_spec l2 i1 c1q1 r1069 hr1069) [(0, .row 3 (fl c1q1))] [.sl l2.length (fl l2), iS i1, .own 0 0 c1q1.length] [] (.own 1 0 r1069.length) [(1, .row 55 (fl r1069))] (by first | simp only [push_cast, seval] | simp only [push_cast, List.mem_singleton, true_and, and_true, seval]) (by simp only [push_cast, seval]) (by simp only [push_cast, seval]) (by simp only [push_cast, seval]) rfl (by simp only [push_cast, seval]) (by simp only [push_cast, seval]) rfl) (args := [.sl l2.length (fl l2), iS i1, .own 1 0 c1q1.length]) (dst := (some 66)) (by kernel_rfl) [(0, .row 27 [iS 0, iS 0]), (1, .row 3 (fl c1q1))] 2 (by kernel_rfl) [(0, 1)] [] (.own 3 0 r1069.length) [(3, .row 55 (fl r1069)), (1, .dead)] (by simp only [push_cast, seval]) (by simp only [push_cast, seval]) (by kernel_rfl) (.inl rfl) (by simp only [push_cast, seval]) (by simp only [push_cast, seval]) ?_
            refine rs 1 [] [] (by kernel_rfl) allP_nil ?_
            refine rf [(9, .ptr 0 0), (14, .own 3 0 r1069.length)] [(0, .row 27 [iS 0, iS 0]), (1, .dead), (3, .row 55 (fl r1069))] 4 (by kernel_rfl) ?_
            refine wk_id ?_
            refine seq_np ?_
            refine seq_np ?_
            refine reg_f ?_
            refine rs 1 [] [] (by kernel_rfl) allP_nil ?_
            obtain ⟨r1074, hr1074, h⟩ := bind_sx h
            refine call_x (wait_Check_spec r1069 r1074 hr1074) (args := [.own 3 0 r1069.length]) (dst := (some 68)) (by kernel_rfl) [(0, .row 27 [iS 0, iS 0]), (1, .dead), (3, .row 55 (fl r1069))] 4 (by kernel_rfl) [] [3] (.agg (Enc.cells r1074)) [] (by simp only [push_cast, seval]) (by simp only [push_cast, seval]) (by kernel_rfl) (.inr ⟨by simp only [push_cast, seval], by simp only [push_cast, seval]⟩) (by simp only [push_cast, seval]) (by simp only [push_cast, seval]) ?_
            refine rs 2 [] [] (by kernel_rfl) allP_nil ?_
            refine rf [(9, .ptr 0 0), (14, .own 3 0 r1069.length), (70, bS (r1074.Code != 0))] [(0, .row 27 [iS 0, iS 0]), (1, .dead), (3, .row 55 (fl r1069))] 4 (by kernel_rfl) ?_
            refine wk_id ?_
            refine cond_sx h (by kernel_rfl) (fun g1077 h => ?_) (fun g1077 h => ?_)
            · refine seq_np ?_
              refine reg_f ?_
              obtain ⟨r1076, hr1076, h⟩ := bind_sx h
              refine run_call 30 [iS 9, iS 0] (some 71) (by kernel_rfl) ?_
              refine call_0 (wait_fault_spec 9 0 r1076 hr1076) (by simp only [push_cast, seval]) (by simp only [push_cast, seval]) ?_
              refine back_f ?_
              refine rs 2 [] [] (by kernel_rfl) allP_nil ?_
              refine rf [(8, .v (.slice none 0 0)), (9, .ptr 0 0)] [(0, .row 27 (Enc.cells r1076)), (1, .dead), (3, .row 55 (fl r1069))] 4 (by kernel_rfl) ?_
              refine wk_id ?_
              obtain rfl := Option.some.inj h
              refine ret_at (.tup [.v (.slice none 0 0), .agg (Enc.cells r1076)]) (by kernel_rfl) ?_
              exact ret_e [] [] (by simp only [push_cast, seval]) (by simp only [push_cast, seval]) rfl rfl rfl
            · refine wk_id ?_
              refine seq_np ?_
              refine reg_f ?_
              refine rs 4 [] [] (by kernel_rfl) allP_nil ?_
              refine rf [(8, .own 3 0 r1069.length), (9, .ptr 0 0)] [(0, .row 27 [iS 0, iS 0]), (1, .dead), (3, .row 55 (fl r1069))] 4 (by kernel_rfl) ?_
              refine wk_id ?_
              obtain rfl := Option.some.inj h
              refine ret_at (.tup [.own 3 0 r1069.length, .agg [iS 0, iS 0]]) (by kernel_rfl) ?_
              exact ret_e [(0, 3)] [] (by simp only [push_cast, seval]) (by simp only [push_cast, seval]) rfl rfl rfl

set_option maxRecDepth 100000 in
set_option maxHeartbeats 200000000 in
theorem wait_Wake_spec (l : (List Line)) (xat : Int) (n : Int) (r : Fault × (List Line) × (List Int)) (h : wait_Wake l xat n = some r) : SpecW Try.prog 23 [.sl l.length (fl l), iS xat, iS n] [] 0 (fun x h n => x = .tup [.own 0 0 r.2.1.length, .own 1 0 r.2.2.length, .agg (Enc.cells r.1)] ∧ h = [(0, .row 55 (fl r.2.1)), (1, .row 3 (fl r.2.2))] ∧ n = 2) := by
  unfold wait_Wake at h
  refine spec_of (draw_ok _) Try.func23 rfl (by decide) rfl (by kernel_rfl) ?_
  refine seq_np ?_
  refine reg_f ?_
  refine rs 3 [] [] (by kernel_rfl) allP_nil ?_
  refine rf [(0, .sl l.length (fl l)), (1, iS xat), (2, iS n), (8, .ptr 0 0)] [(0, .row 27 [iS 0, iS 0])] 1 (by kernel_rfl) ?_
  refine wk_id ?_
  refine seq_np ?_
  refine seq_np ?_
  refine reg_f ?_
  refine rs 1 [] [] (by kernel_rfl) allP_nil ?_
  obtain ⟨r1103, hr1103, h⟩ := bind_sx h
  refine run_call 11 [.sl l.length (fl l)] (some 13) (by kernel_rfl) ?_
  refine call_0 (wait_Check_spec l r1103 hr1103) (by simp only [push_cast, seval]) (by simp only [push_cast, seval]) ?_
  refine back_f ?_
  refine rs 2 [] [] (by kernel_rfl) allP_nil ?_
  refine rf [(0, .sl l.length (fl l)), (1, iS xat), (2, iS n), (8, .ptr 0 0), (9, .ptr 1 0)] [(0, .row 27 [iS 0, iS 0]), (1, .row 27 (Enc.cells r1103))] 2 (by kernel_rfl) ?_
  refine wk_id ?_
  refine seq_np ?_
  refine reg_f ?_
  refine rs 3 [] [] (by kernel_rfl) allP_nil ?_
  refine rf [(0, .sl l.length (fl l)), (1, iS xat), (2, iS n), (8, .ptr 0 0), (9, .ptr 1 0), (16, bS (r1103.Code != 0))] [(0, .row 27 [iS 0, iS 0]), (1, .row 27 (Enc.cells r1103))] 2 (by kernel_rfl) ?_
  refine wk_id ?_
  refine cond_sx h (by kernel_rfl) (fun g1139 h => ?_) (fun g1139 h => ?_)
  · refine seq_np ?_
    refine reg_t ?_
    refine rs 4 [] [] (by kernel_rfl) allP_nil ?_
    refine rt [(6, .v (.slice none 0 0)), (7, .v (.slice none 0 0)), (8, .ptr 0 0)] [(0, .row 27 (Enc.cells r1103)), (1, .row 27 (Enc.cells r1103))] 6 follows (by kernel_rfl) ?_
    refine wk_id ?_
    obtain rfl := Option.some.inj h
    refine ret_at (.tup [.v (.slice none 0 0), .v (.slice none 0 0), .agg (Enc.cells r1103)]) (by kernel_rfl) ?_
    exact ret_e [] [] (by simp only [push_cast, seval]) (by simp only [push_cast, seval]) rfl rfl rfl
  · refine wk_id ?_
    refine seq_np ?_
    refine reg_f ?_
    refine rs 2 [] [] (by kernel_rfl) allP_nil ?_
    obtain ⟨r1105, hr1105, h⟩ := bind_sx h
    refine run_call 32 [.sl l.length (fl l), iS xat] (some 21) (by kernel_rfl) ?_
    refine call_0 (wait_find_spec l xat r1105 hr1105) (by simp only [push_cast, seval]) (by simp only [push_cast, seval]) ?_
    refine back_f ?_
    refine rs 5 [] [] (by kernel_rfl) allP_nil ?_
    refine rf [(0, .sl l.length (fl l)), (2, iS n), (8, .ptr 0 0), (10, iS r1105.1), (11, bS r1105.2)] [(0, .row 27 [iS 0, iS 0]), (1, .row 27 (Enc.cells r1103))] 2 (by kernel_rfl) ?_
    refine wk_id ?_
    refine seq_np ?_
    refine seq_cut (A := Unit) (fun _ => ([(0, .sl l.length (fl l)), (2, iS n), (8, .ptr 0 0), (10, iS r1105.1), (29, bS ((!r1105.2) || (decide (n ≤ 0))))], [(0, .row 27 [iS 0, iS 0]), (1, .row 27 (Enc.cells r1103))], 2)) (fun _ => True) (fun K1110 hK1110 => ?_) (fun _ _ => ?_)
    · refine reg_f ?_
      refine rs 3 [] [] (by kernel_rfl) allP_nil ?_
      refine run_split 26 (!r1105.2) (.inl (by kernel_rfl)) (fun g1111 => ?_) (fun g1111 => ?_)
      · refine rs 3 [] [] (by kernel_rfl) allP_nil ?_
        refine rf [(0, .sl l.length (fl l)), (2, iS n), (8, .ptr 0 0), (10, iS r1105.1), (29, bS true)] [(0, .row 27 [iS 0, iS 0]), (1, .row 27 (Enc.cells r1103))] 2 (by kernel_rfl) ?_
        exact hK1110 () _ _ _ trivial (leSt_m [(0, 0), (1, 1)] [] (by (try simp only [g1111]) <;> simp only [push_cast, seval]) (by (try simp only [g1111]) <;> simp only [push_cast, seval]) rfl rfl rfl)
      · refine rs 3 [] [] (by kernel_rfl) allP_nil ?_
        refine rf [(0, .sl l.length (fl l)), (2, iS n), (8, .ptr 0 0), (10, iS r1105.1), (29, bS (decide (n ≤ 0)))] [(0, .row 27 [iS 0, iS 0]), (1, .row 27 (Enc.cells r1103))] 2 (by kernel_rfl) ?_
        exact hK1110 () _ _ _ trivial (leSt_m [(0, 0), (1, 1)] [] (by (try simp only [g1111]) <;> simp only [push_cast, seval]) (by (try simp only [g1111]) <;> simp only [push_cast, seval]) rfl rfl rfl)
    · dsimp only
      refine cond_sx h (by kernel_rfl) (fun g1138 h => ?_) (fun g1138 h => ?_)
      · refine seq_np ?_
        refine reg_f ?_
        refine rs 1 [] [] (by kernel_rfl) allP_nil ?_
        obtain ⟨r1113, hr1113, h⟩ := bind_sx h
        refine call_x (wait_with_spec l (-1) [] r1113 hr1113) (args := [.sl l.length (fl l), iS (-1), .v (.slice none 0 0)]) (dst := (some 31)) (by kernel_rfl) [(0, .row 27 [iS 0, iS 0]), (1, .row 27 (Enc.cells r1103))] 2 (by kernel_rfl) [] [] (.own 2 0 r1113.length) [(2, .row 55 (fl r1113))] (by simp only [push_cast, seval]) (by simp only [push_cast, seval]) (by kernel_rfl) (.inl rfl) (by simp only [push_cast, seval]) (by simp only [push_cast, seval]) ?_
        refine rs 4 [] [] (by kernel_rfl) allP_nil ?_
        refine rf [(6, .own 2 0 r1113.length), (7, .v (.slice none 0 0)), (8, .ptr 0 0)] [(0, .row 27 [iS 0, iS 0]), (1, .row 27 (Enc.cells r1103)), (2, .row 55 (fl r1113))] 3 (by kernel_rfl) ?_
        refine wk_id ?_
        obtain rfl := Option.some.inj h
        refine ret_at (.tup [.own 2 0 r1113.length, .v (.slice none 0 0), .agg [iS 0, iS 0]]) (by kernel_rfl) ?_
        exact ret_e [(0, 2)] [] (by simp only [push_cast, seval]) (by simp only [push_cast, seval]) rfl rfl rfl
      · refine wk_id ?_
        refine chk_sx h (fun g1117 h => ?_)
        refine seq_np ?_
        refine reg_f ?_
        have k1116 : 0 ≤ r1105.1 ∧ r1105.1 < ((l.length : Nat) : Int) := by first | simpa only [Bool.and_eq_true, decide_eq_true_eq, bne_iff_ne, ne_eq] using g1117 | (simp at g1117 ⊢; omega)
        refine rs 9 [none, none, none, some ⟨.iptr (fl l) ((r1105.1).toNat * 2), [], 2, []⟩, none, some ⟨.sl (ix l r1105.1).Tasks.length (fl (ix l r1105.1).Tasks), [], 2, []⟩] _ (by kernel_rfl) (allP_cons (ob_ld l r1105.1 2 1 (((r1105.1).toNat * 2) + 1) k1116 rfl (by decide) (by first | rfl | omega) (dflS Try.prog 34) (.sl (ix l r1105.1).Tasks.length (fl (ix l r1105.1).Tasks)) rfl 2 []) (allP_cons (ob_ix_l l 2 2 r1105.1 k1116) allP_nil)) ?_
        refine rf [(0, .sl l.length (fl l)), (2, iS (min n (((ix l r1105.1).Tasks.length : Nat) : Int))), (8, .ptr 0 0), (10, iS r1105.1)] [(0, .row 27 [iS 0, iS 0]), (1, .row 27 (Enc.cells r1103))] 2 (by kernel_rfl) ?_
        refine wk_id ?_
        refine chk_sx h (fun g1129 h => ?_)
        refine chk_sx h (fun g1131 h => ?_)
        refine seq_np ?_
        refine reg_t ?_
        have k1128 : 0 ≤ r1105.1 ∧ r1105.1 < ((l.length : Nat) : Int) := by first | simpa only [Bool.and_eq_true, decide_eq_true_eq, bne_iff_ne, ne_eq] using g1129 | (simp at g1129 ⊢; omega)
        have k1130 : 0 ≤ (min n (((ix l r1105.1).Tasks.length : Nat) : Int)) ∧ (min n (((ix l r1105.1).Tasks.length : Nat) : Int)) ≤ (((ix l r1105.1).Tasks.length : Nat) : Int) ∧ (((ix l r1105.1).Tasks.length : Nat) : Int) ≤ (((ix l r1105.1).Tasks.length : Nat) : Int) := by first | simpa only [Bool.and_eq_true, decide_eq_true_eq, bne_iff_ne, ne_eq] using g1131 | (simp at g1131 ⊢; omega)
        refine rs 9 [none, none, none, none, some ⟨.iptr (fl l) ((r1105.1).toNat * 2), [], 6, []⟩, none, some ⟨.sl (ix l r1105.1).Tasks.length (fl (ix l r1105.1).Tasks), [], 8, []⟩, none, some ⟨.sl (cut (ix l r1105.1).Tasks (min n (((ix l r1105.1).Tasks.length : Nat) : Int)) (((ix l r1105.1).Tasks.length : Nat) : Int)).length (fl (cut (ix l r1105.1).Tasks (min n (((ix l r1105.1).Tasks.length : Nat) : Int)) (((ix l r1105.1).Tasks.length : Nat) : Int))), [], 10, []⟩] _ (by kernel_rfl) (allP_cons (ob_cut (ix l r1105.1).Tasks (min n (((ix l r1105.1).Tasks.length : Nat) : Int)) (((ix l r1105.1).Tasks.length : Nat) : Int) 1 10 rfl k1130) (allP_cons (ob_ld l r1105.1 2 1 (((r1105.1).toNat * 2) + 1) k1128 rfl (by decide) (by first | rfl | omega) (dflS Try.prog 34) (.sl (ix l r1105.1).Tasks.length (fl (ix l r1105.1).Tasks)) rfl 8 []) (allP_cons (ob_ix_l l 2 6 r1105.1 k1128) allP_nil))) ?_
        obtain ⟨r1132, hr1132, h⟩ := bind_sx h
        refine call_x (wait_with_spec l r1105.1 (cut (ix l r1105.1).Tasks (min n (((ix l r1105.1).Tasks.length : Nat) : Int)) (((ix l r1105.1).Tasks.length : Nat) : Int)) r1132 hr1132) (args := [.sl l.length (fl l), iS r1105.1, .sl (cut (ix l r1105.1).Tasks (min n (((ix l r1105.1).Tasks.length : Nat) : Int)) (((ix l r1105.1).Tasks.length : Nat) : Int)).length (fl (cut (ix l r1105.1).Tasks (min n (((ix l r1105.1).Tasks.length : Nat) : Int)) (((ix l r1105.1).Tasks.length : Nat) : Int)))]) (dst := (some 50)) (by kernel_rfl) [(0, .row 27 [iS 0, iS 0]), (1, .row 27 (Enc.cells r1103))] 11 (by kernel_rfl) [] [] (.own 11 0 r1132.length) [(11, .row 55 (fl r1132))] (by simp only [push_cast, seval]) (by simp only [push_cast, seval]) (by kernel_rfl) (.inl rfl) (by simp only [push_cast, seval]) (by simp only [push_cast, seval]) ?_
        refine chk_sx h (fun g1134 h => ?_)
        have k1133 : 0 ≤ r1105.1 ∧ r1105.1 < ((l.length : Nat) : Int) := by first | simpa only [Bool.and_eq_true, decide_eq_true_eq, bne_iff_ne, ne_eq] using g1134 | (simp at g1134 ⊢; omega)
        refine chk_sx h (fun g1136 h => ?_)
        have k1135 : 0 ≤ (0 : Int) ∧ (0 : Int) ≤ (min n (((ix l r1105.1).Tasks.length : Nat) : Int)) ∧ (min n (((ix l r1105.1).Tasks.length : Nat) : Int)) ≤ (((ix l r1105.1).Tasks.length : Nat) : Int) := by first | simpa only [Bool.and_eq_true, decide_eq_true_eq, bne_iff_ne, ne_eq] using g1136 | (simp at g1136 ⊢; omega)
        refine rs 7 [none, none, some ⟨.iptr (fl l) ((r1105.1).toNat * 2), [], 15, []⟩, none, some ⟨.sl (ix l r1105.1).Tasks.length (fl (ix l r1105.1).Tasks), [], 17, []⟩, none, some ⟨.sl (cut (ix l r1105.1).Tasks (0 : Int) (min n (((ix l r1105.1).Tasks.length : Nat) : Int))).length (fl (cut (ix l r1105.1).Tasks (0 : Int) (min n (((ix l r1105.1).Tasks.length : Nat) : Int)))), [], 19, []⟩] _ (by kernel_rfl) (allP_cons (ob_cut (ix l r1105.1).Tasks (0 : Int) (min n (((ix l r1105.1).Tasks.length : Nat) : Int)) 1 19 rfl k1135) (allP_cons (ob_ld l r1105.1 2 1 (((r1105.1).toNat * 2) + 1) k1133 rfl (by decide) (by first | rfl | omega) (dflS Try.prog 34) (.sl (ix l r1105.1).Tasks.length (fl (ix l r1105.1).Tasks)) rfl 17 []) (allP_cons (ob_ix_l l 2 15 r1105.1 k1133) allP_nil))) ?_
        obtain ⟨r1137, hr1137, h⟩ := bind_sx h
        refine call_x (slices_Clone_int_spec (cut (ix l r1105.1).Tasks (0 : Int) (min n (((ix l r1105.1).Tasks.length : Nat) : Int))) r1137 hr1137) (args := [.sl (cut (ix l r1105.1).Tasks (0 : Int) (min n (((ix l r1105.1).Tasks.length : Nat) : Int))).length (fl (cut (ix l r1105.1).Tasks (0 : Int) (min n (((ix l r1105.1).Tasks.length : Nat) : Int))))]) (dst := (some 58)) (by kernel_rfl) [(0, .row 27 [iS 0, iS 0]), (1, .row 27 (Enc.cells r1103)), (11, .row 55 (fl r1132))] 20 (by kernel_rfl) [] [] (.own 20 0 r1137.length) [(20, .row 3 (fl r1137))] (by simp only [push_cast, seval]) (by simp only [push_cast, seval]) (by kernel_rfl) (.inl rfl) (by simp only [push_cast, seval]) (by simp only [push_cast, seval]) ?_
        refine rs 4 [] [] (by kernel_rfl) allP_nil ?_
        refine rt [(6, .own 11 0 r1132.length), (7, .own 20 0 r1137.length), (8, .ptr 0 0)] [(0, .row 27 [iS 0, iS 0]), (1, .row 27 (Enc.cells r1103)), (11, .row 55 (fl r1132)), (20, .row 3 (fl r1137))] 26 follows (by kernel_rfl) ?_
        refine wk_id ?_
        obtain rfl := Option.some.inj h
        refine ret_at (.tup [.own 11 0 r1132.length, .own 20 0 r1137.length, .agg [iS 0, iS 0]]) (by kernel_rfl) ?_
        exact ret_e [(0, 11), (1, 20)] [] (by simp only [push_cast, seval]) (by simp only [push_cast, seval]) rfl rfl rfl

set_option maxRecDepth 100000 in
set_option maxHeartbeats 200000000 in
theorem taskmillref_Ints_spec (xa : (List Int)) (b : (List Int)) (r : Bool) (h : taskmillref_Ints xa b = some r) : SpecW Try.prog 26 [.sl xa.length (fl xa), .sl b.length (fl b)] [] 0 (fun x h n => x = bS r ∧ h = [] ∧ n = 0) := by
  unfold taskmillref_Ints at h
  refine spec_of (draw_ok _) Try.func26 rfl (by decide) rfl (by kernel_rfl) ?_
  refine seq_np ?_
  refine reg_f ?_
  refine rs 1 [] [] (by kernel_rfl) allP_nil ?_
  refine rf [(0, .sl xa.length (fl xa)), (1, .sl b.length (fl b))] [] 0 (by kernel_rfl) ?_
  refine wk_id ?_
  refine seq_np ?_
  refine seq_np ?_
  refine reg_f ?_
  refine rs 5 [] [] (by kernel_rfl) allP_nil ?_
  refine rf [(0, .sl xa.length (fl xa)), (1, .sl b.length (fl b)), (10, bS (((xa.length : Nat) : Int) != ((b.length : Nat) : Int)))] [] 0 (by kernel_rfl) ?_
  refine wk_id ?_
  refine cond_sx h (by kernel_rfl) (fun g1236 h => ?_) (fun g1236 h => ?_)
  · refine seq_np ?_
    refine reg_f ?_
    refine rs 1 [] [] (by kernel_rfl) allP_nil ?_
    refine rf [(4, bS false)] [] 0 (by kernel_rfl) ?_
    refine wk_id ?_
    obtain rfl := Option.some.inj h
    refine ret_at (bS false) (by kernel_rfl) ?_
    exact ret_e [] [] (by simp only [push_cast, seval]) (by simp only [push_cast, seval]) rfl rfl rfl
  · refine wk_id ?_
    refine seq_np ?_
    refine seq_np ?_
    refine reg_f ?_
    refine rs 1 [] [] (by kernel_rfl) allP_nil ?_
    refine rf [(0, .sl xa.length (fl xa)), (1, .sl b.length (fl b)), (5, iS 0)] [] 0 (by kernel_rfl) ?_
    refine wk_id ?_
    refine block_np ?_
    refine loop_sx (S := Int) (fun a => ([(0, .sl xa.length (fl xa)), (1, .sl b.length (fl b)), (5, iS a)], [], 0)) h (leSt_m [] [] (by simp only [push_cast, seval]) (by simp only [push_cast, seval]) rfl rfl rfl) ?_
    rintro i7 o2 R2 h hr2 hn2 hx2 ht2
    try dsimp only at h hn2 ⊢
    unfold taskmillref_Ints_l1 at h
    try dsimp only at h
    refine seq_np ?_
    refine seq_np ?_
    refine reg_f ?_
    refine rs 4 [] [] (by kernel_rfl) allP_nil ?_
    refine rf [(0, .sl xa.length (fl xa)), (1, .sl b.length (fl b)), (5, iS i7), (14, bS (decide (i7 < ((xa.length : Nat) : Int))))] [] 0 (by kernel_rfl) ?_
    refine wk_id ?_
    refine cond_sx h (by kernel_rfl) (fun g1235 h => ?_) (fun g1235 h => ?_)
    · refine wk_id ?_
      refine seq_np ?_
      refine block_np ?_
      refine chk_sx h (fun g1231 h => ?_)
      refine chk_sx h (fun g1233 h => ?_)
      refine seq_np ?_
      refine reg_t ?_
      have k1230 : 0 ≤ i7 ∧ i7 < ((xa.length : Nat) : Int) := by first | simpa only [Bool.and_eq_true, decide_eq_true_eq, bne_iff_ne, ne_eq] using g1231 | (simp at g1231 ⊢; omega)
      have k1232 : 0 ≤ i7 ∧ i7 < ((b.length : Nat) : Int) := by first | simpa only [Bool.and_eq_true, decide_eq_true_eq, bne_iff_ne, ne_eq] using g1233 | (simp at g1233 ⊢; omega)
      refine rs 9 [none, none, some ⟨.iptr (fl xa) ((i7).toNat * 1), [], 2, []⟩, some ⟨iS (ix xa i7), [], 3, []⟩, none, none, some ⟨.iptr (fl b) ((i7).toNat * 1), [], 6, []⟩, some ⟨iS (ix b i7), [], 7, []⟩] _ (by kernel_rfl) (allP_cons (ob_ld b i7 1 0 ((i7).toNat * 1) k1232 rfl (by decide) (by first | rfl | omega) (dflS Try.prog 3) (iS (ix b i7)) rfl 7 []) (allP_cons (ob_ix_l b 1 6 i7 k1232) (allP_cons (ob_ld xa i7 1 0 ((i7).toNat * 1) k1230 rfl (by decide) (by first | rfl | omega) (dflS Try.prog 3) (iS (ix xa i7)) rfl 3 []) (allP_cons (ob_ix_l xa 1 2 i7 k1230) allP_nil)))) ?_
      refine rt [(0, .sl xa.length (fl xa)), (1, .sl b.length (fl b)), (5, iS i7), (25, bS ((ix xa i7) != (ix b i7)))] [] 9 follows (by kernel_rfl) ?_
      refine wk_id ?_
      refine cond_sx h (by kernel_rfl) (fun g1234 h => ?_) (fun g1234 h => ?_)
      · refine seq_np ?_
        refine reg_f ?_
        refine rs 1 [] [] (by kernel_rfl) allP_nil ?_
        refine rf [(4, bS false)] [] 9 (by kernel_rfl) ?_
        refine wk_id ?_
        refine rt_cast ht2 ?_
        obtain ⟨r0, h, e0⟩ := map_sx h
        have e1 := hr2 r0 e0.symm
        subst r0
        obtain rfl := Option.some.inj h
        refine ret_at (bS false) (by kernel_rfl) ?_
        exact ret_e [] [] (by simp only [push_cast, seval]) (by simp only [push_cast, seval]) rfl rfl rfl
      · refine wk_id ?_
        refine wk_id ?_
        refine reg_f ?_
        refine rs 3 [] [] (by kernel_rfl) allP_nil ?_
        refine rf [(0, .sl xa.length (fl xa)), (1, .sl b.length (fl b)), (5, iS (IntKind.i64.wrap (i7 + 1)))] [] 9 (by kernel_rfl) ?_
        exact hn2 ((IntKind.i64.wrap (i7 + 1))) _ _ _ (Option.some.inj h).symm (leSt_m [] [] (by simp only [push_cast, seval]) (by simp only [push_cast, seval]) rfl rfl rfl)
    · change R2 (.exit 0) _ _ _
      refine ex_cast hx2 (id := 0) ?_
      obtain ⟨r0, h, e0⟩ := map_sx h
      have e1 := hr2 r0 e0.symm
      subst r0
      refine wk_id ?_
      refine wk_id ?_
      refine seq_np ?_
      refine reg_f ?_
      refine rs 1 [] [] (by kernel_rfl) allP_nil ?_
      refine rf [(4, bS true)] [] 0 (by kernel_rfl) ?_
      refine wk_id ?_
      obtain rfl := Option.some.inj h
      refine ret_at (bS true) (by kernel_rfl) ?_
      exact ret_e [] [] (by simp only [push_cast, seval]) (by simp only [push_cast, seval]) rfl rfl rfl

set_option maxRecDepth 100000 in
set_option maxHeartbeats 200000000 in
theorem taskmilllaw_waitBegun_spec (r : Bool) (h : taskmilllaw_waitBegun = some r) : SpecW Try.prog 8 [] [] 0 (fun x h n => x = bS r ∧ h = [] ∧ n = 0) := by
  unfold taskmilllaw_waitBegun at h
  refine spec_of (draw_ok _) Try.func8 rfl (by decide) rfl (by kernel_rfl) ?_
  refine seq_np ?_
  refine reg_f ?_
  refine rs 1 [] [] (by kernel_rfl) allP_nil ?_
  refine rf [] [] 0 (by kernel_rfl) ?_
  refine wk_id ?_
  refine seq_np ?_
  refine reg_f ?_
  obtain ⟨r1241, hr1241, h⟩ := bind_sx h
  refine call_x (wait_Add_spec [] 5 3 false r1241 hr1241) (args := [.v (.slice none 0 0), iS 5, iS 3, bS false]) (dst := (some 7)) (by kernel_rfl) [] 0 (by kernel_rfl) [] [] (.tup [.own 0 0 r1241.2.length, .agg (Enc.cells r1241.1)]) [(0, .row 55 (fl r1241.2))] (by simp only [push_cast, seval]) (by simp only [push_cast, seval]) (by kernel_rfl) (.inl rfl) (by simp only [push_cast, seval]) (by simp only [push_cast, seval]) ?_
  refine rs 6 [] [] (by kernel_rfl) allP_nil ?_
  refine rf [(1, .own 0 0 r1241.2.length), (2, .ptr 1 0)] [(0, .row 55 (fl r1241.2)), (1, .row 27 (Enc.cells r1241.1))] 2 (by kernel_rfl) ?_
  refine wk_id ?_
  refine seq_np ?_
  refine reg_f ?_
  refine rs 1 [] [] (by kernel_rfl) allP_nil ?_
  obtain ⟨r1243, hr1243, h⟩ := bind_sx h
  refine call_x (SpecW.give (wait_Wake_spec r1241.2 5 9 r1243 hr1243) [(0, .row 55 (fl r1241.2))] [.own 0 0 r1241.2.length, iS 5, iS 9] [] (.tup [.own 1 0 r1243.2.1.length, .own 2 0 r1243.2.2.length, .agg (Enc.cells r1243.1)]) [(1, .row 55 (fl r1243.2.1)), (2, .row 3 (fl r1243.2.2))] (by first | simp only [push_cast, seval] | simp only [push_cast, List.mem_singleton, true_and, and_true, seval]) (by simp only [push_cast, seval]) (by simp only [push_cast, seval]) (by simp only [push_cast, seval]) rfl (by simp only [push_cast, seval]) (by simp only [push_cast, seval]) rfl) (args := [.own 0 0 r1241.2.length, iS 5, iS 9]) (dst := (some 12)) (by kernel_rfl) [(0, .row 55 (fl r1241.2)), (1, .row 27 (Enc.cells r1241.1))] 2 (by kernel_rfl) [(0, 0)] [] (.tup [.own 3 0 r1243.2.1.length, .own 4 0 r1243.2.2.length, .agg (Enc.cells r1243.1)]) [(3, .row 55 (fl r1243.2.1)), (4, .row 3 (fl r1243.2.2)), (0, .dead)] (by simp only [push_cast, seval]) (by simp only [push_cast, seval]) (by kernel_rfl) (.inl rfl) (by simp only [push_cast, seval]) (by simp only [push_cast, seval]) ?_
  refine rs 8 [] [] (by kernel_rfl) allP_nil ?_
  refine rf [(2, .ptr 1 0), (4, .own 4 0 r1243.2.2.length), (5, .ptr 5 0)] [(0, .dead), (1, .row 27 (Enc.cells r1241.1)), (3, .row 55 (fl r1243.2.1)), (4, .row 3 (fl r1243.2.2)), (5, .row 27 (Enc.cells r1243.1))] 6 (by kernel_rfl) ?_
  refine wk_id ?_
  refine seq_cut (A := Bool) (fun a => ([(0, bS a)], [], 0)) (fun a => (taskmilllaw_waitBegun_j1 a) = some r) (fun K1248 hK1248 => ?_) ?_
  · refine reg_f ?_
    refine rs 4 [] [] (by kernel_rfl) allP_nil ?_
    refine run_br h 19 (.inl (by kernel_rfl)) (fun g1249 h => ?_) (fun g1249 h => ?_)
    · refine rs 5 [] [] (by kernel_rfl) allP_nil ?_
      refine run_br h 24 (.inl (by kernel_rfl)) (fun g1250 h => ?_) (fun g1250 h => ?_)
      · refine rs 2 [] [] (by kernel_rfl) allP_nil ?_
        obtain ⟨r1251, hr1251, h⟩ := bind_sx h
        refine call_x (taskmillref_Ints_spec r1243.2.2 ([3] : List Int) r1251 hr1251) (args := [.own 4 0 r1243.2.2.length, .own 6 0 ([3] : List Int).length]) (dst := (some 27)) (by kernel_rfl) [(0, .dead), (1, .row 27 (Enc.cells r1241.1)), (3, .row 55 (fl r1243.2.1)), (4, .row 3 (fl r1243.2.2)), (5, .row 27 (Enc.cells r1243.1)), (6, .row 3 (fl ([3] : List Int)))] 7 (by kernel_rfl) [] [4, 6] (bS r1251) [] (by simp only [push_cast, seval]) (by simp only [push_cast, seval]) (by kernel_rfl) (.inr ⟨by simp only [push_cast, seval], by simp only [push_cast, seval]⟩) (by simp only [push_cast, seval]) (by simp only [push_cast, seval]) ?_
        refine rs 2 [] [] (by kernel_rfl) allP_nil ?_
        refine rf [(0, bS r1251)] [(0, .dead), (1, .row 27 (Enc.cells r1241.1)), (3, .row 55 (fl r1243.2.1)), (4, .row 3 (fl r1243.2.2)), (5, .row 27 (Enc.cells r1243.1)), (6, .row 3 (fl ([3] : List Int)))] 7 (by kernel_rfl) ?_
        exact hK1248 (r1251) _ _ _ h (leSt_m [] [] (by first | ((try simp only [g1249, g1250]) <;> simp only [push_cast, seval]; done) | ((try simp only [g1249]); (try simp only [g1250]); simp only [push_cast, seval]; done) | (exfalso; clear h; simp_all; done)) (by first | ((try simp only [g1249, g1250]) <;> simp only [push_cast, seval]; done) | ((try simp only [g1249]); (try simp only [g1250]); simp only [push_cast, seval]; done) | (exfalso; clear h; simp_all; done)) rfl rfl rfl)
      · refine rs 5 [] [] (by kernel_rfl) allP_nil ?_
        refine rf [(0, bS false)] [(0, .dead), (1, .row 27 (Enc.cells r1241.1)), (3, .row 55 (fl r1243.2.1)), (4, .row 3 (fl r1243.2.2)), (5, .row 27 (Enc.cells r1243.1))] 6 (by kernel_rfl) ?_
        exact hK1248 (false) _ _ _ h (leSt_m [] [] (by first | ((try simp only [g1249, g1250]) <;> simp only [push_cast, seval]; done) | ((try simp only [g1249]); (try simp only [g1250]); simp only [push_cast, seval]; done) | (exfalso; clear h; simp_all; done)) (by first | ((try simp only [g1249, g1250]) <;> simp only [push_cast, seval]; done) | ((try simp only [g1249]); (try simp only [g1250]); simp only [push_cast, seval]; done) | (exfalso; clear h; simp_all; done)) rfl rfl rfl)
    · refine rs 10 [] [] (by kernel_rfl) allP_nil ?_
      refine rf [(0, bS false)] [(0, .dead), (1, .row 27 (Enc.cells r1241.1)), (3, .row 55 (fl r1243.2.1)), (4, .row 3 (fl r1243.2.2)), (5, .row 27 (Enc.cells r1243.1))] 6 (by kernel_rfl) ?_
      exact hK1248 (false) _ _ _ h (leSt_m [] [] (by (try simp only [g1249]) <;> simp only [push_cast, seval]) (by (try simp only [g1249]) <;> simp only [push_cast, seval]) rfl rfl rfl)
  · rintro t0q1 h
    try dsimp only at h ⊢
    unfold taskmilllaw_waitBegun_j1 at h
    obtain rfl := Option.some.inj h
    refine ret_at (bS t0q1) (by kernel_rfl) ?_
    exact ret_e [] [] (by simp only [push_cast, seval]) (by simp only [push_cast, seval]) rfl rfl rfl

set_option maxRecDepth 100000 in
set_option maxHeartbeats 200000000 in
theorem taskmilllaw_vastLines_spec (l : (List Line)) (r : Bool) (h : taskmilllaw_vastLines l = some r) : SpecW Try.prog 9 [.sl l.length (fl l)] [] 0 (fun x h n => x = bS r ∧ h = [] ∧ n = 0) := by
  unfold taskmilllaw_vastLines at h
  refine spec_of (draw_ok _) Try.func9 rfl (by decide) rfl (by kernel_rfl) ?_
  refine seq_np ?_
  refine reg_f ?_
  refine rs 1 [] [] (by kernel_rfl) allP_nil ?_
  refine rf [(0, .sl l.length (fl l))] [] 0 (by kernel_rfl) ?_
  refine wk_id ?_
  refine seq_np ?_
  refine reg_f ?_
  refine rs 1 [] [] (by kernel_rfl) allP_nil ?_
  refine rf [(0, .sl l.length (fl l)), (3, iS 0)] [] 0 (by kernel_rfl) ?_
  refine wk_id ?_
  refine seq_np ?_
  refine seq_np ?_
  refine reg_f ?_
  refine rs 1 [] [] (by kernel_rfl) allP_nil ?_
  refine rf [(0, .sl l.length (fl l)), (3, iS 0), (4, iS 0)] [] 0 (by kernel_rfl) ?_
  refine wk_id ?_
  refine block_np ?_
  refine loop_sx (S := Int × Int) (fun a => ([(0, .sl l.length (fl l)), (3, iS a.1), (4, iS a.2)], [], 0)) h (leSt_m [] [] (by simp only [push_cast, seval]) (by simp only [push_cast, seval]) rfl rfl rfl) ?_
  rintro ⟨n7, i7⟩ o2 R2 h hr2 hn2 hx2 ht2
  try dsimp only at h hn2 ⊢
  unfold taskmilllaw_vastLines_l1 at h
  try dsimp only at h
  refine seq_np ?_
  refine seq_np ?_
  refine reg_f ?_
  refine rs 4 [] [] (by kernel_rfl) allP_nil ?_
  refine rf [(0, .sl l.length (fl l)), (3, iS n7), (4, iS i7), (8, bS (decide (i7 < ((l.length : Nat) : Int))))] [] 0 (by kernel_rfl) ?_
  refine wk_id ?_
  refine cond_sx h (by kernel_rfl) (fun g1304 h => ?_) (fun g1304 h => ?_)
  · refine wk_id ?_
    refine seq_np ?_
    refine block_np ?_
    refine chk_sx h (fun g1300 h => ?_)
    refine reg_f ?_
    have k1299 : 0 ≤ i7 ∧ i7 < ((l.length : Nat) : Int) := by first | simpa only [Bool.and_eq_true, decide_eq_true_eq, bne_iff_ne, ne_eq] using g1300 | (simp at g1300 ⊢; omega)
    refine rs 9 [none, none, none, some ⟨.iptr (fl l) ((i7).toNat * 2), [], 0, []⟩, none, some ⟨.sl (ix l i7).Tasks.length (fl (ix l i7).Tasks), [], 0, []⟩] _ (by kernel_rfl) (allP_cons (ob_ld l i7 2 1 (((i7).toNat * 2) + 1) k1299 rfl (by decide) (by first | rfl | omega) (dflS Try.prog 34) (.sl (ix l i7).Tasks.length (fl (ix l i7).Tasks)) rfl 0 []) (allP_cons (ob_ix_l l 2 0 i7 k1299) allP_nil)) ?_
    refine rf [(0, .sl l.length (fl l)), (3, iS (IntKind.i64.wrap (n7 + (((ix l i7).Tasks.length : Nat) : Int)))), (4, iS i7)] [] 0 (by kernel_rfl) ?_
    refine wk_id ?_
    refine wk_id ?_
    refine reg_f ?_
    refine rs 3 [] [] (by kernel_rfl) allP_nil ?_
    refine rf [(0, .sl l.length (fl l)), (3, iS (IntKind.i64.wrap (n7 + (((ix l i7).Tasks.length : Nat) : Int)))), (4, iS (IntKind.i64.wrap (i7 + 1)))] [] 0 (by kernel_rfl) ?_
    exact hn2 ((IntKind.i64.wrap (n7 + (((ix l i7).Tasks.length : Nat) : Int))), (IntKind.i64.wrap (i7 + 1))) _ _ _ (Option.some.inj h).symm (leSt_m [] [] (by simp only [push_cast, seval]) (by simp only [push_cast, seval]) rfl rfl rfl)
  · change R2 (.exit 0) _ _ _
    refine ex_cast hx2 (id := 0) ?_
    obtain ⟨r0, h, e0⟩ := map_sx h
    have e1 := hr2 r0 e0.symm
    subst r0
    refine wk_id ?_
    refine wk_id ?_
    refine seq_cut (A := Unit) (fun _ => ([(2, bS ((decide ((6000 : Int) < ((l.length : Nat) : Int))) || (decide ((6000 : Int) < n7))))], [], 0)) (fun _ => True) (fun K1302 hK1302 => ?_) (fun _ _ => ?_)
    · refine reg_f ?_
      refine rs 4 [] [] (by kernel_rfl) allP_nil ?_
      refine run_split 22 (decide ((6000 : Int) < ((l.length : Nat) : Int))) (.inl (by kernel_rfl)) (fun g1303 => ?_) (fun g1303 => ?_)
      · refine rs 4 [] [] (by kernel_rfl) allP_nil ?_
        refine rf [(2, bS true)] [] 0 (by kernel_rfl) ?_
        exact hK1302 () _ _ _ trivial (leSt_m [] [] (by (try simp only [g1303]) <;> simp only [push_cast, seval]) (by (try simp only [g1303]) <;> simp only [push_cast, seval]) rfl rfl rfl)
      · refine rs 4 [] [] (by kernel_rfl) allP_nil ?_
        refine rf [(2, bS (decide ((6000 : Int) < n7)))] [] 0 (by kernel_rfl) ?_
        exact hK1302 () _ _ _ trivial (leSt_m [] [] (by (try simp only [g1303]) <;> simp only [push_cast, seval]) (by (try simp only [g1303]) <;> simp only [push_cast, seval]) rfl rfl rfl)
    · dsimp only
      obtain rfl := Option.some.inj h
      refine ret_at (bS ((decide ((6000 : Int) < ((l.length : Nat) : Int))) || (decide ((6000 : Int) < n7)))) (by kernel_rfl) ?_
      exact ret_e [] [] (by simp only [push_cast, seval]) (by simp only [push_cast, seval]) rfl rfl rfl

set_option maxRecDepth 100000 in
set_option maxHeartbeats 200000000 in
theorem taskmilllaw_own_spec (l : (List Int)) (r : (List Int)) (h : taskmilllaw_own l = some r) : SpecW Try.prog 22 [.sl l.length (fl l)] [] 0 (fun x h n => x = .own 0 0 r.length ∧ h = [(0, .row 3 (fl r))] ∧ n = 1) := by
  unfold taskmilllaw_own at h
  refine spec_of (draw_ok _) Try.func22 rfl (by decide) rfl (by kernel_rfl) ?_
  refine seq_np ?_
  refine reg_f ?_
  refine rs 1 [] [] (by kernel_rfl) allP_nil ?_
  refine rf [(0, .sl l.length (fl l))] [] 0 (by kernel_rfl) ?_
  refine wk_id ?_
  refine chk_sx h (fun g1317 h => ?_)
  refine seq_np ?_
  refine reg_f ?_
  have k1316 : l.length * 8 ≤ 140737488355328 := by first | simpa only [Bool.and_eq_true, decide_eq_true_eq, bne_iff_ne, ne_eq] using g1317 | (simp at g1317 ⊢; omega)
  refine rs 3 [none, some ⟨.own 0 0 l.length, [(0, .row 3 (fl l))], 1, []⟩] _ (by kernel_rfl) (allP_cons (ob_app0 (P := Try.prog) l 1 8 rfl (fl l) l.length rfl rfl ((fl l).length = l.length * 1) (app_sl l 1 rfl) 3 (by kernel_rfl) (by decide) k1316 0 []) allP_nil) ?_
  refine rf [(2, .own 0 0 l.length)] [(0, .row 3 (fl l))] 1 (by kernel_rfl) ?_
  refine wk_id ?_
  obtain rfl := Option.some.inj h
  refine ret_at (.own 0 0 l.length) (by kernel_rfl) ?_
  exact ret_e [(0, 0)] [] (by simp only [push_cast, seval]) (by simp only [push_cast, seval]) rfl rfl rfl

set_option maxRecDepth 100000 in
set_option maxHeartbeats 200000000 in
theorem taskmilllaw_ownLines_spec (l : (List Line)) (r : (List Line)) (h : taskmilllaw_ownLines l = some r) : SpecW Try.prog 10 [.sl l.length (fl l)] [] 0 (fun x h n => x = .own 0 0 r.length ∧ h = [(0, .row 55 (fl r))] ∧ n = 1) := by
  unfold taskmilllaw_ownLines at h
  refine spec_of (draw_ok _) Try.func10 rfl (by decide) rfl (by kernel_rfl) ?_
  refine seq_np ?_
  refine reg_f ?_
  refine rs 1 [] [] (by kernel_rfl) allP_nil ?_
  refine rf [(0, .sl l.length (fl l))] [] 0 (by kernel_rfl) ?_
  refine wk_id ?_
  refine seq_np ?_
  refine reg_f ?_
  refine rs 1 [] [] (by kernel_rfl) allP_nil ?_
  refine rf [(0, .sl l.length (fl l)), (3, .v (.slice none 0 0))] [] 0 (by kernel_rfl) ?_
  refine wk_id ?_
  refine seq_np ?_
  refine seq_np ?_
  refine reg_f ?_
  refine rs 1 [] [] (by kernel_rfl) allP_nil ?_
  refine rf [(0, .sl l.length (fl l)), (3, .v (.slice none 0 0)), (4, iS 0)] [] 0 (by kernel_rfl) ?_
  refine wk_id ?_
  refine block_np ?_
  refine loop_sx (S := Int × (List Line)) (fun a => ([(0, .sl l.length (fl l)), (3, .own 0 0 a.2.length), (4, iS a.1)], [(0, .row 55 (fl a.2))], 1)) h (leSt_m [] [] (by simp only [push_cast, seval]) (by simp only [push_cast, seval]) rfl rfl rfl) ?_
  rintro ⟨i7, c0q8⟩ o2 R2 h hr2 hn2 hx2 ht2
  try dsimp only at h hn2 ⊢
  unfold taskmilllaw_ownLines_l1 at h
  try dsimp only at h
  refine seq_np ?_
  refine seq_np ?_
  refine reg_f ?_
  refine rs 4 [] [] (by kernel_rfl) allP_nil ?_
  refine rf [(0, .sl l.length (fl l)), (3, .own 0 0 c0q8.length), (4, iS i7), (8, bS (decide (i7 < ((l.length : Nat) : Int))))] [(0, .row 55 (fl c0q8))] 1 (by kernel_rfl) ?_
  refine wk_id ?_
  refine cond_sx h (by kernel_rfl) (fun g1434 h => ?_) (fun g1434 h => ?_)
  · refine wk_id ?_
    refine seq_np ?_
    refine block_np ?_
    refine chk_sx h (fun g1428 h => ?_)
    refine chk_sx h (fun g1430 h => ?_)
    refine reg_t ?_
    have k1427 : 0 ≤ i7 ∧ i7 < ((l.length : Nat) : Int) := by first | simpa only [Bool.and_eq_true, decide_eq_true_eq, bne_iff_ne, ne_eq] using g1428 | (simp at g1428 ⊢; omega)
    have k1429 : 0 ≤ i7 ∧ i7 < ((l.length : Nat) : Int) := by first | simpa only [Bool.and_eq_true, decide_eq_true_eq, bne_iff_ne, ne_eq] using g1430 | (simp at g1430 ⊢; omega)
    refine rs 11 [none, none, none, some ⟨.iptr (fl l) ((i7).toNat * 2), [], 4, []⟩, none, some ⟨iS (ix l i7).At, [], 6, []⟩, none, none, some ⟨.iptr (fl l) ((i7).toNat * 2), [], 9, []⟩, none, some ⟨.sl (ix l i7).Tasks.length (fl (ix l i7).Tasks), [], 11, []⟩] _ (by kernel_rfl) (allP_cons (ob_ld l i7 2 1 (((i7).toNat * 2) + 1) k1429 rfl (by decide) (by first | rfl | omega) (dflS Try.prog 34) (.sl (ix l i7).Tasks.length (fl (ix l i7).Tasks)) rfl 11 []) (allP_cons (ob_ix_l l 2 9 i7 k1429) (allP_cons (ob_ld l i7 2 0 (((i7).toNat * 2) + 0) k1427 rfl (by decide) (by first | rfl | omega) (dflS Try.prog 3) (iS (ix l i7).At) rfl 6 []) (allP_cons (ob_ix_l l 2 4 i7 k1427) allP_nil)))) ?_
    obtain ⟨r1431, hr1431, h⟩ := bind_sx h
    refine call_x (SpecW.frz (taskmilllaw_own_spec (ix l i7).Tasks r1431 hr1431)) (args := [.sl (ix l i7).Tasks.length (fl (ix l i7).Tasks)]) (dst := (some 22)) (by kernel_rfl) [(0, .row 55 (fl c0q8))] 12 (by kernel_rfl) [] [] (.sl r1431.length (fl r1431)) [(12, .dead)] (by simp only [push_cast, seval]) (by simp only [push_cast, seval]) (by kernel_rfl) (.inl rfl) (by simp only [push_cast, seval]) (by simp only [push_cast, seval]) ?_
    refine chk_sx h (fun g1433 h => ?_)
    have k1432 : (c0q8 ++ ([(Line.mk (ix l i7).At r1431)] : List Line)).length * 32 ≤ 140737488355328 := by first | simpa only [Bool.and_eq_true, decide_eq_true_eq, bne_iff_ne, ne_eq] using g1433 | (simp at g1433 ⊢; omega)
    refine rs 4 [none, none, some ⟨.own 17 0 (c0q8 ++ ([(Line.mk (ix l i7).At r1431)] : List Line)).length, [(17, .row 55 (fl (c0q8 ++ ([(Line.mk (ix l i7).At r1431)] : List Line)))), (0, .dead)], 18, [0, 15]⟩] _ (by kernel_rfl) (allP_cons (ob_app (P := Try.prog) c0q8 ([(Line.mk (ix l i7).At r1431)] : List Line) 2 32 rfl (appCells (fl ([(Line.mk (ix l i7).At r1431)] : List Line)) 0 (([(Line.mk (ix l i7).At r1431)] : List Line).length * 2)) ([(Line.mk (ix l i7).At r1431)] : List Line).length (app_own ([(Line.mk (ix l i7).At r1431)] : List Line) 2 rfl) rfl (0 + ([(Line.mk (ix l i7).At r1431)] : List Line).length * 2 ≤ (fl ([(Line.mk (ix l i7).At r1431)] : List Line)).length) (app_own_le ([(Line.mk (ix l i7).At r1431)] : List Line) 2 rfl) 55 (by kernel_rfl) (by decide) k1432 0 17 [15]) allP_nil) ?_
    refine rt [(0, .sl l.length (fl l)), (3, .own 17 0 (c0q8 ++ ([(Line.mk (ix l i7).At r1431)] : List Line)).length), (4, iS i7)] [(0, .dead), (12, .dead), (15, .row 55 (fl ([(Line.mk (ix l i7).At r1431)] : List Line))), (17, .row 55 (fl (c0q8 ++ ([(Line.mk (ix l i7).At r1431)] : List Line))))] 20 follows (by kernel_rfl) ?_
    refine wk_id ?_
    refine wk_id ?_
    refine reg_f ?_
    refine rs 3 [] [] (by kernel_rfl) allP_nil ?_
    refine rf [(0, .sl l.length (fl l)), (3, .own 17 0 (c0q8 ++ ([(Line.mk (ix l i7).At r1431)] : List Line)).length), (4, iS (IntKind.i64.wrap (i7 + 1)))] [(0, .dead), (12, .dead), (15, .row 55 (fl ([(Line.mk (ix l i7).At r1431)] : List Line))), (17, .row 55 (fl (c0q8 ++ ([(Line.mk (ix l i7).At r1431)] : List Line))))] 20 (by kernel_rfl) ?_
    exact hn2 ((IntKind.i64.wrap (i7 + 1)), (c0q8 ++ ([(Line.mk (ix l i7).At r1431)] : List Line))) _ _ _ (Option.some.inj h).symm (leSt_m [(0, 17)] [] (by simp only [push_cast, seval]) (by simp only [push_cast, seval]) rfl rfl rfl)
  · change R2 (.exit 0) _ _ _
    refine ex_cast hx2 (id := 0) ?_
    obtain ⟨r0, h, e0⟩ := map_sx h
    have e1 := hr2 r0 e0.symm
    subst r0
    refine wk_id ?_
    refine wk_id ?_
    refine seq_np ?_
    refine reg_f ?_
    refine rs 2 [] [] (by kernel_rfl) allP_nil ?_
    refine rf [(2, .own 0 0 c0q8.length)] [(0, .row 55 (fl c0q8))] 1 (by kernel_rfl) ?_
    refine wk_id ?_
    obtain rfl := Option.some.inj h
    refine ret_at (.own 0 0 c0q8.length) (by kernel_rfl) ?_
    exact ret_e [(0, 0)] [] (by simp only [push_cast, seval]) (by simp only [push_cast, seval]) rfl rfl rfl

set_option maxRecDepth 100000 in
set_option maxHeartbeats 200000000 in
theorem taskmillref_F_spec (code : Int) (xat : Int) (r : Fault) (h : taskmillref_F code xat = some r) : SpecW Try.prog 15 [iS code, iS xat] [] 0 (fun x h n => x = .agg (Enc.cells r) ∧ h = [] ∧ n = 0) := by
  unfold taskmillref_F at h
  refine spec_of (draw_ok _) Try.func15 rfl (by decide) rfl (by kernel_rfl) ?_
  refine seq_np ?_
  refine reg_f ?_
  refine rs 1 [] [] (by kernel_rfl) allP_nil ?_
  refine rf [(0, iS code), (1, iS xat), (4, .ptr 0 0)] [(0, .row 27 [iS 0, iS 0])] 1 (by kernel_rfl) ?_
  refine wk_id ?_
  refine seq_np ?_
  refine reg_f ?_
  refine rs 4 [] [] (by kernel_rfl) allP_nil ?_
  refine rf [(4, .ptr 0 0)] [(0, .row 27 [iS code, iS xat])] 1 (by kernel_rfl) ?_
  refine wk_id ?_
  obtain rfl := Option.some.inj h
  refine ret_at (.agg [iS code, iS xat]) (by kernel_rfl) ?_
  exact ret_e [] [] (by simp only [push_cast, seval]) (by simp only [push_cast, seval]) rfl rfl rfl

set_option maxRecDepth 100000 in
set_option maxHeartbeats 200000000 in
theorem taskmillref_Has_spec (l : (List Int)) (n : Int) (r : Bool) (h : taskmillref_Has l n = some r) : SpecW Try.prog 16 [.sl l.length (fl l), iS n] [] 0 (fun x h n => x = bS r ∧ h = [] ∧ n = 0) := by
  unfold taskmillref_Has at h
  refine spec_of (draw_ok _) Try.func16 rfl (by decide) rfl (by kernel_rfl) ?_
  refine seq_np ?_
  refine reg_f ?_
  refine rs 1 [] [] (by kernel_rfl) allP_nil ?_
  refine rf [(0, .sl l.length (fl l)), (1, iS n)] [] 0 (by kernel_rfl) ?_
  refine wk_id ?_
  refine seq_np ?_
  refine seq_np ?_
  refine reg_f ?_
  refine rs 1 [] [] (by kernel_rfl) allP_nil ?_
  refine rf [(0, .sl l.length (fl l)), (1, iS n), (5, iS 0)] [] 0 (by kernel_rfl) ?_
  refine wk_id ?_
  refine block_np ?_
  refine loop_sx (S := Int) (fun a => ([(0, .sl l.length (fl l)), (1, iS n), (5, iS a)], [], 0)) h (leSt_m [] [] (by simp only [push_cast, seval]) (by simp only [push_cast, seval]) rfl rfl rfl) ?_
  rintro i7 o2 R2 h hr2 hn2 hx2 ht2
  try dsimp only at h hn2 ⊢
  unfold taskmillref_Has_l1 at h
  try dsimp only at h
  refine seq_np ?_
  refine seq_np ?_
  refine reg_f ?_
  refine rs 4 [] [] (by kernel_rfl) allP_nil ?_
  refine rf [(0, .sl l.length (fl l)), (1, iS n), (5, iS i7), (9, bS (decide (i7 < ((l.length : Nat) : Int))))] [] 0 (by kernel_rfl) ?_
  refine wk_id ?_
  refine cond_sx h (by kernel_rfl) (fun g1523 h => ?_) (fun g1523 h => ?_)
  · refine wk_id ?_
    refine seq_np ?_
    refine block_np ?_
    refine chk_sx h (fun g1521 h => ?_)
    refine seq_np ?_
    refine reg_f ?_
    have k1520 : 0 ≤ i7 ∧ i7 < ((l.length : Nat) : Int) := by first | simpa only [Bool.and_eq_true, decide_eq_true_eq, bne_iff_ne, ne_eq] using g1521 | (simp at g1521 ⊢; omega)
    refine rs 6 [none, none, some ⟨.iptr (fl l) ((i7).toNat * 1), [], 0, []⟩, some ⟨iS (ix l i7), [], 0, []⟩] _ (by kernel_rfl) (allP_cons (ob_ld l i7 1 0 ((i7).toNat * 1) k1520 rfl (by decide) (by first | rfl | omega) (dflS Try.prog 3) (iS (ix l i7)) rfl 0 []) (allP_cons (ob_ix_l l 1 0 i7 k1520) allP_nil)) ?_
    refine rf [(0, .sl l.length (fl l)), (1, iS n), (5, iS i7), (17, bS ((ix l i7) == n))] [] 0 (by kernel_rfl) ?_
    refine wk_id ?_
    refine cond_sx h (by kernel_rfl) (fun g1522 h => ?_) (fun g1522 h => ?_)
    · refine seq_np ?_
      refine reg_f ?_
      refine rs 1 [] [] (by kernel_rfl) allP_nil ?_
      refine rf [(4, bS true)] [] 0 (by kernel_rfl) ?_
      refine wk_id ?_
      refine rt_cast ht2 ?_
      obtain ⟨r0, h, e0⟩ := map_sx h
      have e1 := hr2 r0 e0.symm
      subst r0
      obtain rfl := Option.some.inj h
      refine ret_at (bS true) (by kernel_rfl) ?_
      exact ret_e [] [] (by simp only [push_cast, seval]) (by simp only [push_cast, seval]) rfl rfl rfl
    · refine wk_id ?_
      refine wk_id ?_
      refine reg_f ?_
      refine rs 3 [] [] (by kernel_rfl) allP_nil ?_
      refine rf [(0, .sl l.length (fl l)), (1, iS n), (5, iS (IntKind.i64.wrap (i7 + 1)))] [] 0 (by kernel_rfl) ?_
      exact hn2 ((IntKind.i64.wrap (i7 + 1))) _ _ _ (Option.some.inj h).symm (leSt_m [] [] (by simp only [push_cast, seval]) (by simp only [push_cast, seval]) rfl rfl rfl)
  · change R2 (.exit 0) _ _ _
    refine ex_cast hx2 (id := 0) ?_
    obtain ⟨r0, h, e0⟩ := map_sx h
    have e1 := hr2 r0 e0.symm
    subst r0
    refine wk_id ?_
    refine wk_id ?_
    refine seq_np ?_
    refine reg_f ?_
    refine rs 1 [] [] (by kernel_rfl) allP_nil ?_
    refine rf [(4, bS false)] [] 0 (by kernel_rfl) ?_
    refine wk_id ?_
    obtain rfl := Option.some.inj h
    refine ret_at (bS false) (by kernel_rfl) ?_
    exact ret_e [] [] (by simp only [push_cast, seval]) (by simp only [push_cast, seval]) rfl rfl rfl

set_option maxRecDepth 100000 in
set_option maxHeartbeats 200000000 in
theorem taskmillref_LinesFault_spec (l : (List Line)) (r : Fault) (h : taskmillref_LinesFault l = some r) : SpecW Try.prog 13 [.sl l.length (fl l)] [] 0 (fun x h n => x = .agg (Enc.cells r) ∧ h = [] ∧ n = 0) := by
  unfold taskmillref_LinesFault at h
  refine spec_of (draw_ok _) Try.func13 rfl (by decide) rfl (by kernel_rfl) ?_
  refine seq_np ?_
  refine reg_f ?_
  refine rs 1 [] [] (by kernel_rfl) allP_nil ?_
  refine rf [(0, .sl l.length (fl l)), (2, .ptr 0 0)] [(0, .row 27 [iS 0, iS 0])] 1 (by kernel_rfl) ?_
  refine wk_id ?_
  refine seq_np ?_
  refine seq_np ?_
  refine reg_f ?_
  refine rs 3 [] [] (by kernel_rfl) allP_nil ?_
  refine rf [(0, .sl l.length (fl l)), (2, .ptr 0 0), (8, bS (decide ((5000 : Int) < ((l.length : Nat) : Int))))] [(0, .row 27 [iS 0, iS 0])] 1 (by kernel_rfl) ?_
  refine wk_id ?_
  refine cond_sx h (by kernel_rfl) (fun g2803 h => ?_) (fun g2803 h => ?_)
  · refine seq_np ?_
    refine reg_f ?_
    obtain ⟨r1746, hr1746, h⟩ := bind_sx h
    refine run_call 15 [iS 2, iS 0] (some 9) (by kernel_rfl) ?_
    refine call_0 (taskmillref_F_spec 2 0 r1746 hr1746) (by simp only [push_cast, seval]) (by simp only [push_cast, seval]) ?_
    refine back_f ?_
    refine rs 1 [] [] (by kernel_rfl) allP_nil ?_
    refine rf [(2, .ptr 0 0)] [(0, .row 27 (Enc.cells r1746))] 1 (by kernel_rfl) ?_
    refine wk_id ?_
    obtain rfl := Option.some.inj h
    refine ret_at (.agg (Enc.cells r1746)) (by kernel_rfl) ?_
    exact ret_e [] [] (by simp only [push_cast, seval]) (by simp only [push_cast, seval]) rfl rfl rfl
  · refine wk_id ?_
    refine seq_np ?_
    refine reg_f ?_
    refine rs 1 [] [] (by kernel_rfl) allP_nil ?_
    refine rf [(0, .sl l.length (fl l)), (2, .ptr 0 0), (3, .v (.slice none 0 0))] [(0, .row 27 [iS 0, iS 0])] 1 (by kernel_rfl) ?_
    refine wk_id ?_
    refine seq_np ?_
    refine seq_np ?_
    refine reg_f ?_
    refine rs 1 [] [] (by kernel_rfl) allP_nil ?_
    refine rf [(0, .sl l.length (fl l)), (2, .ptr 0 0), (3, .v (.slice none 0 0)), (4, iS 0)] [(0, .row 27 [iS 0, iS 0])] 1 (by kernel_rfl) ?_
    refine wk_id ?_
    refine block_np ?_
    refine loop_sx (S := Int × (List Int)) (fun a => ([(0, .sl l.length (fl l)), (2, .ptr 0 0), (3, .own 1 0 a.2.length), (4, iS a.1)], [(0, .row 27 [iS 0, iS 0]), (1, .row 3 (fl a.2))], 2)) h (leSt_m [(0, 0)] [] (by simp only [push_cast, seval]) (by simp only [push_cast, seval]) rfl rfl rfl) ?_
    rintro ⟨i7, c1q29⟩ o3 R3 h hr3 hn3 hx3 ht3
    try dsimp only at h hn3 ⊢
    unfold taskmillref_LinesFault_l2 at h
    try dsimp only at h
    refine seq_np ?_
    refine seq_np ?_
    refine reg_f ?_
    refine rs 4 [] [] (by kernel_rfl) allP_nil ?_
    refine rf [(0, .sl l.length (fl l)), (2, .ptr 0 0), (3, .own 1 0 c1q29.length), (4, iS i7), (13, bS (decide (i7 < ((l.length : Nat) : Int))))] [(0, .row 27 [iS 0, iS 0]), (1, .row 3 (fl c1q29))] 2 (by kernel_rfl) ?_
    refine wk_id ?_
    refine cond_sx h (by kernel_rfl) (fun g2802 h => ?_) (fun g2802 h => ?_)
    · refine wk_id ?_
      refine seq_np ?_
      refine block_np ?_
      refine seq_np ?_
      refine chk_sx h (fun g2561 h => ?_)
      refine seq_np ?_
      refine reg_f ?_
      have k2560 : 0 ≤ i7 ∧ i7 < ((l.length : Nat) : Int) := by first | simpa only [Bool.and_eq_true, decide_eq_true_eq, bne_iff_ne, ne_eq] using g2561 | (simp at g2561 ⊢; omega)
      refine rs 10 [none, none, none, none, some ⟨.iptr (fl l) ((i7).toNat * 2), [], 2, []⟩, none, some ⟨.sl (ix l i7).Tasks.length (fl (ix l i7).Tasks), [], 2, []⟩] _ (by kernel_rfl) (allP_cons (ob_ld l i7 2 1 (((i7).toNat * 2) + 1) k2560 rfl (by decide) (by first | rfl | omega) (dflS Try.prog 34) (.sl (ix l i7).Tasks.length (fl (ix l i7).Tasks)) rfl 2 []) (allP_cons (ob_ix_l l 2 2 i7 k2560) allP_nil)) ?_
      refine rf [(0, .sl l.length (fl l)), (2, .ptr 0 0), (3, .own 1 0 c1q29.length), (4, iS i7), (25, bS (decide ((5000 : Int) < (IntKind.i64.wrap (((c1q29.length : Nat) : Int) + (((ix l i7).Tasks.length : Nat) : Int))))))] [(0, .row 27 [iS 0, iS 0]), (1, .row 3 (fl c1q29))] 2 (by kernel_rfl) ?_
      refine wk_id ?_
      refine cond_sx h (by kernel_rfl) (fun g2801 h => ?_) (fun g2801 h => ?_)
      · refine seq_np ?_
        refine reg_f ?_
        refine rs 1 [] [] (by kernel_rfl) allP_nil ?_
        obtain ⟨r2563, hr2563, h⟩ := bind_sx h
        refine run_call 15 [iS 2, iS i7] (some 27) (by kernel_rfl) ?_
        refine call_0 (taskmillref_F_spec 2 i7 r2563 hr2563) (by simp only [push_cast, seval]) (by simp only [push_cast, seval]) ?_
        refine back_f ?_
        refine rs 1 [] [] (by kernel_rfl) allP_nil ?_
        refine rf [(2, .ptr 0 0)] [(0, .row 27 (Enc.cells r2563)), (1, .row 3 (fl c1q29))] 2 (by kernel_rfl) ?_
        refine wk_id ?_
        refine rt_cast ht3 ?_
        obtain ⟨r0, h, e0⟩ := map_sx h
        have e1 := hr3 r0 e0.symm
        subst r0
        obtain rfl := Option.some.inj h
        refine ret_at (.agg (Enc.cells r2563)) (by kernel_rfl) ?_
        exact ret_e [] [] (by simp only [push_cast, seval]) (by simp only [push_cast, seval]) rfl rfl rfl
      · refine wk_id ?_
        refine seq_np ?_
        refine chk_sx h (fun g2584 h => ?_)
        refine chk_sx h (fun g2588 h => ?_)
        refine chk_sx h (fun g2590 h => ?_)
        refine seq_cut (A := Unit) (fun _ => ([(0, .sl l.length (fl l)), (2, .ptr 0 0), (3, .own 1 0 c1q29.length), (4, iS i7), (52, bS (((((ix l i7).Tasks.length : Nat) : Int) == 0) || ((decide ((0 : Int) < i7)) && (decide ((ix l i7).At ≤ (ix l (IntKind.i64.wrap (i7 - 1))).At)))))], [(0, .row 27 [iS 0, iS 0]), (1, .row 3 (fl c1q29))], 27)) (fun _ => True) (fun K2582 hK2582 => ?_) (fun _ _ => ?_)
        · refine reg_t ?_
          have k2583 : 0 ≤ i7 ∧ i7 < ((l.length : Nat) : Int) := by first | simpa only [Bool.and_eq_true, decide_eq_true_eq, bne_iff_ne, ne_eq] using g2584 | (simp at g2584 ⊢; omega)
          refine rs 8 [none, none, some ⟨.iptr (fl l) ((i7).toNat * 2), [], 4, []⟩, none, some ⟨.sl (ix l i7).Tasks.length (fl (ix l i7).Tasks), [], 6, []⟩] _ (by kernel_rfl) (allP_cons (ob_ld l i7 2 1 (((i7).toNat * 2) + 1) k2583 rfl (by decide) (by first | rfl | omega) (dflS Try.prog 34) (.sl (ix l i7).Tasks.length (fl (ix l i7).Tasks)) rfl 6 []) (allP_cons (ob_ix_l l 2 4 i7 k2583) allP_nil)) ?_
          refine run_split 35 ((((ix l i7).Tasks.length : Nat) : Int) == 0) (.inl (by kernel_rfl)) (fun g2585 => ?_) (fun g2585 => ?_)
          · refine rs 17 [] [] (by kernel_rfl) allP_nil ?_
            refine rt [(0, .sl l.length (fl l)), (2, .ptr 0 0), (3, .own 1 0 c1q29.length), (4, iS i7), (52, bS true)] [(0, .row 27 [iS 0, iS 0]), (1, .row 3 (fl c1q29))] 27 follows (by kernel_rfl) ?_
            exact hK2582 () _ _ _ trivial (leSt_m [(0, 0), (1, 1)] [] (by (try simp only [g2585]) <;> simp only [push_cast, seval]) (by (try simp only [g2585]) <;> simp only [push_cast, seval]) rfl rfl rfl)
          · refine rs 3 [] [] (by kernel_rfl) allP_nil ?_
            refine run_split 38 (decide ((0 : Int) < i7)) (.inr (by kernel_rfl)) (fun g2586 => ?_) (fun g2586 => ?_)
            · have k2587 : 0 ≤ i7 ∧ i7 < ((l.length : Nat) : Int) := by have e := or_use g2588 (by first | ((try simp only [g2585, g2586]) <;> rfl) | ((try simp only [g2585]); (try simp only [g2586]); rfl) | (exfalso; clear h; simp_all; done)); first | simpa only [Bool.and_eq_true, decide_eq_true_eq, bne_iff_ne, ne_eq] using e | (simp at e ⊢; omega)
              have k2589 : 0 ≤ (IntKind.i64.wrap (i7 - 1)) ∧ (IntKind.i64.wrap (i7 - 1)) < ((l.length : Nat) : Int) := by have e := or_use g2590 (by first | ((try simp only [g2585, g2586]) <;> rfl) | ((try simp only [g2585]); (try simp only [g2586]); rfl) | (exfalso; clear h; simp_all; done)); first | simpa only [Bool.and_eq_true, decide_eq_true_eq, bne_iff_ne, ne_eq] using e | (simp at e ⊢; omega)
              refine rs 14 [none, none, some ⟨.iptr (fl l) ((i7).toNat * 2), [], 15, []⟩, none, some ⟨iS (ix l i7).At, [], 17, []⟩, none, none, none, some ⟨.iptr (fl l) (((IntKind.i64.wrap (i7 - 1))).toNat * 2), [], 21, []⟩, none, some ⟨iS (ix l (IntKind.i64.wrap (i7 - 1))).At, [], 23, []⟩] _ (by kernel_rfl) (allP_cons (ob_ld l (IntKind.i64.wrap (i7 - 1)) 2 0 ((((IntKind.i64.wrap (i7 - 1))).toNat * 2) + 0) k2589 rfl (by decide) (by first | rfl | omega) (dflS Try.prog 3) (iS (ix l (IntKind.i64.wrap (i7 - 1))).At) rfl 23 []) (allP_cons (ob_ix_l l 2 21 (IntKind.i64.wrap (i7 - 1)) k2589) (allP_cons (ob_ld l i7 2 0 (((i7).toNat * 2) + 0) k2587 rfl (by decide) (by first | rfl | omega) (dflS Try.prog 3) (iS (ix l i7).At) rfl 17 []) (allP_cons (ob_ix_l l 2 15 i7 k2587) allP_nil)))) ?_
              refine rt [(0, .sl l.length (fl l)), (2, .ptr 0 0), (3, .own 1 0 c1q29.length), (4, iS i7), (52, bS (decide ((ix l i7).At ≤ (ix l (IntKind.i64.wrap (i7 - 1))).At)))] [(0, .row 27 [iS 0, iS 0]), (1, .row 3 (fl c1q29))] 27 follows (by kernel_rfl) ?_
              exact hK2582 () _ _ _ trivial (leSt_m [(0, 0), (1, 1)] [] (by first | ((try simp only [g2585, g2586]) <;> simp only [push_cast, seval]; done) | ((try simp only [g2585]); (try simp only [g2586]); simp only [push_cast, seval]; done) | (exfalso; clear h; simp_all; done)) (by first | ((try simp only [g2585, g2586]) <;> simp only [push_cast, seval]; done) | ((try simp only [g2585]); (try simp only [g2586]); simp only [push_cast, seval]; done) | (exfalso; clear h; simp_all; done)) rfl rfl rfl)
            · refine rs 14 [] [] (by kernel_rfl) allP_nil ?_
              refine rt [(0, .sl l.length (fl l)), (2, .ptr 0 0), (3, .own 1 0 c1q29.length), (4, iS i7), (52, bS false)] [(0, .row 27 [iS 0, iS 0]), (1, .row 3 (fl c1q29))] 27 follows (by kernel_rfl) ?_
              exact hK2582 () _ _ _ trivial (leSt_m [(0, 0), (1, 1)] [] (by first | ((try simp only [g2585, g2586]) <;> simp only [push_cast, seval]; done) | ((try simp only [g2585]); (try simp only [g2586]); simp only [push_cast, seval]; done) | (exfalso; clear h; simp_all; done)) (by first | ((try simp only [g2585, g2586]) <;> simp only [push_cast, seval]; done) | ((try simp only [g2585]); (try simp only [g2586]); simp only [push_cast, seval]; done) | (exfalso; clear h; simp_all; done)) rfl rfl rfl)
        · dsimp only
          refine cond_sx h (by kernel_rfl) (fun g2800 h => ?_) (fun g2800 h => ?_)
          · refine seq_np ?_
            refine reg_f ?_
            refine rs 1 [] [] (by kernel_rfl) allP_nil ?_
            obtain ⟨r2592, hr2592, h⟩ := bind_sx h
            refine run_call 15 [iS 5, iS i7] (some 54) (by kernel_rfl) ?_
            refine call_0 (taskmillref_F_spec 5 i7 r2592 hr2592) (by simp only [push_cast, seval]) (by simp only [push_cast, seval]) ?_
            refine back_f ?_
            refine rs 1 [] [] (by kernel_rfl) allP_nil ?_
            refine rf [(2, .ptr 0 0)] [(0, .row 27 (Enc.cells r2592)), (1, .row 3 (fl c1q29))] 27 (by kernel_rfl) ?_
            refine wk_id ?_
            refine rt_cast ht3 ?_
            obtain ⟨r0, h, e0⟩ := map_sx h
            have e1 := hr3 r0 e0.symm
            subst r0
            obtain rfl := Option.some.inj h
            refine ret_at (.agg (Enc.cells r2592)) (by kernel_rfl) ?_
            exact ret_e [] [] (by simp only [push_cast, seval]) (by simp only [push_cast, seval]) rfl rfl rfl
          · refine wk_id ?_
            refine seq_np ?_
            refine reg_f ?_
            refine rs 1 [] [] (by kernel_rfl) allP_nil ?_
            refine rf [(0, .sl l.length (fl l)), (2, .ptr 0 0), (3, .own 1 0 c1q29.length), (4, iS i7), (5, iS 0)] [(0, .row 27 [iS 0, iS 0]), (1, .row 3 (fl c1q29))] 27 (by kernel_rfl) ?_
            refine wk_id ?_
            refine block_np ?_
            refine loop_sx (S := Int × (List Int)) (fun a => ([(0, .sl l.length (fl l)), (2, .ptr 0 0), (3, .own 1 0 a.2.length), (4, iS i7), (5, iS a.1)], [(0, .row 27 [iS 0, iS 0]), (1, .row 3 (fl a.2))], 2)) h (leSt_m [(0, 0), (1, 1)] [] (by simp only [push_cast, seval]) (by simp only [push_cast, seval]) rfl rfl rfl) ?_
            rintro ⟨k29, c1q37⟩ o4 R4 h hr4 hn4 hx4 ht4
            try dsimp only at h hn4 ⊢
            unfold taskmillref_LinesFault_l1 at h
            try dsimp only at h
            refine seq_np ?_
            refine chk_sx h (fun g2711 h => ?_)
            refine seq_np ?_
            refine reg_f ?_
            have k2710 : 0 ≤ i7 ∧ i7 < ((l.length : Nat) : Int) := by first | simpa only [Bool.and_eq_true, decide_eq_true_eq, bne_iff_ne, ne_eq] using g2711 | (simp at g2711 ⊢; omega)
            refine rs 8 [none, none, none, some ⟨.iptr (fl l) ((i7).toNat * 2), [], 2, []⟩, none, some ⟨.sl (ix l i7).Tasks.length (fl (ix l i7).Tasks), [], 2, []⟩] _ (by kernel_rfl) (allP_cons (ob_ld l i7 2 1 (((i7).toNat * 2) + 1) k2710 rfl (by decide) (by first | rfl | omega) (dflS Try.prog 34) (.sl (ix l i7).Tasks.length (fl (ix l i7).Tasks)) rfl 2 []) (allP_cons (ob_ix_l l 2 2 i7 k2710) allP_nil)) ?_
            refine rf [(0, .sl l.length (fl l)), (2, .ptr 0 0), (3, .own 1 0 c1q37.length), (4, iS i7), (5, iS k29), (62, bS (decide (k29 < (((ix l i7).Tasks.length : Nat) : Int))))] [(0, .row 27 [iS 0, iS 0]), (1, .row 3 (fl c1q37))] 2 (by kernel_rfl) ?_
            refine wk_id ?_
            refine cond_sx h (by kernel_rfl) (fun g2799 h => ?_) (fun g2799 h => ?_)
            · refine wk_id ?_
              refine seq_np ?_
              refine block_np ?_
              refine seq_np ?_
              refine chk_sx h (fun g2761 h => ?_)
              refine chk_sx h (fun g2763 h => ?_)
              refine seq_np ?_
              refine reg_f ?_
              have k2760 : 0 ≤ i7 ∧ i7 < ((l.length : Nat) : Int) := by first | simpa only [Bool.and_eq_true, decide_eq_true_eq, bne_iff_ne, ne_eq] using g2761 | (simp at g2761 ⊢; omega)
              have k2762 : 0 ≤ k29 ∧ k29 < (((ix l i7).Tasks.length : Nat) : Int) := by first | simpa only [Bool.and_eq_true, decide_eq_true_eq, bne_iff_ne, ne_eq] using g2763 | (simp at g2763 ⊢; omega)
              refine rs 9 [none, none, some ⟨.iptr (fl l) ((i7).toNat * 2), [], 2, []⟩, none, some ⟨.sl (ix l i7).Tasks.length (fl (ix l i7).Tasks), [], 2, []⟩, none, some ⟨.iptr (fl (ix l i7).Tasks) ((k29).toNat * 1), [], 2, []⟩, some ⟨iS (ix (ix l i7).Tasks k29), [], 2, []⟩] _ (by kernel_rfl) (allP_cons (ob_ld (ix l i7).Tasks k29 1 0 ((k29).toNat * 1) k2762 rfl (by decide) (by first | rfl | omega) (dflS Try.prog 3) (iS (ix (ix l i7).Tasks k29)) rfl 2 []) (allP_cons (ob_ix_l (ix l i7).Tasks 1 2 k29 k2762) (allP_cons (ob_ld l i7 2 1 (((i7).toNat * 2) + 1) k2760 rfl (by decide) (by first | rfl | omega) (dflS Try.prog 34) (.sl (ix l i7).Tasks.length (fl (ix l i7).Tasks)) rfl 2 []) (allP_cons (ob_ix_l l 2 2 i7 k2760) allP_nil)))) ?_
              refine rf [(0, .sl l.length (fl l)), (2, .ptr 0 0), (3, .own 1 0 c1q37.length), (4, iS i7), (5, iS k29), (73, bS (decide ((ix (ix l i7).Tasks k29) < 1)))] [(0, .row 27 [iS 0, iS 0]), (1, .row 3 (fl c1q37))] 2 (by kernel_rfl) ?_
              refine wk_id ?_
              refine cond_sx h (by kernel_rfl) (fun g2798 h => ?_) (fun g2798 h => ?_)
              · refine seq_np ?_
                refine reg_f ?_
                refine rs 1 [] [] (by kernel_rfl) allP_nil ?_
                obtain ⟨r2765, hr2765, h⟩ := bind_sx h
                refine run_call 15 [iS 3, iS i7] (some 75) (by kernel_rfl) ?_
                refine call_0 (taskmillref_F_spec 3 i7 r2765 hr2765) (by simp only [push_cast, seval]) (by simp only [push_cast, seval]) ?_
                refine back_f ?_
                refine rs 1 [] [] (by kernel_rfl) allP_nil ?_
                refine rf [(2, .ptr 0 0)] [(0, .row 27 (Enc.cells r2765)), (1, .row 3 (fl c1q37))] 2 (by kernel_rfl) ?_
                refine wk_id ?_
                refine rt_cast ht4 ?_
                obtain ⟨r0, h, e0⟩ := map_sx h
                have e1 := hr4 r0 e0.symm
                subst r0
                refine rt_cast ht3 ?_
                obtain ⟨r0, h, e0⟩ := map_sx h
                have e1 := hr3 r0 e0.symm
                subst r0
                obtain rfl := Option.some.inj h
                refine ret_at (.agg (Enc.cells r2765)) (by kernel_rfl) ?_
                exact ret_e [] [] (by simp only [push_cast, seval]) (by simp only [push_cast, seval]) rfl rfl rfl
              · refine wk_id ?_
                refine seq_np ?_
                refine chk_sx h (fun g2779 h => ?_)
                refine chk_sx h (fun g2781 h => ?_)
                refine seq_np ?_
                refine reg_f ?_
                have k2778 : 0 ≤ i7 ∧ i7 < ((l.length : Nat) : Int) := by first | simpa only [Bool.and_eq_true, decide_eq_true_eq, bne_iff_ne, ne_eq] using g2779 | (simp at g2779 ⊢; omega)
                have k2780 : 0 ≤ k29 ∧ k29 < (((ix l i7).Tasks.length : Nat) : Int) := by first | simpa only [Bool.and_eq_true, decide_eq_true_eq, bne_iff_ne, ne_eq] using g2781 | (simp at g2781 ⊢; omega)
                refine rs 9 [none, none, none, some ⟨.iptr (fl l) ((i7).toNat * 2), [], 2, []⟩, none, some ⟨.sl (ix l i7).Tasks.length (fl (ix l i7).Tasks), [], 2, []⟩, none, some ⟨.iptr (fl (ix l i7).Tasks) ((k29).toNat * 1), [], 2, []⟩, some ⟨iS (ix (ix l i7).Tasks k29), [], 2, []⟩] _ (by kernel_rfl) (allP_cons (ob_ld (ix l i7).Tasks k29 1 0 ((k29).toNat * 1) k2780 rfl (by decide) (by first | rfl | omega) (dflS Try.prog 3) (iS (ix (ix l i7).Tasks k29)) rfl 2 []) (allP_cons (ob_ix_l (ix l i7).Tasks 1 2 k29 k2780) (allP_cons (ob_ld l i7 2 1 (((i7).toNat * 2) + 1) k2778 rfl (by decide) (by first | rfl | omega) (dflS Try.prog 34) (.sl (ix l i7).Tasks.length (fl (ix l i7).Tasks)) rfl 2 []) (allP_cons (ob_ix_l l 2 2 i7 k2778) allP_nil)))) ?_
                obtain ⟨r2782, hr2782, h⟩ := bind_sx h
                refine call_x (taskmillref_Has_spec c1q37 (ix (ix l i7).Tasks k29) r2782 hr2782) (args := [.own 1 0 c1q37.length, iS (ix (ix l i7).Tasks k29)]) (dst := (some 85)) (by kernel_rfl) [(0, .row 27 [iS 0, iS 0]), (1, .row 3 (fl c1q37))] 2 (by kernel_rfl) [] [1] (bS r2782) [] (by simp only [push_cast, seval]) (by simp only [push_cast, seval]) (by kernel_rfl) (.inr ⟨by simp only [push_cast, seval], by simp only [push_cast, seval]⟩) (by simp only [push_cast, seval]) (by simp only [push_cast, seval]) ?_
                refine rf [(0, .sl l.length (fl l)), (2, .ptr 0 0), (3, .own 1 0 c1q37.length), (4, iS i7), (5, iS k29), (85, bS r2782)] [(0, .row 27 [iS 0, iS 0]), (1, .row 3 (fl c1q37))] 2 (by kernel_rfl) ?_
                refine wk_id ?_
                refine cond_sx h (by kernel_rfl) (fun g2797 h => ?_) (fun g2797 h => ?_)
                · refine seq_np ?_
                  refine reg_f ?_
                  refine rs 1 [] [] (by kernel_rfl) allP_nil ?_
                  obtain ⟨r2784, hr2784, h⟩ := bind_sx h
                  refine run_call 15 [iS 10, iS i7] (some 87) (by kernel_rfl) ?_
                  refine call_0 (taskmillref_F_spec 10 i7 r2784 hr2784) (by simp only [push_cast, seval]) (by simp only [push_cast, seval]) ?_
                  refine back_f ?_
                  refine rs 1 [] [] (by kernel_rfl) allP_nil ?_
                  refine rf [(2, .ptr 0 0)] [(0, .row 27 (Enc.cells r2784)), (1, .row 3 (fl c1q37))] 2 (by kernel_rfl) ?_
                  refine wk_id ?_
                  refine rt_cast ht4 ?_
                  obtain ⟨r0, h, e0⟩ := map_sx h
                  have e1 := hr4 r0 e0.symm
                  subst r0
                  refine rt_cast ht3 ?_
                  obtain ⟨r0, h, e0⟩ := map_sx h
                  have e1 := hr3 r0 e0.symm
                  subst r0
                  obtain rfl := Option.some.inj h
                  refine ret_at (.agg (Enc.cells r2784)) (by kernel_rfl) ?_
                  exact ret_e [] [] (by simp only [push_cast, seval]) (by simp only [push_cast, seval]) rfl rfl rfl
                · refine wk_id ?_
                  refine chk_sx h (fun g2792 h => ?_)
                  refine chk_sx h (fun g2794 h => ?_)
                  refine chk_sx h (fun g2796 h => ?_)
                  refine reg_f ?_
                  have k2791 : 0 ≤ i7 ∧ i7 < ((l.length : Nat) : Int) := by first | simpa only [Bool.and_eq_true, decide_eq_true_eq, bne_iff_ne, ne_eq] using g2792 | (simp at g2792 ⊢; omega)
                  have k2793 : 0 ≤ k29 ∧ k29 < (((ix l i7).Tasks.length : Nat) : Int) := by first | simpa only [Bool.and_eq_true, decide_eq_true_eq, bne_iff_ne, ne_eq] using g2794 | (simp at g2794 ⊢; omega)
                  have k2795 : (c1q37 ++ ([(ix (ix l i7).Tasks k29)] : List Int)).length * 8 ≤ 140737488355328 := by first | simpa only [Bool.and_eq_true, decide_eq_true_eq, bne_iff_ne, ne_eq] using g2796 | (simp at g2796 ⊢; omega)
                  refine rs 12 [none, none, none, some ⟨.iptr (fl l) ((i7).toNat * 2), [], 2, []⟩, none, some ⟨.sl (ix l i7).Tasks.length (fl (ix l i7).Tasks), [], 2, []⟩, none, some ⟨.iptr (fl (ix l i7).Tasks) ((k29).toNat * 1), [], 2, []⟩, some ⟨iS (ix (ix l i7).Tasks k29), [], 2, []⟩, none, some ⟨.own 3 0 (c1q37 ++ ([(ix (ix l i7).Tasks k29)] : List Int)).length, [(3, .row 3 (fl (c1q37 ++ ([(ix (ix l i7).Tasks k29)] : List Int)))), (1, .dead)], 4, [1, 2]⟩] _ (by kernel_rfl) (allP_cons (ob_app (P := Try.prog) c1q37 ([(ix (ix l i7).Tasks k29)] : List Int) 1 8 rfl (appCells (fl ([(ix (ix l i7).Tasks k29)] : List Int)) 0 (([(ix (ix l i7).Tasks k29)] : List Int).length * 1)) ([(ix (ix l i7).Tasks k29)] : List Int).length (app_own ([(ix (ix l i7).Tasks k29)] : List Int) 1 rfl) rfl (0 + ([(ix (ix l i7).Tasks k29)] : List Int).length * 1 ≤ (fl ([(ix (ix l i7).Tasks k29)] : List Int)).length) (app_own_le ([(ix (ix l i7).Tasks k29)] : List Int) 1 rfl) 3 (by kernel_rfl) (by decide) k2795 1 3 [2]) (allP_cons (ob_ld (ix l i7).Tasks k29 1 0 ((k29).toNat * 1) k2793 rfl (by decide) (by first | rfl | omega) (dflS Try.prog 3) (iS (ix (ix l i7).Tasks k29)) rfl 2 []) (allP_cons (ob_ix_l (ix l i7).Tasks 1 2 k29 k2793) (allP_cons (ob_ld l i7 2 1 (((i7).toNat * 2) + 1) k2791 rfl (by decide) (by first | rfl | omega) (dflS Try.prog 34) (.sl (ix l i7).Tasks.length (fl (ix l i7).Tasks)) rfl 2 []) (allP_cons (ob_ix_l l 2 2 i7 k2791) allP_nil))))) ?_
                  refine rf [(0, .sl l.length (fl l)), (2, .ptr 0 0), (3, .own 3 0 (c1q37 ++ ([(ix (ix l i7).Tasks k29)] : List Int)).length), (4, iS i7), (5, iS k29)] [(0, .row 27 [iS 0, iS 0]), (1, .dead), (2, .row 3 (fl ([(ix (ix l i7).Tasks k29)] : List Int))), (3, .row 3 (fl (c1q37 ++ ([(ix (ix l i7).Tasks k29)] : List Int))))] 4 (by kernel_rfl) ?_
                  refine wk_id ?_
                  refine wk_id ?_
                  refine reg_f ?_
                  refine rs 3 [] [] (by kernel_rfl) allP_nil ?_
                  refine rf [(0, .sl l.length (fl l)), (2, .ptr 0 0), (3, .own 3 0 (c1q37 ++ ([(ix (ix l i7).Tasks k29)] : List Int)).length), (4, iS i7), (5, iS (IntKind.i64.wrap (k29 + 1)))] [(0, .row 27 [iS 0, iS 0]), (1, .dead), (2, .row 3 (fl ([(ix (ix l i7).Tasks k29)] : List Int))), (3, .row 3 (fl (c1q37 ++ ([(ix (ix l i7).Tasks k29)] : List Int))))] 4 (by kernel_rfl) ?_
                  exact hn4 ((IntKind.i64.wrap (k29 + 1)), (c1q37 ++ ([(ix (ix l i7).Tasks k29)] : List Int))) _ _ _ (Option.some.inj h).symm (leSt_m [(0, 0), (1, 3)] [] (by simp only [push_cast, seval]) (by simp only [push_cast, seval]) rfl rfl rfl)
            · change R4 (.exit 2) _ _ _
              refine ex_cast hx4 (id := 2) ?_
              obtain ⟨r0, h, e0⟩ := map_sx h
              have e1 := hr4 r0 e0.symm
              subst r0
              refine wk_id ?_
              refine wk_id ?_
              refine wk_id ?_
              refine reg_f ?_
              refine rs 3 [] [] (by kernel_rfl) allP_nil ?_
              refine rf [(0, .sl l.length (fl l)), (2, .ptr 0 0), (3, .own 1 0 c1q37.length), (4, iS (IntKind.i64.wrap (i7 + 1)))] [(0, .row 27 [iS 0, iS 0]), (1, .row 3 (fl c1q37))] 2 (by kernel_rfl) ?_
              exact hn3 ((IntKind.i64.wrap (i7 + 1)), c1q37) _ _ _ (Option.some.inj h).symm (leSt_m [(0, 0), (1, 1)] [] (by simp only [push_cast, seval]) (by simp only [push_cast, seval]) rfl rfl rfl)
    · change R3 (.exit 0) _ _ _
      refine ex_cast hx3 (id := 0) ?_
      obtain ⟨r0, h, e0⟩ := map_sx h
      have e1 := hr3 r0 e0.symm
      subst r0
      refine wk_id ?_
      refine wk_id ?_
      refine seq_np ?_
      refine reg_f ?_
      refine rs 2 [] [] (by kernel_rfl) allP_nil ?_
      refine rf [(2, .ptr 0 0)] [(0, .row 27 [iS 0, iS 0]), (1, .row 3 (fl c1q29))] 2 (by kernel_rfl) ?_
      refine wk_id ?_
      obtain rfl := Option.some.inj h
      refine ret_at (.agg [iS 0, iS 0]) (by kernel_rfl) ?_
      exact ret_e [] [] (by simp only [push_cast, seval]) (by simp only [push_cast, seval]) rfl rfl rfl

set_option maxRecDepth 100000 in
set_option maxHeartbeats 200000000 in
theorem taskmillref_SameLines_spec (xa : (List Line)) (b : (List Line)) (r : Bool) (h : taskmillref_SameLines xa b = some r) : SpecW Try.prog 14 [.sl xa.length (fl xa), .sl b.length (fl b)] [] 0 (fun x h n => x = bS r ∧ h = [] ∧ n = 0) := by
  unfold taskmillref_SameLines at h
  refine spec_of (draw_ok _) Try.func14 rfl (by decide) rfl (by kernel_rfl) ?_
  refine seq_np ?_
  refine reg_f ?_
  refine rs 1 [] [] (by kernel_rfl) allP_nil ?_
  refine rf [(0, .sl xa.length (fl xa)), (1, .sl b.length (fl b))] [] 0 (by kernel_rfl) ?_
  refine wk_id ?_
  refine seq_np ?_
  refine seq_np ?_
  refine reg_f ?_
  refine rs 5 [] [] (by kernel_rfl) allP_nil ?_
  refine rf [(0, .sl xa.length (fl xa)), (1, .sl b.length (fl b)), (10, bS (((xa.length : Nat) : Int) != ((b.length : Nat) : Int)))] [] 0 (by kernel_rfl) ?_
  refine wk_id ?_
  refine cond_sx h (by kernel_rfl) (fun g3017 h => ?_) (fun g3017 h => ?_)
  · refine seq_np ?_
    refine reg_f ?_
    refine rs 1 [] [] (by kernel_rfl) allP_nil ?_
    refine rf [(4, bS false)] [] 0 (by kernel_rfl) ?_
    refine wk_id ?_
    obtain rfl := Option.some.inj h
    refine ret_at (bS false) (by kernel_rfl) ?_
    exact ret_e [] [] (by simp only [push_cast, seval]) (by simp only [push_cast, seval]) rfl rfl rfl
  · refine wk_id ?_
    refine seq_np ?_
    refine seq_np ?_
    refine reg_f ?_
    refine rs 1 [] [] (by kernel_rfl) allP_nil ?_
    refine rf [(0, .sl xa.length (fl xa)), (1, .sl b.length (fl b)), (5, iS 0)] [] 0 (by kernel_rfl) ?_
    refine wk_id ?_
    refine block_np ?_
    refine loop_sx (S := Int) (fun a => ([(0, .sl xa.length (fl xa)), (1, .sl b.length (fl b)), (5, iS a)], [], 0)) h (leSt_m [] [] (by simp only [push_cast, seval]) (by simp only [push_cast, seval]) rfl rfl rfl) ?_
    rintro i7 o2 R2 h hr2 hn2 hx2 ht2
    try dsimp only at h hn2 ⊢
    unfold taskmillref_SameLines_l1 at h
    try dsimp only at h
    refine seq_np ?_
    refine seq_np ?_
    refine reg_f ?_
    refine rs 4 [] [] (by kernel_rfl) allP_nil ?_
    refine rf [(0, .sl xa.length (fl xa)), (1, .sl b.length (fl b)), (5, iS i7), (14, bS (decide (i7 < ((xa.length : Nat) : Int))))] [] 0 (by kernel_rfl) ?_
    refine wk_id ?_
    refine cond_sx h (by kernel_rfl) (fun g3016 h => ?_) (fun g3016 h => ?_)
    · refine wk_id ?_
      refine seq_np ?_
      refine block_np ?_
      refine chk_sx h (fun g3006 h => ?_)
      refine chk_sx h (fun g3008 h => ?_)
      refine seq_cut (A := Bool) (fun a => ([(0, .sl xa.length (fl xa)), (1, .sl b.length (fl b)), (5, iS i7), (41, bS a)], [], 0)) (fun a => (taskmillref_SameLines_j1 xa b i7 a) = some o2) (fun K3004 hK3004 => ?_) ?_
      · refine reg_t ?_
        have k3005 : 0 ≤ i7 ∧ i7 < ((xa.length : Nat) : Int) := by first | simpa only [Bool.and_eq_true, decide_eq_true_eq, bne_iff_ne, ne_eq] using g3006 | (simp at g3006 ⊢; omega)
        have k3007 : 0 ≤ i7 ∧ i7 < ((b.length : Nat) : Int) := by first | simpa only [Bool.and_eq_true, decide_eq_true_eq, bne_iff_ne, ne_eq] using g3008 | (simp at g3008 ⊢; omega)
        refine rs 12 [none, none, some ⟨.iptr (fl xa) ((i7).toNat * 2), [], 2, []⟩, none, some ⟨iS (ix xa i7).At, [], 4, []⟩, none, none, some ⟨.iptr (fl b) ((i7).toNat * 2), [], 7, []⟩, none, some ⟨iS (ix b i7).At, [], 9, []⟩] _ (by kernel_rfl) (allP_cons (ob_ld b i7 2 0 (((i7).toNat * 2) + 0) k3007 rfl (by decide) (by first | rfl | omega) (dflS Try.prog 3) (iS (ix b i7).At) rfl 9 []) (allP_cons (ob_ix_l b 2 7 i7 k3007) (allP_cons (ob_ld xa i7 2 0 (((i7).toNat * 2) + 0) k3005 rfl (by decide) (by first | rfl | omega) (dflS Try.prog 3) (iS (ix xa i7).At) rfl 4 []) (allP_cons (ob_ix_l xa 2 2 i7 k3005) allP_nil)))) ?_
        refine run_br h 28 (.inl (by kernel_rfl)) (fun g3009 h => ?_) (fun g3009 h => ?_)
        · refine rs 13 [] [] (by kernel_rfl) allP_nil ?_
          refine rt [(0, .sl xa.length (fl xa)), (1, .sl b.length (fl b)), (5, iS i7), (41, bS true)] [] 25 follows (by kernel_rfl) ?_
          exact hK3004 (true) _ _ _ h (leSt_m [] [] (by (try simp only [g3009]) <;> simp only [push_cast, seval]) (by (try simp only [g3009]) <;> simp only [push_cast, seval]) rfl rfl rfl)
        · refine chk_sx h (fun g3011 h => ?_)
          have k3010 : 0 ≤ i7 ∧ i7 < ((xa.length : Nat) : Int) := by first | simpa only [Bool.and_eq_true, decide_eq_true_eq, bne_iff_ne, ne_eq] using g3011 | (simp at g3011 ⊢; omega)
          refine chk_sx h (fun g3013 h => ?_)
          have k3012 : 0 ≤ i7 ∧ i7 < ((b.length : Nat) : Int) := by first | simpa only [Bool.and_eq_true, decide_eq_true_eq, bne_iff_ne, ne_eq] using g3013 | (simp at g3013 ⊢; omega)
          refine rs 10 [none, none, some ⟨.iptr (fl xa) ((i7).toNat * 2), [], 14, []⟩, none, some ⟨.sl (ix xa i7).Tasks.length (fl (ix xa i7).Tasks), [], 16, []⟩, none, none, some ⟨.iptr (fl b) ((i7).toNat * 2), [], 19, []⟩, none, some ⟨.sl (ix b i7).Tasks.length (fl (ix b i7).Tasks), [], 21, []⟩] _ (by kernel_rfl) (allP_cons (ob_ld b i7 2 1 (((i7).toNat * 2) + 1) k3012 rfl (by decide) (by first | rfl | omega) (dflS Try.prog 34) (.sl (ix b i7).Tasks.length (fl (ix b i7).Tasks)) rfl 21 []) (allP_cons (ob_ix_l b 2 19 i7 k3012) (allP_cons (ob_ld xa i7 2 1 (((i7).toNat * 2) + 1) k3010 rfl (by decide) (by first | rfl | omega) (dflS Try.prog 34) (.sl (ix xa i7).Tasks.length (fl (ix xa i7).Tasks)) rfl 16 []) (allP_cons (ob_ix_l xa 2 14 i7 k3010) allP_nil)))) ?_
          obtain ⟨r3014, hr3014, h⟩ := bind_sx h
          refine run_call 26 [.sl (ix xa i7).Tasks.length (fl (ix xa i7).Tasks), .sl (ix b i7).Tasks.length (fl (ix b i7).Tasks)] (some 39) (by kernel_rfl) ?_
          refine callE_0 (taskmillref_Ints_spec (ix xa i7).Tasks (ix b i7).Tasks r3014 hr3014) (by simp only [push_cast, seval]) (by simp only [push_cast, seval]) ?_
          refine back_t ?_
          refine rs 2 [] [] (by kernel_rfl) allP_nil ?_
          refine rt [(0, .sl xa.length (fl xa)), (1, .sl b.length (fl b)), (5, iS i7), (41, bS (!r3014))] [] 25 follows (by kernel_rfl) ?_
          exact hK3004 ((!r3014)) _ _ _ h (leSt_m [] [] (by (try simp only [g3009]) <;> simp only [push_cast, seval]) (by (try simp only [g3009]) <;> simp only [push_cast, seval]) rfl rfl rfl)
      · rintro t41q13 h
        try dsimp only at h ⊢
        unfold taskmillref_SameLines_j1 at h
        refine cond_sx h (by kernel_rfl) (fun g3015 h => ?_) (fun g3015 h => ?_)
        · refine seq_np ?_
          refine reg_f ?_
          refine rs 1 [] [] (by kernel_rfl) allP_nil ?_
          refine rf [(4, bS false)] [] 0 (by kernel_rfl) ?_
          refine wk_id ?_
          refine rt_cast ht2 ?_
          obtain ⟨r0, h, e0⟩ := map_sx h
          have e1 := hr2 r0 e0.symm
          subst r0
          obtain rfl := Option.some.inj h
          refine ret_at (bS false) (by kernel_rfl) ?_
          exact ret_e [] [] (by simp only [push_cast, seval]) (by simp only [push_cast, seval]) rfl rfl rfl
        · refine wk_id ?_
          refine wk_id ?_
          refine reg_f ?_
          refine rs 3 [] [] (by kernel_rfl) allP_nil ?_
          refine rf [(0, .sl xa.length (fl xa)), (1, .sl b.length (fl b)), (5, iS (IntKind.i64.wrap (i7 + 1)))] [] 0 (by kernel_rfl) ?_
          exact hn2 ((IntKind.i64.wrap (i7 + 1))) _ _ _ (Option.some.inj h).symm (leSt_m [] [] (by simp only [push_cast, seval]) (by simp only [push_cast, seval]) rfl rfl rfl)
    · change R2 (.exit 0) _ _ _
      refine ex_cast hx2 (id := 0) ?_
      obtain ⟨r0, h, e0⟩ := map_sx h
      have e1 := hr2 r0 e0.symm
      subst r0
      refine wk_id ?_
      refine wk_id ?_
      refine seq_np ?_
      refine reg_f ?_
      refine rs 1 [] [] (by kernel_rfl) allP_nil ?_
      refine rf [(4, bS true)] [] 0 (by kernel_rfl) ?_
      refine wk_id ?_
      obtain rfl := Option.some.inj h
      refine ret_at (bS true) (by kernel_rfl) ?_
      exact ret_e [] [] (by simp only [push_cast, seval]) (by simp only [push_cast, seval]) rfl rfl rfl

set_option maxRecDepth 100000 in
set_option maxHeartbeats 200000000 in
theorem taskmillref_Waiting_spec (l : (List Line)) (r : (List Int)) (h : taskmillref_Waiting l = some r) : SpecW Try.prog 17 [.sl l.length (fl l)] [] 0 (fun x h n => x = .own 0 0 r.length ∧ h = [(0, .row 3 (fl r))] ∧ n = 1) := by
  unfold taskmillref_Waiting at h
  refine spec_of (draw_ok _) Try.func17 rfl (by decide) rfl (by kernel_rfl) ?_
  refine seq_np ?_
  refine reg_f ?_
  refine rs 1 [] [] (by kernel_rfl) allP_nil ?_
  refine rf [(0, .sl l.length (fl l))] [] 0 (by kernel_rfl) ?_
  refine wk_id ?_
  refine seq_np ?_
  refine reg_f ?_
  refine rs 1 [] [] (by kernel_rfl) allP_nil ?_
  refine rf [(0, .sl l.length (fl l)), (3, .v (.slice none 0 0))] [] 0 (by kernel_rfl) ?_
  refine wk_id ?_
  refine seq_np ?_
  refine seq_np ?_
  refine reg_f ?_
  refine rs 1 [] [] (by kernel_rfl) allP_nil ?_
  refine rf [(0, .sl l.length (fl l)), (3, .v (.slice none 0 0)), (4, iS 0)] [] 0 (by kernel_rfl) ?_
  refine wk_id ?_
  refine block_np ?_
  refine loop_sx (S := Int × (List Int)) (fun a => ([(0, .sl l.length (fl l)), (3, .own 0 0 a.2.length), (4, iS a.1)], [(0, .row 3 (fl a.2))], 1)) h (leSt_m [] [] (by simp only [push_cast, seval]) (by simp only [push_cast, seval]) rfl rfl rfl) ?_
  rintro ⟨i7, c0q8⟩ o2 R2 h hr2 hn2 hx2 ht2
  try dsimp only at h hn2 ⊢
  unfold taskmillref_Waiting_l1 at h
  try dsimp only at h
  refine seq_np ?_
  refine seq_np ?_
  refine reg_f ?_
  refine rs 4 [] [] (by kernel_rfl) allP_nil ?_
  refine rf [(0, .sl l.length (fl l)), (3, .own 0 0 c0q8.length), (4, iS i7), (8, bS (decide (i7 < ((l.length : Nat) : Int))))] [(0, .row 3 (fl c0q8))] 1 (by kernel_rfl) ?_
  refine wk_id ?_
  refine cond_sx h (by kernel_rfl) (fun g3104 h => ?_) (fun g3104 h => ?_)
  · refine wk_id ?_
    refine seq_np ?_
    refine block_np ?_
    refine chk_sx h (fun g3101 h => ?_)
    refine chk_sx h (fun g3103 h => ?_)
    refine reg_f ?_
    have k3100 : 0 ≤ i7 ∧ i7 < ((l.length : Nat) : Int) := by first | simpa only [Bool.and_eq_true, decide_eq_true_eq, bne_iff_ne, ne_eq] using g3101 | (simp at g3101 ⊢; omega)
    have k3102 : (c0q8 ++ (ix l i7).Tasks).length * 8 ≤ 140737488355328 := by first | simpa only [Bool.and_eq_true, decide_eq_true_eq, bne_iff_ne, ne_eq] using g3103 | (simp at g3103 ⊢; omega)
    refine rs 8 [none, none, none, some ⟨.iptr (fl l) ((i7).toNat * 2), [], 1, []⟩, none, some ⟨.sl (ix l i7).Tasks.length (fl (ix l i7).Tasks), [], 1, []⟩, some ⟨.own 1 0 (c0q8 ++ (ix l i7).Tasks).length, [(1, .row 3 (fl (c0q8 ++ (ix l i7).Tasks))), (0, .dead)], 2, [0]⟩] _ (by kernel_rfl) (allP_cons (ob_app (P := Try.prog) c0q8 (ix l i7).Tasks 1 8 rfl (fl (ix l i7).Tasks) (ix l i7).Tasks.length rfl rfl ((fl (ix l i7).Tasks).length = (ix l i7).Tasks.length * 1) (app_sl (ix l i7).Tasks 1 rfl) 3 (by kernel_rfl) (by decide) k3102 0 1 []) (allP_cons (ob_ld l i7 2 1 (((i7).toNat * 2) + 1) k3100 rfl (by decide) (by first | rfl | omega) (dflS Try.prog 34) (.sl (ix l i7).Tasks.length (fl (ix l i7).Tasks)) rfl 1 []) (allP_cons (ob_ix_l l 2 1 i7 k3100) allP_nil))) ?_
    refine rf [(0, .sl l.length (fl l)), (3, .own 1 0 (c0q8 ++ (ix l i7).Tasks).length), (4, iS i7)] [(0, .dead), (1, .row 3 (fl (c0q8 ++ (ix l i7).Tasks)))] 2 (by kernel_rfl) ?_
    refine wk_id ?_
    refine wk_id ?_
    refine reg_f ?_
    refine rs 3 [] [] (by kernel_rfl) allP_nil ?_
    refine rf [(0, .sl l.length (fl l)), (3, .own 1 0 (c0q8 ++ (ix l i7).Tasks).length), (4, iS (IntKind.i64.wrap (i7 + 1)))] [(0, .dead), (1, .row 3 (fl (c0q8 ++ (ix l i7).Tasks)))] 2 (by kernel_rfl) ?_
    exact hn2 ((IntKind.i64.wrap (i7 + 1)), (c0q8 ++ (ix l i7).Tasks)) _ _ _ (Option.some.inj h).symm (leSt_m [(0, 1)] [] (by simp only [push_cast, seval]) (by simp only [push_cast, seval]) rfl rfl rfl)
  · change R2 (.exit 0) _ _ _
    refine ex_cast hx2 (id := 0) ?_
    obtain ⟨r0, h, e0⟩ := map_sx h
    have e1 := hr2 r0 e0.symm
    subst r0
    refine wk_id ?_
    refine wk_id ?_
    refine seq_np ?_
    refine reg_f ?_
    refine rs 2 [] [] (by kernel_rfl) allP_nil ?_
    refine rf [(2, .own 0 0 c0q8.length)] [(0, .row 3 (fl c0q8))] 1 (by kernel_rfl) ?_
    refine wk_id ?_
    obtain rfl := Option.some.inj h
    refine ret_at (.own 0 0 c0q8.length) (by kernel_rfl) ?_
    exact ret_e [(0, 0)] [] (by simp only [push_cast, seval]) (by simp only [push_cast, seval]) rfl rfl rfl

set_option maxRecDepth 100000 in
set_option maxHeartbeats 200000000 in
theorem taskmillref_AtLine_spec (l : (List Line)) (xat : Int) (r : (List Int)) (h : taskmillref_AtLine l xat = some r) : SpecW Try.prog 21 [.sl l.length (fl l), iS xat] [] 0 (fun x h n => x = .sl r.length (fl r) ∧ h = [] ∧ n = 0) := by
  unfold taskmillref_AtLine at h
  refine spec_of (draw_ok _) Try.func21 rfl (by decide) rfl (by kernel_rfl) ?_
  refine seq_np ?_
  refine reg_f ?_
  refine rs 1 [] [] (by kernel_rfl) allP_nil ?_
  refine rf [(0, .sl l.length (fl l)), (1, iS xat)] [] 0 (by kernel_rfl) ?_
  refine wk_id ?_
  refine seq_np ?_
  refine seq_np ?_
  refine reg_f ?_
  refine rs 1 [] [] (by kernel_rfl) allP_nil ?_
  refine rf [(0, .sl l.length (fl l)), (1, iS xat), (5, iS 0)] [] 0 (by kernel_rfl) ?_
  refine wk_id ?_
  refine block_np ?_
  refine loop_sx (S := Int) (fun a => ([(0, .sl l.length (fl l)), (1, iS xat), (5, iS a)], [], 0)) h (leSt_m [] [] (by simp only [push_cast, seval]) (by simp only [push_cast, seval]) rfl rfl rfl) ?_
  rintro i7 o2 R2 h hr2 hn2 hx2 ht2
  try dsimp only at h hn2 ⊢
  unfold taskmillref_AtLine_l1 at h
  try dsimp only at h
  refine seq_np ?_
  refine seq_np ?_
  refine reg_f ?_
  refine rs 4 [] [] (by kernel_rfl) allP_nil ?_
  refine rf [(0, .sl l.length (fl l)), (1, iS xat), (5, iS i7), (9, bS (decide (i7 < ((l.length : Nat) : Int))))] [] 0 (by kernel_rfl) ?_
  refine wk_id ?_
  refine cond_sx h (by kernel_rfl) (fun g3213 h => ?_) (fun g3213 h => ?_)
  · refine wk_id ?_
    refine seq_np ?_
    refine block_np ?_
    refine chk_sx h (fun g3207 h => ?_)
    refine seq_np ?_
    refine reg_f ?_
    have k3206 : 0 ≤ i7 ∧ i7 < ((l.length : Nat) : Int) := by first | simpa only [Bool.and_eq_true, decide_eq_true_eq, bne_iff_ne, ne_eq] using g3207 | (simp at g3207 ⊢; omega)
    refine rs 7 [none, none, some ⟨.iptr (fl l) ((i7).toNat * 2), [], 0, []⟩, none, some ⟨iS (ix l i7).At, [], 0, []⟩] _ (by kernel_rfl) (allP_cons (ob_ld l i7 2 0 (((i7).toNat * 2) + 0) k3206 rfl (by decide) (by first | rfl | omega) (dflS Try.prog 3) (iS (ix l i7).At) rfl 0 []) (allP_cons (ob_ix_l l 2 0 i7 k3206) allP_nil)) ?_
    refine rf [(0, .sl l.length (fl l)), (1, iS xat), (5, iS i7), (18, bS ((ix l i7).At == xat))] [] 0 (by kernel_rfl) ?_
    refine wk_id ?_
    refine cond_sx h (by kernel_rfl) (fun g3212 h => ?_) (fun g3212 h => ?_)
    · refine chk_sx h (fun g3211 h => ?_)
      refine seq_np ?_
      refine reg_f ?_
      have k3210 : 0 ≤ i7 ∧ i7 < ((l.length : Nat) : Int) := by first | simpa only [Bool.and_eq_true, decide_eq_true_eq, bne_iff_ne, ne_eq] using g3211 | (simp at g3211 ⊢; omega)
      refine rs 6 [none, none, some ⟨.iptr (fl l) ((i7).toNat * 2), [], 0, []⟩, none, some ⟨.sl (ix l i7).Tasks.length (fl (ix l i7).Tasks), [], 0, []⟩] _ (by kernel_rfl) (allP_cons (ob_ld l i7 2 1 (((i7).toNat * 2) + 1) k3210 rfl (by decide) (by first | rfl | omega) (dflS Try.prog 34) (.sl (ix l i7).Tasks.length (fl (ix l i7).Tasks)) rfl 0 []) (allP_cons (ob_ix_l l 2 0 i7 k3210) allP_nil)) ?_
      refine rf [(4, .sl (ix l i7).Tasks.length (fl (ix l i7).Tasks))] [] 0 (by kernel_rfl) ?_
      refine wk_id ?_
      refine rt_cast ht2 ?_
      obtain ⟨r0, h, e0⟩ := map_sx h
      have e1 := hr2 r0 e0.symm
      subst r0
      obtain rfl := Option.some.inj h
      refine ret_at (.sl (ix l i7).Tasks.length (fl (ix l i7).Tasks)) (by kernel_rfl) ?_
      exact ret_e [] [] (by simp only [push_cast, seval]) (by simp only [push_cast, seval]) rfl rfl rfl
    · refine wk_id ?_
      refine wk_id ?_
      refine reg_f ?_
      refine rs 3 [] [] (by kernel_rfl) allP_nil ?_
      refine rf [(0, .sl l.length (fl l)), (1, iS xat), (5, iS (IntKind.i64.wrap (i7 + 1)))] [] 0 (by kernel_rfl) ?_
      exact hn2 ((IntKind.i64.wrap (i7 + 1))) _ _ _ (Option.some.inj h).symm (leSt_m [] [] (by simp only [push_cast, seval]) (by simp only [push_cast, seval]) rfl rfl rfl)
  · change R2 (.exit 0) _ _ _
    refine ex_cast hx2 (id := 0) ?_
    obtain ⟨r0, h, e0⟩ := map_sx h
    have e1 := hr2 r0 e0.symm
    subst r0
    refine wk_id ?_
    refine wk_id ?_
    refine seq_np ?_
    refine reg_f ?_
    refine rs 1 [] [] (by kernel_rfl) allP_nil ?_
    refine rf [(4, .v (.slice none 0 0))] [] 0 (by kernel_rfl) ?_
    refine wk_id ?_
    obtain rfl := Option.some.inj h
    refine ret_at (.v (.slice none 0 0)) (by kernel_rfl) ?_
    exact ret_e [] [] (by simp only [push_cast, seval]) (by simp only [push_cast, seval]) rfl rfl rfl

set_option maxRecDepth 100000 in
set_option maxHeartbeats 200000000 in
theorem taskmillref_SetLine_1_1_spec (c0 : Bool) (c1 : (List Int)) (c4 : Int) (c3 : (List Line)) (r : Bool × (List Int) × (List Line) × Int) (h : taskmillref_SetLine_1_1 c0 c1 c4 c3 = some r) : SpecW Try.prog 38 [.ptr 0 0, .ptr 1 0, .ptr 2 0, .ptr 4 0] [(0, .row 4 [bS c0]), (1, .row 34 [.sl c1.length (fl c1)]), (2, .row 22 [.own 3 0 c3.length]), (3, .row 55 (fl c3)), (4, .row 3 [iS c4])] 5 (fun x h n => x = .tup [] ∧ h = [(0, .row 4 [bS r.1]), (1, .row 34 [.sl r.2.1.length (fl r.2.1)]), (2, .row 22 [.own 5 0 r.2.2.1.length]), (3, .dead), (4, .row 3 [iS r.2.2.2]), (5, .row 55 (fl r.2.2.1))] ∧ n = 6) := by
  unfold taskmillref_SetLine_1_1 at h
  refine spec_of (draw_ok _) Try.func38 rfl (by decide) rfl (by kernel_rfl) ?_
  refine seq_cut (A := (List Line)) (fun a => ([(0, .ptr 0 0)], [(0, .row 4 [bS c0]), (1, .row 34 [.sl c1.length (fl c1)]), (2, .row 22 [.own 5 0 a.length]), (3, .dead), (4, .row 3 [iS c4]), (5, .row 55 (fl a))], 6)) (fun a => (taskmillref_SetLine_1_1_j1 c0 c1 c4 a) = some r) (fun K3268 hK3268 => ?_) ?_
  · refine seq_cut (A := Unit) (fun _ => ([(0, .ptr 0 0), (1, .ptr 1 0), (2, .ptr 2 0), (3, .ptr 4 0), (10, bS ((!c0) && (decide ((0 : Int) < ((c1.length : Nat) : Int)))))], [(0, .row 4 [bS c0]), (1, .row 34 [.sl c1.length (fl c1)]), (2, .row 22 [.own 3 0 c3.length]), (3, .row 55 (fl c3)), (4, .row 3 [iS c4])], 5)) (fun _ => True) (fun K3270 hK3270 => ?_) (fun _ _ => ?_)
    · refine reg_f ?_
      refine rs 3 [] [] (by kernel_rfl) allP_nil ?_
      refine run_split 6 (!c0) (.inl (by kernel_rfl)) (fun g3271 => ?_) (fun g3271 => ?_)
      · refine rs 4 [] [] (by kernel_rfl) allP_nil ?_
        refine rf [(0, .ptr 0 0), (1, .ptr 1 0), (2, .ptr 2 0), (3, .ptr 4 0), (10, bS (decide ((0 : Int) < ((c1.length : Nat) : Int))))] [(0, .row 4 [bS c0]), (1, .row 34 [.sl c1.length (fl c1)]), (2, .row 22 [.own 3 0 c3.length]), (3, .row 55 (fl c3)), (4, .row 3 [iS c4])] 5 (by kernel_rfl) ?_
        exact hK3270 () _ _ _ trivial (leSt_m [(0, 0), (1, 1), (2, 2), (3, 3), (4, 4)] [] (by (try simp only [g3271]) <;> simp only [push_cast, seval]) (by (try simp only [g3271]) <;> simp only [push_cast, seval]) rfl rfl rfl)
      · refine rs 4 [] [] (by kernel_rfl) allP_nil ?_
        refine rf [(0, .ptr 0 0), (1, .ptr 1 0), (2, .ptr 2 0), (3, .ptr 4 0), (10, bS false)] [(0, .row 4 [bS c0]), (1, .row 34 [.sl c1.length (fl c1)]), (2, .row 22 [.own 3 0 c3.length]), (3, .row 55 (fl c3)), (4, .row 3 [iS c4])] 5 (by kernel_rfl) ?_
        exact hK3270 () _ _ _ trivial (leSt_m [(0, 0), (1, 1), (2, 2), (3, 3), (4, 4)] [] (by (try simp only [g3271]) <;> simp only [push_cast, seval]) (by (try simp only [g3271]) <;> simp only [push_cast, seval]) rfl rfl rfl)
    · dsimp only
      refine cond_sx h (by kernel_rfl) (fun g3276 h => ?_) (fun g3276 h => ?_)
      · refine chk_sx h (fun g3275 h => ?_)
        refine reg_f ?_
        have k3274 : (c3 ++ ([(Line.mk c4 c1)] : List Line)).length * 32 ≤ 140737488355328 := by first | simpa only [Bool.and_eq_true, decide_eq_true_eq, bne_iff_ne, ne_eq] using g3275 | (simp at g3275 ⊢; omega)
        refine rs 7 [none, none, none, none, none, some ⟨.own 6 0 (c3 ++ ([(Line.mk c4 c1)] : List Line)).length, [(6, .row 55 (fl (c3 ++ ([(Line.mk c4 c1)] : List Line)))), (3, .dead)], 7, [3, 5]⟩] _ (by kernel_rfl) (allP_cons (ob_app (P := Try.prog) c3 ([(Line.mk c4 c1)] : List Line) 2 32 rfl (appCells (fl ([(Line.mk c4 c1)] : List Line)) 0 (([(Line.mk c4 c1)] : List Line).length * 2)) ([(Line.mk c4 c1)] : List Line).length (app_own ([(Line.mk c4 c1)] : List Line) 2 rfl) rfl (0 + ([(Line.mk c4 c1)] : List Line).length * 2 ≤ (fl ([(Line.mk c4 c1)] : List Line)).length) (app_own_le ([(Line.mk c4 c1)] : List Line) 2 rfl) 55 (by kernel_rfl) (by decide) k3274 3 6 [5]) allP_nil) ?_
        refine rf [(0, .ptr 0 0)] [(0, .row 4 [bS c0]), (1, .row 34 [.sl c1.length (fl c1)]), (2, .row 22 [.own 6 0 (c3 ++ ([(Line.mk c4 c1)] : List Line)).length]), (3, .dead), (4, .row 3 [iS c4]), (5, .row 55 (fl ([(Line.mk c4 c1)] : List Line))), (6, .row 55 (fl (c3 ++ ([(Line.mk c4 c1)] : List Line))))] 7 (by kernel_rfl) ?_
        exact hK3268 ((c3 ++ ([(Line.mk c4 c1)] : List Line))) _ _ _ h (leSt_m [(0, 0), (1, 1), (2, 2), (4, 4), (5, 6)] [] (by simp only [push_cast, seval]) (by simp only [push_cast, seval]) rfl rfl rfl)
      · exact hK3268 (c3) _ _ _ h (leSt_m [(0, 0), (1, 1), (2, 2), (4, 4), (5, 3)] [] (by simp only [push_cast, seval]) (by simp only [push_cast, seval]) rfl rfl rfl)
  · rintro c5q2 h
    try dsimp only at h ⊢
    unfold taskmillref_SetLine_1_1_j1 at h
    refine reg_f ?_
    refine rs 1 [] [] (by kernel_rfl) allP_nil ?_
    refine rf [] [(0, .row 4 [bS true]), (1, .row 34 [.sl c1.length (fl c1)]), (2, .row 22 [.own 5 0 c5q2.length]), (3, .dead), (4, .row 3 [iS c4]), (5, .row 55 (fl c5q2))] 6 (by kernel_rfl) ?_
    obtain rfl := Option.some.inj h
    refine ret_an (.tup []) (by kernel_rfl) ?_
    exact ret_e [(0, 0), (1, 1), (2, 2), (4, 4), (5, 5)] [] (by simp only [push_cast, seval]) (by simp only [push_cast, seval]) rfl rfl rfl

set_option maxRecDepth 100000 in
set_option maxHeartbeats 200000000 in
theorem taskmillref_SetLine_spec (l : (List Line)) (xat : Int) (tasks : (List Int)) (r : (List Line)) (h : taskmillref_SetLine l xat tasks = some r) : SpecW Try.prog 20 [.sl l.length (fl l), iS xat, .sl tasks.length (fl tasks)] [] 0 (fun x h n => x = .own 0 0 r.length ∧ h = [(0, .row 55 (fl r))] ∧ n = 1) := by
  unfold taskmillref_SetLine at h
  refine spec_of (draw_ok _) Try.func20 rfl (by decide) rfl (by kernel_rfl) ?_
  refine seq_np ?_
  refine reg_f ?_
  refine rs 3 [] [] (by kernel_rfl) allP_nil ?_
  refine rf [(0, .sl l.length (fl l)), (4, .ptr 0 0), (5, .ptr 1 0)] [(0, .row 3 [iS xat]), (1, .row 34 [.sl tasks.length (fl tasks)])] 2 (by kernel_rfl) ?_
  refine wk_id ?_
  refine seq_np ?_
  refine reg_f ?_
  refine rs 1 [] [] (by kernel_rfl) allP_nil ?_
  refine rf [(0, .sl l.length (fl l)), (4, .ptr 0 0), (5, .ptr 1 0), (7, .ptr 2 0)] [(0, .row 3 [iS xat]), (1, .row 34 [.sl tasks.length (fl tasks)]), (2, .row 22 [.v (.slice none 0 0)])] 3 (by kernel_rfl) ?_
  refine wk_id ?_
  refine seq_np ?_
  refine reg_f ?_
  refine rs 2 [] [] (by kernel_rfl) allP_nil ?_
  refine rf [(0, .sl l.length (fl l)), (4, .ptr 0 0), (5, .ptr 1 0), (7, .ptr 2 0), (8, .ptr 3 0)] [(0, .row 3 [iS xat]), (1, .row 34 [.sl tasks.length (fl tasks)]), (2, .row 22 [.v (.slice none 0 0)]), (3, .row 4 [bS false])] 4 (by kernel_rfl) ?_
  refine wk_id ?_
  refine seq_np ?_
  refine reg_f ?_
  refine rs 2 [] [] (by kernel_rfl) allP_nil ?_
  refine rf [(0, .sl l.length (fl l)), (4, .ptr 0 0), (7, .ptr 2 0), (9, .clo 38 [.ptr 3 0, .ptr 1 0, .ptr 2 0, .ptr 0 0])] [(0, .row 3 [iS xat]), (1, .row 34 [.sl tasks.length (fl tasks)]), (2, .row 22 [.v (.slice none 0 0)]), (3, .row 4 [bS false])] 4 (by kernel_rfl) ?_
  refine wk_id ?_
  refine seq_np ?_
  refine seq_np ?_
  refine reg_f ?_
  refine rs 1 [] [] (by kernel_rfl) allP_nil ?_
  refine rf [(0, .sl l.length (fl l)), (4, .ptr 0 0), (7, .ptr 2 0), (9, .clo 38 [.ptr 3 0, .ptr 1 0, .ptr 2 0, .ptr 0 0]), (10, iS 0)] [(0, .row 3 [iS xat]), (1, .row 34 [.sl tasks.length (fl tasks)]), (2, .row 22 [.v (.slice none 0 0)]), (3, .row 4 [bS false])] 4 (by kernel_rfl) ?_
  refine wk_id ?_
  refine block_np ?_
  refine loop_sx (S := Int × Int × Bool × (List Int) × (List Line)) (fun a => ([(0, .sl l.length (fl l)), (4, .ptr 0 0), (7, .ptr 1 0), (9, .clo 38 [.ptr 2 0, .ptr 3 0, .ptr 1 0, .ptr 0 0]), (10, iS a.1)], [(0, .row 3 [iS a.2.1]), (1, .row 22 [.own 4 0 a.2.2.2.2.length]), (2, .row 4 [bS a.2.2.1]), (3, .row 34 [.sl a.2.2.2.1.length (fl a.2.2.2.1)]), (4, .row 55 (fl a.2.2.2.2))], 5)) h (leSt_m [(0, 0), (1, 2), (2, 3), (3, 1)] [] (by simp only [push_cast, seval]) (by simp only [push_cast, seval]) rfl rfl rfl) ?_
  rintro ⟨i7, c0q30, c2q29, c3q29, c4q29⟩ o2 R2 h hr2 hn2 hx2 ht2
  try dsimp only at h hn2 ⊢
  unfold taskmillref_SetLine_l1 at h
  try dsimp only at h
  refine seq_np ?_
  refine seq_np ?_
  refine reg_f ?_
  refine rs 4 [] [] (by kernel_rfl) allP_nil ?_
  refine rf [(0, .sl l.length (fl l)), (4, .ptr 0 0), (7, .ptr 1 0), (9, .clo 38 [.ptr 2 0, .ptr 3 0, .ptr 1 0, .ptr 0 0]), (10, iS i7), (15, bS (decide (i7 < ((l.length : Nat) : Int))))] [(0, .row 3 [iS c0q30]), (1, .row 22 [.own 4 0 c4q29.length]), (2, .row 4 [bS c2q29]), (3, .row 34 [.sl c3q29.length (fl c3q29)]), (4, .row 55 (fl c4q29))] 5 (by kernel_rfl) ?_
  refine wk_id ?_
  refine cond_sx h (by kernel_rfl) (fun g3516 h => ?_) (fun g3516 h => ?_)
  · refine wk_id ?_
    refine seq_np ?_
    refine block_cut (A := Int × Bool × (List Int) × (List Line)) (fun a => ([(0, .sl l.length (fl l)), (4, .ptr 0 0), (7, .ptr 1 0), (9, .clo 38 [.ptr 2 0, .ptr 3 0, .ptr 1 0, .ptr 0 0]), (10, iS i7)], [(0, .row 3 [iS a.1]), (1, .row 22 [.own 4 0 a.2.2.2.length]), (2, .row 4 [bS a.2.1]), (3, .row 34 [.sl a.2.2.1.length (fl a.2.2.1)]), (4, .row 55 (fl a.2.2.2))], 5)) (fun a => (taskmillref_SetLine_j1 l i7 a.1 a.2.1 a.2.2.1 a.2.2.2) = some o2) (fun K3481 hK3481 => ?_) ?_
    · refine seq_np ?_
      refine chk_sx h (fun g3489 h => ?_)
      refine seq_np ?_
      refine reg_t ?_
      have k3488 : 0 ≤ i7 ∧ i7 < ((l.length : Nat) : Int) := by first | simpa only [Bool.and_eq_true, decide_eq_true_eq, bne_iff_ne, ne_eq] using g3489 | (simp at g3489 ⊢; omega)
      refine rs 7 [none, none, some ⟨.iptr (fl l) ((i7).toNat * 2), [], 7, []⟩, none, some ⟨iS (ix l i7).At, [], 9, []⟩] _ (by kernel_rfl) (allP_cons (ob_ld l i7 2 0 (((i7).toNat * 2) + 0) k3488 rfl (by decide) (by first | rfl | omega) (dflS Try.prog 3) (iS (ix l i7).At) rfl 9 []) (allP_cons (ob_ix_l l 2 7 i7 k3488) allP_nil)) ?_
      refine rt [(0, .sl l.length (fl l)), (4, .ptr 0 0), (7, .ptr 1 0), (9, .clo 38 [.ptr 2 0, .ptr 3 0, .ptr 1 0, .ptr 0 0]), (10, iS i7), (24, bS ((ix l i7).At == c0q30))] [(0, .row 3 [iS c0q30]), (1, .row 22 [.own 4 0 c4q29.length]), (2, .row 4 [bS c2q29]), (3, .row 34 [.sl c3q29.length (fl c3q29)]), (4, .row 55 (fl c4q29))] 12 follows (by kernel_rfl) ?_
      refine wk_id ?_
      refine cond_sx h (by kernel_rfl) (fun g3513 h => ?_) (fun g3513 h => ?_)
      · refine seq_np ?_
        refine reg_f ?_
        refine rs 1 [] [] (by kernel_rfl) allP_nil ?_
        obtain ⟨r3491, hr3491, h⟩ := bind_sx h
        refine call_x (taskmillref_SetLine_1_1_spec c2q29 c3q29 c0q30 c4q29 r3491 hr3491) (args := [.ptr 2 0, .ptr 3 0, .ptr 1 0, .ptr 0 0]) (dst := (some 26)) (by kernel_rfl) [(0, .row 3 [iS c0q30]), (1, .row 22 [.own 4 0 c4q29.length]), (2, .row 4 [bS c2q29]), (3, .row 34 [.sl c3q29.length (fl c3q29)]), (4, .row 55 (fl c4q29))] 12 (by kernel_rfl) [(0, 2), (1, 3), (2, 1), (3, 4), (4, 0)] [] (.tup []) [(2, .row 4 [bS r3491.1]), (3, .row 34 [.sl r3491.2.1.length (fl r3491.2.1)]), (1, .row 22 [.own 17 0 r3491.2.2.1.length]), (4, .dead), (0, .row 3 [iS r3491.2.2.2]), (17, .row 55 (fl r3491.2.2.1)), (2, .dead), (3, .dead), (1, .dead), (4, .dead), (0, .dead)] (by simp only [push_cast, seval]) (by simp only [push_cast, seval]) (by kernel_rfl) (.inl rfl) (by simp only [push_cast, seval]) (by simp only [push_cast, seval]) ?_
        refine rf [(0, .sl l.length (fl l)), (4, .ptr 0 0), (7, .ptr 1 0), (9, .clo 38 [.ptr 2 0, .ptr 3 0, .ptr 1 0, .ptr 0 0]), (10, iS i7)] [(0, .row 3 [iS r3491.2.2.2]), (1, .row 22 [.own 17 0 r3491.2.2.1.length]), (2, .row 4 [bS r3491.1]), (3, .row 34 [.sl r3491.2.1.length (fl r3491.2.1)]), (4, .dead), (17, .row 55 (fl r3491.2.2.1))] 18 (by kernel_rfl) ?_
        refine wk_id ?_
        exact hK3481 (r3491.2.2.2, r3491.1, r3491.2.1, r3491.2.2.1) _ _ _ h (leSt_m [(0, 0), (1, 1), (2, 2), (3, 3), (4, 17)] [] (by simp only [push_cast, seval]) (by simp only [push_cast, seval]) rfl rfl rfl)
      · refine wk_id ?_
        refine seq_cut (A := Int × Bool × (List Int) × (List Line)) (fun a => ([(0, .sl l.length (fl l)), (4, .ptr 0 0), (7, .ptr 1 0), (9, .clo 38 [.ptr 2 0, .ptr 3 0, .ptr 1 0, .ptr 0 0]), (10, iS i7)], [(0, .row 3 [iS a.1]), (1, .row 22 [.own 4 0 a.2.2.2.length]), (2, .row 4 [bS a.2.1]), (3, .row 34 [.sl a.2.2.1.length (fl a.2.2.1)]), (4, .row 55 (fl a.2.2.2))], 5)) (fun a => (taskmillref_SetLine_j2 l i7 a.1 a.2.1 a.2.2.1 a.2.2.2) = some o2) (fun K3497 hK3497 => ?_) ?_
        · refine chk_sx h (fun g3501 h => ?_)
          refine seq_np ?_
          refine reg_t ?_
          have k3500 : 0 ≤ i7 ∧ i7 < ((l.length : Nat) : Int) := by first | simpa only [Bool.and_eq_true, decide_eq_true_eq, bne_iff_ne, ne_eq] using g3501 | (simp at g3501 ⊢; omega)
          refine rs 7 [none, none, some ⟨.iptr (fl l) ((i7).toNat * 2), [], 14, []⟩, none, some ⟨iS (ix l i7).At, [], 16, []⟩] _ (by kernel_rfl) (allP_cons (ob_ld l i7 2 0 (((i7).toNat * 2) + 0) k3500 rfl (by decide) (by first | rfl | omega) (dflS Try.prog 3) (iS (ix l i7).At) rfl 16 []) (allP_cons (ob_ix_l l 2 14 i7 k3500) allP_nil)) ?_
          refine rt [(0, .sl l.length (fl l)), (4, .ptr 0 0), (7, .ptr 1 0), (9, .clo 38 [.ptr 2 0, .ptr 3 0, .ptr 1 0, .ptr 0 0]), (10, iS i7), (33, bS (decide (c0q30 < (ix l i7).At)))] [(0, .row 3 [iS c0q30]), (1, .row 22 [.own 4 0 c4q29.length]), (2, .row 4 [bS c2q29]), (3, .row 34 [.sl c3q29.length (fl c3q29)]), (4, .row 55 (fl c4q29))] 19 follows (by kernel_rfl) ?_
          refine wk_id ?_
          refine cond_sx h (by kernel_rfl) (fun g3504 h => ?_) (fun g3504 h => ?_)
          · refine reg_f ?_
            refine rs 1 [] [] (by kernel_rfl) allP_nil ?_
            obtain ⟨r3503, hr3503, h⟩ := bind_sx h
            refine call_x (taskmillref_SetLine_1_1_spec c2q29 c3q29 c0q30 c4q29 r3503 hr3503) (args := [.ptr 2 0, .ptr 3 0, .ptr 1 0, .ptr 0 0]) (dst := (some 35)) (by kernel_rfl) [(0, .row 3 [iS c0q30]), (1, .row 22 [.own 4 0 c4q29.length]), (2, .row 4 [bS c2q29]), (3, .row 34 [.sl c3q29.length (fl c3q29)]), (4, .row 55 (fl c4q29))] 19 (by kernel_rfl) [(0, 2), (1, 3), (2, 1), (3, 4), (4, 0)] [] (.tup []) [(2, .row 4 [bS r3503.1]), (3, .row 34 [.sl r3503.2.1.length (fl r3503.2.1)]), (1, .row 22 [.own 24 0 r3503.2.2.1.length]), (4, .dead), (0, .row 3 [iS r3503.2.2.2]), (24, .row 55 (fl r3503.2.2.1)), (2, .dead), (3, .dead), (1, .dead), (4, .dead), (0, .dead)] (by simp only [push_cast, seval]) (by simp only [push_cast, seval]) (by kernel_rfl) (.inl rfl) (by simp only [push_cast, seval]) (by simp only [push_cast, seval]) ?_
            refine rf [(0, .sl l.length (fl l)), (4, .ptr 0 0), (7, .ptr 1 0), (9, .clo 38 [.ptr 2 0, .ptr 3 0, .ptr 1 0, .ptr 0 0]), (10, iS i7)] [(0, .row 3 [iS r3503.2.2.2]), (1, .row 22 [.own 24 0 r3503.2.2.1.length]), (2, .row 4 [bS r3503.1]), (3, .row 34 [.sl r3503.2.1.length (fl r3503.2.1)]), (4, .dead), (24, .row 55 (fl r3503.2.2.1))] 25 (by kernel_rfl) ?_
            exact hK3497 (r3503.2.2.2, r3503.1, r3503.2.1, r3503.2.2.1) _ _ _ h (leSt_m [(0, 0), (1, 1), (2, 2), (3, 3), (4, 24)] [] (by simp only [push_cast, seval]) (by simp only [push_cast, seval]) rfl rfl rfl)
          · exact hK3497 (c0q30, c2q29, c3q29, c4q29) _ _ _ h (leSt_m [(0, 0), (1, 1), (2, 2), (3, 3), (4, 4)] [] (by simp only [push_cast, seval]) (by simp only [push_cast, seval]) rfl rfl rfl)
        · rintro ⟨c0q35, c2q34, c3q34, c4q34⟩ h
          try dsimp only at h ⊢
          unfold taskmillref_SetLine_j2 at h
          refine chk_sx h (fun g3510 h => ?_)
          refine chk_sx h (fun g3512 h => ?_)
          refine reg_t ?_
          have k3509 : 0 ≤ i7 ∧ i7 < ((l.length : Nat) : Int) := by first | simpa only [Bool.and_eq_true, decide_eq_true_eq, bne_iff_ne, ne_eq] using g3510 | (simp at g3510 ⊢; omega)
          have k3511 : (c4q34 ++ ([(ix l i7)] : List Line)).length * 32 ≤ 140737488355328 := by first | simpa only [Bool.and_eq_true, decide_eq_true_eq, bne_iff_ne, ne_eq] using g3512 | (simp at g3512 ⊢; omega)
          refine rs 8 [none, none, none, some ⟨.iptr (fl l) ((i7).toNat * 2), [], 8, []⟩, some ⟨.agg (Enc.cells (ix l i7)), [], 9, []⟩, none, some ⟨.own 12 0 (c4q34 ++ ([(ix l i7)] : List Line)).length, [(12, .row 55 (fl (c4q34 ++ ([(ix l i7)] : List Line)))), (4, .dead)], 13, [4, 10]⟩] _ (by kernel_rfl) (allP_cons (ob_app (P := Try.prog) c4q34 ([(ix l i7)] : List Line) 2 32 rfl (appCells (fl ([(ix l i7)] : List Line)) 0 (([(ix l i7)] : List Line).length * 2)) ([(ix l i7)] : List Line).length (app_own ([(ix l i7)] : List Line) 2 rfl) rfl (0 + ([(ix l i7)] : List Line).length * 2 ≤ (fl ([(ix l i7)] : List Line)).length) (app_own_le ([(ix l i7)] : List Line) 2 rfl) 55 (by kernel_rfl) (by decide) k3511 4 12 [10]) (allP_cons (ob_ldw l i7 2 ((i7).toNat * 2) k3509 rfl (by first | rfl | omega) [iS (ix l i7).At, .sl (ix l i7).Tasks.length (fl (ix l i7).Tasks)] rfl 9 []) (allP_cons (ob_ix_l l 2 8 i7 k3509) allP_nil))) ?_
          refine rt [(0, .sl l.length (fl l)), (4, .ptr 0 0), (7, .ptr 1 0), (9, .clo 38 [.ptr 2 0, .ptr 3 0, .ptr 1 0, .ptr 0 0]), (10, iS i7)] [(0, .row 3 [iS c0q35]), (1, .row 22 [.own 12 0 (c4q34 ++ ([(ix l i7)] : List Line)).length]), (2, .row 4 [bS c2q34]), (3, .row 34 [.sl c3q34.length (fl c3q34)]), (4, .dead), (10, .row 55 (fl ([(ix l i7)] : List Line))), (12, .row 55 (fl (c4q34 ++ ([(ix l i7)] : List Line))))] 15 follows (by kernel_rfl) ?_
          exact hK3481 (c0q35, c2q34, c3q34, (c4q34 ++ ([(ix l i7)] : List Line))) _ _ _ h (leSt_m [(0, 0), (1, 1), (2, 2), (3, 3), (4, 12)] [] (by simp only [push_cast, seval]) (by simp only [push_cast, seval]) rfl rfl rfl)
    · rintro ⟨c0q34, c2q33, c3q33, c4q33⟩ h
      try dsimp only at h ⊢
      unfold taskmillref_SetLine_j1 at h
      refine wk_id ?_
      refine reg_f ?_
      refine rs 3 [] [] (by kernel_rfl) allP_nil ?_
      refine rf [(0, .sl l.length (fl l)), (4, .ptr 0 0), (7, .ptr 1 0), (9, .clo 38 [.ptr 2 0, .ptr 3 0, .ptr 1 0, .ptr 0 0]), (10, iS (IntKind.i64.wrap (i7 + 1)))] [(0, .row 3 [iS c0q34]), (1, .row 22 [.own 4 0 c4q33.length]), (2, .row 4 [bS c2q33]), (3, .row 34 [.sl c3q33.length (fl c3q33)]), (4, .row 55 (fl c4q33))] 5 (by kernel_rfl) ?_
      exact hn2 ((IntKind.i64.wrap (i7 + 1)), c0q34, c2q33, c3q33, c4q33) _ _ _ (Option.some.inj h).symm (leSt_m [(0, 0), (1, 1), (2, 2), (3, 3), (4, 4)] [] (by simp only [push_cast, seval]) (by simp only [push_cast, seval]) rfl rfl rfl)
  · change R2 (.exit 0) _ _ _
    refine ex_cast hx2 (id := 0) ?_
    obtain ⟨r0, h, e0⟩ := map_sx h
    have e1 := hr2 r0 e0.symm
    subst r0
    refine wk_id ?_
    refine wk_id ?_
    refine seq_np ?_
    refine reg_f ?_
    refine rs 1 [] [] (by kernel_rfl) allP_nil ?_
    obtain ⟨r3515, hr3515, h⟩ := bind_sx h
    refine call_x (taskmillref_SetLine_1_1_spec c2q29 c3q29 c0q30 c4q29 r3515 hr3515) (args := [.ptr 2 0, .ptr 3 0, .ptr 1 0, .ptr 0 0]) (dst := (some 44)) (by kernel_rfl) [(0, .row 3 [iS c0q30]), (1, .row 22 [.own 4 0 c4q29.length]), (2, .row 4 [bS c2q29]), (3, .row 34 [.sl c3q29.length (fl c3q29)]), (4, .row 55 (fl c4q29))] 5 (by kernel_rfl) [(0, 2), (1, 3), (2, 1), (3, 4), (4, 0)] [] (.tup []) [(2, .row 4 [bS r3515.1]), (3, .row 34 [.sl r3515.2.1.length (fl r3515.2.1)]), (1, .row 22 [.own 10 0 r3515.2.2.1.length]), (4, .dead), (0, .row 3 [iS r3515.2.2.2]), (10, .row 55 (fl r3515.2.2.1)), (2, .dead), (3, .dead), (1, .dead), (4, .dead), (0, .dead)] (by simp only [push_cast, seval]) (by simp only [push_cast, seval]) (by kernel_rfl) (.inl rfl) (by simp only [push_cast, seval]) (by simp only [push_cast, seval]) ?_
    refine rf [(7, .ptr 1 0)] [(0, .row 3 [iS r3515.2.2.2]), (1, .row 22 [.own 10 0 r3515.2.2.1.length]), (2, .row 4 [bS r3515.1]), (3, .row 34 [.sl r3515.2.1.length (fl r3515.2.1)]), (4, .dead), (10, .row 55 (fl r3515.2.2.1))] 11 (by kernel_rfl) ?_
    refine wk_id ?_
    refine seq_np ?_
    refine reg_f ?_
    refine rs 2 [] [] (by kernel_rfl) allP_nil ?_
    refine rf [(6, .own 10 0 r3515.2.2.1.length)] [(0, .row 3 [iS r3515.2.2.2]), (1, .row 22 [.own 10 0 r3515.2.2.1.length]), (2, .row 4 [bS r3515.1]), (3, .row 34 [.sl r3515.2.1.length (fl r3515.2.1)]), (4, .dead), (10, .row 55 (fl r3515.2.2.1))] 11 (by kernel_rfl) ?_
    refine wk_id ?_
    obtain rfl := Option.some.inj h
    refine ret_at (.own 10 0 r3515.2.2.1.length) (by kernel_rfl) ?_
    exact ret_e [(0, 10)] [] (by simp only [push_cast, seval]) (by simp only [push_cast, seval]) rfl rfl rfl

set_option maxRecDepth 100000 in
set_option maxHeartbeats 200000000 in
theorem wait_Drop_1_spec (t : Int) (c0 : Int) (r : Bool × Int) (h : wait_Drop_1 t c0 = some r) : SpecW Try.prog 40 [iS t, .ptr 0 0] [(0, .row 3 [iS c0])] 1 (fun x h n => x = bS r.1 ∧ h = [(0, .row 3 [iS r.2])] ∧ n = 1) := by
  unfold wait_Drop_1 at h
  refine spec_of (draw_ok _) Try.func40 rfl (by decide) rfl (by kernel_rfl) ?_
  refine seq_np ?_
  refine reg_f ?_
  refine rs 1 [] [] (by kernel_rfl) allP_nil ?_
  refine rf [(0, iS t), (1, .ptr 0 0)] [(0, .row 3 [iS c0])] 1 (by kernel_rfl) ?_
  refine wk_id ?_
  refine seq_np ?_
  refine reg_f ?_
  refine rs 4 [] [] (by kernel_rfl) allP_nil ?_
  refine rf [(3, bS (t == c0))] [(0, .row 3 [iS c0])] 1 (by kernel_rfl) ?_
  refine wk_id ?_
  obtain rfl := Option.some.inj h
  refine ret_at (bS (t == c0)) (by kernel_rfl) ?_
  exact ret_e [(0, 0)] [] (by simp only [push_cast, seval]) (by simp only [push_cast, seval]) rfl rfl rfl

set_option maxRecDepth 100000 in
set_option maxHeartbeats 200000000 in
theorem slices_IndexFunc_int_spec (s : (List Int)) (c0 : Int) (r : Int × Int) (h : slices_IndexFunc_int s c0 = some r) : SpecW Try.prog 51 [.sl s.length (fl s), .clo 40 [.ptr 0 0]] [(0, .row 3 [iS c0])] 1 (fun x h n => x = iS r.1 ∧ h = [(0, .row 3 [iS r.2])] ∧ n = 1) := by
  unfold slices_IndexFunc_int at h
  refine spec_of (draw_ok _) Try.func51 rfl (by decide) rfl (by kernel_rfl) ?_
  refine seq_np ?_
  refine reg_f ?_
  refine rs 1 [] [] (by kernel_rfl) allP_nil ?_
  refine rf [(0, .sl s.length (fl s)), (1, .clo 40 [.ptr 0 0])] [(0, .row 3 [iS c0])] 1 (by kernel_rfl) ?_
  refine wk_id ?_
  refine seq_np ?_
  refine seq_np ?_
  refine reg_f ?_
  refine rs 3 [] [] (by kernel_rfl) allP_nil ?_
  refine rf [(0, .sl s.length (fl s)), (1, .clo 40 [.ptr 0 0]), (7, iS ((s.length : Nat) : Int)), (8, iS 0)] [(0, .row 3 [iS c0])] 1 (by kernel_rfl) ?_
  refine wk_id ?_
  refine block_np ?_
  refine loop_sx (S := Int × Int) (fun a => ([(0, .sl s.length (fl s)), (1, .clo 40 [.ptr 0 0]), (7, iS ((s.length : Nat) : Int)), (8, iS a.1)], [(0, .row 3 [iS a.2])], 1)) h (leSt_m [(0, 0)] [] (by simp only [push_cast, seval]) (by simp only [push_cast, seval]) rfl rfl rfl) ?_
  rintro ⟨t8q7, c0q9⟩ o2 R2 h hr2 hn2 hx2 ht2
  try dsimp only at h hn2 ⊢
  unfold slices_IndexFunc_int_l1 at h
  try dsimp only at h
  refine seq_np ?_
  refine reg_f ?_
  refine rs 1 [] [] (by kernel_rfl) allP_nil ?_
  refine rf [(0, .sl s.length (fl s)), (1, .clo 40 [.ptr 0 0]), (7, iS ((s.length : Nat) : Int)), (8, iS t8q7), (9, bS (decide (t8q7 < ((s.length : Nat) : Int))))] [(0, .row 3 [iS c0q9])] 1 (by kernel_rfl) ?_
  refine wk_id ?_
  refine seq_np ?_
  refine cond_sx h (by kernel_rfl) (fun g4423 h => ?_) (fun g4423 h => ?_)
  · refine wk_id ?_
    refine seq_np ?_
    refine block_np ?_
    refine seq_np ?_
    refine reg_f ?_
    refine rs 2 [] [] (by kernel_rfl) allP_nil ?_
    refine rf [(0, .sl s.length (fl s)), (1, .clo 40 [.ptr 0 0]), (5, iS t8q7), (7, iS ((s.length : Nat) : Int)), (8, iS t8q7)] [(0, .row 3 [iS c0q9])] 1 (by kernel_rfl) ?_
    refine wk_id ?_
    refine chk_sx h (fun g4420 h => ?_)
    refine seq_np ?_
    refine reg_f ?_
    have k4419 : 0 ≤ t8q7 ∧ t8q7 < ((s.length : Nat) : Int) := by first | simpa only [Bool.and_eq_true, decide_eq_true_eq, bne_iff_ne, ne_eq] using g4420 | (simp at g4420 ⊢; omega)
    refine rs 5 [none, none, none, some ⟨.iptr (fl s) ((t8q7).toNat * 1), [], 1, []⟩, some ⟨iS (ix s t8q7), [], 1, []⟩] _ (by kernel_rfl) (allP_cons (ob_ld s t8q7 1 0 ((t8q7).toNat * 1) k4419 rfl (by decide) (by first | rfl | omega) (dflS Try.prog 3) (iS (ix s t8q7)) rfl 1 []) (allP_cons (ob_ix_l s 1 1 t8q7 k4419) allP_nil)) ?_
    obtain ⟨r4421, hr4421, h⟩ := bind_sx h
    refine call_x (wait_Drop_1_spec (ix s t8q7) c0q9 r4421 hr4421) (args := [iS (ix s t8q7), .ptr 0 0]) (dst := (some 16)) (by kernel_rfl) [(0, .row 3 [iS c0q9])] 1 (by kernel_rfl) [(0, 0)] [] (bS r4421.1) [(0, .row 3 [iS r4421.2]), (0, .dead)] (by simp only [push_cast, seval]) (by simp only [push_cast, seval]) (by kernel_rfl) (.inl rfl) (by simp only [push_cast, seval]) (by simp only [push_cast, seval]) ?_
    refine rf [(0, .sl s.length (fl s)), (1, .clo 40 [.ptr 0 0]), (5, iS t8q7), (7, iS ((s.length : Nat) : Int)), (8, iS t8q7), (16, bS r4421.1)] [(0, .row 3 [iS r4421.2])] 2 (by kernel_rfl) ?_
    refine wk_id ?_
    refine cond_sx h (by kernel_rfl) (fun g4422 h => ?_) (fun g4422 h => ?_)
    · refine seq_np ?_
      refine reg_f ?_
      refine rs 2 [] [] (by kernel_rfl) allP_nil ?_
      refine rf [(4, iS t8q7)] [(0, .row 3 [iS r4421.2])] 2 (by kernel_rfl) ?_
      refine wk_id ?_
      refine rt_cast ht2 ?_
      obtain ⟨r0, h, e0⟩ := map_sx h
      have e1 := hr2 r0 e0.symm
      subst r0
      obtain rfl := Option.some.inj h
      refine ret_at (iS t8q7) (by kernel_rfl) ?_
      exact ret_e [(0, 0)] [] (by simp only [push_cast, seval]) (by simp only [push_cast, seval]) rfl rfl rfl
    · refine wk_id ?_
      refine wk_id ?_
      refine reg_f ?_
      refine rs 2 [] [] (by kernel_rfl) allP_nil ?_
      refine rf [(0, .sl s.length (fl s)), (1, .clo 40 [.ptr 0 0]), (7, iS ((s.length : Nat) : Int)), (8, iS (IntKind.i64.wrap (t8q7 + 1)))] [(0, .row 3 [iS r4421.2])] 2 (by kernel_rfl) ?_
      exact hn2 ((IntKind.i64.wrap (t8q7 + 1)), r4421.2) _ _ _ (Option.some.inj h).symm (leSt_m [(0, 0)] [] (by simp only [push_cast, seval]) (by simp only [push_cast, seval]) rfl rfl rfl)
  · change R2 (.exit 0) _ _ _
    refine ex_cast hx2 (id := 0) ?_
    obtain ⟨r0, h, e0⟩ := map_sx h
    have e1 := hr2 r0 e0.symm
    subst r0
    refine wk_id ?_
    refine wk_id ?_
    refine seq_np ?_
    refine reg_f ?_
    refine rs 1 [] [] (by kernel_rfl) allP_nil ?_
    refine rf [(4, iS (-1))] [(0, .row 3 [iS c0q9])] 1 (by kernel_rfl) ?_
    refine wk_id ?_
    obtain rfl := Option.some.inj h
    refine ret_at (iS (-1)) (by kernel_rfl) ?_
    exact ret_e [(0, 0)] [] (by simp only [push_cast, seval]) (by simp only [push_cast, seval]) rfl rfl rfl

set_option maxRecDepth 100000 in
set_option maxHeartbeats 200000000 in
theorem slices_DeleteFunc_int_1_spec (c0 : (List Int)) (c1 : Int) (r : (List Int) × Int) (h : slices_DeleteFunc_int_1 c0 c1 = some r) : SpecW Try.prog 39 [.own 0 0 c0.length, .clo 40 [.ptr 1 0]] [(0, .row 3 (fl c0)), (1, .row 3 [iS c1])] 2 (fun x h n => x = .own 2 0 r.1.length ∧ h = [(0, .dead), (1, .row 3 [iS r.2]), (2, .row 3 (fl r.1))] ∧ n = 3) := by
  unfold slices_DeleteFunc_int_1 at h
  refine spec_of (draw_ok _) Try.func39 rfl (by decide) rfl (by kernel_rfl) ?_
  refine seq_np ?_
  refine reg_f ?_
  refine rs 1 [] [] (by kernel_rfl) allP_nil ?_
  refine rf [(0, .own 0 0 c0.length), (1, .clo 40 [.ptr 1 0])] [(0, .row 3 (fl c0)), (1, .row 3 [iS c1])] 2 (by kernel_rfl) ?_
  refine wk_id ?_
  refine seq_np ?_
  refine reg_f ?_
  refine rs 2 [] [] (by kernel_rfl) allP_nil ?_
  obtain ⟨r4470, hr4470, h⟩ := bind_sx h
  refine call_x (slices_IndexFunc_int_spec c0 c1 r4470 hr4470) (args := [.own 0 0 c0.length, .clo 40 [.ptr 1 0]]) (dst := (some 10)) (by kernel_rfl) [(0, .row 3 (fl c0)), (1, .row 3 [iS c1])] 2 (by kernel_rfl) [(0, 1)] [0] (iS r4470.1) [(1, .row 3 [iS r4470.2]), (1, .dead)] (by simp only [push_cast, seval]) (by simp only [push_cast, seval]) (by kernel_rfl) (.inr ⟨by simp only [push_cast, seval], by simp only [push_cast, seval]⟩) (by simp only [push_cast, seval]) (by simp only [push_cast, seval]) ?_
  refine rs 1 [] [] (by kernel_rfl) allP_nil ?_
  refine rf [(0, .own 0 0 c0.length), (1, .clo 40 [.ptr 1 0]), (5, iS r4470.1)] [(0, .row 3 (fl c0)), (1, .row 3 [iS r4470.2])] 3 (by kernel_rfl) ?_
  refine wk_id ?_
  refine seq_np ?_
  refine seq_np ?_
  refine reg_f ?_
  refine rs 2 [] [] (by kernel_rfl) allP_nil ?_
  refine rf [(0, .own 0 0 c0.length), (1, .clo 40 [.ptr 1 0]), (5, iS r4470.1), (12, bS (r4470.1 == (-1)))] [(0, .row 3 (fl c0)), (1, .row 3 [iS r4470.2])] 3 (by kernel_rfl) ?_
  refine wk_id ?_
  refine cond_sx h (by kernel_rfl) (fun g4590 h => ?_) (fun g4590 h => ?_)
  · refine seq_np ?_
    refine reg_f ?_
    refine rs 2 [] [] (by kernel_rfl) allP_nil ?_
    refine rf [(4, .own 0 0 c0.length)] [(0, .row 3 (fl c0)), (1, .row 3 [iS r4470.2])] 3 (by kernel_rfl) ?_
    refine wk_id ?_
    obtain rfl := Option.some.inj h
    refine ret_at (.own 0 0 c0.length) (by kernel_rfl) ?_
    exact ret_e [(1, 1), (2, 0)] [] (by simp only [push_cast, seval]) (by simp only [push_cast, seval]) rfl rfl rfl
  · refine wk_id ?_
    refine seq_np ?_
    refine seq_np ?_
    refine reg_f ?_
    refine rs 3 [] [] (by kernel_rfl) allP_nil ?_
    refine rf [(0, .own 0 0 c0.length), (1, .clo 40 [.ptr 1 0]), (5, iS r4470.1), (6, iS (IntKind.i64.wrap (r4470.1 + 1)))] [(0, .row 3 (fl c0)), (1, .row 3 [iS r4470.2])] 3 (by kernel_rfl) ?_
    refine wk_id ?_
    refine block_np ?_
    refine loop_sx (S := Int × Int × (List Int) × Int) (fun a => ([(0, .own 0 0 a.2.2.1.length), (1, .clo 40 [.ptr 1 0]), (5, iS a.1), (6, iS a.2.1)], [(0, .row 3 (fl a.2.2.1)), (1, .row 3 [iS a.2.2.2])], 2)) h (leSt_m [(0, 0), (1, 1)] [] (by simp only [push_cast, seval]) (by simp only [push_cast, seval]) rfl rfl rfl) ?_
    rintro ⟨i22, j11, c0q19, c1q24⟩ o2 R2 h hr2 hn2 hx2 ht2
    try dsimp only at h hn2 ⊢
    unfold slices_DeleteFunc_int_1_l1 at h
    try dsimp only at h
    refine seq_np ?_
    refine seq_np ?_
    refine reg_f ?_
    refine rs 4 [] [] (by kernel_rfl) allP_nil ?_
    refine rf [(0, .own 0 0 c0q19.length), (1, .clo 40 [.ptr 1 0]), (5, iS i22), (6, iS j11), (19, bS (decide (j11 < ((c0q19.length : Nat) : Int))))] [(0, .row 3 (fl c0q19)), (1, .row 3 [iS c1q24])] 2 (by kernel_rfl) ?_
    refine wk_id ?_
    refine cond_sx h (by kernel_rfl) (fun g4589 h => ?_) (fun g4589 h => ?_)
    · refine wk_id ?_
      refine seq_np ?_
      refine block_cut (A := Int × (List Int) × Int) (fun a => ([(0, .own 0 0 a.2.1.length), (1, .clo 40 [.ptr 1 0]), (5, iS a.1), (6, iS j11)], [(0, .row 3 (fl a.2.1)), (1, .row 3 [iS a.2.2])], 2)) (fun a => (slices_DeleteFunc_int_1_j1 j11 a.1 a.2.1 a.2.2) = some o2) (fun K4563 hK4563 => ?_) ?_
      · refine chk_sx h (fun g4567 h => ?_)
        refine seq_np ?_
        refine reg_f ?_
        have k4566 : 0 ≤ j11 ∧ j11 < ((c0q19.length : Nat) : Int) := by first | simpa only [Bool.and_eq_true, decide_eq_true_eq, bne_iff_ne, ne_eq] using g4567 | (simp at g4567 ⊢; omega)
        refine rs 5 [none, none, some ⟨.ptr 0 (0 + (j11).toNat * 1), [], 2, [0]⟩, some ⟨iS (ix c0q19 j11), [], 2, [0]⟩] _ (by kernel_rfl) (allP_cons (ob_ld c0q19 j11 1 0 (0 + (j11).toNat * 1) k4566 rfl (by decide) (by first | rfl | omega) (dflS Try.prog 3) (iS (ix c0q19 j11)) rfl 2 [0]) (allP_cons (ob_ix_o 0 c0q19.length 0 1 2 j11 k4566) allP_nil)) ?_
        refine rf [(0, .own 0 0 c0q19.length), (1, .clo 40 [.ptr 1 0]), (5, iS i22), (6, iS j11), (7, iS (ix c0q19 j11))] [(0, .row 3 (fl c0q19)), (1, .row 3 [iS c1q24])] 2 (by kernel_rfl) ?_
        refine wk_id ?_
        refine seq_np ?_
        refine reg_f ?_
        refine rs 2 [] [] (by kernel_rfl) allP_nil ?_
        obtain ⟨r4569, hr4569, h⟩ := bind_sx h
        refine call_x (wait_Drop_1_spec (ix c0q19 j11) c1q24 r4569 hr4569) (args := [iS (ix c0q19 j11), .ptr 1 0]) (dst := (some 28)) (by kernel_rfl) [(0, .row 3 (fl c0q19)), (1, .row 3 [iS c1q24])] 2 (by kernel_rfl) [(0, 1)] [] (bS r4569.1) [(1, .row 3 [iS r4569.2]), (1, .dead)] (by simp only [push_cast, seval]) (by simp only [push_cast, seval]) (by kernel_rfl) (.inl rfl) (by simp only [push_cast, seval]) (by simp only [push_cast, seval]) ?_
        refine rs 1 [] [] (by kernel_rfl) allP_nil ?_
        refine rf [(0, .own 0 0 c0q19.length), (1, .clo 40 [.ptr 1 0]), (5, iS i22), (6, iS j11), (7, iS (ix c0q19 j11)), (29, bS (!r4569.1))] [(0, .row 3 (fl c0q19)), (1, .row 3 [iS r4569.2])] 3 (by kernel_rfl) ?_
        refine wk_id ?_
        refine cond_sx h (by kernel_rfl) (fun g4574 h => ?_) (fun g4574 h => ?_)
        · refine chk_sx h (fun g4573 h => ?_)
          refine seq_np ?_
          refine reg_f ?_
          have k4572 : 0 ≤ i22 ∧ i22 < ((c0q19.length : Nat) : Int) := by first | simpa only [Bool.and_eq_true, decide_eq_true_eq, bne_iff_ne, ne_eq] using g4573 | (simp at g4573 ⊢; omega)
          refine rs 5 [none, none, none, some ⟨.ptr 0 (0 + (i22).toNat * 1), [], 3, [0]⟩, some ⟨.any, [(0, .row 3 (fl (c0q19.set i22.toNat (ix c0q19 j11))))], 3, [0]⟩] _ (by kernel_rfl) (allP_cons (ob_st (P := Try.prog) c0q19 i22 1 0 (0 + (i22).toNat * 1) k4572 rfl [iS (ix c0q19 j11)] (ix c0q19 j11) (Nat.le_of_ble_eq_true rfl) (by first | rfl | omega) rfl 0 3 3 3 (by kernel_rfl) rfl) (allP_cons (ob_ix_o 0 c0q19.length 0 1 3 i22 k4572) allP_nil)) ?_
          refine run_eqF 0 (.own 0 0 c0q19.length) (.own 0 0 (c0q19.set i22.toNat (ix c0q19 j11)).length) (congrArg (fun nq => (.own 0 0 nq : SV)) (show c0q19.length = (c0q19.set i22.toNat (ix c0q19 j11)).length from (List.length_set ..).symm)) (by kernel_rfl) ?_
          refine rf [(0, .own 0 0 (c0q19.set i22.toNat (ix c0q19 j11)).length), (1, .clo 40 [.ptr 1 0]), (5, iS i22), (6, iS j11)] [(0, .row 3 (fl (c0q19.set i22.toNat (ix c0q19 j11)))), (1, .row 3 [iS r4569.2])] 3 (by kernel_rfl) ?_
          refine wk_id ?_
          refine reg_f ?_
          refine rs 3 [] [] (by kernel_rfl) allP_nil ?_
          refine rf [(0, .own 0 0 (c0q19.set i22.toNat (ix c0q19 j11)).length), (1, .clo 40 [.ptr 1 0]), (5, iS (IntKind.i64.wrap (i22 + 1))), (6, iS j11)] [(0, .row 3 (fl (c0q19.set i22.toNat (ix c0q19 j11)))), (1, .row 3 [iS r4569.2])] 3 (by kernel_rfl) ?_
          exact hK4563 ((IntKind.i64.wrap (i22 + 1)), (c0q19.set i22.toNat (ix c0q19 j11)), r4569.2) _ _ _ h (leSt_m [(0, 0), (1, 1)] [] (by simp only [push_cast, seval]) (by simp only [push_cast, seval]) rfl rfl rfl)
        · exact hK4563 (i22, c0q19, r4569.2) _ _ _ h (leSt_m [(0, 0), (1, 1)] [] (by simp only [push_cast, seval]) (by simp only [push_cast, seval]) rfl rfl rfl)
      · rintro ⟨i24, c0q21, c1q26⟩ h
        try dsimp only at h ⊢
        unfold slices_DeleteFunc_int_1_j1 at h
        refine wk_id ?_
        refine reg_f ?_
        refine rs 3 [] [] (by kernel_rfl) allP_nil ?_
        refine rf [(0, .own 0 0 c0q21.length), (1, .clo 40 [.ptr 1 0]), (5, iS i24), (6, iS (IntKind.i64.wrap (j11 + 1)))] [(0, .row 3 (fl c0q21)), (1, .row 3 [iS c1q26])] 2 (by kernel_rfl) ?_
        exact hn2 (i24, (IntKind.i64.wrap (j11 + 1)), c0q21, c1q26) _ _ _ (Option.some.inj h).symm (leSt_m [(0, 0), (1, 1)] [] (by simp only [push_cast, seval]) (by simp only [push_cast, seval]) rfl rfl rfl)
    · change R2 (.exit 0) _ _ _
      refine ex_cast hx2 (id := 0) ?_
      obtain ⟨r0, h, e0⟩ := map_sx h
      have e1 := hr2 r0 e0.symm
      subst r0
      refine wk_id ?_
      refine wk_id ?_
      refine chk_sx h (fun g4581 h => ?_)
      refine seq_np ?_
      refine reg_f ?_
      have k4580 : 0 ≤ i22 ∧ i22 ≤ ((c0q19.length : Nat) : Int) ∧ ((c0q19.length : Nat) : Int) ≤ ((c0q19.length : Nat) : Int) := by first | simpa only [Bool.and_eq_true, decide_eq_true_eq, bne_iff_ne, ne_eq] using g4581 | (simp at g4581 ⊢; omega)
      have f4582 : (cut c0q19 i22 ((c0q19.length : Nat) : Int)).length = (((c0q19.length : Nat) : Int)).toNat - (i22).toNat ∧ 0 ≤ i22 ∧ i22 ≤ ((c0q19.length : Nat) : Int) ∧ ((c0q19.length : Nat) : Int) ≤ ((c0q19.length : Nat) : Int) := ⟨cut_len _ _ _ k4580, k4580⟩
      refine rs 3 [none, none, some ⟨.own 0 ((i22).toNat * 1) (cut c0q19 i22 ((c0q19.length : Nat) : Int)).length, [], 2, [0]⟩] _ (by kernel_rfl) (allP_cons (ob_cutP (P := Try.prog) c0q19 i22 ((c0q19.length : Nat) : Int) 1 2 0 3 (by kernel_rfl) k4580) allP_nil) ?_
      have k4583 : (wipe c0q19 i22 ((c0q19.length : Nat) : Int)).length = c0q19.length := wipe_len (by omega)
      refine run_clr c0q19 none 0 ((i22).toNat * 1) (cut c0q19 i22 ((c0q19.length : Nat) : Int)).length 1 3 [.v (.int .i64 0)] i22 ((c0q19.length : Nat) : Int) (by kernel_rfl) rfl rfl (by decide) (by first | rfl | simp) f4582 ?_
      have f4584 : (cut c0q19 i22 ((c0q19.length : Nat) : Int)).length = (((c0q19.length : Nat) : Int)).toNat - (i22).toNat ∧ 0 ≤ i22 ∧ i22 ≤ ((c0q19.length : Nat) : Int) ∧ ((c0q19.length : Nat) : Int) ≤ (((wipe c0q19 i22 ((c0q19.length : Nat) : Int)).length : Nat) : Int) := ⟨f4582.1, f4582.2.1, f4582.2.2.1, by rw [k4583]; exact f4582.2.2.2⟩
      refine run_eqF 0 (.own 0 0 c0q19.length) (.own 0 0 (wipe c0q19 i22 ((c0q19.length : Nat) : Int)).length) (congrArg (fun nq => (.own 0 0 nq : SV)) (show c0q19.length = (wipe c0q19 i22 ((c0q19.length : Nat) : Int)).length from k4583.symm)) (by kernel_rfl) ?_
      refine rf [(0, .own 0 0 (wipe c0q19 i22 ((c0q19.length : Nat) : Int)).length), (5, iS i22)] [(0, .row 3 (fl (wipe c0q19 i22 ((c0q19.length : Nat) : Int)))), (1, .row 3 [iS c1q24])] 2 (by kernel_rfl) ?_
      refine wk_id ?_
      refine chk_sx h (fun g4588 h => ?_)
      refine seq_np ?_
      refine reg_f ?_
      have k4587 : 0 ≤ (0 : Int) ∧ (0 : Int) ≤ i22 ∧ i22 ≤ (((wipe c0q19 i22 ((c0q19.length : Nat) : Int)).length : Nat) : Int) := by first | simpa only [Bool.and_eq_true, decide_eq_true_eq, bne_iff_ne, ne_eq] using g4588 | (simp at g4588 ⊢; omega)
      refine rs 2 [] [] (by kernel_rfl) allP_nil ?_
      refine run_cutO (wipe c0q19 i22 ((c0q19.length : Nat) : Int)) (some 41) 0 1 3 (0 : Int) i22 (by kernel_rfl) rfl k4587 ?_
      refine rs 1 [] [] (by kernel_rfl) allP_nil ?_
      refine rf [(4, .own 2 0 (cut (wipe c0q19 i22 ((c0q19.length : Nat) : Int)) (0 : Int) i22).length)] [(0, .dead), (1, .row 3 [iS c1q24]), (2, .row 3 (fl (cut (wipe c0q19 i22 ((c0q19.length : Nat) : Int)) (0 : Int) i22)))] 3 (by kernel_rfl) ?_
      refine wk_id ?_
      obtain rfl := Option.some.inj h
      refine ret_at (.own 2 0 (cut (wipe c0q19 i22 ((c0q19.length : Nat) : Int)) (0 : Int) i22).length) (by kernel_rfl) ?_
      exact ret_e [(1, 1), (2, 2)] [] (by simp only [push_cast, seval]) (by simp only [push_cast, seval]) rfl rfl rfl

set_option maxRecDepth 100000 in
set_option maxHeartbeats 200000000 in
theorem wait_Drop_spec (l : (List Line)) (task : Int) (r : Int × Fault × (List Line)) (h : wait_Drop l task = some r) : SpecW Try.prog 29 [.sl l.length (fl l), iS task] [] 0 (fun x h n => x = .tup [.own 0 0 r.2.2.length, iS r.1, .agg (Enc.cells r.2.1)] ∧ h = [(0, .row 55 (fl r.2.2))] ∧ n = 1) := by
  unfold wait_Drop at h
  refine spec_of (draw_ok _) Try.func29 rfl (by decide) rfl (by kernel_rfl) ?_
  refine seq_np ?_
  refine reg_f ?_
  refine rs 4 [] [] (by kernel_rfl) allP_nil ?_
  refine rf [(0, .sl l.length (fl l)), (3, .ptr 0 0), (6, .ptr 1 0)] [(0, .row 3 [iS task]), (1, .row 27 [iS 0, iS 0])] 2 (by kernel_rfl) ?_
  refine wk_id ?_
  refine seq_np ?_
  refine seq_np ?_
  refine reg_f ?_
  refine rs 1 [] [] (by kernel_rfl) allP_nil ?_
  obtain ⟨r4598, hr4598, h⟩ := bind_sx h
  refine run_call 11 [.sl l.length (fl l)] (some 11) (by kernel_rfl) ?_
  refine call_0 (wait_Check_spec l r4598 hr4598) (by simp only [push_cast, seval]) (by simp only [push_cast, seval]) ?_
  refine back_f ?_
  refine rs 2 [] [] (by kernel_rfl) allP_nil ?_
  refine rf [(0, .sl l.length (fl l)), (3, .ptr 0 0), (6, .ptr 1 0), (7, .ptr 2 0)] [(0, .row 3 [iS task]), (1, .row 27 [iS 0, iS 0]), (2, .row 27 (Enc.cells r4598))] 3 (by kernel_rfl) ?_
  refine wk_id ?_
  refine seq_np ?_
  refine reg_f ?_
  refine rs 3 [] [] (by kernel_rfl) allP_nil ?_
  refine rf [(0, .sl l.length (fl l)), (3, .ptr 0 0), (6, .ptr 1 0), (7, .ptr 2 0), (14, bS (r4598.Code != 0))] [(0, .row 3 [iS task]), (1, .row 27 [iS 0, iS 0]), (2, .row 27 (Enc.cells r4598))] 3 (by kernel_rfl) ?_
  refine wk_id ?_
  refine cond_sx h (by kernel_rfl) (fun g4620 h => ?_) (fun g4620 h => ?_)
  · refine seq_np ?_
    refine reg_t ?_
    refine rs 4 [] [] (by kernel_rfl) allP_nil ?_
    refine rt [(4, .v (.slice none 0 0)), (5, iS 0), (6, .ptr 1 0)] [(0, .row 3 [iS task]), (1, .row 27 (Enc.cells r4598)), (2, .row 27 (Enc.cells r4598))] 7 follows (by kernel_rfl) ?_
    refine wk_id ?_
    obtain rfl := Option.some.inj h
    refine ret_at (.tup [.v (.slice none 0 0), iS 0, .agg (Enc.cells r4598)]) (by kernel_rfl) ?_
    exact ret_e [] [] (by simp only [push_cast, seval]) (by simp only [push_cast, seval]) rfl rfl rfl
  · refine wk_id ?_
    refine seq_np ?_
    refine reg_f ?_
    refine rs 2 [] [] (by kernel_rfl) allP_nil ?_
    obtain ⟨r4600, hr4600, h⟩ := bind_sx h
    refine run_call 31 [.sl l.length (fl l), iS task] (some 18) (by kernel_rfl) ?_
    refine call_0 (wait_Of_spec l task r4600 hr4600) (by simp only [push_cast, seval]) (by simp only [push_cast, seval]) ?_
    refine back_f ?_
    refine rs 1 [] [] (by kernel_rfl) allP_nil ?_
    refine rf [(0, .sl l.length (fl l)), (3, .ptr 0 0), (6, .ptr 1 0), (8, iS r4600)] [(0, .row 3 [iS task]), (1, .row 27 [iS 0, iS 0]), (2, .row 27 (Enc.cells r4598))] 3 (by kernel_rfl) ?_
    refine wk_id ?_
    refine seq_np ?_
    refine seq_np ?_
    refine reg_f ?_
    refine rs 2 [] [] (by kernel_rfl) allP_nil ?_
    refine rf [(0, .sl l.length (fl l)), (3, .ptr 0 0), (6, .ptr 1 0), (8, iS r4600), (20, bS (decide (r4600 < 0)))] [(0, .row 3 [iS task]), (1, .row 27 [iS 0, iS 0]), (2, .row 27 (Enc.cells r4598))] 3 (by kernel_rfl) ?_
    refine wk_id ?_
    refine cond_sx h (by kernel_rfl) (fun g4619 h => ?_) (fun g4619 h => ?_)
    · refine seq_np ?_
      refine reg_f ?_
      obtain ⟨r4604, hr4604, h⟩ := bind_sx h
      refine run_call 30 [iS 6, iS 0] (some 21) (by kernel_rfl) ?_
      refine call_0 (wait_fault_spec 6 0 r4604 hr4604) (by simp only [push_cast, seval]) (by simp only [push_cast, seval]) ?_
      refine back_f ?_
      refine rs 3 [] [] (by kernel_rfl) allP_nil ?_
      refine rf [(4, .v (.slice none 0 0)), (5, iS 0), (6, .ptr 1 0)] [(0, .row 3 [iS task]), (1, .row 27 (Enc.cells r4604)), (2, .row 27 (Enc.cells r4598))] 3 (by kernel_rfl) ?_
      refine wk_id ?_
      obtain rfl := Option.some.inj h
      refine ret_at (.tup [.v (.slice none 0 0), iS 0, .agg (Enc.cells r4604)]) (by kernel_rfl) ?_
      exact ret_e [] [] (by simp only [push_cast, seval]) (by simp only [push_cast, seval]) rfl rfl rfl
    · refine wk_id ?_
      refine chk_sx h (fun g4610 h => ?_)
      refine seq_np ?_
      refine reg_f ?_
      have k4609 : 0 ≤ r4600 ∧ r4600 < ((l.length : Nat) : Int) := by first | simpa only [Bool.and_eq_true, decide_eq_true_eq, bne_iff_ne, ne_eq] using g4610 | (simp at g4610 ⊢; omega)
      refine rs 5 [none, none, some ⟨.iptr (fl l) ((r4600).toNat * 2), [], 3, []⟩, none, some ⟨.sl (ix l r4600).Tasks.length (fl (ix l r4600).Tasks), [], 3, []⟩] _ (by kernel_rfl) (allP_cons (ob_ld l r4600 2 1 (((r4600).toNat * 2) + 1) k4609 rfl (by decide) (by first | rfl | omega) (dflS Try.prog 34) (.sl (ix l r4600).Tasks.length (fl (ix l r4600).Tasks)) rfl 3 []) (allP_cons (ob_ix_l l 2 3 r4600 k4609) allP_nil)) ?_
      obtain ⟨r4611, hr4611, h⟩ := bind_sx h
      refine call_x (slices_Clone_int_spec (ix l r4600).Tasks r4611 hr4611) (args := [.sl (ix l r4600).Tasks.length (fl (ix l r4600).Tasks)]) (dst := (some 27)) (by kernel_rfl) [(0, .row 3 [iS task]), (1, .row 27 [iS 0, iS 0]), (2, .row 27 (Enc.cells r4598))] 3 (by kernel_rfl) [] [] (.own 3 0 r4611.length) [(3, .row 3 (fl r4611))] (by simp only [push_cast, seval]) (by simp only [push_cast, seval]) (by kernel_rfl) (.inl rfl) (by simp only [push_cast, seval]) (by simp only [push_cast, seval]) ?_
      refine rs 1 [] [] (by kernel_rfl) allP_nil ?_
      obtain ⟨r4612, hr4612, h⟩ := bind_sx h
      refine call_x (slices_DeleteFunc_int_1_spec r4611 task r4612 hr4612) (args := [.own 3 0 r4611.length, .clo 40 [.ptr 0 0]]) (dst := (some 29)) (by kernel_rfl) [(0, .row 3 [iS task]), (1, .row 27 [iS 0, iS 0]), (2, .row 27 (Enc.cells r4598)), (3, .row 3 (fl r4611))] 4 (by kernel_rfl) [(0, 3), (1, 0)] [] (.own 6 0 r4612.1.length) [(3, .dead), (0, .row 3 [iS r4612.2]), (6, .row 3 (fl r4612.1)), (3, .dead), (0, .dead)] (by simp only [push_cast, seval]) (by simp only [push_cast, seval]) (by kernel_rfl) (.inl rfl) (by simp only [push_cast, seval]) (by simp only [push_cast, seval]) ?_
      refine rs 1 [] [] (by kernel_rfl) allP_nil ?_
      refine rf [(0, .sl l.length (fl l)), (6, .ptr 1 0), (8, iS r4600), (9, .own 6 0 r4612.1.length)] [(0, .row 3 [iS r4612.2]), (1, .row 27 [iS 0, iS 0]), (2, .row 27 (Enc.cells r4598)), (3, .dead), (6, .row 3 (fl r4612.1))] 7 (by kernel_rfl) ?_
      refine wk_id ?_
      refine seq_np ?_
      refine reg_t ?_
      refine rs 3 [] [] (by kernel_rfl) allP_nil ?_
      obtain ⟨r4616, hr4616, h⟩ := bind_sx h
      refine call_x (SpecW.give (wait_with_spec l r4600 r4612.1 r4616 hr4616) [(0, .row 3 (fl r4612.1))] [.sl l.length (fl l), iS r4600, .own 0 0 r4612.1.length] [] (.own 1 0 r4616.length) [(1, .row 55 (fl r4616))] (by first | simp only [push_cast, seval] | simp only [push_cast, List.mem_singleton, true_and, and_true, seval]) (by simp only [push_cast, seval]) (by simp only [push_cast, seval]) (by simp only [push_cast, seval]) rfl (by simp only [push_cast, seval]) (by simp only [push_cast, seval]) rfl) (args := [.sl l.length (fl l), iS r4600, .own 6 0 r4612.1.length]) (dst := (some 33)) (by kernel_rfl) [(0, .row 3 [iS r4612.2]), (1, .row 27 [iS 0, iS 0]), (2, .row 27 (Enc.cells r4598)), (3, .dead), (6, .row 3 (fl r4612.1))] 10 (by kernel_rfl) [(0, 6)] [] (.own 11 0 r4616.length) [(11, .row 55 (fl r4616)), (6, .dead)] (by simp only [push_cast, seval]) (by simp only [push_cast, seval]) (by kernel_rfl) (.inl rfl) (by simp only [push_cast, seval]) (by simp only [push_cast, seval]) ?_
      refine chk_sx h (fun g4618 h => ?_)
      have k4617 : 0 ≤ r4600 ∧ r4600 < ((l.length : Nat) : Int) := by first | simpa only [Bool.and_eq_true, decide_eq_true_eq, bne_iff_ne, ne_eq] using g4618 | (simp at g4618 ⊢; omega)
      refine rs 9 [none, none, some ⟨.iptr (fl l) ((r4600).toNat * 2), [], 15, []⟩, none, some ⟨iS (ix l r4600).At, [], 17, []⟩] _ (by kernel_rfl) (allP_cons (ob_ld l r4600 2 0 (((r4600).toNat * 2) + 0) k4617 rfl (by decide) (by first | rfl | omega) (dflS Try.prog 3) (iS (ix l r4600).At) rfl 17 []) (allP_cons (ob_ix_l l 2 15 r4600 k4617) allP_nil)) ?_
      refine rt [(4, .own 11 0 r4616.length), (5, iS (ix l r4600).At), (6, .ptr 1 0)] [(0, .row 3 [iS r4612.2]), (1, .row 27 [iS 0, iS 0]), (2, .row 27 (Enc.cells r4598)), (3, .dead), (6, .dead), (11, .row 55 (fl r4616))] 22 follows (by kernel_rfl) ?_
      refine wk_id ?_
      obtain rfl := Option.some.inj h
      refine ret_at (.tup [.own 11 0 r4616.length, iS (ix l r4600).At, .agg [iS 0, iS 0]]) (by kernel_rfl) ?_
      exact ret_e [(0, 11)] [] (by simp only [push_cast, seval]) (by simp only [push_cast, seval]) rfl rfl rfl

end Go.Proofs.Ytnnpjaoddniifaa
