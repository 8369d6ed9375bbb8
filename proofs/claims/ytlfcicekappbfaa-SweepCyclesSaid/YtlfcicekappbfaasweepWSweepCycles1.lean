/-
  What laws of the chapter sweep compute, and lemmas on it.
  No conditions.
-/
import Derived.Test.YtlfcicekappbfaaProg
import Derived.Test.YtlfcicekappbfaasweepG
set_option linter.unusedSimpArgs false
set_option linter.unusedVariables false
namespace Go.Proofs.Ytlfcicekappbfaa
open Go Go.Sx
attribute [local irreducible] Wk RunAt
theorem follows : Try.prog.follows .mixedOrders = true := by kernel_rfl
set_option maxRecDepth 100000 in
set_option maxHeartbeats 200000000 in
theorem sweep_fault_spec (code : Int) (xat : Int) (r : Fault) (h : sweep_fault code xat = some r) : SpecW Try.prog 24 [iS code, iS xat] [] 0 (fun x h n => x = .agg (Enc.cells r) ∧ h = [] ∧ n = 0) := by
  unfold sweep_fault at h
  refine spec_of (draw_ok _) Try.func24 rfl (by decide) rfl (by kernel_rfl) ?_
  refine seq_np ?_
  refine reg_f ?_
  refine rs 1 [] [] (by kernel_rfl) allP_nil ?_
  refine rf [(0, iS code), (1, iS xat), (4, .ptr 0 0)] [(0, .row 30 [iS 0, iS 0])] 1 (by kernel_rfl) ?_
  refine wk_id ?_
  refine seq_np ?_
  refine reg_f ?_
  refine rs 4 [] [] (by kernel_rfl) allP_nil ?_
  refine rf [(4, .ptr 0 0)] [(0, .row 30 [iS code, iS xat])] 1 (by kernel_rfl) ?_
  refine wk_id ?_
  obtain rfl := Option.some.inj h
  refine ret_at (.agg [iS code, iS xat]) (by kernel_rfl) ?_
  exact ret_e [] [] (by simp only [push_cast, seval]) (by simp only [push_cast, seval]) rfl rfl rfl

set_option maxRecDepth 100000 in
set_option maxHeartbeats 200000000 in
theorem sweep_Check_spec (xh : GHeap) (r : Fault) (h : sweep_Check xh = some r) : SpecW Try.prog 11 [.agg (Enc.cells xh)] [] 0 (fun x h n => x = .agg (Enc.cells r) ∧ h = [] ∧ n = 0) := by
  unfold sweep_Check at h
  refine spec_of (draw_ok _) Try.func11 rfl (by decide) rfl (by kernel_rfl) ?_
  refine seq_np ?_
  refine reg_f ?_
  refine rs 2 [] [] (by kernel_rfl) allP_nil ?_
  refine rf [(1, .ptr 0 0), (2, .ptr 1 0)] [(0, .row 25 (Enc.cells xh)), (1, .row 30 [iS 0, iS 0])] 2 (by kernel_rfl) ?_
  refine wk_id ?_
  refine seq_np ?_
  refine seq_cut (A := Unit) (fun _ => ([(1, .ptr 0 0), (2, .ptr 1 0), (18, bS ((decide ((500 : Int) < ((xh.Objects.length : Nat) : Int))) || (decide ((16 : Int) < ((xh.Roots.length : Nat) : Int)))))], [(0, .row 25 (Enc.cells xh)), (1, .row 30 [iS 0, iS 0])], 2)) (fun _ => True) (fun K100 hK100 => ?_) (fun _ _ => ?_)
  · refine reg_f ?_
    refine rs 5 [] [] (by kernel_rfl) allP_nil ?_
    refine run_split 13 (decide ((500 : Int) < ((xh.Objects.length : Nat) : Int))) (.inl (by kernel_rfl)) (fun g101 => ?_) (fun g101 => ?_)
    · refine rs 5 [] [] (by kernel_rfl) allP_nil ?_
      refine rf [(1, .ptr 0 0), (2, .ptr 1 0), (18, bS true)] [(0, .row 25 (Enc.cells xh)), (1, .row 30 [iS 0, iS 0])] 2 (by kernel_rfl) ?_
      exact hK100 () _ _ _ trivial (leSt_m [(0, 0), (1, 1)] [] (by (try simp only [g101]) <;> simp only [push_cast, seval]) (by (try simp only [g101]) <;> simp only [push_cast, seval]) rfl rfl rfl)
    · refine rs 5 [] [] (by kernel_rfl) allP_nil ?_
      refine rf [(1, .ptr 0 0), (2, .ptr 1 0), (18, bS (decide ((16 : Int) < ((xh.Roots.length : Nat) : Int))))] [(0, .row 25 (Enc.cells xh)), (1, .row 30 [iS 0, iS 0])] 2 (by kernel_rfl) ?_
      exact hK100 () _ _ _ trivial (leSt_m [(0, 0), (1, 1)] [] (by (try simp only [g101]) <;> simp only [push_cast, seval]) (by (try simp only [g101]) <;> simp only [push_cast, seval]) rfl rfl rfl)
  · dsimp only
    refine cond_sx h (by kernel_rfl) (fun g483 h => ?_) (fun g483 h => ?_)
    · refine seq_np ?_
      refine reg_f ?_
      obtain ⟨r103, hr103, h⟩ := bind_sx h
      refine run_call 24 [iS 2, iS 0] (some 19) (by kernel_rfl) ?_
      refine call_0 (sweep_fault_spec 2 0 r103 hr103) (by simp only [push_cast, seval]) (by simp only [push_cast, seval]) ?_
      refine back_f ?_
      refine rs 1 [] [] (by kernel_rfl) allP_nil ?_
      refine rf [(2, .ptr 1 0)] [(0, .row 25 (Enc.cells xh)), (1, .row 30 (Enc.cells r103))] 2 (by kernel_rfl) ?_
      refine wk_id ?_
      obtain rfl := Option.some.inj h
      refine ret_at (.agg (Enc.cells r103)) (by kernel_rfl) ?_
      exact ret_e [] [] (by simp only [push_cast, seval]) (by simp only [push_cast, seval]) rfl rfl rfl
    · refine wk_id ?_
      refine seq_np ?_
      refine seq_np ?_
      refine reg_f ?_
      refine rs 4 [] [] (by kernel_rfl) allP_nil ?_
      refine rf [(1, .ptr 0 0), (2, .ptr 1 0), (21, .sl xh.Roots.length (fl xh.Roots)), (22, iS ((xh.Roots.length : Nat) : Int)), (23, iS 0)] [(0, .row 25 (Enc.cells xh)), (1, .row 30 [iS 0, iS 0])] 2 (by kernel_rfl) ?_
      refine wk_id ?_
      refine block_np ?_
      refine loop_sx (S := Int) (fun a => ([(1, .ptr 0 0), (2, .ptr 1 0), (21, .sl xh.Roots.length (fl xh.Roots)), (22, iS ((xh.Roots.length : Nat) : Int)), (23, iS a)], [(0, .row 25 (Enc.cells xh)), (1, .row 30 [iS 0, iS 0])], 2)) h (leSt_m [(0, 0), (1, 1)] [] (by simp only [push_cast, seval]) (by simp only [push_cast, seval]) rfl rfl rfl) ?_
      rintro t23q7 o4 R4 h hr4 hn4 hx4 ht4
      try dsimp only at h hn4 ⊢
      unfold sweep_Check_l3 at h
      try dsimp only at h
      refine seq_np ?_
      refine reg_f ?_
      refine rs 1 [] [] (by kernel_rfl) allP_nil ?_
      refine rf [(1, .ptr 0 0), (2, .ptr 1 0), (21, .sl xh.Roots.length (fl xh.Roots)), (22, iS ((xh.Roots.length : Nat) : Int)), (23, iS t23q7), (24, bS (decide (t23q7 < ((xh.Roots.length : Nat) : Int))))] [(0, .row 25 (Enc.cells xh)), (1, .row 30 [iS 0, iS 0])] 2 (by kernel_rfl) ?_
      refine wk_id ?_
      refine seq_np ?_
      refine cond_sx h (by kernel_rfl) (fun g482 h => ?_) (fun g482 h => ?_)
      · refine wk_id ?_
        refine seq_np ?_
        refine block_np ?_
        refine chk_sx h (fun g169 h => ?_)
        refine seq_np ?_
        refine reg_f ?_
        have k168 : 0 ≤ t23q7 ∧ t23q7 < ((xh.Roots.length : Nat) : Int) := by first | simpa only [Bool.and_eq_true, decide_eq_true_eq, bne_iff_ne, ne_eq] using g169 | (simp at g169 ⊢; omega)
        refine rs 5 [none, some ⟨.iptr (fl xh.Roots) ((t23q7).toNat * 1), [], 2, []⟩, some ⟨iS (ix xh.Roots t23q7), [], 2, []⟩] _ (by kernel_rfl) (allP_cons (ob_ld xh.Roots t23q7 1 0 ((t23q7).toNat * 1) k168 rfl (by decide) (by first | rfl | omega) (dflS Try.prog 3) (iS (ix xh.Roots t23q7)) rfl 2 []) (allP_cons (ob_ix_l xh.Roots 1 2 t23q7 k168) allP_nil)) ?_
        refine rf [(1, .ptr 0 0), (2, .ptr 1 0), (3, iS t23q7), (4, iS (ix xh.Roots t23q7)), (21, .sl xh.Roots.length (fl xh.Roots)), (22, iS ((xh.Roots.length : Nat) : Int)), (23, iS t23q7)] [(0, .row 25 (Enc.cells xh)), (1, .row 30 [iS 0, iS 0])] 2 (by kernel_rfl) ?_
        refine wk_id ?_
        refine seq_cut (A := Unit) (fun _ => ([(1, .ptr 0 0), (2, .ptr 1 0), (3, iS t23q7), (21, .sl xh.Roots.length (fl xh.Roots)), (22, iS ((xh.Roots.length : Nat) : Int)), (23, iS t23q7), (36, bS ((decide ((ix xh.Roots t23q7) < (-1))) || (decide (((xh.Objects.length : Nat) : Int) ≤ (ix xh.Roots t23q7)))))], [(0, .row 25 (Enc.cells xh)), (1, .row 30 [iS 0, iS 0])], 2)) (fun _ => True) (fun K171 hK171 => ?_) (fun _ _ => ?_)
        · refine reg_f ?_
          refine rs 3 [] [] (by kernel_rfl) allP_nil ?_
          refine run_split 30 (decide ((ix xh.Roots t23q7) < (-1))) (.inl (by kernel_rfl)) (fun g172 => ?_) (fun g172 => ?_)
          · refine rs 6 [] [] (by kernel_rfl) allP_nil ?_
            refine rf [(1, .ptr 0 0), (2, .ptr 1 0), (3, iS t23q7), (21, .sl xh.Roots.length (fl xh.Roots)), (22, iS ((xh.Roots.length : Nat) : Int)), (23, iS t23q7), (36, bS true)] [(0, .row 25 (Enc.cells xh)), (1, .row 30 [iS 0, iS 0])] 2 (by kernel_rfl) ?_
            exact hK171 () _ _ _ trivial (leSt_m [(0, 0), (1, 1)] [] (by (try simp only [g172]) <;> simp only [push_cast, seval]) (by (try simp only [g172]) <;> simp only [push_cast, seval]) rfl rfl rfl)
          · refine rs 6 [] [] (by kernel_rfl) allP_nil ?_
            refine rf [(1, .ptr 0 0), (2, .ptr 1 0), (3, iS t23q7), (21, .sl xh.Roots.length (fl xh.Roots)), (22, iS ((xh.Roots.length : Nat) : Int)), (23, iS t23q7), (36, bS (decide (((xh.Objects.length : Nat) : Int) ≤ (ix xh.Roots t23q7))))] [(0, .row 25 (Enc.cells xh)), (1, .row 30 [iS 0, iS 0])] 2 (by kernel_rfl) ?_
            exact hK171 () _ _ _ trivial (leSt_m [(0, 0), (1, 1)] [] (by (try simp only [g172]) <;> simp only [push_cast, seval]) (by (try simp only [g172]) <;> simp only [push_cast, seval]) rfl rfl rfl)
        · dsimp only
          refine cond_sx h (by kernel_rfl) (fun g175 h => ?_) (fun g175 h => ?_)
          · refine seq_np ?_
            refine reg_f ?_
            refine rs 1 [] [] (by kernel_rfl) allP_nil ?_
            obtain ⟨r174, hr174, h⟩ := bind_sx h
            refine run_call 24 [iS 3, iS t23q7] (some 38) (by kernel_rfl) ?_
            refine call_0 (sweep_fault_spec 3 t23q7 r174 hr174) (by simp only [push_cast, seval]) (by simp only [push_cast, seval]) ?_
            refine back_f ?_
            refine rs 1 [] [] (by kernel_rfl) allP_nil ?_
            refine rf [(2, .ptr 1 0)] [(0, .row 25 (Enc.cells xh)), (1, .row 30 (Enc.cells r174))] 2 (by kernel_rfl) ?_
            refine wk_id ?_
            refine rt_cast ht4 ?_
            obtain ⟨r0, h, e0⟩ := map_sx h
            have e1 := hr4 r0 e0.symm
            subst r0
            obtain rfl := Option.some.inj h
            refine ret_at (.agg (Enc.cells r174)) (by kernel_rfl) ?_
            exact ret_e [] [] (by simp only [push_cast, seval]) (by simp only [push_cast, seval]) rfl rfl rfl
          · refine wk_id ?_
            refine wk_id ?_
            refine reg_f ?_
            refine rs 2 [] [] (by kernel_rfl) allP_nil ?_
            refine rf [(1, .ptr 0 0), (2, .ptr 1 0), (21, .sl xh.Roots.length (fl xh.Roots)), (22, iS ((xh.Roots.length : Nat) : Int)), (23, iS (IntKind.i64.wrap (t23q7 + 1)))] [(0, .row 25 (Enc.cells xh)), (1, .row 30 [iS 0, iS 0])] 2 (by kernel_rfl) ?_
            exact hn4 ((IntKind.i64.wrap (t23q7 + 1))) _ _ _ (Option.some.inj h).symm (leSt_m [(0, 0), (1, 1)] [] (by simp only [push_cast, seval]) (by simp only [push_cast, seval]) rfl rfl rfl)
      · change R4 (.exit 0) _ _ _
        refine ex_cast hx4 (id := 0) ?_
        obtain ⟨r0, h, e0⟩ := map_sx h
        have e1 := hr4 r0 e0.symm
        subst r0
        refine wk_id ?_
        refine wk_id ?_
        refine seq_np ?_
        refine seq_np ?_
        refine reg_f ?_
        refine rs 4 [] [] (by kernel_rfl) allP_nil ?_
        refine rf [(1, .ptr 0 0), (2, .ptr 1 0), (41, .sl xh.Objects.length (fl xh.Objects)), (42, iS ((xh.Objects.length : Nat) : Int)), (43, iS 0)] [(0, .row 25 (Enc.cells xh)), (1, .row 30 [iS 0, iS 0])] 2 (by kernel_rfl) ?_
        refine wk_id ?_
        refine block_np ?_
        refine loop_sx (S := Int) (fun a => ([(1, .ptr 0 0), (2, .ptr 1 0), (41, .sl xh.Objects.length (fl xh.Objects)), (42, iS ((xh.Objects.length : Nat) : Int)), (43, iS a)], [(0, .row 25 (Enc.cells xh)), (1, .row 30 [iS 0, iS 0])], 2)) h (leSt_m [(0, 0), (1, 1)] [] (by simp only [push_cast, seval]) (by simp only [push_cast, seval]) rfl rfl rfl) ?_
        rintro t43q7 o5 R5 h hr5 hn5 hx5 ht5
        try dsimp only at h hn5 ⊢
        unfold sweep_Check_l2 at h
        try dsimp only at h
        refine seq_np ?_
        refine reg_f ?_
        refine rs 1 [] [] (by kernel_rfl) allP_nil ?_
        refine rf [(1, .ptr 0 0), (2, .ptr 1 0), (41, .sl xh.Objects.length (fl xh.Objects)), (42, iS ((xh.Objects.length : Nat) : Int)), (43, iS t43q7), (44, bS (decide (t43q7 < ((xh.Objects.length : Nat) : Int))))] [(0, .row 25 (Enc.cells xh)), (1, .row 30 [iS 0, iS 0])] 2 (by kernel_rfl) ?_
        refine wk_id ?_
        refine seq_np ?_
        refine cond_sx h (by kernel_rfl) (fun g481 h => ?_) (fun g481 h => ?_)
        · refine wk_id ?_
          refine seq_np ?_
          refine block_np ?_
          refine chk_sx h (fun g421 h => ?_)
          refine seq_np ?_
          refine reg_f ?_
          have k420 : 0 ≤ t43q7 ∧ t43q7 < ((xh.Objects.length : Nat) : Int) := by first | simpa only [Bool.and_eq_true, decide_eq_true_eq, bne_iff_ne, ne_eq] using g421 | (simp at g421 ⊢; omega)
          refine rs 5 [none, some ⟨.iptr (fl xh.Objects) ((t43q7).toNat * 1), [], 2, []⟩, some ⟨.sl (ix xh.Objects t43q7).length (fl (ix xh.Objects t43q7)), [], 2, []⟩] _ (by kernel_rfl) (allP_cons (ob_ld xh.Objects t43q7 1 0 ((t43q7).toNat * 1) k420 rfl (by decide) (by first | rfl | omega) (dflS Try.prog 23) (.sl (ix xh.Objects t43q7).length (fl (ix xh.Objects t43q7))) rfl 2 []) (allP_cons (ob_ix_l xh.Objects 1 2 t43q7 k420) allP_nil)) ?_
          refine rf [(1, .ptr 0 0), (2, .ptr 1 0), (5, iS t43q7), (6, .sl (ix xh.Objects t43q7).length (fl (ix xh.Objects t43q7))), (41, .sl xh.Objects.length (fl xh.Objects)), (42, iS ((xh.Objects.length : Nat) : Int)), (43, iS t43q7)] [(0, .row 25 (Enc.cells xh)), (1, .row 30 [iS 0, iS 0])] 2 (by kernel_rfl) ?_
          refine wk_id ?_
          refine seq_np ?_
          refine seq_np ?_
          refine reg_f ?_
          refine rs 3 [] [] (by kernel_rfl) allP_nil ?_
          refine rf [(1, .ptr 0 0), (2, .ptr 1 0), (5, iS t43q7), (6, .sl (ix xh.Objects t43q7).length (fl (ix xh.Objects t43q7))), (41, .sl xh.Objects.length (fl xh.Objects)), (42, iS ((xh.Objects.length : Nat) : Int)), (43, iS t43q7), (50, bS (decide ((20 : Int) < (((ix xh.Objects t43q7).length : Nat) : Int))))] [(0, .row 25 (Enc.cells xh)), (1, .row 30 [iS 0, iS 0])] 2 (by kernel_rfl) ?_
          refine wk_id ?_
          refine cond_sx h (by kernel_rfl) (fun g480 h => ?_) (fun g480 h => ?_)
          · refine seq_np ?_
            refine reg_f ?_
            refine rs 1 [] [] (by kernel_rfl) allP_nil ?_
            obtain ⟨r425, hr425, h⟩ := bind_sx h
            refine run_call 24 [iS 8, iS t43q7] (some 52) (by kernel_rfl) ?_
            refine call_0 (sweep_fault_spec 8 t43q7 r425 hr425) (by simp only [push_cast, seval]) (by simp only [push_cast, seval]) ?_
            refine back_f ?_
            refine rs 1 [] [] (by kernel_rfl) allP_nil ?_
            refine rf [(2, .ptr 1 0)] [(0, .row 25 (Enc.cells xh)), (1, .row 30 (Enc.cells r425))] 2 (by kernel_rfl) ?_
            refine wk_id ?_
            refine rt_cast ht5 ?_
            obtain ⟨r0, h, e0⟩ := map_sx h
            have e1 := hr5 r0 e0.symm
            subst r0
            obtain rfl := Option.some.inj h
            refine ret_at (.agg (Enc.cells r425)) (by kernel_rfl) ?_
            exact ret_e [] [] (by simp only [push_cast, seval]) (by simp only [push_cast, seval]) rfl rfl rfl
          · refine wk_id ?_
            refine seq_np ?_
            refine reg_f ?_
            refine rs 3 [] [] (by kernel_rfl) allP_nil ?_
            refine rf [(1, .ptr 0 0), (2, .ptr 1 0), (5, iS t43q7), (41, .sl xh.Objects.length (fl xh.Objects)), (42, iS ((xh.Objects.length : Nat) : Int)), (43, iS t43q7), (53, .sl (ix xh.Objects t43q7).length (fl (ix xh.Objects t43q7))), (54, iS (((ix xh.Objects t43q7).length : Nat) : Int)), (55, iS 0)] [(0, .row 25 (Enc.cells xh)), (1, .row 30 [iS 0, iS 0])] 2 (by kernel_rfl) ?_
            refine wk_id ?_
            refine block_np ?_
            refine loop_sx (S := Int) (fun a => ([(1, .ptr 0 0), (2, .ptr 1 0), (5, iS t43q7), (41, .sl xh.Objects.length (fl xh.Objects)), (42, iS ((xh.Objects.length : Nat) : Int)), (43, iS t43q7), (53, .sl (ix xh.Objects t43q7).length (fl (ix xh.Objects t43q7))), (54, iS (((ix xh.Objects t43q7).length : Nat) : Int)), (55, iS a)], [(0, .row 25 (Enc.cells xh)), (1, .row 30 [iS 0, iS 0])], 2)) h (leSt_m [(0, 0), (1, 1)] [] (by simp only [push_cast, seval]) (by simp only [push_cast, seval]) rfl rfl rfl) ?_
            rintro t55q29 o6 R6 h hr6 hn6 hx6 ht6
            try dsimp only at h hn6 ⊢
            unfold sweep_Check_l1 at h
            try dsimp only at h
            refine seq_np ?_
            refine reg_f ?_
            refine rs 1 [] [] (by kernel_rfl) allP_nil ?_
            refine rf [(1, .ptr 0 0), (2, .ptr 1 0), (5, iS t43q7), (41, .sl xh.Objects.length (fl xh.Objects)), (42, iS ((xh.Objects.length : Nat) : Int)), (43, iS t43q7), (53, .sl (ix xh.Objects t43q7).length (fl (ix xh.Objects t43q7))), (54, iS (((ix xh.Objects t43q7).length : Nat) : Int)), (55, iS t55q29), (56, bS (decide (t55q29 < (((ix xh.Objects t43q7).length : Nat) : Int))))] [(0, .row 25 (Enc.cells xh)), (1, .row 30 [iS 0, iS 0])] 2 (by kernel_rfl) ?_
            refine wk_id ?_
            refine seq_np ?_
            refine cond_sx h (by kernel_rfl) (fun g479 h => ?_) (fun g479 h => ?_)
            · refine wk_id ?_
              refine seq_np ?_
              refine block_np ?_
              refine chk_sx h (fun g472 h => ?_)
              refine seq_np ?_
              refine reg_f ?_
              have k471 : 0 ≤ t55q29 ∧ t55q29 < (((ix xh.Objects t43q7).length : Nat) : Int) := by first | simpa only [Bool.and_eq_true, decide_eq_true_eq, bne_iff_ne, ne_eq] using g472 | (simp at g472 ⊢; omega)
              refine rs 3 [some ⟨.iptr (fl (ix xh.Objects t43q7)) ((t55q29).toNat * 1), [], 2, []⟩, some ⟨iS (ix (ix xh.Objects t43q7) t55q29), [], 2, []⟩] _ (by kernel_rfl) (allP_cons (ob_ld (ix xh.Objects t43q7) t55q29 1 0 ((t55q29).toNat * 1) k471 rfl (by decide) (by first | rfl | omega) (dflS Try.prog 3) (iS (ix (ix xh.Objects t43q7) t55q29)) rfl 2 []) (allP_cons (ob_ix_l (ix xh.Objects t43q7) 1 2 t55q29 k471) allP_nil)) ?_
              refine rf [(1, .ptr 0 0), (2, .ptr 1 0), (5, iS t43q7), (8, iS (ix (ix xh.Objects t43q7) t55q29)), (41, .sl xh.Objects.length (fl xh.Objects)), (42, iS ((xh.Objects.length : Nat) : Int)), (43, iS t43q7), (53, .sl (ix xh.Objects t43q7).length (fl (ix xh.Objects t43q7))), (54, iS (((ix xh.Objects t43q7).length : Nat) : Int)), (55, iS t55q29)] [(0, .row 25 (Enc.cells xh)), (1, .row 30 [iS 0, iS 0])] 2 (by kernel_rfl) ?_
              refine wk_id ?_
              refine seq_cut (A := Unit) (fun _ => ([(1, .ptr 0 0), (2, .ptr 1 0), (5, iS t43q7), (41, .sl xh.Objects.length (fl xh.Objects)), (42, iS ((xh.Objects.length : Nat) : Int)), (43, iS t43q7), (53, .sl (ix xh.Objects t43q7).length (fl (ix xh.Objects t43q7))), (54, iS (((ix xh.Objects t43q7).length : Nat) : Int)), (55, iS t55q29), (67, bS ((decide ((ix (ix xh.Objects t43q7) t55q29) < (-1))) || (decide (((xh.Objects.length : Nat) : Int) ≤ (ix (ix xh.Objects t43q7) t55q29)))))], [(0, .row 25 (Enc.cells xh)), (1, .row 30 [iS 0, iS 0])], 2)) (fun _ => True) (fun K474 hK474 => ?_) (fun _ _ => ?_)
              · refine reg_f ?_
                refine rs 3 [] [] (by kernel_rfl) allP_nil ?_
                refine run_split 61 (decide ((ix (ix xh.Objects t43q7) t55q29) < (-1))) (.inl (by kernel_rfl)) (fun g475 => ?_) (fun g475 => ?_)
                · refine rs 6 [] [] (by kernel_rfl) allP_nil ?_
                  refine rf [(1, .ptr 0 0), (2, .ptr 1 0), (5, iS t43q7), (41, .sl xh.Objects.length (fl xh.Objects)), (42, iS ((xh.Objects.length : Nat) : Int)), (43, iS t43q7), (53, .sl (ix xh.Objects t43q7).length (fl (ix xh.Objects t43q7))), (54, iS (((ix xh.Objects t43q7).length : Nat) : Int)), (55, iS t55q29), (67, bS true)] [(0, .row 25 (Enc.cells xh)), (1, .row 30 [iS 0, iS 0])] 2 (by kernel_rfl) ?_
                  exact hK474 () _ _ _ trivial (leSt_m [(0, 0), (1, 1)] [] (by (try simp only [g475]) <;> simp only [push_cast, seval]) (by (try simp only [g475]) <;> simp only [push_cast, seval]) rfl rfl rfl)
                · refine rs 6 [] [] (by kernel_rfl) allP_nil ?_
                  refine rf [(1, .ptr 0 0), (2, .ptr 1 0), (5, iS t43q7), (41, .sl xh.Objects.length (fl xh.Objects)), (42, iS ((xh.Objects.length : Nat) : Int)), (43, iS t43q7), (53, .sl (ix xh.Objects t43q7).length (fl (ix xh.Objects t43q7))), (54, iS (((ix xh.Objects t43q7).length : Nat) : Int)), (55, iS t55q29), (67, bS (decide (((xh.Objects.length : Nat) : Int) ≤ (ix (ix xh.Objects t43q7) t55q29))))] [(0, .row 25 (Enc.cells xh)), (1, .row 30 [iS 0, iS 0])] 2 (by kernel_rfl) ?_
                  exact hK474 () _ _ _ trivial (leSt_m [(0, 0), (1, 1)] [] (by (try simp only [g475]) <;> simp only [push_cast, seval]) (by (try simp only [g475]) <;> simp only [push_cast, seval]) rfl rfl rfl)
              · dsimp only
                refine cond_sx h (by kernel_rfl) (fun g478 h => ?_) (fun g478 h => ?_)
                · refine seq_np ?_
                  refine reg_f ?_
                  refine rs 1 [] [] (by kernel_rfl) allP_nil ?_
                  obtain ⟨r477, hr477, h⟩ := bind_sx h
                  refine run_call 24 [iS 5, iS t43q7] (some 69) (by kernel_rfl) ?_
                  refine call_0 (sweep_fault_spec 5 t43q7 r477 hr477) (by simp only [push_cast, seval]) (by simp only [push_cast, seval]) ?_
                  refine back_f ?_
                  refine rs 1 [] [] (by kernel_rfl) allP_nil ?_
                  refine rf [(2, .ptr 1 0)] [(0, .row 25 (Enc.cells xh)), (1, .row 30 (Enc.cells r477))] 2 (by kernel_rfl) ?_
                  refine wk_id ?_
                  refine rt_cast ht6 ?_
                  obtain ⟨r0, h, e0⟩ := map_sx h
                  have e1 := hr6 r0 e0.symm
                  subst r0
                  refine rt_cast ht5 ?_
                  obtain ⟨r0, h, e0⟩ := map_sx h
                  have e1 := hr5 r0 e0.symm
                  subst r0
                  obtain rfl := Option.some.inj h
                  refine ret_at (.agg (Enc.cells r477)) (by kernel_rfl) ?_
                  exact ret_e [] [] (by simp only [push_cast, seval]) (by simp only [push_cast, seval]) rfl rfl rfl
                · refine wk_id ?_
                  refine wk_id ?_
                  refine reg_f ?_
                  refine rs 2 [] [] (by kernel_rfl) allP_nil ?_
                  refine rf [(1, .ptr 0 0), (2, .ptr 1 0), (5, iS t43q7), (41, .sl xh.Objects.length (fl xh.Objects)), (42, iS ((xh.Objects.length : Nat) : Int)), (43, iS t43q7), (53, .sl (ix xh.Objects t43q7).length (fl (ix xh.Objects t43q7))), (54, iS (((ix xh.Objects t43q7).length : Nat) : Int)), (55, iS (IntKind.i64.wrap (t55q29 + 1)))] [(0, .row 25 (Enc.cells xh)), (1, .row 30 [iS 0, iS 0])] 2 (by kernel_rfl) ?_
                  exact hn6 ((IntKind.i64.wrap (t55q29 + 1))) _ _ _ (Option.some.inj h).symm (leSt_m [(0, 0), (1, 1)] [] (by simp only [push_cast, seval]) (by simp only [push_cast, seval]) rfl rfl rfl)
            · change R6 (.exit 4) _ _ _
              refine ex_cast hx6 (id := 4) ?_
              obtain ⟨r0, h, e0⟩ := map_sx h
              have e1 := hr6 r0 e0.symm
              subst r0
              refine wk_id ?_
              refine wk_id ?_
              refine wk_id ?_
              refine reg_f ?_
              refine rs 2 [] [] (by kernel_rfl) allP_nil ?_
              refine rf [(1, .ptr 0 0), (2, .ptr 1 0), (41, .sl xh.Objects.length (fl xh.Objects)), (42, iS ((xh.Objects.length : Nat) : Int)), (43, iS (IntKind.i64.wrap (t43q7 + 1)))] [(0, .row 25 (Enc.cells xh)), (1, .row 30 [iS 0, iS 0])] 2 (by kernel_rfl) ?_
              exact hn5 ((IntKind.i64.wrap (t43q7 + 1))) _ _ _ (Option.some.inj h).symm (leSt_m [(0, 0), (1, 1)] [] (by simp only [push_cast, seval]) (by simp only [push_cast, seval]) rfl rfl rfl)
        · change R5 (.exit 2) _ _ _
          refine ex_cast hx5 (id := 2) ?_
          obtain ⟨r0, h, e0⟩ := map_sx h
          have e1 := hr5 r0 e0.symm
          subst r0
          refine wk_id ?_
          refine wk_id ?_
          refine seq_np ?_
          refine reg_f ?_
          refine rs 2 [] [] (by kernel_rfl) allP_nil ?_
          refine rf [(2, .ptr 1 0)] [(0, .row 25 (Enc.cells xh)), (1, .row 30 [iS 0, iS 0])] 2 (by kernel_rfl) ?_
          refine wk_id ?_
          obtain rfl := Option.some.inj h
          refine ret_at (.agg [iS 0, iS 0]) (by kernel_rfl) ?_
          exact ret_e [] [] (by simp only [push_cast, seval]) (by simp only [push_cast, seval]) rfl rfl rfl

set_option maxRecDepth 100000 in
set_option maxHeartbeats 200000000 in
theorem slices_Clone_int_spec (s : (List Int)) (r : (List Int)) (h : slices_Clone_int s = some r) : SpecW Try.prog 34 [.sl s.length (fl s)] [] 0 (fun x h n => x = .own 0 0 r.length ∧ h = [(0, .row 3 (fl r))] ∧ n = 1) := by
  unfold slices_Clone_int at h
  refine spec_of (draw_ok _) Try.func34 rfl (by decide) rfl (by kernel_rfl) ?_
  refine seq_np ?_
  refine reg_f ?_
  refine rs 1 [] [] (by kernel_rfl) allP_nil ?_
  refine rf [(0, .sl s.length (fl s))] [] 0 (by kernel_rfl) ?_
  refine wk_id ?_
  refine seq_np ?_
  refine seq_np ?_
  refine reg_f ?_
  refine rs 1 [] [] (by kernel_rfl) allP_nil ?_
  refine run_nil s.length (some 4) (by kernel_rfl) (fun g492 => ?_) ?_
  · obtain rfl : s = [] := List.eq_nil_of_length_eq_zero g492
    replace h : (some ([])) = some r := by simpa using h
    refine rf [(0, .sl ([] : List Int).length (fl ([] : List Int))), (4, bS true)] [] 0 (by kernel_rfl) ?_
    refine wk_id ?_
    refine cond_t (by kernel_rfl) ?_
    refine seq_np ?_
    refine reg_f ?_
    refine rs 1 [] [] (by kernel_rfl) allP_nil ?_
    refine rf [(2, .v (.slice none 0 0))] [] 0 (by kernel_rfl) ?_
    refine wk_id ?_
    obtain rfl := Option.some.inj h
    refine ret_at (.v (.slice none 0 0)) (by kernel_rfl) ?_
    exact ret_e [] [] (by simp only [push_cast, seval]) (by simp only [push_cast, seval]) rfl rfl rfl
  · refine rf [(0, .sl s.length (fl s)), (4, bS false)] [] 0 (by kernel_rfl) ?_
    refine wk_id ?_
    refine cond_f (by kernel_rfl) ?_
    refine wk_id ?_
    refine chk_sx h (fun g491 h => ?_)
    refine seq_np ?_
    refine reg_f ?_
    refine run_mk0 Int (some 5) 3 (by kernel_rfl) ?_
    have k490 : (([] : List Int) ++ s).length * 8 ≤ 140737488355328 := by first | simpa only [Bool.and_eq_true, decide_eq_true_eq, bne_iff_ne, ne_eq] using g491 | (simp at g491 ⊢; omega)
    refine rs 3 [none, some ⟨.own 1 0 (([] : List Int) ++ s).length, [(1, .row 3 (fl (([] : List Int) ++ s))), (0, .dead)], 2, [0]⟩] _ (by kernel_rfl) (allP_cons (ob_app (P := Try.prog) ([] : List Int) s 1 8 rfl (fl s) s.length rfl rfl ((fl s).length = s.length * 1) (app_sl s 1 rfl) 3 (by kernel_rfl) (by decide) k490 0 1 []) allP_nil) ?_
    refine rf [(2, .own 1 0 (([] : List Int) ++ s).length)] [(0, .dead), (1, .row 3 (fl (([] : List Int) ++ s)))] 2 (by kernel_rfl) ?_
    refine wk_id ?_
    obtain rfl := Option.some.inj h
    refine ret_at (.own 1 0 (([] : List Int) ++ s).length) (by kernel_rfl) ?_
    exact ret_e [(0, 1)] [] (by simp only [push_cast, seval]) (by simp only [push_cast, seval]) rfl rfl rfl

set_option maxRecDepth 100000 in
set_option maxHeartbeats 200000000 in
theorem sweep_newCycle_spec (xh : GHeap) (r : (List (List Int)) × (List Int) × (List Int)) (h : sweep_newCycle xh = some r) : SpecW Try.prog 25 [.agg (Enc.cells xh)] [] 0 (fun x h n => x = .ptr 0 0 ∧ h = [(0, .row 54 [.own 1 0 r.1.length, .own 2 0 r.2.1.length, .own 3 0 r.2.2.length, .v (.slice none 0 0)]), (1, .row 23 (flD dLListInt [4] r.1)), (2, .row 3 (fl r.2.1)), (3, .row 3 (fl r.2.2)), ((.s 4 0), .fam (famD dLListInt 0 r.1))] ∧ n = 5) := by
  unfold sweep_newCycle at h
  refine spec_of (draw_ok _) Try.func25 rfl (by decide) rfl (by kernel_rfl) ?_
  refine seq_np ?_
  refine reg_f ?_
  refine rs 2 [] [] (by kernel_rfl) allP_nil ?_
  refine rf [(1, .ptr 0 0)] [(0, .row 25 (Enc.cells xh))] 1 (by kernel_rfl) ?_
  refine wk_id ?_
  refine seq_np ?_
  refine reg_t ?_
  refine rs 2 [] [] (by kernel_rfl) allP_nil ?_
  obtain ⟨r518, hr518, h⟩ := bind_sx h
  refine call_x (slices_Clone_int_spec xh.Roots r518 hr518) (args := [.sl xh.Roots.length (fl xh.Roots)]) (dst := (some 8)) (by kernel_rfl) [(0, .row 25 (Enc.cells xh))] 3 (by kernel_rfl) [] [] (.own 3 0 r518.length) [(3, .row 3 (fl r518))] (by simp only [push_cast, leL_flD, renL_flD, seval]) (by simp only [push_cast, leL_flD, renL_flD, seval]) (by kernel_rfl) (.inl rfl) (by simp only [push_cast, leL_flD, renL_flD, seval]) (by simp only [push_cast, leL_flD, renL_flD, seval]) ?_
  refine chk_sx h (fun g520 h => ?_)
  have k519 : 0 ≤ ((xh.Objects.length : Nat) : Int) ∧ ((xh.Objects.length : Nat) : Int) ≤ 4611686018427387904 ∧ (8 : Int) * ((xh.Objects.length : Nat) : Int) ≤ 140737488355328 := by first | simpa only [Bool.and_eq_true, decide_eq_true_eq, bne_iff_ne, ne_eq] using g520 | (simp at g520 ⊢; omega)
  refine rs 8 [none, none, none, none, some ⟨.own 9 0 (List.replicate (((xh.Objects.length : Nat) : Int)).toNat (default : Int)).length, [(9, .row 3 (fl (List.replicate (((xh.Objects.length : Nat) : Int)).toNat (default : Int))))], 10, []⟩] _ (by kernel_rfl) (allP_cons (ob_mk (P := Try.prog) (α := Int) ((xh.Objects.length : Nat) : Int) 3 8 (by kernel_rfl) [iS 0] rfl 1 rfl (by decide) k519 9) allP_nil) ?_
  refine rt [(1, .ptr 0 0), (3, .ptr 12 0)] [(0, .row 25 (Enc.cells xh)), (3, .row 3 (fl r518)), (9, .row 3 (fl (List.replicate (((xh.Objects.length : Nat) : Int)).toNat (default : Int)))), (12, .row 54 [.v (.slice none 0 0), .own 3 0 r518.length, .own 9 0 (List.replicate (((xh.Objects.length : Nat) : Int)).toNat (default : Int)).length, .v (.slice none 0 0)])] 15 follows (by kernel_rfl) ?_
  refine wk_id ?_
  refine seq_np ?_
  refine seq_np ?_
  refine reg_f ?_
  refine rs 4 [] [] (by kernel_rfl) allP_nil ?_
  refine rf [(3, .ptr 12 0), (17, .sl xh.Objects.length (fl xh.Objects)), (18, iS ((xh.Objects.length : Nat) : Int)), (19, iS 0)] [(0, .row 25 (Enc.cells xh)), (3, .row 3 (fl r518)), (9, .row 3 (fl (List.replicate (((xh.Objects.length : Nat) : Int)).toNat (default : Int)))), (12, .row 54 [.v (.slice none 0 0), .own 3 0 r518.length, .own 9 0 (List.replicate (((xh.Objects.length : Nat) : Int)).toNat (default : Int)).length, .v (.slice none 0 0)])] 15 (by kernel_rfl) ?_
  refine wk_id ?_
  refine block_np ?_
  refine loop_sx (S := Int × (List (List Int)) × (List Int)) (fun a => ([(3, .ptr 0 0), (17, .sl xh.Objects.length (fl xh.Objects)), (18, iS ((xh.Objects.length : Nat) : Int)), (19, iS a.1)], [(0, .row 54 [.own 1 0 a.2.1.length, .own 2 0 a.2.2.length, .own 3 0 (List.replicate (((xh.Objects.length : Nat) : Int)).toNat (default : Int)).length, .v (.slice none 0 0)]), (1, .row 23 (flD dLListInt [4] a.2.1)), (2, .row 3 (fl a.2.2)), (3, .row 3 (fl (List.replicate (((xh.Objects.length : Nat) : Int)).toNat (default : Int)))), ((.s 4 0), .fam (famD dLListInt 0 a.2.1))], 5)) h (leSt_m [(0, 12), (2, 3), (3, 9)] [] (by simp only [push_cast, leL_flD, renL_flD, seval]) (by simp only [push_cast, leL_flD, renL_flD, seval]) rfl rfl rfl) ?_
  rintro ⟨t19q7, c1q12, c2q8⟩ o2 R2 h hr2 hn2 hx2 ht2
  try dsimp only at h hn2 ⊢
  unfold sweep_newCycle_l1 at h
  try dsimp only at h
  refine seq_np ?_
  refine reg_f ?_
  refine rs 1 [] [] (by kernel_rfl) allP_nil ?_
  refine rf [(3, .ptr 0 0), (17, .sl xh.Objects.length (fl xh.Objects)), (18, iS ((xh.Objects.length : Nat) : Int)), (19, iS t19q7), (20, bS (decide (t19q7 < ((xh.Objects.length : Nat) : Int))))] [(0, .row 54 [.own 1 0 c1q12.length, .own 2 0 c2q8.length, .own 3 0 (List.replicate (((xh.Objects.length : Nat) : Int)).toNat (default : Int)).length, .v (.slice none 0 0)]), (1, .row 23 (flD dLListInt [4] c1q12)), (2, .row 3 (fl c2q8)), (3, .row 3 (fl (List.replicate (((xh.Objects.length : Nat) : Int)).toNat (default : Int)))), ((.s 4 0), .fam (famD dLListInt 0 c1q12))] 5 (by kernel_rfl) ?_
  refine wk_id ?_
  refine seq_np ?_
  refine cond_sx h (by kernel_rfl) (fun g593 h => ?_) (fun g593 h => ?_)
  · refine wk_id ?_
    refine seq_np ?_
    refine block_np ?_
    refine chk_sx h (fun g586 h => ?_)
    refine seq_np ?_
    refine reg_f ?_
    have k585 : 0 ≤ t19q7 ∧ t19q7 < ((xh.Objects.length : Nat) : Int) := by first | simpa only [Bool.and_eq_true, decide_eq_true_eq, bne_iff_ne, ne_eq] using g586 | (simp at g586 ⊢; omega)
    refine rs 3 [some ⟨.iptr (fl xh.Objects) ((t19q7).toNat * 1), [], 5, []⟩, some ⟨.sl (ix xh.Objects t19q7).length (fl (ix xh.Objects t19q7)), [], 5, []⟩] _ (by kernel_rfl) (allP_cons (ob_ld xh.Objects t19q7 1 0 ((t19q7).toNat * 1) k585 rfl (by decide) (by first | rfl | omega) (dflS Try.prog 23) (.sl (ix xh.Objects t19q7).length (fl (ix xh.Objects t19q7))) rfl 5 []) (allP_cons (ob_ix_l xh.Objects 1 5 t19q7 k585) allP_nil)) ?_
    refine rf [(3, .ptr 0 0), (5, .sl (ix xh.Objects t19q7).length (fl (ix xh.Objects t19q7))), (17, .sl xh.Objects.length (fl xh.Objects)), (18, iS ((xh.Objects.length : Nat) : Int)), (19, iS t19q7)] [(0, .row 54 [.own 1 0 c1q12.length, .own 2 0 c2q8.length, .own 3 0 (List.replicate (((xh.Objects.length : Nat) : Int)).toNat (default : Int)).length, .v (.slice none 0 0)]), (1, .row 23 (flD dLListInt [4] c1q12)), (2, .row 3 (fl c2q8)), (3, .row 3 (fl (List.replicate (((xh.Objects.length : Nat) : Int)).toNat (default : Int)))), ((.s 4 0), .fam (famD dLListInt 0 c1q12))] 5 (by kernel_rfl) ?_
    refine wk_id ?_
    refine reg_t ?_
    refine rs 7 [] [] (by kernel_rfl) allP_nil ?_
    obtain ⟨r590, hr590, h⟩ := bind_sx h
    refine call_x (slices_Clone_int_spec (ix xh.Objects t19q7) r590 hr590) (args := [.sl (ix xh.Objects t19q7).length (fl (ix xh.Objects t19q7))]) (dst := (some 30)) (by kernel_rfl) [(0, .row 54 [.own 1 0 c1q12.length, .own 2 0 c2q8.length, .own 3 0 (List.replicate (((xh.Objects.length : Nat) : Int)).toNat (default : Int)).length, .v (.slice none 0 0)]), (1, .row 23 (flD dLListInt [4] c1q12)), (2, .row 3 (fl c2q8)), (3, .row 3 (fl (List.replicate (((xh.Objects.length : Nat) : Int)).toNat (default : Int)))), ((.s 4 0), .fam (famD dLListInt 0 c1q12))] 12 (by kernel_rfl) [] [] (.own 12 0 r590.length) [(12, .row 3 (fl r590))] (by simp only [push_cast, leL_flD, renL_flD, seval]) (by simp only [push_cast, leL_flD, renL_flD, seval]) (by kernel_rfl) (.inl rfl) (by simp only [push_cast, leL_flD, renL_flD, seval]) (by simp only [push_cast, leL_flD, renL_flD, seval]) ?_
    refine chk_sx h (fun g592 h => ?_)
    have k591 : (c1q12 ++ [(r590 : (List Int))]).length * 24 ≤ 140737488355328 := by first | simpa only [Bool.and_eq_true, decide_eq_true_eq, bne_iff_ne, ne_eq] using g592 | (simp at g592 ⊢; omega)
    refine rs 1 [] [] (by kernel_rfl) allP_nil ?_
    refine run_opG (some 32) _ ⟨.own 16 0 (c1q12 ++ [(r590 : (List Int))]).length, [(16, .row 23 (flN dLListInt (nA [(some 4)] [(some (Nm.t 12))] ((c1q12.length : Nat) : Int)) 0 (c1q12 ++ [(r590 : (List Int))]))), (1, .dead)], 17, [1, 14]⟩ [((.s 17 0), .fam (famD dLListInt 0 (c1q12 ++ [(r590 : (List Int))]))), (16, .row 23 (flD dLListInt [17] (c1q12 ++ [(r590 : (List Int))]))), ((.s 4 0), .dead), (12, .dead)] 1 [16, (.s 4 0), 12] [(.s 4 0), 12] (by kernel_rfl) (ob_appN (P := Try.prog) dLListInt [4] [(some (Nm.t 12))] c1q12 (r590 : (List Int)) 1 24 rfl (appCells ([.own 12 0 r590.length] : List SV) 0 (1 * 1)) rfl rfl rfl (0 + 1 * 1 ≤ ([.own 12 0 r590.length] : List SV).length) (by first | exact (Nat.le_of_ble_eq_true rfl : 0 + 1 * 1 ≤ ([.own 12 0 r590.length] : List SV).length) | decide) 23 (by kernel_rfl) (by decide) k591 1 16 [14]) (ghost_A 17 dLListInt (c1q12 ++ [(r590 : (List Int))]) 16 23 [(some 4)] [(some (Nm.t 12))] ((c1q12.length : Nat) : Int) (flD dLListInt [17] (c1q12 ++ [(r590 : (List Int))])) 0 (some 4) (some 12) (by kernel_rfl) (flN_done dLListInt [17] ((c1q12.length : Nat) : Int) (c1q12 ++ [(r590 : (List Int))]) rfl) (by kernel_rfl) ⟨_, (by kernel_rfl), off_app _ _⟩ (S_app (fun a => getH _ (.t 12) = chD dLListInt 0 a) rfl)) (by kernel_rfl) ?_
    refine rs 4 [] [] (by kernel_rfl) allP_nil ?_
    refine rt [(3, .ptr 0 0), (17, .sl xh.Objects.length (fl xh.Objects)), (18, iS ((xh.Objects.length : Nat) : Int)), (19, iS t19q7)] [(0, .row 54 [.own 16 0 (c1q12 ++ [(r590 : (List Int))]).length, .own 2 0 c2q8.length, .own 3 0 (List.replicate (((xh.Objects.length : Nat) : Int)).toNat (default : Int)).length, .v (.slice none 0 0)]), (1, .dead), (2, .row 3 (fl c2q8)), (3, .row 3 (fl (List.replicate (((xh.Objects.length : Nat) : Int)).toNat (default : Int)))), ((.s 4 0), .dead), (12, .dead), (14, .row 23 [.own 12 0 r590.length]), (16, .row 23 (flD dLListInt [17] (c1q12 ++ [(r590 : (List Int))]))), ((.s 17 0), .fam (famD dLListInt 0 (c1q12 ++ [(r590 : (List Int))])))] 23 follows (by kernel_rfl) ?_
    refine wk_id ?_
    refine wk_id ?_
    refine reg_f ?_
    refine rs 2 [] [] (by kernel_rfl) allP_nil ?_
    refine rf [(3, .ptr 0 0), (17, .sl xh.Objects.length (fl xh.Objects)), (18, iS ((xh.Objects.length : Nat) : Int)), (19, iS (IntKind.i64.wrap (t19q7 + 1)))] [(0, .row 54 [.own 16 0 (c1q12 ++ [(r590 : (List Int))]).length, .own 2 0 c2q8.length, .own 3 0 (List.replicate (((xh.Objects.length : Nat) : Int)).toNat (default : Int)).length, .v (.slice none 0 0)]), (1, .dead), (2, .row 3 (fl c2q8)), (3, .row 3 (fl (List.replicate (((xh.Objects.length : Nat) : Int)).toNat (default : Int)))), ((.s 4 0), .dead), (12, .dead), (14, .row 23 [.own 12 0 r590.length]), (16, .row 23 (flD dLListInt [17] (c1q12 ++ [(r590 : (List Int))]))), ((.s 17 0), .fam (famD dLListInt 0 (c1q12 ++ [(r590 : (List Int))])))] 23 (by kernel_rfl) ?_
    exact hn2 ((IntKind.i64.wrap (t19q7 + 1)), (c1q12 ++ [(r590 : (List Int))]), c2q8) _ _ _ (Option.some.inj h).symm (leSt_m [(0, 0), (1, 16), (2, 2), (3, 3), ((.s 4 0), (.s 17 0))] [] (by simp only [push_cast, leL_flD, renL_flD, seval]) (by simp only [push_cast, leL_flD, renL_flD, seval]) rfl rfl rfl)
  · change R2 (.exit 0) _ _ _
    refine ex_cast hx2 (id := 0) ?_
    obtain ⟨r0, h, e0⟩ := map_sx h
    have e1 := hr2 r0 e0.symm
    subst r0
    refine wk_id ?_
    refine wk_id ?_
    refine seq_np ?_
    refine reg_f ?_
    refine rs 2 [] [] (by kernel_rfl) allP_nil ?_
    refine rf [(2, .ptr 0 0)] [(0, .row 54 [.own 1 0 c1q12.length, .own 2 0 c2q8.length, .own 3 0 (List.replicate (((xh.Objects.length : Nat) : Int)).toNat (default : Int)).length, .v (.slice none 0 0)]), (1, .row 23 (flD dLListInt [4] c1q12)), (2, .row 3 (fl c2q8)), (3, .row 3 (fl (List.replicate (((xh.Objects.length : Nat) : Int)).toNat (default : Int)))), ((.s 4 0), .fam (famD dLListInt 0 c1q12))] 5 (by kernel_rfl) ?_
    refine wk_id ?_
    obtain rfl := Option.some.inj h
    refine ret_at (.ptr 0 0) (by kernel_rfl) ?_
    exact ret_e [(0, 0), (1, 1), (2, 2), (3, 3), ((.s 4 0), (.s 4 0))] [] (by simp only [push_cast, leL_flD, renL_flD, seval]) (by simp only [push_cast, leL_flD, renL_flD, seval]) rfl rfl rfl

set_option maxRecDepth 100000 in
set_option maxHeartbeats 200000000 in
theorem sweep_cycle_shade_1_spec (c5 : (List Int)) (c3 : (List Int)) (c1 : (List (List Int))) (c4 : (List Int)) (r : (List Int) × (List (List Int)) × (List Int) × (List Int)) (h : sweep_cycle_shade_1 c5 c3 c1 c4 = some r) : SpecW Try.prog 26 [.ptr 0 0, .own 3 0 c3.length] [(0, .row 54 [.own 1 0 c1.length, .own 3 0 c3.length, .own 4 0 c4.length, .own 5 0 c5.length]), (1, .row 23 (flD dLListInt [2] c1)), ((.s 2 0), .fam (famD dLListInt 0 c1)), (3, .row 3 (fl c3)), (4, .row 3 (fl c4)), (5, .row 3 (fl c5))] 6 (fun x h n => x = .tup [] ∧ h = [(0, .row 54 [.own 1 0 r.2.1.length, .own 3 0 r.2.2.1.length, .own 4 0 r.2.2.2.length, .own 6 0 r.1.length]), (1, .row 23 (flD dLListInt [2] r.2.1)), ((.s 2 0), .fam (famD dLListInt 0 r.2.1)), (3, .row 3 (fl r.2.2.1)), (4, .row 3 (fl r.2.2.2)), (5, .dead), (6, .row 3 (fl r.1))] ∧ n = 7) := by
  unfold sweep_cycle_shade_1 at h
  refine spec_of (draw_ok _) Try.func26 rfl (by decide) rfl (by kernel_rfl) ?_
  refine seq_np ?_
  refine reg_f ?_
  refine rs 3 [] [] (by kernel_rfl) allP_nil ?_
  refine rf [(0, .ptr 0 0), (6, .own 3 0 c3.length), (7, iS ((c3.length : Nat) : Int)), (8, iS 0)] [(0, .row 54 [.own 1 0 c1.length, .own 3 0 c3.length, .own 4 0 c4.length, .own 5 0 c5.length]), (1, .row 23 (flD dLListInt [2] c1)), ((.s 2 0), .fam (famD dLListInt 0 c1)), (3, .row 3 (fl c3)), (4, .row 3 (fl c4)), (5, .row 3 (fl c5))] 6 (by kernel_rfl) ?_
  refine wk_id ?_
  refine block_np ?_
  refine loop_sx (S := Int × (List Int) × (List Int)) (fun a => ([(0, .ptr 0 0), (6, .own 3 0 c3.length), (7, iS ((c3.length : Nat) : Int)), (8, iS a.1)], [(0, .row 54 [.own 1 0 c1.length, .own 3 0 c3.length, .own 4 0 a.2.1.length, .own 6 0 a.2.2.length]), (1, .row 23 (flD dLListInt [2] c1)), ((.s 2 0), .fam (famD dLListInt 0 c1)), (3, .row 3 (fl c3)), (4, .row 3 (fl a.2.1)), (5, .dead), (6, .row 3 (fl a.2.2))], 7)) h (leSt_m [(0, 0), (1, 1), ((.s 2 0), (.s 2 0)), (3, 3), (4, 4), (6, 5)] [] (by simp only [push_cast, leL_flD, renL_flD, seval]) (by simp only [push_cast, leL_flD, renL_flD, seval]) rfl rfl rfl) ?_
  rintro ⟨t8q3, c4q10, c6q9⟩ o2 R2 h hr2 hn2 hx2 ht2
  try dsimp only at h hn2 ⊢
  unfold sweep_cycle_shade_1_l1 at h
  try dsimp only at h
  refine seq_np ?_
  refine reg_f ?_
  refine rs 1 [] [] (by kernel_rfl) allP_nil ?_
  refine rf [(0, .ptr 0 0), (6, .own 3 0 c3.length), (7, iS ((c3.length : Nat) : Int)), (8, iS t8q3), (9, bS (decide (t8q3 < ((c3.length : Nat) : Int))))] [(0, .row 54 [.own 1 0 c1.length, .own 3 0 c3.length, .own 4 0 c4q10.length, .own 6 0 c6q9.length]), (1, .row 23 (flD dLListInt [2] c1)), ((.s 2 0), .fam (famD dLListInt 0 c1)), (3, .row 3 (fl c3)), (4, .row 3 (fl c4q10)), (5, .dead), (6, .row 3 (fl c6q9))] 7 (by kernel_rfl) ?_
  refine wk_id ?_
  refine seq_np ?_
  refine cond_sx h (by kernel_rfl) (fun g715 h => ?_) (fun g715 h => ?_)
  · refine wk_id ?_
    refine seq_np ?_
    refine block_cut (A := (List Int) × (List Int)) (fun a => ([(0, .ptr 0 0), (6, .own 3 0 c3.length), (7, iS ((c3.length : Nat) : Int)), (8, iS t8q3)], [(0, .row 54 [.own 1 0 c1.length, .own 3 0 c3.length, .own 4 0 a.1.length, .own 6 0 a.2.length]), (1, .row 23 (flD dLListInt [2] c1)), ((.s 2 0), .fam (famD dLListInt 0 c1)), (3, .row 3 (fl c3)), (4, .row 3 (fl a.1)), (5, .dead), (6, .row 3 (fl a.2))], 7)) (fun a => (sweep_cycle_shade_1_j1 c3 c1 t8q3 a.1 a.2) = some o2) (fun K694 hK694 => ?_) ?_
    · refine chk_sx h (fun g698 h => ?_)
      refine seq_np ?_
      refine reg_f ?_
      have k697 : 0 ≤ t8q3 ∧ t8q3 < ((c3.length : Nat) : Int) := by first | simpa only [Bool.and_eq_true, decide_eq_true_eq, bne_iff_ne, ne_eq] using g698 | (simp at g698 ⊢; omega)
      refine rs 3 [some ⟨.ptr 3 (0 + (t8q3).toNat * 1), [], 7, [3]⟩, some ⟨iS (ix c3 t8q3), [], 7, [3]⟩] _ (by kernel_rfl) (allP_cons (ob_ld c3 t8q3 1 0 (0 + (t8q3).toNat * 1) k697 rfl (by decide) (by first | rfl | omega) (dflS Try.prog 3) (iS (ix c3 t8q3)) rfl 7 [3]) (allP_cons (ob_ix_o 3 c3.length 0 1 7 t8q3 k697) allP_nil)) ?_
      refine rf [(0, .ptr 0 0), (5, iS (ix c3 t8q3)), (6, .own 3 0 c3.length), (7, iS ((c3.length : Nat) : Int)), (8, iS t8q3)] [(0, .row 54 [.own 1 0 c1.length, .own 3 0 c3.length, .own 4 0 c4q10.length, .own 6 0 c6q9.length]), (1, .row 23 (flD dLListInt [2] c1)), ((.s 2 0), .fam (famD dLListInt 0 c1)), (3, .row 3 (fl c3)), (4, .row 3 (fl c4q10)), (5, .dead), (6, .row 3 (fl c6q9))] 7 (by kernel_rfl) ?_
      refine wk_id ?_
      refine chk_sx h (fun g705 h => ?_)
      refine seq_cut (A := Unit) (fun _ => ([(0, .ptr 0 0), (5, iS (ix c3 t8q3)), (6, .own 3 0 c3.length), (7, iS ((c3.length : Nat) : Int)), (8, iS t8q3), (23, bS ((decide ((0 : Int) ≤ (ix c3 t8q3))) && ((ix c4q10 (ix c3 t8q3)) == 0)))], [(0, .row 54 [.own 1 0 c1.length, .own 3 0 c3.length, .own 4 0 c4q10.length, .own 6 0 c6q9.length]), (1, .row 23 (flD dLListInt [2] c1)), ((.s 2 0), .fam (famD dLListInt 0 c1)), (3, .row 3 (fl c3)), (4, .row 3 (fl c4q10)), (6, .row 3 (fl c6q9))], 7)) (fun _ => True) (fun K702 hK702 => ?_) (fun _ _ => ?_)
      · refine reg_f ?_
        refine rs 3 [] [] (by kernel_rfl) allP_nil ?_
        refine run_split 14 (decide ((0 : Int) ≤ (ix c3 t8q3))) (.inl (by kernel_rfl)) (fun g703 => ?_) (fun g703 => ?_)
        · have k704 : 0 ≤ (ix c3 t8q3) ∧ (ix c3 t8q3) < ((c4q10.length : Nat) : Int) := by have e := or_use g705 (by first | ((try simp only [g703]) <;> rfl) | ((try simp only [g703]); rfl) | (exfalso; clear h; simp_all; done)); first | simpa only [Bool.and_eq_true, decide_eq_true_eq, bne_iff_ne, ne_eq] using e | (simp at e ⊢; omega)
          refine rs 9 [none, none, none, none, none, some ⟨.ptr 4 (0 + ((ix c3 t8q3)).toNat * 1), [], 7, [4]⟩, some ⟨iS (ix c4q10 (ix c3 t8q3)), [], 7, [4]⟩] _ (by kernel_rfl) (allP_cons (ob_ld c4q10 (ix c3 t8q3) 1 0 (0 + ((ix c3 t8q3)).toNat * 1) k704 rfl (by decide) (by first | rfl | omega) (dflS Try.prog 3) (iS (ix c4q10 (ix c3 t8q3))) rfl 7 [4]) (allP_cons (ob_ix_o 4 c4q10.length 0 1 7 (ix c3 t8q3) k704) allP_nil)) ?_
          refine rf [(0, .ptr 0 0), (5, iS (ix c3 t8q3)), (6, .own 3 0 c3.length), (7, iS ((c3.length : Nat) : Int)), (8, iS t8q3), (23, bS ((ix c4q10 (ix c3 t8q3)) == 0))] [(0, .row 54 [.own 1 0 c1.length, .own 3 0 c3.length, .own 4 0 c4q10.length, .own 6 0 c6q9.length]), (1, .row 23 (flD dLListInt [2] c1)), ((.s 2 0), .fam (famD dLListInt 0 c1)), (3, .row 3 (fl c3)), (4, .row 3 (fl c4q10)), (5, .dead), (6, .row 3 (fl c6q9))] 7 (by kernel_rfl) ?_
          exact hK702 () _ _ _ trivial (leSt_m [(0, 0), (1, 1), ((.s 2 0), (.s 2 0)), (3, 3), (4, 4), (6, 6)] [] (by (try simp only [g703]) <;> simp only [push_cast, leL_flD, renL_flD, seval]) (by (try simp only [g703]) <;> simp only [push_cast, leL_flD, renL_flD, seval]) rfl rfl rfl)
        · refine rs 9 [] [] (by kernel_rfl) allP_nil ?_
          refine rf [(0, .ptr 0 0), (5, iS (ix c3 t8q3)), (6, .own 3 0 c3.length), (7, iS ((c3.length : Nat) : Int)), (8, iS t8q3), (23, bS false)] [(0, .row 54 [.own 1 0 c1.length, .own 3 0 c3.length, .own 4 0 c4q10.length, .own 6 0 c6q9.length]), (1, .row 23 (flD dLListInt [2] c1)), ((.s 2 0), .fam (famD dLListInt 0 c1)), (3, .row 3 (fl c3)), (4, .row 3 (fl c4q10)), (5, .dead), (6, .row 3 (fl c6q9))] 7 (by kernel_rfl) ?_
          exact hK702 () _ _ _ trivial (leSt_m [(0, 0), (1, 1), ((.s 2 0), (.s 2 0)), (3, 3), (4, 4), (6, 6)] [] (by (try simp only [g703]) <;> simp only [push_cast, leL_flD, renL_flD, seval]) (by (try simp only [g703]) <;> simp only [push_cast, leL_flD, renL_flD, seval]) rfl rfl rfl)
      · dsimp only
        refine cond_sx h (by kernel_rfl) (fun g714 h => ?_) (fun g714 h => ?_)
        · refine chk_sx h (fun g709 h => ?_)
          refine seq_np ?_
          refine reg_f ?_
          have k708 : 0 ≤ (ix c3 t8q3) ∧ (ix c3 t8q3) < ((c4q10.length : Nat) : Int) := by first | simpa only [Bool.and_eq_true, decide_eq_true_eq, bne_iff_ne, ne_eq] using g709 | (simp at g709 ⊢; omega)
          refine rs 7 [none, none, none, none, none, some ⟨.ptr 4 (0 + ((ix c3 t8q3)).toNat * 1), [], 7, [4]⟩, some ⟨.any, [(4, .row 3 (fl (c4q10.set (ix c3 t8q3).toNat 1)))], 7, [4]⟩] _ (by kernel_rfl) (allP_cons (ob_st (P := Try.prog) c4q10 (ix c3 t8q3) 1 0 (0 + ((ix c3 t8q3)).toNat * 1) k708 rfl [iS 1] 1 (Nat.le_of_ble_eq_true rfl) (by first | rfl | omega) rfl 4 7 3 3 (by kernel_rfl) rfl) (allP_cons (ob_ix_o 4 c4q10.length 0 1 7 (ix c3 t8q3) k708) allP_nil)) ?_
          refine run_eqH 0 (.row 54 [.own 1 0 c1.length, .own 3 0 c3.length, .own 4 0 c4q10.length, .own 6 0 c6q9.length]) (.row 54 [.own 1 0 c1.length, .own 3 0 c3.length, .own 4 0 (c4q10.set (ix c3 t8q3).toNat 1).length, .own 6 0 c6q9.length]) (congrArg (fun nq => (.row 54 [.own 1 0 c1.length, .own 3 0 c3.length, .own 4 0 nq, .own 6 0 c6q9.length] : Chunk)) (show c4q10.length = (c4q10.set (ix c3 t8q3).toNat 1).length from (List.length_set ..).symm)) (by kernel_rfl) ?_
          refine rf [(0, .ptr 0 0), (5, iS (ix c3 t8q3)), (6, .own 3 0 c3.length), (7, iS ((c3.length : Nat) : Int)), (8, iS t8q3)] [(0, .row 54 [.own 1 0 c1.length, .own 3 0 c3.length, .own 4 0 (c4q10.set (ix c3 t8q3).toNat 1).length, .own 6 0 c6q9.length]), (1, .row 23 (flD dLListInt [2] c1)), ((.s 2 0), .fam (famD dLListInt 0 c1)), (3, .row 3 (fl c3)), (4, .row 3 (fl (c4q10.set (ix c3 t8q3).toNat 1))), (6, .row 3 (fl c6q9))] 7 (by kernel_rfl) ?_
          refine wk_id ?_
          refine chk_sx h (fun g713 h => ?_)
          refine reg_f ?_
          have k712 : (c6q9 ++ ([(ix c3 t8q3)] : List Int)).length * 8 ≤ 140737488355328 := by first | simpa only [Bool.and_eq_true, decide_eq_true_eq, bne_iff_ne, ne_eq] using g713 | (simp at g713 ⊢; omega)
          refine rs 11 [none, none, none, none, none, none, none, some ⟨.own 8 0 (c6q9 ++ ([(ix c3 t8q3)] : List Int)).length, [(8, .row 3 (fl (c6q9 ++ ([(ix c3 t8q3)] : List Int)))), (6, .dead)], 9, [6, 7]⟩] _ (by kernel_rfl) (allP_cons (ob_app (P := Try.prog) c6q9 ([(ix c3 t8q3)] : List Int) 1 8 rfl (appCells (fl ([(ix c3 t8q3)] : List Int)) 0 (([(ix c3 t8q3)] : List Int).length * 1)) ([(ix c3 t8q3)] : List Int).length (app_own ([(ix c3 t8q3)] : List Int) 1 rfl) rfl (0 + ([(ix c3 t8q3)] : List Int).length * 1 ≤ (fl ([(ix c3 t8q3)] : List Int)).length) (app_own_le ([(ix c3 t8q3)] : List Int) 1 rfl) 3 (by kernel_rfl) (by decide) k712 6 8 [7]) allP_nil) ?_
          refine rf [(0, .ptr 0 0), (6, .own 3 0 c3.length), (7, iS ((c3.length : Nat) : Int)), (8, iS t8q3)] [(0, .row 54 [.own 1 0 c1.length, .own 3 0 c3.length, .own 4 0 (c4q10.set (ix c3 t8q3).toNat 1).length, .own 8 0 (c6q9 ++ ([(ix c3 t8q3)] : List Int)).length]), (1, .row 23 (flD dLListInt [2] c1)), ((.s 2 0), .fam (famD dLListInt 0 c1)), (3, .row 3 (fl c3)), (4, .row 3 (fl (c4q10.set (ix c3 t8q3).toNat 1))), (6, .dead), (7, .row 3 (fl ([(ix c3 t8q3)] : List Int))), (8, .row 3 (fl (c6q9 ++ ([(ix c3 t8q3)] : List Int))))] 9 (by kernel_rfl) ?_
          exact hK694 ((c4q10.set (ix c3 t8q3).toNat 1), (c6q9 ++ ([(ix c3 t8q3)] : List Int))) _ _ _ h (leSt_m [(0, 0), (1, 1), ((.s 2 0), (.s 2 0)), (3, 3), (4, 4), (6, 8)] [] (by simp only [push_cast, leL_flD, renL_flD, seval]) (by simp only [push_cast, leL_flD, renL_flD, seval]) rfl rfl rfl)
        · exact hK694 (c4q10, c6q9) _ _ _ h (leSt_m [(0, 0), (1, 1), ((.s 2 0), (.s 2 0)), (3, 3), (4, 4), (6, 6)] [] (by simp only [push_cast, leL_flD, renL_flD, seval]) (by simp only [push_cast, leL_flD, renL_flD, seval]) rfl rfl rfl)
    · rintro ⟨c4q12, c6q11⟩ h
      try dsimp only at h ⊢
      unfold sweep_cycle_shade_1_j1 at h
      refine wk_id ?_
      refine reg_f ?_
      refine rs 2 [] [] (by kernel_rfl) allP_nil ?_
      refine rf [(0, .ptr 0 0), (6, .own 3 0 c3.length), (7, iS ((c3.length : Nat) : Int)), (8, iS (IntKind.i64.wrap (t8q3 + 1)))] [(0, .row 54 [.own 1 0 c1.length, .own 3 0 c3.length, .own 4 0 c4q12.length, .own 6 0 c6q11.length]), (1, .row 23 (flD dLListInt [2] c1)), ((.s 2 0), .fam (famD dLListInt 0 c1)), (3, .row 3 (fl c3)), (4, .row 3 (fl c4q12)), (5, .dead), (6, .row 3 (fl c6q11))] 7 (by kernel_rfl) ?_
      exact hn2 ((IntKind.i64.wrap (t8q3 + 1)), c4q12, c6q11) _ _ _ (Option.some.inj h).symm (leSt_m [(0, 0), (1, 1), ((.s 2 0), (.s 2 0)), (3, 3), (4, 4), (6, 6)] [] (by simp only [push_cast, leL_flD, renL_flD, seval]) (by simp only [push_cast, leL_flD, renL_flD, seval]) rfl rfl rfl)
  · change R2 (.exit 0) _ _ _
    refine ex_cast hx2 (id := 0) ?_
    obtain ⟨r0, h, e0⟩ := map_sx h
    have e1 := hr2 r0 e0.symm
    subst r0
    refine wk_id ?_
    obtain rfl := Option.some.inj h
    refine ret_an (.tup []) (by kernel_rfl) ?_
    exact ret_e [(0, 0), (1, 1), ((.s 2 0), (.s 2 0)), (3, 3), (4, 4), (6, 6)] [] (by simp only [push_cast, leL_flD, renL_flD, seval]) (by simp only [push_cast, leL_flD, renL_flD, seval]) rfl rfl rfl

set_option maxRecDepth 100000 in
set_option maxHeartbeats 200000000 in
theorem sweep_cycle_shade_2_spec (li : Int) (c1 : (List (List Int))) (c3 : (List Int)) (c4 : (List Int)) (c5 : (List Int)) (r : (List Int) × (List (List Int)) × (List Int) × (List Int)) (h : sweep_cycle_shade_2 li c1 c3 c4 c5 = some r) : SpecW Try.prog 26 [.ptr 0 0, .own (.s 2 li) 0 (ixD c1 li).length] [(0, .row 54 [.own 1 0 c1.length, .own 3 0 c3.length, .own 4 0 c4.length, .own 5 0 c5.length]), (1, .row 23 (flD dLListInt [2] c1)), ((.s 2 0), .fam (famD dLListInt 0 c1)), (3, .row 3 (fl c3)), (4, .row 3 (fl c4)), (5, .row 3 (fl c5))] 6 (fun x h n => x = .tup [] ∧ h = [(0, .row 54 [.own 1 0 r.2.1.length, .own 3 0 r.2.2.1.length, .own 4 0 r.2.2.2.length, .own 6 0 r.1.length]), (1, .row 23 (flD dLListInt [2] r.2.1)), ((.s 2 0), .fam (famD dLListInt 0 r.2.1)), (3, .row 3 (fl r.2.2.1)), (4, .row 3 (fl r.2.2.2)), (5, .dead), (6, .row 3 (fl r.1))] ∧ n = 7) := by
  unfold sweep_cycle_shade_2 at h
  refine spec_of (draw_ok _) Try.func26 rfl (by decide) rfl (by kernel_rfl) ?_
  refine seq_np ?_
  refine reg_f ?_
  refine rs 3 [] [] (by kernel_rfl) allP_nil ?_
  refine rf [(0, .ptr 0 0), (6, .own (.s 2 li) 0 (ixD c1 li).length), (7, iS (((ixD c1 li).length : Nat) : Int)), (8, iS 0)] [(0, .row 54 [.own 1 0 c1.length, .own 3 0 c3.length, .own 4 0 c4.length, .own 5 0 c5.length]), (1, .row 23 (flD dLListInt [2] c1)), ((.s 2 0), .fam (famD dLListInt 0 c1)), (3, .row 3 (fl c3)), (4, .row 3 (fl c4)), (5, .row 3 (fl c5))] 6 (by kernel_rfl) ?_
  refine wk_id ?_
  refine block_np ?_
  refine loop_sx (S := Int × (List Int) × (List Int)) (fun a => ([(0, .ptr 0 0), (6, .own (.s 2 li) 0 (ixD c1 li).length), (7, iS (((ixD c1 li).length : Nat) : Int)), (8, iS a.1)], [(0, .row 54 [.own 1 0 c1.length, .own 3 0 c3.length, .own 4 0 a.2.1.length, .own 6 0 a.2.2.length]), (1, .row 23 (flD dLListInt [2] c1)), ((.s 2 0), .fam (famD dLListInt 0 c1)), (3, .row 3 (fl c3)), (4, .row 3 (fl a.2.1)), (5, .dead), (6, .row 3 (fl a.2.2))], 7)) h (leSt_m [(0, 0), (1, 1), ((.s 2 0), (.s 2 0)), (3, 3), (4, 4), (6, 5)] [] (by simp only [push_cast, leL_flD, renL_flD, seval]) (by simp only [push_cast, leL_flD, renL_flD, seval]) rfl rfl rfl) ?_
  rintro ⟨t8q3, c4q10, c6q9⟩ o2 R2 h hr2 hn2 hx2 ht2
  try dsimp only at h hn2 ⊢
  unfold sweep_cycle_shade_2_l1 at h
  try dsimp only at h
  refine seq_np ?_
  refine reg_f ?_
  refine rs 1 [] [] (by kernel_rfl) allP_nil ?_
  refine rf [(0, .ptr 0 0), (6, .own (.s 2 li) 0 (ixD c1 li).length), (7, iS (((ixD c1 li).length : Nat) : Int)), (8, iS t8q3), (9, bS (decide (t8q3 < (((ixD c1 li).length : Nat) : Int))))] [(0, .row 54 [.own 1 0 c1.length, .own 3 0 c3.length, .own 4 0 c4q10.length, .own 6 0 c6q9.length]), (1, .row 23 (flD dLListInt [2] c1)), ((.s 2 0), .fam (famD dLListInt 0 c1)), (3, .row 3 (fl c3)), (4, .row 3 (fl c4q10)), (5, .dead), (6, .row 3 (fl c6q9))] 7 (by kernel_rfl) ?_
  refine wk_id ?_
  refine seq_np ?_
  refine cond_sx h (by kernel_rfl) (fun g846 h => ?_) (fun g846 h => ?_)
  · refine wk_id ?_
    refine seq_np ?_
    refine block_cut (A := (List Int) × (List Int)) (fun a => ([(0, .ptr 0 0), (6, .own (.s 2 li) 0 (ixD c1 li).length), (7, iS (((ixD c1 li).length : Nat) : Int)), (8, iS t8q3)], [(0, .row 54 [.own 1 0 c1.length, .own 3 0 c3.length, .own 4 0 a.1.length, .own 6 0 a.2.length]), (1, .row 23 (flD dLListInt [2] c1)), ((.s 2 0), .fam (famD dLListInt 0 c1)), (3, .row 3 (fl c3)), (4, .row 3 (fl a.1)), (5, .dead), (6, .row 3 (fl a.2))], 7)) (fun a => (sweep_cycle_shade_2_j1 li c1 c3 t8q3 a.1 a.2) = some o2) (fun K825 hK825 => ?_) ?_
    · refine chk_sx h (fun g829 h => ?_)
      refine seq_np ?_
      refine reg_f ?_
      have k828 : 0 ≤ t8q3 ∧ t8q3 < (((ixD c1 li).length : Nat) : Int) := by first | simpa only [Bool.and_eq_true, decide_eq_true_eq, bne_iff_ne, ne_eq] using g829 | (simp at g829 ⊢; omega)
      refine rs 3 [some ⟨.ptr (.s 2 li) (0 + (t8q3).toNat * 1), [], 7, [(.s 2 0)]⟩, some ⟨iS (ix (ixD c1 li) t8q3), [], 7, [(.s 2 0)]⟩] _ (by kernel_rfl) (allP_cons (ob_ld (ixD c1 li) t8q3 1 0 (0 + (t8q3).toNat * 1) k828 rfl (by decide) (by first | rfl | omega) (dflS Try.prog 3) (iS (ix (ixD c1 li) t8q3)) rfl 7 [(.s 2 0)]) (allP_cons (ob_ix_o (.s 2 li) (ixD c1 li).length 0 1 7 t8q3 k828) allP_nil)) ?_
      refine rf [(0, .ptr 0 0), (5, iS (ix (ixD c1 li) t8q3)), (6, .own (.s 2 li) 0 (ixD c1 li).length), (7, iS (((ixD c1 li).length : Nat) : Int)), (8, iS t8q3)] [(0, .row 54 [.own 1 0 c1.length, .own 3 0 c3.length, .own 4 0 c4q10.length, .own 6 0 c6q9.length]), (1, .row 23 (flD dLListInt [2] c1)), ((.s 2 0), .fam (famD dLListInt 0 c1)), (3, .row 3 (fl c3)), (4, .row 3 (fl c4q10)), (5, .dead), (6, .row 3 (fl c6q9))] 7 (by kernel_rfl) ?_
      refine wk_id ?_
      refine chk_sx h (fun g836 h => ?_)
      refine seq_cut (A := Unit) (fun _ => ([(0, .ptr 0 0), (5, iS (ix (ixD c1 li) t8q3)), (6, .own (.s 2 li) 0 (ixD c1 li).length), (7, iS (((ixD c1 li).length : Nat) : Int)), (8, iS t8q3), (23, bS ((decide ((0 : Int) ≤ (ix (ixD c1 li) t8q3))) && ((ix c4q10 (ix (ixD c1 li) t8q3)) == 0)))], [(0, .row 54 [.own 1 0 c1.length, .own 3 0 c3.length, .own 4 0 c4q10.length, .own 6 0 c6q9.length]), (1, .row 23 (flD dLListInt [2] c1)), ((.s 2 0), .fam (famD dLListInt 0 c1)), (3, .row 3 (fl c3)), (4, .row 3 (fl c4q10)), (6, .row 3 (fl c6q9))], 7)) (fun _ => True) (fun K833 hK833 => ?_) (fun _ _ => ?_)
      · refine reg_f ?_
        refine rs 3 [] [] (by kernel_rfl) allP_nil ?_
        refine run_split 14 (decide ((0 : Int) ≤ (ix (ixD c1 li) t8q3))) (.inl (by kernel_rfl)) (fun g834 => ?_) (fun g834 => ?_)
        · have k835 : 0 ≤ (ix (ixD c1 li) t8q3) ∧ (ix (ixD c1 li) t8q3) < ((c4q10.length : Nat) : Int) := by have e := or_use g836 (by first | ((try simp only [g834]) <;> rfl) | ((try simp only [g834]); rfl) | (exfalso; clear h; simp_all; done)); first | simpa only [Bool.and_eq_true, decide_eq_true_eq, bne_iff_ne, ne_eq] using e | (simp at e ⊢; omega)
          refine rs 9 [none, none, none, none, none, some ⟨.ptr 4 (0 + ((ix (ixD c1 li) t8q3)).toNat * 1), [], 7, [4]⟩, some ⟨iS (ix c4q10 (ix (ixD c1 li) t8q3)), [], 7, [4]⟩] _ (by kernel_rfl) (allP_cons (ob_ld c4q10 (ix (ixD c1 li) t8q3) 1 0 (0 + ((ix (ixD c1 li) t8q3)).toNat * 1) k835 rfl (by decide) (by first | rfl | omega) (dflS Try.prog 3) (iS (ix c4q10 (ix (ixD c1 li) t8q3))) rfl 7 [4]) (allP_cons (ob_ix_o 4 c4q10.length 0 1 7 (ix (ixD c1 li) t8q3) k835) allP_nil)) ?_
          refine rf [(0, .ptr 0 0), (5, iS (ix (ixD c1 li) t8q3)), (6, .own (.s 2 li) 0 (ixD c1 li).length), (7, iS (((ixD c1 li).length : Nat) : Int)), (8, iS t8q3), (23, bS ((ix c4q10 (ix (ixD c1 li) t8q3)) == 0))] [(0, .row 54 [.own 1 0 c1.length, .own 3 0 c3.length, .own 4 0 c4q10.length, .own 6 0 c6q9.length]), (1, .row 23 (flD dLListInt [2] c1)), ((.s 2 0), .fam (famD dLListInt 0 c1)), (3, .row 3 (fl c3)), (4, .row 3 (fl c4q10)), (5, .dead), (6, .row 3 (fl c6q9))] 7 (by kernel_rfl) ?_
          exact hK833 () _ _ _ trivial (leSt_m [(0, 0), (1, 1), ((.s 2 0), (.s 2 0)), (3, 3), (4, 4), (6, 6)] [] (by (try simp only [g834]) <;> simp only [push_cast, leL_flD, renL_flD, seval]) (by (try simp only [g834]) <;> simp only [push_cast, leL_flD, renL_flD, seval]) rfl rfl rfl)
        · refine rs 9 [] [] (by kernel_rfl) allP_nil ?_
          refine rf [(0, .ptr 0 0), (5, iS (ix (ixD c1 li) t8q3)), (6, .own (.s 2 li) 0 (ixD c1 li).length), (7, iS (((ixD c1 li).length : Nat) : Int)), (8, iS t8q3), (23, bS false)] [(0, .row 54 [.own 1 0 c1.length, .own 3 0 c3.length, .own 4 0 c4q10.length, .own 6 0 c6q9.length]), (1, .row 23 (flD dLListInt [2] c1)), ((.s 2 0), .fam (famD dLListInt 0 c1)), (3, .row 3 (fl c3)), (4, .row 3 (fl c4q10)), (5, .dead), (6, .row 3 (fl c6q9))] 7 (by kernel_rfl) ?_
          exact hK833 () _ _ _ trivial (leSt_m [(0, 0), (1, 1), ((.s 2 0), (.s 2 0)), (3, 3), (4, 4), (6, 6)] [] (by (try simp only [g834]) <;> simp only [push_cast, leL_flD, renL_flD, seval]) (by (try simp only [g834]) <;> simp only [push_cast, leL_flD, renL_flD, seval]) rfl rfl rfl)
      · dsimp only
        refine cond_sx h (by kernel_rfl) (fun g845 h => ?_) (fun g845 h => ?_)
        · refine chk_sx h (fun g840 h => ?_)
          refine seq_np ?_
          refine reg_f ?_
          have k839 : 0 ≤ (ix (ixD c1 li) t8q3) ∧ (ix (ixD c1 li) t8q3) < ((c4q10.length : Nat) : Int) := by first | simpa only [Bool.and_eq_true, decide_eq_true_eq, bne_iff_ne, ne_eq] using g840 | (simp at g840 ⊢; omega)
          refine rs 7 [none, none, none, none, none, some ⟨.ptr 4 (0 + ((ix (ixD c1 li) t8q3)).toNat * 1), [], 7, [4]⟩, some ⟨.any, [(4, .row 3 (fl (c4q10.set (ix (ixD c1 li) t8q3).toNat 1)))], 7, [4]⟩] _ (by kernel_rfl) (allP_cons (ob_st (P := Try.prog) c4q10 (ix (ixD c1 li) t8q3) 1 0 (0 + ((ix (ixD c1 li) t8q3)).toNat * 1) k839 rfl [iS 1] 1 (Nat.le_of_ble_eq_true rfl) (by first | rfl | omega) rfl 4 7 3 3 (by kernel_rfl) rfl) (allP_cons (ob_ix_o 4 c4q10.length 0 1 7 (ix (ixD c1 li) t8q3) k839) allP_nil)) ?_
          refine run_eqH 0 (.row 54 [.own 1 0 c1.length, .own 3 0 c3.length, .own 4 0 c4q10.length, .own 6 0 c6q9.length]) (.row 54 [.own 1 0 c1.length, .own 3 0 c3.length, .own 4 0 (c4q10.set (ix (ixD c1 li) t8q3).toNat 1).length, .own 6 0 c6q9.length]) (congrArg (fun nq => (.row 54 [.own 1 0 c1.length, .own 3 0 c3.length, .own 4 0 nq, .own 6 0 c6q9.length] : Chunk)) (show c4q10.length = (c4q10.set (ix (ixD c1 li) t8q3).toNat 1).length from (List.length_set ..).symm)) (by kernel_rfl) ?_
          refine rf [(0, .ptr 0 0), (5, iS (ix (ixD c1 li) t8q3)), (6, .own (.s 2 li) 0 (ixD c1 li).length), (7, iS (((ixD c1 li).length : Nat) : Int)), (8, iS t8q3)] [(0, .row 54 [.own 1 0 c1.length, .own 3 0 c3.length, .own 4 0 (c4q10.set (ix (ixD c1 li) t8q3).toNat 1).length, .own 6 0 c6q9.length]), (1, .row 23 (flD dLListInt [2] c1)), ((.s 2 0), .fam (famD dLListInt 0 c1)), (3, .row 3 (fl c3)), (4, .row 3 (fl (c4q10.set (ix (ixD c1 li) t8q3).toNat 1))), (6, .row 3 (fl c6q9))] 7 (by kernel_rfl) ?_
          refine wk_id ?_
          refine chk_sx h (fun g844 h => ?_)
          refine reg_f ?_
          have k843 : (c6q9 ++ ([(ix (ixD c1 li) t8q3)] : List Int)).length * 8 ≤ 140737488355328 := by first | simpa only [Bool.and_eq_true, decide_eq_true_eq, bne_iff_ne, ne_eq] using g844 | (simp at g844 ⊢; omega)
          refine rs 11 [none, none, none, none, none, none, none, some ⟨.own 8 0 (c6q9 ++ ([(ix (ixD c1 li) t8q3)] : List Int)).length, [(8, .row 3 (fl (c6q9 ++ ([(ix (ixD c1 li) t8q3)] : List Int)))), (6, .dead)], 9, [6, 7]⟩] _ (by kernel_rfl) (allP_cons (ob_app (P := Try.prog) c6q9 ([(ix (ixD c1 li) t8q3)] : List Int) 1 8 rfl (appCells (fl ([(ix (ixD c1 li) t8q3)] : List Int)) 0 (([(ix (ixD c1 li) t8q3)] : List Int).length * 1)) ([(ix (ixD c1 li) t8q3)] : List Int).length (app_own ([(ix (ixD c1 li) t8q3)] : List Int) 1 rfl) rfl (0 + ([(ix (ixD c1 li) t8q3)] : List Int).length * 1 ≤ (fl ([(ix (ixD c1 li) t8q3)] : List Int)).length) (app_own_le ([(ix (ixD c1 li) t8q3)] : List Int) 1 rfl) 3 (by kernel_rfl) (by decide) k843 6 8 [7]) allP_nil) ?_
          refine rf [(0, .ptr 0 0), (6, .own (.s 2 li) 0 (ixD c1 li).length), (7, iS (((ixD c1 li).length : Nat) : Int)), (8, iS t8q3)] [(0, .row 54 [.own 1 0 c1.length, .own 3 0 c3.length, .own 4 0 (c4q10.set (ix (ixD c1 li) t8q3).toNat 1).length, .own 8 0 (c6q9 ++ ([(ix (ixD c1 li) t8q3)] : List Int)).length]), (1, .row 23 (flD dLListInt [2] c1)), ((.s 2 0), .fam (famD dLListInt 0 c1)), (3, .row 3 (fl c3)), (4, .row 3 (fl (c4q10.set (ix (ixD c1 li) t8q3).toNat 1))), (6, .dead), (7, .row 3 (fl ([(ix (ixD c1 li) t8q3)] : List Int))), (8, .row 3 (fl (c6q9 ++ ([(ix (ixD c1 li) t8q3)] : List Int))))] 9 (by kernel_rfl) ?_
          exact hK825 ((c4q10.set (ix (ixD c1 li) t8q3).toNat 1), (c6q9 ++ ([(ix (ixD c1 li) t8q3)] : List Int))) _ _ _ h (leSt_m [(0, 0), (1, 1), ((.s 2 0), (.s 2 0)), (3, 3), (4, 4), (6, 8)] [] (by simp only [push_cast, leL_flD, renL_flD, seval]) (by simp only [push_cast, leL_flD, renL_flD, seval]) rfl rfl rfl)
        · exact hK825 (c4q10, c6q9) _ _ _ h (leSt_m [(0, 0), (1, 1), ((.s 2 0), (.s 2 0)), (3, 3), (4, 4), (6, 6)] [] (by simp only [push_cast, leL_flD, renL_flD, seval]) (by simp only [push_cast, leL_flD, renL_flD, seval]) rfl rfl rfl)
    · rintro ⟨c4q12, c6q11⟩ h
      try dsimp only at h ⊢
      unfold sweep_cycle_shade_2_j1 at h
      refine wk_id ?_
      refine reg_f ?_
      refine rs 2 [] [] (by kernel_rfl) allP_nil ?_
      refine rf [(0, .ptr 0 0), (6, .own (.s 2 li) 0 (ixD c1 li).length), (7, iS (((ixD c1 li).length : Nat) : Int)), (8, iS (IntKind.i64.wrap (t8q3 + 1)))] [(0, .row 54 [.own 1 0 c1.length, .own 3 0 c3.length, .own 4 0 c4q12.length, .own 6 0 c6q11.length]), (1, .row 23 (flD dLListInt [2] c1)), ((.s 2 0), .fam (famD dLListInt 0 c1)), (3, .row 3 (fl c3)), (4, .row 3 (fl c4q12)), (5, .dead), (6, .row 3 (fl c6q11))] 7 (by kernel_rfl) ?_
      exact hn2 ((IntKind.i64.wrap (t8q3 + 1)), c4q12, c6q11) _ _ _ (Option.some.inj h).symm (leSt_m [(0, 0), (1, 1), ((.s 2 0), (.s 2 0)), (3, 3), (4, 4), (6, 6)] [] (by simp only [push_cast, leL_flD, renL_flD, seval]) (by simp only [push_cast, leL_flD, renL_flD, seval]) rfl rfl rfl)
  · change R2 (.exit 0) _ _ _
    refine ex_cast hx2 (id := 0) ?_
    obtain ⟨r0, h, e0⟩ := map_sx h
    have e1 := hr2 r0 e0.symm
    subst r0
    refine wk_id ?_
    obtain rfl := Option.some.inj h
    refine ret_an (.tup []) (by kernel_rfl) ?_
    exact ret_e [(0, 0), (1, 1), ((.s 2 0), (.s 2 0)), (3, 3), (4, 4), (6, 6)] [] (by simp only [push_cast, leL_flD, renL_flD, seval]) (by simp only [push_cast, leL_flD, renL_flD, seval]) rfl rfl rfl

set_option maxRecDepth 100000 in
set_option maxHeartbeats 200000000 in
theorem sweep_cycle_mark_1_spec (c1 : (List (List Int))) (c3 : (List Int)) (c4 : (List Int)) (c5 : (List Int)) (r : Bool × (List Int) × (List (List Int)) × (List Int) × (List Int)) (h : sweep_cycle_mark_1 c1 c3 c4 c5 = some r) : SpecW Try.prog 35 [.ptr 0 0] [(0, .row 54 [.own 1 0 c1.length, .own 3 0 c3.length, .own 4 0 c4.length, .own 5 0 c5.length]), (1, .row 23 (flD dLListInt [2] c1)), ((.s 2 0), .fam (famD dLListInt 0 c1)), (3, .row 3 (fl c3)), (4, .row 3 (fl c4)), (5, .row 3 (fl c5))] 6 (fun x h n => x = bS r.1 ∧ h = [(0, .row 54 [.own 1 0 r.2.2.1.length, .own 3 0 r.2.2.2.1.length, .own 4 0 r.2.2.2.2.length, .own 6 0 r.2.1.length]), (1, .row 23 (flD dLListInt [2] r.2.2.1)), ((.s 2 0), .fam (famD dLListInt 0 r.2.2.1)), (3, .row 3 (fl r.2.2.2.1)), (4, .row 3 (fl r.2.2.2.2)), (5, .dead), (6, .row 3 (fl r.2.1))] ∧ n = 7) := by
  unfold sweep_cycle_mark_1 at h
  refine spec_of (draw_ok _) Try.func35 rfl (by decide) rfl (by kernel_rfl) ?_
  refine seq_np ?_
  refine reg_f ?_
  refine rs 1 [] [] (by kernel_rfl) allP_nil ?_
  refine rf [(0, .ptr 0 0)] [(0, .row 54 [.own 1 0 c1.length, .own 3 0 c3.length, .own 4 0 c4.length, .own 5 0 c5.length]), (1, .row 23 (flD dLListInt [2] c1)), ((.s 2 0), .fam (famD dLListInt 0 c1)), (3, .row 3 (fl c3)), (4, .row 3 (fl c4)), (5, .row 3 (fl c5))] 6 (by kernel_rfl) ?_
  refine wk_id ?_
  refine seq_np ?_
  refine seq_np ?_
  refine reg_f ?_
  refine rs 6 [] [] (by kernel_rfl) allP_nil ?_
  refine rf [(0, .ptr 0 0), (9, bS (((c5.length : Nat) : Int) == 0))] [(0, .row 54 [.own 1 0 c1.length, .own 3 0 c3.length, .own 4 0 c4.length, .own 5 0 c5.length]), (1, .row 23 (flD dLListInt [2] c1)), ((.s 2 0), .fam (famD dLListInt 0 c1)), (3, .row 3 (fl c3)), (4, .row 3 (fl c4)), (5, .row 3 (fl c5))] 6 (by kernel_rfl) ?_
  refine wk_id ?_
  refine cond_sx h (by kernel_rfl) (fun g876 h => ?_) (fun g876 h => ?_)
  · refine seq_np ?_
    refine reg_f ?_
    refine rs 1 [] [] (by kernel_rfl) allP_nil ?_
    refine rf [(2, bS false)] [(0, .row 54 [.own 1 0 c1.length, .own 3 0 c3.length, .own 4 0 c4.length, .own 5 0 c5.length]), (1, .row 23 (flD dLListInt [2] c1)), ((.s 2 0), .fam (famD dLListInt 0 c1)), (3, .row 3 (fl c3)), (4, .row 3 (fl c4)), (5, .row 3 (fl c5))] 6 (by kernel_rfl) ?_
    refine wk_id ?_
    obtain rfl := Option.some.inj h
    refine ret_at (bS false) (by kernel_rfl) ?_
    exact ret_e [(0, 0), (1, 1), ((.s 2 0), (.s 2 0)), (3, 3), (4, 4), (6, 5)] [] (by simp only [push_cast, leL_flD, renL_flD, seval]) (by simp only [push_cast, leL_flD, renL_flD, seval]) rfl rfl rfl
  · refine wk_id ?_
    refine chk_sx h (fun g855 h => ?_)
    refine seq_np ?_
    refine reg_f ?_
    have k854 : 0 ≤ (0 : Int) ∧ (0 : Int) < ((c5.length : Nat) : Int) := by first | simpa only [Bool.and_eq_true, decide_eq_true_eq, bne_iff_ne, ne_eq] using g855 | (simp at g855 ⊢; omega)
    refine rs 7 [none, none, none, none, some ⟨.ptr 5 (0 + ((0 : Int)).toNat * 1), [], 6, [5]⟩, some ⟨iS (ix c5 (0 : Int)), [], 6, [5]⟩] _ (by kernel_rfl) (allP_cons (ob_ld c5 (0 : Int) 1 0 (0 + ((0 : Int)).toNat * 1) k854 rfl (by decide) (by first | rfl | omega) (dflS Try.prog 3) (iS (ix c5 (0 : Int))) rfl 6 [5]) (allP_cons (ob_ix_o 5 c5.length 0 1 6 0 k854) allP_nil)) ?_
    refine rf [(0, .ptr 0 0), (3, iS (ix c5 (0 : Int)))] [(0, .row 54 [.own 1 0 c1.length, .own 3 0 c3.length, .own 4 0 c4.length, .own 5 0 c5.length]), (1, .row 23 (flD dLListInt [2] c1)), ((.s 2 0), .fam (famD dLListInt 0 c1)), (3, .row 3 (fl c3)), (4, .row 3 (fl c4)), (5, .row 3 (fl c5))] 6 (by kernel_rfl) ?_
    refine wk_id ?_
    refine chk_sx h (fun g859 h => ?_)
    refine seq_np ?_
    refine reg_f ?_
    have k858 : 0 ≤ (1 : Int) ∧ (1 : Int) ≤ ((c5.length : Nat) : Int) ∧ ((c5.length : Nat) : Int) ≤ ((c5.length : Nat) : Int) := by first | simpa only [Bool.and_eq_true, decide_eq_true_eq, bne_iff_ne, ne_eq] using g859 | (simp at g859 ⊢; omega)
    refine rs 5 [] [] (by kernel_rfl) allP_nil ?_
    refine run_cutO c5 (some 21) 5 1 3 (1 : Int) ((c5.length : Nat) : Int) (by kernel_rfl) rfl k858 ?_
    refine rs 3 [] [] (by kernel_rfl) allP_nil ?_
    refine rf [(0, .ptr 0 0), (3, iS (ix c5 (0 : Int)))] [(0, .row 54 [.own 1 0 c1.length, .own 3 0 c3.length, .own 4 0 c4.length, .own 6 0 (cut c5 (1 : Int) ((c5.length : Nat) : Int)).length]), (1, .row 23 (flD dLListInt [2] c1)), ((.s 2 0), .fam (famD dLListInt 0 c1)), (3, .row 3 (fl c3)), (4, .row 3 (fl c4)), (5, .dead), (6, .row 3 (fl (cut c5 (1 : Int) ((c5.length : Nat) : Int))))] 7 (by kernel_rfl) ?_
    refine wk_id ?_
    refine chk_sx h (fun g863 h => ?_)
    refine seq_np ?_
    refine reg_f ?_
    have k862 : 0 ≤ (ix c5 (0 : Int)) ∧ (ix c5 (0 : Int)) < ((c4.length : Nat) : Int) := by first | simpa only [Bool.and_eq_true, decide_eq_true_eq, bne_iff_ne, ne_eq] using g863 | (simp at g863 ⊢; omega)
    refine rs 7 [none, none, none, none, none, some ⟨.ptr 4 (0 + ((ix c5 (0 : Int))).toNat * 1), [], 7, [4]⟩, some ⟨.any, [(4, .row 3 (fl (c4.set (ix c5 (0 : Int)).toNat 2)))], 7, [4]⟩] _ (by kernel_rfl) (allP_cons (ob_st (P := Try.prog) c4 (ix c5 (0 : Int)) 1 0 (0 + ((ix c5 (0 : Int))).toNat * 1) k862 rfl [iS 2] 2 (Nat.le_of_ble_eq_true rfl) (by first | rfl | omega) rfl 4 7 3 3 (by kernel_rfl) rfl) (allP_cons (ob_ix_o 4 c4.length 0 1 7 (ix c5 (0 : Int)) k862) allP_nil)) ?_
    refine run_eqH 0 (.row 54 [.own 1 0 c1.length, .own 3 0 c3.length, .own 4 0 c4.length, .own 6 0 (cut c5 (1 : Int) ((c5.length : Nat) : Int)).length]) (.row 54 [.own 1 0 c1.length, .own 3 0 c3.length, .own 4 0 (c4.set (ix c5 (0 : Int)).toNat 2).length, .own 6 0 (cut c5 (1 : Int) ((c5.length : Nat) : Int)).length]) (congrArg (fun nq => (.row 54 [.own 1 0 c1.length, .own 3 0 c3.length, .own 4 0 nq, .own 6 0 (cut c5 (1 : Int) ((c5.length : Nat) : Int)).length] : Chunk)) (show c4.length = (c4.set (ix c5 (0 : Int)).toNat 2).length from (List.length_set ..).symm)) (by kernel_rfl) ?_
    refine rf [(0, .ptr 0 0), (3, iS (ix c5 (0 : Int)))] [(0, .row 54 [.own 1 0 c1.length, .own 3 0 c3.length, .own 4 0 (c4.set (ix c5 (0 : Int)).toNat 2).length, .own 6 0 (cut c5 (1 : Int) ((c5.length : Nat) : Int)).length]), (1, .row 23 (flD dLListInt [2] c1)), ((.s 2 0), .fam (famD dLListInt 0 c1)), (3, .row 3 (fl c3)), (4, .row 3 (fl (c4.set (ix c5 (0 : Int)).toNat 2))), (5, .dead), (6, .row 3 (fl (cut c5 (1 : Int) ((c5.length : Nat) : Int))))] 7 (by kernel_rfl) ?_
    refine wk_id ?_
    refine chk_sx h (fun g871 h => ?_)
    refine seq_np ?_
    refine reg_f ?_
    have k870 : 0 ≤ (ix c5 (0 : Int)) ∧ (ix c5 (0 : Int)) < ((c1.length : Nat) : Int) := by first | simpa only [Bool.and_eq_true, decide_eq_true_eq, bne_iff_ne, ne_eq] using g871 | (simp at g871 ⊢; omega)
    refine rs 9 [none, none, none, none, none, none, none, some ⟨.ptr 1 (0 + ((ix c5 (0 : Int))).toNat * 1), [], 7, [1]⟩, some ⟨.own (.s 2 (ix c5 (0 : Int))) 0 (ixD c1 (ix c5 (0 : Int))).length, [], 7, [1]⟩] _ (by kernel_rfl) (allP_cons (ob_ldD dLListInt [2] c1 (ix c5 (0 : Int)) 1 0 (0 + ((ix c5 (0 : Int))).toNat * 1) k870 rfl (by decide) (by first | rfl | omega) (dflS Try.prog 23) (.own (.s 2 (ix c5 (0 : Int))) 0 (ixD c1 (ix c5 (0 : Int))).length) rfl 7 [1]) (allP_cons (ob_ix_o 1 c1.length 0 1 7 (ix c5 (0 : Int)) k870) allP_nil)) ?_
    obtain ⟨r872, hr872, h⟩ := bind_sx h
    refine call_x (sweep_cycle_shade_2_spec (ix c5 (0 : Int)) c1 c3 (c4.set (ix c5 (0 : Int)).toNat 2) (cut c5 (1 : Int) ((c5.length : Nat) : Int)) r872 hr872) (args := [.ptr 0 0, .own (.s 2 (ix c5 (0 : Int))) 0 (ixD c1 (ix c5 (0 : Int))).length]) (dst := (some 39)) (by kernel_rfl) [(0, .row 54 [.own 1 0 c1.length, .own 3 0 c3.length, .own 4 0 (c4.set (ix c5 (0 : Int)).toNat 2).length, .own 6 0 (cut c5 (1 : Int) ((c5.length : Nat) : Int)).length]), (1, .row 23 (flD dLListInt [2] c1)), ((.s 2 0), .fam (famD dLListInt 0 c1)), (3, .row 3 (fl c3)), (4, .row 3 (fl (c4.set (ix c5 (0 : Int)).toNat 2))), (5, .dead), (6, .row 3 (fl (cut c5 (1 : Int) ((c5.length : Nat) : Int))))] 7 (by kernel_rfl) [(0, 0), (1, 1), ((.s 2 0), (.s 2 0)), (3, 3), (4, 4), (5, 6)] [] (.tup []) [(0, .row 54 [.own 1 0 r872.2.1.length, .own 3 0 r872.2.2.1.length, .own 4 0 r872.2.2.2.length, .own 13 0 r872.1.length]), (1, .row 23 (flD dLListInt [2] r872.2.1)), ((.s 2 0), .fam (famD dLListInt 0 r872.2.1)), (3, .row 3 (fl r872.2.2.1)), (4, .row 3 (fl r872.2.2.2)), (6, .dead), (13, .row 3 (fl r872.1)), (0, .dead), (1, .dead), ((.s 2 0), .dead), (3, .dead), (4, .dead), (6, .dead)] (by simp only [push_cast, leL_flD, renL_flD, seval]) (by simp only [push_cast, leL_flD, renL_flD, seval]) (by kernel_rfl) (.inl rfl) (by first | (simp only [push_cast, leL_flD, renL_flD, seval]; done) | (simp only [push_cast, leL_flD, renL_flD, seval]; kernel_rfl) | kernel_rfl) (by first | (simp only [push_cast, leL_flD, renL_flD, seval]; done) | (simp only [push_cast, leL_flD, renL_flD, seval]; kernel_rfl) | kernel_rfl) ?_ (hfam := (And.intro trivial (And.intro trivial (And.intro (fun _ => Or.inl rfl) (And.intro trivial (And.intro trivial (And.intro trivial trivial)))))))
    refine rf [] [(0, .row 54 [.own 1 0 r872.2.1.length, .own 3 0 r872.2.2.1.length, .own 4 0 r872.2.2.2.length, .own 13 0 r872.1.length]), (1, .row 23 (flD dLListInt [2] r872.2.1)), ((.s 2 0), .fam (famD dLListInt 0 r872.2.1)), (3, .row 3 (fl r872.2.2.1)), (4, .row 3 (fl r872.2.2.2)), (5, .dead), (6, .dead), (13, .row 3 (fl r872.1))] 14 (by kernel_rfl) ?_
    refine wk_id ?_
    refine seq_np ?_
    refine reg_f ?_
    refine rs 1 [] [] (by kernel_rfl) allP_nil ?_
    refine rf [(2, bS true)] [(0, .row 54 [.own 1 0 r872.2.1.length, .own 3 0 r872.2.2.1.length, .own 4 0 r872.2.2.2.length, .own 13 0 r872.1.length]), (1, .row 23 (flD dLListInt [2] r872.2.1)), ((.s 2 0), .fam (famD dLListInt 0 r872.2.1)), (3, .row 3 (fl r872.2.2.1)), (4, .row 3 (fl r872.2.2.2)), (5, .dead), (6, .dead), (13, .row 3 (fl r872.1))] 14 (by kernel_rfl) ?_
    refine wk_id ?_
    obtain rfl := Option.some.inj h
    refine ret_at (bS true) (by kernel_rfl) ?_
    exact ret_e [(0, 0), (1, 1), ((.s 2 0), (.s 2 0)), (3, 3), (4, 4), (6, 13)] [] (by simp only [push_cast, leL_flD, renL_flD, seval]) (by simp only [push_cast, leL_flD, renL_flD, seval]) rfl rfl rfl

set_option maxRecDepth 100000 in
set_option maxHeartbeats 200000000 in
theorem sweep_cycle_all_1_spec (c1 : (List (List Int))) (c3 : (List Int)) (c4 : (List Int)) (c5 : (List Int)) (r : (List Int) × (List (List Int)) × (List Int) × (List Int)) (h : sweep_cycle_all_1 c1 c3 c4 c5 = some r) : SpecW Try.prog 27 [.ptr 0 0] [(0, .row 54 [.own 1 0 c1.length, .own 3 0 c3.length, .own 4 0 c4.length, .own 5 0 c5.length]), (1, .row 23 (flD dLListInt [2] c1)), ((.s 2 0), .fam (famD dLListInt 0 c1)), (3, .row 3 (fl c3)), (4, .row 3 (fl c4)), (5, .row 3 (fl c5))] 6 (fun x h n => x = .tup [] ∧ h = [(0, .row 54 [.own 1 0 r.2.1.length, .own 3 0 r.2.2.1.length, .own 4 0 r.2.2.2.length, .own 6 0 r.1.length]), (1, .row 23 (flD dLListInt [2] r.2.1)), ((.s 2 0), .fam (famD dLListInt 0 r.2.1)), (3, .row 3 (fl r.2.2.1)), (4, .row 3 (fl r.2.2.2)), (5, .dead), (6, .row 3 (fl r.1))] ∧ n = 7) := by
  unfold sweep_cycle_all_1 at h
  refine spec_of (draw_ok _) Try.func27 rfl (by decide) rfl (by kernel_rfl) ?_
  refine block_np ?_
  refine loop_sx (S := (List (List Int)) × (List Int) × (List Int) × (List Int)) (fun a => ([(0, .ptr 0 0)], [(0, .row 54 [.own 1 0 a.1.length, .own 3 0 a.2.1.length, .own 4 0 a.2.2.1.length, .own 6 0 a.2.2.2.length]), (1, .row 23 (flD dLListInt [2] a.1)), ((.s 2 0), .fam (famD dLListInt 0 a.1)), (3, .row 3 (fl a.2.1)), (4, .row 3 (fl a.2.2.1)), (5, .dead), (6, .row 3 (fl a.2.2.2))], 7)) h (leSt_m [(0, 0), (1, 1), ((.s 2 0), (.s 2 0)), (3, 3), (4, 4), (6, 5)] [] (by simp only [push_cast, leL_flD, renL_flD, seval]) (by simp only [push_cast, leL_flD, renL_flD, seval]) rfl rfl rfl) ?_
  rintro ⟨c1q5, c3q5, c4q5, c6q4⟩ o2 R2 h hr2 hn2 hx2 ht2
  try dsimp only at h hn2 ⊢
  unfold sweep_cycle_all_1_l1 at h
  try dsimp only at h
  refine seq_np ?_
  refine seq_np ?_
  refine reg_f ?_
  refine rs 1 [] [] (by kernel_rfl) allP_nil ?_
  obtain ⟨r913, hr913, h⟩ := bind_sx h
  refine call_x (sweep_cycle_mark_1_spec c1q5 c3q5 c4q5 c6q4 r913 hr913) (args := [.ptr 0 0]) (dst := (some 3)) (by kernel_rfl) [(0, .row 54 [.own 1 0 c1q5.length, .own 3 0 c3q5.length, .own 4 0 c4q5.length, .own 6 0 c6q4.length]), (1, .row 23 (flD dLListInt [2] c1q5)), ((.s 2 0), .fam (famD dLListInt 0 c1q5)), (3, .row 3 (fl c3q5)), (4, .row 3 (fl c4q5)), (5, .dead), (6, .row 3 (fl c6q4))] 7 (by kernel_rfl) [(0, 0), (1, 1), ((.s 2 0), (.s 2 0)), (3, 3), (4, 4), (5, 6)] [] (bS r913.1) [(0, .row 54 [.own 1 0 r913.2.2.1.length, .own 3 0 r913.2.2.2.1.length, .own 4 0 r913.2.2.2.2.length, .own 13 0 r913.2.1.length]), (1, .row 23 (flD dLListInt [2] r913.2.2.1)), ((.s 2 0), .fam (famD dLListInt 0 r913.2.2.1)), (3, .row 3 (fl r913.2.2.2.1)), (4, .row 3 (fl r913.2.2.2.2)), (6, .dead), (13, .row 3 (fl r913.2.1)), (0, .dead), (1, .dead), ((.s 2 0), .dead), (3, .dead), (4, .dead), (6, .dead)] (by simp only [push_cast, leL_flD, renL_flD, seval]) (by simp only [push_cast, leL_flD, renL_flD, seval]) (by kernel_rfl) (.inl rfl) (by first | (simp only [push_cast, leL_flD, renL_flD, seval]; done) | (simp only [push_cast, leL_flD, renL_flD, seval]; kernel_rfl) | kernel_rfl) (by first | (simp only [push_cast, leL_flD, renL_flD, seval]; done) | (simp only [push_cast, leL_flD, renL_flD, seval]; kernel_rfl) | kernel_rfl) ?_ (hfam := (And.intro trivial (And.intro trivial (And.intro (fun _ => Or.inl rfl) (And.intro trivial (And.intro trivial (And.intro trivial trivial)))))))
  refine rf [(0, .ptr 0 0), (3, bS r913.1)] [(0, .row 54 [.own 1 0 r913.2.2.1.length, .own 3 0 r913.2.2.2.1.length, .own 4 0 r913.2.2.2.2.length, .own 13 0 r913.2.1.length]), (1, .row 23 (flD dLListInt [2] r913.2.2.1)), ((.s 2 0), .fam (famD dLListInt 0 r913.2.2.1)), (3, .row 3 (fl r913.2.2.2.1)), (4, .row 3 (fl r913.2.2.2.2)), (5, .dead), (6, .dead), (13, .row 3 (fl r913.2.1))] 14 (by kernel_rfl) ?_
  refine wk_id ?_
  refine cond_sx h (by kernel_rfl) (fun g917 h => ?_) (fun g917 h => ?_)
  · refine wk_id ?_
    refine block_np ?_
    refine wk_id ?_
    exact hn2 (r913.2.2.1, r913.2.2.2.1, r913.2.2.2.2, r913.2.1) _ _ _ (Option.some.inj h).symm (leSt_m [(0, 0), (1, 1), ((.s 2 0), (.s 2 0)), (3, 3), (4, 4), (6, 13)] [] (by simp only [push_cast, leL_flD, renL_flD, seval]) (by simp only [push_cast, leL_flD, renL_flD, seval]) rfl rfl rfl)
  · change R2 (.exit 0) _ _ _
    refine ex_cast hx2 (id := 0) ?_
    obtain ⟨r0, h, e0⟩ := map_sx h
    have e1 := hr2 r0 e0.symm
    subst r0
    refine wk_id ?_
    obtain rfl := Option.some.inj h
    refine ret_an (.tup []) (by kernel_rfl) ?_
    exact ret_e [(0, 0), (1, 1), ((.s 2 0), (.s 2 0)), (3, 3), (4, 4), (6, 13)] [] (by simp only [push_cast, leL_flD, renL_flD, seval]) (by simp only [push_cast, leL_flD, renL_flD, seval]) rfl rfl rfl

set_option maxRecDepth 100000 in
set_option maxHeartbeats 200000000 in
theorem sweep_cycle_whites_spec (c : cycle) (r : (List Int)) (h : sweep_cycle_whites c = some r) : SpecW Try.prog 28 [.iptr (Enc.cells c) 0] [] 0 (fun x h n => x = .own 0 0 r.length ∧ h = [(0, .row 3 (fl r))] ∧ n = 1) := by
  unfold sweep_cycle_whites at h
  refine spec_of (draw_ok _) Try.func28 rfl (by decide) rfl (by kernel_rfl) ?_
  refine seq_np ?_
  refine reg_f ?_
  refine rs 1 [] [] (by kernel_rfl) allP_nil ?_
  refine rf [(0, .iptr (Enc.cells c) 0)] [] 0 (by kernel_rfl) ?_
  refine wk_id ?_
  refine seq_np ?_
  refine reg_f ?_
  refine rs 1 [] [] (by kernel_rfl) allP_nil ?_
  refine rf [(0, .iptr (Enc.cells c) 0), (3, .v (.slice none 0 0))] [] 0 (by kernel_rfl) ?_
  refine wk_id ?_
  refine seq_np ?_
  refine seq_np ?_
  refine reg_f ?_
  refine rs 6 [] [] (by kernel_rfl) allP_nil ?_
  refine rf [(3, .v (.slice none 0 0)), (9, .sl c.colour.length (fl c.colour)), (10, iS ((c.colour.length : Nat) : Int)), (11, iS 0)] [] 0 (by kernel_rfl) ?_
  refine wk_id ?_
  refine block_np ?_
  refine loop_sx (S := Int × (List Int)) (fun a => ([(3, .own 0 0 a.2.length), (9, .sl c.colour.length (fl c.colour)), (10, iS ((c.colour.length : Nat) : Int)), (11, iS a.1)], [(0, .row 3 (fl a.2))], 1)) h (leSt_m [] [] (by simp only [push_cast, leL_flD, renL_flD, seval]) (by simp only [push_cast, leL_flD, renL_flD, seval]) rfl rfl rfl) ?_
  rintro ⟨t11q7, c0q19⟩ o2 R2 h hr2 hn2 hx2 ht2
  try dsimp only at h hn2 ⊢
  unfold sweep_cycle_whites_l1 at h
  try dsimp only at h
  refine seq_np ?_
  refine reg_f ?_
  refine rs 1 [] [] (by kernel_rfl) allP_nil ?_
  refine rf [(3, .own 0 0 c0q19.length), (9, .sl c.colour.length (fl c.colour)), (10, iS ((c.colour.length : Nat) : Int)), (11, iS t11q7), (12, bS (decide (t11q7 < ((c.colour.length : Nat) : Int))))] [(0, .row 3 (fl c0q19))] 1 (by kernel_rfl) ?_
  refine wk_id ?_
  refine seq_np ?_
  refine cond_sx h (by kernel_rfl) (fun g1038 h => ?_) (fun g1038 h => ?_)
  · refine wk_id ?_
    refine seq_np ?_
    refine block_cut (A := (List Int)) (fun a => ([(3, .own 0 0 a.length), (9, .sl c.colour.length (fl c.colour)), (10, iS ((c.colour.length : Nat) : Int)), (11, iS t11q7)], [(0, .row 3 (fl a))], 1)) (fun a => (sweep_cycle_whites_j1 c t11q7 a) = some o2) (fun K1028 hK1028 => ?_) ?_
    · refine chk_sx h (fun g1032 h => ?_)
      refine seq_np ?_
      refine reg_f ?_
      have k1031 : 0 ≤ t11q7 ∧ t11q7 < ((c.colour.length : Nat) : Int) := by first | simpa only [Bool.and_eq_true, decide_eq_true_eq, bne_iff_ne, ne_eq] using g1032 | (simp at g1032 ⊢; omega)
      refine rs 5 [none, some ⟨.iptr (fl c.colour) ((t11q7).toNat * 1), [], 1, []⟩, some ⟨iS (ix c.colour t11q7), [], 1, []⟩] _ (by kernel_rfl) (allP_cons (ob_ld c.colour t11q7 1 0 ((t11q7).toNat * 1) k1031 rfl (by decide) (by first | rfl | omega) (dflS Try.prog 3) (iS (ix c.colour t11q7)) rfl 1 []) (allP_cons (ob_ix_l c.colour 1 1 t11q7 k1031) allP_nil)) ?_
      refine rf [(3, .own 0 0 c0q19.length), (4, iS t11q7), (5, iS (ix c.colour t11q7)), (9, .sl c.colour.length (fl c.colour)), (10, iS ((c.colour.length : Nat) : Int)), (11, iS t11q7)] [(0, .row 3 (fl c0q19))] 1 (by kernel_rfl) ?_
      refine wk_id ?_
      refine seq_np ?_
      refine reg_f ?_
      refine rs 2 [] [] (by kernel_rfl) allP_nil ?_
      refine rf [(3, .own 0 0 c0q19.length), (4, iS t11q7), (9, .sl c.colour.length (fl c.colour)), (10, iS ((c.colour.length : Nat) : Int)), (11, iS t11q7), (17, bS ((ix c.colour t11q7) == 0))] [(0, .row 3 (fl c0q19))] 1 (by kernel_rfl) ?_
      refine wk_id ?_
      refine cond_sx h (by kernel_rfl) (fun g1037 h => ?_) (fun g1037 h => ?_)
      · refine chk_sx h (fun g1036 h => ?_)
        refine reg_f ?_
        have k1035 : (c0q19 ++ ([t11q7] : List Int)).length * 8 ≤ 140737488355328 := by first | simpa only [Bool.and_eq_true, decide_eq_true_eq, bne_iff_ne, ne_eq] using g1036 | (simp at g1036 ⊢; omega)
        refine rs 5 [none, none, none, some ⟨.own 2 0 (c0q19 ++ ([t11q7] : List Int)).length, [(2, .row 3 (fl (c0q19 ++ ([t11q7] : List Int)))), (0, .dead)], 3, [0, 1]⟩] _ (by kernel_rfl) (allP_cons (ob_app (P := Try.prog) c0q19 ([t11q7] : List Int) 1 8 rfl (appCells (fl ([t11q7] : List Int)) 0 (([t11q7] : List Int).length * 1)) ([t11q7] : List Int).length (app_own ([t11q7] : List Int) 1 rfl) rfl (0 + ([t11q7] : List Int).length * 1 ≤ (fl ([t11q7] : List Int)).length) (app_own_le ([t11q7] : List Int) 1 rfl) 3 (by kernel_rfl) (by decide) k1035 0 2 [1]) allP_nil) ?_
        refine rf [(3, .own 2 0 (c0q19 ++ ([t11q7] : List Int)).length), (9, .sl c.colour.length (fl c.colour)), (10, iS ((c.colour.length : Nat) : Int)), (11, iS t11q7)] [(0, .dead), (1, .row 3 (fl ([t11q7] : List Int))), (2, .row 3 (fl (c0q19 ++ ([t11q7] : List Int))))] 3 (by kernel_rfl) ?_
        exact hK1028 ((c0q19 ++ ([t11q7] : List Int))) _ _ _ h (leSt_m [(0, 2)] [] (by simp only [push_cast, leL_flD, renL_flD, seval]) (by simp only [push_cast, leL_flD, renL_flD, seval]) rfl rfl rfl)
      · exact hK1028 (c0q19) _ _ _ h (leSt_m [(0, 0)] [] (by simp only [push_cast, leL_flD, renL_flD, seval]) (by simp only [push_cast, leL_flD, renL_flD, seval]) rfl rfl rfl)
    · rintro c0q21 h
      try dsimp only at h ⊢
      unfold sweep_cycle_whites_j1 at h
      refine wk_id ?_
      refine reg_f ?_
      refine rs 2 [] [] (by kernel_rfl) allP_nil ?_
      refine rf [(3, .own 0 0 c0q21.length), (9, .sl c.colour.length (fl c.colour)), (10, iS ((c.colour.length : Nat) : Int)), (11, iS (IntKind.i64.wrap (t11q7 + 1)))] [(0, .row 3 (fl c0q21))] 1 (by kernel_rfl) ?_
      exact hn2 ((IntKind.i64.wrap (t11q7 + 1)), c0q21) _ _ _ (Option.some.inj h).symm (leSt_m [(0, 0)] [] (by simp only [push_cast, leL_flD, renL_flD, seval]) (by simp only [push_cast, leL_flD, renL_flD, seval]) rfl rfl rfl)
  · change R2 (.exit 0) _ _ _
    refine ex_cast hx2 (id := 0) ?_
    obtain ⟨r0, h, e0⟩ := map_sx h
    have e1 := hr2 r0 e0.symm
    subst r0
    refine wk_id ?_
    refine wk_id ?_
    refine seq_np ?_
    refine reg_f ?_
    refine rs 2 [] [] (by kernel_rfl) allP_nil ?_
    refine rf [(2, .own 0 0 c0q19.length)] [(0, .row 3 (fl c0q19))] 1 (by kernel_rfl) ?_
    refine wk_id ?_
    obtain rfl := Option.some.inj h
    refine ret_at (.own 0 0 c0q19.length) (by kernel_rfl) ?_
    exact ret_e [(0, 0)] [] (by simp only [push_cast, leL_flD, renL_flD, seval]) (by simp only [push_cast, leL_flD, renL_flD, seval]) rfl rfl rfl

set_option maxRecDepth 100000 in
set_option maxHeartbeats 200000000 in
theorem sweep_Lost_spec (xh : GHeap) (r : Fault × (List Int)) (h : sweep_Lost xh = some r) : SpecW Try.prog 12 [.agg (Enc.cells xh)] [] 0 (fun x h n => x = .tup [.own 0 0 r.2.length, .agg (Enc.cells r.1)] ∧ h = [(0, .row 3 (fl r.2))] ∧ n = 1) := by
  unfold sweep_Lost at h
  refine spec_of (draw_ok _) Try.func12 rfl (by decide) rfl (by kernel_rfl) ?_
  refine seq_np ?_
  refine reg_f ?_
  refine rs 3 [] [] (by kernel_rfl) allP_nil ?_
  refine rf [(1, .ptr 0 0), (3, .ptr 1 0)] [(0, .row 25 (Enc.cells xh)), (1, .row 30 [iS 0, iS 0])] 2 (by kernel_rfl) ?_
  refine wk_id ?_
  refine seq_np ?_
  refine seq_np ?_
  refine reg_f ?_
  refine rs 1 [] [] (by kernel_rfl) allP_nil ?_
  obtain ⟨r1043, hr1043, h⟩ := bind_sx h
  refine run_call 11 [.agg (Enc.cells xh)] (some 7) (by kernel_rfl) ?_
  refine call_0 (sweep_Check_spec xh r1043 hr1043) (by simp only [push_cast, leL_flD, renL_flD, seval]) (by simp only [push_cast, leL_flD, renL_flD, seval]) ?_
  refine back_f ?_
  refine rs 2 [] [] (by kernel_rfl) allP_nil ?_
  refine rf [(1, .ptr 0 0), (3, .ptr 1 0), (4, .ptr 2 0)] [(0, .row 25 (Enc.cells xh)), (1, .row 30 [iS 0, iS 0]), (2, .row 30 (Enc.cells r1043))] 3 (by kernel_rfl) ?_
  refine wk_id ?_
  refine seq_np ?_
  refine reg_f ?_
  refine rs 3 [] [] (by kernel_rfl) allP_nil ?_
  refine rf [(1, .ptr 0 0), (3, .ptr 1 0), (4, .ptr 2 0), (10, bS (r1043.Code != 0))] [(0, .row 25 (Enc.cells xh)), (1, .row 30 [iS 0, iS 0]), (2, .row 30 (Enc.cells r1043))] 3 (by kernel_rfl) ?_
  refine wk_id ?_
  refine cond_sx h (by kernel_rfl) (fun g1064 h => ?_) (fun g1064 h => ?_)
  · refine seq_np ?_
    refine reg_t ?_
    refine rs 3 [] [] (by kernel_rfl) allP_nil ?_
    refine rt [(2, .v (.slice none 0 0)), (3, .ptr 1 0)] [(0, .row 25 (Enc.cells xh)), (1, .row 30 (Enc.cells r1043)), (2, .row 30 (Enc.cells r1043))] 6 follows (by kernel_rfl) ?_
    refine wk_id ?_
    obtain rfl := Option.some.inj h
    refine ret_at (.tup [.v (.slice none 0 0), .agg (Enc.cells r1043)]) (by kernel_rfl) ?_
    exact ret_e [] [] (by simp only [push_cast, leL_flD, renL_flD, seval]) (by simp only [push_cast, leL_flD, renL_flD, seval]) rfl rfl rfl
  · refine wk_id ?_
    refine seq_np ?_
    refine reg_f ?_
    refine rs 1 [] [] (by kernel_rfl) allP_nil ?_
    obtain ⟨r1045, hr1045, h⟩ := bind_sx h
    refine call_x (sweep_newCycle_spec xh r1045 hr1045) (args := [.agg (Enc.cells xh)]) (dst := (some 13)) (by kernel_rfl) [(0, .row 25 (Enc.cells xh)), (1, .row 30 [iS 0, iS 0]), (2, .row 30 (Enc.cells r1043))] 3 (by kernel_rfl) [] [] (.ptr 3 0) [(3, .row 54 [.own 4 0 r1045.1.length, .own 5 0 r1045.2.1.length, .own 6 0 r1045.2.2.length, .v (.slice none 0 0)]), (4, .row 23 (flD dLListInt [7] r1045.1)), (5, .row 3 (fl r1045.2.1)), (6, .row 3 (fl r1045.2.2)), ((.s 7 0), .fam (famD dLListInt 0 r1045.1))] (by simp only [push_cast, leL_flD, renL_flD, seval]) (by simp only [push_cast, leL_flD, renL_flD, seval]) (by kernel_rfl) (.inl rfl) (by first | (simp only [push_cast, leL_flD, renL_flD, seval]; done) | (simp only [push_cast, leL_flD, renL_flD, seval]; kernel_rfl) | kernel_rfl) (by first | (simp only [push_cast, leL_flD, renL_flD, seval]; done) | (simp only [push_cast, leL_flD, renL_flD, seval]; kernel_rfl) | kernel_rfl) ?_
    refine rs 1 [] [] (by kernel_rfl) allP_nil ?_
    refine rf [(3, .ptr 1 0), (5, .ptr 3 0)] [(0, .row 25 (Enc.cells xh)), (1, .row 30 [iS 0, iS 0]), (2, .row 30 (Enc.cells r1043)), (3, .row 54 [.own 4 0 r1045.1.length, .own 5 0 r1045.2.1.length, .own 6 0 r1045.2.2.length, .v (.slice none 0 0)]), (4, .row 23 (flD dLListInt [7] r1045.1)), (5, .row 3 (fl r1045.2.1)), (6, .row 3 (fl r1045.2.2)), ((.s 7 0), .fam (famD dLListInt 0 r1045.1))] 8 (by kernel_rfl) ?_
    refine wk_id ?_
    refine seq_np ?_
    refine reg_f ?_
    refine rs 6 [] [] (by kernel_rfl) allP_nil ?_
    obtain ⟨r1050, hr1050, h⟩ := bind_sx h
    refine call_x (sweep_cycle_shade_1_spec [] r1045.2.1 r1045.1 r1045.2.2 r1050 hr1050) (args := [.ptr 3 0, .own 5 0 r1045.2.1.length]) (dst := (some 20)) (by kernel_rfl) [(0, .row 25 (Enc.cells xh)), (1, .row 30 [iS 0, iS 0]), (2, .row 30 (Enc.cells r1043)), (3, .row 54 [.own 4 0 r1045.1.length, .own 5 0 r1045.2.1.length, .own 6 0 r1045.2.2.length, .v (.slice none 0 0)]), (4, .row 23 (flD dLListInt [7] r1045.1)), (5, .row 3 (fl r1045.2.1)), (6, .row 3 (fl r1045.2.2)), ((.s 7 0), .fam (famD dLListInt 0 r1045.1))] 8 (by kernel_rfl) [(0, 3), (1, 4), ((.s 2 0), (.s 7 0)), (3, 5), (4, 6)] [] (.tup []) [(3, .row 54 [.own 4 0 r1050.2.1.length, .own 5 0 r1050.2.2.1.length, .own 6 0 r1050.2.2.2.length, .own 14 0 r1050.1.length]), (4, .row 23 (flD dLListInt [7] r1050.2.1)), ((.s 7 0), .fam (famD dLListInt 0 r1050.2.1)), (5, .row 3 (fl r1050.2.2.1)), (6, .row 3 (fl r1050.2.2.2)), (13, .dead), (14, .row 3 (fl r1050.1)), (3, .dead), (4, .dead), ((.s 7 0), .dead), (5, .dead), (6, .dead)] (by simp only [push_cast, leL_flD, renL_flD, seval]) (by simp only [push_cast, leL_flD, renL_flD, seval]) (by kernel_rfl) (.inl rfl) (by first | (simp only [push_cast, leL_flD, renL_flD, seval]; done) | (simp only [push_cast, leL_flD, renL_flD, seval]; kernel_rfl) | kernel_rfl) (by first | (simp only [push_cast, leL_flD, renL_flD, seval]; done) | (simp only [push_cast, leL_flD, renL_flD, seval]; kernel_rfl) | kernel_rfl) ?_ (hfam := (And.intro trivial (And.intro trivial (And.intro (fun _ => Or.inl rfl) (And.intro trivial (And.intro trivial trivial))))))
    refine rf [(3, .ptr 1 0), (5, .ptr 3 0)] [(0, .row 25 (Enc.cells xh)), (1, .row 30 [iS 0, iS 0]), (2, .row 30 (Enc.cells r1043)), (3, .row 54 [.own 4 0 r1050.2.1.length, .own 5 0 r1050.2.2.1.length, .own 6 0 r1050.2.2.2.length, .own 14 0 r1050.1.length]), (4, .row 23 (flD dLListInt [7] r1050.2.1)), (5, .row 3 (fl r1050.2.2.1)), (6, .row 3 (fl r1050.2.2.2)), ((.s 7 0), .fam (famD dLListInt 0 r1050.2.1)), (13, .dead), (14, .row 3 (fl r1050.1))] 15 (by kernel_rfl) ?_
    refine wk_id ?_
    refine seq_np ?_
    refine reg_f ?_
    refine rs 1 [] [] (by kernel_rfl) allP_nil ?_
    obtain ⟨r1058, hr1058, h⟩ := bind_sx h
    refine call_x (sweep_cycle_all_1_spec r1050.2.1 r1050.2.2.1 r1050.2.2.2 r1050.1 r1058 hr1058) (args := [.ptr 3 0]) (dst := (some 22)) (by kernel_rfl) [(0, .row 25 (Enc.cells xh)), (1, .row 30 [iS 0, iS 0]), (2, .row 30 (Enc.cells r1043)), (3, .row 54 [.own 4 0 r1050.2.1.length, .own 5 0 r1050.2.2.1.length, .own 6 0 r1050.2.2.2.length, .own 14 0 r1050.1.length]), (4, .row 23 (flD dLListInt [7] r1050.2.1)), (5, .row 3 (fl r1050.2.2.1)), (6, .row 3 (fl r1050.2.2.2)), ((.s 7 0), .fam (famD dLListInt 0 r1050.2.1)), (13, .dead), (14, .row 3 (fl r1050.1))] 15 (by kernel_rfl) [(0, 3), (1, 4), ((.s 2 0), (.s 7 0)), (3, 5), (4, 6), (5, 14)] [] (.tup []) [(3, .row 54 [.own 4 0 r1058.2.1.length, .own 5 0 r1058.2.2.1.length, .own 6 0 r1058.2.2.2.length, .own 21 0 r1058.1.length]), (4, .row 23 (flD dLListInt [7] r1058.2.1)), ((.s 7 0), .fam (famD dLListInt 0 r1058.2.1)), (5, .row 3 (fl r1058.2.2.1)), (6, .row 3 (fl r1058.2.2.2)), (14, .dead), (21, .row 3 (fl r1058.1)), (3, .dead), (4, .dead), ((.s 7 0), .dead), (5, .dead), (6, .dead), (14, .dead)] (by simp only [push_cast, leL_flD, renL_flD, seval]) (by simp only [push_cast, leL_flD, renL_flD, seval]) (by kernel_rfl) (.inl rfl) (by first | (simp only [push_cast, leL_flD, renL_flD, seval]; done) | (simp only [push_cast, leL_flD, renL_flD, seval]; kernel_rfl) | kernel_rfl) (by first | (simp only [push_cast, leL_flD, renL_flD, seval]; done) | (simp only [push_cast, leL_flD, renL_flD, seval]; kernel_rfl) | kernel_rfl) ?_ (hfam := (And.intro trivial (And.intro trivial (And.intro (fun _ => Or.inl rfl) (And.intro trivial (And.intro trivial (And.intro trivial trivial)))))))
    refine rf [(3, .ptr 1 0), (5, .ptr 3 0)] [(0, .row 25 (Enc.cells xh)), (1, .row 30 [iS 0, iS 0]), (2, .row 30 (Enc.cells r1043)), (3, .row 54 [.own 4 0 r1058.2.1.length, .own 5 0 r1058.2.2.1.length, .own 6 0 r1058.2.2.2.length, .own 21 0 r1058.1.length]), (4, .row 23 (flD dLListInt [7] r1058.2.1)), (5, .row 3 (fl r1058.2.2.1)), (6, .row 3 (fl r1058.2.2.2)), ((.s 7 0), .fam (famD dLListInt 0 r1058.2.1)), (13, .dead), (14, .dead), (21, .row 3 (fl r1058.1))] 22 (by kernel_rfl) ?_
    refine wk_id ?_
    refine seq_np ?_
    refine reg_f ?_
    refine rs 1 [] [] (by kernel_rfl) allP_nil ?_
    obtain ⟨r1063, hr1063, h⟩ := bind_sx h
    refine call_x (sweep_cycle_whites_spec (cycle.mk r1058.2.1 r1058.2.2.1 r1058.2.2.2 r1058.1) r1063 hr1063) (args := [.ptr 3 0]) (dst := (some 24)) (by kernel_rfl) [(0, .row 25 (Enc.cells xh)), (1, .row 30 [iS 0, iS 0]), (2, .row 30 (Enc.cells r1043)), (3, .row 54 [.own 4 0 r1058.2.1.length, .own 5 0 r1058.2.2.1.length, .own 6 0 r1058.2.2.2.length, .own 21 0 r1058.1.length]), (4, .row 23 (flD dLListInt [7] r1058.2.1)), (5, .row 3 (fl r1058.2.2.1)), (6, .row 3 (fl r1058.2.2.2)), ((.s 7 0), .fam (famD dLListInt 0 r1058.2.1)), (13, .dead), (14, .dead), (21, .row 3 (fl r1058.1))] 22 (by kernel_rfl) [] [4, (.s 7 0), 5, 6, 21, 3] (.own 22 0 r1063.length) [(22, .row 3 (fl r1063))] (by simp only [↓leS_frzD dLListInt [7] r1058.2.1, ↓leS_frzD dLListInt [7] r1058.2.1, leS_frz, leL_flD, renL_flD, push_cast, seval]) (by simp only [↓leS_frzD dLListInt [7] r1058.2.1, ↓leS_frzD dLListInt [7] r1058.2.1, leS_frz, leL_flD, renL_flD, push_cast, seval]) (by kernel_rfl) (.inr ⟨by simp only [push_cast, leL_flD, renL_flD, seval], by simp only [push_cast, leL_flD, renL_flD, seval]⟩) (by simp only [push_cast, leL_flD, renL_flD, seval]) (by simp only [push_cast, leL_flD, renL_flD, seval]) ?_
    refine rs 3 [] [] (by kernel_rfl) allP_nil ?_
    refine rf [(2, .own 22 0 r1063.length), (3, .ptr 1 0)] [(0, .row 25 (Enc.cells xh)), (1, .row 30 [iS 0, iS 0]), (2, .row 30 (Enc.cells r1043)), (3, .row 54 [.own 4 0 r1058.2.1.length, .own 5 0 r1058.2.2.1.length, .own 6 0 r1058.2.2.2.length, .own 21 0 r1058.1.length]), (4, .row 23 (flD dLListInt [7] r1058.2.1)), (5, .row 3 (fl r1058.2.2.1)), (6, .row 3 (fl r1058.2.2.2)), ((.s 7 0), .fam (famD dLListInt 0 r1058.2.1)), (13, .dead), (14, .dead), (21, .row 3 (fl r1058.1)), (22, .row 3 (fl r1063))] 23 (by kernel_rfl) ?_
    refine wk_id ?_
    obtain rfl := Option.some.inj h
    refine ret_at (.tup [.own 22 0 r1063.length, .agg [iS 0, iS 0]]) (by kernel_rfl) ?_
    exact ret_e [(0, 22)] [] (by simp only [push_cast, leL_flD, renL_flD, seval]) (by simp only [push_cast, leL_flD, renL_flD, seval]) rfl rfl rfl

set_option maxRecDepth 100000 in
set_option maxHeartbeats 200000000 in
theorem sweep_cycle_register_spec (c : cycle) (xa : Int) (r : Bool) (h : sweep_cycle_register c xa = some r) : SpecW Try.prog 38 [.iptr (Enc.cells c) 0, iS xa] [] 0 (fun x h n => x = bS r ∧ h = [] ∧ n = 0) := by
  unfold sweep_cycle_register at h
  refine spec_of (draw_ok _) Try.func38 rfl (by decide) rfl (by kernel_rfl) ?_
  refine seq_np ?_
  refine reg_f ?_
  refine rs 1 [] [] (by kernel_rfl) allP_nil ?_
  refine rf [(0, .iptr (Enc.cells c) 0), (1, iS xa)] [] 0 (by kernel_rfl) ?_
  refine wk_id ?_
  refine seq_cut (A := Unit) (fun _ => ([(4, bS ((decide ((0 : Int) ≤ xa)) && (decide (xa < ((c.Heap_Roots.length : Nat) : Int)))))], [], 0)) (fun _ => True) (fun K1083 hK1083 => ?_) (fun _ _ => ?_)
  · refine reg_f ?_
    refine rs 3 [] [] (by kernel_rfl) allP_nil ?_
    refine run_split 7 (decide ((0 : Int) ≤ xa)) (.inl (by kernel_rfl)) (fun g1084 => ?_) (fun g1084 => ?_)
    · refine rs 10 [] [] (by kernel_rfl) allP_nil ?_
      refine rf [(4, bS (decide (xa < ((c.Heap_Roots.length : Nat) : Int))))] [] 0 (by kernel_rfl) ?_
      exact hK1083 () _ _ _ trivial (leSt_m [] [] (by (try simp only [g1084]) <;> simp only [push_cast, leL_flD, renL_flD, seval]) (by (try simp only [g1084]) <;> simp only [push_cast, leL_flD, renL_flD, seval]) rfl rfl rfl)
    · refine rs 10 [] [] (by kernel_rfl) allP_nil ?_
      refine rf [(4, bS false)] [] 0 (by kernel_rfl) ?_
      exact hK1083 () _ _ _ trivial (leSt_m [] [] (by (try simp only [g1084]) <;> simp only [push_cast, leL_flD, renL_flD, seval]) (by (try simp only [g1084]) <;> simp only [push_cast, leL_flD, renL_flD, seval]) rfl rfl rfl)
  · dsimp only
    obtain rfl := Option.some.inj h
    refine ret_at (bS ((decide ((0 : Int) ≤ xa)) && (decide (xa < ((c.Heap_Roots.length : Nat) : Int))))) (by kernel_rfl) ?_
    exact ret_e [] [] (by simp only [push_cast, leL_flD, renL_flD, seval]) (by simp only [push_cast, leL_flD, renL_flD, seval]) rfl rfl rfl

set_option maxRecDepth 100000 in
set_option maxHeartbeats 200000000 in
theorem sweep_cycle_slot_1_spec (xa : Int) (b : Int) (c1 : (List (List Int))) (c3 : (List Int)) (c4 : (List Int)) (c5 : (List Int)) (r : Int × Int × Bool × (List (List Int)) × (List Int) × (List Int) × (List Int)) (h : sweep_cycle_slot_1 xa b c1 c3 c4 c5 = some r) : SpecW Try.prog 36 [.ptr 0 0, iS xa, iS b] [(0, .row 54 [.own 1 0 c1.length, .own 3 0 c3.length, .own 4 0 c4.length, .own 5 0 c5.length]), (1, .row 23 (flD dLListInt [2] c1)), ((.s 2 0), .fam (famD dLListInt 0 c1)), (3, .row 3 (fl c3)), (4, .row 3 (fl c4)), (5, .row 3 (fl c5))] 6 (fun x h n => x = (bif r.2.2.1 then .ptr (.s 2 r.1) (0 + (r.2.1).toNat * 1) else .v (.pointer none)) ∧ h = [(0, .row 54 [.own 1 0 r.2.2.2.1.length, .own 3 0 r.2.2.2.2.1.length, .own 4 0 r.2.2.2.2.2.1.length, .own 5 0 r.2.2.2.2.2.2.length]), (1, .row 23 (flD dLListInt [2] r.2.2.2.1)), ((.s 2 0), .fam (famD dLListInt 0 r.2.2.2.1)), (3, .row 3 (fl r.2.2.2.2.1)), (4, .row 3 (fl r.2.2.2.2.2.1)), (5, .row 3 (fl r.2.2.2.2.2.2))] ∧ n = 6) := by
  unfold sweep_cycle_slot_1 at h
  refine spec_of (draw_ok _) Try.func36 rfl (by decide) rfl (by kernel_rfl) ?_
  refine seq_np ?_
  refine reg_f ?_
  refine rs 1 [] [] (by kernel_rfl) allP_nil ?_
  refine rf [(0, .ptr 0 0), (1, iS xa), (2, iS b)] [(0, .row 54 [.own 1 0 c1.length, .own 3 0 c3.length, .own 4 0 c4.length, .own 5 0 c5.length]), (1, .row 23 (flD dLListInt [2] c1)), ((.s 2 0), .fam (famD dLListInt 0 c1)), (3, .row 3 (fl c3)), (4, .row 3 (fl c4)), (5, .row 3 (fl c5))] 6 (by kernel_rfl) ?_
  refine wk_id ?_
  refine seq_np ?_
  refine seq_cut (A := Bool) (fun a => ([(0, .ptr 0 0), (1, iS xa), (2, iS b), (22, bS a)], [(0, .row 54 [.own 1 0 c1.length, .own 3 0 c3.length, .own 4 0 c4.length, .own 5 0 c5.length]), (1, .row 23 (flD dLListInt [2] c1)), ((.s 2 0), .fam (famD dLListInt 0 c1)), (3, .row 3 (fl c3)), (4, .row 3 (fl c4)), (5, .row 3 (fl c5))], 6)) (fun a => (sweep_cycle_slot_1_j1 xa b c1 c3 c4 c5 a) = some r) (fun K1127 hK1127 => ?_) ?_
  · refine reg_f ?_
    refine rs 2 [] [] (by kernel_rfl) allP_nil ?_
    obtain ⟨r1128, hr1128, h⟩ := bind_sx h
    refine call_x (sweep_cycle_register_spec (cycle.mk c1 c3 c4 c5) xa r1128 hr1128) (args := [.ptr 0 0, iS xa]) (dst := (some 10)) (by kernel_rfl) [(0, .row 54 [.own 1 0 c1.length, .own 3 0 c3.length, .own 4 0 c4.length, .own 5 0 c5.length]), (1, .row 23 (flD dLListInt [2] c1)), ((.s 2 0), .fam (famD dLListInt 0 c1)), (3, .row 3 (fl c3)), (4, .row 3 (fl c4)), (5, .row 3 (fl c5))] 6 (by kernel_rfl) [] [1, (.s 2 0), 3, 4, 5, 0] (bS r1128) [] (by simp only [↓leS_frzD dLListInt [2] c1, ↓leS_frzD dLListInt [2] c1, leS_frz, leL_flD, renL_flD, push_cast, seval]) (by simp only [↓leS_frzD dLListInt [2] c1, ↓leS_frzD dLListInt [2] c1, leS_frz, leL_flD, renL_flD, push_cast, seval]) (by kernel_rfl) (.inr ⟨by simp only [push_cast, leL_flD, renL_flD, seval], by simp only [push_cast, leL_flD, renL_flD, seval]⟩) (by simp only [push_cast, leL_flD, renL_flD, seval]) (by simp only [push_cast, leL_flD, renL_flD, seval]) ?_
    refine rs 2 [] [] (by kernel_rfl) allP_nil ?_
    refine run_br h 12 (.inl (by kernel_rfl)) (fun g1129 h => ?_) (fun g1129 h => ?_)
    · refine rs 10 [] [] (by kernel_rfl) allP_nil ?_
      refine rf [(0, .ptr 0 0), (1, iS xa), (2, iS b), (22, bS true)] [(0, .row 54 [.own 1 0 c1.length, .own 3 0 c3.length, .own 4 0 c4.length, .own 5 0 c5.length]), (1, .row 23 (flD dLListInt [2] c1)), ((.s 2 0), .fam (famD dLListInt 0 c1)), (3, .row 3 (fl c3)), (4, .row 3 (fl c4)), (5, .row 3 (fl c5))] 6 (by kernel_rfl) ?_
      exact hK1127 (true) _ _ _ h (leSt_m [(0, 0), (1, 1), ((.s 2 0), (.s 2 0)), (3, 3), (4, 4), (5, 5)] [] (by (try simp only [g1129]) <;> simp only [push_cast, leL_flD, renL_flD, seval]) (by (try simp only [g1129]) <;> simp only [push_cast, leL_flD, renL_flD, seval]) rfl rfl rfl)
    · refine chk_sx h (fun g1131 h => ?_)
      have k1130 : 0 ≤ xa ∧ xa < ((c3.length : Nat) : Int) := by first | simpa only [Bool.and_eq_true, decide_eq_true_eq, bne_iff_ne, ne_eq] using g1131 | (simp at g1131 ⊢; omega)
      refine rs 10 [none, none, none, none, none, none, some ⟨.ptr 3 (0 + (xa).toNat * 1), [], 6, [3]⟩, some ⟨iS (ix c3 xa), [], 6, [3]⟩] _ (by kernel_rfl) (allP_cons (ob_ld c3 xa 1 0 (0 + (xa).toNat * 1) k1130 rfl (by decide) (by first | rfl | omega) (dflS Try.prog 3) (iS (ix c3 xa)) rfl 6 [3]) (allP_cons (ob_ix_o 3 c3.length 0 1 6 xa k1130) allP_nil)) ?_
      refine rf [(0, .ptr 0 0), (1, iS xa), (2, iS b), (22, bS (decide ((ix c3 xa) < 0)))] [(0, .row 54 [.own 1 0 c1.length, .own 3 0 c3.length, .own 4 0 c4.length, .own 5 0 c5.length]), (1, .row 23 (flD dLListInt [2] c1)), ((.s 2 0), .fam (famD dLListInt 0 c1)), (3, .row 3 (fl c3)), (4, .row 3 (fl c4)), (5, .row 3 (fl c5))] 6 (by kernel_rfl) ?_
      exact hK1127 ((decide ((ix c3 xa) < 0))) _ _ _ h (leSt_m [(0, 0), (1, 1), ((.s 2 0), (.s 2 0)), (3, 3), (4, 4), (5, 5)] [] (by (try simp only [g1129]) <;> simp only [push_cast, leL_flD, renL_flD, seval]) (by (try simp only [g1129]) <;> simp only [push_cast, leL_flD, renL_flD, seval]) rfl rfl rfl)
  · rintro t22q2 h
    try dsimp only at h ⊢
    unfold sweep_cycle_slot_1_j1 at h
    refine cond_sx h (by kernel_rfl) (fun g1150 h => ?_) (fun g1150 h => ?_)
    · refine seq_np ?_
      refine reg_f ?_
      refine rs 1 [] [] (by kernel_rfl) allP_nil ?_
      refine rf [(6, .v (.pointer none))] [(0, .row 54 [.own 1 0 c1.length, .own 3 0 c3.length, .own 4 0 c4.length, .own 5 0 c5.length]), (1, .row 23 (flD dLListInt [2] c1)), ((.s 2 0), .fam (famD dLListInt 0 c1)), (3, .row 3 (fl c3)), (4, .row 3 (fl c4)), (5, .row 3 (fl c5))] 6 (by kernel_rfl) ?_
      refine wk_id ?_
      obtain rfl := Option.some.inj h
      refine ret_at (.v (.pointer none)) (by kernel_rfl) ?_
      exact ret_e [(0, 0), (1, 1), ((.s 2 0), (.s 2 0)), (3, 3), (4, 4), (5, 5)] [] (by simp only [push_cast, leL_flD, renL_flD, seval]) (by simp only [push_cast, leL_flD, renL_flD, seval]) rfl rfl rfl
    · refine wk_id ?_
      refine chk_sx h (fun g1137 h => ?_)
      refine chk_sx h (fun g1139 h => ?_)
      refine seq_np ?_
      refine reg_t ?_
      have k1136 : 0 ≤ xa ∧ xa < ((c3.length : Nat) : Int) := by first | simpa only [Bool.and_eq_true, decide_eq_true_eq, bne_iff_ne, ne_eq] using g1137 | (simp at g1137 ⊢; omega)
      have k1138 : 0 ≤ (ix c3 xa) ∧ (ix c3 xa) < ((c1.length : Nat) : Int) := by first | simpa only [Bool.and_eq_true, decide_eq_true_eq, bne_iff_ne, ne_eq] using g1139 | (simp at g1139 ⊢; omega)
      refine rs 16 [none, none, none, none, none, none, none, none, none, none, none, some ⟨.ptr 3 (0 + (xa).toNat * 1), [], 17, [3]⟩, some ⟨iS (ix c3 xa), [], 18, [3]⟩, some ⟨.ptr 1 (0 + ((ix c3 xa)).toNat * 1), [], 19, [1]⟩, some ⟨.own (.s 2 (ix c3 xa)) 0 (ixD c1 (ix c3 xa)).length, [], 20, [1]⟩] _ (by kernel_rfl) (allP_cons (ob_ldD dLListInt [2] c1 (ix c3 xa) 1 0 (0 + ((ix c3 xa)).toNat * 1) k1138 rfl (by decide) (by first | rfl | omega) (dflS Try.prog 23) (.own (.s 2 (ix c3 xa)) 0 (ixD c1 (ix c3 xa)).length) rfl 20 [1]) (allP_cons (ob_ix_o 1 c1.length 0 1 19 (ix c3 xa) k1138) (allP_cons (ob_ld c3 xa 1 0 (0 + (xa).toNat * 1) k1136 rfl (by decide) (by first | rfl | omega) (dflS Try.prog 3) (iS (ix c3 xa)) rfl 18 [3]) (allP_cons (ob_ix_o 3 c3.length 0 1 17 xa k1136) allP_nil)))) ?_
      refine rt [(2, iS b), (7, .own (.s 2 (ix c3 xa)) 0 (ixD c1 (ix c3 xa)).length)] [(0, .row 54 [.own 1 0 c1.length, .own 3 0 c3.length, .own 4 0 c4.length, .own 5 0 c5.length]), (1, .row 23 (flD dLListInt [2] c1)), ((.s 2 0), .fam (famD dLListInt 0 c1)), (3, .row 3 (fl c3)), (4, .row 3 (fl c4)), (5, .row 3 (fl c5))] 22 follows (by kernel_rfl) ?_
      refine wk_id ?_
      refine seq_np ?_
      refine seq_cut (A := Unit) (fun _ => ([(2, iS b), (7, .own (.s 2 (ix c3 xa)) 0 (ixD c1 (ix c3 xa)).length), (45, bS ((decide (b < 0)) || (decide ((((ixD c1 (ix c3 xa)).length : Nat) : Int) ≤ b))))], [(0, .row 54 [.own 1 0 c1.length, .own 3 0 c3.length, .own 4 0 c4.length, .own 5 0 c5.length]), (1, .row 23 (flD dLListInt [2] c1)), ((.s 2 0), .fam (famD dLListInt 0 c1)), (3, .row 3 (fl c3)), (4, .row 3 (fl c4)), (5, .row 3 (fl c5))], 22)) (fun _ => True) (fun K1143 hK1143 => ?_) (fun _ _ => ?_)
      · refine reg_f ?_
        refine rs 3 [] [] (by kernel_rfl) allP_nil ?_
        refine run_split 40 (decide (b < 0)) (.inl (by kernel_rfl)) (fun g1144 => ?_) (fun g1144 => ?_)
        · refine rs 5 [] [] (by kernel_rfl) allP_nil ?_
          refine rf [(2, iS b), (7, .own (.s 2 (ix c3 xa)) 0 (ixD c1 (ix c3 xa)).length), (45, bS true)] [(0, .row 54 [.own 1 0 c1.length, .own 3 0 c3.length, .own 4 0 c4.length, .own 5 0 c5.length]), (1, .row 23 (flD dLListInt [2] c1)), ((.s 2 0), .fam (famD dLListInt 0 c1)), (3, .row 3 (fl c3)), (4, .row 3 (fl c4)), (5, .row 3 (fl c5))] 22 (by kernel_rfl) ?_
          exact hK1143 () _ _ _ trivial (leSt_m [(0, 0), (1, 1), ((.s 2 0), (.s 2 0)), (3, 3), (4, 4), (5, 5)] [] (by (try simp only [g1144]) <;> simp only [push_cast, leL_flD, renL_flD, seval]) (by (try simp only [g1144]) <;> simp only [push_cast, leL_flD, renL_flD, seval]) rfl rfl rfl)
        · refine rs 5 [] [] (by kernel_rfl) allP_nil ?_
          refine rf [(2, iS b), (7, .own (.s 2 (ix c3 xa)) 0 (ixD c1 (ix c3 xa)).length), (45, bS (decide ((((ixD c1 (ix c3 xa)).length : Nat) : Int) ≤ b)))] [(0, .row 54 [.own 1 0 c1.length, .own 3 0 c3.length, .own 4 0 c4.length, .own 5 0 c5.length]), (1, .row 23 (flD dLListInt [2] c1)), ((.s 2 0), .fam (famD dLListInt 0 c1)), (3, .row 3 (fl c3)), (4, .row 3 (fl c4)), (5, .row 3 (fl c5))] 22 (by kernel_rfl) ?_
          exact hK1143 () _ _ _ trivial (leSt_m [(0, 0), (1, 1), ((.s 2 0), (.s 2 0)), (3, 3), (4, 4), (5, 5)] [] (by (try simp only [g1144]) <;> simp only [push_cast, leL_flD, renL_flD, seval]) (by (try simp only [g1144]) <;> simp only [push_cast, leL_flD, renL_flD, seval]) rfl rfl rfl)
      · dsimp only
        refine cond_sx h (by kernel_rfl) (fun g1149 h => ?_) (fun g1149 h => ?_)
        · refine seq_np ?_
          refine reg_f ?_
          refine rs 1 [] [] (by kernel_rfl) allP_nil ?_
          refine rf [(6, .v (.pointer none))] [(0, .row 54 [.own 1 0 c1.length, .own 3 0 c3.length, .own 4 0 c4.length, .own 5 0 c5.length]), (1, .row 23 (flD dLListInt [2] c1)), ((.s 2 0), .fam (famD dLListInt 0 c1)), (3, .row 3 (fl c3)), (4, .row 3 (fl c4)), (5, .row 3 (fl c5))] 22 (by kernel_rfl) ?_
          refine wk_id ?_
          obtain rfl := Option.some.inj h
          refine ret_at (.v (.pointer none)) (by kernel_rfl) ?_
          exact ret_e [(0, 0), (1, 1), ((.s 2 0), (.s 2 0)), (3, 3), (4, 4), (5, 5)] [] (by simp only [push_cast, leL_flD, renL_flD, seval]) (by simp only [push_cast, leL_flD, renL_flD, seval]) rfl rfl rfl
        · refine wk_id ?_
          refine chk_sx h (fun g1148 h => ?_)
          refine seq_np ?_
          refine reg_f ?_
          have k1147 : 0 ≤ b ∧ b < (((ixD c1 (ix c3 xa)).length : Nat) : Int) := by first | simpa only [Bool.and_eq_true, decide_eq_true_eq, bne_iff_ne, ne_eq] using g1148 | (simp at g1148 ⊢; omega)
          refine rs 4 [none, none, some ⟨.ptr (.s 2 (ix c3 xa)) (0 + (b).toNat * 1), [], 22, [(.s 2 0)]⟩] _ (by kernel_rfl) (allP_cons (ob_ix_o (.s 2 (ix c3 xa)) (ixD c1 (ix c3 xa)).length 0 1 22 b k1147) allP_nil) ?_
          refine rf [(6, .ptr (.s 2 (ix c3 xa)) (0 + (b).toNat * 1))] [(0, .row 54 [.own 1 0 c1.length, .own 3 0 c3.length, .own 4 0 c4.length, .own 5 0 c5.length]), (1, .row 23 (flD dLListInt [2] c1)), ((.s 2 0), .fam (famD dLListInt 0 c1)), (3, .row 3 (fl c3)), (4, .row 3 (fl c4)), (5, .row 3 (fl c5))] 22 (by kernel_rfl) ?_
          refine wk_id ?_
          obtain rfl := Option.some.inj h
          refine ret_at (.ptr (.s 2 (ix c3 xa)) (0 + (b).toNat * 1)) (by kernel_rfl) ?_
          exact ret_e [(0, 0), (1, 1), ((.s 2 0), (.s 2 0)), (3, 3), (4, 4), (5, 5)] [] (by simp only [push_cast, leL_flD, renL_flD, seval]) (by simp only [push_cast, leL_flD, renL_flD, seval]) rfl rfl rfl

set_option maxRecDepth 100000 in
set_option maxHeartbeats 200000000 in
theorem sweep_cycle_value_spec (c : cycle) (xa : Int) (r : Int × Bool) (h : sweep_cycle_value c xa = some r) : SpecW Try.prog 37 [.iptr (Enc.cells c) 0, iS xa] [] 0 (fun x h n => x = .tup [iS r.1, bS r.2] ∧ h = [] ∧ n = 0) := by
  unfold sweep_cycle_value at h
  refine spec_of (draw_ok _) Try.func37 rfl (by decide) rfl (by kernel_rfl) ?_
  refine seq_np ?_
  refine reg_f ?_
  refine rs 2 [] [] (by kernel_rfl) allP_nil ?_
  refine rf [(0, .iptr (Enc.cells c) 0), (1, iS xa)] [] 0 (by kernel_rfl) ?_
  refine wk_id ?_
  refine seq_np ?_
  refine seq_np ?_
  refine reg_f ?_
  refine rs 2 [] [] (by kernel_rfl) allP_nil ?_
  refine rf [(0, .iptr (Enc.cells c) 0), (1, iS xa), (7, bS (xa == (-1)))] [] 0 (by kernel_rfl) ?_
  refine wk_id ?_
  refine cond_sx h (by kernel_rfl) (fun g1174 h => ?_) (fun g1174 h => ?_)
  · refine seq_np ?_
    refine reg_f ?_
    refine rs 2 [] [] (by kernel_rfl) allP_nil ?_
    refine rf [(4, iS (-1)), (5, bS true)] [] 0 (by kernel_rfl) ?_
    refine wk_id ?_
    obtain rfl := Option.some.inj h
    refine ret_at (.tup [iS (-1), bS true]) (by kernel_rfl) ?_
    exact ret_e [] [] (by simp only [push_cast, leL_flD, renL_flD, seval]) (by simp only [push_cast, leL_flD, renL_flD, seval]) rfl rfl rfl
  · refine wk_id ?_
    refine seq_np ?_
    refine seq_np ?_
    refine reg_f ?_
    refine rs 2 [] [] (by kernel_rfl) allP_nil ?_
    obtain ⟨r1168, hr1168, h⟩ := bind_sx h
    refine run_call 38 [.iptr (Enc.cells c) 0, iS xa] (some 10) (by kernel_rfl) ?_
    refine call_0 (sweep_cycle_register_spec c xa r1168 hr1168) (by simp only [push_cast, leL_flD, renL_flD, seval]) (by simp only [push_cast, leL_flD, renL_flD, seval]) ?_
    refine back_f ?_
    refine rs 1 [] [] (by kernel_rfl) allP_nil ?_
    refine rf [(0, .iptr (Enc.cells c) 0), (1, iS xa), (11, bS (!r1168))] [] 0 (by kernel_rfl) ?_
    refine wk_id ?_
    refine cond_sx h (by kernel_rfl) (fun g1173 h => ?_) (fun g1173 h => ?_)
    · refine seq_np ?_
      refine reg_f ?_
      refine rs 2 [] [] (by kernel_rfl) allP_nil ?_
      refine rf [(4, iS 0), (5, bS false)] [] 0 (by kernel_rfl) ?_
      refine wk_id ?_
      obtain rfl := Option.some.inj h
      refine ret_at (.tup [iS 0, bS false]) (by kernel_rfl) ?_
      exact ret_e [] [] (by simp only [push_cast, leL_flD, renL_flD, seval]) (by simp only [push_cast, leL_flD, renL_flD, seval]) rfl rfl rfl
    · refine wk_id ?_
      refine chk_sx h (fun g1172 h => ?_)
      refine seq_np ?_
      refine reg_f ?_
      have k1171 : 0 ≤ xa ∧ xa < ((c.Heap_Roots.length : Nat) : Int) := by first | simpa only [Bool.and_eq_true, decide_eq_true_eq, bne_iff_ne, ne_eq] using g1172 | (simp at g1172 ⊢; omega)
      refine rs 10 [none, none, none, none, none, none, some ⟨.iptr (fl c.Heap_Roots) ((xa).toNat * 1), [], 0, []⟩, some ⟨iS (ix c.Heap_Roots xa), [], 0, []⟩] _ (by kernel_rfl) (allP_cons (ob_ld c.Heap_Roots xa 1 0 ((xa).toNat * 1) k1171 rfl (by decide) (by first | rfl | omega) (dflS Try.prog 3) (iS (ix c.Heap_Roots xa)) rfl 0 []) (allP_cons (ob_ix_l c.Heap_Roots 1 0 xa k1171) allP_nil)) ?_
      refine rf [(4, iS (ix c.Heap_Roots xa)), (5, bS true)] [] 0 (by kernel_rfl) ?_
      refine wk_id ?_
      obtain rfl := Option.some.inj h
      refine ret_at (.tup [iS (ix c.Heap_Roots xa), bS true]) (by kernel_rfl) ?_
      exact ret_e [] [] (by simp only [push_cast, leL_flD, renL_flD, seval]) (by simp only [push_cast, leL_flD, renL_flD, seval]) rfl rfl rfl

set_option maxRecDepth 100000 in
set_option maxHeartbeats 200000000 in
theorem sweep_cycle_shade_3_spec (l : (List Int)) (c1 : (List (List Int))) (c3 : (List Int)) (c4 : (List Int)) (c5 : (List Int)) (r : (List Int) × (List (List Int)) × (List Int) × (List Int)) (h : sweep_cycle_shade_3 l c1 c3 c4 c5 = some r) : SpecW Try.prog 26 [.ptr 0 0, .sl l.length (fl l)] [(0, .row 54 [.own 1 0 c1.length, .own 3 0 c3.length, .own 4 0 c4.length, .own 5 0 c5.length]), (1, .row 23 (flD dLListInt [2] c1)), ((.s 2 0), .fam (famD dLListInt 0 c1)), (3, .row 3 (fl c3)), (4, .row 3 (fl c4)), (5, .row 3 (fl c5))] 6 (fun x h n => x = .tup [] ∧ h = [(0, .row 54 [.own 1 0 r.2.1.length, .own 3 0 r.2.2.1.length, .own 4 0 r.2.2.2.length, .own 6 0 r.1.length]), (1, .row 23 (flD dLListInt [2] r.2.1)), ((.s 2 0), .fam (famD dLListInt 0 r.2.1)), (3, .row 3 (fl r.2.2.1)), (4, .row 3 (fl r.2.2.2)), (5, .dead), (6, .row 3 (fl r.1))] ∧ n = 7) := by
  unfold sweep_cycle_shade_3 at h
  refine spec_of (draw_ok _) Try.func26 rfl (by decide) rfl (by kernel_rfl) ?_
  refine seq_np ?_
  refine reg_f ?_
  refine rs 3 [] [] (by kernel_rfl) allP_nil ?_
  refine rf [(0, .ptr 0 0), (6, .sl l.length (fl l)), (7, iS ((l.length : Nat) : Int)), (8, iS 0)] [(0, .row 54 [.own 1 0 c1.length, .own 3 0 c3.length, .own 4 0 c4.length, .own 5 0 c5.length]), (1, .row 23 (flD dLListInt [2] c1)), ((.s 2 0), .fam (famD dLListInt 0 c1)), (3, .row 3 (fl c3)), (4, .row 3 (fl c4)), (5, .row 3 (fl c5))] 6 (by kernel_rfl) ?_
  refine wk_id ?_
  refine block_np ?_
  refine loop_sx (S := Int × (List Int) × (List Int)) (fun a => ([(0, .ptr 0 0), (6, .sl l.length (fl l)), (7, iS ((l.length : Nat) : Int)), (8, iS a.1)], [(0, .row 54 [.own 1 0 c1.length, .own 3 0 c3.length, .own 4 0 a.2.1.length, .own 6 0 a.2.2.length]), (1, .row 23 (flD dLListInt [2] c1)), ((.s 2 0), .fam (famD dLListInt 0 c1)), (3, .row 3 (fl c3)), (4, .row 3 (fl a.2.1)), (5, .dead), (6, .row 3 (fl a.2.2))], 7)) h (leSt_m [(0, 0), (1, 1), ((.s 2 0), (.s 2 0)), (3, 3), (4, 4), (6, 5)] [] (by simp only [push_cast, leL_flD, renL_flD, seval]) (by simp only [push_cast, leL_flD, renL_flD, seval]) rfl rfl rfl) ?_
  rintro ⟨t8q3, c4q10, c6q9⟩ o2 R2 h hr2 hn2 hx2 ht2
  try dsimp only at h hn2 ⊢
  unfold sweep_cycle_shade_3_l1 at h
  try dsimp only at h
  refine seq_np ?_
  refine reg_f ?_
  refine rs 1 [] [] (by kernel_rfl) allP_nil ?_
  refine rf [(0, .ptr 0 0), (6, .sl l.length (fl l)), (7, iS ((l.length : Nat) : Int)), (8, iS t8q3), (9, bS (decide (t8q3 < ((l.length : Nat) : Int))))] [(0, .row 54 [.own 1 0 c1.length, .own 3 0 c3.length, .own 4 0 c4q10.length, .own 6 0 c6q9.length]), (1, .row 23 (flD dLListInt [2] c1)), ((.s 2 0), .fam (famD dLListInt 0 c1)), (3, .row 3 (fl c3)), (4, .row 3 (fl c4q10)), (5, .dead), (6, .row 3 (fl c6q9))] 7 (by kernel_rfl) ?_
  refine wk_id ?_
  refine seq_np ?_
  refine cond_sx h (by kernel_rfl) (fun g1292 h => ?_) (fun g1292 h => ?_)
  · refine wk_id ?_
    refine seq_np ?_
    refine block_cut (A := (List Int) × (List Int)) (fun a => ([(0, .ptr 0 0), (6, .sl l.length (fl l)), (7, iS ((l.length : Nat) : Int)), (8, iS t8q3)], [(0, .row 54 [.own 1 0 c1.length, .own 3 0 c3.length, .own 4 0 a.1.length, .own 6 0 a.2.length]), (1, .row 23 (flD dLListInt [2] c1)), ((.s 2 0), .fam (famD dLListInt 0 c1)), (3, .row 3 (fl c3)), (4, .row 3 (fl a.1)), (5, .dead), (6, .row 3 (fl a.2))], 7)) (fun a => (sweep_cycle_shade_3_j1 l c1 c3 t8q3 a.1 a.2) = some o2) (fun K1271 hK1271 => ?_) ?_
    · refine chk_sx h (fun g1275 h => ?_)
      refine seq_np ?_
      refine reg_f ?_
      have k1274 : 0 ≤ t8q3 ∧ t8q3 < ((l.length : Nat) : Int) := by first | simpa only [Bool.and_eq_true, decide_eq_true_eq, bne_iff_ne, ne_eq] using g1275 | (simp at g1275 ⊢; omega)
      refine rs 3 [some ⟨.iptr (fl l) ((t8q3).toNat * 1), [], 7, []⟩, some ⟨iS (ix l t8q3), [], 7, []⟩] _ (by kernel_rfl) (allP_cons (ob_ld l t8q3 1 0 ((t8q3).toNat * 1) k1274 rfl (by decide) (by first | rfl | omega) (dflS Try.prog 3) (iS (ix l t8q3)) rfl 7 []) (allP_cons (ob_ix_l l 1 7 t8q3 k1274) allP_nil)) ?_
      refine rf [(0, .ptr 0 0), (5, iS (ix l t8q3)), (6, .sl l.length (fl l)), (7, iS ((l.length : Nat) : Int)), (8, iS t8q3)] [(0, .row 54 [.own 1 0 c1.length, .own 3 0 c3.length, .own 4 0 c4q10.length, .own 6 0 c6q9.length]), (1, .row 23 (flD dLListInt [2] c1)), ((.s 2 0), .fam (famD dLListInt 0 c1)), (3, .row 3 (fl c3)), (4, .row 3 (fl c4q10)), (5, .dead), (6, .row 3 (fl c6q9))] 7 (by kernel_rfl) ?_
      refine wk_id ?_
      refine chk_sx h (fun g1282 h => ?_)
      refine seq_cut (A := Unit) (fun _ => ([(0, .ptr 0 0), (5, iS (ix l t8q3)), (6, .sl l.length (fl l)), (7, iS ((l.length : Nat) : Int)), (8, iS t8q3), (23, bS ((decide ((0 : Int) ≤ (ix l t8q3))) && ((ix c4q10 (ix l t8q3)) == 0)))], [(0, .row 54 [.own 1 0 c1.length, .own 3 0 c3.length, .own 4 0 c4q10.length, .own 6 0 c6q9.length]), (1, .row 23 (flD dLListInt [2] c1)), ((.s 2 0), .fam (famD dLListInt 0 c1)), (3, .row 3 (fl c3)), (4, .row 3 (fl c4q10)), (6, .row 3 (fl c6q9))], 7)) (fun _ => True) (fun K1279 hK1279 => ?_) (fun _ _ => ?_)
      · refine reg_f ?_
        refine rs 3 [] [] (by kernel_rfl) allP_nil ?_
        refine run_split 14 (decide ((0 : Int) ≤ (ix l t8q3))) (.inl (by kernel_rfl)) (fun g1280 => ?_) (fun g1280 => ?_)
        · have k1281 : 0 ≤ (ix l t8q3) ∧ (ix l t8q3) < ((c4q10.length : Nat) : Int) := by have e := or_use g1282 (by first | ((try simp only [g1280]) <;> rfl) | ((try simp only [g1280]); rfl) | (exfalso; clear h; simp_all; done)); first | simpa only [Bool.and_eq_true, decide_eq_true_eq, bne_iff_ne, ne_eq] using e | (simp at e ⊢; omega)
          refine rs 9 [none, none, none, none, none, some ⟨.ptr 4 (0 + ((ix l t8q3)).toNat * 1), [], 7, [4]⟩, some ⟨iS (ix c4q10 (ix l t8q3)), [], 7, [4]⟩] _ (by kernel_rfl) (allP_cons (ob_ld c4q10 (ix l t8q3) 1 0 (0 + ((ix l t8q3)).toNat * 1) k1281 rfl (by decide) (by first | rfl | omega) (dflS Try.prog 3) (iS (ix c4q10 (ix l t8q3))) rfl 7 [4]) (allP_cons (ob_ix_o 4 c4q10.length 0 1 7 (ix l t8q3) k1281) allP_nil)) ?_
          refine rf [(0, .ptr 0 0), (5, iS (ix l t8q3)), (6, .sl l.length (fl l)), (7, iS ((l.length : Nat) : Int)), (8, iS t8q3), (23, bS ((ix c4q10 (ix l t8q3)) == 0))] [(0, .row 54 [.own 1 0 c1.length, .own 3 0 c3.length, .own 4 0 c4q10.length, .own 6 0 c6q9.length]), (1, .row 23 (flD dLListInt [2] c1)), ((.s 2 0), .fam (famD dLListInt 0 c1)), (3, .row 3 (fl c3)), (4, .row 3 (fl c4q10)), (5, .dead), (6, .row 3 (fl c6q9))] 7 (by kernel_rfl) ?_
          exact hK1279 () _ _ _ trivial (leSt_m [(0, 0), (1, 1), ((.s 2 0), (.s 2 0)), (3, 3), (4, 4), (6, 6)] [] (by (try simp only [g1280]) <;> simp only [push_cast, leL_flD, renL_flD, seval]) (by (try simp only [g1280]) <;> simp only [push_cast, leL_flD, renL_flD, seval]) rfl rfl rfl)
        · refine rs 9 [] [] (by kernel_rfl) allP_nil ?_
          refine rf [(0, .ptr 0 0), (5, iS (ix l t8q3)), (6, .sl l.length (fl l)), (7, iS ((l.length : Nat) : Int)), (8, iS t8q3), (23, bS false)] [(0, .row 54 [.own 1 0 c1.length, .own 3 0 c3.length, .own 4 0 c4q10.length, .own 6 0 c6q9.length]), (1, .row 23 (flD dLListInt [2] c1)), ((.s 2 0), .fam (famD dLListInt 0 c1)), (3, .row 3 (fl c3)), (4, .row 3 (fl c4q10)), (5, .dead), (6, .row 3 (fl c6q9))] 7 (by kernel_rfl) ?_
          exact hK1279 () _ _ _ trivial (leSt_m [(0, 0), (1, 1), ((.s 2 0), (.s 2 0)), (3, 3), (4, 4), (6, 6)] [] (by (try simp only [g1280]) <;> simp only [push_cast, leL_flD, renL_flD, seval]) (by (try simp only [g1280]) <;> simp only [push_cast, leL_flD, renL_flD, seval]) rfl rfl rfl)
      · dsimp only
        refine cond_sx h (by kernel_rfl) (fun g1291 h => ?_) (fun g1291 h => ?_)
        · refine chk_sx h (fun g1286 h => ?_)
          refine seq_np ?_
          refine reg_f ?_
          have k1285 : 0 ≤ (ix l t8q3) ∧ (ix l t8q3) < ((c4q10.length : Nat) : Int) := by first | simpa only [Bool.and_eq_true, decide_eq_true_eq, bne_iff_ne, ne_eq] using g1286 | (simp at g1286 ⊢; omega)
          refine rs 7 [none, none, none, none, none, some ⟨.ptr 4 (0 + ((ix l t8q3)).toNat * 1), [], 7, [4]⟩, some ⟨.any, [(4, .row 3 (fl (c4q10.set (ix l t8q3).toNat 1)))], 7, [4]⟩] _ (by kernel_rfl) (allP_cons (ob_st (P := Try.prog) c4q10 (ix l t8q3) 1 0 (0 + ((ix l t8q3)).toNat * 1) k1285 rfl [iS 1] 1 (Nat.le_of_ble_eq_true rfl) (by first | rfl | omega) rfl 4 7 3 3 (by kernel_rfl) rfl) (allP_cons (ob_ix_o 4 c4q10.length 0 1 7 (ix l t8q3) k1285) allP_nil)) ?_
          refine run_eqH 0 (.row 54 [.own 1 0 c1.length, .own 3 0 c3.length, .own 4 0 c4q10.length, .own 6 0 c6q9.length]) (.row 54 [.own 1 0 c1.length, .own 3 0 c3.length, .own 4 0 (c4q10.set (ix l t8q3).toNat 1).length, .own 6 0 c6q9.length]) (congrArg (fun nq => (.row 54 [.own 1 0 c1.length, .own 3 0 c3.length, .own 4 0 nq, .own 6 0 c6q9.length] : Chunk)) (show c4q10.length = (c4q10.set (ix l t8q3).toNat 1).length from (List.length_set ..).symm)) (by kernel_rfl) ?_
          refine rf [(0, .ptr 0 0), (5, iS (ix l t8q3)), (6, .sl l.length (fl l)), (7, iS ((l.length : Nat) : Int)), (8, iS t8q3)] [(0, .row 54 [.own 1 0 c1.length, .own 3 0 c3.length, .own 4 0 (c4q10.set (ix l t8q3).toNat 1).length, .own 6 0 c6q9.length]), (1, .row 23 (flD dLListInt [2] c1)), ((.s 2 0), .fam (famD dLListInt 0 c1)), (3, .row 3 (fl c3)), (4, .row 3 (fl (c4q10.set (ix l t8q3).toNat 1))), (6, .row 3 (fl c6q9))] 7 (by kernel_rfl) ?_
          refine wk_id ?_
          refine chk_sx h (fun g1290 h => ?_)
          refine reg_f ?_
          have k1289 : (c6q9 ++ ([(ix l t8q3)] : List Int)).length * 8 ≤ 140737488355328 := by first | simpa only [Bool.and_eq_true, decide_eq_true_eq, bne_iff_ne, ne_eq] using g1290 | (simp at g1290 ⊢; omega)
          refine rs 11 [none, none, none, none, none, none, none, some ⟨.own 8 0 (c6q9 ++ ([(ix l t8q3)] : List Int)).length, [(8, .row 3 (fl (c6q9 ++ ([(ix l t8q3)] : List Int)))), (6, .dead)], 9, [6, 7]⟩] _ (by kernel_rfl) (allP_cons (ob_app (P := Try.prog) c6q9 ([(ix l t8q3)] : List Int) 1 8 rfl (appCells (fl ([(ix l t8q3)] : List Int)) 0 (([(ix l t8q3)] : List Int).length * 1)) ([(ix l t8q3)] : List Int).length (app_own ([(ix l t8q3)] : List Int) 1 rfl) rfl (0 + ([(ix l t8q3)] : List Int).length * 1 ≤ (fl ([(ix l t8q3)] : List Int)).length) (app_own_le ([(ix l t8q3)] : List Int) 1 rfl) 3 (by kernel_rfl) (by decide) k1289 6 8 [7]) allP_nil) ?_
          refine rf [(0, .ptr 0 0), (6, .sl l.length (fl l)), (7, iS ((l.length : Nat) : Int)), (8, iS t8q3)] [(0, .row 54 [.own 1 0 c1.length, .own 3 0 c3.length, .own 4 0 (c4q10.set (ix l t8q3).toNat 1).length, .own 8 0 (c6q9 ++ ([(ix l t8q3)] : List Int)).length]), (1, .row 23 (flD dLListInt [2] c1)), ((.s 2 0), .fam (famD dLListInt 0 c1)), (3, .row 3 (fl c3)), (4, .row 3 (fl (c4q10.set (ix l t8q3).toNat 1))), (6, .dead), (7, .row 3 (fl ([(ix l t8q3)] : List Int))), (8, .row 3 (fl (c6q9 ++ ([(ix l t8q3)] : List Int))))] 9 (by kernel_rfl) ?_
          exact hK1271 ((c4q10.set (ix l t8q3).toNat 1), (c6q9 ++ ([(ix l t8q3)] : List Int))) _ _ _ h (leSt_m [(0, 0), (1, 1), ((.s 2 0), (.s 2 0)), (3, 3), (4, 4), (6, 8)] [] (by simp only [push_cast, leL_flD, renL_flD, seval]) (by simp only [push_cast, leL_flD, renL_flD, seval]) rfl rfl rfl)
        · exact hK1271 (c4q10, c6q9) _ _ _ h (leSt_m [(0, 0), (1, 1), ((.s 2 0), (.s 2 0)), (3, 3), (4, 4), (6, 6)] [] (by simp only [push_cast, leL_flD, renL_flD, seval]) (by simp only [push_cast, leL_flD, renL_flD, seval]) rfl rfl rfl)
    · rintro ⟨c4q12, c6q11⟩ h
      try dsimp only at h ⊢
      unfold sweep_cycle_shade_3_j1 at h
      refine wk_id ?_
      refine reg_f ?_
      refine rs 2 [] [] (by kernel_rfl) allP_nil ?_
      refine rf [(0, .ptr 0 0), (6, .sl l.length (fl l)), (7, iS ((l.length : Nat) : Int)), (8, iS (IntKind.i64.wrap (t8q3 + 1)))] [(0, .row 54 [.own 1 0 c1.length, .own 3 0 c3.length, .own 4 0 c4q12.length, .own 6 0 c6q11.length]), (1, .row 23 (flD dLListInt [2] c1)), ((.s 2 0), .fam (famD dLListInt 0 c1)), (3, .row 3 (fl c3)), (4, .row 3 (fl c4q12)), (5, .dead), (6, .row 3 (fl c6q11))] 7 (by kernel_rfl) ?_
      exact hn2 ((IntKind.i64.wrap (t8q3 + 1)), c4q12, c6q11) _ _ _ (Option.some.inj h).symm (leSt_m [(0, 0), (1, 1), ((.s 2 0), (.s 2 0)), (3, 3), (4, 4), (6, 6)] [] (by simp only [push_cast, leL_flD, renL_flD, seval]) (by simp only [push_cast, leL_flD, renL_flD, seval]) rfl rfl rfl)
  · change R2 (.exit 0) _ _ _
    refine ex_cast hx2 (id := 0) ?_
    obtain ⟨r0, h, e0⟩ := map_sx h
    have e1 := hr2 r0 e0.symm
    subst r0
    refine wk_id ?_
    obtain rfl := Option.some.inj h
    refine ret_an (.tup []) (by kernel_rfl) ?_
    exact ret_e [(0, 0), (1, 1), ((.s 2 0), (.s 2 0)), (3, 3), (4, 4), (6, 6)] [] (by simp only [push_cast, leL_flD, renL_flD, seval]) (by simp only [push_cast, leL_flD, renL_flD, seval]) rfl rfl rfl

set_option maxRecDepth 100000 in
set_option maxHeartbeats 200000000 in
theorem sweep_cycle_do_1_spec (x : GAct) (barrier : Int) (c1 : (List (List Int))) (c3 : (List Int)) (c4 : (List Int)) (c5 : (List Int)) (r : Int × (List (List Int)) × (List Int) × (List Int) × (List Int)) (h : sweep_cycle_do_1 x barrier c1 c3 c4 c5 = some r) : SpecW Try.prog 30 [.ptr 0 0, .agg (Enc.cells x), iS barrier] [(0, .row 54 [.own 1 0 c1.length, .own 3 0 c3.length, .own 4 0 c4.length, .own 5 0 c5.length]), (1, .row 23 (flD dLListInt [2] c1)), ((.s 2 0), .fam (famD dLListInt 0 c1)), (3, .row 3 (fl c3)), (4, .row 3 (fl c4)), (5, .row 3 (fl c5))] 6 (fun x h n => x = iS r.1 ∧ h = [(0, .row 54 [.own 6 0 r.2.1.length, .own 3 0 r.2.2.2.2.length, .own 7 0 r.2.2.1.length, .own 8 0 r.2.2.2.1.length]), (1, .dead), ((.s 2 0), .dead), (3, .row 3 (fl r.2.2.2.2)), (4, .dead), (5, .dead), (6, .row 23 (flD dLListInt [9] r.2.1)), (7, .row 3 (fl r.2.2.1)), (8, .row 3 (fl r.2.2.2.1)), ((.s 9 0), .fam (famD dLListInt 0 r.2.1))] ∧ n = 10) := by
  unfold sweep_cycle_do_1 at h
  refine spec_of (draw_ok _) Try.func30 rfl (by decide) rfl (by kernel_rfl) ?_
  refine seq_np ?_
  refine reg_f ?_
  refine rs 2 [] [] (by kernel_rfl) allP_nil ?_
  refine rf [(0, .ptr 0 0), (2, iS barrier), (4, .ptr 6 0)] [(0, .row 54 [.own 1 0 c1.length, .own 3 0 c3.length, .own 4 0 c4.length, .own 5 0 c5.length]), (1, .row 23 (flD dLListInt [2] c1)), ((.s 2 0), .fam (famD dLListInt 0 c1)), (3, .row 3 (fl c3)), (4, .row 3 (fl c4)), (5, .row 3 (fl c5)), (6, .row 47 (Enc.cells x))] 7 (by kernel_rfl) ?_
  refine wk_id ?_
  refine seq_np ?_
  refine seq_np ?_
  refine reg_f ?_
  refine rs 2 [] [] (by kernel_rfl) allP_nil ?_
  refine rf [(0, .ptr 0 0), (2, iS barrier), (4, .ptr 6 0), (16, iS x.Op)] [(0, .row 54 [.own 1 0 c1.length, .own 3 0 c3.length, .own 4 0 c4.length, .own 5 0 c5.length]), (1, .row 23 (flD dLListInt [2] c1)), ((.s 2 0), .fam (famD dLListInt 0 c1)), (3, .row 3 (fl c3)), (4, .row 3 (fl c4)), (5, .row 3 (fl c5)), (6, .row 47 (Enc.cells x))] 7 (by kernel_rfl) ?_
  refine wk_id ?_
  refine block_cut (A := (List (List Int)) × (List Int) × (List Int) × (List Int)) (fun a => ([], [(0, .row 54 [.own 6 0 a.1.length, .own 3 0 a.2.2.2.length, .own 7 0 a.2.1.length, .own 8 0 a.2.2.1.length]), (1, .dead), ((.s 2 0), .dead), (3, .row 3 (fl a.2.2.2)), (4, .dead), (5, .dead), (6, .row 23 (flD dLListInt [9] a.1)), (7, .row 3 (fl a.2.1)), (8, .row 3 (fl a.2.2.1)), ((.s 9 0), .fam (famD dLListInt 0 a.1))], 10)) (fun a => (sweep_cycle_do_1_j1 a.1 a.2.1 a.2.2.1 a.2.2.2) = some r) (fun K1558 hK1558 => ?_) ?_
  · refine seq_np ?_
    refine reg_f ?_
    refine rs 2 [] [] (by kernel_rfl) allP_nil ?_
    refine rf [(0, .ptr 0 0), (2, iS barrier), (4, .ptr 6 0), (16, iS x.Op), (17, bS (x.Op == 1))] [(0, .row 54 [.own 1 0 c1.length, .own 3 0 c3.length, .own 4 0 c4.length, .own 5 0 c5.length]), (1, .row 23 (flD dLListInt [2] c1)), ((.s 2 0), .fam (famD dLListInt 0 c1)), (3, .row 3 (fl c3)), (4, .row 3 (fl c4)), (5, .row 3 (fl c5)), (6, .row 47 (Enc.cells x))] 7 (by kernel_rfl) ?_
    refine wk_id ?_
    refine cond_sx h (by kernel_rfl) (fun g1762 h => ?_) (fun g1762 h => ?_)
    · refine seq_cut (A := Int × Int × Bool × (List (List Int)) × (List Int) × (List Int) × (List Int)) (fun a => ([(0, .ptr 0 0), (2, iS barrier), (4, .ptr 6 0), (7, (bif a.2.2.1 then .ptr (.s 2 a.1) (0 + (a.2.1).toNat * 1) else .v (.pointer none)))], [(0, .row 54 [.own 1 0 a.2.2.2.1.length, .own 3 0 a.2.2.2.2.1.length, .own 4 0 a.2.2.2.2.2.1.length, .own 5 0 a.2.2.2.2.2.2.length]), (1, .row 23 (flD dLListInt [2] a.2.2.2.1)), ((.s 2 0), .fam (famD dLListInt 0 a.2.2.2.1)), (3, .row 3 (fl a.2.2.2.2.1)), (4, .row 3 (fl a.2.2.2.2.2.1)), (5, .row 3 (fl a.2.2.2.2.2.2)), (6, .row 47 (Enc.cells x))], 7)) (fun a => (sweep_cycle_do_1_j3 x barrier a.1 a.2.1 a.2.2.1 a.2.2.2.1 a.2.2.2.2.1 a.2.2.2.2.2.1 a.2.2.2.2.2.2) = some r) (fun K1566 hK1566 => ?_) ?_
      · refine reg_f ?_
        refine rs 5 [] [] (by kernel_rfl) allP_nil ?_
        obtain ⟨r1567, hr1567, h⟩ := bind_sx h
        refine call_x (sweep_cycle_slot_1_spec x.A x.B c1 c3 c4 c5 r1567 hr1567) (args := [.ptr 0 0, iS x.A, iS x.B]) (dst := (some 24)) (by kernel_rfl) [(0, .row 54 [.own 1 0 c1.length, .own 3 0 c3.length, .own 4 0 c4.length, .own 5 0 c5.length]), (1, .row 23 (flD dLListInt [2] c1)), ((.s 2 0), .fam (famD dLListInt 0 c1)), (3, .row 3 (fl c3)), (4, .row 3 (fl c4)), (5, .row 3 (fl c5)), (6, .row 47 (Enc.cells x))] 7 (by kernel_rfl) [(0, 0), (1, 1), ((.s 2 0), (.s 2 0)), (3, 3), (4, 4), (5, 5)] [] ((bif r1567.2.2.1 then .ptr (.s 2 r1567.1) (0 + (r1567.2.1).toNat * 1) else .v (.pointer none))) [(0, .row 54 [.own 1 0 r1567.2.2.2.1.length, .own 3 0 r1567.2.2.2.2.1.length, .own 4 0 r1567.2.2.2.2.2.1.length, .own 5 0 r1567.2.2.2.2.2.2.length]), (1, .row 23 (flD dLListInt [2] r1567.2.2.2.1)), ((.s 2 0), .fam (famD dLListInt 0 r1567.2.2.2.1)), (3, .row 3 (fl r1567.2.2.2.2.1)), (4, .row 3 (fl r1567.2.2.2.2.2.1)), (5, .row 3 (fl r1567.2.2.2.2.2.2)), (0, .dead), (1, .dead), ((.s 2 0), .dead), (3, .dead), (4, .dead), (5, .dead)] (by simp only [push_cast, leL_flD, renL_flD, seval]) (by simp only [push_cast, leL_flD, renL_flD, seval]) (by kernel_rfl) (.inl rfl) (by first | (simp only [push_cast, leL_flD, renL_flD, seval]; done) | (simp only [push_cast, leL_flD, renL_flD, seval]; kernel_rfl) | kernel_rfl) (by first | (simp only [push_cast, leL_flD, renL_flD, seval]; done) | (simp only [push_cast, leL_flD, renL_flD, seval]; kernel_rfl) | kernel_rfl) ?_ (hfam := (And.intro trivial (And.intro trivial (And.intro (fun _ => Or.inl rfl) (And.intro trivial (And.intro trivial (And.intro trivial trivial)))))))
        refine run_ubr h 24 (.ptr (.s 2 r1567.1) (0 + (r1567.2.1).toNat * 1)) (.v (.pointer none)) (by kernel_rfl) (fun g1572 h => ?_) (fun g1572 h => ?_)
        · refine rs 1 [] [] (by kernel_rfl) allP_nil ?_
          refine rf [(0, .ptr 0 0), (2, iS barrier), (4, .ptr 6 0), (7, .ptr (.s 2 r1567.1) (0 + (r1567.2.1).toNat * 1))] [(0, .row 54 [.own 1 0 r1567.2.2.2.1.length, .own 3 0 r1567.2.2.2.2.1.length, .own 4 0 r1567.2.2.2.2.2.1.length, .own 5 0 r1567.2.2.2.2.2.2.length]), (1, .row 23 (flD dLListInt [2] r1567.2.2.2.1)), ((.s 2 0), .fam (famD dLListInt 0 r1567.2.2.2.1)), (3, .row 3 (fl r1567.2.2.2.2.1)), (4, .row 3 (fl r1567.2.2.2.2.2.1)), (5, .row 3 (fl r1567.2.2.2.2.2.2)), (6, .row 47 (Enc.cells x))] 13 (by kernel_rfl) ?_
          exact hK1566 (r1567.1, r1567.2.1, true, r1567.2.2.2.1, r1567.2.2.2.2.1, r1567.2.2.2.2.2.1, r1567.2.2.2.2.2.2) _ _ _ h (leSt_m [(0, 0), (1, 1), ((.s 2 0), (.s 2 0)), (3, 3), (4, 4), (5, 5), (6, 6)] [] (by (try simp only [g1572]) <;> simp only [push_cast, leL_flD, renL_flD, seval]) (by (try simp only [g1572]) <;> simp only [push_cast, leL_flD, renL_flD, seval]) rfl rfl rfl)
        · refine rs 1 [] [] (by kernel_rfl) allP_nil ?_
          refine rf [(0, .ptr 0 0), (2, iS barrier), (4, .ptr 6 0), (7, .v (.pointer none))] [(0, .row 54 [.own 1 0 r1567.2.2.2.1.length, .own 3 0 r1567.2.2.2.2.1.length, .own 4 0 r1567.2.2.2.2.2.1.length, .own 5 0 r1567.2.2.2.2.2.2.length]), (1, .row 23 (flD dLListInt [2] r1567.2.2.2.1)), ((.s 2 0), .fam (famD dLListInt 0 r1567.2.2.2.1)), (3, .row 3 (fl r1567.2.2.2.2.1)), (4, .row 3 (fl r1567.2.2.2.2.2.1)), (5, .row 3 (fl r1567.2.2.2.2.2.2)), (6, .row 47 (Enc.cells x))] 13 (by kernel_rfl) ?_
          exact hK1566 (0, 0, false, r1567.2.2.2.1, r1567.2.2.2.2.1, r1567.2.2.2.2.2.1, r1567.2.2.2.2.2.2) _ _ _ h (leSt_m [(0, 0), (1, 1), ((.s 2 0), (.s 2 0)), (3, 3), (4, 4), (5, 5), (6, 6)] [] (by (try simp only [g1572]) <;> simp only [push_cast, leL_flD, renL_flD, seval]) (by (try simp only [g1572]) <;> simp only [push_cast, leL_flD, renL_flD, seval]) rfl rfl rfl)
      · rintro ⟨pi6, pp6, pok6, c1q10, c3q14, c4q10, c5q7⟩ h
        try dsimp only at h ⊢
        unfold sweep_cycle_do_1_j3 at h
        refine seq_np ?_
        refine reg_f ?_
        refine rs 3 [] [] (by kernel_rfl) allP_nil ?_
        obtain ⟨r1574, hr1574, h⟩ := bind_sx h
        refine call_x (sweep_cycle_value_spec (cycle.mk c1q10 c3q14 c4q10 c5q7) x.C r1574 hr1574) (args := [.ptr 0 0, iS x.C]) (dst := (some 29)) (by kernel_rfl) [(0, .row 54 [.own 1 0 c1q10.length, .own 3 0 c3q14.length, .own 4 0 c4q10.length, .own 5 0 c5q7.length]), (1, .row 23 (flD dLListInt [2] c1q10)), ((.s 2 0), .fam (famD dLListInt 0 c1q10)), (3, .row 3 (fl c3q14)), (4, .row 3 (fl c4q10)), (5, .row 3 (fl c5q7)), (6, .row 47 (Enc.cells x))] 7 (by kernel_rfl) [] [1, (.s 2 0), 3, 4, 5, 0] (.tup [iS r1574.1, bS r1574.2]) [] (by simp only [↓leS_frzD dLListInt [2] c1q10, ↓leS_frzD dLListInt [2] c1q10, leS_frz, leL_flD, renL_flD, push_cast, seval]) (by simp only [↓leS_frzD dLListInt [2] c1q10, ↓leS_frzD dLListInt [2] c1q10, leS_frz, leL_flD, renL_flD, push_cast, seval]) (by kernel_rfl) (.inr ⟨by simp only [push_cast, leL_flD, renL_flD, seval], by simp only [push_cast, leL_flD, renL_flD, seval]⟩) (by simp only [push_cast, leL_flD, renL_flD, seval]) (by simp only [push_cast, leL_flD, renL_flD, seval]) ?_
        refine rs 5 [] [] (by kernel_rfl) allP_nil ?_
        refine rf [(0, .ptr 0 0), (2, iS barrier), (7, (bif pok6 then .ptr (.s 2 pi6) (0 + (pp6).toNat * 1) else .v (.pointer none))), (8, iS r1574.1), (9, bS r1574.2)] [(0, .row 54 [.own 1 0 c1q10.length, .own 3 0 c3q14.length, .own 4 0 c4q10.length, .own 5 0 c5q7.length]), (1, .row 23 (flD dLListInt [2] c1q10)), ((.s 2 0), .fam (famD dLListInt 0 c1q10)), (3, .row 3 (fl c3q14)), (4, .row 3 (fl c4q10)), (5, .row 3 (fl c5q7)), (6, .row 47 (Enc.cells x))] 7 (by kernel_rfl) ?_
        refine wk_id ?_
        refine seq_np ?_
        refine bsplit_sx h (fun g1577 h => ?_) (fun g1577 h => ?_)
        · refine seq_np ?_
          refine reg_f ?_
          refine run_eqF 7 ((bif pok6 then .ptr (.s 2 pi6) (0 + (pp6).toNat * 1) else .v (.pointer none))) (.ptr (.s 2 pi6) (0 + (pp6).toNat * 1)) (by rw [g1577]; rfl) (by kernel_rfl) ?_
          refine rs 6 [] [] (by kernel_rfl) allP_nil ?_
          refine rf [(0, .ptr 0 0), (2, iS barrier), (7, .ptr (.s 2 pi6) (0 + (pp6).toNat * 1)), (8, iS r1574.1), (37, bS (!r1574.2))] [(0, .row 54 [.own 1 0 c1q10.length, .own 3 0 c3q14.length, .own 4 0 c4q10.length, .own 5 0 c5q7.length]), (1, .row 23 (flD dLListInt [2] c1q10)), ((.s 2 0), .fam (famD dLListInt 0 c1q10)), (3, .row 3 (fl c3q14)), (4, .row 3 (fl c4q10)), (5, .row 3 (fl c5q7)), (6, .row 47 (Enc.cells x))] 7 (by kernel_rfl) ?_
          refine wk_id ?_
          refine cond_sx h (by kernel_rfl) (fun g1617 h => ?_) (fun g1617 h => ?_)
          · refine seq_np ?_
            refine reg_f ?_
            refine rs 1 [] [] (by kernel_rfl) allP_nil ?_
            refine rf [(6, iS 3)] [(0, .row 54 [.own 1 0 c1q10.length, .own 3 0 c3q14.length, .own 4 0 c4q10.length, .own 5 0 c5q7.length]), (1, .row 23 (flD dLListInt [2] c1q10)), ((.s 2 0), .fam (famD dLListInt 0 c1q10)), (3, .row 3 (fl c3q14)), (4, .row 3 (fl c4q10)), (5, .row 3 (fl c5q7)), (6, .row 47 (Enc.cells x))] 7 (by kernel_rfl) ?_
            refine wk_id ?_
            obtain rfl := Option.some.inj h
            refine ret_at (iS 3) (by kernel_rfl) ?_
            exact ret_e [(0, 0), (3, 3), (6, 1), (7, 4), (8, 5), ((.s 9 0), (.s 2 0))] [] (by simp only [push_cast, leL_flD, renL_flD, seval]) (by simp only [push_cast, leL_flD, renL_flD, seval]) rfl rfl rfl
          · refine wk_id ?_
            refine seq_cut (A := Int × (List (List Int)) × (List Int) × (List Int) × (List Int)) (fun a => ([(0, .ptr 0 0), (2, iS barrier), (7, .ptr (.s 2 pi6) (0 + (pp6).toNat * 1)), (8, iS a.1)], [(0, .row 54 [.own 1 0 a.2.1.length, .own 3 0 a.2.2.1.length, .own 4 0 a.2.2.2.1.length, .own 6 0 a.2.2.2.2.length]), (1, .row 23 (flD dLListInt [2] a.2.1)), ((.s 2 0), .fam (famD dLListInt 0 a.2.1)), (3, .row 3 (fl a.2.2.1)), (4, .row 3 (fl a.2.2.2.1)), (5, .dead), (6, .row 3 (fl a.2.2.2.2))], 7)) (fun a => (sweep_cycle_do_1_j2 barrier pi6 pp6 a.1 a.2.1 a.2.2.1 a.2.2.2.1 a.2.2.2.2) = some r) (fun K1586 hK1586 => ?_) ?_
            · refine seq_np ?_
              refine reg_f ?_
              refine rs 3 [] [] (by kernel_rfl) allP_nil ?_
              refine rf [(0, .ptr 0 0), (2, iS barrier), (7, .ptr (.s 2 pi6) (0 + (pp6).toNat * 1)), (8, iS r1574.1), (40, bS ((IntKind.i64.wrap (((BitVec.ofInt (IntKind.i64).bits barrier &&& BitVec.ofInt (IntKind.i64).bits 2).toNat : Nat) : Int)) != 0))] [(0, .row 54 [.own 1 0 c1q10.length, .own 3 0 c3q14.length, .own 4 0 c4q10.length, .own 5 0 c5q7.length]), (1, .row 23 (flD dLListInt [2] c1q10)), ((.s 2 0), .fam (famD dLListInt 0 c1q10)), (3, .row 3 (fl c3q14)), (4, .row 3 (fl c4q10)), (5, .row 3 (fl c5q7)), (6, .row 47 (Enc.cells x))] 7 (by kernel_rfl) ?_
              refine wk_id ?_
              refine cond_sx h (by kernel_rfl) (fun g1599 h => ?_) (fun g1599 h => ?_)
              · refine chk_sx h (fun g1594 h => ?_)
                refine reg_f ?_
                have k1593 : 0 ≤ pp6 ∧ pp6 < (((ixD c1q10 pi6).length : Nat) : Int) := by first | simpa only [Bool.and_eq_true, decide_eq_true_eq, bne_iff_ne, ne_eq] using g1594 | (simp at g1594 ⊢; omega)
                refine rs 5 [none, none, none, some ⟨iS (ix (ixD c1q10 pi6) pp6), [], 7, [(.s 2 0)]⟩] _ (by kernel_rfl) (allP_cons (ob_ld (ixD c1q10 pi6) pp6 1 0 (0 + (pp6).toNat * 1) k1593 rfl (by decide) (by first | rfl | omega) (dflS Try.prog 3) (iS (ix (ixD c1q10 pi6) pp6)) rfl 7 [(.s 2 0)]) allP_nil) ?_
                obtain ⟨r1595, hr1595, h⟩ := bind_sx h
                refine call_x (SpecW.give (sweep_cycle_shade_3_spec ([(ix (ixD c1q10 pi6) pp6)] : List Int) c1q10 c3q14 c4q10 c5q7 r1595 hr1595) [(0, .row 54 [.own 1 0 c1q10.length, .own 3 0 c3q14.length, .own 4 0 c4q10.length, .own 5 0 c5q7.length]), (1, .row 23 (flD dLListInt [2] c1q10)), ((.s 2 0), .fam (famD dLListInt 0 c1q10)), (3, .row 3 (fl c3q14)), (4, .row 3 (fl c4q10)), (5, .row 3 (fl c5q7)), (6, .row 3 (fl ([(ix (ixD c1q10 pi6) pp6)] : List Int)))] [.ptr 0 0, .own 6 0 ([(ix (ixD c1q10 pi6) pp6)] : List Int).length] [(0, 0), (1, 1), ((.s 2 0), (.s 2 0)), (3, 3), (4, 4), (5, 5)] (.tup []) [(0, .row 54 [.own 1 0 r1595.2.1.length, .own 3 0 r1595.2.2.1.length, .own 4 0 r1595.2.2.2.length, .own 13 0 r1595.1.length]), (1, .row 23 (flD dLListInt [2] r1595.2.1)), ((.s 2 0), .fam (famD dLListInt 0 r1595.2.1)), (3, .row 3 (fl r1595.2.2.1)), (4, .row 3 (fl r1595.2.2.2)), (5, .dead), (13, .row 3 (fl r1595.1)), (0, .dead), (1, .dead), ((.s 2 0), .dead), (3, .dead), (4, .dead), (5, .dead)] (by first | simp only [push_cast, leL_flD, renL_flD, seval] | simp only [push_cast, List.mem_singleton, true_and, and_true, leL_flD, renL_flD, seval]) (by simp only [push_cast, leL_flD, renL_flD, seval]) (by simp only [push_cast, leL_flD, renL_flD, seval]) (by simp only [push_cast, leL_flD, renL_flD, seval]) rfl (by first | (simp only [push_cast, leL_flD, renL_flD, seval]; done) | (simp only [push_cast, leL_flD, renL_flD, seval]; kernel_rfl) | kernel_rfl) (by first | (simp only [push_cast, leL_flD, renL_flD, seval]; done) | (simp only [push_cast, leL_flD, renL_flD, seval]; kernel_rfl) | kernel_rfl) rfl (hfam := (And.intro trivial (And.intro trivial (And.intro (fun _ => Or.inl rfl) (And.intro trivial (And.intro trivial (And.intro trivial trivial)))))))) (args := [.ptr 0 0, .own 7 0 ([(ix (ixD c1q10 pi6) pp6)] : List Int).length]) (dst := (some 46)) (by kernel_rfl) [(0, .row 54 [.own 1 0 c1q10.length, .own 3 0 c3q14.length, .own 4 0 c4q10.length, .own 5 0 c5q7.length]), (1, .row 23 (flD dLListInt [2] c1q10)), ((.s 2 0), .fam (famD dLListInt 0 c1q10)), (3, .row 3 (fl c3q14)), (4, .row 3 (fl c4q10)), (5, .row 3 (fl c5q7)), (6, .row 47 (Enc.cells x)), (7, .row 3 (fl ([(ix (ixD c1q10 pi6) pp6)] : List Int)))] 8 (by kernel_rfl) [(0, 0), (1, 1), ((.s 2 0), (.s 2 0)), (3, 3), (4, 4), (5, 5), (6, 7)] [] (.tup []) [(0, .row 54 [.own 1 0 r1595.2.1.length, .own 3 0 r1595.2.2.1.length, .own 4 0 r1595.2.2.2.length, .own 21 0 r1595.1.length]), (1, .row 23 (flD dLListInt [2] r1595.2.1)), ((.s 2 0), .fam (famD dLListInt 0 r1595.2.1)), (3, .row 3 (fl r1595.2.2.1)), (4, .row 3 (fl r1595.2.2.2)), (5, .dead), (21, .row 3 (fl r1595.1)), (0, .dead), (1, .dead), ((.s 2 0), .dead), (3, .dead), (4, .dead), (5, .dead), (0, .dead), (1, .dead), ((.s 2 0), .dead), (3, .dead), (4, .dead), (5, .dead), (7, .dead)] (by simp only [push_cast, leL_flD, renL_flD, seval]) (by simp only [push_cast, leL_flD, renL_flD, seval]) (by kernel_rfl) (.inl rfl) (by first | (simp only [push_cast, leL_flD, renL_flD, seval]; done) | (simp only [push_cast, leL_flD, renL_flD, seval]; kernel_rfl) | kernel_rfl) (by first | (simp only [push_cast, leL_flD, renL_flD, seval]; done) | (simp only [push_cast, leL_flD, renL_flD, seval]; kernel_rfl) | kernel_rfl) ?_ (hfam := (And.intro trivial (And.intro trivial (And.intro (fun _ => Or.inl rfl) (And.intro trivial (And.intro trivial (And.intro trivial (And.intro trivial trivial))))))))
                refine rf [(0, .ptr 0 0), (2, iS barrier), (7, .ptr (.s 2 pi6) (0 + (pp6).toNat * 1)), (8, iS r1574.1)] [(0, .row 54 [.own 1 0 r1595.2.1.length, .own 3 0 r1595.2.2.1.length, .own 4 0 r1595.2.2.2.length, .own 21 0 r1595.1.length]), (1, .row 23 (flD dLListInt [2] r1595.2.1)), ((.s 2 0), .fam (famD dLListInt 0 r1595.2.1)), (3, .row 3 (fl r1595.2.2.1)), (4, .row 3 (fl r1595.2.2.2)), (5, .dead), (6, .row 47 (Enc.cells x)), (7, .dead), (21, .row 3 (fl r1595.1))] 22 (by kernel_rfl) ?_
                exact hK1586 (r1574.1, r1595.2.1, r1595.2.2.1, r1595.2.2.2, r1595.1) _ _ _ h (leSt_m [(0, 0), (1, 1), ((.s 2 0), (.s 2 0)), (3, 3), (4, 4), (6, 21)] [] (by simp only [push_cast, leL_flD, renL_flD, seval]) (by simp only [push_cast, leL_flD, renL_flD, seval]) rfl rfl rfl)
              · exact hK1586 (r1574.1, c1q10, c3q14, c4q10, c5q7) _ _ _ h (leSt_m [(0, 0), (1, 1), ((.s 2 0), (.s 2 0)), (3, 3), (4, 4), (6, 5)] [] (by simp only [push_cast, leL_flD, renL_flD, seval]) (by simp only [push_cast, leL_flD, renL_flD, seval]) rfl rfl rfl)
            · rintro ⟨v6, c1q11, c3q15, c4q11, c6q13⟩ h
              try dsimp only at h ⊢
              unfold sweep_cycle_do_1_j2 at h
              refine chk_sx h (fun g1605 h => ?_)
              refine chk_sx h (fun g1607 h => ?_)
              refine seq_np ?_
              refine reg_f ?_
              have k1604 : 0 ≤ pp6 ∧ pp6 < (((ixD c1q11 pi6).length : Nat) : Int) := by first | simpa only [Bool.and_eq_true, decide_eq_true_eq, bne_iff_ne, ne_eq] using g1605 | (simp at g1605 ⊢; omega)
              have k1606 : 0 ≤ pi6 ∧ pi6 < ((c1q11.length : Nat) : Int) := by first | simpa only [Bool.and_eq_true, decide_eq_true_eq, bne_iff_ne, ne_eq] using g1607 | (simp at g1607 ⊢; omega)
              refine rs 4 [none, none, none, some ⟨.any, [((.s 2 0), .fam (famD dLListInt 0 (c1q11.set pi6.toNat ((ixD c1q11 pi6).set pp6.toNat v6))))], 7, [(.s 2 0)]⟩] _ (by kernel_rfl) (allP_cons (ob_stM (P := Try.prog) dLListInt 0 c1q11 pi6 k1606 ((ixD c1q11 pi6).set pp6.toNat v6) (ixD c1q11 pi6) pp6 1 0 (0 + (pp6).toNat * 1) k1604 rfl [iS v6] v6 (Nat.le_of_ble_eq_true rfl) (by first | rfl | omega) rfl 3 (by first | rfl | simp only [chD]; rfl) 2 7 3 (by kernel_rfl) rfl) allP_nil) ?_
              refine run_eqH 1 (.row 23 (flD dLListInt [2] c1q11)) (.row 23 (flD dLListInt [2] (c1q11.set pi6.toNat ((ixD c1q11 pi6).set pp6.toNat v6)))) (congrArg (Chunk.row 23) (flD_same k1606 ((ixD c1q11 pi6).set pp6.toNat v6) (by first | rfl | simp only [dcs, dLListInt, List.length_set]))) (by kernel_rfl) ?_
              refine run_eqH 0 (.row 54 [.own 1 0 c1q11.length, .own 3 0 c3q15.length, .own 4 0 c4q11.length, .own 6 0 c6q13.length]) (.row 54 [.own 1 0 (c1q11.set pi6.toNat ((ixD c1q11 pi6).set pp6.toNat v6)).length, .own 3 0 c3q15.length, .own 4 0 c4q11.length, .own 6 0 c6q13.length]) (congrArg (fun nq => (.row 54 [.own 1 0 nq, .own 3 0 c3q15.length, .own 4 0 c4q11.length, .own 6 0 c6q13.length] : Chunk)) (show c1q11.length = (c1q11.set pi6.toNat ((ixD c1q11 pi6).set pp6.toNat v6)).length from (List.length_set ..).symm)) (by kernel_rfl) ?_
              refine rf [(0, .ptr 0 0), (2, iS barrier), (8, iS v6)] [(0, .row 54 [.own 1 0 (c1q11.set pi6.toNat ((ixD c1q11 pi6).set pp6.toNat v6)).length, .own 3 0 c3q15.length, .own 4 0 c4q11.length, .own 6 0 c6q13.length]), (1, .row 23 (flD dLListInt [2] (c1q11.set pi6.toNat ((ixD c1q11 pi6).set pp6.toNat v6)))), ((.s 2 0), .fam (famD dLListInt 0 (c1q11.set pi6.toNat ((ixD c1q11 pi6).set pp6.toNat v6)))), (3, .row 3 (fl c3q15)), (4, .row 3 (fl c4q11)), (5, .dead), (6, .row 3 (fl c6q13))] 7 (by kernel_rfl) ?_
              refine wk_id ?_
              refine seq_np ?_
              refine reg_f ?_
              refine rs 3 [] [] (by kernel_rfl) allP_nil ?_
              refine rf [(0, .ptr 0 0), (8, iS v6), (52, bS ((IntKind.i64.wrap (((BitVec.ofInt (IntKind.i64).bits barrier &&& BitVec.ofInt (IntKind.i64).bits 1).toNat : Nat) : Int)) != 0))] [(0, .row 54 [.own 1 0 (c1q11.set pi6.toNat ((ixD c1q11 pi6).set pp6.toNat v6)).length, .own 3 0 c3q15.length, .own 4 0 c4q11.length, .own 6 0 c6q13.length]), (1, .row 23 (flD dLListInt [2] (c1q11.set pi6.toNat ((ixD c1q11 pi6).set pp6.toNat v6)))), ((.s 2 0), .fam (famD dLListInt 0 (c1q11.set pi6.toNat ((ixD c1q11 pi6).set pp6.toNat v6)))), (3, .row 3 (fl c3q15)), (4, .row 3 (fl c4q11)), (5, .dead), (6, .row 3 (fl c6q13))] 7 (by kernel_rfl) ?_
              refine wk_id ?_
              refine cond_sx h (by kernel_rfl) (fun g1616 h => ?_) (fun g1616 h => ?_)
              · refine reg_f ?_
                refine rs 3 [] [] (by kernel_rfl) allP_nil ?_
                obtain ⟨r1612, hr1612, h⟩ := bind_sx h
                refine call_x (SpecW.give (sweep_cycle_shade_3_spec ([v6] : List Int) (c1q11.set pi6.toNat ((ixD c1q11 pi6).set pp6.toNat v6)) c3q15 c4q11 c6q13 r1612 hr1612) [(0, .row 54 [.own 1 0 (c1q11.set pi6.toNat ((ixD c1q11 pi6).set pp6.toNat v6)).length, .own 3 0 c3q15.length, .own 4 0 c4q11.length, .own 5 0 c6q13.length]), (1, .row 23 (flD dLListInt [2] (c1q11.set pi6.toNat ((ixD c1q11 pi6).set pp6.toNat v6)))), ((.s 2 0), .fam (famD dLListInt 0 (c1q11.set pi6.toNat ((ixD c1q11 pi6).set pp6.toNat v6)))), (3, .row 3 (fl c3q15)), (4, .row 3 (fl c4q11)), (5, .row 3 (fl c6q13)), (6, .row 3 (fl ([v6] : List Int)))] [.ptr 0 0, .own 6 0 ([v6] : List Int).length] [(0, 0), (1, 1), ((.s 2 0), (.s 2 0)), (3, 3), (4, 4), (5, 5)] (.tup []) [(0, .row 54 [.own 1 0 r1612.2.1.length, .own 3 0 r1612.2.2.1.length, .own 4 0 r1612.2.2.2.length, .own 13 0 r1612.1.length]), (1, .row 23 (flD dLListInt [2] r1612.2.1)), ((.s 2 0), .fam (famD dLListInt 0 r1612.2.1)), (3, .row 3 (fl r1612.2.2.1)), (4, .row 3 (fl r1612.2.2.2)), (5, .dead), (13, .row 3 (fl r1612.1)), (0, .dead), (1, .dead), ((.s 2 0), .dead), (3, .dead), (4, .dead), (5, .dead)] (by first | simp only [push_cast, leL_flD, renL_flD, seval] | simp only [push_cast, List.mem_singleton, true_and, and_true, leL_flD, renL_flD, seval]) (by simp only [push_cast, leL_flD, renL_flD, seval]) (by simp only [push_cast, leL_flD, renL_flD, seval]) (by simp only [push_cast, leL_flD, renL_flD, seval]) rfl (by first | (simp only [push_cast, leL_flD, renL_flD, seval]; done) | (simp only [push_cast, leL_flD, renL_flD, seval]; kernel_rfl) | kernel_rfl) (by first | (simp only [push_cast, leL_flD, renL_flD, seval]; done) | (simp only [push_cast, leL_flD, renL_flD, seval]; kernel_rfl) | kernel_rfl) rfl (hfam := (And.intro trivial (And.intro trivial (And.intro (fun _ => Or.inl rfl) (And.intro trivial (And.intro trivial (And.intro trivial trivial)))))))) (args := [.ptr 0 0, .own 7 0 ([v6] : List Int).length]) (dst := (some 56)) (by kernel_rfl) [(0, .row 54 [.own 1 0 (c1q11.set pi6.toNat ((ixD c1q11 pi6).set pp6.toNat v6)).length, .own 3 0 c3q15.length, .own 4 0 c4q11.length, .own 6 0 c6q13.length]), (1, .row 23 (flD dLListInt [2] (c1q11.set pi6.toNat ((ixD c1q11 pi6).set pp6.toNat v6)))), ((.s 2 0), .fam (famD dLListInt 0 (c1q11.set pi6.toNat ((ixD c1q11 pi6).set pp6.toNat v6)))), (3, .row 3 (fl c3q15)), (4, .row 3 (fl c4q11)), (5, .dead), (6, .row 3 (fl c6q13)), (7, .row 3 (fl ([v6] : List Int)))] 8 (by kernel_rfl) [(0, 0), (1, 1), ((.s 2 0), (.s 2 0)), (3, 3), (4, 4), (5, 6), (6, 7)] [] (.tup []) [(0, .row 54 [.own 1 0 r1612.2.1.length, .own 3 0 r1612.2.2.1.length, .own 4 0 r1612.2.2.2.length, .own 21 0 r1612.1.length]), (1, .row 23 (flD dLListInt [2] r1612.2.1)), ((.s 2 0), .fam (famD dLListInt 0 r1612.2.1)), (3, .row 3 (fl r1612.2.2.1)), (4, .row 3 (fl r1612.2.2.2)), (6, .dead), (21, .row 3 (fl r1612.1)), (0, .dead), (1, .dead), ((.s 2 0), .dead), (3, .dead), (4, .dead), (6, .dead), (0, .dead), (1, .dead), ((.s 2 0), .dead), (3, .dead), (4, .dead), (6, .dead), (7, .dead)] (by simp only [push_cast, leL_flD, renL_flD, seval]) (by simp only [push_cast, leL_flD, renL_flD, seval]) (by kernel_rfl) (.inl rfl) (by first | (simp only [push_cast, leL_flD, renL_flD, seval]; done) | (simp only [push_cast, leL_flD, renL_flD, seval]; kernel_rfl) | kernel_rfl) (by first | (simp only [push_cast, leL_flD, renL_flD, seval]; done) | (simp only [push_cast, leL_flD, renL_flD, seval]; kernel_rfl) | kernel_rfl) ?_ (hfam := (And.intro trivial (And.intro trivial (And.intro (fun _ => Or.inl rfl) (And.intro trivial (And.intro trivial (And.intro trivial (And.intro trivial trivial))))))))
                refine rf [] [(0, .row 54 [.own 1 0 r1612.2.1.length, .own 3 0 r1612.2.2.1.length, .own 4 0 r1612.2.2.2.length, .own 21 0 r1612.1.length]), (1, .row 23 (flD dLListInt [2] r1612.2.1)), ((.s 2 0), .fam (famD dLListInt 0 r1612.2.1)), (3, .row 3 (fl r1612.2.2.1)), (4, .row 3 (fl r1612.2.2.2)), (5, .dead), (6, .dead), (7, .dead), (21, .row 3 (fl r1612.1))] 22 (by kernel_rfl) ?_
                exact hK1558 (r1612.2.1, r1612.2.2.2, r1612.1, r1612.2.2.1) _ _ _ h (leSt_m [(0, 0), (3, 3), (6, 1), (7, 4), (8, 21), ((.s 9 0), (.s 2 0))] [] (by simp only [push_cast, leL_flD, renL_flD, seval]) (by simp only [push_cast, leL_flD, renL_flD, seval]) rfl rfl rfl)
              · exact hK1558 ((c1q11.set pi6.toNat ((ixD c1q11 pi6).set pp6.toNat v6)), c4q11, c6q13, c3q15) _ _ _ h (leSt_m [(0, 0), (3, 3), (6, 1), (7, 4), (8, 6), ((.s 9 0), (.s 2 0))] [] (by simp only [push_cast, leL_flD, renL_flD, seval]) (by simp only [push_cast, leL_flD, renL_flD, seval]) rfl rfl rfl)
        · refine seq_np ?_
          refine reg_f ?_
          refine run_eqF 7 ((bif pok6 then .ptr (.s 2 pi6) (0 + (pp6).toNat * 1) else .v (.pointer none))) (.v (.pointer none)) (by rw [g1577]; rfl) (by kernel_rfl) ?_
          refine rs 6 [] [] (by kernel_rfl) allP_nil ?_
          refine rf [(0, .ptr 0 0), (2, iS barrier), (7, .v (.pointer none)), (8, iS r1574.1), (37, bS true)] [(0, .row 54 [.own 1 0 c1q10.length, .own 3 0 c3q14.length, .own 4 0 c4q10.length, .own 5 0 c5q7.length]), (1, .row 23 (flD dLListInt [2] c1q10)), ((.s 2 0), .fam (famD dLListInt 0 c1q10)), (3, .row 3 (fl c3q14)), (4, .row 3 (fl c4q10)), (5, .row 3 (fl c5q7)), (6, .row 47 (Enc.cells x))] 7 (by kernel_rfl) ?_
          refine wk_id ?_
          refine cond_t (by kernel_rfl) ?_
          refine seq_np ?_
          refine reg_f ?_
          refine rs 1 [] [] (by kernel_rfl) allP_nil ?_
          refine rf [(6, iS 3)] [(0, .row 54 [.own 1 0 c1q10.length, .own 3 0 c3q14.length, .own 4 0 c4q10.length, .own 5 0 c5q7.length]), (1, .row 23 (flD dLListInt [2] c1q10)), ((.s 2 0), .fam (famD dLListInt 0 c1q10)), (3, .row 3 (fl c3q14)), (4, .row 3 (fl c4q10)), (5, .row 3 (fl c5q7)), (6, .row 47 (Enc.cells x))] 7 (by kernel_rfl) ?_
          refine wk_id ?_
          obtain rfl := Option.some.inj h
          refine ret_at (iS 3) (by kernel_rfl) ?_
          exact ret_e [(0, 0), (3, 3), (6, 1), (7, 4), (8, 5), ((.s 9 0), (.s 2 0))] [] (by simp only [push_cast, leL_flD, renL_flD, seval]) (by simp only [push_cast, leL_flD, renL_flD, seval]) rfl rfl rfl
    · refine seq_np ?_
      refine reg_f ?_
      refine rs 2 [] [] (by kernel_rfl) allP_nil ?_
      refine rf [(0, .ptr 0 0), (4, .ptr 6 0), (16, iS x.Op), (57, bS (x.Op == 2))] [(0, .row 54 [.own 1 0 c1.length, .own 3 0 c3.length, .own 4 0 c4.length, .own 5 0 c5.length]), (1, .row 23 (flD dLListInt [2] c1)), ((.s 2 0), .fam (famD dLListInt 0 c1)), (3, .row 3 (fl c3)), (4, .row 3 (fl c4)), (5, .row 3 (fl c5)), (6, .row 47 (Enc.cells x))] 7 (by kernel_rfl) ?_
      refine wk_id ?_
      refine cond_sx h (by kernel_rfl) (fun g1761 h => ?_) (fun g1761 h => ?_)
      · refine seq_cut (A := Int × Int × Bool × (List (List Int)) × (List Int) × (List Int) × (List Int)) (fun a => ([(0, .ptr 0 0), (4, .ptr 6 0), (10, (bif a.2.2.1 then .ptr (.s 2 a.1) (0 + (a.2.1).toNat * 1) else .v (.pointer none)))], [(0, .row 54 [.own 1 0 a.2.2.2.1.length, .own 3 0 a.2.2.2.2.1.length, .own 4 0 a.2.2.2.2.2.1.length, .own 5 0 a.2.2.2.2.2.2.length]), (1, .row 23 (flD dLListInt [2] a.2.2.2.1)), ((.s 2 0), .fam (famD dLListInt 0 a.2.2.2.1)), (3, .row 3 (fl a.2.2.2.2.1)), (4, .row 3 (fl a.2.2.2.2.2.1)), (5, .row 3 (fl a.2.2.2.2.2.2)), (6, .row 47 (Enc.cells x))], 7)) (fun a => (sweep_cycle_do_1_j4 x a.1 a.2.1 a.2.2.1 a.2.2.2.1 a.2.2.2.2.1 a.2.2.2.2.2.1 a.2.2.2.2.2.2) = some r) (fun K1625 hK1625 => ?_) ?_
        · refine reg_f ?_
          refine rs 5 [] [] (by kernel_rfl) allP_nil ?_
          obtain ⟨r1626, hr1626, h⟩ := bind_sx h
          refine call_x (sweep_cycle_slot_1_spec x.C x.B c1 c3 c4 c5 r1626 hr1626) (args := [.ptr 0 0, iS x.C, iS x.B]) (dst := (some 64)) (by kernel_rfl) [(0, .row 54 [.own 1 0 c1.length, .own 3 0 c3.length, .own 4 0 c4.length, .own 5 0 c5.length]), (1, .row 23 (flD dLListInt [2] c1)), ((.s 2 0), .fam (famD dLListInt 0 c1)), (3, .row 3 (fl c3)), (4, .row 3 (fl c4)), (5, .row 3 (fl c5)), (6, .row 47 (Enc.cells x))] 7 (by kernel_rfl) [(0, 0), (1, 1), ((.s 2 0), (.s 2 0)), (3, 3), (4, 4), (5, 5)] [] ((bif r1626.2.2.1 then .ptr (.s 2 r1626.1) (0 + (r1626.2.1).toNat * 1) else .v (.pointer none))) [(0, .row 54 [.own 1 0 r1626.2.2.2.1.length, .own 3 0 r1626.2.2.2.2.1.length, .own 4 0 r1626.2.2.2.2.2.1.length, .own 5 0 r1626.2.2.2.2.2.2.length]), (1, .row 23 (flD dLListInt [2] r1626.2.2.2.1)), ((.s 2 0), .fam (famD dLListInt 0 r1626.2.2.2.1)), (3, .row 3 (fl r1626.2.2.2.2.1)), (4, .row 3 (fl r1626.2.2.2.2.2.1)), (5, .row 3 (fl r1626.2.2.2.2.2.2)), (0, .dead), (1, .dead), ((.s 2 0), .dead), (3, .dead), (4, .dead), (5, .dead)] (by simp only [push_cast, leL_flD, renL_flD, seval]) (by simp only [push_cast, leL_flD, renL_flD, seval]) (by kernel_rfl) (.inl rfl) (by first | (simp only [push_cast, leL_flD, renL_flD, seval]; done) | (simp only [push_cast, leL_flD, renL_flD, seval]; kernel_rfl) | kernel_rfl) (by first | (simp only [push_cast, leL_flD, renL_flD, seval]; done) | (simp only [push_cast, leL_flD, renL_flD, seval]; kernel_rfl) | kernel_rfl) ?_ (hfam := (And.intro trivial (And.intro trivial (And.intro (fun _ => Or.inl rfl) (And.intro trivial (And.intro trivial (And.intro trivial trivial)))))))
          refine run_ubr h 64 (.ptr (.s 2 r1626.1) (0 + (r1626.2.1).toNat * 1)) (.v (.pointer none)) (by kernel_rfl) (fun g1631 h => ?_) (fun g1631 h => ?_)
          · refine rs 1 [] [] (by kernel_rfl) allP_nil ?_
            refine rf [(0, .ptr 0 0), (4, .ptr 6 0), (10, .ptr (.s 2 r1626.1) (0 + (r1626.2.1).toNat * 1))] [(0, .row 54 [.own 1 0 r1626.2.2.2.1.length, .own 3 0 r1626.2.2.2.2.1.length, .own 4 0 r1626.2.2.2.2.2.1.length, .own 5 0 r1626.2.2.2.2.2.2.length]), (1, .row 23 (flD dLListInt [2] r1626.2.2.2.1)), ((.s 2 0), .fam (famD dLListInt 0 r1626.2.2.2.1)), (3, .row 3 (fl r1626.2.2.2.2.1)), (4, .row 3 (fl r1626.2.2.2.2.2.1)), (5, .row 3 (fl r1626.2.2.2.2.2.2)), (6, .row 47 (Enc.cells x))] 13 (by kernel_rfl) ?_
            exact hK1625 (r1626.1, r1626.2.1, true, r1626.2.2.2.1, r1626.2.2.2.2.1, r1626.2.2.2.2.2.1, r1626.2.2.2.2.2.2) _ _ _ h (leSt_m [(0, 0), (1, 1), ((.s 2 0), (.s 2 0)), (3, 3), (4, 4), (5, 5), (6, 6)] [] (by (try simp only [g1631]) <;> simp only [push_cast, leL_flD, renL_flD, seval]) (by (try simp only [g1631]) <;> simp only [push_cast, leL_flD, renL_flD, seval]) rfl rfl rfl)
          · refine rs 1 [] [] (by kernel_rfl) allP_nil ?_
            refine rf [(0, .ptr 0 0), (4, .ptr 6 0), (10, .v (.pointer none))] [(0, .row 54 [.own 1 0 r1626.2.2.2.1.length, .own 3 0 r1626.2.2.2.2.1.length, .own 4 0 r1626.2.2.2.2.2.1.length, .own 5 0 r1626.2.2.2.2.2.2.length]), (1, .row 23 (flD dLListInt [2] r1626.2.2.2.1)), ((.s 2 0), .fam (famD dLListInt 0 r1626.2.2.2.1)), (3, .row 3 (fl r1626.2.2.2.2.1)), (4, .row 3 (fl r1626.2.2.2.2.2.1)), (5, .row 3 (fl r1626.2.2.2.2.2.2)), (6, .row 47 (Enc.cells x))] 13 (by kernel_rfl) ?_
            exact hK1625 (0, 0, false, r1626.2.2.2.1, r1626.2.2.2.2.1, r1626.2.2.2.2.2.1, r1626.2.2.2.2.2.2) _ _ _ h (leSt_m [(0, 0), (1, 1), ((.s 2 0), (.s 2 0)), (3, 3), (4, 4), (5, 5), (6, 6)] [] (by (try simp only [g1631]) <;> simp only [push_cast, leL_flD, renL_flD, seval]) (by (try simp only [g1631]) <;> simp only [push_cast, leL_flD, renL_flD, seval]) rfl rfl rfl)
        · rintro ⟨pi7, pp7, pok7, c1q12, c3q16, c4q12, c5q8⟩ h
          try dsimp only at h ⊢
          unfold sweep_cycle_do_1_j4 at h
          refine seq_np ?_
          refine bsplit_sx h (fun g1635 h => ?_) (fun g1635 h => ?_)
          · refine seq_np ?_
            refine reg_f ?_
            refine run_eqF 10 ((bif pok7 then .ptr (.s 2 pi7) (0 + (pp7).toNat * 1) else .v (.pointer none))) (.ptr (.s 2 pi7) (0 + (pp7).toNat * 1)) (by rw [g1635]; rfl) (by kernel_rfl) ?_
            refine rs 6 [] [] (by kernel_rfl) allP_nil ?_
            obtain ⟨r1637, hr1637, h⟩ := bind_sx h
            refine call_x (sweep_cycle_register_spec (cycle.mk c1q12 c3q16 c4q12 c5q8) x.A r1637 hr1637) (args := [.ptr 0 0, iS x.A]) (dst := (some 71)) (by kernel_rfl) [(0, .row 54 [.own 1 0 c1q12.length, .own 3 0 c3q16.length, .own 4 0 c4q12.length, .own 5 0 c5q8.length]), (1, .row 23 (flD dLListInt [2] c1q12)), ((.s 2 0), .fam (famD dLListInt 0 c1q12)), (3, .row 3 (fl c3q16)), (4, .row 3 (fl c4q12)), (5, .row 3 (fl c5q8)), (6, .row 47 (Enc.cells x))] 7 (by kernel_rfl) [] [1, (.s 2 0), 3, 4, 5, 0] (bS r1637) [] (by simp only [↓leS_frzD dLListInt [2] c1q12, ↓leS_frzD dLListInt [2] c1q12, leS_frz, leL_flD, renL_flD, push_cast, seval]) (by simp only [↓leS_frzD dLListInt [2] c1q12, ↓leS_frzD dLListInt [2] c1q12, leS_frz, leL_flD, renL_flD, push_cast, seval]) (by kernel_rfl) (.inr ⟨by simp only [push_cast, leL_flD, renL_flD, seval], by simp only [push_cast, leL_flD, renL_flD, seval]⟩) (by simp only [push_cast, leL_flD, renL_flD, seval]) (by simp only [push_cast, leL_flD, renL_flD, seval]) ?_
            refine rs 2 [] [] (by kernel_rfl) allP_nil ?_
            refine rf [(0, .ptr 0 0), (4, .ptr 6 0), (10, .ptr (.s 2 pi7) (0 + (pp7).toNat * 1)), (73, bS (!r1637))] [(0, .row 54 [.own 1 0 c1q12.length, .own 3 0 c3q16.length, .own 4 0 c4q12.length, .own 5 0 c5q8.length]), (1, .row 23 (flD dLListInt [2] c1q12)), ((.s 2 0), .fam (famD dLListInt 0 c1q12)), (3, .row 3 (fl c3q16)), (4, .row 3 (fl c4q12)), (5, .row 3 (fl c5q8)), (6, .row 47 (Enc.cells x))] 7 (by kernel_rfl) ?_
            refine wk_id ?_
            refine cond_sx h (by kernel_rfl) (fun g1646 h => ?_) (fun g1646 h => ?_)
            · refine seq_np ?_
              refine reg_f ?_
              refine rs 1 [] [] (by kernel_rfl) allP_nil ?_
              refine rf [(6, iS 3)] [(0, .row 54 [.own 1 0 c1q12.length, .own 3 0 c3q16.length, .own 4 0 c4q12.length, .own 5 0 c5q8.length]), (1, .row 23 (flD dLListInt [2] c1q12)), ((.s 2 0), .fam (famD dLListInt 0 c1q12)), (3, .row 3 (fl c3q16)), (4, .row 3 (fl c4q12)), (5, .row 3 (fl c5q8)), (6, .row 47 (Enc.cells x))] 7 (by kernel_rfl) ?_
              refine wk_id ?_
              obtain rfl := Option.some.inj h
              refine ret_at (iS 3) (by kernel_rfl) ?_
              exact ret_e [(0, 0), (3, 3), (6, 1), (7, 4), (8, 5), ((.s 9 0), (.s 2 0))] [] (by simp only [push_cast, leL_flD, renL_flD, seval]) (by simp only [push_cast, leL_flD, renL_flD, seval]) rfl rfl rfl
            · refine wk_id ?_
              refine chk_sx h (fun g1643 h => ?_)
              refine chk_sx h (fun g1645 h => ?_)
              refine reg_t ?_
              have k1642 : 0 ≤ pp7 ∧ pp7 < (((ixD c1q12 pi7).length : Nat) : Int) := by first | simpa only [Bool.and_eq_true, decide_eq_true_eq, bne_iff_ne, ne_eq] using g1643 | (simp at g1643 ⊢; omega)
              have k1644 : 0 ≤ x.A ∧ x.A < ((c3q16.length : Nat) : Int) := by first | simpa only [Bool.and_eq_true, decide_eq_true_eq, bne_iff_ne, ne_eq] using g1645 | (simp at g1645 ⊢; omega)
              refine rs 12 [none, none, none, none, none, none, none, none, none, some ⟨iS (ix (ixD c1q12 pi7) pp7), [], 16, [(.s 2 0)]⟩, some ⟨.ptr 3 (0 + (x.A).toNat * 1), [], 17, [3]⟩, some ⟨.any, [(3, .row 3 (fl (c3q16.set x.A.toNat (ix (ixD c1q12 pi7) pp7))))], 18, [3]⟩] _ (by kernel_rfl) (allP_cons (ob_st (P := Try.prog) c3q16 x.A 1 0 (0 + (x.A).toNat * 1) k1644 rfl [iS (ix (ixD c1q12 pi7) pp7)] (ix (ixD c1q12 pi7) pp7) (Nat.le_of_ble_eq_true rfl) (by first | rfl | omega) rfl 3 18 3 3 (by kernel_rfl) rfl) (allP_cons (ob_ix_o 3 c3q16.length 0 1 17 x.A k1644) (allP_cons (ob_ld (ixD c1q12 pi7) pp7 1 0 (0 + (pp7).toNat * 1) k1642 rfl (by decide) (by first | rfl | omega) (dflS Try.prog 3) (iS (ix (ixD c1q12 pi7) pp7)) rfl 16 [(.s 2 0)]) allP_nil))) ?_
              refine run_eqH 0 (.row 54 [.own 1 0 c1q12.length, .own 3 0 c3q16.length, .own 4 0 c4q12.length, .own 5 0 c5q8.length]) (.row 54 [.own 1 0 c1q12.length, .own 3 0 (c3q16.set x.A.toNat (ix (ixD c1q12 pi7) pp7)).length, .own 4 0 c4q12.length, .own 5 0 c5q8.length]) (congrArg (fun nq => (.row 54 [.own 1 0 c1q12.length, .own 3 0 nq, .own 4 0 c4q12.length, .own 5 0 c5q8.length] : Chunk)) (show c3q16.length = (c3q16.set x.A.toNat (ix (ixD c1q12 pi7) pp7)).length from (List.length_set ..).symm)) (by kernel_rfl) ?_
              refine rt [] [(0, .row 54 [.own 1 0 c1q12.length, .own 3 0 (c3q16.set x.A.toNat (ix (ixD c1q12 pi7) pp7)).length, .own 4 0 c4q12.length, .own 5 0 c5q8.length]), (1, .row 23 (flD dLListInt [2] c1q12)), ((.s 2 0), .fam (famD dLListInt 0 c1q12)), (3, .row 3 (fl (c3q16.set x.A.toNat (ix (ixD c1q12 pi7) pp7)))), (4, .row 3 (fl c4q12)), (5, .row 3 (fl c5q8)), (6, .row 47 (Enc.cells x))] 19 follows (by kernel_rfl) ?_
              exact hK1558 (c1q12, c4q12, c5q8, (c3q16.set x.A.toNat (ix (ixD c1q12 pi7) pp7))) _ _ _ h (leSt_m [(0, 0), (3, 3), (6, 1), (7, 4), (8, 5), ((.s 9 0), (.s 2 0))] [] (by simp only [push_cast, leL_flD, renL_flD, seval]) (by simp only [push_cast, leL_flD, renL_flD, seval]) rfl rfl rfl)
          · refine seq_np ?_
            refine reg_f ?_
            refine run_eqF 10 ((bif pok7 then .ptr (.s 2 pi7) (0 + (pp7).toNat * 1) else .v (.pointer none))) (.v (.pointer none)) (by rw [g1635]; rfl) (by kernel_rfl) ?_
            refine rs 9 [] [] (by kernel_rfl) allP_nil ?_
            refine rf [(0, .ptr 0 0), (4, .ptr 6 0), (10, .v (.pointer none)), (73, bS true)] [(0, .row 54 [.own 1 0 c1q12.length, .own 3 0 c3q16.length, .own 4 0 c4q12.length, .own 5 0 c5q8.length]), (1, .row 23 (flD dLListInt [2] c1q12)), ((.s 2 0), .fam (famD dLListInt 0 c1q12)), (3, .row 3 (fl c3q16)), (4, .row 3 (fl c4q12)), (5, .row 3 (fl c5q8)), (6, .row 47 (Enc.cells x))] 7 (by kernel_rfl) ?_
            refine wk_id ?_
            refine cond_t (by kernel_rfl) ?_
            refine seq_np ?_
            refine reg_f ?_
            refine rs 1 [] [] (by kernel_rfl) allP_nil ?_
            refine rf [(6, iS 3)] [(0, .row 54 [.own 1 0 c1q12.length, .own 3 0 c3q16.length, .own 4 0 c4q12.length, .own 5 0 c5q8.length]), (1, .row 23 (flD dLListInt [2] c1q12)), ((.s 2 0), .fam (famD dLListInt 0 c1q12)), (3, .row 3 (fl c3q16)), (4, .row 3 (fl c4q12)), (5, .row 3 (fl c5q8)), (6, .row 47 (Enc.cells x))] 7 (by kernel_rfl) ?_
            refine wk_id ?_
            obtain rfl := Option.some.inj h
            refine ret_at (iS 3) (by kernel_rfl) ?_
            exact ret_e [(0, 0), (3, 3), (6, 1), (7, 4), (8, 5), ((.s 9 0), (.s 2 0))] [] (by simp only [push_cast, leL_flD, renL_flD, seval]) (by simp only [push_cast, leL_flD, renL_flD, seval]) rfl rfl rfl
      · refine seq_np ?_
        refine reg_f ?_
        refine rs 2 [] [] (by kernel_rfl) allP_nil ?_
        refine rf [(0, .ptr 0 0), (4, .ptr 6 0), (16, iS x.Op), (85, bS (x.Op == 3))] [(0, .row 54 [.own 1 0 c1.length, .own 3 0 c3.length, .own 4 0 c4.length, .own 5 0 c5.length]), (1, .row 23 (flD dLListInt [2] c1)), ((.s 2 0), .fam (famD dLListInt 0 c1)), (3, .row 3 (fl c3)), (4, .row 3 (fl c4)), (5, .row 3 (fl c5)), (6, .row 47 (Enc.cells x))] 7 (by kernel_rfl) ?_
        refine wk_id ?_
        refine cond_sx h (by kernel_rfl) (fun g1760 h => ?_) (fun g1760 h => ?_)
        · refine seq_np ?_
          refine reg_f ?_
          refine rs 3 [] [] (by kernel_rfl) allP_nil ?_
          obtain ⟨r1648, hr1648, h⟩ := bind_sx h
          refine call_x (sweep_cycle_value_spec (cycle.mk c1 c3 c4 c5) x.C r1648 hr1648) (args := [.ptr 0 0, iS x.C]) (dst := (some 91)) (by kernel_rfl) [(0, .row 54 [.own 1 0 c1.length, .own 3 0 c3.length, .own 4 0 c4.length, .own 5 0 c5.length]), (1, .row 23 (flD dLListInt [2] c1)), ((.s 2 0), .fam (famD dLListInt 0 c1)), (3, .row 3 (fl c3)), (4, .row 3 (fl c4)), (5, .row 3 (fl c5)), (6, .row 47 (Enc.cells x))] 7 (by kernel_rfl) [] [1, (.s 2 0), 3, 4, 5, 0] (.tup [iS r1648.1, bS r1648.2]) [] (by simp only [↓leS_frzD dLListInt [2] c1, ↓leS_frzD dLListInt [2] c1, leS_frz, leL_flD, renL_flD, push_cast, seval]) (by simp only [↓leS_frzD dLListInt [2] c1, ↓leS_frzD dLListInt [2] c1, leS_frz, leL_flD, renL_flD, push_cast, seval]) (by kernel_rfl) (.inr ⟨by simp only [push_cast, leL_flD, renL_flD, seval], by simp only [push_cast, leL_flD, renL_flD, seval]⟩) (by simp only [push_cast, leL_flD, renL_flD, seval]) (by simp only [push_cast, leL_flD, renL_flD, seval]) ?_
          refine rs 5 [] [] (by kernel_rfl) allP_nil ?_
          refine rf [(0, .ptr 0 0), (4, .ptr 6 0), (11, iS r1648.1), (12, bS r1648.2)] [(0, .row 54 [.own 1 0 c1.length, .own 3 0 c3.length, .own 4 0 c4.length, .own 5 0 c5.length]), (1, .row 23 (flD dLListInt [2] c1)), ((.s 2 0), .fam (famD dLListInt 0 c1)), (3, .row 3 (fl c3)), (4, .row 3 (fl c4)), (5, .row 3 (fl c5)), (6, .row 47 (Enc.cells x))] 7 (by kernel_rfl) ?_
          refine wk_id ?_
          refine seq_np ?_
          refine seq_cut (A := Int × Bool) (fun a => ([(0, .ptr 0 0), (4, .ptr 6 0), (11, iS a.1), (107, bS a.2)], [(0, .row 54 [.own 1 0 c1.length, .own 3 0 c3.length, .own 4 0 c4.length, .own 5 0 c5.length]), (1, .row 23 (flD dLListInt [2] c1)), ((.s 2 0), .fam (famD dLListInt 0 c1)), (3, .row 3 (fl c3)), (4, .row 3 (fl c4)), (5, .row 3 (fl c5)), (6, .row 47 (Enc.cells x))], 7)) (fun a => (sweep_cycle_do_1_j5 x c1 c3 c4 c5 a.1 a.2) = some r) (fun K1659 hK1659 => ?_) ?_
          · refine reg_f ?_
            refine rs 3 [] [] (by kernel_rfl) allP_nil ?_
            refine run_br h 96 (.inl (by kernel_rfl)) (fun g1660 h => ?_) (fun g1660 h => ?_)
            · refine rs 11 [] [] (by kernel_rfl) allP_nil ?_
              refine rf [(0, .ptr 0 0), (4, .ptr 6 0), (11, iS r1648.1), (107, bS true)] [(0, .row 54 [.own 1 0 c1.length, .own 3 0 c3.length, .own 4 0 c4.length, .own 5 0 c5.length]), (1, .row 23 (flD dLListInt [2] c1)), ((.s 2 0), .fam (famD dLListInt 0 c1)), (3, .row 3 (fl c3)), (4, .row 3 (fl c4)), (5, .row 3 (fl c5)), (6, .row 47 (Enc.cells x))] 7 (by kernel_rfl) ?_
              exact hK1659 (r1648.1, true) _ _ _ h (leSt_m [(0, 0), (1, 1), ((.s 2 0), (.s 2 0)), (3, 3), (4, 4), (5, 5), (6, 6)] [] (by (try simp only [g1660]) <;> simp only [push_cast, leL_flD, renL_flD, seval]) (by (try simp only [g1660]) <;> simp only [push_cast, leL_flD, renL_flD, seval]) rfl rfl rfl)
            · refine rs 3 [] [] (by kernel_rfl) allP_nil ?_
              obtain ⟨r1661, hr1661, h⟩ := bind_sx h
              refine call_x (sweep_cycle_register_spec (cycle.mk c1 c3 c4 c5) x.A r1661 hr1661) (args := [.ptr 0 0, iS x.A]) (dst := (some 100)) (by kernel_rfl) [(0, .row 54 [.own 1 0 c1.length, .own 3 0 c3.length, .own 4 0 c4.length, .own 5 0 c5.length]), (1, .row 23 (flD dLListInt [2] c1)), ((.s 2 0), .fam (famD dLListInt 0 c1)), (3, .row 3 (fl c3)), (4, .row 3 (fl c4)), (5, .row 3 (fl c5)), (6, .row 47 (Enc.cells x))] 7 (by kernel_rfl) [] [1, (.s 2 0), 3, 4, 5, 0] (bS r1661) [] (by simp only [↓leS_frzD dLListInt [2] c1, ↓leS_frzD dLListInt [2] c1, leS_frz, leL_flD, renL_flD, push_cast, seval]) (by simp only [↓leS_frzD dLListInt [2] c1, ↓leS_frzD dLListInt [2] c1, leS_frz, leL_flD, renL_flD, push_cast, seval]) (by kernel_rfl) (.inr ⟨by simp only [push_cast, leL_flD, renL_flD, seval], by simp only [push_cast, leL_flD, renL_flD, seval]⟩) (by simp only [push_cast, leL_flD, renL_flD, seval]) (by simp only [push_cast, leL_flD, renL_flD, seval]) ?_
              refine rs 3 [] [] (by kernel_rfl) allP_nil ?_
              refine run_br h 103 (.inl (by kernel_rfl)) (fun g1662 h => ?_) (fun g1662 h => ?_)
              · refine rn 10 [(0, .ptr 0 0), (4, .ptr 6 0), (11, iS r1648.1), (103, bS true)] [(0, .row 54 [.own 1 0 c1.length, .own 3 0 c3.length, .own 4 0 c4.length, .own 5 0 c5.length]), (1, .row 23 (flD dLListInt [2] c1)), ((.s 2 0), .fam (famD dLListInt 0 c1)), (3, .row 3 (fl c3)), (4, .row 3 (fl c4)), (5, .row 3 (fl c5)), (6, .row 47 (Enc.cells x))] 7 (by kernel_rfl) ?_
                refine rs 4 [] [] (by kernel_rfl) allP_nil ?_
                refine rf [(0, .ptr 0 0), (4, .ptr 6 0), (11, iS r1648.1), (107, bS true)] [(0, .row 54 [.own 1 0 c1.length, .own 3 0 c3.length, .own 4 0 c4.length, .own 5 0 c5.length]), (1, .row 23 (flD dLListInt [2] c1)), ((.s 2 0), .fam (famD dLListInt 0 c1)), (3, .row 3 (fl c3)), (4, .row 3 (fl c4)), (5, .row 3 (fl c5)), (6, .row 47 (Enc.cells x))] 7 (by kernel_rfl) ?_
                exact hK1659 (r1648.1, true) _ _ _ h (leSt_m [(0, 0), (1, 1), ((.s 2 0), (.s 2 0)), (3, 3), (4, 4), (5, 5), (6, 6)] [] (by first | ((try simp only [g1660, g1662]) <;> simp only [push_cast, leL_flD, renL_flD, seval]; done) | ((try simp only [g1660]); (try simp only [g1662]); simp only [push_cast, leL_flD, renL_flD, seval]; done) | (exfalso; clear h; simp_all; done)) (by first | ((try simp only [g1660, g1662]) <;> simp only [push_cast, leL_flD, renL_flD, seval]; done) | ((try simp only [g1660]); (try simp only [g1662]); simp only [push_cast, leL_flD, renL_flD, seval]; done) | (exfalso; clear h; simp_all; done)) rfl rfl rfl)
              · refine rn 10 [(0, .ptr 0 0), (4, .ptr 6 0), (11, iS r1648.1), (103, bS false)] [(0, .row 54 [.own 1 0 c1.length, .own 3 0 c3.length, .own 4 0 c4.length, .own 5 0 c5.length]), (1, .row 23 (flD dLListInt [2] c1)), ((.s 2 0), .fam (famD dLListInt 0 c1)), (3, .row 3 (fl c3)), (4, .row 3 (fl c4)), (5, .row 3 (fl c5)), (6, .row 47 (Enc.cells x))] 7 (by kernel_rfl) ?_
                refine rs 4 [] [] (by kernel_rfl) allP_nil ?_
                refine rf [(0, .ptr 0 0), (4, .ptr 6 0), (11, iS r1648.1), (107, bS (x.B != 0))] [(0, .row 54 [.own 1 0 c1.length, .own 3 0 c3.length, .own 4 0 c4.length, .own 5 0 c5.length]), (1, .row 23 (flD dLListInt [2] c1)), ((.s 2 0), .fam (famD dLListInt 0 c1)), (3, .row 3 (fl c3)), (4, .row 3 (fl c4)), (5, .row 3 (fl c5)), (6, .row 47 (Enc.cells x))] 7 (by kernel_rfl) ?_
                exact hK1659 (r1648.1, (x.B != 0)) _ _ _ h (leSt_m [(0, 0), (1, 1), ((.s 2 0), (.s 2 0)), (3, 3), (4, 4), (5, 5), (6, 6)] [] (by first | ((try simp only [g1660, g1662]) <;> simp only [push_cast, leL_flD, renL_flD, seval]; done) | ((try simp only [g1660]); (try simp only [g1662]); simp only [push_cast, leL_flD, renL_flD, seval]; done) | (exfalso; clear h; simp_all; done)) (by first | ((try simp only [g1660, g1662]) <;> simp only [push_cast, leL_flD, renL_flD, seval]; done) | ((try simp only [g1660]); (try simp only [g1662]); simp only [push_cast, leL_flD, renL_flD, seval]; done) | (exfalso; clear h; simp_all; done)) rfl rfl rfl)
          · rintro ⟨v8, t107q4⟩ h
            try dsimp only at h ⊢
            unfold sweep_cycle_do_1_j5 at h
            refine cond_sx h (by kernel_rfl) (fun g1667 h => ?_) (fun g1667 h => ?_)
            · refine seq_np ?_
              refine reg_f ?_
              refine rs 1 [] [] (by kernel_rfl) allP_nil ?_
              refine rf [(6, iS 3)] [(0, .row 54 [.own 1 0 c1.length, .own 3 0 c3.length, .own 4 0 c4.length, .own 5 0 c5.length]), (1, .row 23 (flD dLListInt [2] c1)), ((.s 2 0), .fam (famD dLListInt 0 c1)), (3, .row 3 (fl c3)), (4, .row 3 (fl c4)), (5, .row 3 (fl c5)), (6, .row 47 (Enc.cells x))] 7 (by kernel_rfl) ?_
              refine wk_id ?_
              obtain rfl := Option.some.inj h
              refine ret_at (iS 3) (by kernel_rfl) ?_
              exact ret_e [(0, 0), (3, 3), (6, 1), (7, 4), (8, 5), ((.s 9 0), (.s 2 0))] [] (by simp only [push_cast, leL_flD, renL_flD, seval]) (by simp only [push_cast, leL_flD, renL_flD, seval]) rfl rfl rfl
            · refine wk_id ?_
              refine chk_sx h (fun g1666 h => ?_)
              refine reg_t ?_
              have k1665 : 0 ≤ x.A ∧ x.A < ((c3.length : Nat) : Int) := by first | simpa only [Bool.and_eq_true, decide_eq_true_eq, bne_iff_ne, ne_eq] using g1666 | (simp at g1666 ⊢; omega)
              refine rs 10 [none, none, none, none, none, none, none, none, some ⟨.ptr 3 (0 + (x.A).toNat * 1), [], 15, [3]⟩, some ⟨.any, [(3, .row 3 (fl (c3.set x.A.toNat v8)))], 16, [3]⟩] _ (by kernel_rfl) (allP_cons (ob_st (P := Try.prog) c3 x.A 1 0 (0 + (x.A).toNat * 1) k1665 rfl [iS v8] v8 (Nat.le_of_ble_eq_true rfl) (by first | rfl | omega) rfl 3 16 3 3 (by kernel_rfl) rfl) (allP_cons (ob_ix_o 3 c3.length 0 1 15 x.A k1665) allP_nil)) ?_
              refine run_eqH 0 (.row 54 [.own 1 0 c1.length, .own 3 0 c3.length, .own 4 0 c4.length, .own 5 0 c5.length]) (.row 54 [.own 1 0 c1.length, .own 3 0 (c3.set x.A.toNat v8).length, .own 4 0 c4.length, .own 5 0 c5.length]) (congrArg (fun nq => (.row 54 [.own 1 0 c1.length, .own 3 0 nq, .own 4 0 c4.length, .own 5 0 c5.length] : Chunk)) (show c3.length = (c3.set x.A.toNat v8).length from (List.length_set ..).symm)) (by kernel_rfl) ?_
              refine rt [] [(0, .row 54 [.own 1 0 c1.length, .own 3 0 (c3.set x.A.toNat v8).length, .own 4 0 c4.length, .own 5 0 c5.length]), (1, .row 23 (flD dLListInt [2] c1)), ((.s 2 0), .fam (famD dLListInt 0 c1)), (3, .row 3 (fl (c3.set x.A.toNat v8))), (4, .row 3 (fl c4)), (5, .row 3 (fl c5)), (6, .row 47 (Enc.cells x))] 17 follows (by kernel_rfl) ?_
              exact hK1558 (c1, c4, c5, (c3.set x.A.toNat v8)) _ _ _ h (leSt_m [(0, 0), (3, 3), (6, 1), (7, 4), (8, 5), ((.s 9 0), (.s 2 0))] [] (by simp only [push_cast, leL_flD, renL_flD, seval]) (by simp only [push_cast, leL_flD, renL_flD, seval]) rfl rfl rfl)
        · refine seq_np ?_
          refine reg_f ?_
          refine rs 2 [] [] (by kernel_rfl) allP_nil ?_
          refine rf [(0, .ptr 0 0), (4, .ptr 6 0), (16, iS x.Op), (117, bS (x.Op == 4))] [(0, .row 54 [.own 1 0 c1.length, .own 3 0 c3.length, .own 4 0 c4.length, .own 5 0 c5.length]), (1, .row 23 (flD dLListInt [2] c1)), ((.s 2 0), .fam (famD dLListInt 0 c1)), (3, .row 3 (fl c3)), (4, .row 3 (fl c4)), (5, .row 3 (fl c5)), (6, .row 47 (Enc.cells x))] 7 (by kernel_rfl) ?_
          refine wk_id ?_
          refine cond_sx h (by kernel_rfl) (fun g1759 h => ?_) (fun g1759 h => ?_)
          · refine seq_np ?_
            refine seq_cut (A := Bool) (fun a => ([(0, .ptr 0 0), (4, .ptr 6 0), (138, bS a)], [(0, .row 54 [.own 1 0 c1.length, .own 3 0 c3.length, .own 4 0 c4.length, .own 5 0 c5.length]), (1, .row 23 (flD dLListInt [2] c1)), ((.s 2 0), .fam (famD dLListInt 0 c1)), (3, .row 3 (fl c3)), (4, .row 3 (fl c4)), (5, .row 3 (fl c5)), (6, .row 47 (Enc.cells x))], 7)) (fun a => (sweep_cycle_do_1_j6 x c1 c3 c4 c5 a) = some r) (fun K1680 hK1680 => ?_) ?_
            · refine reg_f ?_
              refine rs 3 [] [] (by kernel_rfl) allP_nil ?_
              obtain ⟨r1681, hr1681, h⟩ := bind_sx h
              refine call_x (sweep_cycle_register_spec (cycle.mk c1 c3 c4 c5) x.A r1681 hr1681) (args := [.ptr 0 0, iS x.A]) (dst := (some 122)) (by kernel_rfl) [(0, .row 54 [.own 1 0 c1.length, .own 3 0 c3.length, .own 4 0 c4.length, .own 5 0 c5.length]), (1, .row 23 (flD dLListInt [2] c1)), ((.s 2 0), .fam (famD dLListInt 0 c1)), (3, .row 3 (fl c3)), (4, .row 3 (fl c4)), (5, .row 3 (fl c5)), (6, .row 47 (Enc.cells x))] 7 (by kernel_rfl) [] [1, (.s 2 0), 3, 4, 5, 0] (bS r1681) [] (by simp only [↓leS_frzD dLListInt [2] c1, ↓leS_frzD dLListInt [2] c1, leS_frz, leL_flD, renL_flD, push_cast, seval]) (by simp only [↓leS_frzD dLListInt [2] c1, ↓leS_frzD dLListInt [2] c1, leS_frz, leL_flD, renL_flD, push_cast, seval]) (by kernel_rfl) (.inr ⟨by simp only [push_cast, leL_flD, renL_flD, seval], by simp only [push_cast, leL_flD, renL_flD, seval]⟩) (by simp only [push_cast, leL_flD, renL_flD, seval]) (by simp only [push_cast, leL_flD, renL_flD, seval]) ?_
              refine rs 2 [] [] (by kernel_rfl) allP_nil ?_
              refine run_br h 124 (.inl (by kernel_rfl)) (fun g1682 h => ?_) (fun g1682 h => ?_)
              · refine rs 14 [] [] (by kernel_rfl) allP_nil ?_
                refine rf [(0, .ptr 0 0), (4, .ptr 6 0), (138, bS true)] [(0, .row 54 [.own 1 0 c1.length, .own 3 0 c3.length, .own 4 0 c4.length, .own 5 0 c5.length]), (1, .row 23 (flD dLListInt [2] c1)), ((.s 2 0), .fam (famD dLListInt 0 c1)), (3, .row 3 (fl c3)), (4, .row 3 (fl c4)), (5, .row 3 (fl c5)), (6, .row 47 (Enc.cells x))] 7 (by kernel_rfl) ?_
                exact hK1680 (true) _ _ _ h (leSt_m [(0, 0), (1, 1), ((.s 2 0), (.s 2 0)), (3, 3), (4, 4), (5, 5), (6, 6)] [] (by (try simp only [g1682]) <;> simp only [push_cast, leL_flD, renL_flD, seval]) (by (try simp only [g1682]) <;> simp only [push_cast, leL_flD, renL_flD, seval]) rfl rfl rfl)
              · refine rs 5 [] [] (by kernel_rfl) allP_nil ?_
                refine run_br h 129 (.inl (by kernel_rfl)) (fun g1683 h => ?_) (fun g1683 h => ?_)
                · refine rn 11 [(0, .ptr 0 0), (4, .ptr 6 0), (129, bS true)] [(0, .row 54 [.own 1 0 c1.length, .own 3 0 c3.length, .own 4 0 c4.length, .own 5 0 c5.length]), (1, .row 23 (flD dLListInt [2] c1)), ((.s 2 0), .fam (famD dLListInt 0 c1)), (3, .row 3 (fl c3)), (4, .row 3 (fl c4)), (5, .row 3 (fl c5)), (6, .row 47 (Enc.cells x))] 7 (by kernel_rfl) ?_
                  refine rs 9 [] [] (by kernel_rfl) allP_nil ?_
                  refine rf [(0, .ptr 0 0), (4, .ptr 6 0), (138, bS true)] [(0, .row 54 [.own 1 0 c1.length, .own 3 0 c3.length, .own 4 0 c4.length, .own 5 0 c5.length]), (1, .row 23 (flD dLListInt [2] c1)), ((.s 2 0), .fam (famD dLListInt 0 c1)), (3, .row 3 (fl c3)), (4, .row 3 (fl c4)), (5, .row 3 (fl c5)), (6, .row 47 (Enc.cells x))] 7 (by kernel_rfl) ?_
                  exact hK1680 (true) _ _ _ h (leSt_m [(0, 0), (1, 1), ((.s 2 0), (.s 2 0)), (3, 3), (4, 4), (5, 5), (6, 6)] [] (by first | ((try simp only [g1682, g1683]) <;> simp only [push_cast, leL_flD, renL_flD, seval]; done) | ((try simp only [g1682]); (try simp only [g1683]); simp only [push_cast, leL_flD, renL_flD, seval]; done) | (exfalso; clear h; simp_all; done)) (by first | ((try simp only [g1682, g1683]) <;> simp only [push_cast, leL_flD, renL_flD, seval]; done) | ((try simp only [g1682]); (try simp only [g1683]); simp only [push_cast, leL_flD, renL_flD, seval]; done) | (exfalso; clear h; simp_all; done)) rfl rfl rfl)
                · refine rn 11 [(0, .ptr 0 0), (4, .ptr 6 0), (129, bS false)] [(0, .row 54 [.own 1 0 c1.length, .own 3 0 c3.length, .own 4 0 c4.length, .own 5 0 c5.length]), (1, .row 23 (flD dLListInt [2] c1)), ((.s 2 0), .fam (famD dLListInt 0 c1)), (3, .row 3 (fl c3)), (4, .row 3 (fl c4)), (5, .row 3 (fl c5)), (6, .row 47 (Enc.cells x))] 7 (by kernel_rfl) ?_
                  refine rs 5 [] [] (by kernel_rfl) allP_nil ?_
                  refine run_br h 134 (.inl (by kernel_rfl)) (fun g1684 h => ?_) (fun g1684 h => ?_)
                  · refine rs 4 [] [] (by kernel_rfl) allP_nil ?_
                    refine rf [(0, .ptr 0 0), (4, .ptr 6 0), (138, bS true)] [(0, .row 54 [.own 1 0 c1.length, .own 3 0 c3.length, .own 4 0 c4.length, .own 5 0 c5.length]), (1, .row 23 (flD dLListInt [2] c1)), ((.s 2 0), .fam (famD dLListInt 0 c1)), (3, .row 3 (fl c3)), (4, .row 3 (fl c4)), (5, .row 3 (fl c5)), (6, .row 47 (Enc.cells x))] 7 (by kernel_rfl) ?_
                    exact hK1680 (true) _ _ _ h (leSt_m [(0, 0), (1, 1), ((.s 2 0), (.s 2 0)), (3, 3), (4, 4), (5, 5), (6, 6)] [] (by first | ((try simp only [g1682, g1683, g1684]) <;> simp only [push_cast, leL_flD, renL_flD, seval]; done) | ((try simp only [g1682]); (try simp only [g1683]); (try simp only [g1684]); simp only [push_cast, leL_flD, renL_flD, seval]; done) | (exfalso; clear h; simp_all; done)) (by first | ((try simp only [g1682, g1683, g1684]) <;> simp only [push_cast, leL_flD, renL_flD, seval]; done) | ((try simp only [g1682]); (try simp only [g1683]); (try simp only [g1684]); simp only [push_cast, leL_flD, renL_flD, seval]; done) | (exfalso; clear h; simp_all; done)) rfl rfl rfl)
                  · refine rs 4 [] [] (by kernel_rfl) allP_nil ?_
                    refine rf [(0, .ptr 0 0), (4, .ptr 6 0), (138, bS (x.C != 0))] [(0, .row 54 [.own 1 0 c1.length, .own 3 0 c3.length, .own 4 0 c4.length, .own 5 0 c5.length]), (1, .row 23 (flD dLListInt [2] c1)), ((.s 2 0), .fam (famD dLListInt 0 c1)), (3, .row 3 (fl c3)), (4, .row 3 (fl c4)), (5, .row 3 (fl c5)), (6, .row 47 (Enc.cells x))] 7 (by kernel_rfl) ?_
                    exact hK1680 ((x.C != 0)) _ _ _ h (leSt_m [(0, 0), (1, 1), ((.s 2 0), (.s 2 0)), (3, 3), (4, 4), (5, 5), (6, 6)] [] (by first | ((try simp only [g1682, g1683, g1684]) <;> simp only [push_cast, leL_flD, renL_flD, seval]; done) | ((try simp only [g1682]); (try simp only [g1683]); (try simp only [g1684]); simp only [push_cast, leL_flD, renL_flD, seval]; done) | (exfalso; clear h; simp_all; done)) (by first | ((try simp only [g1682, g1683, g1684]) <;> simp only [push_cast, leL_flD, renL_flD, seval]; done) | ((try simp only [g1682]); (try simp only [g1683]); (try simp only [g1684]); simp only [push_cast, leL_flD, renL_flD, seval]; done) | (exfalso; clear h; simp_all; done)) rfl rfl rfl)
            · rintro t138q4 h
              try dsimp only at h ⊢
              unfold sweep_cycle_do_1_j6 at h
              refine cond_sx h (by kernel_rfl) (fun g1740 h => ?_) (fun g1740 h => ?_)
              · refine seq_np ?_
                refine reg_f ?_
                refine rs 1 [] [] (by kernel_rfl) allP_nil ?_
                refine rf [(6, iS 3)] [(0, .row 54 [.own 1 0 c1.length, .own 3 0 c3.length, .own 4 0 c4.length, .own 5 0 c5.length]), (1, .row 23 (flD dLListInt [2] c1)), ((.s 2 0), .fam (famD dLListInt 0 c1)), (3, .row 3 (fl c3)), (4, .row 3 (fl c4)), (5, .row 3 (fl c5)), (6, .row 47 (Enc.cells x))] 7 (by kernel_rfl) ?_
                refine wk_id ?_
                obtain rfl := Option.some.inj h
                refine ret_at (iS 3) (by kernel_rfl) ?_
                exact ret_e [(0, 0), (3, 3), (6, 1), (7, 4), (8, 5), ((.s 9 0), (.s 2 0))] [] (by simp only [push_cast, leL_flD, renL_flD, seval]) (by simp only [push_cast, leL_flD, renL_flD, seval]) rfl rfl rfl
              · refine wk_id ?_
                refine seq_np ?_
                refine seq_np ?_
                refine reg_f ?_
                refine rs 7 [] [] (by kernel_rfl) allP_nil ?_
                refine rf [(0, .ptr 0 0), (4, .ptr 6 0), (145, bS (((c1.length : Nat) : Int) == 500))] [(0, .row 54 [.own 1 0 c1.length, .own 3 0 c3.length, .own 4 0 c4.length, .own 5 0 c5.length]), (1, .row 23 (flD dLListInt [2] c1)), ((.s 2 0), .fam (famD dLListInt 0 c1)), (3, .row 3 (fl c3)), (4, .row 3 (fl c4)), (5, .row 3 (fl c5)), (6, .row 47 (Enc.cells x))] 7 (by kernel_rfl) ?_
                refine wk_id ?_
                refine cond_sx h (by kernel_rfl) (fun g1739 h => ?_) (fun g1739 h => ?_)
                · refine seq_np ?_
                  refine reg_f ?_
                  refine rs 1 [] [] (by kernel_rfl) allP_nil ?_
                  refine rf [(6, iS 9)] [(0, .row 54 [.own 1 0 c1.length, .own 3 0 c3.length, .own 4 0 c4.length, .own 5 0 c5.length]), (1, .row 23 (flD dLListInt [2] c1)), ((.s 2 0), .fam (famD dLListInt 0 c1)), (3, .row 3 (fl c3)), (4, .row 3 (fl c4)), (5, .row 3 (fl c5)), (6, .row 47 (Enc.cells x))] 7 (by kernel_rfl) ?_
                  refine wk_id ?_
                  obtain rfl := Option.some.inj h
                  refine ret_at (iS 9) (by kernel_rfl) ?_
                  exact ret_e [(0, 0), (3, 3), (6, 1), (7, 4), (8, 5), ((.s 9 0), (.s 2 0))] [] (by simp only [push_cast, leL_flD, renL_flD, seval]) (by simp only [push_cast, leL_flD, renL_flD, seval]) rfl rfl rfl
                · refine wk_id ?_
                  refine chk_sx h (fun g1689 h => ?_)
                  refine seq_np ?_
                  refine reg_t ?_
                  have k1688 : 0 ≤ x.A ∧ x.A < ((c3.length : Nat) : Int) := by first | simpa only [Bool.and_eq_true, decide_eq_true_eq, bne_iff_ne, ne_eq] using g1689 | (simp at g1689 ⊢; omega)
                  refine rs 15 [none, none, none, none, none, none, none, none, none, none, none, none, none, some ⟨.ptr 3 (0 + (x.A).toNat * 1), [], 20, [3]⟩, some ⟨.any, [(3, .row 3 (fl (c3.set x.A.toNat ((c1.length : Nat) : Int))))], 21, [3]⟩] _ (by kernel_rfl) (allP_cons (ob_st (P := Try.prog) c3 x.A 1 0 (0 + (x.A).toNat * 1) k1688 rfl [iS ((c1.length : Nat) : Int)] ((c1.length : Nat) : Int) (Nat.le_of_ble_eq_true rfl) (by first | rfl | omega) rfl 3 21 3 3 (by kernel_rfl) rfl) (allP_cons (ob_ix_o 3 c3.length 0 1 20 x.A k1688) allP_nil)) ?_
                  refine run_eqH 0 (.row 54 [.own 1 0 c1.length, .own 3 0 c3.length, .own 4 0 c4.length, .own 5 0 c5.length]) (.row 54 [.own 1 0 c1.length, .own 3 0 (c3.set x.A.toNat ((c1.length : Nat) : Int)).length, .own 4 0 c4.length, .own 5 0 c5.length]) (congrArg (fun nq => (.row 54 [.own 1 0 c1.length, .own 3 0 nq, .own 4 0 c4.length, .own 5 0 c5.length] : Chunk)) (show c3.length = (c3.set x.A.toNat ((c1.length : Nat) : Int)).length from (List.length_set ..).symm)) (by kernel_rfl) ?_
                  refine rt [(0, .ptr 0 0), (4, .ptr 6 0)] [(0, .row 54 [.own 1 0 c1.length, .own 3 0 (c3.set x.A.toNat ((c1.length : Nat) : Int)).length, .own 4 0 c4.length, .own 5 0 c5.length]), (1, .row 23 (flD dLListInt [2] c1)), ((.s 2 0), .fam (famD dLListInt 0 c1)), (3, .row 3 (fl (c3.set x.A.toNat ((c1.length : Nat) : Int)))), (4, .row 3 (fl c4)), (5, .row 3 (fl c5)), (6, .row 47 (Enc.cells x))] 22 follows (by kernel_rfl) ?_
                  refine wk_id ?_
                  refine chk_sx h (fun g1693 h => ?_)
                  refine seq_np ?_
                  refine reg_f ?_
                  have k1692 : 0 ≤ x.B ∧ x.B ≤ 4611686018427387904 ∧ (8 : Int) * x.B ≤ 140737488355328 := by first | simpa only [Bool.and_eq_true, decide_eq_true_eq, bne_iff_ne, ne_eq] using g1693 | (simp at g1693 ⊢; omega)
                  refine rs 4 [none, none, some ⟨.own 22 0 (List.replicate (x.B).toNat (default : Int)).length, [(22, .row 3 (fl (List.replicate (x.B).toNat (default : Int))))], 23, []⟩] _ (by kernel_rfl) (allP_cons (ob_mk (P := Try.prog) (α := Int) x.B 3 8 (by kernel_rfl) [iS 0] rfl 1 rfl (by decide) k1692 22) allP_nil) ?_
                  refine rf [(0, .ptr 0 0), (13, .own 22 0 (List.replicate (x.B).toNat (default : Int)).length)] [(0, .row 54 [.own 1 0 c1.length, .own 3 0 (c3.set x.A.toNat ((c1.length : Nat) : Int)).length, .own 4 0 c4.length, .own 5 0 c5.length]), (1, .row 23 (flD dLListInt [2] c1)), ((.s 2 0), .fam (famD dLListInt 0 c1)), (3, .row 3 (fl (c3.set x.A.toNat ((c1.length : Nat) : Int)))), (4, .row 3 (fl c4)), (5, .row 3 (fl c5)), (6, .row 47 (Enc.cells x)), (22, .row 3 (fl (List.replicate (x.B).toNat (default : Int))))] 23 (by kernel_rfl) ?_
                  refine wk_id ?_
                  refine seq_np ?_
                  refine seq_np ?_
                  refine reg_f ?_
                  refine rs 3 [] [] (by kernel_rfl) allP_nil ?_
                  refine rf [(0, .ptr 0 0), (13, .own 22 0 (List.replicate (x.B).toNat (default : Int)).length), (164, iS (((List.replicate (x.B).toNat (default : Int)).length : Nat) : Int)), (165, iS 0)] [(0, .row 54 [.own 1 0 c1.length, .own 3 0 (c3.set x.A.toNat ((c1.length : Nat) : Int)).length, .own 4 0 c4.length, .own 5 0 c5.length]), (1, .row 23 (flD dLListInt [2] c1)), ((.s 2 0), .fam (famD dLListInt 0 c1)), (3, .row 3 (fl (c3.set x.A.toNat ((c1.length : Nat) : Int)))), (4, .row 3 (fl c4)), (5, .row 3 (fl c5)), (6, .row 47 (Enc.cells x)), (22, .row 3 (fl (List.replicate (x.B).toNat (default : Int))))] 23 (by kernel_rfl) ?_
                  refine wk_id ?_
                  refine block_np ?_
                  refine loop_sx (S := Int × (List Int)) (fun a => ([(0, .ptr 0 0), (13, .own 6 0 a.2.length), (164, iS (((List.replicate (x.B).toNat (default : Int)).length : Nat) : Int)), (165, iS a.1)], [(0, .row 54 [.own 1 0 c1.length, .own 3 0 (c3.set x.A.toNat ((c1.length : Nat) : Int)).length, .own 4 0 c4.length, .own 5 0 c5.length]), (1, .row 23 (flD dLListInt [2] c1)), ((.s 2 0), .fam (famD dLListInt 0 c1)), (3, .row 3 (fl (c3.set x.A.toNat ((c1.length : Nat) : Int)))), (4, .row 3 (fl c4)), (5, .row 3 (fl c5)), (6, .row 3 (fl a.2))], 7)) h (leSt_m [(0, 0), (1, 1), ((.s 2 0), (.s 2 0)), (3, 3), (4, 4), (5, 5), (6, 22)] [] (by simp only [push_cast, leL_flD, renL_flD, seval]) (by simp only [push_cast, leL_flD, renL_flD, seval]) rfl rfl rfl) ?_
                  rintro ⟨t165q11, c6q19⟩ o2 R2 h hr2 hn2 hx2 ht2
                  try dsimp only at h hn2 ⊢
                  unfold sweep_cycle_do_1_l1 at h
                  try dsimp only at h
                  refine seq_np ?_
                  refine reg_f ?_
                  refine rs 1 [] [] (by kernel_rfl) allP_nil ?_
                  refine rf [(0, .ptr 0 0), (13, .own 6 0 c6q19.length), (164, iS (((List.replicate (x.B).toNat (default : Int)).length : Nat) : Int)), (165, iS t165q11), (166, bS (decide (t165q11 < (((List.replicate (x.B).toNat (default : Int)).length : Nat) : Int))))] [(0, .row 54 [.own 1 0 c1.length, .own 3 0 (c3.set x.A.toNat ((c1.length : Nat) : Int)).length, .own 4 0 c4.length, .own 5 0 c5.length]), (1, .row 23 (flD dLListInt [2] c1)), ((.s 2 0), .fam (famD dLListInt 0 c1)), (3, .row 3 (fl (c3.set x.A.toNat ((c1.length : Nat) : Int)))), (4, .row 3 (fl c4)), (5, .row 3 (fl c5)), (6, .row 3 (fl c6q19))] 7 (by kernel_rfl) ?_
                  refine wk_id ?_
                  refine seq_np ?_
                  refine cond_sx h (by kernel_rfl) (fun g1738 h => ?_) (fun g1738 h => ?_)
                  · refine wk_id ?_
                    refine seq_np ?_
                    refine block_np ?_
                    refine seq_np ?_
                    refine reg_f ?_
                    refine rs 2 [] [] (by kernel_rfl) allP_nil ?_
                    refine rf [(0, .ptr 0 0), (13, .own 6 0 c6q19.length), (14, iS t165q11), (164, iS (((List.replicate (x.B).toNat (default : Int)).length : Nat) : Int)), (165, iS t165q11)] [(0, .row 54 [.own 1 0 c1.length, .own 3 0 (c3.set x.A.toNat ((c1.length : Nat) : Int)).length, .own 4 0 c4.length, .own 5 0 c5.length]), (1, .row 23 (flD dLListInt [2] c1)), ((.s 2 0), .fam (famD dLListInt 0 c1)), (3, .row 3 (fl (c3.set x.A.toNat ((c1.length : Nat) : Int)))), (4, .row 3 (fl c4)), (5, .row 3 (fl c5)), (6, .row 3 (fl c6q19))] 7 (by kernel_rfl) ?_
                    refine wk_id ?_
                    refine chk_sx h (fun g1729 h => ?_)
                    refine reg_f ?_
                    have k1728 : 0 ≤ t165q11 ∧ t165q11 < ((c6q19.length : Nat) : Int) := by first | simpa only [Bool.and_eq_true, decide_eq_true_eq, bne_iff_ne, ne_eq] using g1729 | (simp at g1729 ⊢; omega)
                    refine rs 4 [none, none, some ⟨.ptr 6 (0 + (t165q11).toNat * 1), [], 7, [6]⟩, some ⟨.any, [(6, .row 3 (fl (c6q19.set t165q11.toNat (-1))))], 7, [6]⟩] _ (by kernel_rfl) (allP_cons (ob_st (P := Try.prog) c6q19 t165q11 1 0 (0 + (t165q11).toNat * 1) k1728 rfl [iS (-1)] (-1) (Nat.le_of_ble_eq_true rfl) (by first | rfl | omega) rfl 6 7 3 3 (by kernel_rfl) rfl) (allP_cons (ob_ix_o 6 c6q19.length 0 1 7 t165q11 k1728) allP_nil)) ?_
                    refine run_eqF 13 (.own 6 0 c6q19.length) (.own 6 0 (c6q19.set t165q11.toNat (-1)).length) (congrArg (fun nq => (.own 6 0 nq : SV)) (show c6q19.length = (c6q19.set t165q11.toNat (-1)).length from (List.length_set ..).symm)) (by kernel_rfl) ?_
                    refine rf [(0, .ptr 0 0), (13, .own 6 0 (c6q19.set t165q11.toNat (-1)).length), (164, iS (((List.replicate (x.B).toNat (default : Int)).length : Nat) : Int)), (165, iS t165q11)] [(0, .row 54 [.own 1 0 c1.length, .own 3 0 (c3.set x.A.toNat ((c1.length : Nat) : Int)).length, .own 4 0 c4.length, .own 5 0 c5.length]), (1, .row 23 (flD dLListInt [2] c1)), ((.s 2 0), .fam (famD dLListInt 0 c1)), (3, .row 3 (fl (c3.set x.A.toNat ((c1.length : Nat) : Int)))), (4, .row 3 (fl c4)), (5, .row 3 (fl c5)), (6, .row 3 (fl (c6q19.set t165q11.toNat (-1))))] 7 (by kernel_rfl) ?_
                    refine wk_id ?_
                    refine wk_id ?_
                    refine reg_f ?_
                    refine rs 2 [] [] (by kernel_rfl) allP_nil ?_
                    refine rf [(0, .ptr 0 0), (13, .own 6 0 (c6q19.set t165q11.toNat (-1)).length), (164, iS (((List.replicate (x.B).toNat (default : Int)).length : Nat) : Int)), (165, iS (IntKind.i64.wrap (t165q11 + 1)))] [(0, .row 54 [.own 1 0 c1.length, .own 3 0 (c3.set x.A.toNat ((c1.length : Nat) : Int)).length, .own 4 0 c4.length, .own 5 0 c5.length]), (1, .row 23 (flD dLListInt [2] c1)), ((.s 2 0), .fam (famD dLListInt 0 c1)), (3, .row 3 (fl (c3.set x.A.toNat ((c1.length : Nat) : Int)))), (4, .row 3 (fl c4)), (5, .row 3 (fl c5)), (6, .row 3 (fl (c6q19.set t165q11.toNat (-1))))] 7 (by kernel_rfl) ?_
                    exact hn2 ((IntKind.i64.wrap (t165q11 + 1)), (c6q19.set t165q11.toNat (-1))) _ _ _ (Option.some.inj h).symm (leSt_m [(0, 0), (1, 1), ((.s 2 0), (.s 2 0)), (3, 3), (4, 4), (5, 5), (6, 6)] [] (by simp only [push_cast, leL_flD, renL_flD, seval]) (by simp only [push_cast, leL_flD, renL_flD, seval]) rfl rfl rfl)
                  · change R2 (.exit 1) _ _ _
                    refine ex_cast hx2 (id := 1) ?_
                    obtain ⟨r0, h, e0⟩ := map_sx h
                    have e1 := hr2 r0 e0.symm
                    subst r0
                    refine wk_id ?_
                    refine wk_id ?_
                    refine chk_sx h (fun g1735 h => ?_)
                    refine chk_sx h (fun g1737 h => ?_)
                    refine reg_t ?_
                    have k1734 : (c1 ++ [(c6q19 : (List Int))]).length * 24 ≤ 140737488355328 := by first | simpa only [Bool.and_eq_true, decide_eq_true_eq, bne_iff_ne, ne_eq] using g1735 | (simp at g1735 ⊢; omega)
                    refine rs 9 [] [] (by kernel_rfl) allP_nil ?_
                    refine run_opG (some 181) _ ⟨.own 17 0 (c1 ++ [(c6q19 : (List Int))]).length, [(17, .row 23 (flN dLListInt (nA [(some 2)] [(some (Nm.t 6))] ((c1.length : Nat) : Int)) 0 (c1 ++ [(c6q19 : (List Int))]))), (1, .dead)], 18, [1, 15]⟩ [((.s 18 0), .fam (famD dLListInt 0 (c1 ++ [(c6q19 : (List Int))]))), (17, .row 23 (flD dLListInt [18] (c1 ++ [(c6q19 : (List Int))]))), ((.s 2 0), .dead), (6, .dead)] 1 [17, (.s 2 0), 6] [(.s 2 0), 6] (by kernel_rfl) (ob_appN (P := Try.prog) dLListInt [2] [(some (Nm.t 6))] c1 (c6q19 : (List Int)) 1 24 rfl (appCells ([.own 6 0 c6q19.length] : List SV) 0 (1 * 1)) rfl rfl rfl (0 + 1 * 1 ≤ ([.own 6 0 c6q19.length] : List SV).length) (by first | exact (Nat.le_of_ble_eq_true rfl : 0 + 1 * 1 ≤ ([.own 6 0 c6q19.length] : List SV).length) | decide) 23 (by kernel_rfl) (by decide) k1734 1 17 [15]) (ghost_A 18 dLListInt (c1 ++ [(c6q19 : (List Int))]) 17 23 [(some 2)] [(some (Nm.t 6))] ((c1.length : Nat) : Int) (flD dLListInt [18] (c1 ++ [(c6q19 : (List Int))])) 0 (some 2) (some 6) (by kernel_rfl) (flN_done dLListInt [18] ((c1.length : Nat) : Int) (c1 ++ [(c6q19 : (List Int))]) rfl) (by kernel_rfl) ⟨_, (by kernel_rfl), off_app _ _⟩ (S_app (fun a => getH _ (.t 6) = chD dLListInt 0 a) rfl)) (by kernel_rfl) ?_
                    have k1736 : (c4 ++ ([2] : List Int)).length * 8 ≤ 140737488355328 := by first | simpa only [Bool.and_eq_true, decide_eq_true_eq, bne_iff_ne, ne_eq] using g1737 | (simp at g1737 ⊢; omega)
                    refine rs 13 [none, none, none, none, none, some ⟨.own 26 0 (c4 ++ ([2] : List Int)).length, [(26, .row 3 (fl (c4 ++ ([2] : List Int)))), (4, .dead)], 27, [4, 24]⟩] _ (by kernel_rfl) (allP_cons (ob_app (P := Try.prog) c4 ([2] : List Int) 1 8 rfl (appCells (fl ([2] : List Int)) 0 (([2] : List Int).length * 1)) ([2] : List Int).length (app_own ([2] : List Int) 1 rfl) rfl (0 + ([2] : List Int).length * 1 ≤ (fl ([2] : List Int)).length) (app_own_le ([2] : List Int) 1 rfl) 3 (by kernel_rfl) (by decide) k1736 4 26 [24]) allP_nil) ?_
                    refine rt [] [(0, .row 54 [.own 17 0 (c1 ++ [(c6q19 : (List Int))]).length, .own 3 0 (c3.set x.A.toNat ((c1.length : Nat) : Int)).length, .own 26 0 (c4 ++ ([2] : List Int)).length, .own 5 0 c5.length]), (1, .dead), ((.s 2 0), .dead), (3, .row 3 (fl (c3.set x.A.toNat ((c1.length : Nat) : Int)))), (4, .dead), (5, .row 3 (fl c5)), (6, .dead), (15, .row 23 [.own 6 0 c6q19.length]), (17, .row 23 (flD dLListInt [18] (c1 ++ [(c6q19 : (List Int))]))), ((.s 18 0), .fam (famD dLListInt 0 (c1 ++ [(c6q19 : (List Int))]))), (24, .row 3 (fl ([2] : List Int))), (26, .row 3 (fl (c4 ++ ([2] : List Int))))] 35 follows (by kernel_rfl) ?_
                    exact hK1558 ((c1 ++ [(c6q19 : (List Int))]), (c4 ++ ([2] : List Int)), c5, (c3.set x.A.toNat ((c1.length : Nat) : Int))) _ _ _ h (leSt_m [(0, 0), (3, 3), (6, 17), (7, 26), (8, 5), ((.s 9 0), (.s 18 0))] [] (by simp only [push_cast, leL_flD, renL_flD, seval]) (by simp only [push_cast, leL_flD, renL_flD, seval]) rfl rfl rfl)
          · refine seq_np ?_
            refine reg_f ?_
            refine rs 2 [] [] (by kernel_rfl) allP_nil ?_
            refine rf [(0, .ptr 0 0), (4, .ptr 6 0), (193, bS (x.Op == 5))] [(0, .row 54 [.own 1 0 c1.length, .own 3 0 c3.length, .own 4 0 c4.length, .own 5 0 c5.length]), (1, .row 23 (flD dLListInt [2] c1)), ((.s 2 0), .fam (famD dLListInt 0 c1)), (3, .row 3 (fl c3)), (4, .row 3 (fl c4)), (5, .row 3 (fl c5)), (6, .row 47 (Enc.cells x))] 7 (by kernel_rfl) ?_
            refine wk_id ?_
            refine cond_sx h (by kernel_rfl) (fun g1758 h => ?_) (fun g1758 h => ?_)
            · refine seq_np ?_
              refine seq_cut (A := Unit) (fun _ => ([(0, .ptr 0 0), (207, bS ((x.A != 0) || ((x.B != 0) || (x.C != 0))))], [(0, .row 54 [.own 1 0 c1.length, .own 3 0 c3.length, .own 4 0 c4.length, .own 5 0 c5.length]), (1, .row 23 (flD dLListInt [2] c1)), ((.s 2 0), .fam (famD dLListInt 0 c1)), (3, .row 3 (fl c3)), (4, .row 3 (fl c4)), (5, .row 3 (fl c5)), (6, .row 47 (Enc.cells x))], 7)) (fun _ => True) (fun K1746 hK1746 => ?_) (fun _ _ => ?_)
              · refine reg_f ?_
                refine rs 4 [] [] (by kernel_rfl) allP_nil ?_
                refine run_split 198 (x.A != 0) (.inl (by kernel_rfl)) (fun g1747 => ?_) (fun g1747 => ?_)
                · refine rs 9 [] [] (by kernel_rfl) allP_nil ?_
                  refine rf [(0, .ptr 0 0), (207, bS true)] [(0, .row 54 [.own 1 0 c1.length, .own 3 0 c3.length, .own 4 0 c4.length, .own 5 0 c5.length]), (1, .row 23 (flD dLListInt [2] c1)), ((.s 2 0), .fam (famD dLListInt 0 c1)), (3, .row 3 (fl c3)), (4, .row 3 (fl c4)), (5, .row 3 (fl c5)), (6, .row 47 (Enc.cells x))] 7 (by kernel_rfl) ?_
                  exact hK1746 () _ _ _ trivial (leSt_m [(0, 0), (1, 1), ((.s 2 0), (.s 2 0)), (3, 3), (4, 4), (5, 5), (6, 6)] [] (by (try simp only [g1747]) <;> simp only [push_cast, leL_flD, renL_flD, seval]) (by (try simp only [g1747]) <;> simp only [push_cast, leL_flD, renL_flD, seval]) rfl rfl rfl)
                · refine rs 5 [] [] (by kernel_rfl) allP_nil ?_
                  refine run_split 203 (x.B != 0) (.inl (by kernel_rfl)) (fun g1748 => ?_) (fun g1748 => ?_)
                  · refine rs 4 [] [] (by kernel_rfl) allP_nil ?_
                    refine rf [(0, .ptr 0 0), (207, bS true)] [(0, .row 54 [.own 1 0 c1.length, .own 3 0 c3.length, .own 4 0 c4.length, .own 5 0 c5.length]), (1, .row 23 (flD dLListInt [2] c1)), ((.s 2 0), .fam (famD dLListInt 0 c1)), (3, .row 3 (fl c3)), (4, .row 3 (fl c4)), (5, .row 3 (fl c5)), (6, .row 47 (Enc.cells x))] 7 (by kernel_rfl) ?_
                    exact hK1746 () _ _ _ trivial (leSt_m [(0, 0), (1, 1), ((.s 2 0), (.s 2 0)), (3, 3), (4, 4), (5, 5), (6, 6)] [] (by first | ((try simp only [g1747, g1748]) <;> simp only [push_cast, leL_flD, renL_flD, seval]; done) | ((try simp only [g1747]); (try simp only [g1748]); simp only [push_cast, leL_flD, renL_flD, seval]; done) | (exfalso; clear h; simp_all; done)) (by first | ((try simp only [g1747, g1748]) <;> simp only [push_cast, leL_flD, renL_flD, seval]; done) | ((try simp only [g1747]); (try simp only [g1748]); simp only [push_cast, leL_flD, renL_flD, seval]; done) | (exfalso; clear h; simp_all; done)) rfl rfl rfl)
                  · refine rs 4 [] [] (by kernel_rfl) allP_nil ?_
                    refine rf [(0, .ptr 0 0), (207, bS (x.C != 0))] [(0, .row 54 [.own 1 0 c1.length, .own 3 0 c3.length, .own 4 0 c4.length, .own 5 0 c5.length]), (1, .row 23 (flD dLListInt [2] c1)), ((.s 2 0), .fam (famD dLListInt 0 c1)), (3, .row 3 (fl c3)), (4, .row 3 (fl c4)), (5, .row 3 (fl c5)), (6, .row 47 (Enc.cells x))] 7 (by kernel_rfl) ?_
                    exact hK1746 () _ _ _ trivial (leSt_m [(0, 0), (1, 1), ((.s 2 0), (.s 2 0)), (3, 3), (4, 4), (5, 5), (6, 6)] [] (by first | ((try simp only [g1747, g1748]) <;> simp only [push_cast, leL_flD, renL_flD, seval]; done) | ((try simp only [g1747]); (try simp only [g1748]); simp only [push_cast, leL_flD, renL_flD, seval]; done) | (exfalso; clear h; simp_all; done)) (by first | ((try simp only [g1747, g1748]) <;> simp only [push_cast, leL_flD, renL_flD, seval]; done) | ((try simp only [g1747]); (try simp only [g1748]); simp only [push_cast, leL_flD, renL_flD, seval]; done) | (exfalso; clear h; simp_all; done)) rfl rfl rfl)
              · dsimp only
                refine cond_sx h (by kernel_rfl) (fun g1757 h => ?_) (fun g1757 h => ?_)
                · refine seq_np ?_
                  refine reg_f ?_
                  refine rs 1 [] [] (by kernel_rfl) allP_nil ?_
                  refine rf [(6, iS 3)] [(0, .row 54 [.own 1 0 c1.length, .own 3 0 c3.length, .own 4 0 c4.length, .own 5 0 c5.length]), (1, .row 23 (flD dLListInt [2] c1)), ((.s 2 0), .fam (famD dLListInt 0 c1)), (3, .row 3 (fl c3)), (4, .row 3 (fl c4)), (5, .row 3 (fl c5)), (6, .row 47 (Enc.cells x))] 7 (by kernel_rfl) ?_
                  refine wk_id ?_
                  obtain rfl := Option.some.inj h
                  refine ret_at (iS 3) (by kernel_rfl) ?_
                  exact ret_e [(0, 0), (3, 3), (6, 1), (7, 4), (8, 5), ((.s 9 0), (.s 2 0))] [] (by simp only [push_cast, leL_flD, renL_flD, seval]) (by simp only [push_cast, leL_flD, renL_flD, seval]) rfl rfl rfl
                · refine wk_id ?_
                  refine reg_f ?_
                  refine rs 1 [] [] (by kernel_rfl) allP_nil ?_
                  obtain ⟨r1753, hr1753, h⟩ := bind_sx h
                  refine call_x (sweep_cycle_mark_1_spec c1 c3 c4 c5 r1753 hr1753) (args := [.ptr 0 0]) (dst := (some 209)) (by kernel_rfl) [(0, .row 54 [.own 1 0 c1.length, .own 3 0 c3.length, .own 4 0 c4.length, .own 5 0 c5.length]), (1, .row 23 (flD dLListInt [2] c1)), ((.s 2 0), .fam (famD dLListInt 0 c1)), (3, .row 3 (fl c3)), (4, .row 3 (fl c4)), (5, .row 3 (fl c5)), (6, .row 47 (Enc.cells x))] 7 (by kernel_rfl) [(0, 0), (1, 1), ((.s 2 0), (.s 2 0)), (3, 3), (4, 4), (5, 5)] [] (bS r1753.1) [(0, .row 54 [.own 1 0 r1753.2.2.1.length, .own 3 0 r1753.2.2.2.1.length, .own 4 0 r1753.2.2.2.2.length, .own 13 0 r1753.2.1.length]), (1, .row 23 (flD dLListInt [2] r1753.2.2.1)), ((.s 2 0), .fam (famD dLListInt 0 r1753.2.2.1)), (3, .row 3 (fl r1753.2.2.2.1)), (4, .row 3 (fl r1753.2.2.2.2)), (5, .dead), (13, .row 3 (fl r1753.2.1)), (0, .dead), (1, .dead), ((.s 2 0), .dead), (3, .dead), (4, .dead), (5, .dead)] (by simp only [push_cast, leL_flD, renL_flD, seval]) (by simp only [push_cast, leL_flD, renL_flD, seval]) (by kernel_rfl) (.inl rfl) (by first | (simp only [push_cast, leL_flD, renL_flD, seval]; done) | (simp only [push_cast, leL_flD, renL_flD, seval]; kernel_rfl) | kernel_rfl) (by first | (simp only [push_cast, leL_flD, renL_flD, seval]; done) | (simp only [push_cast, leL_flD, renL_flD, seval]; kernel_rfl) | kernel_rfl) ?_ (hfam := (And.intro trivial (And.intro trivial (And.intro (fun _ => Or.inl rfl) (And.intro trivial (And.intro trivial (And.intro trivial trivial)))))))
                  refine rf [] [(0, .row 54 [.own 1 0 r1753.2.2.1.length, .own 3 0 r1753.2.2.2.1.length, .own 4 0 r1753.2.2.2.2.length, .own 13 0 r1753.2.1.length]), (1, .row 23 (flD dLListInt [2] r1753.2.2.1)), ((.s 2 0), .fam (famD dLListInt 0 r1753.2.2.1)), (3, .row 3 (fl r1753.2.2.2.1)), (4, .row 3 (fl r1753.2.2.2.2)), (5, .dead), (6, .row 47 (Enc.cells x)), (13, .row 3 (fl r1753.2.1))] 14 (by kernel_rfl) ?_
                  exact hK1558 (r1753.2.2.1, r1753.2.2.2.2, r1753.2.1, r1753.2.2.2.1) _ _ _ h (leSt_m [(0, 0), (3, 3), (6, 1), (7, 4), (8, 13), ((.s 9 0), (.s 2 0))] [] (by simp only [push_cast, leL_flD, renL_flD, seval]) (by simp only [push_cast, leL_flD, renL_flD, seval]) rfl rfl rfl)
            · refine seq_np ?_
              refine reg_f ?_
              refine rs 1 [] [] (by kernel_rfl) allP_nil ?_
              refine rf [(6, iS 4)] [(0, .row 54 [.own 1 0 c1.length, .own 3 0 c3.length, .own 4 0 c4.length, .own 5 0 c5.length]), (1, .row 23 (flD dLListInt [2] c1)), ((.s 2 0), .fam (famD dLListInt 0 c1)), (3, .row 3 (fl c3)), (4, .row 3 (fl c4)), (5, .row 3 (fl c5)), (6, .row 47 (Enc.cells x))] 7 (by kernel_rfl) ?_
              refine wk_id ?_
              obtain rfl := Option.some.inj h
              refine ret_at (iS 4) (by kernel_rfl) ?_
              exact ret_e [(0, 0), (3, 3), (6, 1), (7, 4), (8, 5), ((.s 9 0), (.s 2 0))] [] (by simp only [push_cast, leL_flD, renL_flD, seval]) (by simp only [push_cast, leL_flD, renL_flD, seval]) rfl rfl rfl
  · rintro ⟨c6q12, c7q3, c8q3, c3q13⟩ h
    try dsimp only at h ⊢
    unfold sweep_cycle_do_1_j1 at h
    refine wk_id ?_
    refine seq_np ?_
    refine reg_f ?_
    refine rs 1 [] [] (by kernel_rfl) allP_nil ?_
    refine rf [(6, iS 0)] [(0, .row 54 [.own 6 0 c6q12.length, .own 3 0 c3q13.length, .own 7 0 c7q3.length, .own 8 0 c8q3.length]), (1, .dead), ((.s 2 0), .dead), (3, .row 3 (fl c3q13)), (4, .dead), (5, .dead), (6, .row 23 (flD dLListInt [9] c6q12)), (7, .row 3 (fl c7q3)), (8, .row 3 (fl c8q3)), ((.s 9 0), .fam (famD dLListInt 0 c6q12))] 10 (by kernel_rfl) ?_
    refine wk_id ?_
    obtain rfl := Option.some.inj h
    refine ret_at (iS 0) (by kernel_rfl) ?_
    exact ret_e [(0, 0), (3, 3), (6, 6), (7, 7), (8, 8), ((.s 9 0), (.s 9 0))] [] (by simp only [push_cast, leL_flD, renL_flD, seval]) (by simp only [push_cast, leL_flD, renL_flD, seval]) rfl rfl rfl

set_option maxRecDepth 100000 in
set_option maxHeartbeats 200000000 in
theorem sweep_Cycle_spec (xh : GHeap) (barrier : Int) (acts : (List GAct)) (r : Fault × (List (List Int)) × (List Int) × (List Int)) (h : sweep_Cycle xh barrier acts = some r) : SpecW Try.prog 19 [.agg (Enc.cells xh), iS barrier, .sl acts.length (fl acts)] [] 0 (fun x h n => x = .tup [.agg [.own 0 0 r.2.1.length, .own 1 0 r.2.2.1.length], .own 2 0 r.2.2.2.length, .agg (Enc.cells r.1)] ∧ h = [(0, .row 23 (flD dLListInt [3] r.2.1)), (1, .row 3 (fl r.2.2.1)), (2, .row 3 (fl r.2.2.2)), ((.s 3 0), .fam (famD dLListInt 0 r.2.1))] ∧ n = 4) := by
  unfold sweep_Cycle at h
  refine spec_of (draw_ok _) Try.func19 rfl (by decide) rfl (by kernel_rfl) ?_
  refine seq_np ?_
  refine reg_f ?_
  refine rs 4 [] [] (by kernel_rfl) allP_nil ?_
  refine rf [(1, iS barrier), (2, .sl acts.length (fl acts)), (3, .ptr 0 0), (6, .ptr 1 0), (8, .ptr 2 0)] [(0, .row 25 (Enc.cells xh)), (1, .row 25 [.v (.slice none 0 0), .v (.slice none 0 0)]), (2, .row 30 [iS 0, iS 0])] 3 (by kernel_rfl) ?_
  refine wk_id ?_
  refine seq_np ?_
  refine seq_np ?_
  refine reg_f ?_
  refine rs 1 [] [] (by kernel_rfl) allP_nil ?_
  obtain ⟨r1801, hr1801, h⟩ := bind_sx h
  refine run_call 11 [.agg (Enc.cells xh)] (some 15) (by kernel_rfl) ?_
  refine call_0 (sweep_Check_spec xh r1801 hr1801) (by simp only [push_cast, leL_flD, renL_flD, seval]) (by simp only [push_cast, leL_flD, renL_flD, seval]) ?_
  refine back_f ?_
  refine rs 2 [] [] (by kernel_rfl) allP_nil ?_
  refine rf [(1, iS barrier), (2, .sl acts.length (fl acts)), (3, .ptr 0 0), (6, .ptr 1 0), (8, .ptr 2 0), (9, .ptr 3 0)] [(0, .row 25 (Enc.cells xh)), (1, .row 25 [.v (.slice none 0 0), .v (.slice none 0 0)]), (2, .row 30 [iS 0, iS 0]), (3, .row 30 (Enc.cells r1801))] 4 (by kernel_rfl) ?_
  refine wk_id ?_
  refine seq_np ?_
  refine reg_f ?_
  refine rs 3 [] [] (by kernel_rfl) allP_nil ?_
  refine rf [(1, iS barrier), (2, .sl acts.length (fl acts)), (3, .ptr 0 0), (6, .ptr 1 0), (8, .ptr 2 0), (9, .ptr 3 0), (18, bS (r1801.Code != 0))] [(0, .row 25 (Enc.cells xh)), (1, .row 25 [.v (.slice none 0 0), .v (.slice none 0 0)]), (2, .row 30 [iS 0, iS 0]), (3, .row 30 (Enc.cells r1801))] 4 (by kernel_rfl) ?_
  refine wk_id ?_
  refine cond_sx h (by kernel_rfl) (fun g1948 h => ?_) (fun g1948 h => ?_)
  · refine seq_np ?_
    refine reg_t ?_
    refine rs 5 [] [] (by kernel_rfl) allP_nil ?_
    refine rt [(6, .ptr 1 0), (7, .v (.slice none 0 0)), (8, .ptr 2 0)] [(0, .row 25 (Enc.cells xh)), (1, .row 25 [.v (.slice none 0 0), .v (.slice none 0 0)]), (2, .row 30 (Enc.cells r1801)), (3, .row 30 (Enc.cells r1801))] 9 follows (by kernel_rfl) ?_
    refine wk_id ?_
    obtain rfl := Option.some.inj h
    refine ret_at (.tup [.agg [.v (.slice none 0 0), .v (.slice none 0 0)], .v (.slice none 0 0), .agg (Enc.cells r1801)]) (by kernel_rfl) ?_
    exact ret_e [] [] (by simp only [push_cast, leL_flD, renL_flD, seval]) (by simp only [push_cast, leL_flD, renL_flD, seval]) rfl rfl rfl
  · refine wk_id ?_
    refine seq_np ?_
    refine seq_cut (A := Unit) (fun _ => ([(1, iS barrier), (2, .sl acts.length (fl acts)), (3, .ptr 0 0), (6, .ptr 1 0), (8, .ptr 2 0), (26, bS ((decide (barrier < 0)) || (decide ((3 : Int) < barrier))))], [(0, .row 25 (Enc.cells xh)), (1, .row 25 [.v (.slice none 0 0), .v (.slice none 0 0)]), (2, .row 30 [iS 0, iS 0]), (3, .row 30 (Enc.cells r1801))], 4)) (fun _ => True) (fun K1806 hK1806 => ?_) (fun _ _ => ?_)
    · refine reg_f ?_
      refine rs 3 [] [] (by kernel_rfl) allP_nil ?_
      refine run_split 23 (decide (barrier < 0)) (.inl (by kernel_rfl)) (fun g1807 => ?_) (fun g1807 => ?_)
      · refine rs 3 [] [] (by kernel_rfl) allP_nil ?_
        refine rf [(1, iS barrier), (2, .sl acts.length (fl acts)), (3, .ptr 0 0), (6, .ptr 1 0), (8, .ptr 2 0), (26, bS true)] [(0, .row 25 (Enc.cells xh)), (1, .row 25 [.v (.slice none 0 0), .v (.slice none 0 0)]), (2, .row 30 [iS 0, iS 0]), (3, .row 30 (Enc.cells r1801))] 4 (by kernel_rfl) ?_
        exact hK1806 () _ _ _ trivial (leSt_m [(0, 0), (1, 1), (2, 2), (3, 3)] [] (by (try simp only [g1807]) <;> simp only [push_cast, leL_flD, renL_flD, seval]) (by (try simp only [g1807]) <;> simp only [push_cast, leL_flD, renL_flD, seval]) rfl rfl rfl)
      · refine rs 3 [] [] (by kernel_rfl) allP_nil ?_
        refine rf [(1, iS barrier), (2, .sl acts.length (fl acts)), (3, .ptr 0 0), (6, .ptr 1 0), (8, .ptr 2 0), (26, bS (decide ((3 : Int) < barrier)))] [(0, .row 25 (Enc.cells xh)), (1, .row 25 [.v (.slice none 0 0), .v (.slice none 0 0)]), (2, .row 30 [iS 0, iS 0]), (3, .row 30 (Enc.cells r1801))] 4 (by kernel_rfl) ?_
        exact hK1806 () _ _ _ trivial (leSt_m [(0, 0), (1, 1), (2, 2), (3, 3)] [] (by (try simp only [g1807]) <;> simp only [push_cast, leL_flD, renL_flD, seval]) (by (try simp only [g1807]) <;> simp only [push_cast, leL_flD, renL_flD, seval]) rfl rfl rfl)
    · dsimp only
      refine cond_sx h (by kernel_rfl) (fun g1947 h => ?_) (fun g1947 h => ?_)
      · refine seq_np ?_
        refine reg_f ?_
        refine rs 1 [] [] (by kernel_rfl) allP_nil ?_
        obtain ⟨r1809, hr1809, h⟩ := bind_sx h
        refine run_call 24 [iS 4, iS (-1)] (some 28) (by kernel_rfl) ?_
        refine call_0 (sweep_fault_spec 4 (-1) r1809 hr1809) (by simp only [push_cast, leL_flD, renL_flD, seval]) (by simp only [push_cast, leL_flD, renL_flD, seval]) ?_
        refine back_f ?_
        refine rs 3 [] [] (by kernel_rfl) allP_nil ?_
        refine rf [(6, .ptr 1 0), (7, .v (.slice none 0 0)), (8, .ptr 2 0)] [(0, .row 25 (Enc.cells xh)), (1, .row 25 [.v (.slice none 0 0), .v (.slice none 0 0)]), (2, .row 30 (Enc.cells r1809)), (3, .row 30 (Enc.cells r1801))] 4 (by kernel_rfl) ?_
        refine wk_id ?_
        obtain rfl := Option.some.inj h
        refine ret_at (.tup [.agg [.v (.slice none 0 0), .v (.slice none 0 0)], .v (.slice none 0 0), .agg (Enc.cells r1809)]) (by kernel_rfl) ?_
        exact ret_e [] [] (by simp only [push_cast, leL_flD, renL_flD, seval]) (by simp only [push_cast, leL_flD, renL_flD, seval]) rfl rfl rfl
      · refine wk_id ?_
        refine seq_np ?_
        refine seq_np ?_
        refine reg_f ?_
        refine rs 3 [] [] (by kernel_rfl) allP_nil ?_
        refine rf [(1, iS barrier), (2, .sl acts.length (fl acts)), (3, .ptr 0 0), (6, .ptr 1 0), (8, .ptr 2 0), (31, bS (decide ((5000 : Int) < ((acts.length : Nat) : Int))))] [(0, .row 25 (Enc.cells xh)), (1, .row 25 [.v (.slice none 0 0), .v (.slice none 0 0)]), (2, .row 30 [iS 0, iS 0]), (3, .row 30 (Enc.cells r1801))] 4 (by kernel_rfl) ?_
        refine wk_id ?_
        refine cond_sx h (by kernel_rfl) (fun g1946 h => ?_) (fun g1946 h => ?_)
        · refine seq_np ?_
          refine reg_f ?_
          refine rs 1 [] [] (by kernel_rfl) allP_nil ?_
          obtain ⟨r1813, hr1813, h⟩ := bind_sx h
          refine run_call 24 [iS 2, iS (-1)] (some 33) (by kernel_rfl) ?_
          refine call_0 (sweep_fault_spec 2 (-1) r1813 hr1813) (by simp only [push_cast, leL_flD, renL_flD, seval]) (by simp only [push_cast, leL_flD, renL_flD, seval]) ?_
          refine back_f ?_
          refine rs 3 [] [] (by kernel_rfl) allP_nil ?_
          refine rf [(6, .ptr 1 0), (7, .v (.slice none 0 0)), (8, .ptr 2 0)] [(0, .row 25 (Enc.cells xh)), (1, .row 25 [.v (.slice none 0 0), .v (.slice none 0 0)]), (2, .row 30 (Enc.cells r1813)), (3, .row 30 (Enc.cells r1801))] 4 (by kernel_rfl) ?_
          refine wk_id ?_
          obtain rfl := Option.some.inj h
          refine ret_at (.tup [.agg [.v (.slice none 0 0), .v (.slice none 0 0)], .v (.slice none 0 0), .agg (Enc.cells r1813)]) (by kernel_rfl) ?_
          exact ret_e [] [] (by simp only [push_cast, leL_flD, renL_flD, seval]) (by simp only [push_cast, leL_flD, renL_flD, seval]) rfl rfl rfl
        · refine wk_id ?_
          refine seq_np ?_
          refine reg_f ?_
          refine rs 1 [] [] (by kernel_rfl) allP_nil ?_
          obtain ⟨r1815, hr1815, h⟩ := bind_sx h
          refine call_x (sweep_newCycle_spec xh r1815 hr1815) (args := [.agg (Enc.cells xh)]) (dst := (some 35)) (by kernel_rfl) [(0, .row 25 (Enc.cells xh)), (1, .row 25 [.v (.slice none 0 0), .v (.slice none 0 0)]), (2, .row 30 [iS 0, iS 0]), (3, .row 30 (Enc.cells r1801))] 4 (by kernel_rfl) [] [] (.ptr 4 0) [(4, .row 54 [.own 5 0 r1815.1.length, .own 6 0 r1815.2.1.length, .own 7 0 r1815.2.2.length, .v (.slice none 0 0)]), (5, .row 23 (flD dLListInt [8] r1815.1)), (6, .row 3 (fl r1815.2.1)), (7, .row 3 (fl r1815.2.2)), ((.s 8 0), .fam (famD dLListInt 0 r1815.1))] (by simp only [push_cast, leL_flD, renL_flD, seval]) (by simp only [push_cast, leL_flD, renL_flD, seval]) (by kernel_rfl) (.inl rfl) (by first | (simp only [push_cast, leL_flD, renL_flD, seval]; done) | (simp only [push_cast, leL_flD, renL_flD, seval]; kernel_rfl) | kernel_rfl) (by first | (simp only [push_cast, leL_flD, renL_flD, seval]; done) | (simp only [push_cast, leL_flD, renL_flD, seval]; kernel_rfl) | kernel_rfl) ?_
          refine rs 1 [] [] (by kernel_rfl) allP_nil ?_
          refine rf [(1, iS barrier), (2, .sl acts.length (fl acts)), (6, .ptr 1 0), (8, .ptr 2 0), (10, .ptr 4 0)] [(0, .row 25 (Enc.cells xh)), (1, .row 25 [.v (.slice none 0 0), .v (.slice none 0 0)]), (2, .row 30 [iS 0, iS 0]), (3, .row 30 (Enc.cells r1801)), (4, .row 54 [.own 5 0 r1815.1.length, .own 6 0 r1815.2.1.length, .own 7 0 r1815.2.2.length, .v (.slice none 0 0)]), (5, .row 23 (flD dLListInt [8] r1815.1)), (6, .row 3 (fl r1815.2.1)), (7, .row 3 (fl r1815.2.2)), ((.s 8 0), .fam (famD dLListInt 0 r1815.1))] 9 (by kernel_rfl) ?_
          refine wk_id ?_
          refine seq_np ?_
          refine reg_f ?_
          refine rs 6 [] [] (by kernel_rfl) allP_nil ?_
          obtain ⟨r1820, hr1820, h⟩ := bind_sx h
          refine call_x (sweep_cycle_shade_1_spec [] r1815.2.1 r1815.1 r1815.2.2 r1820 hr1820) (args := [.ptr 4 0, .own 6 0 r1815.2.1.length]) (dst := (some 42)) (by kernel_rfl) [(0, .row 25 (Enc.cells xh)), (1, .row 25 [.v (.slice none 0 0), .v (.slice none 0 0)]), (2, .row 30 [iS 0, iS 0]), (3, .row 30 (Enc.cells r1801)), (4, .row 54 [.own 5 0 r1815.1.length, .own 6 0 r1815.2.1.length, .own 7 0 r1815.2.2.length, .v (.slice none 0 0)]), (5, .row 23 (flD dLListInt [8] r1815.1)), (6, .row 3 (fl r1815.2.1)), (7, .row 3 (fl r1815.2.2)), ((.s 8 0), .fam (famD dLListInt 0 r1815.1))] 9 (by kernel_rfl) [(0, 4), (1, 5), ((.s 2 0), (.s 8 0)), (3, 6), (4, 7)] [] (.tup []) [(4, .row 54 [.own 5 0 r1820.2.1.length, .own 6 0 r1820.2.2.1.length, .own 7 0 r1820.2.2.2.length, .own 15 0 r1820.1.length]), (5, .row 23 (flD dLListInt [8] r1820.2.1)), ((.s 8 0), .fam (famD dLListInt 0 r1820.2.1)), (6, .row 3 (fl r1820.2.2.1)), (7, .row 3 (fl r1820.2.2.2)), (14, .dead), (15, .row 3 (fl r1820.1)), (4, .dead), (5, .dead), ((.s 8 0), .dead), (6, .dead), (7, .dead)] (by simp only [push_cast, leL_flD, renL_flD, seval]) (by simp only [push_cast, leL_flD, renL_flD, seval]) (by kernel_rfl) (.inl rfl) (by first | (simp only [push_cast, leL_flD, renL_flD, seval]; done) | (simp only [push_cast, leL_flD, renL_flD, seval]; kernel_rfl) | kernel_rfl) (by first | (simp only [push_cast, leL_flD, renL_flD, seval]; done) | (simp only [push_cast, leL_flD, renL_flD, seval]; kernel_rfl) | kernel_rfl) ?_ (hfam := (And.intro trivial (And.intro trivial (And.intro (fun _ => Or.inl rfl) (And.intro trivial (And.intro trivial trivial))))))
          refine rf [(1, iS barrier), (2, .sl acts.length (fl acts)), (6, .ptr 1 0), (8, .ptr 2 0), (10, .ptr 4 0)] [(0, .row 25 (Enc.cells xh)), (1, .row 25 [.v (.slice none 0 0), .v (.slice none 0 0)]), (2, .row 30 [iS 0, iS 0]), (3, .row 30 (Enc.cells r1801)), (4, .row 54 [.own 5 0 r1820.2.1.length, .own 6 0 r1820.2.2.1.length, .own 7 0 r1820.2.2.2.length, .own 15 0 r1820.1.length]), (5, .row 23 (flD dLListInt [8] r1820.2.1)), (6, .row 3 (fl r1820.2.2.1)), (7, .row 3 (fl r1820.2.2.2)), ((.s 8 0), .fam (famD dLListInt 0 r1820.2.1)), (14, .dead), (15, .row 3 (fl r1820.1))] 16 (by kernel_rfl) ?_
          refine wk_id ?_
          refine seq_np ?_
          refine seq_np ?_
          refine reg_f ?_
          refine rs 3 [] [] (by kernel_rfl) allP_nil ?_
          refine rf [(1, iS barrier), (6, .ptr 1 0), (8, .ptr 2 0), (10, .ptr 4 0), (43, .sl acts.length (fl acts)), (44, iS ((acts.length : Nat) : Int)), (45, iS 0)] [(0, .row 25 (Enc.cells xh)), (1, .row 25 [.v (.slice none 0 0), .v (.slice none 0 0)]), (2, .row 30 [iS 0, iS 0]), (3, .row 30 (Enc.cells r1801)), (4, .row 54 [.own 5 0 r1820.2.1.length, .own 6 0 r1820.2.2.1.length, .own 7 0 r1820.2.2.2.length, .own 15 0 r1820.1.length]), (5, .row 23 (flD dLListInt [8] r1820.2.1)), (6, .row 3 (fl r1820.2.2.1)), (7, .row 3 (fl r1820.2.2.2)), ((.s 8 0), .fam (famD dLListInt 0 r1820.2.1)), (14, .dead), (15, .row 3 (fl r1820.1))] 16 (by kernel_rfl) ?_
          refine wk_id ?_
          refine block_np ?_
          refine loop_sx (S := Int × (List (List Int)) × (List Int) × (List Int) × (List Int)) (fun a => ([(1, iS barrier), (6, .ptr 0 0), (8, .ptr 1 0), (10, .ptr 2 0), (43, .sl acts.length (fl acts)), (44, iS ((acts.length : Nat) : Int)), (45, iS a.1)], [(0, .row 25 [.v (.slice none 0 0), .v (.slice none 0 0)]), (1, .row 30 [iS 0, iS 0]), (2, .row 54 [.own 3 0 a.2.1.length, .own 4 0 a.2.2.1.length, .own 5 0 a.2.2.2.1.length, .own 6 0 a.2.2.2.2.length]), (3, .row 23 (flD dLListInt [7] a.2.1)), (4, .row 3 (fl a.2.2.1)), (5, .row 3 (fl a.2.2.2.1)), (6, .row 3 (fl a.2.2.2.2)), ((.s 7 0), .fam (famD dLListInt 0 a.2.1))], 8)) h (leSt_m [(0, 1), (1, 2), (2, 4), (3, 5), (4, 6), (5, 7), (6, 15), ((.s 7 0), (.s 8 0))] [] (by simp only [push_cast, leL_flD, renL_flD, seval]) (by simp only [push_cast, leL_flD, renL_flD, seval]) rfl rfl rfl) ?_
          rintro ⟨t45q7, c3q12, c4q12, c5q12, c6q12⟩ o2 R2 h hr2 hn2 hx2 ht2
          try dsimp only at h hn2 ⊢
          unfold sweep_Cycle_l1 at h
          try dsimp only at h
          refine seq_np ?_
          refine reg_f ?_
          refine rs 1 [] [] (by kernel_rfl) allP_nil ?_
          refine rf [(1, iS barrier), (6, .ptr 0 0), (8, .ptr 1 0), (10, .ptr 2 0), (43, .sl acts.length (fl acts)), (44, iS ((acts.length : Nat) : Int)), (45, iS t45q7), (46, bS (decide (t45q7 < ((acts.length : Nat) : Int))))] [(0, .row 25 [.v (.slice none 0 0), .v (.slice none 0 0)]), (1, .row 30 [iS 0, iS 0]), (2, .row 54 [.own 3 0 c3q12.length, .own 4 0 c4q12.length, .own 5 0 c5q12.length, .own 6 0 c6q12.length]), (3, .row 23 (flD dLListInt [7] c3q12)), (4, .row 3 (fl c4q12)), (5, .row 3 (fl c5q12)), (6, .row 3 (fl c6q12)), ((.s 7 0), .fam (famD dLListInt 0 c3q12))] 8 (by kernel_rfl) ?_
          refine wk_id ?_
          refine seq_np ?_
          refine cond_sx h (by kernel_rfl) (fun g1945 h => ?_) (fun g1945 h => ?_)
          · refine wk_id ?_
            refine seq_np ?_
            refine block_np ?_
            refine chk_sx h (fun g1899 h => ?_)
            refine seq_np ?_
            refine reg_f ?_
            have k1898 : 0 ≤ t45q7 ∧ t45q7 < ((acts.length : Nat) : Int) := by first | simpa only [Bool.and_eq_true, decide_eq_true_eq, bne_iff_ne, ne_eq] using g1899 | (simp at g1899 ⊢; omega)
            refine rs 6 [none, some ⟨.iptr (fl acts) ((t45q7).toNat * 4), [], 8, []⟩, some ⟨.agg (Enc.cells (ix acts t45q7)), [], 8, []⟩] _ (by kernel_rfl) (allP_cons (ob_ldw acts t45q7 4 ((t45q7).toNat * 4) k1898 rfl (by first | rfl | omega) [iS (ix acts t45q7).Op, iS (ix acts t45q7).A, iS (ix acts t45q7).B, iS (ix acts t45q7).C] rfl 8 []) (allP_cons (ob_ix_l acts 4 8 t45q7 k1898) allP_nil)) ?_
            refine rf [(1, iS barrier), (6, .ptr 0 0), (8, .ptr 1 0), (10, .ptr 2 0), (11, iS t45q7), (12, .ptr 8 0), (43, .sl acts.length (fl acts)), (44, iS ((acts.length : Nat) : Int)), (45, iS t45q7)] [(0, .row 25 [.v (.slice none 0 0), .v (.slice none 0 0)]), (1, .row 30 [iS 0, iS 0]), (2, .row 54 [.own 3 0 c3q12.length, .own 4 0 c4q12.length, .own 5 0 c5q12.length, .own 6 0 c6q12.length]), (3, .row 23 (flD dLListInt [7] c3q12)), (4, .row 3 (fl c4q12)), (5, .row 3 (fl c5q12)), (6, .row 3 (fl c6q12)), ((.s 7 0), .fam (famD dLListInt 0 c3q12)), (8, .row 47 (Enc.cells (ix acts t45q7)))] 9 (by kernel_rfl) ?_
            refine wk_id ?_
            refine seq_np ?_
            refine reg_f ?_
            refine rs 3 [] [] (by kernel_rfl) allP_nil ?_
            obtain ⟨r1902, hr1902, h⟩ := bind_sx h
            refine call_x (sweep_cycle_do_1_spec (ix acts t45q7) barrier c3q12 c4q12 c5q12 c6q12 r1902 hr1902) (args := [.ptr 2 0, .agg (Enc.cells (ix acts t45q7)), iS barrier]) (dst := (some 53)) (by kernel_rfl) [(0, .row 25 [.v (.slice none 0 0), .v (.slice none 0 0)]), (1, .row 30 [iS 0, iS 0]), (2, .row 54 [.own 3 0 c3q12.length, .own 4 0 c4q12.length, .own 5 0 c5q12.length, .own 6 0 c6q12.length]), (3, .row 23 (flD dLListInt [7] c3q12)), (4, .row 3 (fl c4q12)), (5, .row 3 (fl c5q12)), (6, .row 3 (fl c6q12)), ((.s 7 0), .fam (famD dLListInt 0 c3q12)), (8, .row 47 (Enc.cells (ix acts t45q7)))] 9 (by kernel_rfl) [(0, 2), (1, 3), ((.s 2 0), (.s 7 0)), (3, 4), (4, 5), (5, 6)] [] (iS r1902.1) [(2, .row 54 [.own 15 0 r1902.2.1.length, .own 4 0 r1902.2.2.2.2.length, .own 16 0 r1902.2.2.1.length, .own 17 0 r1902.2.2.2.1.length]), (3, .dead), ((.s 7 0), .dead), (4, .row 3 (fl r1902.2.2.2.2)), (5, .dead), (6, .dead), (15, .row 23 (flD dLListInt [18] r1902.2.1)), (16, .row 3 (fl r1902.2.2.1)), (17, .row 3 (fl r1902.2.2.2.1)), ((.s 18 0), .fam (famD dLListInt 0 r1902.2.1)), (2, .dead), (3, .dead), ((.s 7 0), .dead), (4, .dead), (5, .dead), (6, .dead)] (by simp only [push_cast, leL_flD, renL_flD, seval]) (by simp only [push_cast, leL_flD, renL_flD, seval]) (by kernel_rfl) (.inl rfl) (by first | (simp only [push_cast, leL_flD, renL_flD, seval]; done) | (simp only [push_cast, leL_flD, renL_flD, seval]; kernel_rfl) | kernel_rfl) (by first | (simp only [push_cast, leL_flD, renL_flD, seval]; done) | (simp only [push_cast, leL_flD, renL_flD, seval]; kernel_rfl) | kernel_rfl) ?_ (hfam := (And.intro trivial (And.intro trivial (And.intro (fun _ => Or.inl rfl) (And.intro trivial (And.intro trivial (And.intro trivial trivial)))))))
            refine rs 1 [] [] (by kernel_rfl) allP_nil ?_
            refine rf [(1, iS barrier), (6, .ptr 0 0), (8, .ptr 1 0), (10, .ptr 2 0), (11, iS t45q7), (13, iS r1902.1), (43, .sl acts.length (fl acts)), (44, iS ((acts.length : Nat) : Int)), (45, iS t45q7)] [(0, .row 25 [.v (.slice none 0 0), .v (.slice none 0 0)]), (1, .row 30 [iS 0, iS 0]), (2, .row 54 [.own 15 0 r1902.2.1.length, .own 4 0 r1902.2.2.2.2.length, .own 16 0 r1902.2.2.1.length, .own 17 0 r1902.2.2.2.1.length]), (3, .dead), (4, .row 3 (fl r1902.2.2.2.2)), (5, .dead), (6, .dead), ((.s 7 0), .dead), (8, .row 47 (Enc.cells (ix acts t45q7))), (15, .row 23 (flD dLListInt [18] r1902.2.1)), (16, .row 3 (fl r1902.2.2.1)), (17, .row 3 (fl r1902.2.2.2.1)), ((.s 18 0), .fam (famD dLListInt 0 r1902.2.1))] 19 (by kernel_rfl) ?_
            refine wk_id ?_
            refine seq_np ?_
            refine reg_f ?_
            refine rs 2 [] [] (by kernel_rfl) allP_nil ?_
            refine rf [(1, iS barrier), (6, .ptr 0 0), (8, .ptr 1 0), (10, .ptr 2 0), (11, iS t45q7), (13, iS r1902.1), (43, .sl acts.length (fl acts)), (44, iS ((acts.length : Nat) : Int)), (45, iS t45q7), (55, bS (r1902.1 != 0))] [(0, .row 25 [.v (.slice none 0 0), .v (.slice none 0 0)]), (1, .row 30 [iS 0, iS 0]), (2, .row 54 [.own 15 0 r1902.2.1.length, .own 4 0 r1902.2.2.2.2.length, .own 16 0 r1902.2.2.1.length, .own 17 0 r1902.2.2.2.1.length]), (3, .dead), (4, .row 3 (fl r1902.2.2.2.2)), (5, .dead), (6, .dead), ((.s 7 0), .dead), (8, .row 47 (Enc.cells (ix acts t45q7))), (15, .row 23 (flD dLListInt [18] r1902.2.1)), (16, .row 3 (fl r1902.2.2.1)), (17, .row 3 (fl r1902.2.2.2.1)), ((.s 18 0), .fam (famD dLListInt 0 r1902.2.1))] 19 (by kernel_rfl) ?_
            refine wk_id ?_
            refine cond_sx h (by kernel_rfl) (fun g1906 h => ?_) (fun g1906 h => ?_)
            · refine seq_np ?_
              refine reg_f ?_
              refine rs 3 [] [] (by kernel_rfl) allP_nil ?_
              obtain ⟨r1905, hr1905, h⟩ := bind_sx h
              refine run_call 24 [iS r1902.1, iS t45q7] (some 59) (by kernel_rfl) ?_
              refine call_0 (sweep_fault_spec r1902.1 t45q7 r1905 hr1905) (by simp only [push_cast, leL_flD, renL_flD, seval]) (by simp only [push_cast, leL_flD, renL_flD, seval]) ?_
              refine back_f ?_
              refine rs 3 [] [] (by kernel_rfl) allP_nil ?_
              refine rf [(6, .ptr 0 0), (7, .v (.slice none 0 0)), (8, .ptr 1 0)] [(0, .row 25 [.v (.slice none 0 0), .v (.slice none 0 0)]), (1, .row 30 (Enc.cells r1905)), (2, .row 54 [.own 15 0 r1902.2.1.length, .own 4 0 r1902.2.2.2.2.length, .own 16 0 r1902.2.2.1.length, .own 17 0 r1902.2.2.2.1.length]), (3, .dead), (4, .row 3 (fl r1902.2.2.2.2)), (5, .dead), (6, .dead), ((.s 7 0), .dead), (8, .row 47 (Enc.cells (ix acts t45q7))), (15, .row 23 (flD dLListInt [18] r1902.2.1)), (16, .row 3 (fl r1902.2.2.1)), (17, .row 3 (fl r1902.2.2.2.1)), ((.s 18 0), .fam (famD dLListInt 0 r1902.2.1))] 19 (by kernel_rfl) ?_
              refine wk_id ?_
              refine rt_cast ht2 ?_
              obtain ⟨r0, h, e0⟩ := map_sx h
              have e1 := hr2 r0 e0.symm
              subst r0
              obtain rfl := Option.some.inj h
              refine ret_at (.tup [.agg [.v (.slice none 0 0), .v (.slice none 0 0)], .v (.slice none 0 0), .agg (Enc.cells r1905)]) (by kernel_rfl) ?_
              exact ret_e [] [] (by simp only [push_cast, leL_flD, renL_flD, seval]) (by simp only [push_cast, leL_flD, renL_flD, seval]) rfl rfl rfl
            · refine wk_id ?_
              refine wk_id ?_
              refine reg_f ?_
              refine rs 2 [] [] (by kernel_rfl) allP_nil ?_
              refine rf [(1, iS barrier), (6, .ptr 0 0), (8, .ptr 1 0), (10, .ptr 2 0), (43, .sl acts.length (fl acts)), (44, iS ((acts.length : Nat) : Int)), (45, iS (IntKind.i64.wrap (t45q7 + 1)))] [(0, .row 25 [.v (.slice none 0 0), .v (.slice none 0 0)]), (1, .row 30 [iS 0, iS 0]), (2, .row 54 [.own 15 0 r1902.2.1.length, .own 4 0 r1902.2.2.2.2.length, .own 16 0 r1902.2.2.1.length, .own 17 0 r1902.2.2.2.1.length]), (3, .dead), (4, .row 3 (fl r1902.2.2.2.2)), (5, .dead), (6, .dead), ((.s 7 0), .dead), (8, .row 47 (Enc.cells (ix acts t45q7))), (15, .row 23 (flD dLListInt [18] r1902.2.1)), (16, .row 3 (fl r1902.2.2.1)), (17, .row 3 (fl r1902.2.2.2.1)), ((.s 18 0), .fam (famD dLListInt 0 r1902.2.1))] 19 (by kernel_rfl) ?_
              exact hn2 ((IntKind.i64.wrap (t45q7 + 1)), r1902.2.1, r1902.2.2.2.2, r1902.2.2.1, r1902.2.2.2.1) _ _ _ (Option.some.inj h).symm (leSt_m [(0, 0), (1, 1), (2, 2), (3, 15), (4, 4), (5, 16), (6, 17), ((.s 7 0), (.s 18 0))] [] (by simp only [push_cast, leL_flD, renL_flD, seval]) (by simp only [push_cast, leL_flD, renL_flD, seval]) rfl rfl rfl)
          · change R2 (.exit 0) _ _ _
            refine ex_cast hx2 (id := 0) ?_
            obtain ⟨r0, h, e0⟩ := map_sx h
            have e1 := hr2 r0 e0.symm
            subst r0
            refine wk_id ?_
            refine wk_id ?_
            refine seq_np ?_
            refine reg_f ?_
            refine rs 1 [] [] (by kernel_rfl) allP_nil ?_
            obtain ⟨r1911, hr1911, h⟩ := bind_sx h
            refine call_x (sweep_cycle_all_1_spec c3q12 c4q12 c5q12 c6q12 r1911 hr1911) (args := [.ptr 2 0]) (dst := (some 62)) (by kernel_rfl) [(0, .row 25 [.v (.slice none 0 0), .v (.slice none 0 0)]), (1, .row 30 [iS 0, iS 0]), (2, .row 54 [.own 3 0 c3q12.length, .own 4 0 c4q12.length, .own 5 0 c5q12.length, .own 6 0 c6q12.length]), (3, .row 23 (flD dLListInt [7] c3q12)), (4, .row 3 (fl c4q12)), (5, .row 3 (fl c5q12)), (6, .row 3 (fl c6q12)), ((.s 7 0), .fam (famD dLListInt 0 c3q12))] 8 (by kernel_rfl) [(0, 2), (1, 3), ((.s 2 0), (.s 7 0)), (3, 4), (4, 5), (5, 6)] [] (.tup []) [(2, .row 54 [.own 3 0 r1911.2.1.length, .own 4 0 r1911.2.2.1.length, .own 5 0 r1911.2.2.2.length, .own 14 0 r1911.1.length]), (3, .row 23 (flD dLListInt [7] r1911.2.1)), ((.s 7 0), .fam (famD dLListInt 0 r1911.2.1)), (4, .row 3 (fl r1911.2.2.1)), (5, .row 3 (fl r1911.2.2.2)), (6, .dead), (14, .row 3 (fl r1911.1)), (2, .dead), (3, .dead), ((.s 7 0), .dead), (4, .dead), (5, .dead), (6, .dead)] (by simp only [push_cast, leL_flD, renL_flD, seval]) (by simp only [push_cast, leL_flD, renL_flD, seval]) (by kernel_rfl) (.inl rfl) (by first | (simp only [push_cast, leL_flD, renL_flD, seval]; done) | (simp only [push_cast, leL_flD, renL_flD, seval]; kernel_rfl) | kernel_rfl) (by first | (simp only [push_cast, leL_flD, renL_flD, seval]; done) | (simp only [push_cast, leL_flD, renL_flD, seval]; kernel_rfl) | kernel_rfl) ?_ (hfam := (And.intro trivial (And.intro trivial (And.intro (fun _ => Or.inl rfl) (And.intro trivial (And.intro trivial (And.intro trivial trivial)))))))
            refine rf [(1, iS barrier), (6, .ptr 0 0), (8, .ptr 1 0), (10, .ptr 2 0)] [(0, .row 25 [.v (.slice none 0 0), .v (.slice none 0 0)]), (1, .row 30 [iS 0, iS 0]), (2, .row 54 [.own 3 0 r1911.2.1.length, .own 4 0 r1911.2.2.1.length, .own 5 0 r1911.2.2.2.length, .own 14 0 r1911.1.length]), (3, .row 23 (flD dLListInt [7] r1911.2.1)), (4, .row 3 (fl r1911.2.2.1)), (5, .row 3 (fl r1911.2.2.2)), (6, .dead), ((.s 7 0), .fam (famD dLListInt 0 r1911.2.1)), (14, .row 3 (fl r1911.1))] 15 (by kernel_rfl) ?_
            refine wk_id ?_
            refine seq_cut (A := (List (List Int)) × (List Int) × (List Int) × (List Int)) (fun a => ([(6, .ptr 0 0), (8, .ptr 1 0), (10, .ptr 2 0)], [(0, .row 25 [.v (.slice none 0 0), .v (.slice none 0 0)]), (1, .row 30 [iS 0, iS 0]), (2, .row 54 [.own 3 0 a.1.length, .own 4 0 a.2.1.length, .own 5 0 a.2.2.1.length, .own 6 0 a.2.2.2.length]), (3, .row 23 (flD dLListInt [7] a.1)), (4, .row 3 (fl a.2.1)), (5, .row 3 (fl a.2.2.1)), (6, .row 3 (fl a.2.2.2)), ((.s 7 0), .fam (famD dLListInt 0 a.1))], 8)) (fun a => (sweep_Cycle_j1 a.1 a.2.1 a.2.2.1 a.2.2.2) = some r) (fun K1925 hK1925 => ?_) ?_
            · refine seq_np ?_
              refine reg_f ?_
              refine rs 2 [] [] (by kernel_rfl) allP_nil ?_
              refine rf [(6, .ptr 0 0), (8, .ptr 1 0), (10, .ptr 2 0), (64, bS (barrier == 1))] [(0, .row 25 [.v (.slice none 0 0), .v (.slice none 0 0)]), (1, .row 30 [iS 0, iS 0]), (2, .row 54 [.own 3 0 r1911.2.1.length, .own 4 0 r1911.2.2.1.length, .own 5 0 r1911.2.2.2.length, .own 14 0 r1911.1.length]), (3, .row 23 (flD dLListInt [7] r1911.2.1)), (4, .row 3 (fl r1911.2.2.1)), (5, .row 3 (fl r1911.2.2.2)), (6, .dead), ((.s 7 0), .fam (famD dLListInt 0 r1911.2.1)), (14, .row 3 (fl r1911.1))] 15 (by kernel_rfl) ?_
              refine wk_id ?_
              refine cond_sx h (by kernel_rfl) (fun g1942 h => ?_) (fun g1942 h => ?_)
              · refine seq_np ?_
                refine reg_f ?_
                refine rs 6 [] [] (by kernel_rfl) allP_nil ?_
                obtain ⟨r1930, hr1930, h⟩ := bind_sx h
                refine call_x (sweep_cycle_shade_1_spec r1911.1 r1911.2.2.1 r1911.2.1 r1911.2.2.2 r1930 hr1930) (args := [.ptr 2 0, .own 4 0 r1911.2.2.1.length]) (dst := (some 71)) (by kernel_rfl) [(0, .row 25 [.v (.slice none 0 0), .v (.slice none 0 0)]), (1, .row 30 [iS 0, iS 0]), (2, .row 54 [.own 3 0 r1911.2.1.length, .own 4 0 r1911.2.2.1.length, .own 5 0 r1911.2.2.2.length, .own 14 0 r1911.1.length]), (3, .row 23 (flD dLListInt [7] r1911.2.1)), (4, .row 3 (fl r1911.2.2.1)), (5, .row 3 (fl r1911.2.2.2)), (6, .dead), ((.s 7 0), .fam (famD dLListInt 0 r1911.2.1)), (14, .row 3 (fl r1911.1))] 15 (by kernel_rfl) [(0, 2), (1, 3), ((.s 2 0), (.s 7 0)), (3, 4), (4, 5), (5, 14)] [] (.tup []) [(2, .row 54 [.own 3 0 r1930.2.1.length, .own 4 0 r1930.2.2.1.length, .own 5 0 r1930.2.2.2.length, .own 21 0 r1930.1.length]), (3, .row 23 (flD dLListInt [7] r1930.2.1)), ((.s 7 0), .fam (famD dLListInt 0 r1930.2.1)), (4, .row 3 (fl r1930.2.2.1)), (5, .row 3 (fl r1930.2.2.2)), (14, .dead), (21, .row 3 (fl r1930.1)), (2, .dead), (3, .dead), ((.s 7 0), .dead), (4, .dead), (5, .dead), (14, .dead)] (by simp only [push_cast, leL_flD, renL_flD, seval]) (by simp only [push_cast, leL_flD, renL_flD, seval]) (by kernel_rfl) (.inl rfl) (by first | (simp only [push_cast, leL_flD, renL_flD, seval]; done) | (simp only [push_cast, leL_flD, renL_flD, seval]; kernel_rfl) | kernel_rfl) (by first | (simp only [push_cast, leL_flD, renL_flD, seval]; done) | (simp only [push_cast, leL_flD, renL_flD, seval]; kernel_rfl) | kernel_rfl) ?_ (hfam := (And.intro trivial (And.intro trivial (And.intro (fun _ => Or.inl rfl) (And.intro trivial (And.intro trivial (And.intro trivial trivial)))))))
                refine rf [(6, .ptr 0 0), (8, .ptr 1 0), (10, .ptr 2 0)] [(0, .row 25 [.v (.slice none 0 0), .v (.slice none 0 0)]), (1, .row 30 [iS 0, iS 0]), (2, .row 54 [.own 3 0 r1930.2.1.length, .own 4 0 r1930.2.2.1.length, .own 5 0 r1930.2.2.2.length, .own 21 0 r1930.1.length]), (3, .row 23 (flD dLListInt [7] r1930.2.1)), (4, .row 3 (fl r1930.2.2.1)), (5, .row 3 (fl r1930.2.2.2)), (6, .dead), ((.s 7 0), .fam (famD dLListInt 0 r1930.2.1)), (14, .dead), (21, .row 3 (fl r1930.1))] 22 (by kernel_rfl) ?_
                refine wk_id ?_
                refine reg_f ?_
                refine rs 1 [] [] (by kernel_rfl) allP_nil ?_
                obtain ⟨r1938, hr1938, h⟩ := bind_sx h
                refine call_x (sweep_cycle_all_1_spec r1930.2.1 r1930.2.2.1 r1930.2.2.2 r1930.1 r1938 hr1938) (args := [.ptr 2 0]) (dst := (some 73)) (by kernel_rfl) [(0, .row 25 [.v (.slice none 0 0), .v (.slice none 0 0)]), (1, .row 30 [iS 0, iS 0]), (2, .row 54 [.own 3 0 r1930.2.1.length, .own 4 0 r1930.2.2.1.length, .own 5 0 r1930.2.2.2.length, .own 21 0 r1930.1.length]), (3, .row 23 (flD dLListInt [7] r1930.2.1)), (4, .row 3 (fl r1930.2.2.1)), (5, .row 3 (fl r1930.2.2.2)), (6, .dead), ((.s 7 0), .fam (famD dLListInt 0 r1930.2.1)), (14, .dead), (21, .row 3 (fl r1930.1))] 22 (by kernel_rfl) [(0, 2), (1, 3), ((.s 2 0), (.s 7 0)), (3, 4), (4, 5), (5, 21)] [] (.tup []) [(2, .row 54 [.own 3 0 r1938.2.1.length, .own 4 0 r1938.2.2.1.length, .own 5 0 r1938.2.2.2.length, .own 28 0 r1938.1.length]), (3, .row 23 (flD dLListInt [7] r1938.2.1)), ((.s 7 0), .fam (famD dLListInt 0 r1938.2.1)), (4, .row 3 (fl r1938.2.2.1)), (5, .row 3 (fl r1938.2.2.2)), (21, .dead), (28, .row 3 (fl r1938.1)), (2, .dead), (3, .dead), ((.s 7 0), .dead), (4, .dead), (5, .dead), (21, .dead)] (by simp only [push_cast, leL_flD, renL_flD, seval]) (by simp only [push_cast, leL_flD, renL_flD, seval]) (by kernel_rfl) (.inl rfl) (by first | (simp only [push_cast, leL_flD, renL_flD, seval]; done) | (simp only [push_cast, leL_flD, renL_flD, seval]; kernel_rfl) | kernel_rfl) (by first | (simp only [push_cast, leL_flD, renL_flD, seval]; done) | (simp only [push_cast, leL_flD, renL_flD, seval]; kernel_rfl) | kernel_rfl) ?_ (hfam := (And.intro trivial (And.intro trivial (And.intro (fun _ => Or.inl rfl) (And.intro trivial (And.intro trivial (And.intro trivial trivial)))))))
                refine rf [(6, .ptr 0 0), (8, .ptr 1 0), (10, .ptr 2 0)] [(0, .row 25 [.v (.slice none 0 0), .v (.slice none 0 0)]), (1, .row 30 [iS 0, iS 0]), (2, .row 54 [.own 3 0 r1938.2.1.length, .own 4 0 r1938.2.2.1.length, .own 5 0 r1938.2.2.2.length, .own 28 0 r1938.1.length]), (3, .row 23 (flD dLListInt [7] r1938.2.1)), (4, .row 3 (fl r1938.2.2.1)), (5, .row 3 (fl r1938.2.2.2)), (6, .dead), ((.s 7 0), .fam (famD dLListInt 0 r1938.2.1)), (14, .dead), (21, .dead), (28, .row 3 (fl r1938.1))] 29 (by kernel_rfl) ?_
                exact hK1925 (r1938.2.1, r1938.2.2.1, r1938.2.2.2, r1938.1) _ _ _ h (leSt_m [(0, 0), (1, 1), (2, 2), (3, 3), (4, 4), (5, 5), (6, 28), ((.s 7 0), (.s 7 0))] [] (by simp only [push_cast, leL_flD, renL_flD, seval]) (by simp only [push_cast, leL_flD, renL_flD, seval]) rfl rfl rfl)
              · exact hK1925 (r1911.2.1, r1911.2.2.1, r1911.2.2.2, r1911.1) _ _ _ h (leSt_m [(0, 0), (1, 1), (2, 2), (3, 3), (4, 4), (5, 5), (6, 14), ((.s 7 0), (.s 7 0))] [] (by simp only [push_cast, leL_flD, renL_flD, seval]) (by simp only [push_cast, leL_flD, renL_flD, seval]) rfl rfl rfl)
            · rintro ⟨c3q13, c4q13, c5q13, c6q13⟩ h
              try dsimp only at h ⊢
              unfold sweep_Cycle_j1 at h
              refine seq_np ?_
              refine reg_t ?_
              refine rs 5 [] [] (by kernel_rfl) allP_nil ?_
              obtain ⟨r1944, hr1944, h⟩ := bind_sx h
              refine call_x (sweep_cycle_whites_spec (cycle.mk c3q13 c4q13 c5q13 c6q13) r1944 hr1944) (args := [.ptr 2 0]) (dst := (some 79)) (by kernel_rfl) [(0, .row 25 [.v (.slice none 0 0), .v (.slice none 0 0)]), (1, .row 30 [iS 0, iS 0]), (2, .row 54 [.own 3 0 c3q13.length, .own 4 0 c4q13.length, .own 5 0 c5q13.length, .own 6 0 c6q13.length]), (3, .row 23 (flD dLListInt [7] c3q13)), (4, .row 3 (fl c4q13)), (5, .row 3 (fl c5q13)), (6, .row 3 (fl c6q13)), ((.s 7 0), .fam (famD dLListInt 0 c3q13))] 13 (by kernel_rfl) [] [3, (.s 7 0), 4, 5, 6, 2] (.own 13 0 r1944.length) [(13, .row 3 (fl r1944))] (by simp only [↓leS_frzD dLListInt [7] c3q13, ↓leS_frzD dLListInt [7] c3q13, leS_frz, leL_flD, renL_flD, push_cast, seval]) (by simp only [↓leS_frzD dLListInt [7] c3q13, ↓leS_frzD dLListInt [7] c3q13, leS_frz, leL_flD, renL_flD, push_cast, seval]) (by kernel_rfl) (.inr ⟨by simp only [push_cast, leL_flD, renL_flD, seval], by simp only [push_cast, leL_flD, renL_flD, seval]⟩) (by simp only [push_cast, leL_flD, renL_flD, seval]) (by simp only [push_cast, leL_flD, renL_flD, seval]) ?_
              refine rs 4 [] [] (by kernel_rfl) allP_nil ?_
              refine rt [(6, .ptr 0 0), (7, .own 13 0 r1944.length), (8, .ptr 1 0)] [(0, .row 25 [.own 3 0 c3q13.length, .own 4 0 c4q13.length]), (1, .row 30 [iS 0, iS 0]), (2, .row 54 [.own 3 0 c3q13.length, .own 4 0 c4q13.length, .own 5 0 c5q13.length, .own 6 0 c6q13.length]), (3, .row 23 (flD dLListInt [7] c3q13)), (4, .row 3 (fl c4q13)), (5, .row 3 (fl c5q13)), (6, .row 3 (fl c6q13)), ((.s 7 0), .fam (famD dLListInt 0 c3q13)), (13, .row 3 (fl r1944))] 19 follows (by kernel_rfl) ?_
              refine wk_id ?_
              obtain rfl := Option.some.inj h
              refine ret_at (.tup [.agg [.own 3 0 c3q13.length, .own 4 0 c4q13.length], .own 13 0 r1944.length, .agg [iS 0, iS 0]]) (by kernel_rfl) ?_
              exact ret_e [(0, 3), (1, 4), (2, 13), ((.s 3 0), (.s 7 0))] [] (by simp only [push_cast, leL_flD, renL_flD, seval]) (by simp only [push_cast, leL_flD, renL_flD, seval]) rfl rfl rfl

set_option maxRecDepth 100000 in
set_option maxHeartbeats 200000000 in
theorem taskmillref_Ints_spec (xa : (List Int)) (b : (List Int)) (r : Bool) (h : taskmillref_Ints xa b = some r) : SpecW Try.prog 22 [.sl xa.length (fl xa), .sl b.length (fl b)] [] 0 (fun x h n => x = bS r ∧ h = [] ∧ n = 0) := by
  unfold taskmillref_Ints at h
  refine spec_of (draw_ok _) Try.func22 rfl (by decide) rfl (by kernel_rfl) ?_
  refine seq_np ?_
  refine reg_f ?_
  refine rs 1 [] [] (by kernel_rfl) allP_nil ?_
  refine rf [(0, .sl xa.length (fl xa)), (1, .sl b.length (fl b))] [] 0 (by kernel_rfl) ?_
  refine wk_id ?_
  refine seq_np ?_
  refine seq_np ?_
  refine reg_f ?_
  refine rs 5 [] [] (by kernel_rfl) allP_nil ?_
  refine rf [(0, .sl xa.length (fl xa)), (1, .sl b.length (fl b)), (10, bS (((xa.length : Nat) : Int) != ((b.length : Nat) : Int)))] [] 0 (by kernel_rfl) ?_
  refine wk_id ?_
  refine cond_sx h (by kernel_rfl) (fun g2045 h => ?_) (fun g2045 h => ?_)
  · refine seq_np ?_
    refine reg_f ?_
    refine rs 1 [] [] (by kernel_rfl) allP_nil ?_
    refine rf [(4, bS false)] [] 0 (by kernel_rfl) ?_
    refine wk_id ?_
    obtain rfl := Option.some.inj h
    refine ret_at (bS false) (by kernel_rfl) ?_
    exact ret_e [] [] (by simp only [push_cast, leL_flD, renL_flD, seval]) (by simp only [push_cast, leL_flD, renL_flD, seval]) rfl rfl rfl
  · refine wk_id ?_
    refine seq_np ?_
    refine seq_np ?_
    refine reg_f ?_
    refine rs 1 [] [] (by kernel_rfl) allP_nil ?_
    refine rf [(0, .sl xa.length (fl xa)), (1, .sl b.length (fl b)), (5, iS 0)] [] 0 (by kernel_rfl) ?_
    refine wk_id ?_
    refine block_np ?_
    refine loop_sx (S := Int) (fun a => ([(0, .sl xa.length (fl xa)), (1, .sl b.length (fl b)), (5, iS a)], [], 0)) h (leSt_m [] [] (by simp only [push_cast, leL_flD, renL_flD, seval]) (by simp only [push_cast, leL_flD, renL_flD, seval]) rfl rfl rfl) ?_
    rintro i7 o2 R2 h hr2 hn2 hx2 ht2
    try dsimp only at h hn2 ⊢
    unfold taskmillref_Ints_l1 at h
    try dsimp only at h
    refine seq_np ?_
    refine seq_np ?_
    refine reg_f ?_
    refine rs 4 [] [] (by kernel_rfl) allP_nil ?_
    refine rf [(0, .sl xa.length (fl xa)), (1, .sl b.length (fl b)), (5, iS i7), (14, bS (decide (i7 < ((xa.length : Nat) : Int))))] [] 0 (by kernel_rfl) ?_
    refine wk_id ?_
    refine cond_sx h (by kernel_rfl) (fun g2044 h => ?_) (fun g2044 h => ?_)
    · refine wk_id ?_
      refine seq_np ?_
      refine block_np ?_
      refine chk_sx h (fun g2040 h => ?_)
      refine chk_sx h (fun g2042 h => ?_)
      refine seq_np ?_
      refine reg_t ?_
      have k2039 : 0 ≤ i7 ∧ i7 < ((xa.length : Nat) : Int) := by first | simpa only [Bool.and_eq_true, decide_eq_true_eq, bne_iff_ne, ne_eq] using g2040 | (simp at g2040 ⊢; omega)
      have k2041 : 0 ≤ i7 ∧ i7 < ((b.length : Nat) : Int) := by first | simpa only [Bool.and_eq_true, decide_eq_true_eq, bne_iff_ne, ne_eq] using g2042 | (simp at g2042 ⊢; omega)
      refine rs 9 [none, none, some ⟨.iptr (fl xa) ((i7).toNat * 1), [], 2, []⟩, some ⟨iS (ix xa i7), [], 3, []⟩, none, none, some ⟨.iptr (fl b) ((i7).toNat * 1), [], 6, []⟩, some ⟨iS (ix b i7), [], 7, []⟩] _ (by kernel_rfl) (allP_cons (ob_ld b i7 1 0 ((i7).toNat * 1) k2041 rfl (by decide) (by first | rfl | omega) (dflS Try.prog 3) (iS (ix b i7)) rfl 7 []) (allP_cons (ob_ix_l b 1 6 i7 k2041) (allP_cons (ob_ld xa i7 1 0 ((i7).toNat * 1) k2039 rfl (by decide) (by first | rfl | omega) (dflS Try.prog 3) (iS (ix xa i7)) rfl 3 []) (allP_cons (ob_ix_l xa 1 2 i7 k2039) allP_nil)))) ?_
      refine rt [(0, .sl xa.length (fl xa)), (1, .sl b.length (fl b)), (5, iS i7), (25, bS ((ix xa i7) != (ix b i7)))] [] 9 follows (by kernel_rfl) ?_
      refine wk_id ?_
      refine cond_sx h (by kernel_rfl) (fun g2043 h => ?_) (fun g2043 h => ?_)
      · refine seq_np ?_
        refine reg_f ?_
        refine rs 1 [] [] (by kernel_rfl) allP_nil ?_
        refine rf [(4, bS false)] [] 9 (by kernel_rfl) ?_
        refine wk_id ?_
        refine rt_cast ht2 ?_
        obtain ⟨r0, h, e0⟩ := map_sx h
        have e1 := hr2 r0 e0.symm
        subst r0
        obtain rfl := Option.some.inj h
        refine ret_at (bS false) (by kernel_rfl) ?_
        exact ret_e [] [] (by simp only [push_cast, leL_flD, renL_flD, seval]) (by simp only [push_cast, leL_flD, renL_flD, seval]) rfl rfl rfl
      · refine wk_id ?_
        refine wk_id ?_
        refine reg_f ?_
        refine rs 3 [] [] (by kernel_rfl) allP_nil ?_
        refine rf [(0, .sl xa.length (fl xa)), (1, .sl b.length (fl b)), (5, iS (IntKind.i64.wrap (i7 + 1)))] [] 9 (by kernel_rfl) ?_
        exact hn2 ((IntKind.i64.wrap (i7 + 1))) _ _ _ (Option.some.inj h).symm (leSt_m [] [] (by simp only [push_cast, leL_flD, renL_flD, seval]) (by simp only [push_cast, leL_flD, renL_flD, seval]) rfl rfl rfl)
    · change R2 (.exit 0) _ _ _
      refine ex_cast hx2 (id := 0) ?_
      obtain ⟨r0, h, e0⟩ := map_sx h
      have e1 := hr2 r0 e0.symm
      subst r0
      refine wk_id ?_
      refine wk_id ?_
      refine seq_np ?_
      refine reg_f ?_
      refine rs 1 [] [] (by kernel_rfl) allP_nil ?_
      refine rf [(4, bS true)] [] 0 (by kernel_rfl) ?_
      refine wk_id ?_
      obtain rfl := Option.some.inj h
      refine ret_at (bS true) (by kernel_rfl) ?_
      exact ret_e [] [] (by simp only [push_cast, leL_flD, renL_flD, seval]) (by simp only [push_cast, leL_flD, renL_flD, seval]) rfl rfl rfl

end Go.Proofs.Ytlfcicekappbfaa
