/-
  What laws of the chapter lock compute, and lemmas on it.
  No conditions.
-/
import Derived.Test.YthknjjkldflbaaalockW1
set_option linter.unusedSimpArgs false
set_option linter.unusedVariables false
namespace Go.Proofs.Ythknjjkldflbaaa
open Go Go.Sx
attribute [local irreducible] Wk RunAt
set_option maxRecDepth 100000 in
set_option maxHeartbeats 10000000 in
theorem slices_IndexFunc_Want_1_spec (s : (List Want)) (c0 : Int) (r : Int × Int) (h : slices_IndexFunc_Want_1 s c0 = some r) : SpecW Try.prog 27 [.sl s.length (fl s), .clo 33 [.ptr 0 0]] [(0, .row 3 [iS c0])] 1 (fun x h n => x = iS r.1 ∧ h = [(0, .row 3 [iS r.2])] ∧ n = 1) := by
  unfold slices_IndexFunc_Want_1 at h
  refine spec_of (draw_ok _) Try.func27 rfl (by decide) rfl (by kernel_rfl) ?_
  refine seq_np ?_
  refine reg_f ?_
  refine rs 1 [] [] (by kernel_rfl) allP_nil ?_
  refine rf [(0, .sl s.length (fl s)), (1, .clo 33 [.ptr 0 0])] [(0, .row 3 [iS c0])] 1 (by kernel_rfl) ?_
  refine wk_id ?_
  refine seq_np ?_
  refine seq_np ?_
  refine reg_f ?_
  refine rs 3 [] [] (by kernel_rfl) allP_nil ?_
  refine rf [(0, .sl s.length (fl s)), (1, .clo 33 [.ptr 0 0]), (7, iS ((s.length : Nat) : Int)), (8, iS 0)] [(0, .row 3 [iS c0])] 1 (by kernel_rfl) ?_
  refine wk_id ?_
  refine block_np ?_
  refine loop_sx (S := Int × Int) (fun a => ([(0, .sl s.length (fl s)), (1, .clo 33 [.ptr 0 0]), (7, iS ((s.length : Nat) : Int)), (8, iS a.1)], [(0, .row 3 [iS a.2])], 1)) h (leSt_m [(0, 0)] [] (by simp only [push_cast, seval]) (by simp only [push_cast, seval]) rfl rfl rfl) ?_
  rintro ⟨t8q7, c0q9⟩ o2 R2 h hr2 hn2 hx2 ht2
  try dsimp only at h hn2 ⊢
  unfold slices_IndexFunc_Want_1_l1 at h
  try dsimp only at h
  refine seq_np ?_
  refine reg_f ?_
  refine rs 1 [] [] (by kernel_rfl) allP_nil ?_
  refine rf [(0, .sl s.length (fl s)), (1, .clo 33 [.ptr 0 0]), (7, iS ((s.length : Nat) : Int)), (8, iS t8q7), (9, bS (decide (t8q7 < ((s.length : Nat) : Int))))] [(0, .row 3 [iS c0q9])] 1 (by kernel_rfl) ?_
  refine wk_id ?_
  refine seq_np ?_
  refine cond_sx h (by kernel_rfl) (fun g2049 h => ?_) (fun g2049 h => ?_)
  · refine wk_id ?_
    refine seq_np ?_
    refine block_np ?_
    refine seq_np ?_
    refine reg_f ?_
    refine rs 2 [] [] (by kernel_rfl) allP_nil ?_
    refine rf [(0, .sl s.length (fl s)), (1, .clo 33 [.ptr 0 0]), (5, iS t8q7), (7, iS ((s.length : Nat) : Int)), (8, iS t8q7)] [(0, .row 3 [iS c0q9])] 1 (by kernel_rfl) ?_
    refine wk_id ?_
    refine chk_sx h (fun g2046 h => ?_)
    refine seq_np ?_
    refine reg_f ?_
    have k2045 : 0 ≤ t8q7 ∧ t8q7 < ((s.length : Nat) : Int) := by first | simpa only [Bool.and_eq_true, decide_eq_true_eq, bne_iff_ne, ne_eq] using g2046 | (simp at g2046 ⊢; omega)
    refine rs 5 [none, none, none, some ⟨.iptr (fl s) ((t8q7).toNat * 3), [], 1, []⟩, some ⟨.agg (Enc.cells (ix s t8q7)), [], 1, []⟩] _ (by kernel_rfl) (allP_cons (ob_ldw s t8q7 3 ((t8q7).toNat * 3) k2045 rfl (by first | rfl | omega) [iS (ix s t8q7).Task, bS (ix s t8q7).Write, iS (ix s t8q7).N] rfl 1 []) (allP_cons (ob_ix_l s 3 1 t8q7 k2045) allP_nil)) ?_
    obtain ⟨r2047, hr2047, h⟩ := bind_sx h
    refine call_x (lock_Enter_1_spec (ix s t8q7) c0q9 r2047 hr2047) (args := [.agg (Enc.cells (ix s t8q7)), .ptr 0 0]) (dst := (some 16)) (by kernel_rfl) [(0, .row 3 [iS c0q9])] 1 (by kernel_rfl) [(0, 0)] [] (bS r2047.1) [(0, .row 3 [iS r2047.2]), (0, .dead)] (by simp only [push_cast, seval]) (by simp only [push_cast, seval]) (by kernel_rfl) (.inl rfl) (by simp only [push_cast, seval]) (by simp only [push_cast, seval]) ?_
    refine rf [(0, .sl s.length (fl s)), (1, .clo 33 [.ptr 0 0]), (5, iS t8q7), (7, iS ((s.length : Nat) : Int)), (8, iS t8q7), (16, bS r2047.1)] [(0, .row 3 [iS r2047.2])] 2 (by kernel_rfl) ?_
    refine wk_id ?_
    refine cond_sx h (by kernel_rfl) (fun g2048 h => ?_) (fun g2048 h => ?_)
    · refine seq_np ?_
      refine reg_f ?_
      refine rs 2 [] [] (by kernel_rfl) allP_nil ?_
      refine rf [(4, iS t8q7)] [(0, .row 3 [iS r2047.2])] 2 (by kernel_rfl) ?_
      refine wk_id ?_
      refine rt_cast ht2 ?_
      obtain ⟨r0, h, e0⟩ := map_sx h
      have e1 := hr2 r0 e0.symm
      subst r0
      obtain rfl := Option.some.inj h
      refine ret_at (iS t8q7) (by kernel_rfl) ?_
      exact ret_e [(0, 0)] [] (by simp only [push_cast, seval]) (by simp only [push_cast, seval]) rfl rfl rfl
    · refine wk_id ?_
      refine wk_id ?_
      refine reg_f ?_
      refine rs 2 [] [] (by kernel_rfl) allP_nil ?_
      refine rf [(0, .sl s.length (fl s)), (1, .clo 33 [.ptr 0 0]), (7, iS ((s.length : Nat) : Int)), (8, iS (IntKind.i64.wrap (t8q7 + 1)))] [(0, .row 3 [iS r2047.2])] 2 (by kernel_rfl) ?_
      exact hn2 ((IntKind.i64.wrap (t8q7 + 1)), r2047.2) _ _ _ (Option.some.inj h).symm (leSt_m [(0, 0)] [] (by simp only [push_cast, seval]) (by simp only [push_cast, seval]) rfl rfl rfl)
  · change R2 (.exit 0) _ _ _
    refine ex_cast hx2 (id := 0) ?_
    obtain ⟨r0, h, e0⟩ := map_sx h
    have e1 := hr2 r0 e0.symm
    subst r0
    refine wk_id ?_
    refine wk_id ?_
    refine seq_np ?_
    refine reg_f ?_
    refine rs 1 [] [] (by kernel_rfl) allP_nil ?_
    refine rf [(4, iS (-1))] [(0, .row 3 [iS c0q9])] 1 (by kernel_rfl) ?_
    refine wk_id ?_
    obtain rfl := Option.some.inj h
    refine ret_at (iS (-1)) (by kernel_rfl) ?_
    exact ret_e [(0, 0)] [] (by simp only [push_cast, seval]) (by simp only [push_cast, seval]) rfl rfl rfl

set_option maxRecDepth 100000 in
set_option maxHeartbeats 10000000 in
theorem slices_ContainsFunc_Want_spec (s : (List Want)) (c0 : Int) (r : Bool × Int) (h : slices_ContainsFunc_Want s c0 = some r) : SpecW Try.prog 32 [.sl s.length (fl s), .clo 33 [.ptr 0 0]] [(0, .row 3 [iS c0])] 1 (fun x h n => x = bS r.1 ∧ h = [(0, .row 3 [iS r.2])] ∧ n = 1) := by
  unfold slices_ContainsFunc_Want at h
  refine spec_of (draw_ok _) Try.func32 rfl (by decide) rfl (by kernel_rfl) ?_
  refine seq_np ?_
  refine reg_f ?_
  refine rs 1 [] [] (by kernel_rfl) allP_nil ?_
  refine rf [(0, .sl s.length (fl s)), (1, .clo 33 [.ptr 0 0])] [(0, .row 3 [iS c0])] 1 (by kernel_rfl) ?_
  refine wk_id ?_
  refine seq_np ?_
  refine reg_f ?_
  refine rs 2 [] [] (by kernel_rfl) allP_nil ?_
  obtain ⟨r2052, hr2052, h⟩ := bind_sx h
  refine call_x (slices_IndexFunc_Want_1_spec s c0 r2052 hr2052) (args := [.sl s.length (fl s), .clo 33 [.ptr 0 0]]) (dst := (some 7)) (by kernel_rfl) [(0, .row 3 [iS c0])] 1 (by kernel_rfl) [(0, 0)] [] (iS r2052.1) [(0, .row 3 [iS r2052.2]), (0, .dead)] (by simp only [push_cast, seval]) (by simp only [push_cast, seval]) (by kernel_rfl) (.inl rfl) (by simp only [push_cast, seval]) (by simp only [push_cast, seval]) ?_
  refine rs 2 [] [] (by kernel_rfl) allP_nil ?_
  refine rf [(4, bS (decide ((0 : Int) ≤ r2052.1)))] [(0, .row 3 [iS r2052.2])] 2 (by kernel_rfl) ?_
  refine wk_id ?_
  obtain rfl := Option.some.inj h
  refine ret_at (bS (decide ((0 : Int) ≤ r2052.1))) (by kernel_rfl) ?_
  exact ret_e [(0, 0)] [] (by simp only [push_cast, seval]) (by simp only [push_cast, seval]) rfl rfl rfl

set_option maxRecDepth 100000 in
set_option maxHeartbeats 10000000 in
theorem slices_Index_int_spec (s : (List Int)) (v : Int) (r : Int) (h : slices_Index_int s v = some r) : SpecW Try.prog 36 [.sl s.length (fl s), iS v] [] 0 (fun x h n => x = iS r ∧ h = [] ∧ n = 0) := by
  unfold slices_Index_int at h
  refine spec_of (draw_ok _) Try.func36 rfl (by decide) rfl (by kernel_rfl) ?_
  refine seq_np ?_
  refine reg_f ?_
  refine rs 1 [] [] (by kernel_rfl) allP_nil ?_
  refine rf [(0, .sl s.length (fl s)), (1, iS v)] [] 0 (by kernel_rfl) ?_
  refine wk_id ?_
  refine seq_np ?_
  refine seq_np ?_
  refine reg_f ?_
  refine rs 3 [] [] (by kernel_rfl) allP_nil ?_
  refine rf [(0, .sl s.length (fl s)), (1, iS v), (7, iS ((s.length : Nat) : Int)), (8, iS 0)] [] 0 (by kernel_rfl) ?_
  refine wk_id ?_
  refine block_np ?_
  refine loop_sx (S := Int) (fun a => ([(0, .sl s.length (fl s)), (1, iS v), (7, iS ((s.length : Nat) : Int)), (8, iS a)], [], 0)) h (leSt_m [] [] (by simp only [push_cast, seval]) (by simp only [push_cast, seval]) rfl rfl rfl) ?_
  rintro t8q7 o2 R2 h hr2 hn2 hx2 ht2
  try dsimp only at h hn2 ⊢
  unfold slices_Index_int_l1 at h
  try dsimp only at h
  refine seq_np ?_
  refine reg_f ?_
  refine rs 1 [] [] (by kernel_rfl) allP_nil ?_
  refine rf [(0, .sl s.length (fl s)), (1, iS v), (7, iS ((s.length : Nat) : Int)), (8, iS t8q7), (9, bS (decide (t8q7 < ((s.length : Nat) : Int))))] [] 0 (by kernel_rfl) ?_
  refine wk_id ?_
  refine seq_np ?_
  refine cond_sx h (by kernel_rfl) (fun g2123 h => ?_) (fun g2123 h => ?_)
  · refine wk_id ?_
    refine seq_np ?_
    refine block_np ?_
    refine seq_np ?_
    refine reg_f ?_
    refine rs 2 [] [] (by kernel_rfl) allP_nil ?_
    refine rf [(0, .sl s.length (fl s)), (1, iS v), (5, iS t8q7), (7, iS ((s.length : Nat) : Int)), (8, iS t8q7)] [] 0 (by kernel_rfl) ?_
    refine wk_id ?_
    refine chk_sx h (fun g2121 h => ?_)
    refine seq_np ?_
    refine reg_f ?_
    have k2120 : 0 ≤ t8q7 ∧ t8q7 < ((s.length : Nat) : Int) := by first | simpa only [Bool.and_eq_true, decide_eq_true_eq, bne_iff_ne, ne_eq] using g2121 | (simp at g2121 ⊢; omega)
    refine rs 6 [none, none, none, some ⟨.iptr (fl s) ((t8q7).toNat * 1), [], 0, []⟩, some ⟨iS (ix s t8q7), [], 0, []⟩] _ (by kernel_rfl) (allP_cons (ob_ld s t8q7 1 0 ((t8q7).toNat * 1) k2120 rfl (by decide) (by first | rfl | omega) (dflS Try.prog 3) (iS (ix s t8q7)) rfl 0 []) (allP_cons (ob_ix_l s 1 0 t8q7 k2120) allP_nil)) ?_
    refine rf [(0, .sl s.length (fl s)), (1, iS v), (5, iS t8q7), (7, iS ((s.length : Nat) : Int)), (8, iS t8q7), (16, bS (v == (ix s t8q7)))] [] 0 (by kernel_rfl) ?_
    refine wk_id ?_
    refine cond_sx h (by kernel_rfl) (fun g2122 h => ?_) (fun g2122 h => ?_)
    · refine seq_np ?_
      refine reg_f ?_
      refine rs 2 [] [] (by kernel_rfl) allP_nil ?_
      refine rf [(4, iS t8q7)] [] 0 (by kernel_rfl) ?_
      refine wk_id ?_
      refine rt_cast ht2 ?_
      obtain ⟨r0, h, e0⟩ := map_sx h
      have e1 := hr2 r0 e0.symm
      subst r0
      obtain rfl := Option.some.inj h
      refine ret_at (iS t8q7) (by kernel_rfl) ?_
      exact ret_e [] [] (by simp only [push_cast, seval]) (by simp only [push_cast, seval]) rfl rfl rfl
    · refine wk_id ?_
      refine wk_id ?_
      refine reg_f ?_
      refine rs 2 [] [] (by kernel_rfl) allP_nil ?_
      refine rf [(0, .sl s.length (fl s)), (1, iS v), (7, iS ((s.length : Nat) : Int)), (8, iS (IntKind.i64.wrap (t8q7 + 1)))] [] 0 (by kernel_rfl) ?_
      exact hn2 ((IntKind.i64.wrap (t8q7 + 1))) _ _ _ (Option.some.inj h).symm (leSt_m [] [] (by simp only [push_cast, seval]) (by simp only [push_cast, seval]) rfl rfl rfl)
  · change R2 (.exit 0) _ _ _
    refine ex_cast hx2 (id := 0) ?_
    obtain ⟨r0, h, e0⟩ := map_sx h
    have e1 := hr2 r0 e0.symm
    subst r0
    refine wk_id ?_
    refine wk_id ?_
    refine seq_np ?_
    refine reg_f ?_
    refine rs 1 [] [] (by kernel_rfl) allP_nil ?_
    refine rf [(4, iS (-1))] [] 0 (by kernel_rfl) ?_
    refine wk_id ?_
    obtain rfl := Option.some.inj h
    refine ret_at (iS (-1)) (by kernel_rfl) ?_
    exact ret_e [] [] (by simp only [push_cast, seval]) (by simp only [push_cast, seval]) rfl rfl rfl

set_option maxRecDepth 100000 in
set_option maxHeartbeats 10000000 in
theorem slices_Contains_int_spec (s : (List Int)) (v : Int) (r : Bool) (h : slices_Contains_int s v = some r) : SpecW Try.prog 34 [.sl s.length (fl s), iS v] [] 0 (fun x h n => x = bS r ∧ h = [] ∧ n = 0) := by
  unfold slices_Contains_int at h
  refine spec_of (draw_ok _) Try.func34 rfl (by decide) rfl (by kernel_rfl) ?_
  refine seq_np ?_
  refine reg_f ?_
  refine rs 1 [] [] (by kernel_rfl) allP_nil ?_
  refine rf [(0, .sl s.length (fl s)), (1, iS v)] [] 0 (by kernel_rfl) ?_
  refine wk_id ?_
  refine seq_np ?_
  refine reg_f ?_
  refine rs 2 [] [] (by kernel_rfl) allP_nil ?_
  obtain ⟨r2126, hr2126, h⟩ := bind_sx h
  refine run_call 36 [.sl s.length (fl s), iS v] (some 7) (by kernel_rfl) ?_
  refine call_0 (slices_Index_int_spec s v r2126 hr2126) (by simp only [push_cast, seval]) (by simp only [push_cast, seval]) ?_
  refine back_f ?_
  refine rs 2 [] [] (by kernel_rfl) allP_nil ?_
  refine rf [(4, bS (decide ((0 : Int) ≤ r2126)))] [] 0 (by kernel_rfl) ?_
  refine wk_id ?_
  obtain rfl := Option.some.inj h
  refine ret_at (bS (decide ((0 : Int) ≤ r2126))) (by kernel_rfl) ?_
  exact ret_e [] [] (by simp only [push_cast, seval]) (by simp only [push_cast, seval]) rfl rfl rfl

set_option maxRecDepth 100000 in
set_option maxHeartbeats 10000000 in
theorem lock_Enter_spec (l : Lock) (task : Int) (write : Bool) (xtry : Bool) (r : Int × Bool × Bool × Fault × (List Want)) (h : lock_Enter l task write xtry = some r) : SpecW Try.prog 21 [.agg (Enc.cells l), iS task, bS write, bS xtry] [] 0 (fun x h n => x = .tup [.agg [iS r.1, bS r.2.1, .own 0 0 r.2.2.2.2.length], bS r.2.2.1, .agg (Enc.cells r.2.2.2.1)] ∧ h = [(0, .row 47 (fl r.2.2.2.2))] ∧ n = 1) := by
  unfold lock_Enter at h
  refine spec_of (draw_ok _) Try.func21 rfl (by decide) rfl (by kernel_rfl) ?_
  refine seq_np ?_
  refine reg_f ?_
  refine rs 5 [] [] (by kernel_rfl) allP_nil ?_
  refine rf [(2, bS write), (3, bS xtry), (4, .ptr 0 0), (5, .ptr 1 0), (8, .ptr 2 0), (10, .ptr 3 0)] [(0, .row 24 (Enc.cells l)), (1, .row 3 [iS task]), (2, .row 24 [iS 0, bS false, .v (.slice none 0 0)]), (3, .row 28 [iS 0, iS 0])] 4 (by kernel_rfl) ?_
  refine wk_id ?_
  refine seq_np ?_
  refine seq_np ?_
  refine reg_f ?_
  refine rs 1 [] [] (by kernel_rfl) allP_nil ?_
  obtain ⟨r2134, hr2134, h⟩ := bind_sx h
  refine run_call 20 [.agg (Enc.cells l)] (some 14) (by kernel_rfl) ?_
  refine call_0 (lock_Check_spec l r2134 hr2134) (by simp only [push_cast, seval]) (by simp only [push_cast, seval]) ?_
  refine back_f ?_
  refine rs 2 [] [] (by kernel_rfl) allP_nil ?_
  refine rf [(2, bS write), (3, bS xtry), (4, .ptr 0 0), (5, .ptr 1 0), (8, .ptr 2 0), (10, .ptr 3 0), (11, .ptr 4 0)] [(0, .row 24 (Enc.cells l)), (1, .row 3 [iS task]), (2, .row 24 [iS 0, bS false, .v (.slice none 0 0)]), (3, .row 28 [iS 0, iS 0]), (4, .row 28 (Enc.cells r2134))] 5 (by kernel_rfl) ?_
  refine wk_id ?_
  refine seq_np ?_
  refine reg_f ?_
  refine rs 3 [] [] (by kernel_rfl) allP_nil ?_
  refine rf [(2, bS write), (3, bS xtry), (4, .ptr 0 0), (5, .ptr 1 0), (8, .ptr 2 0), (10, .ptr 3 0), (11, .ptr 4 0), (17, bS (r2134.Code != 0))] [(0, .row 24 (Enc.cells l)), (1, .row 3 [iS task]), (2, .row 24 [iS 0, bS false, .v (.slice none 0 0)]), (3, .row 28 [iS 0, iS 0]), (4, .row 28 (Enc.cells r2134))] 5 (by kernel_rfl) ?_
  refine wk_id ?_
  refine cond_sx h (by kernel_rfl) (fun g2176 h => ?_) (fun g2176 h => ?_)
  · refine seq_np ?_
    refine reg_t ?_
    refine rs 5 [] [] (by kernel_rfl) allP_nil ?_
    refine rt [(8, .ptr 2 0), (9, bS false), (10, .ptr 3 0)] [(0, .row 24 (Enc.cells l)), (1, .row 3 [iS task]), (2, .row 24 [iS 0, bS false, .v (.slice none 0 0)]), (3, .row 28 (Enc.cells r2134)), (4, .row 28 (Enc.cells r2134))] 10 follows (by kernel_rfl) ?_
    refine wk_id ?_
    obtain rfl := Option.some.inj h
    refine ret_at (.tup [.agg [iS 0, bS false, .v (.slice none 0 0)], bS false, .agg (Enc.cells r2134)]) (by kernel_rfl) ?_
    exact ret_e [] [] (by simp only [push_cast, seval]) (by simp only [push_cast, seval]) rfl rfl rfl
  · refine wk_id ?_
    refine seq_np ?_
    refine seq_np ?_
    refine reg_f ?_
    refine rs 2 [] [] (by kernel_rfl) allP_nil ?_
    refine rf [(2, bS write), (3, bS xtry), (4, .ptr 0 0), (5, .ptr 1 0), (8, .ptr 2 0), (10, .ptr 3 0), (21, bS (decide (task < 1)))] [(0, .row 24 (Enc.cells l)), (1, .row 3 [iS task]), (2, .row 24 [iS 0, bS false, .v (.slice none 0 0)]), (3, .row 28 [iS 0, iS 0]), (4, .row 28 (Enc.cells r2134))] 5 (by kernel_rfl) ?_
    refine wk_id ?_
    refine cond_sx h (by kernel_rfl) (fun g2175 h => ?_) (fun g2175 h => ?_)
    · refine seq_np ?_
      refine reg_f ?_
      refine rs 1 [] [] (by kernel_rfl) allP_nil ?_
      obtain ⟨r2138, hr2138, h⟩ := bind_sx h
      refine run_call 29 [iS 3, iS (-1)] (some 23) (by kernel_rfl) ?_
      refine call_0 (lock_fault_spec 3 (-1) r2138 hr2138) (by simp only [push_cast, seval]) (by simp only [push_cast, seval]) ?_
      refine back_f ?_
      refine rs 3 [] [] (by kernel_rfl) allP_nil ?_
      refine rf [(8, .ptr 2 0), (9, bS false), (10, .ptr 3 0)] [(0, .row 24 (Enc.cells l)), (1, .row 3 [iS task]), (2, .row 24 [iS 0, bS false, .v (.slice none 0 0)]), (3, .row 28 (Enc.cells r2138)), (4, .row 28 (Enc.cells r2134))] 5 (by kernel_rfl) ?_
      refine wk_id ?_
      obtain rfl := Option.some.inj h
      refine ret_at (.tup [.agg [iS 0, bS false, .v (.slice none 0 0)], bS false, .agg (Enc.cells r2138)]) (by kernel_rfl) ?_
      exact ret_e [] [] (by simp only [push_cast, seval]) (by simp only [push_cast, seval]) rfl rfl rfl
    · refine wk_id ?_
      refine seq_np ?_
      refine seq_np ?_
      refine reg_f ?_
      refine rs 3 [] [] (by kernel_rfl) allP_nil ?_
      obtain ⟨r2143, hr2143, h⟩ := bind_sx h
      refine call_x (slices_ContainsFunc_Want_spec l.Line task r2143 hr2143) (args := [.sl l.Line.length (fl l.Line), .clo 33 [.ptr 1 0]]) (dst := (some 27)) (by kernel_rfl) [(0, .row 24 (Enc.cells l)), (1, .row 3 [iS task]), (2, .row 24 [iS 0, bS false, .v (.slice none 0 0)]), (3, .row 28 [iS 0, iS 0]), (4, .row 28 (Enc.cells r2134))] 5 (by kernel_rfl) [(0, 1)] [] (bS r2143.1) [(1, .row 3 [iS r2143.2]), (1, .dead)] (by simp only [push_cast, seval]) (by simp only [push_cast, seval]) (by kernel_rfl) (.inl rfl) (by simp only [push_cast, seval]) (by simp only [push_cast, seval]) ?_
      refine rf [(2, bS write), (3, bS xtry), (4, .ptr 0 0), (5, .ptr 1 0), (8, .ptr 2 0), (10, .ptr 3 0), (27, bS r2143.1)] [(0, .row 24 (Enc.cells l)), (1, .row 3 [iS r2143.2]), (2, .row 24 [iS 0, bS false, .v (.slice none 0 0)]), (3, .row 28 [iS 0, iS 0]), (4, .row 28 (Enc.cells r2134))] 6 (by kernel_rfl) ?_
      refine wk_id ?_
      refine cond_sx h (by kernel_rfl) (fun g2174 h => ?_) (fun g2174 h => ?_)
      · refine seq_np ?_
        refine reg_f ?_
        refine rs 1 [] [] (by kernel_rfl) allP_nil ?_
        obtain ⟨r2145, hr2145, h⟩ := bind_sx h
        refine run_call 29 [iS 10, iS (-1)] (some 29) (by kernel_rfl) ?_
        refine call_0 (lock_fault_spec 10 (-1) r2145 hr2145) (by simp only [push_cast, seval]) (by simp only [push_cast, seval]) ?_
        refine back_f ?_
        refine rs 3 [] [] (by kernel_rfl) allP_nil ?_
        refine rf [(8, .ptr 2 0), (9, bS false), (10, .ptr 3 0)] [(0, .row 24 (Enc.cells l)), (1, .row 3 [iS r2143.2]), (2, .row 24 [iS 0, bS false, .v (.slice none 0 0)]), (3, .row 28 (Enc.cells r2145)), (4, .row 28 (Enc.cells r2134))] 6 (by kernel_rfl) ?_
        refine wk_id ?_
        obtain rfl := Option.some.inj h
        refine ret_at (.tup [.agg [iS 0, bS false, .v (.slice none 0 0)], bS false, .agg (Enc.cells r2145)]) (by kernel_rfl) ?_
        exact ret_e [] [] (by simp only [push_cast, seval]) (by simp only [push_cast, seval]) rfl rfl rfl
      · refine wk_id ?_
        refine seq_np ?_
        refine seq_cut (A := Unit) (fun _ => ([(2, bS write), (3, bS xtry), (4, .ptr 0 0), (5, .ptr 1 0), (8, .ptr 2 0), (10, .ptr 3 0), (38, bS ((((l.Line.length : Nat) : Int) == 5000) || (l.Readers == 1000000000)))], [(0, .row 24 (Enc.cells l)), (1, .row 3 [iS r2143.2]), (2, .row 24 [iS 0, bS false, .v (.slice none 0 0)]), (3, .row 28 [iS 0, iS 0]), (4, .row 28 (Enc.cells r2134))], 6)) (fun _ => True) (fun K2150 hK2150 => ?_) (fun _ _ => ?_)
        · refine reg_f ?_
          refine rs 5 [] [] (by kernel_rfl) allP_nil ?_
          refine run_split 34 (((l.Line.length : Nat) : Int) == 5000) (.inl (by kernel_rfl)) (fun g2151 => ?_) (fun g2151 => ?_)
          · refine rs 4 [] [] (by kernel_rfl) allP_nil ?_
            refine rf [(2, bS write), (3, bS xtry), (4, .ptr 0 0), (5, .ptr 1 0), (8, .ptr 2 0), (10, .ptr 3 0), (38, bS true)] [(0, .row 24 (Enc.cells l)), (1, .row 3 [iS r2143.2]), (2, .row 24 [iS 0, bS false, .v (.slice none 0 0)]), (3, .row 28 [iS 0, iS 0]), (4, .row 28 (Enc.cells r2134))] 6 (by kernel_rfl) ?_
            exact hK2150 () _ _ _ trivial (leSt_m [(0, 0), (1, 1), (2, 2), (3, 3), (4, 4)] [] (by (try simp only [g2151]) <;> simp only [push_cast, seval]) (by (try simp only [g2151]) <;> simp only [push_cast, seval]) rfl rfl rfl)
          · refine rs 4 [] [] (by kernel_rfl) allP_nil ?_
            refine rf [(2, bS write), (3, bS xtry), (4, .ptr 0 0), (5, .ptr 1 0), (8, .ptr 2 0), (10, .ptr 3 0), (38, bS (l.Readers == 1000000000))] [(0, .row 24 (Enc.cells l)), (1, .row 3 [iS r2143.2]), (2, .row 24 [iS 0, bS false, .v (.slice none 0 0)]), (3, .row 28 [iS 0, iS 0]), (4, .row 28 (Enc.cells r2134))] 6 (by kernel_rfl) ?_
            exact hK2150 () _ _ _ trivial (leSt_m [(0, 0), (1, 1), (2, 2), (3, 3), (4, 4)] [] (by (try simp only [g2151]) <;> simp only [push_cast, seval]) (by (try simp only [g2151]) <;> simp only [push_cast, seval]) rfl rfl rfl)
        · dsimp only
          refine cond_sx h (by kernel_rfl) (fun g2173 h => ?_) (fun g2173 h => ?_)
          · refine seq_np ?_
            refine reg_f ?_
            refine rs 1 [] [] (by kernel_rfl) allP_nil ?_
            obtain ⟨r2153, hr2153, h⟩ := bind_sx h
            refine run_call 29 [iS 9, iS 0] (some 40) (by kernel_rfl) ?_
            refine call_0 (lock_fault_spec 9 0 r2153 hr2153) (by simp only [push_cast, seval]) (by simp only [push_cast, seval]) ?_
            refine back_f ?_
            refine rs 3 [] [] (by kernel_rfl) allP_nil ?_
            refine rf [(8, .ptr 2 0), (9, bS false), (10, .ptr 3 0)] [(0, .row 24 (Enc.cells l)), (1, .row 3 [iS r2143.2]), (2, .row 24 [iS 0, bS false, .v (.slice none 0 0)]), (3, .row 28 (Enc.cells r2153)), (4, .row 28 (Enc.cells r2134))] 6 (by kernel_rfl) ?_
            refine wk_id ?_
            obtain rfl := Option.some.inj h
            refine ret_at (.tup [.agg [iS 0, bS false, .v (.slice none 0 0)], bS false, .agg (Enc.cells r2153)]) (by kernel_rfl) ?_
            exact ret_e [] [] (by simp only [push_cast, seval]) (by simp only [push_cast, seval]) rfl rfl rfl
          · refine wk_id ?_
            refine seq_np ?_
            refine reg_f ?_
            refine rs 1 [] [] (by kernel_rfl) allP_nil ?_
            obtain ⟨r2155, hr2155, h⟩ := bind_sx h
            refine call_x (lock_copied_spec l r2155 hr2155) (args := [.agg (Enc.cells l)]) (dst := (some 42)) (by kernel_rfl) [(0, .row 24 (Enc.cells l)), (1, .row 3 [iS r2143.2]), (2, .row 24 [iS 0, bS false, .v (.slice none 0 0)]), (3, .row 28 [iS 0, iS 0]), (4, .row 28 (Enc.cells r2134))] 6 (by kernel_rfl) [] [] (.ptr 6 0) [(6, .row 24 [iS r2155.1, bS r2155.2.1, .own 7 0 r2155.2.2.length]), (7, .row 47 (fl r2155.2.2))] (by simp only [push_cast, seval]) (by simp only [push_cast, seval]) (by kernel_rfl) (.inl rfl) (by simp only [push_cast, seval]) (by simp only [push_cast, seval]) ?_
            refine rs 1 [] [] (by kernel_rfl) allP_nil ?_
            refine rf [(2, bS write), (3, bS xtry), (4, .ptr 0 0), (5, .ptr 1 0), (8, .ptr 2 0), (10, .ptr 3 0), (12, .ptr 6 0)] [(0, .row 24 (Enc.cells l)), (1, .row 3 [iS r2143.2]), (2, .row 24 [iS 0, bS false, .v (.slice none 0 0)]), (3, .row 28 [iS 0, iS 0]), (4, .row 28 (Enc.cells r2134)), (6, .row 24 [iS r2155.1, bS r2155.2.1, .own 7 0 r2155.2.2.length]), (7, .row 47 (fl r2155.2.2))] 8 (by kernel_rfl) ?_
            refine wk_id ?_
            refine chk_sx h (fun g2159 h => ?_)
            refine seq_np ?_
            refine reg_t ?_
            have k2158 : (r2155.2.2 ++ ([(Want.mk r2143.2 write 0)] : List Want)).length * 24 ≤ 140737488355328 := by first | simpa only [Bool.and_eq_true, decide_eq_true_eq, bne_iff_ne, ne_eq] using g2159 | (simp at g2159 ⊢; omega)
            refine rs 13 [none, none, none, none, none, none, none, none, none, some ⟨.own 18 0 (r2155.2.2 ++ ([(Want.mk r2143.2 write 0)] : List Want)).length, [(18, .row 47 (fl (r2155.2.2 ++ ([(Want.mk r2143.2 write 0)] : List Want)))), (7, .dead)], 19, [7, 16]⟩] _ (by kernel_rfl) (allP_cons (ob_app (P := Try.prog) r2155.2.2 ([(Want.mk r2143.2 write 0)] : List Want) 3 24 rfl (appCells (fl ([(Want.mk r2143.2 write 0)] : List Want)) 0 (([(Want.mk r2143.2 write 0)] : List Want).length * 3)) ([(Want.mk r2143.2 write 0)] : List Want).length (app_own ([(Want.mk r2143.2 write 0)] : List Want) 3 rfl) rfl (0 + ([(Want.mk r2143.2 write 0)] : List Want).length * 3 ≤ (fl ([(Want.mk r2143.2 write 0)] : List Want)).length) (app_own_le ([(Want.mk r2143.2 write 0)] : List Want) 3 rfl) 47 (by kernel_rfl) (by decide) k2158 7 18 [16]) allP_nil) ?_
            refine rt [(3, bS xtry), (4, .ptr 0 0), (5, .ptr 1 0), (8, .ptr 2 0), (10, .ptr 3 0), (12, .ptr 6 0)] [(0, .row 24 (Enc.cells l)), (1, .row 3 [iS r2143.2]), (2, .row 24 [iS 0, bS false, .v (.slice none 0 0)]), (3, .row 28 [iS 0, iS 0]), (4, .row 28 (Enc.cells r2134)), (6, .row 24 [iS r2155.1, bS r2155.2.1, .own 18 0 (r2155.2.2 ++ ([(Want.mk r2143.2 write 0)] : List Want)).length]), (7, .dead), (16, .row 47 (fl ([(Want.mk r2143.2 write 0)] : List Want))), (18, .row 47 (fl (r2155.2.2 ++ ([(Want.mk r2143.2 write 0)] : List Want))))] 23 follows (by kernel_rfl) ?_
            refine wk_id ?_
            refine seq_np ?_
            refine seq_np ?_
            refine reg_t ?_
            refine rs 1 [] [] (by kernel_rfl) allP_nil ?_
            obtain ⟨r2165, hr2165, h⟩ := bind_sx h
            refine call_x (lock_admit_spec r2155.1 r2155.2.1 (r2155.2.2 ++ ([(Want.mk r2143.2 write 0)] : List Want)) r2165 hr2165) (args := [.ptr 6 0]) (dst := (some 56)) (by kernel_rfl) [(0, .row 24 (Enc.cells l)), (1, .row 3 [iS r2143.2]), (2, .row 24 [iS 0, bS false, .v (.slice none 0 0)]), (3, .row 28 [iS 0, iS 0]), (4, .row 28 (Enc.cells r2134)), (6, .row 24 [iS r2155.1, bS r2155.2.1, .own 18 0 (r2155.2.2 ++ ([(Want.mk r2143.2 write 0)] : List Want)).length]), (7, .dead), (16, .row 47 (fl ([(Want.mk r2143.2 write 0)] : List Want))), (18, .row 47 (fl (r2155.2.2 ++ ([(Want.mk r2143.2 write 0)] : List Want))))] 24 (by kernel_rfl) [(0, 6), (1, 18)] [] (.own 26 0 r2165.1.length) [(6, .row 24 [iS r2165.2.1, bS r2165.2.2.1, .own 27 0 r2165.2.2.2.length]), (18, .dead), (26, .row 3 (fl r2165.1)), (27, .row 47 (fl r2165.2.2.2)), (6, .dead), (18, .dead)] (by simp only [push_cast, seval]) (by simp only [push_cast, seval]) (by kernel_rfl) (.inl rfl) (by simp only [push_cast, seval]) (by simp only [push_cast, seval]) ?_
            refine rs 1 [] [] (by kernel_rfl) allP_nil ?_
            obtain ⟨r2166, hr2166, h⟩ := bind_sx h
            refine call_x (slices_Contains_int_spec r2165.1 r2143.2 r2166 hr2166) (args := [.own 26 0 r2165.1.length, iS r2143.2]) (dst := (some 58)) (by kernel_rfl) [(0, .row 24 (Enc.cells l)), (1, .row 3 [iS r2143.2]), (2, .row 24 [iS 0, bS false, .v (.slice none 0 0)]), (3, .row 28 [iS 0, iS 0]), (4, .row 28 (Enc.cells r2134)), (6, .row 24 [iS r2165.2.1, bS r2165.2.2.1, .own 27 0 r2165.2.2.2.length]), (7, .dead), (16, .row 47 (fl ([(Want.mk r2143.2 write 0)] : List Want))), (18, .dead), (26, .row 3 (fl r2165.1)), (27, .row 47 (fl r2165.2.2.2))] 30 (by kernel_rfl) [] [26] (bS r2166) [] (by simp only [push_cast, seval]) (by simp only [push_cast, seval]) (by kernel_rfl) (.inr ⟨by simp only [push_cast, seval], by simp only [push_cast, seval]⟩) (by simp only [push_cast, seval]) (by simp only [push_cast, seval]) ?_
            refine rt [(3, bS xtry), (4, .ptr 0 0), (8, .ptr 2 0), (10, .ptr 3 0), (12, .ptr 6 0), (58, bS r2166)] [(0, .row 24 (Enc.cells l)), (1, .row 3 [iS r2143.2]), (2, .row 24 [iS 0, bS false, .v (.slice none 0 0)]), (3, .row 28 [iS 0, iS 0]), (4, .row 28 (Enc.cells r2134)), (6, .row 24 [iS r2165.2.1, bS r2165.2.2.1, .own 27 0 r2165.2.2.2.length]), (7, .dead), (16, .row 47 (fl ([(Want.mk r2143.2 write 0)] : List Want))), (18, .dead), (26, .row 3 (fl r2165.1)), (27, .row 47 (fl r2165.2.2.2))] 31 follows (by kernel_rfl) ?_
            refine wk_id ?_
            refine cond_sx h (by kernel_rfl) (fun g2172 h => ?_) (fun g2172 h => ?_)
            · refine seq_np ?_
              refine reg_f ?_
              refine rs 7 [] [] (by kernel_rfl) allP_nil ?_
              refine rf [(8, .ptr 2 0), (9, bS true), (10, .ptr 3 0)] [(0, .row 24 (Enc.cells l)), (1, .row 3 [iS r2143.2]), (2, .row 24 [iS r2165.2.1, bS r2165.2.2.1, .own 27 0 r2165.2.2.2.length]), (3, .row 28 [iS 0, iS 0]), (4, .row 28 (Enc.cells r2134)), (6, .row 24 [iS r2165.2.1, bS r2165.2.2.1, .own 27 0 r2165.2.2.2.length]), (7, .dead), (16, .row 47 (fl ([(Want.mk r2143.2 write 0)] : List Want))), (18, .dead), (26, .row 3 (fl r2165.1)), (27, .row 47 (fl r2165.2.2.2))] 31 (by kernel_rfl) ?_
              refine wk_id ?_
              obtain rfl := Option.some.inj h
              refine ret_at (.tup [.agg [iS r2165.2.1, bS r2165.2.2.1, .own 27 0 r2165.2.2.2.length], bS true, .agg [iS 0, iS 0]]) (by kernel_rfl) ?_
              exact ret_e [(0, 27)] [] (by simp only [push_cast, seval]) (by simp only [push_cast, seval]) rfl rfl rfl
            · refine wk_id ?_
              refine seq_np ?_
              refine seq_np ?_
              refine reg_f ?_
              refine rs 1 [] [] (by kernel_rfl) allP_nil ?_
              refine rf [(4, .ptr 0 0), (8, .ptr 2 0), (10, .ptr 3 0), (12, .ptr 6 0), (63, bS xtry)] [(0, .row 24 (Enc.cells l)), (1, .row 3 [iS r2143.2]), (2, .row 24 [iS 0, bS false, .v (.slice none 0 0)]), (3, .row 28 [iS 0, iS 0]), (4, .row 28 (Enc.cells r2134)), (6, .row 24 [iS r2165.2.1, bS r2165.2.2.1, .own 27 0 r2165.2.2.2.length]), (7, .dead), (16, .row 47 (fl ([(Want.mk r2143.2 write 0)] : List Want))), (18, .dead), (26, .row 3 (fl r2165.1)), (27, .row 47 (fl r2165.2.2.2))] 31 (by kernel_rfl) ?_
              refine wk_id ?_
              refine cond_sx h (by kernel_rfl) (fun g2171 h => ?_) (fun g2171 h => ?_)
              · refine seq_np ?_
                refine reg_f ?_
                refine rs 1 [] [] (by kernel_rfl) allP_nil ?_
                obtain ⟨r2170, hr2170, h⟩ := bind_sx h
                refine call_x (lock_copied_spec l r2170 hr2170) (args := [.agg (Enc.cells l)]) (dst := (some 65)) (by kernel_rfl) [(0, .row 24 (Enc.cells l)), (1, .row 3 [iS r2143.2]), (2, .row 24 [iS 0, bS false, .v (.slice none 0 0)]), (3, .row 28 [iS 0, iS 0]), (4, .row 28 (Enc.cells r2134)), (6, .row 24 [iS r2165.2.1, bS r2165.2.2.1, .own 27 0 r2165.2.2.2.length]), (7, .dead), (16, .row 47 (fl ([(Want.mk r2143.2 write 0)] : List Want))), (18, .dead), (26, .row 3 (fl r2165.1)), (27, .row 47 (fl r2165.2.2.2))] 31 (by kernel_rfl) [] [] (.ptr 31 0) [(31, .row 24 [iS r2170.1, bS r2170.2.1, .own 32 0 r2170.2.2.length]), (32, .row 47 (fl r2170.2.2))] (by simp only [push_cast, seval]) (by simp only [push_cast, seval]) (by kernel_rfl) (.inl rfl) (by simp only [push_cast, seval]) (by simp only [push_cast, seval]) ?_
                refine rs 6 [] [] (by kernel_rfl) allP_nil ?_
                refine rf [(8, .ptr 2 0), (9, bS false), (10, .ptr 3 0)] [(0, .row 24 (Enc.cells l)), (1, .row 3 [iS r2143.2]), (2, .row 24 [iS r2170.1, bS r2170.2.1, .own 32 0 r2170.2.2.length]), (3, .row 28 [iS 0, iS 0]), (4, .row 28 (Enc.cells r2134)), (6, .row 24 [iS r2165.2.1, bS r2165.2.2.1, .own 27 0 r2165.2.2.2.length]), (7, .dead), (16, .row 47 (fl ([(Want.mk r2143.2 write 0)] : List Want))), (18, .dead), (26, .row 3 (fl r2165.1)), (27, .row 47 (fl r2165.2.2.2)), (31, .row 24 [iS r2170.1, bS r2170.2.1, .own 32 0 r2170.2.2.length]), (32, .row 47 (fl r2170.2.2))] 33 (by kernel_rfl) ?_
                refine wk_id ?_
                obtain rfl := Option.some.inj h
                refine ret_at (.tup [.agg [iS r2170.1, bS r2170.2.1, .own 32 0 r2170.2.2.length], bS false, .agg [iS 0, iS 0]]) (by kernel_rfl) ?_
                exact ret_e [(0, 32)] [] (by simp only [push_cast, seval]) (by simp only [push_cast, seval]) rfl rfl rfl
              · refine wk_id ?_
                refine seq_np ?_
                refine reg_f ?_
                refine rs 7 [] [] (by kernel_rfl) allP_nil ?_
                refine rf [(8, .ptr 2 0), (9, bS false), (10, .ptr 3 0)] [(0, .row 24 (Enc.cells l)), (1, .row 3 [iS r2143.2]), (2, .row 24 [iS r2165.2.1, bS r2165.2.2.1, .own 27 0 r2165.2.2.2.length]), (3, .row 28 [iS 0, iS 0]), (4, .row 28 (Enc.cells r2134)), (6, .row 24 [iS r2165.2.1, bS r2165.2.2.1, .own 27 0 r2165.2.2.2.length]), (7, .dead), (16, .row 47 (fl ([(Want.mk r2143.2 write 0)] : List Want))), (18, .dead), (26, .row 3 (fl r2165.1)), (27, .row 47 (fl r2165.2.2.2))] 31 (by kernel_rfl) ?_
                refine wk_id ?_
                obtain rfl := Option.some.inj h
                refine ret_at (.tup [.agg [iS r2165.2.1, bS r2165.2.2.1, .own 27 0 r2165.2.2.2.length], bS false, .agg [iS 0, iS 0]]) (by kernel_rfl) ?_
                exact ret_e [(0, 27)] [] (by simp only [push_cast, seval]) (by simp only [push_cast, seval]) rfl rfl rfl

set_option maxRecDepth 100000 in
set_option maxHeartbeats 10000000 in
theorem taskmillref_Has_spec (l : (List Int)) (n : Int) (r : Bool) (h : taskmillref_Has l n = some r) : SpecW Try.prog 22 [.sl l.length (fl l), iS n] [] 0 (fun x h n => x = bS r ∧ h = [] ∧ n = 0) := by
  unfold taskmillref_Has at h
  refine spec_of (draw_ok _) Try.func22 rfl (by decide) rfl (by kernel_rfl) ?_
  refine seq_np ?_
  refine reg_f ?_
  refine rs 1 [] [] (by kernel_rfl) allP_nil ?_
  refine rf [(0, .sl l.length (fl l)), (1, iS n)] [] 0 (by kernel_rfl) ?_
  refine wk_id ?_
  refine seq_np ?_
  refine seq_np ?_
  refine reg_f ?_
  refine rs 1 [] [] (by kernel_rfl) allP_nil ?_
  refine rf [(0, .sl l.length (fl l)), (1, iS n), (5, iS 0)] [] 0 (by kernel_rfl) ?_
  refine wk_id ?_
  refine block_np ?_
  refine loop_sx (S := Int) (fun a => ([(0, .sl l.length (fl l)), (1, iS n), (5, iS a)], [], 0)) h (leSt_m [] [] (by simp only [push_cast, seval]) (by simp only [push_cast, seval]) rfl rfl rfl) ?_
  rintro i7 o2 R2 h hr2 hn2 hx2 ht2
  try dsimp only at h hn2 ⊢
  unfold taskmillref_Has_l1 at h
  try dsimp only at h
  refine seq_np ?_
  refine seq_np ?_
  refine reg_f ?_
  refine rs 4 [] [] (by kernel_rfl) allP_nil ?_
  refine rf [(0, .sl l.length (fl l)), (1, iS n), (5, iS i7), (9, bS (decide (i7 < ((l.length : Nat) : Int))))] [] 0 (by kernel_rfl) ?_
  refine wk_id ?_
  refine cond_sx h (by kernel_rfl) (fun g2273 h => ?_) (fun g2273 h => ?_)
  · refine wk_id ?_
    refine seq_np ?_
    refine block_np ?_
    refine chk_sx h (fun g2271 h => ?_)
    refine seq_np ?_
    refine reg_f ?_
    have k2270 : 0 ≤ i7 ∧ i7 < ((l.length : Nat) : Int) := by first | simpa only [Bool.and_eq_true, decide_eq_true_eq, bne_iff_ne, ne_eq] using g2271 | (simp at g2271 ⊢; omega)
    refine rs 6 [none, none, some ⟨.iptr (fl l) ((i7).toNat * 1), [], 0, []⟩, some ⟨iS (ix l i7), [], 0, []⟩] _ (by kernel_rfl) (allP_cons (ob_ld l i7 1 0 ((i7).toNat * 1) k2270 rfl (by decide) (by first | rfl | omega) (dflS Try.prog 3) (iS (ix l i7)) rfl 0 []) (allP_cons (ob_ix_l l 1 0 i7 k2270) allP_nil)) ?_
    refine rf [(0, .sl l.length (fl l)), (1, iS n), (5, iS i7), (17, bS ((ix l i7) == n))] [] 0 (by kernel_rfl) ?_
    refine wk_id ?_
    refine cond_sx h (by kernel_rfl) (fun g2272 h => ?_) (fun g2272 h => ?_)
    · refine seq_np ?_
      refine reg_f ?_
      refine rs 1 [] [] (by kernel_rfl) allP_nil ?_
      refine rf [(4, bS true)] [] 0 (by kernel_rfl) ?_
      refine wk_id ?_
      refine rt_cast ht2 ?_
      obtain ⟨r0, h, e0⟩ := map_sx h
      have e1 := hr2 r0 e0.symm
      subst r0
      obtain rfl := Option.some.inj h
      refine ret_at (bS true) (by kernel_rfl) ?_
      exact ret_e [] [] (by simp only [push_cast, seval]) (by simp only [push_cast, seval]) rfl rfl rfl
    · refine wk_id ?_
      refine wk_id ?_
      refine reg_f ?_
      refine rs 3 [] [] (by kernel_rfl) allP_nil ?_
      refine rf [(0, .sl l.length (fl l)), (1, iS n), (5, iS (IntKind.i64.wrap (i7 + 1)))] [] 0 (by kernel_rfl) ?_
      exact hn2 ((IntKind.i64.wrap (i7 + 1))) _ _ _ (Option.some.inj h).symm (leSt_m [] [] (by simp only [push_cast, seval]) (by simp only [push_cast, seval]) rfl rfl rfl)
  · change R2 (.exit 0) _ _ _
    refine ex_cast hx2 (id := 0) ?_
    obtain ⟨r0, h, e0⟩ := map_sx h
    have e1 := hr2 r0 e0.symm
    subst r0
    refine wk_id ?_
    refine wk_id ?_
    refine seq_np ?_
    refine reg_f ?_
    refine rs 1 [] [] (by kernel_rfl) allP_nil ?_
    refine rf [(4, bS false)] [] 0 (by kernel_rfl) ?_
    refine wk_id ?_
    obtain rfl := Option.some.inj h
    refine ret_at (bS false) (by kernel_rfl) ?_
    exact ret_e [] [] (by simp only [push_cast, seval]) (by simp only [push_cast, seval]) rfl rfl rfl

set_option maxRecDepth 100000 in
set_option maxHeartbeats 10000000 in
theorem taskmilllaw_LockEnters_spec (l : Lock) (task : Int) (write : Bool) (xtry : Bool) (r : Bool) (h : taskmilllaw_LockEnters l task write xtry = some r) : SpecW Try.prog 4 [.agg (Enc.cells l), iS task, bS write, bS xtry] [] 0 (fun x h n => x = bS r ∧ h = [] ∧ n = 0) := by
  unfold taskmilllaw_LockEnters at h
  refine spec_of (draw_ok _) Try.func4 rfl (by decide) rfl (by kernel_rfl) ?_
  refine seq_np ?_
  refine reg_f ?_
  refine rs 2 [] [] (by kernel_rfl) allP_nil ?_
  refine rf [(1, iS task), (2, bS write), (3, bS xtry), (4, .ptr 0 0)] [(0, .row 24 (Enc.cells l))] 1 (by kernel_rfl) ?_
  refine wk_id ?_
  refine seq_np ?_
  refine seq_np ?_
  refine reg_f ?_
  obtain ⟨r2284, hr2284, h⟩ := bind_sx h
  refine run_call 8 [] (some 17) (by kernel_rfl) ?_
  refine call_0 (taskmilllaw_lockBegun_spec r2284 hr2284) (by simp only [push_cast, seval]) (by simp only [push_cast, seval]) ?_
  refine back_f ?_
  refine rs 1 [] [] (by kernel_rfl) allP_nil ?_
  refine rf [(1, iS task), (2, bS write), (3, bS xtry), (4, .ptr 0 0), (18, bS (!r2284))] [(0, .row 24 (Enc.cells l))] 1 (by kernel_rfl) ?_
  refine wk_id ?_
  refine cond_sx h (by kernel_rfl) (fun g2393 h => ?_) (fun g2393 h => ?_)
  · refine seq_np ?_
    refine reg_f ?_
    refine rs 1 [] [] (by kernel_rfl) allP_nil ?_
    refine rf [(8, bS false)] [(0, .row 24 (Enc.cells l))] 1 (by kernel_rfl) ?_
    refine wk_id ?_
    obtain rfl := Option.some.inj h
    refine ret_at (bS false) (by kernel_rfl) ?_
    exact ret_e [] [] (by simp only [push_cast, seval]) (by simp only [push_cast, seval]) rfl rfl rfl
  · refine wk_id ?_
    refine seq_np ?_
    refine seq_cut (A := Unit) (fun _ => ([(1, iS task), (2, bS write), (3, bS xtry), (4, .ptr 0 0), (34, bS (bif (decide ((700 : Int) < ((l.Line.length : Nat) : Int))) then ((decide (((l.Line.length : Nat) : Int) < 4999)) || (decide ((6000 : Int) < ((l.Line.length : Nat) : Int)))) else (decide ((6000 : Int) < ((l.Line.length : Nat) : Int)))))], [(0, .row 24 (Enc.cells l))], 1)) (fun _ => True) (fun K2290 hK2290 => ?_) (fun _ _ => ?_)
    · refine reg_f ?_
      refine rs 5 [] [] (by kernel_rfl) allP_nil ?_
      refine run_split 23 (decide ((700 : Int) < ((l.Line.length : Nat) : Int))) (.inl (by kernel_rfl)) (fun g2291 => ?_) (fun g2291 => ?_)
      · refine rs 6 [] [] (by kernel_rfl) allP_nil ?_
        refine run_split 29 (decide (((l.Line.length : Nat) : Int) < 4999)) (.inl (by kernel_rfl)) (fun g2292 => ?_) (fun g2292 => ?_)
        · refine rs 5 [] [] (by kernel_rfl) allP_nil ?_
          refine rf [(1, iS task), (2, bS write), (3, bS xtry), (4, .ptr 0 0), (34, bS true)] [(0, .row 24 (Enc.cells l))] 1 (by kernel_rfl) ?_
          exact hK2290 () _ _ _ trivial (leSt_m [(0, 0)] [] (by first | ((try simp only [g2291, g2292]) <;> simp only [push_cast, seval]; done) | ((try simp only [g2291]); (try simp only [g2292]); simp only [push_cast, seval]; done) | (exfalso; clear h; simp_all; done)) (by first | ((try simp only [g2291, g2292]) <;> simp only [push_cast, seval]; done) | ((try simp only [g2291]); (try simp only [g2292]); simp only [push_cast, seval]; done) | (exfalso; clear h; simp_all; done)) rfl rfl rfl)
        · refine rs 5 [] [] (by kernel_rfl) allP_nil ?_
          refine rf [(1, iS task), (2, bS write), (3, bS xtry), (4, .ptr 0 0), (34, bS (decide ((6000 : Int) < ((l.Line.length : Nat) : Int))))] [(0, .row 24 (Enc.cells l))] 1 (by kernel_rfl) ?_
          exact hK2290 () _ _ _ trivial (leSt_m [(0, 0)] [] (by first | ((try simp only [g2291, g2292]) <;> simp only [push_cast, seval]; done) | ((try simp only [g2291]); (try simp only [g2292]); simp only [push_cast, seval]; done) | (exfalso; clear h; simp_all; done)) (by first | ((try simp only [g2291, g2292]) <;> simp only [push_cast, seval]; done) | ((try simp only [g2291]); (try simp only [g2292]); simp only [push_cast, seval]; done) | (exfalso; clear h; simp_all; done)) rfl rfl rfl)
      · refine rs 11 [] [] (by kernel_rfl) allP_nil ?_
        refine rf [(1, iS task), (2, bS write), (3, bS xtry), (4, .ptr 0 0), (34, bS (decide ((6000 : Int) < ((l.Line.length : Nat) : Int))))] [(0, .row 24 (Enc.cells l))] 1 (by kernel_rfl) ?_
        exact hK2290 () _ _ _ trivial (leSt_m [(0, 0)] [] (by (try simp only [g2291]) <;> simp only [push_cast, seval]) (by (try simp only [g2291]) <;> simp only [push_cast, seval]) rfl rfl rfl)
    · dsimp only
      refine cond_sx h (by kernel_rfl) (fun g2392 h => ?_) (fun g2392 h => ?_)
      · refine seq_np ?_
        refine reg_f ?_
        refine rs 1 [] [] (by kernel_rfl) allP_nil ?_
        refine rf [(8, bS true)] [(0, .row 24 (Enc.cells l))] 1 (by kernel_rfl) ?_
        refine wk_id ?_
        obtain rfl := Option.some.inj h
        refine ret_at (bS true) (by kernel_rfl) ?_
        exact ret_e [] [] (by simp only [push_cast, seval]) (by simp only [push_cast, seval]) rfl rfl rfl
      · refine wk_id ?_
        refine seq_np ?_
        refine reg_f ?_
        refine rs 1 [] [] (by kernel_rfl) allP_nil ?_
        obtain ⟨r2294, hr2294, h⟩ := bind_sx h
        refine call_x (taskmilllaw_ownLock_spec l r2294 hr2294) (args := [.agg (Enc.cells l)]) (dst := (some 36)) (by kernel_rfl) [(0, .row 24 (Enc.cells l))] 1 (by kernel_rfl) [] [] (.agg [iS r2294.1, bS r2294.2.1, .own 1 0 r2294.2.2.length]) [(1, .row 47 (fl r2294.2.2))] (by simp only [push_cast, seval]) (by simp only [push_cast, seval]) (by kernel_rfl) (.inl rfl) (by simp only [push_cast, seval]) (by simp only [push_cast, seval]) ?_
        refine rs 2 [] [] (by kernel_rfl) allP_nil ?_
        refine rf [(1, iS task), (2, bS write), (3, bS xtry), (4, .ptr 0 0), (9, .ptr 2 0)] [(0, .row 24 (Enc.cells l)), (1, .row 47 (fl r2294.2.2)), (2, .row 24 [iS r2294.1, bS r2294.2.1, .own 1 0 r2294.2.2.length])] 3 (by kernel_rfl) ?_
        refine wk_id ?_
        refine seq_np ?_
        refine reg_f ?_
        refine rs 1 [] [] (by kernel_rfl) allP_nil ?_
        obtain ⟨r2296, hr2296, h⟩ := bind_sx h
        refine call_x (lock_Check_spec (Lock.mk r2294.1 r2294.2.1 r2294.2.2) r2296 hr2296) (args := [.agg [iS r2294.1, bS r2294.2.1, .own 1 0 r2294.2.2.length]]) (dst := (some 38)) (by kernel_rfl) [(0, .row 24 (Enc.cells l)), (1, .row 47 (fl r2294.2.2)), (2, .row 24 [iS r2294.1, bS r2294.2.1, .own 1 0 r2294.2.2.length])] 3 (by kernel_rfl) [] [1] (.agg (Enc.cells r2296)) [] (by simp only [push_cast, seval]) (by simp only [push_cast, seval]) (by kernel_rfl) (.inr ⟨by simp only [push_cast, seval], by simp only [push_cast, seval]⟩) (by simp only [push_cast, seval]) (by simp only [push_cast, seval]) ?_
        refine rs 2 [] [] (by kernel_rfl) allP_nil ?_
        refine rf [(1, iS task), (2, bS write), (3, bS xtry), (4, .ptr 0 0), (9, .ptr 2 0), (10, .ptr 3 0)] [(0, .row 24 (Enc.cells l)), (1, .row 47 (fl r2294.2.2)), (2, .row 24 [iS r2294.1, bS r2294.2.1, .own 1 0 r2294.2.2.length]), (3, .row 28 (Enc.cells r2296))] 4 (by kernel_rfl) ?_
        refine wk_id ?_
        refine seq_np ?_
        refine reg_f ?_
        refine rs 4 [] [] (by kernel_rfl) allP_nil ?_
        obtain ⟨r2298, hr2298, h⟩ := bind_sx h
        refine call_x (lock_Enter_spec (Lock.mk r2294.1 r2294.2.1 r2294.2.2) task write xtry r2298 hr2298) (args := [.agg [iS r2294.1, bS r2294.2.1, .own 1 0 r2294.2.2.length], iS task, bS write, bS xtry]) (dst := (some 44)) (by kernel_rfl) [(0, .row 24 (Enc.cells l)), (1, .row 47 (fl r2294.2.2)), (2, .row 24 [iS r2294.1, bS r2294.2.1, .own 1 0 r2294.2.2.length]), (3, .row 28 (Enc.cells r2296))] 4 (by kernel_rfl) [] [1] (.tup [.agg [iS r2298.1, bS r2298.2.1, .own 4 0 r2298.2.2.2.2.length], bS r2298.2.2.1, .agg (Enc.cells r2298.2.2.2.1)]) [(4, .row 47 (fl r2298.2.2.2.2))] (by simp only [push_cast, seval]) (by simp only [push_cast, seval]) (by kernel_rfl) (.inr ⟨by simp only [push_cast, seval], by simp only [push_cast, seval]⟩) (by simp only [push_cast, seval]) (by simp only [push_cast, seval]) ?_
        refine rs 9 [] [] (by kernel_rfl) allP_nil ?_
        refine rf [(1, iS task), (2, bS write), (3, bS xtry), (4, .ptr 0 0), (9, .ptr 2 0), (10, .ptr 3 0), (11, .ptr 5 0), (12, bS r2298.2.2.1), (13, .ptr 6 0)] [(0, .row 24 (Enc.cells l)), (1, .row 47 (fl r2294.2.2)), (2, .row 24 [iS r2294.1, bS r2294.2.1, .own 1 0 r2294.2.2.length]), (3, .row 28 (Enc.cells r2296)), (4, .row 47 (fl r2298.2.2.2.2)), (5, .row 24 [iS r2298.1, bS r2298.2.1, .own 4 0 r2298.2.2.2.2.length]), (6, .row 28 (Enc.cells r2298.2.2.2.1))] 7 (by kernel_rfl) ?_
        refine wk_id ?_
        refine seq_np ?_
        refine reg_f ?_
        refine rs 1 [] [] (by kernel_rfl) allP_nil ?_
        obtain ⟨r2300, hr2300, h⟩ := bind_sx h
        refine run_call 12 [.agg (Enc.cells l)] (some 49) (by kernel_rfl) ?_
        refine call_0 (taskmillref_LockFault_spec l r2300 hr2300) (by simp only [push_cast, seval]) (by simp only [push_cast, seval]) ?_
        refine back_f ?_
        refine rs 2 [] [] (by kernel_rfl) allP_nil ?_
        refine rf [(1, iS task), (2, bS write), (3, bS xtry), (4, .ptr 0 0), (9, .ptr 2 0), (10, .ptr 3 0), (11, .ptr 5 0), (12, bS r2298.2.2.1), (13, .ptr 6 0), (14, .ptr 7 0)] [(0, .row 24 (Enc.cells l)), (1, .row 47 (fl r2294.2.2)), (2, .row 24 [iS r2294.1, bS r2294.2.1, .own 1 0 r2294.2.2.length]), (3, .row 28 (Enc.cells r2296)), (4, .row 47 (fl r2298.2.2.2.2)), (5, .row 24 [iS r2298.1, bS r2298.2.1, .own 4 0 r2298.2.2.2.2.length]), (6, .row 28 (Enc.cells r2298.2.2.2.1)), (7, .row 28 (Enc.cells r2300))] 8 (by kernel_rfl) ?_
        refine wk_id ?_
        refine seq_np ?_
        refine seq_cut (A := Bool × Bool × Int × Bool × Fault × Fault × (List Want)) (fun a => ([(1, iS task), (2, bS write), (3, bS xtry), (4, .ptr 0 0), (11, .ptr 1 0), (12, bS a.1), (13, .ptr 2 0), (14, .ptr 3 0), (58, bS a.2.1)], [(0, .row 24 (Enc.cells l)), (1, .row 24 [iS a.2.2.1, bS a.2.2.2.1, .own 4 0 a.2.2.2.2.2.2.length]), (2, .row 28 (Enc.cells a.2.2.2.2.1)), (3, .row 28 (Enc.cells a.2.2.2.2.2.1)), (4, .row 47 (fl a.2.2.2.2.2.2))], 5)) (fun a => (taskmilllaw_LockEnters_j7 l task write xtry a.1 a.2.1 a.2.2.1 a.2.2.2.1 a.2.2.2.2.1 a.2.2.2.2.2.1 a.2.2.2.2.2.2) = some r) (fun K2309 hK2309 => ?_) ?_
        · refine reg_f ?_
          refine rs 4 [] [] (by kernel_rfl) allP_nil ?_
          refine run_br h 53 (.inl (by kernel_rfl)) (fun g2310 h => ?_) (fun g2310 h => ?_)
          · refine rs 5 [] [] (by kernel_rfl) allP_nil ?_
            refine rf [(1, iS task), (2, bS write), (3, bS xtry), (4, .ptr 0 0), (11, .ptr 5 0), (12, bS r2298.2.2.1), (13, .ptr 6 0), (14, .ptr 7 0), (58, bS true)] [(0, .row 24 (Enc.cells l)), (1, .row 47 (fl r2294.2.2)), (2, .row 24 [iS r2294.1, bS r2294.2.1, .own 1 0 r2294.2.2.length]), (3, .row 28 (Enc.cells r2296)), (4, .row 47 (fl r2298.2.2.2.2)), (5, .row 24 [iS r2298.1, bS r2298.2.1, .own 4 0 r2298.2.2.2.2.length]), (6, .row 28 (Enc.cells r2298.2.2.2.1)), (7, .row 28 (Enc.cells r2300))] 8 (by kernel_rfl) ?_
            exact hK2309 (r2298.2.2.1, true, r2298.1, r2298.2.1, r2298.2.2.2.1, r2300, r2298.2.2.2.2) _ _ _ h (leSt_m [(0, 0), (1, 5), (2, 6), (3, 7), (4, 4)] [] (by (try simp only [g2310]) <;> simp only [push_cast, seval]) (by (try simp only [g2310]) <;> simp only [push_cast, seval]) rfl rfl rfl)
          · refine rs 2 [] [] (by kernel_rfl) allP_nil ?_
            obtain ⟨r2311, hr2311, h⟩ := bind_sx h
            refine call_x (taskmillref_SameLock_spec (Lock.mk r2294.1 r2294.2.1 r2294.2.2) l r2311 hr2311) (args := [.agg [iS r2294.1, bS r2294.2.1, .own 1 0 r2294.2.2.length], .agg (Enc.cells l)]) (dst := (some 56)) (by kernel_rfl) [(0, .row 24 (Enc.cells l)), (1, .row 47 (fl r2294.2.2)), (2, .row 24 [iS r2294.1, bS r2294.2.1, .own 1 0 r2294.2.2.length]), (3, .row 28 (Enc.cells r2296)), (4, .row 47 (fl r2298.2.2.2.2)), (5, .row 24 [iS r2298.1, bS r2298.2.1, .own 4 0 r2298.2.2.2.2.length]), (6, .row 28 (Enc.cells r2298.2.2.2.1)), (7, .row 28 (Enc.cells r2300))] 8 (by kernel_rfl) [] [1] (bS r2311) [] (by simp only [push_cast, seval]) (by simp only [push_cast, seval]) (by kernel_rfl) (.inr ⟨by simp only [push_cast, seval], by simp only [push_cast, seval]⟩) (by simp only [push_cast, seval]) (by simp only [push_cast, seval]) ?_
            refine rs 2 [] [] (by kernel_rfl) allP_nil ?_
            refine rf [(1, iS task), (2, bS write), (3, bS xtry), (4, .ptr 0 0), (11, .ptr 5 0), (12, bS r2298.2.2.1), (13, .ptr 6 0), (14, .ptr 7 0), (58, bS (!r2311))] [(0, .row 24 (Enc.cells l)), (1, .row 47 (fl r2294.2.2)), (2, .row 24 [iS r2294.1, bS r2294.2.1, .own 1 0 r2294.2.2.length]), (3, .row 28 (Enc.cells r2296)), (4, .row 47 (fl r2298.2.2.2.2)), (5, .row 24 [iS r2298.1, bS r2298.2.1, .own 4 0 r2298.2.2.2.2.length]), (6, .row 28 (Enc.cells r2298.2.2.2.1)), (7, .row 28 (Enc.cells r2300))] 8 (by kernel_rfl) ?_
            exact hK2309 (r2298.2.2.1, (!r2311), r2298.1, r2298.2.1, r2298.2.2.2.1, r2300, r2298.2.2.2.2) _ _ _ h (leSt_m [(0, 0), (1, 5), (2, 6), (3, 7), (4, 4)] [] (by (try simp only [g2310]) <;> simp only [push_cast, seval]) (by (try simp only [g2310]) <;> simp only [push_cast, seval]) rfl rfl rfl)
        · rintro ⟨xin2, t58q2, c1_Readers3, c1_Writer3, c2q2, c3q5, c4q2⟩ h
          try dsimp only at h ⊢
          unfold taskmilllaw_LockEnters_j7 at h
          refine cond_sx h (by kernel_rfl) (fun g2391 h => ?_) (fun g2391 h => ?_)
          · refine seq_np ?_
            refine reg_f ?_
            refine rs 1 [] [] (by kernel_rfl) allP_nil ?_
            refine rf [(8, bS false)] [(0, .row 24 (Enc.cells l)), (1, .row 24 [iS c1_Readers3, bS c1_Writer3, .own 4 0 c4q2.length]), (2, .row 28 (Enc.cells c2q2)), (3, .row 28 (Enc.cells c3q5)), (4, .row 47 (fl c4q2))] 5 (by kernel_rfl) ?_
            refine wk_id ?_
            obtain rfl := Option.some.inj h
            refine ret_at (bS false) (by kernel_rfl) ?_
            exact ret_e [] [] (by simp only [push_cast, seval]) (by simp only [push_cast, seval]) rfl rfl rfl
          · refine wk_id ?_
            refine seq_cut (A := Fault) (fun a => ([(1, iS task), (2, bS write), (3, bS xtry), (4, .ptr 0 0), (11, .ptr 1 0), (12, bS xin2), (13, .ptr 2 0), (14, .ptr 3 0)], [(0, .row 24 (Enc.cells l)), (1, .row 24 [iS c1_Readers3, bS c1_Writer3, .own 4 0 c4q2.length]), (2, .row 28 (Enc.cells c2q2)), (3, .row 28 (Enc.cells a)), (4, .row 47 (fl c4q2))], 5)) (fun a => (taskmilllaw_LockEnters_j6 l task write xtry xin2 c1_Readers3 c1_Writer3 c2q2 c4q2 a) = some r) (fun K2316 hK2316 => ?_) ?_
            · refine seq_cut (A := Unit) (fun _ => ([(1, iS task), (2, bS write), (3, bS xtry), (4, .ptr 0 0), (11, .ptr 1 0), (12, bS xin2), (13, .ptr 2 0), (14, .ptr 3 0), (65, bS ((c3q5.Code == 0) && (decide (task < 1))))], [(0, .row 24 (Enc.cells l)), (1, .row 24 [iS c1_Readers3, bS c1_Writer3, .own 4 0 c4q2.length]), (2, .row 28 (Enc.cells c2q2)), (3, .row 28 (Enc.cells c3q5)), (4, .row 47 (fl c4q2))], 5)) (fun _ => True) (fun K2318 hK2318 => ?_) (fun _ _ => ?_)
              · refine reg_f ?_
                refine rs 4 [] [] (by kernel_rfl) allP_nil ?_
                refine run_split 62 (c3q5.Code == 0) (.inl (by kernel_rfl)) (fun g2319 => ?_) (fun g2319 => ?_)
                · refine rs 3 [] [] (by kernel_rfl) allP_nil ?_
                  refine rf [(1, iS task), (2, bS write), (3, bS xtry), (4, .ptr 0 0), (11, .ptr 1 0), (12, bS xin2), (13, .ptr 2 0), (14, .ptr 3 0), (65, bS (decide (task < 1)))] [(0, .row 24 (Enc.cells l)), (1, .row 24 [iS c1_Readers3, bS c1_Writer3, .own 4 0 c4q2.length]), (2, .row 28 (Enc.cells c2q2)), (3, .row 28 (Enc.cells c3q5)), (4, .row 47 (fl c4q2))] 5 (by kernel_rfl) ?_
                  exact hK2318 () _ _ _ trivial (leSt_m [(0, 0), (1, 1), (2, 2), (3, 3), (4, 4)] [] (by (try simp only [g2319]) <;> simp only [push_cast, seval]) (by (try simp only [g2319]) <;> simp only [push_cast, seval]) rfl rfl rfl)
                · refine rs 3 [] [] (by kernel_rfl) allP_nil ?_
                  refine rf [(1, iS task), (2, bS write), (3, bS xtry), (4, .ptr 0 0), (11, .ptr 1 0), (12, bS xin2), (13, .ptr 2 0), (14, .ptr 3 0), (65, bS false)] [(0, .row 24 (Enc.cells l)), (1, .row 24 [iS c1_Readers3, bS c1_Writer3, .own 4 0 c4q2.length]), (2, .row 28 (Enc.cells c2q2)), (3, .row 28 (Enc.cells c3q5)), (4, .row 47 (fl c4q2))] 5 (by kernel_rfl) ?_
                  exact hK2318 () _ _ _ trivial (leSt_m [(0, 0), (1, 1), (2, 2), (3, 3), (4, 4)] [] (by (try simp only [g2319]) <;> simp only [push_cast, seval]) (by (try simp only [g2319]) <;> simp only [push_cast, seval]) rfl rfl rfl)
              · dsimp only
                refine cond_sx h (by kernel_rfl) (fun g2322 h => ?_) (fun g2322 h => ?_)
                · refine reg_f ?_
                  obtain ⟨r2321, hr2321, h⟩ := bind_sx h
                  refine run_call 18 [iS 3, iS (-1)] (some 66) (by kernel_rfl) ?_
                  refine call_0 (taskmillref_F_spec 3 (-1) r2321 hr2321) (by simp only [push_cast, seval]) (by simp only [push_cast, seval]) ?_
                  refine back_f ?_
                  refine rs 1 [] [] (by kernel_rfl) allP_nil ?_
                  refine rf [(1, iS task), (2, bS write), (3, bS xtry), (4, .ptr 0 0), (11, .ptr 1 0), (12, bS xin2), (13, .ptr 2 0), (14, .ptr 3 0)] [(0, .row 24 (Enc.cells l)), (1, .row 24 [iS c1_Readers3, bS c1_Writer3, .own 4 0 c4q2.length]), (2, .row 28 (Enc.cells c2q2)), (3, .row 28 (Enc.cells r2321)), (4, .row 47 (fl c4q2))] 5 (by kernel_rfl) ?_
                  exact hK2316 (r2321) _ _ _ h (leSt_m [(0, 0), (1, 1), (2, 2), (3, 3), (4, 4)] [] (by simp only [push_cast, seval]) (by simp only [push_cast, seval]) rfl rfl rfl)
                · exact hK2316 (c3q5) _ _ _ h (leSt_m [(0, 0), (1, 1), (2, 2), (3, 3), (4, 4)] [] (by simp only [push_cast, seval]) (by simp only [push_cast, seval]) rfl rfl rfl)
            · rintro c3q6 h
              try dsimp only at h ⊢
              unfold taskmilllaw_LockEnters_j6 at h
              refine seq_cut (A := Fault) (fun a => ([(1, iS task), (2, bS write), (3, bS xtry), (4, .ptr 0 0), (11, .ptr 1 0), (12, bS xin2), (13, .ptr 2 0), (14, .ptr 3 0)], [(0, .row 24 (Enc.cells l)), (1, .row 24 [iS c1_Readers3, bS c1_Writer3, .own 4 0 c4q2.length]), (2, .row 28 (Enc.cells c2q2)), (3, .row 28 (Enc.cells a)), (4, .row 47 (fl c4q2))], 5)) (fun a => (taskmilllaw_LockEnters_j4 l task write xtry xin2 c1_Readers3 c1_Writer3 c2q2 c4q2 a) = some r) (fun K2330 hK2330 => ?_) ?_
              · refine seq_cut (A := Bool) (fun a => ([(1, iS task), (2, bS write), (3, bS xtry), (4, .ptr 0 0), (11, .ptr 1 0), (12, bS xin2), (13, .ptr 2 0), (14, .ptr 3 0), (76, bS a)], [(0, .row 24 (Enc.cells l)), (1, .row 24 [iS c1_Readers3, bS c1_Writer3, .own 4 0 c4q2.length]), (2, .row 28 (Enc.cells c2q2)), (3, .row 28 (Enc.cells c3q6)), (4, .row 47 (fl c4q2))], 5)) (fun a => (taskmilllaw_LockEnters_j5 l task write xtry xin2 c1_Readers3 c1_Writer3 c2q2 c4q2 c3q6 a) = some r) (fun K2334 hK2334 => ?_) ?_
                · refine reg_f ?_
                  refine rs 4 [] [] (by kernel_rfl) allP_nil ?_
                  refine run_br h 70 (.inl (by kernel_rfl)) (fun g2335 h => ?_) (fun g2335 h => ?_)
                  · refine rs 3 [] [] (by kernel_rfl) allP_nil ?_
                    obtain ⟨r2336, hr2336, h⟩ := bind_sx h
                    refine run_call 17 [.sl l.Line.length (fl l.Line), iS task] (some 74) (by kernel_rfl) ?_
                    refine call_0 (taskmillref_InLine_spec l.Line task r2336 hr2336) (by simp only [push_cast, seval]) (by simp only [push_cast, seval]) ?_
                    refine back_f ?_
                    refine rs 2 [] [] (by kernel_rfl) allP_nil ?_
                    refine rf [(1, iS task), (2, bS write), (3, bS xtry), (4, .ptr 0 0), (11, .ptr 1 0), (12, bS xin2), (13, .ptr 2 0), (14, .ptr 3 0), (76, bS (decide ((0 : Int) ≤ r2336)))] [(0, .row 24 (Enc.cells l)), (1, .row 24 [iS c1_Readers3, bS c1_Writer3, .own 4 0 c4q2.length]), (2, .row 28 (Enc.cells c2q2)), (3, .row 28 (Enc.cells c3q6)), (4, .row 47 (fl c4q2))] 5 (by kernel_rfl) ?_
                    exact hK2334 ((decide ((0 : Int) ≤ r2336))) _ _ _ h (leSt_m [(0, 0), (1, 1), (2, 2), (3, 3), (4, 4)] [] (by (try simp only [g2335]) <;> simp only [push_cast, seval]) (by (try simp only [g2335]) <;> simp only [push_cast, seval]) rfl rfl rfl)
                  · refine rs 6 [] [] (by kernel_rfl) allP_nil ?_
                    refine rf [(1, iS task), (2, bS write), (3, bS xtry), (4, .ptr 0 0), (11, .ptr 1 0), (12, bS xin2), (13, .ptr 2 0), (14, .ptr 3 0), (76, bS false)] [(0, .row 24 (Enc.cells l)), (1, .row 24 [iS c1_Readers3, bS c1_Writer3, .own 4 0 c4q2.length]), (2, .row 28 (Enc.cells c2q2)), (3, .row 28 (Enc.cells c3q6)), (4, .row 47 (fl c4q2))] 5 (by kernel_rfl) ?_
                    exact hK2334 (false) _ _ _ h (leSt_m [(0, 0), (1, 1), (2, 2), (3, 3), (4, 4)] [] (by (try simp only [g2335]) <;> simp only [push_cast, seval]) (by (try simp only [g2335]) <;> simp only [push_cast, seval]) rfl rfl rfl)
                · rintro t76q2 h
                  try dsimp only at h ⊢
                  unfold taskmilllaw_LockEnters_j5 at h
                  refine cond_sx h (by kernel_rfl) (fun g2339 h => ?_) (fun g2339 h => ?_)
                  · refine reg_f ?_
                    obtain ⟨r2338, hr2338, h⟩ := bind_sx h
                    refine run_call 18 [iS 10, iS (-1)] (some 77) (by kernel_rfl) ?_
                    refine call_0 (taskmillref_F_spec 10 (-1) r2338 hr2338) (by simp only [push_cast, seval]) (by simp only [push_cast, seval]) ?_
                    refine back_f ?_
                    refine rs 1 [] [] (by kernel_rfl) allP_nil ?_
                    refine rf [(1, iS task), (2, bS write), (3, bS xtry), (4, .ptr 0 0), (11, .ptr 1 0), (12, bS xin2), (13, .ptr 2 0), (14, .ptr 3 0)] [(0, .row 24 (Enc.cells l)), (1, .row 24 [iS c1_Readers3, bS c1_Writer3, .own 4 0 c4q2.length]), (2, .row 28 (Enc.cells c2q2)), (3, .row 28 (Enc.cells r2338)), (4, .row 47 (fl c4q2))] 5 (by kernel_rfl) ?_
                    exact hK2330 (r2338) _ _ _ h (leSt_m [(0, 0), (1, 1), (2, 2), (3, 3), (4, 4)] [] (by simp only [push_cast, seval]) (by simp only [push_cast, seval]) rfl rfl rfl)
                  · exact hK2330 (c3q6) _ _ _ h (leSt_m [(0, 0), (1, 1), (2, 2), (3, 3), (4, 4)] [] (by simp only [push_cast, seval]) (by simp only [push_cast, seval]) rfl rfl rfl)
              · rintro c3q7 h
                try dsimp only at h ⊢
                unfold taskmilllaw_LockEnters_j4 at h
                refine seq_cut (A := Fault) (fun a => ([(1, iS task), (2, bS write), (3, bS xtry), (4, .ptr 0 0), (11, .ptr 1 0), (12, bS xin2), (13, .ptr 2 0), (14, .ptr 3 0)], [(0, .row 24 (Enc.cells l)), (1, .row 24 [iS c1_Readers3, bS c1_Writer3, .own 4 0 c4q2.length]), (2, .row 28 (Enc.cells c2q2)), (3, .row 28 (Enc.cells a)), (4, .row 47 (fl c4q2))], 5)) (fun a => (taskmilllaw_LockEnters_j3 l task write xtry xin2 c1_Readers3 c1_Writer3 c2q2 c4q2 a) = some r) (fun K2345 hK2345 => ?_) ?_
                · refine seq_cut (A := Unit) (fun _ => ([(1, iS task), (2, bS write), (3, bS xtry), (4, .ptr 0 0), (11, .ptr 1 0), (12, bS xin2), (13, .ptr 2 0), (14, .ptr 3 0), (91, bS ((c3q7.Code == 0) && ((((l.Line.length : Nat) : Int) == 5000) || (l.Readers == 1000000000))))], [(0, .row 24 (Enc.cells l)), (1, .row 24 [iS c1_Readers3, bS c1_Writer3, .own 4 0 c4q2.length]), (2, .row 28 (Enc.cells c2q2)), (3, .row 28 (Enc.cells c3q7)), (4, .row 47 (fl c4q2))], 5)) (fun _ => True) (fun K2348 hK2348 => ?_) (fun _ _ => ?_)
                  · refine reg_f ?_
                    refine rs 4 [] [] (by kernel_rfl) allP_nil ?_
                    refine run_split 81 (c3q7.Code == 0) (.inl (by kernel_rfl)) (fun g2349 => ?_) (fun g2349 => ?_)
                    · refine rs 5 [] [] (by kernel_rfl) allP_nil ?_
                      refine run_split 86 (((l.Line.length : Nat) : Int) == 5000) (.inr (by kernel_rfl)) (fun g2350 => ?_) (fun g2350 => ?_)
                      · refine rs 5 [] [] (by kernel_rfl) allP_nil ?_
                        refine rf [(1, iS task), (2, bS write), (3, bS xtry), (4, .ptr 0 0), (11, .ptr 1 0), (12, bS xin2), (13, .ptr 2 0), (14, .ptr 3 0), (91, bS true)] [(0, .row 24 (Enc.cells l)), (1, .row 24 [iS c1_Readers3, bS c1_Writer3, .own 4 0 c4q2.length]), (2, .row 28 (Enc.cells c2q2)), (3, .row 28 (Enc.cells c3q7)), (4, .row 47 (fl c4q2))] 5 (by kernel_rfl) ?_
                        exact hK2348 () _ _ _ trivial (leSt_m [(0, 0), (1, 1), (2, 2), (3, 3), (4, 4)] [] (by first | ((try simp only [g2349, g2350]) <;> simp only [push_cast, seval]; done) | ((try simp only [g2349]); (try simp only [g2350]); simp only [push_cast, seval]; done) | (exfalso; clear h; simp_all; done)) (by first | ((try simp only [g2349, g2350]) <;> simp only [push_cast, seval]; done) | ((try simp only [g2349]); (try simp only [g2350]); simp only [push_cast, seval]; done) | (exfalso; clear h; simp_all; done)) rfl rfl rfl)
                      · refine rs 5 [] [] (by kernel_rfl) allP_nil ?_
                        refine rf [(1, iS task), (2, bS write), (3, bS xtry), (4, .ptr 0 0), (11, .ptr 1 0), (12, bS xin2), (13, .ptr 2 0), (14, .ptr 3 0), (91, bS (l.Readers == 1000000000))] [(0, .row 24 (Enc.cells l)), (1, .row 24 [iS c1_Readers3, bS c1_Writer3, .own 4 0 c4q2.length]), (2, .row 28 (Enc.cells c2q2)), (3, .row 28 (Enc.cells c3q7)), (4, .row 47 (fl c4q2))] 5 (by kernel_rfl) ?_
                        exact hK2348 () _ _ _ trivial (leSt_m [(0, 0), (1, 1), (2, 2), (3, 3), (4, 4)] [] (by first | ((try simp only [g2349, g2350]) <;> simp only [push_cast, seval]; done) | ((try simp only [g2349]); (try simp only [g2350]); simp only [push_cast, seval]; done) | (exfalso; clear h; simp_all; done)) (by first | ((try simp only [g2349, g2350]) <;> simp only [push_cast, seval]; done) | ((try simp only [g2349]); (try simp only [g2350]); simp only [push_cast, seval]; done) | (exfalso; clear h; simp_all; done)) rfl rfl rfl)
                    · refine rs 10 [] [] (by kernel_rfl) allP_nil ?_
                      refine rf [(1, iS task), (2, bS write), (3, bS xtry), (4, .ptr 0 0), (11, .ptr 1 0), (12, bS xin2), (13, .ptr 2 0), (14, .ptr 3 0), (91, bS false)] [(0, .row 24 (Enc.cells l)), (1, .row 24 [iS c1_Readers3, bS c1_Writer3, .own 4 0 c4q2.length]), (2, .row 28 (Enc.cells c2q2)), (3, .row 28 (Enc.cells c3q7)), (4, .row 47 (fl c4q2))] 5 (by kernel_rfl) ?_
                      exact hK2348 () _ _ _ trivial (leSt_m [(0, 0), (1, 1), (2, 2), (3, 3), (4, 4)] [] (by (try simp only [g2349]) <;> simp only [push_cast, seval]) (by (try simp only [g2349]) <;> simp only [push_cast, seval]) rfl rfl rfl)
                  · dsimp only
                    refine cond_sx h (by kernel_rfl) (fun g2353 h => ?_) (fun g2353 h => ?_)
                    · refine reg_f ?_
                      obtain ⟨r2352, hr2352, h⟩ := bind_sx h
                      refine run_call 18 [iS 9, iS 0] (some 92) (by kernel_rfl) ?_
                      refine call_0 (taskmillref_F_spec 9 0 r2352 hr2352) (by simp only [push_cast, seval]) (by simp only [push_cast, seval]) ?_
                      refine back_f ?_
                      refine rs 1 [] [] (by kernel_rfl) allP_nil ?_
                      refine rf [(1, iS task), (2, bS write), (3, bS xtry), (4, .ptr 0 0), (11, .ptr 1 0), (12, bS xin2), (13, .ptr 2 0), (14, .ptr 3 0)] [(0, .row 24 (Enc.cells l)), (1, .row 24 [iS c1_Readers3, bS c1_Writer3, .own 4 0 c4q2.length]), (2, .row 28 (Enc.cells c2q2)), (3, .row 28 (Enc.cells r2352)), (4, .row 47 (fl c4q2))] 5 (by kernel_rfl) ?_
                      exact hK2345 (r2352) _ _ _ h (leSt_m [(0, 0), (1, 1), (2, 2), (3, 3), (4, 4)] [] (by simp only [push_cast, seval]) (by simp only [push_cast, seval]) rfl rfl rfl)
                    · exact hK2345 (c3q7) _ _ _ h (leSt_m [(0, 0), (1, 1), (2, 2), (3, 3), (4, 4)] [] (by simp only [push_cast, seval]) (by simp only [push_cast, seval]) rfl rfl rfl)
                · rintro c3q8 h
                  try dsimp only at h ⊢
                  unfold taskmilllaw_LockEnters_j3 at h
                  refine seq_np ?_
                  refine seq_np ?_
                  refine reg_f ?_
                  refine rs 3 [] [] (by kernel_rfl) allP_nil ?_
                  refine rf [(1, iS task), (2, bS write), (3, bS xtry), (4, .ptr 0 0), (11, .ptr 1 0), (12, bS xin2), (14, .ptr 3 0), (95, bS (!((c2q2.Code == c3q8.Code) && ((c2q2.At == c3q8.At) && true))))] [(0, .row 24 (Enc.cells l)), (1, .row 24 [iS c1_Readers3, bS c1_Writer3, .own 4 0 c4q2.length]), (2, .row 28 (Enc.cells c2q2)), (3, .row 28 (Enc.cells c3q8)), (4, .row 47 (fl c4q2))] 5 (by kernel_rfl) ?_
                  refine wk_id ?_
                  refine cond_sx h (by kernel_rfl) (fun g2390 h => ?_) (fun g2390 h => ?_)
                  · refine seq_np ?_
                    refine reg_f ?_
                    refine rs 1 [] [] (by kernel_rfl) allP_nil ?_
                    refine rf [(8, bS false)] [(0, .row 24 (Enc.cells l)), (1, .row 24 [iS c1_Readers3, bS c1_Writer3, .own 4 0 c4q2.length]), (2, .row 28 (Enc.cells c2q2)), (3, .row 28 (Enc.cells c3q8)), (4, .row 47 (fl c4q2))] 5 (by kernel_rfl) ?_
                    refine wk_id ?_
                    obtain rfl := Option.some.inj h
                    refine ret_at (bS false) (by kernel_rfl) ?_
                    exact ret_e [] [] (by simp only [push_cast, seval]) (by simp only [push_cast, seval]) rfl rfl rfl
                  · refine wk_id ?_
                    refine seq_np ?_
                    refine seq_np ?_
                    refine reg_f ?_
                    refine rs 3 [] [] (by kernel_rfl) allP_nil ?_
                    refine rf [(1, iS task), (2, bS write), (3, bS xtry), (4, .ptr 0 0), (11, .ptr 1 0), (12, bS xin2), (98, bS (c3q8.Code != 0))] [(0, .row 24 (Enc.cells l)), (1, .row 24 [iS c1_Readers3, bS c1_Writer3, .own 4 0 c4q2.length]), (2, .row 28 (Enc.cells c2q2)), (3, .row 28 (Enc.cells c3q8)), (4, .row 47 (fl c4q2))] 5 (by kernel_rfl) ?_
                    refine wk_id ?_
                    refine cond_sx h (by kernel_rfl) (fun g2389 h => ?_) (fun g2389 h => ?_)
                    · refine seq_cut (A := Bool) (fun a => ([(8, bS a)], [], 0)) (fun a => (taskmilllaw_LockEnters_j1 a) = some r) (fun K2363 hK2363 => ?_) ?_
                      · refine reg_f ?_
                        refine rs 1 [] [] (by kernel_rfl) allP_nil ?_
                        obtain ⟨r2364, hr2364, h⟩ := bind_sx h
                        refine call_x (taskmilllaw_noLock_spec (Lock.mk c1_Readers3 c1_Writer3 c4q2) r2364 hr2364) (args := [.agg [iS c1_Readers3, bS c1_Writer3, .own 4 0 c4q2.length]]) (dst := (some 100)) (by kernel_rfl) [(0, .row 24 (Enc.cells l)), (1, .row 24 [iS c1_Readers3, bS c1_Writer3, .own 4 0 c4q2.length]), (2, .row 28 (Enc.cells c2q2)), (3, .row 28 (Enc.cells c3q8)), (4, .row 47 (fl c4q2))] 5 (by kernel_rfl) [] [4] (bS r2364) [] (by simp only [push_cast, seval]) (by simp only [push_cast, seval]) (by kernel_rfl) (.inr ⟨by simp only [push_cast, seval], by simp only [push_cast, seval]⟩) (by simp only [push_cast, seval]) (by simp only [push_cast, seval]) ?_
                        refine rs 1 [] [] (by kernel_rfl) allP_nil ?_
                        refine run_br h 101 (.inl (by kernel_rfl)) (fun g2365 h => ?_) (fun g2365 h => ?_)
                        · refine rs 4 [] [] (by kernel_rfl) allP_nil ?_
                          refine rf [(8, bS (!xin2))] [(0, .row 24 (Enc.cells l)), (1, .row 24 [iS c1_Readers3, bS c1_Writer3, .own 4 0 c4q2.length]), (2, .row 28 (Enc.cells c2q2)), (3, .row 28 (Enc.cells c3q8)), (4, .row 47 (fl c4q2))] 5 (by kernel_rfl) ?_
                          exact hK2363 ((!xin2)) _ _ _ h (leSt_m [] [] (by (try simp only [g2365]) <;> simp only [push_cast, seval]) (by (try simp only [g2365]) <;> simp only [push_cast, seval]) rfl rfl rfl)
                        · refine rs 4 [] [] (by kernel_rfl) allP_nil ?_
                          refine rf [(8, bS false)] [(0, .row 24 (Enc.cells l)), (1, .row 24 [iS c1_Readers3, bS c1_Writer3, .own 4 0 c4q2.length]), (2, .row 28 (Enc.cells c2q2)), (3, .row 28 (Enc.cells c3q8)), (4, .row 47 (fl c4q2))] 5 (by kernel_rfl) ?_
                          exact hK2363 (false) _ _ _ h (leSt_m [] [] (by (try simp only [g2365]) <;> simp only [push_cast, seval]) (by (try simp only [g2365]) <;> simp only [push_cast, seval]) rfl rfl rfl)
                      · rintro t8q2 h
                        try dsimp only at h ⊢
                        unfold taskmilllaw_LockEnters_j1 at h
                        obtain rfl := Option.some.inj h
                        refine ret_at (bS t8q2) (by kernel_rfl) ?_
                        exact ret_e [] [] (by simp only [push_cast, seval]) (by simp only [push_cast, seval]) rfl rfl rfl
                    · refine wk_id ?_
                      refine seq_np ?_
                      refine reg_t ?_
                      refine rs 6 [] [] (by kernel_rfl) allP_nil ?_
                      obtain ⟨r2370, hr2370, h⟩ := bind_sx h
                      refine call_x (taskmilllaw_ownWants_spec l.Line r2370 hr2370) (args := [.sl l.Line.length (fl l.Line)]) (dst := (some 112)) (by kernel_rfl) [(0, .row 24 (Enc.cells l)), (1, .row 24 [iS c1_Readers3, bS c1_Writer3, .own 4 0 c4q2.length]), (2, .row 28 (Enc.cells c2q2)), (3, .row 28 (Enc.cells c3q8)), (4, .row 47 (fl c4q2))] 11 (by kernel_rfl) [] [] (.own 11 0 r2370.length) [(11, .row 47 (fl r2370))] (by simp only [push_cast, seval]) (by simp only [push_cast, seval]) (by kernel_rfl) (.inl rfl) (by simp only [push_cast, seval]) (by simp only [push_cast, seval]) ?_
                      refine chk_sx h (fun g2372 h => ?_)
                      have k2371 : (r2370 ++ ([(Want.mk task write 0)] : List Want)).length * 24 ≤ 140737488355328 := by first | simpa only [Bool.and_eq_true, decide_eq_true_eq, bne_iff_ne, ne_eq] using g2372 | (simp at g2372 ⊢; omega)
                      refine rs 6 [none, none, none, none, some ⟨.own 18 0 (r2370 ++ ([(Want.mk task write 0)] : List Want)).length, [(18, .row 47 (fl (r2370 ++ ([(Want.mk task write 0)] : List Want)))), (11, .dead)], 19, [11, 16]⟩] _ (by kernel_rfl) (allP_cons (ob_app (P := Try.prog) r2370 ([(Want.mk task write 0)] : List Want) 3 24 rfl (appCells (fl ([(Want.mk task write 0)] : List Want)) 0 (([(Want.mk task write 0)] : List Want).length * 3)) ([(Want.mk task write 0)] : List Want).length (app_own ([(Want.mk task write 0)] : List Want) 3 rfl) rfl (0 + ([(Want.mk task write 0)] : List Want).length * 3 ≤ (fl ([(Want.mk task write 0)] : List Want)).length) (app_own_le ([(Want.mk task write 0)] : List Want) 3 rfl) 47 (by kernel_rfl) (by decide) k2371 11 18 [16]) allP_nil) ?_
                      obtain ⟨r2373, hr2373, h⟩ := bind_sx h
                      refine call_x (taskmillref_Admitted_1_spec l.Readers l.Writer (r2370 ++ ([(Want.mk task write 0)] : List Want)) r2373 hr2373) (args := [.agg [iS l.Readers, bS l.Writer, .own 18 0 (r2370 ++ ([(Want.mk task write 0)] : List Want)).length]]) (dst := (some 119)) (by kernel_rfl) [(0, .row 24 (Enc.cells l)), (1, .row 24 [iS c1_Readers3, bS c1_Writer3, .own 4 0 c4q2.length]), (2, .row 28 (Enc.cells c2q2)), (3, .row 28 (Enc.cells c3q8)), (4, .row 47 (fl c4q2)), (11, .dead), (16, .row 47 (fl ([(Want.mk task write 0)] : List Want))), (18, .row 47 (fl (r2370 ++ ([(Want.mk task write 0)] : List Want))))] 21 (by kernel_rfl) [(0, 18)] [] (.tup [.agg [iS r2373.1, bS r2373.2.1, .own 22 0 r2373.2.2.1.length], .own 23 0 r2373.2.2.2.length]) [(18, .dead), (22, .row 47 (fl r2373.2.2.1)), (23, .row 3 (fl r2373.2.2.2)), (18, .dead)] (by simp only [push_cast, seval]) (by simp only [push_cast, seval]) (by kernel_rfl) (.inl rfl) (by simp only [push_cast, seval]) (by simp only [push_cast, seval]) ?_
                      refine rs 6 [] [] (by kernel_rfl) allP_nil ?_
                      refine rt [(1, iS task), (3, bS xtry), (4, .ptr 0 0), (11, .ptr 1 0), (12, bS xin2), (15, .ptr 28 0), (16, .own 23 0 r2373.2.2.2.length)] [(0, .row 24 (Enc.cells l)), (1, .row 24 [iS c1_Readers3, bS c1_Writer3, .own 4 0 c4q2.length]), (2, .row 28 (Enc.cells c2q2)), (3, .row 28 (Enc.cells c3q8)), (4, .row 47 (fl c4q2)), (11, .dead), (16, .row 47 (fl ([(Want.mk task write 0)] : List Want))), (18, .dead), (22, .row 47 (fl r2373.2.2.1)), (23, .row 3 (fl r2373.2.2.2)), (28, .row 24 [iS r2373.1, bS r2373.2.1, .own 22 0 r2373.2.2.1.length])] 32 follows (by kernel_rfl) ?_
                      refine wk_id ?_
                      refine seq_np ?_
                      refine seq_np ?_
                      refine reg_f ?_
                      refine rs 3 [] [] (by kernel_rfl) allP_nil ?_
                      obtain ⟨r2377, hr2377, h⟩ := bind_sx h
                      refine call_x (taskmillref_Has_spec r2373.2.2.2 task r2377 hr2377) (args := [.own 23 0 r2373.2.2.2.length, iS task]) (dst := (some 125)) (by kernel_rfl) [(0, .row 24 (Enc.cells l)), (1, .row 24 [iS c1_Readers3, bS c1_Writer3, .own 4 0 c4q2.length]), (2, .row 28 (Enc.cells c2q2)), (3, .row 28 (Enc.cells c3q8)), (4, .row 47 (fl c4q2)), (11, .dead), (16, .row 47 (fl ([(Want.mk task write 0)] : List Want))), (18, .dead), (22, .row 47 (fl r2373.2.2.1)), (23, .row 3 (fl r2373.2.2.2)), (28, .row 24 [iS r2373.1, bS r2373.2.1, .own 22 0 r2373.2.2.1.length])] 32 (by kernel_rfl) [] [23] (bS r2377) [] (by simp only [push_cast, seval]) (by simp only [push_cast, seval]) (by kernel_rfl) (.inr ⟨by simp only [push_cast, seval], by simp only [push_cast, seval]⟩) (by simp only [push_cast, seval]) (by simp only [push_cast, seval]) ?_
                      refine rs 1 [] [] (by kernel_rfl) allP_nil ?_
                      refine rf [(3, bS xtry), (4, .ptr 0 0), (11, .ptr 1 0), (12, bS xin2), (15, .ptr 28 0), (126, bS (xin2 != r2377))] [(0, .row 24 (Enc.cells l)), (1, .row 24 [iS c1_Readers3, bS c1_Writer3, .own 4 0 c4q2.length]), (2, .row 28 (Enc.cells c2q2)), (3, .row 28 (Enc.cells c3q8)), (4, .row 47 (fl c4q2)), (11, .dead), (16, .row 47 (fl ([(Want.mk task write 0)] : List Want))), (18, .dead), (22, .row 47 (fl r2373.2.2.1)), (23, .row 3 (fl r2373.2.2.2)), (28, .row 24 [iS r2373.1, bS r2373.2.1, .own 22 0 r2373.2.2.1.length])] 32 (by kernel_rfl) ?_
                      refine wk_id ?_
                      refine cond_sx h (by kernel_rfl) (fun g2388 h => ?_) (fun g2388 h => ?_)
                      · refine seq_np ?_
                        refine reg_f ?_
                        refine rs 1 [] [] (by kernel_rfl) allP_nil ?_
                        refine rf [(8, bS false)] [(0, .row 24 (Enc.cells l)), (1, .row 24 [iS c1_Readers3, bS c1_Writer3, .own 4 0 c4q2.length]), (2, .row 28 (Enc.cells c2q2)), (3, .row 28 (Enc.cells c3q8)), (4, .row 47 (fl c4q2)), (11, .dead), (16, .row 47 (fl ([(Want.mk task write 0)] : List Want))), (18, .dead), (22, .row 47 (fl r2373.2.2.1)), (23, .row 3 (fl r2373.2.2.2)), (28, .row 24 [iS r2373.1, bS r2373.2.1, .own 22 0 r2373.2.2.1.length])] 32 (by kernel_rfl) ?_
                        refine wk_id ?_
                        obtain rfl := Option.some.inj h
                        refine ret_at (bS false) (by kernel_rfl) ?_
                        exact ret_e [] [] (by simp only [push_cast, seval]) (by simp only [push_cast, seval]) rfl rfl rfl
                      · refine wk_id ?_
                        refine seq_cut (A := Int × Bool × (List Want)) (fun a => ([(11, .ptr 0 0), (15, .ptr 1 0)], [(0, .row 24 [iS c1_Readers3, bS c1_Writer3, .own 2 0 c4q2.length]), (1, .row 24 [iS a.1, bS a.2.1, .sl a.2.2.length (fl a.2.2)]), (2, .row 47 (fl c4q2))], 3)) (fun a => (taskmilllaw_LockEnters_j2 c1_Readers3 c1_Writer3 c4q2 a.1 a.2.1 a.2.2) = some r) (fun K2381 hK2381 => ?_) ?_
                        · refine seq_cut (A := Unit) (fun _ => ([(4, .ptr 0 0), (11, .ptr 1 0), (15, .ptr 28 0), (131, bS ((!xin2) && xtry))], [(0, .row 24 (Enc.cells l)), (1, .row 24 [iS c1_Readers3, bS c1_Writer3, .own 4 0 c4q2.length]), (2, .row 28 (Enc.cells c2q2)), (3, .row 28 (Enc.cells c3q8)), (4, .row 47 (fl c4q2)), (16, .row 47 (fl ([(Want.mk task write 0)] : List Want))), (22, .row 47 (fl r2373.2.2.1)), (23, .row 3 (fl r2373.2.2.2)), (28, .row 24 [iS r2373.1, bS r2373.2.1, .own 22 0 r2373.2.2.1.length])], 32)) (fun _ => True) (fun K2383 hK2383 => ?_) (fun _ _ => ?_)
                          · refine reg_f ?_
                            refine rs 3 [] [] (by kernel_rfl) allP_nil ?_
                            refine run_split 129 (!xin2) (.inl (by kernel_rfl)) (fun g2384 => ?_) (fun g2384 => ?_)
                            · refine rs 2 [] [] (by kernel_rfl) allP_nil ?_
                              refine rf [(4, .ptr 0 0), (11, .ptr 1 0), (15, .ptr 28 0), (131, bS xtry)] [(0, .row 24 (Enc.cells l)), (1, .row 24 [iS c1_Readers3, bS c1_Writer3, .own 4 0 c4q2.length]), (2, .row 28 (Enc.cells c2q2)), (3, .row 28 (Enc.cells c3q8)), (4, .row 47 (fl c4q2)), (11, .dead), (16, .row 47 (fl ([(Want.mk task write 0)] : List Want))), (18, .dead), (22, .row 47 (fl r2373.2.2.1)), (23, .row 3 (fl r2373.2.2.2)), (28, .row 24 [iS r2373.1, bS r2373.2.1, .own 22 0 r2373.2.2.1.length])] 32 (by kernel_rfl) ?_
                              exact hK2383 () _ _ _ trivial (leSt_m [(0, 0), (1, 1), (2, 2), (3, 3), (4, 4), (16, 16), (22, 22), (23, 23), (28, 28)] [] (by (try simp only [g2384]) <;> simp only [push_cast, seval]) (by (try simp only [g2384]) <;> simp only [push_cast, seval]) rfl rfl rfl)
                            · refine rs 2 [] [] (by kernel_rfl) allP_nil ?_
                              refine rf [(4, .ptr 0 0), (11, .ptr 1 0), (15, .ptr 28 0), (131, bS false)] [(0, .row 24 (Enc.cells l)), (1, .row 24 [iS c1_Readers3, bS c1_Writer3, .own 4 0 c4q2.length]), (2, .row 28 (Enc.cells c2q2)), (3, .row 28 (Enc.cells c3q8)), (4, .row 47 (fl c4q2)), (11, .dead), (16, .row 47 (fl ([(Want.mk task write 0)] : List Want))), (18, .dead), (22, .row 47 (fl r2373.2.2.1)), (23, .row 3 (fl r2373.2.2.2)), (28, .row 24 [iS r2373.1, bS r2373.2.1, .own 22 0 r2373.2.2.1.length])] 32 (by kernel_rfl) ?_
                              exact hK2383 () _ _ _ trivial (leSt_m [(0, 0), (1, 1), (2, 2), (3, 3), (4, 4), (16, 16), (22, 22), (23, 23), (28, 28)] [] (by (try simp only [g2384]) <;> simp only [push_cast, seval]) (by (try simp only [g2384]) <;> simp only [push_cast, seval]) rfl rfl rfl)
                          · dsimp only
                            refine cond_sx h (by kernel_rfl) (fun g2385 h => ?_) (fun g2385 h => ?_)
                            · refine reg_f ?_
                              refine rs 2 [] [] (by kernel_rfl) allP_nil ?_
                              refine rf [(11, .ptr 1 0), (15, .ptr 28 0)] [(0, .row 24 (Enc.cells l)), (1, .row 24 [iS c1_Readers3, bS c1_Writer3, .own 4 0 c4q2.length]), (2, .row 28 (Enc.cells c2q2)), (3, .row 28 (Enc.cells c3q8)), (4, .row 47 (fl c4q2)), (16, .row 47 (fl ([(Want.mk task write 0)] : List Want))), (22, .row 47 (fl r2373.2.2.1)), (23, .row 3 (fl r2373.2.2.2)), (28, .row 24 (Enc.cells l))] 32 (by kernel_rfl) ?_
                              exact hK2381 (l.Readers, l.Writer, l.Line) _ _ _ h (leSt_m [(0, 1), (1, 28), (2, 4)] [] (by simp only [push_cast, seval]) (by simp only [push_cast, seval]) rfl rfl rfl)
                            · exact hK2381 (r2373.1, r2373.2.1, r2373.2.2.1) _ _ _ h (leSt_m [(0, 1), (1, 28), (2, 4)] [22] (by simp only [push_cast, seval]) (by simp only [push_cast, seval]) rfl rfl rfl)
                        · rintro ⟨c1_Readers4, c1_Writer4, c1_Line1⟩ h
                          try dsimp only at h ⊢
                          unfold taskmilllaw_LockEnters_j2 at h
                          refine seq_np ?_
                          refine reg_f ?_
                          refine rs 2 [] [] (by kernel_rfl) allP_nil ?_
                          obtain ⟨r2387, hr2387, h⟩ := bind_sx h
                          refine call_x (taskmillref_SameLock_spec (Lock.mk c1_Readers3 c1_Writer3 c4q2) (Lock.mk c1_Readers4 c1_Writer4 c1_Line1) r2387 hr2387) (args := [.agg [iS c1_Readers3, bS c1_Writer3, .own 2 0 c4q2.length], .agg [iS c1_Readers4, bS c1_Writer4, .sl c1_Line1.length (fl c1_Line1)]]) (dst := (some 135)) (by kernel_rfl) [(0, .row 24 [iS c1_Readers3, bS c1_Writer3, .own 2 0 c4q2.length]), (1, .row 24 [iS c1_Readers4, bS c1_Writer4, .sl c1_Line1.length (fl c1_Line1)]), (2, .row 47 (fl c4q2))] 3 (by kernel_rfl) [] [2] (bS r2387) [] (by simp only [push_cast, seval]) (by simp only [push_cast, seval]) (by kernel_rfl) (.inr ⟨by simp only [push_cast, seval], by simp only [push_cast, seval]⟩) (by simp only [push_cast, seval]) (by simp only [push_cast, seval]) ?_
                          refine rs 1 [] [] (by kernel_rfl) allP_nil ?_
                          refine rf [(8, bS r2387)] [(0, .row 24 [iS c1_Readers3, bS c1_Writer3, .own 2 0 c4q2.length]), (1, .row 24 [iS c1_Readers4, bS c1_Writer4, .sl c1_Line1.length (fl c1_Line1)]), (2, .row 47 (fl c4q2))] 3 (by kernel_rfl) ?_
                          refine wk_id ?_
                          obtain rfl := Option.some.inj h
                          refine ret_at (bS r2387) (by kernel_rfl) ?_
                          exact ret_e [] [] (by simp only [push_cast, seval]) (by simp only [push_cast, seval]) rfl rfl rfl

set_option maxRecDepth 100000 in
set_option maxHeartbeats 10000000 in
theorem taskmilllaw_LockAlone_1_spec (tasks : (List Int)) (c0 : (List Int)) (c3 : Int) (c2 : (List Int)) (r : Bool × (List Int) × (List Int) × Int) (h : taskmilllaw_LockAlone_1 tasks c0 c3 c2 = some r) : SpecW Try.prog 23 [.sl tasks.length (fl tasks), .ptr 0 0, .ptr 1 0, .ptr 3 0] [(0, .row 26 [.sl c0.length (fl c0)]), (1, .row 26 [.own 2 0 c2.length]), (2, .row 3 (fl c2)), (3, .row 3 [iS c3])] 4 (fun x h n => x = bS r.1 ∧ h = [(0, .row 26 [.sl r.2.1.length (fl r.2.1)]), (1, .row 26 [.own 2 0 r.2.2.1.length]), (2, .row 3 (fl r.2.2.1)), (3, .row 3 [iS r.2.2.2])] ∧ n = 4) := by
  unfold taskmilllaw_LockAlone_1 at h
  refine spec_of (draw_ok _) Try.func23 rfl (by decide) rfl (by kernel_rfl) ?_
  refine seq_np ?_
  refine reg_f ?_
  refine rs 1 [] [] (by kernel_rfl) allP_nil ?_
  refine rf [(0, .sl tasks.length (fl tasks)), (1, .ptr 0 0), (2, .ptr 1 0), (3, .ptr 3 0)] [(0, .row 26 [.sl c0.length (fl c0)]), (1, .row 26 [.own 2 0 c2.length]), (2, .row 3 (fl c2)), (3, .row 3 [iS c3])] 4 (by kernel_rfl) ?_
  refine wk_id ?_
  refine seq_np ?_
  refine seq_np ?_
  refine reg_f ?_
  refine rs 1 [] [] (by kernel_rfl) allP_nil ?_
  refine rf [(0, .sl tasks.length (fl tasks)), (1, .ptr 0 0), (2, .ptr 1 0), (3, .ptr 3 0), (6, iS 0)] [(0, .row 26 [.sl c0.length (fl c0)]), (1, .row 26 [.own 2 0 c2.length]), (2, .row 3 (fl c2)), (3, .row 3 [iS c3])] 4 (by kernel_rfl) ?_
  refine wk_id ?_
  refine block_np ?_
  refine loop_sx (S := Int × (List Int) × Int) (fun a => ([(0, .sl tasks.length (fl tasks)), (1, .ptr 0 0), (2, .ptr 1 0), (3, .ptr 3 0), (6, iS a.1)], [(0, .row 26 [.sl c0.length (fl c0)]), (1, .row 26 [.own 2 0 a.2.1.length]), (2, .row 3 (fl a.2.1)), (3, .row 3 [iS a.2.2])], 4)) h (leSt_m [(0, 0), (1, 1), (2, 2), (3, 3)] [] (by simp only [push_cast, seval]) (by simp only [push_cast, seval]) rfl rfl rfl) ?_
  rintro ⟨i7, c2q9, c3q9⟩ o2 R2 h hr2 hn2 hx2 ht2
  try dsimp only at h hn2 ⊢
  unfold taskmilllaw_LockAlone_1_l1 at h
  try dsimp only at h
  refine seq_np ?_
  refine seq_np ?_
  refine reg_f ?_
  refine rs 4 [] [] (by kernel_rfl) allP_nil ?_
  refine rf [(0, .sl tasks.length (fl tasks)), (1, .ptr 0 0), (2, .ptr 1 0), (3, .ptr 3 0), (6, iS i7), (11, bS (decide (i7 < ((tasks.length : Nat) : Int))))] [(0, .row 26 [.sl c0.length (fl c0)]), (1, .row 26 [.own 2 0 c2q9.length]), (2, .row 3 (fl c2q9)), (3, .row 3 [iS c3q9])] 4 (by kernel_rfl) ?_
  refine wk_id ?_
  refine cond_sx h (by kernel_rfl) (fun g2616 h => ?_) (fun g2616 h => ?_)
  · refine wk_id ?_
    refine seq_np ?_
    refine block_np ?_
    refine chk_sx h (fun g2589 h => ?_)
    refine seq_np ?_
    refine reg_f ?_
    have k2588 : 0 ≤ i7 ∧ i7 < ((tasks.length : Nat) : Int) := by first | simpa only [Bool.and_eq_true, decide_eq_true_eq, bne_iff_ne, ne_eq] using g2589 | (simp at g2589 ⊢; omega)
    refine rs 5 [none, none, some ⟨.iptr (fl tasks) ((i7).toNat * 1), [], 4, []⟩, some ⟨iS (ix tasks i7), [], 4, []⟩] _ (by kernel_rfl) (allP_cons (ob_ld tasks i7 1 0 ((i7).toNat * 1) k2588 rfl (by decide) (by first | rfl | omega) (dflS Try.prog 3) (iS (ix tasks i7)) rfl 4 []) (allP_cons (ob_ix_l tasks 1 4 i7 k2588) allP_nil)) ?_
    refine rf [(0, .sl tasks.length (fl tasks)), (1, .ptr 0 0), (2, .ptr 1 0), (3, .ptr 3 0), (6, iS i7), (7, iS (ix tasks i7))] [(0, .row 26 [.sl c0.length (fl c0)]), (1, .row 26 [.own 2 0 c2q9.length]), (2, .row 3 (fl c2q9)), (3, .row 3 [iS c3q9])] 4 (by kernel_rfl) ?_
    refine wk_id ?_
    refine seq_np ?_
    refine chk_sx h (fun g2605 h => ?_)
    refine seq_cut (A := Unit) (fun _ => ([(0, .sl tasks.length (fl tasks)), (1, .ptr 0 0), (2, .ptr 1 0), (3, .ptr 3 0), (6, iS i7), (7, iS (ix tasks i7)), (37, bS ((decide ((ix tasks i7) < 1)) || ((decide (((c0.length : Nat) : Int) < (ix tasks i7))) || ((decide ((ix c2q9 (ix tasks i7)) < 3)) || (decide ((ix tasks i7) < c3q9))))))], [(0, .row 26 [.sl c0.length (fl c0)]), (1, .row 26 [.own 2 0 c2q9.length]), (2, .row 3 (fl c2q9)), (3, .row 3 [iS c3q9])], 4)) (fun _ => True) (fun K2601 hK2601 => ?_) (fun _ _ => ?_)
    · refine reg_f ?_
      refine rs 3 [] [] (by kernel_rfl) allP_nil ?_
      refine run_split 20 (decide ((ix tasks i7) < 1)) (.inl (by kernel_rfl)) (fun g2602 => ?_) (fun g2602 => ?_)
      · refine rs 17 [] [] (by kernel_rfl) allP_nil ?_
        refine rf [(0, .sl tasks.length (fl tasks)), (1, .ptr 0 0), (2, .ptr 1 0), (3, .ptr 3 0), (6, iS i7), (7, iS (ix tasks i7)), (37, bS true)] [(0, .row 26 [.sl c0.length (fl c0)]), (1, .row 26 [.own 2 0 c2q9.length]), (2, .row 3 (fl c2q9)), (3, .row 3 [iS c3q9])] 4 (by kernel_rfl) ?_
        exact hK2601 () _ _ _ trivial (leSt_m [(0, 0), (1, 1), (2, 2), (3, 3)] [] (by (try simp only [g2602]) <;> simp only [push_cast, seval]) (by (try simp only [g2602]) <;> simp only [push_cast, seval]) rfl rfl rfl)
      · refine rs 6 [] [] (by kernel_rfl) allP_nil ?_
        refine run_split 26 (decide (((c0.length : Nat) : Int) < (ix tasks i7))) (.inl (by kernel_rfl)) (fun g2603 => ?_) (fun g2603 => ?_)
        · refine rs 11 [] [] (by kernel_rfl) allP_nil ?_
          refine rf [(0, .sl tasks.length (fl tasks)), (1, .ptr 0 0), (2, .ptr 1 0), (3, .ptr 3 0), (6, iS i7), (7, iS (ix tasks i7)), (37, bS true)] [(0, .row 26 [.sl c0.length (fl c0)]), (1, .row 26 [.own 2 0 c2q9.length]), (2, .row 3 (fl c2q9)), (3, .row 3 [iS c3q9])] 4 (by kernel_rfl) ?_
          exact hK2601 () _ _ _ trivial (leSt_m [(0, 0), (1, 1), (2, 2), (3, 3)] [] (by first | ((try simp only [g2602, g2603]) <;> simp only [push_cast, seval]; done) | ((try simp only [g2602]); (try simp only [g2603]); simp only [push_cast, seval]; done) | (exfalso; clear h; simp_all; done)) (by first | ((try simp only [g2602, g2603]) <;> simp only [push_cast, seval]; done) | ((try simp only [g2602]); (try simp only [g2603]); simp only [push_cast, seval]; done) | (exfalso; clear h; simp_all; done)) rfl rfl rfl)
        · have k2604 : 0 ≤ (ix tasks i7) ∧ (ix tasks i7) < ((c2q9.length : Nat) : Int) := by have e := or_use g2605 (by first | ((try simp only [g2602, g2603]) <;> rfl) | ((try simp only [g2602]); (try simp only [g2603]); rfl) | (exfalso; clear h; simp_all; done)); first | simpa only [Bool.and_eq_true, decide_eq_true_eq, bne_iff_ne, ne_eq] using e | (simp at e ⊢; omega)
          refine rs 7 [none, none, some ⟨.ptr 2 (0 + ((ix tasks i7)).toNat * 1), [], 4, [2]⟩, some ⟨iS (ix c2q9 (ix tasks i7)), [], 4, [2]⟩] _ (by kernel_rfl) (allP_cons (ob_ld c2q9 (ix tasks i7) 1 0 (0 + ((ix tasks i7)).toNat * 1) k2604 rfl (by decide) (by first | rfl | omega) (dflS Try.prog 3) (iS (ix c2q9 (ix tasks i7))) rfl 4 [2]) (allP_cons (ob_ix_o 2 c2q9.length 0 1 4 (ix tasks i7) k2604) allP_nil)) ?_
          refine run_split 33 (decide ((ix c2q9 (ix tasks i7)) < 3)) (.inl (by kernel_rfl)) (fun g2606 => ?_) (fun g2606 => ?_)
          · refine rn 16 [(0, .sl tasks.length (fl tasks)), (1, .ptr 0 0), (2, .ptr 1 0), (3, .ptr 3 0), (6, iS i7), (7, iS (ix tasks i7)), (33, bS true)] [(0, .row 26 [.sl c0.length (fl c0)]), (1, .row 26 [.own 2 0 c2q9.length]), (2, .row 3 (fl c2q9)), (3, .row 3 [iS c3q9])] 4 (by kernel_rfl) ?_
            refine rs 4 [] [] (by kernel_rfl) allP_nil ?_
            refine rf [(0, .sl tasks.length (fl tasks)), (1, .ptr 0 0), (2, .ptr 1 0), (3, .ptr 3 0), (6, iS i7), (7, iS (ix tasks i7)), (37, bS true)] [(0, .row 26 [.sl c0.length (fl c0)]), (1, .row 26 [.own 2 0 c2q9.length]), (2, .row 3 (fl c2q9)), (3, .row 3 [iS c3q9])] 4 (by kernel_rfl) ?_
            exact hK2601 () _ _ _ trivial (leSt_m [(0, 0), (1, 1), (2, 2), (3, 3)] [] (by first | ((try simp only [g2602, g2603, g2606]) <;> simp only [push_cast, seval]; done) | ((try simp only [g2602]); (try simp only [g2603]); (try simp only [g2606]); simp only [push_cast, seval]; done) | (exfalso; clear h; simp_all; done)) (by first | ((try simp only [g2602, g2603, g2606]) <;> simp only [push_cast, seval]; done) | ((try simp only [g2602]); (try simp only [g2603]); (try simp only [g2606]); simp only [push_cast, seval]; done) | (exfalso; clear h; simp_all; done)) rfl rfl rfl)
          · refine rn 16 [(0, .sl tasks.length (fl tasks)), (1, .ptr 0 0), (2, .ptr 1 0), (3, .ptr 3 0), (6, iS i7), (7, iS (ix tasks i7)), (33, bS false)] [(0, .row 26 [.sl c0.length (fl c0)]), (1, .row 26 [.own 2 0 c2q9.length]), (2, .row 3 (fl c2q9)), (3, .row 3 [iS c3q9])] 4 (by kernel_rfl) ?_
            refine rs 4 [] [] (by kernel_rfl) allP_nil ?_
            refine rf [(0, .sl tasks.length (fl tasks)), (1, .ptr 0 0), (2, .ptr 1 0), (3, .ptr 3 0), (6, iS i7), (7, iS (ix tasks i7)), (37, bS (decide ((ix tasks i7) < c3q9)))] [(0, .row 26 [.sl c0.length (fl c0)]), (1, .row 26 [.own 2 0 c2q9.length]), (2, .row 3 (fl c2q9)), (3, .row 3 [iS c3q9])] 4 (by kernel_rfl) ?_
            exact hK2601 () _ _ _ trivial (leSt_m [(0, 0), (1, 1), (2, 2), (3, 3)] [] (by first | ((try simp only [g2602, g2603, g2606]) <;> simp only [push_cast, seval]; done) | ((try simp only [g2602]); (try simp only [g2603]); (try simp only [g2606]); simp only [push_cast, seval]; done) | (exfalso; clear h; simp_all; done)) (by first | ((try simp only [g2602, g2603, g2606]) <;> simp only [push_cast, seval]; done) | ((try simp only [g2602]); (try simp only [g2603]); (try simp only [g2606]); simp only [push_cast, seval]; done) | (exfalso; clear h; simp_all; done)) rfl rfl rfl)
    · dsimp only
      refine cond_sx h (by kernel_rfl) (fun g2615 h => ?_) (fun g2615 h => ?_)
      · refine seq_np ?_
        refine reg_f ?_
        refine rs 1 [] [] (by kernel_rfl) allP_nil ?_
        refine rf [(5, bS false)] [(0, .row 26 [.sl c0.length (fl c0)]), (1, .row 26 [.own 2 0 c2q9.length]), (2, .row 3 (fl c2q9)), (3, .row 3 [iS c3q9])] 4 (by kernel_rfl) ?_
        refine wk_id ?_
        refine rt_cast ht2 ?_
        obtain ⟨r0, h, e0⟩ := map_sx h
        have e1 := hr2 r0 e0.symm
        subst r0
        obtain rfl := Option.some.inj h
        refine ret_at (bS false) (by kernel_rfl) ?_
        exact ret_e [(0, 0), (1, 1), (2, 2), (3, 3)] [] (by simp only [push_cast, seval]) (by simp only [push_cast, seval]) rfl rfl rfl
      · refine wk_id ?_
        refine chk_sx h (fun g2612 h => ?_)
        refine chk_sx h (fun g2614 h => ?_)
        refine seq_np ?_
        refine reg_t ?_
        have k2611 : 0 ≤ (ix tasks i7) ∧ (ix tasks i7) < ((c2q9.length : Nat) : Int) := by first | simpa only [Bool.and_eq_true, decide_eq_true_eq, bne_iff_ne, ne_eq] using g2612 | (simp at g2612 ⊢; omega)
        have k2613 : 0 ≤ (ix tasks i7) ∧ (ix tasks i7) < ((c2q9.length : Nat) : Int) := by first | simpa only [Bool.and_eq_true, decide_eq_true_eq, bne_iff_ne, ne_eq] using g2614 | (simp at g2614 ⊢; omega)
        refine rs 9 [none, none, none, none, some ⟨.ptr 2 (0 + ((ix tasks i7)).toNat * 1), [], 8, [2]⟩, some ⟨iS (ix c2q9 (ix tasks i7)), [], 9, [2]⟩, none, some ⟨.ptr 2 (0 + ((ix tasks i7)).toNat * 1), [], 11, [2]⟩, some ⟨.any, [(2, .row 3 (fl (c2q9.set (ix tasks i7).toNat (IntKind.i64.wrap ((ix c2q9 (ix tasks i7)) - 2)))))], 12, [2]⟩] _ (by kernel_rfl) (allP_cons (ob_st (P := Try.prog) c2q9 (ix tasks i7) 1 0 (0 + ((ix tasks i7)).toNat * 1) k2613 rfl [iS (IntKind.i64.wrap ((ix c2q9 (ix tasks i7)) - 2))] (IntKind.i64.wrap ((ix c2q9 (ix tasks i7)) - 2)) (Nat.le_of_ble_eq_true rfl) (by first | rfl | omega) rfl 2 12 3 3 (by kernel_rfl) rfl) (allP_cons (ob_ix_o 2 c2q9.length 0 1 11 (ix tasks i7) k2613) (allP_cons (ob_ld c2q9 (ix tasks i7) 1 0 (0 + ((ix tasks i7)).toNat * 1) k2611 rfl (by decide) (by first | rfl | omega) (dflS Try.prog 3) (iS (ix c2q9 (ix tasks i7))) rfl 9 [2]) (allP_cons (ob_ix_o 2 c2q9.length 0 1 8 (ix tasks i7) k2611) allP_nil)))) ?_
        refine rt [(0, .sl tasks.length (fl tasks)), (1, .ptr 0 0), (2, .ptr 1 0), (3, .ptr 3 0), (6, iS i7), (7, iS (ix tasks i7))] [(0, .row 26 [.sl c0.length (fl c0)]), (1, .row 26 [.own 2 0 c2q9.length]), (2, .row 3 (fl (c2q9.set (ix tasks i7).toNat (IntKind.i64.wrap ((ix c2q9 (ix tasks i7)) - 2))))), (3, .row 3 [iS c3q9])] 13 follows (by kernel_rfl) ?_
        refine wk_id ?_
        refine reg_f ?_
        refine rs 2 [] [] (by kernel_rfl) allP_nil ?_
        refine rf [(0, .sl tasks.length (fl tasks)), (1, .ptr 0 0), (2, .ptr 1 0), (3, .ptr 3 0), (6, iS i7)] [(0, .row 26 [.sl c0.length (fl c0)]), (1, .row 26 [.own 2 0 c2q9.length]), (2, .row 3 (fl (c2q9.set (ix tasks i7).toNat (IntKind.i64.wrap ((ix c2q9 (ix tasks i7)) - 2))))), (3, .row 3 [iS (ix tasks i7)])] 13 (by kernel_rfl) ?_
        refine wk_id ?_
        refine wk_id ?_
        refine reg_f ?_
        refine rs 3 [] [] (by kernel_rfl) allP_nil ?_
        refine rf [(0, .sl tasks.length (fl tasks)), (1, .ptr 0 0), (2, .ptr 1 0), (3, .ptr 3 0), (6, iS (IntKind.i64.wrap (i7 + 1)))] [(0, .row 26 [.sl c0.length (fl c0)]), (1, .row 26 [.own 2 0 c2q9.length]), (2, .row 3 (fl (c2q9.set (ix tasks i7).toNat (IntKind.i64.wrap ((ix c2q9 (ix tasks i7)) - 2))))), (3, .row 3 [iS (ix tasks i7)])] 13 (by kernel_rfl) ?_
        exact hn2 ((IntKind.i64.wrap (i7 + 1)), (c2q9.set (ix tasks i7).toNat (IntKind.i64.wrap ((ix c2q9 (ix tasks i7)) - 2))), (ix tasks i7)) _ _ _ (Option.some.inj h).symm (leSt_m [(0, 0), (1, 1), (2, 2), (3, 3)] [] (by simp only [push_cast, seval]) (by simp only [push_cast, seval]) rfl rfl rfl)
  · change R2 (.exit 0) _ _ _
    refine ex_cast hx2 (id := 0) ?_
    obtain ⟨r0, h, e0⟩ := map_sx h
    have e1 := hr2 r0 e0.symm
    subst r0
    refine wk_id ?_
    refine wk_id ?_
    refine seq_np ?_
    refine reg_f ?_
    refine rs 1 [] [] (by kernel_rfl) allP_nil ?_
    refine rf [(5, bS true)] [(0, .row 26 [.sl c0.length (fl c0)]), (1, .row 26 [.own 2 0 c2q9.length]), (2, .row 3 (fl c2q9)), (3, .row 3 [iS c3q9])] 4 (by kernel_rfl) ?_
    refine wk_id ?_
    obtain rfl := Option.some.inj h
    refine ret_at (bS true) (by kernel_rfl) ?_
    exact ret_e [(0, 0), (1, 1), (2, 2), (3, 3)] [] (by simp only [push_cast, seval]) (by simp only [push_cast, seval]) rfl rfl rfl

set_option maxRecDepth 100000 in
set_option maxHeartbeats 10000000 in
theorem taskmilllaw_LockAlone_1_1_spec (c0 : (List Int)) (c1 : (List Int)) (c4 : Int) (c3 : (List Int)) (r : Bool × (List Int) × (List Int) × (List Int) × Int) (h : taskmilllaw_LockAlone_1_1 c0 c1 c4 c3 = some r) : SpecW Try.prog 23 [.own 0 0 c0.length, .ptr 1 0, .ptr 2 0, .ptr 4 0] [(0, .row 3 (fl c0)), (1, .row 26 [.sl c1.length (fl c1)]), (2, .row 26 [.own 3 0 c3.length]), (3, .row 3 (fl c3)), (4, .row 3 [iS c4])] 5 (fun x h n => x = bS r.1 ∧ h = [(0, .row 3 (fl r.2.1)), (1, .row 26 [.sl r.2.2.1.length (fl r.2.2.1)]), (2, .row 26 [.own 3 0 r.2.2.2.1.length]), (3, .row 3 (fl r.2.2.2.1)), (4, .row 3 [iS r.2.2.2.2])] ∧ n = 5) := by
  unfold taskmilllaw_LockAlone_1_1 at h
  refine spec_of (draw_ok _) Try.func23 rfl (by decide) rfl (by kernel_rfl) ?_
  refine seq_np ?_
  refine reg_f ?_
  refine rs 1 [] [] (by kernel_rfl) allP_nil ?_
  refine rf [(0, .own 0 0 c0.length), (1, .ptr 1 0), (2, .ptr 2 0), (3, .ptr 4 0)] [(0, .row 3 (fl c0)), (1, .row 26 [.sl c1.length (fl c1)]), (2, .row 26 [.own 3 0 c3.length]), (3, .row 3 (fl c3)), (4, .row 3 [iS c4])] 5 (by kernel_rfl) ?_
  refine wk_id ?_
  refine seq_np ?_
  refine seq_np ?_
  refine reg_f ?_
  refine rs 1 [] [] (by kernel_rfl) allP_nil ?_
  refine rf [(0, .own 0 0 c0.length), (1, .ptr 1 0), (2, .ptr 2 0), (3, .ptr 4 0), (6, iS 0)] [(0, .row 3 (fl c0)), (1, .row 26 [.sl c1.length (fl c1)]), (2, .row 26 [.own 3 0 c3.length]), (3, .row 3 (fl c3)), (4, .row 3 [iS c4])] 5 (by kernel_rfl) ?_
  refine wk_id ?_
  refine block_np ?_
  refine loop_sx (S := Int × (List Int) × Int) (fun a => ([(0, .own 0 0 c0.length), (1, .ptr 1 0), (2, .ptr 2 0), (3, .ptr 4 0), (6, iS a.1)], [(0, .row 3 (fl c0)), (1, .row 26 [.sl c1.length (fl c1)]), (2, .row 26 [.own 3 0 a.2.1.length]), (3, .row 3 (fl a.2.1)), (4, .row 3 [iS a.2.2])], 5)) h (leSt_m [(0, 0), (1, 1), (2, 2), (3, 3), (4, 4)] [] (by simp only [push_cast, seval]) (by simp only [push_cast, seval]) rfl rfl rfl) ?_
  rintro ⟨i7, c3q9, c4q9⟩ o2 R2 h hr2 hn2 hx2 ht2
  try dsimp only at h hn2 ⊢
  unfold taskmilllaw_LockAlone_1_1_l1 at h
  try dsimp only at h
  refine seq_np ?_
  refine seq_np ?_
  refine reg_f ?_
  refine rs 4 [] [] (by kernel_rfl) allP_nil ?_
  refine rf [(0, .own 0 0 c0.length), (1, .ptr 1 0), (2, .ptr 2 0), (3, .ptr 4 0), (6, iS i7), (11, bS (decide (i7 < ((c0.length : Nat) : Int))))] [(0, .row 3 (fl c0)), (1, .row 26 [.sl c1.length (fl c1)]), (2, .row 26 [.own 3 0 c3q9.length]), (3, .row 3 (fl c3q9)), (4, .row 3 [iS c4q9])] 5 (by kernel_rfl) ?_
  refine wk_id ?_
  refine cond_sx h (by kernel_rfl) (fun g2819 h => ?_) (fun g2819 h => ?_)
  · refine wk_id ?_
    refine seq_np ?_
    refine block_np ?_
    refine chk_sx h (fun g2792 h => ?_)
    refine seq_np ?_
    refine reg_f ?_
    have k2791 : 0 ≤ i7 ∧ i7 < ((c0.length : Nat) : Int) := by first | simpa only [Bool.and_eq_true, decide_eq_true_eq, bne_iff_ne, ne_eq] using g2792 | (simp at g2792 ⊢; omega)
    refine rs 5 [none, none, some ⟨.ptr 0 (0 + (i7).toNat * 1), [], 5, [0]⟩, some ⟨iS (ix c0 i7), [], 5, [0]⟩] _ (by kernel_rfl) (allP_cons (ob_ld c0 i7 1 0 (0 + (i7).toNat * 1) k2791 rfl (by decide) (by first | rfl | omega) (dflS Try.prog 3) (iS (ix c0 i7)) rfl 5 [0]) (allP_cons (ob_ix_o 0 c0.length 0 1 5 i7 k2791) allP_nil)) ?_
    refine rf [(0, .own 0 0 c0.length), (1, .ptr 1 0), (2, .ptr 2 0), (3, .ptr 4 0), (6, iS i7), (7, iS (ix c0 i7))] [(0, .row 3 (fl c0)), (1, .row 26 [.sl c1.length (fl c1)]), (2, .row 26 [.own 3 0 c3q9.length]), (3, .row 3 (fl c3q9)), (4, .row 3 [iS c4q9])] 5 (by kernel_rfl) ?_
    refine wk_id ?_
    refine seq_np ?_
    refine chk_sx h (fun g2808 h => ?_)
    refine seq_cut (A := Unit) (fun _ => ([(0, .own 0 0 c0.length), (1, .ptr 1 0), (2, .ptr 2 0), (3, .ptr 4 0), (6, iS i7), (7, iS (ix c0 i7)), (37, bS ((decide ((ix c0 i7) < 1)) || ((decide (((c1.length : Nat) : Int) < (ix c0 i7))) || ((decide ((ix c3q9 (ix c0 i7)) < 3)) || (decide ((ix c0 i7) < c4q9))))))], [(0, .row 3 (fl c0)), (1, .row 26 [.sl c1.length (fl c1)]), (2, .row 26 [.own 3 0 c3q9.length]), (3, .row 3 (fl c3q9)), (4, .row 3 [iS c4q9])], 5)) (fun _ => True) (fun K2804 hK2804 => ?_) (fun _ _ => ?_)
    · refine reg_f ?_
      refine rs 3 [] [] (by kernel_rfl) allP_nil ?_
      refine run_split 20 (decide ((ix c0 i7) < 1)) (.inl (by kernel_rfl)) (fun g2805 => ?_) (fun g2805 => ?_)
      · refine rs 17 [] [] (by kernel_rfl) allP_nil ?_
        refine rf [(0, .own 0 0 c0.length), (1, .ptr 1 0), (2, .ptr 2 0), (3, .ptr 4 0), (6, iS i7), (7, iS (ix c0 i7)), (37, bS true)] [(0, .row 3 (fl c0)), (1, .row 26 [.sl c1.length (fl c1)]), (2, .row 26 [.own 3 0 c3q9.length]), (3, .row 3 (fl c3q9)), (4, .row 3 [iS c4q9])] 5 (by kernel_rfl) ?_
        exact hK2804 () _ _ _ trivial (leSt_m [(0, 0), (1, 1), (2, 2), (3, 3), (4, 4)] [] (by (try simp only [g2805]) <;> simp only [push_cast, seval]) (by (try simp only [g2805]) <;> simp only [push_cast, seval]) rfl rfl rfl)
      · refine rs 6 [] [] (by kernel_rfl) allP_nil ?_
        refine run_split 26 (decide (((c1.length : Nat) : Int) < (ix c0 i7))) (.inl (by kernel_rfl)) (fun g2806 => ?_) (fun g2806 => ?_)
        · refine rs 11 [] [] (by kernel_rfl) allP_nil ?_
          refine rf [(0, .own 0 0 c0.length), (1, .ptr 1 0), (2, .ptr 2 0), (3, .ptr 4 0), (6, iS i7), (7, iS (ix c0 i7)), (37, bS true)] [(0, .row 3 (fl c0)), (1, .row 26 [.sl c1.length (fl c1)]), (2, .row 26 [.own 3 0 c3q9.length]), (3, .row 3 (fl c3q9)), (4, .row 3 [iS c4q9])] 5 (by kernel_rfl) ?_
          exact hK2804 () _ _ _ trivial (leSt_m [(0, 0), (1, 1), (2, 2), (3, 3), (4, 4)] [] (by first | ((try simp only [g2805, g2806]) <;> simp only [push_cast, seval]; done) | ((try simp only [g2805]); (try simp only [g2806]); simp only [push_cast, seval]; done) | (exfalso; clear h; simp_all; done)) (by first | ((try simp only [g2805, g2806]) <;> simp only [push_cast, seval]; done) | ((try simp only [g2805]); (try simp only [g2806]); simp only [push_cast, seval]; done) | (exfalso; clear h; simp_all; done)) rfl rfl rfl)
        · have k2807 : 0 ≤ (ix c0 i7) ∧ (ix c0 i7) < ((c3q9.length : Nat) : Int) := by have e := or_use g2808 (by first | ((try simp only [g2805, g2806]) <;> rfl) | ((try simp only [g2805]); (try simp only [g2806]); rfl) | (exfalso; clear h; simp_all; done)); first | simpa only [Bool.and_eq_true, decide_eq_true_eq, bne_iff_ne, ne_eq] using e | (simp at e ⊢; omega)
          refine rs 7 [none, none, some ⟨.ptr 3 (0 + ((ix c0 i7)).toNat * 1), [], 5, [3]⟩, some ⟨iS (ix c3q9 (ix c0 i7)), [], 5, [3]⟩] _ (by kernel_rfl) (allP_cons (ob_ld c3q9 (ix c0 i7) 1 0 (0 + ((ix c0 i7)).toNat * 1) k2807 rfl (by decide) (by first | rfl | omega) (dflS Try.prog 3) (iS (ix c3q9 (ix c0 i7))) rfl 5 [3]) (allP_cons (ob_ix_o 3 c3q9.length 0 1 5 (ix c0 i7) k2807) allP_nil)) ?_
          refine run_split 33 (decide ((ix c3q9 (ix c0 i7)) < 3)) (.inl (by kernel_rfl)) (fun g2809 => ?_) (fun g2809 => ?_)
          · refine rn 16 [(0, .own 0 0 c0.length), (1, .ptr 1 0), (2, .ptr 2 0), (3, .ptr 4 0), (6, iS i7), (7, iS (ix c0 i7)), (33, bS true)] [(0, .row 3 (fl c0)), (1, .row 26 [.sl c1.length (fl c1)]), (2, .row 26 [.own 3 0 c3q9.length]), (3, .row 3 (fl c3q9)), (4, .row 3 [iS c4q9])] 5 (by kernel_rfl) ?_
            refine rs 4 [] [] (by kernel_rfl) allP_nil ?_
            refine rf [(0, .own 0 0 c0.length), (1, .ptr 1 0), (2, .ptr 2 0), (3, .ptr 4 0), (6, iS i7), (7, iS (ix c0 i7)), (37, bS true)] [(0, .row 3 (fl c0)), (1, .row 26 [.sl c1.length (fl c1)]), (2, .row 26 [.own 3 0 c3q9.length]), (3, .row 3 (fl c3q9)), (4, .row 3 [iS c4q9])] 5 (by kernel_rfl) ?_
            exact hK2804 () _ _ _ trivial (leSt_m [(0, 0), (1, 1), (2, 2), (3, 3), (4, 4)] [] (by first | ((try simp only [g2805, g2806, g2809]) <;> simp only [push_cast, seval]; done) | ((try simp only [g2805]); (try simp only [g2806]); (try simp only [g2809]); simp only [push_cast, seval]; done) | (exfalso; clear h; simp_all; done)) (by first | ((try simp only [g2805, g2806, g2809]) <;> simp only [push_cast, seval]; done) | ((try simp only [g2805]); (try simp only [g2806]); (try simp only [g2809]); simp only [push_cast, seval]; done) | (exfalso; clear h; simp_all; done)) rfl rfl rfl)
          · refine rn 16 [(0, .own 0 0 c0.length), (1, .ptr 1 0), (2, .ptr 2 0), (3, .ptr 4 0), (6, iS i7), (7, iS (ix c0 i7)), (33, bS false)] [(0, .row 3 (fl c0)), (1, .row 26 [.sl c1.length (fl c1)]), (2, .row 26 [.own 3 0 c3q9.length]), (3, .row 3 (fl c3q9)), (4, .row 3 [iS c4q9])] 5 (by kernel_rfl) ?_
            refine rs 4 [] [] (by kernel_rfl) allP_nil ?_
            refine rf [(0, .own 0 0 c0.length), (1, .ptr 1 0), (2, .ptr 2 0), (3, .ptr 4 0), (6, iS i7), (7, iS (ix c0 i7)), (37, bS (decide ((ix c0 i7) < c4q9)))] [(0, .row 3 (fl c0)), (1, .row 26 [.sl c1.length (fl c1)]), (2, .row 26 [.own 3 0 c3q9.length]), (3, .row 3 (fl c3q9)), (4, .row 3 [iS c4q9])] 5 (by kernel_rfl) ?_
            exact hK2804 () _ _ _ trivial (leSt_m [(0, 0), (1, 1), (2, 2), (3, 3), (4, 4)] [] (by first | ((try simp only [g2805, g2806, g2809]) <;> simp only [push_cast, seval]; done) | ((try simp only [g2805]); (try simp only [g2806]); (try simp only [g2809]); simp only [push_cast, seval]; done) | (exfalso; clear h; simp_all; done)) (by first | ((try simp only [g2805, g2806, g2809]) <;> simp only [push_cast, seval]; done) | ((try simp only [g2805]); (try simp only [g2806]); (try simp only [g2809]); simp only [push_cast, seval]; done) | (exfalso; clear h; simp_all; done)) rfl rfl rfl)
    · dsimp only
      refine cond_sx h (by kernel_rfl) (fun g2818 h => ?_) (fun g2818 h => ?_)
      · refine seq_np ?_
        refine reg_f ?_
        refine rs 1 [] [] (by kernel_rfl) allP_nil ?_
        refine rf [(5, bS false)] [(0, .row 3 (fl c0)), (1, .row 26 [.sl c1.length (fl c1)]), (2, .row 26 [.own 3 0 c3q9.length]), (3, .row 3 (fl c3q9)), (4, .row 3 [iS c4q9])] 5 (by kernel_rfl) ?_
        refine wk_id ?_
        refine rt_cast ht2 ?_
        obtain ⟨r0, h, e0⟩ := map_sx h
        have e1 := hr2 r0 e0.symm
        subst r0
        obtain rfl := Option.some.inj h
        refine ret_at (bS false) (by kernel_rfl) ?_
        exact ret_e [(0, 0), (1, 1), (2, 2), (3, 3), (4, 4)] [] (by simp only [push_cast, seval]) (by simp only [push_cast, seval]) rfl rfl rfl
      · refine wk_id ?_
        refine chk_sx h (fun g2815 h => ?_)
        refine chk_sx h (fun g2817 h => ?_)
        refine seq_np ?_
        refine reg_t ?_
        have k2814 : 0 ≤ (ix c0 i7) ∧ (ix c0 i7) < ((c3q9.length : Nat) : Int) := by first | simpa only [Bool.and_eq_true, decide_eq_true_eq, bne_iff_ne, ne_eq] using g2815 | (simp at g2815 ⊢; omega)
        have k2816 : 0 ≤ (ix c0 i7) ∧ (ix c0 i7) < ((c3q9.length : Nat) : Int) := by first | simpa only [Bool.and_eq_true, decide_eq_true_eq, bne_iff_ne, ne_eq] using g2817 | (simp at g2817 ⊢; omega)
        refine rs 9 [none, none, none, none, some ⟨.ptr 3 (0 + ((ix c0 i7)).toNat * 1), [], 9, [3]⟩, some ⟨iS (ix c3q9 (ix c0 i7)), [], 10, [3]⟩, none, some ⟨.ptr 3 (0 + ((ix c0 i7)).toNat * 1), [], 12, [3]⟩, some ⟨.any, [(3, .row 3 (fl (c3q9.set (ix c0 i7).toNat (IntKind.i64.wrap ((ix c3q9 (ix c0 i7)) - 2)))))], 13, [3]⟩] _ (by kernel_rfl) (allP_cons (ob_st (P := Try.prog) c3q9 (ix c0 i7) 1 0 (0 + ((ix c0 i7)).toNat * 1) k2816 rfl [iS (IntKind.i64.wrap ((ix c3q9 (ix c0 i7)) - 2))] (IntKind.i64.wrap ((ix c3q9 (ix c0 i7)) - 2)) (Nat.le_of_ble_eq_true rfl) (by first | rfl | omega) rfl 3 13 3 3 (by kernel_rfl) rfl) (allP_cons (ob_ix_o 3 c3q9.length 0 1 12 (ix c0 i7) k2816) (allP_cons (ob_ld c3q9 (ix c0 i7) 1 0 (0 + ((ix c0 i7)).toNat * 1) k2814 rfl (by decide) (by first | rfl | omega) (dflS Try.prog 3) (iS (ix c3q9 (ix c0 i7))) rfl 10 [3]) (allP_cons (ob_ix_o 3 c3q9.length 0 1 9 (ix c0 i7) k2814) allP_nil)))) ?_
        refine rt [(0, .own 0 0 c0.length), (1, .ptr 1 0), (2, .ptr 2 0), (3, .ptr 4 0), (6, iS i7), (7, iS (ix c0 i7))] [(0, .row 3 (fl c0)), (1, .row 26 [.sl c1.length (fl c1)]), (2, .row 26 [.own 3 0 c3q9.length]), (3, .row 3 (fl (c3q9.set (ix c0 i7).toNat (IntKind.i64.wrap ((ix c3q9 (ix c0 i7)) - 2))))), (4, .row 3 [iS c4q9])] 14 follows (by kernel_rfl) ?_
        refine wk_id ?_
        refine reg_f ?_
        refine rs 2 [] [] (by kernel_rfl) allP_nil ?_
        refine rf [(0, .own 0 0 c0.length), (1, .ptr 1 0), (2, .ptr 2 0), (3, .ptr 4 0), (6, iS i7)] [(0, .row 3 (fl c0)), (1, .row 26 [.sl c1.length (fl c1)]), (2, .row 26 [.own 3 0 c3q9.length]), (3, .row 3 (fl (c3q9.set (ix c0 i7).toNat (IntKind.i64.wrap ((ix c3q9 (ix c0 i7)) - 2))))), (4, .row 3 [iS (ix c0 i7)])] 14 (by kernel_rfl) ?_
        refine wk_id ?_
        refine wk_id ?_
        refine reg_f ?_
        refine rs 3 [] [] (by kernel_rfl) allP_nil ?_
        refine rf [(0, .own 0 0 c0.length), (1, .ptr 1 0), (2, .ptr 2 0), (3, .ptr 4 0), (6, iS (IntKind.i64.wrap (i7 + 1)))] [(0, .row 3 (fl c0)), (1, .row 26 [.sl c1.length (fl c1)]), (2, .row 26 [.own 3 0 c3q9.length]), (3, .row 3 (fl (c3q9.set (ix c0 i7).toNat (IntKind.i64.wrap ((ix c3q9 (ix c0 i7)) - 2))))), (4, .row 3 [iS (ix c0 i7)])] 14 (by kernel_rfl) ?_
        exact hn2 ((IntKind.i64.wrap (i7 + 1)), (c3q9.set (ix c0 i7).toNat (IntKind.i64.wrap ((ix c3q9 (ix c0 i7)) - 2))), (ix c0 i7)) _ _ _ (Option.some.inj h).symm (leSt_m [(0, 0), (1, 1), (2, 2), (3, 3), (4, 4)] [] (by simp only [push_cast, seval]) (by simp only [push_cast, seval]) rfl rfl rfl)
  · change R2 (.exit 0) _ _ _
    refine ex_cast hx2 (id := 0) ?_
    obtain ⟨r0, h, e0⟩ := map_sx h
    have e1 := hr2 r0 e0.symm
    subst r0
    refine wk_id ?_
    refine wk_id ?_
    refine seq_np ?_
    refine reg_f ?_
    refine rs 1 [] [] (by kernel_rfl) allP_nil ?_
    refine rf [(5, bS true)] [(0, .row 3 (fl c0)), (1, .row 26 [.sl c1.length (fl c1)]), (2, .row 26 [.own 3 0 c3q9.length]), (3, .row 3 (fl c3q9)), (4, .row 3 [iS c4q9])] 5 (by kernel_rfl) ?_
    refine wk_id ?_
    obtain rfl := Option.some.inj h
    refine ret_at (bS true) (by kernel_rfl) ?_
    exact ret_e [(0, 0), (1, 1), (2, 2), (3, 3), (4, 4)] [] (by simp only [push_cast, seval]) (by simp only [push_cast, seval]) rfl rfl rfl

set_option maxRecDepth 100000 in
set_option maxHeartbeats 10000000 in
theorem taskmilllaw_LockAlone_spec (moves : (List Int)) (r : Bool) (h : taskmilllaw_LockAlone moves = some r) : SpecW Try.prog 5 [.sl moves.length (fl moves)] [] 0 (fun x h n => x = bS r ∧ h = [] ∧ n = 0) := by
  unfold taskmilllaw_LockAlone at h
  refine spec_of (draw_ok _) Try.func5 rfl (by decide) rfl (by kernel_rfl) ?_
  refine seq_np ?_
  refine reg_f ?_
  refine rs 2 [] [] (by kernel_rfl) allP_nil ?_
  refine rf [(1, .ptr 0 0)] [(0, .row 26 [.sl moves.length (fl moves)])] 1 (by kernel_rfl) ?_
  refine wk_id ?_
  refine seq_np ?_
  refine seq_np ?_
  refine reg_f ?_
  obtain ⟨r3118, hr3118, h⟩ := bind_sx h
  refine run_call 8 [] (some 20) (by kernel_rfl) ?_
  refine call_0 (taskmilllaw_lockBegun_spec r3118 hr3118) (by simp only [push_cast, seval]) (by simp only [push_cast, seval]) ?_
  refine back_f ?_
  refine rs 1 [] [] (by kernel_rfl) allP_nil ?_
  refine rf [(1, .ptr 0 0), (21, bS (!r3118))] [(0, .row 26 [.sl moves.length (fl moves)])] 1 (by kernel_rfl) ?_
  refine wk_id ?_
  refine cond_sx h (by kernel_rfl) (fun g4547 h => ?_) (fun g4547 h => ?_)
  · refine seq_np ?_
    refine reg_f ?_
    refine rs 1 [] [] (by kernel_rfl) allP_nil ?_
    refine rf [(2, bS false)] [(0, .row 26 [.sl moves.length (fl moves)])] 1 (by kernel_rfl) ?_
    refine wk_id ?_
    obtain rfl := Option.some.inj h
    refine ret_at (bS false) (by kernel_rfl) ?_
    exact ret_e [] [] (by simp only [push_cast, seval]) (by simp only [push_cast, seval]) rfl rfl rfl
  · refine wk_id ?_
    refine seq_np ?_
    refine seq_np ?_
    refine reg_f ?_
    refine rs 3 [] [] (by kernel_rfl) allP_nil ?_
    refine rf [(1, .ptr 0 0), (24, bS (decide ((200 : Int) < ((moves.length : Nat) : Int))))] [(0, .row 26 [.sl moves.length (fl moves)])] 1 (by kernel_rfl) ?_
    refine wk_id ?_
    refine cond_sx h (by kernel_rfl) (fun g4546 h => ?_) (fun g4546 h => ?_)
    · refine seq_np ?_
      refine reg_f ?_
      refine rs 1 [] [] (by kernel_rfl) allP_nil ?_
      refine rf [(2, bS true)] [(0, .row 26 [.sl moves.length (fl moves)])] 1 (by kernel_rfl) ?_
      refine wk_id ?_
      obtain rfl := Option.some.inj h
      refine ret_at (bS true) (by kernel_rfl) ?_
      exact ret_e [] [] (by simp only [push_cast, seval]) (by simp only [push_cast, seval]) rfl rfl rfl
    · refine wk_id ?_
      refine seq_np ?_
      refine reg_f ?_
      refine rs 3 [] [] (by kernel_rfl) allP_nil ?_
      refine rf [(1, .ptr 0 0), (3, .ptr 1 0)] [(0, .row 26 [.sl moves.length (fl moves)]), (1, .row 24 [iS 0, bS false, .v (.slice none 0 0)])] 2 (by kernel_rfl) ?_
      refine wk_id ?_
      refine chk_sx h (fun g3123 h => ?_)
      refine seq_np ?_
      refine reg_f ?_
      have k3122 : 0 ≤ (IntKind.i64.wrap (((moves.length : Nat) : Int) + 1)) ∧ (IntKind.i64.wrap (((moves.length : Nat) : Int) + 1)) ≤ 4611686018427387904 ∧ (8 : Int) * (IntKind.i64.wrap (((moves.length : Nat) : Int) + 1)) ≤ 140737488355328 := by first | simpa only [Bool.and_eq_true, decide_eq_true_eq, bne_iff_ne, ne_eq] using g3123 | (simp at g3123 ⊢; omega)
      refine rs 6 [none, none, none, some ⟨.own 2 0 (List.replicate ((IntKind.i64.wrap (((moves.length : Nat) : Int) + 1))).toNat (default : Int)).length, [(2, .row 3 (fl (List.replicate ((IntKind.i64.wrap (((moves.length : Nat) : Int) + 1))).toNat (default : Int))))], 3, []⟩] _ (by kernel_rfl) (allP_cons (ob_mk (P := Try.prog) (α := Int) (IntKind.i64.wrap (((moves.length : Nat) : Int) + 1)) 3 8 (by kernel_rfl) [iS 0] rfl 1 rfl (by decide) k3122 2) allP_nil) ?_
      refine rf [(1, .ptr 0 0), (3, .ptr 1 0), (4, .ptr 3 0)] [(0, .row 26 [.sl moves.length (fl moves)]), (1, .row 24 [iS 0, bS false, .v (.slice none 0 0)]), (2, .row 3 (fl (List.replicate ((IntKind.i64.wrap (((moves.length : Nat) : Int) + 1))).toNat (default : Int)))), (3, .row 26 [.own 2 0 (List.replicate ((IntKind.i64.wrap (((moves.length : Nat) : Int) + 1))).toNat (default : Int)).length])] 4 (by kernel_rfl) ?_
      refine wk_id ?_
      refine seq_np ?_
      refine reg_f ?_
      refine rs 2 [] [] (by kernel_rfl) allP_nil ?_
      refine rf [(1, .ptr 0 0), (3, .ptr 1 0), (4, .ptr 3 0), (5, .ptr 4 0)] [(0, .row 26 [.sl moves.length (fl moves)]), (1, .row 24 [iS 0, bS false, .v (.slice none 0 0)]), (2, .row 3 (fl (List.replicate ((IntKind.i64.wrap (((moves.length : Nat) : Int) + 1))).toNat (default : Int)))), (3, .row 26 [.own 2 0 (List.replicate ((IntKind.i64.wrap (((moves.length : Nat) : Int) + 1))).toNat (default : Int)).length]), (4, .row 3 [iS 0])] 5 (by kernel_rfl) ?_
      refine wk_id ?_
      refine seq_np ?_
      refine reg_f ?_
      refine rs 2 [] [] (by kernel_rfl) allP_nil ?_
      refine rf [(1, .ptr 0 0), (3, .ptr 1 0), (4, .ptr 3 0), (6, .clo 23 [.ptr 0 0, .ptr 3 0, .ptr 4 0])] [(0, .row 26 [.sl moves.length (fl moves)]), (1, .row 24 [iS 0, bS false, .v (.slice none 0 0)]), (2, .row 3 (fl (List.replicate ((IntKind.i64.wrap (((moves.length : Nat) : Int) + 1))).toNat (default : Int)))), (3, .row 26 [.own 2 0 (List.replicate ((IntKind.i64.wrap (((moves.length : Nat) : Int) + 1))).toNat (default : Int)).length]), (4, .row 3 [iS 0])] 5 (by kernel_rfl) ?_
      refine wk_id ?_
      refine seq_np ?_
      refine seq_np ?_
      refine reg_f ?_
      refine rs 1 [] [] (by kernel_rfl) allP_nil ?_
      refine rf [(1, .ptr 0 0), (3, .ptr 1 0), (4, .ptr 3 0), (6, .clo 23 [.ptr 0 0, .ptr 3 0, .ptr 4 0]), (7, iS 0)] [(0, .row 26 [.sl moves.length (fl moves)]), (1, .row 24 [iS 0, bS false, .v (.slice none 0 0)]), (2, .row 3 (fl (List.replicate ((IntKind.i64.wrap (((moves.length : Nat) : Int) + 1))).toNat (default : Int)))), (3, .row 26 [.own 2 0 (List.replicate ((IntKind.i64.wrap (((moves.length : Nat) : Int) + 1))).toNat (default : Int)).length]), (4, .row 3 [iS 0])] 5 (by kernel_rfl) ?_
      refine wk_id ?_
      refine block_np ?_
      refine loop_sx (S := Int × (List Int) × Int × Bool × Int × (List Want) × (List Int)) (fun a => ([(1, .ptr 0 0), (3, .ptr 1 0), (4, .ptr 2 0), (6, .clo 23 [.ptr 0 0, .ptr 2 0, .ptr 3 0]), (7, iS a.1)], [(0, .row 26 [.sl a.2.1.length (fl a.2.1)]), (1, .row 24 [iS a.2.2.1, bS a.2.2.2.1, .own 4 0 a.2.2.2.2.2.1.length]), (2, .row 26 [.own 5 0 a.2.2.2.2.2.2.length]), (3, .row 3 [iS a.2.2.2.2.1]), (4, .row 47 (fl a.2.2.2.2.2.1)), (5, .row 3 (fl a.2.2.2.2.2.2))], 6)) h (leSt_m [(0, 0), (1, 1), (2, 3), (3, 4), (5, 2)] [] (by simp only [push_cast, seval]) (by simp only [push_cast, seval]) rfl rfl rfl) ?_
      rintro ⟨i7, c0q40, c1_Readers29, c1_Writer29, c3q40, c4q29, c5q33⟩ o4 R4 h hr4 hn4 hx4 ht4
      try dsimp only at h hn4 ⊢
      unfold taskmilllaw_LockAlone_l3 at h
      try dsimp only at h
      refine seq_np ?_
      refine seq_np ?_
      refine reg_f ?_
      refine rs 4 [] [] (by kernel_rfl) allP_nil ?_
      refine rf [(1, .ptr 0 0), (3, .ptr 1 0), (4, .ptr 2 0), (6, .clo 23 [.ptr 0 0, .ptr 2 0, .ptr 3 0]), (7, iS i7), (34, bS (decide (i7 < ((c0q40.length : Nat) : Int))))] [(0, .row 26 [.sl c0q40.length (fl c0q40)]), (1, .row 24 [iS c1_Readers29, bS c1_Writer29, .own 4 0 c4q29.length]), (2, .row 26 [.own 5 0 c5q33.length]), (3, .row 3 [iS c3q40]), (4, .row 47 (fl c4q29)), (5, .row 3 (fl c5q33))] 6 (by kernel_rfl) ?_
      refine wk_id ?_
      refine cond_sx h (by kernel_rfl) (fun g4545 h => ?_) (fun g4545 h => ?_)
      · refine wk_id ?_
        refine seq_np ?_
        refine block_cut (A := (List Int) × Int × Bool × Int × (List Want) × (List Int)) (fun a => ([(1, .ptr 0 0), (3, .ptr 1 0), (4, .ptr 2 0), (6, .clo 23 [.ptr 0 0, .ptr 2 0, .ptr 3 0]), (7, iS i7)], [(0, .row 26 [.sl a.1.length (fl a.1)]), (1, .row 24 [iS a.2.1, bS a.2.2.1, .own 4 0 a.2.2.2.2.1.length]), (2, .row 26 [.own 5 0 a.2.2.2.2.2.length]), (3, .row 3 [iS a.2.2.2.1]), (4, .row 47 (fl a.2.2.2.2.1)), (5, .row 3 (fl a.2.2.2.2.2))], 6)) (fun a => (taskmilllaw_LockAlone_j1 i7 a.1 a.2.1 a.2.2.1 a.2.2.2.1 a.2.2.2.2.1 a.2.2.2.2.2) = some o4) (fun K4155 hK4155 => ?_) ?_
        · refine seq_np ?_
          refine reg_f ?_
          refine rs 3 [] [] (by kernel_rfl) allP_nil ?_
          refine rf [(1, .ptr 0 0), (3, .ptr 1 0), (4, .ptr 2 0), (6, .clo 23 [.ptr 0 0, .ptr 2 0, .ptr 3 0]), (7, iS i7), (8, iS (IntKind.i64.wrap (i7 + 1)))] [(0, .row 26 [.sl c0q40.length (fl c0q40)]), (1, .row 24 [iS c1_Readers29, bS c1_Writer29, .own 4 0 c4q29.length]), (2, .row 26 [.own 5 0 c5q33.length]), (3, .row 3 [iS c3q40]), (4, .row 47 (fl c4q29)), (5, .row 3 (fl c5q33))] 6 (by kernel_rfl) ?_
          refine wk_id ?_
          refine seq_np ?_
          refine chk_sx h (fun g4213 h => ?_)
          refine seq_np ?_
          refine reg_f ?_
          have k4212 : 0 ≤ i7 ∧ i7 < ((c0q40.length : Nat) : Int) := by first | simpa only [Bool.and_eq_true, decide_eq_true_eq, bne_iff_ne, ne_eq] using g4213 | (simp at g4213 ⊢; omega)
          refine rs 4 [none, none, some ⟨.iptr (fl c0q40) ((i7).toNat * 1), [], 6, []⟩, some ⟨iS (ix c0q40 i7), [], 6, []⟩] _ (by kernel_rfl) (allP_cons (ob_ld c0q40 i7 1 0 ((i7).toNat * 1) k4212 rfl (by decide) (by first | rfl | omega) (dflS Try.prog 3) (iS (ix c0q40 i7)) rfl 6 []) (allP_cons (ob_ix_l c0q40 1 6 i7 k4212) allP_nil)) ?_
          refine rf [(1, .ptr 0 0), (3, .ptr 1 0), (4, .ptr 2 0), (6, .clo 23 [.ptr 0 0, .ptr 2 0, .ptr 3 0]), (7, iS i7), (8, iS (IntKind.i64.wrap (i7 + 1))), (42, iS (ix c0q40 i7))] [(0, .row 26 [.sl c0q40.length (fl c0q40)]), (1, .row 24 [iS c1_Readers29, bS c1_Writer29, .own 4 0 c4q29.length]), (2, .row 26 [.own 5 0 c5q33.length]), (3, .row 3 [iS c3q40]), (4, .row 47 (fl c4q29)), (5, .row 3 (fl c5q33))] 6 (by kernel_rfl) ?_
          refine wk_id ?_
          refine block_cut (A := (List Int) × Int × Bool × Int × (List Want) × (List Int)) (fun a => ([(1, .ptr 0 0), (3, .ptr 1 0), (4, .ptr 2 0), (6, .clo 23 [.ptr 0 0, .ptr 2 0, .ptr 3 0]), (7, iS i7)], [(0, .row 26 [.sl a.1.length (fl a.1)]), (1, .row 24 [iS a.2.1, bS a.2.2.1, .own 4 0 a.2.2.2.2.1.length]), (2, .row 26 [.own 5 0 a.2.2.2.2.2.length]), (3, .row 3 [iS a.2.2.2.1]), (4, .row 47 (fl a.2.2.2.2.1)), (5, .row 3 (fl a.2.2.2.2.2))], 6)) (fun a => (taskmilllaw_LockAlone_j5 i7 a.1 a.2.1 a.2.2.1 a.2.2.2.1 a.2.2.2.2.1 a.2.2.2.2.2) = some o4) (fun K4265 hK4265 => ?_) ?_
          · refine seq_cut (A := Bool) (fun a => ([(1, .ptr 0 0), (3, .ptr 1 0), (4, .ptr 2 0), (6, .clo 23 [.ptr 0 0, .ptr 2 0, .ptr 3 0]), (7, iS i7), (8, iS (IntKind.i64.wrap (i7 + 1))), (42, iS (ix c0q40 i7)), (43, bS a)], [(0, .row 26 [.sl c0q40.length (fl c0q40)]), (1, .row 24 [iS c1_Readers29, bS c1_Writer29, .own 4 0 c4q29.length]), (2, .row 26 [.own 5 0 c5q33.length]), (3, .row 3 [iS c3q40]), (4, .row 47 (fl c4q29)), (5, .row 3 (fl c5q33))], 6)) (fun a => (taskmilllaw_LockAlone_j8 i7 c0q40 c1_Readers29 c1_Writer29 c3q40 c4q29 c5q33 a) = some o4) (fun K4268 hK4268 => ?_) ?_
            · refine seq_np ?_
              refine reg_f ?_
              refine rs 2 [] [] (by kernel_rfl) allP_nil ?_
              refine rf [(1, .ptr 0 0), (3, .ptr 1 0), (4, .ptr 2 0), (6, .clo 23 [.ptr 0 0, .ptr 2 0, .ptr 3 0]), (7, iS i7), (8, iS (IntKind.i64.wrap (i7 + 1))), (42, iS (ix c0q40 i7)), (43, bS ((ix c0q40 i7) == 0))] [(0, .row 26 [.sl c0q40.length (fl c0q40)]), (1, .row 24 [iS c1_Readers29, bS c1_Writer29, .own 4 0 c4q29.length]), (2, .row 26 [.own 5 0 c5q33.length]), (3, .row 3 [iS c3q40]), (4, .row 47 (fl c4q29)), (5, .row 3 (fl c5q33))] 6 (by kernel_rfl) ?_
              refine wk_id ?_
              refine cond_sx h (by kernel_rfl) (fun g4269 h => ?_) (fun g4269 h => ?_)
              · exact hK4268 (((ix c0q40 i7) == 0)) _ _ _ h (leSt_m [(0, 0), (1, 1), (2, 2), (3, 3), (4, 4), (5, 5)] [] (by simp only [push_cast, seval]) (by simp only [push_cast, seval]) rfl rfl rfl)
              · refine reg_f ?_
                refine rs 2 [] [] (by kernel_rfl) allP_nil ?_
                refine rf [(1, .ptr 0 0), (3, .ptr 1 0), (4, .ptr 2 0), (6, .clo 23 [.ptr 0 0, .ptr 2 0, .ptr 3 0]), (7, iS i7), (8, iS (IntKind.i64.wrap (i7 + 1))), (42, iS (ix c0q40 i7)), (43, bS ((ix c0q40 i7) == 1))] [(0, .row 26 [.sl c0q40.length (fl c0q40)]), (1, .row 24 [iS c1_Readers29, bS c1_Writer29, .own 4 0 c4q29.length]), (2, .row 26 [.own 5 0 c5q33.length]), (3, .row 3 [iS c3q40]), (4, .row 47 (fl c4q29)), (5, .row 3 (fl c5q33))] 6 (by kernel_rfl) ?_
                exact hK4268 (((ix c0q40 i7) == 1)) _ _ _ h (leSt_m [(0, 0), (1, 1), (2, 2), (3, 3), (4, 4), (5, 5)] [] (by simp only [push_cast, seval]) (by simp only [push_cast, seval]) rfl rfl rfl)
            · rintro t43q15 h
              try dsimp only at h ⊢
              unfold taskmilllaw_LockAlone_j8 at h
              refine cond_sx h (by kernel_rfl) (fun g4395 h => ?_) (fun g4395 h => ?_)
              · refine chk_sx h (fun g4274 h => ?_)
                refine seq_np ?_
                refine reg_t ?_
                have k4273 : 0 ≤ i7 ∧ i7 < ((c0q40.length : Nat) : Int) := by first | simpa only [Bool.and_eq_true, decide_eq_true_eq, bne_iff_ne, ne_eq] using g4274 | (simp at g4274 ⊢; omega)
                refine rs 7 [none, none, none, none, some ⟨.iptr (fl c0q40) ((i7).toNat * 1), [], 10, []⟩, some ⟨iS (ix c0q40 i7), [], 11, []⟩] _ (by kernel_rfl) (allP_cons (ob_ld c0q40 i7 1 0 ((i7).toNat * 1) k4273 rfl (by decide) (by first | rfl | omega) (dflS Try.prog 3) (iS (ix c0q40 i7)) rfl 11 []) (allP_cons (ob_ix_l c0q40 1 10 i7 k4273) allP_nil)) ?_
                obtain ⟨r4275, hr4275, h⟩ := bind_sx h
                refine call_x (lock_Enter_spec (Lock.mk c1_Readers29 c1_Writer29 c4q29) (IntKind.i64.wrap (i7 + 1)) ((ix c0q40 i7) == 1) false r4275 hr4275) (args := [.agg [iS c1_Readers29, bS c1_Writer29, .own 4 0 c4q29.length], iS (IntKind.i64.wrap (i7 + 1)), bS ((ix c0q40 i7) == 1), bS false]) (dst := (some 54)) (by kernel_rfl) [(0, .row 26 [.sl c0q40.length (fl c0q40)]), (1, .row 24 [iS c1_Readers29, bS c1_Writer29, .own 4 0 c4q29.length]), (2, .row 26 [.own 5 0 c5q33.length]), (3, .row 3 [iS c3q40]), (4, .row 47 (fl c4q29)), (5, .row 3 (fl c5q33))] 13 (by kernel_rfl) [] [4] (.tup [.agg [iS r4275.1, bS r4275.2.1, .own 13 0 r4275.2.2.2.2.length], bS r4275.2.2.1, .agg (Enc.cells r4275.2.2.2.1)]) [(13, .row 47 (fl r4275.2.2.2.2))] (by simp only [push_cast, seval]) (by simp only [push_cast, seval]) (by kernel_rfl) (.inr ⟨by simp only [push_cast, seval], by simp only [push_cast, seval]⟩) (by simp only [push_cast, seval]) (by simp only [push_cast, seval]) ?_
                refine rs 9 [] [] (by kernel_rfl) allP_nil ?_
                refine rt [(1, .ptr 0 0), (3, .ptr 1 0), (4, .ptr 2 0), (6, .clo 23 [.ptr 0 0, .ptr 2 0, .ptr 3 0]), (7, iS i7), (8, iS (IntKind.i64.wrap (i7 + 1))), (9, .ptr 19 0), (10, bS r4275.2.2.1), (11, .ptr 21 0)] [(0, .row 26 [.sl c0q40.length (fl c0q40)]), (1, .row 24 [iS c1_Readers29, bS c1_Writer29, .own 4 0 c4q29.length]), (2, .row 26 [.own 5 0 c5q33.length]), (3, .row 3 [iS c3q40]), (4, .row 47 (fl c4q29)), (5, .row 3 (fl c5q33)), (13, .row 47 (fl r4275.2.2.2.2)), (19, .row 24 [iS r4275.1, bS r4275.2.1, .own 13 0 r4275.2.2.2.2.length]), (21, .row 28 (Enc.cells r4275.2.2.2.1))] 26 follows (by kernel_rfl) ?_
                refine wk_id ?_
                refine seq_np ?_
                refine seq_np ?_
                refine reg_f ?_
                refine rs 3 [] [] (by kernel_rfl) allP_nil ?_
                refine rf [(1, .ptr 0 0), (3, .ptr 1 0), (4, .ptr 2 0), (6, .clo 23 [.ptr 0 0, .ptr 2 0, .ptr 3 0]), (7, iS i7), (8, iS (IntKind.i64.wrap (i7 + 1))), (9, .ptr 19 0), (10, bS r4275.2.2.1), (60, bS (r4275.2.2.2.1.Code != 0))] [(0, .row 26 [.sl c0q40.length (fl c0q40)]), (1, .row 24 [iS c1_Readers29, bS c1_Writer29, .own 4 0 c4q29.length]), (2, .row 26 [.own 5 0 c5q33.length]), (3, .row 3 [iS c3q40]), (4, .row 47 (fl c4q29)), (5, .row 3 (fl c5q33)), (13, .row 47 (fl r4275.2.2.2.2)), (19, .row 24 [iS r4275.1, bS r4275.2.1, .own 13 0 r4275.2.2.2.2.length]), (21, .row 28 (Enc.cells r4275.2.2.2.1))] 26 (by kernel_rfl) ?_
                refine wk_id ?_
                refine cond_sx h (by kernel_rfl) (fun g4297 h => ?_) (fun g4297 h => ?_)
                · refine seq_np ?_
                  refine reg_f ?_
                  refine rs 1 [] [] (by kernel_rfl) allP_nil ?_
                  refine rf [(2, bS false)] [(0, .row 26 [.sl c0q40.length (fl c0q40)]), (1, .row 24 [iS c1_Readers29, bS c1_Writer29, .own 4 0 c4q29.length]), (2, .row 26 [.own 5 0 c5q33.length]), (3, .row 3 [iS c3q40]), (4, .row 47 (fl c4q29)), (5, .row 3 (fl c5q33)), (13, .row 47 (fl r4275.2.2.2.2)), (19, .row 24 [iS r4275.1, bS r4275.2.1, .own 13 0 r4275.2.2.2.2.length]), (21, .row 28 (Enc.cells r4275.2.2.2.1))] 26 (by kernel_rfl) ?_
                  refine wk_id ?_
                  refine rt_cast ht4 ?_
                  obtain ⟨r0, h, e0⟩ := map_sx h
                  have e1 := hr4 r0 e0.symm
                  subst r0
                  obtain rfl := Option.some.inj h
                  refine ret_at (bS false) (by kernel_rfl) ?_
                  exact ret_e [] [] (by simp only [push_cast, seval]) (by simp only [push_cast, seval]) rfl rfl rfl
                · refine wk_id ?_
                  refine chk_sx h (fun g4282 h => ?_)
                  refine chk_sx h (fun g4284 h => ?_)
                  refine seq_np ?_
                  refine reg_t ?_
                  have k4281 : 0 ≤ i7 ∧ i7 < ((c0q40.length : Nat) : Int) := by first | simpa only [Bool.and_eq_true, decide_eq_true_eq, bne_iff_ne, ne_eq] using g4282 | (simp at g4282 ⊢; omega)
                  have k4283 : 0 ≤ (IntKind.i64.wrap (i7 + 1)) ∧ (IntKind.i64.wrap (i7 + 1)) < ((c5q33.length : Nat) : Int) := by first | simpa only [Bool.and_eq_true, decide_eq_true_eq, bne_iff_ne, ne_eq] using g4284 | (simp at g4284 ⊢; omega)
                  refine rs 9 [none, none, none, none, some ⟨.iptr (fl c0q40) ((i7).toNat * 1), [], 30, []⟩, some ⟨iS (ix c0q40 i7), [], 31, []⟩, none, some ⟨.ptr 5 (0 + ((IntKind.i64.wrap (i7 + 1))).toNat * 1), [], 33, [5]⟩, some ⟨.any, [(5, .row 3 (fl (c5q33.set (IntKind.i64.wrap (i7 + 1)).toNat (IntKind.i64.wrap ((3 : Int) + (ix c0q40 i7))))))], 34, [5]⟩] _ (by kernel_rfl) (allP_cons (ob_st (P := Try.prog) c5q33 (IntKind.i64.wrap (i7 + 1)) 1 0 (0 + ((IntKind.i64.wrap (i7 + 1))).toNat * 1) k4283 rfl [iS (IntKind.i64.wrap ((3 : Int) + (ix c0q40 i7)))] (IntKind.i64.wrap ((3 : Int) + (ix c0q40 i7))) (Nat.le_of_ble_eq_true rfl) (by first | rfl | omega) rfl 5 34 3 3 (by kernel_rfl) rfl) (allP_cons (ob_ix_o 5 c5q33.length 0 1 33 (IntKind.i64.wrap (i7 + 1)) k4283) (allP_cons (ob_ld c0q40 i7 1 0 ((i7).toNat * 1) k4281 rfl (by decide) (by first | rfl | omega) (dflS Try.prog 3) (iS (ix c0q40 i7)) rfl 31 []) (allP_cons (ob_ix_l c0q40 1 30 i7 k4281) allP_nil)))) ?_
                  refine rt [(1, .ptr 0 0), (3, .ptr 1 0), (4, .ptr 2 0), (6, .clo 23 [.ptr 0 0, .ptr 2 0, .ptr 3 0]), (7, iS i7), (8, iS (IntKind.i64.wrap (i7 + 1))), (9, .ptr 19 0), (10, bS r4275.2.2.1)] [(0, .row 26 [.sl c0q40.length (fl c0q40)]), (1, .row 24 [iS c1_Readers29, bS c1_Writer29, .own 4 0 c4q29.length]), (2, .row 26 [.own 5 0 c5q33.length]), (3, .row 3 [iS c3q40]), (4, .row 47 (fl c4q29)), (5, .row 3 (fl (c5q33.set (IntKind.i64.wrap (i7 + 1)).toNat (IntKind.i64.wrap ((3 : Int) + (ix c0q40 i7)))))), (13, .row 47 (fl r4275.2.2.2.2)), (19, .row 24 [iS r4275.1, bS r4275.2.1, .own 13 0 r4275.2.2.2.2.length]), (21, .row 28 (Enc.cells r4275.2.2.2.1))] 35 follows (by kernel_rfl) ?_
                  refine wk_id ?_
                  refine seq_np ?_
                  refine seq_cut (A := Bool × (List Int) × Int × Int × Bool × (List Int) × (List Want)) (fun a => ([(1, .ptr 0 0), (3, .ptr 1 0), (4, .ptr 2 0), (6, .clo 23 [.ptr 0 0, .ptr 2 0, .ptr 3 0]), (7, iS i7), (9, .ptr 4 0), (76, bS a.1)], [(0, .row 26 [.sl a.2.1.length (fl a.2.1)]), (1, .row 24 [iS c1_Readers29, bS c1_Writer29, .own 5 0 c4q29.length]), (2, .row 26 [.own 6 0 a.2.2.2.2.2.1.length]), (3, .row 3 [iS a.2.2.1]), (4, .row 24 [iS a.2.2.2.1, bS a.2.2.2.2.1, .own 7 0 a.2.2.2.2.2.2.length]), (5, .row 47 (fl c4q29)), (6, .row 3 (fl a.2.2.2.2.2.1)), (7, .row 47 (fl a.2.2.2.2.2.2))], 8)) (fun a => (taskmilllaw_LockAlone_j6 i7 c1_Readers29 c1_Writer29 c4q29 a.1 a.2.1 a.2.2.1 a.2.2.2.1 a.2.2.2.2.1 a.2.2.2.2.2.1 a.2.2.2.2.2.2) = some o4) (fun K4293 hK4293 => ?_) ?_
                  · refine reg_f ?_
                    refine rs 2 [] [] (by kernel_rfl) allP_nil ?_
                    refine run_br h 70 (.inl (by kernel_rfl)) (fun g4294 h => ?_) (fun g4294 h => ?_)
                    · refine rs 3 [] [] (by kernel_rfl) allP_nil ?_
                      obtain ⟨r4295, hr4295, h⟩ := bind_sx h
                      refine call_x (taskmilllaw_LockAlone_1_1_spec ([(IntKind.i64.wrap (i7 + 1))] : List Int) c0q40 c3q40 (c5q33.set (IntKind.i64.wrap (i7 + 1)).toNat (IntKind.i64.wrap ((3 : Int) + (ix c0q40 i7)))) r4295 hr4295) (args := [.own 35 0 ([(IntKind.i64.wrap (i7 + 1))] : List Int).length, .ptr 0 0, .ptr 2 0, .ptr 3 0]) (dst := (some 74)) (by kernel_rfl) [(0, .row 26 [.sl c0q40.length (fl c0q40)]), (1, .row 24 [iS c1_Readers29, bS c1_Writer29, .own 4 0 c4q29.length]), (2, .row 26 [.own 5 0 c5q33.length]), (3, .row 3 [iS c3q40]), (4, .row 47 (fl c4q29)), (5, .row 3 (fl (c5q33.set (IntKind.i64.wrap (i7 + 1)).toNat (IntKind.i64.wrap ((3 : Int) + (ix c0q40 i7)))))), (13, .row 47 (fl r4275.2.2.2.2)), (19, .row 24 [iS r4275.1, bS r4275.2.1, .own 13 0 r4275.2.2.2.2.length]), (21, .row 28 (Enc.cells r4275.2.2.2.1)), (35, .row 3 (fl ([(IntKind.i64.wrap (i7 + 1))] : List Int)))] 36 (by kernel_rfl) [(0, 35), (1, 0), (2, 2), (3, 5), (4, 3)] [] (bS r4295.1) [(35, .row 3 (fl r4295.2.1)), (0, .row 26 [.sl r4295.2.2.1.length (fl r4295.2.2.1)]), (2, .row 26 [.own 5 0 r4295.2.2.2.1.length]), (5, .row 3 (fl r4295.2.2.2.1)), (3, .row 3 [iS r4295.2.2.2.2]), (35, .dead), (0, .dead), (2, .dead), (5, .dead), (3, .dead)] (by simp only [push_cast, seval]) (by simp only [push_cast, seval]) (by kernel_rfl) (.inl rfl) (by simp only [push_cast, seval]) (by simp only [push_cast, seval]) ?_
                      refine rs 2 [] [] (by kernel_rfl) allP_nil ?_
                      refine rf [(1, .ptr 0 0), (3, .ptr 1 0), (4, .ptr 2 0), (6, .clo 23 [.ptr 0 0, .ptr 2 0, .ptr 3 0]), (7, iS i7), (9, .ptr 19 0), (76, bS (!r4295.1))] [(0, .row 26 [.sl r4295.2.2.1.length (fl r4295.2.2.1)]), (1, .row 24 [iS c1_Readers29, bS c1_Writer29, .own 4 0 c4q29.length]), (2, .row 26 [.own 5 0 r4295.2.2.2.1.length]), (3, .row 3 [iS r4295.2.2.2.2]), (4, .row 47 (fl c4q29)), (5, .row 3 (fl r4295.2.2.2.1)), (13, .row 47 (fl r4275.2.2.2.2)), (19, .row 24 [iS r4275.1, bS r4275.2.1, .own 13 0 r4275.2.2.2.2.length]), (21, .row 28 (Enc.cells r4275.2.2.2.1)), (35, .row 3 (fl r4295.2.1))] 41 (by kernel_rfl) ?_
                      exact hK4293 ((!r4295.1), r4295.2.2.1, r4295.2.2.2.2, r4275.1, r4275.2.1, r4295.2.2.2.1, r4275.2.2.2.2) _ _ _ h (leSt_m [(0, 0), (1, 1), (2, 2), (3, 3), (4, 19), (5, 4), (6, 5), (7, 13)] [] (by (try simp only [g4294]) <;> simp only [push_cast, seval]) (by (try simp only [g4294]) <;> simp only [push_cast, seval]) rfl rfl rfl)
                    · refine rs 6 [] [] (by kernel_rfl) allP_nil ?_
                      refine rf [(1, .ptr 0 0), (3, .ptr 1 0), (4, .ptr 2 0), (6, .clo 23 [.ptr 0 0, .ptr 2 0, .ptr 3 0]), (7, iS i7), (9, .ptr 19 0), (76, bS false)] [(0, .row 26 [.sl c0q40.length (fl c0q40)]), (1, .row 24 [iS c1_Readers29, bS c1_Writer29, .own 4 0 c4q29.length]), (2, .row 26 [.own 5 0 c5q33.length]), (3, .row 3 [iS c3q40]), (4, .row 47 (fl c4q29)), (5, .row 3 (fl (c5q33.set (IntKind.i64.wrap (i7 + 1)).toNat (IntKind.i64.wrap ((3 : Int) + (ix c0q40 i7)))))), (13, .row 47 (fl r4275.2.2.2.2)), (19, .row 24 [iS r4275.1, bS r4275.2.1, .own 13 0 r4275.2.2.2.2.length]), (21, .row 28 (Enc.cells r4275.2.2.2.1))] 35 (by kernel_rfl) ?_
                      exact hK4293 (false, c0q40, c3q40, r4275.1, r4275.2.1, (c5q33.set (IntKind.i64.wrap (i7 + 1)).toNat (IntKind.i64.wrap ((3 : Int) + (ix c0q40 i7)))), r4275.2.2.2.2) _ _ _ h (leSt_m [(0, 0), (1, 1), (2, 2), (3, 3), (4, 19), (5, 4), (6, 5), (7, 13)] [] (by (try simp only [g4294]) <;> simp only [push_cast, seval]) (by (try simp only [g4294]) <;> simp only [push_cast, seval]) rfl rfl rfl)
                  · rintro ⟨t76q16, c0q52, c3q52, c4_Readers16, c4_Writer16, c6q16, c7q12⟩ h
                    try dsimp only at h ⊢
                    unfold taskmilllaw_LockAlone_j6 at h
                    refine cond_sx h (by kernel_rfl) (fun g4296 h => ?_) (fun g4296 h => ?_)
                    · refine seq_np ?_
                      refine reg_f ?_
                      refine rs 1 [] [] (by kernel_rfl) allP_nil ?_
                      refine rf [(2, bS false)] [(0, .row 26 [.sl c0q52.length (fl c0q52)]), (1, .row 24 [iS c1_Readers29, bS c1_Writer29, .own 5 0 c4q29.length]), (2, .row 26 [.own 6 0 c6q16.length]), (3, .row 3 [iS c3q52]), (4, .row 24 [iS c4_Readers16, bS c4_Writer16, .own 7 0 c7q12.length]), (5, .row 47 (fl c4q29)), (6, .row 3 (fl c6q16)), (7, .row 47 (fl c7q12))] 8 (by kernel_rfl) ?_
                      refine wk_id ?_
                      refine rt_cast ht4 ?_
                      obtain ⟨r0, h, e0⟩ := map_sx h
                      have e1 := hr4 r0 e0.symm
                      subst r0
                      obtain rfl := Option.some.inj h
                      refine ret_at (bS false) (by kernel_rfl) ?_
                      exact ret_e [] [] (by simp only [push_cast, seval]) (by simp only [push_cast, seval]) rfl rfl rfl
                    · refine wk_id ?_
                      refine reg_f ?_
                      refine rs 2 [] [] (by kernel_rfl) allP_nil ?_
                      refine rf [(1, .ptr 0 0), (3, .ptr 1 0), (4, .ptr 2 0), (6, .clo 23 [.ptr 0 0, .ptr 2 0, .ptr 3 0]), (7, iS i7)] [(0, .row 26 [.sl c0q52.length (fl c0q52)]), (1, .row 24 [iS c4_Readers16, bS c4_Writer16, .own 7 0 c7q12.length]), (2, .row 26 [.own 6 0 c6q16.length]), (3, .row 3 [iS c3q52]), (4, .row 24 [iS c4_Readers16, bS c4_Writer16, .own 7 0 c7q12.length]), (5, .row 47 (fl c4q29)), (6, .row 3 (fl c6q16)), (7, .row 47 (fl c7q12))] 8 (by kernel_rfl) ?_
                      exact hK4265 (c0q52, c4_Readers16, c4_Writer16, c3q52, c7q12, c6q16) _ _ _ h (leSt_m [(0, 0), (1, 1), (2, 2), (3, 3), (4, 7), (5, 6)] [] (by simp only [push_cast, seval]) (by simp only [push_cast, seval]) rfl rfl rfl)
              · refine seq_cut (A := Bool) (fun a => ([(1, .ptr 0 0), (3, .ptr 1 0), (4, .ptr 2 0), (6, .clo 23 [.ptr 0 0, .ptr 2 0, .ptr 3 0]), (7, iS i7), (78, bS a)], [(0, .row 26 [.sl c0q40.length (fl c0q40)]), (1, .row 24 [iS c1_Readers29, bS c1_Writer29, .own 4 0 c4q29.length]), (2, .row 26 [.own 5 0 c5q33.length]), (3, .row 3 [iS c3q40]), (4, .row 47 (fl c4q29)), (5, .row 3 (fl c5q33))], 6)) (fun a => (taskmilllaw_LockAlone_j7 i7 c0q40 c1_Readers29 c1_Writer29 c3q40 c4q29 c5q33 a) = some o4) (fun K4300 hK4300 => ?_) ?_
                · refine seq_np ?_
                  refine reg_f ?_
                  refine rs 2 [] [] (by kernel_rfl) allP_nil ?_
                  refine rf [(1, .ptr 0 0), (3, .ptr 1 0), (4, .ptr 2 0), (6, .clo 23 [.ptr 0 0, .ptr 2 0, .ptr 3 0]), (7, iS i7), (42, iS (ix c0q40 i7)), (78, bS ((ix c0q40 i7) == 2))] [(0, .row 26 [.sl c0q40.length (fl c0q40)]), (1, .row 24 [iS c1_Readers29, bS c1_Writer29, .own 4 0 c4q29.length]), (2, .row 26 [.own 5 0 c5q33.length]), (3, .row 3 [iS c3q40]), (4, .row 47 (fl c4q29)), (5, .row 3 (fl c5q33))] 6 (by kernel_rfl) ?_
                  refine wk_id ?_
                  refine cond_sx h (by kernel_rfl) (fun g4301 h => ?_) (fun g4301 h => ?_)
                  · exact hK4300 (((ix c0q40 i7) == 2)) _ _ _ h (leSt_m [(0, 0), (1, 1), (2, 2), (3, 3), (4, 4), (5, 5)] [] (by simp only [push_cast, seval]) (by simp only [push_cast, seval]) rfl rfl rfl)
                  · refine reg_f ?_
                    refine rs 2 [] [] (by kernel_rfl) allP_nil ?_
                    refine rf [(1, .ptr 0 0), (3, .ptr 1 0), (4, .ptr 2 0), (6, .clo 23 [.ptr 0 0, .ptr 2 0, .ptr 3 0]), (7, iS i7), (78, bS ((ix c0q40 i7) == 3))] [(0, .row 26 [.sl c0q40.length (fl c0q40)]), (1, .row 24 [iS c1_Readers29, bS c1_Writer29, .own 4 0 c4q29.length]), (2, .row 26 [.own 5 0 c5q33.length]), (3, .row 3 [iS c3q40]), (4, .row 47 (fl c4q29)), (5, .row 3 (fl c5q33))] 6 (by kernel_rfl) ?_
                    exact hK4300 (((ix c0q40 i7) == 3)) _ _ _ h (leSt_m [(0, 0), (1, 1), (2, 2), (3, 3), (4, 4), (5, 5)] [] (by simp only [push_cast, seval]) (by simp only [push_cast, seval]) rfl rfl rfl)
                · rintro t78q15 h
                  try dsimp only at h ⊢
                  unfold taskmilllaw_LockAlone_j7 at h
                  refine cond_sx h (by kernel_rfl) (fun g4394 h => ?_) (fun g4394 h => ?_)
                  · refine seq_np ?_
                    refine reg_f ?_
                    refine rs 1 [] [] (by kernel_rfl) allP_nil ?_
                    refine rf [(1, .ptr 0 0), (3, .ptr 1 0), (4, .ptr 2 0), (6, .clo 23 [.ptr 0 0, .ptr 2 0, .ptr 3 0]), (7, iS i7), (12, iS 1)] [(0, .row 26 [.sl c0q40.length (fl c0q40)]), (1, .row 24 [iS c1_Readers29, bS c1_Writer29, .own 4 0 c4q29.length]), (2, .row 26 [.own 5 0 c5q33.length]), (3, .row 3 [iS c3q40]), (4, .row 47 (fl c4q29)), (5, .row 3 (fl c5q33))] 6 (by kernel_rfl) ?_
                    refine wk_id ?_
                    refine seq_np ?_
                    refine block_np ?_
                    refine loop_sx (S := Int) (fun a => ([(1, .ptr 0 0), (3, .ptr 1 0), (4, .ptr 2 0), (6, .clo 23 [.ptr 0 0, .ptr 2 0, .ptr 3 0]), (7, iS i7), (12, iS a)], [(0, .row 26 [.sl c0q40.length (fl c0q40)]), (1, .row 24 [iS c1_Readers29, bS c1_Writer29, .own 4 0 c4q29.length]), (2, .row 26 [.own 5 0 c5q33.length]), (3, .row 3 [iS c3q40]), (4, .row 47 (fl c4q29)), (5, .row 3 (fl c5q33))], 6)) h (leSt_m [(0, 0), (1, 1), (2, 2), (3, 3), (4, 4), (5, 5)] [] (by simp only [push_cast, seval]) (by simp only [push_cast, seval]) rfl rfl rfl) ?_
                    rintro t61 o5 R5 h hr5 hn5 hx5 ht5
                    try dsimp only at h hn5 ⊢
                    unfold taskmilllaw_LockAlone_l2 at h
                    try dsimp only at h
                    refine seq_np ?_
                    refine chk_sx h (fun g4367 h => ?_)
                    refine chk_sx h (fun g4369 h => ?_)
                    refine seq_cut (A := Unit) (fun _ => ([(1, .ptr 0 0), (3, .ptr 1 0), (4, .ptr 2 0), (6, .clo 23 [.ptr 0 0, .ptr 2 0, .ptr 3 0]), (7, iS i7), (12, iS t61), (96, bS ((decide (t61 ≤ ((c0q40.length : Nat) : Int))) && ((ix c5q33 t61) != (IntKind.i64.wrap ((ix c0q40 i7) - 1)))))], [(0, .row 26 [.sl c0q40.length (fl c0q40)]), (1, .row 24 [iS c1_Readers29, bS c1_Writer29, .own 4 0 c4q29.length]), (2, .row 26 [.own 5 0 c5q33.length]), (3, .row 3 [iS c3q40]), (4, .row 47 (fl c4q29)), (5, .row 3 (fl c5q33))], 22)) (fun _ => True) (fun K4364 hK4364 => ?_) (fun _ _ => ?_)
                    · refine reg_t ?_
                      refine rs 5 [] [] (by kernel_rfl) allP_nil ?_
                      refine run_split 85 (decide (t61 ≤ ((c0q40.length : Nat) : Int))) (.inl (by kernel_rfl)) (fun g4365 => ?_) (fun g4365 => ?_)
                      · have k4366 : 0 ≤ t61 ∧ t61 < ((c5q33.length : Nat) : Int) := by have e := or_use g4367 (by first | ((try simp only [g4365]) <;> rfl) | ((try simp only [g4365]); rfl) | (exfalso; clear h; simp_all; done)); first | simpa only [Bool.and_eq_true, decide_eq_true_eq, bne_iff_ne, ne_eq] using e | (simp at e ⊢; omega)
                        have k4368 : 0 ≤ i7 ∧ i7 < ((c0q40.length : Nat) : Int) := by have e := or_use g4369 (by first | ((try simp only [g4365]) <;> rfl) | ((try simp only [g4365]); rfl) | (exfalso; clear h; simp_all; done)); first | simpa only [Bool.and_eq_true, decide_eq_true_eq, bne_iff_ne, ne_eq] using e | (simp at e ⊢; omega)
                        refine rs 11 [none, none, some ⟨.ptr 5 (0 + (t61).toNat * 1), [], 13, [5]⟩, some ⟨iS (ix c5q33 t61), [], 14, [5]⟩, none, none, some ⟨.iptr (fl c0q40) ((i7).toNat * 1), [], 17, []⟩, some ⟨iS (ix c0q40 i7), [], 18, []⟩] _ (by kernel_rfl) (allP_cons (ob_ld c0q40 i7 1 0 ((i7).toNat * 1) k4368 rfl (by decide) (by first | rfl | omega) (dflS Try.prog 3) (iS (ix c0q40 i7)) rfl 18 []) (allP_cons (ob_ix_l c0q40 1 17 i7 k4368) (allP_cons (ob_ld c5q33 t61 1 0 (0 + (t61).toNat * 1) k4366 rfl (by decide) (by first | rfl | omega) (dflS Try.prog 3) (iS (ix c5q33 t61)) rfl 14 [5]) (allP_cons (ob_ix_o 5 c5q33.length 0 1 13 t61 k4366) allP_nil)))) ?_
                        refine rt [(1, .ptr 0 0), (3, .ptr 1 0), (4, .ptr 2 0), (6, .clo 23 [.ptr 0 0, .ptr 2 0, .ptr 3 0]), (7, iS i7), (12, iS t61), (96, bS ((ix c5q33 t61) != (IntKind.i64.wrap ((ix c0q40 i7) - 1))))] [(0, .row 26 [.sl c0q40.length (fl c0q40)]), (1, .row 24 [iS c1_Readers29, bS c1_Writer29, .own 4 0 c4q29.length]), (2, .row 26 [.own 5 0 c5q33.length]), (3, .row 3 [iS c3q40]), (4, .row 47 (fl c4q29)), (5, .row 3 (fl c5q33))] 22 follows (by kernel_rfl) ?_
                        exact hK4364 () _ _ _ trivial (leSt_m [(0, 0), (1, 1), (2, 2), (3, 3), (4, 4), (5, 5)] [] (by (try simp only [g4365]) <;> simp only [push_cast, seval]) (by (try simp only [g4365]) <;> simp only [push_cast, seval]) rfl rfl rfl)
                      · refine rs 11 [] [] (by kernel_rfl) allP_nil ?_
                        refine rt [(1, .ptr 0 0), (3, .ptr 1 0), (4, .ptr 2 0), (6, .clo 23 [.ptr 0 0, .ptr 2 0, .ptr 3 0]), (7, iS i7), (12, iS t61), (96, bS false)] [(0, .row 26 [.sl c0q40.length (fl c0q40)]), (1, .row 24 [iS c1_Readers29, bS c1_Writer29, .own 4 0 c4q29.length]), (2, .row 26 [.own 5 0 c5q33.length]), (3, .row 3 [iS c3q40]), (4, .row 47 (fl c4q29)), (5, .row 3 (fl c5q33))] 22 follows (by kernel_rfl) ?_
                        exact hK4364 () _ _ _ trivial (leSt_m [(0, 0), (1, 1), (2, 2), (3, 3), (4, 4), (5, 5)] [] (by (try simp only [g4365]) <;> simp only [push_cast, seval]) (by (try simp only [g4365]) <;> simp only [push_cast, seval]) rfl rfl rfl)
                    · dsimp only
                      refine cond_sx h (by kernel_rfl) (fun g4393 h => ?_) (fun g4393 h => ?_)
                      · refine wk_id ?_
                        refine block_np ?_
                        refine reg_f ?_
                        refine rs 3 [] [] (by kernel_rfl) allP_nil ?_
                        refine rf [(1, .ptr 0 0), (3, .ptr 1 0), (4, .ptr 2 0), (6, .clo 23 [.ptr 0 0, .ptr 2 0, .ptr 3 0]), (7, iS i7), (12, iS (IntKind.i64.wrap (t61 + 1)))] [(0, .row 26 [.sl c0q40.length (fl c0q40)]), (1, .row 24 [iS c1_Readers29, bS c1_Writer29, .own 4 0 c4q29.length]), (2, .row 26 [.own 5 0 c5q33.length]), (3, .row 3 [iS c3q40]), (4, .row 47 (fl c4q29)), (5, .row 3 (fl c5q33))] 22 (by kernel_rfl) ?_
                        refine wk_id ?_
                        exact hn5 ((IntKind.i64.wrap (t61 + 1))) _ _ _ (Option.some.inj h).symm (leSt_m [(0, 0), (1, 1), (2, 2), (3, 3), (4, 4), (5, 5)] [] (by simp only [push_cast, seval]) (by simp only [push_cast, seval]) rfl rfl rfl)
                      · change R5 (.exit 3) _ _ _
                        refine ex_cast hx5 (id := 3) ?_
                        obtain ⟨r0, h, e0⟩ := map_sx h
                        have e1 := hr5 r0 e0.symm
                        subst r0
                        refine wk_id ?_
                        refine wk_id ?_
                        refine chk_sx h (fun g4374 h => ?_)
                        refine seq_np ?_
                        refine reg_t ?_
                        have k4373 : 0 ≤ i7 ∧ i7 < ((c0q40.length : Nat) : Int) := by first | simpa only [Bool.and_eq_true, decide_eq_true_eq, bne_iff_ne, ne_eq] using g4374 | (simp at g4374 ⊢; omega)
                        refine rs 6 [none, none, none, some ⟨.iptr (fl c0q40) ((i7).toNat * 1), [], 25, []⟩, some ⟨iS (ix c0q40 i7), [], 26, []⟩] _ (by kernel_rfl) (allP_cons (ob_ld c0q40 i7 1 0 ((i7).toNat * 1) k4373 rfl (by decide) (by first | rfl | omega) (dflS Try.prog 3) (iS (ix c0q40 i7)) rfl 26 []) (allP_cons (ob_ix_l c0q40 1 25 i7 k4373) allP_nil)) ?_
                        obtain ⟨r4375, hr4375, h⟩ := bind_sx h
                        refine call_x (lock_Leave_spec (Lock.mk c1_Readers29 c1_Writer29 c4q29) ((ix c0q40 i7) == 3) r4375 hr4375) (args := [.agg [iS c1_Readers29, bS c1_Writer29, .own 4 0 c4q29.length], bS ((ix c0q40 i7) == 3)]) (dst := (some 106)) (by kernel_rfl) [(0, .row 26 [.sl c0q40.length (fl c0q40)]), (1, .row 24 [iS c1_Readers29, bS c1_Writer29, .own 4 0 c4q29.length]), (2, .row 26 [.own 5 0 c5q33.length]), (3, .row 3 [iS c3q40]), (4, .row 47 (fl c4q29)), (5, .row 3 (fl c5q33))] 28 (by kernel_rfl) [] [4] (.tup [.agg [iS r4375.1, bS r4375.2.1, .own 28 0 r4375.2.2.2.2.1.length], .own 29 0 r4375.2.2.2.2.2.length, bS r4375.2.2.1, .agg (Enc.cells r4375.2.2.2.1)]) [(28, .row 47 (fl r4375.2.2.2.2.1)), (29, .row 3 (fl r4375.2.2.2.2.2))] (by simp only [push_cast, seval]) (by simp only [push_cast, seval]) (by kernel_rfl) (.inr ⟨by simp only [push_cast, seval], by simp only [push_cast, seval]⟩) (by simp only [push_cast, seval]) (by simp only [push_cast, seval]) ?_
                        refine rs 11 [] [] (by kernel_rfl) allP_nil ?_
                        refine rt [(1, .ptr 0 0), (3, .ptr 1 0), (4, .ptr 2 0), (6, .clo 23 [.ptr 0 0, .ptr 2 0, .ptr 3 0]), (7, iS i7), (12, iS t61), (13, .ptr 36 0), (14, .own 29 0 r4375.2.2.2.2.2.length), (15, bS r4375.2.2.1), (16, .ptr 38 0)] [(0, .row 26 [.sl c0q40.length (fl c0q40)]), (1, .row 24 [iS c1_Readers29, bS c1_Writer29, .own 4 0 c4q29.length]), (2, .row 26 [.own 5 0 c5q33.length]), (3, .row 3 [iS c3q40]), (4, .row 47 (fl c4q29)), (5, .row 3 (fl c5q33)), (28, .row 47 (fl r4375.2.2.2.2.1)), (29, .row 3 (fl r4375.2.2.2.2.2)), (36, .row 24 [iS r4375.1, bS r4375.2.1, .own 28 0 r4375.2.2.2.2.1.length]), (38, .row 28 (Enc.cells r4375.2.2.2.1))] 44 follows (by kernel_rfl) ?_
                        refine wk_id ?_
                        refine seq_np ?_
                        refine seq_cut (A := Unit) (fun _ => ([(1, .ptr 0 0), (3, .ptr 1 0), (4, .ptr 2 0), (6, .clo 23 [.ptr 0 0, .ptr 2 0, .ptr 3 0]), (7, iS i7), (12, iS t61), (13, .ptr 36 0), (14, .own 29 0 r4375.2.2.2.2.2.length), (15, bS r4375.2.2.1), (121, bS ((r4375.2.2.2.1.Code != 0) || (r4375.2.2.1 != (decide (((c0q40.length : Nat) : Int) < t61)))))], [(0, .row 26 [.sl c0q40.length (fl c0q40)]), (1, .row 24 [iS c1_Readers29, bS c1_Writer29, .own 4 0 c4q29.length]), (2, .row 26 [.own 5 0 c5q33.length]), (3, .row 3 [iS c3q40]), (4, .row 47 (fl c4q29)), (5, .row 3 (fl c5q33)), (28, .row 47 (fl r4375.2.2.2.2.1)), (29, .row 3 (fl r4375.2.2.2.2.2)), (36, .row 24 [iS r4375.1, bS r4375.2.1, .own 28 0 r4375.2.2.2.2.1.length]), (38, .row 28 (Enc.cells r4375.2.2.2.1))], 44)) (fun _ => True) (fun K4379 hK4379 => ?_) (fun _ _ => ?_)
                        · refine reg_f ?_
                          refine rs 4 [] [] (by kernel_rfl) allP_nil ?_
                          refine run_split 114 (r4375.2.2.2.1.Code != 0) (.inl (by kernel_rfl)) (fun g4380 => ?_) (fun g4380 => ?_)
                          · refine rs 7 [] [] (by kernel_rfl) allP_nil ?_
                            refine rf [(1, .ptr 0 0), (3, .ptr 1 0), (4, .ptr 2 0), (6, .clo 23 [.ptr 0 0, .ptr 2 0, .ptr 3 0]), (7, iS i7), (12, iS t61), (13, .ptr 36 0), (14, .own 29 0 r4375.2.2.2.2.2.length), (15, bS r4375.2.2.1), (121, bS true)] [(0, .row 26 [.sl c0q40.length (fl c0q40)]), (1, .row 24 [iS c1_Readers29, bS c1_Writer29, .own 4 0 c4q29.length]), (2, .row 26 [.own 5 0 c5q33.length]), (3, .row 3 [iS c3q40]), (4, .row 47 (fl c4q29)), (5, .row 3 (fl c5q33)), (28, .row 47 (fl r4375.2.2.2.2.1)), (29, .row 3 (fl r4375.2.2.2.2.2)), (36, .row 24 [iS r4375.1, bS r4375.2.1, .own 28 0 r4375.2.2.2.2.1.length]), (38, .row 28 (Enc.cells r4375.2.2.2.1))] 44 (by kernel_rfl) ?_
                            exact hK4379 () _ _ _ trivial (leSt_m [(0, 0), (1, 1), (2, 2), (3, 3), (4, 4), (5, 5), (28, 28), (29, 29), (36, 36), (38, 38)] [] (by (try simp only [g4380]) <;> simp only [push_cast, seval]) (by (try simp only [g4380]) <;> simp only [push_cast, seval]) rfl rfl rfl)
                          · refine rs 7 [] [] (by kernel_rfl) allP_nil ?_
                            refine rf [(1, .ptr 0 0), (3, .ptr 1 0), (4, .ptr 2 0), (6, .clo 23 [.ptr 0 0, .ptr 2 0, .ptr 3 0]), (7, iS i7), (12, iS t61), (13, .ptr 36 0), (14, .own 29 0 r4375.2.2.2.2.2.length), (15, bS r4375.2.2.1), (121, bS (r4375.2.2.1 != (decide (((c0q40.length : Nat) : Int) < t61))))] [(0, .row 26 [.sl c0q40.length (fl c0q40)]), (1, .row 24 [iS c1_Readers29, bS c1_Writer29, .own 4 0 c4q29.length]), (2, .row 26 [.own 5 0 c5q33.length]), (3, .row 3 [iS c3q40]), (4, .row 47 (fl c4q29)), (5, .row 3 (fl c5q33)), (28, .row 47 (fl r4375.2.2.2.2.1)), (29, .row 3 (fl r4375.2.2.2.2.2)), (36, .row 24 [iS r4375.1, bS r4375.2.1, .own 28 0 r4375.2.2.2.2.1.length]), (38, .row 28 (Enc.cells r4375.2.2.2.1))] 44 (by kernel_rfl) ?_
                            exact hK4379 () _ _ _ trivial (leSt_m [(0, 0), (1, 1), (2, 2), (3, 3), (4, 4), (5, 5), (28, 28), (29, 29), (36, 36), (38, 38)] [] (by (try simp only [g4380]) <;> simp only [push_cast, seval]) (by (try simp only [g4380]) <;> simp only [push_cast, seval]) rfl rfl rfl)
                        · dsimp only
                          refine cond_sx h (by kernel_rfl) (fun g4392 h => ?_) (fun g4392 h => ?_)
                          · refine seq_np ?_
                            refine reg_f ?_
                            refine rs 1 [] [] (by kernel_rfl) allP_nil ?_
                            refine rf [(2, bS false)] [(0, .row 26 [.sl c0q40.length (fl c0q40)]), (1, .row 24 [iS c1_Readers29, bS c1_Writer29, .own 4 0 c4q29.length]), (2, .row 26 [.own 5 0 c5q33.length]), (3, .row 3 [iS c3q40]), (4, .row 47 (fl c4q29)), (5, .row 3 (fl c5q33)), (28, .row 47 (fl r4375.2.2.2.2.1)), (29, .row 3 (fl r4375.2.2.2.2.2)), (36, .row 24 [iS r4375.1, bS r4375.2.1, .own 28 0 r4375.2.2.2.2.1.length]), (38, .row 28 (Enc.cells r4375.2.2.2.1))] 44 (by kernel_rfl) ?_
                            refine wk_id ?_
                            refine rt_cast ht4 ?_
                            obtain ⟨r0, h, e0⟩ := map_sx h
                            have e1 := hr4 r0 e0.symm
                            subst r0
                            obtain rfl := Option.some.inj h
                            refine ret_at (bS false) (by kernel_rfl) ?_
                            exact ret_e [] [] (by simp only [push_cast, seval]) (by simp only [push_cast, seval]) rfl rfl rfl
                          · refine wk_id ?_
                            refine seq_np ?_
                            refine seq_np ?_
                            refine reg_f ?_
                            refine rs 1 [] [] (by kernel_rfl) allP_nil ?_
                            refine rf [(1, .ptr 0 0), (3, .ptr 1 0), (4, .ptr 2 0), (6, .clo 23 [.ptr 0 0, .ptr 2 0, .ptr 3 0]), (7, iS i7), (12, iS t61), (13, .ptr 36 0), (14, .own 29 0 r4375.2.2.2.2.2.length), (122, bS r4375.2.2.1)] [(0, .row 26 [.sl c0q40.length (fl c0q40)]), (1, .row 24 [iS c1_Readers29, bS c1_Writer29, .own 4 0 c4q29.length]), (2, .row 26 [.own 5 0 c5q33.length]), (3, .row 3 [iS c3q40]), (4, .row 47 (fl c4q29)), (5, .row 3 (fl c5q33)), (28, .row 47 (fl r4375.2.2.2.2.1)), (29, .row 3 (fl r4375.2.2.2.2.2)), (36, .row 24 [iS r4375.1, bS r4375.2.1, .own 28 0 r4375.2.2.2.2.1.length]), (38, .row 28 (Enc.cells r4375.2.2.2.1))] 44 (by kernel_rfl) ?_
                            refine wk_id ?_
                            refine cond_sx h (by kernel_rfl) (fun g4391 h => ?_) (fun g4391 h => ?_)
                            · exact hK4155 (c0q40, c1_Readers29, c1_Writer29, c3q40, c4q29, c5q33) _ _ _ h (leSt_m [(0, 0), (1, 1), (2, 2), (3, 3), (4, 4), (5, 5)] [] (by simp only [push_cast, seval]) (by simp only [push_cast, seval]) rfl rfl rfl)
                            · refine wk_id ?_
                              refine chk_sx h (fun g4385 h => ?_)
                              refine seq_np ?_
                              refine reg_f ?_
                              have k4384 : 0 ≤ t61 ∧ t61 < ((c5q33.length : Nat) : Int) := by first | simpa only [Bool.and_eq_true, decide_eq_true_eq, bne_iff_ne, ne_eq] using g4385 | (simp at g4385 ⊢; omega)
                              refine rs 4 [none, none, some ⟨.ptr 5 (0 + (t61).toNat * 1), [], 44, [5]⟩, some ⟨.any, [(5, .row 3 (fl (c5q33.set t61.toNat 0)))], 44, [5]⟩] _ (by kernel_rfl) (allP_cons (ob_st (P := Try.prog) c5q33 t61 1 0 (0 + (t61).toNat * 1) k4384 rfl [iS 0] 0 (Nat.le_of_ble_eq_true rfl) (by first | rfl | omega) rfl 5 44 3 3 (by kernel_rfl) rfl) (allP_cons (ob_ix_o 5 c5q33.length 0 1 44 t61 k4384) allP_nil)) ?_
                              refine rf [(1, .ptr 0 0), (3, .ptr 1 0), (4, .ptr 2 0), (6, .clo 23 [.ptr 0 0, .ptr 2 0, .ptr 3 0]), (7, iS i7), (13, .ptr 36 0), (14, .own 29 0 r4375.2.2.2.2.2.length)] [(0, .row 26 [.sl c0q40.length (fl c0q40)]), (1, .row 24 [iS c1_Readers29, bS c1_Writer29, .own 4 0 c4q29.length]), (2, .row 26 [.own 5 0 c5q33.length]), (3, .row 3 [iS c3q40]), (4, .row 47 (fl c4q29)), (5, .row 3 (fl (c5q33.set t61.toNat 0))), (28, .row 47 (fl r4375.2.2.2.2.1)), (29, .row 3 (fl r4375.2.2.2.2.2)), (36, .row 24 [iS r4375.1, bS r4375.2.1, .own 28 0 r4375.2.2.2.2.1.length]), (38, .row 28 (Enc.cells r4375.2.2.2.1))] 44 (by kernel_rfl) ?_
                              refine wk_id ?_
                              refine seq_np ?_
                              refine seq_np ?_
                              refine reg_f ?_
                              refine rs 2 [] [] (by kernel_rfl) allP_nil ?_
                              obtain ⟨r4389, hr4389, h⟩ := bind_sx h
                              refine call_x (taskmilllaw_LockAlone_1_1_spec r4375.2.2.2.2.2 c0q40 c3q40 (c5q33.set t61.toNat 0) r4389 hr4389) (args := [.own 29 0 r4375.2.2.2.2.2.length, .ptr 0 0, .ptr 2 0, .ptr 3 0]) (dst := (some 128)) (by kernel_rfl) [(0, .row 26 [.sl c0q40.length (fl c0q40)]), (1, .row 24 [iS c1_Readers29, bS c1_Writer29, .own 4 0 c4q29.length]), (2, .row 26 [.own 5 0 c5q33.length]), (3, .row 3 [iS c3q40]), (4, .row 47 (fl c4q29)), (5, .row 3 (fl (c5q33.set t61.toNat 0))), (28, .row 47 (fl r4375.2.2.2.2.1)), (29, .row 3 (fl r4375.2.2.2.2.2)), (36, .row 24 [iS r4375.1, bS r4375.2.1, .own 28 0 r4375.2.2.2.2.1.length]), (38, .row 28 (Enc.cells r4375.2.2.2.1))] 44 (by kernel_rfl) [(0, 29), (1, 0), (2, 2), (3, 5), (4, 3)] [] (bS r4389.1) [(29, .row 3 (fl r4389.2.1)), (0, .row 26 [.sl r4389.2.2.1.length (fl r4389.2.2.1)]), (2, .row 26 [.own 5 0 r4389.2.2.2.1.length]), (5, .row 3 (fl r4389.2.2.2.1)), (3, .row 3 [iS r4389.2.2.2.2]), (29, .dead), (0, .dead), (2, .dead), (5, .dead), (3, .dead)] (by simp only [push_cast, seval]) (by simp only [push_cast, seval]) (by kernel_rfl) (.inl rfl) (by simp only [push_cast, seval]) (by simp only [push_cast, seval]) ?_
                              refine rs 1 [] [] (by kernel_rfl) allP_nil ?_
                              refine rf [(1, .ptr 0 0), (3, .ptr 1 0), (4, .ptr 2 0), (6, .clo 23 [.ptr 0 0, .ptr 2 0, .ptr 3 0]), (7, iS i7), (13, .ptr 36 0), (129, bS (!r4389.1))] [(0, .row 26 [.sl r4389.2.2.1.length (fl r4389.2.2.1)]), (1, .row 24 [iS c1_Readers29, bS c1_Writer29, .own 4 0 c4q29.length]), (2, .row 26 [.own 5 0 r4389.2.2.2.1.length]), (3, .row 3 [iS r4389.2.2.2.2]), (4, .row 47 (fl c4q29)), (5, .row 3 (fl r4389.2.2.2.1)), (28, .row 47 (fl r4375.2.2.2.2.1)), (29, .row 3 (fl r4389.2.1)), (36, .row 24 [iS r4375.1, bS r4375.2.1, .own 28 0 r4375.2.2.2.2.1.length]), (38, .row 28 (Enc.cells r4375.2.2.2.1))] 49 (by kernel_rfl) ?_
                              refine wk_id ?_
                              refine cond_sx h (by kernel_rfl) (fun g4390 h => ?_) (fun g4390 h => ?_)
                              · refine seq_np ?_
                                refine reg_f ?_
                                refine rs 1 [] [] (by kernel_rfl) allP_nil ?_
                                refine rf [(2, bS false)] [(0, .row 26 [.sl r4389.2.2.1.length (fl r4389.2.2.1)]), (1, .row 24 [iS c1_Readers29, bS c1_Writer29, .own 4 0 c4q29.length]), (2, .row 26 [.own 5 0 r4389.2.2.2.1.length]), (3, .row 3 [iS r4389.2.2.2.2]), (4, .row 47 (fl c4q29)), (5, .row 3 (fl r4389.2.2.2.1)), (28, .row 47 (fl r4375.2.2.2.2.1)), (29, .row 3 (fl r4389.2.1)), (36, .row 24 [iS r4375.1, bS r4375.2.1, .own 28 0 r4375.2.2.2.2.1.length]), (38, .row 28 (Enc.cells r4375.2.2.2.1))] 49 (by kernel_rfl) ?_
                                refine wk_id ?_
                                refine rt_cast ht4 ?_
                                obtain ⟨r0, h, e0⟩ := map_sx h
                                have e1 := hr4 r0 e0.symm
                                subst r0
                                obtain rfl := Option.some.inj h
                                refine ret_at (bS false) (by kernel_rfl) ?_
                                exact ret_e [] [] (by simp only [push_cast, seval]) (by simp only [push_cast, seval]) rfl rfl rfl
                              · refine wk_id ?_
                                refine reg_f ?_
                                refine rs 2 [] [] (by kernel_rfl) allP_nil ?_
                                refine rf [(1, .ptr 0 0), (3, .ptr 1 0), (4, .ptr 2 0), (6, .clo 23 [.ptr 0 0, .ptr 2 0, .ptr 3 0]), (7, iS i7)] [(0, .row 26 [.sl r4389.2.2.1.length (fl r4389.2.2.1)]), (1, .row 24 [iS r4375.1, bS r4375.2.1, .own 28 0 r4375.2.2.2.2.1.length]), (2, .row 26 [.own 5 0 r4389.2.2.2.1.length]), (3, .row 3 [iS r4389.2.2.2.2]), (4, .row 47 (fl c4q29)), (5, .row 3 (fl r4389.2.2.2.1)), (28, .row 47 (fl r4375.2.2.2.2.1)), (29, .row 3 (fl r4389.2.1)), (36, .row 24 [iS r4375.1, bS r4375.2.1, .own 28 0 r4375.2.2.2.2.1.length]), (38, .row 28 (Enc.cells r4375.2.2.2.1))] 49 (by kernel_rfl) ?_
                                exact hK4265 (r4389.2.2.1, r4375.1, r4375.2.1, r4389.2.2.2.2, r4375.2.2.2.2.1, r4389.2.2.2.1) _ _ _ h (leSt_m [(0, 0), (1, 1), (2, 2), (3, 3), (4, 28), (5, 5)] [] (by simp only [push_cast, seval]) (by simp only [push_cast, seval]) rfl rfl rfl)
                  · exact hK4265 (c0q40, c1_Readers29, c1_Writer29, c3q40, c4q29, c5q33) _ _ _ h (leSt_m [(0, 0), (1, 1), (2, 2), (3, 3), (4, 4), (5, 5)] [] (by simp only [push_cast, seval]) (by simp only [push_cast, seval]) rfl rfl rfl)
          · rintro ⟨c0q50, c1_Readers35, c1_Writer35, c3q50, c4q35, c5q39⟩ h
            try dsimp only at h ⊢
            unfold taskmilllaw_LockAlone_j5 at h
            refine wk_id ?_
            refine seq_np ?_
            refine reg_f ?_
            refine rs 2 [] [] (by kernel_rfl) allP_nil ?_
            refine rf [(1, .ptr 0 0), (3, .ptr 1 0), (4, .ptr 2 0), (6, .clo 23 [.ptr 0 0, .ptr 2 0, .ptr 3 0]), (7, iS i7), (17, iS 0), (18, iS 0)] [(0, .row 26 [.sl c0q50.length (fl c0q50)]), (1, .row 24 [iS c1_Readers35, bS c1_Writer35, .own 4 0 c4q35.length]), (2, .row 26 [.own 5 0 c5q39.length]), (3, .row 3 [iS c3q50]), (4, .row 47 (fl c4q35)), (5, .row 3 (fl c5q39))] 6 (by kernel_rfl) ?_
            refine wk_id ?_
            refine seq_np ?_
            refine seq_np ?_
            refine reg_f ?_
            refine rs 1 [] [] (by kernel_rfl) allP_nil ?_
            refine rf [(1, .ptr 0 0), (3, .ptr 1 0), (4, .ptr 2 0), (6, .clo 23 [.ptr 0 0, .ptr 2 0, .ptr 3 0]), (7, iS i7), (17, iS 0), (18, iS 0), (19, iS 1)] [(0, .row 26 [.sl c0q50.length (fl c0q50)]), (1, .row 24 [iS c1_Readers35, bS c1_Writer35, .own 4 0 c4q35.length]), (2, .row 26 [.own 5 0 c5q39.length]), (3, .row 3 [iS c3q50]), (4, .row 47 (fl c4q35)), (5, .row 3 (fl c5q39))] 6 (by kernel_rfl) ?_
            refine wk_id ?_
            refine block_np ?_
            refine loop_sx (S := Int × Int × Int) (fun a => ([(1, .ptr 0 0), (3, .ptr 1 0), (4, .ptr 2 0), (6, .clo 23 [.ptr 0 0, .ptr 2 0, .ptr 3 0]), (7, iS i7), (17, iS a.1), (18, iS a.2.1), (19, iS a.2.2)], [(0, .row 26 [.sl c0q50.length (fl c0q50)]), (1, .row 24 [iS c1_Readers35, bS c1_Writer35, .own 4 0 c4q35.length]), (2, .row 26 [.own 5 0 c5q39.length]), (3, .row 3 [iS c3q50]), (4, .row 47 (fl c4q35)), (5, .row 3 (fl c5q39))], 6)) h (leSt_m [(0, 0), (1, 1), (2, 2), (3, 3), (4, 4), (5, 5)] [] (by simp only [push_cast, seval]) (by simp only [push_cast, seval]) rfl rfl rfl) ?_
            rintro ⟨readers125, writers78, t67⟩ o6 R6 h hr6 hn6 hx6 ht6
            try dsimp only at h hn6 ⊢
            unfold taskmilllaw_LockAlone_l1 at h
            try dsimp only at h
            refine seq_np ?_
            refine seq_np ?_
            refine reg_f ?_
            refine rs 4 [] [] (by kernel_rfl) allP_nil ?_
            refine rf [(1, .ptr 0 0), (3, .ptr 1 0), (4, .ptr 2 0), (6, .clo 23 [.ptr 0 0, .ptr 2 0, .ptr 3 0]), (7, iS i7), (17, iS readers125), (18, iS writers78), (19, iS t67), (134, bS (decide (t67 ≤ ((c0q50.length : Nat) : Int))))] [(0, .row 26 [.sl c0q50.length (fl c0q50)]), (1, .row 24 [iS c1_Readers35, bS c1_Writer35, .own 4 0 c4q35.length]), (2, .row 26 [.own 5 0 c5q39.length]), (3, .row 3 [iS c3q50]), (4, .row 47 (fl c4q35)), (5, .row 3 (fl c5q39))] 6 (by kernel_rfl) ?_
            refine wk_id ?_
            refine cond_sx h (by kernel_rfl) (fun g4544 h => ?_) (fun g4544 h => ?_)
            · refine wk_id ?_
              refine seq_np ?_
              refine block_cut (A := Int × Int) (fun a => ([(1, .ptr 0 0), (3, .ptr 1 0), (4, .ptr 2 0), (6, .clo 23 [.ptr 0 0, .ptr 2 0, .ptr 3 0]), (7, iS i7), (17, iS a.1), (18, iS a.2), (19, iS t67)], [(0, .row 26 [.sl c0q50.length (fl c0q50)]), (1, .row 24 [iS c1_Readers35, bS c1_Writer35, .own 4 0 c4q35.length]), (2, .row 26 [.own 5 0 c5q39.length]), (3, .row 3 [iS c3q50]), (4, .row 47 (fl c4q35)), (5, .row 3 (fl c5q39))], 6)) (fun a => (taskmilllaw_LockAlone_j2 i7 c0q50 c1_Readers35 c1_Writer35 c3q50 c4q35 c5q39 t67 a.1 a.2) = some o6) (fun K4507 hK4507 => ?_) ?_
              · refine seq_cut (A := Int) (fun a => ([(1, .ptr 0 0), (3, .ptr 1 0), (4, .ptr 2 0), (6, .clo 23 [.ptr 0 0, .ptr 2 0, .ptr 3 0]), (7, iS i7), (17, iS a), (18, iS writers78), (19, iS t67)], [(0, .row 26 [.sl c0q50.length (fl c0q50)]), (1, .row 24 [iS c1_Readers35, bS c1_Writer35, .own 4 0 c4q35.length]), (2, .row 26 [.own 5 0 c5q39.length]), (3, .row 3 [iS c3q50]), (4, .row 47 (fl c4q35)), (5, .row 3 (fl c5q39))], 6)) (fun a => (taskmilllaw_LockAlone_j3 i7 c0q50 c1_Readers35 c1_Writer35 c3q50 c4q35 c5q39 writers78 t67 a) = some o6) (fun K4512 hK4512 => ?_) ?_
                · refine chk_sx h (fun g4516 h => ?_)
                  refine seq_np ?_
                  refine reg_f ?_
                  have k4515 : 0 ≤ t67 ∧ t67 < ((c5q39.length : Nat) : Int) := by first | simpa only [Bool.and_eq_true, decide_eq_true_eq, bne_iff_ne, ne_eq] using g4516 | (simp at g4516 ⊢; omega)
                  refine rs 5 [none, none, some ⟨.ptr 5 (0 + (t67).toNat * 1), [], 6, [5]⟩, some ⟨iS (ix c5q39 t67), [], 6, [5]⟩] _ (by kernel_rfl) (allP_cons (ob_ld c5q39 t67 1 0 (0 + (t67).toNat * 1) k4515 rfl (by decide) (by first | rfl | omega) (dflS Try.prog 3) (iS (ix c5q39 t67)) rfl 6 [5]) (allP_cons (ob_ix_o 5 c5q39.length 0 1 6 t67 k4515) allP_nil)) ?_
                  refine rf [(1, .ptr 0 0), (3, .ptr 1 0), (4, .ptr 2 0), (6, .clo 23 [.ptr 0 0, .ptr 2 0, .ptr 3 0]), (7, iS i7), (17, iS readers125), (18, iS writers78), (19, iS t67), (141, bS ((ix c5q39 t67) == 1))] [(0, .row 26 [.sl c0q50.length (fl c0q50)]), (1, .row 24 [iS c1_Readers35, bS c1_Writer35, .own 4 0 c4q35.length]), (2, .row 26 [.own 5 0 c5q39.length]), (3, .row 3 [iS c3q50]), (4, .row 47 (fl c4q35)), (5, .row 3 (fl c5q39))] 6 (by kernel_rfl) ?_
                  refine wk_id ?_
                  refine cond_sx h (by kernel_rfl) (fun g4517 h => ?_) (fun g4517 h => ?_)
                  · refine reg_f ?_
                    refine rs 3 [] [] (by kernel_rfl) allP_nil ?_
                    refine rf [(1, .ptr 0 0), (3, .ptr 1 0), (4, .ptr 2 0), (6, .clo 23 [.ptr 0 0, .ptr 2 0, .ptr 3 0]), (7, iS i7), (17, iS (IntKind.i64.wrap (readers125 + 1))), (18, iS writers78), (19, iS t67)] [(0, .row 26 [.sl c0q50.length (fl c0q50)]), (1, .row 24 [iS c1_Readers35, bS c1_Writer35, .own 4 0 c4q35.length]), (2, .row 26 [.own 5 0 c5q39.length]), (3, .row 3 [iS c3q50]), (4, .row 47 (fl c4q35)), (5, .row 3 (fl c5q39))] 6 (by kernel_rfl) ?_
                    exact hK4512 ((IntKind.i64.wrap (readers125 + 1))) _ _ _ h (leSt_m [(0, 0), (1, 1), (2, 2), (3, 3), (4, 4), (5, 5)] [] (by simp only [push_cast, seval]) (by simp only [push_cast, seval]) rfl rfl rfl)
                  · exact hK4512 (readers125) _ _ _ h (leSt_m [(0, 0), (1, 1), (2, 2), (3, 3), (4, 4), (5, 5)] [] (by simp only [push_cast, seval]) (by simp only [push_cast, seval]) rfl rfl rfl)
                · rintro readers130 h
                  try dsimp only at h ⊢
                  unfold taskmilllaw_LockAlone_j3 at h
                  refine chk_sx h (fun g4521 h => ?_)
                  refine seq_np ?_
                  refine reg_f ?_
                  have k4520 : 0 ≤ t67 ∧ t67 < ((c5q39.length : Nat) : Int) := by first | simpa only [Bool.and_eq_true, decide_eq_true_eq, bne_iff_ne, ne_eq] using g4521 | (simp at g4521 ⊢; omega)
                  refine rs 5 [none, none, some ⟨.ptr 5 (0 + (t67).toNat * 1), [], 6, [5]⟩, some ⟨iS (ix c5q39 t67), [], 6, [5]⟩] _ (by kernel_rfl) (allP_cons (ob_ld c5q39 t67 1 0 (0 + (t67).toNat * 1) k4520 rfl (by decide) (by first | rfl | omega) (dflS Try.prog 3) (iS (ix c5q39 t67)) rfl 6 [5]) (allP_cons (ob_ix_o 5 c5q39.length 0 1 6 t67 k4520) allP_nil)) ?_
                  refine rf [(1, .ptr 0 0), (3, .ptr 1 0), (4, .ptr 2 0), (6, .clo 23 [.ptr 0 0, .ptr 2 0, .ptr 3 0]), (7, iS i7), (17, iS readers130), (18, iS writers78), (19, iS t67), (148, bS ((ix c5q39 t67) == 2))] [(0, .row 26 [.sl c0q50.length (fl c0q50)]), (1, .row 24 [iS c1_Readers35, bS c1_Writer35, .own 4 0 c4q35.length]), (2, .row 26 [.own 5 0 c5q39.length]), (3, .row 3 [iS c3q50]), (4, .row 47 (fl c4q35)), (5, .row 3 (fl c5q39))] 6 (by kernel_rfl) ?_
                  refine wk_id ?_
                  refine cond_sx h (by kernel_rfl) (fun g4522 h => ?_) (fun g4522 h => ?_)
                  · refine reg_f ?_
                    refine rs 3 [] [] (by kernel_rfl) allP_nil ?_
                    refine rf [(1, .ptr 0 0), (3, .ptr 1 0), (4, .ptr 2 0), (6, .clo 23 [.ptr 0 0, .ptr 2 0, .ptr 3 0]), (7, iS i7), (17, iS readers130), (18, iS (IntKind.i64.wrap (writers78 + 1))), (19, iS t67)] [(0, .row 26 [.sl c0q50.length (fl c0q50)]), (1, .row 24 [iS c1_Readers35, bS c1_Writer35, .own 4 0 c4q35.length]), (2, .row 26 [.own 5 0 c5q39.length]), (3, .row 3 [iS c3q50]), (4, .row 47 (fl c4q35)), (5, .row 3 (fl c5q39))] 6 (by kernel_rfl) ?_
                    exact hK4507 (readers130, (IntKind.i64.wrap (writers78 + 1))) _ _ _ h (leSt_m [(0, 0), (1, 1), (2, 2), (3, 3), (4, 4), (5, 5)] [] (by simp only [push_cast, seval]) (by simp only [push_cast, seval]) rfl rfl rfl)
                  · exact hK4507 (readers130, writers78) _ _ _ h (leSt_m [(0, 0), (1, 1), (2, 2), (3, 3), (4, 4), (5, 5)] [] (by simp only [push_cast, seval]) (by simp only [push_cast, seval]) rfl rfl rfl)
              · rintro ⟨readers129, writers80⟩ h
                try dsimp only at h ⊢
                unfold taskmilllaw_LockAlone_j2 at h
                refine wk_id ?_
                refine reg_f ?_
                refine rs 3 [] [] (by kernel_rfl) allP_nil ?_
                refine rf [(1, .ptr 0 0), (3, .ptr 1 0), (4, .ptr 2 0), (6, .clo 23 [.ptr 0 0, .ptr 2 0, .ptr 3 0]), (7, iS i7), (17, iS readers129), (18, iS writers80), (19, iS (IntKind.i64.wrap (t67 + 1)))] [(0, .row 26 [.sl c0q50.length (fl c0q50)]), (1, .row 24 [iS c1_Readers35, bS c1_Writer35, .own 4 0 c4q35.length]), (2, .row 26 [.own 5 0 c5q39.length]), (3, .row 3 [iS c3q50]), (4, .row 47 (fl c4q35)), (5, .row 3 (fl c5q39))] 6 (by kernel_rfl) ?_
                exact hn6 (readers129, writers80, (IntKind.i64.wrap (t67 + 1))) _ _ _ (Option.some.inj h).symm (leSt_m [(0, 0), (1, 1), (2, 2), (3, 3), (4, 4), (5, 5)] [] (by simp only [push_cast, seval]) (by simp only [push_cast, seval]) rfl rfl rfl)
            · change R6 (.exit 5) _ _ _
              refine ex_cast hx6 (id := 5) ?_
              obtain ⟨r0, h, e0⟩ := map_sx h
              have e1 := hr6 r0 e0.symm
              subst r0
              refine wk_id ?_
              refine wk_id ?_
              refine seq_cut (A := Bool) (fun a => ([(1, .ptr 0 0), (3, .ptr 1 0), (4, .ptr 2 0), (6, .clo 23 [.ptr 0 0, .ptr 2 0, .ptr 3 0]), (7, iS i7), (179, bS a)], [(0, .row 26 [.sl c0q50.length (fl c0q50)]), (1, .row 24 [iS c1_Readers35, bS c1_Writer35, .own 4 0 c4q35.length]), (2, .row 26 [.own 5 0 c5q39.length]), (3, .row 3 [iS c3q50]), (4, .row 47 (fl c4q35)), (5, .row 3 (fl c5q39))], 6)) (fun a => (taskmilllaw_LockAlone_j4 i7 c0q50 c1_Readers35 c1_Writer35 c3q50 c4q35 c5q39 a) = some o4) (fun K4533 hK4533 => ?_) ?_
              · refine reg_f ?_
                refine rs 3 [] [] (by kernel_rfl) allP_nil ?_
                refine run_br h 153 (.inl (by kernel_rfl)) (fun g4534 h => ?_) (fun g4534 h => ?_)
                · refine rs 26 [] [] (by kernel_rfl) allP_nil ?_
                  refine rf [(1, .ptr 0 0), (3, .ptr 1 0), (4, .ptr 2 0), (6, .clo 23 [.ptr 0 0, .ptr 2 0, .ptr 3 0]), (7, iS i7), (179, bS true)] [(0, .row 26 [.sl c0q50.length (fl c0q50)]), (1, .row 24 [iS c1_Readers35, bS c1_Writer35, .own 4 0 c4q35.length]), (2, .row 26 [.own 5 0 c5q39.length]), (3, .row 3 [iS c3q50]), (4, .row 47 (fl c4q35)), (5, .row 3 (fl c5q39))] 6 (by kernel_rfl) ?_
                  exact hK4533 (true) _ _ _ h (leSt_m [(0, 0), (1, 1), (2, 2), (3, 3), (4, 4), (5, 5)] [] (by (try simp only [g4534]) <;> simp only [push_cast, seval]) (by (try simp only [g4534]) <;> simp only [push_cast, seval]) rfl rfl rfl)
                · refine rs 3 [] [] (by kernel_rfl) allP_nil ?_
                  refine run_br h 156 (.inr (by kernel_rfl)) (fun g4535 h => ?_) (fun g4535 h => ?_)
                  · refine rs 5 [] [] (by kernel_rfl) allP_nil ?_
                    refine run_br h 161 (.inl (by kernel_rfl)) (fun g4536 h => ?_) (fun g4536 h => ?_)
                    · refine rn 11 [(1, .ptr 0 0), (3, .ptr 1 0), (4, .ptr 2 0), (6, .clo 23 [.ptr 0 0, .ptr 2 0, .ptr 3 0]), (7, iS i7), (17, iS readers125), (18, iS writers78), (161, bS true)] [(0, .row 26 [.sl c0q50.length (fl c0q50)]), (1, .row 24 [iS c1_Readers35, bS c1_Writer35, .own 4 0 c4q35.length]), (2, .row 26 [.own 5 0 c5q39.length]), (3, .row 3 [iS c3q50]), (4, .row 47 (fl c4q35)), (5, .row 3 (fl c5q39))] 6 (by kernel_rfl) ?_
                      refine rs 18 [] [] (by kernel_rfl) allP_nil ?_
                      refine rf [(1, .ptr 0 0), (3, .ptr 1 0), (4, .ptr 2 0), (6, .clo 23 [.ptr 0 0, .ptr 2 0, .ptr 3 0]), (7, iS i7), (179, bS true)] [(0, .row 26 [.sl c0q50.length (fl c0q50)]), (1, .row 24 [iS c1_Readers35, bS c1_Writer35, .own 4 0 c4q35.length]), (2, .row 26 [.own 5 0 c5q39.length]), (3, .row 3 [iS c3q50]), (4, .row 47 (fl c4q35)), (5, .row 3 (fl c5q39))] 6 (by kernel_rfl) ?_
                      exact hK4533 (true) _ _ _ h (leSt_m [(0, 0), (1, 1), (2, 2), (3, 3), (4, 4), (5, 5)] [] (by first | ((try simp only [g4534, g4535, g4536]) <;> simp only [push_cast, seval]; done) | ((try simp only [g4534]); (try simp only [g4535]); (try simp only [g4536]); simp only [push_cast, seval]; done) | (exfalso; clear h; simp_all; done)) (by first | ((try simp only [g4534, g4535, g4536]) <;> simp only [push_cast, seval]; done) | ((try simp only [g4534]); (try simp only [g4535]); (try simp only [g4536]); simp only [push_cast, seval]; done) | (exfalso; clear h; simp_all; done)) rfl rfl rfl)
                    · refine rn 11 [(1, .ptr 0 0), (3, .ptr 1 0), (4, .ptr 2 0), (6, .clo 23 [.ptr 0 0, .ptr 2 0, .ptr 3 0]), (7, iS i7), (17, iS readers125), (18, iS writers78), (161, bS false)] [(0, .row 26 [.sl c0q50.length (fl c0q50)]), (1, .row 24 [iS c1_Readers35, bS c1_Writer35, .own 4 0 c4q35.length]), (2, .row 26 [.own 5 0 c5q39.length]), (3, .row 3 [iS c3q50]), (4, .row 47 (fl c4q35)), (5, .row 3 (fl c5q39))] 6 (by kernel_rfl) ?_
                      refine rs 6 [] [] (by kernel_rfl) allP_nil ?_
                      refine run_br h 167 (.inl (by kernel_rfl)) (fun g4537 h => ?_) (fun g4537 h => ?_)
                      · refine rs 12 [] [] (by kernel_rfl) allP_nil ?_
                        refine rf [(1, .ptr 0 0), (3, .ptr 1 0), (4, .ptr 2 0), (6, .clo 23 [.ptr 0 0, .ptr 2 0, .ptr 3 0]), (7, iS i7), (179, bS true)] [(0, .row 26 [.sl c0q50.length (fl c0q50)]), (1, .row 24 [iS c1_Readers35, bS c1_Writer35, .own 4 0 c4q35.length]), (2, .row 26 [.own 5 0 c5q39.length]), (3, .row 3 [iS c3q50]), (4, .row 47 (fl c4q35)), (5, .row 3 (fl c5q39))] 6 (by kernel_rfl) ?_
                        exact hK4533 (true) _ _ _ h (leSt_m [(0, 0), (1, 1), (2, 2), (3, 3), (4, 4), (5, 5)] [] (by first | ((try simp only [g4534, g4535, g4536, g4537]) <;> simp only [push_cast, seval]; done) | ((try simp only [g4534]); (try simp only [g4535]); (try simp only [g4536]); (try simp only [g4537]); simp only [push_cast, seval]; done) | (exfalso; clear h; simp_all; done)) (by first | ((try simp only [g4534, g4535, g4536, g4537]) <;> simp only [push_cast, seval]; done) | ((try simp only [g4534]); (try simp only [g4535]); (try simp only [g4536]); (try simp only [g4537]); simp only [push_cast, seval]; done) | (exfalso; clear h; simp_all; done)) rfl rfl rfl)
                      · refine rs 7 [] [] (by kernel_rfl) allP_nil ?_
                        refine run_br h 174 (.inl (by kernel_rfl)) (fun g4538 h => ?_) (fun g4538 h => ?_)
                        · refine rs 5 [] [] (by kernel_rfl) allP_nil ?_
                          refine rf [(1, .ptr 0 0), (3, .ptr 1 0), (4, .ptr 2 0), (6, .clo 23 [.ptr 0 0, .ptr 2 0, .ptr 3 0]), (7, iS i7), (179, bS true)] [(0, .row 26 [.sl c0q50.length (fl c0q50)]), (1, .row 24 [iS c1_Readers35, bS c1_Writer35, .own 4 0 c4q35.length]), (2, .row 26 [.own 5 0 c5q39.length]), (3, .row 3 [iS c3q50]), (4, .row 47 (fl c4q35)), (5, .row 3 (fl c5q39))] 6 (by kernel_rfl) ?_
                          exact hK4533 (true) _ _ _ h (leSt_m [(0, 0), (1, 1), (2, 2), (3, 3), (4, 4), (5, 5)] [] (by first | ((try simp only [g4534, g4535, g4536, g4537, g4538]) <;> simp only [push_cast, seval]; done) | ((try simp only [g4534]); (try simp only [g4535]); (try simp only [g4536]); (try simp only [g4537]); (try simp only [g4538]); simp only [push_cast, seval]; done) | (exfalso; clear h; simp_all; done)) (by first | ((try simp only [g4534, g4535, g4536, g4537, g4538]) <;> simp only [push_cast, seval]; done) | ((try simp only [g4534]); (try simp only [g4535]); (try simp only [g4536]); (try simp only [g4537]); (try simp only [g4538]); simp only [push_cast, seval]; done) | (exfalso; clear h; simp_all; done)) rfl rfl rfl)
                        · refine rs 1 [] [] (by kernel_rfl) allP_nil ?_
                          obtain ⟨r4539, hr4539, h⟩ := bind_sx h
                          refine call_x (lock_Check_spec (Lock.mk c1_Readers35 c1_Writer35 c4q35) r4539 hr4539) (args := [.agg [iS c1_Readers35, bS c1_Writer35, .own 4 0 c4q35.length]]) (dst := (some 176)) (by kernel_rfl) [(0, .row 26 [.sl c0q50.length (fl c0q50)]), (1, .row 24 [iS c1_Readers35, bS c1_Writer35, .own 4 0 c4q35.length]), (2, .row 26 [.own 5 0 c5q39.length]), (3, .row 3 [iS c3q50]), (4, .row 47 (fl c4q35)), (5, .row 3 (fl c5q39))] 6 (by kernel_rfl) [] [4] (.agg (Enc.cells r4539)) [] (by simp only [push_cast, seval]) (by simp only [push_cast, seval]) (by kernel_rfl) (.inr ⟨by simp only [push_cast, seval], by simp only [push_cast, seval]⟩) (by simp only [push_cast, seval]) (by simp only [push_cast, seval]) ?_
                          refine rn 26 [(1, .ptr 0 0), (3, .ptr 1 0), (4, .ptr 2 0), (6, .clo 23 [.ptr 0 0, .ptr 2 0, .ptr 3 0]), (7, iS i7), (174, bS false), (176, .agg (Enc.cells r4539))] [(0, .row 26 [.sl c0q50.length (fl c0q50)]), (1, .row 24 [iS c1_Readers35, bS c1_Writer35, .own 4 0 c4q35.length]), (2, .row 26 [.own 5 0 c5q39.length]), (3, .row 3 [iS c3q50]), (4, .row 47 (fl c4q35)), (5, .row 3 (fl c5q39))] 6 (by kernel_rfl) ?_
                          refine rs 3 [] [] (by kernel_rfl) allP_nil ?_
                          refine rf [(1, .ptr 0 0), (3, .ptr 1 0), (4, .ptr 2 0), (6, .clo 23 [.ptr 0 0, .ptr 2 0, .ptr 3 0]), (7, iS i7), (179, bS (r4539.Code != 0))] [(0, .row 26 [.sl c0q50.length (fl c0q50)]), (1, .row 24 [iS c1_Readers35, bS c1_Writer35, .own 4 0 c4q35.length]), (2, .row 26 [.own 5 0 c5q39.length]), (3, .row 3 [iS c3q50]), (4, .row 47 (fl c4q35)), (5, .row 3 (fl c5q39))] 6 (by kernel_rfl) ?_
                          exact hK4533 ((r4539.Code != 0)) _ _ _ h (leSt_m [(0, 0), (1, 1), (2, 2), (3, 3), (4, 4), (5, 5)] [] (by first | ((try simp only [g4534, g4535, g4536, g4537, g4538]) <;> simp only [push_cast, seval]; done) | ((try simp only [g4534]); (try simp only [g4535]); (try simp only [g4536]); (try simp only [g4537]); (try simp only [g4538]); simp only [push_cast, seval]; done) | (exfalso; clear h; simp_all; done)) (by first | ((try simp only [g4534, g4535, g4536, g4537, g4538]) <;> simp only [push_cast, seval]; done) | ((try simp only [g4534]); (try simp only [g4535]); (try simp only [g4536]); (try simp only [g4537]); (try simp only [g4538]); simp only [push_cast, seval]; done) | (exfalso; clear h; simp_all; done)) rfl rfl rfl)
                  · refine rs 11 [] [] (by kernel_rfl) allP_nil ?_
                    refine run_br h 167 (.inl (by kernel_rfl)) (fun g4540 h => ?_) (fun g4540 h => ?_)
                    · refine rn 17 [(1, .ptr 0 0), (3, .ptr 1 0), (4, .ptr 2 0), (6, .clo 23 [.ptr 0 0, .ptr 2 0, .ptr 3 0]), (7, iS i7), (18, iS writers78), (167, bS true)] [(0, .row 26 [.sl c0q50.length (fl c0q50)]), (1, .row 24 [iS c1_Readers35, bS c1_Writer35, .own 4 0 c4q35.length]), (2, .row 26 [.own 5 0 c5q39.length]), (3, .row 3 [iS c3q50]), (4, .row 47 (fl c4q35)), (5, .row 3 (fl c5q39))] 6 (by kernel_rfl) ?_
                      refine rs 12 [] [] (by kernel_rfl) allP_nil ?_
                      refine rf [(1, .ptr 0 0), (3, .ptr 1 0), (4, .ptr 2 0), (6, .clo 23 [.ptr 0 0, .ptr 2 0, .ptr 3 0]), (7, iS i7), (179, bS true)] [(0, .row 26 [.sl c0q50.length (fl c0q50)]), (1, .row 24 [iS c1_Readers35, bS c1_Writer35, .own 4 0 c4q35.length]), (2, .row 26 [.own 5 0 c5q39.length]), (3, .row 3 [iS c3q50]), (4, .row 47 (fl c4q35)), (5, .row 3 (fl c5q39))] 6 (by kernel_rfl) ?_
                      exact hK4533 (true) _ _ _ h (leSt_m [(0, 0), (1, 1), (2, 2), (3, 3), (4, 4), (5, 5)] [] (by first | ((try simp only [g4534, g4535, g4540]) <;> simp only [push_cast, seval]; done) | ((try simp only [g4534]); (try simp only [g4535]); (try simp only [g4540]); simp only [push_cast, seval]; done) | (exfalso; clear h; simp_all; done)) (by first | ((try simp only [g4534, g4535, g4540]) <;> simp only [push_cast, seval]; done) | ((try simp only [g4534]); (try simp only [g4535]); (try simp only [g4540]); simp only [push_cast, seval]; done) | (exfalso; clear h; simp_all; done)) rfl rfl rfl)
                    · refine rn 17 [(1, .ptr 0 0), (3, .ptr 1 0), (4, .ptr 2 0), (6, .clo 23 [.ptr 0 0, .ptr 2 0, .ptr 3 0]), (7, iS i7), (18, iS writers78), (167, bS false)] [(0, .row 26 [.sl c0q50.length (fl c0q50)]), (1, .row 24 [iS c1_Readers35, bS c1_Writer35, .own 4 0 c4q35.length]), (2, .row 26 [.own 5 0 c5q39.length]), (3, .row 3 [iS c3q50]), (4, .row 47 (fl c4q35)), (5, .row 3 (fl c5q39))] 6 (by kernel_rfl) ?_
                      refine rs 7 [] [] (by kernel_rfl) allP_nil ?_
                      refine run_br h 174 (.inl (by kernel_rfl)) (fun g4541 h => ?_) (fun g4541 h => ?_)
                      · refine rs 5 [] [] (by kernel_rfl) allP_nil ?_
                        refine rf [(1, .ptr 0 0), (3, .ptr 1 0), (4, .ptr 2 0), (6, .clo 23 [.ptr 0 0, .ptr 2 0, .ptr 3 0]), (7, iS i7), (179, bS true)] [(0, .row 26 [.sl c0q50.length (fl c0q50)]), (1, .row 24 [iS c1_Readers35, bS c1_Writer35, .own 4 0 c4q35.length]), (2, .row 26 [.own 5 0 c5q39.length]), (3, .row 3 [iS c3q50]), (4, .row 47 (fl c4q35)), (5, .row 3 (fl c5q39))] 6 (by kernel_rfl) ?_
                        exact hK4533 (true) _ _ _ h (leSt_m [(0, 0), (1, 1), (2, 2), (3, 3), (4, 4), (5, 5)] [] (by first | ((try simp only [g4534, g4535, g4540, g4541]) <;> simp only [push_cast, seval]; done) | ((try simp only [g4534]); (try simp only [g4535]); (try simp only [g4540]); (try simp only [g4541]); simp only [push_cast, seval]; done) | (exfalso; clear h; simp_all; done)) (by first | ((try simp only [g4534, g4535, g4540, g4541]) <;> simp only [push_cast, seval]; done) | ((try simp only [g4534]); (try simp only [g4535]); (try simp only [g4540]); (try simp only [g4541]); simp only [push_cast, seval]; done) | (exfalso; clear h; simp_all; done)) rfl rfl rfl)
                      · refine rs 1 [] [] (by kernel_rfl) allP_nil ?_
                        obtain ⟨r4542, hr4542, h⟩ := bind_sx h
                        refine call_x (lock_Check_spec (Lock.mk c1_Readers35 c1_Writer35 c4q35) r4542 hr4542) (args := [.agg [iS c1_Readers35, bS c1_Writer35, .own 4 0 c4q35.length]]) (dst := (some 176)) (by kernel_rfl) [(0, .row 26 [.sl c0q50.length (fl c0q50)]), (1, .row 24 [iS c1_Readers35, bS c1_Writer35, .own 4 0 c4q35.length]), (2, .row 26 [.own 5 0 c5q39.length]), (3, .row 3 [iS c3q50]), (4, .row 47 (fl c4q35)), (5, .row 3 (fl c5q39))] 6 (by kernel_rfl) [] [4] (.agg (Enc.cells r4542)) [] (by simp only [push_cast, seval]) (by simp only [push_cast, seval]) (by kernel_rfl) (.inr ⟨by simp only [push_cast, seval], by simp only [push_cast, seval]⟩) (by simp only [push_cast, seval]) (by simp only [push_cast, seval]) ?_
                        refine rs 3 [] [] (by kernel_rfl) allP_nil ?_
                        refine rf [(1, .ptr 0 0), (3, .ptr 1 0), (4, .ptr 2 0), (6, .clo 23 [.ptr 0 0, .ptr 2 0, .ptr 3 0]), (7, iS i7), (179, bS (r4542.Code != 0))] [(0, .row 26 [.sl c0q50.length (fl c0q50)]), (1, .row 24 [iS c1_Readers35, bS c1_Writer35, .own 4 0 c4q35.length]), (2, .row 26 [.own 5 0 c5q39.length]), (3, .row 3 [iS c3q50]), (4, .row 47 (fl c4q35)), (5, .row 3 (fl c5q39))] 6 (by kernel_rfl) ?_
                        exact hK4533 ((r4542.Code != 0)) _ _ _ h (leSt_m [(0, 0), (1, 1), (2, 2), (3, 3), (4, 4), (5, 5)] [] (by first | ((try simp only [g4534, g4535, g4540, g4541]) <;> simp only [push_cast, seval]; done) | ((try simp only [g4534]); (try simp only [g4535]); (try simp only [g4540]); (try simp only [g4541]); simp only [push_cast, seval]; done) | (exfalso; clear h; simp_all; done)) (by first | ((try simp only [g4534, g4535, g4540, g4541]) <;> simp only [push_cast, seval]; done) | ((try simp only [g4534]); (try simp only [g4535]); (try simp only [g4540]); (try simp only [g4541]); simp only [push_cast, seval]; done) | (exfalso; clear h; simp_all; done)) rfl rfl rfl)
              · rintro t179q13 h
                try dsimp only at h ⊢
                unfold taskmilllaw_LockAlone_j4 at h
                refine cond_sx h (by kernel_rfl) (fun g4543 h => ?_) (fun g4543 h => ?_)
                · refine seq_np ?_
                  refine reg_f ?_
                  refine rs 1 [] [] (by kernel_rfl) allP_nil ?_
                  refine rf [(2, bS false)] [(0, .row 26 [.sl c0q50.length (fl c0q50)]), (1, .row 24 [iS c1_Readers35, bS c1_Writer35, .own 4 0 c4q35.length]), (2, .row 26 [.own 5 0 c5q39.length]), (3, .row 3 [iS c3q50]), (4, .row 47 (fl c4q35)), (5, .row 3 (fl c5q39))] 6 (by kernel_rfl) ?_
                  refine wk_id ?_
                  refine rt_cast ht4 ?_
                  obtain ⟨r0, h, e0⟩ := map_sx h
                  have e1 := hr4 r0 e0.symm
                  subst r0
                  obtain rfl := Option.some.inj h
                  refine ret_at (bS false) (by kernel_rfl) ?_
                  exact ret_e [] [] (by simp only [push_cast, seval]) (by simp only [push_cast, seval]) rfl rfl rfl
                · exact hK4155 (c0q50, c1_Readers35, c1_Writer35, c3q50, c4q35, c5q39) _ _ _ h (leSt_m [(0, 0), (1, 1), (2, 2), (3, 3), (4, 4), (5, 5)] [] (by simp only [push_cast, seval]) (by simp only [push_cast, seval]) rfl rfl rfl)
        · rintro ⟨c0q46, c1_Readers33, c1_Writer33, c3q46, c4q33, c5q37⟩ h
          try dsimp only at h ⊢
          unfold taskmilllaw_LockAlone_j1 at h
          refine wk_id ?_
          refine reg_f ?_
          refine rs 3 [] [] (by kernel_rfl) allP_nil ?_
          refine rf [(1, .ptr 0 0), (3, .ptr 1 0), (4, .ptr 2 0), (6, .clo 23 [.ptr 0 0, .ptr 2 0, .ptr 3 0]), (7, iS (IntKind.i64.wrap (i7 + 1)))] [(0, .row 26 [.sl c0q46.length (fl c0q46)]), (1, .row 24 [iS c1_Readers33, bS c1_Writer33, .own 4 0 c4q33.length]), (2, .row 26 [.own 5 0 c5q37.length]), (3, .row 3 [iS c3q46]), (4, .row 47 (fl c4q33)), (5, .row 3 (fl c5q37))] 6 (by kernel_rfl) ?_
          exact hn4 ((IntKind.i64.wrap (i7 + 1)), c0q46, c1_Readers33, c1_Writer33, c3q46, c4q33, c5q37) _ _ _ (Option.some.inj h).symm (leSt_m [(0, 0), (1, 1), (2, 2), (3, 3), (4, 4), (5, 5)] [] (by simp only [push_cast, seval]) (by simp only [push_cast, seval]) rfl rfl rfl)
      · change R4 (.exit 0) _ _ _
        refine ex_cast hx4 (id := 0) ?_
        obtain ⟨r0, h, e0⟩ := map_sx h
        have e1 := hr4 r0 e0.symm
        subst r0
        refine wk_id ?_
        refine wk_id ?_
        refine seq_np ?_
        refine reg_f ?_
        refine rs 1 [] [] (by kernel_rfl) allP_nil ?_
        refine rf [(2, bS true)] [(0, .row 26 [.sl c0q40.length (fl c0q40)]), (1, .row 24 [iS c1_Readers29, bS c1_Writer29, .own 4 0 c4q29.length]), (2, .row 26 [.own 5 0 c5q33.length]), (3, .row 3 [iS c3q40]), (4, .row 47 (fl c4q29)), (5, .row 3 (fl c5q33))] 6 (by kernel_rfl) ?_
        refine wk_id ?_
        obtain rfl := Option.some.inj h
        refine ret_at (bS true) (by kernel_rfl) ?_
        exact ret_e [] [] (by simp only [push_cast, seval]) (by simp only [push_cast, seval]) rfl rfl rfl

set_option maxRecDepth 100000 in
set_option maxHeartbeats 10000000 in
theorem taskmilllaw_LockMutex_spec (n : Int) (r : Bool) (h : taskmilllaw_LockMutex n = some r) : SpecW Try.prog 6 [iS n] [] 0 (fun x h n => x = bS r ∧ h = [] ∧ n = 0) := by
  unfold taskmilllaw_LockMutex at h
  refine spec_of (draw_ok _) Try.func6 rfl (by decide) rfl (by kernel_rfl) ?_
  refine seq_np ?_
  refine reg_f ?_
  refine rs 1 [] [] (by kernel_rfl) allP_nil ?_
  refine rf [(0, iS n)] [] 0 (by kernel_rfl) ?_
  refine wk_id ?_
  refine seq_np ?_
  refine seq_np ?_
  refine reg_f ?_
  obtain ⟨r4611, hr4611, h⟩ := bind_sx h
  refine run_call 8 [] (some 17) (by kernel_rfl) ?_
  refine call_0 (taskmilllaw_lockBegun_spec r4611 hr4611) (by simp only [push_cast, seval]) (by simp only [push_cast, seval]) ?_
  refine back_f ?_
  refine rs 1 [] [] (by kernel_rfl) allP_nil ?_
  refine rf [(0, iS n), (18, bS (!r4611))] [] 0 (by kernel_rfl) ?_
  refine wk_id ?_
  refine cond_sx h (by kernel_rfl) (fun g4831 h => ?_) (fun g4831 h => ?_)
  · refine seq_np ?_
    refine reg_f ?_
    refine rs 1 [] [] (by kernel_rfl) allP_nil ?_
    refine rf [(2, bS false)] [] 0 (by kernel_rfl) ?_
    refine wk_id ?_
    obtain rfl := Option.some.inj h
    refine ret_at (bS false) (by kernel_rfl) ?_
    exact ret_e [] [] (by simp only [push_cast, seval]) (by simp only [push_cast, seval]) rfl rfl rfl
  · refine wk_id ?_
    refine seq_np ?_
    refine seq_cut (A := Unit) (fun _ => ([(0, iS n), (24, bS ((decide (n < 1)) || (decide ((100 : Int) < n))))], [], 0)) (fun _ => True) (fun K4615 hK4615 => ?_) (fun _ _ => ?_)
    · refine reg_f ?_
      refine rs 3 [] [] (by kernel_rfl) allP_nil ?_
      refine run_split 21 (decide (n < 1)) (.inl (by kernel_rfl)) (fun g4616 => ?_) (fun g4616 => ?_)
      · refine rs 3 [] [] (by kernel_rfl) allP_nil ?_
        refine rf [(0, iS n), (24, bS true)] [] 0 (by kernel_rfl) ?_
        exact hK4615 () _ _ _ trivial (leSt_m [] [] (by (try simp only [g4616]) <;> simp only [push_cast, seval]) (by (try simp only [g4616]) <;> simp only [push_cast, seval]) rfl rfl rfl)
      · refine rs 3 [] [] (by kernel_rfl) allP_nil ?_
        refine rf [(0, iS n), (24, bS (decide ((100 : Int) < n)))] [] 0 (by kernel_rfl) ?_
        exact hK4615 () _ _ _ trivial (leSt_m [] [] (by (try simp only [g4616]) <;> simp only [push_cast, seval]) (by (try simp only [g4616]) <;> simp only [push_cast, seval]) rfl rfl rfl)
    · dsimp only
      refine cond_sx h (by kernel_rfl) (fun g4830 h => ?_) (fun g4830 h => ?_)
      · refine seq_np ?_
        refine reg_f ?_
        refine rs 1 [] [] (by kernel_rfl) allP_nil ?_
        refine rf [(2, bS true)] [] 0 (by kernel_rfl) ?_
        refine wk_id ?_
        obtain rfl := Option.some.inj h
        refine ret_at (bS true) (by kernel_rfl) ?_
        exact ret_e [] [] (by simp only [push_cast, seval]) (by simp only [push_cast, seval]) rfl rfl rfl
      · refine wk_id ?_
        refine seq_np ?_
        refine reg_f ?_
        refine rs 3 [] [] (by kernel_rfl) allP_nil ?_
        refine rf [(0, iS n), (3, .ptr 0 0)] [(0, .row 24 [iS 0, bS false, .v (.slice none 0 0)])] 1 (by kernel_rfl) ?_
        refine wk_id ?_
        refine seq_np ?_
        refine seq_np ?_
        refine reg_f ?_
        refine rs 1 [] [] (by kernel_rfl) allP_nil ?_
        refine rf [(0, iS n), (3, .ptr 0 0), (4, iS 1)] [(0, .row 24 [iS 0, bS false, .v (.slice none 0 0)])] 1 (by kernel_rfl) ?_
        refine wk_id ?_
        refine block_np ?_
        refine loop_sx (S := Int × Int × Bool × (List Want)) (fun a => ([(0, iS n), (3, .ptr 0 0), (4, iS a.1)], [(0, .row 24 [iS a.2.1, bS a.2.2.1, .own 1 0 a.2.2.2.length]), (1, .row 47 (fl a.2.2.2))], 2)) h (leSt_m [(0, 0)] [] (by simp only [push_cast, seval]) (by simp only [push_cast, seval]) rfl rfl rfl) ?_
        rintro ⟨t9, c0_Readers9, c0_Writer9, c1q9⟩ o3 R3 h hr3 hn3 hx3 ht3
        try dsimp only at h hn3 ⊢
        unfold taskmilllaw_LockMutex_l2 at h
        try dsimp only at h
        refine seq_np ?_
        refine seq_np ?_
        refine reg_f ?_
        refine rs 3 [] [] (by kernel_rfl) allP_nil ?_
        refine rf [(0, iS n), (3, .ptr 0 0), (4, iS t9), (28, bS (decide (t9 ≤ n)))] [(0, .row 24 [iS c0_Readers9, bS c0_Writer9, .own 1 0 c1q9.length]), (1, .row 47 (fl c1q9))] 2 (by kernel_rfl) ?_
        refine wk_id ?_
        refine cond_sx h (by kernel_rfl) (fun g4829 h => ?_) (fun g4829 h => ?_)
        · refine wk_id ?_
          refine seq_np ?_
          refine block_np ?_
          refine seq_np ?_
          refine reg_f ?_
          refine rs 2 [] [] (by kernel_rfl) allP_nil ?_
          obtain ⟨r4660, hr4660, h⟩ := bind_sx h
          refine call_x (lock_Enter_spec (Lock.mk c0_Readers9 c0_Writer9 c1q9) t9 true false r4660 hr4660) (args := [.agg [iS c0_Readers9, bS c0_Writer9, .own 1 0 c1q9.length], iS t9, bS true, bS false]) (dst := (some 34)) (by kernel_rfl) [(0, .row 24 [iS c0_Readers9, bS c0_Writer9, .own 1 0 c1q9.length]), (1, .row 47 (fl c1q9))] 2 (by kernel_rfl) [] [1] (.tup [.agg [iS r4660.1, bS r4660.2.1, .own 2 0 r4660.2.2.2.2.length], bS r4660.2.2.1, .agg (Enc.cells r4660.2.2.2.1)]) [(2, .row 47 (fl r4660.2.2.2.2))] (by simp only [push_cast, seval]) (by simp only [push_cast, seval]) (by kernel_rfl) (.inr ⟨by simp only [push_cast, seval], by simp only [push_cast, seval]⟩) (by simp only [push_cast, seval]) (by simp only [push_cast, seval]) ?_
          refine rs 9 [] [] (by kernel_rfl) allP_nil ?_
          refine rf [(0, iS n), (3, .ptr 0 0), (4, iS t9), (5, .ptr 3 0), (6, bS r4660.2.2.1), (7, .ptr 4 0)] [(0, .row 24 [iS c0_Readers9, bS c0_Writer9, .own 1 0 c1q9.length]), (1, .row 47 (fl c1q9)), (2, .row 47 (fl r4660.2.2.2.2)), (3, .row 24 [iS r4660.1, bS r4660.2.1, .own 2 0 r4660.2.2.2.2.length]), (4, .row 28 (Enc.cells r4660.2.2.2.1))] 5 (by kernel_rfl) ?_
          refine wk_id ?_
          refine seq_np ?_
          refine seq_cut (A := Unit) (fun _ => ([(0, iS n), (3, .ptr 0 0), (4, iS t9), (5, .ptr 3 0), (46, bS ((r4660.2.2.2.1.Code != 0) || (r4660.2.2.1 != (t9 == 1))))], [(0, .row 24 [iS c0_Readers9, bS c0_Writer9, .own 1 0 c1q9.length]), (1, .row 47 (fl c1q9)), (2, .row 47 (fl r4660.2.2.2.2)), (3, .row 24 [iS r4660.1, bS r4660.2.1, .own 2 0 r4660.2.2.2.2.length]), (4, .row 28 (Enc.cells r4660.2.2.2.1))], 5)) (fun _ => True) (fun K4664 hK4664 => ?_) (fun _ _ => ?_)
          · refine reg_f ?_
            refine rs 4 [] [] (by kernel_rfl) allP_nil ?_
            refine run_split 41 (r4660.2.2.2.1.Code != 0) (.inl (by kernel_rfl)) (fun g4665 => ?_) (fun g4665 => ?_)
            · refine rs 5 [] [] (by kernel_rfl) allP_nil ?_
              refine rf [(0, iS n), (3, .ptr 0 0), (4, iS t9), (5, .ptr 3 0), (46, bS true)] [(0, .row 24 [iS c0_Readers9, bS c0_Writer9, .own 1 0 c1q9.length]), (1, .row 47 (fl c1q9)), (2, .row 47 (fl r4660.2.2.2.2)), (3, .row 24 [iS r4660.1, bS r4660.2.1, .own 2 0 r4660.2.2.2.2.length]), (4, .row 28 (Enc.cells r4660.2.2.2.1))] 5 (by kernel_rfl) ?_
              exact hK4664 () _ _ _ trivial (leSt_m [(0, 0), (1, 1), (2, 2), (3, 3), (4, 4)] [] (by (try simp only [g4665]) <;> simp only [push_cast, seval]) (by (try simp only [g4665]) <;> simp only [push_cast, seval]) rfl rfl rfl)
            · refine rs 5 [] [] (by kernel_rfl) allP_nil ?_
              refine rf [(0, iS n), (3, .ptr 0 0), (4, iS t9), (5, .ptr 3 0), (46, bS (r4660.2.2.1 != (t9 == 1)))] [(0, .row 24 [iS c0_Readers9, bS c0_Writer9, .own 1 0 c1q9.length]), (1, .row 47 (fl c1q9)), (2, .row 47 (fl r4660.2.2.2.2)), (3, .row 24 [iS r4660.1, bS r4660.2.1, .own 2 0 r4660.2.2.2.2.length]), (4, .row 28 (Enc.cells r4660.2.2.2.1))] 5 (by kernel_rfl) ?_
              exact hK4664 () _ _ _ trivial (leSt_m [(0, 0), (1, 1), (2, 2), (3, 3), (4, 4)] [] (by (try simp only [g4665]) <;> simp only [push_cast, seval]) (by (try simp only [g4665]) <;> simp only [push_cast, seval]) rfl rfl rfl)
          · dsimp only
            refine cond_sx h (by kernel_rfl) (fun g4666 h => ?_) (fun g4666 h => ?_)
            · refine seq_np ?_
              refine reg_f ?_
              refine rs 1 [] [] (by kernel_rfl) allP_nil ?_
              refine rf [(2, bS false)] [(0, .row 24 [iS c0_Readers9, bS c0_Writer9, .own 1 0 c1q9.length]), (1, .row 47 (fl c1q9)), (2, .row 47 (fl r4660.2.2.2.2)), (3, .row 24 [iS r4660.1, bS r4660.2.1, .own 2 0 r4660.2.2.2.2.length]), (4, .row 28 (Enc.cells r4660.2.2.2.1))] 5 (by kernel_rfl) ?_
              refine wk_id ?_
              refine rt_cast ht3 ?_
              obtain ⟨r0, h, e0⟩ := map_sx h
              have e1 := hr3 r0 e0.symm
              subst r0
              obtain rfl := Option.some.inj h
              refine ret_at (bS false) (by kernel_rfl) ?_
              exact ret_e [] [] (by simp only [push_cast, seval]) (by simp only [push_cast, seval]) rfl rfl rfl
            · refine wk_id ?_
              refine reg_f ?_
              refine rs 2 [] [] (by kernel_rfl) allP_nil ?_
              refine rf [(0, iS n), (3, .ptr 0 0), (4, iS t9)] [(0, .row 24 [iS r4660.1, bS r4660.2.1, .own 2 0 r4660.2.2.2.2.length]), (1, .row 47 (fl c1q9)), (2, .row 47 (fl r4660.2.2.2.2)), (3, .row 24 [iS r4660.1, bS r4660.2.1, .own 2 0 r4660.2.2.2.2.length]), (4, .row 28 (Enc.cells r4660.2.2.2.1))] 5 (by kernel_rfl) ?_
              refine wk_id ?_
              refine wk_id ?_
              refine reg_f ?_
              refine rs 3 [] [] (by kernel_rfl) allP_nil ?_
              refine rf [(0, iS n), (3, .ptr 0 0), (4, iS (IntKind.i64.wrap (t9 + 1)))] [(0, .row 24 [iS r4660.1, bS r4660.2.1, .own 2 0 r4660.2.2.2.2.length]), (1, .row 47 (fl c1q9)), (2, .row 47 (fl r4660.2.2.2.2)), (3, .row 24 [iS r4660.1, bS r4660.2.1, .own 2 0 r4660.2.2.2.2.length]), (4, .row 28 (Enc.cells r4660.2.2.2.1))] 5 (by kernel_rfl) ?_
              exact hn3 ((IntKind.i64.wrap (t9 + 1)), r4660.1, r4660.2.1, r4660.2.2.2.2) _ _ _ (Option.some.inj h).symm (leSt_m [(0, 0), (1, 2)] [] (by simp only [push_cast, seval]) (by simp only [push_cast, seval]) rfl rfl rfl)
        · change R3 (.exit 0) _ _ _
          refine ex_cast hx3 (id := 0) ?_
          obtain ⟨r0, h, e0⟩ := map_sx h
          have e1 := hr3 r0 e0.symm
          subst r0
          refine wk_id ?_
          refine wk_id ?_
          refine seq_np ?_
          refine seq_np ?_
          refine reg_f ?_
          refine rs 1 [] [] (by kernel_rfl) allP_nil ?_
          refine rf [(0, iS n), (3, .ptr 0 0), (8, iS 2)] [(0, .row 24 [iS c0_Readers9, bS c0_Writer9, .own 1 0 c1q9.length]), (1, .row 47 (fl c1q9))] 2 (by kernel_rfl) ?_
          refine wk_id ?_
          refine block_np ?_
          refine loop_sx (S := Int × Int × Bool × (List Want)) (fun a => ([(0, iS n), (3, .ptr 0 0), (8, iS a.1)], [(0, .row 24 [iS a.2.1, bS a.2.2.1, .own 1 0 a.2.2.2.length]), (1, .row 47 (fl a.2.2.2))], 2)) h (leSt_m [(0, 0), (1, 1)] [] (by simp only [push_cast, seval]) (by simp only [push_cast, seval]) rfl rfl rfl) ?_
          rintro ⟨t15, c0_Readers15, c0_Writer15, c1q15⟩ o4 R4 h hr4 hn4 hx4 ht4
          try dsimp only at h hn4 ⊢
          unfold taskmilllaw_LockMutex_l1 at h
          try dsimp only at h
          refine seq_np ?_
          refine seq_np ?_
          refine reg_f ?_
          refine rs 4 [] [] (by kernel_rfl) allP_nil ?_
          refine rf [(0, iS n), (3, .ptr 0 0), (8, iS t15), (51, bS (decide (t15 ≤ (IntKind.i64.wrap (n + 1)))))] [(0, .row 24 [iS c0_Readers15, bS c0_Writer15, .own 1 0 c1q15.length]), (1, .row 47 (fl c1q15))] 2 (by kernel_rfl) ?_
          refine wk_id ?_
          refine cond_sx h (by kernel_rfl) (fun g4828 h => ?_) (fun g4828 h => ?_)
          · refine wk_id ?_
            refine seq_np ?_
            refine block_np ?_
            refine seq_np ?_
            refine reg_f ?_
            refine rs 1 [] [] (by kernel_rfl) allP_nil ?_
            obtain ⟨r4790, hr4790, h⟩ := bind_sx h
            refine call_x (lock_Leave_spec (Lock.mk c0_Readers15 c0_Writer15 c1q15) true r4790 hr4790) (args := [.agg [iS c0_Readers15, bS c0_Writer15, .own 1 0 c1q15.length], bS true]) (dst := (some 56)) (by kernel_rfl) [(0, .row 24 [iS c0_Readers15, bS c0_Writer15, .own 1 0 c1q15.length]), (1, .row 47 (fl c1q15))] 2 (by kernel_rfl) [] [1] (.tup [.agg [iS r4790.1, bS r4790.2.1, .own 2 0 r4790.2.2.2.2.1.length], .own 3 0 r4790.2.2.2.2.2.length, bS r4790.2.2.1, .agg (Enc.cells r4790.2.2.2.1)]) [(2, .row 47 (fl r4790.2.2.2.2.1)), (3, .row 3 (fl r4790.2.2.2.2.2))] (by simp only [push_cast, seval]) (by simp only [push_cast, seval]) (by kernel_rfl) (.inr ⟨by simp only [push_cast, seval], by simp only [push_cast, seval]⟩) (by simp only [push_cast, seval]) (by simp only [push_cast, seval]) ?_
            refine rs 11 [] [] (by kernel_rfl) allP_nil ?_
            refine rf [(0, iS n), (3, .ptr 0 0), (8, iS t15), (9, .ptr 4 0), (10, .own 3 0 r4790.2.2.2.2.2.length), (11, bS r4790.2.2.1), (12, .ptr 5 0)] [(0, .row 24 [iS c0_Readers15, bS c0_Writer15, .own 1 0 c1q15.length]), (1, .row 47 (fl c1q15)), (2, .row 47 (fl r4790.2.2.2.2.1)), (3, .row 3 (fl r4790.2.2.2.2.2)), (4, .row 24 [iS r4790.1, bS r4790.2.1, .own 2 0 r4790.2.2.2.2.1.length]), (5, .row 28 (Enc.cells r4790.2.2.2.1))] 6 (by kernel_rfl) ?_
            refine wk_id ?_
            refine seq_np ?_
            refine seq_cut (A := Bool × Int × Bool × (List Want)) (fun a => ([(0, iS n), (3, .ptr 0 0), (8, iS t15), (9, .ptr 1 0), (88, bS a.1)], [(0, .row 24 [iS c0_Readers15, bS c0_Writer15, .own 2 0 c1q15.length]), (1, .row 24 [iS a.2.1, bS a.2.2.1, .own 3 0 a.2.2.2.length]), (2, .row 47 (fl c1q15)), (3, .row 47 (fl a.2.2.2))], 4)) (fun a => (taskmilllaw_LockMutex_j1 n t15 c0_Readers15 c0_Writer15 c1q15 a.1 a.2.1 a.2.2.1 a.2.2.2) = some o4) (fun K4809 hK4809 => ?_) ?_
            · refine reg_f ?_
              refine rs 4 [] [] (by kernel_rfl) allP_nil ?_
              refine run_br h 64 (.inl (by kernel_rfl)) (fun g4810 h => ?_) (fun g4810 h => ?_)
              · refine rs 24 [] [] (by kernel_rfl) allP_nil ?_
                refine rf [(0, iS n), (3, .ptr 0 0), (8, iS t15), (9, .ptr 4 0), (88, bS true)] [(0, .row 24 [iS c0_Readers15, bS c0_Writer15, .own 1 0 c1q15.length]), (1, .row 47 (fl c1q15)), (2, .row 47 (fl r4790.2.2.2.2.1)), (3, .row 3 (fl r4790.2.2.2.2.2)), (4, .row 24 [iS r4790.1, bS r4790.2.1, .own 2 0 r4790.2.2.2.2.1.length]), (5, .row 28 (Enc.cells r4790.2.2.2.1))] 6 (by kernel_rfl) ?_
                exact hK4809 (true, r4790.1, r4790.2.1, r4790.2.2.2.2.1) _ _ _ h (leSt_m [(0, 0), (1, 4), (2, 1), (3, 2)] [] (by (try simp only [g4810]) <;> simp only [push_cast, seval]) (by (try simp only [g4810]) <;> simp only [push_cast, seval]) rfl rfl rfl)
              · refine rs 3 [] [] (by kernel_rfl) allP_nil ?_
                refine run_br h 67 (.inl (by kernel_rfl)) (fun g4811 h => ?_) (fun g4811 h => ?_)
                · refine rs 21 [] [] (by kernel_rfl) allP_nil ?_
                  refine rf [(0, iS n), (3, .ptr 0 0), (8, iS t15), (9, .ptr 4 0), (88, bS true)] [(0, .row 24 [iS c0_Readers15, bS c0_Writer15, .own 1 0 c1q15.length]), (1, .row 47 (fl c1q15)), (2, .row 47 (fl r4790.2.2.2.2.1)), (3, .row 3 (fl r4790.2.2.2.2.2)), (4, .row 24 [iS r4790.1, bS r4790.2.1, .own 2 0 r4790.2.2.2.2.1.length]), (5, .row 28 (Enc.cells r4790.2.2.2.1))] 6 (by kernel_rfl) ?_
                  exact hK4809 (true, r4790.1, r4790.2.1, r4790.2.2.2.2.1) _ _ _ h (leSt_m [(0, 0), (1, 4), (2, 1), (3, 2)] [] (by first | ((try simp only [g4810, g4811]) <;> simp only [push_cast, seval]; done) | ((try simp only [g4810]); (try simp only [g4811]); simp only [push_cast, seval]; done) | (exfalso; clear h; simp_all; done)) (by first | ((try simp only [g4810, g4811]) <;> simp only [push_cast, seval]; done) | ((try simp only [g4810]); (try simp only [g4811]); simp only [push_cast, seval]; done) | (exfalso; clear h; simp_all; done)) rfl rfl rfl)
                · refine rs 4 [] [] (by kernel_rfl) allP_nil ?_
                  refine run_br h 71 (.inr (by kernel_rfl)) (fun g4812 h => ?_) (fun g4812 h => ?_)
                  · refine rn 11 [(0, iS n), (3, .ptr 0 0), (8, iS t15), (9, .ptr 4 0), (10, .own 3 0 r4790.2.2.2.2.2.length), (67, bS false), (71, .gd true (bS true))] [(0, .row 24 [iS c0_Readers15, bS c0_Writer15, .own 1 0 c1q15.length]), (1, .row 47 (fl c1q15)), (2, .row 47 (fl r4790.2.2.2.2.1)), (3, .row 3 (fl r4790.2.2.2.2.2)), (4, .row 24 [iS r4790.1, bS r4790.2.1, .own 2 0 r4790.2.2.2.2.1.length]), (5, .row 28 (Enc.cells r4790.2.2.2.1))] 6 (by kernel_rfl) ?_
                    refine rs 3 [] [] (by kernel_rfl) allP_nil ?_
                    obtain ⟨r4813, hr4813, h⟩ := bind_sx h
                    refine call_x (taskmillref_Ints_spec r4790.2.2.2.2.2 ([t15] : List Int) r4813 hr4813) (args := [.own 3 0 r4790.2.2.2.2.2.length, .own 6 0 ([t15] : List Int).length]) (dst := (some 75)) (by kernel_rfl) [(0, .row 24 [iS c0_Readers15, bS c0_Writer15, .own 1 0 c1q15.length]), (1, .row 47 (fl c1q15)), (2, .row 47 (fl r4790.2.2.2.2.1)), (3, .row 3 (fl r4790.2.2.2.2.2)), (4, .row 24 [iS r4790.1, bS r4790.2.1, .own 2 0 r4790.2.2.2.2.1.length]), (5, .row 28 (Enc.cells r4790.2.2.2.1)), (6, .row 3 (fl ([t15] : List Int)))] 7 (by kernel_rfl) [] [3, 6] (bS r4813) [] (by simp only [push_cast, seval]) (by simp only [push_cast, seval]) (by kernel_rfl) (.inr ⟨by simp only [push_cast, seval], by simp only [push_cast, seval]⟩) (by simp only [push_cast, seval]) (by simp only [push_cast, seval]) ?_
                    refine rs 4 [] [] (by kernel_rfl) allP_nil ?_
                    refine run_br h 79 (.inl (by kernel_rfl)) (fun g4814 h => ?_) (fun g4814 h => ?_)
                    · refine rs 9 [] [] (by kernel_rfl) allP_nil ?_
                      refine rf [(0, iS n), (3, .ptr 0 0), (8, iS t15), (9, .ptr 4 0), (88, bS true)] [(0, .row 24 [iS c0_Readers15, bS c0_Writer15, .own 1 0 c1q15.length]), (1, .row 47 (fl c1q15)), (2, .row 47 (fl r4790.2.2.2.2.1)), (3, .row 3 (fl r4790.2.2.2.2.2)), (4, .row 24 [iS r4790.1, bS r4790.2.1, .own 2 0 r4790.2.2.2.2.1.length]), (5, .row 28 (Enc.cells r4790.2.2.2.1)), (6, .row 3 (fl ([t15] : List Int)))] 7 (by kernel_rfl) ?_
                      exact hK4809 (true, r4790.1, r4790.2.1, r4790.2.2.2.2.1) _ _ _ h (leSt_m [(0, 0), (1, 4), (2, 1), (3, 2)] [] (by first | ((try simp only [g4810, g4811, g4812, g4814]) <;> simp only [push_cast, seval]; done) | ((try simp only [g4810]); (try simp only [g4811]); (try simp only [g4812]); (try simp only [g4814]); simp only [push_cast, seval]; done) | (exfalso; clear h; simp_all; done)) (by first | ((try simp only [g4810, g4811, g4812, g4814]) <;> simp only [push_cast, seval]; done) | ((try simp only [g4810]); (try simp only [g4811]); (try simp only [g4812]); (try simp only [g4814]); simp only [push_cast, seval]; done) | (exfalso; clear h; simp_all; done)) rfl rfl rfl)
                    · refine rs 4 [] [] (by kernel_rfl) allP_nil ?_
                      refine run_br h 83 (.inr (by kernel_rfl)) (fun g4815 h => ?_) (fun g4815 h => ?_)
                      · refine rn 23 [(0, iS n), (3, .ptr 0 0), (8, iS t15), (9, .ptr 4 0), (10, .own 3 0 r4790.2.2.2.2.2.length), (79, bS false), (83, .gd true (bS true))] [(0, .row 24 [iS c0_Readers15, bS c0_Writer15, .own 1 0 c1q15.length]), (1, .row 47 (fl c1q15)), (2, .row 47 (fl r4790.2.2.2.2.1)), (3, .row 3 (fl r4790.2.2.2.2.2)), (4, .row 24 [iS r4790.1, bS r4790.2.1, .own 2 0 r4790.2.2.2.2.1.length]), (5, .row 28 (Enc.cells r4790.2.2.2.1)), (6, .row 3 (fl ([t15] : List Int)))] 7 (by kernel_rfl) ?_
                        refine rs 5 [] [] (by kernel_rfl) allP_nil ?_
                        refine rf [(0, iS n), (3, .ptr 0 0), (8, iS t15), (9, .ptr 4 0), (88, bS (decide ((0 : Int) < ((r4790.2.2.2.2.2.length : Nat) : Int))))] [(0, .row 24 [iS c0_Readers15, bS c0_Writer15, .own 1 0 c1q15.length]), (1, .row 47 (fl c1q15)), (2, .row 47 (fl r4790.2.2.2.2.1)), (3, .row 3 (fl r4790.2.2.2.2.2)), (4, .row 24 [iS r4790.1, bS r4790.2.1, .own 2 0 r4790.2.2.2.2.1.length]), (5, .row 28 (Enc.cells r4790.2.2.2.1)), (6, .row 3 (fl ([t15] : List Int)))] 7 (by kernel_rfl) ?_
                        exact hK4809 ((decide ((0 : Int) < ((r4790.2.2.2.2.2.length : Nat) : Int))), r4790.1, r4790.2.1, r4790.2.2.2.2.1) _ _ _ h (leSt_m [(0, 0), (1, 4), (2, 1), (3, 2)] [] (by first | ((try simp only [g4810, g4811, g4812, g4814, g4815]) <;> simp only [push_cast, seval]; done) | ((try simp only [g4810]); (try simp only [g4811]); (try simp only [g4812]); (try simp only [g4814]); (try simp only [g4815]); simp only [push_cast, seval]; done) | (exfalso; clear h; simp_all; done)) (by first | ((try simp only [g4810, g4811, g4812, g4814, g4815]) <;> simp only [push_cast, seval]; done) | ((try simp only [g4810]); (try simp only [g4811]); (try simp only [g4812]); (try simp only [g4814]); (try simp only [g4815]); simp only [push_cast, seval]; done) | (exfalso; clear h; simp_all; done)) rfl rfl rfl)
                      · refine rn 23 [(0, iS n), (3, .ptr 0 0), (8, iS t15), (9, .ptr 4 0), (10, .own 3 0 r4790.2.2.2.2.2.length), (79, bS false), (83, .gd true (bS false))] [(0, .row 24 [iS c0_Readers15, bS c0_Writer15, .own 1 0 c1q15.length]), (1, .row 47 (fl c1q15)), (2, .row 47 (fl r4790.2.2.2.2.1)), (3, .row 3 (fl r4790.2.2.2.2.2)), (4, .row 24 [iS r4790.1, bS r4790.2.1, .own 2 0 r4790.2.2.2.2.1.length]), (5, .row 28 (Enc.cells r4790.2.2.2.1)), (6, .row 3 (fl ([t15] : List Int)))] 7 (by kernel_rfl) ?_
                        refine rs 5 [] [] (by kernel_rfl) allP_nil ?_
                        refine rf [(0, iS n), (3, .ptr 0 0), (8, iS t15), (9, .ptr 4 0), (88, bS false)] [(0, .row 24 [iS c0_Readers15, bS c0_Writer15, .own 1 0 c1q15.length]), (1, .row 47 (fl c1q15)), (2, .row 47 (fl r4790.2.2.2.2.1)), (3, .row 3 (fl r4790.2.2.2.2.2)), (4, .row 24 [iS r4790.1, bS r4790.2.1, .own 2 0 r4790.2.2.2.2.1.length]), (5, .row 28 (Enc.cells r4790.2.2.2.1)), (6, .row 3 (fl ([t15] : List Int)))] 7 (by kernel_rfl) ?_
                        exact hK4809 (false, r4790.1, r4790.2.1, r4790.2.2.2.2.1) _ _ _ h (leSt_m [(0, 0), (1, 4), (2, 1), (3, 2)] [] (by first | ((try simp only [g4810, g4811, g4812, g4814, g4815]) <;> simp only [push_cast, seval]; done) | ((try simp only [g4810]); (try simp only [g4811]); (try simp only [g4812]); (try simp only [g4814]); (try simp only [g4815]); simp only [push_cast, seval]; done) | (exfalso; clear h; simp_all; done)) (by first | ((try simp only [g4810, g4811, g4812, g4814, g4815]) <;> simp only [push_cast, seval]; done) | ((try simp only [g4810]); (try simp only [g4811]); (try simp only [g4812]); (try simp only [g4814]); (try simp only [g4815]); simp only [push_cast, seval]; done) | (exfalso; clear h; simp_all; done)) rfl rfl rfl)
                  · refine rn 11 [(0, iS n), (3, .ptr 0 0), (8, iS t15), (9, .ptr 4 0), (10, .own 3 0 r4790.2.2.2.2.2.length), (67, bS false), (71, .gd true (bS false))] [(0, .row 24 [iS c0_Readers15, bS c0_Writer15, .own 1 0 c1q15.length]), (1, .row 47 (fl c1q15)), (2, .row 47 (fl r4790.2.2.2.2.1)), (3, .row 3 (fl r4790.2.2.2.2.2)), (4, .row 24 [iS r4790.1, bS r4790.2.1, .own 2 0 r4790.2.2.2.2.1.length]), (5, .row 28 (Enc.cells r4790.2.2.2.1))] 6 (by kernel_rfl) ?_
                    refine rs 12 [] [] (by kernel_rfl) allP_nil ?_
                    refine run_br h 83 (.inr (by kernel_rfl)) (fun g4816 h => ?_) (fun g4816 h => ?_)
                    · refine rs 5 [] [] (by kernel_rfl) allP_nil ?_
                      refine rf [(0, iS n), (3, .ptr 0 0), (8, iS t15), (9, .ptr 4 0), (88, bS (decide ((0 : Int) < ((r4790.2.2.2.2.2.length : Nat) : Int))))] [(0, .row 24 [iS c0_Readers15, bS c0_Writer15, .own 1 0 c1q15.length]), (1, .row 47 (fl c1q15)), (2, .row 47 (fl r4790.2.2.2.2.1)), (3, .row 3 (fl r4790.2.2.2.2.2)), (4, .row 24 [iS r4790.1, bS r4790.2.1, .own 2 0 r4790.2.2.2.2.1.length]), (5, .row 28 (Enc.cells r4790.2.2.2.1))] 6 (by kernel_rfl) ?_
                      exact hK4809 ((decide ((0 : Int) < ((r4790.2.2.2.2.2.length : Nat) : Int))), r4790.1, r4790.2.1, r4790.2.2.2.2.1) _ _ _ h (leSt_m [(0, 0), (1, 4), (2, 1), (3, 2)] [] (by first | ((try simp only [g4810, g4811, g4812, g4816]) <;> simp only [push_cast, seval]; done) | ((try simp only [g4810]); (try simp only [g4811]); (try simp only [g4812]); (try simp only [g4816]); simp only [push_cast, seval]; done) | (exfalso; clear h; simp_all; done)) (by first | ((try simp only [g4810, g4811, g4812, g4816]) <;> simp only [push_cast, seval]; done) | ((try simp only [g4810]); (try simp only [g4811]); (try simp only [g4812]); (try simp only [g4816]); simp only [push_cast, seval]; done) | (exfalso; clear h; simp_all; done)) rfl rfl rfl)
                    · refine rs 5 [] [] (by kernel_rfl) allP_nil ?_
                      refine rf [(0, iS n), (3, .ptr 0 0), (8, iS t15), (9, .ptr 4 0), (88, bS false)] [(0, .row 24 [iS c0_Readers15, bS c0_Writer15, .own 1 0 c1q15.length]), (1, .row 47 (fl c1q15)), (2, .row 47 (fl r4790.2.2.2.2.1)), (3, .row 3 (fl r4790.2.2.2.2.2)), (4, .row 24 [iS r4790.1, bS r4790.2.1, .own 2 0 r4790.2.2.2.2.1.length]), (5, .row 28 (Enc.cells r4790.2.2.2.1))] 6 (by kernel_rfl) ?_
                      exact hK4809 (false, r4790.1, r4790.2.1, r4790.2.2.2.2.1) _ _ _ h (leSt_m [(0, 0), (1, 4), (2, 1), (3, 2)] [] (by first | ((try simp only [g4810, g4811, g4812, g4816]) <;> simp only [push_cast, seval]; done) | ((try simp only [g4810]); (try simp only [g4811]); (try simp only [g4812]); (try simp only [g4816]); simp only [push_cast, seval]; done) | (exfalso; clear h; simp_all; done)) (by first | ((try simp only [g4810, g4811, g4812, g4816]) <;> simp only [push_cast, seval]; done) | ((try simp only [g4810]); (try simp only [g4811]); (try simp only [g4812]); (try simp only [g4816]); simp only [push_cast, seval]; done) | (exfalso; clear h; simp_all; done)) rfl rfl rfl)
            · rintro ⟨t88q14, c1_Readers14, c1_Writer14, c3q14⟩ h
              try dsimp only at h ⊢
              unfold taskmilllaw_LockMutex_j1 at h
              refine cond_sx h (by kernel_rfl) (fun g4817 h => ?_) (fun g4817 h => ?_)
              · refine seq_np ?_
                refine reg_f ?_
                refine rs 1 [] [] (by kernel_rfl) allP_nil ?_
                refine rf [(2, bS false)] [(0, .row 24 [iS c0_Readers15, bS c0_Writer15, .own 2 0 c1q15.length]), (1, .row 24 [iS c1_Readers14, bS c1_Writer14, .own 3 0 c3q14.length]), (2, .row 47 (fl c1q15)), (3, .row 47 (fl c3q14))] 4 (by kernel_rfl) ?_
                refine wk_id ?_
                refine rt_cast ht4 ?_
                obtain ⟨r0, h, e0⟩ := map_sx h
                have e1 := hr4 r0 e0.symm
                subst r0
                obtain rfl := Option.some.inj h
                refine ret_at (bS false) (by kernel_rfl) ?_
                exact ret_e [] [] (by simp only [push_cast, seval]) (by simp only [push_cast, seval]) rfl rfl rfl
              · refine wk_id ?_
                refine reg_f ?_
                refine rs 2 [] [] (by kernel_rfl) allP_nil ?_
                refine rf [(0, iS n), (3, .ptr 0 0), (8, iS t15)] [(0, .row 24 [iS c1_Readers14, bS c1_Writer14, .own 3 0 c3q14.length]), (1, .row 24 [iS c1_Readers14, bS c1_Writer14, .own 3 0 c3q14.length]), (2, .row 47 (fl c1q15)), (3, .row 47 (fl c3q14))] 4 (by kernel_rfl) ?_
                refine wk_id ?_
                refine wk_id ?_
                refine reg_f ?_
                refine rs 3 [] [] (by kernel_rfl) allP_nil ?_
                refine rf [(0, iS n), (3, .ptr 0 0), (8, iS (IntKind.i64.wrap (t15 + 1)))] [(0, .row 24 [iS c1_Readers14, bS c1_Writer14, .own 3 0 c3q14.length]), (1, .row 24 [iS c1_Readers14, bS c1_Writer14, .own 3 0 c3q14.length]), (2, .row 47 (fl c1q15)), (3, .row 47 (fl c3q14))] 4 (by kernel_rfl) ?_
                exact hn4 ((IntKind.i64.wrap (t15 + 1)), c1_Readers14, c1_Writer14, c3q14) _ _ _ (Option.some.inj h).symm (leSt_m [(0, 0), (1, 3)] [] (by simp only [push_cast, seval]) (by simp only [push_cast, seval]) rfl rfl rfl)
          · change R4 (.exit 2) _ _ _
            refine ex_cast hx4 (id := 2) ?_
            obtain ⟨r0, h, e0⟩ := map_sx h
            have e1 := hr4 r0 e0.symm
            subst r0
            refine wk_id ?_
            refine wk_id ?_
            refine seq_np ?_
            refine reg_f ?_
            refine rs 1 [] [] (by kernel_rfl) allP_nil ?_
            obtain ⟨r4819, hr4819, h⟩ := bind_sx h
            refine call_x (lock_Leave_spec (Lock.mk c0_Readers15 c0_Writer15 c1q15) true r4819 hr4819) (args := [.agg [iS c0_Readers15, bS c0_Writer15, .own 1 0 c1q15.length], bS true]) (dst := (some 92)) (by kernel_rfl) [(0, .row 24 [iS c0_Readers15, bS c0_Writer15, .own 1 0 c1q15.length]), (1, .row 47 (fl c1q15))] 2 (by kernel_rfl) [] [1] (.tup [.agg [iS r4819.1, bS r4819.2.1, .own 2 0 r4819.2.2.2.2.1.length], .own 3 0 r4819.2.2.2.2.2.length, bS r4819.2.2.1, .agg (Enc.cells r4819.2.2.2.1)]) [(2, .row 47 (fl r4819.2.2.2.2.1)), (3, .row 3 (fl r4819.2.2.2.2.2))] (by simp only [push_cast, seval]) (by simp only [push_cast, seval]) (by kernel_rfl) (.inr ⟨by simp only [push_cast, seval], by simp only [push_cast, seval]⟩) (by simp only [push_cast, seval]) (by simp only [push_cast, seval]) ?_
            refine rs 11 [] [] (by kernel_rfl) allP_nil ?_
            refine rf [(3, .ptr 0 0), (15, bS r4819.2.2.1), (16, .ptr 5 0)] [(0, .row 24 [iS c0_Readers15, bS c0_Writer15, .own 1 0 c1q15.length]), (1, .row 47 (fl c1q15)), (2, .row 47 (fl r4819.2.2.2.2.1)), (3, .row 3 (fl r4819.2.2.2.2.2)), (4, .row 24 [iS r4819.1, bS r4819.2.1, .own 2 0 r4819.2.2.2.2.1.length]), (5, .row 28 (Enc.cells r4819.2.2.2.1))] 6 (by kernel_rfl) ?_
            refine wk_id ?_
            refine seq_cut (A := Bool) (fun a => ([(2, bS a)], [], 0)) (fun a => (taskmilllaw_LockMutex_j2 a) = some r) (fun K4824 hK4824 => ?_) ?_
            · refine reg_f ?_
              refine rs 4 [] [] (by kernel_rfl) allP_nil ?_
              refine run_br h 100 (.inl (by kernel_rfl)) (fun g4825 h => ?_) (fun g4825 h => ?_)
              · refine rs 3 [] [] (by kernel_rfl) allP_nil ?_
                refine run_br h 103 (.inl (by kernel_rfl)) (fun g4826 h => ?_) (fun g4826 h => ?_)
                · refine rs 1 [] [] (by kernel_rfl) allP_nil ?_
                  obtain ⟨r4827, hr4827, h⟩ := bind_sx h
                  refine call_x (taskmilllaw_noLock_spec (Lock.mk c0_Readers15 c0_Writer15 c1q15) r4827 hr4827) (args := [.agg [iS c0_Readers15, bS c0_Writer15, .own 1 0 c1q15.length]]) (dst := (some 105)) (by kernel_rfl) [(0, .row 24 [iS c0_Readers15, bS c0_Writer15, .own 1 0 c1q15.length]), (1, .row 47 (fl c1q15)), (2, .row 47 (fl r4819.2.2.2.2.1)), (3, .row 3 (fl r4819.2.2.2.2.2)), (4, .row 24 [iS r4819.1, bS r4819.2.1, .own 2 0 r4819.2.2.2.2.1.length]), (5, .row 28 (Enc.cells r4819.2.2.2.1))] 6 (by kernel_rfl) [] [1] (bS r4827) [] (by simp only [push_cast, seval]) (by simp only [push_cast, seval]) (by kernel_rfl) (.inr ⟨by simp only [push_cast, seval], by simp only [push_cast, seval]⟩) (by simp only [push_cast, seval]) (by simp only [push_cast, seval]) ?_
                  refine rs 2 [] [] (by kernel_rfl) allP_nil ?_
                  refine rf [(2, bS r4827)] [(0, .row 24 [iS c0_Readers15, bS c0_Writer15, .own 1 0 c1q15.length]), (1, .row 47 (fl c1q15)), (2, .row 47 (fl r4819.2.2.2.2.1)), (3, .row 3 (fl r4819.2.2.2.2.2)), (4, .row 24 [iS r4819.1, bS r4819.2.1, .own 2 0 r4819.2.2.2.2.1.length]), (5, .row 28 (Enc.cells r4819.2.2.2.1))] 6 (by kernel_rfl) ?_
                  exact hK4824 (r4827) _ _ _ h (leSt_m [] [] (by first | ((try simp only [g4825, g4826]) <;> simp only [push_cast, seval]; done) | ((try simp only [g4825]); (try simp only [g4826]); simp only [push_cast, seval]; done) | (exfalso; clear h; simp_all; done)) (by first | ((try simp only [g4825, g4826]) <;> simp only [push_cast, seval]; done) | ((try simp only [g4825]); (try simp only [g4826]); simp only [push_cast, seval]; done) | (exfalso; clear h; simp_all; done)) rfl rfl rfl)
                · refine rs 4 [] [] (by kernel_rfl) allP_nil ?_
                  refine rf [(2, bS false)] [(0, .row 24 [iS c0_Readers15, bS c0_Writer15, .own 1 0 c1q15.length]), (1, .row 47 (fl c1q15)), (2, .row 47 (fl r4819.2.2.2.2.1)), (3, .row 3 (fl r4819.2.2.2.2.2)), (4, .row 24 [iS r4819.1, bS r4819.2.1, .own 2 0 r4819.2.2.2.2.1.length]), (5, .row 28 (Enc.cells r4819.2.2.2.1))] 6 (by kernel_rfl) ?_
                  exact hK4824 (false) _ _ _ h (leSt_m [] [] (by first | ((try simp only [g4825, g4826]) <;> simp only [push_cast, seval]; done) | ((try simp only [g4825]); (try simp only [g4826]); simp only [push_cast, seval]; done) | (exfalso; clear h; simp_all; done)) (by first | ((try simp only [g4825, g4826]) <;> simp only [push_cast, seval]; done) | ((try simp only [g4825]); (try simp only [g4826]); simp only [push_cast, seval]; done) | (exfalso; clear h; simp_all; done)) rfl rfl rfl)
              · refine rs 7 [] [] (by kernel_rfl) allP_nil ?_
                refine rf [(2, bS false)] [(0, .row 24 [iS c0_Readers15, bS c0_Writer15, .own 1 0 c1q15.length]), (1, .row 47 (fl c1q15)), (2, .row 47 (fl r4819.2.2.2.2.1)), (3, .row 3 (fl r4819.2.2.2.2.2)), (4, .row 24 [iS r4819.1, bS r4819.2.1, .own 2 0 r4819.2.2.2.2.1.length]), (5, .row 28 (Enc.cells r4819.2.2.2.1))] 6 (by kernel_rfl) ?_
                exact hK4824 (false) _ _ _ h (leSt_m [] [] (by (try simp only [g4825]) <;> simp only [push_cast, seval]) (by (try simp only [g4825]) <;> simp only [push_cast, seval]) rfl rfl rfl)
            · rintro t2q1 h
              try dsimp only at h ⊢
              unfold taskmilllaw_LockMutex_j2 at h
              obtain rfl := Option.some.inj h
              refine ret_at (bS t2q1) (by kernel_rfl) ?_
              exact ret_e [] [] (by simp only [push_cast, seval]) (by simp only [push_cast, seval]) rfl rfl rfl

set_option maxRecDepth 100000 in
set_option maxHeartbeats 10000000 in
theorem taskmilllaw_LockShares_1_spec (task : Int) (write : Bool) (c0 : Lock) (r : Bool × Bool × Int × Bool × (List Want)) (h : taskmilllaw_LockShares_1 task write c0 = some r) : SpecW Try.prog 24 [iS task, bS write, .ptr 0 0] [(0, .row 24 (Enc.cells c0))] 1 (fun x h n => x = .tup [bS r.1, bS r.2.1] ∧ h = [(0, .row 24 [iS r.2.2.1, bS r.2.2.2.1, .own 1 0 r.2.2.2.2.length]), (1, .row 47 (fl r.2.2.2.2))] ∧ n = 2) := by
  unfold taskmilllaw_LockShares_1 at h
  refine spec_of (draw_ok _) Try.func24 rfl (by decide) rfl (by kernel_rfl) ?_
  refine seq_np ?_
  refine reg_f ?_
  refine rs 2 [] [] (by kernel_rfl) allP_nil ?_
  refine rf [(0, iS task), (1, bS write), (2, .ptr 0 0)] [(0, .row 24 (Enc.cells c0))] 1 (by kernel_rfl) ?_
  refine wk_id ?_
  refine seq_np ?_
  refine reg_f ?_
  refine rs 3 [] [] (by kernel_rfl) allP_nil ?_
  obtain ⟨r4841, hr4841, h⟩ := bind_sx h
  refine call_x (lock_Enter_spec c0 task write false r4841 hr4841) (args := [.agg (Enc.cells c0), iS task, bS write, bS false]) (dst := (some 14)) (by kernel_rfl) [(0, .row 24 (Enc.cells c0))] 1 (by kernel_rfl) [] [] (.tup [.agg [iS r4841.1, bS r4841.2.1, .own 1 0 r4841.2.2.2.2.length], bS r4841.2.2.1, .agg (Enc.cells r4841.2.2.2.1)]) [(1, .row 47 (fl r4841.2.2.2.2))] (by simp only [push_cast, seval]) (by simp only [push_cast, seval]) (by kernel_rfl) (.inl rfl) (by simp only [push_cast, seval]) (by simp only [push_cast, seval]) ?_
  refine rs 9 [] [] (by kernel_rfl) allP_nil ?_
  refine rf [(2, .ptr 0 0), (7, .ptr 2 0), (8, bS r4841.2.2.1), (9, .ptr 3 0)] [(0, .row 24 (Enc.cells c0)), (1, .row 47 (fl r4841.2.2.2.2)), (2, .row 24 [iS r4841.1, bS r4841.2.1, .own 1 0 r4841.2.2.2.2.length]), (3, .row 28 (Enc.cells r4841.2.2.2.1))] 4 (by kernel_rfl) ?_
  refine wk_id ?_
  refine seq_np ?_
  refine reg_f ?_
  refine rs 2 [] [] (by kernel_rfl) allP_nil ?_
  refine rf [(8, bS r4841.2.2.1), (9, .ptr 3 0)] [(0, .row 24 [iS r4841.1, bS r4841.2.1, .own 1 0 r4841.2.2.2.2.length]), (1, .row 47 (fl r4841.2.2.2.2)), (2, .row 24 [iS r4841.1, bS r4841.2.1, .own 1 0 r4841.2.2.2.2.length]), (3, .row 28 (Enc.cells r4841.2.2.2.1))] 4 (by kernel_rfl) ?_
  refine wk_id ?_
  refine seq_np ?_
  refine reg_t ?_
  refine rs 6 [] [] (by kernel_rfl) allP_nil ?_
  refine rt [(5, bS r4841.2.2.1), (6, bS (r4841.2.2.2.1.Code == 0))] [(0, .row 24 [iS r4841.1, bS r4841.2.1, .own 1 0 r4841.2.2.2.2.length]), (1, .row 47 (fl r4841.2.2.2.2)), (2, .row 24 [iS r4841.1, bS r4841.2.1, .own 1 0 r4841.2.2.2.2.length]), (3, .row 28 (Enc.cells r4841.2.2.2.1))] 10 follows (by kernel_rfl) ?_
  refine wk_id ?_
  obtain rfl := Option.some.inj h
  refine ret_at (.tup [bS r4841.2.2.1, bS (r4841.2.2.2.1.Code == 0)]) (by kernel_rfl) ?_
  exact ret_e [(0, 0), (1, 1)] [] (by simp only [push_cast, seval]) (by simp only [push_cast, seval]) rfl rfl rfl

set_option maxRecDepth 100000 in
set_option maxHeartbeats 10000000 in
theorem taskmilllaw_LockShares_1_1_spec (task : Int) (write : Bool) (c0_Readers : Int) (c0_Writer : Bool) (c1 : (List Want)) (r : Bool × Bool × Int × Bool × (List Want) × (List Want)) (h : taskmilllaw_LockShares_1_1 task write c0_Readers c0_Writer c1 = some r) : SpecW Try.prog 24 [iS task, bS write, .ptr 0 0] [(0, .row 24 [iS c0_Readers, bS c0_Writer, .own 1 0 c1.length]), (1, .row 47 (fl c1))] 2 (fun x h n => x = .tup [bS r.1, bS r.2.1] ∧ h = [(0, .row 24 [iS r.2.2.1, bS r.2.2.2.1, .own 2 0 r.2.2.2.2.1.length]), (1, .row 47 (fl r.2.2.2.2.2)), (2, .row 47 (fl r.2.2.2.2.1))] ∧ n = 3) := by
  unfold taskmilllaw_LockShares_1_1 at h
  refine spec_of (draw_ok _) Try.func24 rfl (by decide) rfl (by kernel_rfl) ?_
  refine seq_np ?_
  refine reg_f ?_
  refine rs 2 [] [] (by kernel_rfl) allP_nil ?_
  refine rf [(0, iS task), (1, bS write), (2, .ptr 0 0)] [(0, .row 24 [iS c0_Readers, bS c0_Writer, .own 1 0 c1.length]), (1, .row 47 (fl c1))] 2 (by kernel_rfl) ?_
  refine wk_id ?_
  refine seq_np ?_
  refine reg_f ?_
  refine rs 3 [] [] (by kernel_rfl) allP_nil ?_
  obtain ⟨r4848, hr4848, h⟩ := bind_sx h
  refine call_x (lock_Enter_spec (Lock.mk c0_Readers c0_Writer c1) task write false r4848 hr4848) (args := [.agg [iS c0_Readers, bS c0_Writer, .own 1 0 c1.length], iS task, bS write, bS false]) (dst := (some 14)) (by kernel_rfl) [(0, .row 24 [iS c0_Readers, bS c0_Writer, .own 1 0 c1.length]), (1, .row 47 (fl c1))] 2 (by kernel_rfl) [] [1] (.tup [.agg [iS r4848.1, bS r4848.2.1, .own 2 0 r4848.2.2.2.2.length], bS r4848.2.2.1, .agg (Enc.cells r4848.2.2.2.1)]) [(2, .row 47 (fl r4848.2.2.2.2))] (by simp only [push_cast, seval]) (by simp only [push_cast, seval]) (by kernel_rfl) (.inr ⟨by simp only [push_cast, seval], by simp only [push_cast, seval]⟩) (by simp only [push_cast, seval]) (by simp only [push_cast, seval]) ?_
  refine rs 9 [] [] (by kernel_rfl) allP_nil ?_
  refine rf [(2, .ptr 0 0), (7, .ptr 3 0), (8, bS r4848.2.2.1), (9, .ptr 4 0)] [(0, .row 24 [iS c0_Readers, bS c0_Writer, .own 1 0 c1.length]), (1, .row 47 (fl c1)), (2, .row 47 (fl r4848.2.2.2.2)), (3, .row 24 [iS r4848.1, bS r4848.2.1, .own 2 0 r4848.2.2.2.2.length]), (4, .row 28 (Enc.cells r4848.2.2.2.1))] 5 (by kernel_rfl) ?_
  refine wk_id ?_
  refine seq_np ?_
  refine reg_f ?_
  refine rs 2 [] [] (by kernel_rfl) allP_nil ?_
  refine rf [(8, bS r4848.2.2.1), (9, .ptr 4 0)] [(0, .row 24 [iS r4848.1, bS r4848.2.1, .own 2 0 r4848.2.2.2.2.length]), (1, .row 47 (fl c1)), (2, .row 47 (fl r4848.2.2.2.2)), (3, .row 24 [iS r4848.1, bS r4848.2.1, .own 2 0 r4848.2.2.2.2.length]), (4, .row 28 (Enc.cells r4848.2.2.2.1))] 5 (by kernel_rfl) ?_
  refine wk_id ?_
  refine seq_np ?_
  refine reg_t ?_
  refine rs 6 [] [] (by kernel_rfl) allP_nil ?_
  refine rt [(5, bS r4848.2.2.1), (6, bS (r4848.2.2.2.1.Code == 0))] [(0, .row 24 [iS r4848.1, bS r4848.2.1, .own 2 0 r4848.2.2.2.2.length]), (1, .row 47 (fl c1)), (2, .row 47 (fl r4848.2.2.2.2)), (3, .row 24 [iS r4848.1, bS r4848.2.1, .own 2 0 r4848.2.2.2.2.length]), (4, .row 28 (Enc.cells r4848.2.2.2.1))] 11 follows (by kernel_rfl) ?_
  refine wk_id ?_
  obtain rfl := Option.some.inj h
  refine ret_at (.tup [bS r4848.2.2.1, bS (r4848.2.2.2.1.Code == 0)]) (by kernel_rfl) ?_
  exact ret_e [(0, 0), (1, 1), (2, 2)] [] (by simp only [push_cast, seval]) (by simp only [push_cast, seval]) rfl rfl rfl

end Go.Proofs.Ythknjjkldflbaaa
