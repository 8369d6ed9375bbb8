/-
  What laws of the chapter alarm compute, and lemmas on it.
  No conditions.
-/
import Derived.Test.YtbhgmnnelheblaaProg
import Derived.Test.YtbhgmnnelheblaaalarmG
set_option linter.unusedSimpArgs false
set_option linter.unusedVariables false
namespace Go.Proofs.Ytbhgmnnelheblaa
open Go Go.Sx
attribute [local irreducible] Wk RunAt
theorem follows : Try.prog.follows .mixedOrders = true := by kernel_rfl

set_option maxRecDepth 100000 in
set_option maxHeartbeats 10000000 in
theorem alarm_fault_spec (code : Int) (xat : Int) (r : Fault) (h : alarm_fault code xat = some r) : SpecW Try.prog 23 [iS code, iS xat] [] 0 (fun x h n => x = .agg (Enc.cells r) ∧ h = [] ∧ n = 0) := by
  unfold alarm_fault at h
  refine spec_of (draw_ok _) Try.func23 rfl (by decide) rfl (by kernel_rfl) ?_
  refine seq_np ?_
  refine reg_f ?_
  refine rs 1 [] [] (by kernel_rfl) allP_nil ?_
  refine rf [(0, iS code), (1, iS xat), (4, .ptr 0 0)] [(0, .row 28 [iS 0, iS 0])] 1 (by kernel_rfl) ?_
  refine wk_id ?_
  refine seq_np ?_
  refine reg_f ?_
  refine rs 4 [] [] (by kernel_rfl) allP_nil ?_
  refine rf [(4, .ptr 0 0)] [(0, .row 28 [iS code, iS xat])] 1 (by kernel_rfl) ?_
  refine wk_id ?_
  obtain rfl := Option.some.inj h
  refine ret_at (.agg [iS code, iS xat]) (by kernel_rfl) ?_
  exact ret_e [] [] (by simp only [push_cast, seval]) (by simp only [push_cast, seval]) rfl rfl rfl

set_option maxRecDepth 100000 in
set_option maxHeartbeats 10000000 in
theorem slices_Clone_Timer_spec (s : (List Timer)) (r : (List Timer)) (h : slices_Clone_Timer s = some r) : SpecW Try.prog 24 [.sl s.length (fl s)] [] 0 (fun x h n => x = .own 0 0 r.length ∧ h = [(0, .row 24 (fl r))] ∧ n = 1) := by
  unfold slices_Clone_Timer at h
  refine spec_of (draw_ok _) Try.func24 rfl (by decide) rfl (by kernel_rfl) ?_
  refine seq_np ?_
  refine reg_f ?_
  refine rs 1 [] [] (by kernel_rfl) allP_nil ?_
  refine rf [(0, .sl s.length (fl s))] [] 0 (by kernel_rfl) ?_
  refine wk_id ?_
  refine seq_np ?_
  refine seq_np ?_
  refine reg_f ?_
  refine rs 1 [] [] (by kernel_rfl) allP_nil ?_
  refine run_nil s.length (some 4) (by kernel_rfl) (fun g28 => ?_) ?_
  · obtain rfl : s = [] := List.eq_nil_of_length_eq_zero g28
    replace h : (some ([])) = some r := by simpa using h
    refine rf [(0, .sl ([] : List Timer).length (fl ([] : List Timer))), (4, bS true)] [] 0 (by kernel_rfl) ?_
    refine wk_id ?_
    refine cond_t (by kernel_rfl) ?_
    refine seq_np ?_
    refine reg_f ?_
    refine rs 1 [] [] (by kernel_rfl) allP_nil ?_
    refine rf [(2, .v (.slice none 0 0))] [] 0 (by kernel_rfl) ?_
    refine wk_id ?_
    obtain rfl := Option.some.inj h
    refine ret_at (.v (.slice none 0 0)) (by kernel_rfl) ?_
    exact ret_e [] [] (by simp only [push_cast, seval]) (by simp only [push_cast, seval]) rfl rfl rfl
  · refine rf [(0, .sl s.length (fl s)), (4, bS false)] [] 0 (by kernel_rfl) ?_
    refine wk_id ?_
    refine cond_f (by kernel_rfl) ?_
    refine wk_id ?_
    refine chk_sx h (fun g27 h => ?_)
    refine seq_np ?_
    refine reg_f ?_
    refine run_mk0 Timer (some 5) 24 (by kernel_rfl) ?_
    have k26 : (([] : List Timer) ++ s).length * 16 ≤ 140737488355328 := by first | simpa only [Bool.and_eq_true, decide_eq_true_eq, bne_iff_ne, ne_eq] using g27 | (simp at g27 ⊢; omega)
    refine rs 3 [none, some ⟨.own 1 0 (([] : List Timer) ++ s).length, [(1, .row 24 (fl (([] : List Timer) ++ s))), (0, .dead)], 2, [0]⟩] _ (by kernel_rfl) (allP_cons (ob_app (P := Try.prog) ([] : List Timer) s 2 16 rfl (fl s) s.length rfl rfl ((fl s).length = s.length * 2) (app_sl s 2 rfl) 24 (by kernel_rfl) (by decide) k26 0 1 []) allP_nil) ?_
    refine rf [(2, .own 1 0 (([] : List Timer) ++ s).length)] [(0, .dead), (1, .row 24 (fl (([] : List Timer) ++ s)))] 2 (by kernel_rfl) ?_
    refine wk_id ?_
    obtain rfl := Option.some.inj h
    refine ret_at (.own 1 0 (([] : List Timer) ++ s).length) (by kernel_rfl) ?_
    exact ret_e [(0, 1)] [] (by simp only [push_cast, seval]) (by simp only [push_cast, seval]) rfl rfl rfl

set_option maxRecDepth 100000 in
set_option maxHeartbeats 10000000 in
theorem alarm_down_1_spec (i : Int) (c0 : (List Timer)) (r : (List Timer)) (h : alarm_down_1 i c0 = some r) : SpecW Try.prog 26 [.own 0 0 c0.length, iS i] [(0, .row 24 (fl c0))] 1 (fun x h n => x = .tup [] ∧ h = [(0, .row 24 (fl r))] ∧ n = 1) := by
  unfold alarm_down_1 at h
  refine spec_of (draw_ok _) Try.func26 rfl (by decide) rfl (by kernel_rfl) ?_
  refine scope_np ?_
  refine chk_sx h (fun g154 h => ?_)
  refine seq_np ?_
  refine reg_f ?_
  have k153 : 0 ≤ i ∧ i < ((c0.length : Nat) : Int) := by first | simpa only [Bool.and_eq_true, decide_eq_true_eq, bne_iff_ne, ne_eq] using g154 | (simp at g154 ⊢; omega)
  refine rs 6 [none, none, some ⟨.ptr 0 (0 + (i).toNat * 2), [], 1, [0]⟩, some ⟨.agg (Enc.cells (ix c0 i)), [], 1, [0]⟩] _ (by kernel_rfl) (allP_cons (ob_ldw c0 i 2 (0 + (i).toNat * 2) k153 rfl (by first | rfl | omega) [iS (ix c0 i).When, iS (ix c0 i).Task] rfl 1 [0]) (allP_cons (ob_ix_o 0 c0.length 0 2 1 i k153) allP_nil)) ?_
  refine rf [(0, .own 0 0 c0.length), (1, iS i), (4, .ptr 1 0)] [(0, .row 24 (fl c0)), (1, .row 24 (Enc.cells (ix c0 i)))] 2 (by kernel_rfl) ?_
  refine wk_id ?_
  refine seq_np ?_
  refine wk_id ?_
  refine seq_np ?_
  refine block_np ?_
  refine loop_sx (S := Int × (List Timer)) (fun a => ([(0, .own 0 0 a.2.length), (1, iS a.1), (4, .ptr 1 0)], [(0, .row 24 (fl a.2)), (1, .row 24 (Enc.cells (ix c0 i)))], 2)) h (leSt_m [(0, 0), (1, 1)] [] (by simp only [push_cast, seval]) (by simp only [push_cast, seval]) rfl rfl rfl) ?_
  rintro ⟨i8, c0q9⟩ o3 R3 h hr3 hn3 hx3 ht3
  try dsimp only at h hn3 ⊢
  unfold alarm_down_1_l2 at h
  try dsimp only at h
  refine block_np ?_
  refine seq_np ?_
  refine reg_f ?_
  refine rs 1 [] [] (by kernel_rfl) allP_nil ?_
  refine rf [(0, .own 0 0 c0q9.length), (1, iS i8), (4, .ptr 1 0), (5, iS (-1))] [(0, .row 24 (fl c0q9)), (1, .row 24 (Enc.cells (ix c0 i)))] 2 (by kernel_rfl) ?_
  refine wk_id ?_
  refine seq_np ?_
  refine seq_np ?_
  refine reg_f ?_
  refine rs 4 [] [] (by kernel_rfl) allP_nil ?_
  refine rf [(0, .own 0 0 c0q9.length), (1, iS i8), (4, .ptr 1 0), (5, iS (-1)), (6, iS (IntKind.i64.wrap ((IntKind.i64.wrap ((4 : Int) * i8)) + 1)))] [(0, .row 24 (fl c0q9)), (1, .row 24 (Enc.cells (ix c0 i)))] 2 (by kernel_rfl) ?_
  refine wk_id ?_
  refine block_np ?_
  refine loop_sx (S := Int × Int) (fun a => ([(0, .own 0 0 c0q9.length), (1, iS i8), (4, .ptr 1 0), (5, iS a.1), (6, iS a.2)], [(0, .row 24 (fl c0q9)), (1, .row 24 (Enc.cells (ix c0 i)))], 2)) h (leSt_m [(0, 0), (1, 1)] [] (by simp only [push_cast, seval]) (by simp only [push_cast, seval]) rfl rfl rfl) ?_
  rintro ⟨best54, c27⟩ o4 R4 h hr4 hn4 hx4 ht4
  try dsimp only at h hn4 ⊢
  unfold alarm_down_1_l1 at h
  try dsimp only at h
  refine seq_np ?_
  refine seq_np ?_
  refine reg_f ?_
  refine rs 8 [] [] (by kernel_rfl) allP_nil ?_
  refine rf [(0, .own 0 0 c0q9.length), (1, iS i8), (4, .ptr 1 0), (5, iS best54), (6, iS c27), (21, bS (decide (c27 < (min (IntKind.i64.wrap ((IntKind.i64.wrap ((4 : Int) * i8)) + 5)) ((c0q9.length : Nat) : Int)))))] [(0, .row 24 (fl c0q9)), (1, .row 24 (Enc.cells (ix c0 i)))] 2 (by kernel_rfl) ?_
  refine wk_id ?_
  refine cond_sx h (by kernel_rfl) (fun g486 h => ?_) (fun g486 h => ?_)
  · refine wk_id ?_
    refine seq_np ?_
    refine block_cut (A := Int) (fun a => ([(0, .own 0 0 c0q9.length), (1, iS i8), (4, .ptr 1 0), (5, iS a), (6, iS c27)], [(0, .row 24 (fl c0q9)), (1, .row 24 (Enc.cells (ix c0 i)))], 2)) (fun a => (alarm_down_1_j1 i c0 i8 c0q9 c27 a) = some o4) (fun K449 hK449 => ?_) ?_
    · refine chk_sx h (fun g458 h => ?_)
      refine chk_sx h (fun g460 h => ?_)
      refine seq_cut (A := Unit) (fun _ => ([(0, .own 0 0 c0q9.length), (1, iS i8), (4, .ptr 1 0), (5, iS best54), (6, iS c27), (38, bS ((decide (best54 < 0)) || (decide ((ix c0q9 c27).When < (ix c0q9 best54).When))))], [(0, .row 24 (fl c0q9)), (1, .row 24 (Enc.cells (ix c0 i)))], 17)) (fun _ => True) (fun K455 hK455 => ?_) (fun _ _ => ?_)
      · refine reg_t ?_
        refine rs 3 [] [] (by kernel_rfl) allP_nil ?_
        refine run_split 26 (decide (best54 < 0)) (.inl (by kernel_rfl)) (fun g456 => ?_) (fun g456 => ?_)
        · refine rs 12 [] [] (by kernel_rfl) allP_nil ?_
          refine rt [(0, .own 0 0 c0q9.length), (1, iS i8), (4, .ptr 1 0), (5, iS best54), (6, iS c27), (38, bS true)] [(0, .row 24 (fl c0q9)), (1, .row 24 (Enc.cells (ix c0 i)))] 17 follows (by kernel_rfl) ?_
          exact hK455 () _ _ _ trivial (leSt_m [(0, 0), (1, 1)] [] (by (try simp only [g456]) <;> simp only [push_cast, seval]) (by (try simp only [g456]) <;> simp only [push_cast, seval]) rfl rfl rfl)
        · have k457 : 0 ≤ c27 ∧ c27 < ((c0q9.length : Nat) : Int) := by have e := or_use g458 (by first | ((try simp only [g456]) <;> rfl) | ((try simp only [g456]); rfl) | (exfalso; clear h; simp_all; done)); first | simpa only [Bool.and_eq_true, decide_eq_true_eq, bne_iff_ne, ne_eq] using e | (simp at e ⊢; omega)
          have k459 : 0 ≤ best54 ∧ best54 < ((c0q9.length : Nat) : Int) := by have e := or_use g460 (by first | ((try simp only [g456]) <;> rfl) | ((try simp only [g456]); rfl) | (exfalso; clear h; simp_all; done)); first | simpa only [Bool.and_eq_true, decide_eq_true_eq, bne_iff_ne, ne_eq] using e | (simp at e ⊢; omega)
          refine rs 12 [none, none, some ⟨.ptr 0 (0 + (c27).toNat * 2), [], 7, [0]⟩, none, some ⟨iS (ix c0q9 c27).When, [], 9, [0]⟩, none, none, some ⟨.ptr 0 (0 + (best54).toNat * 2), [], 12, [0]⟩, none, some ⟨iS (ix c0q9 best54).When, [], 14, [0]⟩] _ (by kernel_rfl) (allP_cons (ob_ld c0q9 best54 2 0 ((0 + (best54).toNat * 2) + 0) k459 rfl (by decide) (by first | rfl | omega) (dflS Try.prog 3) (iS (ix c0q9 best54).When) rfl 14 [0]) (allP_cons (ob_ix_o 0 c0q9.length 0 2 12 best54 k459) (allP_cons (ob_ld c0q9 c27 2 0 ((0 + (c27).toNat * 2) + 0) k457 rfl (by decide) (by first | rfl | omega) (dflS Try.prog 3) (iS (ix c0q9 c27).When) rfl 9 [0]) (allP_cons (ob_ix_o 0 c0q9.length 0 2 7 c27 k457) allP_nil)))) ?_
          refine rt [(0, .own 0 0 c0q9.length), (1, iS i8), (4, .ptr 1 0), (5, iS best54), (6, iS c27), (38, bS (decide ((ix c0q9 c27).When < (ix c0q9 best54).When)))] [(0, .row 24 (fl c0q9)), (1, .row 24 (Enc.cells (ix c0 i)))] 17 follows (by kernel_rfl) ?_
          exact hK455 () _ _ _ trivial (leSt_m [(0, 0), (1, 1)] [] (by (try simp only [g456]) <;> simp only [push_cast, seval]) (by (try simp only [g456]) <;> simp only [push_cast, seval]) rfl rfl rfl)
      · dsimp only
        refine cond_sx h (by kernel_rfl) (fun g461 h => ?_) (fun g461 h => ?_)
        · refine reg_f ?_
          refine rs 2 [] [] (by kernel_rfl) allP_nil ?_
          refine rf [(0, .own 0 0 c0q9.length), (1, iS i8), (4, .ptr 1 0), (5, iS c27), (6, iS c27)] [(0, .row 24 (fl c0q9)), (1, .row 24 (Enc.cells (ix c0 i)))] 17 (by kernel_rfl) ?_
          exact hK449 (c27) _ _ _ h (leSt_m [(0, 0), (1, 1)] [] (by simp only [push_cast, seval]) (by simp only [push_cast, seval]) rfl rfl rfl)
        · exact hK449 (best54) _ _ _ h (leSt_m [(0, 0), (1, 1)] [] (by simp only [push_cast, seval]) (by simp only [push_cast, seval]) rfl rfl rfl)
    · rintro best56 h
      try dsimp only at h ⊢
      unfold alarm_down_1_j1 at h
      refine wk_id ?_
      refine reg_f ?_
      refine rs 3 [] [] (by kernel_rfl) allP_nil ?_
      refine rf [(0, .own 0 0 c0q9.length), (1, iS i8), (4, .ptr 1 0), (5, iS best56), (6, iS (IntKind.i64.wrap (c27 + 1)))] [(0, .row 24 (fl c0q9)), (1, .row 24 (Enc.cells (ix c0 i)))] 2 (by kernel_rfl) ?_
      exact hn4 (best56, (IntKind.i64.wrap (c27 + 1))) _ _ _ (Option.some.inj h).symm (leSt_m [(0, 0), (1, 1)] [] (by simp only [push_cast, seval]) (by simp only [push_cast, seval]) rfl rfl rfl)
  · change R4 (.exit 2) _ _ _
    refine ex_cast hx4 (id := 2) ?_
    obtain ⟨r0, h, e0⟩ := map_sx h
    have e1 := hr4 r0 e0.symm
    subst r0
    refine wk_id ?_
    refine wk_id ?_
    refine seq_np ?_
    refine chk_sx h (fun g472 h => ?_)
    refine seq_cut (A := Unit) (fun _ => ([(0, .own 0 0 c0q9.length), (1, iS i8), (4, .ptr 1 0), (5, iS best54), (51, bS ((decide (best54 < 0)) || (decide ((ix c0 i).When ≤ (ix c0q9 best54).When))))], [(0, .row 24 (fl c0q9)), (1, .row 24 (Enc.cells (ix c0 i)))], 14)) (fun _ => True) (fun K469 hK469 => ?_) (fun _ _ => ?_)
    · refine reg_t ?_
      refine rs 3 [] [] (by kernel_rfl) allP_nil ?_
      refine run_split 42 (decide (best54 < 0)) (.inl (by kernel_rfl)) (fun g470 => ?_) (fun g470 => ?_)
      · refine rs 9 [] [] (by kernel_rfl) allP_nil ?_
        refine rt [(0, .own 0 0 c0q9.length), (1, iS i8), (4, .ptr 1 0), (5, iS best54), (51, bS true)] [(0, .row 24 (fl c0q9)), (1, .row 24 (Enc.cells (ix c0 i)))] 14 follows (by kernel_rfl) ?_
        exact hK469 () _ _ _ trivial (leSt_m [(0, 0), (1, 1)] [] (by (try simp only [g470]) <;> simp only [push_cast, seval]) (by (try simp only [g470]) <;> simp only [push_cast, seval]) rfl rfl rfl)
      · have k471 : 0 ≤ best54 ∧ best54 < ((c0q9.length : Nat) : Int) := by have e := or_use g472 (by first | ((try simp only [g470]) <;> rfl) | ((try simp only [g470]); rfl) | (exfalso; clear h; simp_all; done)); first | simpa only [Bool.and_eq_true, decide_eq_true_eq, bne_iff_ne, ne_eq] using e | (simp at e ⊢; omega)
        refine rs 9 [none, none, some ⟨.ptr 0 (0 + (best54).toNat * 2), [], 7, [0]⟩, none, some ⟨iS (ix c0q9 best54).When, [], 9, [0]⟩] _ (by kernel_rfl) (allP_cons (ob_ld c0q9 best54 2 0 ((0 + (best54).toNat * 2) + 0) k471 rfl (by decide) (by first | rfl | omega) (dflS Try.prog 3) (iS (ix c0q9 best54).When) rfl 9 [0]) (allP_cons (ob_ix_o 0 c0q9.length 0 2 7 best54 k471) allP_nil)) ?_
        refine rt [(0, .own 0 0 c0q9.length), (1, iS i8), (4, .ptr 1 0), (5, iS best54), (51, bS (decide ((ix c0 i).When ≤ (ix c0q9 best54).When)))] [(0, .row 24 (fl c0q9)), (1, .row 24 (Enc.cells (ix c0 i)))] 14 follows (by kernel_rfl) ?_
        exact hK469 () _ _ _ trivial (leSt_m [(0, 0), (1, 1)] [] (by (try simp only [g470]) <;> simp only [push_cast, seval]) (by (try simp only [g470]) <;> simp only [push_cast, seval]) rfl rfl rfl)
    · dsimp only
      refine cond_sx h (by kernel_rfl) (fun g485 h => ?_) (fun g485 h => ?_)
      · change R3 (.exit 0) _ _ _
        refine ex_cast hx3 (id := 0) ?_
        obtain ⟨r0, h, e0⟩ := map_sx h
        have e1 := hr3 r0 e0.symm
        subst r0
        refine wk_id ?_
        refine wk_id ?_
        refine chk_sx h (fun g476 h => ?_)
        refine reg_f ?_
        have k475 : 0 ≤ i8 ∧ i8 < ((c0q9.length : Nat) : Int) := by first | simpa only [Bool.and_eq_true, decide_eq_true_eq, bne_iff_ne, ne_eq] using g476 | (simp at g476 ⊢; omega)
        refine rs 5 [none, none, none, some ⟨.ptr 0 (0 + (i8).toNat * 2), [], 14, [0]⟩, some ⟨.any, [(0, .row 24 (fl (c0q9.set i8.toNat ((ix c0 i) : Timer))))], 14, [0]⟩] _ (by kernel_rfl) (allP_cons (ob_st (P := Try.prog) c0q9 i8 2 0 (0 + (i8).toNat * 2) k475 rfl [iS (ix c0 i).When, iS (ix c0 i).Task] ((ix c0 i) : Timer) (Nat.le_of_ble_eq_true rfl) (by first | rfl | omega) rfl 0 14 24 24 (by kernel_rfl) rfl) (allP_cons (ob_ix_o 0 c0q9.length 0 2 14 i8 k475) allP_nil)) ?_
        refine rf [] [(0, .row 24 (fl (c0q9.set i8.toNat ((ix c0 i) : Timer)))), (1, .row 24 (Enc.cells (ix c0 i)))] 14 (by kernel_rfl) ?_
        obtain rfl := Option.some.inj h
        refine ret_an (.tup []) (by kernel_rfl) ?_
        exact ret_e [(0, 0)] [] (by simp only [push_cast, seval]) (by simp only [push_cast, seval]) rfl rfl rfl
      · refine wk_id ?_
        refine chk_sx h (fun g482 h => ?_)
        refine chk_sx h (fun g484 h => ?_)
        refine seq_np ?_
        refine reg_f ?_
        have k481 : 0 ≤ best54 ∧ best54 < ((c0q9.length : Nat) : Int) := by first | simpa only [Bool.and_eq_true, decide_eq_true_eq, bne_iff_ne, ne_eq] using g482 | (simp at g482 ⊢; omega)
        have k483 : 0 ≤ i8 ∧ i8 < ((c0q9.length : Nat) : Int) := by first | simpa only [Bool.and_eq_true, decide_eq_true_eq, bne_iff_ne, ne_eq] using g484 | (simp at g484 ⊢; omega)
        refine rs 8 [none, none, none, none, some ⟨.ptr 0 (0 + (best54).toNat * 2), [], 14, [0]⟩, some ⟨.agg (Enc.cells (ix c0q9 best54)), [], 14, [0]⟩, some ⟨.ptr 0 (0 + (i8).toNat * 2), [], 14, [0]⟩, some ⟨.any, [(0, .row 24 (fl (c0q9.set i8.toNat ((ix c0q9 best54) : Timer))))], 14, [0]⟩] _ (by kernel_rfl) (allP_cons (ob_st (P := Try.prog) c0q9 i8 2 0 (0 + (i8).toNat * 2) k483 rfl [iS (ix c0q9 best54).When, iS (ix c0q9 best54).Task] ((ix c0q9 best54) : Timer) (Nat.le_of_ble_eq_true rfl) (by first | rfl | omega) rfl 0 14 24 24 (by kernel_rfl) rfl) (allP_cons (ob_ix_o 0 c0q9.length 0 2 14 i8 k483) (allP_cons (ob_ldw c0q9 best54 2 (0 + (best54).toNat * 2) k481 rfl (by first | rfl | omega) [iS (ix c0q9 best54).When, iS (ix c0q9 best54).Task] rfl 14 [0]) (allP_cons (ob_ix_o 0 c0q9.length 0 2 14 best54 k481) allP_nil)))) ?_
        refine run_eqF 0 (.own 0 0 c0q9.length) (.own 0 0 (c0q9.set i8.toNat ((ix c0q9 best54) : Timer)).length) (congrArg (fun nq => (.own 0 0 nq : SV)) (show c0q9.length = (c0q9.set i8.toNat ((ix c0q9 best54) : Timer)).length from (List.length_set ..).symm)) (by kernel_rfl) ?_
        refine rf [(0, .own 0 0 (c0q9.set i8.toNat ((ix c0q9 best54) : Timer)).length), (4, .ptr 1 0), (5, iS best54)] [(0, .row 24 (fl (c0q9.set i8.toNat ((ix c0q9 best54) : Timer)))), (1, .row 24 (Enc.cells (ix c0 i)))] 14 (by kernel_rfl) ?_
        refine wk_id ?_
        refine reg_f ?_
        refine rs 2 [] [] (by kernel_rfl) allP_nil ?_
        refine rf [(0, .own 0 0 (c0q9.set i8.toNat ((ix c0q9 best54) : Timer)).length), (1, iS best54), (4, .ptr 1 0)] [(0, .row 24 (fl (c0q9.set i8.toNat ((ix c0q9 best54) : Timer)))), (1, .row 24 (Enc.cells (ix c0 i)))] 14 (by kernel_rfl) ?_
        refine wk_id ?_
        exact hn3 (best54, (c0q9.set i8.toNat ((ix c0q9 best54) : Timer))) _ _ _ (Option.some.inj h).symm (leSt_m [(0, 0), (1, 1)] [] (by simp only [push_cast, seval]) (by simp only [push_cast, seval]) rfl rfl rfl)

set_option maxRecDepth 100000 in
set_option maxHeartbeats 10000000 in
theorem alarm_Made_spec (l : (List Timer)) (r : Fault × (List Timer)) (h : alarm_Made l = some r) : SpecW Try.prog 19 [.sl l.length (fl l)] [] 0 (fun x h n => x = .tup [.own 0 0 r.2.length, .agg (Enc.cells r.1)] ∧ h = [(0, .row 24 (fl r.2))] ∧ n = 1) := by
  unfold alarm_Made at h
  refine spec_of (draw_ok _) Try.func19 rfl (by decide) rfl (by kernel_rfl) ?_
  refine seq_np ?_
  refine reg_f ?_
  refine rs 2 [] [] (by kernel_rfl) allP_nil ?_
  refine rf [(0, .sl l.length (fl l)), (3, .ptr 0 0)] [(0, .row 28 [iS 0, iS 0])] 1 (by kernel_rfl) ?_
  refine wk_id ?_
  refine seq_np ?_
  refine seq_np ?_
  refine reg_f ?_
  refine rs 3 [] [] (by kernel_rfl) allP_nil ?_
  refine rf [(0, .sl l.length (fl l)), (3, .ptr 0 0), (10, bS (decide ((5000 : Int) < ((l.length : Nat) : Int))))] [(0, .row 28 [iS 0, iS 0])] 1 (by kernel_rfl) ?_
  refine wk_id ?_
  refine cond_sx h (by kernel_rfl) (fun g621 h => ?_) (fun g621 h => ?_)
  · refine seq_np ?_
    refine reg_f ?_
    obtain ⟨r499, hr499, h⟩ := bind_sx h
    refine run_call 23 [iS 2, iS 0] (some 11) (by kernel_rfl) ?_
    refine call_0 (alarm_fault_spec 2 0 r499 hr499) (by simp only [push_cast, seval]) (by simp only [push_cast, seval]) ?_
    refine back_f ?_
    refine rs 2 [] [] (by kernel_rfl) allP_nil ?_
    refine rf [(2, .v (.slice none 0 0)), (3, .ptr 0 0)] [(0, .row 28 (Enc.cells r499))] 1 (by kernel_rfl) ?_
    refine wk_id ?_
    obtain rfl := Option.some.inj h
    refine ret_at (.tup [.v (.slice none 0 0), .agg (Enc.cells r499)]) (by kernel_rfl) ?_
    exact ret_e [] [] (by simp only [push_cast, seval]) (by simp only [push_cast, seval]) rfl rfl rfl
  · refine wk_id ?_
    refine seq_np ?_
    refine seq_np ?_
    refine reg_f ?_
    refine rs 3 [] [] (by kernel_rfl) allP_nil ?_
    refine rf [(0, .sl l.length (fl l)), (3, .ptr 0 0), (12, .sl l.length (fl l)), (13, iS ((l.length : Nat) : Int)), (14, iS 0)] [(0, .row 28 [iS 0, iS 0])] 1 (by kernel_rfl) ?_
    refine wk_id ?_
    refine block_np ?_
    refine loop_sx (S := Int) (fun a => ([(0, .sl l.length (fl l)), (3, .ptr 0 0), (12, .sl l.length (fl l)), (13, iS ((l.length : Nat) : Int)), (14, iS a)], [(0, .row 28 [iS 0, iS 0])], 1)) h (leSt_m [(0, 0)] [] (by simp only [push_cast, seval]) (by simp only [push_cast, seval]) rfl rfl rfl) ?_
    rintro t14q7 o3 R3 h hr3 hn3 hx3 ht3
    try dsimp only at h hn3 ⊢
    unfold alarm_Made_l2 at h
    try dsimp only at h
    refine seq_np ?_
    refine reg_f ?_
    refine rs 1 [] [] (by kernel_rfl) allP_nil ?_
    refine rf [(0, .sl l.length (fl l)), (3, .ptr 0 0), (12, .sl l.length (fl l)), (13, iS ((l.length : Nat) : Int)), (14, iS t14q7), (15, bS (decide (t14q7 < ((l.length : Nat) : Int))))] [(0, .row 28 [iS 0, iS 0])] 1 (by kernel_rfl) ?_
    refine wk_id ?_
    refine seq_np ?_
    refine cond_sx h (by kernel_rfl) (fun g620 h => ?_) (fun g620 h => ?_)
    · refine wk_id ?_
      refine seq_np ?_
      refine block_np ?_
      refine chk_sx h (fun g565 h => ?_)
      refine seq_np ?_
      refine reg_f ?_
      have k564 : 0 ≤ t14q7 ∧ t14q7 < ((l.length : Nat) : Int) := by first | simpa only [Bool.and_eq_true, decide_eq_true_eq, bne_iff_ne, ne_eq] using g565 | (simp at g565 ⊢; omega)
      refine rs 6 [none, some ⟨.iptr (fl l) ((t14q7).toNat * 2), [], 1, []⟩, some ⟨.agg (Enc.cells (ix l t14q7)), [], 1, []⟩] _ (by kernel_rfl) (allP_cons (ob_ldw l t14q7 2 ((t14q7).toNat * 2) k564 rfl (by first | rfl | omega) [iS (ix l t14q7).When, iS (ix l t14q7).Task] rfl 1 []) (allP_cons (ob_ix_l l 2 1 t14q7 k564) allP_nil)) ?_
      refine rf [(0, .sl l.length (fl l)), (3, .ptr 0 0), (4, iS t14q7), (5, .ptr 1 0), (12, .sl l.length (fl l)), (13, iS ((l.length : Nat) : Int)), (14, iS t14q7)] [(0, .row 28 [iS 0, iS 0]), (1, .row 24 (Enc.cells (ix l t14q7)))] 2 (by kernel_rfl) ?_
      refine wk_id ?_
      refine seq_cut (A := Unit) (fun _ => ([(0, .sl l.length (fl l)), (3, .ptr 0 0), (4, iS t14q7), (12, .sl l.length (fl l)), (13, iS ((l.length : Nat) : Int)), (14, iS t14q7), (26, bS ((decide ((ix l t14q7).Task < 1)) || (decide ((ix l t14q7).When < 0))))], [(0, .row 28 [iS 0, iS 0]), (1, .row 24 (Enc.cells (ix l t14q7)))], 2)) (fun _ => True) (fun K567 hK567 => ?_) (fun _ _ => ?_)
      · refine reg_f ?_
        refine rs 4 [] [] (by kernel_rfl) allP_nil ?_
        refine run_split 22 (decide ((ix l t14q7).Task < 1)) (.inl (by kernel_rfl)) (fun g568 => ?_) (fun g568 => ?_)
        · refine rs 4 [] [] (by kernel_rfl) allP_nil ?_
          refine rf [(0, .sl l.length (fl l)), (3, .ptr 0 0), (4, iS t14q7), (12, .sl l.length (fl l)), (13, iS ((l.length : Nat) : Int)), (14, iS t14q7), (26, bS true)] [(0, .row 28 [iS 0, iS 0]), (1, .row 24 (Enc.cells (ix l t14q7)))] 2 (by kernel_rfl) ?_
          exact hK567 () _ _ _ trivial (leSt_m [(0, 0), (1, 1)] [] (by (try simp only [g568]) <;> simp only [push_cast, seval]) (by (try simp only [g568]) <;> simp only [push_cast, seval]) rfl rfl rfl)
        · refine rs 4 [] [] (by kernel_rfl) allP_nil ?_
          refine rf [(0, .sl l.length (fl l)), (3, .ptr 0 0), (4, iS t14q7), (12, .sl l.length (fl l)), (13, iS ((l.length : Nat) : Int)), (14, iS t14q7), (26, bS (decide ((ix l t14q7).When < 0)))] [(0, .row 28 [iS 0, iS 0]), (1, .row 24 (Enc.cells (ix l t14q7)))] 2 (by kernel_rfl) ?_
          exact hK567 () _ _ _ trivial (leSt_m [(0, 0), (1, 1)] [] (by (try simp only [g568]) <;> simp only [push_cast, seval]) (by (try simp only [g568]) <;> simp only [push_cast, seval]) rfl rfl rfl)
      · dsimp only
        refine cond_sx h (by kernel_rfl) (fun g571 h => ?_) (fun g571 h => ?_)
        · refine seq_np ?_
          refine reg_f ?_
          refine rs 1 [] [] (by kernel_rfl) allP_nil ?_
          obtain ⟨r570, hr570, h⟩ := bind_sx h
          refine run_call 23 [iS 3, iS t14q7] (some 28) (by kernel_rfl) ?_
          refine call_0 (alarm_fault_spec 3 t14q7 r570 hr570) (by simp only [push_cast, seval]) (by simp only [push_cast, seval]) ?_
          refine back_f ?_
          refine rs 2 [] [] (by kernel_rfl) allP_nil ?_
          refine rf [(2, .v (.slice none 0 0)), (3, .ptr 0 0)] [(0, .row 28 (Enc.cells r570)), (1, .row 24 (Enc.cells (ix l t14q7)))] 2 (by kernel_rfl) ?_
          refine wk_id ?_
          refine rt_cast ht3 ?_
          obtain ⟨r0, h, e0⟩ := map_sx h
          have e1 := hr3 r0 e0.symm
          subst r0
          obtain rfl := Option.some.inj h
          refine ret_at (.tup [.v (.slice none 0 0), .agg (Enc.cells r570)]) (by kernel_rfl) ?_
          exact ret_e [] [] (by simp only [push_cast, seval]) (by simp only [push_cast, seval]) rfl rfl rfl
        · refine wk_id ?_
          refine wk_id ?_
          refine reg_f ?_
          refine rs 2 [] [] (by kernel_rfl) allP_nil ?_
          refine rf [(0, .sl l.length (fl l)), (3, .ptr 0 0), (12, .sl l.length (fl l)), (13, iS ((l.length : Nat) : Int)), (14, iS (IntKind.i64.wrap (t14q7 + 1)))] [(0, .row 28 [iS 0, iS 0]), (1, .row 24 (Enc.cells (ix l t14q7)))] 2 (by kernel_rfl) ?_
          exact hn3 ((IntKind.i64.wrap (t14q7 + 1))) _ _ _ (Option.some.inj h).symm (leSt_m [(0, 0)] [] (by simp only [push_cast, seval]) (by simp only [push_cast, seval]) rfl rfl rfl)
    · change R3 (.exit 0) _ _ _
      refine ex_cast hx3 (id := 0) ?_
      obtain ⟨r0, h, e0⟩ := map_sx h
      have e1 := hr3 r0 e0.symm
      subst r0
      refine wk_id ?_
      refine wk_id ?_
      refine seq_np ?_
      refine reg_f ?_
      refine rs 1 [] [] (by kernel_rfl) allP_nil ?_
      obtain ⟨r573, hr573, h⟩ := bind_sx h
      refine call_x (slices_Clone_Timer_spec l r573 hr573) (args := [.sl l.length (fl l)]) (dst := (some 31)) (by kernel_rfl) [(0, .row 28 [iS 0, iS 0])] 1 (by kernel_rfl) [] [] (.own 1 0 r573.length) [(1, .row 24 (fl r573))] (by simp only [push_cast, seval]) (by simp only [push_cast, seval]) (by kernel_rfl) (.inl rfl) (by simp only [push_cast, seval]) (by simp only [push_cast, seval]) ?_
      refine rs 1 [] [] (by kernel_rfl) allP_nil ?_
      refine rf [(3, .ptr 0 0), (6, .own 1 0 r573.length)] [(0, .row 28 [iS 0, iS 0]), (1, .row 24 (fl r573))] 2 (by kernel_rfl) ?_
      refine wk_id ?_
      refine seq_np ?_
      refine seq_np ?_
      refine reg_f ?_
      refine rs 5 [] [] (by kernel_rfl) allP_nil ?_
      refine rf [(3, .ptr 0 0), (6, .own 1 0 r573.length), (7, iS (IntKind.i64.wrap (Int.tdiv (IntKind.i64.wrap (((r573.length : Nat) : Int) - 2)) 4)))] [(0, .row 28 [iS 0, iS 0]), (1, .row 24 (fl r573))] 2 (by kernel_rfl) ?_
      refine wk_id ?_
      refine block_np ?_
      refine loop_sx (S := Int × (List Timer)) (fun a => ([(3, .ptr 0 0), (6, .own 1 0 a.2.length), (7, iS a.1)], [(0, .row 28 [iS 0, iS 0]), (1, .row 24 (fl a.2))], 2)) h (leSt_m [(0, 0), (1, 1)] [] (by simp only [push_cast, seval]) (by simp only [push_cast, seval]) rfl rfl rfl) ?_
      rintro ⟨i7, c1q7⟩ o4 R4 h hr4 hn4 hx4 ht4
      try dsimp only at h hn4 ⊢
      unfold alarm_Made_l1 at h
      try dsimp only at h
      refine seq_np ?_
      refine seq_cut (A := Unit) (fun _ => ([(3, .ptr 0 0), (6, .own 1 0 c1q7.length), (7, iS i7), (42, bS ((decide ((0 : Int) ≤ i7)) && (decide ((1 : Int) < ((c1q7.length : Nat) : Int)))))], [(0, .row 28 [iS 0, iS 0]), (1, .row 24 (fl c1q7))], 2)) (fun _ => True) (fun K605 hK605 => ?_) (fun _ _ => ?_)
      · refine reg_f ?_
        refine rs 3 [] [] (by kernel_rfl) allP_nil ?_
        refine run_split 38 (decide ((0 : Int) ≤ i7)) (.inl (by kernel_rfl)) (fun g606 => ?_) (fun g606 => ?_)
        · refine rs 4 [] [] (by kernel_rfl) allP_nil ?_
          refine rf [(3, .ptr 0 0), (6, .own 1 0 c1q7.length), (7, iS i7), (42, bS (decide ((1 : Int) < ((c1q7.length : Nat) : Int))))] [(0, .row 28 [iS 0, iS 0]), (1, .row 24 (fl c1q7))] 2 (by kernel_rfl) ?_
          exact hK605 () _ _ _ trivial (leSt_m [(0, 0), (1, 1)] [] (by (try simp only [g606]) <;> simp only [push_cast, seval]) (by (try simp only [g606]) <;> simp only [push_cast, seval]) rfl rfl rfl)
        · refine rs 4 [] [] (by kernel_rfl) allP_nil ?_
          refine rf [(3, .ptr 0 0), (6, .own 1 0 c1q7.length), (7, iS i7), (42, bS false)] [(0, .row 28 [iS 0, iS 0]), (1, .row 24 (fl c1q7))] 2 (by kernel_rfl) ?_
          exact hK605 () _ _ _ trivial (leSt_m [(0, 0), (1, 1)] [] (by (try simp only [g606]) <;> simp only [push_cast, seval]) (by (try simp only [g606]) <;> simp only [push_cast, seval]) rfl rfl rfl)
      · dsimp only
        refine cond_sx h (by kernel_rfl) (fun g619 h => ?_) (fun g619 h => ?_)
        · refine wk_id ?_
          refine seq_np ?_
          refine block_np ?_
          refine reg_f ?_
          refine rs 2 [] [] (by kernel_rfl) allP_nil ?_
          obtain ⟨r616, hr616, h⟩ := bind_sx h
          refine call_x (alarm_down_1_spec i7 c1q7 r616 hr616) (args := [.own 1 0 c1q7.length, iS i7]) (dst := (some 47)) (by kernel_rfl) [(0, .row 28 [iS 0, iS 0]), (1, .row 24 (fl c1q7))] 2 (by kernel_rfl) [(0, 1)] [] (.tup []) [(1, .row 24 (fl r616)), (1, .dead)] (by simp only [push_cast, seval]) (by simp only [push_cast, seval]) (by kernel_rfl) (.inl rfl) (by simp only [push_cast, seval]) (by simp only [push_cast, seval]) ?_
          refine chk_sx h (fun g618 h => ?_)
          have e617 : c1q7.length = r616.length := (of_decide_eq_true g618).symm
          refine run_eqF 6 (.own 1 0 c1q7.length) (.own 1 0 r616.length) (congrArg (fun nq => (.own 1 0 nq : SV)) (show c1q7.length = r616.length from e617)) (by kernel_rfl) ?_
          refine rf [(3, .ptr 0 0), (6, .own 1 0 r616.length), (7, iS i7)] [(0, .row 28 [iS 0, iS 0]), (1, .row 24 (fl r616))] 3 (by kernel_rfl) ?_
          refine wk_id ?_
          refine wk_id ?_
          refine reg_f ?_
          refine rs 3 [] [] (by kernel_rfl) allP_nil ?_
          refine rf [(3, .ptr 0 0), (6, .own 1 0 r616.length), (7, iS (IntKind.i64.wrap (i7 - 1)))] [(0, .row 28 [iS 0, iS 0]), (1, .row 24 (fl r616))] 3 (by kernel_rfl) ?_
          exact hn4 ((IntKind.i64.wrap (i7 - 1)), r616) _ _ _ (Option.some.inj h).symm (leSt_m [(0, 0), (1, 1)] [] (by simp only [push_cast, seval]) (by simp only [push_cast, seval]) rfl rfl rfl)
        · change R4 (.exit 2) _ _ _
          refine ex_cast hx4 (id := 2) ?_
          obtain ⟨r0, h, e0⟩ := map_sx h
          have e1 := hr4 r0 e0.symm
          subst r0
          refine wk_id ?_
          refine wk_id ?_
          refine seq_np ?_
          refine reg_f ?_
          refine rs 4 [] [] (by kernel_rfl) allP_nil ?_
          refine rf [(2, .own 1 0 c1q7.length), (3, .ptr 0 0)] [(0, .row 28 [iS 0, iS 0]), (1, .row 24 (fl c1q7))] 2 (by kernel_rfl) ?_
          refine wk_id ?_
          obtain rfl := Option.some.inj h
          refine ret_at (.tup [.own 1 0 c1q7.length, .agg [iS 0, iS 0]]) (by kernel_rfl) ?_
          exact ret_e [(0, 1)] [] (by simp only [push_cast, seval]) (by simp only [push_cast, seval]) rfl rfl rfl

set_option maxRecDepth 100000 in
set_option maxHeartbeats 10000000 in
theorem taskmillref_SameTimers_spec (xa : (List Timer)) (b : (List Timer)) (r : Bool) (h : taskmillref_SameTimers xa b = some r) : SpecW Try.prog 13 [.sl xa.length (fl xa), .sl b.length (fl b)] [] 0 (fun x h n => x = bS r ∧ h = [] ∧ n = 0) := by
  unfold taskmillref_SameTimers at h
  refine spec_of (draw_ok _) Try.func13 rfl (by decide) rfl (by kernel_rfl) ?_
  refine seq_np ?_
  refine reg_f ?_
  refine rs 1 [] [] (by kernel_rfl) allP_nil ?_
  refine rf [(0, .sl xa.length (fl xa)), (1, .sl b.length (fl b))] [] 0 (by kernel_rfl) ?_
  refine wk_id ?_
  refine seq_np ?_
  refine seq_np ?_
  refine reg_f ?_
  refine rs 5 [] [] (by kernel_rfl) allP_nil ?_
  refine rf [(0, .sl xa.length (fl xa)), (1, .sl b.length (fl b)), (10, bS (((xa.length : Nat) : Int) != ((b.length : Nat) : Int)))] [] 0 (by kernel_rfl) ?_
  refine wk_id ?_
  refine cond_sx h (by kernel_rfl) (fun g717 h => ?_) (fun g717 h => ?_)
  · refine seq_np ?_
    refine reg_f ?_
    refine rs 1 [] [] (by kernel_rfl) allP_nil ?_
    refine rf [(4, bS false)] [] 0 (by kernel_rfl) ?_
    refine wk_id ?_
    obtain rfl := Option.some.inj h
    refine ret_at (bS false) (by kernel_rfl) ?_
    exact ret_e [] [] (by simp only [push_cast, seval]) (by simp only [push_cast, seval]) rfl rfl rfl
  · refine wk_id ?_
    refine seq_np ?_
    refine seq_np ?_
    refine reg_f ?_
    refine rs 1 [] [] (by kernel_rfl) allP_nil ?_
    refine rf [(0, .sl xa.length (fl xa)), (1, .sl b.length (fl b)), (5, iS 0)] [] 0 (by kernel_rfl) ?_
    refine wk_id ?_
    refine block_np ?_
    refine loop_sx (S := Int) (fun a => ([(0, .sl xa.length (fl xa)), (1, .sl b.length (fl b)), (5, iS a)], [], 0)) h (leSt_m [] [] (by simp only [push_cast, seval]) (by simp only [push_cast, seval]) rfl rfl rfl) ?_
    rintro i7 o2 R2 h hr2 hn2 hx2 ht2
    try dsimp only at h hn2 ⊢
    unfold taskmillref_SameTimers_l1 at h
    try dsimp only at h
    refine seq_np ?_
    refine seq_np ?_
    refine reg_f ?_
    refine rs 4 [] [] (by kernel_rfl) allP_nil ?_
    refine rf [(0, .sl xa.length (fl xa)), (1, .sl b.length (fl b)), (5, iS i7), (14, bS (decide (i7 < ((xa.length : Nat) : Int))))] [] 0 (by kernel_rfl) ?_
    refine wk_id ?_
    refine cond_sx h (by kernel_rfl) (fun g716 h => ?_) (fun g716 h => ?_)
    · refine wk_id ?_
      refine seq_np ?_
      refine block_np ?_
      refine chk_sx h (fun g712 h => ?_)
      refine chk_sx h (fun g714 h => ?_)
      refine seq_np ?_
      refine reg_t ?_
      have k711 : 0 ≤ i7 ∧ i7 < ((xa.length : Nat) : Int) := by first | simpa only [Bool.and_eq_true, decide_eq_true_eq, bne_iff_ne, ne_eq] using g712 | (simp at g712 ⊢; omega)
      have k713 : 0 ≤ i7 ∧ i7 < ((b.length : Nat) : Int) := by first | simpa only [Bool.and_eq_true, decide_eq_true_eq, bne_iff_ne, ne_eq] using g714 | (simp at g714 ⊢; omega)
      refine rs 9 [none, none, some ⟨.iptr (fl xa) ((i7).toNat * 2), [], 2, []⟩, some ⟨.agg (Enc.cells (ix xa i7)), [], 3, []⟩, none, none, some ⟨.iptr (fl b) ((i7).toNat * 2), [], 6, []⟩, some ⟨.agg (Enc.cells (ix b i7)), [], 7, []⟩] _ (by kernel_rfl) (allP_cons (ob_ldw b i7 2 ((i7).toNat * 2) k713 rfl (by first | rfl | omega) [iS (ix b i7).When, iS (ix b i7).Task] rfl 7 []) (allP_cons (ob_ix_l b 2 6 i7 k713) (allP_cons (ob_ldw xa i7 2 ((i7).toNat * 2) k711 rfl (by first | rfl | omega) [iS (ix xa i7).When, iS (ix xa i7).Task] rfl 3 []) (allP_cons (ob_ix_l xa 2 2 i7 k711) allP_nil)))) ?_
      refine rt [(0, .sl xa.length (fl xa)), (1, .sl b.length (fl b)), (5, iS i7), (25, bS (!(((ix xa i7).When == (ix b i7).When) && (((ix xa i7).Task == (ix b i7).Task) && true))))] [] 9 follows (by kernel_rfl) ?_
      refine wk_id ?_
      refine cond_sx h (by kernel_rfl) (fun g715 h => ?_) (fun g715 h => ?_)
      · refine seq_np ?_
        refine reg_f ?_
        refine rs 1 [] [] (by kernel_rfl) allP_nil ?_
        refine rf [(4, bS false)] [] 9 (by kernel_rfl) ?_
        refine wk_id ?_
        refine rt_cast ht2 ?_
        obtain ⟨r0, h, e0⟩ := map_sx h
        have e1 := hr2 r0 e0.symm
        subst r0
        obtain rfl := Option.some.inj h
        refine ret_at (bS false) (by kernel_rfl) ?_
        exact ret_e [] [] (by simp only [push_cast, seval]) (by simp only [push_cast, seval]) rfl rfl rfl
      · refine wk_id ?_
        refine wk_id ?_
        refine reg_f ?_
        refine rs 3 [] [] (by kernel_rfl) allP_nil ?_
        refine rf [(0, .sl xa.length (fl xa)), (1, .sl b.length (fl b)), (5, iS (IntKind.i64.wrap (i7 + 1)))] [] 9 (by kernel_rfl) ?_
        exact hn2 ((IntKind.i64.wrap (i7 + 1))) _ _ _ (Option.some.inj h).symm (leSt_m [] [] (by simp only [push_cast, seval]) (by simp only [push_cast, seval]) rfl rfl rfl)
    · change R2 (.exit 0) _ _ _
      refine ex_cast hx2 (id := 0) ?_
      obtain ⟨r0, h, e0⟩ := map_sx h
      have e1 := hr2 r0 e0.symm
      subst r0
      refine wk_id ?_
      refine wk_id ?_
      refine seq_np ?_
      refine reg_f ?_
      refine rs 1 [] [] (by kernel_rfl) allP_nil ?_
      refine rf [(4, bS true)] [] 0 (by kernel_rfl) ?_
      refine wk_id ?_
      obtain rfl := Option.some.inj h
      refine ret_at (bS true) (by kernel_rfl) ?_
      exact ret_e [] [] (by simp only [push_cast, seval]) (by simp only [push_cast, seval]) rfl rfl rfl

set_option maxRecDepth 100000 in
set_option maxHeartbeats 10000000 in
theorem taskmilllaw_alarmBegun_spec (r : Bool) (h : taskmilllaw_alarmBegun = some r) : SpecW Try.prog 8 [] [] 0 (fun x h n => x = bS r ∧ h = [] ∧ n = 0) := by
  unfold taskmilllaw_alarmBegun at h
  refine spec_of (draw_ok _) Try.func8 rfl (by decide) rfl (by kernel_rfl) ?_
  refine seq_np ?_
  refine reg_f ?_
  refine rs 1 [] [] (by kernel_rfl) allP_nil ?_
  refine rf [] [] 0 (by kernel_rfl) ?_
  refine wk_id ?_
  refine seq_np ?_
  refine reg_f ?_
  refine rs 4 [] [] (by kernel_rfl) allP_nil ?_
  obtain ⟨r722, hr722, h⟩ := bind_sx h
  refine call_x (alarm_Made_spec ([(Timer.mk 3 1), (Timer.mk 1 2), (Timer.mk 2 3)] : List Timer) r722 hr722) (args := [.own 0 0 ([(Timer.mk 3 1), (Timer.mk 1 2), (Timer.mk 2 3)] : List Timer).length]) (dst := (some 8)) (by kernel_rfl) [(0, .row 24 (fl ([(Timer.mk 3 1), (Timer.mk 1 2), (Timer.mk 2 3)] : List Timer)))] 1 (by kernel_rfl) [] [0] (.tup [.own 1 0 r722.2.length, .agg (Enc.cells r722.1)]) [(1, .row 24 (fl r722.2))] (by simp only [push_cast, seval]) (by simp only [push_cast, seval]) (by kernel_rfl) (.inr ⟨by simp only [push_cast, seval], by simp only [push_cast, seval]⟩) (by simp only [push_cast, seval]) (by simp only [push_cast, seval]) ?_
  refine rs 6 [] [] (by kernel_rfl) allP_nil ?_
  refine rf [(1, .own 1 0 r722.2.length), (2, .ptr 2 0)] [(0, .row 24 (fl ([(Timer.mk 3 1), (Timer.mk 1 2), (Timer.mk 2 3)] : List Timer))), (1, .row 24 (fl r722.2)), (2, .row 28 (Enc.cells r722.1))] 3 (by kernel_rfl) ?_
  refine wk_id ?_
  refine seq_cut (A := Bool) (fun a => ([(0, bS a)], [], 0)) (fun a => (taskmilllaw_alarmBegun_j1 a) = some r) (fun K726 hK726 => ?_) ?_
  · refine reg_f ?_
    refine rs 4 [] [] (by kernel_rfl) allP_nil ?_
    refine run_br h 14 (.inl (by kernel_rfl)) (fun g727 h => ?_) (fun g727 h => ?_)
    · refine rs 5 [] [] (by kernel_rfl) allP_nil ?_
      obtain ⟨r728, hr728, h⟩ := bind_sx h
      refine call_x (taskmillref_SameTimers_spec r722.2 ([(Timer.mk 1 2), (Timer.mk 3 1), (Timer.mk 2 3)] : List Timer) r728 hr728) (args := [.own 1 0 r722.2.length, .own 3 0 ([(Timer.mk 1 2), (Timer.mk 3 1), (Timer.mk 2 3)] : List Timer).length]) (dst := (some 20)) (by kernel_rfl) [(0, .row 24 (fl ([(Timer.mk 3 1), (Timer.mk 1 2), (Timer.mk 2 3)] : List Timer))), (1, .row 24 (fl r722.2)), (2, .row 28 (Enc.cells r722.1)), (3, .row 24 (fl ([(Timer.mk 1 2), (Timer.mk 3 1), (Timer.mk 2 3)] : List Timer)))] 4 (by kernel_rfl) [] [1, 3] (bS r728) [] (by simp only [push_cast, seval]) (by simp only [push_cast, seval]) (by kernel_rfl) (.inr ⟨by simp only [push_cast, seval], by simp only [push_cast, seval]⟩) (by simp only [push_cast, seval]) (by simp only [push_cast, seval]) ?_
      refine rs 2 [] [] (by kernel_rfl) allP_nil ?_
      refine rf [(0, bS r728)] [(0, .row 24 (fl ([(Timer.mk 3 1), (Timer.mk 1 2), (Timer.mk 2 3)] : List Timer))), (1, .row 24 (fl r722.2)), (2, .row 28 (Enc.cells r722.1)), (3, .row 24 (fl ([(Timer.mk 1 2), (Timer.mk 3 1), (Timer.mk 2 3)] : List Timer)))] 4 (by kernel_rfl) ?_
      exact hK726 (r728) _ _ _ h (leSt_m [] [] (by (try simp only [g727]) <;> simp only [push_cast, seval]) (by (try simp only [g727]) <;> simp only [push_cast, seval]) rfl rfl rfl)
    · refine rs 8 [] [] (by kernel_rfl) allP_nil ?_
      refine rf [(0, bS false)] [(0, .row 24 (fl ([(Timer.mk 3 1), (Timer.mk 1 2), (Timer.mk 2 3)] : List Timer))), (1, .row 24 (fl r722.2)), (2, .row 28 (Enc.cells r722.1))] 3 (by kernel_rfl) ?_
      exact hK726 (false) _ _ _ h (leSt_m [] [] (by (try simp only [g727]) <;> simp only [push_cast, seval]) (by (try simp only [g727]) <;> simp only [push_cast, seval]) rfl rfl rfl)
  · rintro t0q1 h
    try dsimp only at h ⊢
    unfold taskmilllaw_alarmBegun_j1 at h
    obtain rfl := Option.some.inj h
    refine ret_at (bS t0q1) (by kernel_rfl) ?_
    exact ret_e [] [] (by simp only [push_cast, seval]) (by simp only [push_cast, seval]) rfl rfl rfl

set_option maxRecDepth 100000 in
set_option maxHeartbeats 10000000 in
theorem taskmilllaw_ownTimers_spec (l : (List Timer)) (r : (List Timer)) (h : taskmilllaw_ownTimers l = some r) : SpecW Try.prog 9 [.sl l.length (fl l)] [] 0 (fun x h n => x = .own 0 0 r.length ∧ h = [(0, .row 24 (fl r))] ∧ n = 1) := by
  unfold taskmilllaw_ownTimers at h
  refine spec_of (draw_ok _) Try.func9 rfl (by decide) rfl (by kernel_rfl) ?_
  refine seq_np ?_
  refine reg_f ?_
  refine rs 1 [] [] (by kernel_rfl) allP_nil ?_
  refine rf [(0, .sl l.length (fl l))] [] 0 (by kernel_rfl) ?_
  refine wk_id ?_
  refine chk_sx h (fun g737 h => ?_)
  refine seq_np ?_
  refine reg_f ?_
  have k736 : l.length * 16 ≤ 140737488355328 := by first | simpa only [Bool.and_eq_true, decide_eq_true_eq, bne_iff_ne, ne_eq] using g737 | (simp at g737 ⊢; omega)
  refine rs 3 [none, some ⟨.own 0 0 l.length, [(0, .row 24 (fl l))], 1, []⟩] _ (by kernel_rfl) (allP_cons (ob_app0 (P := Try.prog) l 2 16 rfl (fl l) l.length rfl rfl ((fl l).length = l.length * 2) (app_sl l 2 rfl) 24 (by kernel_rfl) (by decide) k736 0 []) allP_nil) ?_
  refine rf [(2, .own 0 0 l.length)] [(0, .row 24 (fl l))] 1 (by kernel_rfl) ?_
  refine wk_id ?_
  obtain rfl := Option.some.inj h
  refine ret_at (.own 0 0 l.length) (by kernel_rfl) ?_
  exact ret_e [(0, 0)] [] (by simp only [push_cast, seval]) (by simp only [push_cast, seval]) rfl rfl rfl

set_option maxRecDepth 100000 in
set_option maxHeartbeats 10000000 in
theorem alarm_Check_spec (xh : (List Timer)) (r : Fault) (h : alarm_Check xh = some r) : SpecW Try.prog 10 [.sl xh.length (fl xh)] [] 0 (fun x h n => x = .agg (Enc.cells r) ∧ h = [] ∧ n = 0) := by
  unfold alarm_Check at h
  refine spec_of (draw_ok _) Try.func10 rfl (by decide) rfl (by kernel_rfl) ?_
  refine seq_np ?_
  refine reg_f ?_
  refine rs 1 [] [] (by kernel_rfl) allP_nil ?_
  refine rf [(0, .sl xh.length (fl xh)), (2, .ptr 0 0)] [(0, .row 28 [iS 0, iS 0])] 1 (by kernel_rfl) ?_
  refine wk_id ?_
  refine seq_np ?_
  refine seq_np ?_
  refine reg_f ?_
  refine rs 3 [] [] (by kernel_rfl) allP_nil ?_
  refine rf [(0, .sl xh.length (fl xh)), (2, .ptr 0 0), (7, bS (decide ((5000 : Int) < ((xh.length : Nat) : Int))))] [(0, .row 28 [iS 0, iS 0])] 1 (by kernel_rfl) ?_
  refine wk_id ?_
  refine cond_sx h (by kernel_rfl) (fun g895 h => ?_) (fun g895 h => ?_)
  · refine seq_np ?_
    refine reg_f ?_
    obtain ⟨r773, hr773, h⟩ := bind_sx h
    refine run_call 23 [iS 2, iS 0] (some 8) (by kernel_rfl) ?_
    refine call_0 (alarm_fault_spec 2 0 r773 hr773) (by simp only [push_cast, seval]) (by simp only [push_cast, seval]) ?_
    refine back_f ?_
    refine rs 1 [] [] (by kernel_rfl) allP_nil ?_
    refine rf [(2, .ptr 0 0)] [(0, .row 28 (Enc.cells r773))] 1 (by kernel_rfl) ?_
    refine wk_id ?_
    obtain rfl := Option.some.inj h
    refine ret_at (.agg (Enc.cells r773)) (by kernel_rfl) ?_
    exact ret_e [] [] (by simp only [push_cast, seval]) (by simp only [push_cast, seval]) rfl rfl rfl
  · refine wk_id ?_
    refine seq_np ?_
    refine seq_np ?_
    refine reg_f ?_
    refine rs 3 [] [] (by kernel_rfl) allP_nil ?_
    refine rf [(0, .sl xh.length (fl xh)), (2, .ptr 0 0), (9, .sl xh.length (fl xh)), (10, iS ((xh.length : Nat) : Int)), (11, iS 0)] [(0, .row 28 [iS 0, iS 0])] 1 (by kernel_rfl) ?_
    refine wk_id ?_
    refine block_np ?_
    refine loop_sx (S := Int) (fun a => ([(0, .sl xh.length (fl xh)), (2, .ptr 0 0), (9, .sl xh.length (fl xh)), (10, iS ((xh.length : Nat) : Int)), (11, iS a)], [(0, .row 28 [iS 0, iS 0])], 1)) h (leSt_m [(0, 0)] [] (by simp only [push_cast, seval]) (by simp only [push_cast, seval]) rfl rfl rfl) ?_
    rintro t11q7 o2 R2 h hr2 hn2 hx2 ht2
    try dsimp only at h hn2 ⊢
    unfold alarm_Check_l1 at h
    try dsimp only at h
    refine seq_np ?_
    refine reg_f ?_
    refine rs 1 [] [] (by kernel_rfl) allP_nil ?_
    refine rf [(0, .sl xh.length (fl xh)), (2, .ptr 0 0), (9, .sl xh.length (fl xh)), (10, iS ((xh.length : Nat) : Int)), (11, iS t11q7), (12, bS (decide (t11q7 < ((xh.length : Nat) : Int))))] [(0, .row 28 [iS 0, iS 0])] 1 (by kernel_rfl) ?_
    refine wk_id ?_
    refine seq_np ?_
    refine cond_sx h (by kernel_rfl) (fun g894 h => ?_) (fun g894 h => ?_)
    · refine wk_id ?_
      refine seq_np ?_
      refine block_np ?_
      refine chk_sx h (fun g874 h => ?_)
      refine seq_np ?_
      refine reg_f ?_
      have k873 : 0 ≤ t11q7 ∧ t11q7 < ((xh.length : Nat) : Int) := by first | simpa only [Bool.and_eq_true, decide_eq_true_eq, bne_iff_ne, ne_eq] using g874 | (simp at g874 ⊢; omega)
      refine rs 6 [none, some ⟨.iptr (fl xh) ((t11q7).toNat * 2), [], 1, []⟩, some ⟨.agg (Enc.cells (ix xh t11q7)), [], 1, []⟩] _ (by kernel_rfl) (allP_cons (ob_ldw xh t11q7 2 ((t11q7).toNat * 2) k873 rfl (by first | rfl | omega) [iS (ix xh t11q7).When, iS (ix xh t11q7).Task] rfl 1 []) (allP_cons (ob_ix_l xh 2 1 t11q7 k873) allP_nil)) ?_
      refine rf [(0, .sl xh.length (fl xh)), (2, .ptr 0 0), (3, iS t11q7), (4, .ptr 1 0), (9, .sl xh.length (fl xh)), (10, iS ((xh.length : Nat) : Int)), (11, iS t11q7)] [(0, .row 28 [iS 0, iS 0]), (1, .row 24 (Enc.cells (ix xh t11q7)))] 2 (by kernel_rfl) ?_
      refine wk_id ?_
      refine seq_np ?_
      refine seq_cut (A := Unit) (fun _ => ([(0, .sl xh.length (fl xh)), (2, .ptr 0 0), (3, iS t11q7), (4, .ptr 1 0), (9, .sl xh.length (fl xh)), (10, iS ((xh.length : Nat) : Int)), (11, iS t11q7), (23, bS ((decide ((ix xh t11q7).Task < 1)) || (decide ((ix xh t11q7).When < 0))))], [(0, .row 28 [iS 0, iS 0]), (1, .row 24 (Enc.cells (ix xh t11q7)))], 2)) (fun _ => True) (fun K879 hK879 => ?_) (fun _ _ => ?_)
      · refine reg_f ?_
        refine rs 4 [] [] (by kernel_rfl) allP_nil ?_
        refine run_split 19 (decide ((ix xh t11q7).Task < 1)) (.inl (by kernel_rfl)) (fun g880 => ?_) (fun g880 => ?_)
        · refine rs 4 [] [] (by kernel_rfl) allP_nil ?_
          refine rf [(0, .sl xh.length (fl xh)), (2, .ptr 0 0), (3, iS t11q7), (4, .ptr 1 0), (9, .sl xh.length (fl xh)), (10, iS ((xh.length : Nat) : Int)), (11, iS t11q7), (23, bS true)] [(0, .row 28 [iS 0, iS 0]), (1, .row 24 (Enc.cells (ix xh t11q7)))] 2 (by kernel_rfl) ?_
          exact hK879 () _ _ _ trivial (leSt_m [(0, 0), (1, 1)] [] (by (try simp only [g880]) <;> simp only [push_cast, seval]) (by (try simp only [g880]) <;> simp only [push_cast, seval]) rfl rfl rfl)
        · refine rs 4 [] [] (by kernel_rfl) allP_nil ?_
          refine rf [(0, .sl xh.length (fl xh)), (2, .ptr 0 0), (3, iS t11q7), (4, .ptr 1 0), (9, .sl xh.length (fl xh)), (10, iS ((xh.length : Nat) : Int)), (11, iS t11q7), (23, bS (decide ((ix xh t11q7).When < 0)))] [(0, .row 28 [iS 0, iS 0]), (1, .row 24 (Enc.cells (ix xh t11q7)))] 2 (by kernel_rfl) ?_
          exact hK879 () _ _ _ trivial (leSt_m [(0, 0), (1, 1)] [] (by (try simp only [g880]) <;> simp only [push_cast, seval]) (by (try simp only [g880]) <;> simp only [push_cast, seval]) rfl rfl rfl)
      · dsimp only
        refine cond_sx h (by kernel_rfl) (fun g893 h => ?_) (fun g893 h => ?_)
        · refine seq_np ?_
          refine reg_f ?_
          refine rs 1 [] [] (by kernel_rfl) allP_nil ?_
          obtain ⟨r882, hr882, h⟩ := bind_sx h
          refine run_call 23 [iS 3, iS t11q7] (some 25) (by kernel_rfl) ?_
          refine call_0 (alarm_fault_spec 3 t11q7 r882 hr882) (by simp only [push_cast, seval]) (by simp only [push_cast, seval]) ?_
          refine back_f ?_
          refine rs 1 [] [] (by kernel_rfl) allP_nil ?_
          refine rf [(2, .ptr 0 0)] [(0, .row 28 (Enc.cells r882)), (1, .row 24 (Enc.cells (ix xh t11q7)))] 2 (by kernel_rfl) ?_
          refine wk_id ?_
          refine rt_cast ht2 ?_
          obtain ⟨r0, h, e0⟩ := map_sx h
          have e1 := hr2 r0 e0.symm
          subst r0
          obtain rfl := Option.some.inj h
          refine ret_at (.agg (Enc.cells r882)) (by kernel_rfl) ?_
          exact ret_e [] [] (by simp only [push_cast, seval]) (by simp only [push_cast, seval]) rfl rfl rfl
        · refine wk_id ?_
          refine chk_sx h (fun g889 h => ?_)
          refine seq_cut (A := Unit) (fun _ => ([(0, .sl xh.length (fl xh)), (2, .ptr 0 0), (3, iS t11q7), (9, .sl xh.length (fl xh)), (10, iS ((xh.length : Nat) : Int)), (11, iS t11q7), (39, bS ((decide ((0 : Int) < t11q7)) && (decide ((ix xh t11q7).When < (ix xh (IntKind.i64.wrap (Int.tdiv (IntKind.i64.wrap (t11q7 - 1)) 4))).When))))], [(0, .row 28 [iS 0, iS 0]), (1, .row 24 (Enc.cells (ix xh t11q7)))], 16)) (fun _ => True) (fun K886 hK886 => ?_) (fun _ _ => ?_)
          · refine reg_t ?_
            refine rs 3 [] [] (by kernel_rfl) allP_nil ?_
            refine run_split 28 (decide ((0 : Int) < t11q7)) (.inl (by kernel_rfl)) (fun g887 => ?_) (fun g887 => ?_)
            · have k888 : 0 ≤ (IntKind.i64.wrap (Int.tdiv (IntKind.i64.wrap (t11q7 - 1)) 4)) ∧ (IntKind.i64.wrap (Int.tdiv (IntKind.i64.wrap (t11q7 - 1)) 4)) < ((xh.length : Nat) : Int) := by have e := or_use g889 (by first | ((try simp only [g887]) <;> rfl) | ((try simp only [g887]); rfl) | (exfalso; clear h; simp_all; done)); first | simpa only [Bool.and_eq_true, decide_eq_true_eq, bne_iff_ne, ne_eq] using e | (simp at e ⊢; omega)
              refine rs 11 [none, none, none, none, some ⟨.iptr (fl xh) (((IntKind.i64.wrap (Int.tdiv (IntKind.i64.wrap (t11q7 - 1)) 4))).toNat * 2), [], 9, []⟩, none, some ⟨iS (ix xh (IntKind.i64.wrap (Int.tdiv (IntKind.i64.wrap (t11q7 - 1)) 4))).When, [], 11, []⟩] _ (by kernel_rfl) (allP_cons (ob_ld xh (IntKind.i64.wrap (Int.tdiv (IntKind.i64.wrap (t11q7 - 1)) 4)) 2 0 ((((IntKind.i64.wrap (Int.tdiv (IntKind.i64.wrap (t11q7 - 1)) 4))).toNat * 2) + 0) k888 rfl (by decide) (by first | rfl | omega) (dflS Try.prog 3) (iS (ix xh (IntKind.i64.wrap (Int.tdiv (IntKind.i64.wrap (t11q7 - 1)) 4))).When) rfl 11 []) (allP_cons (ob_ix_l xh 2 9 (IntKind.i64.wrap (Int.tdiv (IntKind.i64.wrap (t11q7 - 1)) 4)) k888) allP_nil)) ?_
              refine rt [(0, .sl xh.length (fl xh)), (2, .ptr 0 0), (3, iS t11q7), (9, .sl xh.length (fl xh)), (10, iS ((xh.length : Nat) : Int)), (11, iS t11q7), (39, bS (decide ((ix xh t11q7).When < (ix xh (IntKind.i64.wrap (Int.tdiv (IntKind.i64.wrap (t11q7 - 1)) 4))).When)))] [(0, .row 28 [iS 0, iS 0]), (1, .row 24 (Enc.cells (ix xh t11q7)))] 16 follows (by kernel_rfl) ?_
              exact hK886 () _ _ _ trivial (leSt_m [(0, 0), (1, 1)] [] (by (try simp only [g887]) <;> simp only [push_cast, seval]) (by (try simp only [g887]) <;> simp only [push_cast, seval]) rfl rfl rfl)
            · refine rs 11 [] [] (by kernel_rfl) allP_nil ?_
              refine rt [(0, .sl xh.length (fl xh)), (2, .ptr 0 0), (3, iS t11q7), (9, .sl xh.length (fl xh)), (10, iS ((xh.length : Nat) : Int)), (11, iS t11q7), (39, bS false)] [(0, .row 28 [iS 0, iS 0]), (1, .row 24 (Enc.cells (ix xh t11q7)))] 16 follows (by kernel_rfl) ?_
              exact hK886 () _ _ _ trivial (leSt_m [(0, 0), (1, 1)] [] (by (try simp only [g887]) <;> simp only [push_cast, seval]) (by (try simp only [g887]) <;> simp only [push_cast, seval]) rfl rfl rfl)
          · dsimp only
            refine cond_sx h (by kernel_rfl) (fun g892 h => ?_) (fun g892 h => ?_)
            · refine seq_np ?_
              refine reg_f ?_
              refine rs 1 [] [] (by kernel_rfl) allP_nil ?_
              obtain ⟨r891, hr891, h⟩ := bind_sx h
              refine run_call 23 [iS 5, iS t11q7] (some 41) (by kernel_rfl) ?_
              refine call_0 (alarm_fault_spec 5 t11q7 r891 hr891) (by simp only [push_cast, seval]) (by simp only [push_cast, seval]) ?_
              refine back_f ?_
              refine rs 1 [] [] (by kernel_rfl) allP_nil ?_
              refine rf [(2, .ptr 0 0)] [(0, .row 28 (Enc.cells r891)), (1, .row 24 (Enc.cells (ix xh t11q7)))] 16 (by kernel_rfl) ?_
              refine wk_id ?_
              refine rt_cast ht2 ?_
              obtain ⟨r0, h, e0⟩ := map_sx h
              have e1 := hr2 r0 e0.symm
              subst r0
              obtain rfl := Option.some.inj h
              refine ret_at (.agg (Enc.cells r891)) (by kernel_rfl) ?_
              exact ret_e [] [] (by simp only [push_cast, seval]) (by simp only [push_cast, seval]) rfl rfl rfl
            · refine wk_id ?_
              refine wk_id ?_
              refine reg_f ?_
              refine rs 2 [] [] (by kernel_rfl) allP_nil ?_
              refine rf [(0, .sl xh.length (fl xh)), (2, .ptr 0 0), (9, .sl xh.length (fl xh)), (10, iS ((xh.length : Nat) : Int)), (11, iS (IntKind.i64.wrap (t11q7 + 1)))] [(0, .row 28 [iS 0, iS 0]), (1, .row 24 (Enc.cells (ix xh t11q7)))] 16 (by kernel_rfl) ?_
              exact hn2 ((IntKind.i64.wrap (t11q7 + 1))) _ _ _ (Option.some.inj h).symm (leSt_m [(0, 0)] [] (by simp only [push_cast, seval]) (by simp only [push_cast, seval]) rfl rfl rfl)
    · change R2 (.exit 0) _ _ _
      refine ex_cast hx2 (id := 0) ?_
      obtain ⟨r0, h, e0⟩ := map_sx h
      have e1 := hr2 r0 e0.symm
      subst r0
      refine wk_id ?_
      refine wk_id ?_
      refine seq_np ?_
      refine reg_f ?_
      refine rs 2 [] [] (by kernel_rfl) allP_nil ?_
      refine rf [(2, .ptr 0 0)] [(0, .row 28 [iS 0, iS 0])] 1 (by kernel_rfl) ?_
      refine wk_id ?_
      obtain rfl := Option.some.inj h
      refine ret_at (.agg [iS 0, iS 0]) (by kernel_rfl) ?_
      exact ret_e [] [] (by simp only [push_cast, seval]) (by simp only [push_cast, seval]) rfl rfl rfl

set_option maxRecDepth 100000 in
set_option maxHeartbeats 10000000 in
theorem alarm_up_1_spec (i : Int) (c0 : (List Timer)) (r : Int × (List Timer)) (h : alarm_up_1 i c0 = some r) : SpecW Try.prog 25 [.own 0 0 c0.length, iS i] [(0, .row 24 (fl c0))] 1 (fun x h n => x = iS r.1 ∧ h = [(0, .row 24 (fl r.2))] ∧ n = 1) := by
  unfold alarm_up_1 at h
  refine spec_of (draw_ok _) Try.func25 rfl (by decide) rfl (by kernel_rfl) ?_
  refine seq_np ?_
  refine reg_f ?_
  refine rs 1 [] [] (by kernel_rfl) allP_nil ?_
  refine rf [(0, .own 0 0 c0.length), (1, iS i)] [(0, .row 24 (fl c0))] 1 (by kernel_rfl) ?_
  refine wk_id ?_
  refine chk_sx h (fun g951 h => ?_)
  refine seq_np ?_
  refine reg_f ?_
  have k950 : 0 ≤ i ∧ i < ((c0.length : Nat) : Int) := by first | simpa only [Bool.and_eq_true, decide_eq_true_eq, bne_iff_ne, ne_eq] using g951 | (simp at g951 ⊢; omega)
  refine rs 6 [none, none, some ⟨.ptr 0 (0 + (i).toNat * 2), [], 1, [0]⟩, some ⟨.agg (Enc.cells (ix c0 i)), [], 1, [0]⟩] _ (by kernel_rfl) (allP_cons (ob_ldw c0 i 2 (0 + (i).toNat * 2) k950 rfl (by first | rfl | omega) [iS (ix c0 i).When, iS (ix c0 i).Task] rfl 1 [0]) (allP_cons (ob_ix_o 0 c0.length 0 2 1 i k950) allP_nil)) ?_
  refine rf [(0, .own 0 0 c0.length), (1, iS i), (5, .ptr 1 0)] [(0, .row 24 (fl c0)), (1, .row 24 (Enc.cells (ix c0 i)))] 2 (by kernel_rfl) ?_
  refine wk_id ?_
  refine seq_np ?_
  refine block_cut (A := Int × (List Timer)) (fun a => ([(0, .own 0 0 a.2.length), (1, iS a.1), (5, .ptr 1 0)], [(0, .row 24 (fl a.2)), (1, .row 24 (Enc.cells (ix c0 i)))], 2)) (fun a => (alarm_up_1_j1 i c0 a.1 a.2) = some r) (fun K1005 hK1005 => ?_) ?_
  · refine loop_sx (S := Int × (List Timer)) (fun a => ([(0, .own 0 0 a.2.length), (1, iS a.1), (5, .ptr 1 0)], [(0, .row 24 (fl a.2)), (1, .row 24 (Enc.cells (ix c0 i)))], 2)) h (leSt_m [(0, 0), (1, 1)] [] (by simp only [push_cast, seval]) (by simp only [push_cast, seval]) rfl rfl rfl) ?_
    rintro ⟨i11, c0q12⟩ o2 R2 h hr2 hn2 hx2 ht2
    try dsimp only at h hn2 ⊢
    unfold alarm_up_1_l1 at h
    try dsimp only at h
    refine seq_np ?_
    refine seq_np ?_
    refine reg_f ?_
    refine rs 2 [] [] (by kernel_rfl) allP_nil ?_
    refine rf [(0, .own 0 0 c0q12.length), (1, iS i11), (5, .ptr 1 0), (12, bS (decide ((0 : Int) < i11)))] [(0, .row 24 (fl c0q12)), (1, .row 24 (Enc.cells (ix c0 i)))] 2 (by kernel_rfl) ?_
    refine wk_id ?_
    refine cond_sx h (by kernel_rfl) (fun g1040 h => ?_) (fun g1040 h => ?_)
    · refine wk_id ?_
      refine block_np ?_
      refine seq_np ?_
      refine reg_f ?_
      refine rs 4 [] [] (by kernel_rfl) allP_nil ?_
      refine rf [(0, .own 0 0 c0q12.length), (1, iS i11), (5, .ptr 1 0), (6, iS (IntKind.i64.wrap (Int.tdiv (IntKind.i64.wrap (i11 - 1)) 4)))] [(0, .row 24 (fl c0q12)), (1, .row 24 (Enc.cells (ix c0 i)))] 2 (by kernel_rfl) ?_
      refine wk_id ?_
      refine seq_np ?_
      refine chk_sx h (fun g1030 h => ?_)
      refine seq_np ?_
      refine reg_t ?_
      have k1029 : 0 ≤ (IntKind.i64.wrap (Int.tdiv (IntKind.i64.wrap (i11 - 1)) 4)) ∧ (IntKind.i64.wrap (Int.tdiv (IntKind.i64.wrap (i11 - 1)) 4)) < ((c0q12.length : Nat) : Int) := by first | simpa only [Bool.and_eq_true, decide_eq_true_eq, bne_iff_ne, ne_eq] using g1030 | (simp at g1030 ⊢; omega)
      refine rs 8 [none, none, some ⟨.ptr 0 (0 + ((IntKind.i64.wrap (Int.tdiv (IntKind.i64.wrap (i11 - 1)) 4))).toNat * 2), [], 4, [0]⟩, none, some ⟨iS (ix c0q12 (IntKind.i64.wrap (Int.tdiv (IntKind.i64.wrap (i11 - 1)) 4))).When, [], 6, [0]⟩] _ (by kernel_rfl) (allP_cons (ob_ld c0q12 (IntKind.i64.wrap (Int.tdiv (IntKind.i64.wrap (i11 - 1)) 4)) 2 0 ((0 + ((IntKind.i64.wrap (Int.tdiv (IntKind.i64.wrap (i11 - 1)) 4))).toNat * 2) + 0) k1029 rfl (by decide) (by first | rfl | omega) (dflS Try.prog 3) (iS (ix c0q12 (IntKind.i64.wrap (Int.tdiv (IntKind.i64.wrap (i11 - 1)) 4))).When) rfl 6 [0]) (allP_cons (ob_ix_o 0 c0q12.length 0 2 4 (IntKind.i64.wrap (Int.tdiv (IntKind.i64.wrap (i11 - 1)) 4)) k1029) allP_nil)) ?_
      refine rt [(0, .own 0 0 c0q12.length), (1, iS i11), (5, .ptr 1 0), (6, iS (IntKind.i64.wrap (Int.tdiv (IntKind.i64.wrap (i11 - 1)) 4))), (23, bS (decide ((ix c0q12 (IntKind.i64.wrap (Int.tdiv (IntKind.i64.wrap (i11 - 1)) 4))).When ≤ (ix c0 i).When)))] [(0, .row 24 (fl c0q12)), (1, .row 24 (Enc.cells (ix c0 i)))] 10 follows (by kernel_rfl) ?_
      refine wk_id ?_
      refine cond_sx h (by kernel_rfl) (fun g1039 h => ?_) (fun g1039 h => ?_)
      · change R2 (.exit 0) _ _ _
        refine ex_cast hx2 (id := 0) ?_
        obtain ⟨r0, h, e0⟩ := map_sx h
        have e1 := hr2 r0 e0.symm
        subst r0
        exact hK1005 (i11, c0q12) _ _ _ h (leSt_m [(0, 0), (1, 1)] [] (by simp only [push_cast, seval]) (by simp only [push_cast, seval]) rfl rfl rfl)
      · refine wk_id ?_
        refine chk_sx h (fun g1036 h => ?_)
        refine chk_sx h (fun g1038 h => ?_)
        refine seq_np ?_
        refine reg_f ?_
        have k1035 : 0 ≤ (IntKind.i64.wrap (Int.tdiv (IntKind.i64.wrap (i11 - 1)) 4)) ∧ (IntKind.i64.wrap (Int.tdiv (IntKind.i64.wrap (i11 - 1)) 4)) < ((c0q12.length : Nat) : Int) := by first | simpa only [Bool.and_eq_true, decide_eq_true_eq, bne_iff_ne, ne_eq] using g1036 | (simp at g1036 ⊢; omega)
        have k1037 : 0 ≤ i11 ∧ i11 < ((c0q12.length : Nat) : Int) := by first | simpa only [Bool.and_eq_true, decide_eq_true_eq, bne_iff_ne, ne_eq] using g1038 | (simp at g1038 ⊢; omega)
        refine rs 8 [none, none, none, none, some ⟨.ptr 0 (0 + ((IntKind.i64.wrap (Int.tdiv (IntKind.i64.wrap (i11 - 1)) 4))).toNat * 2), [], 10, [0]⟩, some ⟨.agg (Enc.cells (ix c0q12 (IntKind.i64.wrap (Int.tdiv (IntKind.i64.wrap (i11 - 1)) 4)))), [], 10, [0]⟩, some ⟨.ptr 0 (0 + (i11).toNat * 2), [], 10, [0]⟩, some ⟨.any, [(0, .row 24 (fl (c0q12.set i11.toNat ((ix c0q12 (IntKind.i64.wrap (Int.tdiv (IntKind.i64.wrap (i11 - 1)) 4))) : Timer))))], 10, [0]⟩] _ (by kernel_rfl) (allP_cons (ob_st (P := Try.prog) c0q12 i11 2 0 (0 + (i11).toNat * 2) k1037 rfl [iS (ix c0q12 (IntKind.i64.wrap (Int.tdiv (IntKind.i64.wrap (i11 - 1)) 4))).When, iS (ix c0q12 (IntKind.i64.wrap (Int.tdiv (IntKind.i64.wrap (i11 - 1)) 4))).Task] ((ix c0q12 (IntKind.i64.wrap (Int.tdiv (IntKind.i64.wrap (i11 - 1)) 4))) : Timer) (Nat.le_of_ble_eq_true rfl) (by first | rfl | omega) rfl 0 10 24 24 (by kernel_rfl) rfl) (allP_cons (ob_ix_o 0 c0q12.length 0 2 10 i11 k1037) (allP_cons (ob_ldw c0q12 (IntKind.i64.wrap (Int.tdiv (IntKind.i64.wrap (i11 - 1)) 4)) 2 (0 + ((IntKind.i64.wrap (Int.tdiv (IntKind.i64.wrap (i11 - 1)) 4))).toNat * 2) k1035 rfl (by first | rfl | omega) [iS (ix c0q12 (IntKind.i64.wrap (Int.tdiv (IntKind.i64.wrap (i11 - 1)) 4))).When, iS (ix c0q12 (IntKind.i64.wrap (Int.tdiv (IntKind.i64.wrap (i11 - 1)) 4))).Task] rfl 10 [0]) (allP_cons (ob_ix_o 0 c0q12.length 0 2 10 (IntKind.i64.wrap (Int.tdiv (IntKind.i64.wrap (i11 - 1)) 4)) k1035) allP_nil)))) ?_
        refine run_eqF 0 (.own 0 0 c0q12.length) (.own 0 0 (c0q12.set i11.toNat ((ix c0q12 (IntKind.i64.wrap (Int.tdiv (IntKind.i64.wrap (i11 - 1)) 4))) : Timer)).length) (congrArg (fun nq => (.own 0 0 nq : SV)) (show c0q12.length = (c0q12.set i11.toNat ((ix c0q12 (IntKind.i64.wrap (Int.tdiv (IntKind.i64.wrap (i11 - 1)) 4))) : Timer)).length from (List.length_set ..).symm)) (by kernel_rfl) ?_
        refine rf [(0, .own 0 0 (c0q12.set i11.toNat ((ix c0q12 (IntKind.i64.wrap (Int.tdiv (IntKind.i64.wrap (i11 - 1)) 4))) : Timer)).length), (5, .ptr 1 0), (6, iS (IntKind.i64.wrap (Int.tdiv (IntKind.i64.wrap (i11 - 1)) 4)))] [(0, .row 24 (fl (c0q12.set i11.toNat ((ix c0q12 (IntKind.i64.wrap (Int.tdiv (IntKind.i64.wrap (i11 - 1)) 4))) : Timer)))), (1, .row 24 (Enc.cells (ix c0 i)))] 10 (by kernel_rfl) ?_
        refine wk_id ?_
        refine reg_f ?_
        refine rs 2 [] [] (by kernel_rfl) allP_nil ?_
        refine rf [(0, .own 0 0 (c0q12.set i11.toNat ((ix c0q12 (IntKind.i64.wrap (Int.tdiv (IntKind.i64.wrap (i11 - 1)) 4))) : Timer)).length), (1, iS (IntKind.i64.wrap (Int.tdiv (IntKind.i64.wrap (i11 - 1)) 4))), (5, .ptr 1 0)] [(0, .row 24 (fl (c0q12.set i11.toNat ((ix c0q12 (IntKind.i64.wrap (Int.tdiv (IntKind.i64.wrap (i11 - 1)) 4))) : Timer)))), (1, .row 24 (Enc.cells (ix c0 i)))] 10 (by kernel_rfl) ?_
        refine wk_id ?_
        exact hn2 ((IntKind.i64.wrap (Int.tdiv (IntKind.i64.wrap (i11 - 1)) 4)), (c0q12.set i11.toNat ((ix c0q12 (IntKind.i64.wrap (Int.tdiv (IntKind.i64.wrap (i11 - 1)) 4))) : Timer))) _ _ _ (Option.some.inj h).symm (leSt_m [(0, 0), (1, 1)] [] (by simp only [push_cast, seval]) (by simp only [push_cast, seval]) rfl rfl rfl)
    · change R2 (.exit 0) _ _ _
      refine ex_cast hx2 (id := 0) ?_
      obtain ⟨r0, h, e0⟩ := map_sx h
      have e1 := hr2 r0 e0.symm
      subst r0
      exact hK1005 (i11, c0q12) _ _ _ h (leSt_m [(0, 0), (1, 1)] [] (by simp only [push_cast, seval]) (by simp only [push_cast, seval]) rfl rfl rfl)
  · rintro ⟨i9, c0q10⟩ h
    try dsimp only at h ⊢
    unfold alarm_up_1_j1 at h
    refine wk_id ?_
    refine chk_sx h (fun g1044 h => ?_)
    refine seq_np ?_
    refine reg_f ?_
    have k1043 : 0 ≤ i9 ∧ i9 < ((c0q10.length : Nat) : Int) := by first | simpa only [Bool.and_eq_true, decide_eq_true_eq, bne_iff_ne, ne_eq] using g1044 | (simp at g1044 ⊢; omega)
    refine rs 5 [none, none, none, some ⟨.ptr 0 (0 + (i9).toNat * 2), [], 2, [0]⟩, some ⟨.any, [(0, .row 24 (fl (c0q10.set i9.toNat ((ix c0 i) : Timer))))], 2, [0]⟩] _ (by kernel_rfl) (allP_cons (ob_st (P := Try.prog) c0q10 i9 2 0 (0 + (i9).toNat * 2) k1043 rfl [iS (ix c0 i).When, iS (ix c0 i).Task] ((ix c0 i) : Timer) (Nat.le_of_ble_eq_true rfl) (by first | rfl | omega) rfl 0 2 24 24 (by kernel_rfl) rfl) (allP_cons (ob_ix_o 0 c0q10.length 0 2 2 i9 k1043) allP_nil)) ?_
    refine rf [(1, iS i9)] [(0, .row 24 (fl (c0q10.set i9.toNat ((ix c0 i) : Timer)))), (1, .row 24 (Enc.cells (ix c0 i)))] 2 (by kernel_rfl) ?_
    refine wk_id ?_
    refine seq_np ?_
    refine reg_f ?_
    refine rs 2 [] [] (by kernel_rfl) allP_nil ?_
    refine rf [(4, iS i9)] [(0, .row 24 (fl (c0q10.set i9.toNat ((ix c0 i) : Timer)))), (1, .row 24 (Enc.cells (ix c0 i)))] 2 (by kernel_rfl) ?_
    refine wk_id ?_
    obtain rfl := Option.some.inj h
    refine ret_at (iS i9) (by kernel_rfl) ?_
    exact ret_e [(0, 0)] [] (by simp only [push_cast, seval]) (by simp only [push_cast, seval]) rfl rfl rfl

set_option maxRecDepth 100000 in
set_option maxHeartbeats 10000000 in
theorem alarm_Add_spec (xh : (List Timer)) (t : Timer) (r : Int × Fault × (List Timer)) (h : alarm_Add xh t = some r) : SpecW Try.prog 11 [.sl xh.length (fl xh), .agg (Enc.cells t)] [] 0 (fun x h n => x = .tup [.own 0 0 r.2.2.length, iS r.1, .agg (Enc.cells r.2.1)] ∧ h = [(0, .row 24 (fl r.2.2))] ∧ n = 1) := by
  unfold alarm_Add at h
  refine spec_of (draw_ok _) Try.func11 rfl (by decide) rfl (by kernel_rfl) ?_
  refine seq_np ?_
  refine reg_f ?_
  refine rs 4 [] [] (by kernel_rfl) allP_nil ?_
  refine rf [(0, .sl xh.length (fl xh)), (3, .ptr 0 0), (6, .ptr 1 0)] [(0, .row 24 (Enc.cells t)), (1, .row 28 [iS 0, iS 0])] 2 (by kernel_rfl) ?_
  refine wk_id ?_
  refine seq_np ?_
  refine seq_np ?_
  refine reg_f ?_
  refine rs 1 [] [] (by kernel_rfl) allP_nil ?_
  obtain ⟨r1051, hr1051, h⟩ := bind_sx h
  refine run_call 10 [.sl xh.length (fl xh)] (some 9) (by kernel_rfl) ?_
  refine call_0 (alarm_Check_spec xh r1051 hr1051) (by simp only [push_cast, seval]) (by simp only [push_cast, seval]) ?_
  refine back_f ?_
  refine rs 2 [] [] (by kernel_rfl) allP_nil ?_
  refine rf [(0, .sl xh.length (fl xh)), (3, .ptr 0 0), (6, .ptr 1 0), (7, .ptr 2 0)] [(0, .row 24 (Enc.cells t)), (1, .row 28 [iS 0, iS 0]), (2, .row 28 (Enc.cells r1051))] 3 (by kernel_rfl) ?_
  refine wk_id ?_
  refine seq_np ?_
  refine reg_f ?_
  refine rs 3 [] [] (by kernel_rfl) allP_nil ?_
  refine rf [(0, .sl xh.length (fl xh)), (3, .ptr 0 0), (6, .ptr 1 0), (7, .ptr 2 0), (12, bS (r1051.Code != 0))] [(0, .row 24 (Enc.cells t)), (1, .row 28 [iS 0, iS 0]), (2, .row 28 (Enc.cells r1051))] 3 (by kernel_rfl) ?_
  refine wk_id ?_
  refine cond_sx h (by kernel_rfl) (fun g1078 h => ?_) (fun g1078 h => ?_)
  · refine seq_np ?_
    refine reg_t ?_
    refine rs 4 [] [] (by kernel_rfl) allP_nil ?_
    refine rt [(4, .v (.slice none 0 0)), (5, iS 0), (6, .ptr 1 0)] [(0, .row 24 (Enc.cells t)), (1, .row 28 (Enc.cells r1051)), (2, .row 28 (Enc.cells r1051))] 7 follows (by kernel_rfl) ?_
    refine wk_id ?_
    obtain rfl := Option.some.inj h
    refine ret_at (.tup [.v (.slice none 0 0), iS 0, .agg (Enc.cells r1051)]) (by kernel_rfl) ?_
    exact ret_e [] [] (by simp only [push_cast, seval]) (by simp only [push_cast, seval]) rfl rfl rfl
  · refine wk_id ?_
    refine seq_np ?_
    refine seq_cut (A := Unit) (fun _ => ([(0, .sl xh.length (fl xh)), (3, .ptr 0 0), (6, .ptr 1 0), (21, bS ((decide (t.Task < 1)) || (decide (t.When < 0))))], [(0, .row 24 (Enc.cells t)), (1, .row 28 [iS 0, iS 0]), (2, .row 28 (Enc.cells r1051))], 3)) (fun _ => True) (fun K1056 hK1056 => ?_) (fun _ _ => ?_)
    · refine reg_f ?_
      refine rs 4 [] [] (by kernel_rfl) allP_nil ?_
      refine run_split 17 (decide (t.Task < 1)) (.inl (by kernel_rfl)) (fun g1057 => ?_) (fun g1057 => ?_)
      · refine rs 4 [] [] (by kernel_rfl) allP_nil ?_
        refine rf [(0, .sl xh.length (fl xh)), (3, .ptr 0 0), (6, .ptr 1 0), (21, bS true)] [(0, .row 24 (Enc.cells t)), (1, .row 28 [iS 0, iS 0]), (2, .row 28 (Enc.cells r1051))] 3 (by kernel_rfl) ?_
        exact hK1056 () _ _ _ trivial (leSt_m [(0, 0), (1, 1), (2, 2)] [] (by (try simp only [g1057]) <;> simp only [push_cast, seval]) (by (try simp only [g1057]) <;> simp only [push_cast, seval]) rfl rfl rfl)
      · refine rs 4 [] [] (by kernel_rfl) allP_nil ?_
        refine rf [(0, .sl xh.length (fl xh)), (3, .ptr 0 0), (6, .ptr 1 0), (21, bS (decide (t.When < 0)))] [(0, .row 24 (Enc.cells t)), (1, .row 28 [iS 0, iS 0]), (2, .row 28 (Enc.cells r1051))] 3 (by kernel_rfl) ?_
        exact hK1056 () _ _ _ trivial (leSt_m [(0, 0), (1, 1), (2, 2)] [] (by (try simp only [g1057]) <;> simp only [push_cast, seval]) (by (try simp only [g1057]) <;> simp only [push_cast, seval]) rfl rfl rfl)
    · dsimp only
      refine cond_sx h (by kernel_rfl) (fun g1077 h => ?_) (fun g1077 h => ?_)
      · refine seq_np ?_
        refine reg_f ?_
        obtain ⟨r1059, hr1059, h⟩ := bind_sx h
        refine run_call 23 [iS 3, iS (-1)] (some 22) (by kernel_rfl) ?_
        refine call_0 (alarm_fault_spec 3 (-1) r1059 hr1059) (by simp only [push_cast, seval]) (by simp only [push_cast, seval]) ?_
        refine back_f ?_
        refine rs 3 [] [] (by kernel_rfl) allP_nil ?_
        refine rf [(4, .v (.slice none 0 0)), (5, iS 0), (6, .ptr 1 0)] [(0, .row 24 (Enc.cells t)), (1, .row 28 (Enc.cells r1059)), (2, .row 28 (Enc.cells r1051))] 3 (by kernel_rfl) ?_
        refine wk_id ?_
        obtain rfl := Option.some.inj h
        refine ret_at (.tup [.v (.slice none 0 0), iS 0, .agg (Enc.cells r1059)]) (by kernel_rfl) ?_
        exact ret_e [] [] (by simp only [push_cast, seval]) (by simp only [push_cast, seval]) rfl rfl rfl
      · refine wk_id ?_
        refine seq_np ?_
        refine seq_np ?_
        refine reg_f ?_
        refine rs 3 [] [] (by kernel_rfl) allP_nil ?_
        refine rf [(0, .sl xh.length (fl xh)), (3, .ptr 0 0), (6, .ptr 1 0), (25, bS (((xh.length : Nat) : Int) == 5000))] [(0, .row 24 (Enc.cells t)), (1, .row 28 [iS 0, iS 0]), (2, .row 28 (Enc.cells r1051))] 3 (by kernel_rfl) ?_
        refine wk_id ?_
        refine cond_sx h (by kernel_rfl) (fun g1076 h => ?_) (fun g1076 h => ?_)
        · refine seq_np ?_
          refine reg_f ?_
          obtain ⟨r1063, hr1063, h⟩ := bind_sx h
          refine run_call 23 [iS 9, iS 0] (some 26) (by kernel_rfl) ?_
          refine call_0 (alarm_fault_spec 9 0 r1063 hr1063) (by simp only [push_cast, seval]) (by simp only [push_cast, seval]) ?_
          refine back_f ?_
          refine rs 3 [] [] (by kernel_rfl) allP_nil ?_
          refine rf [(4, .v (.slice none 0 0)), (5, iS 0), (6, .ptr 1 0)] [(0, .row 24 (Enc.cells t)), (1, .row 28 (Enc.cells r1063)), (2, .row 28 (Enc.cells r1051))] 3 (by kernel_rfl) ?_
          refine wk_id ?_
          obtain rfl := Option.some.inj h
          refine ret_at (.tup [.v (.slice none 0 0), iS 0, .agg (Enc.cells r1063)]) (by kernel_rfl) ?_
          exact ret_e [] [] (by simp only [push_cast, seval]) (by simp only [push_cast, seval]) rfl rfl rfl
        · refine wk_id ?_
          refine seq_np ?_
          refine reg_t ?_
          refine rs 1 [] [] (by kernel_rfl) allP_nil ?_
          obtain ⟨r1067, hr1067, h⟩ := bind_sx h
          refine call_x (slices_Clone_Timer_spec xh r1067 hr1067) (args := [.sl xh.length (fl xh)]) (dst := (some 28)) (by kernel_rfl) [(0, .row 24 (Enc.cells t)), (1, .row 28 [iS 0, iS 0]), (2, .row 28 (Enc.cells r1051))] 4 (by kernel_rfl) [] [] (.own 4 0 r1067.length) [(4, .row 24 (fl r1067))] (by simp only [push_cast, seval]) (by simp only [push_cast, seval]) (by kernel_rfl) (.inl rfl) (by simp only [push_cast, seval]) (by simp only [push_cast, seval]) ?_
          refine chk_sx h (fun g1069 h => ?_)
          have k1068 : (r1067 ++ ([t] : List Timer)).length * 16 ≤ 140737488355328 := by first | simpa only [Bool.and_eq_true, decide_eq_true_eq, bne_iff_ne, ne_eq] using g1069 | (simp at g1069 ⊢; omega)
          refine rs 4 [none, none, some ⟨.own 9 0 (r1067 ++ ([t] : List Timer)).length, [(9, .row 24 (fl (r1067 ++ ([t] : List Timer)))), (4, .dead)], 10, [4, 7]⟩] _ (by kernel_rfl) (allP_cons (ob_app (P := Try.prog) r1067 ([t] : List Timer) 2 16 rfl (appCells (fl ([t] : List Timer)) 0 (([t] : List Timer).length * 2)) ([t] : List Timer).length (app_own ([t] : List Timer) 2 rfl) rfl (0 + ([t] : List Timer).length * 2 ≤ (fl ([t] : List Timer)).length) (app_own_le ([t] : List Timer) 2 rfl) 24 (by kernel_rfl) (by decide) k1068 4 9 [7]) allP_nil) ?_
          refine rt [(0, .own 9 0 (r1067 ++ ([t] : List Timer)).length), (6, .ptr 1 0)] [(0, .row 24 (Enc.cells t)), (1, .row 28 [iS 0, iS 0]), (2, .row 28 (Enc.cells r1051)), (4, .dead), (7, .row 24 (fl ([t] : List Timer))), (9, .row 24 (fl (r1067 ++ ([t] : List Timer))))] 12 follows (by kernel_rfl) ?_
          refine wk_id ?_
          refine seq_np ?_
          refine reg_f ?_
          refine rs 5 [] [] (by kernel_rfl) allP_nil ?_
          obtain ⟨r1073, hr1073, h⟩ := bind_sx h
          refine call_x (alarm_up_1_spec (IntKind.i64.wrap ((((r1067 ++ ([t] : List Timer)).length : Nat) : Int) - 1)) (r1067 ++ ([t] : List Timer)) r1073 hr1073) (args := [.own 9 0 (r1067 ++ ([t] : List Timer)).length, iS (IntKind.i64.wrap ((((r1067 ++ ([t] : List Timer)).length : Nat) : Int) - 1))]) (dst := (some 37)) (by kernel_rfl) [(0, .row 24 (Enc.cells t)), (1, .row 28 [iS 0, iS 0]), (2, .row 28 (Enc.cells r1051)), (4, .dead), (7, .row 24 (fl ([t] : List Timer))), (9, .row 24 (fl (r1067 ++ ([t] : List Timer))))] 12 (by kernel_rfl) [(0, 9)] [] (iS r1073.1) [(9, .row 24 (fl r1073.2)), (9, .dead)] (by simp only [push_cast, seval]) (by simp only [push_cast, seval]) (by kernel_rfl) (.inl rfl) (by simp only [push_cast, seval]) (by simp only [push_cast, seval]) ?_
          refine chk_sx h (fun g1075 h => ?_)
          have e1074 : (r1067 ++ ([t] : List Timer)).length = r1073.2.length := (of_decide_eq_true g1075).symm
          refine run_eqF 32 (.own 9 0 (r1067 ++ ([t] : List Timer)).length) (.own 9 0 r1073.2.length) (congrArg (fun nq => (.own 9 0 nq : SV)) (show (r1067 ++ ([t] : List Timer)).length = r1073.2.length from e1074)) (by kernel_rfl) ?_
          refine rs 4 [] [] (by kernel_rfl) allP_nil ?_
          refine rf [(4, .own 9 0 r1073.2.length), (5, iS r1073.1), (6, .ptr 1 0)] [(0, .row 24 (Enc.cells t)), (1, .row 28 [iS 0, iS 0]), (2, .row 28 (Enc.cells r1051)), (4, .dead), (7, .row 24 (fl ([t] : List Timer))), (9, .row 24 (fl r1073.2))] 13 (by kernel_rfl) ?_
          refine wk_id ?_
          obtain rfl := Option.some.inj h
          refine ret_at (.tup [.own 9 0 r1073.2.length, iS r1073.1, .agg [iS 0, iS 0]]) (by kernel_rfl) ?_
          exact ret_e [(0, 9)] [] (by simp only [push_cast, seval]) (by simp only [push_cast, seval]) rfl rfl rfl

set_option maxRecDepth 100000 in
set_option maxHeartbeats 10000000 in
theorem taskmillref_F_spec (code : Int) (xat : Int) (r : Fault) (h : taskmillref_F code xat = some r) : SpecW Try.prog 15 [iS code, iS xat] [] 0 (fun x h n => x = .agg (Enc.cells r) ∧ h = [] ∧ n = 0) := by
  unfold taskmillref_F at h
  refine spec_of (draw_ok _) Try.func15 rfl (by decide) rfl (by kernel_rfl) ?_
  refine seq_np ?_
  refine reg_f ?_
  refine rs 1 [] [] (by kernel_rfl) allP_nil ?_
  refine rf [(0, iS code), (1, iS xat), (4, .ptr 0 0)] [(0, .row 28 [iS 0, iS 0])] 1 (by kernel_rfl) ?_
  refine wk_id ?_
  refine seq_np ?_
  refine reg_f ?_
  refine rs 4 [] [] (by kernel_rfl) allP_nil ?_
  refine rf [(4, .ptr 0 0)] [(0, .row 28 [iS code, iS xat])] 1 (by kernel_rfl) ?_
  refine wk_id ?_
  obtain rfl := Option.some.inj h
  refine ret_at (.agg [iS code, iS xat]) (by kernel_rfl) ?_
  exact ret_e [] [] (by simp only [push_cast, seval]) (by simp only [push_cast, seval]) rfl rfl rfl

set_option maxRecDepth 100000 in
set_option maxHeartbeats 10000000 in
theorem taskmillref_TimerFault_spec (t : Timer) (xat : Int) (r : Fault) (h : taskmillref_TimerFault t xat = some r) : SpecW Try.prog 14 [.agg (Enc.cells t), iS xat] [] 0 (fun x h n => x = .agg (Enc.cells r) ∧ h = [] ∧ n = 0) := by
  unfold taskmillref_TimerFault at h
  refine spec_of (draw_ok _) Try.func14 rfl (by decide) rfl (by kernel_rfl) ?_
  refine seq_np ?_
  refine reg_f ?_
  refine rs 2 [] [] (by kernel_rfl) allP_nil ?_
  refine rf [(1, iS xat), (2, .ptr 0 0), (4, .ptr 1 0)] [(0, .row 24 (Enc.cells t)), (1, .row 28 [iS 0, iS 0])] 2 (by kernel_rfl) ?_
  refine wk_id ?_
  refine seq_np ?_
  refine seq_cut (A := Unit) (fun _ => ([(1, iS xat), (4, .ptr 1 0), (12, bS ((decide (t.Task < 1)) || (decide (t.When < 0))))], [(0, .row 24 (Enc.cells t)), (1, .row 28 [iS 0, iS 0])], 2)) (fun _ => True) (fun K1092 hK1092 => ?_) (fun _ _ => ?_)
  · refine reg_f ?_
    refine rs 4 [] [] (by kernel_rfl) allP_nil ?_
    refine run_split 8 (decide (t.Task < 1)) (.inl (by kernel_rfl)) (fun g1093 => ?_) (fun g1093 => ?_)
    · refine rs 4 [] [] (by kernel_rfl) allP_nil ?_
      refine rf [(1, iS xat), (4, .ptr 1 0), (12, bS true)] [(0, .row 24 (Enc.cells t)), (1, .row 28 [iS 0, iS 0])] 2 (by kernel_rfl) ?_
      exact hK1092 () _ _ _ trivial (leSt_m [(0, 0), (1, 1)] [] (by (try simp only [g1093]) <;> simp only [push_cast, seval]) (by (try simp only [g1093]) <;> simp only [push_cast, seval]) rfl rfl rfl)
    · refine rs 4 [] [] (by kernel_rfl) allP_nil ?_
      refine rf [(1, iS xat), (4, .ptr 1 0), (12, bS (decide (t.When < 0)))] [(0, .row 24 (Enc.cells t)), (1, .row 28 [iS 0, iS 0])] 2 (by kernel_rfl) ?_
      exact hK1092 () _ _ _ trivial (leSt_m [(0, 0), (1, 1)] [] (by (try simp only [g1093]) <;> simp only [push_cast, seval]) (by (try simp only [g1093]) <;> simp only [push_cast, seval]) rfl rfl rfl)
  · dsimp only
    refine cond_sx h (by kernel_rfl) (fun g1096 h => ?_) (fun g1096 h => ?_)
    · refine seq_np ?_
      refine reg_f ?_
      refine rs 1 [] [] (by kernel_rfl) allP_nil ?_
      obtain ⟨r1095, hr1095, h⟩ := bind_sx h
      refine run_call 15 [iS 3, iS xat] (some 14) (by kernel_rfl) ?_
      refine call_0 (taskmillref_F_spec 3 xat r1095 hr1095) (by simp only [push_cast, seval]) (by simp only [push_cast, seval]) ?_
      refine back_f ?_
      refine rs 1 [] [] (by kernel_rfl) allP_nil ?_
      refine rf [(4, .ptr 1 0)] [(0, .row 24 (Enc.cells t)), (1, .row 28 (Enc.cells r1095))] 2 (by kernel_rfl) ?_
      refine wk_id ?_
      obtain rfl := Option.some.inj h
      refine ret_at (.agg (Enc.cells r1095)) (by kernel_rfl) ?_
      exact ret_e [] [] (by simp only [push_cast, seval]) (by simp only [push_cast, seval]) rfl rfl rfl
    · refine wk_id ?_
      refine seq_np ?_
      refine reg_f ?_
      refine rs 2 [] [] (by kernel_rfl) allP_nil ?_
      refine rf [(4, .ptr 1 0)] [(0, .row 24 (Enc.cells t)), (1, .row 28 [iS 0, iS 0])] 2 (by kernel_rfl) ?_
      refine wk_id ?_
      obtain rfl := Option.some.inj h
      refine ret_at (.agg [iS 0, iS 0]) (by kernel_rfl) ?_
      exact ret_e [] [] (by simp only [push_cast, seval]) (by simp only [push_cast, seval]) rfl rfl rfl

set_option maxRecDepth 100000 in
set_option maxHeartbeats 10000000 in
theorem taskmillref_HeapFault_spec (xh : (List Timer)) (r : Fault) (h : taskmillref_HeapFault xh = some r) : SpecW Try.prog 12 [.sl xh.length (fl xh)] [] 0 (fun x h n => x = .agg (Enc.cells r) ∧ h = [] ∧ n = 0) := by
  unfold taskmillref_HeapFault at h
  refine spec_of (draw_ok _) Try.func12 rfl (by decide) rfl (by kernel_rfl) ?_
  refine seq_np ?_
  refine reg_f ?_
  refine rs 1 [] [] (by kernel_rfl) allP_nil ?_
  refine rf [(0, .sl xh.length (fl xh)), (2, .ptr 0 0)] [(0, .row 28 [iS 0, iS 0])] 1 (by kernel_rfl) ?_
  refine wk_id ?_
  refine seq_np ?_
  refine seq_np ?_
  refine reg_f ?_
  refine rs 3 [] [] (by kernel_rfl) allP_nil ?_
  refine rf [(0, .sl xh.length (fl xh)), (2, .ptr 0 0), (7, bS (decide ((5000 : Int) < ((xh.length : Nat) : Int))))] [(0, .row 28 [iS 0, iS 0])] 1 (by kernel_rfl) ?_
  refine wk_id ?_
  refine cond_sx h (by kernel_rfl) (fun g1252 h => ?_) (fun g1252 h => ?_)
  · refine seq_np ?_
    refine reg_f ?_
    obtain ⟨r1127, hr1127, h⟩ := bind_sx h
    refine run_call 15 [iS 2, iS 0] (some 8) (by kernel_rfl) ?_
    refine call_0 (taskmillref_F_spec 2 0 r1127 hr1127) (by simp only [push_cast, seval]) (by simp only [push_cast, seval]) ?_
    refine back_f ?_
    refine rs 1 [] [] (by kernel_rfl) allP_nil ?_
    refine rf [(2, .ptr 0 0)] [(0, .row 28 (Enc.cells r1127))] 1 (by kernel_rfl) ?_
    refine wk_id ?_
    obtain rfl := Option.some.inj h
    refine ret_at (.agg (Enc.cells r1127)) (by kernel_rfl) ?_
    exact ret_e [] [] (by simp only [push_cast, seval]) (by simp only [push_cast, seval]) rfl rfl rfl
  · refine wk_id ?_
    refine seq_np ?_
    refine seq_np ?_
    refine reg_f ?_
    refine rs 1 [] [] (by kernel_rfl) allP_nil ?_
    refine rf [(0, .sl xh.length (fl xh)), (2, .ptr 0 0), (3, iS 0)] [(0, .row 28 [iS 0, iS 0])] 1 (by kernel_rfl) ?_
    refine wk_id ?_
    refine block_np ?_
    refine loop_sx (S := Int) (fun a => ([(0, .sl xh.length (fl xh)), (2, .ptr 0 0), (3, iS a)], [(0, .row 28 [iS 0, iS 0])], 1)) h (leSt_m [(0, 0)] [] (by simp only [push_cast, seval]) (by simp only [push_cast, seval]) rfl rfl rfl) ?_
    rintro i7 o2 R2 h hr2 hn2 hx2 ht2
    try dsimp only at h hn2 ⊢
    unfold taskmillref_HeapFault_l1 at h
    try dsimp only at h
    refine seq_np ?_
    refine seq_np ?_
    refine reg_f ?_
    refine rs 4 [] [] (by kernel_rfl) allP_nil ?_
    refine rf [(0, .sl xh.length (fl xh)), (2, .ptr 0 0), (3, iS i7), (12, bS (decide (i7 < ((xh.length : Nat) : Int))))] [(0, .row 28 [iS 0, iS 0])] 1 (by kernel_rfl) ?_
    refine wk_id ?_
    refine cond_sx h (by kernel_rfl) (fun g1251 h => ?_) (fun g1251 h => ?_)
    · refine wk_id ?_
      refine seq_np ?_
      refine block_np ?_
      refine chk_sx h (fun g1233 h => ?_)
      refine seq_np ?_
      refine reg_f ?_
      have k1232 : 0 ≤ i7 ∧ i7 < ((xh.length : Nat) : Int) := by first | simpa only [Bool.and_eq_true, decide_eq_true_eq, bne_iff_ne, ne_eq] using g1233 | (simp at g1233 ⊢; omega)
      refine rs 5 [none, none, some ⟨.iptr (fl xh) ((i7).toNat * 2), [], 1, []⟩, some ⟨.agg (Enc.cells (ix xh i7)), [], 1, []⟩] _ (by kernel_rfl) (allP_cons (ob_ldw xh i7 2 ((i7).toNat * 2) k1232 rfl (by first | rfl | omega) [iS (ix xh i7).When, iS (ix xh i7).Task] rfl 1 []) (allP_cons (ob_ix_l xh 2 1 i7 k1232) allP_nil)) ?_
      obtain ⟨r1234, hr1234, h⟩ := bind_sx h
      refine run_call 14 [.agg (Enc.cells (ix xh i7)), iS i7] (some 20) (by kernel_rfl) ?_
      refine call_0 (taskmillref_TimerFault_spec (ix xh i7) i7 r1234 hr1234) (by simp only [push_cast, seval]) (by simp only [push_cast, seval]) ?_
      refine back_f ?_
      refine rs 2 [] [] (by kernel_rfl) allP_nil ?_
      refine rf [(0, .sl xh.length (fl xh)), (2, .ptr 0 0), (3, iS i7), (4, .ptr 1 0)] [(0, .row 28 [iS 0, iS 0]), (1, .row 28 (Enc.cells r1234))] 2 (by kernel_rfl) ?_
      refine wk_id ?_
      refine seq_np ?_
      refine seq_np ?_
      refine reg_f ?_
      refine rs 3 [] [] (by kernel_rfl) allP_nil ?_
      refine rf [(0, .sl xh.length (fl xh)), (2, .ptr 0 0), (3, iS i7), (4, .ptr 1 0), (23, bS (r1234.Code != 0))] [(0, .row 28 [iS 0, iS 0]), (1, .row 28 (Enc.cells r1234))] 2 (by kernel_rfl) ?_
      refine wk_id ?_
      refine cond_sx h (by kernel_rfl) (fun g1250 h => ?_) (fun g1250 h => ?_)
      · refine seq_np ?_
        refine reg_f ?_
        refine rs 2 [] [] (by kernel_rfl) allP_nil ?_
        refine rf [(2, .ptr 0 0)] [(0, .row 28 (Enc.cells r1234)), (1, .row 28 (Enc.cells r1234))] 2 (by kernel_rfl) ?_
        refine wk_id ?_
        refine rt_cast ht2 ?_
        obtain ⟨r0, h, e0⟩ := map_sx h
        have e1 := hr2 r0 e0.symm
        subst r0
        obtain rfl := Option.some.inj h
        refine ret_at (.agg (Enc.cells r1234)) (by kernel_rfl) ?_
        exact ret_e [] [] (by simp only [push_cast, seval]) (by simp only [push_cast, seval]) rfl rfl rfl
      · refine wk_id ?_
        refine chk_sx h (fun g1244 h => ?_)
        refine chk_sx h (fun g1246 h => ?_)
        refine seq_cut (A := Unit) (fun _ => ([(0, .sl xh.length (fl xh)), (2, .ptr 0 0), (3, iS i7), (41, bS ((decide ((0 : Int) < i7)) && (decide ((ix xh i7).When < (ix xh (IntKind.i64.wrap (Int.tdiv (IntKind.i64.wrap (i7 - 1)) 4))).When))))], [(0, .row 28 [iS 0, iS 0]), (1, .row 28 (Enc.cells r1234))], 19)) (fun _ => True) (fun K1241 hK1241 => ?_) (fun _ _ => ?_)
        · refine reg_t ?_
          refine rs 3 [] [] (by kernel_rfl) allP_nil ?_
          refine run_split 27 (decide ((0 : Int) < i7)) (.inl (by kernel_rfl)) (fun g1242 => ?_) (fun g1242 => ?_)
          · have k1243 : 0 ≤ i7 ∧ i7 < ((xh.length : Nat) : Int) := by have e := or_use g1244 (by first | ((try simp only [g1242]) <;> rfl) | ((try simp only [g1242]); rfl) | (exfalso; clear h; simp_all; done)); first | simpa only [Bool.and_eq_true, decide_eq_true_eq, bne_iff_ne, ne_eq] using e | (simp at e ⊢; omega)
            have k1245 : 0 ≤ (IntKind.i64.wrap (Int.tdiv (IntKind.i64.wrap (i7 - 1)) 4)) ∧ (IntKind.i64.wrap (Int.tdiv (IntKind.i64.wrap (i7 - 1)) 4)) < ((xh.length : Nat) : Int) := by have e := or_use g1246 (by first | ((try simp only [g1242]) <;> rfl) | ((try simp only [g1242]); rfl) | (exfalso; clear h; simp_all; done)); first | simpa only [Bool.and_eq_true, decide_eq_true_eq, bne_iff_ne, ne_eq] using e | (simp at e ⊢; omega)
            refine rs 14 [none, none, some ⟨.iptr (fl xh) ((i7).toNat * 2), [], 7, []⟩, none, some ⟨iS (ix xh i7).When, [], 9, []⟩, none, none, none, none, some ⟨.iptr (fl xh) (((IntKind.i64.wrap (Int.tdiv (IntKind.i64.wrap (i7 - 1)) 4))).toNat * 2), [], 14, []⟩, none, some ⟨iS (ix xh (IntKind.i64.wrap (Int.tdiv (IntKind.i64.wrap (i7 - 1)) 4))).When, [], 16, []⟩] _ (by kernel_rfl) (allP_cons (ob_ld xh (IntKind.i64.wrap (Int.tdiv (IntKind.i64.wrap (i7 - 1)) 4)) 2 0 ((((IntKind.i64.wrap (Int.tdiv (IntKind.i64.wrap (i7 - 1)) 4))).toNat * 2) + 0) k1245 rfl (by decide) (by first | rfl | omega) (dflS Try.prog 3) (iS (ix xh (IntKind.i64.wrap (Int.tdiv (IntKind.i64.wrap (i7 - 1)) 4))).When) rfl 16 []) (allP_cons (ob_ix_l xh 2 14 (IntKind.i64.wrap (Int.tdiv (IntKind.i64.wrap (i7 - 1)) 4)) k1245) (allP_cons (ob_ld xh i7 2 0 (((i7).toNat * 2) + 0) k1243 rfl (by decide) (by first | rfl | omega) (dflS Try.prog 3) (iS (ix xh i7).When) rfl 9 []) (allP_cons (ob_ix_l xh 2 7 i7 k1243) allP_nil)))) ?_
            refine rt [(0, .sl xh.length (fl xh)), (2, .ptr 0 0), (3, iS i7), (41, bS (decide ((ix xh i7).When < (ix xh (IntKind.i64.wrap (Int.tdiv (IntKind.i64.wrap (i7 - 1)) 4))).When)))] [(0, .row 28 [iS 0, iS 0]), (1, .row 28 (Enc.cells r1234))] 19 follows (by kernel_rfl) ?_
            exact hK1241 () _ _ _ trivial (leSt_m [(0, 0), (1, 1)] [] (by (try simp only [g1242]) <;> simp only [push_cast, seval]) (by (try simp only [g1242]) <;> simp only [push_cast, seval]) rfl rfl rfl)
          · refine rs 14 [] [] (by kernel_rfl) allP_nil ?_
            refine rt [(0, .sl xh.length (fl xh)), (2, .ptr 0 0), (3, iS i7), (41, bS false)] [(0, .row 28 [iS 0, iS 0]), (1, .row 28 (Enc.cells r1234))] 19 follows (by kernel_rfl) ?_
            exact hK1241 () _ _ _ trivial (leSt_m [(0, 0), (1, 1)] [] (by (try simp only [g1242]) <;> simp only [push_cast, seval]) (by (try simp only [g1242]) <;> simp only [push_cast, seval]) rfl rfl rfl)
        · dsimp only
          refine cond_sx h (by kernel_rfl) (fun g1249 h => ?_) (fun g1249 h => ?_)
          · refine seq_np ?_
            refine reg_f ?_
            refine rs 1 [] [] (by kernel_rfl) allP_nil ?_
            obtain ⟨r1248, hr1248, h⟩ := bind_sx h
            refine run_call 15 [iS 5, iS i7] (some 43) (by kernel_rfl) ?_
            refine call_0 (taskmillref_F_spec 5 i7 r1248 hr1248) (by simp only [push_cast, seval]) (by simp only [push_cast, seval]) ?_
            refine back_f ?_
            refine rs 1 [] [] (by kernel_rfl) allP_nil ?_
            refine rf [(2, .ptr 0 0)] [(0, .row 28 (Enc.cells r1248)), (1, .row 28 (Enc.cells r1234))] 19 (by kernel_rfl) ?_
            refine wk_id ?_
            refine rt_cast ht2 ?_
            obtain ⟨r0, h, e0⟩ := map_sx h
            have e1 := hr2 r0 e0.symm
            subst r0
            obtain rfl := Option.some.inj h
            refine ret_at (.agg (Enc.cells r1248)) (by kernel_rfl) ?_
            exact ret_e [] [] (by simp only [push_cast, seval]) (by simp only [push_cast, seval]) rfl rfl rfl
          · refine wk_id ?_
            refine wk_id ?_
            refine reg_f ?_
            refine rs 3 [] [] (by kernel_rfl) allP_nil ?_
            refine rf [(0, .sl xh.length (fl xh)), (2, .ptr 0 0), (3, iS (IntKind.i64.wrap (i7 + 1)))] [(0, .row 28 [iS 0, iS 0]), (1, .row 28 (Enc.cells r1234))] 19 (by kernel_rfl) ?_
            exact hn2 ((IntKind.i64.wrap (i7 + 1))) _ _ _ (Option.some.inj h).symm (leSt_m [(0, 0)] [] (by simp only [push_cast, seval]) (by simp only [push_cast, seval]) rfl rfl rfl)
    · change R2 (.exit 0) _ _ _
      refine ex_cast hx2 (id := 0) ?_
      obtain ⟨r0, h, e0⟩ := map_sx h
      have e1 := hr2 r0 e0.symm
      subst r0
      refine wk_id ?_
      refine wk_id ?_
      refine seq_np ?_
      refine reg_f ?_
      refine rs 2 [] [] (by kernel_rfl) allP_nil ?_
      refine rf [(2, .ptr 0 0)] [(0, .row 28 [iS 0, iS 0])] 1 (by kernel_rfl) ?_
      refine wk_id ?_
      obtain rfl := Option.some.inj h
      refine ret_at (.agg [iS 0, iS 0]) (by kernel_rfl) ?_
      exact ret_e [] [] (by simp only [push_cast, seval]) (by simp only [push_cast, seval]) rfl rfl rfl

set_option maxRecDepth 100000 in
set_option maxHeartbeats 10000000 in
theorem taskmillref_Risen_spec (xh : (List Timer)) (i : Int) (r : Int × (List Timer)) (h : taskmillref_Risen xh i = some r) : SpecW Try.prog 16 [.sl xh.length (fl xh), iS i] [] 0 (fun x h n => x = .tup [.own 0 0 r.2.length, iS r.1] ∧ h = [(0, .row 24 (fl r.2))] ∧ n = 1) := by
  unfold taskmillref_Risen at h
  refine spec_of (draw_ok _) Try.func16 rfl (by decide) rfl (by kernel_rfl) ?_
  refine seq_np ?_
  refine reg_f ?_
  refine rs 2 [] [] (by kernel_rfl) allP_nil ?_
  refine rf [(0, .sl xh.length (fl xh)), (1, iS i)] [] 0 (by kernel_rfl) ?_
  refine wk_id ?_
  refine chk_sx h (fun g1322 h => ?_)
  refine seq_np ?_
  refine reg_f ?_
  have k1321 : xh.length * 16 ≤ 140737488355328 := by first | simpa only [Bool.and_eq_true, decide_eq_true_eq, bne_iff_ne, ne_eq] using g1322 | (simp at g1322 ⊢; omega)
  refine rs 3 [none, some ⟨.own 0 0 xh.length, [(0, .row 24 (fl xh))], 1, []⟩] _ (by kernel_rfl) (allP_cons (ob_app0 (P := Try.prog) xh 2 16 rfl (fl xh) xh.length rfl rfl ((fl xh).length = xh.length * 2) (app_sl xh 2 rfl) 24 (by kernel_rfl) (by decide) k1321 0 []) allP_nil) ?_
  refine rf [(0, .own 0 0 xh.length), (1, iS i)] [(0, .row 24 (fl xh))] 1 (by kernel_rfl) ?_
  refine wk_id ?_
  refine seq_np ?_
  refine block_np ?_
  refine loop_sx (S := Int × (List Timer)) (fun a => ([(0, .own 0 0 a.2.length), (1, iS a.1)], [(0, .row 24 (fl a.2))], 1)) h (leSt_m [(0, 0)] [] (by simp only [push_cast, seval]) (by simp only [push_cast, seval]) rfl rfl rfl) ?_
  rintro ⟨i8, c0q8⟩ o2 R2 h hr2 hn2 hx2 ht2
  try dsimp only at h hn2 ⊢
  unfold taskmillref_Risen_l1 at h
  try dsimp only at h
  refine seq_np ?_
  refine chk_sx h (fun g1452 h => ?_)
  refine chk_sx h (fun g1454 h => ?_)
  refine seq_cut (A := Unit) (fun _ => ([(0, .own 0 0 c0q8.length), (1, iS i8), (25, bS ((decide ((0 : Int) < i8)) && (decide ((ix c0q8 i8).When < (ix c0q8 (IntKind.i64.wrap (Int.tdiv (IntKind.i64.wrap (i8 - 1)) 4))).When))))], [(0, .row 24 (fl c0q8))], 18)) (fun _ => True) (fun K1449 hK1449 => ?_) (fun _ _ => ?_)
  · refine reg_t ?_
    refine rs 3 [] [] (by kernel_rfl) allP_nil ?_
    refine run_split 11 (decide ((0 : Int) < i8)) (.inl (by kernel_rfl)) (fun g1450 => ?_) (fun g1450 => ?_)
    · have k1451 : 0 ≤ (IntKind.i64.wrap (Int.tdiv (IntKind.i64.wrap (i8 - 1)) 4)) ∧ (IntKind.i64.wrap (Int.tdiv (IntKind.i64.wrap (i8 - 1)) 4)) < ((c0q8.length : Nat) : Int) := by have e := or_use g1452 (by first | ((try simp only [g1450]) <;> rfl) | ((try simp only [g1450]); rfl) | (exfalso; clear h; simp_all; done)); first | simpa only [Bool.and_eq_true, decide_eq_true_eq, bne_iff_ne, ne_eq] using e | (simp at e ⊢; omega)
      have k1453 : 0 ≤ i8 ∧ i8 < ((c0q8.length : Nat) : Int) := by have e := or_use g1454 (by first | ((try simp only [g1450]) <;> rfl) | ((try simp only [g1450]); rfl) | (exfalso; clear h; simp_all; done)); first | simpa only [Bool.and_eq_true, decide_eq_true_eq, bne_iff_ne, ne_eq] using e | (simp at e ⊢; omega)
      refine rs 14 [none, none, none, none, some ⟨.ptr 0 (0 + ((IntKind.i64.wrap (Int.tdiv (IntKind.i64.wrap (i8 - 1)) 4))).toNat * 2), [], 8, [0]⟩, none, some ⟨iS (ix c0q8 (IntKind.i64.wrap (Int.tdiv (IntKind.i64.wrap (i8 - 1)) 4))).When, [], 10, [0]⟩, none, none, some ⟨.ptr 0 (0 + (i8).toNat * 2), [], 13, [0]⟩, none, some ⟨iS (ix c0q8 i8).When, [], 15, [0]⟩] _ (by kernel_rfl) (allP_cons (ob_ld c0q8 i8 2 0 ((0 + (i8).toNat * 2) + 0) k1453 rfl (by decide) (by first | rfl | omega) (dflS Try.prog 3) (iS (ix c0q8 i8).When) rfl 15 [0]) (allP_cons (ob_ix_o 0 c0q8.length 0 2 13 i8 k1453) (allP_cons (ob_ld c0q8 (IntKind.i64.wrap (Int.tdiv (IntKind.i64.wrap (i8 - 1)) 4)) 2 0 ((0 + ((IntKind.i64.wrap (Int.tdiv (IntKind.i64.wrap (i8 - 1)) 4))).toNat * 2) + 0) k1451 rfl (by decide) (by first | rfl | omega) (dflS Try.prog 3) (iS (ix c0q8 (IntKind.i64.wrap (Int.tdiv (IntKind.i64.wrap (i8 - 1)) 4))).When) rfl 10 [0]) (allP_cons (ob_ix_o 0 c0q8.length 0 2 8 (IntKind.i64.wrap (Int.tdiv (IntKind.i64.wrap (i8 - 1)) 4)) k1451) allP_nil)))) ?_
      refine rt [(0, .own 0 0 c0q8.length), (1, iS i8), (25, bS (decide ((ix c0q8 i8).When < (ix c0q8 (IntKind.i64.wrap (Int.tdiv (IntKind.i64.wrap (i8 - 1)) 4))).When)))] [(0, .row 24 (fl c0q8))] 18 follows (by kernel_rfl) ?_
      exact hK1449 () _ _ _ trivial (leSt_m [(0, 0)] [] (by (try simp only [g1450]) <;> simp only [push_cast, seval]) (by (try simp only [g1450]) <;> simp only [push_cast, seval]) rfl rfl rfl)
    · refine rs 14 [] [] (by kernel_rfl) allP_nil ?_
      refine rt [(0, .own 0 0 c0q8.length), (1, iS i8), (25, bS false)] [(0, .row 24 (fl c0q8))] 18 follows (by kernel_rfl) ?_
      exact hK1449 () _ _ _ trivial (leSt_m [(0, 0)] [] (by (try simp only [g1450]) <;> simp only [push_cast, seval]) (by (try simp only [g1450]) <;> simp only [push_cast, seval]) rfl rfl rfl)
  · dsimp only
    refine cond_sx h (by kernel_rfl) (fun g1471 h => ?_) (fun g1471 h => ?_)
    · refine wk_id ?_
      refine block_np ?_
      refine seq_np ?_
      refine reg_f ?_
      refine rs 4 [] [] (by kernel_rfl) allP_nil ?_
      refine rf [(0, .own 0 0 c0q8.length), (1, iS i8), (6, iS (IntKind.i64.wrap (Int.tdiv (IntKind.i64.wrap (i8 - 1)) 4)))] [(0, .row 24 (fl c0q8))] 18 (by kernel_rfl) ?_
      refine wk_id ?_
      refine chk_sx h (fun g1464 h => ?_)
      refine chk_sx h (fun g1466 h => ?_)
      refine chk_sx h (fun g1468 h => ?_)
      refine chk_sx h (fun g1470 h => ?_)
      refine seq_np ?_
      refine reg_t ?_
      have k1463 : 0 ≤ (IntKind.i64.wrap (Int.tdiv (IntKind.i64.wrap (i8 - 1)) 4)) ∧ (IntKind.i64.wrap (Int.tdiv (IntKind.i64.wrap (i8 - 1)) 4)) < ((c0q8.length : Nat) : Int) := by first | simpa only [Bool.and_eq_true, decide_eq_true_eq, bne_iff_ne, ne_eq] using g1464 | (simp at g1464 ⊢; omega)
      have k1465 : 0 ≤ i8 ∧ i8 < ((c0q8.length : Nat) : Int) := by first | simpa only [Bool.and_eq_true, decide_eq_true_eq, bne_iff_ne, ne_eq] using g1466 | (simp at g1466 ⊢; omega)
      have k1467 : 0 ≤ i8 ∧ i8 < ((c0q8.length : Nat) : Int) := by first | simpa only [Bool.and_eq_true, decide_eq_true_eq, bne_iff_ne, ne_eq] using g1468 | (simp at g1468 ⊢; omega)
      refine rs 14 [none, none, none, none, none, none, some ⟨.ptr 0 (0 + ((IntKind.i64.wrap (Int.tdiv (IntKind.i64.wrap (i8 - 1)) 4))).toNat * 2), [], 24, [0]⟩, some ⟨.agg (Enc.cells (ix c0q8 (IntKind.i64.wrap (Int.tdiv (IntKind.i64.wrap (i8 - 1)) 4)))), [], 25, [0]⟩, none, none, some ⟨.ptr 0 (0 + (i8).toNat * 2), [], 28, [0]⟩, some ⟨.agg (Enc.cells (ix c0q8 i8)), [], 29, [0]⟩, some ⟨.ptr 0 (0 + (i8).toNat * 2), [], 30, [0]⟩, some ⟨.any, [(0, .row 24 (fl (c0q8.set i8.toNat ((ix c0q8 (IntKind.i64.wrap (Int.tdiv (IntKind.i64.wrap (i8 - 1)) 4))) : Timer))))], 31, [0]⟩] _ (by kernel_rfl) (allP_cons (ob_st (P := Try.prog) c0q8 i8 2 0 (0 + (i8).toNat * 2) k1467 rfl [iS (ix c0q8 (IntKind.i64.wrap (Int.tdiv (IntKind.i64.wrap (i8 - 1)) 4))).When, iS (ix c0q8 (IntKind.i64.wrap (Int.tdiv (IntKind.i64.wrap (i8 - 1)) 4))).Task] ((ix c0q8 (IntKind.i64.wrap (Int.tdiv (IntKind.i64.wrap (i8 - 1)) 4))) : Timer) (Nat.le_of_ble_eq_true rfl) (by first | rfl | omega) rfl 0 31 24 24 (by kernel_rfl) rfl) (allP_cons (ob_ix_o 0 c0q8.length 0 2 30 i8 k1467) (allP_cons (ob_ldw c0q8 i8 2 (0 + (i8).toNat * 2) k1465 rfl (by first | rfl | omega) [iS (ix c0q8 i8).When, iS (ix c0q8 i8).Task] rfl 29 [0]) (allP_cons (ob_ix_o 0 c0q8.length 0 2 28 i8 k1465) (allP_cons (ob_ldw c0q8 (IntKind.i64.wrap (Int.tdiv (IntKind.i64.wrap (i8 - 1)) 4)) 2 (0 + ((IntKind.i64.wrap (Int.tdiv (IntKind.i64.wrap (i8 - 1)) 4))).toNat * 2) k1463 rfl (by first | rfl | omega) [iS (ix c0q8 (IntKind.i64.wrap (Int.tdiv (IntKind.i64.wrap (i8 - 1)) 4))).When, iS (ix c0q8 (IntKind.i64.wrap (Int.tdiv (IntKind.i64.wrap (i8 - 1)) 4))).Task] rfl 25 [0]) (allP_cons (ob_ix_o 0 c0q8.length 0 2 24 (IntKind.i64.wrap (Int.tdiv (IntKind.i64.wrap (i8 - 1)) 4)) k1463) allP_nil)))))) ?_
      refine run_eqF 0 (.own 0 0 c0q8.length) (.own 0 0 (c0q8.set i8.toNat ((ix c0q8 (IntKind.i64.wrap (Int.tdiv (IntKind.i64.wrap (i8 - 1)) 4))) : Timer)).length) (congrArg (fun nq => (.own 0 0 nq : SV)) (show c0q8.length = (c0q8.set i8.toNat ((ix c0q8 (IntKind.i64.wrap (Int.tdiv (IntKind.i64.wrap (i8 - 1)) 4))) : Timer)).length from (List.length_set ..).symm)) (by kernel_rfl) ?_
      refine run_eqF 31 (.own 0 0 c0q8.length) (.own 0 0 (c0q8.set i8.toNat ((ix c0q8 (IntKind.i64.wrap (Int.tdiv (IntKind.i64.wrap (i8 - 1)) 4))) : Timer)).length) (congrArg (fun nq => (.own 0 0 nq : SV)) (show c0q8.length = (c0q8.set i8.toNat ((ix c0q8 (IntKind.i64.wrap (Int.tdiv (IntKind.i64.wrap (i8 - 1)) 4))) : Timer)).length from (List.length_set ..).symm)) (by kernel_rfl) ?_
      have k1469 : 0 ≤ (IntKind.i64.wrap (Int.tdiv (IntKind.i64.wrap (i8 - 1)) 4)) ∧ (IntKind.i64.wrap (Int.tdiv (IntKind.i64.wrap (i8 - 1)) 4)) < (((c0q8.set i8.toNat ((ix c0q8 (IntKind.i64.wrap (Int.tdiv (IntKind.i64.wrap (i8 - 1)) 4))) : Timer)).length : Nat) : Int) := by first | simpa only [Bool.and_eq_true, decide_eq_true_eq, bne_iff_ne, ne_eq] using g1470 | (simp at g1470 ⊢; omega)
      refine rs 2 [some ⟨.ptr 0 (0 + ((IntKind.i64.wrap (Int.tdiv (IntKind.i64.wrap (i8 - 1)) 4))).toNat * 2), [], 32, [0]⟩, some ⟨.any, [(0, .row 24 (fl ((c0q8.set i8.toNat ((ix c0q8 (IntKind.i64.wrap (Int.tdiv (IntKind.i64.wrap (i8 - 1)) 4))) : Timer)).set (IntKind.i64.wrap (Int.tdiv (IntKind.i64.wrap (i8 - 1)) 4)).toNat ((ix c0q8 i8) : Timer))))], 33, [0]⟩] _ (by kernel_rfl) (allP_cons (ob_st (P := Try.prog) (c0q8.set i8.toNat ((ix c0q8 (IntKind.i64.wrap (Int.tdiv (IntKind.i64.wrap (i8 - 1)) 4))) : Timer)) (IntKind.i64.wrap (Int.tdiv (IntKind.i64.wrap (i8 - 1)) 4)) 2 0 (0 + ((IntKind.i64.wrap (Int.tdiv (IntKind.i64.wrap (i8 - 1)) 4))).toNat * 2) k1469 rfl [iS (ix c0q8 i8).When, iS (ix c0q8 i8).Task] ((ix c0q8 i8) : Timer) (Nat.le_of_ble_eq_true rfl) (by first | rfl | omega) rfl 0 33 24 24 (by kernel_rfl) rfl) (allP_cons (ob_ix_o 0 (c0q8.set i8.toNat ((ix c0q8 (IntKind.i64.wrap (Int.tdiv (IntKind.i64.wrap (i8 - 1)) 4))) : Timer)).length 0 2 32 (IntKind.i64.wrap (Int.tdiv (IntKind.i64.wrap (i8 - 1)) 4)) k1469) allP_nil)) ?_
      refine run_eqF 0 (.own 0 0 (c0q8.set i8.toNat ((ix c0q8 (IntKind.i64.wrap (Int.tdiv (IntKind.i64.wrap (i8 - 1)) 4))) : Timer)).length) (.own 0 0 ((c0q8.set i8.toNat ((ix c0q8 (IntKind.i64.wrap (Int.tdiv (IntKind.i64.wrap (i8 - 1)) 4))) : Timer)).set (IntKind.i64.wrap (Int.tdiv (IntKind.i64.wrap (i8 - 1)) 4)).toNat ((ix c0q8 i8) : Timer)).length) (congrArg (fun nq => (.own 0 0 nq : SV)) (show (c0q8.set i8.toNat ((ix c0q8 (IntKind.i64.wrap (Int.tdiv (IntKind.i64.wrap (i8 - 1)) 4))) : Timer)).length = ((c0q8.set i8.toNat ((ix c0q8 (IntKind.i64.wrap (Int.tdiv (IntKind.i64.wrap (i8 - 1)) 4))) : Timer)).set (IntKind.i64.wrap (Int.tdiv (IntKind.i64.wrap (i8 - 1)) 4)).toNat ((ix c0q8 i8) : Timer)).length from (List.length_set ..).symm)) (by kernel_rfl) ?_
      refine rt [(0, .own 0 0 ((c0q8.set i8.toNat ((ix c0q8 (IntKind.i64.wrap (Int.tdiv (IntKind.i64.wrap (i8 - 1)) 4))) : Timer)).set (IntKind.i64.wrap (Int.tdiv (IntKind.i64.wrap (i8 - 1)) 4)).toNat ((ix c0q8 i8) : Timer)).length), (6, iS (IntKind.i64.wrap (Int.tdiv (IntKind.i64.wrap (i8 - 1)) 4)))] [(0, .row 24 (fl ((c0q8.set i8.toNat ((ix c0q8 (IntKind.i64.wrap (Int.tdiv (IntKind.i64.wrap (i8 - 1)) 4))) : Timer)).set (IntKind.i64.wrap (Int.tdiv (IntKind.i64.wrap (i8 - 1)) 4)).toNat ((ix c0q8 i8) : Timer))))] 34 follows (by kernel_rfl) ?_
      refine wk_id ?_
      refine reg_f ?_
      refine rs 2 [] [] (by kernel_rfl) allP_nil ?_
      refine rf [(0, .own 0 0 ((c0q8.set i8.toNat ((ix c0q8 (IntKind.i64.wrap (Int.tdiv (IntKind.i64.wrap (i8 - 1)) 4))) : Timer)).set (IntKind.i64.wrap (Int.tdiv (IntKind.i64.wrap (i8 - 1)) 4)).toNat ((ix c0q8 i8) : Timer)).length), (1, iS (IntKind.i64.wrap (Int.tdiv (IntKind.i64.wrap (i8 - 1)) 4)))] [(0, .row 24 (fl ((c0q8.set i8.toNat ((ix c0q8 (IntKind.i64.wrap (Int.tdiv (IntKind.i64.wrap (i8 - 1)) 4))) : Timer)).set (IntKind.i64.wrap (Int.tdiv (IntKind.i64.wrap (i8 - 1)) 4)).toNat ((ix c0q8 i8) : Timer))))] 34 (by kernel_rfl) ?_
      refine wk_id ?_
      exact hn2 ((IntKind.i64.wrap (Int.tdiv (IntKind.i64.wrap (i8 - 1)) 4)), ((c0q8.set i8.toNat ((ix c0q8 (IntKind.i64.wrap (Int.tdiv (IntKind.i64.wrap (i8 - 1)) 4))) : Timer)).set (IntKind.i64.wrap (Int.tdiv (IntKind.i64.wrap (i8 - 1)) 4)).toNat ((ix c0q8 i8) : Timer))) _ _ _ (Option.some.inj h).symm (leSt_m [(0, 0)] [] (by simp only [push_cast, seval]) (by simp only [push_cast, seval]) rfl rfl rfl)
    · change R2 (.exit 0) _ _ _
      refine ex_cast hx2 (id := 0) ?_
      obtain ⟨r0, h, e0⟩ := map_sx h
      have e1 := hr2 r0 e0.symm
      subst r0
      refine wk_id ?_
      refine wk_id ?_
      refine seq_np ?_
      refine reg_f ?_
      refine rs 4 [] [] (by kernel_rfl) allP_nil ?_
      refine rf [(4, .own 0 0 c0q8.length), (5, iS i8)] [(0, .row 24 (fl c0q8))] 18 (by kernel_rfl) ?_
      refine wk_id ?_
      obtain rfl := Option.some.inj h
      refine ret_at (.tup [.own 0 0 c0q8.length, iS i8]) (by kernel_rfl) ?_
      exact ret_e [(0, 0)] [] (by simp only [push_cast, seval]) (by simp only [push_cast, seval]) rfl rfl rfl

set_option maxRecDepth 100000 in
set_option maxHeartbeats 10000000 in
theorem taskmilllaw_AlarmAdds_spec (xh : (List Timer)) (t : Timer) (r : Bool) (h : taskmilllaw_AlarmAdds xh t = some r) : SpecW Try.prog 3 [.sl xh.length (fl xh), .agg (Enc.cells t)] [] 0 (fun x h n => x = bS r ∧ h = [] ∧ n = 0) := by
  unfold taskmilllaw_AlarmAdds at h
  refine spec_of (draw_ok _) Try.func3 rfl (by decide) rfl (by kernel_rfl) ?_
  refine seq_np ?_
  refine reg_f ?_
  refine rs 2 [] [] (by kernel_rfl) allP_nil ?_
  refine rf [(0, .sl xh.length (fl xh)), (3, .ptr 0 0)] [(0, .row 24 (Enc.cells t))] 1 (by kernel_rfl) ?_
  refine wk_id ?_
  refine seq_np ?_
  refine seq_np ?_
  refine reg_f ?_
  obtain ⟨r1480, hr1480, h⟩ := bind_sx h
  refine run_call 8 [] (some 13) (by kernel_rfl) ?_
  refine call_0 (taskmilllaw_alarmBegun_spec r1480 hr1480) (by simp only [push_cast, seval]) (by simp only [push_cast, seval]) ?_
  refine back_f ?_
  refine rs 1 [] [] (by kernel_rfl) allP_nil ?_
  refine rf [(0, .sl xh.length (fl xh)), (3, .ptr 0 0), (14, bS (!r1480))] [(0, .row 24 (Enc.cells t))] 1 (by kernel_rfl) ?_
  refine wk_id ?_
  refine cond_sx h (by kernel_rfl) (fun g1543 h => ?_) (fun g1543 h => ?_)
  · refine seq_np ?_
    refine reg_f ?_
    refine rs 1 [] [] (by kernel_rfl) allP_nil ?_
    refine rf [(4, bS false)] [(0, .row 24 (Enc.cells t))] 1 (by kernel_rfl) ?_
    refine wk_id ?_
    obtain rfl := Option.some.inj h
    refine ret_at (bS false) (by kernel_rfl) ?_
    exact ret_e [] [] (by simp only [push_cast, seval]) (by simp only [push_cast, seval]) rfl rfl rfl
  · refine wk_id ?_
    refine seq_np ?_
    refine seq_np ?_
    refine reg_f ?_
    refine rs 3 [] [] (by kernel_rfl) allP_nil ?_
    refine rf [(0, .sl xh.length (fl xh)), (3, .ptr 0 0), (17, bS (decide ((6000 : Int) < ((xh.length : Nat) : Int))))] [(0, .row 24 (Enc.cells t))] 1 (by kernel_rfl) ?_
    refine wk_id ?_
    refine cond_sx h (by kernel_rfl) (fun g1542 h => ?_) (fun g1542 h => ?_)
    · refine seq_np ?_
      refine reg_f ?_
      refine rs 1 [] [] (by kernel_rfl) allP_nil ?_
      refine rf [(4, bS true)] [(0, .row 24 (Enc.cells t))] 1 (by kernel_rfl) ?_
      refine wk_id ?_
      obtain rfl := Option.some.inj h
      refine ret_at (bS true) (by kernel_rfl) ?_
      exact ret_e [] [] (by simp only [push_cast, seval]) (by simp only [push_cast, seval]) rfl rfl rfl
    · refine wk_id ?_
      refine seq_np ?_
      refine reg_f ?_
      refine rs 1 [] [] (by kernel_rfl) allP_nil ?_
      obtain ⟨r1483, hr1483, h⟩ := bind_sx h
      refine call_x (taskmilllaw_ownTimers_spec xh r1483 hr1483) (args := [.sl xh.length (fl xh)]) (dst := (some 19)) (by kernel_rfl) [(0, .row 24 (Enc.cells t))] 1 (by kernel_rfl) [] [] (.own 1 0 r1483.length) [(1, .row 24 (fl r1483))] (by simp only [push_cast, seval]) (by simp only [push_cast, seval]) (by kernel_rfl) (.inl rfl) (by simp only [push_cast, seval]) (by simp only [push_cast, seval]) ?_
      refine rs 1 [] [] (by kernel_rfl) allP_nil ?_
      refine rf [(0, .sl xh.length (fl xh)), (3, .ptr 0 0), (5, .own 1 0 r1483.length)] [(0, .row 24 (Enc.cells t)), (1, .row 24 (fl r1483))] 2 (by kernel_rfl) ?_
      refine wk_id ?_
      refine seq_np ?_
      refine reg_f ?_
      refine rs 1 [] [] (by kernel_rfl) allP_nil ?_
      obtain ⟨r1485, hr1485, h⟩ := bind_sx h
      refine call_x (alarm_Check_spec r1483 r1485 hr1485) (args := [.own 1 0 r1483.length]) (dst := (some 21)) (by kernel_rfl) [(0, .row 24 (Enc.cells t)), (1, .row 24 (fl r1483))] 2 (by kernel_rfl) [] [1] (.agg (Enc.cells r1485)) [] (by simp only [push_cast, seval]) (by simp only [push_cast, seval]) (by kernel_rfl) (.inr ⟨by simp only [push_cast, seval], by simp only [push_cast, seval]⟩) (by simp only [push_cast, seval]) (by simp only [push_cast, seval]) ?_
      refine rs 2 [] [] (by kernel_rfl) allP_nil ?_
      refine rf [(0, .sl xh.length (fl xh)), (3, .ptr 0 0), (5, .own 1 0 r1483.length), (6, .ptr 2 0)] [(0, .row 24 (Enc.cells t)), (1, .row 24 (fl r1483)), (2, .row 28 (Enc.cells r1485))] 3 (by kernel_rfl) ?_
      refine wk_id ?_
      refine seq_np ?_
      refine reg_f ?_
      refine rs 2 [] [] (by kernel_rfl) allP_nil ?_
      obtain ⟨r1487, hr1487, h⟩ := bind_sx h
      refine call_x (alarm_Add_spec r1483 t r1487 hr1487) (args := [.own 1 0 r1483.length, .agg (Enc.cells t)]) (dst := (some 25)) (by kernel_rfl) [(0, .row 24 (Enc.cells t)), (1, .row 24 (fl r1483)), (2, .row 28 (Enc.cells r1485))] 3 (by kernel_rfl) [] [1] (.tup [.own 3 0 r1487.2.2.length, iS r1487.1, .agg (Enc.cells r1487.2.1)]) [(3, .row 24 (fl r1487.2.2))] (by simp only [push_cast, seval]) (by simp only [push_cast, seval]) (by kernel_rfl) (.inr ⟨by simp only [push_cast, seval], by simp only [push_cast, seval]⟩) (by simp only [push_cast, seval]) (by simp only [push_cast, seval]) ?_
      refine rs 8 [] [] (by kernel_rfl) allP_nil ?_
      refine rf [(0, .sl xh.length (fl xh)), (3, .ptr 0 0), (5, .own 1 0 r1483.length), (6, .ptr 2 0), (7, .own 3 0 r1487.2.2.length), (8, iS r1487.1), (9, .ptr 4 0)] [(0, .row 24 (Enc.cells t)), (1, .row 24 (fl r1483)), (2, .row 28 (Enc.cells r1485)), (3, .row 24 (fl r1487.2.2)), (4, .row 28 (Enc.cells r1487.2.1))] 5 (by kernel_rfl) ?_
      refine wk_id ?_
      refine seq_np ?_
      refine reg_f ?_
      refine rs 1 [] [] (by kernel_rfl) allP_nil ?_
      obtain ⟨r1489, hr1489, h⟩ := bind_sx h
      refine run_call 12 [.sl xh.length (fl xh)] (some 30) (by kernel_rfl) ?_
      refine call_0 (taskmillref_HeapFault_spec xh r1489 hr1489) (by simp only [push_cast, seval]) (by simp only [push_cast, seval]) ?_
      refine back_f ?_
      refine rs 2 [] [] (by kernel_rfl) allP_nil ?_
      refine rf [(0, .sl xh.length (fl xh)), (3, .ptr 0 0), (5, .own 1 0 r1483.length), (6, .ptr 2 0), (7, .own 3 0 r1487.2.2.length), (8, iS r1487.1), (9, .ptr 4 0), (10, .ptr 5 0)] [(0, .row 24 (Enc.cells t)), (1, .row 24 (fl r1483)), (2, .row 28 (Enc.cells r1485)), (3, .row 24 (fl r1487.2.2)), (4, .row 28 (Enc.cells r1487.2.1)), (5, .row 28 (Enc.cells r1489))] 6 (by kernel_rfl) ?_
      refine wk_id ?_
      refine seq_np ?_
      refine seq_cut (A := Int × Bool × (List Timer) × Fault × Fault) (fun a => ([(0, .sl xh.length (fl xh)), (3, .ptr 0 0), (7, .own 1 0 a.2.2.1.length), (8, iS a.1), (9, .ptr 2 0), (10, .ptr 3 0), (39, bS a.2.1)], [(0, .row 24 (Enc.cells t)), (1, .row 24 (fl a.2.2.1)), (2, .row 28 (Enc.cells a.2.2.2.1)), (3, .row 28 (Enc.cells a.2.2.2.2))], 4)) (fun a => (taskmilllaw_AlarmAdds_j4 xh t a.1 a.2.1 a.2.2.1 a.2.2.2.1 a.2.2.2.2) = some r) (fun K1498 hK1498 => ?_) ?_
      · refine reg_f ?_
        refine rs 4 [] [] (by kernel_rfl) allP_nil ?_
        refine run_br h 34 (.inl (by kernel_rfl)) (fun g1499 h => ?_) (fun g1499 h => ?_)
        · refine rs 5 [] [] (by kernel_rfl) allP_nil ?_
          refine rf [(0, .sl xh.length (fl xh)), (3, .ptr 0 0), (7, .own 3 0 r1487.2.2.length), (8, iS r1487.1), (9, .ptr 4 0), (10, .ptr 5 0), (39, bS true)] [(0, .row 24 (Enc.cells t)), (1, .row 24 (fl r1483)), (2, .row 28 (Enc.cells r1485)), (3, .row 24 (fl r1487.2.2)), (4, .row 28 (Enc.cells r1487.2.1)), (5, .row 28 (Enc.cells r1489))] 6 (by kernel_rfl) ?_
          exact hK1498 (r1487.1, true, r1487.2.2, r1487.2.1, r1489) _ _ _ h (leSt_m [(0, 0), (1, 3), (2, 4), (3, 5)] [] (by (try simp only [g1499]) <;> simp only [push_cast, seval]) (by (try simp only [g1499]) <;> simp only [push_cast, seval]) rfl rfl rfl)
        · refine rs 2 [] [] (by kernel_rfl) allP_nil ?_
          obtain ⟨r1500, hr1500, h⟩ := bind_sx h
          refine call_x (taskmillref_SameTimers_spec r1483 xh r1500 hr1500) (args := [.own 1 0 r1483.length, .sl xh.length (fl xh)]) (dst := (some 37)) (by kernel_rfl) [(0, .row 24 (Enc.cells t)), (1, .row 24 (fl r1483)), (2, .row 28 (Enc.cells r1485)), (3, .row 24 (fl r1487.2.2)), (4, .row 28 (Enc.cells r1487.2.1)), (5, .row 28 (Enc.cells r1489))] 6 (by kernel_rfl) [] [1] (bS r1500) [] (by simp only [push_cast, seval]) (by simp only [push_cast, seval]) (by kernel_rfl) (.inr ⟨by simp only [push_cast, seval], by simp only [push_cast, seval]⟩) (by simp only [push_cast, seval]) (by simp only [push_cast, seval]) ?_
          refine rs 2 [] [] (by kernel_rfl) allP_nil ?_
          refine rf [(0, .sl xh.length (fl xh)), (3, .ptr 0 0), (7, .own 3 0 r1487.2.2.length), (8, iS r1487.1), (9, .ptr 4 0), (10, .ptr 5 0), (39, bS (!r1500))] [(0, .row 24 (Enc.cells t)), (1, .row 24 (fl r1483)), (2, .row 28 (Enc.cells r1485)), (3, .row 24 (fl r1487.2.2)), (4, .row 28 (Enc.cells r1487.2.1)), (5, .row 28 (Enc.cells r1489))] 6 (by kernel_rfl) ?_
          exact hK1498 (r1487.1, (!r1500), r1487.2.2, r1487.2.1, r1489) _ _ _ h (leSt_m [(0, 0), (1, 3), (2, 4), (3, 5)] [] (by (try simp only [g1499]) <;> simp only [push_cast, seval]) (by (try simp only [g1499]) <;> simp only [push_cast, seval]) rfl rfl rfl)
      · rintro ⟨i2, t39q2, c1q2, c2q2, c3q4⟩ h
        try dsimp only at h ⊢
        unfold taskmilllaw_AlarmAdds_j4 at h
        refine cond_sx h (by kernel_rfl) (fun g1541 h => ?_) (fun g1541 h => ?_)
        · refine seq_np ?_
          refine reg_f ?_
          refine rs 1 [] [] (by kernel_rfl) allP_nil ?_
          refine rf [(4, bS false)] [(0, .row 24 (Enc.cells t)), (1, .row 24 (fl c1q2)), (2, .row 28 (Enc.cells c2q2)), (3, .row 28 (Enc.cells c3q4))] 4 (by kernel_rfl) ?_
          refine wk_id ?_
          obtain rfl := Option.some.inj h
          refine ret_at (bS false) (by kernel_rfl) ?_
          exact ret_e [] [] (by simp only [push_cast, seval]) (by simp only [push_cast, seval]) rfl rfl rfl
        · refine wk_id ?_
          refine seq_cut (A := Fault) (fun a => ([(0, .sl xh.length (fl xh)), (3, .ptr 0 0), (7, .own 1 0 c1q2.length), (8, iS i2), (9, .ptr 2 0), (10, .ptr 3 0)], [(0, .row 24 (Enc.cells t)), (1, .row 24 (fl c1q2)), (2, .row 28 (Enc.cells c2q2)), (3, .row 28 (Enc.cells a))], 4)) (fun a => (taskmilllaw_AlarmAdds_j3 xh t i2 c1q2 c2q2 a) = some r) (fun K1504 hK1504 => ?_) ?_
          · refine seq_np ?_
            refine reg_f ?_
            refine rs 3 [] [] (by kernel_rfl) allP_nil ?_
            refine rf [(0, .sl xh.length (fl xh)), (3, .ptr 0 0), (7, .own 1 0 c1q2.length), (8, iS i2), (9, .ptr 2 0), (10, .ptr 3 0), (42, bS (c3q4.Code == 0))] [(0, .row 24 (Enc.cells t)), (1, .row 24 (fl c1q2)), (2, .row 28 (Enc.cells c2q2)), (3, .row 28 (Enc.cells c3q4))] 4 (by kernel_rfl) ?_
            refine wk_id ?_
            refine cond_sx h (by kernel_rfl) (fun g1507 h => ?_) (fun g1507 h => ?_)
            · refine reg_f ?_
              refine rs 1 [] [] (by kernel_rfl) allP_nil ?_
              obtain ⟨r1506, hr1506, h⟩ := bind_sx h
              refine run_call 14 [.agg (Enc.cells t), iS (-1)] (some 44) (by kernel_rfl) ?_
              refine call_0 (taskmillref_TimerFault_spec t (-1) r1506 hr1506) (by simp only [push_cast, seval]) (by simp only [push_cast, seval]) ?_
              refine back_f ?_
              refine rs 1 [] [] (by kernel_rfl) allP_nil ?_
              refine rf [(0, .sl xh.length (fl xh)), (3, .ptr 0 0), (7, .own 1 0 c1q2.length), (8, iS i2), (9, .ptr 2 0), (10, .ptr 3 0)] [(0, .row 24 (Enc.cells t)), (1, .row 24 (fl c1q2)), (2, .row 28 (Enc.cells c2q2)), (3, .row 28 (Enc.cells r1506))] 4 (by kernel_rfl) ?_
              exact hK1504 (r1506) _ _ _ h (leSt_m [(0, 0), (1, 1), (2, 2), (3, 3)] [] (by simp only [push_cast, seval]) (by simp only [push_cast, seval]) rfl rfl rfl)
            · exact hK1504 (c3q4) _ _ _ h (leSt_m [(0, 0), (1, 1), (2, 2), (3, 3)] [] (by simp only [push_cast, seval]) (by simp only [push_cast, seval]) rfl rfl rfl)
          · rintro c3q5 h
            try dsimp only at h ⊢
            unfold taskmilllaw_AlarmAdds_j3 at h
            refine seq_cut (A := Fault) (fun a => ([(0, .sl xh.length (fl xh)), (3, .ptr 0 0), (7, .own 1 0 c1q2.length), (8, iS i2), (9, .ptr 2 0), (10, .ptr 3 0)], [(0, .row 24 (Enc.cells t)), (1, .row 24 (fl c1q2)), (2, .row 28 (Enc.cells c2q2)), (3, .row 28 (Enc.cells a))], 4)) (fun a => (taskmilllaw_AlarmAdds_j2 xh t i2 c1q2 c2q2 a) = some r) (fun K1512 hK1512 => ?_) ?_
            · refine seq_cut (A := Unit) (fun _ => ([(0, .sl xh.length (fl xh)), (3, .ptr 0 0), (7, .own 1 0 c1q2.length), (8, iS i2), (9, .ptr 2 0), (10, .ptr 3 0), (52, bS ((c3q5.Code == 0) && (((xh.length : Nat) : Int) == 5000)))], [(0, .row 24 (Enc.cells t)), (1, .row 24 (fl c1q2)), (2, .row 28 (Enc.cells c2q2)), (3, .row 28 (Enc.cells c3q5))], 4)) (fun _ => True) (fun K1514 hK1514 => ?_) (fun _ _ => ?_)
              · refine reg_f ?_
                refine rs 4 [] [] (by kernel_rfl) allP_nil ?_
                refine run_split 48 (c3q5.Code == 0) (.inl (by kernel_rfl)) (fun g1515 => ?_) (fun g1515 => ?_)
                · refine rs 4 [] [] (by kernel_rfl) allP_nil ?_
                  refine rf [(0, .sl xh.length (fl xh)), (3, .ptr 0 0), (7, .own 1 0 c1q2.length), (8, iS i2), (9, .ptr 2 0), (10, .ptr 3 0), (52, bS (((xh.length : Nat) : Int) == 5000))] [(0, .row 24 (Enc.cells t)), (1, .row 24 (fl c1q2)), (2, .row 28 (Enc.cells c2q2)), (3, .row 28 (Enc.cells c3q5))] 4 (by kernel_rfl) ?_
                  exact hK1514 () _ _ _ trivial (leSt_m [(0, 0), (1, 1), (2, 2), (3, 3)] [] (by (try simp only [g1515]) <;> simp only [push_cast, seval]) (by (try simp only [g1515]) <;> simp only [push_cast, seval]) rfl rfl rfl)
                · refine rs 4 [] [] (by kernel_rfl) allP_nil ?_
                  refine rf [(0, .sl xh.length (fl xh)), (3, .ptr 0 0), (7, .own 1 0 c1q2.length), (8, iS i2), (9, .ptr 2 0), (10, .ptr 3 0), (52, bS false)] [(0, .row 24 (Enc.cells t)), (1, .row 24 (fl c1q2)), (2, .row 28 (Enc.cells c2q2)), (3, .row 28 (Enc.cells c3q5))] 4 (by kernel_rfl) ?_
                  exact hK1514 () _ _ _ trivial (leSt_m [(0, 0), (1, 1), (2, 2), (3, 3)] [] (by (try simp only [g1515]) <;> simp only [push_cast, seval]) (by (try simp only [g1515]) <;> simp only [push_cast, seval]) rfl rfl rfl)
              · dsimp only
                refine cond_sx h (by kernel_rfl) (fun g1518 h => ?_) (fun g1518 h => ?_)
                · refine reg_f ?_
                  obtain ⟨r1517, hr1517, h⟩ := bind_sx h
                  refine run_call 15 [iS 9, iS 0] (some 53) (by kernel_rfl) ?_
                  refine call_0 (taskmillref_F_spec 9 0 r1517 hr1517) (by simp only [push_cast, seval]) (by simp only [push_cast, seval]) ?_
                  refine back_f ?_
                  refine rs 1 [] [] (by kernel_rfl) allP_nil ?_
                  refine rf [(0, .sl xh.length (fl xh)), (3, .ptr 0 0), (7, .own 1 0 c1q2.length), (8, iS i2), (9, .ptr 2 0), (10, .ptr 3 0)] [(0, .row 24 (Enc.cells t)), (1, .row 24 (fl c1q2)), (2, .row 28 (Enc.cells c2q2)), (3, .row 28 (Enc.cells r1517))] 4 (by kernel_rfl) ?_
                  exact hK1512 (r1517) _ _ _ h (leSt_m [(0, 0), (1, 1), (2, 2), (3, 3)] [] (by simp only [push_cast, seval]) (by simp only [push_cast, seval]) rfl rfl rfl)
                · exact hK1512 (c3q5) _ _ _ h (leSt_m [(0, 0), (1, 1), (2, 2), (3, 3)] [] (by simp only [push_cast, seval]) (by simp only [push_cast, seval]) rfl rfl rfl)
            · rintro c3q6 h
              try dsimp only at h ⊢
              unfold taskmilllaw_AlarmAdds_j2 at h
              refine seq_np ?_
              refine seq_np ?_
              refine reg_f ?_
              refine rs 3 [] [] (by kernel_rfl) allP_nil ?_
              refine rf [(0, .sl xh.length (fl xh)), (3, .ptr 0 0), (7, .own 1 0 c1q2.length), (8, iS i2), (10, .ptr 3 0), (56, bS (!((c2q2.Code == c3q6.Code) && ((c2q2.At == c3q6.At) && true))))] [(0, .row 24 (Enc.cells t)), (1, .row 24 (fl c1q2)), (2, .row 28 (Enc.cells c2q2)), (3, .row 28 (Enc.cells c3q6))] 4 (by kernel_rfl) ?_
              refine wk_id ?_
              refine cond_sx h (by kernel_rfl) (fun g1540 h => ?_) (fun g1540 h => ?_)
              · refine seq_np ?_
                refine reg_f ?_
                refine rs 1 [] [] (by kernel_rfl) allP_nil ?_
                refine rf [(4, bS false)] [(0, .row 24 (Enc.cells t)), (1, .row 24 (fl c1q2)), (2, .row 28 (Enc.cells c2q2)), (3, .row 28 (Enc.cells c3q6))] 4 (by kernel_rfl) ?_
                refine wk_id ?_
                obtain rfl := Option.some.inj h
                refine ret_at (bS false) (by kernel_rfl) ?_
                exact ret_e [] [] (by simp only [push_cast, seval]) (by simp only [push_cast, seval]) rfl rfl rfl
              · refine wk_id ?_
                refine seq_np ?_
                refine seq_np ?_
                refine reg_f ?_
                refine rs 3 [] [] (by kernel_rfl) allP_nil ?_
                refine rf [(0, .sl xh.length (fl xh)), (3, .ptr 0 0), (7, .own 1 0 c1q2.length), (8, iS i2), (59, bS (c3q6.Code != 0))] [(0, .row 24 (Enc.cells t)), (1, .row 24 (fl c1q2)), (2, .row 28 (Enc.cells c2q2)), (3, .row 28 (Enc.cells c3q6))] 4 (by kernel_rfl) ?_
                refine wk_id ?_
                refine cond_sx h (by kernel_rfl) (fun g1539 h => ?_) (fun g1539 h => ?_)
                · refine seq_cut (A := Unit) (fun _ => ([(4, bS ((((c1q2.length : Nat) : Int) == 0) && (i2 == 0)))], [(0, .row 24 (Enc.cells t)), (1, .row 24 (fl c1q2)), (2, .row 28 (Enc.cells c2q2)), (3, .row 28 (Enc.cells c3q6))], 4)) (fun _ => True) (fun K1523 hK1523 => ?_) (fun _ _ => ?_)
                  · refine reg_f ?_
                    refine rs 4 [] [] (by kernel_rfl) allP_nil ?_
                    refine run_split 63 (((c1q2.length : Nat) : Int) == 0) (.inl (by kernel_rfl)) (fun g1524 => ?_) (fun g1524 => ?_)
                    · refine rs 4 [] [] (by kernel_rfl) allP_nil ?_
                      refine rf [(4, bS (i2 == 0))] [(0, .row 24 (Enc.cells t)), (1, .row 24 (fl c1q2)), (2, .row 28 (Enc.cells c2q2)), (3, .row 28 (Enc.cells c3q6))] 4 (by kernel_rfl) ?_
                      exact hK1523 () _ _ _ trivial (leSt_m [(0, 0), (1, 1), (2, 2), (3, 3)] [] (by (try simp only [g1524]) <;> simp only [push_cast, seval]) (by (try simp only [g1524]) <;> simp only [push_cast, seval]) rfl rfl rfl)
                    · refine rs 4 [] [] (by kernel_rfl) allP_nil ?_
                      refine rf [(4, bS false)] [(0, .row 24 (Enc.cells t)), (1, .row 24 (fl c1q2)), (2, .row 28 (Enc.cells c2q2)), (3, .row 28 (Enc.cells c3q6))] 4 (by kernel_rfl) ?_
                      exact hK1523 () _ _ _ trivial (leSt_m [(0, 0), (1, 1), (2, 2), (3, 3)] [] (by (try simp only [g1524]) <;> simp only [push_cast, seval]) (by (try simp only [g1524]) <;> simp only [push_cast, seval]) rfl rfl rfl)
                  · dsimp only
                    obtain rfl := Option.some.inj h
                    refine ret_at (bS ((((c1q2.length : Nat) : Int) == 0) && (i2 == 0))) (by kernel_rfl) ?_
                    exact ret_e [] [] (by simp only [push_cast, seval]) (by simp only [push_cast, seval]) rfl rfl rfl
                · refine wk_id ?_
                  refine seq_np ?_
                  refine reg_t ?_
                  refine rs 1 [] [] (by kernel_rfl) allP_nil ?_
                  obtain ⟨r1529, hr1529, h⟩ := bind_sx h
                  refine call_x (taskmilllaw_ownTimers_spec xh r1529 hr1529) (args := [.sl xh.length (fl xh)]) (dst := (some 69)) (by kernel_rfl) [(0, .row 24 (Enc.cells t)), (1, .row 24 (fl c1q2)), (2, .row 28 (Enc.cells c2q2)), (3, .row 28 (Enc.cells c3q6))] 5 (by kernel_rfl) [] [] (.own 5 0 r1529.length) [(5, .row 24 (fl r1529))] (by simp only [push_cast, seval]) (by simp only [push_cast, seval]) (by kernel_rfl) (.inl rfl) (by simp only [push_cast, seval]) (by simp only [push_cast, seval]) ?_
                  refine chk_sx h (fun g1531 h => ?_)
                  have k1530 : (r1529 ++ ([t] : List Timer)).length * 16 ≤ 140737488355328 := by first | simpa only [Bool.and_eq_true, decide_eq_true_eq, bne_iff_ne, ne_eq] using g1531 | (simp at g1531 ⊢; omega)
                  refine rs 5 [none, none, some ⟨.own 10 0 (r1529 ++ ([t] : List Timer)).length, [(10, .row 24 (fl (r1529 ++ ([t] : List Timer)))), (5, .dead)], 11, [5, 8]⟩] _ (by kernel_rfl) (allP_cons (ob_app (P := Try.prog) r1529 ([t] : List Timer) 2 16 rfl (appCells (fl ([t] : List Timer)) 0 (([t] : List Timer).length * 2)) ([t] : List Timer).length (app_own ([t] : List Timer) 2 rfl) rfl (0 + ([t] : List Timer).length * 2 ≤ (fl ([t] : List Timer)).length) (app_own_le ([t] : List Timer) 2 rfl) 24 (by kernel_rfl) (by decide) k1530 5 10 [8]) allP_nil) ?_
                  obtain ⟨r1532, hr1532, h⟩ := bind_sx h
                  refine call_x (taskmillref_Risen_spec (r1529 ++ ([t] : List Timer)) ((xh.length : Nat) : Int) r1532 hr1532) (args := [.own 10 0 (r1529 ++ ([t] : List Timer)).length, iS ((xh.length : Nat) : Int)]) (dst := (some 75)) (by kernel_rfl) [(0, .row 24 (Enc.cells t)), (1, .row 24 (fl c1q2)), (2, .row 28 (Enc.cells c2q2)), (3, .row 28 (Enc.cells c3q6)), (5, .dead), (8, .row 24 (fl ([t] : List Timer))), (10, .row 24 (fl (r1529 ++ ([t] : List Timer))))] 14 (by kernel_rfl) [] [10] (.tup [.own 14 0 r1532.2.length, iS r1532.1]) [(14, .row 24 (fl r1532.2))] (by simp only [push_cast, seval]) (by simp only [push_cast, seval]) (by kernel_rfl) (.inr ⟨by simp only [push_cast, seval], by simp only [push_cast, seval]⟩) (by simp only [push_cast, seval]) (by simp only [push_cast, seval]) ?_
                  refine rs 5 [] [] (by kernel_rfl) allP_nil ?_
                  refine rt [(7, .own 1 0 c1q2.length), (8, iS i2), (11, .own 14 0 r1532.2.length), (12, iS r1532.1)] [(0, .row 24 (Enc.cells t)), (1, .row 24 (fl c1q2)), (2, .row 28 (Enc.cells c2q2)), (3, .row 28 (Enc.cells c3q6)), (5, .dead), (8, .row 24 (fl ([t] : List Timer))), (10, .row 24 (fl (r1529 ++ ([t] : List Timer)))), (14, .row 24 (fl r1532.2))] 21 follows (by kernel_rfl) ?_
                  refine wk_id ?_
                  refine seq_cut (A := Bool) (fun a => ([(4, bS a)], [], 0)) (fun a => (taskmilllaw_AlarmAdds_j1 a) = some r) (fun K1536 hK1536 => ?_) ?_
                  · refine reg_f ?_
                    refine rs 2 [] [] (by kernel_rfl) allP_nil ?_
                    obtain ⟨r1537, hr1537, h⟩ := bind_sx h
                    refine call_x (taskmillref_SameTimers_spec c1q2 r1532.2 r1537 hr1537) (args := [.own 1 0 c1q2.length, .own 14 0 r1532.2.length]) (dst := (some 80)) (by kernel_rfl) [(0, .row 24 (Enc.cells t)), (1, .row 24 (fl c1q2)), (2, .row 28 (Enc.cells c2q2)), (3, .row 28 (Enc.cells c3q6)), (5, .dead), (8, .row 24 (fl ([t] : List Timer))), (10, .row 24 (fl (r1529 ++ ([t] : List Timer)))), (14, .row 24 (fl r1532.2))] 21 (by kernel_rfl) [] [1, 14] (bS r1537) [] (by simp only [push_cast, seval]) (by simp only [push_cast, seval]) (by kernel_rfl) (.inr ⟨by simp only [push_cast, seval], by simp only [push_cast, seval]⟩) (by simp only [push_cast, seval]) (by simp only [push_cast, seval]) ?_
                    refine rs 1 [] [] (by kernel_rfl) allP_nil ?_
                    refine run_br h 81 (.inl (by kernel_rfl)) (fun g1538 h => ?_) (fun g1538 h => ?_)
                    · refine rs 5 [] [] (by kernel_rfl) allP_nil ?_
                      refine rf [(4, bS (i2 == r1532.1))] [(0, .row 24 (Enc.cells t)), (1, .row 24 (fl c1q2)), (2, .row 28 (Enc.cells c2q2)), (3, .row 28 (Enc.cells c3q6)), (5, .dead), (8, .row 24 (fl ([t] : List Timer))), (10, .row 24 (fl (r1529 ++ ([t] : List Timer)))), (14, .row 24 (fl r1532.2))] 21 (by kernel_rfl) ?_
                      exact hK1536 ((i2 == r1532.1)) _ _ _ h (leSt_m [] [] (by (try simp only [g1538]) <;> simp only [push_cast, seval]) (by (try simp only [g1538]) <;> simp only [push_cast, seval]) rfl rfl rfl)
                    · refine rs 5 [] [] (by kernel_rfl) allP_nil ?_
                      refine rf [(4, bS false)] [(0, .row 24 (Enc.cells t)), (1, .row 24 (fl c1q2)), (2, .row 28 (Enc.cells c2q2)), (3, .row 28 (Enc.cells c3q6)), (5, .dead), (8, .row 24 (fl ([t] : List Timer))), (10, .row 24 (fl (r1529 ++ ([t] : List Timer)))), (14, .row 24 (fl r1532.2))] 21 (by kernel_rfl) ?_
                      exact hK1536 (false) _ _ _ h (leSt_m [] [] (by (try simp only [g1538]) <;> simp only [push_cast, seval]) (by (try simp only [g1538]) <;> simp only [push_cast, seval]) rfl rfl rfl)
                  · rintro t4q1 h
                    try dsimp only at h ⊢
                    unfold taskmilllaw_AlarmAdds_j1 at h
                    obtain rfl := Option.some.inj h
                    refine ret_at (bS t4q1) (by kernel_rfl) ?_
                    exact ret_e [] [] (by simp only [push_cast, seval]) (by simp only [push_cast, seval]) rfl rfl rfl

set_option maxRecDepth 100000 in
set_option maxHeartbeats 10000000 in
theorem alarm_Drop_spec (xh : (List Timer)) (i : Int) (r : Timer × Fault × (List Timer)) (h : alarm_Drop xh i = some r) : SpecW Try.prog 17 [.sl xh.length (fl xh), iS i] [] 0 (fun x h n => x = .tup [.own 0 0 r.2.2.length, .agg (Enc.cells r.1), .agg (Enc.cells r.2.1)] ∧ h = [(0, .row 24 (fl r.2.2))] ∧ n = 1) := by
  unfold alarm_Drop at h
  refine spec_of (draw_ok _) Try.func17 rfl (by decide) rfl (by kernel_rfl) ?_
  refine seq_np ?_
  refine reg_f ?_
  refine rs 3 [] [] (by kernel_rfl) allP_nil ?_
  refine rf [(0, .sl xh.length (fl xh)), (1, iS i), (5, .ptr 0 0), (6, .ptr 1 0)] [(0, .row 24 [iS 0, iS 0]), (1, .row 28 [iS 0, iS 0])] 2 (by kernel_rfl) ?_
  refine wk_id ?_
  refine seq_np ?_
  refine seq_np ?_
  refine reg_f ?_
  refine rs 1 [] [] (by kernel_rfl) allP_nil ?_
  obtain ⟨r1575, hr1575, h⟩ := bind_sx h
  refine run_call 10 [.sl xh.length (fl xh)] (some 11) (by kernel_rfl) ?_
  refine call_0 (alarm_Check_spec xh r1575 hr1575) (by simp only [push_cast, seval]) (by simp only [push_cast, seval]) ?_
  refine back_f ?_
  refine rs 2 [] [] (by kernel_rfl) allP_nil ?_
  refine rf [(0, .sl xh.length (fl xh)), (1, iS i), (5, .ptr 0 0), (6, .ptr 1 0), (7, .ptr 2 0)] [(0, .row 24 [iS 0, iS 0]), (1, .row 28 [iS 0, iS 0]), (2, .row 28 (Enc.cells r1575))] 3 (by kernel_rfl) ?_
  refine wk_id ?_
  refine seq_np ?_
  refine reg_f ?_
  refine rs 3 [] [] (by kernel_rfl) allP_nil ?_
  refine rf [(0, .sl xh.length (fl xh)), (1, iS i), (5, .ptr 0 0), (6, .ptr 1 0), (7, .ptr 2 0), (14, bS (r1575.Code != 0))] [(0, .row 24 [iS 0, iS 0]), (1, .row 28 [iS 0, iS 0]), (2, .row 28 (Enc.cells r1575))] 3 (by kernel_rfl) ?_
  refine wk_id ?_
  refine cond_sx h (by kernel_rfl) (fun g1627 h => ?_) (fun g1627 h => ?_)
  · refine seq_np ?_
    refine reg_t ?_
    refine rs 5 [] [] (by kernel_rfl) allP_nil ?_
    refine rt [(4, .v (.slice none 0 0)), (5, .ptr 0 0), (6, .ptr 1 0)] [(0, .row 24 [iS 0, iS 0]), (1, .row 28 (Enc.cells r1575)), (2, .row 28 (Enc.cells r1575))] 8 follows (by kernel_rfl) ?_
    refine wk_id ?_
    obtain rfl := Option.some.inj h
    refine ret_at (.tup [.v (.slice none 0 0), .agg [iS 0, iS 0], .agg (Enc.cells r1575)]) (by kernel_rfl) ?_
    exact ret_e [] [] (by simp only [push_cast, seval]) (by simp only [push_cast, seval]) rfl rfl rfl
  · refine wk_id ?_
    refine seq_np ?_
    refine seq_cut (A := Unit) (fun _ => ([(0, .sl xh.length (fl xh)), (1, iS i), (5, .ptr 0 0), (6, .ptr 1 0), (24, bS ((decide (i < 0)) || (decide (((xh.length : Nat) : Int) ≤ i))))], [(0, .row 24 [iS 0, iS 0]), (1, .row 28 [iS 0, iS 0]), (2, .row 28 (Enc.cells r1575))], 3)) (fun _ => True) (fun K1580 hK1580 => ?_) (fun _ _ => ?_)
    · refine reg_f ?_
      refine rs 3 [] [] (by kernel_rfl) allP_nil ?_
      refine run_split 19 (decide (i < 0)) (.inl (by kernel_rfl)) (fun g1581 => ?_) (fun g1581 => ?_)
      · refine rs 5 [] [] (by kernel_rfl) allP_nil ?_
        refine rf [(0, .sl xh.length (fl xh)), (1, iS i), (5, .ptr 0 0), (6, .ptr 1 0), (24, bS true)] [(0, .row 24 [iS 0, iS 0]), (1, .row 28 [iS 0, iS 0]), (2, .row 28 (Enc.cells r1575))] 3 (by kernel_rfl) ?_
        exact hK1580 () _ _ _ trivial (leSt_m [(0, 0), (1, 1), (2, 2)] [] (by (try simp only [g1581]) <;> simp only [push_cast, seval]) (by (try simp only [g1581]) <;> simp only [push_cast, seval]) rfl rfl rfl)
      · refine rs 5 [] [] (by kernel_rfl) allP_nil ?_
        refine rf [(0, .sl xh.length (fl xh)), (1, iS i), (5, .ptr 0 0), (6, .ptr 1 0), (24, bS (decide (((xh.length : Nat) : Int) ≤ i)))] [(0, .row 24 [iS 0, iS 0]), (1, .row 28 [iS 0, iS 0]), (2, .row 28 (Enc.cells r1575))] 3 (by kernel_rfl) ?_
        exact hK1580 () _ _ _ trivial (leSt_m [(0, 0), (1, 1), (2, 2)] [] (by (try simp only [g1581]) <;> simp only [push_cast, seval]) (by (try simp only [g1581]) <;> simp only [push_cast, seval]) rfl rfl rfl)
    · dsimp only
      refine cond_sx h (by kernel_rfl) (fun g1626 h => ?_) (fun g1626 h => ?_)
      · refine seq_np ?_
        refine reg_f ?_
        refine rs 1 [] [] (by kernel_rfl) allP_nil ?_
        obtain ⟨r1583, hr1583, h⟩ := bind_sx h
        refine run_call 23 [iS 6, iS 0] (some 26) (by kernel_rfl) ?_
        refine call_0 (alarm_fault_spec 6 0 r1583 hr1583) (by simp only [push_cast, seval]) (by simp only [push_cast, seval]) ?_
        refine back_f ?_
        refine rs 3 [] [] (by kernel_rfl) allP_nil ?_
        refine rf [(4, .v (.slice none 0 0)), (5, .ptr 0 0), (6, .ptr 1 0)] [(0, .row 24 [iS 0, iS 0]), (1, .row 28 (Enc.cells r1583)), (2, .row 28 (Enc.cells r1575))] 3 (by kernel_rfl) ?_
        refine wk_id ?_
        obtain rfl := Option.some.inj h
        refine ret_at (.tup [.v (.slice none 0 0), .agg [iS 0, iS 0], .agg (Enc.cells r1583)]) (by kernel_rfl) ?_
        exact ret_e [] [] (by simp only [push_cast, seval]) (by simp only [push_cast, seval]) rfl rfl rfl
      · refine wk_id ?_
        refine seq_np ?_
        refine reg_f ?_
        refine rs 1 [] [] (by kernel_rfl) allP_nil ?_
        obtain ⟨r1585, hr1585, h⟩ := bind_sx h
        refine call_x (slices_Clone_Timer_spec xh r1585 hr1585) (args := [.sl xh.length (fl xh)]) (dst := (some 28)) (by kernel_rfl) [(0, .row 24 [iS 0, iS 0]), (1, .row 28 [iS 0, iS 0]), (2, .row 28 (Enc.cells r1575))] 3 (by kernel_rfl) [] [] (.own 3 0 r1585.length) [(3, .row 24 (fl r1585))] (by simp only [push_cast, seval]) (by simp only [push_cast, seval]) (by kernel_rfl) (.inl rfl) (by simp only [push_cast, seval]) (by simp only [push_cast, seval]) ?_
        refine rs 1 [] [] (by kernel_rfl) allP_nil ?_
        refine rf [(0, .own 3 0 r1585.length), (1, iS i), (5, .ptr 0 0), (6, .ptr 1 0)] [(0, .row 24 [iS 0, iS 0]), (1, .row 28 [iS 0, iS 0]), (2, .row 28 (Enc.cells r1575)), (3, .row 24 (fl r1585))] 4 (by kernel_rfl) ?_
        refine wk_id ?_
        refine chk_sx h (fun g1589 h => ?_)
        refine seq_np ?_
        refine reg_f ?_
        have k1588 : 0 ≤ i ∧ i < ((r1585.length : Nat) : Int) := by first | simpa only [Bool.and_eq_true, decide_eq_true_eq, bne_iff_ne, ne_eq] using g1589 | (simp at g1589 ⊢; omega)
        refine rs 10 [none, none, some ⟨.ptr 3 (0 + (i).toNat * 2), [], 4, [3]⟩, some ⟨.agg (Enc.cells (ix r1585 i)), [], 4, [3]⟩] _ (by kernel_rfl) (allP_cons (ob_ldw r1585 i 2 (0 + (i).toNat * 2) k1588 rfl (by first | rfl | omega) [iS (ix r1585 i).When, iS (ix r1585 i).Task] rfl 4 [3]) (allP_cons (ob_ix_o 3 r1585.length 0 2 4 i k1588) allP_nil)) ?_
        refine rf [(0, .own 3 0 r1585.length), (1, iS i), (5, .ptr 0 0), (6, .ptr 1 0), (8, .ptr 4 0), (9, iS (IntKind.i64.wrap (((r1585.length : Nat) : Int) - 1)))] [(0, .row 24 [iS 0, iS 0]), (1, .row 28 [iS 0, iS 0]), (2, .row 28 (Enc.cells r1575)), (3, .row 24 (fl r1585)), (4, .row 24 (Enc.cells (ix r1585 i)))] 5 (by kernel_rfl) ?_
        refine wk_id ?_
        refine chk_sx h (fun g1595 h => ?_)
        refine chk_sx h (fun g1597 h => ?_)
        refine seq_np ?_
        refine reg_f ?_
        have k1594 : 0 ≤ (IntKind.i64.wrap (((r1585.length : Nat) : Int) - 1)) ∧ (IntKind.i64.wrap (((r1585.length : Nat) : Int) - 1)) < ((r1585.length : Nat) : Int) := by first | simpa only [Bool.and_eq_true, decide_eq_true_eq, bne_iff_ne, ne_eq] using g1595 | (simp at g1595 ⊢; omega)
        have k1596 : 0 ≤ i ∧ i < ((r1585.length : Nat) : Int) := by first | simpa only [Bool.and_eq_true, decide_eq_true_eq, bne_iff_ne, ne_eq] using g1597 | (simp at g1597 ⊢; omega)
        refine rs 8 [none, none, none, none, some ⟨.ptr 3 (0 + ((IntKind.i64.wrap (((r1585.length : Nat) : Int) - 1))).toNat * 2), [], 5, [3]⟩, some ⟨.agg (Enc.cells (ix r1585 (IntKind.i64.wrap (((r1585.length : Nat) : Int) - 1)))), [], 5, [3]⟩, some ⟨.ptr 3 (0 + (i).toNat * 2), [], 5, [3]⟩, some ⟨.any, [(3, .row 24 (fl (r1585.set i.toNat ((ix r1585 (IntKind.i64.wrap (((r1585.length : Nat) : Int) - 1))) : Timer))))], 5, [3]⟩] _ (by kernel_rfl) (allP_cons (ob_st (P := Try.prog) r1585 i 2 0 (0 + (i).toNat * 2) k1596 rfl [iS (ix r1585 (IntKind.i64.wrap (((r1585.length : Nat) : Int) - 1))).When, iS (ix r1585 (IntKind.i64.wrap (((r1585.length : Nat) : Int) - 1))).Task] ((ix r1585 (IntKind.i64.wrap (((r1585.length : Nat) : Int) - 1))) : Timer) (Nat.le_of_ble_eq_true rfl) (by first | rfl | omega) rfl 3 5 24 24 (by kernel_rfl) rfl) (allP_cons (ob_ix_o 3 r1585.length 0 2 5 i k1596) (allP_cons (ob_ldw r1585 (IntKind.i64.wrap (((r1585.length : Nat) : Int) - 1)) 2 (0 + ((IntKind.i64.wrap (((r1585.length : Nat) : Int) - 1))).toNat * 2) k1594 rfl (by first | rfl | omega) [iS (ix r1585 (IntKind.i64.wrap (((r1585.length : Nat) : Int) - 1))).When, iS (ix r1585 (IntKind.i64.wrap (((r1585.length : Nat) : Int) - 1))).Task] rfl 5 [3]) (allP_cons (ob_ix_o 3 r1585.length 0 2 5 (IntKind.i64.wrap (((r1585.length : Nat) : Int) - 1)) k1594) allP_nil)))) ?_
        refine run_eqF 0 (.own 3 0 r1585.length) (.own 3 0 (r1585.set i.toNat ((ix r1585 (IntKind.i64.wrap (((r1585.length : Nat) : Int) - 1))) : Timer)).length) (congrArg (fun nq => (.own 3 0 nq : SV)) (show r1585.length = (r1585.set i.toNat ((ix r1585 (IntKind.i64.wrap (((r1585.length : Nat) : Int) - 1))) : Timer)).length from (List.length_set ..).symm)) (by kernel_rfl) ?_
        refine rf [(0, .own 3 0 (r1585.set i.toNat ((ix r1585 (IntKind.i64.wrap (((r1585.length : Nat) : Int) - 1))) : Timer)).length), (1, iS i), (5, .ptr 0 0), (6, .ptr 1 0), (8, .ptr 4 0), (9, iS (IntKind.i64.wrap (((r1585.length : Nat) : Int) - 1)))] [(0, .row 24 [iS 0, iS 0]), (1, .row 28 [iS 0, iS 0]), (2, .row 28 (Enc.cells r1575)), (3, .row 24 (fl (r1585.set i.toNat ((ix r1585 (IntKind.i64.wrap (((r1585.length : Nat) : Int) - 1))) : Timer)))), (4, .row 24 (Enc.cells (ix r1585 i)))] 5 (by kernel_rfl) ?_
        refine wk_id ?_
        refine chk_sx h (fun g1601 h => ?_)
        refine seq_np ?_
        refine reg_f ?_
        have k1600 : 0 ≤ (0 : Int) ∧ (0 : Int) ≤ (IntKind.i64.wrap (((r1585.length : Nat) : Int) - 1)) ∧ (IntKind.i64.wrap (((r1585.length : Nat) : Int) - 1)) ≤ (((r1585.set i.toNat ((ix r1585 (IntKind.i64.wrap (((r1585.length : Nat) : Int) - 1))) : Timer)).length : Nat) : Int) := by first | simpa only [Bool.and_eq_true, decide_eq_true_eq, bne_iff_ne, ne_eq] using g1601 | (simp at g1601 ⊢; omega)
        refine rs 2 [] [] (by kernel_rfl) allP_nil ?_
        refine run_cutO (r1585.set i.toNat ((ix r1585 (IntKind.i64.wrap (((r1585.length : Nat) : Int) - 1))) : Timer)) (some 45) 3 2 24 (0 : Int) (IntKind.i64.wrap (((r1585.length : Nat) : Int) - 1)) (by kernel_rfl) rfl k1600 ?_
        refine rs 1 [] [] (by kernel_rfl) allP_nil ?_
        refine rf [(0, .own 5 0 (cut (r1585.set i.toNat ((ix r1585 (IntKind.i64.wrap (((r1585.length : Nat) : Int) - 1))) : Timer)) (0 : Int) (IntKind.i64.wrap (((r1585.length : Nat) : Int) - 1))).length), (1, iS i), (5, .ptr 0 0), (6, .ptr 1 0), (8, .ptr 4 0), (9, iS (IntKind.i64.wrap (((r1585.length : Nat) : Int) - 1)))] [(0, .row 24 [iS 0, iS 0]), (1, .row 28 [iS 0, iS 0]), (2, .row 28 (Enc.cells r1575)), (3, .dead), (4, .row 24 (Enc.cells (ix r1585 i))), (5, .row 24 (fl (cut (r1585.set i.toNat ((ix r1585 (IntKind.i64.wrap (((r1585.length : Nat) : Int) - 1))) : Timer)) (0 : Int) (IntKind.i64.wrap (((r1585.length : Nat) : Int) - 1)))))] 6 (by kernel_rfl) ?_
        refine wk_id ?_
        refine seq_cut (A := (List Timer) × Timer) (fun a => ([(0, .own 0 0 a.1.length), (5, .ptr 1 0), (6, .ptr 2 0), (8, .ptr 3 0)], [(0, .row 24 (fl a.1)), (1, .row 24 [iS 0, iS 0]), (2, .row 28 [iS 0, iS 0]), (3, .row 24 (Enc.cells a.2))], 4)) (fun a => (alarm_Drop_j1 a.1 a.2) = some r) (fun K1611 hK1611 => ?_) ?_
        · refine seq_np ?_
          refine reg_f ?_
          refine rs 3 [] [] (by kernel_rfl) allP_nil ?_
          refine rf [(0, .own 5 0 (cut (r1585.set i.toNat ((ix r1585 (IntKind.i64.wrap (((r1585.length : Nat) : Int) - 1))) : Timer)) (0 : Int) (IntKind.i64.wrap (((r1585.length : Nat) : Int) - 1))).length), (1, iS i), (5, .ptr 0 0), (6, .ptr 1 0), (8, .ptr 4 0), (48, bS (decide (i < (IntKind.i64.wrap (((r1585.length : Nat) : Int) - 1)))))] [(0, .row 24 [iS 0, iS 0]), (1, .row 28 [iS 0, iS 0]), (2, .row 28 (Enc.cells r1575)), (3, .dead), (4, .row 24 (Enc.cells (ix r1585 i))), (5, .row 24 (fl (cut (r1585.set i.toNat ((ix r1585 (IntKind.i64.wrap (((r1585.length : Nat) : Int) - 1))) : Timer)) (0 : Int) (IntKind.i64.wrap (((r1585.length : Nat) : Int) - 1)))))] 6 (by kernel_rfl) ?_
          refine wk_id ?_
          refine cond_sx h (by kernel_rfl) (fun g1625 h => ?_) (fun g1625 h => ?_)
          · refine seq_np ?_
            refine reg_f ?_
            refine rs 2 [] [] (by kernel_rfl) allP_nil ?_
            obtain ⟨r1615, hr1615, h⟩ := bind_sx h
            refine call_x (alarm_up_1_spec i (cut (r1585.set i.toNat ((ix r1585 (IntKind.i64.wrap (((r1585.length : Nat) : Int) - 1))) : Timer)) (0 : Int) (IntKind.i64.wrap (((r1585.length : Nat) : Int) - 1))) r1615 hr1615) (args := [.own 5 0 (cut (r1585.set i.toNat ((ix r1585 (IntKind.i64.wrap (((r1585.length : Nat) : Int) - 1))) : Timer)) (0 : Int) (IntKind.i64.wrap (((r1585.length : Nat) : Int) - 1))).length, iS i]) (dst := (some 51)) (by kernel_rfl) [(0, .row 24 [iS 0, iS 0]), (1, .row 28 [iS 0, iS 0]), (2, .row 28 (Enc.cells r1575)), (3, .dead), (4, .row 24 (Enc.cells (ix r1585 i))), (5, .row 24 (fl (cut (r1585.set i.toNat ((ix r1585 (IntKind.i64.wrap (((r1585.length : Nat) : Int) - 1))) : Timer)) (0 : Int) (IntKind.i64.wrap (((r1585.length : Nat) : Int) - 1)))))] 6 (by kernel_rfl) [(0, 5)] [] (iS r1615.1) [(5, .row 24 (fl r1615.2)), (5, .dead)] (by simp only [push_cast, seval]) (by simp only [push_cast, seval]) (by kernel_rfl) (.inl rfl) (by simp only [push_cast, seval]) (by simp only [push_cast, seval]) ?_
            refine chk_sx h (fun g1617 h => ?_)
            have e1616 : (cut (r1585.set i.toNat ((ix r1585 (IntKind.i64.wrap (((r1585.length : Nat) : Int) - 1))) : Timer)) (0 : Int) (IntKind.i64.wrap (((r1585.length : Nat) : Int) - 1))).length = r1615.2.length := (of_decide_eq_true g1617).symm
            refine run_eqF 0 (.own 5 0 (cut (r1585.set i.toNat ((ix r1585 (IntKind.i64.wrap (((r1585.length : Nat) : Int) - 1))) : Timer)) (0 : Int) (IntKind.i64.wrap (((r1585.length : Nat) : Int) - 1))).length) (.own 5 0 r1615.2.length) (congrArg (fun nq => (.own 5 0 nq : SV)) (show (cut (r1585.set i.toNat ((ix r1585 (IntKind.i64.wrap (((r1585.length : Nat) : Int) - 1))) : Timer)) (0 : Int) (IntKind.i64.wrap (((r1585.length : Nat) : Int) - 1))).length = r1615.2.length from e1616)) (by kernel_rfl) ?_
            refine rs 2 [] [] (by kernel_rfl) allP_nil ?_
            refine rf [(0, .own 5 0 r1615.2.length), (1, iS i), (5, .ptr 0 0), (6, .ptr 1 0), (8, .ptr 4 0), (53, bS (r1615.1 == i))] [(0, .row 24 [iS 0, iS 0]), (1, .row 28 [iS 0, iS 0]), (2, .row 28 (Enc.cells r1575)), (3, .dead), (4, .row 24 (Enc.cells (ix r1585 i))), (5, .row 24 (fl r1615.2))] 7 (by kernel_rfl) ?_
            refine wk_id ?_
            refine cond_sx h (by kernel_rfl) (fun g1624 h => ?_) (fun g1624 h => ?_)
            · refine reg_f ?_
              refine rs 2 [] [] (by kernel_rfl) allP_nil ?_
              obtain ⟨r1621, hr1621, h⟩ := bind_sx h
              refine call_x (alarm_down_1_spec i r1615.2 r1621 hr1621) (args := [.own 5 0 r1615.2.length, iS i]) (dst := (some 56)) (by kernel_rfl) [(0, .row 24 [iS 0, iS 0]), (1, .row 28 [iS 0, iS 0]), (2, .row 28 (Enc.cells r1575)), (3, .dead), (4, .row 24 (Enc.cells (ix r1585 i))), (5, .row 24 (fl r1615.2))] 7 (by kernel_rfl) [(0, 5)] [] (.tup []) [(5, .row 24 (fl r1621)), (5, .dead)] (by simp only [push_cast, seval]) (by simp only [push_cast, seval]) (by kernel_rfl) (.inl rfl) (by simp only [push_cast, seval]) (by simp only [push_cast, seval]) ?_
              refine chk_sx h (fun g1623 h => ?_)
              have e1622 : r1615.2.length = r1621.length := (of_decide_eq_true g1623).symm
              refine run_eqF 0 (.own 5 0 r1615.2.length) (.own 5 0 r1621.length) (congrArg (fun nq => (.own 5 0 nq : SV)) (show r1615.2.length = r1621.length from e1622)) (by kernel_rfl) ?_
              refine rf [(0, .own 5 0 r1621.length), (5, .ptr 0 0), (6, .ptr 1 0), (8, .ptr 4 0)] [(0, .row 24 [iS 0, iS 0]), (1, .row 28 [iS 0, iS 0]), (2, .row 28 (Enc.cells r1575)), (3, .dead), (4, .row 24 (Enc.cells (ix r1585 i))), (5, .row 24 (fl r1621))] 8 (by kernel_rfl) ?_
              exact hK1611 (r1621, (ix r1585 i)) _ _ _ h (leSt_m [(0, 5), (1, 0), (2, 1), (3, 4)] [] (by simp only [push_cast, seval]) (by simp only [push_cast, seval]) rfl rfl rfl)
            · exact hK1611 (r1615.2, (ix r1585 i)) _ _ _ h (leSt_m [(0, 5), (1, 0), (2, 1), (3, 4)] [] (by simp only [push_cast, seval]) (by simp only [push_cast, seval]) rfl rfl rfl)
          · exact hK1611 ((cut (r1585.set i.toNat ((ix r1585 (IntKind.i64.wrap (((r1585.length : Nat) : Int) - 1))) : Timer)) (0 : Int) (IntKind.i64.wrap (((r1585.length : Nat) : Int) - 1))), (ix r1585 i)) _ _ _ h (leSt_m [(0, 5), (1, 0), (2, 1), (3, 4)] [] (by simp only [push_cast, seval]) (by simp only [push_cast, seval]) rfl rfl rfl)
        · rintro ⟨c0q2, c3q1⟩ h
          try dsimp only at h ⊢
          unfold alarm_Drop_j1 at h
          refine seq_np ?_
          refine reg_t ?_
          refine rs 6 [] [] (by kernel_rfl) allP_nil ?_
          refine rt [(4, .own 0 0 c0q2.length), (5, .ptr 1 0), (6, .ptr 2 0)] [(0, .row 24 (fl c0q2)), (1, .row 24 (Enc.cells c3q1)), (2, .row 28 [iS 0, iS 0]), (3, .row 24 (Enc.cells c3q1))] 10 follows (by kernel_rfl) ?_
          refine wk_id ?_
          obtain rfl := Option.some.inj h
          refine ret_at (.tup [.own 0 0 c0q2.length, .agg (Enc.cells c3q1), .agg [iS 0, iS 0]]) (by kernel_rfl) ?_
          exact ret_e [(0, 0)] [] (by simp only [push_cast, seval]) (by simp only [push_cast, seval]) rfl rfl rfl

set_option maxRecDepth 100000 in
set_option maxHeartbeats 10000000 in
theorem taskmillref_Sunk_spec (xh : (List Timer)) (i : Int) (r : (List Timer)) (h : taskmillref_Sunk xh i = some r) : SpecW Try.prog 27 [.sl xh.length (fl xh), iS i] [] 0 (fun x h n => x = .own 0 0 r.length ∧ h = [(0, .row 24 (fl r))] ∧ n = 1) := by
  unfold taskmillref_Sunk at h
  refine spec_of (draw_ok _) Try.func27 rfl (by decide) rfl (by kernel_rfl) ?_
  refine seq_np ?_
  refine reg_f ?_
  refine rs 1 [] [] (by kernel_rfl) allP_nil ?_
  refine rf [(0, .sl xh.length (fl xh)), (1, iS i)] [] 0 (by kernel_rfl) ?_
  refine wk_id ?_
  refine chk_sx h (fun g1769 h => ?_)
  refine seq_np ?_
  refine reg_f ?_
  have k1768 : xh.length * 16 ≤ 140737488355328 := by first | simpa only [Bool.and_eq_true, decide_eq_true_eq, bne_iff_ne, ne_eq] using g1769 | (simp at g1769 ⊢; omega)
  refine rs 3 [none, some ⟨.own 0 0 xh.length, [(0, .row 24 (fl xh))], 1, []⟩] _ (by kernel_rfl) (allP_cons (ob_app0 (P := Try.prog) xh 2 16 rfl (fl xh) xh.length rfl rfl ((fl xh).length = xh.length * 2) (app_sl xh 2 rfl) 24 (by kernel_rfl) (by decide) k1768 0 []) allP_nil) ?_
  refine rf [(0, .own 0 0 xh.length), (1, iS i)] [(0, .row 24 (fl xh))] 1 (by kernel_rfl) ?_
  refine wk_id ?_
  refine block_np ?_
  refine loop_sx (S := Int × (List Timer)) (fun a => ([(0, .own 0 0 a.2.length), (1, iS a.1)], [(0, .row 24 (fl a.2))], 1)) h (leSt_m [(0, 0)] [] (by simp only [push_cast, seval]) (by simp only [push_cast, seval]) rfl rfl rfl) ?_
  rintro ⟨i4, c0q4⟩ o3 R3 h hr3 hn3 hx3 ht3
  try dsimp only at h hn3 ⊢
  unfold taskmillref_Sunk_l2 at h
  try dsimp only at h
  refine block_np ?_
  refine seq_np ?_
  refine reg_f ?_
  refine rs 2 [] [] (by kernel_rfl) allP_nil ?_
  refine rf [(0, .own 0 0 c0q4.length), (1, iS i4), (5, iS i4)] [(0, .row 24 (fl c0q4))] 1 (by kernel_rfl) ?_
  refine wk_id ?_
  refine seq_np ?_
  refine seq_np ?_
  refine reg_f ?_
  refine rs 4 [] [] (by kernel_rfl) allP_nil ?_
  refine rf [(0, .own 0 0 c0q4.length), (1, iS i4), (5, iS i4), (6, iS (IntKind.i64.wrap ((IntKind.i64.wrap ((4 : Int) * i4)) + 1)))] [(0, .row 24 (fl c0q4))] 1 (by kernel_rfl) ?_
  refine wk_id ?_
  refine block_np ?_
  refine loop_sx (S := Int × Int) (fun a => ([(0, .own 0 0 c0q4.length), (1, iS i4), (5, iS a.1), (6, iS a.2)], [(0, .row 24 (fl c0q4))], 1)) h (leSt_m [(0, 0)] [] (by simp only [push_cast, seval]) (by simp only [push_cast, seval]) rfl rfl rfl) ?_
  rintro ⟨k38, c15⟩ o4 R4 h hr4 hn4 hx4 ht4
  try dsimp only at h hn4 ⊢
  unfold taskmillref_Sunk_l1 at h
  try dsimp only at h
  refine seq_np ?_
  refine seq_cut (A := Unit) (fun _ => ([(0, .own 0 0 c0q4.length), (1, iS i4), (5, iS k38), (6, iS c15), (23, bS ((decide (c15 ≤ (IntKind.i64.wrap ((IntKind.i64.wrap ((4 : Int) * i4)) + 4)))) && (decide (c15 < ((c0q4.length : Nat) : Int)))))], [(0, .row 24 (fl c0q4))], 1)) (fun _ => True) (fun K1923 hK1923 => ?_) (fun _ _ => ?_)
  · refine reg_f ?_
    refine rs 6 [] [] (by kernel_rfl) allP_nil ?_
    refine run_split 18 (decide (c15 ≤ (IntKind.i64.wrap ((IntKind.i64.wrap ((4 : Int) * i4)) + 4)))) (.inl (by kernel_rfl)) (fun g1924 => ?_) (fun g1924 => ?_)
    · refine rs 5 [] [] (by kernel_rfl) allP_nil ?_
      refine rf [(0, .own 0 0 c0q4.length), (1, iS i4), (5, iS k38), (6, iS c15), (23, bS (decide (c15 < ((c0q4.length : Nat) : Int))))] [(0, .row 24 (fl c0q4))] 1 (by kernel_rfl) ?_
      exact hK1923 () _ _ _ trivial (leSt_m [(0, 0)] [] (by (try simp only [g1924]) <;> simp only [push_cast, seval]) (by (try simp only [g1924]) <;> simp only [push_cast, seval]) rfl rfl rfl)
    · refine rs 5 [] [] (by kernel_rfl) allP_nil ?_
      refine rf [(0, .own 0 0 c0q4.length), (1, iS i4), (5, iS k38), (6, iS c15), (23, bS false)] [(0, .row 24 (fl c0q4))] 1 (by kernel_rfl) ?_
      exact hK1923 () _ _ _ trivial (leSt_m [(0, 0)] [] (by (try simp only [g1924]) <;> simp only [push_cast, seval]) (by (try simp only [g1924]) <;> simp only [push_cast, seval]) rfl rfl rfl)
  · dsimp only
    refine cond_sx h (by kernel_rfl) (fun g1966 h => ?_) (fun g1966 h => ?_)
    · refine wk_id ?_
      refine seq_np ?_
      refine block_cut (A := Int) (fun a => ([(0, .own 0 0 c0q4.length), (1, iS i4), (5, iS a), (6, iS c15)], [(0, .row 24 (fl c0q4))], 1)) (fun a => (taskmillref_Sunk_j1 i4 c0q4 c15 a) = some o4) (fun K1938 hK1938 => ?_) ?_
      · refine chk_sx h (fun g1944 h => ?_)
        refine chk_sx h (fun g1946 h => ?_)
        refine seq_np ?_
        refine reg_t ?_
        have k1943 : 0 ≤ c15 ∧ c15 < ((c0q4.length : Nat) : Int) := by first | simpa only [Bool.and_eq_true, decide_eq_true_eq, bne_iff_ne, ne_eq] using g1944 | (simp at g1944 ⊢; omega)
        have k1945 : 0 ≤ k38 ∧ k38 < ((c0q4.length : Nat) : Int) := by first | simpa only [Bool.and_eq_true, decide_eq_true_eq, bne_iff_ne, ne_eq] using g1946 | (simp at g1946 ⊢; omega)
        refine rs 11 [none, none, some ⟨.ptr 0 (0 + (c15).toNat * 2), [], 3, [0]⟩, none, some ⟨iS (ix c0q4 c15).When, [], 5, [0]⟩, none, none, some ⟨.ptr 0 (0 + (k38).toNat * 2), [], 8, [0]⟩, none, some ⟨iS (ix c0q4 k38).When, [], 10, [0]⟩] _ (by kernel_rfl) (allP_cons (ob_ld c0q4 k38 2 0 ((0 + (k38).toNat * 2) + 0) k1945 rfl (by decide) (by first | rfl | omega) (dflS Try.prog 3) (iS (ix c0q4 k38).When) rfl 10 [0]) (allP_cons (ob_ix_o 0 c0q4.length 0 2 8 k38 k1945) (allP_cons (ob_ld c0q4 c15 2 0 ((0 + (c15).toNat * 2) + 0) k1943 rfl (by decide) (by first | rfl | omega) (dflS Try.prog 3) (iS (ix c0q4 c15).When) rfl 5 [0]) (allP_cons (ob_ix_o 0 c0q4.length 0 2 3 c15 k1943) allP_nil)))) ?_
        refine rt [(0, .own 0 0 c0q4.length), (1, iS i4), (5, iS k38), (6, iS c15), (36, bS (decide ((ix c0q4 c15).When < (ix c0q4 k38).When)))] [(0, .row 24 (fl c0q4))] 12 follows (by kernel_rfl) ?_
        refine wk_id ?_
        refine cond_sx h (by kernel_rfl) (fun g1947 h => ?_) (fun g1947 h => ?_)
        · refine reg_f ?_
          refine rs 2 [] [] (by kernel_rfl) allP_nil ?_
          refine rf [(0, .own 0 0 c0q4.length), (1, iS i4), (5, iS c15), (6, iS c15)] [(0, .row 24 (fl c0q4))] 12 (by kernel_rfl) ?_
          exact hK1938 (c15) _ _ _ h (leSt_m [(0, 0)] [] (by simp only [push_cast, seval]) (by simp only [push_cast, seval]) rfl rfl rfl)
        · exact hK1938 (k38) _ _ _ h (leSt_m [(0, 0)] [] (by simp only [push_cast, seval]) (by simp only [push_cast, seval]) rfl rfl rfl)
      · rintro k40 h
        try dsimp only at h ⊢
        unfold taskmillref_Sunk_j1 at h
        refine wk_id ?_
        refine reg_f ?_
        refine rs 3 [] [] (by kernel_rfl) allP_nil ?_
        refine rf [(0, .own 0 0 c0q4.length), (1, iS i4), (5, iS k40), (6, iS (IntKind.i64.wrap (c15 + 1)))] [(0, .row 24 (fl c0q4))] 1 (by kernel_rfl) ?_
        exact hn4 (k40, (IntKind.i64.wrap (c15 + 1))) _ _ _ (Option.some.inj h).symm (leSt_m [(0, 0)] [] (by simp only [push_cast, seval]) (by simp only [push_cast, seval]) rfl rfl rfl)
    · change R4 (.exit 2) _ _ _
      refine ex_cast hx4 (id := 2) ?_
      obtain ⟨r0, h, e0⟩ := map_sx h
      have e1 := hr4 r0 e0.symm
      subst r0
      refine wk_id ?_
      refine wk_id ?_
      refine seq_np ?_
      refine seq_np ?_
      refine reg_f ?_
      refine rs 3 [] [] (by kernel_rfl) allP_nil ?_
      refine rf [(0, .own 0 0 c0q4.length), (1, iS i4), (5, iS k38), (40, bS (k38 == i4))] [(0, .row 24 (fl c0q4))] 1 (by kernel_rfl) ?_
      refine wk_id ?_
      refine cond_sx h (by kernel_rfl) (fun g1965 h => ?_) (fun g1965 h => ?_)
      · refine seq_np ?_
        refine reg_f ?_
        refine rs 2 [] [] (by kernel_rfl) allP_nil ?_
        refine rf [(4, .own 0 0 c0q4.length)] [(0, .row 24 (fl c0q4))] 1 (by kernel_rfl) ?_
        refine wk_id ?_
        refine rt_cast ht3 ?_
        obtain ⟨r0, h, e0⟩ := map_sx h
        have e1 := hr3 r0 e0.symm
        subst r0
        obtain rfl := Option.some.inj h
        refine ret_at (.own 0 0 c0q4.length) (by kernel_rfl) ?_
        exact ret_e [(0, 0)] [] (by simp only [push_cast, seval]) (by simp only [push_cast, seval]) rfl rfl rfl
      · refine wk_id ?_
        refine chk_sx h (fun g1958 h => ?_)
        refine chk_sx h (fun g1960 h => ?_)
        refine chk_sx h (fun g1962 h => ?_)
        refine chk_sx h (fun g1964 h => ?_)
        refine seq_np ?_
        refine reg_t ?_
        have k1957 : 0 ≤ k38 ∧ k38 < ((c0q4.length : Nat) : Int) := by first | simpa only [Bool.and_eq_true, decide_eq_true_eq, bne_iff_ne, ne_eq] using g1958 | (simp at g1958 ⊢; omega)
        have k1959 : 0 ≤ i4 ∧ i4 < ((c0q4.length : Nat) : Int) := by first | simpa only [Bool.and_eq_true, decide_eq_true_eq, bne_iff_ne, ne_eq] using g1960 | (simp at g1960 ⊢; omega)
        have k1961 : 0 ≤ i4 ∧ i4 < ((c0q4.length : Nat) : Int) := by first | simpa only [Bool.and_eq_true, decide_eq_true_eq, bne_iff_ne, ne_eq] using g1962 | (simp at g1962 ⊢; omega)
        refine rs 14 [none, none, none, none, none, none, some ⟨.ptr 0 (0 + (k38).toNat * 2), [], 7, [0]⟩, some ⟨.agg (Enc.cells (ix c0q4 k38)), [], 8, [0]⟩, none, none, some ⟨.ptr 0 (0 + (i4).toNat * 2), [], 11, [0]⟩, some ⟨.agg (Enc.cells (ix c0q4 i4)), [], 12, [0]⟩, some ⟨.ptr 0 (0 + (i4).toNat * 2), [], 13, [0]⟩, some ⟨.any, [(0, .row 24 (fl (c0q4.set i4.toNat ((ix c0q4 k38) : Timer))))], 14, [0]⟩] _ (by kernel_rfl) (allP_cons (ob_st (P := Try.prog) c0q4 i4 2 0 (0 + (i4).toNat * 2) k1961 rfl [iS (ix c0q4 k38).When, iS (ix c0q4 k38).Task] ((ix c0q4 k38) : Timer) (Nat.le_of_ble_eq_true rfl) (by first | rfl | omega) rfl 0 14 24 24 (by kernel_rfl) rfl) (allP_cons (ob_ix_o 0 c0q4.length 0 2 13 i4 k1961) (allP_cons (ob_ldw c0q4 i4 2 (0 + (i4).toNat * 2) k1959 rfl (by first | rfl | omega) [iS (ix c0q4 i4).When, iS (ix c0q4 i4).Task] rfl 12 [0]) (allP_cons (ob_ix_o 0 c0q4.length 0 2 11 i4 k1959) (allP_cons (ob_ldw c0q4 k38 2 (0 + (k38).toNat * 2) k1957 rfl (by first | rfl | omega) [iS (ix c0q4 k38).When, iS (ix c0q4 k38).Task] rfl 8 [0]) (allP_cons (ob_ix_o 0 c0q4.length 0 2 7 k38 k1957) allP_nil)))))) ?_
        refine run_eqF 0 (.own 0 0 c0q4.length) (.own 0 0 (c0q4.set i4.toNat ((ix c0q4 k38) : Timer)).length) (congrArg (fun nq => (.own 0 0 nq : SV)) (show c0q4.length = (c0q4.set i4.toNat ((ix c0q4 k38) : Timer)).length from (List.length_set ..).symm)) (by kernel_rfl) ?_
        refine run_eqF 44 (.own 0 0 c0q4.length) (.own 0 0 (c0q4.set i4.toNat ((ix c0q4 k38) : Timer)).length) (congrArg (fun nq => (.own 0 0 nq : SV)) (show c0q4.length = (c0q4.set i4.toNat ((ix c0q4 k38) : Timer)).length from (List.length_set ..).symm)) (by kernel_rfl) ?_
        have k1963 : 0 ≤ k38 ∧ k38 < (((c0q4.set i4.toNat ((ix c0q4 k38) : Timer)).length : Nat) : Int) := by first | simpa only [Bool.and_eq_true, decide_eq_true_eq, bne_iff_ne, ne_eq] using g1964 | (simp at g1964 ⊢; omega)
        refine rs 2 [some ⟨.ptr 0 (0 + (k38).toNat * 2), [], 15, [0]⟩, some ⟨.any, [(0, .row 24 (fl ((c0q4.set i4.toNat ((ix c0q4 k38) : Timer)).set k38.toNat ((ix c0q4 i4) : Timer))))], 16, [0]⟩] _ (by kernel_rfl) (allP_cons (ob_st (P := Try.prog) (c0q4.set i4.toNat ((ix c0q4 k38) : Timer)) k38 2 0 (0 + (k38).toNat * 2) k1963 rfl [iS (ix c0q4 i4).When, iS (ix c0q4 i4).Task] ((ix c0q4 i4) : Timer) (Nat.le_of_ble_eq_true rfl) (by first | rfl | omega) rfl 0 16 24 24 (by kernel_rfl) rfl) (allP_cons (ob_ix_o 0 (c0q4.set i4.toNat ((ix c0q4 k38) : Timer)).length 0 2 15 k38 k1963) allP_nil)) ?_
        refine run_eqF 0 (.own 0 0 (c0q4.set i4.toNat ((ix c0q4 k38) : Timer)).length) (.own 0 0 ((c0q4.set i4.toNat ((ix c0q4 k38) : Timer)).set k38.toNat ((ix c0q4 i4) : Timer)).length) (congrArg (fun nq => (.own 0 0 nq : SV)) (show (c0q4.set i4.toNat ((ix c0q4 k38) : Timer)).length = ((c0q4.set i4.toNat ((ix c0q4 k38) : Timer)).set k38.toNat ((ix c0q4 i4) : Timer)).length from (List.length_set ..).symm)) (by kernel_rfl) ?_
        refine rt [(0, .own 0 0 ((c0q4.set i4.toNat ((ix c0q4 k38) : Timer)).set k38.toNat ((ix c0q4 i4) : Timer)).length), (5, iS k38)] [(0, .row 24 (fl ((c0q4.set i4.toNat ((ix c0q4 k38) : Timer)).set k38.toNat ((ix c0q4 i4) : Timer))))] 17 follows (by kernel_rfl) ?_
        refine wk_id ?_
        refine reg_f ?_
        refine rs 2 [] [] (by kernel_rfl) allP_nil ?_
        refine rf [(0, .own 0 0 ((c0q4.set i4.toNat ((ix c0q4 k38) : Timer)).set k38.toNat ((ix c0q4 i4) : Timer)).length), (1, iS k38)] [(0, .row 24 (fl ((c0q4.set i4.toNat ((ix c0q4 k38) : Timer)).set k38.toNat ((ix c0q4 i4) : Timer))))] 17 (by kernel_rfl) ?_
        refine wk_id ?_
        exact hn3 (k38, ((c0q4.set i4.toNat ((ix c0q4 k38) : Timer)).set k38.toNat ((ix c0q4 i4) : Timer))) _ _ _ (Option.some.inj h).symm (leSt_m [(0, 0)] [] (by simp only [push_cast, seval]) (by simp only [push_cast, seval]) rfl rfl rfl)

set_option maxRecDepth 100000 in
set_option maxHeartbeats 10000000 in
theorem taskmillref_Dropped_spec (xh : (List Timer)) (i : Int) (r : (List Timer)) (h : taskmillref_Dropped xh i = some r) : SpecW Try.prog 18 [.sl xh.length (fl xh), iS i] [] 0 (fun x h n => x = .own 0 0 r.length ∧ h = [(0, .row 24 (fl r))] ∧ n = 1) := by
  unfold taskmillref_Dropped at h
  refine spec_of (draw_ok _) Try.func18 rfl (by decide) rfl (by kernel_rfl) ?_
  refine seq_np ?_
  refine reg_f ?_
  refine rs 1 [] [] (by kernel_rfl) allP_nil ?_
  refine rf [(0, .sl xh.length (fl xh)), (1, iS i)] [] 0 (by kernel_rfl) ?_
  refine wk_id ?_
  refine seq_np ?_
  refine reg_f ?_
  refine rs 4 [] [] (by kernel_rfl) allP_nil ?_
  refine rf [(0, .sl xh.length (fl xh)), (1, iS i), (5, iS (IntKind.i64.wrap (((xh.length : Nat) : Int) - 1)))] [] 0 (by kernel_rfl) ?_
  refine wk_id ?_
  refine chk_sx h (fun g1976 h => ?_)
  refine chk_sx h (fun g1978 h => ?_)
  refine seq_np ?_
  refine reg_f ?_
  have k1975 : 0 ≤ (0 : Int) ∧ (0 : Int) ≤ (IntKind.i64.wrap (((xh.length : Nat) : Int) - 1)) ∧ (IntKind.i64.wrap (((xh.length : Nat) : Int) - 1)) ≤ ((xh.length : Nat) : Int) := by first | simpa only [Bool.and_eq_true, decide_eq_true_eq, bne_iff_ne, ne_eq] using g1976 | (simp at g1976 ⊢; omega)
  have k1977 : (cut xh (0 : Int) (IntKind.i64.wrap (((xh.length : Nat) : Int) - 1))).length * 16 ≤ 140737488355328 := by first | simpa only [Bool.and_eq_true, decide_eq_true_eq, bne_iff_ne, ne_eq] using g1978 | (simp at g1978 ⊢; omega)
  refine rs 5 [none, none, some ⟨.sl (cut xh (0 : Int) (IntKind.i64.wrap (((xh.length : Nat) : Int) - 1))).length (fl (cut xh (0 : Int) (IntKind.i64.wrap (((xh.length : Nat) : Int) - 1)))), [], 0, []⟩, some ⟨.own 0 0 (cut xh (0 : Int) (IntKind.i64.wrap (((xh.length : Nat) : Int) - 1))).length, [(0, .row 24 (fl (cut xh (0 : Int) (IntKind.i64.wrap (((xh.length : Nat) : Int) - 1)))))], 1, []⟩] _ (by kernel_rfl) (allP_cons (ob_app0 (P := Try.prog) (cut xh (0 : Int) (IntKind.i64.wrap (((xh.length : Nat) : Int) - 1))) 2 16 rfl (fl (cut xh (0 : Int) (IntKind.i64.wrap (((xh.length : Nat) : Int) - 1)))) (cut xh (0 : Int) (IntKind.i64.wrap (((xh.length : Nat) : Int) - 1))).length rfl rfl ((fl (cut xh (0 : Int) (IntKind.i64.wrap (((xh.length : Nat) : Int) - 1)))).length = (cut xh (0 : Int) (IntKind.i64.wrap (((xh.length : Nat) : Int) - 1))).length * 2) (app_sl (cut xh (0 : Int) (IntKind.i64.wrap (((xh.length : Nat) : Int) - 1))) 2 rfl) 24 (by kernel_rfl) (by decide) k1977 0 []) (allP_cons (ob_cut xh (0 : Int) (IntKind.i64.wrap (((xh.length : Nat) : Int) - 1)) 2 0 rfl k1975) allP_nil)) ?_
  refine rf [(0, .sl xh.length (fl xh)), (1, iS i), (5, iS (IntKind.i64.wrap (((xh.length : Nat) : Int) - 1))), (6, .own 0 0 (cut xh (0 : Int) (IntKind.i64.wrap (((xh.length : Nat) : Int) - 1))).length)] [(0, .row 24 (fl (cut xh (0 : Int) (IntKind.i64.wrap (((xh.length : Nat) : Int) - 1)))))] 1 (by kernel_rfl) ?_
  refine wk_id ?_
  refine seq_np ?_
  refine seq_np ?_
  refine reg_f ?_
  refine rs 3 [] [] (by kernel_rfl) allP_nil ?_
  refine rf [(0, .sl xh.length (fl xh)), (1, iS i), (5, iS (IntKind.i64.wrap (((xh.length : Nat) : Int) - 1))), (6, .own 0 0 (cut xh (0 : Int) (IntKind.i64.wrap (((xh.length : Nat) : Int) - 1))).length), (17, bS (i == (IntKind.i64.wrap (((xh.length : Nat) : Int) - 1))))] [(0, .row 24 (fl (cut xh (0 : Int) (IntKind.i64.wrap (((xh.length : Nat) : Int) - 1)))))] 1 (by kernel_rfl) ?_
  refine wk_id ?_
  refine cond_sx h (by kernel_rfl) (fun g1997 h => ?_) (fun g1997 h => ?_)
  · refine seq_np ?_
    refine reg_f ?_
    refine rs 2 [] [] (by kernel_rfl) allP_nil ?_
    refine rf [(4, .own 0 0 (cut xh (0 : Int) (IntKind.i64.wrap (((xh.length : Nat) : Int) - 1))).length)] [(0, .row 24 (fl (cut xh (0 : Int) (IntKind.i64.wrap (((xh.length : Nat) : Int) - 1)))))] 1 (by kernel_rfl) ?_
    refine wk_id ?_
    obtain rfl := Option.some.inj h
    refine ret_at (.own 0 0 (cut xh (0 : Int) (IntKind.i64.wrap (((xh.length : Nat) : Int) - 1))).length) (by kernel_rfl) ?_
    exact ret_e [(0, 0)] [] (by simp only [push_cast, seval]) (by simp only [push_cast, seval]) rfl rfl rfl
  · refine wk_id ?_
    refine chk_sx h (fun g1985 h => ?_)
    refine chk_sx h (fun g1987 h => ?_)
    refine seq_np ?_
    refine reg_f ?_
    have k1984 : 0 ≤ (IntKind.i64.wrap (((xh.length : Nat) : Int) - 1)) ∧ (IntKind.i64.wrap (((xh.length : Nat) : Int) - 1)) < ((xh.length : Nat) : Int) := by first | simpa only [Bool.and_eq_true, decide_eq_true_eq, bne_iff_ne, ne_eq] using g1985 | (simp at g1985 ⊢; omega)
    have k1986 : 0 ≤ i ∧ i < (((cut xh (0 : Int) (IntKind.i64.wrap (((xh.length : Nat) : Int) - 1))).length : Nat) : Int) := by first | simpa only [Bool.and_eq_true, decide_eq_true_eq, bne_iff_ne, ne_eq] using g1987 | (simp at g1987 ⊢; omega)
    refine rs 8 [none, none, none, none, some ⟨.iptr (fl xh) (((IntKind.i64.wrap (((xh.length : Nat) : Int) - 1))).toNat * 2), [], 1, []⟩, some ⟨.agg (Enc.cells (ix xh (IntKind.i64.wrap (((xh.length : Nat) : Int) - 1)))), [], 1, []⟩, some ⟨.ptr 0 (0 + (i).toNat * 2), [], 1, [0]⟩, some ⟨.any, [(0, .row 24 (fl ((cut xh (0 : Int) (IntKind.i64.wrap (((xh.length : Nat) : Int) - 1))).set i.toNat ((ix xh (IntKind.i64.wrap (((xh.length : Nat) : Int) - 1))) : Timer))))], 1, [0]⟩] _ (by kernel_rfl) (allP_cons (ob_st (P := Try.prog) (cut xh (0 : Int) (IntKind.i64.wrap (((xh.length : Nat) : Int) - 1))) i 2 0 (0 + (i).toNat * 2) k1986 rfl [iS (ix xh (IntKind.i64.wrap (((xh.length : Nat) : Int) - 1))).When, iS (ix xh (IntKind.i64.wrap (((xh.length : Nat) : Int) - 1))).Task] ((ix xh (IntKind.i64.wrap (((xh.length : Nat) : Int) - 1))) : Timer) (Nat.le_of_ble_eq_true rfl) (by first | rfl | omega) rfl 0 1 24 24 (by kernel_rfl) rfl) (allP_cons (ob_ix_o 0 (cut xh (0 : Int) (IntKind.i64.wrap (((xh.length : Nat) : Int) - 1))).length 0 2 1 i k1986) (allP_cons (ob_ldw xh (IntKind.i64.wrap (((xh.length : Nat) : Int) - 1)) 2 (((IntKind.i64.wrap (((xh.length : Nat) : Int) - 1))).toNat * 2) k1984 rfl (by first | rfl | omega) [iS (ix xh (IntKind.i64.wrap (((xh.length : Nat) : Int) - 1))).When, iS (ix xh (IntKind.i64.wrap (((xh.length : Nat) : Int) - 1))).Task] rfl 1 []) (allP_cons (ob_ix_l xh 2 1 (IntKind.i64.wrap (((xh.length : Nat) : Int) - 1)) k1984) allP_nil)))) ?_
    refine run_eqF 6 (.own 0 0 (cut xh (0 : Int) (IntKind.i64.wrap (((xh.length : Nat) : Int) - 1))).length) (.own 0 0 ((cut xh (0 : Int) (IntKind.i64.wrap (((xh.length : Nat) : Int) - 1))).set i.toNat ((ix xh (IntKind.i64.wrap (((xh.length : Nat) : Int) - 1))) : Timer)).length) (congrArg (fun nq => (.own 0 0 nq : SV)) (show (cut xh (0 : Int) (IntKind.i64.wrap (((xh.length : Nat) : Int) - 1))).length = ((cut xh (0 : Int) (IntKind.i64.wrap (((xh.length : Nat) : Int) - 1))).set i.toNat ((ix xh (IntKind.i64.wrap (((xh.length : Nat) : Int) - 1))) : Timer)).length from (List.length_set ..).symm)) (by kernel_rfl) ?_
    refine rf [(1, iS i), (6, .own 0 0 ((cut xh (0 : Int) (IntKind.i64.wrap (((xh.length : Nat) : Int) - 1))).set i.toNat ((ix xh (IntKind.i64.wrap (((xh.length : Nat) : Int) - 1))) : Timer)).length)] [(0, .row 24 (fl ((cut xh (0 : Int) (IntKind.i64.wrap (((xh.length : Nat) : Int) - 1))).set i.toNat ((ix xh (IntKind.i64.wrap (((xh.length : Nat) : Int) - 1))) : Timer))))] 1 (by kernel_rfl) ?_
    refine wk_id ?_
    refine seq_np ?_
    refine reg_f ?_
    refine rs 2 [] [] (by kernel_rfl) allP_nil ?_
    obtain ⟨r1989, hr1989, h⟩ := bind_sx h
    refine call_x (taskmillref_Risen_spec ((cut xh (0 : Int) (IntKind.i64.wrap (((xh.length : Nat) : Int) - 1))).set i.toNat ((ix xh (IntKind.i64.wrap (((xh.length : Nat) : Int) - 1))) : Timer)) i r1989 hr1989) (args := [.own 0 0 ((cut xh (0 : Int) (IntKind.i64.wrap (((xh.length : Nat) : Int) - 1))).set i.toNat ((ix xh (IntKind.i64.wrap (((xh.length : Nat) : Int) - 1))) : Timer)).length, iS i]) (dst := (some 29)) (by kernel_rfl) [(0, .row 24 (fl ((cut xh (0 : Int) (IntKind.i64.wrap (((xh.length : Nat) : Int) - 1))).set i.toNat ((ix xh (IntKind.i64.wrap (((xh.length : Nat) : Int) - 1))) : Timer))))] 1 (by kernel_rfl) [] [0] (.tup [.own 1 0 r1989.2.length, iS r1989.1]) [(1, .row 24 (fl r1989.2))] (by simp only [push_cast, seval]) (by simp only [push_cast, seval]) (by kernel_rfl) (.inr ⟨by simp only [push_cast, seval], by simp only [push_cast, seval]⟩) (by simp only [push_cast, seval]) (by simp only [push_cast, seval]) ?_
    refine rs 5 [] [] (by kernel_rfl) allP_nil ?_
    refine rf [(1, iS i), (6, .own 1 0 r1989.2.length), (7, iS r1989.1)] [(0, .row 24 (fl ((cut xh (0 : Int) (IntKind.i64.wrap (((xh.length : Nat) : Int) - 1))).set i.toNat ((ix xh (IntKind.i64.wrap (((xh.length : Nat) : Int) - 1))) : Timer)))), (1, .row 24 (fl r1989.2))] 2 (by kernel_rfl) ?_
    refine wk_id ?_
    refine seq_cut (A := (List Timer)) (fun a => ([(6, .own 0 0 a.length)], [(0, .row 24 (fl a))], 1)) (fun a => (taskmillref_Dropped_j1 a) = some r) (fun K1993 hK1993 => ?_) ?_
    · refine seq_np ?_
      refine reg_f ?_
      refine rs 3 [] [] (by kernel_rfl) allP_nil ?_
      refine rf [(1, iS i), (6, .own 1 0 r1989.2.length), (34, bS (r1989.1 == i))] [(0, .row 24 (fl ((cut xh (0 : Int) (IntKind.i64.wrap (((xh.length : Nat) : Int) - 1))).set i.toNat ((ix xh (IntKind.i64.wrap (((xh.length : Nat) : Int) - 1))) : Timer)))), (1, .row 24 (fl r1989.2))] 2 (by kernel_rfl) ?_
      refine wk_id ?_
      refine cond_sx h (by kernel_rfl) (fun g1996 h => ?_) (fun g1996 h => ?_)
      · refine reg_f ?_
        refine rs 2 [] [] (by kernel_rfl) allP_nil ?_
        obtain ⟨r1995, hr1995, h⟩ := bind_sx h
        refine call_x (taskmillref_Sunk_spec r1989.2 i r1995 hr1995) (args := [.own 1 0 r1989.2.length, iS i]) (dst := (some 37)) (by kernel_rfl) [(0, .row 24 (fl ((cut xh (0 : Int) (IntKind.i64.wrap (((xh.length : Nat) : Int) - 1))).set i.toNat ((ix xh (IntKind.i64.wrap (((xh.length : Nat) : Int) - 1))) : Timer)))), (1, .row 24 (fl r1989.2))] 2 (by kernel_rfl) [] [1] (.own 2 0 r1995.length) [(2, .row 24 (fl r1995))] (by simp only [push_cast, seval]) (by simp only [push_cast, seval]) (by kernel_rfl) (.inr ⟨by simp only [push_cast, seval], by simp only [push_cast, seval]⟩) (by simp only [push_cast, seval]) (by simp only [push_cast, seval]) ?_
        refine rs 1 [] [] (by kernel_rfl) allP_nil ?_
        refine rf [(6, .own 2 0 r1995.length)] [(0, .row 24 (fl ((cut xh (0 : Int) (IntKind.i64.wrap (((xh.length : Nat) : Int) - 1))).set i.toNat ((ix xh (IntKind.i64.wrap (((xh.length : Nat) : Int) - 1))) : Timer)))), (1, .row 24 (fl r1989.2)), (2, .row 24 (fl r1995))] 3 (by kernel_rfl) ?_
        exact hK1993 (r1995) _ _ _ h (leSt_m [(0, 2)] [] (by simp only [push_cast, seval]) (by simp only [push_cast, seval]) rfl rfl rfl)
      · exact hK1993 (r1989.2) _ _ _ h (leSt_m [(0, 1)] [] (by simp only [push_cast, seval]) (by simp only [push_cast, seval]) rfl rfl rfl)
    · rintro c0q2 h
      try dsimp only at h ⊢
      unfold taskmillref_Dropped_j1 at h
      refine seq_np ?_
      refine reg_f ?_
      refine rs 2 [] [] (by kernel_rfl) allP_nil ?_
      refine rf [(4, .own 0 0 c0q2.length)] [(0, .row 24 (fl c0q2))] 1 (by kernel_rfl) ?_
      refine wk_id ?_
      obtain rfl := Option.some.inj h
      refine ret_at (.own 0 0 c0q2.length) (by kernel_rfl) ?_
      exact ret_e [(0, 0)] [] (by simp only [push_cast, seval]) (by simp only [push_cast, seval]) rfl rfl rfl

set_option maxRecDepth 100000 in
set_option maxHeartbeats 10000000 in
theorem taskmilllaw_AlarmDrops_spec (xh : (List Timer)) (i : Int) (r : Bool) (h : taskmilllaw_AlarmDrops xh i = some r) : SpecW Try.prog 4 [.sl xh.length (fl xh), iS i] [] 0 (fun x h n => x = bS r ∧ h = [] ∧ n = 0) := by
  unfold taskmilllaw_AlarmDrops at h
  refine spec_of (draw_ok _) Try.func4 rfl (by decide) rfl (by kernel_rfl) ?_
  refine seq_np ?_
  refine reg_f ?_
  refine rs 1 [] [] (by kernel_rfl) allP_nil ?_
  refine rf [(0, .sl xh.length (fl xh)), (1, iS i)] [] 0 (by kernel_rfl) ?_
  refine wk_id ?_
  refine seq_np ?_
  refine seq_np ?_
  refine reg_f ?_
  obtain ⟨r2005, hr2005, h⟩ := bind_sx h
  refine run_call 8 [] (some 9) (by kernel_rfl) ?_
  refine call_0 (taskmilllaw_alarmBegun_spec r2005 hr2005) (by simp only [push_cast, seval]) (by simp only [push_cast, seval]) ?_
  refine back_f ?_
  refine rs 1 [] [] (by kernel_rfl) allP_nil ?_
  refine rf [(0, .sl xh.length (fl xh)), (1, iS i), (10, bS (!r2005))] [] 0 (by kernel_rfl) ?_
  refine wk_id ?_
  refine cond_sx h (by kernel_rfl) (fun g2048 h => ?_) (fun g2048 h => ?_)
  · refine seq_np ?_
    refine reg_f ?_
    refine rs 1 [] [] (by kernel_rfl) allP_nil ?_
    refine rf [(4, bS false)] [] 0 (by kernel_rfl) ?_
    refine wk_id ?_
    obtain rfl := Option.some.inj h
    refine ret_at (bS false) (by kernel_rfl) ?_
    exact ret_e [] [] (by simp only [push_cast, seval]) (by simp only [push_cast, seval]) rfl rfl rfl
  · refine wk_id ?_
    refine seq_np ?_
    refine seq_np ?_
    refine reg_f ?_
    refine rs 3 [] [] (by kernel_rfl) allP_nil ?_
    refine rf [(0, .sl xh.length (fl xh)), (1, iS i), (13, bS (decide ((6000 : Int) < ((xh.length : Nat) : Int))))] [] 0 (by kernel_rfl) ?_
    refine wk_id ?_
    refine cond_sx h (by kernel_rfl) (fun g2047 h => ?_) (fun g2047 h => ?_)
    · refine seq_np ?_
      refine reg_f ?_
      refine rs 1 [] [] (by kernel_rfl) allP_nil ?_
      refine rf [(4, bS true)] [] 0 (by kernel_rfl) ?_
      refine wk_id ?_
      obtain rfl := Option.some.inj h
      refine ret_at (bS true) (by kernel_rfl) ?_
      exact ret_e [] [] (by simp only [push_cast, seval]) (by simp only [push_cast, seval]) rfl rfl rfl
    · refine wk_id ?_
      refine seq_np ?_
      refine reg_f ?_
      refine rs 1 [] [] (by kernel_rfl) allP_nil ?_
      obtain ⟨r2009, hr2009, h⟩ := bind_sx h
      refine call_x (taskmilllaw_ownTimers_spec xh r2009 hr2009) (args := [.sl xh.length (fl xh)]) (dst := (some 16)) (by kernel_rfl) [] 0 (by kernel_rfl) [] [] (.own 0 0 r2009.length) [(0, .row 24 (fl r2009))] (by simp only [push_cast, seval]) (by simp only [push_cast, seval]) (by kernel_rfl) (.inl rfl) (by simp only [push_cast, seval]) (by simp only [push_cast, seval]) ?_
      refine rs 1 [] [] (by kernel_rfl) allP_nil ?_
      obtain ⟨r2010, hr2010, h⟩ := bind_sx h
      refine call_x (alarm_Drop_spec r2009 i r2010 hr2010) (args := [.own 0 0 r2009.length, iS i]) (dst := (some 18)) (by kernel_rfl) [(0, .row 24 (fl r2009))] 1 (by kernel_rfl) [] [0] (.tup [.own 1 0 r2010.2.2.length, .agg (Enc.cells r2010.1), .agg (Enc.cells r2010.2.1)]) [(1, .row 24 (fl r2010.2.2))] (by simp only [push_cast, seval]) (by simp only [push_cast, seval]) (by kernel_rfl) (.inr ⟨by simp only [push_cast, seval], by simp only [push_cast, seval]⟩) (by simp only [push_cast, seval]) (by simp only [push_cast, seval]) ?_
      refine rs 9 [] [] (by kernel_rfl) allP_nil ?_
      refine rf [(0, .sl xh.length (fl xh)), (1, iS i), (5, .own 1 0 r2010.2.2.length), (6, .ptr 2 0), (7, .ptr 3 0)] [(0, .row 24 (fl r2009)), (1, .row 24 (fl r2010.2.2)), (2, .row 24 (Enc.cells r2010.1)), (3, .row 28 (Enc.cells r2010.2.1))] 4 (by kernel_rfl) ?_
      refine wk_id ?_
      refine seq_np ?_
      refine reg_f ?_
      refine rs 1 [] [] (by kernel_rfl) allP_nil ?_
      obtain ⟨r2012, hr2012, h⟩ := bind_sx h
      refine run_call 12 [.sl xh.length (fl xh)] (some 23) (by kernel_rfl) ?_
      refine call_0 (taskmillref_HeapFault_spec xh r2012 hr2012) (by simp only [push_cast, seval]) (by simp only [push_cast, seval]) ?_
      refine back_f ?_
      refine rs 2 [] [] (by kernel_rfl) allP_nil ?_
      refine rf [(0, .sl xh.length (fl xh)), (1, iS i), (5, .own 1 0 r2010.2.2.length), (6, .ptr 2 0), (7, .ptr 3 0), (8, .ptr 4 0)] [(0, .row 24 (fl r2009)), (1, .row 24 (fl r2010.2.2)), (2, .row 24 (Enc.cells r2010.1)), (3, .row 28 (Enc.cells r2010.2.1)), (4, .row 28 (Enc.cells r2012))] 5 (by kernel_rfl) ?_
      refine wk_id ?_
      refine seq_cut (A := (List Timer) × Timer × Fault × Fault) (fun a => ([(0, .sl xh.length (fl xh)), (1, iS i), (5, .own 0 0 a.1.length), (6, .ptr 1 0), (7, .ptr 2 0), (8, .ptr 3 0)], [(0, .row 24 (fl a.1)), (1, .row 24 (Enc.cells a.2.1)), (2, .row 28 (Enc.cells a.2.2.1)), (3, .row 28 (Enc.cells a.2.2.2))], 4)) (fun a => (taskmilllaw_AlarmDrops_j2 xh i a.1 a.2.1 a.2.2.1 a.2.2.2) = some r) (fun K2018 hK2018 => ?_) ?_
      · refine seq_cut (A := Unit) (fun _ => ([(0, .sl xh.length (fl xh)), (1, iS i), (5, .own 1 0 r2010.2.2.length), (6, .ptr 2 0), (7, .ptr 3 0), (8, .ptr 4 0), (36, bS ((r2012.Code == 0) && ((decide (i < 0)) || (decide (((xh.length : Nat) : Int) ≤ i)))))], [(0, .row 24 (fl r2009)), (1, .row 24 (fl r2010.2.2)), (2, .row 24 (Enc.cells r2010.1)), (3, .row 28 (Enc.cells r2010.2.1)), (4, .row 28 (Enc.cells r2012))], 5)) (fun _ => True) (fun K2021 hK2021 => ?_) (fun _ _ => ?_)
        · refine reg_f ?_
          refine rs 4 [] [] (by kernel_rfl) allP_nil ?_
          refine run_split 27 (r2012.Code == 0) (.inl (by kernel_rfl)) (fun g2022 => ?_) (fun g2022 => ?_)
          · refine rs 3 [] [] (by kernel_rfl) allP_nil ?_
            refine run_split 30 (decide (i < 0)) (.inr (by kernel_rfl)) (fun g2023 => ?_) (fun g2023 => ?_)
            · refine rs 6 [] [] (by kernel_rfl) allP_nil ?_
              refine rf [(0, .sl xh.length (fl xh)), (1, iS i), (5, .own 1 0 r2010.2.2.length), (6, .ptr 2 0), (7, .ptr 3 0), (8, .ptr 4 0), (36, bS true)] [(0, .row 24 (fl r2009)), (1, .row 24 (fl r2010.2.2)), (2, .row 24 (Enc.cells r2010.1)), (3, .row 28 (Enc.cells r2010.2.1)), (4, .row 28 (Enc.cells r2012))] 5 (by kernel_rfl) ?_
              exact hK2021 () _ _ _ trivial (leSt_m [(0, 0), (1, 1), (2, 2), (3, 3), (4, 4)] [] (by first | ((try simp only [g2022, g2023]) <;> simp only [push_cast, seval]; done) | ((try simp only [g2022]); (try simp only [g2023]); simp only [push_cast, seval]; done) | (exfalso; clear h; simp_all; done)) (by first | ((try simp only [g2022, g2023]) <;> simp only [push_cast, seval]; done) | ((try simp only [g2022]); (try simp only [g2023]); simp only [push_cast, seval]; done) | (exfalso; clear h; simp_all; done)) rfl rfl rfl)
            · refine rs 6 [] [] (by kernel_rfl) allP_nil ?_
              refine rf [(0, .sl xh.length (fl xh)), (1, iS i), (5, .own 1 0 r2010.2.2.length), (6, .ptr 2 0), (7, .ptr 3 0), (8, .ptr 4 0), (36, bS (decide (((xh.length : Nat) : Int) ≤ i)))] [(0, .row 24 (fl r2009)), (1, .row 24 (fl r2010.2.2)), (2, .row 24 (Enc.cells r2010.1)), (3, .row 28 (Enc.cells r2010.2.1)), (4, .row 28 (Enc.cells r2012))] 5 (by kernel_rfl) ?_
              exact hK2021 () _ _ _ trivial (leSt_m [(0, 0), (1, 1), (2, 2), (3, 3), (4, 4)] [] (by first | ((try simp only [g2022, g2023]) <;> simp only [push_cast, seval]; done) | ((try simp only [g2022]); (try simp only [g2023]); simp only [push_cast, seval]; done) | (exfalso; clear h; simp_all; done)) (by first | ((try simp only [g2022, g2023]) <;> simp only [push_cast, seval]; done) | ((try simp only [g2022]); (try simp only [g2023]); simp only [push_cast, seval]; done) | (exfalso; clear h; simp_all; done)) rfl rfl rfl)
          · refine rs 9 [] [] (by kernel_rfl) allP_nil ?_
            refine rf [(0, .sl xh.length (fl xh)), (1, iS i), (5, .own 1 0 r2010.2.2.length), (6, .ptr 2 0), (7, .ptr 3 0), (8, .ptr 4 0), (36, bS false)] [(0, .row 24 (fl r2009)), (1, .row 24 (fl r2010.2.2)), (2, .row 24 (Enc.cells r2010.1)), (3, .row 28 (Enc.cells r2010.2.1)), (4, .row 28 (Enc.cells r2012))] 5 (by kernel_rfl) ?_
            exact hK2021 () _ _ _ trivial (leSt_m [(0, 0), (1, 1), (2, 2), (3, 3), (4, 4)] [] (by (try simp only [g2022]) <;> simp only [push_cast, seval]) (by (try simp only [g2022]) <;> simp only [push_cast, seval]) rfl rfl rfl)
        · dsimp only
          refine cond_sx h (by kernel_rfl) (fun g2026 h => ?_) (fun g2026 h => ?_)
          · refine reg_f ?_
            obtain ⟨r2025, hr2025, h⟩ := bind_sx h
            refine run_call 15 [iS 6, iS 0] (some 37) (by kernel_rfl) ?_
            refine call_0 (taskmillref_F_spec 6 0 r2025 hr2025) (by simp only [push_cast, seval]) (by simp only [push_cast, seval]) ?_
            refine back_f ?_
            refine rs 1 [] [] (by kernel_rfl) allP_nil ?_
            refine rf [(0, .sl xh.length (fl xh)), (1, iS i), (5, .own 1 0 r2010.2.2.length), (6, .ptr 2 0), (7, .ptr 3 0), (8, .ptr 4 0)] [(0, .row 24 (fl r2009)), (1, .row 24 (fl r2010.2.2)), (2, .row 24 (Enc.cells r2010.1)), (3, .row 28 (Enc.cells r2010.2.1)), (4, .row 28 (Enc.cells r2025))] 5 (by kernel_rfl) ?_
            exact hK2018 (r2010.2.2, r2010.1, r2010.2.1, r2025) _ _ _ h (leSt_m [(0, 1), (1, 2), (2, 3), (3, 4)] [] (by simp only [push_cast, seval]) (by simp only [push_cast, seval]) rfl rfl rfl)
          · exact hK2018 (r2010.2.2, r2010.1, r2010.2.1, r2012) _ _ _ h (leSt_m [(0, 1), (1, 2), (2, 3), (3, 4)] [] (by simp only [push_cast, seval]) (by simp only [push_cast, seval]) rfl rfl rfl)
      · rintro ⟨c0q1, c1q1, c2q1, c3q1⟩ h
        try dsimp only at h ⊢
        unfold taskmilllaw_AlarmDrops_j2 at h
        refine seq_np ?_
        refine seq_np ?_
        refine reg_f ?_
        refine rs 3 [] [] (by kernel_rfl) allP_nil ?_
        refine rf [(0, .sl xh.length (fl xh)), (1, iS i), (5, .own 0 0 c0q1.length), (6, .ptr 1 0), (8, .ptr 3 0), (40, bS (!((c2q1.Code == c3q1.Code) && ((c2q1.At == c3q1.At) && true))))] [(0, .row 24 (fl c0q1)), (1, .row 24 (Enc.cells c1q1)), (2, .row 28 (Enc.cells c2q1)), (3, .row 28 (Enc.cells c3q1))] 4 (by kernel_rfl) ?_
        refine wk_id ?_
        refine cond_sx h (by kernel_rfl) (fun g2046 h => ?_) (fun g2046 h => ?_)
        · refine seq_np ?_
          refine reg_f ?_
          refine rs 1 [] [] (by kernel_rfl) allP_nil ?_
          refine rf [(4, bS false)] [(0, .row 24 (fl c0q1)), (1, .row 24 (Enc.cells c1q1)), (2, .row 28 (Enc.cells c2q1)), (3, .row 28 (Enc.cells c3q1))] 4 (by kernel_rfl) ?_
          refine wk_id ?_
          obtain rfl := Option.some.inj h
          refine ret_at (bS false) (by kernel_rfl) ?_
          exact ret_e [] [] (by simp only [push_cast, seval]) (by simp only [push_cast, seval]) rfl rfl rfl
        · refine wk_id ?_
          refine seq_np ?_
          refine seq_np ?_
          refine reg_f ?_
          refine rs 3 [] [] (by kernel_rfl) allP_nil ?_
          refine rf [(0, .sl xh.length (fl xh)), (1, iS i), (5, .own 0 0 c0q1.length), (6, .ptr 1 0), (43, bS (c3q1.Code != 0))] [(0, .row 24 (fl c0q1)), (1, .row 24 (Enc.cells c1q1)), (2, .row 28 (Enc.cells c2q1)), (3, .row 28 (Enc.cells c3q1))] 4 (by kernel_rfl) ?_
          refine wk_id ?_
          refine cond_sx h (by kernel_rfl) (fun g2045 h => ?_) (fun g2045 h => ?_)
          · refine seq_cut (A := Unit) (fun _ => ([(4, bS ((((c0q1.length : Nat) : Int) == 0) && ((c1q1.When == 0) && ((c1q1.Task == 0) && true))))], [(0, .row 24 (fl c0q1)), (1, .row 24 (Enc.cells c1q1)), (2, .row 28 (Enc.cells c2q1)), (3, .row 28 (Enc.cells c3q1))], 4)) (fun _ => True) (fun K2031 hK2031 => ?_) (fun _ _ => ?_)
            · refine reg_f ?_
              refine rs 4 [] [] (by kernel_rfl) allP_nil ?_
              refine run_split 47 (((c0q1.length : Nat) : Int) == 0) (.inl (by kernel_rfl)) (fun g2032 => ?_) (fun g2032 => ?_)
              · refine rs 5 [] [] (by kernel_rfl) allP_nil ?_
                refine rf [(4, bS ((c1q1.When == 0) && ((c1q1.Task == 0) && true)))] [(0, .row 24 (fl c0q1)), (1, .row 24 (Enc.cells c1q1)), (2, .row 28 (Enc.cells c2q1)), (3, .row 28 (Enc.cells c3q1))] 4 (by kernel_rfl) ?_
                exact hK2031 () _ _ _ trivial (leSt_m [(0, 0), (1, 1), (2, 2), (3, 3)] [] (by (try simp only [g2032]) <;> simp only [push_cast, seval]) (by (try simp only [g2032]) <;> simp only [push_cast, seval]) rfl rfl rfl)
              · refine rs 5 [] [] (by kernel_rfl) allP_nil ?_
                refine rf [(4, bS false)] [(0, .row 24 (fl c0q1)), (1, .row 24 (Enc.cells c1q1)), (2, .row 28 (Enc.cells c2q1)), (3, .row 28 (Enc.cells c3q1))] 4 (by kernel_rfl) ?_
                exact hK2031 () _ _ _ trivial (leSt_m [(0, 0), (1, 1), (2, 2), (3, 3)] [] (by (try simp only [g2032]) <;> simp only [push_cast, seval]) (by (try simp only [g2032]) <;> simp only [push_cast, seval]) rfl rfl rfl)
            · dsimp only
              obtain rfl := Option.some.inj h
              refine ret_at (bS ((((c0q1.length : Nat) : Int) == 0) && ((c1q1.When == 0) && ((c1q1.Task == 0) && true)))) (by kernel_rfl) ?_
              exact ret_e [] [] (by simp only [push_cast, seval]) (by simp only [push_cast, seval]) rfl rfl rfl
          · refine wk_id ?_
            refine chk_sx h (fun g2041 h => ?_)
            refine seq_cut (A := Bool) (fun a => ([(4, bS a)], [], 0)) (fun a => (taskmilllaw_AlarmDrops_j1 a) = some r) (fun K2039 hK2039 => ?_) ?_
            · refine reg_t ?_
              have k2040 : 0 ≤ i ∧ i < ((xh.length : Nat) : Int) := by first | simpa only [Bool.and_eq_true, decide_eq_true_eq, bne_iff_ne, ne_eq] using g2041 | (simp at g2041 ⊢; omega)
              refine rs 7 [none, none, none, some ⟨.iptr (fl xh) ((i).toNat * 2), [], 7, []⟩, some ⟨.agg (Enc.cells (ix xh i)), [], 8, []⟩] _ (by kernel_rfl) (allP_cons (ob_ldw xh i 2 ((i).toNat * 2) k2040 rfl (by first | rfl | omega) [iS (ix xh i).When, iS (ix xh i).Task] rfl 8 []) (allP_cons (ob_ix_l xh 2 7 i k2040) allP_nil)) ?_
              refine run_br h 58 (.inl (by kernel_rfl)) (fun g2042 h => ?_) (fun g2042 h => ?_)
              · refine rs 3 [] [] (by kernel_rfl) allP_nil ?_
                obtain ⟨r2043, hr2043, h⟩ := bind_sx h
                refine call_x (taskmillref_Dropped_spec xh i r2043 hr2043) (args := [.sl xh.length (fl xh), iS i]) (dst := (some 62)) (by kernel_rfl) [(0, .row 24 (fl c0q1)), (1, .row 24 (Enc.cells c1q1)), (2, .row 28 (Enc.cells c2q1)), (3, .row 28 (Enc.cells c3q1))] 14 (by kernel_rfl) [] [] (.own 14 0 r2043.length) [(14, .row 24 (fl r2043))] (by simp only [push_cast, seval]) (by simp only [push_cast, seval]) (by kernel_rfl) (.inl rfl) (by simp only [push_cast, seval]) (by simp only [push_cast, seval]) ?_
                obtain ⟨r2044, hr2044, h⟩ := bind_sx h
                refine call_x (taskmillref_SameTimers_spec c0q1 r2043 r2044 hr2044) (args := [.own 0 0 c0q1.length, .own 14 0 r2043.length]) (dst := (some 63)) (by kernel_rfl) [(0, .row 24 (fl c0q1)), (1, .row 24 (Enc.cells c1q1)), (2, .row 28 (Enc.cells c2q1)), (3, .row 28 (Enc.cells c3q1)), (14, .row 24 (fl r2043))] 16 (by kernel_rfl) [] [0, 14] (bS r2044) [] (by simp only [push_cast, seval]) (by simp only [push_cast, seval]) (by kernel_rfl) (.inr ⟨by simp only [push_cast, seval], by simp only [push_cast, seval]⟩) (by simp only [push_cast, seval]) (by simp only [push_cast, seval]) ?_
                refine rs 2 [] [] (by kernel_rfl) allP_nil ?_
                refine rt [(4, bS r2044)] [(0, .row 24 (fl c0q1)), (1, .row 24 (Enc.cells c1q1)), (2, .row 28 (Enc.cells c2q1)), (3, .row 28 (Enc.cells c3q1)), (14, .row 24 (fl r2043))] 19 follows (by kernel_rfl) ?_
                exact hK2039 (r2044) _ _ _ h (leSt_m [] [] (by (try simp only [g2042]) <;> simp only [push_cast, seval]) (by (try simp only [g2042]) <;> simp only [push_cast, seval]) rfl rfl rfl)
              · refine rs 7 [] [] (by kernel_rfl) allP_nil ?_
                refine rt [(4, bS false)] [(0, .row 24 (fl c0q1)), (1, .row 24 (Enc.cells c1q1)), (2, .row 28 (Enc.cells c2q1)), (3, .row 28 (Enc.cells c3q1))] 18 follows (by kernel_rfl) ?_
                exact hK2039 (false) _ _ _ h (leSt_m [] [] (by (try simp only [g2042]) <;> simp only [push_cast, seval]) (by (try simp only [g2042]) <;> simp only [push_cast, seval]) rfl rfl rfl)
            · rintro t4q1 h
              try dsimp only at h ⊢
              unfold taskmilllaw_AlarmDrops_j1 at h
              obtain rfl := Option.some.inj h
              refine ret_at (bS t4q1) (by kernel_rfl) ?_
              exact ret_e [] [] (by simp only [push_cast, seval]) (by simp only [push_cast, seval]) rfl rfl rfl

set_option maxRecDepth 100000 in
set_option maxHeartbeats 10000000 in
theorem taskmillref_Heaped_spec (l : (List Timer)) (r : (List Timer)) (h : taskmillref_Heaped l = some r) : SpecW Try.prog 20 [.sl l.length (fl l)] [] 0 (fun x h n => x = .sl r.length (fl r) ∧ h = [] ∧ n = 0) := by
  unfold taskmillref_Heaped at h
  refine spec_of (draw_ok _) Try.func20 rfl (by decide) rfl (by kernel_rfl) ?_
  refine seq_np ?_
  refine reg_f ?_
  refine rs 1 [] [] (by kernel_rfl) allP_nil ?_
  refine rf [(0, .sl l.length (fl l))] [] 0 (by kernel_rfl) ?_
  refine wk_id ?_
  refine seq_np ?_
  refine seq_np ?_
  refine reg_f ?_
  refine rs 4 [] [] (by kernel_rfl) allP_nil ?_
  refine rf [(0, .sl l.length (fl l)), (3, iS (IntKind.i64.wrap (((l.length : Nat) : Int) - 1)))] [] 0 (by kernel_rfl) ?_
  refine wk_id ?_
  refine block_np ?_
  refine loop_sx (S := (List Timer) × Int) (fun a => ([(0, .sl a.1.length (fl a.1)), (3, iS a.2)], [], 0)) h (leSt_m [] [] (by simp only [push_cast, seval]) (by simp only [push_cast, seval]) rfl rfl rfl) ?_
  rintro ⟨l19, i7⟩ o2 R2 h hr2 hn2 hx2 ht2
  try dsimp only at h hn2 ⊢
  unfold taskmillref_Heaped_l1 at h
  try dsimp only at h
  refine seq_np ?_
  refine seq_np ?_
  refine reg_f ?_
  refine rs 2 [] [] (by kernel_rfl) allP_nil ?_
  refine rf [(0, .sl l19.length (fl l19)), (3, iS i7), (8, bS (decide ((0 : Int) ≤ i7)))] [] 0 (by kernel_rfl) ?_
  refine wk_id ?_
  refine cond_sx h (by kernel_rfl) (fun g2149 h => ?_) (fun g2149 h => ?_)
  · refine wk_id ?_
    refine seq_np ?_
    refine block_cut (A := (List Timer)) (fun a => ([(0, .sl a.length (fl a)), (3, iS i7)], [], 0)) (fun a => (taskmillref_Heaped_j1 i7 a) = some o2) (fun K2145 hK2145 => ?_) ?_
    · refine seq_np ?_
      refine reg_f ?_
      refine rs 6 [] [] (by kernel_rfl) allP_nil ?_
      refine rf [(0, .sl l19.length (fl l19)), (3, iS i7), (16, bS (decide ((IntKind.i64.wrap ((IntKind.i64.wrap ((4 : Int) * i7)) + 1)) < ((l19.length : Nat) : Int))))] [] 0 (by kernel_rfl) ?_
      refine wk_id ?_
      refine cond_sx h (by kernel_rfl) (fun g2148 h => ?_) (fun g2148 h => ?_)
      · refine reg_f ?_
        refine rs 2 [] [] (by kernel_rfl) allP_nil ?_
        obtain ⟨r2147, hr2147, h⟩ := bind_sx h
        refine call_x (taskmillref_Sunk_spec l19 i7 r2147 hr2147) (args := [.sl l19.length (fl l19), iS i7]) (dst := (some 19)) (by kernel_rfl) [] 0 (by kernel_rfl) [] [] (.own 0 0 r2147.length) [(0, .row 24 (fl r2147))] (by simp only [push_cast, seval]) (by simp only [push_cast, seval]) (by kernel_rfl) (.inl rfl) (by simp only [push_cast, seval]) (by simp only [push_cast, seval]) ?_
        refine rs 1 [] [] (by kernel_rfl) allP_nil ?_
        refine rf [(0, .own 0 0 r2147.length), (3, iS i7)] [(0, .row 24 (fl r2147))] 1 (by kernel_rfl) ?_
        exact hK2145 (r2147) _ _ _ h (leSt_m [] [0] (by simp only [leS_frz, leS_cut, push_cast, seval]) (by simp only [leS_frz, leS_cut, push_cast, seval]) rfl rfl rfl)
      · exact hK2145 (l19) _ _ _ h (leSt_m [] [] (by simp only [push_cast, seval]) (by simp only [push_cast, seval]) rfl rfl rfl)
    · rintro l21 h
      try dsimp only at h ⊢
      unfold taskmillref_Heaped_j1 at h
      refine wk_id ?_
      refine reg_f ?_
      refine rs 3 [] [] (by kernel_rfl) allP_nil ?_
      refine rf [(0, .sl l21.length (fl l21)), (3, iS (IntKind.i64.wrap (i7 - 1)))] [] 0 (by kernel_rfl) ?_
      exact hn2 (l21, (IntKind.i64.wrap (i7 - 1))) _ _ _ (Option.some.inj h).symm (leSt_m [] [] (by simp only [push_cast, seval]) (by simp only [push_cast, seval]) rfl rfl rfl)
  · change R2 (.exit 0) _ _ _
    refine ex_cast hx2 (id := 0) ?_
    obtain ⟨r0, h, e0⟩ := map_sx h
    have e1 := hr2 r0 e0.symm
    subst r0
    refine wk_id ?_
    refine wk_id ?_
    refine seq_np ?_
    refine reg_f ?_
    refine rs 2 [] [] (by kernel_rfl) allP_nil ?_
    refine rf [(2, .sl l19.length (fl l19))] [] 0 (by kernel_rfl) ?_
    refine wk_id ?_
    obtain rfl := Option.some.inj h
    refine ret_at (.sl l19.length (fl l19)) (by kernel_rfl) ?_
    exact ret_e [] [] (by simp only [push_cast, seval]) (by simp only [push_cast, seval]) rfl rfl rfl

set_option maxRecDepth 100000 in
set_option maxHeartbeats 10000000 in
theorem alarm_Due_spec (xh : (List Timer)) (now : Int) (r : Fault × (List Timer) × (List Timer)) (h : alarm_Due xh now = some r) : SpecW Try.prog 21 [.sl xh.length (fl xh), iS now] [] 0 (fun x h n => x = .tup [.own 0 0 r.2.1.length, .own 1 0 r.2.2.length, .agg (Enc.cells r.1)] ∧ h = [(0, .row 24 (fl r.2.1)), (1, .row 24 (fl r.2.2))] ∧ n = 2) := by
  unfold alarm_Due at h
  refine spec_of (draw_ok _) Try.func21 rfl (by decide) rfl (by kernel_rfl) ?_
  refine seq_np ?_
  refine reg_f ?_
  refine rs 3 [] [] (by kernel_rfl) allP_nil ?_
  refine rf [(0, .sl xh.length (fl xh)), (1, iS now), (6, .ptr 0 0)] [(0, .row 28 [iS 0, iS 0])] 1 (by kernel_rfl) ?_
  refine wk_id ?_
  refine seq_np ?_
  refine seq_np ?_
  refine reg_f ?_
  refine rs 1 [] [] (by kernel_rfl) allP_nil ?_
  obtain ⟨r2187, hr2187, h⟩ := bind_sx h
  refine run_call 10 [.sl xh.length (fl xh)] (some 13) (by kernel_rfl) ?_
  refine call_0 (alarm_Check_spec xh r2187 hr2187) (by simp only [push_cast, seval]) (by simp only [push_cast, seval]) ?_
  refine back_f ?_
  refine rs 2 [] [] (by kernel_rfl) allP_nil ?_
  refine rf [(0, .sl xh.length (fl xh)), (1, iS now), (6, .ptr 0 0), (7, .ptr 1 0)] [(0, .row 28 [iS 0, iS 0]), (1, .row 28 (Enc.cells r2187))] 2 (by kernel_rfl) ?_
  refine wk_id ?_
  refine seq_np ?_
  refine reg_f ?_
  refine rs 3 [] [] (by kernel_rfl) allP_nil ?_
  refine rf [(0, .sl xh.length (fl xh)), (1, iS now), (6, .ptr 0 0), (7, .ptr 1 0), (16, bS (r2187.Code != 0))] [(0, .row 28 [iS 0, iS 0]), (1, .row 28 (Enc.cells r2187))] 2 (by kernel_rfl) ?_
  refine wk_id ?_
  refine cond_sx h (by kernel_rfl) (fun g2267 h => ?_) (fun g2267 h => ?_)
  · refine seq_np ?_
    refine reg_t ?_
    refine rs 4 [] [] (by kernel_rfl) allP_nil ?_
    refine rt [(4, .v (.slice none 0 0)), (5, .v (.slice none 0 0)), (6, .ptr 0 0)] [(0, .row 28 (Enc.cells r2187)), (1, .row 28 (Enc.cells r2187))] 6 follows (by kernel_rfl) ?_
    refine wk_id ?_
    obtain rfl := Option.some.inj h
    refine ret_at (.tup [.v (.slice none 0 0), .v (.slice none 0 0), .agg (Enc.cells r2187)]) (by kernel_rfl) ?_
    exact ret_e [] [] (by simp only [push_cast, seval]) (by simp only [push_cast, seval]) rfl rfl rfl
  · refine wk_id ?_
    refine seq_np ?_
    refine reg_f ?_
    refine rs 1 [] [] (by kernel_rfl) allP_nil ?_
    obtain ⟨r2189, hr2189, h⟩ := bind_sx h
    refine call_x (slices_Clone_Timer_spec xh r2189 hr2189) (args := [.sl xh.length (fl xh)]) (dst := (some 19)) (by kernel_rfl) [(0, .row 28 [iS 0, iS 0]), (1, .row 28 (Enc.cells r2187))] 2 (by kernel_rfl) [] [] (.own 2 0 r2189.length) [(2, .row 24 (fl r2189))] (by simp only [push_cast, seval]) (by simp only [push_cast, seval]) (by kernel_rfl) (.inl rfl) (by simp only [push_cast, seval]) (by simp only [push_cast, seval]) ?_
    refine rs 1 [] [] (by kernel_rfl) allP_nil ?_
    refine rf [(0, .own 2 0 r2189.length), (1, iS now), (6, .ptr 0 0)] [(0, .row 28 [iS 0, iS 0]), (1, .row 28 (Enc.cells r2187)), (2, .row 24 (fl r2189))] 3 (by kernel_rfl) ?_
    refine wk_id ?_
    refine seq_np ?_
    refine reg_f ?_
    refine rs 1 [] [] (by kernel_rfl) allP_nil ?_
    refine rf [(0, .own 2 0 r2189.length), (1, iS now), (6, .ptr 0 0), (8, .v (.slice none 0 0))] [(0, .row 28 [iS 0, iS 0]), (1, .row 28 (Enc.cells r2187)), (2, .row 24 (fl r2189))] 3 (by kernel_rfl) ?_
    refine wk_id ?_
    refine seq_np ?_
    refine block_np ?_
    refine loop_sx (S := (List Timer) × (List Timer)) (fun a => ([(0, .own 0 0 a.1.length), (1, iS now), (6, .ptr 1 0), (8, .own 2 0 a.2.length)], [(0, .row 24 (fl a.1)), (1, .row 28 [iS 0, iS 0]), (2, .row 24 (fl a.2))], 3)) h (leSt_m [(0, 2), (1, 0)] [] (by simp only [push_cast, seval]) (by simp only [push_cast, seval]) rfl rfl rfl) ?_
    rintro ⟨c0q12, c2q7⟩ o2 R2 h hr2 hn2 hx2 ht2
    try dsimp only at h hn2 ⊢
    unfold alarm_Due_l1 at h
    try dsimp only at h
    refine seq_np ?_
    refine chk_sx h (fun g2259 h => ?_)
    refine seq_cut (A := Unit) (fun _ => ([(0, .own 0 0 c0q12.length), (1, iS now), (6, .ptr 1 0), (8, .own 2 0 c2q7.length), (30, bS ((decide ((0 : Int) < ((c0q12.length : Nat) : Int))) && (decide ((ix c0q12 (0 : Int)).When ≤ now))))], [(0, .row 24 (fl c0q12)), (1, .row 28 [iS 0, iS 0]), (2, .row 24 (fl c2q7))], 3)) (fun _ => True) (fun K2256 hK2256 => ?_) (fun _ _ => ?_)
    · refine reg_f ?_
      refine rs 4 [] [] (by kernel_rfl) allP_nil ?_
      refine run_split 23 (decide ((0 : Int) < ((c0q12.length : Nat) : Int))) (.inl (by kernel_rfl)) (fun g2257 => ?_) (fun g2257 => ?_)
      · have k2258 : 0 ≤ (0 : Int) ∧ (0 : Int) < ((c0q12.length : Nat) : Int) := by have e := or_use g2259 (by first | ((try simp only [g2257]) <;> rfl) | ((try simp only [g2257]); rfl) | (exfalso; clear h; simp_all; done)); first | simpa only [Bool.and_eq_true, decide_eq_true_eq, bne_iff_ne, ne_eq] using e | (simp at e ⊢; omega)
        refine rs 7 [none, some ⟨.ptr 0 (0 + ((0 : Int)).toNat * 2), [], 3, [0]⟩, none, some ⟨iS (ix c0q12 (0 : Int)).When, [], 3, [0]⟩] _ (by kernel_rfl) (allP_cons (ob_ld c0q12 (0 : Int) 2 0 ((0 + ((0 : Int)).toNat * 2) + 0) k2258 rfl (by decide) (by first | rfl | omega) (dflS Try.prog 3) (iS (ix c0q12 (0 : Int)).When) rfl 3 [0]) (allP_cons (ob_ix_o 0 c0q12.length 0 2 3 0 k2258) allP_nil)) ?_
        refine rf [(0, .own 0 0 c0q12.length), (1, iS now), (6, .ptr 1 0), (8, .own 2 0 c2q7.length), (30, bS (decide ((ix c0q12 (0 : Int)).When ≤ now)))] [(0, .row 24 (fl c0q12)), (1, .row 28 [iS 0, iS 0]), (2, .row 24 (fl c2q7))] 3 (by kernel_rfl) ?_
        exact hK2256 () _ _ _ trivial (leSt_m [(0, 0), (1, 1), (2, 2)] [] (by (try simp only [g2257]) <;> simp only [push_cast, seval]) (by (try simp only [g2257]) <;> simp only [push_cast, seval]) rfl rfl rfl)
      · refine rs 7 [] [] (by kernel_rfl) allP_nil ?_
        refine rf [(0, .own 0 0 c0q12.length), (1, iS now), (6, .ptr 1 0), (8, .own 2 0 c2q7.length), (30, bS false)] [(0, .row 24 (fl c0q12)), (1, .row 28 [iS 0, iS 0]), (2, .row 24 (fl c2q7))] 3 (by kernel_rfl) ?_
        exact hK2256 () _ _ _ trivial (leSt_m [(0, 0), (1, 1), (2, 2)] [] (by (try simp only [g2257]) <;> simp only [push_cast, seval]) (by (try simp only [g2257]) <;> simp only [push_cast, seval]) rfl rfl rfl)
    · dsimp only
      refine cond_sx h (by kernel_rfl) (fun g2266 h => ?_) (fun g2266 h => ?_)
      · refine wk_id ?_
        refine block_np ?_
        refine seq_np ?_
        refine reg_f ?_
        refine rs 1 [] [] (by kernel_rfl) allP_nil ?_
        obtain ⟨r2261, hr2261, h⟩ := bind_sx h
        refine call_x (alarm_Drop_spec c0q12 0 r2261 hr2261) (args := [.own 0 0 c0q12.length, iS 0]) (dst := (some 33)) (by kernel_rfl) [(0, .row 24 (fl c0q12)), (1, .row 28 [iS 0, iS 0]), (2, .row 24 (fl c2q7))] 3 (by kernel_rfl) [] [0] (.tup [.own 3 0 r2261.2.2.length, .agg (Enc.cells r2261.1), .agg (Enc.cells r2261.2.1)]) [(3, .row 24 (fl r2261.2.2))] (by simp only [push_cast, seval]) (by simp only [push_cast, seval]) (by kernel_rfl) (.inr ⟨by simp only [push_cast, seval], by simp only [push_cast, seval]⟩) (by simp only [push_cast, seval]) (by simp only [push_cast, seval]) ?_
        refine rs 9 [] [] (by kernel_rfl) allP_nil ?_
        refine rf [(1, iS now), (6, .ptr 1 0), (8, .own 2 0 c2q7.length), (9, .own 3 0 r2261.2.2.length), (10, .ptr 4 0)] [(0, .row 24 (fl c0q12)), (1, .row 28 [iS 0, iS 0]), (2, .row 24 (fl c2q7)), (3, .row 24 (fl r2261.2.2)), (4, .row 24 (Enc.cells r2261.1)), (5, .row 28 (Enc.cells r2261.2.1))] 6 (by kernel_rfl) ?_
        refine wk_id ?_
        refine chk_sx h (fun g2265 h => ?_)
        refine reg_f ?_
        have k2264 : (c2q7 ++ ([r2261.1] : List Timer)).length * 16 ≤ 140737488355328 := by first | simpa only [Bool.and_eq_true, decide_eq_true_eq, bne_iff_ne, ne_eq] using g2265 | (simp at g2265 ⊢; omega)
        refine rs 7 [none, none, none, none, some ⟨.own 7 0 (c2q7 ++ ([r2261.1] : List Timer)).length, [(7, .row 24 (fl (c2q7 ++ ([r2261.1] : List Timer)))), (2, .dead)], 8, [2, 6]⟩] _ (by kernel_rfl) (allP_cons (ob_app (P := Try.prog) c2q7 ([r2261.1] : List Timer) 2 16 rfl (appCells (fl ([r2261.1] : List Timer)) 0 (([r2261.1] : List Timer).length * 2)) ([r2261.1] : List Timer).length (app_own ([r2261.1] : List Timer) 2 rfl) rfl (0 + ([r2261.1] : List Timer).length * 2 ≤ (fl ([r2261.1] : List Timer)).length) (app_own_le ([r2261.1] : List Timer) 2 rfl) 24 (by kernel_rfl) (by decide) k2264 2 7 [6]) allP_nil) ?_
        refine rf [(0, .own 3 0 r2261.2.2.length), (1, iS now), (6, .ptr 1 0), (8, .own 7 0 (c2q7 ++ ([r2261.1] : List Timer)).length)] [(0, .row 24 (fl c0q12)), (1, .row 28 [iS 0, iS 0]), (2, .dead), (3, .row 24 (fl r2261.2.2)), (4, .row 24 (Enc.cells r2261.1)), (5, .row 28 (Enc.cells r2261.2.1)), (6, .row 24 (fl ([r2261.1] : List Timer))), (7, .row 24 (fl (c2q7 ++ ([r2261.1] : List Timer))))] 8 (by kernel_rfl) ?_
        refine wk_id ?_
        exact hn2 (r2261.2.2, (c2q7 ++ ([r2261.1] : List Timer))) _ _ _ (Option.some.inj h).symm (leSt_m [(0, 3), (1, 1), (2, 7)] [] (by simp only [push_cast, seval]) (by simp only [push_cast, seval]) rfl rfl rfl)
      · change R2 (.exit 0) _ _ _
        refine ex_cast hx2 (id := 0) ?_
        obtain ⟨r0, h, e0⟩ := map_sx h
        have e1 := hr2 r0 e0.symm
        subst r0
        refine wk_id ?_
        refine wk_id ?_
        refine seq_np ?_
        refine reg_f ?_
        refine rs 6 [] [] (by kernel_rfl) allP_nil ?_
        refine rf [(4, .own 0 0 c0q12.length), (5, .own 2 0 c2q7.length), (6, .ptr 1 0)] [(0, .row 24 (fl c0q12)), (1, .row 28 [iS 0, iS 0]), (2, .row 24 (fl c2q7))] 3 (by kernel_rfl) ?_
        refine wk_id ?_
        obtain rfl := Option.some.inj h
        refine ret_at (.tup [.own 0 0 c0q12.length, .own 2 0 c2q7.length, .agg [iS 0, iS 0]]) (by kernel_rfl) ?_
        exact ret_e [(0, 0), (1, 2)] [] (by simp only [push_cast, seval]) (by simp only [push_cast, seval]) rfl rfl rfl

set_option maxRecDepth 100000 in
set_option maxHeartbeats 10000000 in
theorem taskmilllaw_AlarmDue_spec (xh : (List Timer)) (now : Int) (r : Bool) (h : taskmilllaw_AlarmDue xh now = some r) : SpecW Try.prog 5 [.sl xh.length (fl xh), iS now] [] 0 (fun x h n => x = bS r ∧ h = [] ∧ n = 0) := by
  unfold taskmilllaw_AlarmDue at h
  refine spec_of (draw_ok _) Try.func5 rfl (by decide) rfl (by kernel_rfl) ?_
  refine seq_np ?_
  refine reg_f ?_
  refine rs 1 [] [] (by kernel_rfl) allP_nil ?_
  refine rf [(0, .sl xh.length (fl xh)), (1, iS now)] [] 0 (by kernel_rfl) ?_
  refine wk_id ?_
  refine seq_np ?_
  refine seq_np ?_
  refine reg_f ?_
  obtain ⟨r2316, hr2316, h⟩ := bind_sx h
  refine run_call 8 [] (some 14) (by kernel_rfl) ?_
  refine call_0 (taskmilllaw_alarmBegun_spec r2316 hr2316) (by simp only [push_cast, seval]) (by simp only [push_cast, seval]) ?_
  refine back_f ?_
  refine rs 1 [] [] (by kernel_rfl) allP_nil ?_
  refine rf [(0, .sl xh.length (fl xh)), (1, iS now), (15, bS (!r2316))] [] 0 (by kernel_rfl) ?_
  refine wk_id ?_
  refine cond_sx h (by kernel_rfl) (fun g2571 h => ?_) (fun g2571 h => ?_)
  · refine seq_np ?_
    refine reg_f ?_
    refine rs 1 [] [] (by kernel_rfl) allP_nil ?_
    refine rf [(4, bS false)] [] 0 (by kernel_rfl) ?_
    refine wk_id ?_
    obtain rfl := Option.some.inj h
    refine ret_at (bS false) (by kernel_rfl) ?_
    exact ret_e [] [] (by simp only [push_cast, seval]) (by simp only [push_cast, seval]) rfl rfl rfl
  · refine wk_id ?_
    refine seq_np ?_
    refine seq_np ?_
    refine reg_f ?_
    refine rs 3 [] [] (by kernel_rfl) allP_nil ?_
    refine rf [(0, .sl xh.length (fl xh)), (1, iS now), (18, bS (decide ((6000 : Int) < ((xh.length : Nat) : Int))))] [] 0 (by kernel_rfl) ?_
    refine wk_id ?_
    refine cond_sx h (by kernel_rfl) (fun g2570 h => ?_) (fun g2570 h => ?_)
    · refine seq_np ?_
      refine reg_f ?_
      refine rs 1 [] [] (by kernel_rfl) allP_nil ?_
      refine rf [(4, bS true)] [] 0 (by kernel_rfl) ?_
      refine wk_id ?_
      obtain rfl := Option.some.inj h
      refine ret_at (bS true) (by kernel_rfl) ?_
      exact ret_e [] [] (by simp only [push_cast, seval]) (by simp only [push_cast, seval]) rfl rfl rfl
    · refine wk_id ?_
      refine seq_np ?_
      refine reg_f ?_
      refine rs 1 [] [] (by kernel_rfl) allP_nil ?_
      obtain ⟨r2320, hr2320, h⟩ := bind_sx h
      refine call_x (taskmilllaw_ownTimers_spec xh r2320 hr2320) (args := [.sl xh.length (fl xh)]) (dst := (some 21)) (by kernel_rfl) [] 0 (by kernel_rfl) [] [] (.own 0 0 r2320.length) [(0, .row 24 (fl r2320))] (by simp only [push_cast, seval]) (by simp only [push_cast, seval]) (by kernel_rfl) (.inl rfl) (by simp only [push_cast, seval]) (by simp only [push_cast, seval]) ?_
      obtain ⟨r2321, hr2321, h⟩ := bind_sx h
      refine call_x (alarm_Made_spec r2320 r2321 hr2321) (args := [.own 0 0 r2320.length]) (dst := (some 22)) (by kernel_rfl) [(0, .row 24 (fl r2320))] 1 (by kernel_rfl) [] [0] (.tup [.own 1 0 r2321.2.length, .agg (Enc.cells r2321.1)]) [(1, .row 24 (fl r2321.2))] (by simp only [push_cast, seval]) (by simp only [push_cast, seval]) (by kernel_rfl) (.inr ⟨by simp only [push_cast, seval], by simp only [push_cast, seval]⟩) (by simp only [push_cast, seval]) (by simp only [push_cast, seval]) ?_
      refine rs 6 [] [] (by kernel_rfl) allP_nil ?_
      refine rf [(0, .sl xh.length (fl xh)), (1, iS now), (5, .own 1 0 r2321.2.length), (6, .ptr 2 0)] [(0, .row 24 (fl r2320)), (1, .row 24 (fl r2321.2)), (2, .row 28 (Enc.cells r2321.1))] 3 (by kernel_rfl) ?_
      refine wk_id ?_
      refine seq_np ?_
      refine reg_f ?_
      refine rs 3 [] [] (by kernel_rfl) allP_nil ?_
      refine rf [(0, .sl xh.length (fl xh)), (1, iS now), (5, .own 1 0 r2321.2.length), (6, .ptr 2 0), (7, .ptr 3 0)] [(0, .row 24 (fl r2320)), (1, .row 24 (fl r2321.2)), (2, .row 28 (Enc.cells r2321.1)), (3, .row 28 [iS 0, iS 0])] 4 (by kernel_rfl) ?_
      refine wk_id ?_
      refine seq_cut (A := (List Timer) × Fault × Fault) (fun a => ([(0, .sl xh.length (fl xh)), (1, iS now), (5, .own 0 0 a.1.length), (6, .ptr 1 0), (7, .ptr 2 0)], [(0, .row 24 (fl a.1)), (1, .row 28 (Enc.cells a.2.1)), (2, .row 28 (Enc.cells a.2.2))], 3)) (fun a => (taskmilllaw_AlarmDue_j3 xh now a.1 a.2.1 a.2.2) = some r) (fun K2325 hK2325 => ?_) ?_
      · refine seq_np ?_
        refine reg_f ?_
        refine rs 3 [] [] (by kernel_rfl) allP_nil ?_
        refine rf [(0, .sl xh.length (fl xh)), (1, iS now), (5, .own 1 0 r2321.2.length), (6, .ptr 2 0), (7, .ptr 3 0), (28, bS (decide ((5000 : Int) < ((xh.length : Nat) : Int))))] [(0, .row 24 (fl r2320)), (1, .row 24 (fl r2321.2)), (2, .row 28 (Enc.cells r2321.1)), (3, .row 28 [iS 0, iS 0])] 4 (by kernel_rfl) ?_
        refine wk_id ?_
        refine cond_sx h (by kernel_rfl) (fun g2328 h => ?_) (fun g2328 h => ?_)
        · refine reg_f ?_
          obtain ⟨r2327, hr2327, h⟩ := bind_sx h
          refine run_call 15 [iS 2, iS 0] (some 29) (by kernel_rfl) ?_
          refine call_0 (taskmillref_F_spec 2 0 r2327 hr2327) (by simp only [push_cast, seval]) (by simp only [push_cast, seval]) ?_
          refine back_f ?_
          refine rs 1 [] [] (by kernel_rfl) allP_nil ?_
          refine rf [(0, .sl xh.length (fl xh)), (1, iS now), (5, .own 1 0 r2321.2.length), (6, .ptr 2 0), (7, .ptr 3 0)] [(0, .row 24 (fl r2320)), (1, .row 24 (fl r2321.2)), (2, .row 28 (Enc.cells r2321.1)), (3, .row 28 (Enc.cells r2327))] 4 (by kernel_rfl) ?_
          exact hK2325 (r2321.2, r2321.1, r2327) _ _ _ h (leSt_m [(0, 1), (1, 2), (2, 3)] [] (by simp only [push_cast, seval]) (by simp only [push_cast, seval]) rfl rfl rfl)
        · exact hK2325 (r2321.2, r2321.1, (Fault.mk 0 0)) _ _ _ h (leSt_m [(0, 1), (1, 2), (2, 3)] [] (by simp only [push_cast, seval]) (by simp only [push_cast, seval]) rfl rfl rfl)
      · rintro ⟨c0q4, c1q4, c2q6⟩ h
        try dsimp only at h ⊢
        unfold taskmilllaw_AlarmDue_j3 at h
        refine seq_np ?_
        refine seq_np ?_
        refine reg_f ?_
        refine rs 1 [] [] (by kernel_rfl) allP_nil ?_
        refine rf [(0, .sl xh.length (fl xh)), (1, iS now), (5, .own 0 0 c0q4.length), (6, .ptr 1 0), (7, .ptr 2 0), (8, iS 0)] [(0, .row 24 (fl c0q4)), (1, .row 28 (Enc.cells c1q4)), (2, .row 28 (Enc.cells c2q6))] 3 (by kernel_rfl) ?_
        refine wk_id ?_
        refine block_np ?_
        refine loop_sx (S := Int × Fault) (fun a => ([(0, .sl xh.length (fl xh)), (1, iS now), (5, .own 0 0 c0q4.length), (6, .ptr 1 0), (7, .ptr 2 0), (8, iS a.1)], [(0, .row 24 (fl c0q4)), (1, .row 28 (Enc.cells c1q4)), (2, .row 28 (Enc.cells a.2))], 3)) h (leSt_m [(0, 0), (1, 1), (2, 2)] [] (by simp only [push_cast, seval]) (by simp only [push_cast, seval]) rfl rfl rfl) ?_
        rintro ⟨i7, c2q12⟩ o3 R3 h hr3 hn3 hx3 ht3
        try dsimp only at h hn3 ⊢
        unfold taskmilllaw_AlarmDue_l2 at h
        try dsimp only at h
        refine seq_np ?_
        refine seq_cut (A := Unit) (fun _ => ([(0, .sl xh.length (fl xh)), (1, iS now), (5, .own 0 0 c0q4.length), (6, .ptr 1 0), (7, .ptr 2 0), (8, iS i7), (38, bS ((decide (i7 < ((xh.length : Nat) : Int))) && (c2q12.Code == 0)))], [(0, .row 24 (fl c0q4)), (1, .row 28 (Enc.cells c1q4)), (2, .row 28 (Enc.cells c2q12))], 3)) (fun _ => True) (fun K2375 hK2375 => ?_) (fun _ _ => ?_)
        · refine reg_f ?_
          refine rs 5 [] [] (by kernel_rfl) allP_nil ?_
          refine run_split 34 (decide (i7 < ((xh.length : Nat) : Int))) (.inl (by kernel_rfl)) (fun g2376 => ?_) (fun g2376 => ?_)
          · refine rs 4 [] [] (by kernel_rfl) allP_nil ?_
            refine rf [(0, .sl xh.length (fl xh)), (1, iS now), (5, .own 0 0 c0q4.length), (6, .ptr 1 0), (7, .ptr 2 0), (8, iS i7), (38, bS (c2q12.Code == 0))] [(0, .row 24 (fl c0q4)), (1, .row 28 (Enc.cells c1q4)), (2, .row 28 (Enc.cells c2q12))] 3 (by kernel_rfl) ?_
            exact hK2375 () _ _ _ trivial (leSt_m [(0, 0), (1, 1), (2, 2)] [] (by (try simp only [g2376]) <;> simp only [push_cast, seval]) (by (try simp only [g2376]) <;> simp only [push_cast, seval]) rfl rfl rfl)
          · refine rs 4 [] [] (by kernel_rfl) allP_nil ?_
            refine rf [(0, .sl xh.length (fl xh)), (1, iS now), (5, .own 0 0 c0q4.length), (6, .ptr 1 0), (7, .ptr 2 0), (8, iS i7), (38, bS false)] [(0, .row 24 (fl c0q4)), (1, .row 28 (Enc.cells c1q4)), (2, .row 28 (Enc.cells c2q12))] 3 (by kernel_rfl) ?_
            exact hK2375 () _ _ _ trivial (leSt_m [(0, 0), (1, 1), (2, 2)] [] (by (try simp only [g2376]) <;> simp only [push_cast, seval]) (by (try simp only [g2376]) <;> simp only [push_cast, seval]) rfl rfl rfl)
        · dsimp only
          refine cond_sx h (by kernel_rfl) (fun g2569 h => ?_) (fun g2569 h => ?_)
          · refine wk_id ?_
            refine seq_np ?_
            refine block_np ?_
            refine chk_sx h (fun g2387 h => ?_)
            refine reg_f ?_
            have k2386 : 0 ≤ i7 ∧ i7 < ((xh.length : Nat) : Int) := by first | simpa only [Bool.and_eq_true, decide_eq_true_eq, bne_iff_ne, ne_eq] using g2387 | (simp at g2387 ⊢; omega)
            refine rs 5 [none, none, some ⟨.iptr (fl xh) ((i7).toNat * 2), [], 3, []⟩, some ⟨.agg (Enc.cells (ix xh i7)), [], 3, []⟩] _ (by kernel_rfl) (allP_cons (ob_ldw xh i7 2 ((i7).toNat * 2) k2386 rfl (by first | rfl | omega) [iS (ix xh i7).When, iS (ix xh i7).Task] rfl 3 []) (allP_cons (ob_ix_l xh 2 3 i7 k2386) allP_nil)) ?_
            obtain ⟨r2388, hr2388, h⟩ := bind_sx h
            refine run_call 14 [.agg (Enc.cells (ix xh i7)), iS i7] (some 46) (by kernel_rfl) ?_
            refine call_0 (taskmillref_TimerFault_spec (ix xh i7) i7 r2388 hr2388) (by simp only [push_cast, seval]) (by simp only [push_cast, seval]) ?_
            refine back_f ?_
            refine rs 1 [] [] (by kernel_rfl) allP_nil ?_
            refine rf [(0, .sl xh.length (fl xh)), (1, iS now), (5, .own 0 0 c0q4.length), (6, .ptr 1 0), (7, .ptr 2 0), (8, iS i7)] [(0, .row 24 (fl c0q4)), (1, .row 28 (Enc.cells c1q4)), (2, .row 28 (Enc.cells r2388))] 3 (by kernel_rfl) ?_
            refine wk_id ?_
            refine wk_id ?_
            refine reg_f ?_
            refine rs 3 [] [] (by kernel_rfl) allP_nil ?_
            refine rf [(0, .sl xh.length (fl xh)), (1, iS now), (5, .own 0 0 c0q4.length), (6, .ptr 1 0), (7, .ptr 2 0), (8, iS (IntKind.i64.wrap (i7 + 1)))] [(0, .row 24 (fl c0q4)), (1, .row 28 (Enc.cells c1q4)), (2, .row 28 (Enc.cells r2388))] 3 (by kernel_rfl) ?_
            exact hn3 ((IntKind.i64.wrap (i7 + 1)), r2388) _ _ _ (Option.some.inj h).symm (leSt_m [(0, 0), (1, 1), (2, 2)] [] (by simp only [push_cast, seval]) (by simp only [push_cast, seval]) rfl rfl rfl)
          · change R3 (.exit 0) _ _ _
            refine ex_cast hx3 (id := 0) ?_
            obtain ⟨r0, h, e0⟩ := map_sx h
            have e1 := hr3 r0 e0.symm
            subst r0
            refine wk_id ?_
            refine wk_id ?_
            refine seq_np ?_
            refine seq_cut (A := Bool) (fun a => ([(0, .sl xh.length (fl xh)), (1, iS now), (7, .ptr 0 0), (71, bS a)], [(0, .row 28 (Enc.cells c2q12))], 1)) (fun a => (taskmilllaw_AlarmDue_j2 xh now c2q12 a) = some r) (fun K2411 hK2411 => ?_) ?_
            · refine reg_f ?_
              refine rs 4 [] [] (by kernel_rfl) allP_nil ?_
              refine run_br h 50 (.inl (by kernel_rfl)) (fun g2412 h => ?_) (fun g2412 h => ?_)
              · refine rs 21 [] [] (by kernel_rfl) allP_nil ?_
                refine rf [(0, .sl xh.length (fl xh)), (1, iS now), (7, .ptr 2 0), (71, bS true)] [(0, .row 24 (fl c0q4)), (1, .row 28 (Enc.cells c1q4)), (2, .row 28 (Enc.cells c2q12))] 3 (by kernel_rfl) ?_
                exact hK2411 (true) _ _ _ h (leSt_m [(0, 2)] [] (by (try simp only [g2412]) <;> simp only [push_cast, seval]) (by (try simp only [g2412]) <;> simp only [push_cast, seval]) rfl rfl rfl)
              · refine rs 4 [] [] (by kernel_rfl) allP_nil ?_
                refine run_br h 54 (.inr (by kernel_rfl)) (fun g2413 h => ?_) (fun g2413 h => ?_)
                · refine rs 6 [] [] (by kernel_rfl) allP_nil ?_
                  refine run_br h 60 (.inl (by kernel_rfl)) (fun g2414 h => ?_) (fun g2414 h => ?_)
                  · refine rn 14 [(0, .sl xh.length (fl xh)), (1, iS now), (5, .own 0 0 c0q4.length), (7, .ptr 2 0), (60, bS true)] [(0, .row 24 (fl c0q4)), (1, .row 28 (Enc.cells c1q4)), (2, .row 28 (Enc.cells c2q12))] 3 (by kernel_rfl) ?_
                    refine rs 11 [] [] (by kernel_rfl) allP_nil ?_
                    refine rf [(0, .sl xh.length (fl xh)), (1, iS now), (7, .ptr 2 0), (71, bS true)] [(0, .row 24 (fl c0q4)), (1, .row 28 (Enc.cells c1q4)), (2, .row 28 (Enc.cells c2q12))] 3 (by kernel_rfl) ?_
                    exact hK2411 (true) _ _ _ h (leSt_m [(0, 2)] [] (by first | ((try simp only [g2412, g2413, g2414]) <;> simp only [push_cast, seval]; done) | ((try simp only [g2412]); (try simp only [g2413]); (try simp only [g2414]); simp only [push_cast, seval]; done) | (exfalso; clear h; simp_all; done)) (by first | ((try simp only [g2412, g2413, g2414]) <;> simp only [push_cast, seval]; done) | ((try simp only [g2412]); (try simp only [g2413]); (try simp only [g2414]); simp only [push_cast, seval]; done) | (exfalso; clear h; simp_all; done)) rfl rfl rfl)
                  · refine rn 14 [(0, .sl xh.length (fl xh)), (1, iS now), (5, .own 0 0 c0q4.length), (7, .ptr 2 0), (60, bS false)] [(0, .row 24 (fl c0q4)), (1, .row 28 (Enc.cells c1q4)), (2, .row 28 (Enc.cells c2q12))] 3 (by kernel_rfl) ?_
                    refine rs 4 [] [] (by kernel_rfl) allP_nil ?_
                    refine run_br h 64 (.inr (by kernel_rfl)) (fun g2415 h => ?_) (fun g2415 h => ?_)
                    · refine rs 2 [] [] (by kernel_rfl) allP_nil ?_
                      obtain ⟨r2416, hr2416, h⟩ := bind_sx h
                      refine run_call 20 [.sl xh.length (fl xh)] (some 67) (by kernel_rfl) ?_
                      refine call_0 (taskmillref_Heaped_spec xh r2416 hr2416) (by simp only [push_cast, seval]) (by simp only [push_cast, seval]) ?_
                      refine back_f ?_
                      obtain ⟨r2417, hr2417, h⟩ := bind_sx h
                      refine call_x (taskmillref_SameTimers_spec c0q4 r2416 r2417 hr2417) (args := [.own 0 0 c0q4.length, .sl r2416.length (fl r2416)]) (dst := (some 68)) (by kernel_rfl) [(0, .row 24 (fl c0q4)), (1, .row 28 (Enc.cells c1q4)), (2, .row 28 (Enc.cells c2q12))] 3 (by kernel_rfl) [] [0] (bS r2417) [] (by simp only [push_cast, seval]) (by simp only [push_cast, seval]) (by kernel_rfl) (.inr ⟨by simp only [push_cast, seval], by simp only [push_cast, seval]⟩) (by simp only [push_cast, seval]) (by simp only [push_cast, seval]) ?_
                      refine rn 22 [(0, .sl xh.length (fl xh)), (1, iS now), (7, .ptr 2 0), (60, bS false), (64, .gd true (bS true)), (68, bS r2417)] [(0, .row 24 (fl c0q4)), (1, .row 28 (Enc.cells c1q4)), (2, .row 28 (Enc.cells c2q12))] 3 (by kernel_rfl) ?_
                      refine rs 3 [] [] (by kernel_rfl) allP_nil ?_
                      refine rf [(0, .sl xh.length (fl xh)), (1, iS now), (7, .ptr 2 0), (71, bS (!r2417))] [(0, .row 24 (fl c0q4)), (1, .row 28 (Enc.cells c1q4)), (2, .row 28 (Enc.cells c2q12))] 3 (by kernel_rfl) ?_
                      exact hK2411 ((!r2417)) _ _ _ h (leSt_m [(0, 2)] [] (by first | ((try simp only [g2412, g2413, g2414, g2415]) <;> simp only [push_cast, seval]; done) | ((try simp only [g2412]); (try simp only [g2413]); (try simp only [g2414]); (try simp only [g2415]); simp only [push_cast, seval]; done) | (exfalso; clear h; simp_all; done)) (by first | ((try simp only [g2412, g2413, g2414, g2415]) <;> simp only [push_cast, seval]; done) | ((try simp only [g2412]); (try simp only [g2413]); (try simp only [g2414]); (try simp only [g2415]); simp only [push_cast, seval]; done) | (exfalso; clear h; simp_all; done)) rfl rfl rfl)
                    · refine rs 7 [] [] (by kernel_rfl) allP_nil ?_
                      refine rf [(0, .sl xh.length (fl xh)), (1, iS now), (7, .ptr 2 0), (71, bS false)] [(0, .row 24 (fl c0q4)), (1, .row 28 (Enc.cells c1q4)), (2, .row 28 (Enc.cells c2q12))] 3 (by kernel_rfl) ?_
                      exact hK2411 (false) _ _ _ h (leSt_m [(0, 2)] [] (by first | ((try simp only [g2412, g2413, g2414, g2415]) <;> simp only [push_cast, seval]; done) | ((try simp only [g2412]); (try simp only [g2413]); (try simp only [g2414]); (try simp only [g2415]); simp only [push_cast, seval]; done) | (exfalso; clear h; simp_all; done)) (by first | ((try simp only [g2412, g2413, g2414, g2415]) <;> simp only [push_cast, seval]; done) | ((try simp only [g2412]); (try simp only [g2413]); (try simp only [g2414]); (try simp only [g2415]); simp only [push_cast, seval]; done) | (exfalso; clear h; simp_all; done)) rfl rfl rfl)
                · refine rs 10 [] [] (by kernel_rfl) allP_nil ?_
                  refine run_br h 64 (.inr (by kernel_rfl)) (fun g2418 h => ?_) (fun g2418 h => ?_)
                  · refine rn 18 [(0, .sl xh.length (fl xh)), (1, iS now), (5, .own 0 0 c0q4.length), (7, .ptr 2 0), (60, bS false), (64, .gd true (bS true))] [(0, .row 24 (fl c0q4)), (1, .row 28 (Enc.cells c1q4)), (2, .row 28 (Enc.cells c2q12))] 3 (by kernel_rfl) ?_
                    refine rs 2 [] [] (by kernel_rfl) allP_nil ?_
                    obtain ⟨r2419, hr2419, h⟩ := bind_sx h
                    refine run_call 20 [.sl xh.length (fl xh)] (some 67) (by kernel_rfl) ?_
                    refine call_0 (taskmillref_Heaped_spec xh r2419 hr2419) (by simp only [push_cast, seval]) (by simp only [push_cast, seval]) ?_
                    refine back_f ?_
                    obtain ⟨r2420, hr2420, h⟩ := bind_sx h
                    refine call_x (taskmillref_SameTimers_spec c0q4 r2419 r2420 hr2420) (args := [.own 0 0 c0q4.length, .sl r2419.length (fl r2419)]) (dst := (some 68)) (by kernel_rfl) [(0, .row 24 (fl c0q4)), (1, .row 28 (Enc.cells c1q4)), (2, .row 28 (Enc.cells c2q12))] 3 (by kernel_rfl) [] [0] (bS r2420) [] (by simp only [push_cast, seval]) (by simp only [push_cast, seval]) (by kernel_rfl) (.inr ⟨by simp only [push_cast, seval], by simp only [push_cast, seval]⟩) (by simp only [push_cast, seval]) (by simp only [push_cast, seval]) ?_
                    refine rs 3 [] [] (by kernel_rfl) allP_nil ?_
                    refine rf [(0, .sl xh.length (fl xh)), (1, iS now), (7, .ptr 2 0), (71, bS (!r2420))] [(0, .row 24 (fl c0q4)), (1, .row 28 (Enc.cells c1q4)), (2, .row 28 (Enc.cells c2q12))] 3 (by kernel_rfl) ?_
                    exact hK2411 ((!r2420)) _ _ _ h (leSt_m [(0, 2)] [] (by first | ((try simp only [g2412, g2413, g2418]) <;> simp only [push_cast, seval]; done) | ((try simp only [g2412]); (try simp only [g2413]); (try simp only [g2418]); simp only [push_cast, seval]; done) | (exfalso; clear h; simp_all; done)) (by first | ((try simp only [g2412, g2413, g2418]) <;> simp only [push_cast, seval]; done) | ((try simp only [g2412]); (try simp only [g2413]); (try simp only [g2418]); simp only [push_cast, seval]; done) | (exfalso; clear h; simp_all; done)) rfl rfl rfl)
                  · refine rn 18 [(0, .sl xh.length (fl xh)), (1, iS now), (5, .own 0 0 c0q4.length), (7, .ptr 2 0), (60, bS false), (64, .gd true (bS false))] [(0, .row 24 (fl c0q4)), (1, .row 28 (Enc.cells c1q4)), (2, .row 28 (Enc.cells c2q12))] 3 (by kernel_rfl) ?_
                    refine rs 7 [] [] (by kernel_rfl) allP_nil ?_
                    refine rf [(0, .sl xh.length (fl xh)), (1, iS now), (7, .ptr 2 0), (71, bS false)] [(0, .row 24 (fl c0q4)), (1, .row 28 (Enc.cells c1q4)), (2, .row 28 (Enc.cells c2q12))] 3 (by kernel_rfl) ?_
                    exact hK2411 (false) _ _ _ h (leSt_m [(0, 2)] [] (by first | ((try simp only [g2412, g2413, g2418]) <;> simp only [push_cast, seval]; done) | ((try simp only [g2412]); (try simp only [g2413]); (try simp only [g2418]); simp only [push_cast, seval]; done) | (exfalso; clear h; simp_all; done)) (by first | ((try simp only [g2412, g2413, g2418]) <;> simp only [push_cast, seval]; done) | ((try simp only [g2412]); (try simp only [g2413]); (try simp only [g2418]); simp only [push_cast, seval]; done) | (exfalso; clear h; simp_all; done)) rfl rfl rfl)
            · rintro t71q2 h
              try dsimp only at h ⊢
              unfold taskmilllaw_AlarmDue_j2 at h
              refine cond_sx h (by kernel_rfl) (fun g2568 h => ?_) (fun g2568 h => ?_)
              · refine seq_np ?_
                refine reg_f ?_
                refine rs 1 [] [] (by kernel_rfl) allP_nil ?_
                refine rf [(4, bS false)] [(0, .row 28 (Enc.cells c2q12))] 1 (by kernel_rfl) ?_
                refine wk_id ?_
                obtain rfl := Option.some.inj h
                refine ret_at (bS false) (by kernel_rfl) ?_
                exact ret_e [] [] (by simp only [push_cast, seval]) (by simp only [push_cast, seval]) rfl rfl rfl
              · refine wk_id ?_
                refine seq_np ?_
                refine reg_f ?_
                refine rs 1 [] [] (by kernel_rfl) allP_nil ?_
                obtain ⟨r2423, hr2423, h⟩ := bind_sx h
                refine call_x (taskmilllaw_ownTimers_spec xh r2423 hr2423) (args := [.sl xh.length (fl xh)]) (dst := (some 74)) (by kernel_rfl) [(0, .row 28 (Enc.cells c2q12))] 1 (by kernel_rfl) [] [] (.own 1 0 r2423.length) [(1, .row 24 (fl r2423))] (by simp only [push_cast, seval]) (by simp only [push_cast, seval]) (by kernel_rfl) (.inl rfl) (by simp only [push_cast, seval]) (by simp only [push_cast, seval]) ?_
                refine rs 1 [] [] (by kernel_rfl) allP_nil ?_
                obtain ⟨r2424, hr2424, h⟩ := bind_sx h
                refine call_x (alarm_Due_spec r2423 now r2424 hr2424) (args := [.own 1 0 r2423.length, iS now]) (dst := (some 76)) (by kernel_rfl) [(0, .row 28 (Enc.cells c2q12)), (1, .row 24 (fl r2423))] 2 (by kernel_rfl) [] [1] (.tup [.own 2 0 r2424.2.1.length, .own 3 0 r2424.2.2.length, .agg (Enc.cells r2424.1)]) [(2, .row 24 (fl r2424.2.1)), (3, .row 24 (fl r2424.2.2))] (by simp only [push_cast, seval]) (by simp only [push_cast, seval]) (by kernel_rfl) (.inr ⟨by simp only [push_cast, seval], by simp only [push_cast, seval]⟩) (by simp only [push_cast, seval]) (by simp only [push_cast, seval]) ?_
                refine rs 8 [] [] (by kernel_rfl) allP_nil ?_
                refine rf [(0, .sl xh.length (fl xh)), (1, iS now), (7, .ptr 0 0), (9, .own 2 0 r2424.2.1.length), (10, .own 3 0 r2424.2.2.length), (11, .ptr 4 0)] [(0, .row 28 (Enc.cells c2q12)), (1, .row 24 (fl r2423)), (2, .row 24 (fl r2424.2.1)), (3, .row 24 (fl r2424.2.2)), (4, .row 28 (Enc.cells r2424.1))] 5 (by kernel_rfl) ?_
                refine wk_id ?_
                refine seq_np ?_
                refine reg_f ?_
                refine rs 1 [] [] (by kernel_rfl) allP_nil ?_
                obtain ⟨r2426, hr2426, h⟩ := bind_sx h
                refine run_call 12 [.sl xh.length (fl xh)] (some 81) (by kernel_rfl) ?_
                refine call_0 (taskmillref_HeapFault_spec xh r2426 hr2426) (by simp only [push_cast, seval]) (by simp only [push_cast, seval]) ?_
                refine back_f ?_
                refine rs 1 [] [] (by kernel_rfl) allP_nil ?_
                refine rf [(0, .sl xh.length (fl xh)), (1, iS now), (7, .ptr 0 0), (9, .own 2 0 r2424.2.1.length), (10, .own 3 0 r2424.2.2.length), (11, .ptr 4 0)] [(0, .row 28 (Enc.cells r2426)), (1, .row 24 (fl r2423)), (2, .row 24 (fl r2424.2.1)), (3, .row 24 (fl r2424.2.2)), (4, .row 28 (Enc.cells r2424.1))] 5 (by kernel_rfl) ?_
                refine wk_id ?_
                refine seq_np ?_
                refine seq_np ?_
                refine reg_f ?_
                refine rs 3 [] [] (by kernel_rfl) allP_nil ?_
                refine rf [(0, .sl xh.length (fl xh)), (1, iS now), (7, .ptr 0 0), (9, .own 2 0 r2424.2.1.length), (10, .own 3 0 r2424.2.2.length), (84, bS (!((r2424.1.Code == r2426.Code) && ((r2424.1.At == r2426.At) && true))))] [(0, .row 28 (Enc.cells r2426)), (1, .row 24 (fl r2423)), (2, .row 24 (fl r2424.2.1)), (3, .row 24 (fl r2424.2.2)), (4, .row 28 (Enc.cells r2424.1))] 5 (by kernel_rfl) ?_
                refine wk_id ?_
                refine cond_sx h (by kernel_rfl) (fun g2567 h => ?_) (fun g2567 h => ?_)
                · refine seq_np ?_
                  refine reg_f ?_
                  refine rs 1 [] [] (by kernel_rfl) allP_nil ?_
                  refine rf [(4, bS false)] [(0, .row 28 (Enc.cells r2426)), (1, .row 24 (fl r2423)), (2, .row 24 (fl r2424.2.1)), (3, .row 24 (fl r2424.2.2)), (4, .row 28 (Enc.cells r2424.1))] 5 (by kernel_rfl) ?_
                  refine wk_id ?_
                  obtain rfl := Option.some.inj h
                  refine ret_at (bS false) (by kernel_rfl) ?_
                  exact ret_e [] [] (by simp only [push_cast, seval]) (by simp only [push_cast, seval]) rfl rfl rfl
                · refine wk_id ?_
                  refine seq_np ?_
                  refine seq_np ?_
                  refine reg_f ?_
                  refine rs 3 [] [] (by kernel_rfl) allP_nil ?_
                  refine rf [(0, .sl xh.length (fl xh)), (1, iS now), (9, .own 2 0 r2424.2.1.length), (10, .own 3 0 r2424.2.2.length), (87, bS (r2426.Code != 0))] [(0, .row 28 (Enc.cells r2426)), (1, .row 24 (fl r2423)), (2, .row 24 (fl r2424.2.1)), (3, .row 24 (fl r2424.2.2)), (4, .row 28 (Enc.cells r2424.1))] 5 (by kernel_rfl) ?_
                  refine wk_id ?_
                  refine cond_sx h (by kernel_rfl) (fun g2566 h => ?_) (fun g2566 h => ?_)
                  · refine seq_cut (A := Unit) (fun _ => ([(4, bS ((((r2424.2.1.length : Nat) : Int) == 0) && (((r2424.2.2.length : Nat) : Int) == 0)))], [(0, .row 28 (Enc.cells r2426)), (1, .row 24 (fl r2423)), (2, .row 24 (fl r2424.2.1)), (3, .row 24 (fl r2424.2.2)), (4, .row 28 (Enc.cells r2424.1))], 5)) (fun _ => True) (fun K2431 hK2431 => ?_) (fun _ _ => ?_)
                    · refine reg_f ?_
                      refine rs 4 [] [] (by kernel_rfl) allP_nil ?_
                      refine run_split 91 (((r2424.2.1.length : Nat) : Int) == 0) (.inl (by kernel_rfl)) (fun g2432 => ?_) (fun g2432 => ?_)
                      · refine rs 5 [] [] (by kernel_rfl) allP_nil ?_
                        refine rf [(4, bS (((r2424.2.2.length : Nat) : Int) == 0))] [(0, .row 28 (Enc.cells r2426)), (1, .row 24 (fl r2423)), (2, .row 24 (fl r2424.2.1)), (3, .row 24 (fl r2424.2.2)), (4, .row 28 (Enc.cells r2424.1))] 5 (by kernel_rfl) ?_
                        exact hK2431 () _ _ _ trivial (leSt_m [(0, 0), (1, 1), (2, 2), (3, 3), (4, 4)] [] (by (try simp only [g2432]) <;> simp only [push_cast, seval]) (by (try simp only [g2432]) <;> simp only [push_cast, seval]) rfl rfl rfl)
                      · refine rs 5 [] [] (by kernel_rfl) allP_nil ?_
                        refine rf [(4, bS false)] [(0, .row 28 (Enc.cells r2426)), (1, .row 24 (fl r2423)), (2, .row 24 (fl r2424.2.1)), (3, .row 24 (fl r2424.2.2)), (4, .row 28 (Enc.cells r2424.1))] 5 (by kernel_rfl) ?_
                        exact hK2431 () _ _ _ trivial (leSt_m [(0, 0), (1, 1), (2, 2), (3, 3), (4, 4)] [] (by (try simp only [g2432]) <;> simp only [push_cast, seval]) (by (try simp only [g2432]) <;> simp only [push_cast, seval]) rfl rfl rfl)
                    · dsimp only
                      obtain rfl := Option.some.inj h
                      refine ret_at (bS ((((r2424.2.1.length : Nat) : Int) == 0) && (((r2424.2.2.length : Nat) : Int) == 0))) (by kernel_rfl) ?_
                      exact ret_e [] [] (by simp only [push_cast, seval]) (by simp only [push_cast, seval]) rfl rfl rfl
                  · refine wk_id ?_
                    refine seq_np ?_
                    refine seq_np ?_
                    refine reg_f ?_
                    refine rs 3 [] [] (by kernel_rfl) allP_nil ?_
                    refine rf [(0, .sl xh.length (fl xh)), (1, iS now), (9, .own 2 0 r2424.2.1.length), (10, .own 3 0 r2424.2.2.length), (98, bS (decide ((300 : Int) < ((xh.length : Nat) : Int))))] [(0, .row 28 (Enc.cells r2426)), (1, .row 24 (fl r2423)), (2, .row 24 (fl r2424.2.1)), (3, .row 24 (fl r2424.2.2)), (4, .row 28 (Enc.cells r2424.1))] 5 (by kernel_rfl) ?_
                    refine wk_id ?_
                    refine cond_sx h (by kernel_rfl) (fun g2565 h => ?_) (fun g2565 h => ?_)
                    · refine seq_np ?_
                      refine reg_f ?_
                      refine rs 1 [] [] (by kernel_rfl) allP_nil ?_
                      refine rf [(4, bS true)] [(0, .row 28 (Enc.cells r2426)), (1, .row 24 (fl r2423)), (2, .row 24 (fl r2424.2.1)), (3, .row 24 (fl r2424.2.2)), (4, .row 28 (Enc.cells r2424.1))] 5 (by kernel_rfl) ?_
                      refine wk_id ?_
                      obtain rfl := Option.some.inj h
                      refine ret_at (bS true) (by kernel_rfl) ?_
                      exact ret_e [] [] (by simp only [push_cast, seval]) (by simp only [push_cast, seval]) rfl rfl rfl
                    · refine wk_id ?_
                      refine seq_np ?_
                      refine reg_f ?_
                      refine rs 1 [] [] (by kernel_rfl) allP_nil ?_
                      refine rf [(0, .sl xh.length (fl xh)), (1, iS now), (9, .own 2 0 r2424.2.1.length), (10, .own 3 0 r2424.2.2.length), (12, iS 0)] [(0, .row 28 (Enc.cells r2426)), (1, .row 24 (fl r2423)), (2, .row 24 (fl r2424.2.1)), (3, .row 24 (fl r2424.2.2)), (4, .row 28 (Enc.cells r2424.1))] 5 (by kernel_rfl) ?_
                      refine wk_id ?_
                      refine seq_np ?_
                      refine reg_f ?_
                      refine rs 1 [] [] (by kernel_rfl) allP_nil ?_
                      obtain ⟨r2435, hr2435, h⟩ := bind_sx h
                      refine call_x (taskmilllaw_ownTimers_spec xh r2435 hr2435) (args := [.sl xh.length (fl xh)]) (dst := (some 100)) (by kernel_rfl) [(0, .row 28 (Enc.cells r2426)), (1, .row 24 (fl r2423)), (2, .row 24 (fl r2424.2.1)), (3, .row 24 (fl r2424.2.2)), (4, .row 28 (Enc.cells r2424.1))] 5 (by kernel_rfl) [] [] (.own 5 0 r2435.length) [(5, .row 24 (fl r2435))] (by simp only [push_cast, seval]) (by simp only [push_cast, seval]) (by kernel_rfl) (.inl rfl) (by simp only [push_cast, seval]) (by simp only [push_cast, seval]) ?_
                      refine rs 1 [] [] (by kernel_rfl) allP_nil ?_
                      refine rf [(1, iS now), (9, .own 2 0 r2424.2.1.length), (10, .own 3 0 r2424.2.2.length), (12, iS 0), (13, .own 5 0 r2435.length)] [(0, .row 28 (Enc.cells r2426)), (1, .row 24 (fl r2423)), (2, .row 24 (fl r2424.2.1)), (3, .row 24 (fl r2424.2.2)), (4, .row 28 (Enc.cells r2424.1)), (5, .row 24 (fl r2435))] 6 (by kernel_rfl) ?_
                      refine wk_id ?_
                      refine seq_np ?_
                      refine block_np ?_
                      refine loop_sx (S := Int × (List Timer) × (List Timer) × (List Timer)) (fun a => ([(1, iS now), (9, .own 0 0 a.2.1.length), (10, .own 1 0 a.2.2.1.length), (12, iS a.1), (13, .own 2 0 a.2.2.2.length)], [(0, .row 24 (fl a.2.1)), (1, .row 24 (fl a.2.2.1)), (2, .row 24 (fl a.2.2.2))], 3)) h (leSt_m [(0, 2), (1, 3), (2, 5)] [] (by simp only [push_cast, seval]) (by simp only [push_cast, seval]) rfl rfl rfl) ?_
                      rintro ⟨k7, c0q13, c1q13, c2q21⟩ o4 R4 h hr4 hn4 hx4 ht4
                      try dsimp only at h hn4 ⊢
                      unfold taskmilllaw_AlarmDue_l1 at h
                      try dsimp only at h
                      refine seq_np ?_
                      refine chk_sx h (fun g2537 h => ?_)
                      refine seq_cut (A := Unit) (fun _ => ([(1, iS now), (9, .own 0 0 c0q13.length), (10, .own 1 0 c1q13.length), (12, iS k7), (13, .own 2 0 c2q21.length), (111, bS ((decide ((0 : Int) < ((c2q21.length : Nat) : Int))) && (decide ((ix c2q21 (0 : Int)).When ≤ now))))], [(0, .row 24 (fl c0q13)), (1, .row 24 (fl c1q13)), (2, .row 24 (fl c2q21))], 3)) (fun _ => True) (fun K2534 hK2534 => ?_) (fun _ _ => ?_)
                      · refine reg_f ?_
                        refine rs 4 [] [] (by kernel_rfl) allP_nil ?_
                        refine run_split 104 (decide ((0 : Int) < ((c2q21.length : Nat) : Int))) (.inl (by kernel_rfl)) (fun g2535 => ?_) (fun g2535 => ?_)
                        · have k2536 : 0 ≤ (0 : Int) ∧ (0 : Int) < ((c2q21.length : Nat) : Int) := by have e := or_use g2537 (by first | ((try simp only [g2535]) <;> rfl) | ((try simp only [g2535]); rfl) | (exfalso; clear h; simp_all; done)); first | simpa only [Bool.and_eq_true, decide_eq_true_eq, bne_iff_ne, ne_eq] using e | (simp at e ⊢; omega)
                          refine rs 7 [none, some ⟨.ptr 2 (0 + ((0 : Int)).toNat * 2), [], 3, [2]⟩, none, some ⟨iS (ix c2q21 (0 : Int)).When, [], 3, [2]⟩] _ (by kernel_rfl) (allP_cons (ob_ld c2q21 (0 : Int) 2 0 ((0 + ((0 : Int)).toNat * 2) + 0) k2536 rfl (by decide) (by first | rfl | omega) (dflS Try.prog 3) (iS (ix c2q21 (0 : Int)).When) rfl 3 [2]) (allP_cons (ob_ix_o 2 c2q21.length 0 2 3 0 k2536) allP_nil)) ?_
                          refine rf [(1, iS now), (9, .own 0 0 c0q13.length), (10, .own 1 0 c1q13.length), (12, iS k7), (13, .own 2 0 c2q21.length), (111, bS (decide ((ix c2q21 (0 : Int)).When ≤ now)))] [(0, .row 24 (fl c0q13)), (1, .row 24 (fl c1q13)), (2, .row 24 (fl c2q21))] 3 (by kernel_rfl) ?_
                          exact hK2534 () _ _ _ trivial (leSt_m [(0, 0), (1, 1), (2, 2)] [] (by (try simp only [g2535]) <;> simp only [push_cast, seval]) (by (try simp only [g2535]) <;> simp only [push_cast, seval]) rfl rfl rfl)
                        · refine rs 7 [] [] (by kernel_rfl) allP_nil ?_
                          refine rf [(1, iS now), (9, .own 0 0 c0q13.length), (10, .own 1 0 c1q13.length), (12, iS k7), (13, .own 2 0 c2q21.length), (111, bS false)] [(0, .row 24 (fl c0q13)), (1, .row 24 (fl c1q13)), (2, .row 24 (fl c2q21))] 3 (by kernel_rfl) ?_
                          exact hK2534 () _ _ _ trivial (leSt_m [(0, 0), (1, 1), (2, 2)] [] (by (try simp only [g2535]) <;> simp only [push_cast, seval]) (by (try simp only [g2535]) <;> simp only [push_cast, seval]) rfl rfl rfl)
                      · dsimp only
                        refine cond_sx h (by kernel_rfl) (fun g2564 h => ?_) (fun g2564 h => ?_)
                        · refine wk_id ?_
                          refine block_np ?_
                          refine seq_np ?_
                          refine chk_sx h (fun g2552 h => ?_)
                          refine chk_sx h (fun g2554 h => ?_)
                          refine seq_cut (A := Unit) (fun _ => ([(1, iS now), (9, .own 0 0 c0q13.length), (10, .own 1 0 c1q13.length), (12, iS k7), (13, .own 2 0 c2q21.length), (125, bS ((decide (((c1q13.length : Nat) : Int) ≤ k7)) || (!(((ix c1q13 k7).When == (ix c2q21 (0 : Int)).When) && (((ix c1q13 k7).Task == (ix c2q21 (0 : Int)).Task) && true)))))], [(0, .row 24 (fl c0q13)), (1, .row 24 (fl c1q13)), (2, .row 24 (fl c2q21))], 17)) (fun _ => True) (fun K2549 hK2549 => ?_) (fun _ _ => ?_)
                          · refine reg_t ?_
                            refine rs 5 [] [] (by kernel_rfl) allP_nil ?_
                            refine run_split 116 (decide (((c1q13.length : Nat) : Int) ≤ k7)) (.inl (by kernel_rfl)) (fun g2550 => ?_) (fun g2550 => ?_)
                            · refine rs 9 [] [] (by kernel_rfl) allP_nil ?_
                              refine rt [(1, iS now), (9, .own 0 0 c0q13.length), (10, .own 1 0 c1q13.length), (12, iS k7), (13, .own 2 0 c2q21.length), (125, bS true)] [(0, .row 24 (fl c0q13)), (1, .row 24 (fl c1q13)), (2, .row 24 (fl c2q21))] 17 follows (by kernel_rfl) ?_
                              exact hK2549 () _ _ _ trivial (leSt_m [(0, 0), (1, 1), (2, 2)] [] (by (try simp only [g2550]) <;> simp only [push_cast, seval]) (by (try simp only [g2550]) <;> simp only [push_cast, seval]) rfl rfl rfl)
                            · have k2551 : 0 ≤ k7 ∧ k7 < ((c1q13.length : Nat) : Int) := by have e := or_use g2552 (by first | ((try simp only [g2550]) <;> rfl) | ((try simp only [g2550]); rfl) | (exfalso; clear h; simp_all; done)); first | simpa only [Bool.and_eq_true, decide_eq_true_eq, bne_iff_ne, ne_eq] using e | (simp at e ⊢; omega)
                              have k2553 : 0 ≤ (0 : Int) ∧ (0 : Int) < ((c2q21.length : Nat) : Int) := by have e := or_use g2554 (by first | ((try simp only [g2550]) <;> rfl) | ((try simp only [g2550]); rfl) | (exfalso; clear h; simp_all; done)); first | simpa only [Bool.and_eq_true, decide_eq_true_eq, bne_iff_ne, ne_eq] using e | (simp at e ⊢; omega)
                              refine rs 9 [none, none, some ⟨.ptr 1 (0 + (k7).toNat * 2), [], 10, [1]⟩, some ⟨.agg (Enc.cells (ix c1q13 k7)), [], 11, [1]⟩, none, some ⟨.ptr 2 (0 + ((0 : Int)).toNat * 2), [], 13, [2]⟩, some ⟨.agg (Enc.cells (ix c2q21 (0 : Int))), [], 14, [2]⟩] _ (by kernel_rfl) (allP_cons (ob_ldw c2q21 (0 : Int) 2 (0 + ((0 : Int)).toNat * 2) k2553 rfl (by first | rfl | omega) [iS (ix c2q21 (0 : Int)).When, iS (ix c2q21 (0 : Int)).Task] rfl 14 [2]) (allP_cons (ob_ix_o 2 c2q21.length 0 2 13 0 k2553) (allP_cons (ob_ldw c1q13 k7 2 (0 + (k7).toNat * 2) k2551 rfl (by first | rfl | omega) [iS (ix c1q13 k7).When, iS (ix c1q13 k7).Task] rfl 11 [1]) (allP_cons (ob_ix_o 1 c1q13.length 0 2 10 k7 k2551) allP_nil)))) ?_
                              refine rt [(1, iS now), (9, .own 0 0 c0q13.length), (10, .own 1 0 c1q13.length), (12, iS k7), (13, .own 2 0 c2q21.length), (125, bS (!(((ix c1q13 k7).When == (ix c2q21 (0 : Int)).When) && (((ix c1q13 k7).Task == (ix c2q21 (0 : Int)).Task) && true))))] [(0, .row 24 (fl c0q13)), (1, .row 24 (fl c1q13)), (2, .row 24 (fl c2q21))] 17 follows (by kernel_rfl) ?_
                              exact hK2549 () _ _ _ trivial (leSt_m [(0, 0), (1, 1), (2, 2)] [] (by (try simp only [g2550]) <;> simp only [push_cast, seval]) (by (try simp only [g2550]) <;> simp only [push_cast, seval]) rfl rfl rfl)
                          · dsimp only
                            refine cond_sx h (by kernel_rfl) (fun g2557 h => ?_) (fun g2557 h => ?_)
                            · refine seq_np ?_
                              refine reg_f ?_
                              refine rs 1 [] [] (by kernel_rfl) allP_nil ?_
                              refine rf [(4, bS false)] [(0, .row 24 (fl c0q13)), (1, .row 24 (fl c1q13)), (2, .row 24 (fl c2q21))] 17 (by kernel_rfl) ?_
                              refine wk_id ?_
                              refine rt_cast ht4 ?_
                              obtain ⟨r0, h, e0⟩ := map_sx h
                              have e1 := hr4 r0 e0.symm
                              subst r0
                              obtain rfl := Option.some.inj h
                              refine ret_at (bS false) (by kernel_rfl) ?_
                              exact ret_e [] [] (by simp only [push_cast, seval]) (by simp only [push_cast, seval]) rfl rfl rfl
                            · refine wk_id ?_
                              refine seq_np ?_
                              refine reg_f ?_
                              refine rs 1 [] [] (by kernel_rfl) allP_nil ?_
                              obtain ⟨r2556, hr2556, h⟩ := bind_sx h
                              refine call_x (taskmillref_Dropped_spec c2q21 0 r2556 hr2556) (args := [.own 2 0 c2q21.length, iS 0]) (dst := (some 127)) (by kernel_rfl) [(0, .row 24 (fl c0q13)), (1, .row 24 (fl c1q13)), (2, .row 24 (fl c2q21))] 17 (by kernel_rfl) [] [2] (.own 17 0 r2556.length) [(17, .row 24 (fl r2556))] (by simp only [push_cast, seval]) (by simp only [push_cast, seval]) (by kernel_rfl) (.inr ⟨by simp only [push_cast, seval], by simp only [push_cast, seval]⟩) (by simp only [push_cast, seval]) (by simp only [push_cast, seval]) ?_
                              refine rs 1 [] [] (by kernel_rfl) allP_nil ?_
                              refine rf [(1, iS now), (9, .own 0 0 c0q13.length), (10, .own 1 0 c1q13.length), (12, iS k7), (13, .own 17 0 r2556.length)] [(0, .row 24 (fl c0q13)), (1, .row 24 (fl c1q13)), (2, .row 24 (fl c2q21)), (17, .row 24 (fl r2556))] 18 (by kernel_rfl) ?_
                              refine wk_id ?_
                              refine reg_f ?_
                              refine rs 3 [] [] (by kernel_rfl) allP_nil ?_
                              refine rf [(1, iS now), (9, .own 0 0 c0q13.length), (10, .own 1 0 c1q13.length), (12, iS (IntKind.i64.wrap (k7 + 1))), (13, .own 17 0 r2556.length)] [(0, .row 24 (fl c0q13)), (1, .row 24 (fl c1q13)), (2, .row 24 (fl c2q21)), (17, .row 24 (fl r2556))] 18 (by kernel_rfl) ?_
                              refine wk_id ?_
                              exact hn4 ((IntKind.i64.wrap (k7 + 1)), c0q13, c1q13, r2556) _ _ _ (Option.some.inj h).symm (leSt_m [(0, 0), (1, 1), (2, 17)] [] (by simp only [push_cast, seval]) (by simp only [push_cast, seval]) rfl rfl rfl)
                        · change R4 (.exit 2) _ _ _
                          refine ex_cast hx4 (id := 2) ?_
                          obtain ⟨r0, h, e0⟩ := map_sx h
                          have e1 := hr4 r0 e0.symm
                          subst r0
                          refine wk_id ?_
                          refine wk_id ?_
                          refine seq_cut (A := Bool) (fun a => ([(4, bS a)], [], 0)) (fun a => (taskmilllaw_AlarmDue_j1 a) = some r) (fun K2561 hK2561 => ?_) ?_
                          · refine reg_f ?_
                            refine rs 5 [] [] (by kernel_rfl) allP_nil ?_
                            refine run_br h 134 (.inl (by kernel_rfl)) (fun g2562 h => ?_) (fun g2562 h => ?_)
                            · refine rs 2 [] [] (by kernel_rfl) allP_nil ?_
                              obtain ⟨r2563, hr2563, h⟩ := bind_sx h
                              refine call_x (taskmillref_SameTimers_spec c0q13 c2q21 r2563 hr2563) (args := [.own 0 0 c0q13.length, .own 2 0 c2q21.length]) (dst := (some 137)) (by kernel_rfl) [(0, .row 24 (fl c0q13)), (1, .row 24 (fl c1q13)), (2, .row 24 (fl c2q21))] 3 (by kernel_rfl) [] [0, 2] (bS r2563) [] (by simp only [push_cast, seval]) (by simp only [push_cast, seval]) (by kernel_rfl) (.inr ⟨by simp only [push_cast, seval], by simp only [push_cast, seval]⟩) (by simp only [push_cast, seval]) (by simp only [push_cast, seval]) ?_
                              refine rs 2 [] [] (by kernel_rfl) allP_nil ?_
                              refine rf [(4, bS r2563)] [(0, .row 24 (fl c0q13)), (1, .row 24 (fl c1q13)), (2, .row 24 (fl c2q21))] 3 (by kernel_rfl) ?_
                              exact hK2561 (r2563) _ _ _ h (leSt_m [] [] (by (try simp only [g2562]) <;> simp only [push_cast, seval]) (by (try simp only [g2562]) <;> simp only [push_cast, seval]) rfl rfl rfl)
                            · refine rs 5 [] [] (by kernel_rfl) allP_nil ?_
                              refine rf [(4, bS false)] [(0, .row 24 (fl c0q13)), (1, .row 24 (fl c1q13)), (2, .row 24 (fl c2q21))] 3 (by kernel_rfl) ?_
                              exact hK2561 (false) _ _ _ h (leSt_m [] [] (by (try simp only [g2562]) <;> simp only [push_cast, seval]) (by (try simp only [g2562]) <;> simp only [push_cast, seval]) rfl rfl rfl)
                          · rintro t4q1 h
                            try dsimp only at h ⊢
                            unfold taskmilllaw_AlarmDue_j1 at h
                            obtain rfl := Option.some.inj h
                            refine ret_at (bS t4q1) (by kernel_rfl) ?_
                            exact ret_e [] [] (by simp only [push_cast, seval]) (by simp only [push_cast, seval]) rfl rfl rfl

end Go.Proofs.Ytbhgmnnelheblaa
