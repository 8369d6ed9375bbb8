/-
  What laws of the chapter lock compute, and lemmas on it.
  No conditions.
-/
import Derived.Test.YthknjjkldflbaaalockW1
set_option linter.unusedSimpArgs false
set_option linter.unusedVariables false
namespace Go.Proofs.Ythknjjkldflbaaa
open Go Go.Sx
attribute [local irreducible] Wk RunAt
set_option maxRecDepth 100000 in
set_option maxHeartbeats 10000000 in
theorem taskmilllaw_LockAlone_1_1_spec (c0 : (List Int)) (c1 : (List Int)) (c4 : Int) (c3 : (List Int)) (r : Bool × (List Int) × (List Int) × (List Int) × Int) (h : taskmilllaw_LockAlone_1_1 c0 c1 c4 c3 = some r) : SpecW Try.prog 23 [.own 0 0 c0.length, .ptr 1 0, .ptr 2 0, .ptr 4 0] [(0, .row 3 (fl c0)), (1, .row 26 [.sl c1.length (fl c1)]), (2, .row 26 [.own 3 0 c3.length]), (3, .row 3 (fl c3)), (4, .row 3 [iS c4])] 5 (fun x h n => x = bS r.1 ∧ h = [(0, .row 3 (fl r.2.1)), (1, .row 26 [.sl r.2.2.1.length (fl r.2.2.1)]), (2, .row 26 [.own 3 0 r.2.2.2.1.length]), (3, .row 3 (fl r.2.2.2.1)), (4, .row 3 [iS r.2.2.2.2])] ∧ n = 5) := by
  unfold taskmilllaw_LockAlone_1_1 at h
  refine spec_of (draw_ok _) Try.func23 rfl (by decide) rfl (by kernel_rfl) ?_
  refine seq_np ?_
  refine reg_f ?_
  refine rs 1 [] [] (by kernel_rfl) allP_nil ?_
  refine rf [(0, .own 0 0 c0.length), (1, .ptr 1 0), (2, .ptr 2 0), (3, .ptr 4 0)] [(0, .row 3 (fl c0)), (1, .row 26 [.sl c1.length (fl c1)]), (2, .row 26 [.own 3 0 c3.length]), (3, .row 3 (fl c3)), (4, .row 3 [iS c4])] 5 (by kernel_rfl) ?_
  refine wk_id ?_
  refine seq_np ?_
  refine seq_np ?_
  refine reg_f ?_
  refine rs 1 [] [] (by kernel_rfl) allP_nil ?_
  refine rf [(0, .own 0 0 c0.length), (1, .ptr 1 0), (2, .ptr 2 0), (3, .ptr 4 0), (6, iS 0)] [(0, .row 3 (fl c0)), (1, .row 26 [.sl c1.length (fl c1)]), (2, .row 26 [.own 3 0 c3.length]), (3, .row 3 (fl c3)), (4, .row 3 [iS c4])] 5 (by kernel_rfl) ?_
  refine wk_id ?_
  refine block_np ?_
  refine loop_sx (S := Int × (List Int) × Int) (fun a => ([(0, .own 0 0 c0.length), (1, .ptr 1 0), (2, .ptr 2 0), (3, .ptr 4 0), (6, iS a.1)], [(0, .row 3 (fl c0)), (1, .row 26 [.sl c1.length (fl c1)]), (2, .row 26 [.own 3 0 a.2.1.length]), (3, .row 3 (fl a.2.1)), (4, .row 3 [iS a.2.2])], 5)) h (leSt_m [(0, 0), (1, 1), (2, 2), (3, 3), (4, 4)] [] (by simp only [push_cast, seval]) (by simp only [push_cast, seval]) rfl rfl rfl) ?_
  rintro ⟨i7, c3q9, c4q9⟩ o2 R2 h hr2 hn2 hx2 ht2
  try dsimp only at h hn2 ⊢
  unfold taskmilllaw_LockAlone_1_1_l1 at h
  try dsimp only at h
  refine seq_np ?_
  refine seq_np ?_
  refine reg_f ?_
  refine rs 4 [] [] (by kernel_rfl) allP_nil ?_
  refine rf [(0, .own 0 0 c0.length), (1, .ptr 1 0), (2, .ptr 2 0), (3, .ptr 4 0), (6, iS i7), (11, bS (decide (i7 < ((c0.length : Nat) : Int))))] [(0, .row 3 (fl c0)), (1, .row 26 [.sl c1.length (fl c1)]), (2, .row 26 [.own 3 0 c3q9.length]), (3, .row 3 (fl c3q9)), (4, .row 3 [iS c4q9])] 5 (by kernel_rfl) ?_
  refine wk_id ?_
  refine cond_sx h (by kernel_rfl) (fun g2528 h => ?_) (fun g2528 h => ?_)
  · refine wk_id ?_
    refine seq_np ?_
    refine block_np ?_
    refine chk_sx h (fun g2501 h => ?_)
    refine seq_np ?_
    refine reg_f ?_
    have k2500 : 0 ≤ i7 ∧ i7 < ((c0.length : Nat) : Int) := by first | simpa only [Bool.and_eq_true, decide_eq_true_eq, bne_iff_ne, ne_eq] using g2501 | (simp at g2501 ⊢; omega)
    refine rs 5 [none, none, some ⟨.ptr 0 (0 + (i7).toNat * 1), [], 5, [0]⟩, some ⟨iS (ix c0 i7), [], 5, [0]⟩] _ (by kernel_rfl) (allP_cons (ob_ld c0 i7 1 0 (0 + (i7).toNat * 1) k2500 rfl (by decide) (by first | rfl | omega) (dflS Try.prog 3) (iS (ix c0 i7)) rfl 5 [0]) (allP_cons (ob_ix_o 0 c0.length 0 1 5 i7 k2500) allP_nil)) ?_
    refine rf [(0, .own 0 0 c0.length), (1, .ptr 1 0), (2, .ptr 2 0), (3, .ptr 4 0), (6, iS i7), (7, iS (ix c0 i7))] [(0, .row 3 (fl c0)), (1, .row 26 [.sl c1.length (fl c1)]), (2, .row 26 [.own 3 0 c3q9.length]), (3, .row 3 (fl c3q9)), (4, .row 3 [iS c4q9])] 5 (by kernel_rfl) ?_
    refine wk_id ?_
    refine seq_np ?_
    refine chk_sx h (fun g2517 h => ?_)
    refine seq_cut (A := Unit) (fun _ => ([(0, .own 0 0 c0.length), (1, .ptr 1 0), (2, .ptr 2 0), (3, .ptr 4 0), (6, iS i7), (7, iS (ix c0 i7)), (37, bS ((decide ((ix c0 i7) < 1)) || ((decide (((c1.length : Nat) : Int) < (ix c0 i7))) || ((decide ((ix c3q9 (ix c0 i7)) < 3)) || (decide ((ix c0 i7) < c4q9))))))], [(0, .row 3 (fl c0)), (1, .row 26 [.sl c1.length (fl c1)]), (2, .row 26 [.own 3 0 c3q9.length]), (3, .row 3 (fl c3q9)), (4, .row 3 [iS c4q9])], 5)) (fun _ => True) (fun K2513 hK2513 => ?_) (fun _ _ => ?_)
    · refine reg_f ?_
      refine rs 3 [] [] (by kernel_rfl) allP_nil ?_
      refine run_split 20 (decide ((ix c0 i7) < 1)) (.inl (by kernel_rfl)) (fun g2514 => ?_) (fun g2514 => ?_)
      · refine rs 17 [] [] (by kernel_rfl) allP_nil ?_
        refine rf [(0, .own 0 0 c0.length), (1, .ptr 1 0), (2, .ptr 2 0), (3, .ptr 4 0), (6, iS i7), (7, iS (ix c0 i7)), (37, bS true)] [(0, .row 3 (fl c0)), (1, .row 26 [.sl c1.length (fl c1)]), (2, .row 26 [.own 3 0 c3q9.length]), (3, .row 3 (fl c3q9)), (4, .row 3 [iS c4q9])] 5 (by kernel_rfl) ?_
        exact hK2513 () _ _ _ trivial (leSt_m [(0, 0), (1, 1), (2, 2), (3, 3), (4, 4)] [] (by (try simp only [g2514]) <;> simp only [push_cast, seval]) (by (try simp only [g2514]) <;> simp only [push_cast, seval]) rfl rfl rfl)
      · refine rs 6 [] [] (by kernel_rfl) allP_nil ?_
        refine run_split 26 (decide (((c1.length : Nat) : Int) < (ix c0 i7))) (.inl (by kernel_rfl)) (fun g2515 => ?_) (fun g2515 => ?_)
        · refine rs 11 [] [] (by kernel_rfl) allP_nil ?_
          refine rf [(0, .own 0 0 c0.length), (1, .ptr 1 0), (2, .ptr 2 0), (3, .ptr 4 0), (6, iS i7), (7, iS (ix c0 i7)), (37, bS true)] [(0, .row 3 (fl c0)), (1, .row 26 [.sl c1.length (fl c1)]), (2, .row 26 [.own 3 0 c3q9.length]), (3, .row 3 (fl c3q9)), (4, .row 3 [iS c4q9])] 5 (by kernel_rfl) ?_
          exact hK2513 () _ _ _ trivial (leSt_m [(0, 0), (1, 1), (2, 2), (3, 3), (4, 4)] [] (by first | ((try simp only [g2514, g2515]) <;> simp only [push_cast, seval]; done) | (exfalso; clear h; simp_all)) (by first | ((try simp only [g2514, g2515]) <;> simp only [push_cast, seval]; done) | (exfalso; clear h; simp_all)) rfl rfl rfl)
        · have k2516 : 0 ≤ (ix c0 i7) ∧ (ix c0 i7) < ((c3q9.length : Nat) : Int) := by have e := or_use g2517 (by first | ((try simp only [g2514, g2515]) <;> rfl) | (exfalso; clear h; simp_all)); first | simpa only [Bool.and_eq_true, decide_eq_true_eq, bne_iff_ne, ne_eq] using e | (simp at e ⊢; omega)
          refine rs 7 [none, none, some ⟨.ptr 3 (0 + ((ix c0 i7)).toNat * 1), [], 5, [3]⟩, some ⟨iS (ix c3q9 (ix c0 i7)), [], 5, [3]⟩] _ (by kernel_rfl) (allP_cons (ob_ld c3q9 (ix c0 i7) 1 0 (0 + ((ix c0 i7)).toNat * 1) k2516 rfl (by decide) (by first | rfl | omega) (dflS Try.prog 3) (iS (ix c3q9 (ix c0 i7))) rfl 5 [3]) (allP_cons (ob_ix_o 3 c3q9.length 0 1 5 (ix c0 i7) k2516) allP_nil)) ?_
          refine run_split 33 (decide ((ix c3q9 (ix c0 i7)) < 3)) (.inl (by kernel_rfl)) (fun g2518 => ?_) (fun g2518 => ?_)
          · refine rn 16 [(0, .own 0 0 c0.length), (1, .ptr 1 0), (2, .ptr 2 0), (3, .ptr 4 0), (6, iS i7), (7, iS (ix c0 i7)), (33, bS true)] [(0, .row 3 (fl c0)), (1, .row 26 [.sl c1.length (fl c1)]), (2, .row 26 [.own 3 0 c3q9.length]), (3, .row 3 (fl c3q9)), (4, .row 3 [iS c4q9])] 5 (by kernel_rfl) ?_
            refine rs 4 [] [] (by kernel_rfl) allP_nil ?_
            refine rf [(0, .own 0 0 c0.length), (1, .ptr 1 0), (2, .ptr 2 0), (3, .ptr 4 0), (6, iS i7), (7, iS (ix c0 i7)), (37, bS true)] [(0, .row 3 (fl c0)), (1, .row 26 [.sl c1.length (fl c1)]), (2, .row 26 [.own 3 0 c3q9.length]), (3, .row 3 (fl c3q9)), (4, .row 3 [iS c4q9])] 5 (by kernel_rfl) ?_
            exact hK2513 () _ _ _ trivial (leSt_m [(0, 0), (1, 1), (2, 2), (3, 3), (4, 4)] [] (by first | ((try simp only [g2514, g2515, g2518]) <;> simp only [push_cast, seval]; done) | (exfalso; clear h; simp_all)) (by first | ((try simp only [g2514, g2515, g2518]) <;> simp only [push_cast, seval]; done) | (exfalso; clear h; simp_all)) rfl rfl rfl)
          · refine rn 16 [(0, .own 0 0 c0.length), (1, .ptr 1 0), (2, .ptr 2 0), (3, .ptr 4 0), (6, iS i7), (7, iS (ix c0 i7)), (33, bS false)] [(0, .row 3 (fl c0)), (1, .row 26 [.sl c1.length (fl c1)]), (2, .row 26 [.own 3 0 c3q9.length]), (3, .row 3 (fl c3q9)), (4, .row 3 [iS c4q9])] 5 (by kernel_rfl) ?_
            refine rs 4 [] [] (by kernel_rfl) allP_nil ?_
            refine rf [(0, .own 0 0 c0.length), (1, .ptr 1 0), (2, .ptr 2 0), (3, .ptr 4 0), (6, iS i7), (7, iS (ix c0 i7)), (37, bS (decide ((ix c0 i7) < c4q9)))] [(0, .row 3 (fl c0)), (1, .row 26 [.sl c1.length (fl c1)]), (2, .row 26 [.own 3 0 c3q9.length]), (3, .row 3 (fl c3q9)), (4, .row 3 [iS c4q9])] 5 (by kernel_rfl) ?_
            exact hK2513 () _ _ _ trivial (leSt_m [(0, 0), (1, 1), (2, 2), (3, 3), (4, 4)] [] (by first | ((try simp only [g2514, g2515, g2518]) <;> simp only [push_cast, seval]; done) | (exfalso; clear h; simp_all)) (by first | ((try simp only [g2514, g2515, g2518]) <;> simp only [push_cast, seval]; done) | (exfalso; clear h; simp_all)) rfl rfl rfl)
    · dsimp only
      refine cond_sx h (by kernel_rfl) (fun g2527 h => ?_) (fun g2527 h => ?_)
      · refine seq_np ?_
        refine reg_f ?_
        refine rs 1 [] [] (by kernel_rfl) allP_nil ?_
        refine rf [(5, bS false)] [(0, .row 3 (fl c0)), (1, .row 26 [.sl c1.length (fl c1)]), (2, .row 26 [.own 3 0 c3q9.length]), (3, .row 3 (fl c3q9)), (4, .row 3 [iS c4q9])] 5 (by kernel_rfl) ?_
        refine wk_id ?_
        refine rt_cast ht2 ?_
        obtain ⟨r0, h, e0⟩ := map_sx h
        have e1 := hr2 r0 e0.symm
        subst r0
        obtain rfl := Option.some.inj h
        refine ret_at (bS false) (by kernel_rfl) ?_
        exact ret_e [(0, 0), (1, 1), (2, 2), (3, 3), (4, 4)] [] (by simp only [push_cast, seval]) (by simp only [push_cast, seval]) rfl rfl rfl
      · refine wk_id ?_
        refine chk_sx h (fun g2524 h => ?_)
        refine chk_sx h (fun g2526 h => ?_)
        refine seq_np ?_
        refine reg_t ?_
        have k2523 : 0 ≤ (ix c0 i7) ∧ (ix c0 i7) < ((c3q9.length : Nat) : Int) := by first | simpa only [Bool.and_eq_true, decide_eq_true_eq, bne_iff_ne, ne_eq] using g2524 | (simp at g2524 ⊢; omega)
        have k2525 : 0 ≤ (ix c0 i7) ∧ (ix c0 i7) < ((c3q9.length : Nat) : Int) := by first | simpa only [Bool.and_eq_true, decide_eq_true_eq, bne_iff_ne, ne_eq] using g2526 | (simp at g2526 ⊢; omega)
        refine rs 9 [none, none, none, none, some ⟨.ptr 3 (0 + ((ix c0 i7)).toNat * 1), [], 9, [3]⟩, some ⟨iS (ix c3q9 (ix c0 i7)), [], 10, [3]⟩, none, some ⟨.ptr 3 (0 + ((ix c0 i7)).toNat * 1), [], 12, [3]⟩, some ⟨.any, [(3, .row 3 (fl (c3q9.set (ix c0 i7).toNat (IntKind.i64.wrap ((ix c3q9 (ix c0 i7)) - 2)))))], 13, [3]⟩] _ (by kernel_rfl) (allP_cons (ob_st (P := Try.prog) c3q9 (ix c0 i7) 1 0 (0 + ((ix c0 i7)).toNat * 1) k2525 rfl [iS (IntKind.i64.wrap ((ix c3q9 (ix c0 i7)) - 2))] (IntKind.i64.wrap ((ix c3q9 (ix c0 i7)) - 2)) (Nat.le_of_ble_eq_true rfl) (by first | rfl | omega) rfl 3 13 3 3 (by kernel_rfl) rfl) (allP_cons (ob_ix_o 3 c3q9.length 0 1 12 (ix c0 i7) k2525) (allP_cons (ob_ld c3q9 (ix c0 i7) 1 0 (0 + ((ix c0 i7)).toNat * 1) k2523 rfl (by decide) (by first | rfl | omega) (dflS Try.prog 3) (iS (ix c3q9 (ix c0 i7))) rfl 10 [3]) (allP_cons (ob_ix_o 3 c3q9.length 0 1 9 (ix c0 i7) k2523) allP_nil)))) ?_
        refine rt [(0, .own 0 0 c0.length), (1, .ptr 1 0), (2, .ptr 2 0), (3, .ptr 4 0), (6, iS i7), (7, iS (ix c0 i7))] [(0, .row 3 (fl c0)), (1, .row 26 [.sl c1.length (fl c1)]), (2, .row 26 [.own 3 0 c3q9.length]), (3, .row 3 (fl (c3q9.set (ix c0 i7).toNat (IntKind.i64.wrap ((ix c3q9 (ix c0 i7)) - 2))))), (4, .row 3 [iS c4q9])] 14 follows (by kernel_rfl) ?_
        refine wk_id ?_
        refine reg_f ?_
        refine rs 2 [] [] (by kernel_rfl) allP_nil ?_
        refine rf [(0, .own 0 0 c0.length), (1, .ptr 1 0), (2, .ptr 2 0), (3, .ptr 4 0), (6, iS i7)] [(0, .row 3 (fl c0)), (1, .row 26 [.sl c1.length (fl c1)]), (2, .row 26 [.own 3 0 c3q9.length]), (3, .row 3 (fl (c3q9.set (ix c0 i7).toNat (IntKind.i64.wrap ((ix c3q9 (ix c0 i7)) - 2))))), (4, .row 3 [iS (ix c0 i7)])] 14 (by kernel_rfl) ?_
        refine wk_id ?_
        refine wk_id ?_
        refine reg_f ?_
        refine rs 3 [] [] (by kernel_rfl) allP_nil ?_
        refine rf [(0, .own 0 0 c0.length), (1, .ptr 1 0), (2, .ptr 2 0), (3, .ptr 4 0), (6, iS (IntKind.i64.wrap (i7 + 1)))] [(0, .row 3 (fl c0)), (1, .row 26 [.sl c1.length (fl c1)]), (2, .row 26 [.own 3 0 c3q9.length]), (3, .row 3 (fl (c3q9.set (ix c0 i7).toNat (IntKind.i64.wrap ((ix c3q9 (ix c0 i7)) - 2))))), (4, .row 3 [iS (ix c0 i7)])] 14 (by kernel_rfl) ?_
        exact hn2 ((IntKind.i64.wrap (i7 + 1)), (c3q9.set (ix c0 i7).toNat (IntKind.i64.wrap ((ix c3q9 (ix c0 i7)) - 2))), (ix c0 i7)) _ _ _ (Option.some.inj h).symm (leSt_m [(0, 0), (1, 1), (2, 2), (3, 3), (4, 4)] [] (by simp only [push_cast, seval]) (by simp only [push_cast, seval]) rfl rfl rfl)
  · change R2 (.exit 0) _ _ _
    refine ex_cast hx2 (id := 0) ?_
    obtain ⟨r0, h, e0⟩ := map_sx h
    have e1 := hr2 r0 e0.symm
    subst r0
    refine wk_id ?_
    refine wk_id ?_
    refine seq_np ?_
    refine reg_f ?_
    refine rs 1 [] [] (by kernel_rfl) allP_nil ?_
    refine rf [(5, bS true)] [(0, .row 3 (fl c0)), (1, .row 26 [.sl c1.length (fl c1)]), (2, .row 26 [.own 3 0 c3q9.length]), (3, .row 3 (fl c3q9)), (4, .row 3 [iS c4q9])] 5 (by kernel_rfl) ?_
    refine wk_id ?_
    obtain rfl := Option.some.inj h
    refine ret_at (bS true) (by kernel_rfl) ?_
    exact ret_e [(0, 0), (1, 1), (2, 2), (3, 3), (4, 4)] [] (by simp only [push_cast, seval]) (by simp only [push_cast, seval]) rfl rfl rfl

set_option maxRecDepth 100000 in
set_option maxHeartbeats 10000000 in
theorem taskmilllaw_LockAlone_spec (moves : (List Int)) (r : Bool) (h : taskmilllaw_LockAlone moves = some r) : SpecW Try.prog 5 [.sl moves.length (fl moves)] [] 0 (fun x h n => x = bS r ∧ h = [] ∧ n = 0) := by
  unfold taskmilllaw_LockAlone at h
  refine spec_of (draw_ok _) Try.func5 rfl (by decide) rfl (by kernel_rfl) ?_
  refine seq_np ?_
  refine reg_f ?_
  refine rs 2 [] [] (by kernel_rfl) allP_nil ?_
  refine rf [(1, .ptr 0 0)] [(0, .row 26 [.sl moves.length (fl moves)])] 1 (by kernel_rfl) ?_
  refine wk_id ?_
  refine seq_np ?_
  refine seq_np ?_
  refine reg_f ?_
  obtain ⟨r2827, hr2827, h⟩ := bind_sx h
  refine run_call 8 [] (some 20) (by kernel_rfl) ?_
  refine call_0 (taskmilllaw_lockBegun_spec r2827 hr2827) (by simp only [push_cast, seval]) (by simp only [push_cast, seval]) ?_
  refine back_f ?_
  refine rs 1 [] [] (by kernel_rfl) allP_nil ?_
  refine rf [(1, .ptr 0 0), (21, bS (!r2827))] [(0, .row 26 [.sl moves.length (fl moves)])] 1 (by kernel_rfl) ?_
  refine wk_id ?_
  refine cond_sx h (by kernel_rfl) (fun g4256 h => ?_) (fun g4256 h => ?_)
  · refine seq_np ?_
    refine reg_f ?_
    refine rs 1 [] [] (by kernel_rfl) allP_nil ?_
    refine rf [(2, bS false)] [(0, .row 26 [.sl moves.length (fl moves)])] 1 (by kernel_rfl) ?_
    refine wk_id ?_
    obtain rfl := Option.some.inj h
    refine ret_at (bS false) (by kernel_rfl) ?_
    exact ret_e [] [] (by simp only [push_cast, seval]) (by simp only [push_cast, seval]) rfl rfl rfl
  · refine wk_id ?_
    refine seq_np ?_
    refine seq_np ?_
    refine reg_f ?_
    refine rs 3 [] [] (by kernel_rfl) allP_nil ?_
    refine rf [(1, .ptr 0 0), (24, bS (decide ((200 : Int) < ((moves.length : Nat) : Int))))] [(0, .row 26 [.sl moves.length (fl moves)])] 1 (by kernel_rfl) ?_
    refine wk_id ?_
    refine cond_sx h (by kernel_rfl) (fun g4255 h => ?_) (fun g4255 h => ?_)
    · refine seq_np ?_
      refine reg_f ?_
      refine rs 1 [] [] (by kernel_rfl) allP_nil ?_
      refine rf [(2, bS true)] [(0, .row 26 [.sl moves.length (fl moves)])] 1 (by kernel_rfl) ?_
      refine wk_id ?_
      obtain rfl := Option.some.inj h
      refine ret_at (bS true) (by kernel_rfl) ?_
      exact ret_e [] [] (by simp only [push_cast, seval]) (by simp only [push_cast, seval]) rfl rfl rfl
    · refine wk_id ?_
      refine seq_np ?_
      refine reg_f ?_
      refine rs 3 [] [] (by kernel_rfl) allP_nil ?_
      refine rf [(1, .ptr 0 0), (3, .ptr 1 0)] [(0, .row 26 [.sl moves.length (fl moves)]), (1, .row 24 [iS 0, bS false, .v (.slice none 0 0)])] 2 (by kernel_rfl) ?_
      refine wk_id ?_
      refine chk_sx h (fun g2832 h => ?_)
      refine seq_np ?_
      refine reg_f ?_
      have k2831 : 0 ≤ (IntKind.i64.wrap (((moves.length : Nat) : Int) + 1)) ∧ (IntKind.i64.wrap (((moves.length : Nat) : Int) + 1)) ≤ 4611686018427387904 ∧ (8 : Int) * (IntKind.i64.wrap (((moves.length : Nat) : Int) + 1)) ≤ 140737488355328 := by first | simpa only [Bool.and_eq_true, decide_eq_true_eq, bne_iff_ne, ne_eq] using g2832 | (simp at g2832 ⊢; omega)
      refine rs 6 [none, none, none, some ⟨.own 2 0 (List.replicate ((IntKind.i64.wrap (((moves.length : Nat) : Int) + 1))).toNat (default : Int)).length, [(2, .row 3 (fl (List.replicate ((IntKind.i64.wrap (((moves.length : Nat) : Int) + 1))).toNat (default : Int))))], 3, []⟩] _ (by kernel_rfl) (allP_cons (ob_mk (P := Try.prog) (α := Int) (IntKind.i64.wrap (((moves.length : Nat) : Int) + 1)) 3 8 (by kernel_rfl) [iS 0] rfl 1 rfl (by decide) k2831 2) allP_nil) ?_
      refine rf [(1, .ptr 0 0), (3, .ptr 1 0), (4, .ptr 3 0)] [(0, .row 26 [.sl moves.length (fl moves)]), (1, .row 24 [iS 0, bS false, .v (.slice none 0 0)]), (2, .row 3 (fl (List.replicate ((IntKind.i64.wrap (((moves.length : Nat) : Int) + 1))).toNat (default : Int)))), (3, .row 26 [.own 2 0 (List.replicate ((IntKind.i64.wrap (((moves.length : Nat) : Int) + 1))).toNat (default : Int)).length])] 4 (by kernel_rfl) ?_
      refine wk_id ?_
      refine seq_np ?_
      refine reg_f ?_
      refine rs 2 [] [] (by kernel_rfl) allP_nil ?_
      refine rf [(1, .ptr 0 0), (3, .ptr 1 0), (4, .ptr 3 0), (5, .ptr 4 0)] [(0, .row 26 [.sl moves.length (fl moves)]), (1, .row 24 [iS 0, bS false, .v (.slice none 0 0)]), (2, .row 3 (fl (List.replicate ((IntKind.i64.wrap (((moves.length : Nat) : Int) + 1))).toNat (default : Int)))), (3, .row 26 [.own 2 0 (List.replicate ((IntKind.i64.wrap (((moves.length : Nat) : Int) + 1))).toNat (default : Int)).length]), (4, .row 3 [iS 0])] 5 (by kernel_rfl) ?_
      refine wk_id ?_
      refine seq_np ?_
      refine reg_f ?_
      refine rs 2 [] [] (by kernel_rfl) allP_nil ?_
      refine rf [(1, .ptr 0 0), (3, .ptr 1 0), (4, .ptr 3 0), (6, .clo 23 [.ptr 0 0, .ptr 3 0, .ptr 4 0])] [(0, .row 26 [.sl moves.length (fl moves)]), (1, .row 24 [iS 0, bS false, .v (.slice none 0 0)]), (2, .row 3 (fl (List.replicate ((IntKind.i64.wrap (((moves.length : Nat) : Int) + 1))).toNat (default : Int)))), (3, .row 26 [.own 2 0 (List.replicate ((IntKind.i64.wrap (((moves.length : Nat) : Int) + 1))).toNat (default : Int)).length]), (4, .row 3 [iS 0])] 5 (by kernel_rfl) ?_
      refine wk_id ?_
      refine seq_np ?_
      refine seq_np ?_
      refine reg_f ?_
      refine rs 1 [] [] (by kernel_rfl) allP_nil ?_
      refine rf [(1, .ptr 0 0), (3, .ptr 1 0), (4, .ptr 3 0), (6, .clo 23 [.ptr 0 0, .ptr 3 0, .ptr 4 0]), (7, iS 0)] [(0, .row 26 [.sl moves.length (fl moves)]), (1, .row 24 [iS 0, bS false, .v (.slice none 0 0)]), (2, .row 3 (fl (List.replicate ((IntKind.i64.wrap (((moves.length : Nat) : Int) + 1))).toNat (default : Int)))), (3, .row 26 [.own 2 0 (List.replicate ((IntKind.i64.wrap (((moves.length : Nat) : Int) + 1))).toNat (default : Int)).length]), (4, .row 3 [iS 0])] 5 (by kernel_rfl) ?_
      refine wk_id ?_
      refine block_np ?_
      refine loop_sx (S := Int × (List Int) × Int × Bool × Int × (List Want) × (List Int)) (fun a => ([(1, .ptr 0 0), (3, .ptr 1 0), (4, .ptr 2 0), (6, .clo 23 [.ptr 0 0, .ptr 2 0, .ptr 3 0]), (7, iS a.1)], [(0, .row 26 [.sl a.2.1.length (fl a.2.1)]), (1, .row 24 [iS a.2.2.1, bS a.2.2.2.1, .own 4 0 a.2.2.2.2.2.1.length]), (2, .row 26 [.own 5 0 a.2.2.2.2.2.2.length]), (3, .row 3 [iS a.2.2.2.2.1]), (4, .row 47 (fl a.2.2.2.2.2.1)), (5, .row 3 (fl a.2.2.2.2.2.2))], 6)) h (leSt_m [(0, 0), (1, 1), (2, 3), (3, 4), (5, 2)] [] (by simp only [push_cast, seval]) (by simp only [push_cast, seval]) rfl rfl rfl) ?_
      rintro ⟨i7, c0q40, c1_Readers29, c1_Writer29, c3q40, c4q29, c5q33⟩ o4 R4 h hr4 hn4 hx4 ht4
      try dsimp only at h hn4 ⊢
      unfold taskmilllaw_LockAlone_l3 at h
      try dsimp only at h
      refine seq_np ?_
      refine seq_np ?_
      refine reg_f ?_
      refine rs 4 [] [] (by kernel_rfl) allP_nil ?_
      refine rf [(1, .ptr 0 0), (3, .ptr 1 0), (4, .ptr 2 0), (6, .clo 23 [.ptr 0 0, .ptr 2 0, .ptr 3 0]), (7, iS i7), (34, bS (decide (i7 < ((c0q40.length : Nat) : Int))))] [(0, .row 26 [.sl c0q40.length (fl c0q40)]), (1, .row 24 [iS c1_Readers29, bS c1_Writer29, .own 4 0 c4q29.length]), (2, .row 26 [.own 5 0 c5q33.length]), (3, .row 3 [iS c3q40]), (4, .row 47 (fl c4q29)), (5, .row 3 (fl c5q33))] 6 (by kernel_rfl) ?_
      refine wk_id ?_
      refine cond_sx h (by kernel_rfl) (fun g4254 h => ?_) (fun g4254 h => ?_)
      · refine wk_id ?_
        refine seq_np ?_
        refine block_cut (A := (List Int) × Int × Bool × Int × (List Want) × (List Int)) (fun a => ([(1, .ptr 0 0), (3, .ptr 1 0), (4, .ptr 2 0), (6, .clo 23 [.ptr 0 0, .ptr 2 0, .ptr 3 0]), (7, iS i7)], [(0, .row 26 [.sl a.1.length (fl a.1)]), (1, .row 24 [iS a.2.1, bS a.2.2.1, .own 4 0 a.2.2.2.2.1.length]), (2, .row 26 [.own 5 0 a.2.2.2.2.2.length]), (3, .row 3 [iS a.2.2.2.1]), (4, .row 47 (fl a.2.2.2.2.1)), (5, .row 3 (fl a.2.2.2.2.2))], 6)) (fun a => (taskmilllaw_LockAlone_j1 i7 a.1 a.2.1 a.2.2.1 a.2.2.2.1 a.2.2.2.2.1 a.2.2.2.2.2) = some o4) (fun K3864 hK3864 => ?_) ?_
        · refine seq_np ?_
          refine reg_f ?_
          refine rs 3 [] [] (by kernel_rfl) allP_nil ?_
          refine rf [(1, .ptr 0 0), (3, .ptr 1 0), (4, .ptr 2 0), (6, .clo 23 [.ptr 0 0, .ptr 2 0, .ptr 3 0]), (7, iS i7), (8, iS (IntKind.i64.wrap (i7 + 1)))] [(0, .row 26 [.sl c0q40.length (fl c0q40)]), (1, .row 24 [iS c1_Readers29, bS c1_Writer29, .own 4 0 c4q29.length]), (2, .row 26 [.own 5 0 c5q33.length]), (3, .row 3 [iS c3q40]), (4, .row 47 (fl c4q29)), (5, .row 3 (fl c5q33))] 6 (by kernel_rfl) ?_
          refine wk_id ?_
          refine seq_np ?_
          refine chk_sx h (fun g3922 h => ?_)
          refine seq_np ?_
          refine reg_f ?_
          have k3921 : 0 ≤ i7 ∧ i7 < ((c0q40.length : Nat) : Int) := by first | simpa only [Bool.and_eq_true, decide_eq_true_eq, bne_iff_ne, ne_eq] using g3922 | (simp at g3922 ⊢; omega)
          refine rs 4 [none, none, some ⟨.iptr (fl c0q40) ((i7).toNat * 1), [], 6, []⟩, some ⟨iS (ix c0q40 i7), [], 6, []⟩] _ (by kernel_rfl) (allP_cons (ob_ld c0q40 i7 1 0 ((i7).toNat * 1) k3921 rfl (by decide) (by first | rfl | omega) (dflS Try.prog 3) (iS (ix c0q40 i7)) rfl 6 []) (allP_cons (ob_ix_l c0q40 1 6 i7 k3921) allP_nil)) ?_
          refine rf [(1, .ptr 0 0), (3, .ptr 1 0), (4, .ptr 2 0), (6, .clo 23 [.ptr 0 0, .ptr 2 0, .ptr 3 0]), (7, iS i7), (8, iS (IntKind.i64.wrap (i7 + 1))), (42, iS (ix c0q40 i7))] [(0, .row 26 [.sl c0q40.length (fl c0q40)]), (1, .row 24 [iS c1_Readers29, bS c1_Writer29, .own 4 0 c4q29.length]), (2, .row 26 [.own 5 0 c5q33.length]), (3, .row 3 [iS c3q40]), (4, .row 47 (fl c4q29)), (5, .row 3 (fl c5q33))] 6 (by kernel_rfl) ?_
          refine wk_id ?_
          refine block_cut (A := (List Int) × Int × Bool × Int × (List Want) × (List Int)) (fun a => ([(1, .ptr 0 0), (3, .ptr 1 0), (4, .ptr 2 0), (6, .clo 23 [.ptr 0 0, .ptr 2 0, .ptr 3 0]), (7, iS i7)], [(0, .row 26 [.sl a.1.length (fl a.1)]), (1, .row 24 [iS a.2.1, bS a.2.2.1, .own 4 0 a.2.2.2.2.1.length]), (2, .row 26 [.own 5 0 a.2.2.2.2.2.length]), (3, .row 3 [iS a.2.2.2.1]), (4, .row 47 (fl a.2.2.2.2.1)), (5, .row 3 (fl a.2.2.2.2.2))], 6)) (fun a => (taskmilllaw_LockAlone_j5 i7 a.1 a.2.1 a.2.2.1 a.2.2.2.1 a.2.2.2.2.1 a.2.2.2.2.2) = some o4) (fun K3974 hK3974 => ?_) ?_
          · refine seq_cut (A := Bool) (fun a => ([(1, .ptr 0 0), (3, .ptr 1 0), (4, .ptr 2 0), (6, .clo 23 [.ptr 0 0, .ptr 2 0, .ptr 3 0]), (7, iS i7), (8, iS (IntKind.i64.wrap (i7 + 1))), (42, iS (ix c0q40 i7)), (43, bS a)], [(0, .row 26 [.sl c0q40.length (fl c0q40)]), (1, .row 24 [iS c1_Readers29, bS c1_Writer29, .own 4 0 c4q29.length]), (2, .row 26 [.own 5 0 c5q33.length]), (3, .row 3 [iS c3q40]), (4, .row 47 (fl c4q29)), (5, .row 3 (fl c5q33))], 6)) (fun a => (taskmilllaw_LockAlone_j8 i7 c0q40 c1_Readers29 c1_Writer29 c3q40 c4q29 c5q33 a) = some o4) (fun K3977 hK3977 => ?_) ?_
            · refine seq_np ?_
              refine reg_f ?_
              refine rs 2 [] [] (by kernel_rfl) allP_nil ?_
              refine rf [(1, .ptr 0 0), (3, .ptr 1 0), (4, .ptr 2 0), (6, .clo 23 [.ptr 0 0, .ptr 2 0, .ptr 3 0]), (7, iS i7), (8, iS (IntKind.i64.wrap (i7 + 1))), (42, iS (ix c0q40 i7)), (43, bS ((ix c0q40 i7) == 0))] [(0, .row 26 [.sl c0q40.length (fl c0q40)]), (1, .row 24 [iS c1_Readers29, bS c1_Writer29, .own 4 0 c4q29.length]), (2, .row 26 [.own 5 0 c5q33.length]), (3, .row 3 [iS c3q40]), (4, .row 47 (fl c4q29)), (5, .row 3 (fl c5q33))] 6 (by kernel_rfl) ?_
              refine wk_id ?_
              refine cond_sx h (by kernel_rfl) (fun g3978 h => ?_) (fun g3978 h => ?_)
              · exact hK3977 (((ix c0q40 i7) == 0)) _ _ _ h (leSt_m [(0, 0), (1, 1), (2, 2), (3, 3), (4, 4), (5, 5)] [] (by simp only [push_cast, seval]) (by simp only [push_cast, seval]) rfl rfl rfl)
              · refine reg_f ?_
                refine rs 2 [] [] (by kernel_rfl) allP_nil ?_
                refine rf [(1, .ptr 0 0), (3, .ptr 1 0), (4, .ptr 2 0), (6, .clo 23 [.ptr 0 0, .ptr 2 0, .ptr 3 0]), (7, iS i7), (8, iS (IntKind.i64.wrap (i7 + 1))), (42, iS (ix c0q40 i7)), (43, bS ((ix c0q40 i7) == 1))] [(0, .row 26 [.sl c0q40.length (fl c0q40)]), (1, .row 24 [iS c1_Readers29, bS c1_Writer29, .own 4 0 c4q29.length]), (2, .row 26 [.own 5 0 c5q33.length]), (3, .row 3 [iS c3q40]), (4, .row 47 (fl c4q29)), (5, .row 3 (fl c5q33))] 6 (by kernel_rfl) ?_
                exact hK3977 (((ix c0q40 i7) == 1)) _ _ _ h (leSt_m [(0, 0), (1, 1), (2, 2), (3, 3), (4, 4), (5, 5)] [] (by simp only [push_cast, seval]) (by simp only [push_cast, seval]) rfl rfl rfl)
            · rintro t43q15 h
              try dsimp only at h ⊢
              unfold taskmilllaw_LockAlone_j8 at h
              refine cond_sx h (by kernel_rfl) (fun g4104 h => ?_) (fun g4104 h => ?_)
              · refine chk_sx h (fun g3983 h => ?_)
                refine seq_np ?_
                refine reg_t ?_
                have k3982 : 0 ≤ i7 ∧ i7 < ((c0q40.length : Nat) : Int) := by first | simpa only [Bool.and_eq_true, decide_eq_true_eq, bne_iff_ne, ne_eq] using g3983 | (simp at g3983 ⊢; omega)
                refine rs 7 [none, none, none, none, some ⟨.iptr (fl c0q40) ((i7).toNat * 1), [], 10, []⟩, some ⟨iS (ix c0q40 i7), [], 11, []⟩] _ (by kernel_rfl) (allP_cons (ob_ld c0q40 i7 1 0 ((i7).toNat * 1) k3982 rfl (by decide) (by first | rfl | omega) (dflS Try.prog 3) (iS (ix c0q40 i7)) rfl 11 []) (allP_cons (ob_ix_l c0q40 1 10 i7 k3982) allP_nil)) ?_
                obtain ⟨r3984, hr3984, h⟩ := bind_sx h
                refine call_x (lock_Enter_spec (Lock.mk c1_Readers29 c1_Writer29 c4q29) (IntKind.i64.wrap (i7 + 1)) ((ix c0q40 i7) == 1) false r3984 hr3984) (args := [.agg [iS c1_Readers29, bS c1_Writer29, .own 4 0 c4q29.length], iS (IntKind.i64.wrap (i7 + 1)), bS ((ix c0q40 i7) == 1), bS false]) (dst := (some 54)) (by kernel_rfl) [(0, .row 26 [.sl c0q40.length (fl c0q40)]), (1, .row 24 [iS c1_Readers29, bS c1_Writer29, .own 4 0 c4q29.length]), (2, .row 26 [.own 5 0 c5q33.length]), (3, .row 3 [iS c3q40]), (4, .row 47 (fl c4q29)), (5, .row 3 (fl c5q33))] 13 (by kernel_rfl) [] [4] (.tup [.agg [iS r3984.1, bS r3984.2.1, .own 13 0 r3984.2.2.2.2.length], bS r3984.2.2.1, .agg (Enc.cells r3984.2.2.2.1)]) [(13, .row 47 (fl r3984.2.2.2.2))] (by simp only [push_cast, seval]) (by simp only [push_cast, seval]) (by kernel_rfl) (.inr ⟨by simp only [push_cast, seval], by simp only [push_cast, seval]⟩) (by simp only [push_cast, seval]) (by simp only [push_cast, seval]) ?_
                refine rs 9 [] [] (by kernel_rfl) allP_nil ?_
                refine rt [(1, .ptr 0 0), (3, .ptr 1 0), (4, .ptr 2 0), (6, .clo 23 [.ptr 0 0, .ptr 2 0, .ptr 3 0]), (7, iS i7), (8, iS (IntKind.i64.wrap (i7 + 1))), (9, .ptr 19 0), (10, bS r3984.2.2.1), (11, .ptr 21 0)] [(0, .row 26 [.sl c0q40.length (fl c0q40)]), (1, .row 24 [iS c1_Readers29, bS c1_Writer29, .own 4 0 c4q29.length]), (2, .row 26 [.own 5 0 c5q33.length]), (3, .row 3 [iS c3q40]), (4, .row 47 (fl c4q29)), (5, .row 3 (fl c5q33)), (13, .row 47 (fl r3984.2.2.2.2)), (19, .row 24 [iS r3984.1, bS r3984.2.1, .own 13 0 r3984.2.2.2.2.length]), (21, .row 28 (Enc.cells r3984.2.2.2.1))] 26 follows (by kernel_rfl) ?_
                refine wk_id ?_
                refine seq_np ?_
                refine seq_np ?_
                refine reg_f ?_
                refine rs 3 [] [] (by kernel_rfl) allP_nil ?_
                refine rf [(1, .ptr 0 0), (3, .ptr 1 0), (4, .ptr 2 0), (6, .clo 23 [.ptr 0 0, .ptr 2 0, .ptr 3 0]), (7, iS i7), (8, iS (IntKind.i64.wrap (i7 + 1))), (9, .ptr 19 0), (10, bS r3984.2.2.1), (60, bS (r3984.2.2.2.1.Code != 0))] [(0, .row 26 [.sl c0q40.length (fl c0q40)]), (1, .row 24 [iS c1_Readers29, bS c1_Writer29, .own 4 0 c4q29.length]), (2, .row 26 [.own 5 0 c5q33.length]), (3, .row 3 [iS c3q40]), (4, .row 47 (fl c4q29)), (5, .row 3 (fl c5q33)), (13, .row 47 (fl r3984.2.2.2.2)), (19, .row 24 [iS r3984.1, bS r3984.2.1, .own 13 0 r3984.2.2.2.2.length]), (21, .row 28 (Enc.cells r3984.2.2.2.1))] 26 (by kernel_rfl) ?_
                refine wk_id ?_
                refine cond_sx h (by kernel_rfl) (fun g4006 h => ?_) (fun g4006 h => ?_)
                · refine seq_np ?_
                  refine reg_f ?_
                  refine rs 1 [] [] (by kernel_rfl) allP_nil ?_
                  refine rf [(2, bS false)] [(0, .row 26 [.sl c0q40.length (fl c0q40)]), (1, .row 24 [iS c1_Readers29, bS c1_Writer29, .own 4 0 c4q29.length]), (2, .row 26 [.own 5 0 c5q33.length]), (3, .row 3 [iS c3q40]), (4, .row 47 (fl c4q29)), (5, .row 3 (fl c5q33)), (13, .row 47 (fl r3984.2.2.2.2)), (19, .row 24 [iS r3984.1, bS r3984.2.1, .own 13 0 r3984.2.2.2.2.length]), (21, .row 28 (Enc.cells r3984.2.2.2.1))] 26 (by kernel_rfl) ?_
                  refine wk_id ?_
                  refine rt_cast ht4 ?_
                  obtain ⟨r0, h, e0⟩ := map_sx h
                  have e1 := hr4 r0 e0.symm
                  subst r0
                  obtain rfl := Option.some.inj h
                  refine ret_at (bS false) (by kernel_rfl) ?_
                  exact ret_e [] [] (by simp only [push_cast, seval]) (by simp only [push_cast, seval]) rfl rfl rfl
                · refine wk_id ?_
                  refine chk_sx h (fun g3991 h => ?_)
                  refine chk_sx h (fun g3993 h => ?_)
                  refine seq_np ?_
                  refine reg_t ?_
                  have k3990 : 0 ≤ i7 ∧ i7 < ((c0q40.length : Nat) : Int) := by first | simpa only [Bool.and_eq_true, decide_eq_true_eq, bne_iff_ne, ne_eq] using g3991 | (simp at g3991 ⊢; omega)
                  have k3992 : 0 ≤ (IntKind.i64.wrap (i7 + 1)) ∧ (IntKind.i64.wrap (i7 + 1)) < ((c5q33.length : Nat) : Int) := by first | simpa only [Bool.and_eq_true, decide_eq_true_eq, bne_iff_ne, ne_eq] using g3993 | (simp at g3993 ⊢; omega)
                  refine rs 9 [none, none, none, none, some ⟨.iptr (fl c0q40) ((i7).toNat * 1), [], 30, []⟩, some ⟨iS (ix c0q40 i7), [], 31, []⟩, none, some ⟨.ptr 5 (0 + ((IntKind.i64.wrap (i7 + 1))).toNat * 1), [], 33, [5]⟩, some ⟨.any, [(5, .row 3 (fl (c5q33.set (IntKind.i64.wrap (i7 + 1)).toNat (IntKind.i64.wrap ((3 : Int) + (ix c0q40 i7))))))], 34, [5]⟩] _ (by kernel_rfl) (allP_cons (ob_st (P := Try.prog) c5q33 (IntKind.i64.wrap (i7 + 1)) 1 0 (0 + ((IntKind.i64.wrap (i7 + 1))).toNat * 1) k3992 rfl [iS (IntKind.i64.wrap ((3 : Int) + (ix c0q40 i7)))] (IntKind.i64.wrap ((3 : Int) + (ix c0q40 i7))) (Nat.le_of_ble_eq_true rfl) (by first | rfl | omega) rfl 5 34 3 3 (by kernel_rfl) rfl) (allP_cons (ob_ix_o 5 c5q33.length 0 1 33 (IntKind.i64.wrap (i7 + 1)) k3992) (allP_cons (ob_ld c0q40 i7 1 0 ((i7).toNat * 1) k3990 rfl (by decide) (by first | rfl | omega) (dflS Try.prog 3) (iS (ix c0q40 i7)) rfl 31 []) (allP_cons (ob_ix_l c0q40 1 30 i7 k3990) allP_nil)))) ?_
                  refine rt [(1, .ptr 0 0), (3, .ptr 1 0), (4, .ptr 2 0), (6, .clo 23 [.ptr 0 0, .ptr 2 0, .ptr 3 0]), (7, iS i7), (8, iS (IntKind.i64.wrap (i7 + 1))), (9, .ptr 19 0), (10, bS r3984.2.2.1)] [(0, .row 26 [.sl c0q40.length (fl c0q40)]), (1, .row 24 [iS c1_Readers29, bS c1_Writer29, .own 4 0 c4q29.length]), (2, .row 26 [.own 5 0 c5q33.length]), (3, .row 3 [iS c3q40]), (4, .row 47 (fl c4q29)), (5, .row 3 (fl (c5q33.set (IntKind.i64.wrap (i7 + 1)).toNat (IntKind.i64.wrap ((3 : Int) + (ix c0q40 i7)))))), (13, .row 47 (fl r3984.2.2.2.2)), (19, .row 24 [iS r3984.1, bS r3984.2.1, .own 13 0 r3984.2.2.2.2.length]), (21, .row 28 (Enc.cells r3984.2.2.2.1))] 35 follows (by kernel_rfl) ?_
                  refine wk_id ?_
                  refine seq_np ?_
                  refine seq_cut (A := Bool × (List Int) × Int × Int × Bool × (List Int) × (List Want)) (fun a => ([(1, .ptr 0 0), (3, .ptr 1 0), (4, .ptr 2 0), (6, .clo 23 [.ptr 0 0, .ptr 2 0, .ptr 3 0]), (7, iS i7), (9, .ptr 4 0), (76, bS a.1)], [(0, .row 26 [.sl a.2.1.length (fl a.2.1)]), (1, .row 24 [iS c1_Readers29, bS c1_Writer29, .own 5 0 c4q29.length]), (2, .row 26 [.own 6 0 a.2.2.2.2.2.1.length]), (3, .row 3 [iS a.2.2.1]), (4, .row 24 [iS a.2.2.2.1, bS a.2.2.2.2.1, .own 7 0 a.2.2.2.2.2.2.length]), (5, .row 47 (fl c4q29)), (6, .row 3 (fl a.2.2.2.2.2.1)), (7, .row 47 (fl a.2.2.2.2.2.2))], 8)) (fun a => (taskmilllaw_LockAlone_j6 i7 c1_Readers29 c1_Writer29 c4q29 a.1 a.2.1 a.2.2.1 a.2.2.2.1 a.2.2.2.2.1 a.2.2.2.2.2.1 a.2.2.2.2.2.2) = some o4) (fun K4002 hK4002 => ?_) ?_
                  · refine reg_f ?_
                    refine rs 2 [] [] (by kernel_rfl) allP_nil ?_
                    refine run_br h 70 (.inl (by kernel_rfl)) (fun g4003 h => ?_) (fun g4003 h => ?_)
                    · refine rs 3 [] [] (by kernel_rfl) allP_nil ?_
                      obtain ⟨r4004, hr4004, h⟩ := bind_sx h
                      refine call_x (taskmilllaw_LockAlone_1_1_spec ([(IntKind.i64.wrap (i7 + 1))] : List Int) c0q40 c3q40 (c5q33.set (IntKind.i64.wrap (i7 + 1)).toNat (IntKind.i64.wrap ((3 : Int) + (ix c0q40 i7)))) r4004 hr4004) (args := [.own 35 0 ([(IntKind.i64.wrap (i7 + 1))] : List Int).length, .ptr 0 0, .ptr 2 0, .ptr 3 0]) (dst := (some 74)) (by kernel_rfl) [(0, .row 26 [.sl c0q40.length (fl c0q40)]), (1, .row 24 [iS c1_Readers29, bS c1_Writer29, .own 4 0 c4q29.length]), (2, .row 26 [.own 5 0 c5q33.length]), (3, .row 3 [iS c3q40]), (4, .row 47 (fl c4q29)), (5, .row 3 (fl (c5q33.set (IntKind.i64.wrap (i7 + 1)).toNat (IntKind.i64.wrap ((3 : Int) + (ix c0q40 i7)))))), (13, .row 47 (fl r3984.2.2.2.2)), (19, .row 24 [iS r3984.1, bS r3984.2.1, .own 13 0 r3984.2.2.2.2.length]), (21, .row 28 (Enc.cells r3984.2.2.2.1)), (35, .row 3 (fl ([(IntKind.i64.wrap (i7 + 1))] : List Int)))] 36 (by kernel_rfl) [(0, 35), (1, 0), (2, 2), (3, 5), (4, 3)] [] (bS r4004.1) [(35, .row 3 (fl r4004.2.1)), (0, .row 26 [.sl r4004.2.2.1.length (fl r4004.2.2.1)]), (2, .row 26 [.own 5 0 r4004.2.2.2.1.length]), (5, .row 3 (fl r4004.2.2.2.1)), (3, .row 3 [iS r4004.2.2.2.2]), (35, .dead), (0, .dead), (2, .dead), (5, .dead), (3, .dead)] (by simp only [push_cast, seval]) (by simp only [push_cast, seval]) (by kernel_rfl) (.inl rfl) (by simp only [push_cast, seval]) (by simp only [push_cast, seval]) ?_
                      refine rs 2 [] [] (by kernel_rfl) allP_nil ?_
                      refine rf [(1, .ptr 0 0), (3, .ptr 1 0), (4, .ptr 2 0), (6, .clo 23 [.ptr 0 0, .ptr 2 0, .ptr 3 0]), (7, iS i7), (9, .ptr 19 0), (76, bS (!r4004.1))] [(0, .row 26 [.sl r4004.2.2.1.length (fl r4004.2.2.1)]), (1, .row 24 [iS c1_Readers29, bS c1_Writer29, .own 4 0 c4q29.length]), (2, .row 26 [.own 5 0 r4004.2.2.2.1.length]), (3, .row 3 [iS r4004.2.2.2.2]), (4, .row 47 (fl c4q29)), (5, .row 3 (fl r4004.2.2.2.1)), (13, .row 47 (fl r3984.2.2.2.2)), (19, .row 24 [iS r3984.1, bS r3984.2.1, .own 13 0 r3984.2.2.2.2.length]), (21, .row 28 (Enc.cells r3984.2.2.2.1)), (35, .row 3 (fl r4004.2.1))] 41 (by kernel_rfl) ?_
                      exact hK4002 ((!r4004.1), r4004.2.2.1, r4004.2.2.2.2, r3984.1, r3984.2.1, r4004.2.2.2.1, r3984.2.2.2.2) _ _ _ h (leSt_m [(0, 0), (1, 1), (2, 2), (3, 3), (4, 19), (5, 4), (6, 5), (7, 13)] [] (by (try simp only [g4003]) <;> simp only [push_cast, seval]) (by (try simp only [g4003]) <;> simp only [push_cast, seval]) rfl rfl rfl)
                    · refine rs 6 [] [] (by kernel_rfl) allP_nil ?_
                      refine rf [(1, .ptr 0 0), (3, .ptr 1 0), (4, .ptr 2 0), (6, .clo 23 [.ptr 0 0, .ptr 2 0, .ptr 3 0]), (7, iS i7), (9, .ptr 19 0), (76, bS false)] [(0, .row 26 [.sl c0q40.length (fl c0q40)]), (1, .row 24 [iS c1_Readers29, bS c1_Writer29, .own 4 0 c4q29.length]), (2, .row 26 [.own 5 0 c5q33.length]), (3, .row 3 [iS c3q40]), (4, .row 47 (fl c4q29)), (5, .row 3 (fl (c5q33.set (IntKind.i64.wrap (i7 + 1)).toNat (IntKind.i64.wrap ((3 : Int) + (ix c0q40 i7)))))), (13, .row 47 (fl r3984.2.2.2.2)), (19, .row 24 [iS r3984.1, bS r3984.2.1, .own 13 0 r3984.2.2.2.2.length]), (21, .row 28 (Enc.cells r3984.2.2.2.1))] 35 (by kernel_rfl) ?_
                      exact hK4002 (false, c0q40, c3q40, r3984.1, r3984.2.1, (c5q33.set (IntKind.i64.wrap (i7 + 1)).toNat (IntKind.i64.wrap ((3 : Int) + (ix c0q40 i7)))), r3984.2.2.2.2) _ _ _ h (leSt_m [(0, 0), (1, 1), (2, 2), (3, 3), (4, 19), (5, 4), (6, 5), (7, 13)] [] (by (try simp only [g4003]) <;> simp only [push_cast, seval]) (by (try simp only [g4003]) <;> simp only [push_cast, seval]) rfl rfl rfl)
                  · rintro ⟨t76q16, c0q52, c3q52, c4_Readers16, c4_Writer16, c6q16, c7q12⟩ h
                    try dsimp only at h ⊢
                    unfold taskmilllaw_LockAlone_j6 at h
                    refine cond_sx h (by kernel_rfl) (fun g4005 h => ?_) (fun g4005 h => ?_)
                    · refine seq_np ?_
                      refine reg_f ?_
                      refine rs 1 [] [] (by kernel_rfl) allP_nil ?_
                      refine rf [(2, bS false)] [(0, .row 26 [.sl c0q52.length (fl c0q52)]), (1, .row 24 [iS c1_Readers29, bS c1_Writer29, .own 5 0 c4q29.length]), (2, .row 26 [.own 6 0 c6q16.length]), (3, .row 3 [iS c3q52]), (4, .row 24 [iS c4_Readers16, bS c4_Writer16, .own 7 0 c7q12.length]), (5, .row 47 (fl c4q29)), (6, .row 3 (fl c6q16)), (7, .row 47 (fl c7q12))] 8 (by kernel_rfl) ?_
                      refine wk_id ?_
                      refine rt_cast ht4 ?_
                      obtain ⟨r0, h, e0⟩ := map_sx h
                      have e1 := hr4 r0 e0.symm
                      subst r0
                      obtain rfl := Option.some.inj h
                      refine ret_at (bS false) (by kernel_rfl) ?_
                      exact ret_e [] [] (by simp only [push_cast, seval]) (by simp only [push_cast, seval]) rfl rfl rfl
                    · refine wk_id ?_
                      refine reg_f ?_
                      refine rs 2 [] [] (by kernel_rfl) allP_nil ?_
                      refine rf [(1, .ptr 0 0), (3, .ptr 1 0), (4, .ptr 2 0), (6, .clo 23 [.ptr 0 0, .ptr 2 0, .ptr 3 0]), (7, iS i7)] [(0, .row 26 [.sl c0q52.length (fl c0q52)]), (1, .row 24 [iS c4_Readers16, bS c4_Writer16, .own 7 0 c7q12.length]), (2, .row 26 [.own 6 0 c6q16.length]), (3, .row 3 [iS c3q52]), (4, .row 24 [iS c4_Readers16, bS c4_Writer16, .own 7 0 c7q12.length]), (5, .row 47 (fl c4q29)), (6, .row 3 (fl c6q16)), (7, .row 47 (fl c7q12))] 8 (by kernel_rfl) ?_
                      exact hK3974 (c0q52, c4_Readers16, c4_Writer16, c3q52, c7q12, c6q16) _ _ _ h (leSt_m [(0, 0), (1, 1), (2, 2), (3, 3), (4, 7), (5, 6)] [] (by simp only [push_cast, seval]) (by simp only [push_cast, seval]) rfl rfl rfl)
              · refine seq_cut (A := Bool) (fun a => ([(1, .ptr 0 0), (3, .ptr 1 0), (4, .ptr 2 0), (6, .clo 23 [.ptr 0 0, .ptr 2 0, .ptr 3 0]), (7, iS i7), (78, bS a)], [(0, .row 26 [.sl c0q40.length (fl c0q40)]), (1, .row 24 [iS c1_Readers29, bS c1_Writer29, .own 4 0 c4q29.length]), (2, .row 26 [.own 5 0 c5q33.length]), (3, .row 3 [iS c3q40]), (4, .row 47 (fl c4q29)), (5, .row 3 (fl c5q33))], 6)) (fun a => (taskmilllaw_LockAlone_j7 i7 c0q40 c1_Readers29 c1_Writer29 c3q40 c4q29 c5q33 a) = some o4) (fun K4009 hK4009 => ?_) ?_
                · refine seq_np ?_
                  refine reg_f ?_
                  refine rs 2 [] [] (by kernel_rfl) allP_nil ?_
                  refine rf [(1, .ptr 0 0), (3, .ptr 1 0), (4, .ptr 2 0), (6, .clo 23 [.ptr 0 0, .ptr 2 0, .ptr 3 0]), (7, iS i7), (42, iS (ix c0q40 i7)), (78, bS ((ix c0q40 i7) == 2))] [(0, .row 26 [.sl c0q40.length (fl c0q40)]), (1, .row 24 [iS c1_Readers29, bS c1_Writer29, .own 4 0 c4q29.length]), (2, .row 26 [.own 5 0 c5q33.length]), (3, .row 3 [iS c3q40]), (4, .row 47 (fl c4q29)), (5, .row 3 (fl c5q33))] 6 (by kernel_rfl) ?_
                  refine wk_id ?_
                  refine cond_sx h (by kernel_rfl) (fun g4010 h => ?_) (fun g4010 h => ?_)
                  · exact hK4009 (((ix c0q40 i7) == 2)) _ _ _ h (leSt_m [(0, 0), (1, 1), (2, 2), (3, 3), (4, 4), (5, 5)] [] (by simp only [push_cast, seval]) (by simp only [push_cast, seval]) rfl rfl rfl)
                  · refine reg_f ?_
                    refine rs 2 [] [] (by kernel_rfl) allP_nil ?_
                    refine rf [(1, .ptr 0 0), (3, .ptr 1 0), (4, .ptr 2 0), (6, .clo 23 [.ptr 0 0, .ptr 2 0, .ptr 3 0]), (7, iS i7), (78, bS ((ix c0q40 i7) == 3))] [(0, .row 26 [.sl c0q40.length (fl c0q40)]), (1, .row 24 [iS c1_Readers29, bS c1_Writer29, .own 4 0 c4q29.length]), (2, .row 26 [.own 5 0 c5q33.length]), (3, .row 3 [iS c3q40]), (4, .row 47 (fl c4q29)), (5, .row 3 (fl c5q33))] 6 (by kernel_rfl) ?_
                    exact hK4009 (((ix c0q40 i7) == 3)) _ _ _ h (leSt_m [(0, 0), (1, 1), (2, 2), (3, 3), (4, 4), (5, 5)] [] (by simp only [push_cast, seval]) (by simp only [push_cast, seval]) rfl rfl rfl)
                · rintro t78q15 h
                  try dsimp only at h ⊢
                  unfold taskmilllaw_LockAlone_j7 at h
                  refine cond_sx h (by kernel_rfl) (fun g4103 h => ?_) (fun g4103 h => ?_)
                  · refine seq_np ?_
                    refine reg_f ?_
                    refine rs 1 [] [] (by kernel_rfl) allP_nil ?_
                    refine rf [(1, .ptr 0 0), (3, .ptr 1 0), (4, .ptr 2 0), (6, .clo 23 [.ptr 0 0, .ptr 2 0, .ptr 3 0]), (7, iS i7), (12, iS 1)] [(0, .row 26 [.sl c0q40.length (fl c0q40)]), (1, .row 24 [iS c1_Readers29, bS c1_Writer29, .own 4 0 c4q29.length]), (2, .row 26 [.own 5 0 c5q33.length]), (3, .row 3 [iS c3q40]), (4, .row 47 (fl c4q29)), (5, .row 3 (fl c5q33))] 6 (by kernel_rfl) ?_
                    refine wk_id ?_
                    refine seq_np ?_
                    refine block_np ?_
                    refine loop_sx (S := Int) (fun a => ([(1, .ptr 0 0), (3, .ptr 1 0), (4, .ptr 2 0), (6, .clo 23 [.ptr 0 0, .ptr 2 0, .ptr 3 0]), (7, iS i7), (12, iS a)], [(0, .row 26 [.sl c0q40.length (fl c0q40)]), (1, .row 24 [iS c1_Readers29, bS c1_Writer29, .own 4 0 c4q29.length]), (2, .row 26 [.own 5 0 c5q33.length]), (3, .row 3 [iS c3q40]), (4, .row 47 (fl c4q29)), (5, .row 3 (fl c5q33))], 6)) h (leSt_m [(0, 0), (1, 1), (2, 2), (3, 3), (4, 4), (5, 5)] [] (by simp only [push_cast, seval]) (by simp only [push_cast, seval]) rfl rfl rfl) ?_
                    rintro t61 o5 R5 h hr5 hn5 hx5 ht5
                    try dsimp only at h hn5 ⊢
                    unfold taskmilllaw_LockAlone_l2 at h
                    try dsimp only at h
                    refine seq_np ?_
                    refine chk_sx h (fun g4076 h => ?_)
                    refine chk_sx h (fun g4078 h => ?_)
                    refine seq_cut (A := Unit) (fun _ => ([(1, .ptr 0 0), (3, .ptr 1 0), (4, .ptr 2 0), (6, .clo 23 [.ptr 0 0, .ptr 2 0, .ptr 3 0]), (7, iS i7), (12, iS t61), (96, bS ((decide (t61 ≤ ((c0q40.length : Nat) : Int))) && ((ix c5q33 t61) != (IntKind.i64.wrap ((ix c0q40 i7) - 1)))))], [(0, .row 26 [.sl c0q40.length (fl c0q40)]), (1, .row 24 [iS c1_Readers29, bS c1_Writer29, .own 4 0 c4q29.length]), (2, .row 26 [.own 5 0 c5q33.length]), (3, .row 3 [iS c3q40]), (4, .row 47 (fl c4q29)), (5, .row 3 (fl c5q33))], 22)) (fun _ => True) (fun K4073 hK4073 => ?_) (fun _ _ => ?_)
                    · refine reg_t ?_
                      refine rs 5 [] [] (by kernel_rfl) allP_nil ?_
                      refine run_split 85 (decide (t61 ≤ ((c0q40.length : Nat) : Int))) (.inl (by kernel_rfl)) (fun g4074 => ?_) (fun g4074 => ?_)
                      · have k4075 : 0 ≤ t61 ∧ t61 < ((c5q33.length : Nat) : Int) := by have e := or_use g4076 (by first | ((try simp only [g4074]) <;> rfl) | (exfalso; clear h; simp_all)); first | simpa only [Bool.and_eq_true, decide_eq_true_eq, bne_iff_ne, ne_eq] using e | (simp at e ⊢; omega)
                        have k4077 : 0 ≤ i7 ∧ i7 < ((c0q40.length : Nat) : Int) := by have e := or_use g4078 (by first | ((try simp only [g4074]) <;> rfl) | (exfalso; clear h; simp_all)); first | simpa only [Bool.and_eq_true, decide_eq_true_eq, bne_iff_ne, ne_eq] using e | (simp at e ⊢; omega)
                        refine rs 11 [none, none, some ⟨.ptr 5 (0 + (t61).toNat * 1), [], 13, [5]⟩, some ⟨iS (ix c5q33 t61), [], 14, [5]⟩, none, none, some ⟨.iptr (fl c0q40) ((i7).toNat * 1), [], 17, []⟩, some ⟨iS (ix c0q40 i7), [], 18, []⟩] _ (by kernel_rfl) (allP_cons (ob_ld c0q40 i7 1 0 ((i7).toNat * 1) k4077 rfl (by decide) (by first | rfl | omega) (dflS Try.prog 3) (iS (ix c0q40 i7)) rfl 18 []) (allP_cons (ob_ix_l c0q40 1 17 i7 k4077) (allP_cons (ob_ld c5q33 t61 1 0 (0 + (t61).toNat * 1) k4075 rfl (by decide) (by first | rfl | omega) (dflS Try.prog 3) (iS (ix c5q33 t61)) rfl 14 [5]) (allP_cons (ob_ix_o 5 c5q33.length 0 1 13 t61 k4075) allP_nil)))) ?_
                        refine rt [(1, .ptr 0 0), (3, .ptr 1 0), (4, .ptr 2 0), (6, .clo 23 [.ptr 0 0, .ptr 2 0, .ptr 3 0]), (7, iS i7), (12, iS t61), (96, bS ((ix c5q33 t61) != (IntKind.i64.wrap ((ix c0q40 i7) - 1))))] [(0, .row 26 [.sl c0q40.length (fl c0q40)]), (1, .row 24 [iS c1_Readers29, bS c1_Writer29, .own 4 0 c4q29.length]), (2, .row 26 [.own 5 0 c5q33.length]), (3, .row 3 [iS c3q40]), (4, .row 47 (fl c4q29)), (5, .row 3 (fl c5q33))] 22 follows (by kernel_rfl) ?_
                        exact hK4073 () _ _ _ trivial (leSt_m [(0, 0), (1, 1), (2, 2), (3, 3), (4, 4), (5, 5)] [] (by (try simp only [g4074]) <;> simp only [push_cast, seval]) (by (try simp only [g4074]) <;> simp only [push_cast, seval]) rfl rfl rfl)
                      · refine rs 11 [] [] (by kernel_rfl) allP_nil ?_
                        refine rt [(1, .ptr 0 0), (3, .ptr 1 0), (4, .ptr 2 0), (6, .clo 23 [.ptr 0 0, .ptr 2 0, .ptr 3 0]), (7, iS i7), (12, iS t61), (96, bS false)] [(0, .row 26 [.sl c0q40.length (fl c0q40)]), (1, .row 24 [iS c1_Readers29, bS c1_Writer29, .own 4 0 c4q29.length]), (2, .row 26 [.own 5 0 c5q33.length]), (3, .row 3 [iS c3q40]), (4, .row 47 (fl c4q29)), (5, .row 3 (fl c5q33))] 22 follows (by kernel_rfl) ?_
                        exact hK4073 () _ _ _ trivial (leSt_m [(0, 0), (1, 1), (2, 2), (3, 3), (4, 4), (5, 5)] [] (by (try simp only [g4074]) <;> simp only [push_cast, seval]) (by (try simp only [g4074]) <;> simp only [push_cast, seval]) rfl rfl rfl)
                    · dsimp only
                      refine cond_sx h (by kernel_rfl) (fun g4102 h => ?_) (fun g4102 h => ?_)
                      · refine wk_id ?_
                        refine block_np ?_
                        refine reg_f ?_
                        refine rs 3 [] [] (by kernel_rfl) allP_nil ?_
                        refine rf [(1, .ptr 0 0), (3, .ptr 1 0), (4, .ptr 2 0), (6, .clo 23 [.ptr 0 0, .ptr 2 0, .ptr 3 0]), (7, iS i7), (12, iS (IntKind.i64.wrap (t61 + 1)))] [(0, .row 26 [.sl c0q40.length (fl c0q40)]), (1, .row 24 [iS c1_Readers29, bS c1_Writer29, .own 4 0 c4q29.length]), (2, .row 26 [.own 5 0 c5q33.length]), (3, .row 3 [iS c3q40]), (4, .row 47 (fl c4q29)), (5, .row 3 (fl c5q33))] 22 (by kernel_rfl) ?_
                        refine wk_id ?_
                        exact hn5 ((IntKind.i64.wrap (t61 + 1))) _ _ _ (Option.some.inj h).symm (leSt_m [(0, 0), (1, 1), (2, 2), (3, 3), (4, 4), (5, 5)] [] (by simp only [push_cast, seval]) (by simp only [push_cast, seval]) rfl rfl rfl)
                      · change R5 (.exit 3) _ _ _
                        refine ex_cast hx5 (id := 3) ?_
                        obtain ⟨r0, h, e0⟩ := map_sx h
                        have e1 := hr5 r0 e0.symm
                        subst r0
                        refine wk_id ?_
                        refine wk_id ?_
                        refine chk_sx h (fun g4083 h => ?_)
                        refine seq_np ?_
                        refine reg_t ?_
                        have k4082 : 0 ≤ i7 ∧ i7 < ((c0q40.length : Nat) : Int) := by first | simpa only [Bool.and_eq_true, decide_eq_true_eq, bne_iff_ne, ne_eq] using g4083 | (simp at g4083 ⊢; omega)
                        refine rs 6 [none, none, none, some ⟨.iptr (fl c0q40) ((i7).toNat * 1), [], 25, []⟩, some ⟨iS (ix c0q40 i7), [], 26, []⟩] _ (by kernel_rfl) (allP_cons (ob_ld c0q40 i7 1 0 ((i7).toNat * 1) k4082 rfl (by decide) (by first | rfl | omega) (dflS Try.prog 3) (iS (ix c0q40 i7)) rfl 26 []) (allP_cons (ob_ix_l c0q40 1 25 i7 k4082) allP_nil)) ?_
                        obtain ⟨r4084, hr4084, h⟩ := bind_sx h
                        refine call_x (lock_Leave_spec (Lock.mk c1_Readers29 c1_Writer29 c4q29) ((ix c0q40 i7) == 3) r4084 hr4084) (args := [.agg [iS c1_Readers29, bS c1_Writer29, .own 4 0 c4q29.length], bS ((ix c0q40 i7) == 3)]) (dst := (some 106)) (by kernel_rfl) [(0, .row 26 [.sl c0q40.length (fl c0q40)]), (1, .row 24 [iS c1_Readers29, bS c1_Writer29, .own 4 0 c4q29.length]), (2, .row 26 [.own 5 0 c5q33.length]), (3, .row 3 [iS c3q40]), (4, .row 47 (fl c4q29)), (5, .row 3 (fl c5q33))] 28 (by kernel_rfl) [] [4] (.tup [.agg [iS r4084.1, bS r4084.2.1, .own 28 0 r4084.2.2.2.2.1.length], .own 29 0 r4084.2.2.2.2.2.length, bS r4084.2.2.1, .agg (Enc.cells r4084.2.2.2.1)]) [(28, .row 47 (fl r4084.2.2.2.2.1)), (29, .row 3 (fl r4084.2.2.2.2.2))] (by simp only [push_cast, seval]) (by simp only [push_cast, seval]) (by kernel_rfl) (.inr ⟨by simp only [push_cast, seval], by simp only [push_cast, seval]⟩) (by simp only [push_cast, seval]) (by simp only [push_cast, seval]) ?_
                        refine rs 11 [] [] (by kernel_rfl) allP_nil ?_
                        refine rt [(1, .ptr 0 0), (3, .ptr 1 0), (4, .ptr 2 0), (6, .clo 23 [.ptr 0 0, .ptr 2 0, .ptr 3 0]), (7, iS i7), (12, iS t61), (13, .ptr 36 0), (14, .own 29 0 r4084.2.2.2.2.2.length), (15, bS r4084.2.2.1), (16, .ptr 38 0)] [(0, .row 26 [.sl c0q40.length (fl c0q40)]), (1, .row 24 [iS c1_Readers29, bS c1_Writer29, .own 4 0 c4q29.length]), (2, .row 26 [.own 5 0 c5q33.length]), (3, .row 3 [iS c3q40]), (4, .row 47 (fl c4q29)), (5, .row 3 (fl c5q33)), (28, .row 47 (fl r4084.2.2.2.2.1)), (29, .row 3 (fl r4084.2.2.2.2.2)), (36, .row 24 [iS r4084.1, bS r4084.2.1, .own 28 0 r4084.2.2.2.2.1.length]), (38, .row 28 (Enc.cells r4084.2.2.2.1))] 44 follows (by kernel_rfl) ?_
                        refine wk_id ?_
                        refine seq_np ?_
                        refine seq_cut (A := Unit) (fun _ => ([(1, .ptr 0 0), (3, .ptr 1 0), (4, .ptr 2 0), (6, .clo 23 [.ptr 0 0, .ptr 2 0, .ptr 3 0]), (7, iS i7), (12, iS t61), (13, .ptr 36 0), (14, .own 29 0 r4084.2.2.2.2.2.length), (15, bS r4084.2.2.1), (121, bS ((r4084.2.2.2.1.Code != 0) || (r4084.2.2.1 != (decide (((c0q40.length : Nat) : Int) < t61)))))], [(0, .row 26 [.sl c0q40.length (fl c0q40)]), (1, .row 24 [iS c1_Readers29, bS c1_Writer29, .own 4 0 c4q29.length]), (2, .row 26 [.own 5 0 c5q33.length]), (3, .row 3 [iS c3q40]), (4, .row 47 (fl c4q29)), (5, .row 3 (fl c5q33)), (28, .row 47 (fl r4084.2.2.2.2.1)), (29, .row 3 (fl r4084.2.2.2.2.2)), (36, .row 24 [iS r4084.1, bS r4084.2.1, .own 28 0 r4084.2.2.2.2.1.length]), (38, .row 28 (Enc.cells r4084.2.2.2.1))], 44)) (fun _ => True) (fun K4088 hK4088 => ?_) (fun _ _ => ?_)
                        · refine reg_f ?_
                          refine rs 4 [] [] (by kernel_rfl) allP_nil ?_
                          refine run_split 114 (r4084.2.2.2.1.Code != 0) (.inl (by kernel_rfl)) (fun g4089 => ?_) (fun g4089 => ?_)
                          · refine rs 7 [] [] (by kernel_rfl) allP_nil ?_
                            refine rf [(1, .ptr 0 0), (3, .ptr 1 0), (4, .ptr 2 0), (6, .clo 23 [.ptr 0 0, .ptr 2 0, .ptr 3 0]), (7, iS i7), (12, iS t61), (13, .ptr 36 0), (14, .own 29 0 r4084.2.2.2.2.2.length), (15, bS r4084.2.2.1), (121, bS true)] [(0, .row 26 [.sl c0q40.length (fl c0q40)]), (1, .row 24 [iS c1_Readers29, bS c1_Writer29, .own 4 0 c4q29.length]), (2, .row 26 [.own 5 0 c5q33.length]), (3, .row 3 [iS c3q40]), (4, .row 47 (fl c4q29)), (5, .row 3 (fl c5q33)), (28, .row 47 (fl r4084.2.2.2.2.1)), (29, .row 3 (fl r4084.2.2.2.2.2)), (36, .row 24 [iS r4084.1, bS r4084.2.1, .own 28 0 r4084.2.2.2.2.1.length]), (38, .row 28 (Enc.cells r4084.2.2.2.1))] 44 (by kernel_rfl) ?_
                            exact hK4088 () _ _ _ trivial (leSt_m [(0, 0), (1, 1), (2, 2), (3, 3), (4, 4), (5, 5), (28, 28), (29, 29), (36, 36), (38, 38)] [] (by (try simp only [g4089]) <;> simp only [push_cast, seval]) (by (try simp only [g4089]) <;> simp only [push_cast, seval]) rfl rfl rfl)
                          · refine rs 7 [] [] (by kernel_rfl) allP_nil ?_
                            refine rf [(1, .ptr 0 0), (3, .ptr 1 0), (4, .ptr 2 0), (6, .clo 23 [.ptr 0 0, .ptr 2 0, .ptr 3 0]), (7, iS i7), (12, iS t61), (13, .ptr 36 0), (14, .own 29 0 r4084.2.2.2.2.2.length), (15, bS r4084.2.2.1), (121, bS (r4084.2.2.1 != (decide (((c0q40.length : Nat) : Int) < t61))))] [(0, .row 26 [.sl c0q40.length (fl c0q40)]), (1, .row 24 [iS c1_Readers29, bS c1_Writer29, .own 4 0 c4q29.length]), (2, .row 26 [.own 5 0 c5q33.length]), (3, .row 3 [iS c3q40]), (4, .row 47 (fl c4q29)), (5, .row 3 (fl c5q33)), (28, .row 47 (fl r4084.2.2.2.2.1)), (29, .row 3 (fl r4084.2.2.2.2.2)), (36, .row 24 [iS r4084.1, bS r4084.2.1, .own 28 0 r4084.2.2.2.2.1.length]), (38, .row 28 (Enc.cells r4084.2.2.2.1))] 44 (by kernel_rfl) ?_
                            exact hK4088 () _ _ _ trivial (leSt_m [(0, 0), (1, 1), (2, 2), (3, 3), (4, 4), (5, 5), (28, 28), (29, 29), (36, 36), (38, 38)] [] (by (try simp only [g4089]) <;> simp only [push_cast, seval]) (by (try simp only [g4089]) <;> simp only [push_cast, seval]) rfl rfl rfl)
                        · dsimp only
                          refine cond_sx h (by kernel_rfl) (fun g4101 h => ?_) (fun g4101 h => ?_)
                          · refine seq_np ?_
                            refine reg_f ?_
                            refine rs 1 [] [] (by kernel_rfl) allP_nil ?_
                            refine rf [(2, bS false)] [(0, .row 26 [.sl c0q40.length (fl c0q40)]), (1, .row 24 [iS c1_Readers29, bS c1_Writer29, .own 4 0 c4q29.length]), (2, .row 26 [.own 5 0 c5q33.length]), (3, .row 3 [iS c3q40]), (4, .row 47 (fl c4q29)), (5, .row 3 (fl c5q33)), (28, .row 47 (fl r4084.2.2.2.2.1)), (29, .row 3 (fl r4084.2.2.2.2.2)), (36, .row 24 [iS r4084.1, bS r4084.2.1, .own 28 0 r4084.2.2.2.2.1.length]), (38, .row 28 (Enc.cells r4084.2.2.2.1))] 44 (by kernel_rfl) ?_
                            refine wk_id ?_
                            refine rt_cast ht4 ?_
                            obtain ⟨r0, h, e0⟩ := map_sx h
                            have e1 := hr4 r0 e0.symm
                            subst r0
                            obtain rfl := Option.some.inj h
                            refine ret_at (bS false) (by kernel_rfl) ?_
                            exact ret_e [] [] (by simp only [push_cast, seval]) (by simp only [push_cast, seval]) rfl rfl rfl
                          · refine wk_id ?_
                            refine seq_np ?_
                            refine seq_np ?_
                            refine reg_f ?_
                            refine rs 1 [] [] (by kernel_rfl) allP_nil ?_
                            refine rf [(1, .ptr 0 0), (3, .ptr 1 0), (4, .ptr 2 0), (6, .clo 23 [.ptr 0 0, .ptr 2 0, .ptr 3 0]), (7, iS i7), (12, iS t61), (13, .ptr 36 0), (14, .own 29 0 r4084.2.2.2.2.2.length), (122, bS r4084.2.2.1)] [(0, .row 26 [.sl c0q40.length (fl c0q40)]), (1, .row 24 [iS c1_Readers29, bS c1_Writer29, .own 4 0 c4q29.length]), (2, .row 26 [.own 5 0 c5q33.length]), (3, .row 3 [iS c3q40]), (4, .row 47 (fl c4q29)), (5, .row 3 (fl c5q33)), (28, .row 47 (fl r4084.2.2.2.2.1)), (29, .row 3 (fl r4084.2.2.2.2.2)), (36, .row 24 [iS r4084.1, bS r4084.2.1, .own 28 0 r4084.2.2.2.2.1.length]), (38, .row 28 (Enc.cells r4084.2.2.2.1))] 44 (by kernel_rfl) ?_
                            refine wk_id ?_
                            refine cond_sx h (by kernel_rfl) (fun g4100 h => ?_) (fun g4100 h => ?_)
                            · exact hK3864 (c0q40, c1_Readers29, c1_Writer29, c3q40, c4q29, c5q33) _ _ _ h (leSt_m [(0, 0), (1, 1), (2, 2), (3, 3), (4, 4), (5, 5)] [] (by simp only [push_cast, seval]) (by simp only [push_cast, seval]) rfl rfl rfl)
                            · refine wk_id ?_
                              refine chk_sx h (fun g4094 h => ?_)
                              refine seq_np ?_
                              refine reg_f ?_
                              have k4093 : 0 ≤ t61 ∧ t61 < ((c5q33.length : Nat) : Int) := by first | simpa only [Bool.and_eq_true, decide_eq_true_eq, bne_iff_ne, ne_eq] using g4094 | (simp at g4094 ⊢; omega)
                              refine rs 4 [none, none, some ⟨.ptr 5 (0 + (t61).toNat * 1), [], 44, [5]⟩, some ⟨.any, [(5, .row 3 (fl (c5q33.set t61.toNat 0)))], 44, [5]⟩] _ (by kernel_rfl) (allP_cons (ob_st (P := Try.prog) c5q33 t61 1 0 (0 + (t61).toNat * 1) k4093 rfl [iS 0] 0 (Nat.le_of_ble_eq_true rfl) (by first | rfl | omega) rfl 5 44 3 3 (by kernel_rfl) rfl) (allP_cons (ob_ix_o 5 c5q33.length 0 1 44 t61 k4093) allP_nil)) ?_
                              refine rf [(1, .ptr 0 0), (3, .ptr 1 0), (4, .ptr 2 0), (6, .clo 23 [.ptr 0 0, .ptr 2 0, .ptr 3 0]), (7, iS i7), (13, .ptr 36 0), (14, .own 29 0 r4084.2.2.2.2.2.length)] [(0, .row 26 [.sl c0q40.length (fl c0q40)]), (1, .row 24 [iS c1_Readers29, bS c1_Writer29, .own 4 0 c4q29.length]), (2, .row 26 [.own 5 0 c5q33.length]), (3, .row 3 [iS c3q40]), (4, .row 47 (fl c4q29)), (5, .row 3 (fl (c5q33.set t61.toNat 0))), (28, .row 47 (fl r4084.2.2.2.2.1)), (29, .row 3 (fl r4084.2.2.2.2.2)), (36, .row 24 [iS r4084.1, bS r4084.2.1, .own 28 0 r4084.2.2.2.2.1.length]), (38, .row 28 (Enc.cells r4084.2.2.2.1))] 44 (by kernel_rfl) ?_
                              refine wk_id ?_
                              refine seq_np ?_
                              refine seq_np ?_
                              refine reg_f ?_
                              refine rs 2 [] [] (by kernel_rfl) allP_nil ?_
                              obtain ⟨r4098, hr4098, h⟩ := bind_sx h
                              refine call_x (taskmilllaw_LockAlone_1_1_spec r4084.2.2.2.2.2 c0q40 c3q40 (c5q33.set t61.toNat 0) r4098 hr4098) (args := [.own 29 0 r4084.2.2.2.2.2.length, .ptr 0 0, .ptr 2 0, .ptr 3 0]) (dst := (some 128)) (by kernel_rfl) [(0, .row 26 [.sl c0q40.length (fl c0q40)]), (1, .row 24 [iS c1_Readers29, bS c1_Writer29, .own 4 0 c4q29.length]), (2, .row 26 [.own 5 0 c5q33.length]), (3, .row 3 [iS c3q40]), (4, .row 47 (fl c4q29)), (5, .row 3 (fl (c5q33.set t61.toNat 0))), (28, .row 47 (fl r4084.2.2.2.2.1)), (29, .row 3 (fl r4084.2.2.2.2.2)), (36, .row 24 [iS r4084.1, bS r4084.2.1, .own 28 0 r4084.2.2.2.2.1.length]), (38, .row 28 (Enc.cells r4084.2.2.2.1))] 44 (by kernel_rfl) [(0, 29), (1, 0), (2, 2), (3, 5), (4, 3)] [] (bS r4098.1) [(29, .row 3 (fl r4098.2.1)), (0, .row 26 [.sl r4098.2.2.1.length (fl r4098.2.2.1)]), (2, .row 26 [.own 5 0 r4098.2.2.2.1.length]), (5, .row 3 (fl r4098.2.2.2.1)), (3, .row 3 [iS r4098.2.2.2.2]), (29, .dead), (0, .dead), (2, .dead), (5, .dead), (3, .dead)] (by simp only [push_cast, seval]) (by simp only [push_cast, seval]) (by kernel_rfl) (.inl rfl) (by simp only [push_cast, seval]) (by simp only [push_cast, seval]) ?_
                              refine rs 1 [] [] (by kernel_rfl) allP_nil ?_
                              refine rf [(1, .ptr 0 0), (3, .ptr 1 0), (4, .ptr 2 0), (6, .clo 23 [.ptr 0 0, .ptr 2 0, .ptr 3 0]), (7, iS i7), (13, .ptr 36 0), (129, bS (!r4098.1))] [(0, .row 26 [.sl r4098.2.2.1.length (fl r4098.2.2.1)]), (1, .row 24 [iS c1_Readers29, bS c1_Writer29, .own 4 0 c4q29.length]), (2, .row 26 [.own 5 0 r4098.2.2.2.1.length]), (3, .row 3 [iS r4098.2.2.2.2]), (4, .row 47 (fl c4q29)), (5, .row 3 (fl r4098.2.2.2.1)), (28, .row 47 (fl r4084.2.2.2.2.1)), (29, .row 3 (fl r4098.2.1)), (36, .row 24 [iS r4084.1, bS r4084.2.1, .own 28 0 r4084.2.2.2.2.1.length]), (38, .row 28 (Enc.cells r4084.2.2.2.1))] 49 (by kernel_rfl) ?_
                              refine wk_id ?_
                              refine cond_sx h (by kernel_rfl) (fun g4099 h => ?_) (fun g4099 h => ?_)
                              · refine seq_np ?_
                                refine reg_f ?_
                                refine rs 1 [] [] (by kernel_rfl) allP_nil ?_
                                refine rf [(2, bS false)] [(0, .row 26 [.sl r4098.2.2.1.length (fl r4098.2.2.1)]), (1, .row 24 [iS c1_Readers29, bS c1_Writer29, .own 4 0 c4q29.length]), (2, .row 26 [.own 5 0 r4098.2.2.2.1.length]), (3, .row 3 [iS r4098.2.2.2.2]), (4, .row 47 (fl c4q29)), (5, .row 3 (fl r4098.2.2.2.1)), (28, .row 47 (fl r4084.2.2.2.2.1)), (29, .row 3 (fl r4098.2.1)), (36, .row 24 [iS r4084.1, bS r4084.2.1, .own 28 0 r4084.2.2.2.2.1.length]), (38, .row 28 (Enc.cells r4084.2.2.2.1))] 49 (by kernel_rfl) ?_
                                refine wk_id ?_
                                refine rt_cast ht4 ?_
                                obtain ⟨r0, h, e0⟩ := map_sx h
                                have e1 := hr4 r0 e0.symm
                                subst r0
                                obtain rfl := Option.some.inj h
                                refine ret_at (bS false) (by kernel_rfl) ?_
                                exact ret_e [] [] (by simp only [push_cast, seval]) (by simp only [push_cast, seval]) rfl rfl rfl
                              · refine wk_id ?_
                                refine reg_f ?_
                                refine rs 2 [] [] (by kernel_rfl) allP_nil ?_
                                refine rf [(1, .ptr 0 0), (3, .ptr 1 0), (4, .ptr 2 0), (6, .clo 23 [.ptr 0 0, .ptr 2 0, .ptr 3 0]), (7, iS i7)] [(0, .row 26 [.sl r4098.2.2.1.length (fl r4098.2.2.1)]), (1, .row 24 [iS r4084.1, bS r4084.2.1, .own 28 0 r4084.2.2.2.2.1.length]), (2, .row 26 [.own 5 0 r4098.2.2.2.1.length]), (3, .row 3 [iS r4098.2.2.2.2]), (4, .row 47 (fl c4q29)), (5, .row 3 (fl r4098.2.2.2.1)), (28, .row 47 (fl r4084.2.2.2.2.1)), (29, .row 3 (fl r4098.2.1)), (36, .row 24 [iS r4084.1, bS r4084.2.1, .own 28 0 r4084.2.2.2.2.1.length]), (38, .row 28 (Enc.cells r4084.2.2.2.1))] 49 (by kernel_rfl) ?_
                                exact hK3974 (r4098.2.2.1, r4084.1, r4084.2.1, r4098.2.2.2.2, r4084.2.2.2.2.1, r4098.2.2.2.1) _ _ _ h (leSt_m [(0, 0), (1, 1), (2, 2), (3, 3), (4, 28), (5, 5)] [] (by simp only [push_cast, seval]) (by simp only [push_cast, seval]) rfl rfl rfl)
                  · exact hK3974 (c0q40, c1_Readers29, c1_Writer29, c3q40, c4q29, c5q33) _ _ _ h (leSt_m [(0, 0), (1, 1), (2, 2), (3, 3), (4, 4), (5, 5)] [] (by simp only [push_cast, seval]) (by simp only [push_cast, seval]) rfl rfl rfl)
          · rintro ⟨c0q50, c1_Readers35, c1_Writer35, c3q50, c4q35, c5q39⟩ h
            try dsimp only at h ⊢
            unfold taskmilllaw_LockAlone_j5 at h
            refine wk_id ?_
            refine seq_np ?_
            refine reg_f ?_
            refine rs 2 [] [] (by kernel_rfl) allP_nil ?_
            refine rf [(1, .ptr 0 0), (3, .ptr 1 0), (4, .ptr 2 0), (6, .clo 23 [.ptr 0 0, .ptr 2 0, .ptr 3 0]), (7, iS i7), (17, iS 0), (18, iS 0)] [(0, .row 26 [.sl c0q50.length (fl c0q50)]), (1, .row 24 [iS c1_Readers35, bS c1_Writer35, .own 4 0 c4q35.length]), (2, .row 26 [.own 5 0 c5q39.length]), (3, .row 3 [iS c3q50]), (4, .row 47 (fl c4q35)), (5, .row 3 (fl c5q39))] 6 (by kernel_rfl) ?_
            refine wk_id ?_
            refine seq_np ?_
            refine seq_np ?_
            refine reg_f ?_
            refine rs 1 [] [] (by kernel_rfl) allP_nil ?_
            refine rf [(1, .ptr 0 0), (3, .ptr 1 0), (4, .ptr 2 0), (6, .clo 23 [.ptr 0 0, .ptr 2 0, .ptr 3 0]), (7, iS i7), (17, iS 0), (18, iS 0), (19, iS 1)] [(0, .row 26 [.sl c0q50.length (fl c0q50)]), (1, .row 24 [iS c1_Readers35, bS c1_Writer35, .own 4 0 c4q35.length]), (2, .row 26 [.own 5 0 c5q39.length]), (3, .row 3 [iS c3q50]), (4, .row 47 (fl c4q35)), (5, .row 3 (fl c5q39))] 6 (by kernel_rfl) ?_
            refine wk_id ?_
            refine block_np ?_
            refine loop_sx (S := Int × Int × Int) (fun a => ([(1, .ptr 0 0), (3, .ptr 1 0), (4, .ptr 2 0), (6, .clo 23 [.ptr 0 0, .ptr 2 0, .ptr 3 0]), (7, iS i7), (17, iS a.1), (18, iS a.2.1), (19, iS a.2.2)], [(0, .row 26 [.sl c0q50.length (fl c0q50)]), (1, .row 24 [iS c1_Readers35, bS c1_Writer35, .own 4 0 c4q35.length]), (2, .row 26 [.own 5 0 c5q39.length]), (3, .row 3 [iS c3q50]), (4, .row 47 (fl c4q35)), (5, .row 3 (fl c5q39))], 6)) h (leSt_m [(0, 0), (1, 1), (2, 2), (3, 3), (4, 4), (5, 5)] [] (by simp only [push_cast, seval]) (by simp only [push_cast, seval]) rfl rfl rfl) ?_
            rintro ⟨readers125, writers78, t67⟩ o6 R6 h hr6 hn6 hx6 ht6
            try dsimp only at h hn6 ⊢
            unfold taskmilllaw_LockAlone_l1 at h
            try dsimp only at h
            refine seq_np ?_
            refine seq_np ?_
            refine reg_f ?_
            refine rs 4 [] [] (by kernel_rfl) allP_nil ?_
            refine rf [(1, .ptr 0 0), (3, .ptr 1 0), (4, .ptr 2 0), (6, .clo 23 [.ptr 0 0, .ptr 2 0, .ptr 3 0]), (7, iS i7), (17, iS readers125), (18, iS writers78), (19, iS t67), (134, bS (decide (t67 ≤ ((c0q50.length : Nat) : Int))))] [(0, .row 26 [.sl c0q50.length (fl c0q50)]), (1, .row 24 [iS c1_Readers35, bS c1_Writer35, .own 4 0 c4q35.length]), (2, .row 26 [.own 5 0 c5q39.length]), (3, .row 3 [iS c3q50]), (4, .row 47 (fl c4q35)), (5, .row 3 (fl c5q39))] 6 (by kernel_rfl) ?_
            refine wk_id ?_
            refine cond_sx h (by kernel_rfl) (fun g4253 h => ?_) (fun g4253 h => ?_)
            · refine wk_id ?_
              refine seq_np ?_
              refine block_cut (A := Int × Int) (fun a => ([(1, .ptr 0 0), (3, .ptr 1 0), (4, .ptr 2 0), (6, .clo 23 [.ptr 0 0, .ptr 2 0, .ptr 3 0]), (7, iS i7), (17, iS a.1), (18, iS a.2), (19, iS t67)], [(0, .row 26 [.sl c0q50.length (fl c0q50)]), (1, .row 24 [iS c1_Readers35, bS c1_Writer35, .own 4 0 c4q35.length]), (2, .row 26 [.own 5 0 c5q39.length]), (3, .row 3 [iS c3q50]), (4, .row 47 (fl c4q35)), (5, .row 3 (fl c5q39))], 6)) (fun a => (taskmilllaw_LockAlone_j2 i7 c0q50 c1_Readers35 c1_Writer35 c3q50 c4q35 c5q39 t67 a.1 a.2) = some o6) (fun K4216 hK4216 => ?_) ?_
              · refine seq_cut (A := Int) (fun a => ([(1, .ptr 0 0), (3, .ptr 1 0), (4, .ptr 2 0), (6, .clo 23 [.ptr 0 0, .ptr 2 0, .ptr 3 0]), (7, iS i7), (17, iS a), (18, iS writers78), (19, iS t67)], [(0, .row 26 [.sl c0q50.length (fl c0q50)]), (1, .row 24 [iS c1_Readers35, bS c1_Writer35, .own 4 0 c4q35.length]), (2, .row 26 [.own 5 0 c5q39.length]), (3, .row 3 [iS c3q50]), (4, .row 47 (fl c4q35)), (5, .row 3 (fl c5q39))], 6)) (fun a => (taskmilllaw_LockAlone_j3 i7 c0q50 c1_Readers35 c1_Writer35 c3q50 c4q35 c5q39 writers78 t67 a) = some o6) (fun K4221 hK4221 => ?_) ?_
                · refine chk_sx h (fun g4225 h => ?_)
                  refine seq_np ?_
                  refine reg_f ?_
                  have k4224 : 0 ≤ t67 ∧ t67 < ((c5q39.length : Nat) : Int) := by first | simpa only [Bool.and_eq_true, decide_eq_true_eq, bne_iff_ne, ne_eq] using g4225 | (simp at g4225 ⊢; omega)
                  refine rs 5 [none, none, some ⟨.ptr 5 (0 + (t67).toNat * 1), [], 6, [5]⟩, some ⟨iS (ix c5q39 t67), [], 6, [5]⟩] _ (by kernel_rfl) (allP_cons (ob_ld c5q39 t67 1 0 (0 + (t67).toNat * 1) k4224 rfl (by decide) (by first | rfl | omega) (dflS Try.prog 3) (iS (ix c5q39 t67)) rfl 6 [5]) (allP_cons (ob_ix_o 5 c5q39.length 0 1 6 t67 k4224) allP_nil)) ?_
                  refine rf [(1, .ptr 0 0), (3, .ptr 1 0), (4, .ptr 2 0), (6, .clo 23 [.ptr 0 0, .ptr 2 0, .ptr 3 0]), (7, iS i7), (17, iS readers125), (18, iS writers78), (19, iS t67), (141, bS ((ix c5q39 t67) == 1))] [(0, .row 26 [.sl c0q50.length (fl c0q50)]), (1, .row 24 [iS c1_Readers35, bS c1_Writer35, .own 4 0 c4q35.length]), (2, .row 26 [.own 5 0 c5q39.length]), (3, .row 3 [iS c3q50]), (4, .row 47 (fl c4q35)), (5, .row 3 (fl c5q39))] 6 (by kernel_rfl) ?_
                  refine wk_id ?_
                  refine cond_sx h (by kernel_rfl) (fun g4226 h => ?_) (fun g4226 h => ?_)
                  · refine reg_f ?_
                    refine rs 3 [] [] (by kernel_rfl) allP_nil ?_
                    refine rf [(1, .ptr 0 0), (3, .ptr 1 0), (4, .ptr 2 0), (6, .clo 23 [.ptr 0 0, .ptr 2 0, .ptr 3 0]), (7, iS i7), (17, iS (IntKind.i64.wrap (readers125 + 1))), (18, iS writers78), (19, iS t67)] [(0, .row 26 [.sl c0q50.length (fl c0q50)]), (1, .row 24 [iS c1_Readers35, bS c1_Writer35, .own 4 0 c4q35.length]), (2, .row 26 [.own 5 0 c5q39.length]), (3, .row 3 [iS c3q50]), (4, .row 47 (fl c4q35)), (5, .row 3 (fl c5q39))] 6 (by kernel_rfl) ?_
                    exact hK4221 ((IntKind.i64.wrap (readers125 + 1))) _ _ _ h (leSt_m [(0, 0), (1, 1), (2, 2), (3, 3), (4, 4), (5, 5)] [] (by simp only [push_cast, seval]) (by simp only [push_cast, seval]) rfl rfl rfl)
                  · exact hK4221 (readers125) _ _ _ h (leSt_m [(0, 0), (1, 1), (2, 2), (3, 3), (4, 4), (5, 5)] [] (by simp only [push_cast, seval]) (by simp only [push_cast, seval]) rfl rfl rfl)
                · rintro readers130 h
                  try dsimp only at h ⊢
                  unfold taskmilllaw_LockAlone_j3 at h
                  refine chk_sx h (fun g4230 h => ?_)
                  refine seq_np ?_
                  refine reg_f ?_
                  have k4229 : 0 ≤ t67 ∧ t67 < ((c5q39.length : Nat) : Int) := by first | simpa only [Bool.and_eq_true, decide_eq_true_eq, bne_iff_ne, ne_eq] using g4230 | (simp at g4230 ⊢; omega)
                  refine rs 5 [none, none, some ⟨.ptr 5 (0 + (t67).toNat * 1), [], 6, [5]⟩, some ⟨iS (ix c5q39 t67), [], 6, [5]⟩] _ (by kernel_rfl) (allP_cons (ob_ld c5q39 t67 1 0 (0 + (t67).toNat * 1) k4229 rfl (by decide) (by first | rfl | omega) (dflS Try.prog 3) (iS (ix c5q39 t67)) rfl 6 [5]) (allP_cons (ob_ix_o 5 c5q39.length 0 1 6 t67 k4229) allP_nil)) ?_
                  refine rf [(1, .ptr 0 0), (3, .ptr 1 0), (4, .ptr 2 0), (6, .clo 23 [.ptr 0 0, .ptr 2 0, .ptr 3 0]), (7, iS i7), (17, iS readers130), (18, iS writers78), (19, iS t67), (148, bS ((ix c5q39 t67) == 2))] [(0, .row 26 [.sl c0q50.length (fl c0q50)]), (1, .row 24 [iS c1_Readers35, bS c1_Writer35, .own 4 0 c4q35.length]), (2, .row 26 [.own 5 0 c5q39.length]), (3, .row 3 [iS c3q50]), (4, .row 47 (fl c4q35)), (5, .row 3 (fl c5q39))] 6 (by kernel_rfl) ?_
                  refine wk_id ?_
                  refine cond_sx h (by kernel_rfl) (fun g4231 h => ?_) (fun g4231 h => ?_)
                  · refine reg_f ?_
                    refine rs 3 [] [] (by kernel_rfl) allP_nil ?_
                    refine rf [(1, .ptr 0 0), (3, .ptr 1 0), (4, .ptr 2 0), (6, .clo 23 [.ptr 0 0, .ptr 2 0, .ptr 3 0]), (7, iS i7), (17, iS readers130), (18, iS (IntKind.i64.wrap (writers78 + 1))), (19, iS t67)] [(0, .row 26 [.sl c0q50.length (fl c0q50)]), (1, .row 24 [iS c1_Readers35, bS c1_Writer35, .own 4 0 c4q35.length]), (2, .row 26 [.own 5 0 c5q39.length]), (3, .row 3 [iS c3q50]), (4, .row 47 (fl c4q35)), (5, .row 3 (fl c5q39))] 6 (by kernel_rfl) ?_
                    exact hK4216 (readers130, (IntKind.i64.wrap (writers78 + 1))) _ _ _ h (leSt_m [(0, 0), (1, 1), (2, 2), (3, 3), (4, 4), (5, 5)] [] (by simp only [push_cast, seval]) (by simp only [push_cast, seval]) rfl rfl rfl)
                  · exact hK4216 (readers130, writers78) _ _ _ h (leSt_m [(0, 0), (1, 1), (2, 2), (3, 3), (4, 4), (5, 5)] [] (by simp only [push_cast, seval]) (by simp only [push_cast, seval]) rfl rfl rfl)
              · rintro ⟨readers129, writers80⟩ h
                try dsimp only at h ⊢
                unfold taskmilllaw_LockAlone_j2 at h
                refine wk_id ?_
                refine reg_f ?_
                refine rs 3 [] [] (by kernel_rfl) allP_nil ?_
                refine rf [(1, .ptr 0 0), (3, .ptr 1 0), (4, .ptr 2 0), (6, .clo 23 [.ptr 0 0, .ptr 2 0, .ptr 3 0]), (7, iS i7), (17, iS readers129), (18, iS writers80), (19, iS (IntKind.i64.wrap (t67 + 1)))] [(0, .row 26 [.sl c0q50.length (fl c0q50)]), (1, .row 24 [iS c1_Readers35, bS c1_Writer35, .own 4 0 c4q35.length]), (2, .row 26 [.own 5 0 c5q39.length]), (3, .row 3 [iS c3q50]), (4, .row 47 (fl c4q35)), (5, .row 3 (fl c5q39))] 6 (by kernel_rfl) ?_
                exact hn6 (readers129, writers80, (IntKind.i64.wrap (t67 + 1))) _ _ _ (Option.some.inj h).symm (leSt_m [(0, 0), (1, 1), (2, 2), (3, 3), (4, 4), (5, 5)] [] (by simp only [push_cast, seval]) (by simp only [push_cast, seval]) rfl rfl rfl)
            · change R6 (.exit 5) _ _ _
              refine ex_cast hx6 (id := 5) ?_
              obtain ⟨r0, h, e0⟩ := map_sx h
              have e1 := hr6 r0 e0.symm
              subst r0
              refine wk_id ?_
              refine wk_id ?_
              refine seq_cut (A := Bool) (fun a => ([(1, .ptr 0 0), (3, .ptr 1 0), (4, .ptr 2 0), (6, .clo 23 [.ptr 0 0, .ptr 2 0, .ptr 3 0]), (7, iS i7), (179, bS a)], [(0, .row 26 [.sl c0q50.length (fl c0q50)]), (1, .row 24 [iS c1_Readers35, bS c1_Writer35, .own 4 0 c4q35.length]), (2, .row 26 [.own 5 0 c5q39.length]), (3, .row 3 [iS c3q50]), (4, .row 47 (fl c4q35)), (5, .row 3 (fl c5q39))], 6)) (fun a => (taskmilllaw_LockAlone_j4 i7 c0q50 c1_Readers35 c1_Writer35 c3q50 c4q35 c5q39 a) = some o4) (fun K4242 hK4242 => ?_) ?_
              · refine reg_f ?_
                refine rs 3 [] [] (by kernel_rfl) allP_nil ?_
                refine run_br h 153 (.inl (by kernel_rfl)) (fun g4243 h => ?_) (fun g4243 h => ?_)
                · refine rs 26 [] [] (by kernel_rfl) allP_nil ?_
                  refine rf [(1, .ptr 0 0), (3, .ptr 1 0), (4, .ptr 2 0), (6, .clo 23 [.ptr 0 0, .ptr 2 0, .ptr 3 0]), (7, iS i7), (179, bS true)] [(0, .row 26 [.sl c0q50.length (fl c0q50)]), (1, .row 24 [iS c1_Readers35, bS c1_Writer35, .own 4 0 c4q35.length]), (2, .row 26 [.own 5 0 c5q39.length]), (3, .row 3 [iS c3q50]), (4, .row 47 (fl c4q35)), (5, .row 3 (fl c5q39))] 6 (by kernel_rfl) ?_
                  exact hK4242 (true) _ _ _ h (leSt_m [(0, 0), (1, 1), (2, 2), (3, 3), (4, 4), (5, 5)] [] (by (try simp only [g4243]) <;> simp only [push_cast, seval]) (by (try simp only [g4243]) <;> simp only [push_cast, seval]) rfl rfl rfl)
                · refine rs 3 [] [] (by kernel_rfl) allP_nil ?_
                  refine run_br h 156 (.inr (by kernel_rfl)) (fun g4244 h => ?_) (fun g4244 h => ?_)
                  · refine rs 5 [] [] (by kernel_rfl) allP_nil ?_
                    refine run_br h 161 (.inl (by kernel_rfl)) (fun g4245 h => ?_) (fun g4245 h => ?_)
                    · refine rn 11 [(1, .ptr 0 0), (3, .ptr 1 0), (4, .ptr 2 0), (6, .clo 23 [.ptr 0 0, .ptr 2 0, .ptr 3 0]), (7, iS i7), (17, iS readers125), (18, iS writers78), (161, bS true)] [(0, .row 26 [.sl c0q50.length (fl c0q50)]), (1, .row 24 [iS c1_Readers35, bS c1_Writer35, .own 4 0 c4q35.length]), (2, .row 26 [.own 5 0 c5q39.length]), (3, .row 3 [iS c3q50]), (4, .row 47 (fl c4q35)), (5, .row 3 (fl c5q39))] 6 (by kernel_rfl) ?_
                      refine rs 18 [] [] (by kernel_rfl) allP_nil ?_
                      refine rf [(1, .ptr 0 0), (3, .ptr 1 0), (4, .ptr 2 0), (6, .clo 23 [.ptr 0 0, .ptr 2 0, .ptr 3 0]), (7, iS i7), (179, bS true)] [(0, .row 26 [.sl c0q50.length (fl c0q50)]), (1, .row 24 [iS c1_Readers35, bS c1_Writer35, .own 4 0 c4q35.length]), (2, .row 26 [.own 5 0 c5q39.length]), (3, .row 3 [iS c3q50]), (4, .row 47 (fl c4q35)), (5, .row 3 (fl c5q39))] 6 (by kernel_rfl) ?_
                      exact hK4242 (true) _ _ _ h (leSt_m [(0, 0), (1, 1), (2, 2), (3, 3), (4, 4), (5, 5)] [] (by first | ((try simp only [g4243, g4244, g4245]) <;> simp only [push_cast, seval]; done) | (exfalso; clear h; simp_all)) (by first | ((try simp only [g4243, g4244, g4245]) <;> simp only [push_cast, seval]; done) | (exfalso; clear h; simp_all)) rfl rfl rfl)
                    · refine rn 11 [(1, .ptr 0 0), (3, .ptr 1 0), (4, .ptr 2 0), (6, .clo 23 [.ptr 0 0, .ptr 2 0, .ptr 3 0]), (7, iS i7), (17, iS readers125), (18, iS writers78), (161, bS false)] [(0, .row 26 [.sl c0q50.length (fl c0q50)]), (1, .row 24 [iS c1_Readers35, bS c1_Writer35, .own 4 0 c4q35.length]), (2, .row 26 [.own 5 0 c5q39.length]), (3, .row 3 [iS c3q50]), (4, .row 47 (fl c4q35)), (5, .row 3 (fl c5q39))] 6 (by kernel_rfl) ?_
                      refine rs 6 [] [] (by kernel_rfl) allP_nil ?_
                      refine run_br h 167 (.inl (by kernel_rfl)) (fun g4246 h => ?_) (fun g4246 h => ?_)
                      · refine rs 12 [] [] (by kernel_rfl) allP_nil ?_
                        refine rf [(1, .ptr 0 0), (3, .ptr 1 0), (4, .ptr 2 0), (6, .clo 23 [.ptr 0 0, .ptr 2 0, .ptr 3 0]), (7, iS i7), (179, bS true)] [(0, .row 26 [.sl c0q50.length (fl c0q50)]), (1, .row 24 [iS c1_Readers35, bS c1_Writer35, .own 4 0 c4q35.length]), (2, .row 26 [.own 5 0 c5q39.length]), (3, .row 3 [iS c3q50]), (4, .row 47 (fl c4q35)), (5, .row 3 (fl c5q39))] 6 (by kernel_rfl) ?_
                        exact hK4242 (true) _ _ _ h (leSt_m [(0, 0), (1, 1), (2, 2), (3, 3), (4, 4), (5, 5)] [] (by first | ((try simp only [g4243, g4244, g4245, g4246]) <;> simp only [push_cast, seval]; done) | (exfalso; clear h; simp_all)) (by first | ((try simp only [g4243, g4244, g4245, g4246]) <;> simp only [push_cast, seval]; done) | (exfalso; clear h; simp_all)) rfl rfl rfl)
                      · refine rs 7 [] [] (by kernel_rfl) allP_nil ?_
                        refine run_br h 174 (.inl (by kernel_rfl)) (fun g4247 h => ?_) (fun g4247 h => ?_)
                        · refine rs 5 [] [] (by kernel_rfl) allP_nil ?_
                          refine rf [(1, .ptr 0 0), (3, .ptr 1 0), (4, .ptr 2 0), (6, .clo 23 [.ptr 0 0, .ptr 2 0, .ptr 3 0]), (7, iS i7), (179, bS true)] [(0, .row 26 [.sl c0q50.length (fl c0q50)]), (1, .row 24 [iS c1_Readers35, bS c1_Writer35, .own 4 0 c4q35.length]), (2, .row 26 [.own 5 0 c5q39.length]), (3, .row 3 [iS c3q50]), (4, .row 47 (fl c4q35)), (5, .row 3 (fl c5q39))] 6 (by kernel_rfl) ?_
                          exact hK4242 (true) _ _ _ h (leSt_m [(0, 0), (1, 1), (2, 2), (3, 3), (4, 4), (5, 5)] [] (by first | ((try simp only [g4243, g4244, g4245, g4246, g4247]) <;> simp only [push_cast, seval]; done) | (exfalso; clear h; simp_all)) (by first | ((try simp only [g4243, g4244, g4245, g4246, g4247]) <;> simp only [push_cast, seval]; done) | (exfalso; clear h; simp_all)) rfl rfl rfl)
                        · refine rs 1 [] [] (by kernel_rfl) allP_nil ?_
                          obtain ⟨r4248, hr4248, h⟩ := bind_sx h
                          refine call_x (lock_Check_spec (Lock.mk c1_Readers35 c1_Writer35 c4q35) r4248 hr4248) (args := [.agg [iS c1_Readers35, bS c1_Writer35, .own 4 0 c4q35.length]]) (dst := (some 176)) (by kernel_rfl) [(0, .row 26 [.sl c0q50.length (fl c0q50)]), (1, .row 24 [iS c1_Readers35, bS c1_Writer35, .own 4 0 c4q35.length]), (2, .row 26 [.own 5 0 c5q39.length]), (3, .row 3 [iS c3q50]), (4, .row 47 (fl c4q35)), (5, .row 3 (fl c5q39))] 6 (by kernel_rfl) [] [4] (.agg (Enc.cells r4248)) [] (by simp only [push_cast, seval]) (by simp only [push_cast, seval]) (by kernel_rfl) (.inr ⟨by simp only [push_cast, seval], by simp only [push_cast, seval]⟩) (by simp only [push_cast, seval]) (by simp only [push_cast, seval]) ?_
                          refine rn 26 [(1, .ptr 0 0), (3, .ptr 1 0), (4, .ptr 2 0), (6, .clo 23 [.ptr 0 0, .ptr 2 0, .ptr 3 0]), (7, iS i7), (174, bS false), (176, .agg (Enc.cells r4248))] [(0, .row 26 [.sl c0q50.length (fl c0q50)]), (1, .row 24 [iS c1_Readers35, bS c1_Writer35, .own 4 0 c4q35.length]), (2, .row 26 [.own 5 0 c5q39.length]), (3, .row 3 [iS c3q50]), (4, .row 47 (fl c4q35)), (5, .row 3 (fl c5q39))] 6 (by kernel_rfl) ?_
                          refine rs 3 [] [] (by kernel_rfl) allP_nil ?_
                          refine rf [(1, .ptr 0 0), (3, .ptr 1 0), (4, .ptr 2 0), (6, .clo 23 [.ptr 0 0, .ptr 2 0, .ptr 3 0]), (7, iS i7), (179, bS (r4248.Code != 0))] [(0, .row 26 [.sl c0q50.length (fl c0q50)]), (1, .row 24 [iS c1_Readers35, bS c1_Writer35, .own 4 0 c4q35.length]), (2, .row 26 [.own 5 0 c5q39.length]), (3, .row 3 [iS c3q50]), (4, .row 47 (fl c4q35)), (5, .row 3 (fl c5q39))] 6 (by kernel_rfl) ?_
                          exact hK4242 ((r4248.Code != 0)) _ _ _ h (leSt_m [(0, 0), (1, 1), (2, 2), (3, 3), (4, 4), (5, 5)] [] (by first | ((try simp only [g4243, g4244, g4245, g4246, g4247]) <;> simp only [push_cast, seval]; done) | (exfalso; clear h; simp_all)) (by first | ((try simp only [g4243, g4244, g4245, g4246, g4247]) <;> simp only [push_cast, seval]; done) | (exfalso; clear h; simp_all)) rfl rfl rfl)
                  · refine rs 11 [] [] (by kernel_rfl) allP_nil ?_
                    refine run_br h 167 (.inl (by kernel_rfl)) (fun g4249 h => ?_) (fun g4249 h => ?_)
                    · refine rn 17 [(1, .ptr 0 0), (3, .ptr 1 0), (4, .ptr 2 0), (6, .clo 23 [.ptr 0 0, .ptr 2 0, .ptr 3 0]), (7, iS i7), (18, iS writers78), (167, bS true)] [(0, .row 26 [.sl c0q50.length (fl c0q50)]), (1, .row 24 [iS c1_Readers35, bS c1_Writer35, .own 4 0 c4q35.length]), (2, .row 26 [.own 5 0 c5q39.length]), (3, .row 3 [iS c3q50]), (4, .row 47 (fl c4q35)), (5, .row 3 (fl c5q39))] 6 (by kernel_rfl) ?_
                      refine rs 12 [] [] (by kernel_rfl) allP_nil ?_
                      refine rf [(1, .ptr 0 0), (3, .ptr 1 0), (4, .ptr 2 0), (6, .clo 23 [.ptr 0 0, .ptr 2 0, .ptr 3 0]), (7, iS i7), (179, bS true)] [(0, .row 26 [.sl c0q50.length (fl c0q50)]), (1, .row 24 [iS c1_Readers35, bS c1_Writer35, .own 4 0 c4q35.length]), (2, .row 26 [.own 5 0 c5q39.length]), (3, .row 3 [iS c3q50]), (4, .row 47 (fl c4q35)), (5, .row 3 (fl c5q39))] 6 (by kernel_rfl) ?_
                      exact hK4242 (true) _ _ _ h (leSt_m [(0, 0), (1, 1), (2, 2), (3, 3), (4, 4), (5, 5)] [] (by first | ((try simp only [g4243, g4244, g4249]) <;> simp only [push_cast, seval]; done) | (exfalso; clear h; simp_all)) (by first | ((try simp only [g4243, g4244, g4249]) <;> simp only [push_cast, seval]; done) | (exfalso; clear h; simp_all)) rfl rfl rfl)
                    · refine rn 17 [(1, .ptr 0 0), (3, .ptr 1 0), (4, .ptr 2 0), (6, .clo 23 [.ptr 0 0, .ptr 2 0, .ptr 3 0]), (7, iS i7), (18, iS writers78), (167, bS false)] [(0, .row 26 [.sl c0q50.length (fl c0q50)]), (1, .row 24 [iS c1_Readers35, bS c1_Writer35, .own 4 0 c4q35.length]), (2, .row 26 [.own 5 0 c5q39.length]), (3, .row 3 [iS c3q50]), (4, .row 47 (fl c4q35)), (5, .row 3 (fl c5q39))] 6 (by kernel_rfl) ?_
                      refine rs 7 [] [] (by kernel_rfl) allP_nil ?_
                      refine run_br h 174 (.inl (by kernel_rfl)) (fun g4250 h => ?_) (fun g4250 h => ?_)
                      · refine rs 5 [] [] (by kernel_rfl) allP_nil ?_
                        refine rf [(1, .ptr 0 0), (3, .ptr 1 0), (4, .ptr 2 0), (6, .clo 23 [.ptr 0 0, .ptr 2 0, .ptr 3 0]), (7, iS i7), (179, bS true)] [(0, .row 26 [.sl c0q50.length (fl c0q50)]), (1, .row 24 [iS c1_Readers35, bS c1_Writer35, .own 4 0 c4q35.length]), (2, .row 26 [.own 5 0 c5q39.length]), (3, .row 3 [iS c3q50]), (4, .row 47 (fl c4q35)), (5, .row 3 (fl c5q39))] 6 (by kernel_rfl) ?_
                        exact hK4242 (true) _ _ _ h (leSt_m [(0, 0), (1, 1), (2, 2), (3, 3), (4, 4), (5, 5)] [] (by first | ((try simp only [g4243, g4244, g4249, g4250]) <;> simp only [push_cast, seval]; done) | (exfalso; clear h; simp_all)) (by first | ((try simp only [g4243, g4244, g4249, g4250]) <;> simp only [push_cast, seval]; done) | (exfalso; clear h; simp_all)) rfl rfl rfl)
                      · refine rs 1 [] [] (by kernel_rfl) allP_nil ?_
                        obtain ⟨r4251, hr4251, h⟩ := bind_sx h
                        refine call_x (lock_Check_spec (Lock.mk c1_Readers35 c1_Writer35 c4q35) r4251 hr4251) (args := [.agg [iS c1_Readers35, bS c1_Writer35, .own 4 0 c4q35.length]]) (dst := (some 176)) (by kernel_rfl) [(0, .row 26 [.sl c0q50.length (fl c0q50)]), (1, .row 24 [iS c1_Readers35, bS c1_Writer35, .own 4 0 c4q35.length]), (2, .row 26 [.own 5 0 c5q39.length]), (3, .row 3 [iS c3q50]), (4, .row 47 (fl c4q35)), (5, .row 3 (fl c5q39))] 6 (by kernel_rfl) [] [4] (.agg (Enc.cells r4251)) [] (by simp only [push_cast, seval]) (by simp only [push_cast, seval]) (by kernel_rfl) (.inr ⟨by simp only [push_cast, seval], by simp only [push_cast, seval]⟩) (by simp only [push_cast, seval]) (by simp only [push_cast, seval]) ?_
                        refine rs 3 [] [] (by kernel_rfl) allP_nil ?_
                        refine rf [(1, .ptr 0 0), (3, .ptr 1 0), (4, .ptr 2 0), (6, .clo 23 [.ptr 0 0, .ptr 2 0, .ptr 3 0]), (7, iS i7), (179, bS (r4251.Code != 0))] [(0, .row 26 [.sl c0q50.length (fl c0q50)]), (1, .row 24 [iS c1_Readers35, bS c1_Writer35, .own 4 0 c4q35.length]), (2, .row 26 [.own 5 0 c5q39.length]), (3, .row 3 [iS c3q50]), (4, .row 47 (fl c4q35)), (5, .row 3 (fl c5q39))] 6 (by kernel_rfl) ?_
                        exact hK4242 ((r4251.Code != 0)) _ _ _ h (leSt_m [(0, 0), (1, 1), (2, 2), (3, 3), (4, 4), (5, 5)] [] (by first | ((try simp only [g4243, g4244, g4249, g4250]) <;> simp only [push_cast, seval]; done) | (exfalso; clear h; simp_all)) (by first | ((try simp only [g4243, g4244, g4249, g4250]) <;> simp only [push_cast, seval]; done) | (exfalso; clear h; simp_all)) rfl rfl rfl)
              · rintro t179q13 h
                try dsimp only at h ⊢
                unfold taskmilllaw_LockAlone_j4 at h
                refine cond_sx h (by kernel_rfl) (fun g4252 h => ?_) (fun g4252 h => ?_)
                · refine seq_np ?_
                  refine reg_f ?_
                  refine rs 1 [] [] (by kernel_rfl) allP_nil ?_
                  refine rf [(2, bS false)] [(0, .row 26 [.sl c0q50.length (fl c0q50)]), (1, .row 24 [iS c1_Readers35, bS c1_Writer35, .own 4 0 c4q35.length]), (2, .row 26 [.own 5 0 c5q39.length]), (3, .row 3 [iS c3q50]), (4, .row 47 (fl c4q35)), (5, .row 3 (fl c5q39))] 6 (by kernel_rfl) ?_
                  refine wk_id ?_
                  refine rt_cast ht4 ?_
                  obtain ⟨r0, h, e0⟩ := map_sx h
                  have e1 := hr4 r0 e0.symm
                  subst r0
                  obtain rfl := Option.some.inj h
                  refine ret_at (bS false) (by kernel_rfl) ?_
                  exact ret_e [] [] (by simp only [push_cast, seval]) (by simp only [push_cast, seval]) rfl rfl rfl
                · exact hK3864 (c0q50, c1_Readers35, c1_Writer35, c3q50, c4q35, c5q39) _ _ _ h (leSt_m [(0, 0), (1, 1), (2, 2), (3, 3), (4, 4), (5, 5)] [] (by simp only [push_cast, seval]) (by simp only [push_cast, seval]) rfl rfl rfl)
        · rintro ⟨c0q46, c1_Readers33, c1_Writer33, c3q46, c4q33, c5q37⟩ h
          try dsimp only at h ⊢
          unfold taskmilllaw_LockAlone_j1 at h
          refine wk_id ?_
          refine reg_f ?_
          refine rs 3 [] [] (by kernel_rfl) allP_nil ?_
          refine rf [(1, .ptr 0 0), (3, .ptr 1 0), (4, .ptr 2 0), (6, .clo 23 [.ptr 0 0, .ptr 2 0, .ptr 3 0]), (7, iS (IntKind.i64.wrap (i7 + 1)))] [(0, .row 26 [.sl c0q46.length (fl c0q46)]), (1, .row 24 [iS c1_Readers33, bS c1_Writer33, .own 4 0 c4q33.length]), (2, .row 26 [.own 5 0 c5q37.length]), (3, .row 3 [iS c3q46]), (4, .row 47 (fl c4q33)), (5, .row 3 (fl c5q37))] 6 (by kernel_rfl) ?_
          exact hn4 ((IntKind.i64.wrap (i7 + 1)), c0q46, c1_Readers33, c1_Writer33, c3q46, c4q33, c5q37) _ _ _ (Option.some.inj h).symm (leSt_m [(0, 0), (1, 1), (2, 2), (3, 3), (4, 4), (5, 5)] [] (by simp only [push_cast, seval]) (by simp only [push_cast, seval]) rfl rfl rfl)
      · change R4 (.exit 0) _ _ _
        refine ex_cast hx4 (id := 0) ?_
        obtain ⟨r0, h, e0⟩ := map_sx h
        have e1 := hr4 r0 e0.symm
        subst r0
        refine wk_id ?_
        refine wk_id ?_
        refine seq_np ?_
        refine reg_f ?_
        refine rs 1 [] [] (by kernel_rfl) allP_nil ?_
        refine rf [(2, bS true)] [(0, .row 26 [.sl c0q40.length (fl c0q40)]), (1, .row 24 [iS c1_Readers29, bS c1_Writer29, .own 4 0 c4q29.length]), (2, .row 26 [.own 5 0 c5q33.length]), (3, .row 3 [iS c3q40]), (4, .row 47 (fl c4q29)), (5, .row 3 (fl c5q33))] 6 (by kernel_rfl) ?_
        refine wk_id ?_
        obtain rfl := Option.some.inj h
        refine ret_at (bS true) (by kernel_rfl) ?_
        exact ret_e [] [] (by simp only [push_cast, seval]) (by simp only [push_cast, seval]) rfl rfl rfl

set_option maxRecDepth 100000 in
set_option maxHeartbeats 10000000 in
theorem taskmilllaw_LockMutex_spec (n : Int) (r : Bool) (h : taskmilllaw_LockMutex n = some r) : SpecW Try.prog 6 [iS n] [] 0 (fun x h n => x = bS r ∧ h = [] ∧ n = 0) := by
  unfold taskmilllaw_LockMutex at h
  refine spec_of (draw_ok _) Try.func6 rfl (by decide) rfl (by kernel_rfl) ?_
  refine seq_np ?_
  refine reg_f ?_
  refine rs 1 [] [] (by kernel_rfl) allP_nil ?_
  refine rf [(0, iS n)] [] 0 (by kernel_rfl) ?_
  refine wk_id ?_
  refine seq_np ?_
  refine seq_np ?_
  refine reg_f ?_
  obtain ⟨r4320, hr4320, h⟩ := bind_sx h
  refine run_call 8 [] (some 17) (by kernel_rfl) ?_
  refine call_0 (taskmilllaw_lockBegun_spec r4320 hr4320) (by simp only [push_cast, seval]) (by simp only [push_cast, seval]) ?_
  refine back_f ?_
  refine rs 1 [] [] (by kernel_rfl) allP_nil ?_
  refine rf [(0, iS n), (18, bS (!r4320))] [] 0 (by kernel_rfl) ?_
  refine wk_id ?_
  refine cond_sx h (by kernel_rfl) (fun g4540 h => ?_) (fun g4540 h => ?_)
  · refine seq_np ?_
    refine reg_f ?_
    refine rs 1 [] [] (by kernel_rfl) allP_nil ?_
    refine rf [(2, bS false)] [] 0 (by kernel_rfl) ?_
    refine wk_id ?_
    obtain rfl := Option.some.inj h
    refine ret_at (bS false) (by kernel_rfl) ?_
    exact ret_e [] [] (by simp only [push_cast, seval]) (by simp only [push_cast, seval]) rfl rfl rfl
  · refine wk_id ?_
    refine seq_np ?_
    refine seq_cut (A := Unit) (fun _ => ([(0, iS n), (24, bS ((decide (n < 1)) || (decide ((100 : Int) < n))))], [], 0)) (fun _ => True) (fun K4324 hK4324 => ?_) (fun _ _ => ?_)
    · refine reg_f ?_
      refine rs 3 [] [] (by kernel_rfl) allP_nil ?_
      refine run_split 21 (decide (n < 1)) (.inl (by kernel_rfl)) (fun g4325 => ?_) (fun g4325 => ?_)
      · refine rs 3 [] [] (by kernel_rfl) allP_nil ?_
        refine rf [(0, iS n), (24, bS true)] [] 0 (by kernel_rfl) ?_
        exact hK4324 () _ _ _ trivial (leSt_m [] [] (by (try simp only [g4325]) <;> simp only [push_cast, seval]) (by (try simp only [g4325]) <;> simp only [push_cast, seval]) rfl rfl rfl)
      · refine rs 3 [] [] (by kernel_rfl) allP_nil ?_
        refine rf [(0, iS n), (24, bS (decide ((100 : Int) < n)))] [] 0 (by kernel_rfl) ?_
        exact hK4324 () _ _ _ trivial (leSt_m [] [] (by (try simp only [g4325]) <;> simp only [push_cast, seval]) (by (try simp only [g4325]) <;> simp only [push_cast, seval]) rfl rfl rfl)
    · dsimp only
      refine cond_sx h (by kernel_rfl) (fun g4539 h => ?_) (fun g4539 h => ?_)
      · refine seq_np ?_
        refine reg_f ?_
        refine rs 1 [] [] (by kernel_rfl) allP_nil ?_
        refine rf [(2, bS true)] [] 0 (by kernel_rfl) ?_
        refine wk_id ?_
        obtain rfl := Option.some.inj h
        refine ret_at (bS true) (by kernel_rfl) ?_
        exact ret_e [] [] (by simp only [push_cast, seval]) (by simp only [push_cast, seval]) rfl rfl rfl
      · refine wk_id ?_
        refine seq_np ?_
        refine reg_f ?_
        refine rs 3 [] [] (by kernel_rfl) allP_nil ?_
        refine rf [(0, iS n), (3, .ptr 0 0)] [(0, .row 24 [iS 0, bS false, .v (.slice none 0 0)])] 1 (by kernel_rfl) ?_
        refine wk_id ?_
        refine seq_np ?_
        refine seq_np ?_
        refine reg_f ?_
        refine rs 1 [] [] (by kernel_rfl) allP_nil ?_
        refine rf [(0, iS n), (3, .ptr 0 0), (4, iS 1)] [(0, .row 24 [iS 0, bS false, .v (.slice none 0 0)])] 1 (by kernel_rfl) ?_
        refine wk_id ?_
        refine block_np ?_
        refine loop_sx (S := Int × Int × Bool × (List Want)) (fun a => ([(0, iS n), (3, .ptr 0 0), (4, iS a.1)], [(0, .row 24 [iS a.2.1, bS a.2.2.1, .own 1 0 a.2.2.2.length]), (1, .row 47 (fl a.2.2.2))], 2)) h (leSt_m [(0, 0)] [] (by simp only [push_cast, seval]) (by simp only [push_cast, seval]) rfl rfl rfl) ?_
        rintro ⟨t9, c0_Readers9, c0_Writer9, c1q9⟩ o3 R3 h hr3 hn3 hx3 ht3
        try dsimp only at h hn3 ⊢
        unfold taskmilllaw_LockMutex_l2 at h
        try dsimp only at h
        refine seq_np ?_
        refine seq_np ?_
        refine reg_f ?_
        refine rs 3 [] [] (by kernel_rfl) allP_nil ?_
        refine rf [(0, iS n), (3, .ptr 0 0), (4, iS t9), (28, bS (decide (t9 ≤ n)))] [(0, .row 24 [iS c0_Readers9, bS c0_Writer9, .own 1 0 c1q9.length]), (1, .row 47 (fl c1q9))] 2 (by kernel_rfl) ?_
        refine wk_id ?_
        refine cond_sx h (by kernel_rfl) (fun g4538 h => ?_) (fun g4538 h => ?_)
        · refine wk_id ?_
          refine seq_np ?_
          refine block_np ?_
          refine seq_np ?_
          refine reg_f ?_
          refine rs 2 [] [] (by kernel_rfl) allP_nil ?_
          obtain ⟨r4369, hr4369, h⟩ := bind_sx h
          refine call_x (lock_Enter_spec (Lock.mk c0_Readers9 c0_Writer9 c1q9) t9 true false r4369 hr4369) (args := [.agg [iS c0_Readers9, bS c0_Writer9, .own 1 0 c1q9.length], iS t9, bS true, bS false]) (dst := (some 34)) (by kernel_rfl) [(0, .row 24 [iS c0_Readers9, bS c0_Writer9, .own 1 0 c1q9.length]), (1, .row 47 (fl c1q9))] 2 (by kernel_rfl) [] [1] (.tup [.agg [iS r4369.1, bS r4369.2.1, .own 2 0 r4369.2.2.2.2.length], bS r4369.2.2.1, .agg (Enc.cells r4369.2.2.2.1)]) [(2, .row 47 (fl r4369.2.2.2.2))] (by simp only [push_cast, seval]) (by simp only [push_cast, seval]) (by kernel_rfl) (.inr ⟨by simp only [push_cast, seval], by simp only [push_cast, seval]⟩) (by simp only [push_cast, seval]) (by simp only [push_cast, seval]) ?_
          refine rs 9 [] [] (by kernel_rfl) allP_nil ?_
          refine rf [(0, iS n), (3, .ptr 0 0), (4, iS t9), (5, .ptr 3 0), (6, bS r4369.2.2.1), (7, .ptr 4 0)] [(0, .row 24 [iS c0_Readers9, bS c0_Writer9, .own 1 0 c1q9.length]), (1, .row 47 (fl c1q9)), (2, .row 47 (fl r4369.2.2.2.2)), (3, .row 24 [iS r4369.1, bS r4369.2.1, .own 2 0 r4369.2.2.2.2.length]), (4, .row 28 (Enc.cells r4369.2.2.2.1))] 5 (by kernel_rfl) ?_
          refine wk_id ?_
          refine seq_np ?_
          refine seq_cut (A := Unit) (fun _ => ([(0, iS n), (3, .ptr 0 0), (4, iS t9), (5, .ptr 3 0), (46, bS ((r4369.2.2.2.1.Code != 0) || (r4369.2.2.1 != (t9 == 1))))], [(0, .row 24 [iS c0_Readers9, bS c0_Writer9, .own 1 0 c1q9.length]), (1, .row 47 (fl c1q9)), (2, .row 47 (fl r4369.2.2.2.2)), (3, .row 24 [iS r4369.1, bS r4369.2.1, .own 2 0 r4369.2.2.2.2.length]), (4, .row 28 (Enc.cells r4369.2.2.2.1))], 5)) (fun _ => True) (fun K4373 hK4373 => ?_) (fun _ _ => ?_)
          · refine reg_f ?_
            refine rs 4 [] [] (by kernel_rfl) allP_nil ?_
            refine run_split 41 (r4369.2.2.2.1.Code != 0) (.inl (by kernel_rfl)) (fun g4374 => ?_) (fun g4374 => ?_)
            · refine rs 5 [] [] (by kernel_rfl) allP_nil ?_
              refine rf [(0, iS n), (3, .ptr 0 0), (4, iS t9), (5, .ptr 3 0), (46, bS true)] [(0, .row 24 [iS c0_Readers9, bS c0_Writer9, .own 1 0 c1q9.length]), (1, .row 47 (fl c1q9)), (2, .row 47 (fl r4369.2.2.2.2)), (3, .row 24 [iS r4369.1, bS r4369.2.1, .own 2 0 r4369.2.2.2.2.length]), (4, .row 28 (Enc.cells r4369.2.2.2.1))] 5 (by kernel_rfl) ?_
              exact hK4373 () _ _ _ trivial (leSt_m [(0, 0), (1, 1), (2, 2), (3, 3), (4, 4)] [] (by (try simp only [g4374]) <;> simp only [push_cast, seval]) (by (try simp only [g4374]) <;> simp only [push_cast, seval]) rfl rfl rfl)
            · refine rs 5 [] [] (by kernel_rfl) allP_nil ?_
              refine rf [(0, iS n), (3, .ptr 0 0), (4, iS t9), (5, .ptr 3 0), (46, bS (r4369.2.2.1 != (t9 == 1)))] [(0, .row 24 [iS c0_Readers9, bS c0_Writer9, .own 1 0 c1q9.length]), (1, .row 47 (fl c1q9)), (2, .row 47 (fl r4369.2.2.2.2)), (3, .row 24 [iS r4369.1, bS r4369.2.1, .own 2 0 r4369.2.2.2.2.length]), (4, .row 28 (Enc.cells r4369.2.2.2.1))] 5 (by kernel_rfl) ?_
              exact hK4373 () _ _ _ trivial (leSt_m [(0, 0), (1, 1), (2, 2), (3, 3), (4, 4)] [] (by (try simp only [g4374]) <;> simp only [push_cast, seval]) (by (try simp only [g4374]) <;> simp only [push_cast, seval]) rfl rfl rfl)
          · dsimp only
            refine cond_sx h (by kernel_rfl) (fun g4375 h => ?_) (fun g4375 h => ?_)
            · refine seq_np ?_
              refine reg_f ?_
              refine rs 1 [] [] (by kernel_rfl) allP_nil ?_
              refine rf [(2, bS false)] [(0, .row 24 [iS c0_Readers9, bS c0_Writer9, .own 1 0 c1q9.length]), (1, .row 47 (fl c1q9)), (2, .row 47 (fl r4369.2.2.2.2)), (3, .row 24 [iS r4369.1, bS r4369.2.1, .own 2 0 r4369.2.2.2.2.length]), (4, .row 28 (Enc.cells r4369.2.2.2.1))] 5 (by kernel_rfl) ?_
              refine wk_id ?_
              refine rt_cast ht3 ?_
              obtain ⟨r0, h, e0⟩ := map_sx h
              have e1 := hr3 r0 e0.symm
              subst r0
              obtain rfl := Option.some.inj h
              refine ret_at (bS false) (by kernel_rfl) ?_
              exact ret_e [] [] (by simp only [push_cast, seval]) (by simp only [push_cast, seval]) rfl rfl rfl
            · refine wk_id ?_
              refine reg_f ?_
              refine rs 2 [] [] (by kernel_rfl) allP_nil ?_
              refine rf [(0, iS n), (3, .ptr 0 0), (4, iS t9)] [(0, .row 24 [iS r4369.1, bS r4369.2.1, .own 2 0 r4369.2.2.2.2.length]), (1, .row 47 (fl c1q9)), (2, .row 47 (fl r4369.2.2.2.2)), (3, .row 24 [iS r4369.1, bS r4369.2.1, .own 2 0 r4369.2.2.2.2.length]), (4, .row 28 (Enc.cells r4369.2.2.2.1))] 5 (by kernel_rfl) ?_
              refine wk_id ?_
              refine wk_id ?_
              refine reg_f ?_
              refine rs 3 [] [] (by kernel_rfl) allP_nil ?_
              refine rf [(0, iS n), (3, .ptr 0 0), (4, iS (IntKind.i64.wrap (t9 + 1)))] [(0, .row 24 [iS r4369.1, bS r4369.2.1, .own 2 0 r4369.2.2.2.2.length]), (1, .row 47 (fl c1q9)), (2, .row 47 (fl r4369.2.2.2.2)), (3, .row 24 [iS r4369.1, bS r4369.2.1, .own 2 0 r4369.2.2.2.2.length]), (4, .row 28 (Enc.cells r4369.2.2.2.1))] 5 (by kernel_rfl) ?_
              exact hn3 ((IntKind.i64.wrap (t9 + 1)), r4369.1, r4369.2.1, r4369.2.2.2.2) _ _ _ (Option.some.inj h).symm (leSt_m [(0, 0), (1, 2)] [] (by simp only [push_cast, seval]) (by simp only [push_cast, seval]) rfl rfl rfl)
        · change R3 (.exit 0) _ _ _
          refine ex_cast hx3 (id := 0) ?_
          obtain ⟨r0, h, e0⟩ := map_sx h
          have e1 := hr3 r0 e0.symm
          subst r0
          refine wk_id ?_
          refine wk_id ?_
          refine seq_np ?_
          refine seq_np ?_
          refine reg_f ?_
          refine rs 1 [] [] (by kernel_rfl) allP_nil ?_
          refine rf [(0, iS n), (3, .ptr 0 0), (8, iS 2)] [(0, .row 24 [iS c0_Readers9, bS c0_Writer9, .own 1 0 c1q9.length]), (1, .row 47 (fl c1q9))] 2 (by kernel_rfl) ?_
          refine wk_id ?_
          refine block_np ?_
          refine loop_sx (S := Int × Int × Bool × (List Want)) (fun a => ([(0, iS n), (3, .ptr 0 0), (8, iS a.1)], [(0, .row 24 [iS a.2.1, bS a.2.2.1, .own 1 0 a.2.2.2.length]), (1, .row 47 (fl a.2.2.2))], 2)) h (leSt_m [(0, 0), (1, 1)] [] (by simp only [push_cast, seval]) (by simp only [push_cast, seval]) rfl rfl rfl) ?_
          rintro ⟨t15, c0_Readers15, c0_Writer15, c1q15⟩ o4 R4 h hr4 hn4 hx4 ht4
          try dsimp only at h hn4 ⊢
          unfold taskmilllaw_LockMutex_l1 at h
          try dsimp only at h
          refine seq_np ?_
          refine seq_np ?_
          refine reg_f ?_
          refine rs 4 [] [] (by kernel_rfl) allP_nil ?_
          refine rf [(0, iS n), (3, .ptr 0 0), (8, iS t15), (51, bS (decide (t15 ≤ (IntKind.i64.wrap (n + 1)))))] [(0, .row 24 [iS c0_Readers15, bS c0_Writer15, .own 1 0 c1q15.length]), (1, .row 47 (fl c1q15))] 2 (by kernel_rfl) ?_
          refine wk_id ?_
          refine cond_sx h (by kernel_rfl) (fun g4537 h => ?_) (fun g4537 h => ?_)
          · refine wk_id ?_
            refine seq_np ?_
            refine block_np ?_
            refine seq_np ?_
            refine reg_f ?_
            refine rs 1 [] [] (by kernel_rfl) allP_nil ?_
            obtain ⟨r4499, hr4499, h⟩ := bind_sx h
            refine call_x (lock_Leave_spec (Lock.mk c0_Readers15 c0_Writer15 c1q15) true r4499 hr4499) (args := [.agg [iS c0_Readers15, bS c0_Writer15, .own 1 0 c1q15.length], bS true]) (dst := (some 56)) (by kernel_rfl) [(0, .row 24 [iS c0_Readers15, bS c0_Writer15, .own 1 0 c1q15.length]), (1, .row 47 (fl c1q15))] 2 (by kernel_rfl) [] [1] (.tup [.agg [iS r4499.1, bS r4499.2.1, .own 2 0 r4499.2.2.2.2.1.length], .own 3 0 r4499.2.2.2.2.2.length, bS r4499.2.2.1, .agg (Enc.cells r4499.2.2.2.1)]) [(2, .row 47 (fl r4499.2.2.2.2.1)), (3, .row 3 (fl r4499.2.2.2.2.2))] (by simp only [push_cast, seval]) (by simp only [push_cast, seval]) (by kernel_rfl) (.inr ⟨by simp only [push_cast, seval], by simp only [push_cast, seval]⟩) (by simp only [push_cast, seval]) (by simp only [push_cast, seval]) ?_
            refine rs 11 [] [] (by kernel_rfl) allP_nil ?_
            refine rf [(0, iS n), (3, .ptr 0 0), (8, iS t15), (9, .ptr 4 0), (10, .own 3 0 r4499.2.2.2.2.2.length), (11, bS r4499.2.2.1), (12, .ptr 5 0)] [(0, .row 24 [iS c0_Readers15, bS c0_Writer15, .own 1 0 c1q15.length]), (1, .row 47 (fl c1q15)), (2, .row 47 (fl r4499.2.2.2.2.1)), (3, .row 3 (fl r4499.2.2.2.2.2)), (4, .row 24 [iS r4499.1, bS r4499.2.1, .own 2 0 r4499.2.2.2.2.1.length]), (5, .row 28 (Enc.cells r4499.2.2.2.1))] 6 (by kernel_rfl) ?_
            refine wk_id ?_
            refine seq_np ?_
            refine seq_cut (A := Bool × Int × Bool × (List Want)) (fun a => ([(0, iS n), (3, .ptr 0 0), (8, iS t15), (9, .ptr 1 0), (88, bS a.1)], [(0, .row 24 [iS c0_Readers15, bS c0_Writer15, .own 2 0 c1q15.length]), (1, .row 24 [iS a.2.1, bS a.2.2.1, .own 3 0 a.2.2.2.length]), (2, .row 47 (fl c1q15)), (3, .row 47 (fl a.2.2.2))], 4)) (fun a => (taskmilllaw_LockMutex_j1 n t15 c0_Readers15 c0_Writer15 c1q15 a.1 a.2.1 a.2.2.1 a.2.2.2) = some o4) (fun K4518 hK4518 => ?_) ?_
            · refine reg_f ?_
              refine rs 4 [] [] (by kernel_rfl) allP_nil ?_
              refine run_br h 64 (.inl (by kernel_rfl)) (fun g4519 h => ?_) (fun g4519 h => ?_)
              · refine rs 24 [] [] (by kernel_rfl) allP_nil ?_
                refine rf [(0, iS n), (3, .ptr 0 0), (8, iS t15), (9, .ptr 4 0), (88, bS true)] [(0, .row 24 [iS c0_Readers15, bS c0_Writer15, .own 1 0 c1q15.length]), (1, .row 47 (fl c1q15)), (2, .row 47 (fl r4499.2.2.2.2.1)), (3, .row 3 (fl r4499.2.2.2.2.2)), (4, .row 24 [iS r4499.1, bS r4499.2.1, .own 2 0 r4499.2.2.2.2.1.length]), (5, .row 28 (Enc.cells r4499.2.2.2.1))] 6 (by kernel_rfl) ?_
                exact hK4518 (true, r4499.1, r4499.2.1, r4499.2.2.2.2.1) _ _ _ h (leSt_m [(0, 0), (1, 4), (2, 1), (3, 2)] [] (by (try simp only [g4519]) <;> simp only [push_cast, seval]) (by (try simp only [g4519]) <;> simp only [push_cast, seval]) rfl rfl rfl)
              · refine rs 3 [] [] (by kernel_rfl) allP_nil ?_
                refine run_br h 67 (.inl (by kernel_rfl)) (fun g4520 h => ?_) (fun g4520 h => ?_)
                · refine rs 21 [] [] (by kernel_rfl) allP_nil ?_
                  refine rf [(0, iS n), (3, .ptr 0 0), (8, iS t15), (9, .ptr 4 0), (88, bS true)] [(0, .row 24 [iS c0_Readers15, bS c0_Writer15, .own 1 0 c1q15.length]), (1, .row 47 (fl c1q15)), (2, .row 47 (fl r4499.2.2.2.2.1)), (3, .row 3 (fl r4499.2.2.2.2.2)), (4, .row 24 [iS r4499.1, bS r4499.2.1, .own 2 0 r4499.2.2.2.2.1.length]), (5, .row 28 (Enc.cells r4499.2.2.2.1))] 6 (by kernel_rfl) ?_
                  exact hK4518 (true, r4499.1, r4499.2.1, r4499.2.2.2.2.1) _ _ _ h (leSt_m [(0, 0), (1, 4), (2, 1), (3, 2)] [] (by first | ((try simp only [g4519, g4520]) <;> simp only [push_cast, seval]; done) | (exfalso; clear h; simp_all)) (by first | ((try simp only [g4519, g4520]) <;> simp only [push_cast, seval]; done) | (exfalso; clear h; simp_all)) rfl rfl rfl)
                · refine rs 4 [] [] (by kernel_rfl) allP_nil ?_
                  refine run_br h 71 (.inr (by kernel_rfl)) (fun g4521 h => ?_) (fun g4521 h => ?_)
                  · refine rn 11 [(0, iS n), (3, .ptr 0 0), (8, iS t15), (9, .ptr 4 0), (10, .own 3 0 r4499.2.2.2.2.2.length), (67, bS false), (71, .gd true (bS true))] [(0, .row 24 [iS c0_Readers15, bS c0_Writer15, .own 1 0 c1q15.length]), (1, .row 47 (fl c1q15)), (2, .row 47 (fl r4499.2.2.2.2.1)), (3, .row 3 (fl r4499.2.2.2.2.2)), (4, .row 24 [iS r4499.1, bS r4499.2.1, .own 2 0 r4499.2.2.2.2.1.length]), (5, .row 28 (Enc.cells r4499.2.2.2.1))] 6 (by kernel_rfl) ?_
                    refine rs 3 [] [] (by kernel_rfl) allP_nil ?_
                    obtain ⟨r4522, hr4522, h⟩ := bind_sx h
                    refine call_x (taskmillref_Ints_spec r4499.2.2.2.2.2 ([t15] : List Int) r4522 hr4522) (args := [.own 3 0 r4499.2.2.2.2.2.length, .own 6 0 ([t15] : List Int).length]) (dst := (some 75)) (by kernel_rfl) [(0, .row 24 [iS c0_Readers15, bS c0_Writer15, .own 1 0 c1q15.length]), (1, .row 47 (fl c1q15)), (2, .row 47 (fl r4499.2.2.2.2.1)), (3, .row 3 (fl r4499.2.2.2.2.2)), (4, .row 24 [iS r4499.1, bS r4499.2.1, .own 2 0 r4499.2.2.2.2.1.length]), (5, .row 28 (Enc.cells r4499.2.2.2.1)), (6, .row 3 (fl ([t15] : List Int)))] 7 (by kernel_rfl) [] [3, 6] (bS r4522) [] (by simp only [push_cast, seval]) (by simp only [push_cast, seval]) (by kernel_rfl) (.inr ⟨by simp only [push_cast, seval], by simp only [push_cast, seval]⟩) (by simp only [push_cast, seval]) (by simp only [push_cast, seval]) ?_
                    refine rs 4 [] [] (by kernel_rfl) allP_nil ?_
                    refine run_br h 79 (.inl (by kernel_rfl)) (fun g4523 h => ?_) (fun g4523 h => ?_)
                    · refine rs 9 [] [] (by kernel_rfl) allP_nil ?_
                      refine rf [(0, iS n), (3, .ptr 0 0), (8, iS t15), (9, .ptr 4 0), (88, bS true)] [(0, .row 24 [iS c0_Readers15, bS c0_Writer15, .own 1 0 c1q15.length]), (1, .row 47 (fl c1q15)), (2, .row 47 (fl r4499.2.2.2.2.1)), (3, .row 3 (fl r4499.2.2.2.2.2)), (4, .row 24 [iS r4499.1, bS r4499.2.1, .own 2 0 r4499.2.2.2.2.1.length]), (5, .row 28 (Enc.cells r4499.2.2.2.1)), (6, .row 3 (fl ([t15] : List Int)))] 7 (by kernel_rfl) ?_
                      exact hK4518 (true, r4499.1, r4499.2.1, r4499.2.2.2.2.1) _ _ _ h (leSt_m [(0, 0), (1, 4), (2, 1), (3, 2)] [] (by first | ((try simp only [g4519, g4520, g4521, g4523]) <;> simp only [push_cast, seval]; done) | (exfalso; clear h; simp_all)) (by first | ((try simp only [g4519, g4520, g4521, g4523]) <;> simp only [push_cast, seval]; done) | (exfalso; clear h; simp_all)) rfl rfl rfl)
                    · refine rs 4 [] [] (by kernel_rfl) allP_nil ?_
                      refine run_br h 83 (.inr (by kernel_rfl)) (fun g4524 h => ?_) (fun g4524 h => ?_)
                      · refine rn 23 [(0, iS n), (3, .ptr 0 0), (8, iS t15), (9, .ptr 4 0), (10, .own 3 0 r4499.2.2.2.2.2.length), (79, bS false), (83, .gd true (bS true))] [(0, .row 24 [iS c0_Readers15, bS c0_Writer15, .own 1 0 c1q15.length]), (1, .row 47 (fl c1q15)), (2, .row 47 (fl r4499.2.2.2.2.1)), (3, .row 3 (fl r4499.2.2.2.2.2)), (4, .row 24 [iS r4499.1, bS r4499.2.1, .own 2 0 r4499.2.2.2.2.1.length]), (5, .row 28 (Enc.cells r4499.2.2.2.1)), (6, .row 3 (fl ([t15] : List Int)))] 7 (by kernel_rfl) ?_
                        refine rs 5 [] [] (by kernel_rfl) allP_nil ?_
                        refine rf [(0, iS n), (3, .ptr 0 0), (8, iS t15), (9, .ptr 4 0), (88, bS (decide ((0 : Int) < ((r4499.2.2.2.2.2.length : Nat) : Int))))] [(0, .row 24 [iS c0_Readers15, bS c0_Writer15, .own 1 0 c1q15.length]), (1, .row 47 (fl c1q15)), (2, .row 47 (fl r4499.2.2.2.2.1)), (3, .row 3 (fl r4499.2.2.2.2.2)), (4, .row 24 [iS r4499.1, bS r4499.2.1, .own 2 0 r4499.2.2.2.2.1.length]), (5, .row 28 (Enc.cells r4499.2.2.2.1)), (6, .row 3 (fl ([t15] : List Int)))] 7 (by kernel_rfl) ?_
                        exact hK4518 ((decide ((0 : Int) < ((r4499.2.2.2.2.2.length : Nat) : Int))), r4499.1, r4499.2.1, r4499.2.2.2.2.1) _ _ _ h (leSt_m [(0, 0), (1, 4), (2, 1), (3, 2)] [] (by first | ((try simp only [g4519, g4520, g4521, g4523, g4524]) <;> simp only [push_cast, seval]; done) | (exfalso; clear h; simp_all)) (by first | ((try simp only [g4519, g4520, g4521, g4523, g4524]) <;> simp only [push_cast, seval]; done) | (exfalso; clear h; simp_all)) rfl rfl rfl)
                      · refine rn 23 [(0, iS n), (3, .ptr 0 0), (8, iS t15), (9, .ptr 4 0), (10, .own 3 0 r4499.2.2.2.2.2.length), (79, bS false), (83, .gd true (bS false))] [(0, .row 24 [iS c0_Readers15, bS c0_Writer15, .own 1 0 c1q15.length]), (1, .row 47 (fl c1q15)), (2, .row 47 (fl r4499.2.2.2.2.1)), (3, .row 3 (fl r4499.2.2.2.2.2)), (4, .row 24 [iS r4499.1, bS r4499.2.1, .own 2 0 r4499.2.2.2.2.1.length]), (5, .row 28 (Enc.cells r4499.2.2.2.1)), (6, .row 3 (fl ([t15] : List Int)))] 7 (by kernel_rfl) ?_
                        refine rs 5 [] [] (by kernel_rfl) allP_nil ?_
                        refine rf [(0, iS n), (3, .ptr 0 0), (8, iS t15), (9, .ptr 4 0), (88, bS false)] [(0, .row 24 [iS c0_Readers15, bS c0_Writer15, .own 1 0 c1q15.length]), (1, .row 47 (fl c1q15)), (2, .row 47 (fl r4499.2.2.2.2.1)), (3, .row 3 (fl r4499.2.2.2.2.2)), (4, .row 24 [iS r4499.1, bS r4499.2.1, .own 2 0 r4499.2.2.2.2.1.length]), (5, .row 28 (Enc.cells r4499.2.2.2.1)), (6, .row 3 (fl ([t15] : List Int)))] 7 (by kernel_rfl) ?_
                        exact hK4518 (false, r4499.1, r4499.2.1, r4499.2.2.2.2.1) _ _ _ h (leSt_m [(0, 0), (1, 4), (2, 1), (3, 2)] [] (by first | ((try simp only [g4519, g4520, g4521, g4523, g4524]) <;> simp only [push_cast, seval]; done) | (exfalso; clear h; simp_all)) (by first | ((try simp only [g4519, g4520, g4521, g4523, g4524]) <;> simp only [push_cast, seval]; done) | (exfalso; clear h; simp_all)) rfl rfl rfl)
                  · refine rn 11 [(0, iS n), (3, .ptr 0 0), (8, iS t15), (9, .ptr 4 0), (10, .own 3 0 r4499.2.2.2.2.2.length), (67, bS false), (71, .gd true (bS false))] [(0, .row 24 [iS c0_Readers15, bS c0_Writer15, .own 1 0 c1q15.length]), (1, .row 47 (fl c1q15)), (2, .row 47 (fl r4499.2.2.2.2.1)), (3, .row 3 (fl r4499.2.2.2.2.2)), (4, .row 24 [iS r4499.1, bS r4499.2.1, .own 2 0 r4499.2.2.2.2.1.length]), (5, .row 28 (Enc.cells r4499.2.2.2.1))] 6 (by kernel_rfl) ?_
                    refine rs 12 [] [] (by kernel_rfl) allP_nil ?_
                    refine run_br h 83 (.inr (by kernel_rfl)) (fun g4525 h => ?_) (fun g4525 h => ?_)
                    · refine rs 5 [] [] (by kernel_rfl) allP_nil ?_
                      refine rf [(0, iS n), (3, .ptr 0 0), (8, iS t15), (9, .ptr 4 0), (88, bS (decide ((0 : Int) < ((r4499.2.2.2.2.2.length : Nat) : Int))))] [(0, .row 24 [iS c0_Readers15, bS c0_Writer15, .own 1 0 c1q15.length]), (1, .row 47 (fl c1q15)), (2, .row 47 (fl r4499.2.2.2.2.1)), (3, .row 3 (fl r4499.2.2.2.2.2)), (4, .row 24 [iS r4499.1, bS r4499.2.1, .own 2 0 r4499.2.2.2.2.1.length]), (5, .row 28 (Enc.cells r4499.2.2.2.1))] 6 (by kernel_rfl) ?_
                      exact hK4518 ((decide ((0 : Int) < ((r4499.2.2.2.2.2.length : Nat) : Int))), r4499.1, r4499.2.1, r4499.2.2.2.2.1) _ _ _ h (leSt_m [(0, 0), (1, 4), (2, 1), (3, 2)] [] (by first | ((try simp only [g4519, g4520, g4521, g4525]) <;> simp only [push_cast, seval]; done) | (exfalso; clear h; simp_all)) (by first | ((try simp only [g4519, g4520, g4521, g4525]) <;> simp only [push_cast, seval]; done) | (exfalso; clear h; simp_all)) rfl rfl rfl)
                    · refine rs 5 [] [] (by kernel_rfl) allP_nil ?_
                      refine rf [(0, iS n), (3, .ptr 0 0), (8, iS t15), (9, .ptr 4 0), (88, bS false)] [(0, .row 24 [iS c0_Readers15, bS c0_Writer15, .own 1 0 c1q15.length]), (1, .row 47 (fl c1q15)), (2, .row 47 (fl r4499.2.2.2.2.1)), (3, .row 3 (fl r4499.2.2.2.2.2)), (4, .row 24 [iS r4499.1, bS r4499.2.1, .own 2 0 r4499.2.2.2.2.1.length]), (5, .row 28 (Enc.cells r4499.2.2.2.1))] 6 (by kernel_rfl) ?_
                      exact hK4518 (false, r4499.1, r4499.2.1, r4499.2.2.2.2.1) _ _ _ h (leSt_m [(0, 0), (1, 4), (2, 1), (3, 2)] [] (by first | ((try simp only [g4519, g4520, g4521, g4525]) <;> simp only [push_cast, seval]; done) | (exfalso; clear h; simp_all)) (by first | ((try simp only [g4519, g4520, g4521, g4525]) <;> simp only [push_cast, seval]; done) | (exfalso; clear h; simp_all)) rfl rfl rfl)
            · rintro ⟨t88q14, c1_Readers14, c1_Writer14, c3q14⟩ h
              try dsimp only at h ⊢
              unfold taskmilllaw_LockMutex_j1 at h
              refine cond_sx h (by kernel_rfl) (fun g4526 h => ?_) (fun g4526 h => ?_)
              · refine seq_np ?_
                refine reg_f ?_
                refine rs 1 [] [] (by kernel_rfl) allP_nil ?_
                refine rf [(2, bS false)] [(0, .row 24 [iS c0_Readers15, bS c0_Writer15, .own 2 0 c1q15.length]), (1, .row 24 [iS c1_Readers14, bS c1_Writer14, .own 3 0 c3q14.length]), (2, .row 47 (fl c1q15)), (3, .row 47 (fl c3q14))] 4 (by kernel_rfl) ?_
                refine wk_id ?_
                refine rt_cast ht4 ?_
                obtain ⟨r0, h, e0⟩ := map_sx h
                have e1 := hr4 r0 e0.symm
                subst r0
                obtain rfl := Option.some.inj h
                refine ret_at (bS false) (by kernel_rfl) ?_
                exact ret_e [] [] (by simp only [push_cast, seval]) (by simp only [push_cast, seval]) rfl rfl rfl
              · refine wk_id ?_
                refine reg_f ?_
                refine rs 2 [] [] (by kernel_rfl) allP_nil ?_
                refine rf [(0, iS n), (3, .ptr 0 0), (8, iS t15)] [(0, .row 24 [iS c1_Readers14, bS c1_Writer14, .own 3 0 c3q14.length]), (1, .row 24 [iS c1_Readers14, bS c1_Writer14, .own 3 0 c3q14.length]), (2, .row 47 (fl c1q15)), (3, .row 47 (fl c3q14))] 4 (by kernel_rfl) ?_
                refine wk_id ?_
                refine wk_id ?_
                refine reg_f ?_
                refine rs 3 [] [] (by kernel_rfl) allP_nil ?_
                refine rf [(0, iS n), (3, .ptr 0 0), (8, iS (IntKind.i64.wrap (t15 + 1)))] [(0, .row 24 [iS c1_Readers14, bS c1_Writer14, .own 3 0 c3q14.length]), (1, .row 24 [iS c1_Readers14, bS c1_Writer14, .own 3 0 c3q14.length]), (2, .row 47 (fl c1q15)), (3, .row 47 (fl c3q14))] 4 (by kernel_rfl) ?_
                exact hn4 ((IntKind.i64.wrap (t15 + 1)), c1_Readers14, c1_Writer14, c3q14) _ _ _ (Option.some.inj h).symm (leSt_m [(0, 0), (1, 3)] [] (by simp only [push_cast, seval]) (by simp only [push_cast, seval]) rfl rfl rfl)
          · change R4 (.exit 2) _ _ _
            refine ex_cast hx4 (id := 2) ?_
            obtain ⟨r0, h, e0⟩ := map_sx h
            have e1 := hr4 r0 e0.symm
            subst r0
            refine wk_id ?_
            refine wk_id ?_
            refine seq_np ?_
            refine reg_f ?_
            refine rs 1 [] [] (by kernel_rfl) allP_nil ?_
            obtain ⟨r4528, hr4528, h⟩ := bind_sx h
            refine call_x (lock_Leave_spec (Lock.mk c0_Readers15 c0_Writer15 c1q15) true r4528 hr4528) (args := [.agg [iS c0_Readers15, bS c0_Writer15, .own 1 0 c1q15.length], bS true]) (dst := (some 92)) (by kernel_rfl) [(0, .row 24 [iS c0_Readers15, bS c0_Writer15, .own 1 0 c1q15.length]), (1, .row 47 (fl c1q15))] 2 (by kernel_rfl) [] [1] (.tup [.agg [iS r4528.1, bS r4528.2.1, .own 2 0 r4528.2.2.2.2.1.length], .own 3 0 r4528.2.2.2.2.2.length, bS r4528.2.2.1, .agg (Enc.cells r4528.2.2.2.1)]) [(2, .row 47 (fl r4528.2.2.2.2.1)), (3, .row 3 (fl r4528.2.2.2.2.2))] (by simp only [push_cast, seval]) (by simp only [push_cast, seval]) (by kernel_rfl) (.inr ⟨by simp only [push_cast, seval], by simp only [push_cast, seval]⟩) (by simp only [push_cast, seval]) (by simp only [push_cast, seval]) ?_
            refine rs 11 [] [] (by kernel_rfl) allP_nil ?_
            refine rf [(3, .ptr 0 0), (15, bS r4528.2.2.1), (16, .ptr 5 0)] [(0, .row 24 [iS c0_Readers15, bS c0_Writer15, .own 1 0 c1q15.length]), (1, .row 47 (fl c1q15)), (2, .row 47 (fl r4528.2.2.2.2.1)), (3, .row 3 (fl r4528.2.2.2.2.2)), (4, .row 24 [iS r4528.1, bS r4528.2.1, .own 2 0 r4528.2.2.2.2.1.length]), (5, .row 28 (Enc.cells r4528.2.2.2.1))] 6 (by kernel_rfl) ?_
            refine wk_id ?_
            refine seq_cut (A := Bool) (fun a => ([(2, bS a)], [], 0)) (fun a => (taskmilllaw_LockMutex_j2 a) = some r) (fun K4533 hK4533 => ?_) ?_
            · refine reg_f ?_
              refine rs 4 [] [] (by kernel_rfl) allP_nil ?_
              refine run_br h 100 (.inl (by kernel_rfl)) (fun g4534 h => ?_) (fun g4534 h => ?_)
              · refine rs 3 [] [] (by kernel_rfl) allP_nil ?_
                refine run_br h 103 (.inl (by kernel_rfl)) (fun g4535 h => ?_) (fun g4535 h => ?_)
                · refine rs 1 [] [] (by kernel_rfl) allP_nil ?_
                  obtain ⟨r4536, hr4536, h⟩ := bind_sx h
                  refine call_x (taskmilllaw_noLock_spec (Lock.mk c0_Readers15 c0_Writer15 c1q15) r4536 hr4536) (args := [.agg [iS c0_Readers15, bS c0_Writer15, .own 1 0 c1q15.length]]) (dst := (some 105)) (by kernel_rfl) [(0, .row 24 [iS c0_Readers15, bS c0_Writer15, .own 1 0 c1q15.length]), (1, .row 47 (fl c1q15)), (2, .row 47 (fl r4528.2.2.2.2.1)), (3, .row 3 (fl r4528.2.2.2.2.2)), (4, .row 24 [iS r4528.1, bS r4528.2.1, .own 2 0 r4528.2.2.2.2.1.length]), (5, .row 28 (Enc.cells r4528.2.2.2.1))] 6 (by kernel_rfl) [] [1] (bS r4536) [] (by simp only [push_cast, seval]) (by simp only [push_cast, seval]) (by kernel_rfl) (.inr ⟨by simp only [push_cast, seval], by simp only [push_cast, seval]⟩) (by simp only [push_cast, seval]) (by simp only [push_cast, seval]) ?_
                  refine rs 2 [] [] (by kernel_rfl) allP_nil ?_
                  refine rf [(2, bS r4536)] [(0, .row 24 [iS c0_Readers15, bS c0_Writer15, .own 1 0 c1q15.length]), (1, .row 47 (fl c1q15)), (2, .row 47 (fl r4528.2.2.2.2.1)), (3, .row 3 (fl r4528.2.2.2.2.2)), (4, .row 24 [iS r4528.1, bS r4528.2.1, .own 2 0 r4528.2.2.2.2.1.length]), (5, .row 28 (Enc.cells r4528.2.2.2.1))] 6 (by kernel_rfl) ?_
                  exact hK4533 (r4536) _ _ _ h (leSt_m [] [] (by first | ((try simp only [g4534, g4535]) <;> simp only [push_cast, seval]; done) | (exfalso; clear h; simp_all)) (by first | ((try simp only [g4534, g4535]) <;> simp only [push_cast, seval]; done) | (exfalso; clear h; simp_all)) rfl rfl rfl)
                · refine rs 4 [] [] (by kernel_rfl) allP_nil ?_
                  refine rf [(2, bS false)] [(0, .row 24 [iS c0_Readers15, bS c0_Writer15, .own 1 0 c1q15.length]), (1, .row 47 (fl c1q15)), (2, .row 47 (fl r4528.2.2.2.2.1)), (3, .row 3 (fl r4528.2.2.2.2.2)), (4, .row 24 [iS r4528.1, bS r4528.2.1, .own 2 0 r4528.2.2.2.2.1.length]), (5, .row 28 (Enc.cells r4528.2.2.2.1))] 6 (by kernel_rfl) ?_
                  exact hK4533 (false) _ _ _ h (leSt_m [] [] (by first | ((try simp only [g4534, g4535]) <;> simp only [push_cast, seval]; done) | (exfalso; clear h; simp_all)) (by first | ((try simp only [g4534, g4535]) <;> simp only [push_cast, seval]; done) | (exfalso; clear h; simp_all)) rfl rfl rfl)
              · refine rs 7 [] [] (by kernel_rfl) allP_nil ?_
                refine rf [(2, bS false)] [(0, .row 24 [iS c0_Readers15, bS c0_Writer15, .own 1 0 c1q15.length]), (1, .row 47 (fl c1q15)), (2, .row 47 (fl r4528.2.2.2.2.1)), (3, .row 3 (fl r4528.2.2.2.2.2)), (4, .row 24 [iS r4528.1, bS r4528.2.1, .own 2 0 r4528.2.2.2.2.1.length]), (5, .row 28 (Enc.cells r4528.2.2.2.1))] 6 (by kernel_rfl) ?_
                exact hK4533 (false) _ _ _ h (leSt_m [] [] (by (try simp only [g4534]) <;> simp only [push_cast, seval]) (by (try simp only [g4534]) <;> simp only [push_cast, seval]) rfl rfl rfl)
            · rintro t2q1 h
              try dsimp only at h ⊢
              unfold taskmilllaw_LockMutex_j2 at h
              obtain rfl := Option.some.inj h
              refine ret_at (bS t2q1) (by kernel_rfl) ?_
              exact ret_e [] [] (by simp only [push_cast, seval]) (by simp only [push_cast, seval]) rfl rfl rfl

set_option maxRecDepth 100000 in
set_option maxHeartbeats 10000000 in
theorem taskmilllaw_LockShares_1_spec (task : Int) (write : Bool) (c0 : Lock) (r : Bool × Bool × Int × Bool × (List Want)) (h : taskmilllaw_LockShares_1 task write c0 = some r) : SpecW Try.prog 24 [iS task, bS write, .ptr 0 0] [(0, .row 24 (Enc.cells c0))] 1 (fun x h n => x = .tup [bS r.1, bS r.2.1] ∧ h = [(0, .row 24 [iS r.2.2.1, bS r.2.2.2.1, .own 1 0 r.2.2.2.2.length]), (1, .row 47 (fl r.2.2.2.2))] ∧ n = 2) := by
  unfold taskmilllaw_LockShares_1 at h
  refine spec_of (draw_ok _) Try.func24 rfl (by decide) rfl (by kernel_rfl) ?_
  refine seq_np ?_
  refine reg_f ?_
  refine rs 2 [] [] (by kernel_rfl) allP_nil ?_
  refine rf [(0, iS task), (1, bS write), (2, .ptr 0 0)] [(0, .row 24 (Enc.cells c0))] 1 (by kernel_rfl) ?_
  refine wk_id ?_
  refine seq_np ?_
  refine reg_f ?_
  refine rs 3 [] [] (by kernel_rfl) allP_nil ?_
  obtain ⟨r4550, hr4550, h⟩ := bind_sx h
  refine call_x (lock_Enter_spec c0 task write false r4550 hr4550) (args := [.agg (Enc.cells c0), iS task, bS write, bS false]) (dst := (some 14)) (by kernel_rfl) [(0, .row 24 (Enc.cells c0))] 1 (by kernel_rfl) [] [] (.tup [.agg [iS r4550.1, bS r4550.2.1, .own 1 0 r4550.2.2.2.2.length], bS r4550.2.2.1, .agg (Enc.cells r4550.2.2.2.1)]) [(1, .row 47 (fl r4550.2.2.2.2))] (by simp only [push_cast, seval]) (by simp only [push_cast, seval]) (by kernel_rfl) (.inl rfl) (by simp only [push_cast, seval]) (by simp only [push_cast, seval]) ?_
  refine rs 9 [] [] (by kernel_rfl) allP_nil ?_
  refine rf [(2, .ptr 0 0), (7, .ptr 2 0), (8, bS r4550.2.2.1), (9, .ptr 3 0)] [(0, .row 24 (Enc.cells c0)), (1, .row 47 (fl r4550.2.2.2.2)), (2, .row 24 [iS r4550.1, bS r4550.2.1, .own 1 0 r4550.2.2.2.2.length]), (3, .row 28 (Enc.cells r4550.2.2.2.1))] 4 (by kernel_rfl) ?_
  refine wk_id ?_
  refine seq_np ?_
  refine reg_f ?_
  refine rs 2 [] [] (by kernel_rfl) allP_nil ?_
  refine rf [(8, bS r4550.2.2.1), (9, .ptr 3 0)] [(0, .row 24 [iS r4550.1, bS r4550.2.1, .own 1 0 r4550.2.2.2.2.length]), (1, .row 47 (fl r4550.2.2.2.2)), (2, .row 24 [iS r4550.1, bS r4550.2.1, .own 1 0 r4550.2.2.2.2.length]), (3, .row 28 (Enc.cells r4550.2.2.2.1))] 4 (by kernel_rfl) ?_
  refine wk_id ?_
  refine seq_np ?_
  refine reg_t ?_
  refine rs 6 [] [] (by kernel_rfl) allP_nil ?_
  refine rt [(5, bS r4550.2.2.1), (6, bS (r4550.2.2.2.1.Code == 0))] [(0, .row 24 [iS r4550.1, bS r4550.2.1, .own 1 0 r4550.2.2.2.2.length]), (1, .row 47 (fl r4550.2.2.2.2)), (2, .row 24 [iS r4550.1, bS r4550.2.1, .own 1 0 r4550.2.2.2.2.length]), (3, .row 28 (Enc.cells r4550.2.2.2.1))] 10 follows (by kernel_rfl) ?_
  refine wk_id ?_
  obtain rfl := Option.some.inj h
  refine ret_at (.tup [bS r4550.2.2.1, bS (r4550.2.2.2.1.Code == 0)]) (by kernel_rfl) ?_
  exact ret_e [(0, 0), (1, 1)] [] (by simp only [push_cast, seval]) (by simp only [push_cast, seval]) rfl rfl rfl

set_option maxRecDepth 100000 in
set_option maxHeartbeats 10000000 in
theorem taskmilllaw_LockShares_1_1_spec (task : Int) (write : Bool) (c0_Readers : Int) (c0_Writer : Bool) (c1 : (List Want)) (r : Bool × Bool × Int × Bool × (List Want) × (List Want)) (h : taskmilllaw_LockShares_1_1 task write c0_Readers c0_Writer c1 = some r) : SpecW Try.prog 24 [iS task, bS write, .ptr 0 0] [(0, .row 24 [iS c0_Readers, bS c0_Writer, .own 1 0 c1.length]), (1, .row 47 (fl c1))] 2 (fun x h n => x = .tup [bS r.1, bS r.2.1] ∧ h = [(0, .row 24 [iS r.2.2.1, bS r.2.2.2.1, .own 2 0 r.2.2.2.2.1.length]), (1, .row 47 (fl r.2.2.2.2.2)), (2, .row 47 (fl r.2.2.2.2.1))] ∧ n = 3) := by
  unfold taskmilllaw_LockShares_1_1 at h
  refine spec_of (draw_ok _) Try.func24 rfl (by decide) rfl (by kernel_rfl) ?_
  refine seq_np ?_
  refine reg_f ?_
  refine rs 2 [] [] (by kernel_rfl) allP_nil ?_
  refine rf [(0, iS task), (1, bS write), (2, .ptr 0 0)] [(0, .row 24 [iS c0_Readers, bS c0_Writer, .own 1 0 c1.length]), (1, .row 47 (fl c1))] 2 (by kernel_rfl) ?_
  refine wk_id ?_
  refine seq_np ?_
  refine reg_f ?_
  refine rs 3 [] [] (by kernel_rfl) allP_nil ?_
  obtain ⟨r4557, hr4557, h⟩ := bind_sx h
  refine call_x (lock_Enter_spec (Lock.mk c0_Readers c0_Writer c1) task write false r4557 hr4557) (args := [.agg [iS c0_Readers, bS c0_Writer, .own 1 0 c1.length], iS task, bS write, bS false]) (dst := (some 14)) (by kernel_rfl) [(0, .row 24 [iS c0_Readers, bS c0_Writer, .own 1 0 c1.length]), (1, .row 47 (fl c1))] 2 (by kernel_rfl) [] [1] (.tup [.agg [iS r4557.1, bS r4557.2.1, .own 2 0 r4557.2.2.2.2.length], bS r4557.2.2.1, .agg (Enc.cells r4557.2.2.2.1)]) [(2, .row 47 (fl r4557.2.2.2.2))] (by simp only [push_cast, seval]) (by simp only [push_cast, seval]) (by kernel_rfl) (.inr ⟨by simp only [push_cast, seval], by simp only [push_cast, seval]⟩) (by simp only [push_cast, seval]) (by simp only [push_cast, seval]) ?_
  refine rs 9 [] [] (by kernel_rfl) allP_nil ?_
  refine rf [(2, .ptr 0 0), (7, .ptr 3 0), (8, bS r4557.2.2.1), (9, .ptr 4 0)] [(0, .row 24 [iS c0_Readers, bS c0_Writer, .own 1 0 c1.length]), (1, .row 47 (fl c1)), (2, .row 47 (fl r4557.2.2.2.2)), (3, .row 24 [iS r4557.1, bS r4557.2.1, .own 2 0 r4557.2.2.2.2.length]), (4, .row 28 (Enc.cells r4557.2.2.2.1))] 5 (by kernel_rfl) ?_
  refine wk_id ?_
  refine seq_np ?_
  refine reg_f ?_
  refine rs 2 [] [] (by kernel_rfl) allP_nil ?_
  refine rf [(8, bS r4557.2.2.1), (9, .ptr 4 0)] [(0, .row 24 [iS r4557.1, bS r4557.2.1, .own 2 0 r4557.2.2.2.2.length]), (1, .row 47 (fl c1)), (2, .row 47 (fl r4557.2.2.2.2)), (3, .row 24 [iS r4557.1, bS r4557.2.1, .own 2 0 r4557.2.2.2.2.length]), (4, .row 28 (Enc.cells r4557.2.2.2.1))] 5 (by kernel_rfl) ?_
  refine wk_id ?_
  refine seq_np ?_
  refine reg_t ?_
  refine rs 6 [] [] (by kernel_rfl) allP_nil ?_
  refine rt [(5, bS r4557.2.2.1), (6, bS (r4557.2.2.2.1.Code == 0))] [(0, .row 24 [iS r4557.1, bS r4557.2.1, .own 2 0 r4557.2.2.2.2.length]), (1, .row 47 (fl c1)), (2, .row 47 (fl r4557.2.2.2.2)), (3, .row 24 [iS r4557.1, bS r4557.2.1, .own 2 0 r4557.2.2.2.2.length]), (4, .row 28 (Enc.cells r4557.2.2.2.1))] 11 follows (by kernel_rfl) ?_
  refine wk_id ?_
  obtain rfl := Option.some.inj h
  refine ret_at (.tup [bS r4557.2.2.1, bS (r4557.2.2.2.1.Code == 0)]) (by kernel_rfl) ?_
  exact ret_e [(0, 0), (1, 1), (2, 2)] [] (by simp only [push_cast, seval]) (by simp only [push_cast, seval]) rfl rfl rfl

set_option maxRecDepth 100000 in
set_option maxHeartbeats 10000000 in
theorem taskmilllaw_LockShares_spec (readers : Int) (later : Int) (r : Bool) (h : taskmilllaw_LockShares readers later = some r) : SpecW Try.prog 7 [iS readers, iS later] [] 0 (fun x h n => x = bS r ∧ h = [] ∧ n = 0) := by
  unfold taskmilllaw_LockShares at h
  refine spec_of (draw_ok _) Try.func7 rfl (by decide) rfl (by kernel_rfl) ?_
  refine seq_np ?_
  refine reg_f ?_
  refine rs 1 [] [] (by kernel_rfl) allP_nil ?_
  refine rf [(0, iS readers), (1, iS later)] [] 0 (by kernel_rfl) ?_
  refine wk_id ?_
  refine seq_np ?_
  refine seq_np ?_
  refine reg_f ?_
  obtain ⟨r4638, hr4638, h⟩ := bind_sx h
  refine run_call 8 [] (some 25) (by kernel_rfl) ?_
  refine call_0 (taskmilllaw_lockBegun_spec r4638 hr4638) (by simp only [push_cast, seval]) (by simp only [push_cast, seval]) ?_
  refine back_f ?_
  refine rs 1 [] [] (by kernel_rfl) allP_nil ?_
  refine rf [(0, iS readers), (1, iS later), (26, bS (!r4638))] [] 0 (by kernel_rfl) ?_
  refine wk_id ?_
  refine cond_sx h (by kernel_rfl) (fun g4960 h => ?_) (fun g4960 h => ?_)
  · refine seq_np ?_
    refine reg_f ?_
    refine rs 1 [] [] (by kernel_rfl) allP_nil ?_
    refine rf [(4, bS false)] [] 0 (by kernel_rfl) ?_
    refine wk_id ?_
    obtain rfl := Option.some.inj h
    refine ret_at (bS false) (by kernel_rfl) ?_
    exact ret_e [] [] (by simp only [push_cast, seval]) (by simp only [push_cast, seval]) rfl rfl rfl
  · refine wk_id ?_
    refine seq_np ?_
    refine seq_cut (A := Unit) (fun _ => ([(0, iS readers), (1, iS later), (40, bS ((decide (readers < 1)) || ((decide ((50 : Int) < readers)) || ((decide (later < 0)) || (decide ((50 : Int) < later))))))], [], 0)) (fun _ => True) (fun K4646 hK4646 => ?_) (fun _ _ => ?_)
    · refine reg_f ?_
      refine rs 3 [] [] (by kernel_rfl) allP_nil ?_
      refine run_split 29 (decide (readers < 1)) (.inl (by kernel_rfl)) (fun g4647 => ?_) (fun g4647 => ?_)
      · refine rs 11 [] [] (by kernel_rfl) allP_nil ?_
        refine rf [(0, iS readers), (1, iS later), (40, bS true)] [] 0 (by kernel_rfl) ?_
        exact hK4646 () _ _ _ trivial (leSt_m [] [] (by (try simp only [g4647]) <;> simp only [push_cast, seval]) (by (try simp only [g4647]) <;> simp only [push_cast, seval]) rfl rfl rfl)
      · refine rs 4 [] [] (by kernel_rfl) allP_nil ?_
        refine run_split 33 (decide ((50 : Int) < readers)) (.inl (by kernel_rfl)) (fun g4648 => ?_) (fun g4648 => ?_)
        · refine rs 7 [] [] (by kernel_rfl) allP_nil ?_
          refine rf [(0, iS readers), (1, iS later), (40, bS true)] [] 0 (by kernel_rfl) ?_
          exact hK4646 () _ _ _ trivial (leSt_m [] [] (by first | ((try simp only [g4647, g4648]) <;> simp only [push_cast, seval]; done) | (exfalso; clear h; simp_all)) (by first | ((try simp only [g4647, g4648]) <;> simp only [push_cast, seval]; done) | (exfalso; clear h; simp_all)) rfl rfl rfl)
        · refine rs 4 [] [] (by kernel_rfl) allP_nil ?_
          refine run_split 37 (decide (later < 0)) (.inl (by kernel_rfl)) (fun g4649 => ?_) (fun g4649 => ?_)
          · refine rn 11 [(0, iS readers), (1, iS later), (37, bS true)] [] 0 (by kernel_rfl) ?_
            refine rs 3 [] [] (by kernel_rfl) allP_nil ?_
            refine rf [(0, iS readers), (1, iS later), (40, bS true)] [] 0 (by kernel_rfl) ?_
            exact hK4646 () _ _ _ trivial (leSt_m [] [] (by first | ((try simp only [g4647, g4648, g4649]) <;> simp only [push_cast, seval]; done) | (exfalso; clear h; simp_all)) (by first | ((try simp only [g4647, g4648, g4649]) <;> simp only [push_cast, seval]; done) | (exfalso; clear h; simp_all)) rfl rfl rfl)
          · refine rn 11 [(0, iS readers), (1, iS later), (37, bS false)] [] 0 (by kernel_rfl) ?_
            refine rs 3 [] [] (by kernel_rfl) allP_nil ?_
            refine rf [(0, iS readers), (1, iS later), (40, bS (decide ((50 : Int) < later)))] [] 0 (by kernel_rfl) ?_
            exact hK4646 () _ _ _ trivial (leSt_m [] [] (by first | ((try simp only [g4647, g4648, g4649]) <;> simp only [push_cast, seval]; done) | (exfalso; clear h; simp_all)) (by first | ((try simp only [g4647, g4648, g4649]) <;> simp only [push_cast, seval]; done) | (exfalso; clear h; simp_all)) rfl rfl rfl)
    · dsimp only
      refine cond_sx h (by kernel_rfl) (fun g4959 h => ?_) (fun g4959 h => ?_)
      · refine seq_np ?_
        refine reg_f ?_
        refine rs 1 [] [] (by kernel_rfl) allP_nil ?_
        refine rf [(4, bS true)] [] 0 (by kernel_rfl) ?_
        refine wk_id ?_
        obtain rfl := Option.some.inj h
        refine ret_at (bS true) (by kernel_rfl) ?_
        exact ret_e [] [] (by simp only [push_cast, seval]) (by simp only [push_cast, seval]) rfl rfl rfl
      · refine wk_id ?_
        refine seq_np ?_
        refine reg_f ?_
        refine rs 3 [] [] (by kernel_rfl) allP_nil ?_
        refine rf [(0, iS readers), (1, iS later), (5, .ptr 0 0)] [(0, .row 24 [iS 0, bS false, .v (.slice none 0 0)])] 1 (by kernel_rfl) ?_
        refine wk_id ?_
        refine seq_np ?_
        refine reg_f ?_
        refine rs 2 [] [] (by kernel_rfl) allP_nil ?_
        refine rf [(0, iS readers), (1, iS later), (5, .ptr 0 0), (6, .clo 24 [.ptr 0 0])] [(0, .row 24 [iS 0, bS false, .v (.slice none 0 0)])] 1 (by kernel_rfl) ?_
        refine wk_id ?_
        refine seq_np ?_
        refine seq_np ?_
        refine reg_f ?_
        refine rs 1 [] [] (by kernel_rfl) allP_nil ?_
        refine rf [(0, iS readers), (1, iS later), (5, .ptr 0 0), (6, .clo 24 [.ptr 0 0]), (7, iS 1)] [(0, .row 24 [iS 0, bS false, .v (.slice none 0 0)])] 1 (by kernel_rfl) ?_
        refine wk_id ?_
        refine block_np ?_
        refine loop_sx (S := Int × Int × Bool × (List Want)) (fun a => ([(0, iS readers), (1, iS later), (5, .ptr 0 0), (6, .clo 24 [.ptr 0 0]), (7, iS a.1)], [(0, .row 24 [iS a.2.1, bS a.2.2.1, .own 1 0 a.2.2.2.length]), (1, .row 47 (fl a.2.2.2))], 2)) h (leSt_m [(0, 0)] [] (by simp only [push_cast, seval]) (by simp only [push_cast, seval]) rfl rfl rfl) ?_
        rintro ⟨t11, c0_Readers12, c0_Writer12, c1q10⟩ o4 R4 h hr4 hn4 hx4 ht4
        try dsimp only at h hn4 ⊢
        unfold taskmilllaw_LockShares_l3 at h
        try dsimp only at h
        refine seq_np ?_
        refine seq_np ?_
        refine reg_f ?_
        refine rs 3 [] [] (by kernel_rfl) allP_nil ?_
        refine rf [(0, iS readers), (1, iS later), (5, .ptr 0 0), (6, .clo 24 [.ptr 0 0]), (7, iS t11), (45, bS (decide (t11 ≤ readers)))] [(0, .row 24 [iS c0_Readers12, bS c0_Writer12, .own 1 0 c1q10.length]), (1, .row 47 (fl c1q10))] 2 (by kernel_rfl) ?_
        refine wk_id ?_
        refine cond_sx h (by kernel_rfl) (fun g4958 h => ?_) (fun g4958 h => ?_)
        · refine wk_id ?_
          refine seq_np ?_
          refine block_np ?_
          refine seq_np ?_
          refine reg_f ?_
          refine rs 2 [] [] (by kernel_rfl) allP_nil ?_
          obtain ⟨r4693, hr4693, h⟩ := bind_sx h
          refine call_x (taskmilllaw_LockShares_1_1_spec t11 false c0_Readers12 c0_Writer12 c1q10 r4693 hr4693) (args := [iS t11, bS false, .ptr 0 0]) (dst := (some 51)) (by kernel_rfl) [(0, .row 24 [iS c0_Readers12, bS c0_Writer12, .own 1 0 c1q10.length]), (1, .row 47 (fl c1q10))] 2 (by kernel_rfl) [(0, 0), (1, 1)] [] (.tup [bS r4693.1, bS r4693.2.1]) [(0, .row 24 [iS r4693.2.2.1, bS r4693.2.2.2.1, .own 4 0 r4693.2.2.2.2.1.length]), (1, .row 47 (fl r4693.2.2.2.2.2)), (4, .row 47 (fl r4693.2.2.2.2.1)), (0, .dead), (1, .dead)] (by simp only [push_cast, seval]) (by simp only [push_cast, seval]) (by kernel_rfl) (.inl rfl) (by simp only [push_cast, seval]) (by simp only [push_cast, seval]) ?_
          refine rs 5 [] [] (by kernel_rfl) allP_nil ?_
          refine rf [(0, iS readers), (1, iS later), (5, .ptr 0 0), (6, .clo 24 [.ptr 0 0]), (7, iS t11), (8, bS r4693.1), (9, bS r4693.2.1)] [(0, .row 24 [iS r4693.2.2.1, bS r4693.2.2.2.1, .own 4 0 r4693.2.2.2.2.1.length]), (1, .row 47 (fl r4693.2.2.2.2.2)), (4, .row 47 (fl r4693.2.2.2.2.1))] 5 (by kernel_rfl) ?_
          refine wk_id ?_
          refine seq_cut (A := Unit) (fun _ => ([(0, iS readers), (1, iS later), (5, .ptr 0 0), (6, .clo 24 [.ptr 0 0]), (7, iS t11), (59, bS ((!r4693.2.1) || (!r4693.1)))], [(0, .row 24 [iS r4693.2.2.1, bS r4693.2.2.2.1, .own 4 0 r4693.2.2.2.2.1.length]), (1, .row 47 (fl r4693.2.2.2.2.2)), (4, .row 47 (fl r4693.2.2.2.2.1))], 5)) (fun _ => True) (fun K4695 hK4695 => ?_) (fun _ _ => ?_)
          · refine reg_f ?_
            refine rs 3 [] [] (by kernel_rfl) allP_nil ?_
            refine run_split 56 (!r4693.2.1) (.inl (by kernel_rfl)) (fun g4696 => ?_) (fun g4696 => ?_)
            · refine rs 3 [] [] (by kernel_rfl) allP_nil ?_
              refine rf [(0, iS readers), (1, iS later), (5, .ptr 0 0), (6, .clo 24 [.ptr 0 0]), (7, iS t11), (59, bS true)] [(0, .row 24 [iS r4693.2.2.1, bS r4693.2.2.2.1, .own 4 0 r4693.2.2.2.2.1.length]), (1, .row 47 (fl r4693.2.2.2.2.2)), (4, .row 47 (fl r4693.2.2.2.2.1))] 5 (by kernel_rfl) ?_
              exact hK4695 () _ _ _ trivial (leSt_m [(0, 0), (1, 1), (4, 4)] [] (by (try simp only [g4696]) <;> simp only [push_cast, seval]) (by (try simp only [g4696]) <;> simp only [push_cast, seval]) rfl rfl rfl)
            · refine rs 3 [] [] (by kernel_rfl) allP_nil ?_
              refine rf [(0, iS readers), (1, iS later), (5, .ptr 0 0), (6, .clo 24 [.ptr 0 0]), (7, iS t11), (59, bS (!r4693.1))] [(0, .row 24 [iS r4693.2.2.1, bS r4693.2.2.2.1, .own 4 0 r4693.2.2.2.2.1.length]), (1, .row 47 (fl r4693.2.2.2.2.2)), (4, .row 47 (fl r4693.2.2.2.2.1))] 5 (by kernel_rfl) ?_
              exact hK4695 () _ _ _ trivial (leSt_m [(0, 0), (1, 1), (4, 4)] [] (by (try simp only [g4696]) <;> simp only [push_cast, seval]) (by (try simp only [g4696]) <;> simp only [push_cast, seval]) rfl rfl rfl)
          · dsimp only
            refine cond_sx h (by kernel_rfl) (fun g4697 h => ?_) (fun g4697 h => ?_)
            · refine seq_np ?_
              refine reg_f ?_
              refine rs 1 [] [] (by kernel_rfl) allP_nil ?_
              refine rf [(4, bS false)] [(0, .row 24 [iS r4693.2.2.1, bS r4693.2.2.2.1, .own 4 0 r4693.2.2.2.2.1.length]), (1, .row 47 (fl r4693.2.2.2.2.2)), (4, .row 47 (fl r4693.2.2.2.2.1))] 5 (by kernel_rfl) ?_
              refine wk_id ?_
              refine rt_cast ht4 ?_
              obtain ⟨r0, h, e0⟩ := map_sx h
              have e1 := hr4 r0 e0.symm
              subst r0
              obtain rfl := Option.some.inj h
              refine ret_at (bS false) (by kernel_rfl) ?_
              exact ret_e [] [] (by simp only [push_cast, seval]) (by simp only [push_cast, seval]) rfl rfl rfl
            · refine wk_id ?_
              refine wk_id ?_
              refine reg_f ?_
              refine rs 3 [] [] (by kernel_rfl) allP_nil ?_
              refine rf [(0, iS readers), (1, iS later), (5, .ptr 0 0), (6, .clo 24 [.ptr 0 0]), (7, iS (IntKind.i64.wrap (t11 + 1)))] [(0, .row 24 [iS r4693.2.2.1, bS r4693.2.2.2.1, .own 4 0 r4693.2.2.2.2.1.length]), (1, .row 47 (fl r4693.2.2.2.2.2)), (4, .row 47 (fl r4693.2.2.2.2.1))] 5 (by kernel_rfl) ?_
              exact hn4 ((IntKind.i64.wrap (t11 + 1)), r4693.2.2.1, r4693.2.2.2.1, r4693.2.2.2.2.1) _ _ _ (Option.some.inj h).symm (leSt_m [(0, 0), (1, 4)] [] (by simp only [push_cast, seval]) (by simp only [push_cast, seval]) rfl rfl rfl)
        · change R4 (.exit 0) _ _ _
          refine ex_cast hx4 (id := 0) ?_
          obtain ⟨r0, h, e0⟩ := map_sx h
          have e1 := hr4 r0 e0.symm
          subst r0
          refine wk_id ?_
          refine wk_id ?_
          refine seq_np ?_
          refine reg_f ?_
          refine rs 3 [] [] (by kernel_rfl) allP_nil ?_
          obtain ⟨r4699, hr4699, h⟩ := bind_sx h
          refine call_x (taskmilllaw_LockShares_1_1_spec (IntKind.i64.wrap (readers + 1)) true c0_Readers12 c0_Writer12 c1q10 r4699 hr4699) (args := [iS (IntKind.i64.wrap (readers + 1)), bS true, .ptr 0 0]) (dst := (some 64)) (by kernel_rfl) [(0, .row 24 [iS c0_Readers12, bS c0_Writer12, .own 1 0 c1q10.length]), (1, .row 47 (fl c1q10))] 2 (by kernel_rfl) [(0, 0), (1, 1)] [] (.tup [bS r4699.1, bS r4699.2.1]) [(0, .row 24 [iS r4699.2.2.1, bS r4699.2.2.2.1, .own 4 0 r4699.2.2.2.2.1.length]), (1, .row 47 (fl r4699.2.2.2.2.2)), (4, .row 47 (fl r4699.2.2.2.2.1)), (0, .dead), (1, .dead)] (by simp only [push_cast, seval]) (by simp only [push_cast, seval]) (by kernel_rfl) (.inl rfl) (by simp only [push_cast, seval]) (by simp only [push_cast, seval]) ?_
          refine rs 5 [] [] (by kernel_rfl) allP_nil ?_
          refine rf [(0, iS readers), (1, iS later), (5, .ptr 0 0), (6, .clo 24 [.ptr 0 0]), (10, bS r4699.1), (11, bS r4699.2.1)] [(0, .row 24 [iS r4699.2.2.1, bS r4699.2.2.2.1, .own 4 0 r4699.2.2.2.2.1.length]), (1, .row 47 (fl r4699.2.2.2.2.2)), (4, .row 47 (fl r4699.2.2.2.2.1))] 5 (by kernel_rfl) ?_
          refine wk_id ?_
          refine seq_np ?_
          refine seq_cut (A := Unit) (fun _ => ([(0, iS readers), (1, iS later), (5, .ptr 0 0), (6, .clo 24 [.ptr 0 0]), (71, bS ((!r4699.2.1) || r4699.1))], [(0, .row 24 [iS r4699.2.2.1, bS r4699.2.2.2.1, .own 4 0 r4699.2.2.2.2.1.length]), (1, .row 47 (fl r4699.2.2.2.2.2)), (4, .row 47 (fl r4699.2.2.2.2.1))], 5)) (fun _ => True) (fun K4703 hK4703 => ?_) (fun _ _ => ?_)
          · refine reg_f ?_
            refine rs 3 [] [] (by kernel_rfl) allP_nil ?_
            refine run_split 69 (!r4699.2.1) (.inl (by kernel_rfl)) (fun g4704 => ?_) (fun g4704 => ?_)
            · refine rs 2 [] [] (by kernel_rfl) allP_nil ?_
              refine rf [(0, iS readers), (1, iS later), (5, .ptr 0 0), (6, .clo 24 [.ptr 0 0]), (71, bS true)] [(0, .row 24 [iS r4699.2.2.1, bS r4699.2.2.2.1, .own 4 0 r4699.2.2.2.2.1.length]), (1, .row 47 (fl r4699.2.2.2.2.2)), (4, .row 47 (fl r4699.2.2.2.2.1))] 5 (by kernel_rfl) ?_
              exact hK4703 () _ _ _ trivial (leSt_m [(0, 0), (1, 1), (4, 4)] [] (by (try simp only [g4704]) <;> simp only [push_cast, seval]) (by (try simp only [g4704]) <;> simp only [push_cast, seval]) rfl rfl rfl)
            · refine rs 2 [] [] (by kernel_rfl) allP_nil ?_
              refine rf [(0, iS readers), (1, iS later), (5, .ptr 0 0), (6, .clo 24 [.ptr 0 0]), (71, bS r4699.1)] [(0, .row 24 [iS r4699.2.2.1, bS r4699.2.2.2.1, .own 4 0 r4699.2.2.2.2.1.length]), (1, .row 47 (fl r4699.2.2.2.2.2)), (4, .row 47 (fl r4699.2.2.2.2.1))] 5 (by kernel_rfl) ?_
              exact hK4703 () _ _ _ trivial (leSt_m [(0, 0), (1, 1), (4, 4)] [] (by (try simp only [g4704]) <;> simp only [push_cast, seval]) (by (try simp only [g4704]) <;> simp only [push_cast, seval]) rfl rfl rfl)
          · dsimp only
            refine cond_sx h (by kernel_rfl) (fun g4957 h => ?_) (fun g4957 h => ?_)
            · refine seq_np ?_
              refine reg_f ?_
              refine rs 1 [] [] (by kernel_rfl) allP_nil ?_
              refine rf [(4, bS false)] [(0, .row 24 [iS r4699.2.2.1, bS r4699.2.2.2.1, .own 4 0 r4699.2.2.2.2.1.length]), (1, .row 47 (fl r4699.2.2.2.2.2)), (4, .row 47 (fl r4699.2.2.2.2.1))] 5 (by kernel_rfl) ?_
              refine wk_id ?_
              obtain rfl := Option.some.inj h
              refine ret_at (bS false) (by kernel_rfl) ?_
              exact ret_e [] [] (by simp only [push_cast, seval]) (by simp only [push_cast, seval]) rfl rfl rfl
            · refine wk_id ?_
              refine seq_np ?_
              refine reg_f ?_
              refine rs 1 [] [] (by kernel_rfl) allP_nil ?_
              refine rf [(0, iS readers), (1, iS later), (5, .ptr 0 0), (6, .clo 24 [.ptr 0 0]), (12, .v (.slice none 0 0))] [(0, .row 24 [iS r4699.2.2.1, bS r4699.2.2.2.1, .own 4 0 r4699.2.2.2.2.1.length]), (1, .row 47 (fl r4699.2.2.2.2.2)), (4, .row 47 (fl r4699.2.2.2.2.1))] 5 (by kernel_rfl) ?_
              refine wk_id ?_
              refine seq_np ?_
              refine seq_np ?_
              refine reg_f ?_
              refine rs 1 [] [] (by kernel_rfl) allP_nil ?_
              refine rf [(0, iS readers), (1, iS later), (5, .ptr 0 0), (6, .clo 24 [.ptr 0 0]), (12, .v (.slice none 0 0)), (13, iS 0)] [(0, .row 24 [iS r4699.2.2.1, bS r4699.2.2.2.1, .own 4 0 r4699.2.2.2.2.1.length]), (1, .row 47 (fl r4699.2.2.2.2.2)), (4, .row 47 (fl r4699.2.2.2.2.1))] 5 (by kernel_rfl) ?_
              refine wk_id ?_
              refine block_np ?_
              refine loop_sx (S := Int × Int × Bool × (List Int) × (List Want)) (fun a => ([(0, iS readers), (1, iS later), (5, .ptr 0 0), (6, .clo 24 [.ptr 0 0]), (12, .own 1 0 a.2.2.2.1.length), (13, iS a.1)], [(0, .row 24 [iS a.2.1, bS a.2.2.1, .own 2 0 a.2.2.2.2.length]), (1, .row 3 (fl a.2.2.2.1)), (2, .row 47 (fl a.2.2.2.2))], 3)) h (leSt_m [(0, 0), (2, 4)] [] (by simp only [push_cast, seval]) (by simp only [push_cast, seval]) rfl rfl rfl) ?_
              rintro ⟨t17, c0_Readers21, c0_Writer21, c1q19, c2q9⟩ o5 R5 h hr5 hn5 hx5 ht5
              try dsimp only at h hn5 ⊢
              unfold taskmilllaw_LockShares_l2 at h
              try dsimp only at h
              refine seq_np ?_
              refine seq_np ?_
              refine reg_f ?_
              refine rs 3 [] [] (by kernel_rfl) allP_nil ?_
              refine rf [(0, iS readers), (1, iS later), (5, .ptr 0 0), (6, .clo 24 [.ptr 0 0]), (12, .own 1 0 c1q19.length), (13, iS t17), (74, bS (decide (t17 < later)))] [(0, .row 24 [iS c0_Readers21, bS c0_Writer21, .own 2 0 c2q9.length]), (1, .row 3 (fl c1q19)), (2, .row 47 (fl c2q9))] 3 (by kernel_rfl) ?_
              refine wk_id ?_
              refine cond_sx h (by kernel_rfl) (fun g4956 h => ?_) (fun g4956 h => ?_)
              · refine wk_id ?_
                refine seq_np ?_
                refine block_np ?_
                refine seq_np ?_
                refine reg_f ?_
                refine rs 5 [] [] (by kernel_rfl) allP_nil ?_
                obtain ⟨r4768, hr4768, h⟩ := bind_sx h
                refine call_x (taskmilllaw_LockShares_1_1_spec (IntKind.i64.wrap ((IntKind.i64.wrap (readers + 2)) + t17)) false c0_Readers21 c0_Writer21 c2q9 r4768 hr4768) (args := [iS (IntKind.i64.wrap ((IntKind.i64.wrap (readers + 2)) + t17)), bS false, .ptr 0 0]) (dst := (some 83)) (by kernel_rfl) [(0, .row 24 [iS c0_Readers21, bS c0_Writer21, .own 2 0 c2q9.length]), (1, .row 3 (fl c1q19)), (2, .row 47 (fl c2q9))] 3 (by kernel_rfl) [(0, 0), (1, 2)] [] (.tup [bS r4768.1, bS r4768.2.1]) [(0, .row 24 [iS r4768.2.2.1, bS r4768.2.2.2.1, .own 5 0 r4768.2.2.2.2.1.length]), (2, .row 47 (fl r4768.2.2.2.2.2)), (5, .row 47 (fl r4768.2.2.2.2.1)), (0, .dead), (2, .dead)] (by simp only [push_cast, seval]) (by simp only [push_cast, seval]) (by kernel_rfl) (.inl rfl) (by simp only [push_cast, seval]) (by simp only [push_cast, seval]) ?_
                refine rs 5 [] [] (by kernel_rfl) allP_nil ?_
                refine rf [(0, iS readers), (1, iS later), (5, .ptr 0 0), (6, .clo 24 [.ptr 0 0]), (12, .own 1 0 c1q19.length), (13, iS t17), (14, bS r4768.1), (15, bS r4768.2.1)] [(0, .row 24 [iS r4768.2.2.1, bS r4768.2.2.2.1, .own 5 0 r4768.2.2.2.2.1.length]), (1, .row 3 (fl c1q19)), (2, .row 47 (fl r4768.2.2.2.2.2)), (5, .row 47 (fl r4768.2.2.2.2.1))] 6 (by kernel_rfl) ?_
                refine wk_id ?_
                refine seq_np ?_
                refine seq_cut (A := Unit) (fun _ => ([(0, iS readers), (1, iS later), (5, .ptr 0 0), (6, .clo 24 [.ptr 0 0]), (12, .own 1 0 c1q19.length), (13, iS t17), (90, bS ((!r4768.2.1) || r4768.1))], [(0, .row 24 [iS r4768.2.2.1, bS r4768.2.2.2.1, .own 5 0 r4768.2.2.2.2.1.length]), (1, .row 3 (fl c1q19)), (2, .row 47 (fl r4768.2.2.2.2.2)), (5, .row 47 (fl r4768.2.2.2.2.1))], 6)) (fun _ => True) (fun K4772 hK4772 => ?_) (fun _ _ => ?_)
                · refine reg_f ?_
                  refine rs 3 [] [] (by kernel_rfl) allP_nil ?_
                  refine run_split 88 (!r4768.2.1) (.inl (by kernel_rfl)) (fun g4773 => ?_) (fun g4773 => ?_)
                  · refine rs 2 [] [] (by kernel_rfl) allP_nil ?_
                    refine rf [(0, iS readers), (1, iS later), (5, .ptr 0 0), (6, .clo 24 [.ptr 0 0]), (12, .own 1 0 c1q19.length), (13, iS t17), (90, bS true)] [(0, .row 24 [iS r4768.2.2.1, bS r4768.2.2.2.1, .own 5 0 r4768.2.2.2.2.1.length]), (1, .row 3 (fl c1q19)), (2, .row 47 (fl r4768.2.2.2.2.2)), (5, .row 47 (fl r4768.2.2.2.2.1))] 6 (by kernel_rfl) ?_
                    exact hK4772 () _ _ _ trivial (leSt_m [(0, 0), (1, 1), (2, 2), (5, 5)] [] (by (try simp only [g4773]) <;> simp only [push_cast, seval]) (by (try simp only [g4773]) <;> simp only [push_cast, seval]) rfl rfl rfl)
                  · refine rs 2 [] [] (by kernel_rfl) allP_nil ?_
                    refine rf [(0, iS readers), (1, iS later), (5, .ptr 0 0), (6, .clo 24 [.ptr 0 0]), (12, .own 1 0 c1q19.length), (13, iS t17), (90, bS r4768.1)] [(0, .row 24 [iS r4768.2.2.1, bS r4768.2.2.2.1, .own 5 0 r4768.2.2.2.2.1.length]), (1, .row 3 (fl c1q19)), (2, .row 47 (fl r4768.2.2.2.2.2)), (5, .row 47 (fl r4768.2.2.2.2.1))] 6 (by kernel_rfl) ?_
                    exact hK4772 () _ _ _ trivial (leSt_m [(0, 0), (1, 1), (2, 2), (5, 5)] [] (by (try simp only [g4773]) <;> simp only [push_cast, seval]) (by (try simp only [g4773]) <;> simp only [push_cast, seval]) rfl rfl rfl)
                · dsimp only
                  refine cond_sx h (by kernel_rfl) (fun g4778 h => ?_) (fun g4778 h => ?_)
                  · refine seq_np ?_
                    refine reg_f ?_
                    refine rs 1 [] [] (by kernel_rfl) allP_nil ?_
                    refine rf [(4, bS false)] [(0, .row 24 [iS r4768.2.2.1, bS r4768.2.2.2.1, .own 5 0 r4768.2.2.2.2.1.length]), (1, .row 3 (fl c1q19)), (2, .row 47 (fl r4768.2.2.2.2.2)), (5, .row 47 (fl r4768.2.2.2.2.1))] 6 (by kernel_rfl) ?_
                    refine wk_id ?_
                    refine rt_cast ht5 ?_
                    obtain ⟨r0, h, e0⟩ := map_sx h
                    have e1 := hr5 r0 e0.symm
                    subst r0
                    obtain rfl := Option.some.inj h
                    refine ret_at (bS false) (by kernel_rfl) ?_
                    exact ret_e [] [] (by simp only [push_cast, seval]) (by simp only [push_cast, seval]) rfl rfl rfl
                  · refine wk_id ?_
                    refine chk_sx h (fun g4777 h => ?_)
                    refine reg_f ?_
                    have k4776 : (c1q19 ++ ([(IntKind.i64.wrap ((IntKind.i64.wrap (readers + 2)) + t17))] : List Int)).length * 8 ≤ 140737488355328 := by first | simpa only [Bool.and_eq_true, decide_eq_true_eq, bne_iff_ne, ne_eq] using g4777 | (simp at g4777 ⊢; omega)
                    refine rs 8 [none, none, none, none, none, none, some ⟨.own 7 0 (c1q19 ++ ([(IntKind.i64.wrap ((IntKind.i64.wrap (readers + 2)) + t17))] : List Int)).length, [(7, .row 3 (fl (c1q19 ++ ([(IntKind.i64.wrap ((IntKind.i64.wrap (readers + 2)) + t17))] : List Int)))), (1, .dead)], 8, [1, 6]⟩] _ (by kernel_rfl) (allP_cons (ob_app (P := Try.prog) c1q19 ([(IntKind.i64.wrap ((IntKind.i64.wrap (readers + 2)) + t17))] : List Int) 1 8 rfl (appCells (fl ([(IntKind.i64.wrap ((IntKind.i64.wrap (readers + 2)) + t17))] : List Int)) 0 (([(IntKind.i64.wrap ((IntKind.i64.wrap (readers + 2)) + t17))] : List Int).length * 1)) ([(IntKind.i64.wrap ((IntKind.i64.wrap (readers + 2)) + t17))] : List Int).length (app_own ([(IntKind.i64.wrap ((IntKind.i64.wrap (readers + 2)) + t17))] : List Int) 1 rfl) rfl (0 + ([(IntKind.i64.wrap ((IntKind.i64.wrap (readers + 2)) + t17))] : List Int).length * 1 ≤ (fl ([(IntKind.i64.wrap ((IntKind.i64.wrap (readers + 2)) + t17))] : List Int)).length) (app_own_le ([(IntKind.i64.wrap ((IntKind.i64.wrap (readers + 2)) + t17))] : List Int) 1 rfl) 3 (by kernel_rfl) (by decide) k4776 1 7 [6]) allP_nil) ?_
                    refine rf [(0, iS readers), (1, iS later), (5, .ptr 0 0), (6, .clo 24 [.ptr 0 0]), (12, .own 7 0 (c1q19 ++ ([(IntKind.i64.wrap ((IntKind.i64.wrap (readers + 2)) + t17))] : List Int)).length), (13, iS t17)] [(0, .row 24 [iS r4768.2.2.1, bS r4768.2.2.2.1, .own 5 0 r4768.2.2.2.2.1.length]), (1, .dead), (2, .row 47 (fl r4768.2.2.2.2.2)), (5, .row 47 (fl r4768.2.2.2.2.1)), (6, .row 3 (fl ([(IntKind.i64.wrap ((IntKind.i64.wrap (readers + 2)) + t17))] : List Int))), (7, .row 3 (fl (c1q19 ++ ([(IntKind.i64.wrap ((IntKind.i64.wrap (readers + 2)) + t17))] : List Int))))] 8 (by kernel_rfl) ?_
                    refine wk_id ?_
                    refine wk_id ?_
                    refine reg_f ?_
                    refine rs 3 [] [] (by kernel_rfl) allP_nil ?_
                    refine rf [(0, iS readers), (1, iS later), (5, .ptr 0 0), (6, .clo 24 [.ptr 0 0]), (12, .own 7 0 (c1q19 ++ ([(IntKind.i64.wrap ((IntKind.i64.wrap (readers + 2)) + t17))] : List Int)).length), (13, iS (IntKind.i64.wrap (t17 + 1)))] [(0, .row 24 [iS r4768.2.2.1, bS r4768.2.2.2.1, .own 5 0 r4768.2.2.2.2.1.length]), (1, .dead), (2, .row 47 (fl r4768.2.2.2.2.2)), (5, .row 47 (fl r4768.2.2.2.2.1)), (6, .row 3 (fl ([(IntKind.i64.wrap ((IntKind.i64.wrap (readers + 2)) + t17))] : List Int))), (7, .row 3 (fl (c1q19 ++ ([(IntKind.i64.wrap ((IntKind.i64.wrap (readers + 2)) + t17))] : List Int))))] 8 (by kernel_rfl) ?_
                    exact hn5 ((IntKind.i64.wrap (t17 + 1)), r4768.2.2.1, r4768.2.2.2.1, (c1q19 ++ ([(IntKind.i64.wrap ((IntKind.i64.wrap (readers + 2)) + t17))] : List Int)), r4768.2.2.2.2.1) _ _ _ (Option.some.inj h).symm (leSt_m [(0, 0), (1, 7), (2, 5)] [] (by simp only [push_cast, seval]) (by simp only [push_cast, seval]) rfl rfl rfl)
              · change R5 (.exit 2) _ _ _
                refine ex_cast hx5 (id := 2) ?_
                obtain ⟨r0, h, e0⟩ := map_sx h
                have e1 := hr5 r0 e0.symm
                subst r0
                refine wk_id ?_
                refine wk_id ?_
                refine seq_np ?_
                refine seq_np ?_
                refine reg_f ?_
                refine rs 1 [] [] (by kernel_rfl) allP_nil ?_
                refine rf [(0, iS readers), (1, iS later), (5, .ptr 0 0), (12, .own 1 0 c1q19.length), (16, iS 1)] [(0, .row 24 [iS c0_Readers21, bS c0_Writer21, .own 2 0 c2q9.length]), (1, .row 3 (fl c1q19)), (2, .row 47 (fl c2q9))] 3 (by kernel_rfl) ?_
                refine wk_id ?_
                refine block_np ?_
                refine loop_sx (S := Int × Int × Bool × (List Want)) (fun a => ([(0, iS readers), (1, iS later), (5, .ptr 0 0), (12, .own 1 0 c1q19.length), (16, iS a.1)], [(0, .row 24 [iS a.2.1, bS a.2.2.1, .own 2 0 a.2.2.2.length]), (1, .row 3 (fl c1q19)), (2, .row 47 (fl a.2.2.2))], 3)) h (leSt_m [(0, 0), (1, 1), (2, 2)] [] (by simp only [push_cast, seval]) (by simp only [push_cast, seval]) rfl rfl rfl) ?_
                rintro ⟨t23, c0_Readers27, c0_Writer27, c2q15⟩ o6 R6 h hr6 hn6 hx6 ht6
                try dsimp only at h hn6 ⊢
                unfold taskmilllaw_LockShares_l1 at h
                try dsimp only at h
                refine seq_np ?_
                refine seq_np ?_
                refine reg_f ?_
                refine rs 3 [] [] (by kernel_rfl) allP_nil ?_
                refine rf [(0, iS readers), (1, iS later), (5, .ptr 0 0), (12, .own 1 0 c1q19.length), (16, iS t23), (100, bS (decide (t23 ≤ readers)))] [(0, .row 24 [iS c0_Readers27, bS c0_Writer27, .own 2 0 c2q15.length]), (1, .row 3 (fl c1q19)), (2, .row 47 (fl c2q15))] 3 (by kernel_rfl) ?_
                refine wk_id ?_
                refine cond_sx h (by kernel_rfl) (fun g4955 h => ?_) (fun g4955 h => ?_)
                · refine wk_id ?_
                  refine seq_np ?_
                  refine block_np ?_
                  refine seq_np ?_
                  refine reg_f ?_
                  refine rs 1 [] [] (by kernel_rfl) allP_nil ?_
                  obtain ⟨r4912, hr4912, h⟩ := bind_sx h
                  refine call_x (lock_Leave_spec (Lock.mk c0_Readers27 c0_Writer27 c2q15) false r4912 hr4912) (args := [.agg [iS c0_Readers27, bS c0_Writer27, .own 2 0 c2q15.length], bS false]) (dst := (some 105)) (by kernel_rfl) [(0, .row 24 [iS c0_Readers27, bS c0_Writer27, .own 2 0 c2q15.length]), (1, .row 3 (fl c1q19)), (2, .row 47 (fl c2q15))] 3 (by kernel_rfl) [] [2] (.tup [.agg [iS r4912.1, bS r4912.2.1, .own 3 0 r4912.2.2.2.2.1.length], .own 4 0 r4912.2.2.2.2.2.length, bS r4912.2.2.1, .agg (Enc.cells r4912.2.2.2.1)]) [(3, .row 47 (fl r4912.2.2.2.2.1)), (4, .row 3 (fl r4912.2.2.2.2.2))] (by simp only [push_cast, seval]) (by simp only [push_cast, seval]) (by kernel_rfl) (.inr ⟨by simp only [push_cast, seval], by simp only [push_cast, seval]⟩) (by simp only [push_cast, seval]) (by simp only [push_cast, seval]) ?_
                  refine rs 11 [] [] (by kernel_rfl) allP_nil ?_
                  refine rf [(0, iS readers), (1, iS later), (5, .ptr 0 0), (12, .own 1 0 c1q19.length), (16, iS t23), (17, .ptr 5 0), (18, .own 4 0 r4912.2.2.2.2.2.length), (19, bS r4912.2.2.1), (20, .ptr 6 0)] [(0, .row 24 [iS c0_Readers27, bS c0_Writer27, .own 2 0 c2q15.length]), (1, .row 3 (fl c1q19)), (2, .row 47 (fl c2q15)), (3, .row 47 (fl r4912.2.2.2.2.1)), (4, .row 3 (fl r4912.2.2.2.2.2)), (5, .row 24 [iS r4912.1, bS r4912.2.1, .own 3 0 r4912.2.2.2.2.1.length]), (6, .row 28 (Enc.cells r4912.2.2.2.1))] 7 (by kernel_rfl) ?_
                  refine wk_id ?_
                  refine seq_np ?_
                  refine seq_cut (A := Bool × Int × Bool × (List Want)) (fun a => ([(0, iS readers), (1, iS later), (5, .ptr 0 0), (12, .own 1 0 c1q19.length), (16, iS t23), (17, .ptr 2 0), (138, bS a.1)], [(0, .row 24 [iS c0_Readers27, bS c0_Writer27, .own 3 0 c2q15.length]), (1, .row 3 (fl c1q19)), (2, .row 24 [iS a.2.1, bS a.2.2.1, .own 4 0 a.2.2.2.length]), (3, .row 47 (fl c2q15)), (4, .row 47 (fl a.2.2.2))], 5)) (fun a => (taskmilllaw_LockShares_j1 readers later c1q19 t23 c0_Readers27 c0_Writer27 c2q15 a.1 a.2.1 a.2.2.1 a.2.2.2) = some o6) (fun K4933 hK4933 => ?_) ?_
                  · refine reg_f ?_
                    refine rs 4 [] [] (by kernel_rfl) allP_nil ?_
                    refine run_br h 113 (.inl (by kernel_rfl)) (fun g4934 h => ?_) (fun g4934 h => ?_)
                    · refine rs 25 [] [] (by kernel_rfl) allP_nil ?_
                      refine rf [(0, iS readers), (1, iS later), (5, .ptr 0 0), (12, .own 1 0 c1q19.length), (16, iS t23), (17, .ptr 5 0), (138, bS true)] [(0, .row 24 [iS c0_Readers27, bS c0_Writer27, .own 2 0 c2q15.length]), (1, .row 3 (fl c1q19)), (2, .row 47 (fl c2q15)), (3, .row 47 (fl r4912.2.2.2.2.1)), (4, .row 3 (fl r4912.2.2.2.2.2)), (5, .row 24 [iS r4912.1, bS r4912.2.1, .own 3 0 r4912.2.2.2.2.1.length]), (6, .row 28 (Enc.cells r4912.2.2.2.1))] 7 (by kernel_rfl) ?_
                      exact hK4933 (true, r4912.1, r4912.2.1, r4912.2.2.2.2.1) _ _ _ h (leSt_m [(0, 0), (1, 1), (2, 5), (3, 2), (4, 3)] [] (by (try simp only [g4934]) <;> simp only [push_cast, seval]) (by (try simp only [g4934]) <;> simp only [push_cast, seval]) rfl rfl rfl)
                    · refine rs 3 [] [] (by kernel_rfl) allP_nil ?_
                      refine run_br h 116 (.inl (by kernel_rfl)) (fun g4935 h => ?_) (fun g4935 h => ?_)
                      · refine rs 22 [] [] (by kernel_rfl) allP_nil ?_
                        refine rf [(0, iS readers), (1, iS later), (5, .ptr 0 0), (12, .own 1 0 c1q19.length), (16, iS t23), (17, .ptr 5 0), (138, bS true)] [(0, .row 24 [iS c0_Readers27, bS c0_Writer27, .own 2 0 c2q15.length]), (1, .row 3 (fl c1q19)), (2, .row 47 (fl c2q15)), (3, .row 47 (fl r4912.2.2.2.2.1)), (4, .row 3 (fl r4912.2.2.2.2.2)), (5, .row 24 [iS r4912.1, bS r4912.2.1, .own 3 0 r4912.2.2.2.2.1.length]), (6, .row 28 (Enc.cells r4912.2.2.2.1))] 7 (by kernel_rfl) ?_
                        exact hK4933 (true, r4912.1, r4912.2.1, r4912.2.2.2.2.1) _ _ _ h (leSt_m [(0, 0), (1, 1), (2, 5), (3, 2), (4, 3)] [] (by first | ((try simp only [g4934, g4935]) <;> simp only [push_cast, seval]; done) | (exfalso; clear h; simp_all)) (by first | ((try simp only [g4934, g4935]) <;> simp only [push_cast, seval]; done) | (exfalso; clear h; simp_all)) rfl rfl rfl)
                      · refine rs 4 [] [] (by kernel_rfl) allP_nil ?_
                        refine run_br h 120 (.inr (by kernel_rfl)) (fun g4936 h => ?_) (fun g4936 h => ?_)
                        · refine rn 11 [(0, iS readers), (1, iS later), (5, .ptr 0 0), (12, .own 1 0 c1q19.length), (16, iS t23), (17, .ptr 5 0), (18, .own 4 0 r4912.2.2.2.2.2.length), (116, bS false), (120, .gd true (bS true))] [(0, .row 24 [iS c0_Readers27, bS c0_Writer27, .own 2 0 c2q15.length]), (1, .row 3 (fl c1q19)), (2, .row 47 (fl c2q15)), (3, .row 47 (fl r4912.2.2.2.2.1)), (4, .row 3 (fl r4912.2.2.2.2.2)), (5, .row 24 [iS r4912.1, bS r4912.2.1, .own 3 0 r4912.2.2.2.2.1.length]), (6, .row 28 (Enc.cells r4912.2.2.2.1))] 7 (by kernel_rfl) ?_
                          refine rs 6 [] [] (by kernel_rfl) allP_nil ?_
                          refine run_br h 126 (.inl (by kernel_rfl)) (fun g4937 h => ?_) (fun g4937 h => ?_)
                          · refine rs 12 [] [] (by kernel_rfl) allP_nil ?_
                            refine rf [(0, iS readers), (1, iS later), (5, .ptr 0 0), (12, .own 1 0 c1q19.length), (16, iS t23), (17, .ptr 5 0), (138, bS true)] [(0, .row 24 [iS c0_Readers27, bS c0_Writer27, .own 2 0 c2q15.length]), (1, .row 3 (fl c1q19)), (2, .row 47 (fl c2q15)), (3, .row 47 (fl r4912.2.2.2.2.1)), (4, .row 3 (fl r4912.2.2.2.2.2)), (5, .row 24 [iS r4912.1, bS r4912.2.1, .own 3 0 r4912.2.2.2.2.1.length]), (6, .row 28 (Enc.cells r4912.2.2.2.1))] 7 (by kernel_rfl) ?_
                            exact hK4933 (true, r4912.1, r4912.2.1, r4912.2.2.2.2.1) _ _ _ h (leSt_m [(0, 0), (1, 1), (2, 5), (3, 2), (4, 3)] [] (by first | ((try simp only [g4934, g4935, g4936, g4937]) <;> simp only [push_cast, seval]; done) | (exfalso; clear h; simp_all)) (by first | ((try simp only [g4934, g4935, g4936, g4937]) <;> simp only [push_cast, seval]; done) | (exfalso; clear h; simp_all)) rfl rfl rfl)
                          · refine rs 4 [] [] (by kernel_rfl) allP_nil ?_
                            refine run_br h 130 (.inr (by kernel_rfl)) (fun g4938 h => ?_) (fun g4938 h => ?_)
                            · refine rs 4 [] [] (by kernel_rfl) allP_nil ?_
                              obtain ⟨r4939, hr4939, h⟩ := bind_sx h
                              refine call_x (taskmillref_Ints_spec r4912.2.2.2.2.2 ([(IntKind.i64.wrap (readers + 1))] : List Int) r4939 hr4939) (args := [.own 4 0 r4912.2.2.2.2.2.length, .own 7 0 ([(IntKind.i64.wrap (readers + 1))] : List Int).length]) (dst := (some 135)) (by kernel_rfl) [(0, .row 24 [iS c0_Readers27, bS c0_Writer27, .own 2 0 c2q15.length]), (1, .row 3 (fl c1q19)), (2, .row 47 (fl c2q15)), (3, .row 47 (fl r4912.2.2.2.2.1)), (4, .row 3 (fl r4912.2.2.2.2.2)), (5, .row 24 [iS r4912.1, bS r4912.2.1, .own 3 0 r4912.2.2.2.2.1.length]), (6, .row 28 (Enc.cells r4912.2.2.2.1)), (7, .row 3 (fl ([(IntKind.i64.wrap (readers + 1))] : List Int)))] 8 (by kernel_rfl) [] [4, 7] (bS r4939) [] (by simp only [push_cast, seval]) (by simp only [push_cast, seval]) (by kernel_rfl) (.inr ⟨by simp only [push_cast, seval], by simp only [push_cast, seval]⟩) (by simp only [push_cast, seval]) (by simp only [push_cast, seval]) ?_
                              refine rn 26 [(0, iS readers), (1, iS later), (5, .ptr 0 0), (12, .own 1 0 c1q19.length), (16, iS t23), (17, .ptr 5 0), (126, bS false), (130, .gd true (bS true)), (135, bS r4939)] [(0, .row 24 [iS c0_Readers27, bS c0_Writer27, .own 2 0 c2q15.length]), (1, .row 3 (fl c1q19)), (2, .row 47 (fl c2q15)), (3, .row 47 (fl r4912.2.2.2.2.1)), (4, .row 3 (fl r4912.2.2.2.2.2)), (5, .row 24 [iS r4912.1, bS r4912.2.1, .own 3 0 r4912.2.2.2.2.1.length]), (6, .row 28 (Enc.cells r4912.2.2.2.1)), (7, .row 3 (fl ([(IntKind.i64.wrap (readers + 1))] : List Int)))] 8 (by kernel_rfl) ?_
                              refine rs 3 [] [] (by kernel_rfl) allP_nil ?_
                              refine rf [(0, iS readers), (1, iS later), (5, .ptr 0 0), (12, .own 1 0 c1q19.length), (16, iS t23), (17, .ptr 5 0), (138, bS (!r4939))] [(0, .row 24 [iS c0_Readers27, bS c0_Writer27, .own 2 0 c2q15.length]), (1, .row 3 (fl c1q19)), (2, .row 47 (fl c2q15)), (3, .row 47 (fl r4912.2.2.2.2.1)), (4, .row 3 (fl r4912.2.2.2.2.2)), (5, .row 24 [iS r4912.1, bS r4912.2.1, .own 3 0 r4912.2.2.2.2.1.length]), (6, .row 28 (Enc.cells r4912.2.2.2.1)), (7, .row 3 (fl ([(IntKind.i64.wrap (readers + 1))] : List Int)))] 8 (by kernel_rfl) ?_
                              exact hK4933 ((!r4939), r4912.1, r4912.2.1, r4912.2.2.2.2.1) _ _ _ h (leSt_m [(0, 0), (1, 1), (2, 5), (3, 2), (4, 3)] [] (by first | ((try simp only [g4934, g4935, g4936, g4937, g4938]) <;> simp only [push_cast, seval]; done) | (exfalso; clear h; simp_all)) (by first | ((try simp only [g4934, g4935, g4936, g4937, g4938]) <;> simp only [push_cast, seval]; done) | (exfalso; clear h; simp_all)) rfl rfl rfl)
                            · refine rs 8 [] [] (by kernel_rfl) allP_nil ?_
                              refine rf [(0, iS readers), (1, iS later), (5, .ptr 0 0), (12, .own 1 0 c1q19.length), (16, iS t23), (17, .ptr 5 0), (138, bS false)] [(0, .row 24 [iS c0_Readers27, bS c0_Writer27, .own 2 0 c2q15.length]), (1, .row 3 (fl c1q19)), (2, .row 47 (fl c2q15)), (3, .row 47 (fl r4912.2.2.2.2.1)), (4, .row 3 (fl r4912.2.2.2.2.2)), (5, .row 24 [iS r4912.1, bS r4912.2.1, .own 3 0 r4912.2.2.2.2.1.length]), (6, .row 28 (Enc.cells r4912.2.2.2.1))] 7 (by kernel_rfl) ?_
                              exact hK4933 (false, r4912.1, r4912.2.1, r4912.2.2.2.2.1) _ _ _ h (leSt_m [(0, 0), (1, 1), (2, 5), (3, 2), (4, 3)] [] (by first | ((try simp only [g4934, g4935, g4936, g4937, g4938]) <;> simp only [push_cast, seval]; done) | (exfalso; clear h; simp_all)) (by first | ((try simp only [g4934, g4935, g4936, g4937, g4938]) <;> simp only [push_cast, seval]; done) | (exfalso; clear h; simp_all)) rfl rfl rfl)
                        · refine rn 11 [(0, iS readers), (1, iS later), (5, .ptr 0 0), (12, .own 1 0 c1q19.length), (16, iS t23), (17, .ptr 5 0), (18, .own 4 0 r4912.2.2.2.2.2.length), (116, bS false), (120, .gd true (bS false))] [(0, .row 24 [iS c0_Readers27, bS c0_Writer27, .own 2 0 c2q15.length]), (1, .row 3 (fl c1q19)), (2, .row 47 (fl c2q15)), (3, .row 47 (fl r4912.2.2.2.2.1)), (4, .row 3 (fl r4912.2.2.2.2.2)), (5, .row 24 [iS r4912.1, bS r4912.2.1, .own 3 0 r4912.2.2.2.2.1.length]), (6, .row 28 (Enc.cells r4912.2.2.2.1))] 7 (by kernel_rfl) ?_
                          refine rs 10 [] [] (by kernel_rfl) allP_nil ?_
                          refine run_br h 130 (.inr (by kernel_rfl)) (fun g4940 h => ?_) (fun g4940 h => ?_)
                          · refine rs 4 [] [] (by kernel_rfl) allP_nil ?_
                            obtain ⟨r4941, hr4941, h⟩ := bind_sx h
                            refine call_x (taskmillref_Ints_spec r4912.2.2.2.2.2 ([(IntKind.i64.wrap (readers + 1))] : List Int) r4941 hr4941) (args := [.own 4 0 r4912.2.2.2.2.2.length, .own 7 0 ([(IntKind.i64.wrap (readers + 1))] : List Int).length]) (dst := (some 135)) (by kernel_rfl) [(0, .row 24 [iS c0_Readers27, bS c0_Writer27, .own 2 0 c2q15.length]), (1, .row 3 (fl c1q19)), (2, .row 47 (fl c2q15)), (3, .row 47 (fl r4912.2.2.2.2.1)), (4, .row 3 (fl r4912.2.2.2.2.2)), (5, .row 24 [iS r4912.1, bS r4912.2.1, .own 3 0 r4912.2.2.2.2.1.length]), (6, .row 28 (Enc.cells r4912.2.2.2.1)), (7, .row 3 (fl ([(IntKind.i64.wrap (readers + 1))] : List Int)))] 8 (by kernel_rfl) [] [4, 7] (bS r4941) [] (by simp only [push_cast, seval]) (by simp only [push_cast, seval]) (by kernel_rfl) (.inr ⟨by simp only [push_cast, seval], by simp only [push_cast, seval]⟩) (by simp only [push_cast, seval]) (by simp only [push_cast, seval]) ?_
                            refine rs 3 [] [] (by kernel_rfl) allP_nil ?_
                            refine rf [(0, iS readers), (1, iS later), (5, .ptr 0 0), (12, .own 1 0 c1q19.length), (16, iS t23), (17, .ptr 5 0), (138, bS (!r4941))] [(0, .row 24 [iS c0_Readers27, bS c0_Writer27, .own 2 0 c2q15.length]), (1, .row 3 (fl c1q19)), (2, .row 47 (fl c2q15)), (3, .row 47 (fl r4912.2.2.2.2.1)), (4, .row 3 (fl r4912.2.2.2.2.2)), (5, .row 24 [iS r4912.1, bS r4912.2.1, .own 3 0 r4912.2.2.2.2.1.length]), (6, .row 28 (Enc.cells r4912.2.2.2.1)), (7, .row 3 (fl ([(IntKind.i64.wrap (readers + 1))] : List Int)))] 8 (by kernel_rfl) ?_
                            exact hK4933 ((!r4941), r4912.1, r4912.2.1, r4912.2.2.2.2.1) _ _ _ h (leSt_m [(0, 0), (1, 1), (2, 5), (3, 2), (4, 3)] [] (by first | ((try simp only [g4934, g4935, g4936, g4940]) <;> simp only [push_cast, seval]; done) | (exfalso; clear h; simp_all)) (by first | ((try simp only [g4934, g4935, g4936, g4940]) <;> simp only [push_cast, seval]; done) | (exfalso; clear h; simp_all)) rfl rfl rfl)
                          · refine rs 8 [] [] (by kernel_rfl) allP_nil ?_
                            refine rf [(0, iS readers), (1, iS later), (5, .ptr 0 0), (12, .own 1 0 c1q19.length), (16, iS t23), (17, .ptr 5 0), (138, bS false)] [(0, .row 24 [iS c0_Readers27, bS c0_Writer27, .own 2 0 c2q15.length]), (1, .row 3 (fl c1q19)), (2, .row 47 (fl c2q15)), (3, .row 47 (fl r4912.2.2.2.2.1)), (4, .row 3 (fl r4912.2.2.2.2.2)), (5, .row 24 [iS r4912.1, bS r4912.2.1, .own 3 0 r4912.2.2.2.2.1.length]), (6, .row 28 (Enc.cells r4912.2.2.2.1))] 7 (by kernel_rfl) ?_
                            exact hK4933 (false, r4912.1, r4912.2.1, r4912.2.2.2.2.1) _ _ _ h (leSt_m [(0, 0), (1, 1), (2, 5), (3, 2), (4, 3)] [] (by first | ((try simp only [g4934, g4935, g4936, g4940]) <;> simp only [push_cast, seval]; done) | (exfalso; clear h; simp_all)) (by first | ((try simp only [g4934, g4935, g4936, g4940]) <;> simp only [push_cast, seval]; done) | (exfalso; clear h; simp_all)) rfl rfl rfl)
                  · rintro ⟨t138q14, c2_Readers14, c2_Writer14, c4q14⟩ h
                    try dsimp only at h ⊢
                    unfold taskmilllaw_LockShares_j1 at h
                    refine cond_sx h (by kernel_rfl) (fun g4942 h => ?_) (fun g4942 h => ?_)
                    · refine seq_np ?_
                      refine reg_f ?_
                      refine rs 1 [] [] (by kernel_rfl) allP_nil ?_
                      refine rf [(4, bS false)] [(0, .row 24 [iS c0_Readers27, bS c0_Writer27, .own 3 0 c2q15.length]), (1, .row 3 (fl c1q19)), (2, .row 24 [iS c2_Readers14, bS c2_Writer14, .own 4 0 c4q14.length]), (3, .row 47 (fl c2q15)), (4, .row 47 (fl c4q14))] 5 (by kernel_rfl) ?_
                      refine wk_id ?_
                      refine rt_cast ht6 ?_
                      obtain ⟨r0, h, e0⟩ := map_sx h
                      have e1 := hr6 r0 e0.symm
                      subst r0
                      obtain rfl := Option.some.inj h
                      refine ret_at (bS false) (by kernel_rfl) ?_
                      exact ret_e [] [] (by simp only [push_cast, seval]) (by simp only [push_cast, seval]) rfl rfl rfl
                    · refine wk_id ?_
                      refine reg_f ?_
                      refine rs 2 [] [] (by kernel_rfl) allP_nil ?_
                      refine rf [(0, iS readers), (1, iS later), (5, .ptr 0 0), (12, .own 1 0 c1q19.length), (16, iS t23)] [(0, .row 24 [iS c2_Readers14, bS c2_Writer14, .own 4 0 c4q14.length]), (1, .row 3 (fl c1q19)), (2, .row 24 [iS c2_Readers14, bS c2_Writer14, .own 4 0 c4q14.length]), (3, .row 47 (fl c2q15)), (4, .row 47 (fl c4q14))] 5 (by kernel_rfl) ?_
                      refine wk_id ?_
                      refine wk_id ?_
                      refine reg_f ?_
                      refine rs 3 [] [] (by kernel_rfl) allP_nil ?_
                      refine rf [(0, iS readers), (1, iS later), (5, .ptr 0 0), (12, .own 1 0 c1q19.length), (16, iS (IntKind.i64.wrap (t23 + 1)))] [(0, .row 24 [iS c2_Readers14, bS c2_Writer14, .own 4 0 c4q14.length]), (1, .row 3 (fl c1q19)), (2, .row 24 [iS c2_Readers14, bS c2_Writer14, .own 4 0 c4q14.length]), (3, .row 47 (fl c2q15)), (4, .row 47 (fl c4q14))] 5 (by kernel_rfl) ?_
                      exact hn6 ((IntKind.i64.wrap (t23 + 1)), c2_Readers14, c2_Writer14, c4q14) _ _ _ (Option.some.inj h).symm (leSt_m [(0, 0), (1, 1), (2, 4)] [] (by simp only [push_cast, seval]) (by simp only [push_cast, seval]) rfl rfl rfl)
                · change R6 (.exit 4) _ _ _
                  refine ex_cast hx6 (id := 4) ?_
                  obtain ⟨r0, h, e0⟩ := map_sx h
                  have e1 := hr6 r0 e0.symm
                  subst r0
                  refine wk_id ?_
                  refine wk_id ?_
                  refine seq_np ?_
                  refine reg_f ?_
                  refine rs 1 [] [] (by kernel_rfl) allP_nil ?_
                  obtain ⟨r4944, hr4944, h⟩ := bind_sx h
                  refine call_x (lock_Leave_spec (Lock.mk c0_Readers27 c0_Writer27 c2q15) true r4944 hr4944) (args := [.agg [iS c0_Readers27, bS c0_Writer27, .own 2 0 c2q15.length], bS true]) (dst := (some 142)) (by kernel_rfl) [(0, .row 24 [iS c0_Readers27, bS c0_Writer27, .own 2 0 c2q15.length]), (1, .row 3 (fl c1q19)), (2, .row 47 (fl c2q15))] 3 (by kernel_rfl) [] [2] (.tup [.agg [iS r4944.1, bS r4944.2.1, .own 3 0 r4944.2.2.2.2.1.length], .own 4 0 r4944.2.2.2.2.2.length, bS r4944.2.2.1, .agg (Enc.cells r4944.2.2.2.1)]) [(3, .row 47 (fl r4944.2.2.2.2.1)), (4, .row 3 (fl r4944.2.2.2.2.2))] (by simp only [push_cast, seval]) (by simp only [push_cast, seval]) (by kernel_rfl) (.inr ⟨by simp only [push_cast, seval], by simp only [push_cast, seval]⟩) (by simp only [push_cast, seval]) (by simp only [push_cast, seval]) ?_
                  refine rs 11 [] [] (by kernel_rfl) allP_nil ?_
                  refine rf [(1, iS later), (12, .own 1 0 c1q19.length), (21, .ptr 5 0), (22, .own 4 0 r4944.2.2.2.2.2.length), (23, bS r4944.2.2.1), (24, .ptr 6 0)] [(0, .row 24 [iS c0_Readers27, bS c0_Writer27, .own 2 0 c2q15.length]), (1, .row 3 (fl c1q19)), (2, .row 47 (fl c2q15)), (3, .row 47 (fl r4944.2.2.2.2.1)), (4, .row 3 (fl r4944.2.2.2.2.2)), (5, .row 24 [iS r4944.1, bS r4944.2.1, .own 3 0 r4944.2.2.2.2.1.length]), (6, .row 28 (Enc.cells r4944.2.2.2.1))] 7 (by kernel_rfl) ?_
                  refine wk_id ?_
                  refine seq_cut (A := Bool) (fun a => ([(4, bS a)], [], 0)) (fun a => (taskmilllaw_LockShares_j2 a) = some r) (fun K4950 hK4950 => ?_) ?_
                  · refine reg_f ?_
                    refine rs 4 [] [] (by kernel_rfl) allP_nil ?_
                    refine run_br h 150 (.inl (by kernel_rfl)) (fun g4951 h => ?_) (fun g4951 h => ?_)
                    · refine rs 4 [] [] (by kernel_rfl) allP_nil ?_
                      refine run_br h 154 (.inl (by kernel_rfl)) (fun g4952 h => ?_) (fun g4952 h => ?_)
                      · refine rs 2 [] [] (by kernel_rfl) allP_nil ?_
                        obtain ⟨r4953, hr4953, h⟩ := bind_sx h
                        refine call_x (taskmillref_Ints_spec r4944.2.2.2.2.2 c1q19 r4953 hr4953) (args := [.own 4 0 r4944.2.2.2.2.2.length, .own 1 0 c1q19.length]) (dst := (some 157)) (by kernel_rfl) [(0, .row 24 [iS c0_Readers27, bS c0_Writer27, .own 2 0 c2q15.length]), (1, .row 3 (fl c1q19)), (2, .row 47 (fl c2q15)), (3, .row 47 (fl r4944.2.2.2.2.1)), (4, .row 3 (fl r4944.2.2.2.2.2)), (5, .row 24 [iS r4944.1, bS r4944.2.1, .own 3 0 r4944.2.2.2.2.1.length]), (6, .row 28 (Enc.cells r4944.2.2.2.1))] 7 (by kernel_rfl) [] [1, 4] (bS r4953) [] (by simp only [push_cast, seval]) (by simp only [push_cast, seval]) (by kernel_rfl) (.inr ⟨by simp only [push_cast, seval], by simp only [push_cast, seval]⟩) (by simp only [push_cast, seval]) (by simp only [push_cast, seval]) ?_
                        refine rn 11 [(1, iS later), (21, .ptr 5 0), (154, bS true), (157, bS r4953)] [(0, .row 24 [iS c0_Readers27, bS c0_Writer27, .own 2 0 c2q15.length]), (1, .row 3 (fl c1q19)), (2, .row 47 (fl c2q15)), (3, .row 47 (fl r4944.2.2.2.2.1)), (4, .row 3 (fl r4944.2.2.2.2.2)), (5, .row 24 [iS r4944.1, bS r4944.2.1, .own 3 0 r4944.2.2.2.2.1.length]), (6, .row 28 (Enc.cells r4944.2.2.2.1))] 7 (by kernel_rfl) ?_
                        refine rs 2 [] [] (by kernel_rfl) allP_nil ?_
                        refine run_br h 159 (.inl (by kernel_rfl)) (fun g4954 h => ?_) (fun g4954 h => ?_)
                        · refine rs 6 [] [] (by kernel_rfl) allP_nil ?_
                          refine rf [(4, bS (r4944.1 == later))] [(0, .row 24 [iS c0_Readers27, bS c0_Writer27, .own 2 0 c2q15.length]), (1, .row 3 (fl c1q19)), (2, .row 47 (fl c2q15)), (3, .row 47 (fl r4944.2.2.2.2.1)), (4, .row 3 (fl r4944.2.2.2.2.2)), (5, .row 24 [iS r4944.1, bS r4944.2.1, .own 3 0 r4944.2.2.2.2.1.length]), (6, .row 28 (Enc.cells r4944.2.2.2.1))] 7 (by kernel_rfl) ?_
                          exact hK4950 ((r4944.1 == later)) _ _ _ h (leSt_m [] [] (by first | ((try simp only [g4951, g4952, g4954]) <;> simp only [push_cast, seval]; done) | (exfalso; clear h; simp_all)) (by first | ((try simp only [g4951, g4952, g4954]) <;> simp only [push_cast, seval]; done) | (exfalso; clear h; simp_all)) rfl rfl rfl)
                        · refine rs 6 [] [] (by kernel_rfl) allP_nil ?_
                          refine rf [(4, bS false)] [(0, .row 24 [iS c0_Readers27, bS c0_Writer27, .own 2 0 c2q15.length]), (1, .row 3 (fl c1q19)), (2, .row 47 (fl c2q15)), (3, .row 47 (fl r4944.2.2.2.2.1)), (4, .row 3 (fl r4944.2.2.2.2.2)), (5, .row 24 [iS r4944.1, bS r4944.2.1, .own 3 0 r4944.2.2.2.2.1.length]), (6, .row 28 (Enc.cells r4944.2.2.2.1))] 7 (by kernel_rfl) ?_
                          exact hK4950 (false) _ _ _ h (leSt_m [] [] (by first | ((try simp only [g4951, g4952, g4954]) <;> simp only [push_cast, seval]; done) | (exfalso; clear h; simp_all)) (by first | ((try simp only [g4951, g4952, g4954]) <;> simp only [push_cast, seval]; done) | (exfalso; clear h; simp_all)) rfl rfl rfl)
                      · refine rs 11 [] [] (by kernel_rfl) allP_nil ?_
                        refine rf [(4, bS false)] [(0, .row 24 [iS c0_Readers27, bS c0_Writer27, .own 2 0 c2q15.length]), (1, .row 3 (fl c1q19)), (2, .row 47 (fl c2q15)), (3, .row 47 (fl r4944.2.2.2.2.1)), (4, .row 3 (fl r4944.2.2.2.2.2)), (5, .row 24 [iS r4944.1, bS r4944.2.1, .own 3 0 r4944.2.2.2.2.1.length]), (6, .row 28 (Enc.cells r4944.2.2.2.1))] 7 (by kernel_rfl) ?_
                        exact hK4950 (false) _ _ _ h (leSt_m [] [] (by first | ((try simp only [g4951, g4952]) <;> simp only [push_cast, seval]; done) | (exfalso; clear h; simp_all)) (by first | ((try simp only [g4951, g4952]) <;> simp only [push_cast, seval]; done) | (exfalso; clear h; simp_all)) rfl rfl rfl)
                    · refine rs 15 [] [] (by kernel_rfl) allP_nil ?_
                      refine rf [(4, bS false)] [(0, .row 24 [iS c0_Readers27, bS c0_Writer27, .own 2 0 c2q15.length]), (1, .row 3 (fl c1q19)), (2, .row 47 (fl c2q15)), (3, .row 47 (fl r4944.2.2.2.2.1)), (4, .row 3 (fl r4944.2.2.2.2.2)), (5, .row 24 [iS r4944.1, bS r4944.2.1, .own 3 0 r4944.2.2.2.2.1.length]), (6, .row 28 (Enc.cells r4944.2.2.2.1))] 7 (by kernel_rfl) ?_
                      exact hK4950 (false) _ _ _ h (leSt_m [] [] (by (try simp only [g4951]) <;> simp only [push_cast, seval]) (by (try simp only [g4951]) <;> simp only [push_cast, seval]) rfl rfl rfl)
                  · rintro t4q1 h
                    try dsimp only at h ⊢
                    unfold taskmilllaw_LockShares_j2 at h
                    obtain rfl := Option.some.inj h
                    refine ret_at (bS t4q1) (by kernel_rfl) ?_
                    exact ret_e [] [] (by simp only [push_cast, seval]) (by simp only [push_cast, seval]) rfl rfl rfl

end Go.Proofs.Ythknjjkldflbaaa
