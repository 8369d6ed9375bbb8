/-
 What laws of the chapter linear compute, and lemmas on it.
 No conditions.
-/
import Derived.Test.YtopomedppninoaalinearWLinearWider1
set_option linter.unusedSimpArgs false
set_option linter.unusedVariables false
namespace Go.Proofs.Ytopomedppninoaa
open Go Go.Sx
attribute [local irreducible] Wk RunAt
set_option maxRecDepth 100000 in
set_option maxHeartbeats 200000000 in
theorem linear_Play_spec (kind : Int) (l : (List GCall)) (order : (List Int)) (r : Fault) (h : linear_Play kind l order = some r) : SpecW Try.prog 17 [iS kind, .sl l.length (fl l), .sl order.length (fl order)] [] 0 (fun x h n => x = .agg (Enc.cells r) ∧ h = [] ∧ n = 0) := by
 unfold linear_Play at h
 refine spec_of (draw_ok _) Try.func17 rfl (by decide) rfl (by kernel_rfl) ?_
 refine seq_np ?_
 refine reg_f ?_
 refine rs 1 [] [] (by kernel_rfl) allP_nil ?_
 refine rf [(0, iS kind), (1, .sl l.length (fl l)), (2, .sl order.length (fl order)), (6, .ptr 0 0)] [(0, .row 26 [iS 0, iS 0])] 1 (by kernel_rfl) ?_
 refine wk_id ?_
 refine seq_np ?_
 refine seq_np ?_
 refine reg_f ?_
 refine rs 2 [] [] (by kernel_rfl) allP_nil ?_
 obtain ⟨r6926, hr6926, h⟩ := bind_sx h
 refine run_call 16 [iS kind, .sl l.length (fl l)] (some 18) (by kernel_rfl) ?_
 refine call_0 (linear_Check_spec kind l r6926 hr6926) (by simp only [push_cast, seval]) (by simp only [push_cast, seval]) ?_
 refine back_f ?_
 refine rs 2 [] [] (by kernel_rfl) allP_nil ?_
 refine rf [(0, iS kind), (1, .sl l.length (fl l)), (2, .sl order.length (fl order)), (6, .ptr 0 0), (7, .ptr 1 0)] [(0, .row 26 [iS 0, iS 0]), (1, .row 26 (Enc.cells r6926))] 2 (by kernel_rfl) ?_
 refine wk_id ?_
 refine seq_np ?_
 refine reg_f ?_
 refine rs 3 [] [] (by kernel_rfl) allP_nil ?_
 refine rf [(0, iS kind), (1, .sl l.length (fl l)), (2, .sl order.length (fl order)), (6, .ptr 0 0), (7, .ptr 1 0), (21, bS (r6926.Code != 0))] [(0, .row 26 [iS 0, iS 0]), (1, .row 26 (Enc.cells r6926))] 2 (by kernel_rfl) ?_
 refine wk_id ?_
 refine cond_sx h (by kernel_rfl) (fun g8917 h => ?_) (fun g8917 h => ?_)
 ·refine seq_np ?_
  refine reg_f ?_
  refine rs 2 [] [] (by kernel_rfl) allP_nil ?_
  refine rf [(6, .ptr 0 0)] [(0, .row 26 (Enc.cells r6926)), (1, .row 26 (Enc.cells r6926))] 2 (by kernel_rfl) ?_
  refine wk_id ?_
  obtain rfl := Option.some.inj h
  refine ret_at (.agg (Enc.cells r6926)) (by kernel_rfl) ?_
  exact ret_e [] [] (by simp only [push_cast, seval]) (by simp only [push_cast, seval]) rfl rfl rfl
 ·refine wk_id ?_
  refine seq_np ?_
  refine seq_np ?_
  refine reg_f ?_
  refine rs 5 [] [] (by kernel_rfl) allP_nil ?_
  refine rf [(0, iS kind), (1, .sl l.length (fl l)), (2, .sl order.length (fl order)), (6, .ptr 0 0), (27, bS (((order.length : Nat) : Int) != ((l.length : Nat) : Int)))] [(0, .row 26 [iS 0, iS 0]), (1, .row 26 (Enc.cells r6926))] 2 (by kernel_rfl) ?_
  refine wk_id ?_
  refine cond_sx h (by kernel_rfl) (fun g8916 h => ?_) (fun g8916 h => ?_)
  ·refine seq_np ?_
   refine reg_f ?_
   obtain ⟨r6930, hr6930, h⟩ := bind_sx h
   refine run_call 22 [iS 8, iS 0] (some 28) (by kernel_rfl) ?_
   refine call_0 (linear_fault_spec 8 0 r6930 hr6930) (by simp only [push_cast, seval]) (by simp only [push_cast, seval]) ?_
   refine back_f ?_
   refine rs 1 [] [] (by kernel_rfl) allP_nil ?_
   refine rf [(6, .ptr 0 0)] [(0, .row 26 (Enc.cells r6930)), (1, .row 26 (Enc.cells r6926))] 2 (by kernel_rfl) ?_
   refine wk_id ?_
   obtain rfl := Option.some.inj h
   refine ret_at (.agg (Enc.cells r6930)) (by kernel_rfl) ?_
   exact ret_e [] [] (by simp only [push_cast, seval]) (by simp only [push_cast, seval]) rfl rfl rfl
  ·refine wk_id ?_
   refine bsplit_sx h (fun g6931 h => ?_) (fun g6931 h => ?_)
   ·refine seq_np ?_
    refine reg_f ?_
    refine rs 1 [] [] (by kernel_rfl) allP_nil ?_
    obtain ⟨r6933, hr6933, h⟩ := bind_sx h
    refine run_call 21 [iS kind] (some 30) (by kernel_rfl) ?_
    refine call_0 (linear_begin_spec kind g6931 r6933 hr6933) (by simp only [push_cast, seval]) (by simp only [push_cast, seval]) ?_
    refine back_f ?_
    refine rs 2 [] [] (by kernel_rfl) allP_nil ?_
    refine rf [(1, .sl l.length (fl l)), (2, .sl order.length (fl order)), (6, .ptr 0 0), (8, iS 0), (9, .ifc 60 (.v (.slice none 0 0)))] [(0, .row 26 [iS 0, iS 0]), (1, .row 26 (Enc.cells r6926))] 2 (by kernel_rfl) ?_
    refine wk_id ?_
    refine seq_np ?_
    refine seq_np ?_
    refine reg_f ?_
    refine rs 3 [] [] (by kernel_rfl) allP_nil ?_
    refine rf [(1, .sl l.length (fl l)), (6, .ptr 0 0), (8, iS 0), (9, .ifc 60 (.v (.slice none 0 0))), (31, .sl order.length (fl order)), (32, iS ((order.length : Nat) : Int)), (33, iS 0)] [(0, .row 26 [iS 0, iS 0]), (1, .row 26 (Enc.cells r6926))] 2 (by kernel_rfl) ?_
    refine wk_id ?_
    refine block_np ?_
    refine loop_sx (S := Int × (List Int) × Int) (fun a => ([(1, .sl l.length (fl l)), (6, .ptr 0 0), (8, iS a.1), (9, .ifc 60 (.sl a.2.1.length (fl a.2.1))), (31, .sl order.length (fl order)), (32, iS ((order.length : Nat) : Int)), (33, iS a.2.2)], [(0, .row 26 [iS 0, iS 0])], 1)) h (leSt_m [(0, 0)] [] (by simp only [push_cast, seval]) (by simp only [push_cast, seval]) rfl rfl rfl) ?_
    rintro ⟨done11, t13, t33q11⟩ o7 R7 h hr7 hn7 hx7 ht7
    try dsimp only at h hn7 ⊢
    unfold linear_Play_l2 at h
    try dsimp only at h
    refine seq_np ?_
    refine reg_f ?_
    refine rs 1 [] [] (by kernel_rfl) allP_nil ?_
    refine rf [(1, .sl l.length (fl l)), (6, .ptr 0 0), (8, iS done11), (9, .ifc 60 (.sl t13.length (fl t13))), (31, .sl order.length (fl order)), (32, iS ((order.length : Nat) : Int)), (33, iS t33q11), (34, bS (decide (t33q11 < ((order.length : Nat) : Int))))] [(0, .row 26 [iS 0, iS 0])] 1 (by kernel_rfl) ?_
    refine wk_id ?_
    refine seq_np ?_
    refine cond_sx h (by kernel_rfl) (fun g7592 h => ?_) (fun g7592 h => ?_)
    ·refine wk_id ?_
     refine seq_np ?_
     refine block_np ?_
     refine chk_sx h (fun g7429 h => ?_)
     refine seq_np ?_
     refine reg_f ?_
     have k7428 : 0 ≤ t33q11 ∧ t33q11 < ((order.length : Nat) : Int) := by first | simpa only [Bool.and_eq_true, decide_eq_true_eq, bne_iff_ne, ne_eq] using g7429 | (simp at g7429 ⊢; omega)
     refine rs 5 [none, some ⟨.iptr (fl order) ((t33q11).toNat * 1), [], 1, []⟩, some ⟨iS (ix order t33q11), [], 1, []⟩] _ (by kernel_rfl) (allP_cons (ob_ld order t33q11 1 0 ((t33q11).toNat * 1) k7428 rfl (by decide) (by first | rfl | omega) (dflS Try.prog 3) (iS (ix order t33q11)) rfl 1 []) (allP_cons (ob_ix_l order 1 1 t33q11 k7428) allP_nil)) ?_
     refine rf [(1, .sl l.length (fl l)), (6, .ptr 0 0), (8, iS done11), (9, .ifc 60 (.sl t13.length (fl t13))), (10, iS t33q11), (11, iS (ix order t33q11)), (31, .sl order.length (fl order)), (32, iS ((order.length : Nat) : Int)), (33, iS t33q11)] [(0, .row 26 [iS 0, iS 0])] 1 (by kernel_rfl) ?_
     refine wk_id ?_
     refine seq_np ?_
     refine seq_cut (A := Unit) (fun _ => ([(1, .sl l.length (fl l)), (6, .ptr 0 0), (8, iS done11), (9, .ifc 60 (.sl t13.length (fl t13))), (10, iS t33q11), (11, iS (ix order t33q11)), (31, .sl order.length (fl order)), (32, iS ((order.length : Nat) : Int)), (33, iS t33q11), (45, bS ((decide ((ix order t33q11) < 0)) || (decide (((l.length : Nat) : Int) ≤ (ix order t33q11)))))], [(0, .row 26 [iS 0, iS 0])], 1)) (fun _ => True) (fun K7434 hK7434 => ?_) (fun _ _ => ?_)
     ·refine reg_f ?_
      refine rs 3 [] [] (by kernel_rfl) allP_nil ?_
      refine run_split 40 (decide ((ix order t33q11) < 0)) (.inl (by kernel_rfl)) (fun g7435 => ?_) (fun g7435 => ?_)
      ·refine rs 5 [] [] (by kernel_rfl) allP_nil ?_
       refine rf [(1, .sl l.length (fl l)), (6, .ptr 0 0), (8, iS done11), (9, .ifc 60 (.sl t13.length (fl t13))), (10, iS t33q11), (11, iS (ix order t33q11)), (31, .sl order.length (fl order)), (32, iS ((order.length : Nat) : Int)), (33, iS t33q11), (45, bS true)] [(0, .row 26 [iS 0, iS 0])] 1 (by kernel_rfl) ?_
       exact hK7434 () _ _ _ trivial (leSt_m [(0, 0)] [] (by (try simp only [g7435]) <;> simp only [push_cast, seval]) (by (try simp only [g7435]) <;> simp only [push_cast, seval]) rfl rfl rfl)
      ·refine rs 5 [] [] (by kernel_rfl) allP_nil ?_
       refine rf [(1, .sl l.length (fl l)), (6, .ptr 0 0), (8, iS done11), (9, .ifc 60 (.sl t13.length (fl t13))), (10, iS t33q11), (11, iS (ix order t33q11)), (31, .sl order.length (fl order)), (32, iS ((order.length : Nat) : Int)), (33, iS t33q11), (45, bS (decide (((l.length : Nat) : Int) ≤ (ix order t33q11))))] [(0, .row 26 [iS 0, iS 0])] 1 (by kernel_rfl) ?_
       exact hK7434 () _ _ _ trivial (leSt_m [(0, 0)] [] (by (try simp only [g7435]) <;> simp only [push_cast, seval]) (by (try simp only [g7435]) <;> simp only [push_cast, seval]) rfl rfl rfl)
     ·dsimp only
      refine cond_sx h (by kernel_rfl) (fun g7591 h => ?_) (fun g7591 h => ?_)
      ·refine seq_np ?_
       refine reg_f ?_
       refine rs 1 [] [] (by kernel_rfl) allP_nil ?_
       obtain ⟨r7437, hr7437, h⟩ := bind_sx h
       refine run_call 22 [iS 3, iS t33q11] (some 47) (by kernel_rfl) ?_
       refine call_0 (linear_fault_spec 3 t33q11 r7437 hr7437) (by simp only [push_cast, seval]) (by simp only [push_cast, seval]) ?_
       refine back_f ?_
       refine rs 1 [] [] (by kernel_rfl) allP_nil ?_
       refine rf [(6, .ptr 0 0)] [(0, .row 26 (Enc.cells r7437))] 1 (by kernel_rfl) ?_
       refine wk_id ?_
       refine rt_cast ht7 ?_
       obtain ⟨r0, h, e0⟩ := map_sx h
       have e1 := hr7 r0 e0.symm
       subst r0
       obtain rfl := Option.some.inj h
       refine ret_at (.agg (Enc.cells r7437)) (by kernel_rfl) ?_
       exact ret_e [] [] (by simp only [push_cast, seval]) (by simp only [push_cast, seval]) rfl rfl rfl
      ·refine wk_id ?_
       refine seq_np ?_
       refine chk_sx h (fun g7445 h => ?_)
       refine seq_np ?_
       refine reg_f ?_
       have k7444 : 0 ≤ (ix order t33q11) := by first | simpa only [Bool.and_eq_true, decide_eq_true_eq, bne_iff_ne, ne_eq] using g7445 | (simp at g7445 ⊢; omega)
       refine rs 5 [none, none, some ⟨iS (Int.fdiv done11 (2 ^ (min ((ix order t33q11)).toNat (IntKind.i64).bits))), [], 1, []⟩] _ (by kernel_rfl) (allP_cons (ob_p (v := iS (Int.fdiv done11 (2 ^ (min ((ix order t33q11)).toNat (IntKind.i64).bits)))) (nx := 1) (r := []) k7444) allP_nil) ?_
       refine rf [(1, .sl l.length (fl l)), (6, .ptr 0 0), (8, iS done11), (9, .ifc 60 (.sl t13.length (fl t13))), (10, iS t33q11), (11, iS (ix order t33q11)), (31, .sl order.length (fl order)), (32, iS ((order.length : Nat) : Int)), (33, iS t33q11), (52, bS ((IntKind.i64.wrap (((BitVec.ofInt (IntKind.i64).bits (Int.fdiv done11 (2 ^ (min ((ix order t33q11)).toNat (IntKind.i64).bits))) &&& BitVec.ofInt (IntKind.i64).bits 1).toNat : Nat) : Int)) == 1))] [(0, .row 26 [iS 0, iS 0])] 1 (by kernel_rfl) ?_
       refine wk_id ?_
       refine cond_sx h (by kernel_rfl) (fun g7590 h => ?_) (fun g7590 h => ?_)
       ·refine seq_np ?_
        refine reg_f ?_
        refine rs 1 [] [] (by kernel_rfl) allP_nil ?_
        obtain ⟨r7447, hr7447, h⟩ := bind_sx h
        refine run_call 22 [iS 10, iS t33q11] (some 54) (by kernel_rfl) ?_
        refine call_0 (linear_fault_spec 10 t33q11 r7447 hr7447) (by simp only [push_cast, seval]) (by simp only [push_cast, seval]) ?_
        refine back_f ?_
        refine rs 1 [] [] (by kernel_rfl) allP_nil ?_
        refine rf [(6, .ptr 0 0)] [(0, .row 26 (Enc.cells r7447))] 1 (by kernel_rfl) ?_
        refine wk_id ?_
        refine rt_cast ht7 ?_
        obtain ⟨r0, h, e0⟩ := map_sx h
        have e1 := hr7 r0 e0.symm
        subst r0
        obtain rfl := Option.some.inj h
        refine ret_at (.agg (Enc.cells r7447)) (by kernel_rfl) ?_
        exact ret_e [] [] (by simp only [push_cast, seval]) (by simp only [push_cast, seval]) rfl rfl rfl
       ·refine wk_id ?_
        refine seq_np ?_
        refine seq_np ?_
        refine reg_f ?_
        refine rs 3 [] [] (by kernel_rfl) allP_nil ?_
        refine rf [(1, .sl l.length (fl l)), (6, .ptr 0 0), (8, iS done11), (9, .ifc 60 (.sl t13.length (fl t13))), (10, iS t33q11), (11, iS (ix order t33q11)), (31, .sl order.length (fl order)), (32, iS ((order.length : Nat) : Int)), (33, iS t33q11), (55, .sl l.length (fl l)), (56, iS ((l.length : Nat) : Int)), (57, iS 0)] [(0, .row 26 [iS 0, iS 0])] 1 (by kernel_rfl) ?_
        refine wk_id ?_
        refine block_np ?_
        refine loop_sx (S := Int) (fun a => ([(1, .sl l.length (fl l)), (6, .ptr 0 0), (8, iS done11), (9, .ifc 60 (.sl t13.length (fl t13))), (10, iS t33q11), (11, iS (ix order t33q11)), (31, .sl order.length (fl order)), (32, iS ((order.length : Nat) : Int)), (33, iS t33q11), (55, .sl l.length (fl l)), (56, iS ((l.length : Nat) : Int)), (57, iS a)], [(0, .row 26 [iS 0, iS 0])], 1)) h (leSt_m [(0, 0)] [] (by simp only [push_cast, seval]) (by simp only [push_cast, seval]) rfl rfl rfl) ?_
        rintro t57q43 o8 R8 h hr8 hn8 hx8 ht8
        try dsimp only at h hn8 ⊢
        unfold linear_Play_l1 at h
        try dsimp only at h
        refine seq_np ?_
        refine reg_f ?_
        refine rs 1 [] [] (by kernel_rfl) allP_nil ?_
        refine rf [(1, .sl l.length (fl l)), (6, .ptr 0 0), (8, iS done11), (9, .ifc 60 (.sl t13.length (fl t13))), (10, iS t33q11), (11, iS (ix order t33q11)), (31, .sl order.length (fl order)), (32, iS ((order.length : Nat) : Int)), (33, iS t33q11), (55, .sl l.length (fl l)), (56, iS ((l.length : Nat) : Int)), (57, iS t57q43), (58, bS (decide (t57q43 < ((l.length : Nat) : Int))))] [(0, .row 26 [iS 0, iS 0])] 1 (by kernel_rfl) ?_
        refine wk_id ?_
        refine seq_np ?_
        refine cond_sx h (by kernel_rfl) (fun g7589 h => ?_) (fun g7589 h => ?_)
        ·refine wk_id ?_
         refine seq_np ?_
         refine block_np ?_
         refine chk_sx h (fun g7557 h => ?_)
         refine seq_np ?_
         refine reg_f ?_
         have k7556 : 0 ≤ t57q43 ∧ t57q43 < ((l.length : Nat) : Int) := by first | simpa only [Bool.and_eq_true, decide_eq_true_eq, bne_iff_ne, ne_eq] using g7557 | (simp at g7557 ⊢; omega)
         refine rs 6 [none, some ⟨.iptr (fl l) ((t57q43).toNat * 7), [], 1, []⟩, some ⟨.agg (Enc.cells (ix l t57q43)), [], 1, []⟩] _ (by kernel_rfl) (allP_cons (ob_ldw l t57q43 7 ((t57q43).toNat * 7) k7556 rfl (by first | rfl | omega) (Enc.cells (ix l t57q43)) rfl 1 []) (allP_cons (ob_ix_l l 7 1 t57q43 k7556) allP_nil)) ?_
         refine rf [(1, .sl l.length (fl l)), (6, .ptr 0 0), (8, iS done11), (9, .ifc 60 (.sl t13.length (fl t13))), (10, iS t33q11), (11, iS (ix order t33q11)), (12, iS t57q43), (13, .ptr 1 0), (31, .sl order.length (fl order)), (32, iS ((order.length : Nat) : Int)), (33, iS t33q11), (55, .sl l.length (fl l)), (56, iS ((l.length : Nat) : Int)), (57, iS t57q43)] [(0, .row 26 [iS 0, iS 0]), (1, .row 36 (Enc.cells (ix l t57q43)))] 2 (by kernel_rfl) ?_
         refine wk_id ?_
         refine chk_sx h (fun g7566 h => ?_)
         refine chk_sx h (fun g7570 h => ?_)
         refine seq_cut (A := Unit) (fun _ => ([(1, .sl l.length (fl l)), (6, .ptr 0 0), (8, iS done11), (9, .ifc 60 (.sl t13.length (fl t13))), (10, iS t33q11), (11, iS (ix order t33q11)), (31, .sl order.length (fl order)), (32, iS ((order.length : Nat) : Int)), (33, iS t33q11), (55, .sl l.length (fl l)), (56, iS ((l.length : Nat) : Int)), (57, iS t57q43), (81, bS (((IntKind.i64.wrap (((BitVec.ofInt (IntKind.i64).bits (Int.fdiv done11 (2 ^ (min (t57q43).toNat (IntKind.i64).bits))) &&& BitVec.ofInt (IntKind.i64).bits 1).toNat : Nat) : Int)) == 0) && ((t57q43 != (ix order t33q11)) && (decide ((ix l t57q43).End < (ix l (ix order t33q11)).Begin)))))], [(0, .row 26 [iS 0, iS 0]), (1, .row 36 (Enc.cells (ix l t57q43)))], 22)) (fun _ => True) (fun K7564 hK7564 => ?_) (fun _ _ => ?_)
         ·refine reg_t ?_
          have k7565 : 0 ≤ t57q43 := by first | simpa only [Bool.and_eq_true, decide_eq_true_eq, bne_iff_ne, ne_eq] using g7566 | (simp at g7566 ⊢; omega)
          refine rs 6 [none, none, some ⟨iS (Int.fdiv done11 (2 ^ (min (t57q43).toNat (IntKind.i64).bits))), [], 4, []⟩] _ (by kernel_rfl) (allP_cons (ob_p (v := iS (Int.fdiv done11 (2 ^ (min (t57q43).toNat (IntKind.i64).bits)))) (nx := 4) (r := []) k7565) allP_nil) ?_
          refine run_split 67 ((IntKind.i64.wrap (((BitVec.ofInt (IntKind.i64).bits (Int.fdiv done11 (2 ^ (min (t57q43).toNat (IntKind.i64).bits))) &&& BitVec.ofInt (IntKind.i64).bits 1).toNat : Nat) : Int)) == 0) (.inl (by kernel_rfl)) (fun g7567 => ?_) (fun g7567 => ?_)
          ·refine rs 5 [] [] (by kernel_rfl) allP_nil ?_
           refine run_split 72 (t57q43 != (ix order t33q11)) (.inl (by kernel_rfl)) (fun g7568 => ?_) (fun g7568 => ?_)
           ·have k7569 : 0 ≤ (ix order t33q11) ∧ (ix order t33q11) < ((l.length : Nat) : Int) := by have e := or_use g7570 (by first | ((try simp only [g7567, g7568]) <;> rfl) | ((try simp only [g7567]); (try simp only [g7568]); rfl) | (exfalso; clear h; simp_all; done)); first | simpa only [Bool.and_eq_true, decide_eq_true_eq, bne_iff_ne, ne_eq] using e | (simp at e ⊢; omega)
            refine rs 9 [none, none, none, none, some ⟨.iptr (fl l) (((ix order t33q11)).toNat * 7), [], 17, []⟩, none, some ⟨iS (ix l (ix order t33q11)).Begin, [], 19, []⟩] _ (by kernel_rfl) (allP_cons (ob_ld l (ix order t33q11) 7 0 ((((ix order t33q11)).toNat * 7) + 0) k7569 rfl (by decide) (by first | rfl | omega) (dflS Try.prog 3) (iS (ix l (ix order t33q11)).Begin) rfl 19 []) (allP_cons (ob_ix_l l 7 17 (ix order t33q11) k7569) allP_nil)) ?_
            refine rt [(1, .sl l.length (fl l)), (6, .ptr 0 0), (8, iS done11), (9, .ifc 60 (.sl t13.length (fl t13))), (10, iS t33q11), (11, iS (ix order t33q11)), (31, .sl order.length (fl order)), (32, iS ((order.length : Nat) : Int)), (33, iS t33q11), (55, .sl l.length (fl l)), (56, iS ((l.length : Nat) : Int)), (57, iS t57q43), (81, bS (decide ((ix l t57q43).End < (ix l (ix order t33q11)).Begin)))] [(0, .row 26 [iS 0, iS 0]), (1, .row 36 (Enc.cells (ix l t57q43)))] 22 follows (by kernel_rfl) ?_
            exact hK7564 () _ _ _ trivial (leSt_m [(0, 0), (1, 1)] [] (by first | ((try simp only [g7567, g7568]) <;> simp only [push_cast, seval]; done) | ((try simp only [g7567]); (try simp only [g7568]); simp only [push_cast, seval]; done) | (exfalso; clear h; simp_all; done)) (by first | ((try simp only [g7567, g7568]) <;> simp only [push_cast, seval]; done) | ((try simp only [g7567]); (try simp only [g7568]); simp only [push_cast, seval]; done) | (exfalso; clear h; simp_all; done)) rfl rfl rfl)
           ·refine rs 9 [] [] (by kernel_rfl) allP_nil ?_
            refine rt [(1, .sl l.length (fl l)), (6, .ptr 0 0), (8, iS done11), (9, .ifc 60 (.sl t13.length (fl t13))), (10, iS t33q11), (11, iS (ix order t33q11)), (31, .sl order.length (fl order)), (32, iS ((order.length : Nat) : Int)), (33, iS t33q11), (55, .sl l.length (fl l)), (56, iS ((l.length : Nat) : Int)), (57, iS t57q43), (81, bS false)] [(0, .row 26 [iS 0, iS 0]), (1, .row 36 (Enc.cells (ix l t57q43)))] 22 follows (by kernel_rfl) ?_
            exact hK7564 () _ _ _ trivial (leSt_m [(0, 0), (1, 1)] [] (by first | ((try simp only [g7567, g7568]) <;> simp only [push_cast, seval]; done) | ((try simp only [g7567]); (try simp only [g7568]); simp only [push_cast, seval]; done) | (exfalso; clear h; simp_all; done)) (by first | ((try simp only [g7567, g7568]) <;> simp only [push_cast, seval]; done) | ((try simp only [g7567]); (try simp only [g7568]); simp only [push_cast, seval]; done) | (exfalso; clear h; simp_all; done)) rfl rfl rfl)
          ·refine rs 14 [] [] (by kernel_rfl) allP_nil ?_
           refine rt [(1, .sl l.length (fl l)), (6, .ptr 0 0), (8, iS done11), (9, .ifc 60 (.sl t13.length (fl t13))), (10, iS t33q11), (11, iS (ix order t33q11)), (31, .sl order.length (fl order)), (32, iS ((order.length : Nat) : Int)), (33, iS t33q11), (55, .sl l.length (fl l)), (56, iS ((l.length : Nat) : Int)), (57, iS t57q43), (81, bS false)] [(0, .row 26 [iS 0, iS 0]), (1, .row 36 (Enc.cells (ix l t57q43)))] 22 follows (by kernel_rfl) ?_
           exact hK7564 () _ _ _ trivial (leSt_m [(0, 0), (1, 1)] [] (by (try simp only [g7567]) <;> simp only [push_cast, seval]) (by (try simp only [g7567]) <;> simp only [push_cast, seval]) rfl rfl rfl)
         ·dsimp only
          refine cond_sx h (by kernel_rfl) (fun g7573 h => ?_) (fun g7573 h => ?_)
          ·refine seq_np ?_
           refine reg_f ?_
           refine rs 1 [] [] (by kernel_rfl) allP_nil ?_
           obtain ⟨r7572, hr7572, h⟩ := bind_sx h
           refine run_call 22 [iS 11, iS t33q11] (some 83) (by kernel_rfl) ?_
           refine call_0 (linear_fault_spec 11 t33q11 r7572 hr7572) (by simp only [push_cast, seval]) (by simp only [push_cast, seval]) ?_
           refine back_f ?_
           refine rs 1 [] [] (by kernel_rfl) allP_nil ?_
           refine rf [(6, .ptr 0 0)] [(0, .row 26 (Enc.cells r7572)), (1, .row 36 (Enc.cells (ix l t57q43)))] 22 (by kernel_rfl) ?_
           refine wk_id ?_
           refine rt_cast ht8 ?_
           obtain ⟨r0, h, e0⟩ := map_sx h
           have e1 := hr8 r0 e0.symm
           subst r0
           refine rt_cast ht7 ?_
           obtain ⟨r0, h, e0⟩ := map_sx h
           have e1 := hr7 r0 e0.symm
           subst r0
           obtain rfl := Option.some.inj h
           refine ret_at (.agg (Enc.cells r7572)) (by kernel_rfl) ?_
           exact ret_e [] [] (by simp only [push_cast, seval]) (by simp only [push_cast, seval]) rfl rfl rfl
          ·refine wk_id ?_
           refine wk_id ?_
           refine reg_f ?_
           refine rs 2 [] [] (by kernel_rfl) allP_nil ?_
           refine rf [(1, .sl l.length (fl l)), (6, .ptr 0 0), (8, iS done11), (9, .ifc 60 (.sl t13.length (fl t13))), (10, iS t33q11), (11, iS (ix order t33q11)), (31, .sl order.length (fl order)), (32, iS ((order.length : Nat) : Int)), (33, iS t33q11), (55, .sl l.length (fl l)), (56, iS ((l.length : Nat) : Int)), (57, iS (IntKind.i64.wrap (t57q43 + 1)))] [(0, .row 26 [iS 0, iS 0]), (1, .row 36 (Enc.cells (ix l t57q43)))] 22 (by kernel_rfl) ?_
           exact hn8 ((IntKind.i64.wrap (t57q43 + 1))) _ _ _ (Option.some.inj h).symm (leSt_m [(0, 0)] [] (by simp only [push_cast, seval]) (by simp only [push_cast, seval]) rfl rfl rfl)
        ·change R8 (.exit 2) _ _ _
         refine ex_cast hx8 (id := 2) ?_
         obtain ⟨r0, h, e0⟩ := map_sx h
         have e1 := hr8 r0 e0.symm
         subst r0
         refine wk_id ?_
         refine wk_id ?_
         refine chk_sx h (fun g7578 h => ?_)
         refine seq_np ?_
         refine reg_t ?_
         have k7577 : 0 ≤ (ix order t33q11) ∧ (ix order t33q11) < ((l.length : Nat) : Int) := by first | simpa only [Bool.and_eq_true, decide_eq_true_eq, bne_iff_ne, ne_eq] using g7578 | (simp at g7578 ⊢; omega)
         refine rs 8 [none, none, none, some ⟨.iptr (fl l) (((ix order t33q11)).toNat * 7), [], 4, []⟩, some ⟨.agg (Enc.cells (ix l (ix order t33q11))), [], 5, []⟩] _ (by kernel_rfl) (allP_cons (ob_ldw l (ix order t33q11) 7 (((ix order t33q11)).toNat * 7) k7577 rfl (by first | rfl | omega) (Enc.cells (ix l (ix order t33q11))) rfl 5 []) (allP_cons (ob_ix_l l 7 4 (ix order t33q11) k7577) allP_nil)) ?_
         obtain ⟨r7579, hr7579, h⟩ := bind_sx h
         refine call_xI (linear_queue_do_spec t13 (ix l (ix order t33q11)) r7579 hr7579) (args := [.sl t13.length (fl t13), .agg (Enc.cells (ix l (ix order t33q11)))]) (dst := (some 94)) (by kernel_rfl) [(0, .row 26 [iS 0, iS 0])] 9 (by kernel_rfl) [] [] (.tup [.ifc 60 (.sl r7579.1.length (fl r7579.1)), bS r7579.2]) [] (by simp only [push_cast, seval]) (by simp only [push_cast, seval]) (by kernel_rfl) (.inl rfl) (by simp only [push_cast, seval]) (by simp only [push_cast, seval]) ?_
         refine rs 5 [] [] (by kernel_rfl) allP_nil ?_
         refine rt [(1, .sl l.length (fl l)), (6, .ptr 0 0), (8, iS done11), (10, iS t33q11), (11, iS (ix order t33q11)), (14, .ifc 60 (.sl r7579.1.length (fl r7579.1))), (15, bS r7579.2), (31, .sl order.length (fl order)), (32, iS ((order.length : Nat) : Int)), (33, iS t33q11)] [(0, .row 26 [iS 0, iS 0])] 15 follows (by kernel_rfl) ?_
         refine wk_id ?_
         refine seq_np ?_
         refine seq_np ?_
         refine reg_f ?_
         refine rs 2 [] [] (by kernel_rfl) allP_nil ?_
         refine rf [(1, .sl l.length (fl l)), (6, .ptr 0 0), (8, iS done11), (10, iS t33q11), (11, iS (ix order t33q11)), (14, .ifc 60 (.sl r7579.1.length (fl r7579.1))), (31, .sl order.length (fl order)), (32, iS ((order.length : Nat) : Int)), (33, iS t33q11), (98, bS (!r7579.2))] [(0, .row 26 [iS 0, iS 0])] 15 (by kernel_rfl) ?_
         refine wk_id ?_
         refine cond_sx h (by kernel_rfl) (fun g7588 h => ?_) (fun g7588 h => ?_)
         ·refine seq_np ?_
          refine reg_f ?_
          refine rs 1 [] [] (by kernel_rfl) allP_nil ?_
          obtain ⟨r7583, hr7583, h⟩ := bind_sx h
          refine run_call 22 [iS 7, iS t33q11] (some 100) (by kernel_rfl) ?_
          refine call_0 (linear_fault_spec 7 t33q11 r7583 hr7583) (by simp only [push_cast, seval]) (by simp only [push_cast, seval]) ?_
          refine back_f ?_
          refine rs 1 [] [] (by kernel_rfl) allP_nil ?_
          refine rf [(6, .ptr 0 0)] [(0, .row 26 (Enc.cells r7583))] 15 (by kernel_rfl) ?_
          refine wk_id ?_
          refine rt_cast ht7 ?_
          obtain ⟨r0, h, e0⟩ := map_sx h
          have e1 := hr7 r0 e0.symm
          subst r0
          obtain rfl := Option.some.inj h
          refine ret_at (.agg (Enc.cells r7583)) (by kernel_rfl) ?_
          exact ret_e [] [] (by simp only [push_cast, seval]) (by simp only [push_cast, seval]) rfl rfl rfl
         ·refine wk_id ?_
          refine chk_sx h (fun g7587 h => ?_)
          refine reg_f ?_
          have k7586 : 0 ≤ (ix order t33q11) := by first | simpa only [Bool.and_eq_true, decide_eq_true_eq, bne_iff_ne, ne_eq] using g7587 | (simp at g7587 ⊢; omega)
          refine rs 7 [none, none, some ⟨iS (IntKind.i64.wrap ((1 : Int) * 2 ^ (min ((ix order t33q11)).toNat (IntKind.i64).bits))), [], 15, []⟩] _ (by kernel_rfl) (allP_cons (ob_p (v := iS (IntKind.i64.wrap ((1 : Int) * 2 ^ (min ((ix order t33q11)).toNat (IntKind.i64).bits)))) (nx := 15) (r := []) k7586) allP_nil) ?_
          refine rf [(1, .sl l.length (fl l)), (6, .ptr 0 0), (8, iS (IntKind.i64.wrap (((BitVec.ofInt (IntKind.i64).bits done11 ||| BitVec.ofInt (IntKind.i64).bits (IntKind.i64.wrap ((1 : Int) * 2 ^ (min ((ix order t33q11)).toNat (IntKind.i64).bits)))).toNat : Nat) : Int))), (9, .ifc 60 (.sl r7579.1.length (fl r7579.1))), (31, .sl order.length (fl order)), (32, iS ((order.length : Nat) : Int)), (33, iS t33q11)] [(0, .row 26 [iS 0, iS 0])] 15 (by kernel_rfl) ?_
          refine wk_id ?_
          refine wk_id ?_
          refine reg_f ?_
          refine rs 2 [] [] (by kernel_rfl) allP_nil ?_
          refine rf [(1, .sl l.length (fl l)), (6, .ptr 0 0), (8, iS (IntKind.i64.wrap (((BitVec.ofInt (IntKind.i64).bits done11 ||| BitVec.ofInt (IntKind.i64).bits (IntKind.i64.wrap ((1 : Int) * 2 ^ (min ((ix order t33q11)).toNat (IntKind.i64).bits)))).toNat : Nat) : Int))), (9, .ifc 60 (.sl r7579.1.length (fl r7579.1))), (31, .sl order.length (fl order)), (32, iS ((order.length : Nat) : Int)), (33, iS (IntKind.i64.wrap (t33q11 + 1)))] [(0, .row 26 [iS 0, iS 0])] 15 (by kernel_rfl) ?_
          exact hn7 ((IntKind.i64.wrap (((BitVec.ofInt (IntKind.i64).bits done11 ||| BitVec.ofInt (IntKind.i64).bits (IntKind.i64.wrap ((1 : Int) * 2 ^ (min ((ix order t33q11)).toNat (IntKind.i64).bits)))).toNat : Nat) : Int)), r7579.1, (IntKind.i64.wrap (t33q11 + 1))) _ _ _ (Option.some.inj h).symm (leSt_m [(0, 0)] [] (by simp only [push_cast, seval]) (by simp only [push_cast, seval]) rfl rfl rfl)
    ·change R7 (.exit 0) _ _ _
     refine ex_cast hx7 (id := 0) ?_
     obtain ⟨r0, h, e0⟩ := map_sx h
     have e1 := hr7 r0 e0.symm
     subst r0
     refine wk_id ?_
     refine wk_id ?_
     refine seq_np ?_
     refine reg_f ?_
     refine rs 2 [] [] (by kernel_rfl) allP_nil ?_
     refine rf [(6, .ptr 0 0)] [(0, .row 26 [iS 0, iS 0])] 1 (by kernel_rfl) ?_
     refine wk_id ?_
     obtain rfl := Option.some.inj h
     refine ret_at (.agg [iS 0, iS 0]) (by kernel_rfl) ?_
     exact ret_e [] [] (by simp only [push_cast, seval]) (by simp only [push_cast, seval]) rfl rfl rfl
   ·refine bsplit_sx h (fun g7593 h => ?_) (fun g7593 h => ?_)
    ·refine seq_np ?_
     refine reg_f ?_
     refine rs 1 [] [] (by kernel_rfl) allP_nil ?_
     obtain ⟨r7595, hr7595, h⟩ := bind_sx h
     refine run_call 21 [iS kind] (some 30) (by kernel_rfl) ?_
     refine call_0 (linear_begin_1_spec kind g6931 g7593 r7595 hr7595) (by simp only [push_cast, seval]) (by simp only [push_cast, seval]) ?_
     refine back_f ?_
     refine rs 2 [] [] (by kernel_rfl) allP_nil ?_
     refine rf [(1, .sl l.length (fl l)), (2, .sl order.length (fl order)), (6, .ptr 0 0), (8, iS 0), (9, .ifc 61 (iS r7595))] [(0, .row 26 [iS 0, iS 0]), (1, .row 26 (Enc.cells r6926))] 2 (by kernel_rfl) ?_
     refine wk_id ?_
     refine seq_np ?_
     refine seq_np ?_
     refine reg_f ?_
     refine rs 3 [] [] (by kernel_rfl) allP_nil ?_
     refine rf [(1, .sl l.length (fl l)), (6, .ptr 0 0), (8, iS 0), (9, .ifc 61 (iS r7595)), (31, .sl order.length (fl order)), (32, iS ((order.length : Nat) : Int)), (33, iS 0)] [(0, .row 26 [iS 0, iS 0]), (1, .row 26 (Enc.cells r6926))] 2 (by kernel_rfl) ?_
     refine wk_id ?_
     refine block_np ?_
     refine loop_sx (S := Int × Int × Int) (fun a => ([(1, .sl l.length (fl l)), (6, .ptr 0 0), (8, iS a.1), (9, .ifc 61 (iS a.2.1)), (31, .sl order.length (fl order)), (32, iS ((order.length : Nat) : Int)), (33, iS a.2.2)], [(0, .row 26 [iS 0, iS 0])], 1)) h (leSt_m [(0, 0)] [] (by simp only [push_cast, seval]) (by simp only [push_cast, seval]) rfl rfl rfl) ?_
     rintro ⟨done17, t22, t33q17⟩ o9 R9 h hr9 hn9 hx9 ht9
     try dsimp only at h hn9 ⊢
     unfold linear_Play_l4 at h
     try dsimp only at h
     refine seq_np ?_
     refine reg_f ?_
     refine rs 1 [] [] (by kernel_rfl) allP_nil ?_
     refine rf [(1, .sl l.length (fl l)), (6, .ptr 0 0), (8, iS done17), (9, .ifc 61 (iS t22)), (31, .sl order.length (fl order)), (32, iS ((order.length : Nat) : Int)), (33, iS t33q17), (34, bS (decide (t33q17 < ((order.length : Nat) : Int))))] [(0, .row 26 [iS 0, iS 0])] 1 (by kernel_rfl) ?_
     refine wk_id ?_
     refine seq_np ?_
     refine cond_sx h (by kernel_rfl) (fun g8254 h => ?_) (fun g8254 h => ?_)
     ·refine wk_id ?_
      refine seq_np ?_
      refine block_np ?_
      refine chk_sx h (fun g8091 h => ?_)
      refine seq_np ?_
      refine reg_f ?_
      have k8090 : 0 ≤ t33q17 ∧ t33q17 < ((order.length : Nat) : Int) := by first | simpa only [Bool.and_eq_true, decide_eq_true_eq, bne_iff_ne, ne_eq] using g8091 | (simp at g8091 ⊢; omega)
      refine rs 5 [none, some ⟨.iptr (fl order) ((t33q17).toNat * 1), [], 1, []⟩, some ⟨iS (ix order t33q17), [], 1, []⟩] _ (by kernel_rfl) (allP_cons (ob_ld order t33q17 1 0 ((t33q17).toNat * 1) k8090 rfl (by decide) (by first | rfl | omega) (dflS Try.prog 3) (iS (ix order t33q17)) rfl 1 []) (allP_cons (ob_ix_l order 1 1 t33q17 k8090) allP_nil)) ?_
      refine rf [(1, .sl l.length (fl l)), (6, .ptr 0 0), (8, iS done17), (9, .ifc 61 (iS t22)), (10, iS t33q17), (11, iS (ix order t33q17)), (31, .sl order.length (fl order)), (32, iS ((order.length : Nat) : Int)), (33, iS t33q17)] [(0, .row 26 [iS 0, iS 0])] 1 (by kernel_rfl) ?_
      refine wk_id ?_
      refine seq_np ?_
      refine seq_cut (A := Unit) (fun _ => ([(1, .sl l.length (fl l)), (6, .ptr 0 0), (8, iS done17), (9, .ifc 61 (iS t22)), (10, iS t33q17), (11, iS (ix order t33q17)), (31, .sl order.length (fl order)), (32, iS ((order.length : Nat) : Int)), (33, iS t33q17), (45, bS ((decide ((ix order t33q17) < 0)) || (decide (((l.length : Nat) : Int) ≤ (ix order t33q17)))))], [(0, .row 26 [iS 0, iS 0])], 1)) (fun _ => True) (fun K8096 hK8096 => ?_) (fun _ _ => ?_)
      ·refine reg_f ?_
       refine rs 3 [] [] (by kernel_rfl) allP_nil ?_
       refine run_split 40 (decide ((ix order t33q17) < 0)) (.inl (by kernel_rfl)) (fun g8097 => ?_) (fun g8097 => ?_)
       ·refine rs 5 [] [] (by kernel_rfl) allP_nil ?_
        refine rf [(1, .sl l.length (fl l)), (6, .ptr 0 0), (8, iS done17), (9, .ifc 61 (iS t22)), (10, iS t33q17), (11, iS (ix order t33q17)), (31, .sl order.length (fl order)), (32, iS ((order.length : Nat) : Int)), (33, iS t33q17), (45, bS true)] [(0, .row 26 [iS 0, iS 0])] 1 (by kernel_rfl) ?_
        exact hK8096 () _ _ _ trivial (leSt_m [(0, 0)] [] (by (try simp only [g8097]) <;> simp only [push_cast, seval]) (by (try simp only [g8097]) <;> simp only [push_cast, seval]) rfl rfl rfl)
       ·refine rs 5 [] [] (by kernel_rfl) allP_nil ?_
        refine rf [(1, .sl l.length (fl l)), (6, .ptr 0 0), (8, iS done17), (9, .ifc 61 (iS t22)), (10, iS t33q17), (11, iS (ix order t33q17)), (31, .sl order.length (fl order)), (32, iS ((order.length : Nat) : Int)), (33, iS t33q17), (45, bS (decide (((l.length : Nat) : Int) ≤ (ix order t33q17))))] [(0, .row 26 [iS 0, iS 0])] 1 (by kernel_rfl) ?_
        exact hK8096 () _ _ _ trivial (leSt_m [(0, 0)] [] (by (try simp only [g8097]) <;> simp only [push_cast, seval]) (by (try simp only [g8097]) <;> simp only [push_cast, seval]) rfl rfl rfl)
      ·dsimp only
       refine cond_sx h (by kernel_rfl) (fun g8253 h => ?_) (fun g8253 h => ?_)
       ·refine seq_np ?_
        refine reg_f ?_
        refine rs 1 [] [] (by kernel_rfl) allP_nil ?_
        obtain ⟨r8099, hr8099, h⟩ := bind_sx h
        refine run_call 22 [iS 3, iS t33q17] (some 47) (by kernel_rfl) ?_
        refine call_0 (linear_fault_spec 3 t33q17 r8099 hr8099) (by simp only [push_cast, seval]) (by simp only [push_cast, seval]) ?_
        refine back_f ?_
        refine rs 1 [] [] (by kernel_rfl) allP_nil ?_
        refine rf [(6, .ptr 0 0)] [(0, .row 26 (Enc.cells r8099))] 1 (by kernel_rfl) ?_
        refine wk_id ?_
        refine rt_cast ht9 ?_
        obtain ⟨r0, h, e0⟩ := map_sx h
        have e1 := hr9 r0 e0.symm
        subst r0
        obtain rfl := Option.some.inj h
        refine ret_at (.agg (Enc.cells r8099)) (by kernel_rfl) ?_
        exact ret_e [] [] (by simp only [push_cast, seval]) (by simp only [push_cast, seval]) rfl rfl rfl
       ·refine wk_id ?_
        refine seq_np ?_
        refine chk_sx h (fun g8107 h => ?_)
        refine seq_np ?_
        refine reg_f ?_
        have k8106 : 0 ≤ (ix order t33q17) := by first | simpa only [Bool.and_eq_true, decide_eq_true_eq, bne_iff_ne, ne_eq] using g8107 | (simp at g8107 ⊢; omega)
        refine rs 5 [none, none, some ⟨iS (Int.fdiv done17 (2 ^ (min ((ix order t33q17)).toNat (IntKind.i64).bits))), [], 1, []⟩] _ (by kernel_rfl) (allP_cons (ob_p (v := iS (Int.fdiv done17 (2 ^ (min ((ix order t33q17)).toNat (IntKind.i64).bits)))) (nx := 1) (r := []) k8106) allP_nil) ?_
        refine rf [(1, .sl l.length (fl l)), (6, .ptr 0 0), (8, iS done17), (9, .ifc 61 (iS t22)), (10, iS t33q17), (11, iS (ix order t33q17)), (31, .sl order.length (fl order)), (32, iS ((order.length : Nat) : Int)), (33, iS t33q17), (52, bS ((IntKind.i64.wrap (((BitVec.ofInt (IntKind.i64).bits (Int.fdiv done17 (2 ^ (min ((ix order t33q17)).toNat (IntKind.i64).bits))) &&& BitVec.ofInt (IntKind.i64).bits 1).toNat : Nat) : Int)) == 1))] [(0, .row 26 [iS 0, iS 0])] 1 (by kernel_rfl) ?_
        refine wk_id ?_
        refine cond_sx h (by kernel_rfl) (fun g8252 h => ?_) (fun g8252 h => ?_)
        ·refine seq_np ?_
         refine reg_f ?_
         refine rs 1 [] [] (by kernel_rfl) allP_nil ?_
         obtain ⟨r8109, hr8109, h⟩ := bind_sx h
         refine run_call 22 [iS 10, iS t33q17] (some 54) (by kernel_rfl) ?_
         refine call_0 (linear_fault_spec 10 t33q17 r8109 hr8109) (by simp only [push_cast, seval]) (by simp only [push_cast, seval]) ?_
         refine back_f ?_
         refine rs 1 [] [] (by kernel_rfl) allP_nil ?_
         refine rf [(6, .ptr 0 0)] [(0, .row 26 (Enc.cells r8109))] 1 (by kernel_rfl) ?_
         refine wk_id ?_
         refine rt_cast ht9 ?_
         obtain ⟨r0, h, e0⟩ := map_sx h
         have e1 := hr9 r0 e0.symm
         subst r0
         obtain rfl := Option.some.inj h
         refine ret_at (.agg (Enc.cells r8109)) (by kernel_rfl) ?_
         exact ret_e [] [] (by simp only [push_cast, seval]) (by simp only [push_cast, seval]) rfl rfl rfl
        ·refine wk_id ?_
         refine seq_np ?_
         refine seq_np ?_
         refine reg_f ?_
         refine rs 3 [] [] (by kernel_rfl) allP_nil ?_
         refine rf [(1, .sl l.length (fl l)), (6, .ptr 0 0), (8, iS done17), (9, .ifc 61 (iS t22)), (10, iS t33q17), (11, iS (ix order t33q17)), (31, .sl order.length (fl order)), (32, iS ((order.length : Nat) : Int)), (33, iS t33q17), (55, .sl l.length (fl l)), (56, iS ((l.length : Nat) : Int)), (57, iS 0)] [(0, .row 26 [iS 0, iS 0])] 1 (by kernel_rfl) ?_
         refine wk_id ?_
         refine block_np ?_
         refine loop_sx (S := Int) (fun a => ([(1, .sl l.length (fl l)), (6, .ptr 0 0), (8, iS done17), (9, .ifc 61 (iS t22)), (10, iS t33q17), (11, iS (ix order t33q17)), (31, .sl order.length (fl order)), (32, iS ((order.length : Nat) : Int)), (33, iS t33q17), (55, .sl l.length (fl l)), (56, iS ((l.length : Nat) : Int)), (57, iS a)], [(0, .row 26 [iS 0, iS 0])], 1)) h (leSt_m [(0, 0)] [] (by simp only [push_cast, seval]) (by simp only [push_cast, seval]) rfl rfl rfl) ?_
         rintro t57q69 o10 R10 h hr10 hn10 hx10 ht10
         try dsimp only at h hn10 ⊢
         unfold linear_Play_l3 at h
         try dsimp only at h
         refine seq_np ?_
         refine reg_f ?_
         refine rs 1 [] [] (by kernel_rfl) allP_nil ?_
         refine rf [(1, .sl l.length (fl l)), (6, .ptr 0 0), (8, iS done17), (9, .ifc 61 (iS t22)), (10, iS t33q17), (11, iS (ix order t33q17)), (31, .sl order.length (fl order)), (32, iS ((order.length : Nat) : Int)), (33, iS t33q17), (55, .sl l.length (fl l)), (56, iS ((l.length : Nat) : Int)), (57, iS t57q69), (58, bS (decide (t57q69 < ((l.length : Nat) : Int))))] [(0, .row 26 [iS 0, iS 0])] 1 (by kernel_rfl) ?_
         refine wk_id ?_
         refine seq_np ?_
         refine cond_sx h (by kernel_rfl) (fun g8251 h => ?_) (fun g8251 h => ?_)
         ·refine wk_id ?_
          refine seq_np ?_
          refine block_np ?_
          refine chk_sx h (fun g8219 h => ?_)
          refine seq_np ?_
          refine reg_f ?_
          have k8218 : 0 ≤ t57q69 ∧ t57q69 < ((l.length : Nat) : Int) := by first | simpa only [Bool.and_eq_true, decide_eq_true_eq, bne_iff_ne, ne_eq] using g8219 | (simp at g8219 ⊢; omega)
          refine rs 6 [none, some ⟨.iptr (fl l) ((t57q69).toNat * 7), [], 1, []⟩, some ⟨.agg (Enc.cells (ix l t57q69)), [], 1, []⟩] _ (by kernel_rfl) (allP_cons (ob_ldw l t57q69 7 ((t57q69).toNat * 7) k8218 rfl (by first | rfl | omega) (Enc.cells (ix l t57q69)) rfl 1 []) (allP_cons (ob_ix_l l 7 1 t57q69 k8218) allP_nil)) ?_
          refine rf [(1, .sl l.length (fl l)), (6, .ptr 0 0), (8, iS done17), (9, .ifc 61 (iS t22)), (10, iS t33q17), (11, iS (ix order t33q17)), (12, iS t57q69), (13, .ptr 1 0), (31, .sl order.length (fl order)), (32, iS ((order.length : Nat) : Int)), (33, iS t33q17), (55, .sl l.length (fl l)), (56, iS ((l.length : Nat) : Int)), (57, iS t57q69)] [(0, .row 26 [iS 0, iS 0]), (1, .row 36 (Enc.cells (ix l t57q69)))] 2 (by kernel_rfl) ?_
          refine wk_id ?_
          refine chk_sx h (fun g8228 h => ?_)
          refine chk_sx h (fun g8232 h => ?_)
          refine seq_cut (A := Unit) (fun _ => ([(1, .sl l.length (fl l)), (6, .ptr 0 0), (8, iS done17), (9, .ifc 61 (iS t22)), (10, iS t33q17), (11, iS (ix order t33q17)), (31, .sl order.length (fl order)), (32, iS ((order.length : Nat) : Int)), (33, iS t33q17), (55, .sl l.length (fl l)), (56, iS ((l.length : Nat) : Int)), (57, iS t57q69), (81, bS (((IntKind.i64.wrap (((BitVec.ofInt (IntKind.i64).bits (Int.fdiv done17 (2 ^ (min (t57q69).toNat (IntKind.i64).bits))) &&& BitVec.ofInt (IntKind.i64).bits 1).toNat : Nat) : Int)) == 0) && ((t57q69 != (ix order t33q17)) && (decide ((ix l t57q69).End < (ix l (ix order t33q17)).Begin)))))], [(0, .row 26 [iS 0, iS 0]), (1, .row 36 (Enc.cells (ix l t57q69)))], 22)) (fun _ => True) (fun K8226 hK8226 => ?_) (fun _ _ => ?_)
          ·refine reg_t ?_
           have k8227 : 0 ≤ t57q69 := by first | simpa only [Bool.and_eq_true, decide_eq_true_eq, bne_iff_ne, ne_eq] using g8228 | (simp at g8228 ⊢; omega)
           refine rs 6 [none, none, some ⟨iS (Int.fdiv done17 (2 ^ (min (t57q69).toNat (IntKind.i64).bits))), [], 4, []⟩] _ (by kernel_rfl) (allP_cons (ob_p (v := iS (Int.fdiv done17 (2 ^ (min (t57q69).toNat (IntKind.i64).bits)))) (nx := 4) (r := []) k8227) allP_nil) ?_
           refine run_split 67 ((IntKind.i64.wrap (((BitVec.ofInt (IntKind.i64).bits (Int.fdiv done17 (2 ^ (min (t57q69).toNat (IntKind.i64).bits))) &&& BitVec.ofInt (IntKind.i64).bits 1).toNat : Nat) : Int)) == 0) (.inl (by kernel_rfl)) (fun g8229 => ?_) (fun g8229 => ?_)
           ·refine rs 5 [] [] (by kernel_rfl) allP_nil ?_
            refine run_split 72 (t57q69 != (ix order t33q17)) (.inl (by kernel_rfl)) (fun g8230 => ?_) (fun g8230 => ?_)
            ·have k8231 : 0 ≤ (ix order t33q17) ∧ (ix order t33q17) < ((l.length : Nat) : Int) := by have e := or_use g8232 (by first | ((try simp only [g8229, g8230]) <;> rfl) | ((try simp only [g8229]); (try simp only [g8230]); rfl) | (exfalso; clear h; simp_all; done)); first | simpa only [Bool.and_eq_true, decide_eq_true_eq, bne_iff_ne, ne_eq] using e | (simp at e ⊢; omega)
             refine rs 9 [none, none, none, none, some ⟨.iptr (fl l) (((ix order t33q17)).toNat * 7), [], 17, []⟩, none, some ⟨iS (ix l (ix order t33q17)).Begin, [], 19, []⟩] _ (by kernel_rfl) (allP_cons (ob_ld l (ix order t33q17) 7 0 ((((ix order t33q17)).toNat * 7) + 0) k8231 rfl (by decide) (by first | rfl | omega) (dflS Try.prog 3) (iS (ix l (ix order t33q17)).Begin) rfl 19 []) (allP_cons (ob_ix_l l 7 17 (ix order t33q17) k8231) allP_nil)) ?_
             refine rt [(1, .sl l.length (fl l)), (6, .ptr 0 0), (8, iS done17), (9, .ifc 61 (iS t22)), (10, iS t33q17), (11, iS (ix order t33q17)), (31, .sl order.length (fl order)), (32, iS ((order.length : Nat) : Int)), (33, iS t33q17), (55, .sl l.length (fl l)), (56, iS ((l.length : Nat) : Int)), (57, iS t57q69), (81, bS (decide ((ix l t57q69).End < (ix l (ix order t33q17)).Begin)))] [(0, .row 26 [iS 0, iS 0]), (1, .row 36 (Enc.cells (ix l t57q69)))] 22 follows (by kernel_rfl) ?_
             exact hK8226 () _ _ _ trivial (leSt_m [(0, 0), (1, 1)] [] (by first | ((try simp only [g8229, g8230]) <;> simp only [push_cast, seval]; done) | ((try simp only [g8229]); (try simp only [g8230]); simp only [push_cast, seval]; done) | (exfalso; clear h; simp_all; done)) (by first | ((try simp only [g8229, g8230]) <;> simp only [push_cast, seval]; done) | ((try simp only [g8229]); (try simp only [g8230]); simp only [push_cast, seval]; done) | (exfalso; clear h; simp_all; done)) rfl rfl rfl)
            ·refine rs 9 [] [] (by kernel_rfl) allP_nil ?_
             refine rt [(1, .sl l.length (fl l)), (6, .ptr 0 0), (8, iS done17), (9, .ifc 61 (iS t22)), (10, iS t33q17), (11, iS (ix order t33q17)), (31, .sl order.length (fl order)), (32, iS ((order.length : Nat) : Int)), (33, iS t33q17), (55, .sl l.length (fl l)), (56, iS ((l.length : Nat) : Int)), (57, iS t57q69), (81, bS false)] [(0, .row 26 [iS 0, iS 0]), (1, .row 36 (Enc.cells (ix l t57q69)))] 22 follows (by kernel_rfl) ?_
             exact hK8226 () _ _ _ trivial (leSt_m [(0, 0), (1, 1)] [] (by first | ((try simp only [g8229, g8230]) <;> simp only [push_cast, seval]; done) | ((try simp only [g8229]); (try simp only [g8230]); simp only [push_cast, seval]; done) | (exfalso; clear h; simp_all; done)) (by first | ((try simp only [g8229, g8230]) <;> simp only [push_cast, seval]; done) | ((try simp only [g8229]); (try simp only [g8230]); simp only [push_cast, seval]; done) | (exfalso; clear h; simp_all; done)) rfl rfl rfl)
           ·refine rs 14 [] [] (by kernel_rfl) allP_nil ?_
            refine rt [(1, .sl l.length (fl l)), (6, .ptr 0 0), (8, iS done17), (9, .ifc 61 (iS t22)), (10, iS t33q17), (11, iS (ix order t33q17)), (31, .sl order.length (fl order)), (32, iS ((order.length : Nat) : Int)), (33, iS t33q17), (55, .sl l.length (fl l)), (56, iS ((l.length : Nat) : Int)), (57, iS t57q69), (81, bS false)] [(0, .row 26 [iS 0, iS 0]), (1, .row 36 (Enc.cells (ix l t57q69)))] 22 follows (by kernel_rfl) ?_
            exact hK8226 () _ _ _ trivial (leSt_m [(0, 0), (1, 1)] [] (by (try simp only [g8229]) <;> simp only [push_cast, seval]) (by (try simp only [g8229]) <;> simp only [push_cast, seval]) rfl rfl rfl)
          ·dsimp only
           refine cond_sx h (by kernel_rfl) (fun g8235 h => ?_) (fun g8235 h => ?_)
           ·refine seq_np ?_
            refine reg_f ?_
            refine rs 1 [] [] (by kernel_rfl) allP_nil ?_
            obtain ⟨r8234, hr8234, h⟩ := bind_sx h
            refine run_call 22 [iS 11, iS t33q17] (some 83) (by kernel_rfl) ?_
            refine call_0 (linear_fault_spec 11 t33q17 r8234 hr8234) (by simp only [push_cast, seval]) (by simp only [push_cast, seval]) ?_
            refine back_f ?_
            refine rs 1 [] [] (by kernel_rfl) allP_nil ?_
            refine rf [(6, .ptr 0 0)] [(0, .row 26 (Enc.cells r8234)), (1, .row 36 (Enc.cells (ix l t57q69)))] 22 (by kernel_rfl) ?_
            refine wk_id ?_
            refine rt_cast ht10 ?_
            obtain ⟨r0, h, e0⟩ := map_sx h
            have e1 := hr10 r0 e0.symm
            subst r0
            refine rt_cast ht9 ?_
            obtain ⟨r0, h, e0⟩ := map_sx h
            have e1 := hr9 r0 e0.symm
            subst r0
            obtain rfl := Option.some.inj h
            refine ret_at (.agg (Enc.cells r8234)) (by kernel_rfl) ?_
            exact ret_e [] [] (by simp only [push_cast, seval]) (by simp only [push_cast, seval]) rfl rfl rfl
           ·refine wk_id ?_
            refine wk_id ?_
            refine reg_f ?_
            refine rs 2 [] [] (by kernel_rfl) allP_nil ?_
            refine rf [(1, .sl l.length (fl l)), (6, .ptr 0 0), (8, iS done17), (9, .ifc 61 (iS t22)), (10, iS t33q17), (11, iS (ix order t33q17)), (31, .sl order.length (fl order)), (32, iS ((order.length : Nat) : Int)), (33, iS t33q17), (55, .sl l.length (fl l)), (56, iS ((l.length : Nat) : Int)), (57, iS (IntKind.i64.wrap (t57q69 + 1)))] [(0, .row 26 [iS 0, iS 0]), (1, .row 36 (Enc.cells (ix l t57q69)))] 22 (by kernel_rfl) ?_
            exact hn10 ((IntKind.i64.wrap (t57q69 + 1))) _ _ _ (Option.some.inj h).symm (leSt_m [(0, 0)] [] (by simp only [push_cast, seval]) (by simp only [push_cast, seval]) rfl rfl rfl)
         ·change R10 (.exit 2) _ _ _
          refine ex_cast hx10 (id := 2) ?_
          obtain ⟨r0, h, e0⟩ := map_sx h
          have e1 := hr10 r0 e0.symm
          subst r0
          refine wk_id ?_
          refine wk_id ?_
          refine chk_sx h (fun g8240 h => ?_)
          refine seq_np ?_
          refine reg_t ?_
          have k8239 : 0 ≤ (ix order t33q17) ∧ (ix order t33q17) < ((l.length : Nat) : Int) := by first | simpa only [Bool.and_eq_true, decide_eq_true_eq, bne_iff_ne, ne_eq] using g8240 | (simp at g8240 ⊢; omega)
          refine rs 8 [none, none, none, some ⟨.iptr (fl l) (((ix order t33q17)).toNat * 7), [], 4, []⟩, some ⟨.agg (Enc.cells (ix l (ix order t33q17))), [], 5, []⟩] _ (by kernel_rfl) (allP_cons (ob_ldw l (ix order t33q17) 7 (((ix order t33q17)).toNat * 7) k8239 rfl (by first | rfl | omega) (Enc.cells (ix l (ix order t33q17))) rfl 5 []) (allP_cons (ob_ix_l l 7 4 (ix order t33q17) k8239) allP_nil)) ?_
          obtain ⟨r8241, hr8241, h⟩ := bind_sx h
          refine call_xI (linear_register_do_spec t22 (ix l (ix order t33q17)) r8241 hr8241) (args := [iS t22, .agg (Enc.cells (ix l (ix order t33q17)))]) (dst := (some 94)) (by kernel_rfl) [(0, .row 26 [iS 0, iS 0])] 9 (by kernel_rfl) [] [] (.tup [.ifc 61 (iS r8241.1), bS r8241.2]) [] (by simp only [push_cast, seval]) (by simp only [push_cast, seval]) (by kernel_rfl) (.inl rfl) (by simp only [push_cast, seval]) (by simp only [push_cast, seval]) ?_
          refine rs 5 [] [] (by kernel_rfl) allP_nil ?_
          refine rt [(1, .sl l.length (fl l)), (6, .ptr 0 0), (8, iS done17), (10, iS t33q17), (11, iS (ix order t33q17)), (14, .ifc 61 (iS r8241.1)), (15, bS r8241.2), (31, .sl order.length (fl order)), (32, iS ((order.length : Nat) : Int)), (33, iS t33q17)] [(0, .row 26 [iS 0, iS 0])] 15 follows (by kernel_rfl) ?_
          refine wk_id ?_
          refine seq_np ?_
          refine seq_np ?_
          refine reg_f ?_
          refine rs 2 [] [] (by kernel_rfl) allP_nil ?_
          refine rf [(1, .sl l.length (fl l)), (6, .ptr 0 0), (8, iS done17), (10, iS t33q17), (11, iS (ix order t33q17)), (14, .ifc 61 (iS r8241.1)), (31, .sl order.length (fl order)), (32, iS ((order.length : Nat) : Int)), (33, iS t33q17), (98, bS (!r8241.2))] [(0, .row 26 [iS 0, iS 0])] 15 (by kernel_rfl) ?_
          refine wk_id ?_
          refine cond_sx h (by kernel_rfl) (fun g8250 h => ?_) (fun g8250 h => ?_)
          ·refine seq_np ?_
           refine reg_f ?_
           refine rs 1 [] [] (by kernel_rfl) allP_nil ?_
           obtain ⟨r8245, hr8245, h⟩ := bind_sx h
           refine run_call 22 [iS 7, iS t33q17] (some 100) (by kernel_rfl) ?_
           refine call_0 (linear_fault_spec 7 t33q17 r8245 hr8245) (by simp only [push_cast, seval]) (by simp only [push_cast, seval]) ?_
           refine back_f ?_
           refine rs 1 [] [] (by kernel_rfl) allP_nil ?_
           refine rf [(6, .ptr 0 0)] [(0, .row 26 (Enc.cells r8245))] 15 (by kernel_rfl) ?_
           refine wk_id ?_
           refine rt_cast ht9 ?_
           obtain ⟨r0, h, e0⟩ := map_sx h
           have e1 := hr9 r0 e0.symm
           subst r0
           obtain rfl := Option.some.inj h
           refine ret_at (.agg (Enc.cells r8245)) (by kernel_rfl) ?_
           exact ret_e [] [] (by simp only [push_cast, seval]) (by simp only [push_cast, seval]) rfl rfl rfl
          ·refine wk_id ?_
           refine chk_sx h (fun g8249 h => ?_)
           refine reg_f ?_
           have k8248 : 0 ≤ (ix order t33q17) := by first | simpa only [Bool.and_eq_true, decide_eq_true_eq, bne_iff_ne, ne_eq] using g8249 | (simp at g8249 ⊢; omega)
           refine rs 7 [none, none, some ⟨iS (IntKind.i64.wrap ((1 : Int) * 2 ^ (min ((ix order t33q17)).toNat (IntKind.i64).bits))), [], 15, []⟩] _ (by kernel_rfl) (allP_cons (ob_p (v := iS (IntKind.i64.wrap ((1 : Int) * 2 ^ (min ((ix order t33q17)).toNat (IntKind.i64).bits)))) (nx := 15) (r := []) k8248) allP_nil) ?_
           refine rf [(1, .sl l.length (fl l)), (6, .ptr 0 0), (8, iS (IntKind.i64.wrap (((BitVec.ofInt (IntKind.i64).bits done17 ||| BitVec.ofInt (IntKind.i64).bits (IntKind.i64.wrap ((1 : Int) * 2 ^ (min ((ix order t33q17)).toNat (IntKind.i64).bits)))).toNat : Nat) : Int))), (9, .ifc 61 (iS r8241.1)), (31, .sl order.length (fl order)), (32, iS ((order.length : Nat) : Int)), (33, iS t33q17)] [(0, .row 26 [iS 0, iS 0])] 15 (by kernel_rfl) ?_
           refine wk_id ?_
           refine wk_id ?_
           refine reg_f ?_
           refine rs 2 [] [] (by kernel_rfl) allP_nil ?_
           refine rf [(1, .sl l.length (fl l)), (6, .ptr 0 0), (8, iS (IntKind.i64.wrap (((BitVec.ofInt (IntKind.i64).bits done17 ||| BitVec.ofInt (IntKind.i64).bits (IntKind.i64.wrap ((1 : Int) * 2 ^ (min ((ix order t33q17)).toNat (IntKind.i64).bits)))).toNat : Nat) : Int))), (9, .ifc 61 (iS r8241.1)), (31, .sl order.length (fl order)), (32, iS ((order.length : Nat) : Int)), (33, iS (IntKind.i64.wrap (t33q17 + 1)))] [(0, .row 26 [iS 0, iS 0])] 15 (by kernel_rfl) ?_
           exact hn9 ((IntKind.i64.wrap (((BitVec.ofInt (IntKind.i64).bits done17 ||| BitVec.ofInt (IntKind.i64).bits (IntKind.i64.wrap ((1 : Int) * 2 ^ (min ((ix order t33q17)).toNat (IntKind.i64).bits)))).toNat : Nat) : Int)), r8241.1, (IntKind.i64.wrap (t33q17 + 1))) _ _ _ (Option.some.inj h).symm (leSt_m [(0, 0)] [] (by simp only [push_cast, seval]) (by simp only [push_cast, seval]) rfl rfl rfl)
     ·change R9 (.exit 0) _ _ _
      refine ex_cast hx9 (id := 0) ?_
      obtain ⟨r0, h, e0⟩ := map_sx h
      have e1 := hr9 r0 e0.symm
      subst r0
      refine wk_id ?_
      refine wk_id ?_
      refine seq_np ?_
      refine reg_f ?_
      refine rs 2 [] [] (by kernel_rfl) allP_nil ?_
      refine rf [(6, .ptr 0 0)] [(0, .row 26 [iS 0, iS 0])] 1 (by kernel_rfl) ?_
      refine wk_id ?_
      obtain rfl := Option.some.inj h
      refine ret_at (.agg [iS 0, iS 0]) (by kernel_rfl) ?_
      exact ret_e [] [] (by simp only [push_cast, seval]) (by simp only [push_cast, seval]) rfl rfl rfl
    ·refine seq_np ?_
     refine reg_f ?_
     refine rs 1 [] [] (by kernel_rfl) allP_nil ?_
     obtain ⟨r8256, hr8256, h⟩ := bind_sx h
     refine run_call 21 [iS kind] (some 30) (by kernel_rfl) ?_
     refine call_0 (linear_begin_2_spec kind g6931 g7593 r8256 hr8256) (by simp only [push_cast, seval]) (by simp only [push_cast, seval]) ?_
     refine back_f ?_
     refine rs 2 [] [] (by kernel_rfl) allP_nil ?_
     refine rf [(1, .sl l.length (fl l)), (2, .sl order.length (fl order)), (6, .ptr 0 0), (8, iS 0), (9, .ifc 62 (iS r8256))] [(0, .row 26 [iS 0, iS 0]), (1, .row 26 (Enc.cells r6926))] 2 (by kernel_rfl) ?_
     refine wk_id ?_
     refine seq_np ?_
     refine seq_np ?_
     refine reg_f ?_
     refine rs 3 [] [] (by kernel_rfl) allP_nil ?_
     refine rf [(1, .sl l.length (fl l)), (6, .ptr 0 0), (8, iS 0), (9, .ifc 62 (iS r8256)), (31, .sl order.length (fl order)), (32, iS ((order.length : Nat) : Int)), (33, iS 0)] [(0, .row 26 [iS 0, iS 0]), (1, .row 26 (Enc.cells r6926))] 2 (by kernel_rfl) ?_
     refine wk_id ?_
     refine block_np ?_
     refine loop_sx (S := Int × Int × Int) (fun a => ([(1, .sl l.length (fl l)), (6, .ptr 0 0), (8, iS a.1), (9, .ifc 62 (iS a.2.1)), (31, .sl order.length (fl order)), (32, iS ((order.length : Nat) : Int)), (33, iS a.2.2)], [(0, .row 26 [iS 0, iS 0])], 1)) h (leSt_m [(0, 0)] [] (by simp only [push_cast, seval]) (by simp only [push_cast, seval]) rfl rfl rfl) ?_
     rintro ⟨done23, t31, t33q23⟩ o11 R11 h hr11 hn11 hx11 ht11
     try dsimp only at h hn11 ⊢
     unfold linear_Play_l6 at h
     try dsimp only at h
     refine seq_np ?_
     refine reg_f ?_
     refine rs 1 [] [] (by kernel_rfl) allP_nil ?_
     refine rf [(1, .sl l.length (fl l)), (6, .ptr 0 0), (8, iS done23), (9, .ifc 62 (iS t31)), (31, .sl order.length (fl order)), (32, iS ((order.length : Nat) : Int)), (33, iS t33q23), (34, bS (decide (t33q23 < ((order.length : Nat) : Int))))] [(0, .row 26 [iS 0, iS 0])] 1 (by kernel_rfl) ?_
     refine wk_id ?_
     refine seq_np ?_
     refine cond_sx h (by kernel_rfl) (fun g8915 h => ?_) (fun g8915 h => ?_)
     ·refine wk_id ?_
      refine seq_np ?_
      refine block_np ?_
      refine chk_sx h (fun g8752 h => ?_)
      refine seq_np ?_
      refine reg_f ?_
      have k8751 : 0 ≤ t33q23 ∧ t33q23 < ((order.length : Nat) : Int) := by first | simpa only [Bool.and_eq_true, decide_eq_true_eq, bne_iff_ne, ne_eq] using g8752 | (simp at g8752 ⊢; omega)
      refine rs 5 [none, some ⟨.iptr (fl order) ((t33q23).toNat * 1), [], 1, []⟩, some ⟨iS (ix order t33q23), [], 1, []⟩] _ (by kernel_rfl) (allP_cons (ob_ld order t33q23 1 0 ((t33q23).toNat * 1) k8751 rfl (by decide) (by first | rfl | omega) (dflS Try.prog 3) (iS (ix order t33q23)) rfl 1 []) (allP_cons (ob_ix_l order 1 1 t33q23 k8751) allP_nil)) ?_
      refine rf [(1, .sl l.length (fl l)), (6, .ptr 0 0), (8, iS done23), (9, .ifc 62 (iS t31)), (10, iS t33q23), (11, iS (ix order t33q23)), (31, .sl order.length (fl order)), (32, iS ((order.length : Nat) : Int)), (33, iS t33q23)] [(0, .row 26 [iS 0, iS 0])] 1 (by kernel_rfl) ?_
      refine wk_id ?_
      refine seq_np ?_
      refine seq_cut (A := Unit) (fun _ => ([(1, .sl l.length (fl l)), (6, .ptr 0 0), (8, iS done23), (9, .ifc 62 (iS t31)), (10, iS t33q23), (11, iS (ix order t33q23)), (31, .sl order.length (fl order)), (32, iS ((order.length : Nat) : Int)), (33, iS t33q23), (45, bS ((decide ((ix order t33q23) < 0)) || (decide (((l.length : Nat) : Int) ≤ (ix order t33q23)))))], [(0, .row 26 [iS 0, iS 0])], 1)) (fun _ => True) (fun K8757 hK8757 => ?_) (fun _ _ => ?_)
      ·refine reg_f ?_
       refine rs 3 [] [] (by kernel_rfl) allP_nil ?_
       refine run_split 40 (decide ((ix order t33q23) < 0)) (.inl (by kernel_rfl)) (fun g8758 => ?_) (fun g8758 => ?_)
       ·refine rs 5 [] [] (by kernel_rfl) allP_nil ?_
        refine rf [(1, .sl l.length (fl l)), (6, .ptr 0 0), (8, iS done23), (9, .ifc 62 (iS t31)), (10, iS t33q23), (11, iS (ix order t33q23)), (31, .sl order.length (fl order)), (32, iS ((order.length : Nat) : Int)), (33, iS t33q23), (45, bS true)] [(0, .row 26 [iS 0, iS 0])] 1 (by kernel_rfl) ?_
        exact hK8757 () _ _ _ trivial (leSt_m [(0, 0)] [] (by (try simp only [g8758]) <;> simp only [push_cast, seval]) (by (try simp only [g8758]) <;> simp only [push_cast, seval]) rfl rfl rfl)
       ·refine rs 5 [] [] (by kernel_rfl) allP_nil ?_
        refine rf [(1, .sl l.length (fl l)), (6, .ptr 0 0), (8, iS done23), (9, .ifc 62 (iS t31)), (10, iS t33q23), (11, iS (ix order t33q23)), (31, .sl order.length (fl order)), (32, iS ((order.length : Nat) : Int)), (33, iS t33q23), (45, bS (decide (((l.length : Nat) : Int) ≤ (ix order t33q23))))] [(0, .row 26 [iS 0, iS 0])] 1 (by kernel_rfl) ?_
        exact hK8757 () _ _ _ trivial (leSt_m [(0, 0)] [] (by (try simp only [g8758]) <;> simp only [push_cast, seval]) (by (try simp only [g8758]) <;> simp only [push_cast, seval]) rfl rfl rfl)
      ·dsimp only
       refine cond_sx h (by kernel_rfl) (fun g8914 h => ?_) (fun g8914 h => ?_)
       ·refine seq_np ?_
        refine reg_f ?_
        refine rs 1 [] [] (by kernel_rfl) allP_nil ?_
        obtain ⟨r8760, hr8760, h⟩ := bind_sx h
        refine run_call 22 [iS 3, iS t33q23] (some 47) (by kernel_rfl) ?_
        refine call_0 (linear_fault_spec 3 t33q23 r8760 hr8760) (by simp only [push_cast, seval]) (by simp only [push_cast, seval]) ?_
        refine back_f ?_
        refine rs 1 [] [] (by kernel_rfl) allP_nil ?_
        refine rf [(6, .ptr 0 0)] [(0, .row 26 (Enc.cells r8760))] 1 (by kernel_rfl) ?_
        refine wk_id ?_
        refine rt_cast ht11 ?_
        obtain ⟨r0, h, e0⟩ := map_sx h
        have e1 := hr11 r0 e0.symm
        subst r0
        obtain rfl := Option.some.inj h
        refine ret_at (.agg (Enc.cells r8760)) (by kernel_rfl) ?_
        exact ret_e [] [] (by simp only [push_cast, seval]) (by simp only [push_cast, seval]) rfl rfl rfl
       ·refine wk_id ?_
        refine seq_np ?_
        refine chk_sx h (fun g8768 h => ?_)
        refine seq_np ?_
        refine reg_f ?_
        have k8767 : 0 ≤ (ix order t33q23) := by first | simpa only [Bool.and_eq_true, decide_eq_true_eq, bne_iff_ne, ne_eq] using g8768 | (simp at g8768 ⊢; omega)
        refine rs 5 [none, none, some ⟨iS (Int.fdiv done23 (2 ^ (min ((ix order t33q23)).toNat (IntKind.i64).bits))), [], 1, []⟩] _ (by kernel_rfl) (allP_cons (ob_p (v := iS (Int.fdiv done23 (2 ^ (min ((ix order t33q23)).toNat (IntKind.i64).bits)))) (nx := 1) (r := []) k8767) allP_nil) ?_
        refine rf [(1, .sl l.length (fl l)), (6, .ptr 0 0), (8, iS done23), (9, .ifc 62 (iS t31)), (10, iS t33q23), (11, iS (ix order t33q23)), (31, .sl order.length (fl order)), (32, iS ((order.length : Nat) : Int)), (33, iS t33q23), (52, bS ((IntKind.i64.wrap (((BitVec.ofInt (IntKind.i64).bits (Int.fdiv done23 (2 ^ (min ((ix order t33q23)).toNat (IntKind.i64).bits))) &&& BitVec.ofInt (IntKind.i64).bits 1).toNat : Nat) : Int)) == 1))] [(0, .row 26 [iS 0, iS 0])] 1 (by kernel_rfl) ?_
        refine wk_id ?_
        refine cond_sx h (by kernel_rfl) (fun g8913 h => ?_) (fun g8913 h => ?_)
        ·refine seq_np ?_
         refine reg_f ?_
         refine rs 1 [] [] (by kernel_rfl) allP_nil ?_
         obtain ⟨r8770, hr8770, h⟩ := bind_sx h
         refine run_call 22 [iS 10, iS t33q23] (some 54) (by kernel_rfl) ?_
         refine call_0 (linear_fault_spec 10 t33q23 r8770 hr8770) (by simp only [push_cast, seval]) (by simp only [push_cast, seval]) ?_
         refine back_f ?_
         refine rs 1 [] [] (by kernel_rfl) allP_nil ?_
         refine rf [(6, .ptr 0 0)] [(0, .row 26 (Enc.cells r8770))] 1 (by kernel_rfl) ?_
         refine wk_id ?_
         refine rt_cast ht11 ?_
         obtain ⟨r0, h, e0⟩ := map_sx h
         have e1 := hr11 r0 e0.symm
         subst r0
         obtain rfl := Option.some.inj h
         refine ret_at (.agg (Enc.cells r8770)) (by kernel_rfl) ?_
         exact ret_e [] [] (by simp only [push_cast, seval]) (by simp only [push_cast, seval]) rfl rfl rfl
        ·refine wk_id ?_
         refine seq_np ?_
         refine seq_np ?_
         refine reg_f ?_
         refine rs 3 [] [] (by kernel_rfl) allP_nil ?_
         refine rf [(1, .sl l.length (fl l)), (6, .ptr 0 0), (8, iS done23), (9, .ifc 62 (iS t31)), (10, iS t33q23), (11, iS (ix order t33q23)), (31, .sl order.length (fl order)), (32, iS ((order.length : Nat) : Int)), (33, iS t33q23), (55, .sl l.length (fl l)), (56, iS ((l.length : Nat) : Int)), (57, iS 0)] [(0, .row 26 [iS 0, iS 0])] 1 (by kernel_rfl) ?_
         refine wk_id ?_
         refine block_np ?_
         refine loop_sx (S := Int) (fun a => ([(1, .sl l.length (fl l)), (6, .ptr 0 0), (8, iS done23), (9, .ifc 62 (iS t31)), (10, iS t33q23), (11, iS (ix order t33q23)), (31, .sl order.length (fl order)), (32, iS ((order.length : Nat) : Int)), (33, iS t33q23), (55, .sl l.length (fl l)), (56, iS ((l.length : Nat) : Int)), (57, iS a)], [(0, .row 26 [iS 0, iS 0])], 1)) h (leSt_m [(0, 0)] [] (by simp only [push_cast, seval]) (by simp only [push_cast, seval]) rfl rfl rfl) ?_
         rintro t57q95 o12 R12 h hr12 hn12 hx12 ht12
         try dsimp only at h hn12 ⊢
         unfold linear_Play_l5 at h
         try dsimp only at h
         refine seq_np ?_
         refine reg_f ?_
         refine rs 1 [] [] (by kernel_rfl) allP_nil ?_
         refine rf [(1, .sl l.length (fl l)), (6, .ptr 0 0), (8, iS done23), (9, .ifc 62 (iS t31)), (10, iS t33q23), (11, iS (ix order t33q23)), (31, .sl order.length (fl order)), (32, iS ((order.length : Nat) : Int)), (33, iS t33q23), (55, .sl l.length (fl l)), (56, iS ((l.length : Nat) : Int)), (57, iS t57q95), (58, bS (decide (t57q95 < ((l.length : Nat) : Int))))] [(0, .row 26 [iS 0, iS 0])] 1 (by kernel_rfl) ?_
         refine wk_id ?_
         refine seq_np ?_
         refine cond_sx h (by kernel_rfl) (fun g8912 h => ?_) (fun g8912 h => ?_)
         ·refine wk_id ?_
          refine seq_np ?_
          refine block_np ?_
          refine chk_sx h (fun g8880 h => ?_)
          refine seq_np ?_
          refine reg_f ?_
          have k8879 : 0 ≤ t57q95 ∧ t57q95 < ((l.length : Nat) : Int) := by first | simpa only [Bool.and_eq_true, decide_eq_true_eq, bne_iff_ne, ne_eq] using g8880 | (simp at g8880 ⊢; omega)
          refine rs 6 [none, some ⟨.iptr (fl l) ((t57q95).toNat * 7), [], 1, []⟩, some ⟨.agg (Enc.cells (ix l t57q95)), [], 1, []⟩] _ (by kernel_rfl) (allP_cons (ob_ldw l t57q95 7 ((t57q95).toNat * 7) k8879 rfl (by first | rfl | omega) (Enc.cells (ix l t57q95)) rfl 1 []) (allP_cons (ob_ix_l l 7 1 t57q95 k8879) allP_nil)) ?_
          refine rf [(1, .sl l.length (fl l)), (6, .ptr 0 0), (8, iS done23), (9, .ifc 62 (iS t31)), (10, iS t33q23), (11, iS (ix order t33q23)), (12, iS t57q95), (13, .ptr 1 0), (31, .sl order.length (fl order)), (32, iS ((order.length : Nat) : Int)), (33, iS t33q23), (55, .sl l.length (fl l)), (56, iS ((l.length : Nat) : Int)), (57, iS t57q95)] [(0, .row 26 [iS 0, iS 0]), (1, .row 36 (Enc.cells (ix l t57q95)))] 2 (by kernel_rfl) ?_
          refine wk_id ?_
          refine chk_sx h (fun g8889 h => ?_)
          refine chk_sx h (fun g8893 h => ?_)
          refine seq_cut (A := Unit) (fun _ => ([(1, .sl l.length (fl l)), (6, .ptr 0 0), (8, iS done23), (9, .ifc 62 (iS t31)), (10, iS t33q23), (11, iS (ix order t33q23)), (31, .sl order.length (fl order)), (32, iS ((order.length : Nat) : Int)), (33, iS t33q23), (55, .sl l.length (fl l)), (56, iS ((l.length : Nat) : Int)), (57, iS t57q95), (81, bS (((IntKind.i64.wrap (((BitVec.ofInt (IntKind.i64).bits (Int.fdiv done23 (2 ^ (min (t57q95).toNat (IntKind.i64).bits))) &&& BitVec.ofInt (IntKind.i64).bits 1).toNat : Nat) : Int)) == 0) && ((t57q95 != (ix order t33q23)) && (decide ((ix l t57q95).End < (ix l (ix order t33q23)).Begin)))))], [(0, .row 26 [iS 0, iS 0]), (1, .row 36 (Enc.cells (ix l t57q95)))], 22)) (fun _ => True) (fun K8887 hK8887 => ?_) (fun _ _ => ?_)
          ·refine reg_t ?_
           have k8888 : 0 ≤ t57q95 := by first | simpa only [Bool.and_eq_true, decide_eq_true_eq, bne_iff_ne, ne_eq] using g8889 | (simp at g8889 ⊢; omega)
           refine rs 6 [none, none, some ⟨iS (Int.fdiv done23 (2 ^ (min (t57q95).toNat (IntKind.i64).bits))), [], 4, []⟩] _ (by kernel_rfl) (allP_cons (ob_p (v := iS (Int.fdiv done23 (2 ^ (min (t57q95).toNat (IntKind.i64).bits)))) (nx := 4) (r := []) k8888) allP_nil) ?_
           refine run_split 67 ((IntKind.i64.wrap (((BitVec.ofInt (IntKind.i64).bits (Int.fdiv done23 (2 ^ (min (t57q95).toNat (IntKind.i64).bits))) &&& BitVec.ofInt (IntKind.i64).bits 1).toNat : Nat) : Int)) == 0) (.inl (by kernel_rfl)) (fun g8890 => ?_) (fun g8890 => ?_)
           ·refine rs 5 [] [] (by kernel_rfl) allP_nil ?_
            refine run_split 72 (t57q95 != (ix order t33q23)) (.inl (by kernel_rfl)) (fun g8891 => ?_) (fun g8891 => ?_)
            ·have k8892 : 0 ≤ (ix order t33q23) ∧ (ix order t33q23) < ((l.length : Nat) : Int) := by have e := or_use g8893 (by first | ((try simp only [g8890, g8891]) <;> rfl) | ((try simp only [g8890]); (try simp only [g8891]); rfl) | (exfalso; clear h; simp_all; done)); first | simpa only [Bool.and_eq_true, decide_eq_true_eq, bne_iff_ne, ne_eq] using e | (simp at e ⊢; omega)
             refine rs 9 [none, none, none, none, some ⟨.iptr (fl l) (((ix order t33q23)).toNat * 7), [], 17, []⟩, none, some ⟨iS (ix l (ix order t33q23)).Begin, [], 19, []⟩] _ (by kernel_rfl) (allP_cons (ob_ld l (ix order t33q23) 7 0 ((((ix order t33q23)).toNat * 7) + 0) k8892 rfl (by decide) (by first | rfl | omega) (dflS Try.prog 3) (iS (ix l (ix order t33q23)).Begin) rfl 19 []) (allP_cons (ob_ix_l l 7 17 (ix order t33q23) k8892) allP_nil)) ?_
             refine rt [(1, .sl l.length (fl l)), (6, .ptr 0 0), (8, iS done23), (9, .ifc 62 (iS t31)), (10, iS t33q23), (11, iS (ix order t33q23)), (31, .sl order.length (fl order)), (32, iS ((order.length : Nat) : Int)), (33, iS t33q23), (55, .sl l.length (fl l)), (56, iS ((l.length : Nat) : Int)), (57, iS t57q95), (81, bS (decide ((ix l t57q95).End < (ix l (ix order t33q23)).Begin)))] [(0, .row 26 [iS 0, iS 0]), (1, .row 36 (Enc.cells (ix l t57q95)))] 22 follows (by kernel_rfl) ?_
             exact hK8887 () _ _ _ trivial (leSt_m [(0, 0), (1, 1)] [] (by first | ((try simp only [g8890, g8891]) <;> simp only [push_cast, seval]; done) | ((try simp only [g8890]); (try simp only [g8891]); simp only [push_cast, seval]; done) | (exfalso; clear h; simp_all; done)) (by first | ((try simp only [g8890, g8891]) <;> simp only [push_cast, seval]; done) | ((try simp only [g8890]); (try simp only [g8891]); simp only [push_cast, seval]; done) | (exfalso; clear h; simp_all; done)) rfl rfl rfl)
            ·refine rs 9 [] [] (by kernel_rfl) allP_nil ?_
             refine rt [(1, .sl l.length (fl l)), (6, .ptr 0 0), (8, iS done23), (9, .ifc 62 (iS t31)), (10, iS t33q23), (11, iS (ix order t33q23)), (31, .sl order.length (fl order)), (32, iS ((order.length : Nat) : Int)), (33, iS t33q23), (55, .sl l.length (fl l)), (56, iS ((l.length : Nat) : Int)), (57, iS t57q95), (81, bS false)] [(0, .row 26 [iS 0, iS 0]), (1, .row 36 (Enc.cells (ix l t57q95)))] 22 follows (by kernel_rfl) ?_
             exact hK8887 () _ _ _ trivial (leSt_m [(0, 0), (1, 1)] [] (by first | ((try simp only [g8890, g8891]) <;> simp only [push_cast, seval]; done) | ((try simp only [g8890]); (try simp only [g8891]); simp only [push_cast, seval]; done) | (exfalso; clear h; simp_all; done)) (by first | ((try simp only [g8890, g8891]) <;> simp only [push_cast, seval]; done) | ((try simp only [g8890]); (try simp only [g8891]); simp only [push_cast, seval]; done) | (exfalso; clear h; simp_all; done)) rfl rfl rfl)
           ·refine rs 14 [] [] (by kernel_rfl) allP_nil ?_
            refine rt [(1, .sl l.length (fl l)), (6, .ptr 0 0), (8, iS done23), (9, .ifc 62 (iS t31)), (10, iS t33q23), (11, iS (ix order t33q23)), (31, .sl order.length (fl order)), (32, iS ((order.length : Nat) : Int)), (33, iS t33q23), (55, .sl l.length (fl l)), (56, iS ((l.length : Nat) : Int)), (57, iS t57q95), (81, bS false)] [(0, .row 26 [iS 0, iS 0]), (1, .row 36 (Enc.cells (ix l t57q95)))] 22 follows (by kernel_rfl) ?_
            exact hK8887 () _ _ _ trivial (leSt_m [(0, 0), (1, 1)] [] (by (try simp only [g8890]) <;> simp only [push_cast, seval]) (by (try simp only [g8890]) <;> simp only [push_cast, seval]) rfl rfl rfl)
          ·dsimp only
           refine cond_sx h (by kernel_rfl) (fun g8896 h => ?_) (fun g8896 h => ?_)
           ·refine seq_np ?_
            refine reg_f ?_
            refine rs 1 [] [] (by kernel_rfl) allP_nil ?_
            obtain ⟨r8895, hr8895, h⟩ := bind_sx h
            refine run_call 22 [iS 11, iS t33q23] (some 83) (by kernel_rfl) ?_
            refine call_0 (linear_fault_spec 11 t33q23 r8895 hr8895) (by simp only [push_cast, seval]) (by simp only [push_cast, seval]) ?_
            refine back_f ?_
            refine rs 1 [] [] (by kernel_rfl) allP_nil ?_
            refine rf [(6, .ptr 0 0)] [(0, .row 26 (Enc.cells r8895)), (1, .row 36 (Enc.cells (ix l t57q95)))] 22 (by kernel_rfl) ?_
            refine wk_id ?_
            refine rt_cast ht12 ?_
            obtain ⟨r0, h, e0⟩ := map_sx h
            have e1 := hr12 r0 e0.symm
            subst r0
            refine rt_cast ht11 ?_
            obtain ⟨r0, h, e0⟩ := map_sx h
            have e1 := hr11 r0 e0.symm
            subst r0
            obtain rfl := Option.some.inj h
            refine ret_at (.agg (Enc.cells r8895)) (by kernel_rfl) ?_
            exact ret_e [] [] (by simp only [push_cast, seval]) (by simp only [push_cast, seval]) rfl rfl rfl
           ·refine wk_id ?_
            refine wk_id ?_
            refine reg_f ?_
            refine rs 2 [] [] (by kernel_rfl) allP_nil ?_
            refine rf [(1, .sl l.length (fl l)), (6, .ptr 0 0), (8, iS done23), (9, .ifc 62 (iS t31)), (10, iS t33q23), (11, iS (ix order t33q23)), (31, .sl order.length (fl order)), (32, iS ((order.length : Nat) : Int)), (33, iS t33q23), (55, .sl l.length (fl l)), (56, iS ((l.length : Nat) : Int)), (57, iS (IntKind.i64.wrap (t57q95 + 1)))] [(0, .row 26 [iS 0, iS 0]), (1, .row 36 (Enc.cells (ix l t57q95)))] 22 (by kernel_rfl) ?_
            exact hn12 ((IntKind.i64.wrap (t57q95 + 1))) _ _ _ (Option.some.inj h).symm (leSt_m [(0, 0)] [] (by simp only [push_cast, seval]) (by simp only [push_cast, seval]) rfl rfl rfl)
         ·change R12 (.exit 2) _ _ _
          refine ex_cast hx12 (id := 2) ?_
          obtain ⟨r0, h, e0⟩ := map_sx h
          have e1 := hr12 r0 e0.symm
          subst r0
          refine wk_id ?_
          refine wk_id ?_
          refine chk_sx h (fun g8901 h => ?_)
          refine seq_np ?_
          refine reg_t ?_
          have k8900 : 0 ≤ (ix order t33q23) ∧ (ix order t33q23) < ((l.length : Nat) : Int) := by first | simpa only [Bool.and_eq_true, decide_eq_true_eq, bne_iff_ne, ne_eq] using g8901 | (simp at g8901 ⊢; omega)
          refine rs 8 [none, none, none, some ⟨.iptr (fl l) (((ix order t33q23)).toNat * 7), [], 4, []⟩, some ⟨.agg (Enc.cells (ix l (ix order t33q23))), [], 5, []⟩] _ (by kernel_rfl) (allP_cons (ob_ldw l (ix order t33q23) 7 (((ix order t33q23)).toNat * 7) k8900 rfl (by first | rfl | omega) (Enc.cells (ix l (ix order t33q23))) rfl 5 []) (allP_cons (ob_ix_l l 7 4 (ix order t33q23) k8900) allP_nil)) ?_
          obtain ⟨r8902, hr8902, h⟩ := bind_sx h
          refine call_xI (linear_counter_do_spec t31 (ix l (ix order t33q23)) r8902 hr8902) (args := [iS t31, .agg (Enc.cells (ix l (ix order t33q23)))]) (dst := (some 94)) (by kernel_rfl) [(0, .row 26 [iS 0, iS 0])] 9 (by kernel_rfl) [] [] (.tup [.ifc 62 (iS r8902.1), bS r8902.2]) [] (by simp only [push_cast, seval]) (by simp only [push_cast, seval]) (by kernel_rfl) (.inl rfl) (by simp only [push_cast, seval]) (by simp only [push_cast, seval]) ?_
          refine rs 5 [] [] (by kernel_rfl) allP_nil ?_
          refine rt [(1, .sl l.length (fl l)), (6, .ptr 0 0), (8, iS done23), (10, iS t33q23), (11, iS (ix order t33q23)), (14, .ifc 62 (iS r8902.1)), (15, bS r8902.2), (31, .sl order.length (fl order)), (32, iS ((order.length : Nat) : Int)), (33, iS t33q23)] [(0, .row 26 [iS 0, iS 0])] 15 follows (by kernel_rfl) ?_
          refine wk_id ?_
          refine seq_np ?_
          refine seq_np ?_
          refine reg_f ?_
          refine rs 2 [] [] (by kernel_rfl) allP_nil ?_
          refine rf [(1, .sl l.length (fl l)), (6, .ptr 0 0), (8, iS done23), (10, iS t33q23), (11, iS (ix order t33q23)), (14, .ifc 62 (iS r8902.1)), (31, .sl order.length (fl order)), (32, iS ((order.length : Nat) : Int)), (33, iS t33q23), (98, bS (!r8902.2))] [(0, .row 26 [iS 0, iS 0])] 15 (by kernel_rfl) ?_
          refine wk_id ?_
          refine cond_sx h (by kernel_rfl) (fun g8911 h => ?_) (fun g8911 h => ?_)
          ·refine seq_np ?_
           refine reg_f ?_
           refine rs 1 [] [] (by kernel_rfl) allP_nil ?_
           obtain ⟨r8906, hr8906, h⟩ := bind_sx h
           refine run_call 22 [iS 7, iS t33q23] (some 100) (by kernel_rfl) ?_
           refine call_0 (linear_fault_spec 7 t33q23 r8906 hr8906) (by simp only [push_cast, seval]) (by simp only [push_cast, seval]) ?_
           refine back_f ?_
           refine rs 1 [] [] (by kernel_rfl) allP_nil ?_
           refine rf [(6, .ptr 0 0)] [(0, .row 26 (Enc.cells r8906))] 15 (by kernel_rfl) ?_
           refine wk_id ?_
           refine rt_cast ht11 ?_
           obtain ⟨r0, h, e0⟩ := map_sx h
           have e1 := hr11 r0 e0.symm
           subst r0
           obtain rfl := Option.some.inj h
           refine ret_at (.agg (Enc.cells r8906)) (by kernel_rfl) ?_
           exact ret_e [] [] (by simp only [push_cast, seval]) (by simp only [push_cast, seval]) rfl rfl rfl
          ·refine wk_id ?_
           refine chk_sx h (fun g8910 h => ?_)
           refine reg_f ?_
           have k8909 : 0 ≤ (ix order t33q23) := by first | simpa only [Bool.and_eq_true, decide_eq_true_eq, bne_iff_ne, ne_eq] using g8910 | (simp at g8910 ⊢; omega)
           refine rs 7 [none, none, some ⟨iS (IntKind.i64.wrap ((1 : Int) * 2 ^ (min ((ix order t33q23)).toNat (IntKind.i64).bits))), [], 15, []⟩] _ (by kernel_rfl) (allP_cons (ob_p (v := iS (IntKind.i64.wrap ((1 : Int) * 2 ^ (min ((ix order t33q23)).toNat (IntKind.i64).bits)))) (nx := 15) (r := []) k8909) allP_nil) ?_
           refine rf [(1, .sl l.length (fl l)), (6, .ptr 0 0), (8, iS (IntKind.i64.wrap (((BitVec.ofInt (IntKind.i64).bits done23 ||| BitVec.ofInt (IntKind.i64).bits (IntKind.i64.wrap ((1 : Int) * 2 ^ (min ((ix order t33q23)).toNat (IntKind.i64).bits)))).toNat : Nat) : Int))), (9, .ifc 62 (iS r8902.1)), (31, .sl order.length (fl order)), (32, iS ((order.length : Nat) : Int)), (33, iS t33q23)] [(0, .row 26 [iS 0, iS 0])] 15 (by kernel_rfl) ?_
           refine wk_id ?_
           refine wk_id ?_
           refine reg_f ?_
           refine rs 2 [] [] (by kernel_rfl) allP_nil ?_
           refine rf [(1, .sl l.length (fl l)), (6, .ptr 0 0), (8, iS (IntKind.i64.wrap (((BitVec.ofInt (IntKind.i64).bits done23 ||| BitVec.ofInt (IntKind.i64).bits (IntKind.i64.wrap ((1 : Int) * 2 ^ (min ((ix order t33q23)).toNat (IntKind.i64).bits)))).toNat : Nat) : Int))), (9, .ifc 62 (iS r8902.1)), (31, .sl order.length (fl order)), (32, iS ((order.length : Nat) : Int)), (33, iS (IntKind.i64.wrap (t33q23 + 1)))] [(0, .row 26 [iS 0, iS 0])] 15 (by kernel_rfl) ?_
           exact hn11 ((IntKind.i64.wrap (((BitVec.ofInt (IntKind.i64).bits done23 ||| BitVec.ofInt (IntKind.i64).bits (IntKind.i64.wrap ((1 : Int) * 2 ^ (min ((ix order t33q23)).toNat (IntKind.i64).bits)))).toNat : Nat) : Int)), r8902.1, (IntKind.i64.wrap (t33q23 + 1))) _ _ _ (Option.some.inj h).symm (leSt_m [(0, 0)] [] (by simp only [push_cast, seval]) (by simp only [push_cast, seval]) rfl rfl rfl)
     ·change R11 (.exit 0) _ _ _
      refine ex_cast hx11 (id := 0) ?_
      obtain ⟨r0, h, e0⟩ := map_sx h
      have e1 := hr11 r0 e0.symm
      subst r0
      refine wk_id ?_
      refine wk_id ?_
      refine seq_np ?_
      refine reg_f ?_
      refine rs 2 [] [] (by kernel_rfl) allP_nil ?_
      refine rf [(6, .ptr 0 0)] [(0, .row 26 [iS 0, iS 0])] 1 (by kernel_rfl) ?_
      refine wk_id ?_
      obtain rfl := Option.some.inj h
      refine ret_at (.agg [iS 0, iS 0]) (by kernel_rfl) ?_
      exact ret_e [] [] (by simp only [push_cast, seval]) (by simp only [push_cast, seval]) rfl rfl rfl

set_option maxRecDepth 100000 in
set_option maxHeartbeats 200000000 in
theorem taskmilllaw_LinearWider_spec (kind : Int) (l : (List GCall)) (order : (List Int)) (xa : Int) (b : Int) (r : Bool) (h : taskmilllaw_LinearWider kind l order xa b = some r) : SpecW Try.prog 7 [iS kind, .sl l.length (fl l), .sl order.length (fl order), iS xa, iS b] [] 0 (fun x h n => x = bS r ∧ h = [] ∧ n = 0) := by
 unfold taskmilllaw_LinearWider at h
 refine spec_of (draw_ok _) Try.func7 rfl (by decide) rfl (by kernel_rfl) ?_
 refine seq_np ?_
 refine reg_f ?_
 refine rs 1 [] [] (by kernel_rfl) allP_nil ?_
 refine rf [(0, iS kind), (1, .sl l.length (fl l)), (2, .sl order.length (fl order)), (3, iS xa), (4, iS b)] [] 0 (by kernel_rfl) ?_
 refine wk_id ?_
 refine seq_np ?_
 refine seq_np ?_
 refine reg_f ?_
 obtain ⟨r9037, hr9037, h⟩ := bind_sx h
 refine run_call 8 [] (some 15) (by kernel_rfl) ?_
 refine call_0 (taskmilllaw_linearBegun_spec r9037 hr9037) (by simp only [push_cast, seval]) (by simp only [push_cast, seval]) ?_
 refine back_f ?_
 refine rs 1 [] [] (by kernel_rfl) allP_nil ?_
 refine rf [(0, iS kind), (1, .sl l.length (fl l)), (2, .sl order.length (fl order)), (3, iS xa), (4, iS b), (16, bS (!r9037))] [] 0 (by kernel_rfl) ?_
 refine wk_id ?_
 refine cond_sx h (by kernel_rfl) (fun g9305 h => ?_) (fun g9305 h => ?_)
 ·refine seq_np ?_
  refine reg_f ?_
  refine rs 1 [] [] (by kernel_rfl) allP_nil ?_
  refine rf [(10, bS false)] [] 0 (by kernel_rfl) ?_
  refine wk_id ?_
  obtain rfl := Option.some.inj h
  refine ret_at (bS false) (by kernel_rfl) ?_
  exact ret_e [] [] (by simp only [push_cast, seval]) (by simp only [push_cast, seval]) rfl rfl rfl
 ·refine wk_id ?_
  refine seq_np ?_
  refine seq_cut (A := Unit) (fun _ => ([(0, iS kind), (1, .sl l.length (fl l)), (2, .sl order.length (fl order)), (3, iS xa), (4, iS b), (40, bS ((decide ((14 : Int) < ((l.length : Nat) : Int))) || ((decide ((100 : Int) < ((order.length : Nat) : Int))) || ((decide (xa < 0)) || ((decide (b < 0)) || ((decide ((1000 : Int) < xa)) || (decide ((1000 : Int) < b))))))))], [], 0)) (fun _ => True) (fun K9049 hK9049 => ?_) (fun _ _ => ?_)
  ·refine reg_f ?_
   refine rs 4 [] [] (by kernel_rfl) allP_nil ?_
   refine run_split 20 (decide ((14 : Int) < ((l.length : Nat) : Int))) (.inl (by kernel_rfl)) (fun g9050 => ?_) (fun g9050 => ?_)
   ·refine rs 20 [] [] (by kernel_rfl) allP_nil ?_
    refine rf [(0, iS kind), (1, .sl l.length (fl l)), (2, .sl order.length (fl order)), (3, iS xa), (4, iS b), (40, bS true)] [] 0 (by kernel_rfl) ?_
    exact hK9049 () _ _ _ trivial (leSt_m [] [] (by (try simp only [g9050]) <;> simp only [push_cast, seval]) (by (try simp only [g9050]) <;> simp only [push_cast, seval]) rfl rfl rfl)
   ·refine rs 5 [] [] (by kernel_rfl) allP_nil ?_
    refine run_split 25 (decide ((100 : Int) < ((order.length : Nat) : Int))) (.inl (by kernel_rfl)) (fun g9051 => ?_) (fun g9051 => ?_)
    ·refine rs 15 [] [] (by kernel_rfl) allP_nil ?_
     refine rf [(0, iS kind), (1, .sl l.length (fl l)), (2, .sl order.length (fl order)), (3, iS xa), (4, iS b), (40, bS true)] [] 0 (by kernel_rfl) ?_
     exact hK9049 () _ _ _ trivial (leSt_m [] [] (by first | ((try simp only [g9050, g9051]) <;> simp only [push_cast, seval]; done) | ((try simp only [g9050]); (try simp only [g9051]); simp only [push_cast, seval]; done) | (exfalso; clear h; simp_all; done)) (by first | ((try simp only [g9050, g9051]) <;> simp only [push_cast, seval]; done) | ((try simp only [g9050]); (try simp only [g9051]); simp only [push_cast, seval]; done) | (exfalso; clear h; simp_all; done)) rfl rfl rfl)
    ·refine rs 4 [] [] (by kernel_rfl) allP_nil ?_
     refine run_split 29 (decide (xa < 0)) (.inl (by kernel_rfl)) (fun g9052 => ?_) (fun g9052 => ?_)
     ·refine rn 13 [(0, iS kind), (1, .sl l.length (fl l)), (2, .sl order.length (fl order)), (3, iS xa), (4, iS b), (29, bS true)] [] 0 (by kernel_rfl) ?_
      refine rs 11 [] [] (by kernel_rfl) allP_nil ?_
      refine rf [(0, iS kind), (1, .sl l.length (fl l)), (2, .sl order.length (fl order)), (3, iS xa), (4, iS b), (40, bS true)] [] 0 (by kernel_rfl) ?_
      exact hK9049 () _ _ _ trivial (leSt_m [] [] (by first | ((try simp only [g9050, g9051, g9052]) <;> simp only [push_cast, seval]; done) | ((try simp only [g9050]); (try simp only [g9051]); (try simp only [g9052]); simp only [push_cast, seval]; done) | (exfalso; clear h; simp_all; done)) (by first | ((try simp only [g9050, g9051, g9052]) <;> simp only [push_cast, seval]; done) | ((try simp only [g9050]); (try simp only [g9051]); (try simp only [g9052]); simp only [push_cast, seval]; done) | (exfalso; clear h; simp_all; done)) rfl rfl rfl)
     ·refine rn 13 [(0, iS kind), (1, .sl l.length (fl l)), (2, .sl order.length (fl order)), (3, iS xa), (4, iS b), (29, bS false)] [] 0 (by kernel_rfl) ?_
      refine rs 4 [] [] (by kernel_rfl) allP_nil ?_
      refine run_split 33 (decide (b < 0)) (.inl (by kernel_rfl)) (fun g9053 => ?_) (fun g9053 => ?_)
      ·refine rs 7 [] [] (by kernel_rfl) allP_nil ?_
       refine rf [(0, iS kind), (1, .sl l.length (fl l)), (2, .sl order.length (fl order)), (3, iS xa), (4, iS b), (40, bS true)] [] 0 (by kernel_rfl) ?_
       exact hK9049 () _ _ _ trivial (leSt_m [] [] (by first | ((try simp only [g9050, g9051, g9052, g9053]) <;> simp only [push_cast, seval]; done) | ((try simp only [g9050]); (try simp only [g9051]); (try simp only [g9052]); (try simp only [g9053]); simp only [push_cast, seval]; done) | (exfalso; clear h; simp_all; done)) (by first | ((try simp only [g9050, g9051, g9052, g9053]) <;> simp only [push_cast, seval]; done) | ((try simp only [g9050]); (try simp only [g9051]); (try simp only [g9052]); (try simp only [g9053]); simp only [push_cast, seval]; done) | (exfalso; clear h; simp_all; done)) rfl rfl rfl)
      ·refine rs 4 [] [] (by kernel_rfl) allP_nil ?_
       refine run_split 37 (decide ((1000 : Int) < xa)) (.inl (by kernel_rfl)) (fun g9054 => ?_) (fun g9054 => ?_)
       ·refine rs 3 [] [] (by kernel_rfl) allP_nil ?_
        refine rf [(0, iS kind), (1, .sl l.length (fl l)), (2, .sl order.length (fl order)), (3, iS xa), (4, iS b), (40, bS true)] [] 0 (by kernel_rfl) ?_
        exact hK9049 () _ _ _ trivial (leSt_m [] [] (by first | ((try simp only [g9050, g9051, g9052, g9053, g9054]) <;> simp only [push_cast, seval]; done) | ((try simp only [g9050]); (try simp only [g9051]); (try simp only [g9052]); (try simp only [g9053]); (try simp only [g9054]); simp only [push_cast, seval]; done) | (exfalso; clear h; simp_all; done)) (by first | ((try simp only [g9050, g9051, g9052, g9053, g9054]) <;> simp only [push_cast, seval]; done) | ((try simp only [g9050]); (try simp only [g9051]); (try simp only [g9052]); (try simp only [g9053]); (try simp only [g9054]); simp only [push_cast, seval]; done) | (exfalso; clear h; simp_all; done)) rfl rfl rfl)
       ·refine rs 3 [] [] (by kernel_rfl) allP_nil ?_
        refine rf [(0, iS kind), (1, .sl l.length (fl l)), (2, .sl order.length (fl order)), (3, iS xa), (4, iS b), (40, bS (decide ((1000 : Int) < b)))] [] 0 (by kernel_rfl) ?_
        exact hK9049 () _ _ _ trivial (leSt_m [] [] (by first | ((try simp only [g9050, g9051, g9052, g9053, g9054]) <;> simp only [push_cast, seval]; done) | ((try simp only [g9050]); (try simp only [g9051]); (try simp only [g9052]); (try simp only [g9053]); (try simp only [g9054]); simp only [push_cast, seval]; done) | (exfalso; clear h; simp_all; done)) (by first | ((try simp only [g9050, g9051, g9052, g9053, g9054]) <;> simp only [push_cast, seval]; done) | ((try simp only [g9050]); (try simp only [g9051]); (try simp only [g9052]); (try simp only [g9053]); (try simp only [g9054]); simp only [push_cast, seval]; done) | (exfalso; clear h; simp_all; done)) rfl rfl rfl)
  ·dsimp only
   refine cond_sx h (by kernel_rfl) (fun g9304 h => ?_) (fun g9304 h => ?_)
   ·refine seq_np ?_
    refine reg_f ?_
    refine rs 1 [] [] (by kernel_rfl) allP_nil ?_
    refine rf [(10, bS true)] [] 0 (by kernel_rfl) ?_
    refine wk_id ?_
    obtain rfl := Option.some.inj h
    refine ret_at (bS true) (by kernel_rfl) ?_
    exact ret_e [] [] (by simp only [push_cast, seval]) (by simp only [push_cast, seval]) rfl rfl rfl
   ·refine wk_id ?_
    refine seq_np ?_
    refine seq_np ?_
    refine reg_f ?_
    refine rs 3 [] [] (by kernel_rfl) allP_nil ?_
    obtain ⟨r9058, hr9058, h⟩ := bind_sx h
    refine run_call 17 [iS kind, .sl l.length (fl l), .sl order.length (fl order)] (some 44) (by kernel_rfl) ?_
    refine call_0 (linear_Play_spec kind l order r9058 hr9058) (by simp only [push_cast, seval]) (by simp only [push_cast, seval]) ?_
    refine back_f ?_
    refine rs 2 [] [] (by kernel_rfl) allP_nil ?_
    refine rf [(0, iS kind), (1, .sl l.length (fl l)), (2, .sl order.length (fl order)), (3, iS xa), (4, iS b), (46, bS (r9058.Code != 0))] [] 0 (by kernel_rfl) ?_
    refine wk_id ?_
    refine cond_sx h (by kernel_rfl) (fun g9303 h => ?_) (fun g9303 h => ?_)
    ·refine seq_np ?_
     refine reg_f ?_
     refine rs 1 [] [] (by kernel_rfl) allP_nil ?_
     refine rf [(10, bS true)] [] 0 (by kernel_rfl) ?_
     refine wk_id ?_
     obtain rfl := Option.some.inj h
     refine ret_at (bS true) (by kernel_rfl) ?_
     exact ret_e [] [] (by simp only [push_cast, seval]) (by simp only [push_cast, seval]) rfl rfl rfl
    ·refine wk_id ?_
     refine seq_np ?_
     refine reg_f ?_
     refine rs 1 [] [] (by kernel_rfl) allP_nil ?_
     obtain ⟨r9060, hr9060, h⟩ := bind_sx h
     refine call_x (taskmilllaw_ownCalls_spec l r9060 hr9060) (args := [.sl l.length (fl l)]) (dst := (some 48)) (by kernel_rfl) [] 0 (by kernel_rfl) [] [] (.own 0 0 r9060.length) [(0, .row 36 (fl r9060))] (by simp only [push_cast, seval]) (by simp only [push_cast, seval]) (by kernel_rfl) (.inl rfl) (by simp only [push_cast, seval]) (by simp only [push_cast, seval]) ?_
     refine rs 1 [] [] (by kernel_rfl) allP_nil ?_
     refine rf [(0, iS kind), (2, .sl order.length (fl order)), (3, iS xa), (4, iS b), (11, .own 0 0 r9060.length)] [(0, .row 36 (fl r9060))] 1 (by kernel_rfl) ?_
     refine wk_id ?_
     refine seq_np ?_
     refine seq_np ?_
     refine reg_f ?_
     refine rs 1 [] [] (by kernel_rfl) allP_nil ?_
     refine rf [(0, iS kind), (2, .sl order.length (fl order)), (3, iS xa), (4, iS b), (11, .own 0 0 r9060.length), (12, iS 0)] [(0, .row 36 (fl r9060))] 1 (by kernel_rfl) ?_
     refine wk_id ?_
     refine block_np ?_
     refine loop_sx (S := Int × (List GCall)) (fun a => ([(0, iS kind), (2, .sl order.length (fl order)), (3, iS xa), (4, iS b), (11, .own 0 0 a.2.length), (12, iS a.1)], [(0, .row 36 (fl a.2))], 1)) h (leSt_m [(0, 0)] [] (by simp only [push_cast, seval]) (by simp only [push_cast, seval]) rfl rfl rfl) ?_
     rintro ⟨i7, c0q22⟩ o2 R2 h hr2 hn2 hx2 ht2
     try dsimp only at h hn2 ⊢
     unfold taskmilllaw_LinearWider_l1 at h
     try dsimp only at h
     refine seq_np ?_
     refine seq_np ?_
     refine reg_f ?_
     refine rs 4 [] [] (by kernel_rfl) allP_nil ?_
     refine rf [(0, iS kind), (2, .sl order.length (fl order)), (3, iS xa), (4, iS b), (11, .own 0 0 c0q22.length), (12, iS i7), (52, bS (decide (i7 < ((c0q22.length : Nat) : Int))))] [(0, .row 36 (fl c0q22))] 1 (by kernel_rfl) ?_
     refine wk_id ?_
     refine cond_sx h (by kernel_rfl) (fun g9302 h => ?_) (fun g9302 h => ?_)
     ·refine wk_id ?_
      refine seq_np ?_
      refine block_cut (A := (List GCall)) (fun a => ([(0, iS kind), (2, .sl order.length (fl order)), (3, iS xa), (4, iS b), (11, .own 0 0 a.length), (12, iS i7)], [(0, .row 36 (fl a))], 1)) (fun a => (taskmilllaw_LinearWider_j1 kind order xa b i7 a) = some o2) (fun K9262 hK9262 => ?_) ?_
      ·refine seq_np ?_
       refine reg_f ?_
       refine rs 3 [] [] (by kernel_rfl) allP_nil ?_
       refine rf [(0, iS kind), (2, .sl order.length (fl order)), (3, iS xa), (4, iS b), (11, .own 0 0 c0q22.length), (12, iS i7), (57, bS ((Int.tmod i7 2) == 0))] [(0, .row 36 (fl c0q22))] 1 (by kernel_rfl) ?_
       refine wk_id ?_
       refine cond_sx h (by kernel_rfl) (fun g9293 h => ?_) (fun g9293 h => ?_)
       ·refine chk_sx h (fun g9268 h => ?_)
        refine chk_sx h (fun g9270 h => ?_)
        refine seq_np ?_
        refine reg_f ?_
        have k9267 : 0 ≤ i7 ∧ i7 < ((c0q22.length : Nat) : Int) := by first | simpa only [Bool.and_eq_true, decide_eq_true_eq, bne_iff_ne, ne_eq] using g9268 | (simp at g9268 ⊢; omega)
        have k9269 : 0 ≤ i7 ∧ i7 < ((c0q22.length : Nat) : Int) := by first | simpa only [Bool.and_eq_true, decide_eq_true_eq, bne_iff_ne, ne_eq] using g9270 | (simp at g9270 ⊢; omega)
        refine rs 12 [none, none, none, none, some ⟨.ptr 0 (0 + (i7).toNat * 7), [], 1, [0]⟩, none, some ⟨iS (ix c0q22 i7).Begin, [], 1, [0]⟩, none, none, some ⟨.ptr 0 (0 + (i7).toNat * 7), [], 1, [0]⟩, none, some ⟨.any, [(0, .row 36 (fl (c0q22.set i7.toNat ({ ix c0q22 i7 with Begin := (IntKind.i64.wrap ((ix c0q22 i7).Begin - xa)) } : GCall))))], 1, [0]⟩] _ (by kernel_rfl) (allP_cons (ob_st (P := Try.prog) c0q22 i7 7 0 ((0 + (i7).toNat * 7) + 0) k9269 rfl [iS (IntKind.i64.wrap ((ix c0q22 i7).Begin - xa))] ({ ix c0q22 i7 with Begin := (IntKind.i64.wrap ((ix c0q22 i7).Begin - xa)) } : GCall) (Nat.le_of_ble_eq_true rfl) (by first | rfl | omega) rfl 0 1 36 3 (by kernel_rfl) rfl) (allP_cons (ob_ix_o 0 c0q22.length 0 7 1 i7 k9269) (allP_cons (ob_ld c0q22 i7 7 0 ((0 + (i7).toNat * 7) + 0) k9267 rfl (by decide) (by first | rfl | omega) (dflS Try.prog 3) (iS (ix c0q22 i7).Begin) rfl 1 [0]) (allP_cons (ob_ix_o 0 c0q22.length 0 7 1 i7 k9267) allP_nil)))) ?_
        refine run_eqF 11 (.own 0 0 c0q22.length) (.own 0 0 (c0q22.set i7.toNat ({ ix c0q22 i7 with Begin := (IntKind.i64.wrap ((ix c0q22 i7).Begin - xa)) } : GCall)).length) (congrArg (fun nq => (.own 0 0 nq : SV)) (show c0q22.length = (c0q22.set i7.toNat ({ ix c0q22 i7 with Begin := (IntKind.i64.wrap ((ix c0q22 i7).Begin - xa)) } : GCall)).length from (List.length_set ..).symm)) (by kernel_rfl) ?_
        refine rf [(0, iS kind), (2, .sl order.length (fl order)), (3, iS xa), (4, iS b), (11, .own 0 0 (c0q22.set i7.toNat ({ ix c0q22 i7 with Begin := (IntKind.i64.wrap ((ix c0q22 i7).Begin - xa)) } : GCall)).length), (12, iS i7)] [(0, .row 36 (fl (c0q22.set i7.toNat ({ ix c0q22 i7 with Begin := (IntKind.i64.wrap ((ix c0q22 i7).Begin - xa)) } : GCall))))] 1 (by kernel_rfl) ?_
        refine wk_id ?_
        refine chk_sx h (fun g9274 h => ?_)
        refine seq_np ?_
        refine reg_f ?_
        have k9273 : 0 ≤ i7 ∧ i7 < (((c0q22.set i7.toNat ({ ix c0q22 i7 with Begin := (IntKind.i64.wrap ((ix c0q22 i7).Begin - xa)) } : GCall)).length : Nat) : Int) := by first | simpa only [Bool.and_eq_true, decide_eq_true_eq, bne_iff_ne, ne_eq] using g9274 | (simp at g9274 ⊢; omega)
        refine rs 6 [none, none, some ⟨.ptr 0 (0 + (i7).toNat * 7), [], 1, [0]⟩, none, some ⟨iS (ix (c0q22.set i7.toNat ({ ix c0q22 i7 with Begin := (IntKind.i64.wrap ((ix c0q22 i7).Begin - xa)) } : GCall)) i7).Begin, [], 1, [0]⟩] _ (by kernel_rfl) (allP_cons (ob_ld (c0q22.set i7.toNat ({ ix c0q22 i7 with Begin := (IntKind.i64.wrap ((ix c0q22 i7).Begin - xa)) } : GCall)) i7 7 0 ((0 + (i7).toNat * 7) + 0) k9273 rfl (by decide) (by first | rfl | omega) (dflS Try.prog 3) (iS (ix (c0q22.set i7.toNat ({ ix c0q22 i7 with Begin := (IntKind.i64.wrap ((ix c0q22 i7).Begin - xa)) } : GCall)) i7).Begin) rfl 1 [0]) (allP_cons (ob_ix_o 0 (c0q22.set i7.toNat ({ ix c0q22 i7 with Begin := (IntKind.i64.wrap ((ix c0q22 i7).Begin - xa)) } : GCall)).length 0 7 1 i7 k9273) allP_nil)) ?_
        refine rf [(0, iS kind), (2, .sl order.length (fl order)), (3, iS xa), (4, iS b), (11, .own 0 0 (c0q22.set i7.toNat ({ ix c0q22 i7 with Begin := (IntKind.i64.wrap ((ix c0q22 i7).Begin - xa)) } : GCall)).length), (12, iS i7), (74, bS (decide ((ix (c0q22.set i7.toNat ({ ix c0q22 i7 with Begin := (IntKind.i64.wrap ((ix c0q22 i7).Begin - xa)) } : GCall)) i7).Begin < 0)))] [(0, .row 36 (fl (c0q22.set i7.toNat ({ ix c0q22 i7 with Begin := (IntKind.i64.wrap ((ix c0q22 i7).Begin - xa)) } : GCall))))] 1 (by kernel_rfl) ?_
        refine wk_id ?_
        refine cond_sx h (by kernel_rfl) (fun g9279 h => ?_) (fun g9279 h => ?_)
        ·refine chk_sx h (fun g9278 h => ?_)
         refine reg_f ?_
         have k9277 : 0 ≤ i7 ∧ i7 < (((c0q22.set i7.toNat ({ ix c0q22 i7 with Begin := (IntKind.i64.wrap ((ix c0q22 i7).Begin - xa)) } : GCall)).length : Nat) : Int) := by first | simpa only [Bool.and_eq_true, decide_eq_true_eq, bne_iff_ne, ne_eq] using g9278 | (simp at g9278 ⊢; omega)
         refine rs 5 [none, none, some ⟨.ptr 0 (0 + (i7).toNat * 7), [], 1, [0]⟩, none, some ⟨.any, [(0, .row 36 (fl ((c0q22.set i7.toNat ({ ix c0q22 i7 with Begin := (IntKind.i64.wrap ((ix c0q22 i7).Begin - xa)) } : GCall)).set i7.toNat ({ ix (c0q22.set i7.toNat ({ ix c0q22 i7 with Begin := (IntKind.i64.wrap ((ix c0q22 i7).Begin - xa)) } : GCall)) i7 with Begin := 0 } : GCall))))], 1, [0]⟩] _ (by kernel_rfl) (allP_cons (ob_st (P := Try.prog) (c0q22.set i7.toNat ({ ix c0q22 i7 with Begin := (IntKind.i64.wrap ((ix c0q22 i7).Begin - xa)) } : GCall)) i7 7 0 ((0 + (i7).toNat * 7) + 0) k9277 rfl [iS 0] ({ ix (c0q22.set i7.toNat ({ ix c0q22 i7 with Begin := (IntKind.i64.wrap ((ix c0q22 i7).Begin - xa)) } : GCall)) i7 with Begin := 0 } : GCall) (Nat.le_of_ble_eq_true rfl) (by first | rfl | omega) rfl 0 1 36 3 (by kernel_rfl) rfl) (allP_cons (ob_ix_o 0 (c0q22.set i7.toNat ({ ix c0q22 i7 with Begin := (IntKind.i64.wrap ((ix c0q22 i7).Begin - xa)) } : GCall)).length 0 7 1 i7 k9277) allP_nil)) ?_
         refine run_eqF 11 (.own 0 0 (c0q22.set i7.toNat ({ ix c0q22 i7 with Begin := (IntKind.i64.wrap ((ix c0q22 i7).Begin - xa)) } : GCall)).length) (.own 0 0 ((c0q22.set i7.toNat ({ ix c0q22 i7 with Begin := (IntKind.i64.wrap ((ix c0q22 i7).Begin - xa)) } : GCall)).set i7.toNat ({ ix (c0q22.set i7.toNat ({ ix c0q22 i7 with Begin := (IntKind.i64.wrap ((ix c0q22 i7).Begin - xa)) } : GCall)) i7 with Begin := 0 } : GCall)).length) (congrArg (fun nq => (.own 0 0 nq : SV)) (show (c0q22.set i7.toNat ({ ix c0q22 i7 with Begin := (IntKind.i64.wrap ((ix c0q22 i7).Begin - xa)) } : GCall)).length = ((c0q22.set i7.toNat ({ ix c0q22 i7 with Begin := (IntKind.i64.wrap ((ix c0q22 i7).Begin - xa)) } : GCall)).set i7.toNat ({ ix (c0q22.set i7.toNat ({ ix c0q22 i7 with Begin := (IntKind.i64.wrap ((ix c0q22 i7).Begin - xa)) } : GCall)) i7 with Begin := 0 } : GCall)).length from (List.length_set ..).symm)) (by kernel_rfl) ?_
         refine rf [(0, iS kind), (2, .sl order.length (fl order)), (3, iS xa), (4, iS b), (11, .own 0 0 ((c0q22.set i7.toNat ({ ix c0q22 i7 with Begin := (IntKind.i64.wrap ((ix c0q22 i7).Begin - xa)) } : GCall)).set i7.toNat ({ ix (c0q22.set i7.toNat ({ ix c0q22 i7 with Begin := (IntKind.i64.wrap ((ix c0q22 i7).Begin - xa)) } : GCall)) i7 with Begin := 0 } : GCall)).length), (12, iS i7)] [(0, .row 36 (fl ((c0q22.set i7.toNat ({ ix c0q22 i7 with Begin := (IntKind.i64.wrap ((ix c0q22 i7).Begin - xa)) } : GCall)).set i7.toNat ({ ix (c0q22.set i7.toNat ({ ix c0q22 i7 with Begin := (IntKind.i64.wrap ((ix c0q22 i7).Begin - xa)) } : GCall)) i7 with Begin := 0 } : GCall))))] 1 (by kernel_rfl) ?_
         exact hK9262 (((c0q22.set i7.toNat ({ ix c0q22 i7 with Begin := (IntKind.i64.wrap ((ix c0q22 i7).Begin - xa)) } : GCall)).set i7.toNat ({ ix (c0q22.set i7.toNat ({ ix c0q22 i7 with Begin := (IntKind.i64.wrap ((ix c0q22 i7).Begin - xa)) } : GCall)) i7 with Begin := 0 } : GCall))) _ _ _ h (leSt_m [(0, 0)] [] (by simp only [push_cast, seval]) (by simp only [push_cast, seval]) rfl rfl rfl)
        ·exact hK9262 ((c0q22.set i7.toNat ({ ix c0q22 i7 with Begin := (IntKind.i64.wrap ((ix c0q22 i7).Begin - xa)) } : GCall))) _ _ _ h (leSt_m [(0, 0)] [] (by simp only [push_cast, seval]) (by simp only [push_cast, seval]) rfl rfl rfl)
       ·refine chk_sx h (fun g9285 h => ?_)
        refine chk_sx h (fun g9287 h => ?_)
        refine seq_np ?_
        refine reg_f ?_
        have k9284 : 0 ≤ i7 ∧ i7 < ((c0q22.length : Nat) : Int) := by first | simpa only [Bool.and_eq_true, decide_eq_true_eq, bne_iff_ne, ne_eq] using g9285 | (simp at g9285 ⊢; omega)
        have k9286 : 0 ≤ i7 ∧ i7 < ((c0q22.length : Nat) : Int) := by first | simpa only [Bool.and_eq_true, decide_eq_true_eq, bne_iff_ne, ne_eq] using g9287 | (simp at g9287 ⊢; omega)
        refine rs 12 [none, none, none, none, some ⟨.ptr 0 (0 + (i7).toNat * 7), [], 1, [0]⟩, none, some ⟨iS (ix c0q22 i7).End, [], 1, [0]⟩, none, none, some ⟨.ptr 0 (0 + (i7).toNat * 7), [], 1, [0]⟩, none, some ⟨.any, [(0, .row 36 (fl (c0q22.set i7.toNat ({ ix c0q22 i7 with End := (IntKind.i64.wrap ((ix c0q22 i7).End + b)) } : GCall))))], 1, [0]⟩] _ (by kernel_rfl) (allP_cons (ob_st (P := Try.prog) c0q22 i7 7 1 ((0 + (i7).toNat * 7) + 1) k9286 rfl [iS (IntKind.i64.wrap ((ix c0q22 i7).End + b))] ({ ix c0q22 i7 with End := (IntKind.i64.wrap ((ix c0q22 i7).End + b)) } : GCall) (Nat.le_of_ble_eq_true rfl) (by first | rfl | omega) rfl 0 1 36 3 (by kernel_rfl) rfl) (allP_cons (ob_ix_o 0 c0q22.length 0 7 1 i7 k9286) (allP_cons (ob_ld c0q22 i7 7 1 ((0 + (i7).toNat * 7) + 1) k9284 rfl (by decide) (by first | rfl | omega) (dflS Try.prog 3) (iS (ix c0q22 i7).End) rfl 1 [0]) (allP_cons (ob_ix_o 0 c0q22.length 0 7 1 i7 k9284) allP_nil)))) ?_
        refine run_eqF 11 (.own 0 0 c0q22.length) (.own 0 0 (c0q22.set i7.toNat ({ ix c0q22 i7 with End := (IntKind.i64.wrap ((ix c0q22 i7).End + b)) } : GCall)).length) (congrArg (fun nq => (.own 0 0 nq : SV)) (show c0q22.length = (c0q22.set i7.toNat ({ ix c0q22 i7 with End := (IntKind.i64.wrap ((ix c0q22 i7).End + b)) } : GCall)).length from (List.length_set ..).symm)) (by kernel_rfl) ?_
        refine rf [(0, iS kind), (2, .sl order.length (fl order)), (3, iS xa), (4, iS b), (11, .own 0 0 (c0q22.set i7.toNat ({ ix c0q22 i7 with End := (IntKind.i64.wrap ((ix c0q22 i7).End + b)) } : GCall)).length), (12, iS i7)] [(0, .row 36 (fl (c0q22.set i7.toNat ({ ix c0q22 i7 with End := (IntKind.i64.wrap ((ix c0q22 i7).End + b)) } : GCall))))] 1 (by kernel_rfl) ?_
        refine wk_id ?_
        refine chk_sx h (fun g9291 h => ?_)
        refine seq_np ?_
        refine reg_f ?_
        have k9290 : 0 ≤ i7 ∧ i7 < (((c0q22.set i7.toNat ({ ix c0q22 i7 with End := (IntKind.i64.wrap ((ix c0q22 i7).End + b)) } : GCall)).length : Nat) : Int) := by first | simpa only [Bool.and_eq_true, decide_eq_true_eq, bne_iff_ne, ne_eq] using g9291 | (simp at g9291 ⊢; omega)
        refine rs 6 [none, none, some ⟨.ptr 0 (0 + (i7).toNat * 7), [], 1, [0]⟩, none, some ⟨iS (ix (c0q22.set i7.toNat ({ ix c0q22 i7 with End := (IntKind.i64.wrap ((ix c0q22 i7).End + b)) } : GCall)) i7).End, [], 1, [0]⟩] _ (by kernel_rfl) (allP_cons (ob_ld (c0q22.set i7.toNat ({ ix c0q22 i7 with End := (IntKind.i64.wrap ((ix c0q22 i7).End + b)) } : GCall)) i7 7 1 ((0 + (i7).toNat * 7) + 1) k9290 rfl (by decide) (by first | rfl | omega) (dflS Try.prog 3) (iS (ix (c0q22.set i7.toNat ({ ix c0q22 i7 with End := (IntKind.i64.wrap ((ix c0q22 i7).End + b)) } : GCall)) i7).End) rfl 1 [0]) (allP_cons (ob_ix_o 0 (c0q22.set i7.toNat ({ ix c0q22 i7 with End := (IntKind.i64.wrap ((ix c0q22 i7).End + b)) } : GCall)).length 0 7 1 i7 k9290) allP_nil)) ?_
        refine rf [(0, iS kind), (2, .sl order.length (fl order)), (3, iS xa), (4, iS b), (11, .own 0 0 (c0q22.set i7.toNat ({ ix c0q22 i7 with End := (IntKind.i64.wrap ((ix c0q22 i7).End + b)) } : GCall)).length), (12, iS i7), (95, bS (decide ((1000000000 : Int) < (ix (c0q22.set i7.toNat ({ ix c0q22 i7 with End := (IntKind.i64.wrap ((ix c0q22 i7).End + b)) } : GCall)) i7).End)))] [(0, .row 36 (fl (c0q22.set i7.toNat ({ ix c0q22 i7 with End := (IntKind.i64.wrap ((ix c0q22 i7).End + b)) } : GCall))))] 1 (by kernel_rfl) ?_
        refine wk_id ?_
        refine cond_sx h (by kernel_rfl) (fun g9292 h => ?_) (fun g9292 h => ?_)
        ·refine seq_np ?_
         refine reg_f ?_
         refine rs 1 [] [] (by kernel_rfl) allP_nil ?_
         refine rf [(10, bS true)] [(0, .row 36 (fl (c0q22.set i7.toNat ({ ix c0q22 i7 with End := (IntKind.i64.wrap ((ix c0q22 i7).End + b)) } : GCall))))] 1 (by kernel_rfl) ?_
         refine wk_id ?_
         refine rt_cast ht2 ?_
         obtain ⟨r0, h, e0⟩ := map_sx h
         have e1 := hr2 r0 e0.symm
         subst r0
         obtain rfl := Option.some.inj h
         refine ret_at (bS true) (by kernel_rfl) ?_
         exact ret_e [] [] (by simp only [push_cast, seval]) (by simp only [push_cast, seval]) rfl rfl rfl
        ·exact hK9262 ((c0q22.set i7.toNat ({ ix c0q22 i7 with End := (IntKind.i64.wrap ((ix c0q22 i7).End + b)) } : GCall))) _ _ _ h (leSt_m [(0, 0)] [] (by simp only [push_cast, seval]) (by simp only [push_cast, seval]) rfl rfl rfl)
      ·rintro c0q24 h
       try dsimp only at h ⊢
       unfold taskmilllaw_LinearWider_j1 at h
       refine wk_id ?_
       refine reg_f ?_
       refine rs 3 [] [] (by kernel_rfl) allP_nil ?_
       refine rf [(0, iS kind), (2, .sl order.length (fl order)), (3, iS xa), (4, iS b), (11, .own 0 0 c0q24.length), (12, iS (IntKind.i64.wrap (i7 + 1)))] [(0, .row 36 (fl c0q24))] 1 (by kernel_rfl) ?_
       exact hn2 ((IntKind.i64.wrap (i7 + 1)), c0q24) _ _ _ (Option.some.inj h).symm (leSt_m [(0, 0)] [] (by simp only [push_cast, seval]) (by simp only [push_cast, seval]) rfl rfl rfl)
     ·change R2 (.exit 0) _ _ _
      refine ex_cast hx2 (id := 0) ?_
      obtain ⟨r0, h, e0⟩ := map_sx h
      have e1 := hr2 r0 e0.symm
      subst r0
      refine wk_id ?_
      refine wk_id ?_
      refine seq_np ?_
      refine reg_f ?_
      refine rs 2 [] [] (by kernel_rfl) allP_nil ?_
      obtain ⟨r9295, hr9295, h⟩ := bind_sx h
      refine call_x (linear_Find_spec kind c0q22 r9295 hr9295) (args := [iS kind, .own 0 0 c0q22.length]) (dst := (some 99)) (by kernel_rfl) [(0, .row 36 (fl c0q22))] 1 (by kernel_rfl) [] [0] (.tup [.own 1 0 r9295.2.length, .agg (Enc.cells r9295.1)]) [(1, .row 3 (fl r9295.2))] (by simp only [push_cast, seval]) (by simp only [push_cast, seval]) (by kernel_rfl) (.inr ⟨by simp only [push_cast, seval], by simp only [push_cast, seval]⟩) (by simp only [push_cast, seval]) (by simp only [push_cast, seval]) ?_
      refine rs 6 [] [] (by kernel_rfl) allP_nil ?_
      refine rf [(0, iS kind), (2, .sl order.length (fl order)), (11, .own 0 0 c0q22.length), (14, .ptr 2 0)] [(0, .row 36 (fl c0q22)), (1, .row 3 (fl r9295.2)), (2, .row 26 (Enc.cells r9295.1))] 3 (by kernel_rfl) ?_
      refine wk_id ?_
      refine seq_cut (A := Bool) (fun a => ([(10, bS a)], [], 0)) (fun a => (taskmilllaw_LinearWider_j2 a) = some r) (fun K9299 hK9299 => ?_) ?_
      ·refine reg_f ?_
       refine rs 3 [] [] (by kernel_rfl) allP_nil ?_
       obtain ⟨r9300, hr9300, h⟩ := bind_sx h
       refine call_x (linear_Play_spec kind c0q22 order r9300 hr9300) (args := [iS kind, .own 0 0 c0q22.length, .sl order.length (fl order)]) (dst := (some 105)) (by kernel_rfl) [(0, .row 36 (fl c0q22)), (1, .row 3 (fl r9295.2)), (2, .row 26 (Enc.cells r9295.1))] 3 (by kernel_rfl) [] [0] (.agg (Enc.cells r9300)) [] (by simp only [push_cast, seval]) (by simp only [push_cast, seval]) (by kernel_rfl) (.inr ⟨by simp only [push_cast, seval], by simp only [push_cast, seval]⟩) (by simp only [push_cast, seval]) (by simp only [push_cast, seval]) ?_
       refine rs 3 [] [] (by kernel_rfl) allP_nil ?_
       refine run_br h 108 (.inl (by kernel_rfl)) (fun g9301 h => ?_) (fun g9301 h => ?_)
       ·refine rs 5 [] [] (by kernel_rfl) allP_nil ?_
        refine rf [(10, bS (r9295.1.Code == 0))] [(0, .row 36 (fl c0q22)), (1, .row 3 (fl r9295.2)), (2, .row 26 (Enc.cells r9295.1))] 3 (by kernel_rfl) ?_
        exact hK9299 ((r9295.1.Code == 0)) _ _ _ h (leSt_m [] [] (by (try simp only [g9301]) <;> simp only [push_cast, seval]) (by (try simp only [g9301]) <;> simp only [push_cast, seval]) rfl rfl rfl)
       ·refine rs 5 [] [] (by kernel_rfl) allP_nil ?_
        refine rf [(10, bS false)] [(0, .row 36 (fl c0q22)), (1, .row 3 (fl r9295.2)), (2, .row 26 (Enc.cells r9295.1))] 3 (by kernel_rfl) ?_
        exact hK9299 (false) _ _ _ h (leSt_m [] [] (by (try simp only [g9301]) <;> simp only [push_cast, seval]) (by (try simp only [g9301]) <;> simp only [push_cast, seval]) rfl rfl rfl)
      ·rintro t10q1 h
       try dsimp only at h ⊢
       unfold taskmilllaw_LinearWider_j2 at h
       obtain rfl := Option.some.inj h
       refine ret_at (bS t10q1) (by kernel_rfl) ?_
       exact ret_e [] [] (by simp only [push_cast, seval]) (by simp only [push_cast, seval]) rfl rfl rfl

end Go.Proofs.Ytopomedppninoaa
