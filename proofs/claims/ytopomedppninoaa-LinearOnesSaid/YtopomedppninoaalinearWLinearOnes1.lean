/-
 What laws of the chapter linear compute, and lemmas on it.
 No conditions.
-/
import Derived.Test.YtopomedppninoaaProg
import Derived.Test.YtopomedppninoaalinearG
set_option linter.unusedSimpArgs false
set_option linter.unusedVariables false
namespace Go.Proofs.Ytopomedppninoaa
open Go Go.Sx
attribute [local irreducible] Wk RunAt
theorem follows : Try.prog.follows .mixedOrders = true := by kernel_rfl
set_option maxRecDepth 100000 in
set_option maxHeartbeats 200000000 in
theorem linear_fault_spec (code : Int) (xat : Int) (r : Fault) (h : linear_fault code xat = some r) : SpecW Try.prog 22 [iS code, iS xat] [] 0 (fun x h n => x = .agg (Enc.cells r) ∧ h = [] ∧ n = 0) := by
 unfold linear_fault at h
 refine spec_of (draw_ok _) Try.func22 rfl (by decide) rfl (by kernel_rfl) ?_
 refine seq_np ?_
 refine reg_f ?_
 refine rs 1 [] [] (by kernel_rfl) allP_nil ?_
 refine rf [(0, iS code), (1, iS xat), (4, .ptr 0 0)] [(0, .row 26 [iS 0, iS 0])] 1 (by kernel_rfl) ?_
 refine wk_id ?_
 refine seq_np ?_
 refine reg_f ?_
 refine rs 4 [] [] (by kernel_rfl) allP_nil ?_
 refine rf [(4, .ptr 0 0)] [(0, .row 26 [iS code, iS xat])] 1 (by kernel_rfl) ?_
 refine wk_id ?_
 obtain rfl := Option.some.inj h
 refine ret_at (.agg [iS code, iS xat]) (by kernel_rfl) ?_
 exact ret_e [] [] (by simp only [push_cast, seval]) (by simp only [push_cast, seval]) rfl rfl rfl

set_option maxRecDepth 100000 in
set_option maxHeartbeats 200000000 in
theorem linear_of_spec (kind : Int) (r : Int) (h : linear_of kind = some r) : SpecW Try.prog 25 [iS kind] [] 0 (fun x h n => x = iS r ∧ h = [] ∧ n = 0) := by
 unfold linear_of at h
 refine spec_of (draw_ok _) Try.func25 rfl (by decide) rfl (by kernel_rfl) ?_
 refine seq_np ?_
 refine reg_f ?_
 refine rs 1 [] [] (by kernel_rfl) allP_nil ?_
 refine rf [(0, iS kind)] [] 0 (by kernel_rfl) ?_
 refine wk_id ?_
 refine seq_np ?_
 refine seq_np ?_
 refine reg_f ?_
 refine rs 1 [] [] (by kernel_rfl) allP_nil ?_
 refine rf [(3, iS kind)] [] 0 (by kernel_rfl) ?_
 refine wk_id ?_
 refine block_np ?_
 refine seq_cut (A := Bool) (fun a => ([(3, iS kind), (4, bS a)], [], 0)) (fun a => (linear_of_j2 kind a) = some r) (fun K41 hK41 => ?_) ?_
 ·refine seq_np ?_
  refine reg_f ?_
  refine rs 2 [] [] (by kernel_rfl) allP_nil ?_
  refine rf [(3, iS kind), (4, bS (kind == 1))] [] 0 (by kernel_rfl) ?_
  refine wk_id ?_
  refine cond_sx h (by kernel_rfl) (fun g42 h => ?_) (fun g42 h => ?_)
  ·exact hK41 ((kind == 1)) _ _ _ h (leSt_m [] [] (by simp only [push_cast, seval]) (by simp only [push_cast, seval]) rfl rfl rfl)
  ·refine reg_f ?_
   refine rs 2 [] [] (by kernel_rfl) allP_nil ?_
   refine rf [(3, iS kind), (4, bS (kind == 2))] [] 0 (by kernel_rfl) ?_
   exact hK41 ((kind == 2)) _ _ _ h (leSt_m [] [] (by simp only [push_cast, seval]) (by simp only [push_cast, seval]) rfl rfl rfl)
 ·rintro t4q3 h
  try dsimp only at h ⊢
  unfold linear_of_j2 at h
  refine cond_sx h (by kernel_rfl) (fun g51 h => ?_) (fun g51 h => ?_)
  ·refine seq_np ?_
   refine reg_f ?_
   refine rs 1 [] [] (by kernel_rfl) allP_nil ?_
   refine rf [(2, iS 1)] [] 0 (by kernel_rfl) ?_
   refine wk_id ?_
   obtain rfl := Option.some.inj h
   refine ret_at (iS 1) (by kernel_rfl) ?_
   exact ret_e [] [] (by simp only [push_cast, seval]) (by simp only [push_cast, seval]) rfl rfl rfl
  ·refine seq_cut (A := Bool) (fun a => ([(3, iS kind), (7, bS a)], [], 0)) (fun a => (linear_of_j1 kind a) = some r) (fun K46 hK46 => ?_) ?_
   ·refine seq_np ?_
    refine reg_f ?_
    refine rs 2 [] [] (by kernel_rfl) allP_nil ?_
    refine rf [(3, iS kind), (7, bS (kind == 3))] [] 0 (by kernel_rfl) ?_
    refine wk_id ?_
    refine cond_sx h (by kernel_rfl) (fun g48 h => ?_) (fun g48 h => ?_)
    ·exact hK46 ((kind == 3)) _ _ _ h (leSt_m [] [] (by simp only [push_cast, seval]) (by simp only [push_cast, seval]) rfl rfl rfl)
    ·refine seq_np ?_
     refine reg_f ?_
     refine rs 2 [] [] (by kernel_rfl) allP_nil ?_
     refine rf [(3, iS kind), (7, bS (kind == 4))] [] 0 (by kernel_rfl) ?_
     refine wk_id ?_
     refine cond_sx h (by kernel_rfl) (fun g47 h => ?_) (fun g47 h => ?_)
     ·exact hK46 ((kind == 4)) _ _ _ h (leSt_m [] [] (by simp only [push_cast, seval]) (by simp only [push_cast, seval]) rfl rfl rfl)
     ·refine reg_f ?_
      refine rs 2 [] [] (by kernel_rfl) allP_nil ?_
      refine rf [(3, iS kind), (7, bS (kind == 6))] [] 0 (by kernel_rfl) ?_
      exact hK46 ((kind == 6)) _ _ _ h (leSt_m [] [] (by simp only [push_cast, seval]) (by simp only [push_cast, seval]) rfl rfl rfl)
   ·rintro t7q3 h
    try dsimp only at h ⊢
    unfold linear_of_j1 at h
    refine cond_sx h (by kernel_rfl) (fun g50 h => ?_) (fun g50 h => ?_)
    ·refine seq_np ?_
     refine reg_f ?_
     refine rs 1 [] [] (by kernel_rfl) allP_nil ?_
     refine rf [(2, iS 2)] [] 0 (by kernel_rfl) ?_
     refine wk_id ?_
     obtain rfl := Option.some.inj h
     refine ret_at (iS 2) (by kernel_rfl) ?_
     exact ret_e [] [] (by simp only [push_cast, seval]) (by simp only [push_cast, seval]) rfl rfl rfl
    ·refine seq_np ?_
     refine reg_f ?_
     refine rs 2 [] [] (by kernel_rfl) allP_nil ?_
     refine rf [(11, bS (kind == 5))] [] 0 (by kernel_rfl) ?_
     refine wk_id ?_
     refine cond_sx h (by kernel_rfl) (fun g49 h => ?_) (fun g49 h => ?_)
     ·refine seq_np ?_
      refine reg_f ?_
      refine rs 1 [] [] (by kernel_rfl) allP_nil ?_
      refine rf [(2, iS 3)] [] 0 (by kernel_rfl) ?_
      refine wk_id ?_
      obtain rfl := Option.some.inj h
      refine ret_at (iS 3) (by kernel_rfl) ?_
      exact ret_e [] [] (by simp only [push_cast, seval]) (by simp only [push_cast, seval]) rfl rfl rfl
     ·refine wk_id ?_
      refine wk_id ?_
      refine seq_np ?_
      refine reg_f ?_
      refine rs 1 [] [] (by kernel_rfl) allP_nil ?_
      refine rf [(2, iS 0)] [] 0 (by kernel_rfl) ?_
      refine wk_id ?_
      obtain rfl := Option.some.inj h
      refine ret_at (iS 0) (by kernel_rfl) ?_
      exact ret_e [] [] (by simp only [push_cast, seval]) (by simp only [push_cast, seval]) rfl rfl rfl

set_option maxRecDepth 100000 in
set_option maxHeartbeats 200000000 in
theorem linear_Check_spec (kind : Int) (l : (List GCall)) (r : Fault) (h : linear_Check kind l = some r) : SpecW Try.prog 16 [iS kind, .sl l.length (fl l)] [] 0 (fun x h n => x = .agg (Enc.cells r) ∧ h = [] ∧ n = 0) := by
 unfold linear_Check at h
 refine spec_of (draw_ok _) Try.func16 rfl (by decide) rfl (by kernel_rfl) ?_
 refine seq_np ?_
 refine reg_f ?_
 refine rs 1 [] [] (by kernel_rfl) allP_nil ?_
 refine rf [(0, iS kind), (1, .sl l.length (fl l)), (4, .ptr 0 0)] [(0, .row 26 [iS 0, iS 0])] 1 (by kernel_rfl) ?_
 refine wk_id ?_
 refine seq_np ?_
 refine seq_np ?_
 refine reg_f ?_
 refine rs 3 [] [] (by kernel_rfl) allP_nil ?_
 refine rf [(0, iS kind), (1, .sl l.length (fl l)), (4, .ptr 0 0), (10, bS (decide ((14 : Int) < ((l.length : Nat) : Int))))] [(0, .row 26 [iS 0, iS 0])] 1 (by kernel_rfl) ?_
 refine wk_id ?_
 refine cond_sx h (by kernel_rfl) (fun g519 h => ?_) (fun g519 h => ?_)
 ·refine seq_np ?_
  refine reg_f ?_
  obtain ⟨r137, hr137, h⟩ := bind_sx h
  refine run_call 22 [iS 2, iS 0] (some 11) (by kernel_rfl) ?_
  refine call_0 (linear_fault_spec 2 0 r137 hr137) (by simp only [push_cast, seval]) (by simp only [push_cast, seval]) ?_
  refine back_f ?_
  refine rs 1 [] [] (by kernel_rfl) allP_nil ?_
  refine rf [(4, .ptr 0 0)] [(0, .row 26 (Enc.cells r137))] 1 (by kernel_rfl) ?_
  refine wk_id ?_
  obtain rfl := Option.some.inj h
  refine ret_at (.agg (Enc.cells r137)) (by kernel_rfl) ?_
  exact ret_e [] [] (by simp only [push_cast, seval]) (by simp only [push_cast, seval]) rfl rfl rfl
 ·refine wk_id ?_
  refine seq_np ?_
  refine seq_cut (A := Unit) (fun _ => ([(0, iS kind), (1, .sl l.length (fl l)), (4, .ptr 0 0), (17, bS ((decide (kind < 1)) || (decide ((3 : Int) < kind))))], [(0, .row 26 [iS 0, iS 0])], 1)) (fun _ => True) (fun K142 hK142 => ?_) (fun _ _ => ?_)
  ·refine reg_f ?_
   refine rs 3 [] [] (by kernel_rfl) allP_nil ?_
   refine run_split 14 (decide (kind < 1)) (.inl (by kernel_rfl)) (fun g143 => ?_) (fun g143 => ?_)
   ·refine rs 3 [] [] (by kernel_rfl) allP_nil ?_
    refine rf [(0, iS kind), (1, .sl l.length (fl l)), (4, .ptr 0 0), (17, bS true)] [(0, .row 26 [iS 0, iS 0])] 1 (by kernel_rfl) ?_
    exact hK142 () _ _ _ trivial (leSt_m [(0, 0)] [] (by (try simp only [g143]) <;> simp only [push_cast, seval]) (by (try simp only [g143]) <;> simp only [push_cast, seval]) rfl rfl rfl)
   ·refine rs 3 [] [] (by kernel_rfl) allP_nil ?_
    refine rf [(0, iS kind), (1, .sl l.length (fl l)), (4, .ptr 0 0), (17, bS (decide ((3 : Int) < kind)))] [(0, .row 26 [iS 0, iS 0])] 1 (by kernel_rfl) ?_
    exact hK142 () _ _ _ trivial (leSt_m [(0, 0)] [] (by (try simp only [g143]) <;> simp only [push_cast, seval]) (by (try simp only [g143]) <;> simp only [push_cast, seval]) rfl rfl rfl)
  ·dsimp only
   refine cond_sx h (by kernel_rfl) (fun g518 h => ?_) (fun g518 h => ?_)
   ·refine seq_np ?_
    refine reg_f ?_
    obtain ⟨r145, hr145, h⟩ := bind_sx h
    refine run_call 22 [iS 4, iS (-1)] (some 18) (by kernel_rfl) ?_
    refine call_0 (linear_fault_spec 4 (-1) r145 hr145) (by simp only [push_cast, seval]) (by simp only [push_cast, seval]) ?_
    refine back_f ?_
    refine rs 1 [] [] (by kernel_rfl) allP_nil ?_
    refine rf [(4, .ptr 0 0)] [(0, .row 26 (Enc.cells r145))] 1 (by kernel_rfl) ?_
    refine wk_id ?_
    obtain rfl := Option.some.inj h
    refine ret_at (.agg (Enc.cells r145)) (by kernel_rfl) ?_
    exact ret_e [] [] (by simp only [push_cast, seval]) (by simp only [push_cast, seval]) rfl rfl rfl
   ·refine wk_id ?_
    refine seq_np ?_
    refine seq_np ?_
    refine reg_f ?_
    refine rs 3 [] [] (by kernel_rfl) allP_nil ?_
    refine rf [(0, iS kind), (4, .ptr 0 0), (19, .sl l.length (fl l)), (20, iS ((l.length : Nat) : Int)), (21, iS 0)] [(0, .row 26 [iS 0, iS 0])] 1 (by kernel_rfl) ?_
    refine wk_id ?_
    refine block_np ?_
    refine loop_sx (S := Int) (fun a => ([(0, iS kind), (4, .ptr 0 0), (19, .sl l.length (fl l)), (20, iS ((l.length : Nat) : Int)), (21, iS a)], [(0, .row 26 [iS 0, iS 0])], 1)) h (leSt_m [(0, 0)] [] (by simp only [push_cast, seval]) (by simp only [push_cast, seval]) rfl rfl rfl) ?_
    rintro t21q7 o2 R2 h hr2 hn2 hx2 ht2
    try dsimp only at h hn2 ⊢
    unfold linear_Check_l1 at h
    try dsimp only at h
    refine seq_np ?_
    refine reg_f ?_
    refine rs 1 [] [] (by kernel_rfl) allP_nil ?_
    refine rf [(0, iS kind), (4, .ptr 0 0), (19, .sl l.length (fl l)), (20, iS ((l.length : Nat) : Int)), (21, iS t21q7), (22, bS (decide (t21q7 < ((l.length : Nat) : Int))))] [(0, .row 26 [iS 0, iS 0])] 1 (by kernel_rfl) ?_
    refine wk_id ?_
    refine seq_np ?_
    refine cond_sx h (by kernel_rfl) (fun g517 h => ?_) (fun g517 h => ?_)
    ·refine wk_id ?_
     refine seq_np ?_
     refine block_np ?_
     refine chk_sx h (fun g431 h => ?_)
     refine seq_np ?_
     refine reg_f ?_
     have k430 : 0 ≤ t21q7 ∧ t21q7 < ((l.length : Nat) : Int) := by first | simpa only [Bool.and_eq_true, decide_eq_true_eq, bne_iff_ne, ne_eq] using g431 | (simp at g431 ⊢; omega)
     refine rs 6 [none, some ⟨.iptr (fl l) ((t21q7).toNat * 7), [], 1, []⟩, some ⟨.agg (Enc.cells (ix l t21q7)), [], 1, []⟩] _ (by kernel_rfl) (allP_cons (ob_ldw l t21q7 7 ((t21q7).toNat * 7) k430 rfl (by first | rfl | omega) (Enc.cells (ix l t21q7)) rfl 1 []) (allP_cons (ob_ix_l l 7 1 t21q7 k430) allP_nil)) ?_
     refine rf [(0, iS kind), (4, .ptr 0 0), (5, iS t21q7), (6, .ptr 1 0), (19, .sl l.length (fl l)), (20, iS ((l.length : Nat) : Int)), (21, iS t21q7)] [(0, .row 26 [iS 0, iS 0]), (1, .row 36 (Enc.cells (ix l t21q7)))] 2 (by kernel_rfl) ?_
     refine wk_id ?_
     refine seq_np ?_
     refine reg_f ?_
     refine rs 3 [] [] (by kernel_rfl) allP_nil ?_
     refine rf [(0, iS kind), (4, .ptr 0 0), (5, iS t21q7), (6, .ptr 1 0), (7, iS (ix l t21q7).Kind), (19, .sl l.length (fl l)), (20, iS ((l.length : Nat) : Int)), (21, iS t21q7)] [(0, .row 26 [iS 0, iS 0]), (1, .row 36 (Enc.cells (ix l t21q7)))] 2 (by kernel_rfl) ?_
     refine wk_id ?_
     refine block_np ?_
     refine seq_np ?_
     refine reg_f ?_
     refine rs 1 [] [] (by kernel_rfl) allP_nil ?_
     obtain ⟨r458, hr458, h⟩ := bind_sx h
     refine run_call 25 [iS (ix l t21q7).Kind] (some 30) (by kernel_rfl) ?_
     refine call_0 (linear_of_spec (ix l t21q7).Kind r458 hr458) (by simp only [push_cast, seval]) (by simp only [push_cast, seval]) ?_
     refine back_f ?_
     refine rs 3 [] [] (by kernel_rfl) allP_nil ?_
     refine rf [(0, iS kind), (4, .ptr 0 0), (5, iS t21q7), (6, .ptr 1 0), (7, iS (ix l t21q7).Kind), (19, .sl l.length (fl l)), (20, iS ((l.length : Nat) : Int)), (21, iS t21q7), (28, bS (r458 != kind))] [(0, .row 26 [iS 0, iS 0]), (1, .row 36 (Enc.cells (ix l t21q7)))] 2 (by kernel_rfl) ?_
     refine wk_id ?_
     refine cond_sx h (by kernel_rfl) (fun g516 h => ?_) (fun g516 h => ?_)
     ·refine seq_np ?_
      refine reg_f ?_
      refine rs 1 [] [] (by kernel_rfl) allP_nil ?_
      obtain ⟨r460, hr460, h⟩ := bind_sx h
      refine run_call 22 [iS 4, iS t21q7] (some 34) (by kernel_rfl) ?_
      refine call_0 (linear_fault_spec 4 t21q7 r460 hr460) (by simp only [push_cast, seval]) (by simp only [push_cast, seval]) ?_
      refine back_f ?_
      refine rs 1 [] [] (by kernel_rfl) allP_nil ?_
      refine rf [(4, .ptr 0 0)] [(0, .row 26 (Enc.cells r460)), (1, .row 36 (Enc.cells (ix l t21q7)))] 2 (by kernel_rfl) ?_
      refine wk_id ?_
      refine rt_cast ht2 ?_
      obtain ⟨r0, h, e0⟩ := map_sx h
      have e1 := hr2 r0 e0.symm
      subst r0
      obtain rfl := Option.some.inj h
      refine ret_at (.agg (Enc.cells r460)) (by kernel_rfl) ?_
      exact ret_e [] [] (by simp only [push_cast, seval]) (by simp only [push_cast, seval]) rfl rfl rfl
     ·refine seq_cut (A := Unit) (fun _ => ([(0, iS kind), (4, .ptr 0 0), (5, iS t21q7), (6, .ptr 1 0), (7, iS (ix l t21q7).Kind), (19, .sl l.length (fl l)), (20, iS ((l.length : Nat) : Int)), (21, iS t21q7), (35, bS ((decide ((ix l t21q7).Begin < 0)) || ((decide ((ix l t21q7).End ≤ (ix l t21q7).Begin)) || (decide ((1000000000 : Int) < (ix l t21q7).End)))))], [(0, .row 26 [iS 0, iS 0]), (1, .row 36 (Enc.cells (ix l t21q7)))], 2)) (fun _ => True) (fun K463 hK463 => ?_) (fun _ _ => ?_)
      ·refine reg_f ?_
       refine rs 4 [] [] (by kernel_rfl) allP_nil ?_
       refine run_split 39 (decide ((ix l t21q7).Begin < 0)) (.inl (by kernel_rfl)) (fun g464 => ?_) (fun g464 => ?_)
       ·refine rs 12 [] [] (by kernel_rfl) allP_nil ?_
        refine rf [(0, iS kind), (4, .ptr 0 0), (5, iS t21q7), (6, .ptr 1 0), (7, iS (ix l t21q7).Kind), (19, .sl l.length (fl l)), (20, iS ((l.length : Nat) : Int)), (21, iS t21q7), (35, bS true)] [(0, .row 26 [iS 0, iS 0]), (1, .row 36 (Enc.cells (ix l t21q7)))] 2 (by kernel_rfl) ?_
        exact hK463 () _ _ _ trivial (leSt_m [(0, 0), (1, 1)] [] (by (try simp only [g464]) <;> simp only [push_cast, seval]) (by (try simp only [g464]) <;> simp only [push_cast, seval]) rfl rfl rfl)
       ·refine rs 7 [] [] (by kernel_rfl) allP_nil ?_
        refine run_split 46 (decide ((ix l t21q7).End ≤ (ix l t21q7).Begin)) (.inl (by kernel_rfl)) (fun g465 => ?_) (fun g465 => ?_)
        ·refine rs 5 [] [] (by kernel_rfl) allP_nil ?_
         refine rf [(0, iS kind), (4, .ptr 0 0), (5, iS t21q7), (6, .ptr 1 0), (7, iS (ix l t21q7).Kind), (19, .sl l.length (fl l)), (20, iS ((l.length : Nat) : Int)), (21, iS t21q7), (35, bS true)] [(0, .row 26 [iS 0, iS 0]), (1, .row 36 (Enc.cells (ix l t21q7)))] 2 (by kernel_rfl) ?_
         exact hK463 () _ _ _ trivial (leSt_m [(0, 0), (1, 1)] [] (by first | ((try simp only [g464, g465]) <;> simp only [push_cast, seval]; done) | ((try simp only [g464]); (try simp only [g465]); simp only [push_cast, seval]; done) | (exfalso; clear h; simp_all; done)) (by first | ((try simp only [g464, g465]) <;> simp only [push_cast, seval]; done) | ((try simp only [g464]); (try simp only [g465]); simp only [push_cast, seval]; done) | (exfalso; clear h; simp_all; done)) rfl rfl rfl)
        ·refine rs 5 [] [] (by kernel_rfl) allP_nil ?_
         refine rf [(0, iS kind), (4, .ptr 0 0), (5, iS t21q7), (6, .ptr 1 0), (7, iS (ix l t21q7).Kind), (19, .sl l.length (fl l)), (20, iS ((l.length : Nat) : Int)), (21, iS t21q7), (35, bS (decide ((1000000000 : Int) < (ix l t21q7).End)))] [(0, .row 26 [iS 0, iS 0]), (1, .row 36 (Enc.cells (ix l t21q7)))] 2 (by kernel_rfl) ?_
         exact hK463 () _ _ _ trivial (leSt_m [(0, 0), (1, 1)] [] (by first | ((try simp only [g464, g465]) <;> simp only [push_cast, seval]; done) | ((try simp only [g464]); (try simp only [g465]); simp only [push_cast, seval]; done) | (exfalso; clear h; simp_all; done)) (by first | ((try simp only [g464, g465]) <;> simp only [push_cast, seval]; done) | ((try simp only [g464]); (try simp only [g465]); simp only [push_cast, seval]; done) | (exfalso; clear h; simp_all; done)) rfl rfl rfl)
      ·dsimp only
       refine cond_sx h (by kernel_rfl) (fun g515 h => ?_) (fun g515 h => ?_)
       ·refine seq_np ?_
        refine reg_f ?_
        refine rs 1 [] [] (by kernel_rfl) allP_nil ?_
        obtain ⟨r467, hr467, h⟩ := bind_sx h
        refine run_call 22 [iS 3, iS t21q7] (some 52) (by kernel_rfl) ?_
        refine call_0 (linear_fault_spec 3 t21q7 r467 hr467) (by simp only [push_cast, seval]) (by simp only [push_cast, seval]) ?_
        refine back_f ?_
        refine rs 1 [] [] (by kernel_rfl) allP_nil ?_
        refine rf [(4, .ptr 0 0)] [(0, .row 26 (Enc.cells r467)), (1, .row 36 (Enc.cells (ix l t21q7)))] 2 (by kernel_rfl) ?_
        refine wk_id ?_
        refine rt_cast ht2 ?_
        obtain ⟨r0, h, e0⟩ := map_sx h
        have e1 := hr2 r0 e0.symm
        subst r0
        obtain rfl := Option.some.inj h
        refine ret_at (.agg (Enc.cells r467)) (by kernel_rfl) ?_
        exact ret_e [] [] (by simp only [push_cast, seval]) (by simp only [push_cast, seval]) rfl rfl rfl
       ·refine seq_cut (A := Bool) (fun a => ([(0, iS kind), (4, .ptr 0 0), (5, iS t21q7), (19, .sl l.length (fl l)), (20, iS ((l.length : Nat) : Int)), (21, iS t21q7), (53, bS a)], [(0, .row 26 [iS 0, iS 0])], 1)) (fun a => (linear_Check_j1 kind l t21q7 a) = some o2) (fun K483 hK483 => ?_) ?_
        ·refine seq_cut (A := Unit) (fun _ => ([(0, iS kind), (4, .ptr 0 0), (5, iS t21q7), (6, .ptr 1 0), (7, iS (ix l t21q7).Kind), (19, .sl l.length (fl l)), (20, iS ((l.length : Nat) : Int)), (21, iS t21q7), (53, bS (((ix l t21q7).Kind != 6) && ((ix l t21q7).Old != 0)))], [(0, .row 26 [iS 0, iS 0]), (1, .row 36 (Enc.cells (ix l t21q7)))], 2)) (fun _ => True) (fun K485 hK485 => ?_) (fun _ _ => ?_)
         ·refine reg_f ?_
          refine rs 3 [] [] (by kernel_rfl) allP_nil ?_
          refine run_split 56 ((ix l t21q7).Kind != 6) (.inl (by kernel_rfl)) (fun g486 => ?_) (fun g486 => ?_)
          ·refine rs 5 [] [] (by kernel_rfl) allP_nil ?_
           refine rf [(0, iS kind), (4, .ptr 0 0), (5, iS t21q7), (6, .ptr 1 0), (7, iS (ix l t21q7).Kind), (19, .sl l.length (fl l)), (20, iS ((l.length : Nat) : Int)), (21, iS t21q7), (53, bS ((ix l t21q7).Old != 0))] [(0, .row 26 [iS 0, iS 0]), (1, .row 36 (Enc.cells (ix l t21q7)))] 2 (by kernel_rfl) ?_
           exact hK485 () _ _ _ trivial (leSt_m [(0, 0), (1, 1)] [] (by (try simp only [g486]) <;> simp only [push_cast, seval]) (by (try simp only [g486]) <;> simp only [push_cast, seval]) rfl rfl rfl)
          ·refine rs 5 [] [] (by kernel_rfl) allP_nil ?_
           refine rf [(0, iS kind), (4, .ptr 0 0), (5, iS t21q7), (6, .ptr 1 0), (7, iS (ix l t21q7).Kind), (19, .sl l.length (fl l)), (20, iS ((l.length : Nat) : Int)), (21, iS t21q7), (53, bS false)] [(0, .row 26 [iS 0, iS 0]), (1, .row 36 (Enc.cells (ix l t21q7)))] 2 (by kernel_rfl) ?_
           exact hK485 () _ _ _ trivial (leSt_m [(0, 0), (1, 1)] [] (by (try simp only [g486]) <;> simp only [push_cast, seval]) (by (try simp only [g486]) <;> simp only [push_cast, seval]) rfl rfl rfl)
         ·dsimp only
          refine cond_sx h (by kernel_rfl) (fun g511 h => ?_) (fun g511 h => ?_)
          ·exact hK483 ((((ix l t21q7).Kind != 6) && ((ix l t21q7).Old != 0))) _ _ _ h (leSt_m [(0, 0)] [] (by simp only [push_cast, seval]) (by simp only [push_cast, seval]) rfl rfl rfl)
          ·refine seq_cut (A := Unit) (fun _ => ([(0, iS kind), (4, .ptr 0 0), (5, iS t21q7), (6, .ptr 1 0), (7, iS (ix l t21q7).Kind), (19, .sl l.length (fl l)), (20, iS ((l.length : Nat) : Int)), (21, iS t21q7), (53, bS (((ix l t21q7).Kind != 2) && (((ix l t21q7).Kind != 6) && (ix l t21q7).Ok)))], [(0, .row 26 [iS 0, iS 0]), (1, .row 36 (Enc.cells (ix l t21q7)))], 2)) (fun _ => True) (fun K489 hK489 => ?_) (fun _ _ => ?_)
           ·refine reg_f ?_
            refine rs 3 [] [] (by kernel_rfl) allP_nil ?_
            refine run_split 63 ((ix l t21q7).Kind != 2) (.inl (by kernel_rfl)) (fun g490 => ?_) (fun g490 => ?_)
            ·refine rs 4 [] [] (by kernel_rfl) allP_nil ?_
             refine run_split 67 ((ix l t21q7).Kind != 6) (.inl (by kernel_rfl)) (fun g491 => ?_) (fun g491 => ?_)
             ·refine rs 4 [] [] (by kernel_rfl) allP_nil ?_
              refine rf [(0, iS kind), (4, .ptr 0 0), (5, iS t21q7), (6, .ptr 1 0), (7, iS (ix l t21q7).Kind), (19, .sl l.length (fl l)), (20, iS ((l.length : Nat) : Int)), (21, iS t21q7), (53, bS (ix l t21q7).Ok)] [(0, .row 26 [iS 0, iS 0]), (1, .row 36 (Enc.cells (ix l t21q7)))] 2 (by kernel_rfl) ?_
              exact hK489 () _ _ _ trivial (leSt_m [(0, 0), (1, 1)] [] (by first | ((try simp only [g490, g491]) <;> simp only [push_cast, seval]; done) | ((try simp only [g490]); (try simp only [g491]); simp only [push_cast, seval]; done) | (exfalso; clear h; simp_all; done)) (by first | ((try simp only [g490, g491]) <;> simp only [push_cast, seval]; done) | ((try simp only [g490]); (try simp only [g491]); simp only [push_cast, seval]; done) | (exfalso; clear h; simp_all; done)) rfl rfl rfl)
             ·refine rs 4 [] [] (by kernel_rfl) allP_nil ?_
              refine rf [(0, iS kind), (4, .ptr 0 0), (5, iS t21q7), (6, .ptr 1 0), (7, iS (ix l t21q7).Kind), (19, .sl l.length (fl l)), (20, iS ((l.length : Nat) : Int)), (21, iS t21q7), (53, bS false)] [(0, .row 26 [iS 0, iS 0]), (1, .row 36 (Enc.cells (ix l t21q7)))] 2 (by kernel_rfl) ?_
              exact hK489 () _ _ _ trivial (leSt_m [(0, 0), (1, 1)] [] (by first | ((try simp only [g490, g491]) <;> simp only [push_cast, seval]; done) | ((try simp only [g490]); (try simp only [g491]); simp only [push_cast, seval]; done) | (exfalso; clear h; simp_all; done)) (by first | ((try simp only [g490, g491]) <;> simp only [push_cast, seval]; done) | ((try simp only [g490]); (try simp only [g491]); simp only [push_cast, seval]; done) | (exfalso; clear h; simp_all; done)) rfl rfl rfl)
            ·refine rs 8 [] [] (by kernel_rfl) allP_nil ?_
             refine rf [(0, iS kind), (4, .ptr 0 0), (5, iS t21q7), (6, .ptr 1 0), (7, iS (ix l t21q7).Kind), (19, .sl l.length (fl l)), (20, iS ((l.length : Nat) : Int)), (21, iS t21q7), (53, bS false)] [(0, .row 26 [iS 0, iS 0]), (1, .row 36 (Enc.cells (ix l t21q7)))] 2 (by kernel_rfl) ?_
             exact hK489 () _ _ _ trivial (leSt_m [(0, 0), (1, 1)] [] (by (try simp only [g490]) <;> simp only [push_cast, seval]) (by (try simp only [g490]) <;> simp only [push_cast, seval]) rfl rfl rfl)
           ·dsimp only
            refine cond_sx h (by kernel_rfl) (fun g510 h => ?_) (fun g510 h => ?_)
            ·exact hK483 ((((ix l t21q7).Kind != 2) && (((ix l t21q7).Kind != 6) && (ix l t21q7).Ok))) _ _ _ h (leSt_m [(0, 0)] [] (by simp only [push_cast, seval]) (by simp only [push_cast, seval]) rfl rfl rfl)
            ·refine seq_cut (A := Unit) (fun _ => ([(0, iS kind), (4, .ptr 0 0), (5, iS t21q7), (6, .ptr 1 0), (7, iS (ix l t21q7).Kind), (19, .sl l.length (fl l)), (20, iS ((l.length : Nat) : Int)), (21, iS t21q7), (53, bS (bif ((ix l t21q7).Kind == 2) then ((ix l t21q7).Arg != 0) else (((ix l t21q7).Kind == 4) && ((ix l t21q7).Arg != 0))))], [(0, .row 26 [iS 0, iS 0]), (1, .row 36 (Enc.cells (ix l t21q7)))], 2)) (fun _ => True) (fun K494 hK494 => ?_) (fun _ _ => ?_)
             ·refine reg_f ?_
              refine rs 3 [] [] (by kernel_rfl) allP_nil ?_
              refine run_split 73 ((ix l t21q7).Kind == 2) (.inl (by kernel_rfl)) (fun g495 => ?_) (fun g495 => ?_)
              ·refine rs 9 [] [] (by kernel_rfl) allP_nil ?_
               refine rf [(0, iS kind), (4, .ptr 0 0), (5, iS t21q7), (6, .ptr 1 0), (7, iS (ix l t21q7).Kind), (19, .sl l.length (fl l)), (20, iS ((l.length : Nat) : Int)), (21, iS t21q7), (53, bS ((ix l t21q7).Arg != 0))] [(0, .row 26 [iS 0, iS 0]), (1, .row 36 (Enc.cells (ix l t21q7)))] 2 (by kernel_rfl) ?_
               exact hK494 () _ _ _ trivial (leSt_m [(0, 0), (1, 1)] [] (by (try simp only [g495]) <;> simp only [push_cast, seval]) (by (try simp only [g495]) <;> simp only [push_cast, seval]) rfl rfl rfl)
              ·refine rs 4 [] [] (by kernel_rfl) allP_nil ?_
               refine run_split 77 ((ix l t21q7).Kind == 4) (.inl (by kernel_rfl)) (fun g496 => ?_) (fun g496 => ?_)
               ·refine rs 5 [] [] (by kernel_rfl) allP_nil ?_
                refine rf [(0, iS kind), (4, .ptr 0 0), (5, iS t21q7), (6, .ptr 1 0), (7, iS (ix l t21q7).Kind), (19, .sl l.length (fl l)), (20, iS ((l.length : Nat) : Int)), (21, iS t21q7), (53, bS ((ix l t21q7).Arg != 0))] [(0, .row 26 [iS 0, iS 0]), (1, .row 36 (Enc.cells (ix l t21q7)))] 2 (by kernel_rfl) ?_
                exact hK494 () _ _ _ trivial (leSt_m [(0, 0), (1, 1)] [] (by first | ((try simp only [g495, g496]) <;> simp only [push_cast, seval]; done) | ((try simp only [g495]); (try simp only [g496]); simp only [push_cast, seval]; done) | (exfalso; clear h; simp_all; done)) (by first | ((try simp only [g495, g496]) <;> simp only [push_cast, seval]; done) | ((try simp only [g495]); (try simp only [g496]); simp only [push_cast, seval]; done) | (exfalso; clear h; simp_all; done)) rfl rfl rfl)
               ·refine rs 5 [] [] (by kernel_rfl) allP_nil ?_
                refine rf [(0, iS kind), (4, .ptr 0 0), (5, iS t21q7), (6, .ptr 1 0), (7, iS (ix l t21q7).Kind), (19, .sl l.length (fl l)), (20, iS ((l.length : Nat) : Int)), (21, iS t21q7), (53, bS false)] [(0, .row 26 [iS 0, iS 0]), (1, .row 36 (Enc.cells (ix l t21q7)))] 2 (by kernel_rfl) ?_
                exact hK494 () _ _ _ trivial (leSt_m [(0, 0), (1, 1)] [] (by first | ((try simp only [g495, g496]) <;> simp only [push_cast, seval]; done) | ((try simp only [g495]); (try simp only [g496]); simp only [push_cast, seval]; done) | (exfalso; clear h; simp_all; done)) (by first | ((try simp only [g495, g496]) <;> simp only [push_cast, seval]; done) | ((try simp only [g495]); (try simp only [g496]); simp only [push_cast, seval]; done) | (exfalso; clear h; simp_all; done)) rfl rfl rfl)
             ·dsimp only
              refine cond_sx h (by kernel_rfl) (fun g509 h => ?_) (fun g509 h => ?_)
              ·exact hK483 ((bif ((ix l t21q7).Kind == 2) then ((ix l t21q7).Arg != 0) else (((ix l t21q7).Kind == 4) && ((ix l t21q7).Arg != 0)))) _ _ _ h (leSt_m [(0, 0)] [] (by simp only [push_cast, seval]) (by simp only [push_cast, seval]) rfl rfl rfl)
              ·refine seq_cut (A := Unit) (fun _ => ([(0, iS kind), (4, .ptr 0 0), (5, iS t21q7), (6, .ptr 1 0), (7, iS (ix l t21q7).Kind), (19, .sl l.length (fl l)), (20, iS ((l.length : Nat) : Int)), (21, iS t21q7), (53, bS (((ix l t21q7).Kind != 2) && (((ix l t21q7).Kind != 4) && (((ix l t21q7).Kind != 5) && ((ix l t21q7).Ret != 0)))))], [(0, .row 26 [iS 0, iS 0]), (1, .row 36 (Enc.cells (ix l t21q7)))], 2)) (fun _ => True) (fun K500 hK500 => ?_) (fun _ _ => ?_)
               ·refine reg_f ?_
                refine rs 3 [] [] (by kernel_rfl) allP_nil ?_
                refine run_split 84 ((ix l t21q7).Kind != 2) (.inl (by kernel_rfl)) (fun g501 => ?_) (fun g501 => ?_)
                ·refine rs 4 [] [] (by kernel_rfl) allP_nil ?_
                 refine run_split 88 ((ix l t21q7).Kind != 4) (.inl (by kernel_rfl)) (fun g502 => ?_) (fun g502 => ?_)
                 ·refine rs 4 [] [] (by kernel_rfl) allP_nil ?_
                  refine run_split 92 ((ix l t21q7).Kind != 5) (.inl (by kernel_rfl)) (fun g503 => ?_) (fun g503 => ?_)
                  ·refine rn 11 [(0, iS kind), (4, .ptr 0 0), (5, iS t21q7), (6, .ptr 1 0), (7, iS (ix l t21q7).Kind), (19, .sl l.length (fl l)), (20, iS ((l.length : Nat) : Int)), (21, iS t21q7), (53, bS (bif ((ix l t21q7).Kind == 2) then ((ix l t21q7).Arg != 0) else (((ix l t21q7).Kind == 4) && ((ix l t21q7).Arg != 0)))), (92, bS true)] [(0, .row 26 [iS 0, iS 0]), (1, .row 36 (Enc.cells (ix l t21q7)))] 2 (by kernel_rfl) ?_
                   refine rs 5 [] [] (by kernel_rfl) allP_nil ?_
                   refine rf [(0, iS kind), (4, .ptr 0 0), (5, iS t21q7), (6, .ptr 1 0), (7, iS (ix l t21q7).Kind), (19, .sl l.length (fl l)), (20, iS ((l.length : Nat) : Int)), (21, iS t21q7), (53, bS ((ix l t21q7).Ret != 0))] [(0, .row 26 [iS 0, iS 0]), (1, .row 36 (Enc.cells (ix l t21q7)))] 2 (by kernel_rfl) ?_
                   exact hK500 () _ _ _ trivial (leSt_m [(0, 0), (1, 1)] [] (by first | ((try simp only [g501, g502, g503]) <;> simp only [push_cast, seval]; done) | ((try simp only [g501]); (try simp only [g502]); (try simp only [g503]); simp only [push_cast, seval]; done) | (exfalso; clear h; simp_all; done)) (by first | ((try simp only [g501, g502, g503]) <;> simp only [push_cast, seval]; done) | ((try simp only [g501]); (try simp only [g502]); (try simp only [g503]); simp only [push_cast, seval]; done) | (exfalso; clear h; simp_all; done)) rfl rfl rfl)
                  ·refine rn 11 [(0, iS kind), (4, .ptr 0 0), (5, iS t21q7), (6, .ptr 1 0), (7, iS (ix l t21q7).Kind), (19, .sl l.length (fl l)), (20, iS ((l.length : Nat) : Int)), (21, iS t21q7), (53, bS (bif ((ix l t21q7).Kind == 2) then ((ix l t21q7).Arg != 0) else (((ix l t21q7).Kind == 4) && ((ix l t21q7).Arg != 0)))), (92, bS false)] [(0, .row 26 [iS 0, iS 0]), (1, .row 36 (Enc.cells (ix l t21q7)))] 2 (by kernel_rfl) ?_
                   refine rs 5 [] [] (by kernel_rfl) allP_nil ?_
                   refine rf [(0, iS kind), (4, .ptr 0 0), (5, iS t21q7), (6, .ptr 1 0), (7, iS (ix l t21q7).Kind), (19, .sl l.length (fl l)), (20, iS ((l.length : Nat) : Int)), (21, iS t21q7), (53, bS false)] [(0, .row 26 [iS 0, iS 0]), (1, .row 36 (Enc.cells (ix l t21q7)))] 2 (by kernel_rfl) ?_
                   exact hK500 () _ _ _ trivial (leSt_m [(0, 0), (1, 1)] [] (by first | ((try simp only [g501, g502, g503]) <;> simp only [push_cast, seval]; done) | ((try simp only [g501]); (try simp only [g502]); (try simp only [g503]); simp only [push_cast, seval]; done) | (exfalso; clear h; simp_all; done)) (by first | ((try simp only [g501, g502, g503]) <;> simp only [push_cast, seval]; done) | ((try simp only [g501]); (try simp only [g502]); (try simp only [g503]); simp only [push_cast, seval]; done) | (exfalso; clear h; simp_all; done)) rfl rfl rfl)
                 ·refine rs 9 [] [] (by kernel_rfl) allP_nil ?_
                  refine rf [(0, iS kind), (4, .ptr 0 0), (5, iS t21q7), (6, .ptr 1 0), (7, iS (ix l t21q7).Kind), (19, .sl l.length (fl l)), (20, iS ((l.length : Nat) : Int)), (21, iS t21q7), (53, bS false)] [(0, .row 26 [iS 0, iS 0]), (1, .row 36 (Enc.cells (ix l t21q7)))] 2 (by kernel_rfl) ?_
                  exact hK500 () _ _ _ trivial (leSt_m [(0, 0), (1, 1)] [] (by first | ((try simp only [g501, g502]) <;> simp only [push_cast, seval]; done) | ((try simp only [g501]); (try simp only [g502]); simp only [push_cast, seval]; done) | (exfalso; clear h; simp_all; done)) (by first | ((try simp only [g501, g502]) <;> simp only [push_cast, seval]; done) | ((try simp only [g501]); (try simp only [g502]); simp only [push_cast, seval]; done) | (exfalso; clear h; simp_all; done)) rfl rfl rfl)
                ·refine rs 13 [] [] (by kernel_rfl) allP_nil ?_
                 refine rf [(0, iS kind), (4, .ptr 0 0), (5, iS t21q7), (6, .ptr 1 0), (7, iS (ix l t21q7).Kind), (19, .sl l.length (fl l)), (20, iS ((l.length : Nat) : Int)), (21, iS t21q7), (53, bS false)] [(0, .row 26 [iS 0, iS 0]), (1, .row 36 (Enc.cells (ix l t21q7)))] 2 (by kernel_rfl) ?_
                 exact hK500 () _ _ _ trivial (leSt_m [(0, 0), (1, 1)] [] (by (try simp only [g501]) <;> simp only [push_cast, seval]) (by (try simp only [g501]) <;> simp only [push_cast, seval]) rfl rfl rfl)
               ·dsimp only
                refine cond_sx h (by kernel_rfl) (fun g508 h => ?_) (fun g508 h => ?_)
                ·exact hK483 ((((ix l t21q7).Kind != 2) && (((ix l t21q7).Kind != 4) && (((ix l t21q7).Kind != 5) && ((ix l t21q7).Ret != 0))))) _ _ _ h (leSt_m [(0, 0)] [] (by simp only [push_cast, seval]) (by simp only [push_cast, seval]) rfl rfl rfl)
                ·refine reg_f ?_
                 refine rs 3 [] [] (by kernel_rfl) allP_nil ?_
                 refine run_br h 99 (.inl (by kernel_rfl)) (fun g506 h => ?_) (fun g506 h => ?_)
                 ·refine rs 5 [] [] (by kernel_rfl) allP_nil ?_
                  refine run_br h 104 (.inl (by kernel_rfl)) (fun g507 h => ?_) (fun g507 h => ?_)
                  ·refine rs 5 [] [] (by kernel_rfl) allP_nil ?_
                   refine rf [(0, iS kind), (4, .ptr 0 0), (5, iS t21q7), (19, .sl l.length (fl l)), (20, iS ((l.length : Nat) : Int)), (21, iS t21q7), (53, bS ((ix l t21q7).Ret != 0))] [(0, .row 26 [iS 0, iS 0]), (1, .row 36 (Enc.cells (ix l t21q7)))] 2 (by kernel_rfl) ?_
                   exact hK483 (((ix l t21q7).Ret != 0)) _ _ _ h (leSt_m [(0, 0)] [] (by first | ((try simp only [g506, g507]) <;> simp only [push_cast, seval]; done) | ((try simp only [g506]); (try simp only [g507]); simp only [push_cast, seval]; done) | (exfalso; clear h; simp_all; done)) (by first | ((try simp only [g506, g507]) <;> simp only [push_cast, seval]; done) | ((try simp only [g506]); (try simp only [g507]); simp only [push_cast, seval]; done) | (exfalso; clear h; simp_all; done)) rfl rfl rfl)
                  ·refine rs 5 [] [] (by kernel_rfl) allP_nil ?_
                   refine rf [(0, iS kind), (4, .ptr 0 0), (5, iS t21q7), (19, .sl l.length (fl l)), (20, iS ((l.length : Nat) : Int)), (21, iS t21q7), (53, bS false)] [(0, .row 26 [iS 0, iS 0]), (1, .row 36 (Enc.cells (ix l t21q7)))] 2 (by kernel_rfl) ?_
                   exact hK483 (false) _ _ _ h (leSt_m [(0, 0)] [] (by first | ((try simp only [g506, g507]) <;> simp only [push_cast, seval]; done) | ((try simp only [g506]); (try simp only [g507]); simp only [push_cast, seval]; done) | (exfalso; clear h; simp_all; done)) (by first | ((try simp only [g506, g507]) <;> simp only [push_cast, seval]; done) | ((try simp only [g506]); (try simp only [g507]); simp only [push_cast, seval]; done) | (exfalso; clear h; simp_all; done)) rfl rfl rfl)
                 ·refine rs 10 [] [] (by kernel_rfl) allP_nil ?_
                  refine rf [(0, iS kind), (4, .ptr 0 0), (5, iS t21q7), (19, .sl l.length (fl l)), (20, iS ((l.length : Nat) : Int)), (21, iS t21q7), (53, bS false)] [(0, .row 26 [iS 0, iS 0]), (1, .row 36 (Enc.cells (ix l t21q7)))] 2 (by kernel_rfl) ?_
                  exact hK483 (false) _ _ _ h (leSt_m [(0, 0)] [] (by (try simp only [g506]) <;> simp only [push_cast, seval]) (by (try simp only [g506]) <;> simp only [push_cast, seval]) rfl rfl rfl)
        ·rintro t53q14 h
         try dsimp only at h ⊢
         unfold linear_Check_j1 at h
         refine cond_sx h (by kernel_rfl) (fun g514 h => ?_) (fun g514 h => ?_)
         ·refine seq_np ?_
          refine reg_f ?_
          refine rs 1 [] [] (by kernel_rfl) allP_nil ?_
          obtain ⟨r513, hr513, h⟩ := bind_sx h
          refine run_call 22 [iS 5, iS t21q7] (some 110) (by kernel_rfl) ?_
          refine call_0 (linear_fault_spec 5 t21q7 r513 hr513) (by simp only [push_cast, seval]) (by simp only [push_cast, seval]) ?_
          refine back_f ?_
          refine rs 1 [] [] (by kernel_rfl) allP_nil ?_
          refine rf [(4, .ptr 0 0)] [(0, .row 26 (Enc.cells r513))] 1 (by kernel_rfl) ?_
          refine wk_id ?_
          refine rt_cast ht2 ?_
          obtain ⟨r0, h, e0⟩ := map_sx h
          have e1 := hr2 r0 e0.symm
          subst r0
          obtain rfl := Option.some.inj h
          refine ret_at (.agg (Enc.cells r513)) (by kernel_rfl) ?_
          exact ret_e [] [] (by simp only [push_cast, seval]) (by simp only [push_cast, seval]) rfl rfl rfl
         ·refine wk_id ?_
          refine wk_id ?_
          refine wk_id ?_
          refine reg_f ?_
          refine rs 2 [] [] (by kernel_rfl) allP_nil ?_
          refine rf [(0, iS kind), (4, .ptr 0 0), (19, .sl l.length (fl l)), (20, iS ((l.length : Nat) : Int)), (21, iS (IntKind.i64.wrap (t21q7 + 1)))] [(0, .row 26 [iS 0, iS 0])] 1 (by kernel_rfl) ?_
          exact hn2 ((IntKind.i64.wrap (t21q7 + 1))) _ _ _ (Option.some.inj h).symm (leSt_m [(0, 0)] [] (by simp only [push_cast, seval]) (by simp only [push_cast, seval]) rfl rfl rfl)
    ·change R2 (.exit 0) _ _ _
     refine ex_cast hx2 (id := 0) ?_
     obtain ⟨r0, h, e0⟩ := map_sx h
     have e1 := hr2 r0 e0.symm
     subst r0
     refine wk_id ?_
     refine wk_id ?_
     refine seq_np ?_
     refine reg_f ?_
     refine rs 2 [] [] (by kernel_rfl) allP_nil ?_
     refine rf [(4, .ptr 0 0)] [(0, .row 26 [iS 0, iS 0])] 1 (by kernel_rfl) ?_
     refine wk_id ?_
     obtain rfl := Option.some.inj h
     refine ret_at (.agg [iS 0, iS 0]) (by kernel_rfl) ?_
     exact ret_e [] [] (by simp only [push_cast, seval]) (by simp only [push_cast, seval]) rfl rfl rfl

set_option maxRecDepth 100000 in
set_option maxHeartbeats 200000000 in
theorem linear_begin_spec (kind : Int) (hK0 : (kind == 1) = true) (r : Unit) (h : linear_begin kind = some r) : SpecW Try.prog 21 [iS kind] [] 0 (fun x h n => x = .ifc 60 (.v (.slice none 0 0)) ∧ h = [] ∧ n = 0) := by
 unfold linear_begin at h
 refine spec_of (draw_ok _) Try.func21 rfl (by decide) rfl (by kernel_rfl) ?_
 refine seq_np ?_
 refine reg_f ?_
 refine rs 1 [] [] (by kernel_rfl) allP_nil ?_
 refine rf [(0, iS kind)] [] 0 (by kernel_rfl) ?_
 refine wk_id ?_
 refine seq_np ?_
 refine seq_np ?_
 refine reg_f ?_
 refine rs 1 [] [] (by kernel_rfl) allP_nil ?_
 refine rf [(3, iS kind)] [] 0 (by kernel_rfl) ?_
 refine wk_id ?_
 refine block_np ?_
 refine seq_np ?_
 refine reg_f ?_
 refine rs 2 [] [] (by kernel_rfl) allP_nil ?_
 refine rf [(3, iS kind), (4, bS (kind == 1))] [] 0 (by kernel_rfl) ?_
 refine wk_id ?_
 refine cond_at (b := (kind == 1)) (by kernel_rfl) hK0 ?_
 refine seq_np ?_
 refine reg_f ?_
 refine rs 2 [] [] (by kernel_rfl) allP_nil ?_
 refine rf [(2, .ifc 60 (.v (.slice none 0 0)))] [] 0 (by kernel_rfl) ?_
 refine wk_id ?_
 obtain rfl := Option.some.inj h
 refine ret_at (.ifc 60 (.v (.slice none 0 0))) (by kernel_rfl) ?_
 exact ret_e [] [] (by simp only [push_cast, seval]) (by simp only [push_cast, seval]) rfl rfl rfl

set_option maxRecDepth 100000 in
set_option maxHeartbeats 200000000 in
theorem linear_key_spec (t : (List Int)) (done : Int) (r : place) (h : linear_key t done = some r) : SpecW Try.prog 26 [.ifc 60 (.sl t.length (fl t)), iS done] [] 0 (fun x h n => x = .agg (Enc.cells r) ∧ h = [] ∧ n = 0) := by
 unfold linear_key at h
 refine spec_of (draw_ok _) Try.func26 rfl (by decide) rfl (by kernel_rfl) ?_
 refine seq_np ?_
 refine reg_f ?_
 refine rs 1 [] [] (by kernel_rfl) allP_nil ?_
 refine rf [(0, .ifc 60 (.sl t.length (fl t))), (1, iS done), (4, .ptr 0 0)] [(0, .row 58 ((iS 0 :: (iS 0 :: (Enc.cells (default : (VArr 14)) ++ []))) : List SV))] 1 (by kernel_rfl) ?_
 refine wk_id ?_
 refine seq_np ?_
 refine reg_f ?_
 refine rs 4 [] [] (by kernel_rfl) allP_nil ?_
 refine rf [(0, .ifc 60 (.sl t.length (fl t))), (4, .ptr 0 0), (5, .ptr 1 0)] [(0, .row 58 ((iS 0 :: (iS 0 :: (Enc.cells (default : (VArr 14)) ++ []))) : List SV)), (1, .row 58 ((iS done :: (iS 0 :: (Enc.cells (default : (VArr 14)) ++ []))) : List SV))] 2 (by kernel_rfl) ?_
 refine wk_id ?_
 refine seq_np ?_
 refine seq_np ?_
 refine reg_f ?_
 refine rs 1 [] [] (by kernel_rfl) allP_nil ?_
 refine rf [(4, .ptr 0 0), (5, .ptr 1 0), (11, .ifc 60 (.sl t.length (fl t)))] [(0, .row 58 ((iS 0 :: (iS 0 :: (Enc.cells (default : (VArr 14)) ++ []))) : List SV)), (1, .row 58 ((iS done :: (iS 0 :: (Enc.cells (default : (VArr 14)) ++ []))) : List SV))] 2 (by kernel_rfl) ?_
 refine wk_id ?_
 refine block_np ?_
 refine seq_np ?_
 refine reg_f ?_
 refine rs 3 [] [] (by kernel_rfl) allP_nil ?_
 refine rf [(4, .ptr 0 0), (5, .ptr 1 0), (11, .ifc 60 (.sl t.length (fl t))), (13, bS false), (14, iS 0)] [(0, .row 58 ((iS 0 :: (iS 0 :: (Enc.cells (default : (VArr 14)) ++ []))) : List SV)), (1, .row 58 ((iS done :: (iS 0 :: (Enc.cells (default : (VArr 14)) ++ []))) : List SV))] 2 (by kernel_rfl) ?_
 refine wk_id ?_
 refine cond_f (by kernel_rfl) ?_
 refine seq_np ?_
 refine reg_f ?_
 refine rs 3 [] [] (by kernel_rfl) allP_nil ?_
 refine rf [(4, .ptr 0 0), (5, .ptr 1 0), (11, .ifc 60 (.sl t.length (fl t))), (18, bS false), (19, iS 0)] [(0, .row 58 ((iS 0 :: (iS 0 :: (Enc.cells (default : (VArr 14)) ++ []))) : List SV)), (1, .row 58 ((iS done :: (iS 0 :: (Enc.cells (default : (VArr 14)) ++ []))) : List SV))] 2 (by kernel_rfl) ?_
 refine wk_id ?_
 refine cond_f (by kernel_rfl) ?_
 refine seq_np ?_
 refine reg_f ?_
 refine rs 3 [] [] (by kernel_rfl) allP_nil ?_
 refine rf [(4, .ptr 0 0), (5, .ptr 1 0), (23, bS true), (24, .sl t.length (fl t))] [(0, .row 58 ((iS 0 :: (iS 0 :: (Enc.cells (default : (VArr 14)) ++ []))) : List SV)), (1, .row 58 ((iS done :: (iS 0 :: (Enc.cells (default : (VArr 14)) ++ []))) : List SV))] 2 (by kernel_rfl) ?_
 refine wk_id ?_
 refine cond_t (by kernel_rfl) ?_
 refine seq_np ?_
 refine reg_f ?_
 refine rs 1 [] [] (by kernel_rfl) allP_nil ?_
 refine rf [(4, .ptr 0 0), (5, .ptr 1 0), (8, .sl t.length (fl t))] [(0, .row 58 ((iS 0 :: (iS 0 :: (Enc.cells (default : (VArr 14)) ++ []))) : List SV)), (1, .row 58 ((iS done :: (iS 0 :: (Enc.cells (default : (VArr 14)) ++ []))) : List SV))] 2 (by kernel_rfl) ?_
 refine wk_id ?_
 refine seq_np ?_
 refine reg_f ?_
 refine rs 4 [] [] (by kernel_rfl) allP_nil ?_
 refine rf [(4, .ptr 0 0), (5, .ptr 1 0), (8, .sl t.length (fl t))] [(0, .row 58 ((iS 0 :: (iS 0 :: (Enc.cells (default : (VArr 14)) ++ []))) : List SV)), (1, .row 58 ((iS done :: (iS ((t.length : Nat) : Int) :: (Enc.cells (default : (VArr 14)) ++ []))) : List SV))] 2 (by kernel_rfl) ?_
 refine wk_id ?_
 refine chk_sx h (fun g536 h => ?_)
 refine reg_f ?_
 have k535 : t.length ≤ 14 := by first | simpa only [Bool.and_eq_true, decide_eq_true_eq, bne_iff_ne, ne_eq] using g536 | (simp at g536 ⊢; omega)
 refine rs 4 [none, none, none, some ⟨iS ((t.length : Nat) : Int), [(1, .row 58 ((iS done :: (iS ((t.length : Nat) : Int) :: (Enc.cells (VArr.put0 (default : (VArr 14)) t) ++ []))) : List SV))], 2, [1]⟩] _ (by kernel_rfl) (allP_cons (ob_copyA ([iS done, iS ((t.length : Nat) : Int)] : List SV) ([] : List SV) (default : (VArr 14)) t k535 (fl t) rfl t.length rfl ((fl t).length = t.length * 1) (app_sl t 1 rfl) ((iS done :: (iS ((t.length : Nat) : Int) :: (Enc.cells (default : (VArr 14)) ++ []))) : List SV) ((iS done :: (iS ((t.length : Nat) : Int) :: (Enc.cells (VArr.put0 (default : (VArr 14)) t) ++ []))) : List SV) rfl rfl 2 rfl 1 2 58 []) allP_nil) ?_
 refine rf [(4, .ptr 0 0), (5, .ptr 1 0)] [(0, .row 58 ((iS 0 :: (iS 0 :: (Enc.cells (default : (VArr 14)) ++ []))) : List SV)), (1, .row 58 ((iS done :: (iS ((t.length : Nat) : Int) :: (Enc.cells (VArr.put0 (default : (VArr 14)) t) ++ []))) : List SV))] 2 (by kernel_rfl) ?_
 refine wk_id ?_
 refine wk_id ?_
 refine seq_np ?_
 refine reg_f ?_
 refine rs 2 [] [] (by kernel_rfl) allP_nil ?_
 refine rf [(4, .ptr 0 0)] [(0, .row 58 ((iS done :: (iS ((t.length : Nat) : Int) :: (Enc.cells (VArr.put0 (default : (VArr 14)) t) ++ []))) : List SV)), (1, .row 58 ((iS done :: (iS ((t.length : Nat) : Int) :: (Enc.cells (VArr.put0 (default : (VArr 14)) t) ++ []))) : List SV))] 2 (by kernel_rfl) ?_
 refine wk_id ?_
 obtain rfl := Option.some.inj h
 refine ret_at (.agg ((iS done :: (iS ((t.length : Nat) : Int) :: (Enc.cells (VArr.put0 (default : (VArr 14)) t) ++ []))) : List SV)) (by kernel_rfl) ?_
 exact ret_e [] [] (by simp only [push_cast, seval]) (by simp only [push_cast, seval]) rfl rfl rfl

set_option maxRecDepth 100000 in
set_option maxHeartbeats 200000000 in
theorem slices_Clone_int_spec (s : (List Int)) (r : (List Int)) (h : slices_Clone_int s = some r) : SpecW Try.prog 43 [.sl s.length (fl s)] [] 0 (fun x h n => x = .own 0 0 r.length ∧ h = [(0, .row 3 (fl r))] ∧ n = 1) := by
 unfold slices_Clone_int at h
 refine spec_of (draw_ok _) Try.func43 rfl (by decide) rfl (by kernel_rfl) ?_
 refine seq_np ?_
 refine reg_f ?_
 refine rs 1 [] [] (by kernel_rfl) allP_nil ?_
 refine rf [(0, .sl s.length (fl s))] [] 0 (by kernel_rfl) ?_
 refine wk_id ?_
 refine seq_np ?_
 refine seq_np ?_
 refine reg_f ?_
 refine rs 1 [] [] (by kernel_rfl) allP_nil ?_
 refine run_nil s.length (some 4) (by kernel_rfl) (fun g573 => ?_) ?_
 ·obtain rfl : s = [] := List.eq_nil_of_length_eq_zero g573
  replace h : (some ([])) = some r := by simpa using h
  refine rf [(0, .sl ([] : List Int).length (fl ([] : List Int))), (4, bS true)] [] 0 (by kernel_rfl) ?_
  refine wk_id ?_
  refine cond_t (by kernel_rfl) ?_
  refine seq_np ?_
  refine reg_f ?_
  refine rs 1 [] [] (by kernel_rfl) allP_nil ?_
  refine rf [(2, .v (.slice none 0 0))] [] 0 (by kernel_rfl) ?_
  refine wk_id ?_
  obtain rfl := Option.some.inj h
  refine ret_at (.v (.slice none 0 0)) (by kernel_rfl) ?_
  exact ret_e [] [] (by simp only [push_cast, seval]) (by simp only [push_cast, seval]) rfl rfl rfl
 ·refine rf [(0, .sl s.length (fl s)), (4, bS false)] [] 0 (by kernel_rfl) ?_
  refine wk_id ?_
  refine cond_f (by kernel_rfl) ?_
  refine wk_id ?_
  refine chk_sx h (fun g572 h => ?_)
  refine seq_np ?_
  refine reg_f ?_
  refine run_mk0 Int (some 5) 3 (by kernel_rfl) ?_
  have k571 : (([] : List Int) ++ s).length * 8 ≤ 140737488355328 := by first | simpa only [Bool.and_eq_true, decide_eq_true_eq, bne_iff_ne, ne_eq] using g572 | (simp at g572 ⊢; omega)
  refine rs 3 [none, some ⟨.own 1 0 (([] : List Int) ++ s).length, [(1, .row 3 (fl (([] : List Int) ++ s))), (0, .dead)], 2, [0]⟩] _ (by kernel_rfl) (allP_cons (ob_app (P := Try.prog) ([] : List Int) s 1 8 rfl (fl s) s.length rfl rfl ((fl s).length = s.length * 1) (app_sl s 1 rfl) 3 (by kernel_rfl) (by decide) k571 0 1 []) allP_nil) ?_
  refine rf [(2, .own 1 0 (([] : List Int) ++ s).length)] [(0, .dead), (1, .row 3 (fl (([] : List Int) ++ s)))] 2 (by kernel_rfl) ?_
  refine wk_id ?_
  obtain rfl := Option.some.inj h
  refine ret_at (.own 1 0 (([] : List Int) ++ s).length) (by kernel_rfl) ?_
  exact ret_e [(0, 1)] [] (by simp only [push_cast, seval]) (by simp only [push_cast, seval]) rfl rfl rfl

set_option maxRecDepth 100000 in
set_option maxHeartbeats 200000000 in
theorem linear_queue_do_spec (q : (List Int)) (c : GCall) (r : (List Int) × Bool) (h : linear_queue_do q c = some r) : SpecW Try.prog 42 [.sl q.length (fl q), .agg (Enc.cells c)] [] 0 (fun x h n => x = .tup [.ifc 60 (.sl r.1.length (fl r.1)), bS r.2] ∧ h = [] ∧ n = 0) := by
 unfold linear_queue_do at h
 refine spec_of (draw_ok _) Try.func42 rfl (by decide) rfl (by kernel_rfl) ?_
 refine seq_np ?_
 refine reg_f ?_
 refine rs 3 [] [] (by kernel_rfl) allP_nil ?_
 refine rf [(0, .sl q.length (fl q)), (3, .ptr 0 0)] [(0, .row 36 (Enc.cells c))] 1 (by kernel_rfl) ?_
 refine wk_id ?_
 refine seq_np ?_
 refine seq_np ?_
 refine reg_f ?_
 refine rs 3 [] [] (by kernel_rfl) allP_nil ?_
 refine rf [(0, .sl q.length (fl q)), (3, .ptr 0 0), (8, bS (c.Kind == 1))] [(0, .row 36 (Enc.cells c))] 1 (by kernel_rfl) ?_
 refine wk_id ?_
 refine cond_sx h (by kernel_rfl) (fun g607 h => ?_) (fun g607 h => ?_)
 ·refine seq_np ?_
  refine reg_t ?_
  refine rs 1 [] [] (by kernel_rfl) allP_nil ?_
  obtain ⟨r591, hr591, h⟩ := bind_sx h
  refine call_x (slices_Clone_int_spec q r591 hr591) (args := [.sl q.length (fl q)]) (dst := (some 10)) (by kernel_rfl) [(0, .row 36 (Enc.cells c))] 2 (by kernel_rfl) [] [] (.own 2 0 r591.length) [(2, .row 3 (fl r591))] (by simp only [push_cast, seval]) (by simp only [push_cast, seval]) (by kernel_rfl) (.inl rfl) (by simp only [push_cast, seval]) (by simp only [push_cast, seval]) ?_
  refine chk_sx h (fun g593 h => ?_)
  have k592 : (r591 ++ ([c.Arg] : List Int)).length * 8 ≤ 140737488355328 := by first | simpa only [Bool.and_eq_true, decide_eq_true_eq, bne_iff_ne, ne_eq] using g593 | (simp at g593 ⊢; omega)
  refine rs 7 [none, none, none, some ⟨.own 8 0 (r591 ++ ([c.Arg] : List Int)).length, [(8, .row 3 (fl (r591 ++ ([c.Arg] : List Int)))), (2, .dead)], 9, [2, 6]⟩] _ (by kernel_rfl) (allP_cons (ob_app (P := Try.prog) r591 ([c.Arg] : List Int) 1 8 rfl (appCells (fl ([c.Arg] : List Int)) 0 (([c.Arg] : List Int).length * 1)) ([c.Arg] : List Int).length (app_own ([c.Arg] : List Int) 1 rfl) rfl (0 + ([c.Arg] : List Int).length * 1 ≤ (fl ([c.Arg] : List Int)).length) (app_own_le ([c.Arg] : List Int) 1 rfl) 3 (by kernel_rfl) (by decide) k592 2 8 [6]) allP_nil) ?_
  refine rt [(4, .ifc 60 (.own 8 0 (r591 ++ ([c.Arg] : List Int)).length)), (5, bS true)] [(0, .row 36 (Enc.cells c)), (2, .dead), (6, .row 3 (fl ([c.Arg] : List Int))), (8, .row 3 (fl (r591 ++ ([c.Arg] : List Int))))] 13 follows (by kernel_rfl) ?_
  refine wk_id ?_
  obtain rfl := Option.some.inj h
  refine ret_at (.tup [.ifc 60 (.own 8 0 (r591 ++ ([c.Arg] : List Int)).length), bS true]) (by kernel_rfl) ?_
  exact ret_e [] [8] (by simp only [leS_frz, leS_cut, push_cast, seval]) (by simp only [leS_frz, leS_cut, push_cast, seval]) rfl rfl rfl
 ·refine wk_id ?_
  refine seq_np ?_
  refine seq_np ?_
  refine reg_f ?_
  refine rs 3 [] [] (by kernel_rfl) allP_nil ?_
  refine rf [(0, .sl q.length (fl q)), (3, .ptr 0 0), (18, bS (((q.length : Nat) : Int) == 0))] [(0, .row 36 (Enc.cells c))] 1 (by kernel_rfl) ?_
  refine wk_id ?_
  refine cond_sx h (by kernel_rfl) (fun g606 h => ?_) (fun g606 h => ?_)
  ·refine seq_np ?_
   refine reg_t ?_
   refine rs 7 [] [] (by kernel_rfl) allP_nil ?_
   refine rt [(4, .ifc 60 (.sl q.length (fl q))), (5, bS (!c.Ok))] [(0, .row 36 (Enc.cells c))] 8 follows (by kernel_rfl) ?_
   refine wk_id ?_
   obtain rfl := Option.some.inj h
   refine ret_at (.tup [.ifc 60 (.sl q.length (fl q)), bS (!c.Ok)]) (by kernel_rfl) ?_
   exact ret_e [] [] (by simp only [push_cast, seval]) (by simp only [push_cast, seval]) rfl rfl rfl
  ·refine wk_id ?_
   refine chk_sx h (fun g602 h => ?_)
   refine chk_sx h (fun g605 h => ?_)
   refine seq_cut (A := Unit) (fun _ => ([(4, .ifc 60 (.sl (cut q (1 : Int) ((q.length : Nat) : Int)).length (fl (cut q (1 : Int) ((q.length : Nat) : Int))))), (5, bS (c.Ok && ((ix q (0 : Int)) == c.Ret)))], [(0, .row 36 (Enc.cells c))], 16)) (fun _ => True) (fun K600 hK600 => ?_) (fun _ _ => ?_)
   ·refine reg_t ?_
    have k601 : 0 ≤ (1 : Int) ∧ (1 : Int) ≤ ((q.length : Nat) : Int) ∧ ((q.length : Nat) : Int) ≤ ((q.length : Nat) : Int) := by first | simpa only [Bool.and_eq_true, decide_eq_true_eq, bne_iff_ne, ne_eq] using g602 | (simp at g602 ⊢; omega)
    refine rs 6 [none, some ⟨.sl (cut q (1 : Int) ((q.length : Nat) : Int)).length (fl (cut q (1 : Int) ((q.length : Nat) : Int))), [], 2, []⟩] _ (by kernel_rfl) (allP_cons (ob_cut q (1 : Int) ((q.length : Nat) : Int) 1 2 rfl k601) allP_nil) ?_
    refine run_split 29 c.Ok (.inl (by kernel_rfl)) (fun g603 => ?_) (fun g603 => ?_)
    ·have k604 : 0 ≤ (0 : Int) ∧ (0 : Int) < ((q.length : Nat) : Int) := by have e := or_use g605 (by first | ((try simp only [g603]) <;> rfl) | ((try simp only [g603]); rfl) | (exfalso; clear h; simp_all; done)); first | simpa only [Bool.and_eq_true, decide_eq_true_eq, bne_iff_ne, ne_eq] using e | (simp at e ⊢; omega)
     refine rs 9 [none, some ⟨.iptr (fl q) (((0 : Int)).toNat * 1), [], 8, []⟩, some ⟨iS (ix q (0 : Int)), [], 9, []⟩] _ (by kernel_rfl) (allP_cons (ob_ld q (0 : Int) 1 0 (((0 : Int)).toNat * 1) k604 rfl (by decide) (by first | rfl | omega) (dflS Try.prog 3) (iS (ix q (0 : Int))) rfl 9 []) (allP_cons (ob_ix_l q 1 8 0 k604) allP_nil)) ?_
     refine rt [(4, .ifc 60 (.sl (cut q (1 : Int) ((q.length : Nat) : Int)).length (fl (cut q (1 : Int) ((q.length : Nat) : Int))))), (5, bS ((ix q (0 : Int)) == c.Ret))] [(0, .row 36 (Enc.cells c))] 16 follows (by kernel_rfl) ?_
     exact hK600 () _ _ _ trivial (leSt_m [(0, 0)] [] (by (try simp only [g603]) <;> simp only [push_cast, seval]) (by (try simp only [g603]) <;> simp only [push_cast, seval]) rfl rfl rfl)
    ·refine rs 9 [] [] (by kernel_rfl) allP_nil ?_
     refine rt [(4, .ifc 60 (.sl (cut q (1 : Int) ((q.length : Nat) : Int)).length (fl (cut q (1 : Int) ((q.length : Nat) : Int))))), (5, bS false)] [(0, .row 36 (Enc.cells c))] 16 follows (by kernel_rfl) ?_
     exact hK600 () _ _ _ trivial (leSt_m [(0, 0)] [] (by (try simp only [g603]) <;> simp only [push_cast, seval]) (by (try simp only [g603]) <;> simp only [push_cast, seval]) rfl rfl rfl)
   ·dsimp only
    obtain rfl := Option.some.inj h
    refine ret_at (.tup [.ifc 60 (.sl (cut q (1 : Int) ((q.length : Nat) : Int)).length (fl (cut q (1 : Int) ((q.length : Nat) : Int)))), bS (c.Ok && ((ix q (0 : Int)) == c.Ret))]) (by kernel_rfl) ?_
    exact ret_e [] [] (by simp only [push_cast, seval]) (by simp only [push_cast, seval]) rfl rfl rfl

set_option maxRecDepth 100000 in
set_option maxHeartbeats 200000000 in
theorem linear_search_from_n_spec : ∀ (n : Nat) (t : (List Int)) (done : Int) (c0_calls : (List GCall)) (c2 : (List Int)) (c1 : (List (place × Int))) (r : Bool × (List GCall) × (List Int) × (List (place × Int))), linear_search_from_n n t done c0_calls c2 c1 = some r → SpecW Try.prog 20 [.ptr 0 0, .ifc 60 (.sl t.length (fl t)), iS done] [(0, .row 47 [.sl c0_calls.length (fl c0_calls), .mp 1, .own 2 0 c2.length]), (1, .map (mE c1)), (2, .row 3 (fl c2))] 3 (fun x h n => x = bS r.1 ∧ h = [(0, .row 47 [.sl r.2.1.length (fl r.2.1), .mp 1, .own 3 0 r.2.2.1.length]), (1, .map (mE r.2.2.2)), (2, .dead), (3, .row 3 (fl r.2.2.1))] ∧ n = 4) := by
 intro n
 induction n with
 | zero => intro t done c0_calls c2 c1 r h; exact absurd (show (none : Option (Bool × (List GCall) × (List Int) × (List (place × Int)))) = some r from h) (by simp)
 | succ n ih =>
  intro t done c0_calls c2 c1 r h
  have h : linear_search_from_b (linear_search_from_n n) t done c0_calls c2 c1 = some r := h
  generalize linear_search_from_n n = rcf at ih h
  unfold linear_search_from_b at h
  refine spec_of (draw_ok _) Try.func20 rfl (by decide) rfl (by kernel_rfl) ?_
  refine seq_np ?_
  refine reg_f ?_
  refine rs 1 [] [] (by kernel_rfl) allP_nil ?_
  refine rf [(0, .ptr 0 0), (1, .ifc 60 (.sl t.length (fl t))), (2, iS done)] [(0, .row 47 [.sl c0_calls.length (fl c0_calls), .mp 1, .own 2 0 c2.length]), (1, .map (mE c1)), (2, .row 3 (fl c2))] 3 (by kernel_rfl) ?_
  refine wk_id ?_
  refine seq_np ?_
  refine chk_sx h (fun g815 h => ?_)
  refine seq_np ?_
  refine reg_f ?_
  have k814 : 0 ≤ ((c0_calls.length : Nat) : Int) := by first | simpa only [Bool.and_eq_true, decide_eq_true_eq, bne_iff_ne, ne_eq] using g815 | (simp at g815 ⊢; omega)
  refine rs 9 [none, none, none, none, none, none, some ⟨iS (IntKind.i64.wrap ((1 : Int) * 2 ^ (min (((c0_calls.length : Nat) : Int)).toNat (IntKind.i64).bits))), [], 3, []⟩] _ (by kernel_rfl) (allP_cons (ob_p (v := iS (IntKind.i64.wrap ((1 : Int) * 2 ^ (min (((c0_calls.length : Nat) : Int)).toNat (IntKind.i64).bits)))) (nx := 3) (r := []) k814) allP_nil) ?_
  refine rf [(0, .ptr 0 0), (1, .ifc 60 (.sl t.length (fl t))), (2, iS done), (23, bS (done == (IntKind.i64.wrap ((IntKind.i64.wrap ((1 : Int) * 2 ^ (min (((c0_calls.length : Nat) : Int)).toNat (IntKind.i64).bits))) - 1))))] [(0, .row 47 [.sl c0_calls.length (fl c0_calls), .mp 1, .own 2 0 c2.length]), (1, .map (mE c1)), (2, .row 3 (fl c2))] 3 (by kernel_rfl) ?_
  refine wk_id ?_
  refine cond_sx h (by kernel_rfl) (fun g1125 h => ?_) (fun g1125 h => ?_)
  ·refine seq_np ?_
   refine reg_f ?_
   refine rs 1 [] [] (by kernel_rfl) allP_nil ?_
   refine rf [(6, bS true)] [(0, .row 47 [.sl c0_calls.length (fl c0_calls), .mp 1, .own 2 0 c2.length]), (1, .map (mE c1)), (2, .row 3 (fl c2))] 3 (by kernel_rfl) ?_
   refine wk_id ?_
   obtain rfl := Option.some.inj h
   refine ret_at (bS true) (by kernel_rfl) ?_
   exact ret_e [(0, 0), (1, 1), (3, 2)] [] (by simp only [push_cast, seval]) (by simp only [push_cast, seval]) rfl rfl rfl
  ·refine wk_id ?_
   refine seq_np ?_
   refine reg_f ?_
   refine rs 2 [] [] (by kernel_rfl) allP_nil ?_
   obtain ⟨r817, hr817, h⟩ := bind_sx h
   refine run_call 26 [.ifc 60 (.sl t.length (fl t)), iS done] (some 26) (by kernel_rfl) ?_
   refine call_0 (linear_key_spec t done r817 hr817) (by simp only [push_cast, seval]) (by simp only [push_cast, seval]) ?_
   refine back_f ?_
   refine rs 2 [] [] (by kernel_rfl) allP_nil ?_
   refine rf [(0, .ptr 0 0), (1, .ifc 60 (.sl t.length (fl t))), (2, iS done), (7, .ptr 3 0)] [(0, .row 47 [.sl c0_calls.length (fl c0_calls), .mp 1, .own 2 0 c2.length]), (1, .map (mE c1)), (2, .row 3 (fl c2)), (3, .row 58 (Enc.cells r817))] 4 (by kernel_rfl) ?_
   refine wk_id ?_
   refine seq_np ?_
   refine seq_np ?_
   refine reg_t ?_
   refine rs 7 [none, none, none, none, none, some ⟨iS (meGet c1 r817), [], 9, [1]⟩] _ (by kernel_rfl) (allP_cons (ob_lookE (K := place) r817 _ rfl c1 1 9) allP_nil) ?_
   refine rt [(0, .ptr 0 0), (1, .ifc 60 (.sl t.length (fl t))), (2, iS done), (7, .ptr 3 0), (33, bS (decide ((0 : Int) < (meGet c1 r817))))] [(0, .row 47 [.sl c0_calls.length (fl c0_calls), .mp 1, .own 2 0 c2.length]), (1, .map (mE c1)), (2, .row 3 (fl c2)), (3, .row 58 (Enc.cells r817))] 11 follows (by kernel_rfl) ?_
   refine wk_id ?_
   refine cond_sx h (by kernel_rfl) (fun g1124 h => ?_) (fun g1124 h => ?_)
   ·refine seq_np ?_
    refine reg_f ?_
    refine rs 1 [] [] (by kernel_rfl) allP_nil ?_
    refine rf [(6, bS false)] [(0, .row 47 [.sl c0_calls.length (fl c0_calls), .mp 1, .own 2 0 c2.length]), (1, .map (mE c1)), (2, .row 3 (fl c2)), (3, .row 58 (Enc.cells r817))] 11 (by kernel_rfl) ?_
    refine wk_id ?_
    obtain rfl := Option.some.inj h
    refine ret_at (bS false) (by kernel_rfl) ?_
    exact ret_e [(0, 0), (1, 1), (3, 2)] [] (by simp only [push_cast, seval]) (by simp only [push_cast, seval]) rfl rfl rfl
   ·refine wk_id ?_
    refine seq_np ?_
    refine reg_f ?_
    refine rs 1 [] [] (by kernel_rfl) allP_nil ?_
    refine rf [(0, .ptr 0 0), (1, .ifc 60 (.sl t.length (fl t))), (2, iS done), (7, .ptr 3 0), (8, iS 1000000001)] [(0, .row 47 [.sl c0_calls.length (fl c0_calls), .mp 1, .own 2 0 c2.length]), (1, .map (mE c1)), (2, .row 3 (fl c2)), (3, .row 58 (Enc.cells r817))] 11 (by kernel_rfl) ?_
    refine wk_id ?_
    refine seq_np ?_
    refine seq_np ?_
    refine reg_f ?_
    refine rs 6 [] [] (by kernel_rfl) allP_nil ?_
    refine rf [(0, .ptr 0 0), (1, .ifc 60 (.sl t.length (fl t))), (2, iS done), (7, .ptr 3 0), (8, iS 1000000001), (37, .sl c0_calls.length (fl c0_calls)), (38, iS ((c0_calls.length : Nat) : Int)), (39, iS 0)] [(0, .row 47 [.sl c0_calls.length (fl c0_calls), .mp 1, .own 2 0 c2.length]), (1, .map (mE c1)), (2, .row 3 (fl c2)), (3, .row 58 (Enc.cells r817))] 11 (by kernel_rfl) ?_
    refine wk_id ?_
    refine block_np ?_
    refine loop_sx (S := Int × Int × place) (fun a => ([(0, .ptr 0 0), (1, .ifc 60 (.sl t.length (fl t))), (2, iS done), (7, .ptr 3 0), (8, iS a.1), (37, .sl c0_calls.length (fl c0_calls)), (38, iS ((c0_calls.length : Nat) : Int)), (39, iS a.2.1)], [(0, .row 47 [.sl c0_calls.length (fl c0_calls), .mp 1, .own 2 0 c2.length]), (1, .map (mE c1)), (2, .row 3 (fl c2)), (3, .row 58 (Enc.cells a.2.2))], 4)) h (leSt_m [(0, 0), (1, 1), (2, 2), (3, 3)] [] (by simp only [push_cast, seval]) (by simp only [push_cast, seval]) rfl rfl rfl) ?_
    rintro ⟨xend18, t39q7, c3q12⟩ o3 R3 h hr3 hn3 hx3 ht3
    try dsimp only at h hn3 ⊢
    unfold linear_search_from_l2 at h
    try dsimp only at h
    refine seq_np ?_
    refine reg_f ?_
    refine rs 1 [] [] (by kernel_rfl) allP_nil ?_
    refine rf [(0, .ptr 0 0), (1, .ifc 60 (.sl t.length (fl t))), (2, iS done), (7, .ptr 3 0), (8, iS xend18), (37, .sl c0_calls.length (fl c0_calls)), (38, iS ((c0_calls.length : Nat) : Int)), (39, iS t39q7), (40, bS (decide (t39q7 < ((c0_calls.length : Nat) : Int))))] [(0, .row 47 [.sl c0_calls.length (fl c0_calls), .mp 1, .own 2 0 c2.length]), (1, .map (mE c1)), (2, .row 3 (fl c2)), (3, .row 58 (Enc.cells c3q12))] 4 (by kernel_rfl) ?_
    refine wk_id ?_
    refine seq_np ?_
    refine cond_sx h (by kernel_rfl) (fun g1123 h => ?_) (fun g1123 h => ?_)
    ·refine wk_id ?_
     refine seq_np ?_
     refine block_cut (A := Int) (fun a => ([(0, .ptr 0 0), (1, .ifc 60 (.sl t.length (fl t))), (2, iS done), (7, .ptr 3 0), (8, iS a), (37, .sl c0_calls.length (fl c0_calls)), (38, iS ((c0_calls.length : Nat) : Int)), (39, iS t39q7)], [(0, .row 47 [.sl c0_calls.length (fl c0_calls), .mp 1, .own 2 0 c2.length]), (1, .map (mE c1)), (2, .row 3 (fl c2)), (3, .row 58 (Enc.cells c3q12))], 4)) (fun a => (linear_search_from_j1 t done c0_calls c2 c1 t39q7 c3q12 a) = some o3) (fun K894 hK894 => ?_) ?_
     ·refine chk_sx h (fun g898 h => ?_)
      refine seq_np ?_
      refine reg_f ?_
      have k897 : 0 ≤ t39q7 ∧ t39q7 < ((c0_calls.length : Nat) : Int) := by first | simpa only [Bool.and_eq_true, decide_eq_true_eq, bne_iff_ne, ne_eq] using g898 | (simp at g898 ⊢; omega)
      refine rs 6 [none, some ⟨.iptr (fl c0_calls) ((t39q7).toNat * 7), [], 4, []⟩, some ⟨.agg (Enc.cells (ix c0_calls t39q7)), [], 4, []⟩] _ (by kernel_rfl) (allP_cons (ob_ldw c0_calls t39q7 7 ((t39q7).toNat * 7) k897 rfl (by first | rfl | omega) (Enc.cells (ix c0_calls t39q7)) rfl 4 []) (allP_cons (ob_ix_l c0_calls 7 4 t39q7 k897) allP_nil)) ?_
      refine rf [(0, .ptr 0 0), (1, .ifc 60 (.sl t.length (fl t))), (2, iS done), (7, .ptr 3 0), (8, iS xend18), (9, iS t39q7), (10, .ptr 4 0), (37, .sl c0_calls.length (fl c0_calls)), (38, iS ((c0_calls.length : Nat) : Int)), (39, iS t39q7)] [(0, .row 47 [.sl c0_calls.length (fl c0_calls), .mp 1, .own 2 0 c2.length]), (1, .map (mE c1)), (2, .row 3 (fl c2)), (3, .row 58 (Enc.cells c3q12)), (4, .row 36 (Enc.cells (ix c0_calls t39q7)))] 5 (by kernel_rfl) ?_
      refine wk_id ?_
      refine chk_sx h (fun g902 h => ?_)
      refine seq_np ?_
      refine reg_f ?_
      have k901 : 0 ≤ t39q7 := by first | simpa only [Bool.and_eq_true, decide_eq_true_eq, bne_iff_ne, ne_eq] using g902 | (simp at g902 ⊢; omega)
      refine rs 5 [none, none, some ⟨iS (Int.fdiv done (2 ^ (min (t39q7).toNat (IntKind.i64).bits))), [], 5, []⟩] _ (by kernel_rfl) (allP_cons (ob_p (v := iS (Int.fdiv done (2 ^ (min (t39q7).toNat (IntKind.i64).bits)))) (nx := 5) (r := []) k901) allP_nil) ?_
      refine rf [(0, .ptr 0 0), (1, .ifc 60 (.sl t.length (fl t))), (2, iS done), (7, .ptr 3 0), (8, iS xend18), (10, .ptr 4 0), (37, .sl c0_calls.length (fl c0_calls)), (38, iS ((c0_calls.length : Nat) : Int)), (39, iS t39q7), (48, bS ((IntKind.i64.wrap (((BitVec.ofInt (IntKind.i64).bits (Int.fdiv done (2 ^ (min (t39q7).toNat (IntKind.i64).bits))) &&& BitVec.ofInt (IntKind.i64).bits 1).toNat : Nat) : Int)) == 0))] [(0, .row 47 [.sl c0_calls.length (fl c0_calls), .mp 1, .own 2 0 c2.length]), (1, .map (mE c1)), (2, .row 3 (fl c2)), (3, .row 58 (Enc.cells c3q12)), (4, .row 36 (Enc.cells (ix c0_calls t39q7)))] 5 (by kernel_rfl) ?_
      refine wk_id ?_
      refine cond_sx h (by kernel_rfl) (fun g903 h => ?_) (fun g903 h => ?_)
      ·refine reg_f ?_
       refine rs 5 [] [] (by kernel_rfl) allP_nil ?_
       refine rf [(0, .ptr 0 0), (1, .ifc 60 (.sl t.length (fl t))), (2, iS done), (7, .ptr 3 0), (8, iS (min xend18 (ix c0_calls t39q7).End)), (37, .sl c0_calls.length (fl c0_calls)), (38, iS ((c0_calls.length : Nat) : Int)), (39, iS t39q7)] [(0, .row 47 [.sl c0_calls.length (fl c0_calls), .mp 1, .own 2 0 c2.length]), (1, .map (mE c1)), (2, .row 3 (fl c2)), (3, .row 58 (Enc.cells c3q12)), (4, .row 36 (Enc.cells (ix c0_calls t39q7)))] 5 (by kernel_rfl) ?_
       exact hK894 ((min xend18 (ix c0_calls t39q7).End)) _ _ _ h (leSt_m [(0, 0), (1, 1), (2, 2), (3, 3)] [] (by simp only [push_cast, seval]) (by simp only [push_cast, seval]) rfl rfl rfl)
      ·exact hK894 (xend18) _ _ _ h (leSt_m [(0, 0), (1, 1), (2, 2), (3, 3)] [] (by simp only [push_cast, seval]) (by simp only [push_cast, seval]) rfl rfl rfl)
     ·rintro xend20 h
      try dsimp only at h ⊢
      unfold linear_search_from_j1 at h
      refine wk_id ?_
      refine reg_f ?_
      refine rs 2 [] [] (by kernel_rfl) allP_nil ?_
      refine rf [(0, .ptr 0 0), (1, .ifc 60 (.sl t.length (fl t))), (2, iS done), (7, .ptr 3 0), (8, iS xend20), (37, .sl c0_calls.length (fl c0_calls)), (38, iS ((c0_calls.length : Nat) : Int)), (39, iS (IntKind.i64.wrap (t39q7 + 1)))] [(0, .row 47 [.sl c0_calls.length (fl c0_calls), .mp 1, .own 2 0 c2.length]), (1, .map (mE c1)), (2, .row 3 (fl c2)), (3, .row 58 (Enc.cells c3q12))] 4 (by kernel_rfl) ?_
      exact hn3 (xend20, (IntKind.i64.wrap (t39q7 + 1)), c3q12) _ _ _ (Option.some.inj h).symm (leSt_m [(0, 0), (1, 1), (2, 2), (3, 3)] [] (by simp only [push_cast, seval]) (by simp only [push_cast, seval]) rfl rfl rfl)
    ·change R3 (.exit 0) _ _ _
     refine ex_cast hx3 (id := 0) ?_
     obtain ⟨r0, h, e0⟩ := map_sx h
     have e1 := hr3 r0 e0.symm
     subst r0
     refine wk_id ?_
     refine wk_id ?_
     refine seq_np ?_
     refine seq_np ?_
     refine reg_f ?_
     refine rs 6 [] [] (by kernel_rfl) allP_nil ?_
     refine rf [(0, .ptr 0 0), (1, .ifc 60 (.sl t.length (fl t))), (2, iS done), (7, .ptr 3 0), (8, iS xend18), (57, .sl c0_calls.length (fl c0_calls)), (58, iS ((c0_calls.length : Nat) : Int)), (59, iS 0)] [(0, .row 47 [.sl c0_calls.length (fl c0_calls), .mp 1, .own 2 0 c2.length]), (1, .map (mE c1)), (2, .row 3 (fl c2)), (3, .row 58 (Enc.cells c3q12))] 4 (by kernel_rfl) ?_
     refine wk_id ?_
     refine block_np ?_
     refine loop_sx (S := Int × (List GCall) × (List (place × Int)) × (List Int)) (fun a => ([(0, .ptr 0 0), (1, .ifc 60 (.sl t.length (fl t))), (2, iS done), (7, .ptr 3 0), (8, iS xend18), (57, .sl c0_calls.length (fl c0_calls)), (58, iS ((c0_calls.length : Nat) : Int)), (59, iS a.1)], [(0, .row 47 [.sl a.2.1.length (fl a.2.1), .mp 1, .own 4 0 a.2.2.2.length]), (1, .map (mE a.2.2.1)), (2, .dead), (3, .row 58 (Enc.cells c3q12)), (4, .row 3 (fl a.2.2.2))], 5)) h (leSt_m [(0, 0), (1, 1), (3, 3), (4, 2)] [] (by simp only [push_cast, seval]) (by simp only [push_cast, seval]) rfl rfl rfl) ?_
     rintro ⟨t59q7, c0_calls20, c1q20, c4q18⟩ o4 R4 h hr4 hn4 hx4 ht4
     try dsimp only at h hn4 ⊢
     unfold linear_search_from_l1 at h
     try dsimp only at h
     refine seq_np ?_
     refine reg_f ?_
     refine rs 1 [] [] (by kernel_rfl) allP_nil ?_
     refine rf [(0, .ptr 0 0), (1, .ifc 60 (.sl t.length (fl t))), (2, iS done), (7, .ptr 3 0), (8, iS xend18), (57, .sl c0_calls.length (fl c0_calls)), (58, iS ((c0_calls.length : Nat) : Int)), (59, iS t59q7), (60, bS (decide (t59q7 < ((c0_calls.length : Nat) : Int))))] [(0, .row 47 [.sl c0_calls20.length (fl c0_calls20), .mp 1, .own 4 0 c4q18.length]), (1, .map (mE c1q20)), (2, .dead), (3, .row 58 (Enc.cells c3q12)), (4, .row 3 (fl c4q18))] 5 (by kernel_rfl) ?_
     refine wk_id ?_
     refine seq_np ?_
     refine cond_sx h (by kernel_rfl) (fun g1122 h => ?_) (fun g1122 h => ?_)
     ·refine wk_id ?_
      refine seq_np ?_
      refine block_cut (A := (List GCall) × (List (place × Int)) × (List Int)) (fun a => ([(0, .ptr 0 0), (1, .ifc 60 (.sl t.length (fl t))), (2, iS done), (7, .ptr 3 0), (8, iS xend18), (57, .sl c0_calls.length (fl c0_calls)), (58, iS ((c0_calls.length : Nat) : Int)), (59, iS t59q7)], [(0, .row 47 [.sl a.1.length (fl a.1), .mp 1, .own 4 0 a.2.2.length]), (1, .map (mE a.2.1)), (2, .dead), (3, .row 58 (Enc.cells c3q12)), (4, .row 3 (fl a.2.2))], 5)) (fun a => (linear_search_from_j2 t done c0_calls xend18 c3q12 t59q7 a.1 a.2.1 a.2.2) = some o4) (fun K1083 hK1083 => ?_) ?_
      ·refine chk_sx h (fun g1087 h => ?_)
       refine seq_np ?_
       refine reg_f ?_
       have k1086 : 0 ≤ t59q7 ∧ t59q7 < ((c0_calls.length : Nat) : Int) := by first | simpa only [Bool.and_eq_true, decide_eq_true_eq, bne_iff_ne, ne_eq] using g1087 | (simp at g1087 ⊢; omega)
       refine rs 6 [none, some ⟨.iptr (fl c0_calls) ((t59q7).toNat * 7), [], 5, []⟩, some ⟨.agg (Enc.cells (ix c0_calls t59q7)), [], 5, []⟩] _ (by kernel_rfl) (allP_cons (ob_ldw c0_calls t59q7 7 ((t59q7).toNat * 7) k1086 rfl (by first | rfl | omega) (Enc.cells (ix c0_calls t59q7)) rfl 5 []) (allP_cons (ob_ix_l c0_calls 7 5 t59q7 k1086) allP_nil)) ?_
       refine rf [(0, .ptr 0 0), (1, .ifc 60 (.sl t.length (fl t))), (2, iS done), (7, .ptr 3 0), (8, iS xend18), (11, iS t59q7), (12, .ptr 5 0), (57, .sl c0_calls.length (fl c0_calls)), (58, iS ((c0_calls.length : Nat) : Int)), (59, iS t59q7)] [(0, .row 47 [.sl c0_calls20.length (fl c0_calls20), .mp 1, .own 4 0 c4q18.length]), (1, .map (mE c1q20)), (2, .dead), (3, .row 58 (Enc.cells c3q12)), (4, .row 3 (fl c4q18)), (5, .row 36 (Enc.cells (ix c0_calls t59q7)))] 6 (by kernel_rfl) ?_
       refine wk_id ?_
       refine seq_np ?_
       refine chk_sx h (fun g1097 h => ?_)
       refine seq_cut (A := Unit) (fun _ => ([(0, .ptr 0 0), (1, .ifc 60 (.sl t.length (fl t))), (2, iS done), (7, .ptr 3 0), (8, iS xend18), (11, iS t59q7), (12, .ptr 5 0), (57, .sl c0_calls.length (fl c0_calls)), (58, iS ((c0_calls.length : Nat) : Int)), (59, iS t59q7), (74, bS (((IntKind.i64.wrap (((BitVec.ofInt (IntKind.i64).bits (Int.fdiv done (2 ^ (min (t59q7).toNat (IntKind.i64).bits))) &&& BitVec.ofInt (IntKind.i64).bits 1).toNat : Nat) : Int)) == 1) || (decide (xend18 < (ix c0_calls t59q7).Begin))))], [(0, .row 47 [.sl c0_calls20.length (fl c0_calls20), .mp 1, .own 4 0 c4q18.length]), (1, .map (mE c1q20)), (3, .row 58 (Enc.cells c3q12)), (4, .row 3 (fl c4q18)), (5, .row 36 (Enc.cells (ix c0_calls t59q7)))], 6)) (fun _ => True) (fun K1095 hK1095 => ?_) (fun _ _ => ?_)
       ·refine reg_f ?_
        have k1096 : 0 ≤ t59q7 := by first | simpa only [Bool.and_eq_true, decide_eq_true_eq, bne_iff_ne, ne_eq] using g1097 | (simp at g1097 ⊢; omega)
        refine rs 6 [none, none, some ⟨iS (Int.fdiv done (2 ^ (min (t59q7).toNat (IntKind.i64).bits))), [], 6, []⟩] _ (by kernel_rfl) (allP_cons (ob_p (v := iS (Int.fdiv done (2 ^ (min (t59q7).toNat (IntKind.i64).bits)))) (nx := 6) (r := []) k1096) allP_nil) ?_
        refine run_split 69 ((IntKind.i64.wrap (((BitVec.ofInt (IntKind.i64).bits (Int.fdiv done (2 ^ (min (t59q7).toNat (IntKind.i64).bits))) &&& BitVec.ofInt (IntKind.i64).bits 1).toNat : Nat) : Int)) == 1) (.inl (by kernel_rfl)) (fun g1098 => ?_) (fun g1098 => ?_)
        ·refine rs 5 [] [] (by kernel_rfl) allP_nil ?_
         refine rf [(0, .ptr 0 0), (1, .ifc 60 (.sl t.length (fl t))), (2, iS done), (7, .ptr 3 0), (8, iS xend18), (11, iS t59q7), (12, .ptr 5 0), (57, .sl c0_calls.length (fl c0_calls)), (58, iS ((c0_calls.length : Nat) : Int)), (59, iS t59q7), (74, bS true)] [(0, .row 47 [.sl c0_calls20.length (fl c0_calls20), .mp 1, .own 4 0 c4q18.length]), (1, .map (mE c1q20)), (2, .dead), (3, .row 58 (Enc.cells c3q12)), (4, .row 3 (fl c4q18)), (5, .row 36 (Enc.cells (ix c0_calls t59q7)))] 6 (by kernel_rfl) ?_
         exact hK1095 () _ _ _ trivial (leSt_m [(0, 0), (1, 1), (3, 3), (4, 4), (5, 5)] [] (by (try simp only [g1098]) <;> simp only [push_cast, seval]) (by (try simp only [g1098]) <;> simp only [push_cast, seval]) rfl rfl rfl)
        ·refine rs 5 [] [] (by kernel_rfl) allP_nil ?_
         refine rf [(0, .ptr 0 0), (1, .ifc 60 (.sl t.length (fl t))), (2, iS done), (7, .ptr 3 0), (8, iS xend18), (11, iS t59q7), (12, .ptr 5 0), (57, .sl c0_calls.length (fl c0_calls)), (58, iS ((c0_calls.length : Nat) : Int)), (59, iS t59q7), (74, bS (decide (xend18 < (ix c0_calls t59q7).Begin)))] [(0, .row 47 [.sl c0_calls20.length (fl c0_calls20), .mp 1, .own 4 0 c4q18.length]), (1, .map (mE c1q20)), (2, .dead), (3, .row 58 (Enc.cells c3q12)), (4, .row 3 (fl c4q18)), (5, .row 36 (Enc.cells (ix c0_calls t59q7)))] 6 (by kernel_rfl) ?_
         exact hK1095 () _ _ _ trivial (leSt_m [(0, 0), (1, 1), (3, 3), (4, 4), (5, 5)] [] (by (try simp only [g1098]) <;> simp only [push_cast, seval]) (by (try simp only [g1098]) <;> simp only [push_cast, seval]) rfl rfl rfl)
       ·dsimp only
        refine cond_sx h (by kernel_rfl) (fun g1121 h => ?_) (fun g1121 h => ?_)
        ·exact hK1083 (c0_calls20, c1q20, c4q18) _ _ _ h (leSt_m [(0, 0), (1, 1), (3, 3), (4, 4)] [] (by simp only [push_cast, seval]) (by simp only [push_cast, seval]) rfl rfl rfl)
        ·refine wk_id ?_
         refine seq_np ?_
         refine reg_f ?_
         refine rs 2 [] [] (by kernel_rfl) allP_nil ?_
         obtain ⟨r1100, hr1100, h⟩ := bind_sx h
         refine call_xI (linear_queue_do_spec t (ix c0_calls t59q7) r1100 hr1100) (args := [.sl t.length (fl t), .agg (Enc.cells (ix c0_calls t59q7))]) (dst := (some 78)) (by kernel_rfl) [(0, .row 47 [.sl c0_calls20.length (fl c0_calls20), .mp 1, .own 4 0 c4q18.length]), (1, .map (mE c1q20)), (3, .row 58 (Enc.cells c3q12)), (4, .row 3 (fl c4q18)), (5, .row 36 (Enc.cells (ix c0_calls t59q7)))] 6 (by kernel_rfl) [] [] (.tup [.ifc 60 (.sl r1100.1.length (fl r1100.1)), bS r1100.2]) [] (by simp only [push_cast, seval]) (by simp only [push_cast, seval]) (by kernel_rfl) (.inl rfl) (by simp only [push_cast, seval]) (by simp only [push_cast, seval]) ?_
         refine rs 5 [] [] (by kernel_rfl) allP_nil ?_
         refine rf [(0, .ptr 0 0), (1, .ifc 60 (.sl t.length (fl t))), (2, iS done), (7, .ptr 3 0), (8, iS xend18), (11, iS t59q7), (13, .ifc 60 (.sl r1100.1.length (fl r1100.1))), (14, bS r1100.2), (57, .sl c0_calls.length (fl c0_calls)), (58, iS ((c0_calls.length : Nat) : Int)), (59, iS t59q7)] [(0, .row 47 [.sl c0_calls20.length (fl c0_calls20), .mp 1, .own 4 0 c4q18.length]), (1, .map (mE c1q20)), (3, .row 58 (Enc.cells c3q12)), (4, .row 3 (fl c4q18)), (5, .row 36 (Enc.cells (ix c0_calls t59q7)))] 6 (by kernel_rfl) ?_
         refine wk_id ?_
         refine seq_np ?_
         refine reg_f ?_
         refine rs 1 [] [] (by kernel_rfl) allP_nil ?_
         refine rf [(0, .ptr 0 0), (1, .ifc 60 (.sl t.length (fl t))), (2, iS done), (7, .ptr 3 0), (8, iS xend18), (11, iS t59q7), (13, .ifc 60 (.sl r1100.1.length (fl r1100.1))), (57, .sl c0_calls.length (fl c0_calls)), (58, iS ((c0_calls.length : Nat) : Int)), (59, iS t59q7), (81, bS r1100.2)] [(0, .row 47 [.sl c0_calls20.length (fl c0_calls20), .mp 1, .own 4 0 c4q18.length]), (1, .map (mE c1q20)), (3, .row 58 (Enc.cells c3q12)), (4, .row 3 (fl c4q18)), (5, .row 36 (Enc.cells (ix c0_calls t59q7)))] 6 (by kernel_rfl) ?_
         refine wk_id ?_
         refine cond_sx h (by kernel_rfl) (fun g1120 h => ?_) (fun g1120 h => ?_)
         ·refine chk_sx h (fun g1104 h => ?_)
          refine seq_np ?_
          refine reg_f ?_
          have k1103 : (c4q18 ++ ([t59q7] : List Int)).length * 8 ≤ 140737488355328 := by first | simpa only [Bool.and_eq_true, decide_eq_true_eq, bne_iff_ne, ne_eq] using g1104 | (simp at g1104 ⊢; omega)
          refine rs 11 [none, none, none, none, none, none, none, some ⟨.own 7 0 (c4q18 ++ ([t59q7] : List Int)).length, [(7, .row 3 (fl (c4q18 ++ ([t59q7] : List Int)))), (4, .dead)], 8, [4, 6]⟩] _ (by kernel_rfl) (allP_cons (ob_app (P := Try.prog) c4q18 ([t59q7] : List Int) 1 8 rfl (appCells (fl ([t59q7] : List Int)) 0 (([t59q7] : List Int).length * 1)) ([t59q7] : List Int).length (app_own ([t59q7] : List Int) 1 rfl) rfl (0 + ([t59q7] : List Int).length * 1 ≤ (fl ([t59q7] : List Int)).length) (app_own_le ([t59q7] : List Int) 1 rfl) 3 (by kernel_rfl) (by decide) k1103 4 7 [6]) allP_nil) ?_
          refine rf [(0, .ptr 0 0), (1, .ifc 60 (.sl t.length (fl t))), (2, iS done), (7, .ptr 3 0), (8, iS xend18), (11, iS t59q7), (13, .ifc 60 (.sl r1100.1.length (fl r1100.1))), (57, .sl c0_calls.length (fl c0_calls)), (58, iS ((c0_calls.length : Nat) : Int)), (59, iS t59q7)] [(0, .row 47 [.sl c0_calls20.length (fl c0_calls20), .mp 1, .own 7 0 (c4q18 ++ ([t59q7] : List Int)).length]), (1, .map (mE c1q20)), (3, .row 58 (Enc.cells c3q12)), (4, .dead), (5, .row 36 (Enc.cells (ix c0_calls t59q7))), (6, .row 3 (fl ([t59q7] : List Int))), (7, .row 3 (fl (c4q18 ++ ([t59q7] : List Int))))] 8 (by kernel_rfl) ?_
          refine wk_id ?_
          refine seq_np ?_
          refine chk_sx h (fun g1113 h => ?_)
          refine seq_np ?_
          refine reg_f ?_
          have k1112 : 0 ≤ t59q7 := by first | simpa only [Bool.and_eq_true, decide_eq_true_eq, bne_iff_ne, ne_eq] using g1113 | (simp at g1113 ⊢; omega)
          refine rs 6 [none, none, none, none, some ⟨iS (IntKind.i64.wrap ((1 : Int) * 2 ^ (min (t59q7).toNat (IntKind.i64).bits))), [], 8, []⟩] _ (by kernel_rfl) (allP_cons (ob_p (v := iS (IntKind.i64.wrap ((1 : Int) * 2 ^ (min (t59q7).toNat (IntKind.i64).bits)))) (nx := 8) (r := []) k1112) allP_nil) ?_
          obtain ⟨r1114, hr1114, h⟩ := bind_sx h
          refine call_x (ih r1100.1 (IntKind.i64.wrap (((BitVec.ofInt (IntKind.i64).bits done ||| BitVec.ofInt (IntKind.i64).bits (IntKind.i64.wrap ((1 : Int) * 2 ^ (min (t59q7).toNat (IntKind.i64).bits)))).toNat : Nat) : Int)) c0_calls20 (c4q18 ++ ([t59q7] : List Int)) c1q20 r1114 hr1114) (args := [.ptr 0 0, .ifc 60 (.sl r1100.1.length (fl r1100.1)), iS (IntKind.i64.wrap (((BitVec.ofInt (IntKind.i64).bits done ||| BitVec.ofInt (IntKind.i64).bits (IntKind.i64.wrap ((1 : Int) * 2 ^ (min (t59q7).toNat (IntKind.i64).bits)))).toNat : Nat) : Int))]) (dst := (some 98)) (by kernel_rfl) [(0, .row 47 [.sl c0_calls20.length (fl c0_calls20), .mp 1, .own 7 0 (c4q18 ++ ([t59q7] : List Int)).length]), (1, .map (mE c1q20)), (3, .row 58 (Enc.cells c3q12)), (4, .dead), (5, .row 36 (Enc.cells (ix c0_calls t59q7))), (6, .row 3 (fl ([t59q7] : List Int))), (7, .row 3 (fl (c4q18 ++ ([t59q7] : List Int))))] 8 (by kernel_rfl) [(0, 0), (1, 1), (2, 7)] [] (bS r1114.1) [(0, .row 47 [.sl r1114.2.1.length (fl r1114.2.1), .mp 1, .own 11 0 r1114.2.2.1.length]), (1, .map (mE r1114.2.2.2)), (7, .dead), (11, .row 3 (fl r1114.2.2.1)), (0, .dead), (1, .dead), (7, .dead)] (by simp only [push_cast, seval]) (by simp only [push_cast, seval]) (by kernel_rfl) (.inl rfl) (by simp only [push_cast, seval]) (by simp only [push_cast, seval]) ?_
          refine rf [(0, .ptr 0 0), (1, .ifc 60 (.sl t.length (fl t))), (2, iS done), (7, .ptr 3 0), (8, iS xend18), (57, .sl c0_calls.length (fl c0_calls)), (58, iS ((c0_calls.length : Nat) : Int)), (59, iS t59q7), (98, bS r1114.1)] [(0, .row 47 [.sl r1114.2.1.length (fl r1114.2.1), .mp 1, .own 11 0 r1114.2.2.1.length]), (1, .map (mE r1114.2.2.2)), (3, .row 58 (Enc.cells c3q12)), (4, .dead), (5, .row 36 (Enc.cells (ix c0_calls t59q7))), (6, .row 3 (fl ([t59q7] : List Int))), (7, .dead), (11, .row 3 (fl r1114.2.2.1))] 12 (by kernel_rfl) ?_
          refine wk_id ?_
          refine cond_sx h (by kernel_rfl) (fun g1119 h => ?_) (fun g1119 h => ?_)
          ·refine seq_np ?_
           refine reg_f ?_
           refine rs 1 [] [] (by kernel_rfl) allP_nil ?_
           refine rf [(6, bS true)] [(0, .row 47 [.sl r1114.2.1.length (fl r1114.2.1), .mp 1, .own 11 0 r1114.2.2.1.length]), (1, .map (mE r1114.2.2.2)), (3, .row 58 (Enc.cells c3q12)), (4, .dead), (5, .row 36 (Enc.cells (ix c0_calls t59q7))), (6, .row 3 (fl ([t59q7] : List Int))), (7, .dead), (11, .row 3 (fl r1114.2.2.1))] 12 (by kernel_rfl) ?_
           refine wk_id ?_
           refine rt_cast ht4 ?_
           obtain ⟨r0, h, e0⟩ := map_sx h
           have e1 := hr4 r0 e0.symm
           subst r0
           obtain rfl := Option.some.inj h
           refine ret_at (bS true) (by kernel_rfl) ?_
           exact ret_e [(0, 0), (1, 1), (3, 11)] [] (by simp only [push_cast, seval]) (by simp only [push_cast, seval]) rfl rfl rfl
          ·refine wk_id ?_
           refine chk_sx h (fun g1118 h => ?_)
           refine reg_t ?_
           have k1117 : 0 ≤ (0 : Int) ∧ (0 : Int) ≤ (IntKind.i64.wrap (((r1114.2.2.1.length : Nat) : Int) - 1)) ∧ (IntKind.i64.wrap (((r1114.2.2.1.length : Nat) : Int) - 1)) ≤ ((r1114.2.2.1.length : Nat) : Int) := by first | simpa only [Bool.and_eq_true, decide_eq_true_eq, bne_iff_ne, ne_eq] using g1118 | (simp at g1118 ⊢; omega)
           refine rs 11 [] [] (by kernel_rfl) allP_nil ?_
           refine run_cutO r1114.2.2.1 (some 110) 11 1 3 (0 : Int) (IntKind.i64.wrap (((r1114.2.2.1.length : Nat) : Int) - 1)) (by kernel_rfl) rfl k1117 ?_
           refine rs 3 [] [] (by kernel_rfl) allP_nil ?_
           refine rt [(0, .ptr 0 0), (1, .ifc 60 (.sl t.length (fl t))), (2, iS done), (7, .ptr 3 0), (8, iS xend18), (57, .sl c0_calls.length (fl c0_calls)), (58, iS ((c0_calls.length : Nat) : Int)), (59, iS t59q7)] [(0, .row 47 [.sl r1114.2.1.length (fl r1114.2.1), .mp 1, .own 23 0 (cut r1114.2.2.1 (0 : Int) (IntKind.i64.wrap (((r1114.2.2.1.length : Nat) : Int) - 1))).length]), (1, .map (mE r1114.2.2.2)), (3, .row 58 (Enc.cells c3q12)), (4, .dead), (5, .row 36 (Enc.cells (ix c0_calls t59q7))), (6, .row 3 (fl ([t59q7] : List Int))), (7, .dead), (11, .dead), (23, .row 3 (fl (cut r1114.2.2.1 (0 : Int) (IntKind.i64.wrap (((r1114.2.2.1.length : Nat) : Int) - 1)))))] 28 follows (by kernel_rfl) ?_
           exact hK1083 (r1114.2.1, r1114.2.2.2, (cut r1114.2.2.1 (0 : Int) (IntKind.i64.wrap (((r1114.2.2.1.length : Nat) : Int) - 1)))) _ _ _ h (leSt_m [(0, 0), (1, 1), (3, 3), (4, 23)] [] (by simp only [push_cast, seval]) (by simp only [push_cast, seval]) rfl rfl rfl)
         ·exact hK1083 (c0_calls20, c1q20, c4q18) _ _ _ h (leSt_m [(0, 0), (1, 1), (3, 3), (4, 4)] [] (by simp only [push_cast, seval]) (by simp only [push_cast, seval]) rfl rfl rfl)
      ·rintro ⟨c0_calls22, c1q22, c4q20⟩ h
       try dsimp only at h ⊢
       unfold linear_search_from_j2 at h
       refine wk_id ?_
       refine reg_f ?_
       refine rs 2 [] [] (by kernel_rfl) allP_nil ?_
       refine rf [(0, .ptr 0 0), (1, .ifc 60 (.sl t.length (fl t))), (2, iS done), (7, .ptr 3 0), (8, iS xend18), (57, .sl c0_calls.length (fl c0_calls)), (58, iS ((c0_calls.length : Nat) : Int)), (59, iS (IntKind.i64.wrap (t59q7 + 1)))] [(0, .row 47 [.sl c0_calls22.length (fl c0_calls22), .mp 1, .own 4 0 c4q20.length]), (1, .map (mE c1q22)), (2, .dead), (3, .row 58 (Enc.cells c3q12)), (4, .row 3 (fl c4q20))] 5 (by kernel_rfl) ?_
       exact hn4 ((IntKind.i64.wrap (t59q7 + 1)), c0_calls22, c1q22, c4q20) _ _ _ (Option.some.inj h).symm (leSt_m [(0, 0), (1, 1), (3, 3), (4, 4)] [] (by simp only [push_cast, seval]) (by simp only [push_cast, seval]) rfl rfl rfl)
     ·change R4 (.exit 2) _ _ _
      refine ex_cast hx4 (id := 2) ?_
      obtain ⟨r0, h, e0⟩ := map_sx h
      have e1 := hr4 r0 e0.symm
      subst r0
      refine wk_id ?_
      refine wk_id ?_
      refine seq_np ?_
      refine reg_t ?_
      refine rs 6 [none, none, none, none, none, some ⟨.any, [(1, .map (mE (meSet c1q20 c3q12 1)))], 10, [1]⟩] _ (by kernel_rfl) (allP_cons (ob_msetE (K := place) c3q12 _ rfl 1 c1q20 1 10) allP_nil) ?_
      refine rt [] [(0, .row 47 [.sl c0_calls20.length (fl c0_calls20), .mp 1, .own 4 0 c4q18.length]), (1, .map (mE (meSet c1q20 c3q12 1))), (2, .dead), (3, .row 58 (Enc.cells c3q12)), (4, .row 3 (fl c4q18))] 11 follows (by kernel_rfl) ?_
      refine wk_id ?_
      refine seq_np ?_
      refine reg_f ?_
      refine rs 1 [] [] (by kernel_rfl) allP_nil ?_
      refine rf [(6, bS false)] [(0, .row 47 [.sl c0_calls20.length (fl c0_calls20), .mp 1, .own 4 0 c4q18.length]), (1, .map (mE (meSet c1q20 c3q12 1))), (2, .dead), (3, .row 58 (Enc.cells c3q12)), (4, .row 3 (fl c4q18))] 11 (by kernel_rfl) ?_
      refine wk_id ?_
      obtain rfl := Option.some.inj h
      refine ret_at (bS false) (by kernel_rfl) ?_
      exact ret_e [(0, 0), (1, 1), (3, 4)] [] (by simp only [push_cast, seval]) (by simp only [push_cast, seval]) rfl rfl rfl
set_option maxRecDepth 100000 in
theorem linear_search_from_spec (t : (List Int)) (done : Int) (c0_calls : (List GCall)) (c2 : (List Int)) (c1 : (List (place × Int))) (r : Bool × (List GCall) × (List Int) × (List (place × Int))) (h : linear_search_from t done c0_calls c2 c1 = some r) : SpecW Try.prog 20 [.ptr 0 0, .ifc 60 (.sl t.length (fl t)), iS done] [(0, .row 47 [.sl c0_calls.length (fl c0_calls), .mp 1, .own 2 0 c2.length]), (1, .map (mE c1)), (2, .row 3 (fl c2))] 3 (fun x h n => x = bS r.1 ∧ h = [(0, .row 47 [.sl r.2.1.length (fl r.2.1), .mp 1, .own 3 0 r.2.2.1.length]), (1, .map (mE r.2.2.2)), (2, .dead), (3, .row 3 (fl r.2.2.1))] ∧ n = 4) := linear_search_from_n_spec 5000 t done c0_calls c2 c1 r h

set_option maxRecDepth 100000 in
set_option maxHeartbeats 200000000 in
theorem linear_begin_1_spec (kind : Int) (hK0 : (kind == 1) = false) (hK1 : (kind == 2) = true) (r : Int) (h : linear_begin_1 kind = some r) : SpecW Try.prog 21 [iS kind] [] 0 (fun x h n => x = .ifc 61 (iS r) ∧ h = [] ∧ n = 0) := by
 unfold linear_begin_1 at h
 refine spec_of (draw_ok _) Try.func21 rfl (by decide) rfl (by kernel_rfl) ?_
 refine seq_np ?_
 refine reg_f ?_
 refine rs 1 [] [] (by kernel_rfl) allP_nil ?_
 refine rf [(0, iS kind)] [] 0 (by kernel_rfl) ?_
 refine wk_id ?_
 refine seq_np ?_
 refine seq_np ?_
 refine reg_f ?_
 refine rs 1 [] [] (by kernel_rfl) allP_nil ?_
 refine rf [(3, iS kind)] [] 0 (by kernel_rfl) ?_
 refine wk_id ?_
 refine block_np ?_
 refine seq_np ?_
 refine reg_f ?_
 refine rs 2 [] [] (by kernel_rfl) allP_nil ?_
 refine rf [(3, iS kind), (4, bS (kind == 1))] [] 0 (by kernel_rfl) ?_
 refine wk_id ?_
 refine cond_atf (b := (kind == 1)) (by kernel_rfl) hK0 ?_
 refine seq_np ?_
 refine reg_f ?_
 refine rs 2 [] [] (by kernel_rfl) allP_nil ?_
 refine rf [(7, bS (kind == 2))] [] 0 (by kernel_rfl) ?_
 refine wk_id ?_
 refine cond_at (b := (kind == 2)) (by kernel_rfl) hK1 ?_
 refine seq_np ?_
 refine reg_f ?_
 refine rs 2 [] [] (by kernel_rfl) allP_nil ?_
 refine rf [(2, .ifc 61 (iS 0))] [] 0 (by kernel_rfl) ?_
 refine wk_id ?_
 obtain rfl := Option.some.inj h
 refine ret_at (.ifc 61 (iS 0)) (by kernel_rfl) ?_
 exact ret_e [] [] (by simp only [push_cast, seval]) (by simp only [push_cast, seval]) rfl rfl rfl

set_option maxRecDepth 100000 in
set_option maxHeartbeats 200000000 in
theorem linear_key_1_spec (t : Int) (done : Int) (r : place) (h : linear_key_1 t done = some r) : SpecW Try.prog 26 [.ifc 61 (iS t), iS done] [] 0 (fun x h n => x = .agg (Enc.cells r) ∧ h = [] ∧ n = 0) := by
 unfold linear_key_1 at h
 refine spec_of (draw_ok _) Try.func26 rfl (by decide) rfl (by kernel_rfl) ?_
 refine seq_np ?_
 refine reg_f ?_
 refine rs 1 [] [] (by kernel_rfl) allP_nil ?_
 refine rf [(0, .ifc 61 (iS t)), (1, iS done), (4, .ptr 0 0)] [(0, .row 58 ((iS 0 :: (iS 0 :: (Enc.cells (default : (VArr 14)) ++ []))) : List SV))] 1 (by kernel_rfl) ?_
 refine wk_id ?_
 refine seq_np ?_
 refine reg_f ?_
 refine rs 4 [] [] (by kernel_rfl) allP_nil ?_
 refine rf [(0, .ifc 61 (iS t)), (4, .ptr 0 0), (5, .ptr 1 0)] [(0, .row 58 ((iS 0 :: (iS 0 :: (Enc.cells (default : (VArr 14)) ++ []))) : List SV)), (1, .row 58 ((iS done :: (iS 0 :: (Enc.cells (default : (VArr 14)) ++ []))) : List SV))] 2 (by kernel_rfl) ?_
 refine wk_id ?_
 refine seq_np ?_
 refine seq_np ?_
 refine reg_f ?_
 refine rs 1 [] [] (by kernel_rfl) allP_nil ?_
 refine rf [(4, .ptr 0 0), (5, .ptr 1 0), (11, .ifc 61 (iS t))] [(0, .row 58 ((iS 0 :: (iS 0 :: (Enc.cells (default : (VArr 14)) ++ []))) : List SV)), (1, .row 58 ((iS done :: (iS 0 :: (Enc.cells (default : (VArr 14)) ++ []))) : List SV))] 2 (by kernel_rfl) ?_
 refine wk_id ?_
 refine block_np ?_
 refine seq_np ?_
 refine reg_f ?_
 refine rs 3 [] [] (by kernel_rfl) allP_nil ?_
 refine rf [(4, .ptr 0 0), (5, .ptr 1 0), (11, .ifc 61 (iS t)), (13, bS true), (14, iS t)] [(0, .row 58 ((iS 0 :: (iS 0 :: (Enc.cells (default : (VArr 14)) ++ []))) : List SV)), (1, .row 58 ((iS done :: (iS 0 :: (Enc.cells (default : (VArr 14)) ++ []))) : List SV))] 2 (by kernel_rfl) ?_
 refine wk_id ?_
 refine cond_t (by kernel_rfl) ?_
 refine seq_np ?_
 refine reg_f ?_
 refine rs 1 [] [] (by kernel_rfl) allP_nil ?_
 refine rf [(4, .ptr 0 0), (5, .ptr 1 0), (6, iS t)] [(0, .row 58 ((iS 0 :: (iS 0 :: (Enc.cells (default : (VArr 14)) ++ []))) : List SV)), (1, .row 58 ((iS done :: (iS 0 :: (Enc.cells (default : (VArr 14)) ++ []))) : List SV))] 2 (by kernel_rfl) ?_
 refine wk_id ?_
 refine reg_f ?_
 refine rs 3 [] [] (by kernel_rfl) allP_nil ?_
 refine rf [(4, .ptr 0 0), (5, .ptr 1 0)] [(0, .row 58 ((iS 0 :: (iS 0 :: (Enc.cells (default : (VArr 14)) ++ []))) : List SV)), (1, .row 58 ((iS done :: (iS t :: (Enc.cells (default : (VArr 14)) ++ []))) : List SV))] 2 (by kernel_rfl) ?_
 refine wk_id ?_
 refine wk_id ?_
 refine seq_np ?_
 refine reg_f ?_
 refine rs 2 [] [] (by kernel_rfl) allP_nil ?_
 refine rf [(4, .ptr 0 0)] [(0, .row 58 ((iS done :: (iS t :: (Enc.cells (default : (VArr 14)) ++ []))) : List SV)), (1, .row 58 ((iS done :: (iS t :: (Enc.cells (default : (VArr 14)) ++ []))) : List SV))] 2 (by kernel_rfl) ?_
 refine wk_id ?_
 obtain rfl := Option.some.inj h
 refine ret_at (.agg ((iS done :: (iS t :: (Enc.cells (default : (VArr 14)) ++ []))) : List SV)) (by kernel_rfl) ?_
 exact ret_e [] [] (by simp only [push_cast, seval]) (by simp only [push_cast, seval]) rfl rfl rfl

set_option maxRecDepth 100000 in
set_option maxHeartbeats 200000000 in
theorem linear_register_do_spec (xr : Int) (c : GCall) (r : Int × Bool) (h : linear_register_do xr c = some r) : SpecW Try.prog 44 [iS xr, .agg (Enc.cells c)] [] 0 (fun x h n => x = .tup [.ifc 61 (iS r.1), bS r.2] ∧ h = [] ∧ n = 0) := by
 unfold linear_register_do at h
 refine spec_of (draw_ok _) Try.func44 rfl (by decide) rfl (by kernel_rfl) ?_
 refine seq_np ?_
 refine reg_f ?_
 refine rs 3 [] [] (by kernel_rfl) allP_nil ?_
 refine rf [(0, iS xr), (3, .ptr 0 0)] [(0, .row 36 (Enc.cells c))] 1 (by kernel_rfl) ?_
 refine wk_id ?_
 refine seq_np ?_
 refine seq_np ?_
 refine reg_f ?_
 refine rs 2 [] [] (by kernel_rfl) allP_nil ?_
 refine rf [(0, iS xr), (3, .ptr 0 0), (7, iS c.Kind)] [(0, .row 36 (Enc.cells c))] 1 (by kernel_rfl) ?_
 refine wk_id ?_
 refine block_np ?_
 refine seq_np ?_
 refine reg_f ?_
 refine rs 2 [] [] (by kernel_rfl) allP_nil ?_
 refine rf [(0, iS xr), (3, .ptr 0 0), (7, iS c.Kind), (8, bS (c.Kind == 3))] [(0, .row 36 (Enc.cells c))] 1 (by kernel_rfl) ?_
 refine wk_id ?_
 refine cond_sx h (by kernel_rfl) (fun g1174 h => ?_) (fun g1174 h => ?_)
 ·refine seq_np ?_
  refine reg_f ?_
  refine rs 5 [] [] (by kernel_rfl) allP_nil ?_
  refine rf [(4, .ifc 61 (iS c.Arg)), (5, bS true)] [(0, .row 36 (Enc.cells c))] 1 (by kernel_rfl) ?_
  refine wk_id ?_
  obtain rfl := Option.some.inj h
  refine ret_at (.tup [.ifc 61 (iS c.Arg), bS true]) (by kernel_rfl) ?_
  exact ret_e [] [] (by simp only [push_cast, seval]) (by simp only [push_cast, seval]) rfl rfl rfl
 ·refine seq_np ?_
  refine reg_f ?_
  refine rs 2 [] [] (by kernel_rfl) allP_nil ?_
  refine rf [(0, iS xr), (3, .ptr 0 0), (13, bS (c.Kind == 4))] [(0, .row 36 (Enc.cells c))] 1 (by kernel_rfl) ?_
  refine wk_id ?_
  refine cond_sx h (by kernel_rfl) (fun g1173 h => ?_) (fun g1173 h => ?_)
  ·refine seq_np ?_
   refine reg_t ?_
   refine rs 8 [] [] (by kernel_rfl) allP_nil ?_
   refine rt [(4, .ifc 61 (iS xr)), (5, bS (xr == c.Ret))] [(0, .row 36 (Enc.cells c))] 9 follows (by kernel_rfl) ?_
   refine wk_id ?_
   obtain rfl := Option.some.inj h
   refine ret_at (.tup [.ifc 61 (iS xr), bS (xr == c.Ret)]) (by kernel_rfl) ?_
   exact ret_e [] [] (by simp only [push_cast, seval]) (by simp only [push_cast, seval]) rfl rfl rfl
  ·refine wk_id ?_
   refine wk_id ?_
   refine seq_np ?_
   refine seq_np ?_
   refine reg_f ?_
   refine rs 4 [] [] (by kernel_rfl) allP_nil ?_
   refine rf [(0, iS xr), (3, .ptr 0 0), (24, bS (xr == c.Old))] [(0, .row 36 (Enc.cells c))] 1 (by kernel_rfl) ?_
   refine wk_id ?_
   refine cond_sx h (by kernel_rfl) (fun g1172 h => ?_) (fun g1172 h => ?_)
   ·refine seq_np ?_
    refine reg_t ?_
    refine rs 7 [] [] (by kernel_rfl) allP_nil ?_
    refine rt [(4, .ifc 61 (iS c.Arg)), (5, bS c.Ok)] [(0, .row 36 (Enc.cells c))] 8 follows (by kernel_rfl) ?_
    refine wk_id ?_
    obtain rfl := Option.some.inj h
    refine ret_at (.tup [.ifc 61 (iS c.Arg), bS c.Ok]) (by kernel_rfl) ?_
    exact ret_e [] [] (by simp only [push_cast, seval]) (by simp only [push_cast, seval]) rfl rfl rfl
   ·refine wk_id ?_
    refine seq_np ?_
    refine reg_t ?_
    refine rs 7 [] [] (by kernel_rfl) allP_nil ?_
    refine rt [(4, .ifc 61 (iS xr)), (5, bS (!c.Ok))] [(0, .row 36 (Enc.cells c))] 8 follows (by kernel_rfl) ?_
    refine wk_id ?_
    obtain rfl := Option.some.inj h
    refine ret_at (.tup [.ifc 61 (iS xr), bS (!c.Ok)]) (by kernel_rfl) ?_
    exact ret_e [] [] (by simp only [push_cast, seval]) (by simp only [push_cast, seval]) rfl rfl rfl

set_option maxRecDepth 100000 in
set_option maxHeartbeats 200000000 in
theorem linear_search_from_3_n_spec : ∀ (n : Nat) (t : Int) (done : Int) (c0_calls : (List GCall)) (c2 : (List Int)) (c1 : (List (place × Int))) (r : Bool × (List GCall) × (List Int) × (List (place × Int))), linear_search_from_3_n n t done c0_calls c2 c1 = some r → SpecW Try.prog 20 [.ptr 0 0, .ifc 61 (iS t), iS done] [(0, .row 47 [.sl c0_calls.length (fl c0_calls), .mp 1, .own 2 0 c2.length]), (1, .map (mE c1)), (2, .row 3 (fl c2))] 3 (fun x h n => x = bS r.1 ∧ h = [(0, .row 47 [.sl r.2.1.length (fl r.2.1), .mp 1, .own 3 0 r.2.2.1.length]), (1, .map (mE r.2.2.2)), (2, .dead), (3, .row 3 (fl r.2.2.1))] ∧ n = 4) := by
 intro n
 induction n with
 | zero => intro t done c0_calls c2 c1 r h; exact absurd (show (none : Option (Bool × (List GCall) × (List Int) × (List (place × Int)))) = some r from h) (by simp)
 | succ n ih =>
  intro t done c0_calls c2 c1 r h
  have h : linear_search_from_3_b (linear_search_from_3_n n) t done c0_calls c2 c1 = some r := h
  generalize linear_search_from_3_n n = rcf at ih h
  unfold linear_search_from_3_b at h
  refine spec_of (draw_ok _) Try.func20 rfl (by decide) rfl (by kernel_rfl) ?_
  refine seq_np ?_
  refine reg_f ?_
  refine rs 1 [] [] (by kernel_rfl) allP_nil ?_
  refine rf [(0, .ptr 0 0), (1, .ifc 61 (iS t)), (2, iS done)] [(0, .row 47 [.sl c0_calls.length (fl c0_calls), .mp 1, .own 2 0 c2.length]), (1, .map (mE c1)), (2, .row 3 (fl c2))] 3 (by kernel_rfl) ?_
  refine wk_id ?_
  refine seq_np ?_
  refine chk_sx h (fun g1382 h => ?_)
  refine seq_np ?_
  refine reg_f ?_
  have k1381 : 0 ≤ ((c0_calls.length : Nat) : Int) := by first | simpa only [Bool.and_eq_true, decide_eq_true_eq, bne_iff_ne, ne_eq] using g1382 | (simp at g1382 ⊢; omega)
  refine rs 9 [none, none, none, none, none, none, some ⟨iS (IntKind.i64.wrap ((1 : Int) * 2 ^ (min (((c0_calls.length : Nat) : Int)).toNat (IntKind.i64).bits))), [], 3, []⟩] _ (by kernel_rfl) (allP_cons (ob_p (v := iS (IntKind.i64.wrap ((1 : Int) * 2 ^ (min (((c0_calls.length : Nat) : Int)).toNat (IntKind.i64).bits)))) (nx := 3) (r := []) k1381) allP_nil) ?_
  refine rf [(0, .ptr 0 0), (1, .ifc 61 (iS t)), (2, iS done), (23, bS (done == (IntKind.i64.wrap ((IntKind.i64.wrap ((1 : Int) * 2 ^ (min (((c0_calls.length : Nat) : Int)).toNat (IntKind.i64).bits))) - 1))))] [(0, .row 47 [.sl c0_calls.length (fl c0_calls), .mp 1, .own 2 0 c2.length]), (1, .map (mE c1)), (2, .row 3 (fl c2))] 3 (by kernel_rfl) ?_
  refine wk_id ?_
  refine cond_sx h (by kernel_rfl) (fun g1692 h => ?_) (fun g1692 h => ?_)
  ·refine seq_np ?_
   refine reg_f ?_
   refine rs 1 [] [] (by kernel_rfl) allP_nil ?_
   refine rf [(6, bS true)] [(0, .row 47 [.sl c0_calls.length (fl c0_calls), .mp 1, .own 2 0 c2.length]), (1, .map (mE c1)), (2, .row 3 (fl c2))] 3 (by kernel_rfl) ?_
   refine wk_id ?_
   obtain rfl := Option.some.inj h
   refine ret_at (bS true) (by kernel_rfl) ?_
   exact ret_e [(0, 0), (1, 1), (3, 2)] [] (by simp only [push_cast, seval]) (by simp only [push_cast, seval]) rfl rfl rfl
  ·refine wk_id ?_
   refine seq_np ?_
   refine reg_f ?_
   refine rs 2 [] [] (by kernel_rfl) allP_nil ?_
   obtain ⟨r1384, hr1384, h⟩ := bind_sx h
   refine run_call 26 [.ifc 61 (iS t), iS done] (some 26) (by kernel_rfl) ?_
   refine call_0 (linear_key_1_spec t done r1384 hr1384) (by simp only [push_cast, seval]) (by simp only [push_cast, seval]) ?_
   refine back_f ?_
   refine rs 2 [] [] (by kernel_rfl) allP_nil ?_
   refine rf [(0, .ptr 0 0), (1, .ifc 61 (iS t)), (2, iS done), (7, .ptr 3 0)] [(0, .row 47 [.sl c0_calls.length (fl c0_calls), .mp 1, .own 2 0 c2.length]), (1, .map (mE c1)), (2, .row 3 (fl c2)), (3, .row 58 (Enc.cells r1384))] 4 (by kernel_rfl) ?_
   refine wk_id ?_
   refine seq_np ?_
   refine seq_np ?_
   refine reg_t ?_
   refine rs 7 [none, none, none, none, none, some ⟨iS (meGet c1 r1384), [], 9, [1]⟩] _ (by kernel_rfl) (allP_cons (ob_lookE (K := place) r1384 _ rfl c1 1 9) allP_nil) ?_
   refine rt [(0, .ptr 0 0), (1, .ifc 61 (iS t)), (2, iS done), (7, .ptr 3 0), (33, bS (decide ((0 : Int) < (meGet c1 r1384))))] [(0, .row 47 [.sl c0_calls.length (fl c0_calls), .mp 1, .own 2 0 c2.length]), (1, .map (mE c1)), (2, .row 3 (fl c2)), (3, .row 58 (Enc.cells r1384))] 11 follows (by kernel_rfl) ?_
   refine wk_id ?_
   refine cond_sx h (by kernel_rfl) (fun g1691 h => ?_) (fun g1691 h => ?_)
   ·refine seq_np ?_
    refine reg_f ?_
    refine rs 1 [] [] (by kernel_rfl) allP_nil ?_
    refine rf [(6, bS false)] [(0, .row 47 [.sl c0_calls.length (fl c0_calls), .mp 1, .own 2 0 c2.length]), (1, .map (mE c1)), (2, .row 3 (fl c2)), (3, .row 58 (Enc.cells r1384))] 11 (by kernel_rfl) ?_
    refine wk_id ?_
    obtain rfl := Option.some.inj h
    refine ret_at (bS false) (by kernel_rfl) ?_
    exact ret_e [(0, 0), (1, 1), (3, 2)] [] (by simp only [push_cast, seval]) (by simp only [push_cast, seval]) rfl rfl rfl
   ·refine wk_id ?_
    refine seq_np ?_
    refine reg_f ?_
    refine rs 1 [] [] (by kernel_rfl) allP_nil ?_
    refine rf [(0, .ptr 0 0), (1, .ifc 61 (iS t)), (2, iS done), (7, .ptr 3 0), (8, iS 1000000001)] [(0, .row 47 [.sl c0_calls.length (fl c0_calls), .mp 1, .own 2 0 c2.length]), (1, .map (mE c1)), (2, .row 3 (fl c2)), (3, .row 58 (Enc.cells r1384))] 11 (by kernel_rfl) ?_
    refine wk_id ?_
    refine seq_np ?_
    refine seq_np ?_
    refine reg_f ?_
    refine rs 6 [] [] (by kernel_rfl) allP_nil ?_
    refine rf [(0, .ptr 0 0), (1, .ifc 61 (iS t)), (2, iS done), (7, .ptr 3 0), (8, iS 1000000001), (37, .sl c0_calls.length (fl c0_calls)), (38, iS ((c0_calls.length : Nat) : Int)), (39, iS 0)] [(0, .row 47 [.sl c0_calls.length (fl c0_calls), .mp 1, .own 2 0 c2.length]), (1, .map (mE c1)), (2, .row 3 (fl c2)), (3, .row 58 (Enc.cells r1384))] 11 (by kernel_rfl) ?_
    refine wk_id ?_
    refine block_np ?_
    refine loop_sx (S := Int × Int × place) (fun a => ([(0, .ptr 0 0), (1, .ifc 61 (iS t)), (2, iS done), (7, .ptr 3 0), (8, iS a.1), (37, .sl c0_calls.length (fl c0_calls)), (38, iS ((c0_calls.length : Nat) : Int)), (39, iS a.2.1)], [(0, .row 47 [.sl c0_calls.length (fl c0_calls), .mp 1, .own 2 0 c2.length]), (1, .map (mE c1)), (2, .row 3 (fl c2)), (3, .row 58 (Enc.cells a.2.2))], 4)) h (leSt_m [(0, 0), (1, 1), (2, 2), (3, 3)] [] (by simp only [push_cast, seval]) (by simp only [push_cast, seval]) rfl rfl rfl) ?_
    rintro ⟨xend18, t39q7, c3q12⟩ o3 R3 h hr3 hn3 hx3 ht3
    try dsimp only at h hn3 ⊢
    unfold linear_search_from_3_l2 at h
    try dsimp only at h
    refine seq_np ?_
    refine reg_f ?_
    refine rs 1 [] [] (by kernel_rfl) allP_nil ?_
    refine rf [(0, .ptr 0 0), (1, .ifc 61 (iS t)), (2, iS done), (7, .ptr 3 0), (8, iS xend18), (37, .sl c0_calls.length (fl c0_calls)), (38, iS ((c0_calls.length : Nat) : Int)), (39, iS t39q7), (40, bS (decide (t39q7 < ((c0_calls.length : Nat) : Int))))] [(0, .row 47 [.sl c0_calls.length (fl c0_calls), .mp 1, .own 2 0 c2.length]), (1, .map (mE c1)), (2, .row 3 (fl c2)), (3, .row 58 (Enc.cells c3q12))] 4 (by kernel_rfl) ?_
    refine wk_id ?_
    refine seq_np ?_
    refine cond_sx h (by kernel_rfl) (fun g1690 h => ?_) (fun g1690 h => ?_)
    ·refine wk_id ?_
     refine seq_np ?_
     refine block_cut (A := Int) (fun a => ([(0, .ptr 0 0), (1, .ifc 61 (iS t)), (2, iS done), (7, .ptr 3 0), (8, iS a), (37, .sl c0_calls.length (fl c0_calls)), (38, iS ((c0_calls.length : Nat) : Int)), (39, iS t39q7)], [(0, .row 47 [.sl c0_calls.length (fl c0_calls), .mp 1, .own 2 0 c2.length]), (1, .map (mE c1)), (2, .row 3 (fl c2)), (3, .row 58 (Enc.cells c3q12))], 4)) (fun a => (linear_search_from_3_j1 t done c0_calls c2 c1 t39q7 c3q12 a) = some o3) (fun K1461 hK1461 => ?_) ?_
     ·refine chk_sx h (fun g1465 h => ?_)
      refine seq_np ?_
      refine reg_f ?_
      have k1464 : 0 ≤ t39q7 ∧ t39q7 < ((c0_calls.length : Nat) : Int) := by first | simpa only [Bool.and_eq_true, decide_eq_true_eq, bne_iff_ne, ne_eq] using g1465 | (simp at g1465 ⊢; omega)
      refine rs 6 [none, some ⟨.iptr (fl c0_calls) ((t39q7).toNat * 7), [], 4, []⟩, some ⟨.agg (Enc.cells (ix c0_calls t39q7)), [], 4, []⟩] _ (by kernel_rfl) (allP_cons (ob_ldw c0_calls t39q7 7 ((t39q7).toNat * 7) k1464 rfl (by first | rfl | omega) (Enc.cells (ix c0_calls t39q7)) rfl 4 []) (allP_cons (ob_ix_l c0_calls 7 4 t39q7 k1464) allP_nil)) ?_
      refine rf [(0, .ptr 0 0), (1, .ifc 61 (iS t)), (2, iS done), (7, .ptr 3 0), (8, iS xend18), (9, iS t39q7), (10, .ptr 4 0), (37, .sl c0_calls.length (fl c0_calls)), (38, iS ((c0_calls.length : Nat) : Int)), (39, iS t39q7)] [(0, .row 47 [.sl c0_calls.length (fl c0_calls), .mp 1, .own 2 0 c2.length]), (1, .map (mE c1)), (2, .row 3 (fl c2)), (3, .row 58 (Enc.cells c3q12)), (4, .row 36 (Enc.cells (ix c0_calls t39q7)))] 5 (by kernel_rfl) ?_
      refine wk_id ?_
      refine chk_sx h (fun g1469 h => ?_)
      refine seq_np ?_
      refine reg_f ?_
      have k1468 : 0 ≤ t39q7 := by first | simpa only [Bool.and_eq_true, decide_eq_true_eq, bne_iff_ne, ne_eq] using g1469 | (simp at g1469 ⊢; omega)
      refine rs 5 [none, none, some ⟨iS (Int.fdiv done (2 ^ (min (t39q7).toNat (IntKind.i64).bits))), [], 5, []⟩] _ (by kernel_rfl) (allP_cons (ob_p (v := iS (Int.fdiv done (2 ^ (min (t39q7).toNat (IntKind.i64).bits)))) (nx := 5) (r := []) k1468) allP_nil) ?_
      refine rf [(0, .ptr 0 0), (1, .ifc 61 (iS t)), (2, iS done), (7, .ptr 3 0), (8, iS xend18), (10, .ptr 4 0), (37, .sl c0_calls.length (fl c0_calls)), (38, iS ((c0_calls.length : Nat) : Int)), (39, iS t39q7), (48, bS ((IntKind.i64.wrap (((BitVec.ofInt (IntKind.i64).bits (Int.fdiv done (2 ^ (min (t39q7).toNat (IntKind.i64).bits))) &&& BitVec.ofInt (IntKind.i64).bits 1).toNat : Nat) : Int)) == 0))] [(0, .row 47 [.sl c0_calls.length (fl c0_calls), .mp 1, .own 2 0 c2.length]), (1, .map (mE c1)), (2, .row 3 (fl c2)), (3, .row 58 (Enc.cells c3q12)), (4, .row 36 (Enc.cells (ix c0_calls t39q7)))] 5 (by kernel_rfl) ?_
      refine wk_id ?_
      refine cond_sx h (by kernel_rfl) (fun g1470 h => ?_) (fun g1470 h => ?_)
      ·refine reg_f ?_
       refine rs 5 [] [] (by kernel_rfl) allP_nil ?_
       refine rf [(0, .ptr 0 0), (1, .ifc 61 (iS t)), (2, iS done), (7, .ptr 3 0), (8, iS (min xend18 (ix c0_calls t39q7).End)), (37, .sl c0_calls.length (fl c0_calls)), (38, iS ((c0_calls.length : Nat) : Int)), (39, iS t39q7)] [(0, .row 47 [.sl c0_calls.length (fl c0_calls), .mp 1, .own 2 0 c2.length]), (1, .map (mE c1)), (2, .row 3 (fl c2)), (3, .row 58 (Enc.cells c3q12)), (4, .row 36 (Enc.cells (ix c0_calls t39q7)))] 5 (by kernel_rfl) ?_
       exact hK1461 ((min xend18 (ix c0_calls t39q7).End)) _ _ _ h (leSt_m [(0, 0), (1, 1), (2, 2), (3, 3)] [] (by simp only [push_cast, seval]) (by simp only [push_cast, seval]) rfl rfl rfl)
      ·exact hK1461 (xend18) _ _ _ h (leSt_m [(0, 0), (1, 1), (2, 2), (3, 3)] [] (by simp only [push_cast, seval]) (by simp only [push_cast, seval]) rfl rfl rfl)
     ·rintro xend20 h
      try dsimp only at h ⊢
      unfold linear_search_from_3_j1 at h
      refine wk_id ?_
      refine reg_f ?_
      refine rs 2 [] [] (by kernel_rfl) allP_nil ?_
      refine rf [(0, .ptr 0 0), (1, .ifc 61 (iS t)), (2, iS done), (7, .ptr 3 0), (8, iS xend20), (37, .sl c0_calls.length (fl c0_calls)), (38, iS ((c0_calls.length : Nat) : Int)), (39, iS (IntKind.i64.wrap (t39q7 + 1)))] [(0, .row 47 [.sl c0_calls.length (fl c0_calls), .mp 1, .own 2 0 c2.length]), (1, .map (mE c1)), (2, .row 3 (fl c2)), (3, .row 58 (Enc.cells c3q12))] 4 (by kernel_rfl) ?_
      exact hn3 (xend20, (IntKind.i64.wrap (t39q7 + 1)), c3q12) _ _ _ (Option.some.inj h).symm (leSt_m [(0, 0), (1, 1), (2, 2), (3, 3)] [] (by simp only [push_cast, seval]) (by simp only [push_cast, seval]) rfl rfl rfl)
    ·change R3 (.exit 0) _ _ _
     refine ex_cast hx3 (id := 0) ?_
     obtain ⟨r0, h, e0⟩ := map_sx h
     have e1 := hr3 r0 e0.symm
     subst r0
     refine wk_id ?_
     refine wk_id ?_
     refine seq_np ?_
     refine seq_np ?_
     refine reg_f ?_
     refine rs 6 [] [] (by kernel_rfl) allP_nil ?_
     refine rf [(0, .ptr 0 0), (1, .ifc 61 (iS t)), (2, iS done), (7, .ptr 3 0), (8, iS xend18), (57, .sl c0_calls.length (fl c0_calls)), (58, iS ((c0_calls.length : Nat) : Int)), (59, iS 0)] [(0, .row 47 [.sl c0_calls.length (fl c0_calls), .mp 1, .own 2 0 c2.length]), (1, .map (mE c1)), (2, .row 3 (fl c2)), (3, .row 58 (Enc.cells c3q12))] 4 (by kernel_rfl) ?_
     refine wk_id ?_
     refine block_np ?_
     refine loop_sx (S := Int × (List GCall) × (List (place × Int)) × (List Int)) (fun a => ([(0, .ptr 0 0), (1, .ifc 61 (iS t)), (2, iS done), (7, .ptr 3 0), (8, iS xend18), (57, .sl c0_calls.length (fl c0_calls)), (58, iS ((c0_calls.length : Nat) : Int)), (59, iS a.1)], [(0, .row 47 [.sl a.2.1.length (fl a.2.1), .mp 1, .own 4 0 a.2.2.2.length]), (1, .map (mE a.2.2.1)), (2, .dead), (3, .row 58 (Enc.cells c3q12)), (4, .row 3 (fl a.2.2.2))], 5)) h (leSt_m [(0, 0), (1, 1), (3, 3), (4, 2)] [] (by simp only [push_cast, seval]) (by simp only [push_cast, seval]) rfl rfl rfl) ?_
     rintro ⟨t59q7, c0_calls20, c1q20, c4q18⟩ o4 R4 h hr4 hn4 hx4 ht4
     try dsimp only at h hn4 ⊢
     unfold linear_search_from_3_l1 at h
     try dsimp only at h
     refine seq_np ?_
     refine reg_f ?_
     refine rs 1 [] [] (by kernel_rfl) allP_nil ?_
     refine rf [(0, .ptr 0 0), (1, .ifc 61 (iS t)), (2, iS done), (7, .ptr 3 0), (8, iS xend18), (57, .sl c0_calls.length (fl c0_calls)), (58, iS ((c0_calls.length : Nat) : Int)), (59, iS t59q7), (60, bS (decide (t59q7 < ((c0_calls.length : Nat) : Int))))] [(0, .row 47 [.sl c0_calls20.length (fl c0_calls20), .mp 1, .own 4 0 c4q18.length]), (1, .map (mE c1q20)), (2, .dead), (3, .row 58 (Enc.cells c3q12)), (4, .row 3 (fl c4q18))] 5 (by kernel_rfl) ?_
     refine wk_id ?_
     refine seq_np ?_
     refine cond_sx h (by kernel_rfl) (fun g1689 h => ?_) (fun g1689 h => ?_)
     ·refine wk_id ?_
      refine seq_np ?_
      refine block_cut (A := (List GCall) × (List (place × Int)) × (List Int)) (fun a => ([(0, .ptr 0 0), (1, .ifc 61 (iS t)), (2, iS done), (7, .ptr 3 0), (8, iS xend18), (57, .sl c0_calls.length (fl c0_calls)), (58, iS ((c0_calls.length : Nat) : Int)), (59, iS t59q7)], [(0, .row 47 [.sl a.1.length (fl a.1), .mp 1, .own 4 0 a.2.2.length]), (1, .map (mE a.2.1)), (2, .dead), (3, .row 58 (Enc.cells c3q12)), (4, .row 3 (fl a.2.2))], 5)) (fun a => (linear_search_from_3_j2 t done c0_calls xend18 c3q12 t59q7 a.1 a.2.1 a.2.2) = some o4) (fun K1650 hK1650 => ?_) ?_
      ·refine chk_sx h (fun g1654 h => ?_)
       refine seq_np ?_
       refine reg_f ?_
       have k1653 : 0 ≤ t59q7 ∧ t59q7 < ((c0_calls.length : Nat) : Int) := by first | simpa only [Bool.and_eq_true, decide_eq_true_eq, bne_iff_ne, ne_eq] using g1654 | (simp at g1654 ⊢; omega)
       refine rs 6 [none, some ⟨.iptr (fl c0_calls) ((t59q7).toNat * 7), [], 5, []⟩, some ⟨.agg (Enc.cells (ix c0_calls t59q7)), [], 5, []⟩] _ (by kernel_rfl) (allP_cons (ob_ldw c0_calls t59q7 7 ((t59q7).toNat * 7) k1653 rfl (by first | rfl | omega) (Enc.cells (ix c0_calls t59q7)) rfl 5 []) (allP_cons (ob_ix_l c0_calls 7 5 t59q7 k1653) allP_nil)) ?_
       refine rf [(0, .ptr 0 0), (1, .ifc 61 (iS t)), (2, iS done), (7, .ptr 3 0), (8, iS xend18), (11, iS t59q7), (12, .ptr 5 0), (57, .sl c0_calls.length (fl c0_calls)), (58, iS ((c0_calls.length : Nat) : Int)), (59, iS t59q7)] [(0, .row 47 [.sl c0_calls20.length (fl c0_calls20), .mp 1, .own 4 0 c4q18.length]), (1, .map (mE c1q20)), (2, .dead), (3, .row 58 (Enc.cells c3q12)), (4, .row 3 (fl c4q18)), (5, .row 36 (Enc.cells (ix c0_calls t59q7)))] 6 (by kernel_rfl) ?_
       refine wk_id ?_
       refine seq_np ?_
       refine chk_sx h (fun g1664 h => ?_)
       refine seq_cut (A := Unit) (fun _ => ([(0, .ptr 0 0), (1, .ifc 61 (iS t)), (2, iS done), (7, .ptr 3 0), (8, iS xend18), (11, iS t59q7), (12, .ptr 5 0), (57, .sl c0_calls.length (fl c0_calls)), (58, iS ((c0_calls.length : Nat) : Int)), (59, iS t59q7), (74, bS (((IntKind.i64.wrap (((BitVec.ofInt (IntKind.i64).bits (Int.fdiv done (2 ^ (min (t59q7).toNat (IntKind.i64).bits))) &&& BitVec.ofInt (IntKind.i64).bits 1).toNat : Nat) : Int)) == 1) || (decide (xend18 < (ix c0_calls t59q7).Begin))))], [(0, .row 47 [.sl c0_calls20.length (fl c0_calls20), .mp 1, .own 4 0 c4q18.length]), (1, .map (mE c1q20)), (3, .row 58 (Enc.cells c3q12)), (4, .row 3 (fl c4q18)), (5, .row 36 (Enc.cells (ix c0_calls t59q7)))], 6)) (fun _ => True) (fun K1662 hK1662 => ?_) (fun _ _ => ?_)
       ·refine reg_f ?_
        have k1663 : 0 ≤ t59q7 := by first | simpa only [Bool.and_eq_true, decide_eq_true_eq, bne_iff_ne, ne_eq] using g1664 | (simp at g1664 ⊢; omega)
        refine rs 6 [none, none, some ⟨iS (Int.fdiv done (2 ^ (min (t59q7).toNat (IntKind.i64).bits))), [], 6, []⟩] _ (by kernel_rfl) (allP_cons (ob_p (v := iS (Int.fdiv done (2 ^ (min (t59q7).toNat (IntKind.i64).bits)))) (nx := 6) (r := []) k1663) allP_nil) ?_
        refine run_split 69 ((IntKind.i64.wrap (((BitVec.ofInt (IntKind.i64).bits (Int.fdiv done (2 ^ (min (t59q7).toNat (IntKind.i64).bits))) &&& BitVec.ofInt (IntKind.i64).bits 1).toNat : Nat) : Int)) == 1) (.inl (by kernel_rfl)) (fun g1665 => ?_) (fun g1665 => ?_)
        ·refine rs 5 [] [] (by kernel_rfl) allP_nil ?_
         refine rf [(0, .ptr 0 0), (1, .ifc 61 (iS t)), (2, iS done), (7, .ptr 3 0), (8, iS xend18), (11, iS t59q7), (12, .ptr 5 0), (57, .sl c0_calls.length (fl c0_calls)), (58, iS ((c0_calls.length : Nat) : Int)), (59, iS t59q7), (74, bS true)] [(0, .row 47 [.sl c0_calls20.length (fl c0_calls20), .mp 1, .own 4 0 c4q18.length]), (1, .map (mE c1q20)), (2, .dead), (3, .row 58 (Enc.cells c3q12)), (4, .row 3 (fl c4q18)), (5, .row 36 (Enc.cells (ix c0_calls t59q7)))] 6 (by kernel_rfl) ?_
         exact hK1662 () _ _ _ trivial (leSt_m [(0, 0), (1, 1), (3, 3), (4, 4), (5, 5)] [] (by (try simp only [g1665]) <;> simp only [push_cast, seval]) (by (try simp only [g1665]) <;> simp only [push_cast, seval]) rfl rfl rfl)
        ·refine rs 5 [] [] (by kernel_rfl) allP_nil ?_
         refine rf [(0, .ptr 0 0), (1, .ifc 61 (iS t)), (2, iS done), (7, .ptr 3 0), (8, iS xend18), (11, iS t59q7), (12, .ptr 5 0), (57, .sl c0_calls.length (fl c0_calls)), (58, iS ((c0_calls.length : Nat) : Int)), (59, iS t59q7), (74, bS (decide (xend18 < (ix c0_calls t59q7).Begin)))] [(0, .row 47 [.sl c0_calls20.length (fl c0_calls20), .mp 1, .own 4 0 c4q18.length]), (1, .map (mE c1q20)), (2, .dead), (3, .row 58 (Enc.cells c3q12)), (4, .row 3 (fl c4q18)), (5, .row 36 (Enc.cells (ix c0_calls t59q7)))] 6 (by kernel_rfl) ?_
         exact hK1662 () _ _ _ trivial (leSt_m [(0, 0), (1, 1), (3, 3), (4, 4), (5, 5)] [] (by (try simp only [g1665]) <;> simp only [push_cast, seval]) (by (try simp only [g1665]) <;> simp only [push_cast, seval]) rfl rfl rfl)
       ·dsimp only
        refine cond_sx h (by kernel_rfl) (fun g1688 h => ?_) (fun g1688 h => ?_)
        ·exact hK1650 (c0_calls20, c1q20, c4q18) _ _ _ h (leSt_m [(0, 0), (1, 1), (3, 3), (4, 4)] [] (by simp only [push_cast, seval]) (by simp only [push_cast, seval]) rfl rfl rfl)
        ·refine wk_id ?_
         refine seq_np ?_
         refine reg_f ?_
         refine rs 2 [] [] (by kernel_rfl) allP_nil ?_
         obtain ⟨r1667, hr1667, h⟩ := bind_sx h
         refine call_xI (linear_register_do_spec t (ix c0_calls t59q7) r1667 hr1667) (args := [iS t, .agg (Enc.cells (ix c0_calls t59q7))]) (dst := (some 78)) (by kernel_rfl) [(0, .row 47 [.sl c0_calls20.length (fl c0_calls20), .mp 1, .own 4 0 c4q18.length]), (1, .map (mE c1q20)), (3, .row 58 (Enc.cells c3q12)), (4, .row 3 (fl c4q18)), (5, .row 36 (Enc.cells (ix c0_calls t59q7)))] 6 (by kernel_rfl) [] [] (.tup [.ifc 61 (iS r1667.1), bS r1667.2]) [] (by simp only [push_cast, seval]) (by simp only [push_cast, seval]) (by kernel_rfl) (.inl rfl) (by simp only [push_cast, seval]) (by simp only [push_cast, seval]) ?_
         refine rs 5 [] [] (by kernel_rfl) allP_nil ?_
         refine rf [(0, .ptr 0 0), (1, .ifc 61 (iS t)), (2, iS done), (7, .ptr 3 0), (8, iS xend18), (11, iS t59q7), (13, .ifc 61 (iS r1667.1)), (14, bS r1667.2), (57, .sl c0_calls.length (fl c0_calls)), (58, iS ((c0_calls.length : Nat) : Int)), (59, iS t59q7)] [(0, .row 47 [.sl c0_calls20.length (fl c0_calls20), .mp 1, .own 4 0 c4q18.length]), (1, .map (mE c1q20)), (3, .row 58 (Enc.cells c3q12)), (4, .row 3 (fl c4q18)), (5, .row 36 (Enc.cells (ix c0_calls t59q7)))] 6 (by kernel_rfl) ?_
         refine wk_id ?_
         refine seq_np ?_
         refine reg_f ?_
         refine rs 1 [] [] (by kernel_rfl) allP_nil ?_
         refine rf [(0, .ptr 0 0), (1, .ifc 61 (iS t)), (2, iS done), (7, .ptr 3 0), (8, iS xend18), (11, iS t59q7), (13, .ifc 61 (iS r1667.1)), (57, .sl c0_calls.length (fl c0_calls)), (58, iS ((c0_calls.length : Nat) : Int)), (59, iS t59q7), (81, bS r1667.2)] [(0, .row 47 [.sl c0_calls20.length (fl c0_calls20), .mp 1, .own 4 0 c4q18.length]), (1, .map (mE c1q20)), (3, .row 58 (Enc.cells c3q12)), (4, .row 3 (fl c4q18)), (5, .row 36 (Enc.cells (ix c0_calls t59q7)))] 6 (by kernel_rfl) ?_
         refine wk_id ?_
         refine cond_sx h (by kernel_rfl) (fun g1687 h => ?_) (fun g1687 h => ?_)
         ·refine chk_sx h (fun g1671 h => ?_)
          refine seq_np ?_
          refine reg_f ?_
          have k1670 : (c4q18 ++ ([t59q7] : List Int)).length * 8 ≤ 140737488355328 := by first | simpa only [Bool.and_eq_true, decide_eq_true_eq, bne_iff_ne, ne_eq] using g1671 | (simp at g1671 ⊢; omega)
          refine rs 11 [none, none, none, none, none, none, none, some ⟨.own 7 0 (c4q18 ++ ([t59q7] : List Int)).length, [(7, .row 3 (fl (c4q18 ++ ([t59q7] : List Int)))), (4, .dead)], 8, [4, 6]⟩] _ (by kernel_rfl) (allP_cons (ob_app (P := Try.prog) c4q18 ([t59q7] : List Int) 1 8 rfl (appCells (fl ([t59q7] : List Int)) 0 (([t59q7] : List Int).length * 1)) ([t59q7] : List Int).length (app_own ([t59q7] : List Int) 1 rfl) rfl (0 + ([t59q7] : List Int).length * 1 ≤ (fl ([t59q7] : List Int)).length) (app_own_le ([t59q7] : List Int) 1 rfl) 3 (by kernel_rfl) (by decide) k1670 4 7 [6]) allP_nil) ?_
          refine rf [(0, .ptr 0 0), (1, .ifc 61 (iS t)), (2, iS done), (7, .ptr 3 0), (8, iS xend18), (11, iS t59q7), (13, .ifc 61 (iS r1667.1)), (57, .sl c0_calls.length (fl c0_calls)), (58, iS ((c0_calls.length : Nat) : Int)), (59, iS t59q7)] [(0, .row 47 [.sl c0_calls20.length (fl c0_calls20), .mp 1, .own 7 0 (c4q18 ++ ([t59q7] : List Int)).length]), (1, .map (mE c1q20)), (3, .row 58 (Enc.cells c3q12)), (4, .dead), (5, .row 36 (Enc.cells (ix c0_calls t59q7))), (6, .row 3 (fl ([t59q7] : List Int))), (7, .row 3 (fl (c4q18 ++ ([t59q7] : List Int))))] 8 (by kernel_rfl) ?_
          refine wk_id ?_
          refine seq_np ?_
          refine chk_sx h (fun g1680 h => ?_)
          refine seq_np ?_
          refine reg_f ?_
          have k1679 : 0 ≤ t59q7 := by first | simpa only [Bool.and_eq_true, decide_eq_true_eq, bne_iff_ne, ne_eq] using g1680 | (simp at g1680 ⊢; omega)
          refine rs 6 [none, none, none, none, some ⟨iS (IntKind.i64.wrap ((1 : Int) * 2 ^ (min (t59q7).toNat (IntKind.i64).bits))), [], 8, []⟩] _ (by kernel_rfl) (allP_cons (ob_p (v := iS (IntKind.i64.wrap ((1 : Int) * 2 ^ (min (t59q7).toNat (IntKind.i64).bits)))) (nx := 8) (r := []) k1679) allP_nil) ?_
          obtain ⟨r1681, hr1681, h⟩ := bind_sx h
          refine call_x (ih r1667.1 (IntKind.i64.wrap (((BitVec.ofInt (IntKind.i64).bits done ||| BitVec.ofInt (IntKind.i64).bits (IntKind.i64.wrap ((1 : Int) * 2 ^ (min (t59q7).toNat (IntKind.i64).bits)))).toNat : Nat) : Int)) c0_calls20 (c4q18 ++ ([t59q7] : List Int)) c1q20 r1681 hr1681) (args := [.ptr 0 0, .ifc 61 (iS r1667.1), iS (IntKind.i64.wrap (((BitVec.ofInt (IntKind.i64).bits done ||| BitVec.ofInt (IntKind.i64).bits (IntKind.i64.wrap ((1 : Int) * 2 ^ (min (t59q7).toNat (IntKind.i64).bits)))).toNat : Nat) : Int))]) (dst := (some 98)) (by kernel_rfl) [(0, .row 47 [.sl c0_calls20.length (fl c0_calls20), .mp 1, .own 7 0 (c4q18 ++ ([t59q7] : List Int)).length]), (1, .map (mE c1q20)), (3, .row 58 (Enc.cells c3q12)), (4, .dead), (5, .row 36 (Enc.cells (ix c0_calls t59q7))), (6, .row 3 (fl ([t59q7] : List Int))), (7, .row 3 (fl (c4q18 ++ ([t59q7] : List Int))))] 8 (by kernel_rfl) [(0, 0), (1, 1), (2, 7)] [] (bS r1681.1) [(0, .row 47 [.sl r1681.2.1.length (fl r1681.2.1), .mp 1, .own 11 0 r1681.2.2.1.length]), (1, .map (mE r1681.2.2.2)), (7, .dead), (11, .row 3 (fl r1681.2.2.1)), (0, .dead), (1, .dead), (7, .dead)] (by simp only [push_cast, seval]) (by simp only [push_cast, seval]) (by kernel_rfl) (.inl rfl) (by simp only [push_cast, seval]) (by simp only [push_cast, seval]) ?_
          refine rf [(0, .ptr 0 0), (1, .ifc 61 (iS t)), (2, iS done), (7, .ptr 3 0), (8, iS xend18), (57, .sl c0_calls.length (fl c0_calls)), (58, iS ((c0_calls.length : Nat) : Int)), (59, iS t59q7), (98, bS r1681.1)] [(0, .row 47 [.sl r1681.2.1.length (fl r1681.2.1), .mp 1, .own 11 0 r1681.2.2.1.length]), (1, .map (mE r1681.2.2.2)), (3, .row 58 (Enc.cells c3q12)), (4, .dead), (5, .row 36 (Enc.cells (ix c0_calls t59q7))), (6, .row 3 (fl ([t59q7] : List Int))), (7, .dead), (11, .row 3 (fl r1681.2.2.1))] 12 (by kernel_rfl) ?_
          refine wk_id ?_
          refine cond_sx h (by kernel_rfl) (fun g1686 h => ?_) (fun g1686 h => ?_)
          ·refine seq_np ?_
           refine reg_f ?_
           refine rs 1 [] [] (by kernel_rfl) allP_nil ?_
           refine rf [(6, bS true)] [(0, .row 47 [.sl r1681.2.1.length (fl r1681.2.1), .mp 1, .own 11 0 r1681.2.2.1.length]), (1, .map (mE r1681.2.2.2)), (3, .row 58 (Enc.cells c3q12)), (4, .dead), (5, .row 36 (Enc.cells (ix c0_calls t59q7))), (6, .row 3 (fl ([t59q7] : List Int))), (7, .dead), (11, .row 3 (fl r1681.2.2.1))] 12 (by kernel_rfl) ?_
           refine wk_id ?_
           refine rt_cast ht4 ?_
           obtain ⟨r0, h, e0⟩ := map_sx h
           have e1 := hr4 r0 e0.symm
           subst r0
           obtain rfl := Option.some.inj h
           refine ret_at (bS true) (by kernel_rfl) ?_
           exact ret_e [(0, 0), (1, 1), (3, 11)] [] (by simp only [push_cast, seval]) (by simp only [push_cast, seval]) rfl rfl rfl
          ·refine wk_id ?_
           refine chk_sx h (fun g1685 h => ?_)
           refine reg_t ?_
           have k1684 : 0 ≤ (0 : Int) ∧ (0 : Int) ≤ (IntKind.i64.wrap (((r1681.2.2.1.length : Nat) : Int) - 1)) ∧ (IntKind.i64.wrap (((r1681.2.2.1.length : Nat) : Int) - 1)) ≤ ((r1681.2.2.1.length : Nat) : Int) := by first | simpa only [Bool.and_eq_true, decide_eq_true_eq, bne_iff_ne, ne_eq] using g1685 | (simp at g1685 ⊢; omega)
           refine rs 11 [] [] (by kernel_rfl) allP_nil ?_
           refine run_cutO r1681.2.2.1 (some 110) 11 1 3 (0 : Int) (IntKind.i64.wrap (((r1681.2.2.1.length : Nat) : Int) - 1)) (by kernel_rfl) rfl k1684 ?_
           refine rs 3 [] [] (by kernel_rfl) allP_nil ?_
           refine rt [(0, .ptr 0 0), (1, .ifc 61 (iS t)), (2, iS done), (7, .ptr 3 0), (8, iS xend18), (57, .sl c0_calls.length (fl c0_calls)), (58, iS ((c0_calls.length : Nat) : Int)), (59, iS t59q7)] [(0, .row 47 [.sl r1681.2.1.length (fl r1681.2.1), .mp 1, .own 23 0 (cut r1681.2.2.1 (0 : Int) (IntKind.i64.wrap (((r1681.2.2.1.length : Nat) : Int) - 1))).length]), (1, .map (mE r1681.2.2.2)), (3, .row 58 (Enc.cells c3q12)), (4, .dead), (5, .row 36 (Enc.cells (ix c0_calls t59q7))), (6, .row 3 (fl ([t59q7] : List Int))), (7, .dead), (11, .dead), (23, .row 3 (fl (cut r1681.2.2.1 (0 : Int) (IntKind.i64.wrap (((r1681.2.2.1.length : Nat) : Int) - 1)))))] 28 follows (by kernel_rfl) ?_
           exact hK1650 (r1681.2.1, r1681.2.2.2, (cut r1681.2.2.1 (0 : Int) (IntKind.i64.wrap (((r1681.2.2.1.length : Nat) : Int) - 1)))) _ _ _ h (leSt_m [(0, 0), (1, 1), (3, 3), (4, 23)] [] (by simp only [push_cast, seval]) (by simp only [push_cast, seval]) rfl rfl rfl)
         ·exact hK1650 (c0_calls20, c1q20, c4q18) _ _ _ h (leSt_m [(0, 0), (1, 1), (3, 3), (4, 4)] [] (by simp only [push_cast, seval]) (by simp only [push_cast, seval]) rfl rfl rfl)
      ·rintro ⟨c0_calls22, c1q22, c4q20⟩ h
       try dsimp only at h ⊢
       unfold linear_search_from_3_j2 at h
       refine wk_id ?_
       refine reg_f ?_
       refine rs 2 [] [] (by kernel_rfl) allP_nil ?_
       refine rf [(0, .ptr 0 0), (1, .ifc 61 (iS t)), (2, iS done), (7, .ptr 3 0), (8, iS xend18), (57, .sl c0_calls.length (fl c0_calls)), (58, iS ((c0_calls.length : Nat) : Int)), (59, iS (IntKind.i64.wrap (t59q7 + 1)))] [(0, .row 47 [.sl c0_calls22.length (fl c0_calls22), .mp 1, .own 4 0 c4q20.length]), (1, .map (mE c1q22)), (2, .dead), (3, .row 58 (Enc.cells c3q12)), (4, .row 3 (fl c4q20))] 5 (by kernel_rfl) ?_
       exact hn4 ((IntKind.i64.wrap (t59q7 + 1)), c0_calls22, c1q22, c4q20) _ _ _ (Option.some.inj h).symm (leSt_m [(0, 0), (1, 1), (3, 3), (4, 4)] [] (by simp only [push_cast, seval]) (by simp only [push_cast, seval]) rfl rfl rfl)
     ·change R4 (.exit 2) _ _ _
      refine ex_cast hx4 (id := 2) ?_
      obtain ⟨r0, h, e0⟩ := map_sx h
      have e1 := hr4 r0 e0.symm
      subst r0
      refine wk_id ?_
      refine wk_id ?_
      refine seq_np ?_
      refine reg_t ?_
      refine rs 6 [none, none, none, none, none, some ⟨.any, [(1, .map (mE (meSet c1q20 c3q12 1)))], 10, [1]⟩] _ (by kernel_rfl) (allP_cons (ob_msetE (K := place) c3q12 _ rfl 1 c1q20 1 10) allP_nil) ?_
      refine rt [] [(0, .row 47 [.sl c0_calls20.length (fl c0_calls20), .mp 1, .own 4 0 c4q18.length]), (1, .map (mE (meSet c1q20 c3q12 1))), (2, .dead), (3, .row 58 (Enc.cells c3q12)), (4, .row 3 (fl c4q18))] 11 follows (by kernel_rfl) ?_
      refine wk_id ?_
      refine seq_np ?_
      refine reg_f ?_
      refine rs 1 [] [] (by kernel_rfl) allP_nil ?_
      refine rf [(6, bS false)] [(0, .row 47 [.sl c0_calls20.length (fl c0_calls20), .mp 1, .own 4 0 c4q18.length]), (1, .map (mE (meSet c1q20 c3q12 1))), (2, .dead), (3, .row 58 (Enc.cells c3q12)), (4, .row 3 (fl c4q18))] 11 (by kernel_rfl) ?_
      refine wk_id ?_
      obtain rfl := Option.some.inj h
      refine ret_at (bS false) (by kernel_rfl) ?_
      exact ret_e [(0, 0), (1, 1), (3, 4)] [] (by simp only [push_cast, seval]) (by simp only [push_cast, seval]) rfl rfl rfl
set_option maxRecDepth 100000 in
theorem linear_search_from_3_spec (t : Int) (done : Int) (c0_calls : (List GCall)) (c2 : (List Int)) (c1 : (List (place × Int))) (r : Bool × (List GCall) × (List Int) × (List (place × Int))) (h : linear_search_from_3 t done c0_calls c2 c1 = some r) : SpecW Try.prog 20 [.ptr 0 0, .ifc 61 (iS t), iS done] [(0, .row 47 [.sl c0_calls.length (fl c0_calls), .mp 1, .own 2 0 c2.length]), (1, .map (mE c1)), (2, .row 3 (fl c2))] 3 (fun x h n => x = bS r.1 ∧ h = [(0, .row 47 [.sl r.2.1.length (fl r.2.1), .mp 1, .own 3 0 r.2.2.1.length]), (1, .map (mE r.2.2.2)), (2, .dead), (3, .row 3 (fl r.2.2.1))] ∧ n = 4) := linear_search_from_3_n_spec 5000 t done c0_calls c2 c1 r h

set_option maxRecDepth 100000 in
set_option maxHeartbeats 200000000 in
theorem linear_begin_2_spec (kind : Int) (hK0 : (kind == 1) = false) (hK1 : (kind == 2) = false) (r : Int) (h : linear_begin_2 kind = some r) : SpecW Try.prog 21 [iS kind] [] 0 (fun x h n => x = .ifc 62 (iS r) ∧ h = [] ∧ n = 0) := by
 unfold linear_begin_2 at h
 refine spec_of (draw_ok _) Try.func21 rfl (by decide) rfl (by kernel_rfl) ?_
 refine seq_np ?_
 refine reg_f ?_
 refine rs 1 [] [] (by kernel_rfl) allP_nil ?_
 refine rf [(0, iS kind)] [] 0 (by kernel_rfl) ?_
 refine wk_id ?_
 refine seq_np ?_
 refine seq_np ?_
 refine reg_f ?_
 refine rs 1 [] [] (by kernel_rfl) allP_nil ?_
 refine rf [(3, iS kind)] [] 0 (by kernel_rfl) ?_
 refine wk_id ?_
 refine block_np ?_
 refine seq_np ?_
 refine reg_f ?_
 refine rs 2 [] [] (by kernel_rfl) allP_nil ?_
 refine rf [(3, iS kind), (4, bS (kind == 1))] [] 0 (by kernel_rfl) ?_
 refine wk_id ?_
 refine cond_atf (b := (kind == 1)) (by kernel_rfl) hK0 ?_
 refine seq_np ?_
 refine reg_f ?_
 refine rs 2 [] [] (by kernel_rfl) allP_nil ?_
 refine rf [(7, bS (kind == 2))] [] 0 (by kernel_rfl) ?_
 refine wk_id ?_
 refine cond_atf (b := (kind == 2)) (by kernel_rfl) hK1 ?_
 refine wk_id ?_
 refine wk_id ?_
 refine seq_np ?_
 refine reg_f ?_
 refine rs 2 [] [] (by kernel_rfl) allP_nil ?_
 refine rf [(2, .ifc 62 (iS 0))] [] 0 (by kernel_rfl) ?_
 refine wk_id ?_
 obtain rfl := Option.some.inj h
 refine ret_at (.ifc 62 (iS 0)) (by kernel_rfl) ?_
 exact ret_e [] [] (by simp only [push_cast, seval]) (by simp only [push_cast, seval]) rfl rfl rfl

set_option maxRecDepth 100000 in
set_option maxHeartbeats 200000000 in
theorem linear_key_2_spec (t : Int) (done : Int) (r : place) (h : linear_key_2 t done = some r) : SpecW Try.prog 26 [.ifc 62 (iS t), iS done] [] 0 (fun x h n => x = .agg (Enc.cells r) ∧ h = [] ∧ n = 0) := by
 unfold linear_key_2 at h
 refine spec_of (draw_ok _) Try.func26 rfl (by decide) rfl (by kernel_rfl) ?_
 refine seq_np ?_
 refine reg_f ?_
 refine rs 1 [] [] (by kernel_rfl) allP_nil ?_
 refine rf [(0, .ifc 62 (iS t)), (1, iS done), (4, .ptr 0 0)] [(0, .row 58 ((iS 0 :: (iS 0 :: (Enc.cells (default : (VArr 14)) ++ []))) : List SV))] 1 (by kernel_rfl) ?_
 refine wk_id ?_
 refine seq_np ?_
 refine reg_f ?_
 refine rs 4 [] [] (by kernel_rfl) allP_nil ?_
 refine rf [(0, .ifc 62 (iS t)), (4, .ptr 0 0), (5, .ptr 1 0)] [(0, .row 58 ((iS 0 :: (iS 0 :: (Enc.cells (default : (VArr 14)) ++ []))) : List SV)), (1, .row 58 ((iS done :: (iS 0 :: (Enc.cells (default : (VArr 14)) ++ []))) : List SV))] 2 (by kernel_rfl) ?_
 refine wk_id ?_
 refine seq_np ?_
 refine seq_np ?_
 refine reg_f ?_
 refine rs 1 [] [] (by kernel_rfl) allP_nil ?_
 refine rf [(4, .ptr 0 0), (5, .ptr 1 0), (11, .ifc 62 (iS t))] [(0, .row 58 ((iS 0 :: (iS 0 :: (Enc.cells (default : (VArr 14)) ++ []))) : List SV)), (1, .row 58 ((iS done :: (iS 0 :: (Enc.cells (default : (VArr 14)) ++ []))) : List SV))] 2 (by kernel_rfl) ?_
 refine wk_id ?_
 refine block_np ?_
 refine seq_np ?_
 refine reg_f ?_
 refine rs 3 [] [] (by kernel_rfl) allP_nil ?_
 refine rf [(4, .ptr 0 0), (5, .ptr 1 0), (11, .ifc 62 (iS t)), (13, bS false), (14, iS 0)] [(0, .row 58 ((iS 0 :: (iS 0 :: (Enc.cells (default : (VArr 14)) ++ []))) : List SV)), (1, .row 58 ((iS done :: (iS 0 :: (Enc.cells (default : (VArr 14)) ++ []))) : List SV))] 2 (by kernel_rfl) ?_
 refine wk_id ?_
 refine cond_f (by kernel_rfl) ?_
 refine seq_np ?_
 refine reg_f ?_
 refine rs 3 [] [] (by kernel_rfl) allP_nil ?_
 refine rf [(4, .ptr 0 0), (5, .ptr 1 0), (11, .ifc 62 (iS t)), (18, bS true), (19, iS t)] [(0, .row 58 ((iS 0 :: (iS 0 :: (Enc.cells (default : (VArr 14)) ++ []))) : List SV)), (1, .row 58 ((iS done :: (iS 0 :: (Enc.cells (default : (VArr 14)) ++ []))) : List SV))] 2 (by kernel_rfl) ?_
 refine wk_id ?_
 refine cond_t (by kernel_rfl) ?_
 refine seq_np ?_
 refine reg_f ?_
 refine rs 1 [] [] (by kernel_rfl) allP_nil ?_
 refine rf [(4, .ptr 0 0), (5, .ptr 1 0), (7, iS t)] [(0, .row 58 ((iS 0 :: (iS 0 :: (Enc.cells (default : (VArr 14)) ++ []))) : List SV)), (1, .row 58 ((iS done :: (iS 0 :: (Enc.cells (default : (VArr 14)) ++ []))) : List SV))] 2 (by kernel_rfl) ?_
 refine wk_id ?_
 refine reg_f ?_
 refine rs 3 [] [] (by kernel_rfl) allP_nil ?_
 refine rf [(4, .ptr 0 0), (5, .ptr 1 0)] [(0, .row 58 ((iS 0 :: (iS 0 :: (Enc.cells (default : (VArr 14)) ++ []))) : List SV)), (1, .row 58 ((iS done :: (iS t :: (Enc.cells (default : (VArr 14)) ++ []))) : List SV))] 2 (by kernel_rfl) ?_
 refine wk_id ?_
 refine wk_id ?_
 refine seq_np ?_
 refine reg_f ?_
 refine rs 2 [] [] (by kernel_rfl) allP_nil ?_
 refine rf [(4, .ptr 0 0)] [(0, .row 58 ((iS done :: (iS t :: (Enc.cells (default : (VArr 14)) ++ []))) : List SV)), (1, .row 58 ((iS done :: (iS t :: (Enc.cells (default : (VArr 14)) ++ []))) : List SV))] 2 (by kernel_rfl) ?_
 refine wk_id ?_
 obtain rfl := Option.some.inj h
 refine ret_at (.agg ((iS done :: (iS t :: (Enc.cells (default : (VArr 14)) ++ []))) : List SV)) (by kernel_rfl) ?_
 exact ret_e [] [] (by simp only [push_cast, seval]) (by simp only [push_cast, seval]) rfl rfl rfl

set_option maxRecDepth 100000 in
set_option maxHeartbeats 200000000 in
theorem linear_counter_do_spec (n : Int) (c : GCall) (r : Int × Bool) (h : linear_counter_do n c = some r) : SpecW Try.prog 45 [iS n, .agg (Enc.cells c)] [] 0 (fun x h n => x = .tup [.ifc 62 (iS r.1), bS r.2] ∧ h = [] ∧ n = 0) := by
 unfold linear_counter_do at h
 refine spec_of (draw_ok _) Try.func45 rfl (by decide) rfl (by kernel_rfl) ?_
 refine seq_np ?_
 refine reg_f ?_
 refine rs 3 [] [] (by kernel_rfl) allP_nil ?_
 refine rf [(0, iS n), (3, .ptr 0 0)] [(0, .row 36 (Enc.cells c))] 1 (by kernel_rfl) ?_
 refine wk_id ?_
 refine seq_np ?_
 refine reg_f ?_
 refine rs 5 [] [] (by kernel_rfl) allP_nil ?_
 refine rf [(0, iS (IntKind.i64.wrap (n + c.Arg))), (3, .ptr 0 0)] [(0, .row 36 (Enc.cells c))] 1 (by kernel_rfl) ?_
 refine wk_id ?_
 refine seq_np ?_
 refine reg_t ?_
 refine rs 8 [] [] (by kernel_rfl) allP_nil ?_
 refine rt [(4, .ifc 62 (iS (IntKind.i64.wrap (n + c.Arg)))), (5, bS ((IntKind.i64.wrap (n + c.Arg)) == c.Ret))] [(0, .row 36 (Enc.cells c))] 9 follows (by kernel_rfl) ?_
 refine wk_id ?_
 obtain rfl := Option.some.inj h
 refine ret_at (.tup [.ifc 62 (iS (IntKind.i64.wrap (n + c.Arg))), bS ((IntKind.i64.wrap (n + c.Arg)) == c.Ret)]) (by kernel_rfl) ?_
 exact ret_e [] [] (by simp only [push_cast, seval]) (by simp only [push_cast, seval]) rfl rfl rfl

set_option maxRecDepth 100000 in
set_option maxHeartbeats 200000000 in
theorem linear_search_from_6_n_spec : ∀ (n : Nat) (t : Int) (done : Int) (c0_calls : (List GCall)) (c2 : (List Int)) (c1 : (List (place × Int))) (r : Bool × (List GCall) × (List Int) × (List (place × Int))), linear_search_from_6_n n t done c0_calls c2 c1 = some r → SpecW Try.prog 20 [.ptr 0 0, .ifc 62 (iS t), iS done] [(0, .row 47 [.sl c0_calls.length (fl c0_calls), .mp 1, .own 2 0 c2.length]), (1, .map (mE c1)), (2, .row 3 (fl c2))] 3 (fun x h n => x = bS r.1 ∧ h = [(0, .row 47 [.sl r.2.1.length (fl r.2.1), .mp 1, .own 3 0 r.2.2.1.length]), (1, .map (mE r.2.2.2)), (2, .dead), (3, .row 3 (fl r.2.2.1))] ∧ n = 4) := by
 intro n
 induction n with
 | zero => intro t done c0_calls c2 c1 r h; exact absurd (show (none : Option (Bool × (List GCall) × (List Int) × (List (place × Int)))) = some r from h) (by simp)
 | succ n ih =>
  intro t done c0_calls c2 c1 r h
  have h : linear_search_from_6_b (linear_search_from_6_n n) t done c0_calls c2 c1 = some r := h
  generalize linear_search_from_6_n n = rcf at ih h
  unfold linear_search_from_6_b at h
  refine spec_of (draw_ok _) Try.func20 rfl (by decide) rfl (by kernel_rfl) ?_
  refine seq_np ?_
  refine reg_f ?_
  refine rs 1 [] [] (by kernel_rfl) allP_nil ?_
  refine rf [(0, .ptr 0 0), (1, .ifc 62 (iS t)), (2, iS done)] [(0, .row 47 [.sl c0_calls.length (fl c0_calls), .mp 1, .own 2 0 c2.length]), (1, .map (mE c1)), (2, .row 3 (fl c2))] 3 (by kernel_rfl) ?_
  refine wk_id ?_
  refine seq_np ?_
  refine chk_sx h (fun g1937 h => ?_)
  refine seq_np ?_
  refine reg_f ?_
  have k1936 : 0 ≤ ((c0_calls.length : Nat) : Int) := by first | simpa only [Bool.and_eq_true, decide_eq_true_eq, bne_iff_ne, ne_eq] using g1937 | (simp at g1937 ⊢; omega)
  refine rs 9 [none, none, none, none, none, none, some ⟨iS (IntKind.i64.wrap ((1 : Int) * 2 ^ (min (((c0_calls.length : Nat) : Int)).toNat (IntKind.i64).bits))), [], 3, []⟩] _ (by kernel_rfl) (allP_cons (ob_p (v := iS (IntKind.i64.wrap ((1 : Int) * 2 ^ (min (((c0_calls.length : Nat) : Int)).toNat (IntKind.i64).bits)))) (nx := 3) (r := []) k1936) allP_nil) ?_
  refine rf [(0, .ptr 0 0), (1, .ifc 62 (iS t)), (2, iS done), (23, bS (done == (IntKind.i64.wrap ((IntKind.i64.wrap ((1 : Int) * 2 ^ (min (((c0_calls.length : Nat) : Int)).toNat (IntKind.i64).bits))) - 1))))] [(0, .row 47 [.sl c0_calls.length (fl c0_calls), .mp 1, .own 2 0 c2.length]), (1, .map (mE c1)), (2, .row 3 (fl c2))] 3 (by kernel_rfl) ?_
  refine wk_id ?_
  refine cond_sx h (by kernel_rfl) (fun g2247 h => ?_) (fun g2247 h => ?_)
  ·refine seq_np ?_
   refine reg_f ?_
   refine rs 1 [] [] (by kernel_rfl) allP_nil ?_
   refine rf [(6, bS true)] [(0, .row 47 [.sl c0_calls.length (fl c0_calls), .mp 1, .own 2 0 c2.length]), (1, .map (mE c1)), (2, .row 3 (fl c2))] 3 (by kernel_rfl) ?_
   refine wk_id ?_
   obtain rfl := Option.some.inj h
   refine ret_at (bS true) (by kernel_rfl) ?_
   exact ret_e [(0, 0), (1, 1), (3, 2)] [] (by simp only [push_cast, seval]) (by simp only [push_cast, seval]) rfl rfl rfl
  ·refine wk_id ?_
   refine seq_np ?_
   refine reg_f ?_
   refine rs 2 [] [] (by kernel_rfl) allP_nil ?_
   obtain ⟨r1939, hr1939, h⟩ := bind_sx h
   refine run_call 26 [.ifc 62 (iS t), iS done] (some 26) (by kernel_rfl) ?_
   refine call_0 (linear_key_2_spec t done r1939 hr1939) (by simp only [push_cast, seval]) (by simp only [push_cast, seval]) ?_
   refine back_f ?_
   refine rs 2 [] [] (by kernel_rfl) allP_nil ?_
   refine rf [(0, .ptr 0 0), (1, .ifc 62 (iS t)), (2, iS done), (7, .ptr 3 0)] [(0, .row 47 [.sl c0_calls.length (fl c0_calls), .mp 1, .own 2 0 c2.length]), (1, .map (mE c1)), (2, .row 3 (fl c2)), (3, .row 58 (Enc.cells r1939))] 4 (by kernel_rfl) ?_
   refine wk_id ?_
   refine seq_np ?_
   refine seq_np ?_
   refine reg_t ?_
   refine rs 7 [none, none, none, none, none, some ⟨iS (meGet c1 r1939), [], 9, [1]⟩] _ (by kernel_rfl) (allP_cons (ob_lookE (K := place) r1939 _ rfl c1 1 9) allP_nil) ?_
   refine rt [(0, .ptr 0 0), (1, .ifc 62 (iS t)), (2, iS done), (7, .ptr 3 0), (33, bS (decide ((0 : Int) < (meGet c1 r1939))))] [(0, .row 47 [.sl c0_calls.length (fl c0_calls), .mp 1, .own 2 0 c2.length]), (1, .map (mE c1)), (2, .row 3 (fl c2)), (3, .row 58 (Enc.cells r1939))] 11 follows (by kernel_rfl) ?_
   refine wk_id ?_
   refine cond_sx h (by kernel_rfl) (fun g2246 h => ?_) (fun g2246 h => ?_)
   ·refine seq_np ?_
    refine reg_f ?_
    refine rs 1 [] [] (by kernel_rfl) allP_nil ?_
    refine rf [(6, bS false)] [(0, .row 47 [.sl c0_calls.length (fl c0_calls), .mp 1, .own 2 0 c2.length]), (1, .map (mE c1)), (2, .row 3 (fl c2)), (3, .row 58 (Enc.cells r1939))] 11 (by kernel_rfl) ?_
    refine wk_id ?_
    obtain rfl := Option.some.inj h
    refine ret_at (bS false) (by kernel_rfl) ?_
    exact ret_e [(0, 0), (1, 1), (3, 2)] [] (by simp only [push_cast, seval]) (by simp only [push_cast, seval]) rfl rfl rfl
   ·refine wk_id ?_
    refine seq_np ?_
    refine reg_f ?_
    refine rs 1 [] [] (by kernel_rfl) allP_nil ?_
    refine rf [(0, .ptr 0 0), (1, .ifc 62 (iS t)), (2, iS done), (7, .ptr 3 0), (8, iS 1000000001)] [(0, .row 47 [.sl c0_calls.length (fl c0_calls), .mp 1, .own 2 0 c2.length]), (1, .map (mE c1)), (2, .row 3 (fl c2)), (3, .row 58 (Enc.cells r1939))] 11 (by kernel_rfl) ?_
    refine wk_id ?_
    refine seq_np ?_
    refine seq_np ?_
    refine reg_f ?_
    refine rs 6 [] [] (by kernel_rfl) allP_nil ?_
    refine rf [(0, .ptr 0 0), (1, .ifc 62 (iS t)), (2, iS done), (7, .ptr 3 0), (8, iS 1000000001), (37, .sl c0_calls.length (fl c0_calls)), (38, iS ((c0_calls.length : Nat) : Int)), (39, iS 0)] [(0, .row 47 [.sl c0_calls.length (fl c0_calls), .mp 1, .own 2 0 c2.length]), (1, .map (mE c1)), (2, .row 3 (fl c2)), (3, .row 58 (Enc.cells r1939))] 11 (by kernel_rfl) ?_
    refine wk_id ?_
    refine block_np ?_
    refine loop_sx (S := Int × Int × place) (fun a => ([(0, .ptr 0 0), (1, .ifc 62 (iS t)), (2, iS done), (7, .ptr 3 0), (8, iS a.1), (37, .sl c0_calls.length (fl c0_calls)), (38, iS ((c0_calls.length : Nat) : Int)), (39, iS a.2.1)], [(0, .row 47 [.sl c0_calls.length (fl c0_calls), .mp 1, .own 2 0 c2.length]), (1, .map (mE c1)), (2, .row 3 (fl c2)), (3, .row 58 (Enc.cells a.2.2))], 4)) h (leSt_m [(0, 0), (1, 1), (2, 2), (3, 3)] [] (by simp only [push_cast, seval]) (by simp only [push_cast, seval]) rfl rfl rfl) ?_
    rintro ⟨xend18, t39q7, c3q12⟩ o3 R3 h hr3 hn3 hx3 ht3
    try dsimp only at h hn3 ⊢
    unfold linear_search_from_6_l2 at h
    try dsimp only at h
    refine seq_np ?_
    refine reg_f ?_
    refine rs 1 [] [] (by kernel_rfl) allP_nil ?_
    refine rf [(0, .ptr 0 0), (1, .ifc 62 (iS t)), (2, iS done), (7, .ptr 3 0), (8, iS xend18), (37, .sl c0_calls.length (fl c0_calls)), (38, iS ((c0_calls.length : Nat) : Int)), (39, iS t39q7), (40, bS (decide (t39q7 < ((c0_calls.length : Nat) : Int))))] [(0, .row 47 [.sl c0_calls.length (fl c0_calls), .mp 1, .own 2 0 c2.length]), (1, .map (mE c1)), (2, .row 3 (fl c2)), (3, .row 58 (Enc.cells c3q12))] 4 (by kernel_rfl) ?_
    refine wk_id ?_
    refine seq_np ?_
    refine cond_sx h (by kernel_rfl) (fun g2245 h => ?_) (fun g2245 h => ?_)
    ·refine wk_id ?_
     refine seq_np ?_
     refine block_cut (A := Int) (fun a => ([(0, .ptr 0 0), (1, .ifc 62 (iS t)), (2, iS done), (7, .ptr 3 0), (8, iS a), (37, .sl c0_calls.length (fl c0_calls)), (38, iS ((c0_calls.length : Nat) : Int)), (39, iS t39q7)], [(0, .row 47 [.sl c0_calls.length (fl c0_calls), .mp 1, .own 2 0 c2.length]), (1, .map (mE c1)), (2, .row 3 (fl c2)), (3, .row 58 (Enc.cells c3q12))], 4)) (fun a => (linear_search_from_6_j1 t done c0_calls c2 c1 t39q7 c3q12 a) = some o3) (fun K2016 hK2016 => ?_) ?_
     ·refine chk_sx h (fun g2020 h => ?_)
      refine seq_np ?_
      refine reg_f ?_
      have k2019 : 0 ≤ t39q7 ∧ t39q7 < ((c0_calls.length : Nat) : Int) := by first | simpa only [Bool.and_eq_true, decide_eq_true_eq, bne_iff_ne, ne_eq] using g2020 | (simp at g2020 ⊢; omega)
      refine rs 6 [none, some ⟨.iptr (fl c0_calls) ((t39q7).toNat * 7), [], 4, []⟩, some ⟨.agg (Enc.cells (ix c0_calls t39q7)), [], 4, []⟩] _ (by kernel_rfl) (allP_cons (ob_ldw c0_calls t39q7 7 ((t39q7).toNat * 7) k2019 rfl (by first | rfl | omega) (Enc.cells (ix c0_calls t39q7)) rfl 4 []) (allP_cons (ob_ix_l c0_calls 7 4 t39q7 k2019) allP_nil)) ?_
      refine rf [(0, .ptr 0 0), (1, .ifc 62 (iS t)), (2, iS done), (7, .ptr 3 0), (8, iS xend18), (9, iS t39q7), (10, .ptr 4 0), (37, .sl c0_calls.length (fl c0_calls)), (38, iS ((c0_calls.length : Nat) : Int)), (39, iS t39q7)] [(0, .row 47 [.sl c0_calls.length (fl c0_calls), .mp 1, .own 2 0 c2.length]), (1, .map (mE c1)), (2, .row 3 (fl c2)), (3, .row 58 (Enc.cells c3q12)), (4, .row 36 (Enc.cells (ix c0_calls t39q7)))] 5 (by kernel_rfl) ?_
      refine wk_id ?_
      refine chk_sx h (fun g2024 h => ?_)
      refine seq_np ?_
      refine reg_f ?_
      have k2023 : 0 ≤ t39q7 := by first | simpa only [Bool.and_eq_true, decide_eq_true_eq, bne_iff_ne, ne_eq] using g2024 | (simp at g2024 ⊢; omega)
      refine rs 5 [none, none, some ⟨iS (Int.fdiv done (2 ^ (min (t39q7).toNat (IntKind.i64).bits))), [], 5, []⟩] _ (by kernel_rfl) (allP_cons (ob_p (v := iS (Int.fdiv done (2 ^ (min (t39q7).toNat (IntKind.i64).bits)))) (nx := 5) (r := []) k2023) allP_nil) ?_
      refine rf [(0, .ptr 0 0), (1, .ifc 62 (iS t)), (2, iS done), (7, .ptr 3 0), (8, iS xend18), (10, .ptr 4 0), (37, .sl c0_calls.length (fl c0_calls)), (38, iS ((c0_calls.length : Nat) : Int)), (39, iS t39q7), (48, bS ((IntKind.i64.wrap (((BitVec.ofInt (IntKind.i64).bits (Int.fdiv done (2 ^ (min (t39q7).toNat (IntKind.i64).bits))) &&& BitVec.ofInt (IntKind.i64).bits 1).toNat : Nat) : Int)) == 0))] [(0, .row 47 [.sl c0_calls.length (fl c0_calls), .mp 1, .own 2 0 c2.length]), (1, .map (mE c1)), (2, .row 3 (fl c2)), (3, .row 58 (Enc.cells c3q12)), (4, .row 36 (Enc.cells (ix c0_calls t39q7)))] 5 (by kernel_rfl) ?_
      refine wk_id ?_
      refine cond_sx h (by kernel_rfl) (fun g2025 h => ?_) (fun g2025 h => ?_)
      ·refine reg_f ?_
       refine rs 5 [] [] (by kernel_rfl) allP_nil ?_
       refine rf [(0, .ptr 0 0), (1, .ifc 62 (iS t)), (2, iS done), (7, .ptr 3 0), (8, iS (min xend18 (ix c0_calls t39q7).End)), (37, .sl c0_calls.length (fl c0_calls)), (38, iS ((c0_calls.length : Nat) : Int)), (39, iS t39q7)] [(0, .row 47 [.sl c0_calls.length (fl c0_calls), .mp 1, .own 2 0 c2.length]), (1, .map (mE c1)), (2, .row 3 (fl c2)), (3, .row 58 (Enc.cells c3q12)), (4, .row 36 (Enc.cells (ix c0_calls t39q7)))] 5 (by kernel_rfl) ?_
       exact hK2016 ((min xend18 (ix c0_calls t39q7).End)) _ _ _ h (leSt_m [(0, 0), (1, 1), (2, 2), (3, 3)] [] (by simp only [push_cast, seval]) (by simp only [push_cast, seval]) rfl rfl rfl)
      ·exact hK2016 (xend18) _ _ _ h (leSt_m [(0, 0), (1, 1), (2, 2), (3, 3)] [] (by simp only [push_cast, seval]) (by simp only [push_cast, seval]) rfl rfl rfl)
     ·rintro xend20 h
      try dsimp only at h ⊢
      unfold linear_search_from_6_j1 at h
      refine wk_id ?_
      refine reg_f ?_
      refine rs 2 [] [] (by kernel_rfl) allP_nil ?_
      refine rf [(0, .ptr 0 0), (1, .ifc 62 (iS t)), (2, iS done), (7, .ptr 3 0), (8, iS xend20), (37, .sl c0_calls.length (fl c0_calls)), (38, iS ((c0_calls.length : Nat) : Int)), (39, iS (IntKind.i64.wrap (t39q7 + 1)))] [(0, .row 47 [.sl c0_calls.length (fl c0_calls), .mp 1, .own 2 0 c2.length]), (1, .map (mE c1)), (2, .row 3 (fl c2)), (3, .row 58 (Enc.cells c3q12))] 4 (by kernel_rfl) ?_
      exact hn3 (xend20, (IntKind.i64.wrap (t39q7 + 1)), c3q12) _ _ _ (Option.some.inj h).symm (leSt_m [(0, 0), (1, 1), (2, 2), (3, 3)] [] (by simp only [push_cast, seval]) (by simp only [push_cast, seval]) rfl rfl rfl)
    ·change R3 (.exit 0) _ _ _
     refine ex_cast hx3 (id := 0) ?_
     obtain ⟨r0, h, e0⟩ := map_sx h
     have e1 := hr3 r0 e0.symm
     subst r0
     refine wk_id ?_
     refine wk_id ?_
     refine seq_np ?_
     refine seq_np ?_
     refine reg_f ?_
     refine rs 6 [] [] (by kernel_rfl) allP_nil ?_
     refine rf [(0, .ptr 0 0), (1, .ifc 62 (iS t)), (2, iS done), (7, .ptr 3 0), (8, iS xend18), (57, .sl c0_calls.length (fl c0_calls)), (58, iS ((c0_calls.length : Nat) : Int)), (59, iS 0)] [(0, .row 47 [.sl c0_calls.length (fl c0_calls), .mp 1, .own 2 0 c2.length]), (1, .map (mE c1)), (2, .row 3 (fl c2)), (3, .row 58 (Enc.cells c3q12))] 4 (by kernel_rfl) ?_
     refine wk_id ?_
     refine block_np ?_
     refine loop_sx (S := Int × (List GCall) × (List (place × Int)) × (List Int)) (fun a => ([(0, .ptr 0 0), (1, .ifc 62 (iS t)), (2, iS done), (7, .ptr 3 0), (8, iS xend18), (57, .sl c0_calls.length (fl c0_calls)), (58, iS ((c0_calls.length : Nat) : Int)), (59, iS a.1)], [(0, .row 47 [.sl a.2.1.length (fl a.2.1), .mp 1, .own 4 0 a.2.2.2.length]), (1, .map (mE a.2.2.1)), (2, .dead), (3, .row 58 (Enc.cells c3q12)), (4, .row 3 (fl a.2.2.2))], 5)) h (leSt_m [(0, 0), (1, 1), (3, 3), (4, 2)] [] (by simp only [push_cast, seval]) (by simp only [push_cast, seval]) rfl rfl rfl) ?_
     rintro ⟨t59q7, c0_calls20, c1q20, c4q18⟩ o4 R4 h hr4 hn4 hx4 ht4
     try dsimp only at h hn4 ⊢
     unfold linear_search_from_6_l1 at h
     try dsimp only at h
     refine seq_np ?_
     refine reg_f ?_
     refine rs 1 [] [] (by kernel_rfl) allP_nil ?_
     refine rf [(0, .ptr 0 0), (1, .ifc 62 (iS t)), (2, iS done), (7, .ptr 3 0), (8, iS xend18), (57, .sl c0_calls.length (fl c0_calls)), (58, iS ((c0_calls.length : Nat) : Int)), (59, iS t59q7), (60, bS (decide (t59q7 < ((c0_calls.length : Nat) : Int))))] [(0, .row 47 [.sl c0_calls20.length (fl c0_calls20), .mp 1, .own 4 0 c4q18.length]), (1, .map (mE c1q20)), (2, .dead), (3, .row 58 (Enc.cells c3q12)), (4, .row 3 (fl c4q18))] 5 (by kernel_rfl) ?_
     refine wk_id ?_
     refine seq_np ?_
     refine cond_sx h (by kernel_rfl) (fun g2244 h => ?_) (fun g2244 h => ?_)
     ·refine wk_id ?_
      refine seq_np ?_
      refine block_cut (A := (List GCall) × (List (place × Int)) × (List Int)) (fun a => ([(0, .ptr 0 0), (1, .ifc 62 (iS t)), (2, iS done), (7, .ptr 3 0), (8, iS xend18), (57, .sl c0_calls.length (fl c0_calls)), (58, iS ((c0_calls.length : Nat) : Int)), (59, iS t59q7)], [(0, .row 47 [.sl a.1.length (fl a.1), .mp 1, .own 4 0 a.2.2.length]), (1, .map (mE a.2.1)), (2, .dead), (3, .row 58 (Enc.cells c3q12)), (4, .row 3 (fl a.2.2))], 5)) (fun a => (linear_search_from_6_j2 t done c0_calls xend18 c3q12 t59q7 a.1 a.2.1 a.2.2) = some o4) (fun K2205 hK2205 => ?_) ?_
      ·refine chk_sx h (fun g2209 h => ?_)
       refine seq_np ?_
       refine reg_f ?_
       have k2208 : 0 ≤ t59q7 ∧ t59q7 < ((c0_calls.length : Nat) : Int) := by first | simpa only [Bool.and_eq_true, decide_eq_true_eq, bne_iff_ne, ne_eq] using g2209 | (simp at g2209 ⊢; omega)
       refine rs 6 [none, some ⟨.iptr (fl c0_calls) ((t59q7).toNat * 7), [], 5, []⟩, some ⟨.agg (Enc.cells (ix c0_calls t59q7)), [], 5, []⟩] _ (by kernel_rfl) (allP_cons (ob_ldw c0_calls t59q7 7 ((t59q7).toNat * 7) k2208 rfl (by first | rfl | omega) (Enc.cells (ix c0_calls t59q7)) rfl 5 []) (allP_cons (ob_ix_l c0_calls 7 5 t59q7 k2208) allP_nil)) ?_
       refine rf [(0, .ptr 0 0), (1, .ifc 62 (iS t)), (2, iS done), (7, .ptr 3 0), (8, iS xend18), (11, iS t59q7), (12, .ptr 5 0), (57, .sl c0_calls.length (fl c0_calls)), (58, iS ((c0_calls.length : Nat) : Int)), (59, iS t59q7)] [(0, .row 47 [.sl c0_calls20.length (fl c0_calls20), .mp 1, .own 4 0 c4q18.length]), (1, .map (mE c1q20)), (2, .dead), (3, .row 58 (Enc.cells c3q12)), (4, .row 3 (fl c4q18)), (5, .row 36 (Enc.cells (ix c0_calls t59q7)))] 6 (by kernel_rfl) ?_
       refine wk_id ?_
       refine seq_np ?_
       refine chk_sx h (fun g2219 h => ?_)
       refine seq_cut (A := Unit) (fun _ => ([(0, .ptr 0 0), (1, .ifc 62 (iS t)), (2, iS done), (7, .ptr 3 0), (8, iS xend18), (11, iS t59q7), (12, .ptr 5 0), (57, .sl c0_calls.length (fl c0_calls)), (58, iS ((c0_calls.length : Nat) : Int)), (59, iS t59q7), (74, bS (((IntKind.i64.wrap (((BitVec.ofInt (IntKind.i64).bits (Int.fdiv done (2 ^ (min (t59q7).toNat (IntKind.i64).bits))) &&& BitVec.ofInt (IntKind.i64).bits 1).toNat : Nat) : Int)) == 1) || (decide (xend18 < (ix c0_calls t59q7).Begin))))], [(0, .row 47 [.sl c0_calls20.length (fl c0_calls20), .mp 1, .own 4 0 c4q18.length]), (1, .map (mE c1q20)), (3, .row 58 (Enc.cells c3q12)), (4, .row 3 (fl c4q18)), (5, .row 36 (Enc.cells (ix c0_calls t59q7)))], 6)) (fun _ => True) (fun K2217 hK2217 => ?_) (fun _ _ => ?_)
       ·refine reg_f ?_
        have k2218 : 0 ≤ t59q7 := by first | simpa only [Bool.and_eq_true, decide_eq_true_eq, bne_iff_ne, ne_eq] using g2219 | (simp at g2219 ⊢; omega)
        refine rs 6 [none, none, some ⟨iS (Int.fdiv done (2 ^ (min (t59q7).toNat (IntKind.i64).bits))), [], 6, []⟩] _ (by kernel_rfl) (allP_cons (ob_p (v := iS (Int.fdiv done (2 ^ (min (t59q7).toNat (IntKind.i64).bits)))) (nx := 6) (r := []) k2218) allP_nil) ?_
        refine run_split 69 ((IntKind.i64.wrap (((BitVec.ofInt (IntKind.i64).bits (Int.fdiv done (2 ^ (min (t59q7).toNat (IntKind.i64).bits))) &&& BitVec.ofInt (IntKind.i64).bits 1).toNat : Nat) : Int)) == 1) (.inl (by kernel_rfl)) (fun g2220 => ?_) (fun g2220 => ?_)
        ·refine rs 5 [] [] (by kernel_rfl) allP_nil ?_
         refine rf [(0, .ptr 0 0), (1, .ifc 62 (iS t)), (2, iS done), (7, .ptr 3 0), (8, iS xend18), (11, iS t59q7), (12, .ptr 5 0), (57, .sl c0_calls.length (fl c0_calls)), (58, iS ((c0_calls.length : Nat) : Int)), (59, iS t59q7), (74, bS true)] [(0, .row 47 [.sl c0_calls20.length (fl c0_calls20), .mp 1, .own 4 0 c4q18.length]), (1, .map (mE c1q20)), (2, .dead), (3, .row 58 (Enc.cells c3q12)), (4, .row 3 (fl c4q18)), (5, .row 36 (Enc.cells (ix c0_calls t59q7)))] 6 (by kernel_rfl) ?_
         exact hK2217 () _ _ _ trivial (leSt_m [(0, 0), (1, 1), (3, 3), (4, 4), (5, 5)] [] (by (try simp only [g2220]) <;> simp only [push_cast, seval]) (by (try simp only [g2220]) <;> simp only [push_cast, seval]) rfl rfl rfl)
        ·refine rs 5 [] [] (by kernel_rfl) allP_nil ?_
         refine rf [(0, .ptr 0 0), (1, .ifc 62 (iS t)), (2, iS done), (7, .ptr 3 0), (8, iS xend18), (11, iS t59q7), (12, .ptr 5 0), (57, .sl c0_calls.length (fl c0_calls)), (58, iS ((c0_calls.length : Nat) : Int)), (59, iS t59q7), (74, bS (decide (xend18 < (ix c0_calls t59q7).Begin)))] [(0, .row 47 [.sl c0_calls20.length (fl c0_calls20), .mp 1, .own 4 0 c4q18.length]), (1, .map (mE c1q20)), (2, .dead), (3, .row 58 (Enc.cells c3q12)), (4, .row 3 (fl c4q18)), (5, .row 36 (Enc.cells (ix c0_calls t59q7)))] 6 (by kernel_rfl) ?_
         exact hK2217 () _ _ _ trivial (leSt_m [(0, 0), (1, 1), (3, 3), (4, 4), (5, 5)] [] (by (try simp only [g2220]) <;> simp only [push_cast, seval]) (by (try simp only [g2220]) <;> simp only [push_cast, seval]) rfl rfl rfl)
       ·dsimp only
        refine cond_sx h (by kernel_rfl) (fun g2243 h => ?_) (fun g2243 h => ?_)
        ·exact hK2205 (c0_calls20, c1q20, c4q18) _ _ _ h (leSt_m [(0, 0), (1, 1), (3, 3), (4, 4)] [] (by simp only [push_cast, seval]) (by simp only [push_cast, seval]) rfl rfl rfl)
        ·refine wk_id ?_
         refine seq_np ?_
         refine reg_f ?_
         refine rs 2 [] [] (by kernel_rfl) allP_nil ?_
         obtain ⟨r2222, hr2222, h⟩ := bind_sx h
         refine call_xI (linear_counter_do_spec t (ix c0_calls t59q7) r2222 hr2222) (args := [iS t, .agg (Enc.cells (ix c0_calls t59q7))]) (dst := (some 78)) (by kernel_rfl) [(0, .row 47 [.sl c0_calls20.length (fl c0_calls20), .mp 1, .own 4 0 c4q18.length]), (1, .map (mE c1q20)), (3, .row 58 (Enc.cells c3q12)), (4, .row 3 (fl c4q18)), (5, .row 36 (Enc.cells (ix c0_calls t59q7)))] 6 (by kernel_rfl) [] [] (.tup [.ifc 62 (iS r2222.1), bS r2222.2]) [] (by simp only [push_cast, seval]) (by simp only [push_cast, seval]) (by kernel_rfl) (.inl rfl) (by simp only [push_cast, seval]) (by simp only [push_cast, seval]) ?_
         refine rs 5 [] [] (by kernel_rfl) allP_nil ?_
         refine rf [(0, .ptr 0 0), (1, .ifc 62 (iS t)), (2, iS done), (7, .ptr 3 0), (8, iS xend18), (11, iS t59q7), (13, .ifc 62 (iS r2222.1)), (14, bS r2222.2), (57, .sl c0_calls.length (fl c0_calls)), (58, iS ((c0_calls.length : Nat) : Int)), (59, iS t59q7)] [(0, .row 47 [.sl c0_calls20.length (fl c0_calls20), .mp 1, .own 4 0 c4q18.length]), (1, .map (mE c1q20)), (3, .row 58 (Enc.cells c3q12)), (4, .row 3 (fl c4q18)), (5, .row 36 (Enc.cells (ix c0_calls t59q7)))] 6 (by kernel_rfl) ?_
         refine wk_id ?_
         refine seq_np ?_
         refine reg_f ?_
         refine rs 1 [] [] (by kernel_rfl) allP_nil ?_
         refine rf [(0, .ptr 0 0), (1, .ifc 62 (iS t)), (2, iS done), (7, .ptr 3 0), (8, iS xend18), (11, iS t59q7), (13, .ifc 62 (iS r2222.1)), (57, .sl c0_calls.length (fl c0_calls)), (58, iS ((c0_calls.length : Nat) : Int)), (59, iS t59q7), (81, bS r2222.2)] [(0, .row 47 [.sl c0_calls20.length (fl c0_calls20), .mp 1, .own 4 0 c4q18.length]), (1, .map (mE c1q20)), (3, .row 58 (Enc.cells c3q12)), (4, .row 3 (fl c4q18)), (5, .row 36 (Enc.cells (ix c0_calls t59q7)))] 6 (by kernel_rfl) ?_
         refine wk_id ?_
         refine cond_sx h (by kernel_rfl) (fun g2242 h => ?_) (fun g2242 h => ?_)
         ·refine chk_sx h (fun g2226 h => ?_)
          refine seq_np ?_
          refine reg_f ?_
          have k2225 : (c4q18 ++ ([t59q7] : List Int)).length * 8 ≤ 140737488355328 := by first | simpa only [Bool.and_eq_true, decide_eq_true_eq, bne_iff_ne, ne_eq] using g2226 | (simp at g2226 ⊢; omega)
          refine rs 11 [none, none, none, none, none, none, none, some ⟨.own 7 0 (c4q18 ++ ([t59q7] : List Int)).length, [(7, .row 3 (fl (c4q18 ++ ([t59q7] : List Int)))), (4, .dead)], 8, [4, 6]⟩] _ (by kernel_rfl) (allP_cons (ob_app (P := Try.prog) c4q18 ([t59q7] : List Int) 1 8 rfl (appCells (fl ([t59q7] : List Int)) 0 (([t59q7] : List Int).length * 1)) ([t59q7] : List Int).length (app_own ([t59q7] : List Int) 1 rfl) rfl (0 + ([t59q7] : List Int).length * 1 ≤ (fl ([t59q7] : List Int)).length) (app_own_le ([t59q7] : List Int) 1 rfl) 3 (by kernel_rfl) (by decide) k2225 4 7 [6]) allP_nil) ?_
          refine rf [(0, .ptr 0 0), (1, .ifc 62 (iS t)), (2, iS done), (7, .ptr 3 0), (8, iS xend18), (11, iS t59q7), (13, .ifc 62 (iS r2222.1)), (57, .sl c0_calls.length (fl c0_calls)), (58, iS ((c0_calls.length : Nat) : Int)), (59, iS t59q7)] [(0, .row 47 [.sl c0_calls20.length (fl c0_calls20), .mp 1, .own 7 0 (c4q18 ++ ([t59q7] : List Int)).length]), (1, .map (mE c1q20)), (3, .row 58 (Enc.cells c3q12)), (4, .dead), (5, .row 36 (Enc.cells (ix c0_calls t59q7))), (6, .row 3 (fl ([t59q7] : List Int))), (7, .row 3 (fl (c4q18 ++ ([t59q7] : List Int))))] 8 (by kernel_rfl) ?_
          refine wk_id ?_
          refine seq_np ?_
          refine chk_sx h (fun g2235 h => ?_)
          refine seq_np ?_
          refine reg_f ?_
          have k2234 : 0 ≤ t59q7 := by first | simpa only [Bool.and_eq_true, decide_eq_true_eq, bne_iff_ne, ne_eq] using g2235 | (simp at g2235 ⊢; omega)
          refine rs 6 [none, none, none, none, some ⟨iS (IntKind.i64.wrap ((1 : Int) * 2 ^ (min (t59q7).toNat (IntKind.i64).bits))), [], 8, []⟩] _ (by kernel_rfl) (allP_cons (ob_p (v := iS (IntKind.i64.wrap ((1 : Int) * 2 ^ (min (t59q7).toNat (IntKind.i64).bits)))) (nx := 8) (r := []) k2234) allP_nil) ?_
          obtain ⟨r2236, hr2236, h⟩ := bind_sx h
          refine call_x (ih r2222.1 (IntKind.i64.wrap (((BitVec.ofInt (IntKind.i64).bits done ||| BitVec.ofInt (IntKind.i64).bits (IntKind.i64.wrap ((1 : Int) * 2 ^ (min (t59q7).toNat (IntKind.i64).bits)))).toNat : Nat) : Int)) c0_calls20 (c4q18 ++ ([t59q7] : List Int)) c1q20 r2236 hr2236) (args := [.ptr 0 0, .ifc 62 (iS r2222.1), iS (IntKind.i64.wrap (((BitVec.ofInt (IntKind.i64).bits done ||| BitVec.ofInt (IntKind.i64).bits (IntKind.i64.wrap ((1 : Int) * 2 ^ (min (t59q7).toNat (IntKind.i64).bits)))).toNat : Nat) : Int))]) (dst := (some 98)) (by kernel_rfl) [(0, .row 47 [.sl c0_calls20.length (fl c0_calls20), .mp 1, .own 7 0 (c4q18 ++ ([t59q7] : List Int)).length]), (1, .map (mE c1q20)), (3, .row 58 (Enc.cells c3q12)), (4, .dead), (5, .row 36 (Enc.cells (ix c0_calls t59q7))), (6, .row 3 (fl ([t59q7] : List Int))), (7, .row 3 (fl (c4q18 ++ ([t59q7] : List Int))))] 8 (by kernel_rfl) [(0, 0), (1, 1), (2, 7)] [] (bS r2236.1) [(0, .row 47 [.sl r2236.2.1.length (fl r2236.2.1), .mp 1, .own 11 0 r2236.2.2.1.length]), (1, .map (mE r2236.2.2.2)), (7, .dead), (11, .row 3 (fl r2236.2.2.1)), (0, .dead), (1, .dead), (7, .dead)] (by simp only [push_cast, seval]) (by simp only [push_cast, seval]) (by kernel_rfl) (.inl rfl) (by simp only [push_cast, seval]) (by simp only [push_cast, seval]) ?_
          refine rf [(0, .ptr 0 0), (1, .ifc 62 (iS t)), (2, iS done), (7, .ptr 3 0), (8, iS xend18), (57, .sl c0_calls.length (fl c0_calls)), (58, iS ((c0_calls.length : Nat) : Int)), (59, iS t59q7), (98, bS r2236.1)] [(0, .row 47 [.sl r2236.2.1.length (fl r2236.2.1), .mp 1, .own 11 0 r2236.2.2.1.length]), (1, .map (mE r2236.2.2.2)), (3, .row 58 (Enc.cells c3q12)), (4, .dead), (5, .row 36 (Enc.cells (ix c0_calls t59q7))), (6, .row 3 (fl ([t59q7] : List Int))), (7, .dead), (11, .row 3 (fl r2236.2.2.1))] 12 (by kernel_rfl) ?_
          refine wk_id ?_
          refine cond_sx h (by kernel_rfl) (fun g2241 h => ?_) (fun g2241 h => ?_)
          ·refine seq_np ?_
           refine reg_f ?_
           refine rs 1 [] [] (by kernel_rfl) allP_nil ?_
           refine rf [(6, bS true)] [(0, .row 47 [.sl r2236.2.1.length (fl r2236.2.1), .mp 1, .own 11 0 r2236.2.2.1.length]), (1, .map (mE r2236.2.2.2)), (3, .row 58 (Enc.cells c3q12)), (4, .dead), (5, .row 36 (Enc.cells (ix c0_calls t59q7))), (6, .row 3 (fl ([t59q7] : List Int))), (7, .dead), (11, .row 3 (fl r2236.2.2.1))] 12 (by kernel_rfl) ?_
           refine wk_id ?_
           refine rt_cast ht4 ?_
           obtain ⟨r0, h, e0⟩ := map_sx h
           have e1 := hr4 r0 e0.symm
           subst r0
           obtain rfl := Option.some.inj h
           refine ret_at (bS true) (by kernel_rfl) ?_
           exact ret_e [(0, 0), (1, 1), (3, 11)] [] (by simp only [push_cast, seval]) (by simp only [push_cast, seval]) rfl rfl rfl
          ·refine wk_id ?_
           refine chk_sx h (fun g2240 h => ?_)
           refine reg_t ?_
           have k2239 : 0 ≤ (0 : Int) ∧ (0 : Int) ≤ (IntKind.i64.wrap (((r2236.2.2.1.length : Nat) : Int) - 1)) ∧ (IntKind.i64.wrap (((r2236.2.2.1.length : Nat) : Int) - 1)) ≤ ((r2236.2.2.1.length : Nat) : Int) := by first | simpa only [Bool.and_eq_true, decide_eq_true_eq, bne_iff_ne, ne_eq] using g2240 | (simp at g2240 ⊢; omega)
           refine rs 11 [] [] (by kernel_rfl) allP_nil ?_
           refine run_cutO r2236.2.2.1 (some 110) 11 1 3 (0 : Int) (IntKind.i64.wrap (((r2236.2.2.1.length : Nat) : Int) - 1)) (by kernel_rfl) rfl k2239 ?_
           refine rs 3 [] [] (by kernel_rfl) allP_nil ?_
           refine rt [(0, .ptr 0 0), (1, .ifc 62 (iS t)), (2, iS done), (7, .ptr 3 0), (8, iS xend18), (57, .sl c0_calls.length (fl c0_calls)), (58, iS ((c0_calls.length : Nat) : Int)), (59, iS t59q7)] [(0, .row 47 [.sl r2236.2.1.length (fl r2236.2.1), .mp 1, .own 23 0 (cut r2236.2.2.1 (0 : Int) (IntKind.i64.wrap (((r2236.2.2.1.length : Nat) : Int) - 1))).length]), (1, .map (mE r2236.2.2.2)), (3, .row 58 (Enc.cells c3q12)), (4, .dead), (5, .row 36 (Enc.cells (ix c0_calls t59q7))), (6, .row 3 (fl ([t59q7] : List Int))), (7, .dead), (11, .dead), (23, .row 3 (fl (cut r2236.2.2.1 (0 : Int) (IntKind.i64.wrap (((r2236.2.2.1.length : Nat) : Int) - 1)))))] 28 follows (by kernel_rfl) ?_
           exact hK2205 (r2236.2.1, r2236.2.2.2, (cut r2236.2.2.1 (0 : Int) (IntKind.i64.wrap (((r2236.2.2.1.length : Nat) : Int) - 1)))) _ _ _ h (leSt_m [(0, 0), (1, 1), (3, 3), (4, 23)] [] (by simp only [push_cast, seval]) (by simp only [push_cast, seval]) rfl rfl rfl)
         ·exact hK2205 (c0_calls20, c1q20, c4q18) _ _ _ h (leSt_m [(0, 0), (1, 1), (3, 3), (4, 4)] [] (by simp only [push_cast, seval]) (by simp only [push_cast, seval]) rfl rfl rfl)
      ·rintro ⟨c0_calls22, c1q22, c4q20⟩ h
       try dsimp only at h ⊢
       unfold linear_search_from_6_j2 at h
       refine wk_id ?_
       refine reg_f ?_
       refine rs 2 [] [] (by kernel_rfl) allP_nil ?_
       refine rf [(0, .ptr 0 0), (1, .ifc 62 (iS t)), (2, iS done), (7, .ptr 3 0), (8, iS xend18), (57, .sl c0_calls.length (fl c0_calls)), (58, iS ((c0_calls.length : Nat) : Int)), (59, iS (IntKind.i64.wrap (t59q7 + 1)))] [(0, .row 47 [.sl c0_calls22.length (fl c0_calls22), .mp 1, .own 4 0 c4q20.length]), (1, .map (mE c1q22)), (2, .dead), (3, .row 58 (Enc.cells c3q12)), (4, .row 3 (fl c4q20))] 5 (by kernel_rfl) ?_
       exact hn4 ((IntKind.i64.wrap (t59q7 + 1)), c0_calls22, c1q22, c4q20) _ _ _ (Option.some.inj h).symm (leSt_m [(0, 0), (1, 1), (3, 3), (4, 4)] [] (by simp only [push_cast, seval]) (by simp only [push_cast, seval]) rfl rfl rfl)
     ·change R4 (.exit 2) _ _ _
      refine ex_cast hx4 (id := 2) ?_
      obtain ⟨r0, h, e0⟩ := map_sx h
      have e1 := hr4 r0 e0.symm
      subst r0
      refine wk_id ?_
      refine wk_id ?_
      refine seq_np ?_
      refine reg_t ?_
      refine rs 6 [none, none, none, none, none, some ⟨.any, [(1, .map (mE (meSet c1q20 c3q12 1)))], 10, [1]⟩] _ (by kernel_rfl) (allP_cons (ob_msetE (K := place) c3q12 _ rfl 1 c1q20 1 10) allP_nil) ?_
      refine rt [] [(0, .row 47 [.sl c0_calls20.length (fl c0_calls20), .mp 1, .own 4 0 c4q18.length]), (1, .map (mE (meSet c1q20 c3q12 1))), (2, .dead), (3, .row 58 (Enc.cells c3q12)), (4, .row 3 (fl c4q18))] 11 follows (by kernel_rfl) ?_
      refine wk_id ?_
      refine seq_np ?_
      refine reg_f ?_
      refine rs 1 [] [] (by kernel_rfl) allP_nil ?_
      refine rf [(6, bS false)] [(0, .row 47 [.sl c0_calls20.length (fl c0_calls20), .mp 1, .own 4 0 c4q18.length]), (1, .map (mE (meSet c1q20 c3q12 1))), (2, .dead), (3, .row 58 (Enc.cells c3q12)), (4, .row 3 (fl c4q18))] 11 (by kernel_rfl) ?_
      refine wk_id ?_
      obtain rfl := Option.some.inj h
      refine ret_at (bS false) (by kernel_rfl) ?_
      exact ret_e [(0, 0), (1, 1), (3, 4)] [] (by simp only [push_cast, seval]) (by simp only [push_cast, seval]) rfl rfl rfl
set_option maxRecDepth 100000 in
theorem linear_search_from_6_spec (t : Int) (done : Int) (c0_calls : (List GCall)) (c2 : (List Int)) (c1 : (List (place × Int))) (r : Bool × (List GCall) × (List Int) × (List (place × Int))) (h : linear_search_from_6 t done c0_calls c2 c1 = some r) : SpecW Try.prog 20 [.ptr 0 0, .ifc 62 (iS t), iS done] [(0, .row 47 [.sl c0_calls.length (fl c0_calls), .mp 1, .own 2 0 c2.length]), (1, .map (mE c1)), (2, .row 3 (fl c2))] 3 (fun x h n => x = bS r.1 ∧ h = [(0, .row 47 [.sl r.2.1.length (fl r.2.1), .mp 1, .own 3 0 r.2.2.1.length]), (1, .map (mE r.2.2.2)), (2, .dead), (3, .row 3 (fl r.2.2.1))] ∧ n = 4) := linear_search_from_6_n_spec 5000 t done c0_calls c2 c1 r h

set_option maxRecDepth 100000 in
set_option maxHeartbeats 200000000 in
theorem linear_Find_spec (kind : Int) (l : (List GCall)) (r : Fault × (List Int)) (h : linear_Find kind l = some r) : SpecW Try.prog 9 [iS kind, .sl l.length (fl l)] [] 0 (fun x h n => x = .tup [.own 0 0 r.2.length, .agg (Enc.cells r.1)] ∧ h = [(0, .row 3 (fl r.2))] ∧ n = 1) := by
 unfold linear_Find at h
 refine spec_of (draw_ok _) Try.func9 rfl (by decide) rfl (by kernel_rfl) ?_
 refine seq_np ?_
 refine reg_f ?_
 refine rs 2 [] [] (by kernel_rfl) allP_nil ?_
 refine rf [(0, iS kind), (1, .sl l.length (fl l)), (5, .ptr 0 0)] [(0, .row 26 [iS 0, iS 0])] 1 (by kernel_rfl) ?_
 refine wk_id ?_
 refine seq_np ?_
 refine seq_np ?_
 refine reg_f ?_
 refine rs 2 [] [] (by kernel_rfl) allP_nil ?_
 obtain ⟨r2256, hr2256, h⟩ := bind_sx h
 refine run_call 16 [iS kind, .sl l.length (fl l)] (some 10) (by kernel_rfl) ?_
 refine call_0 (linear_Check_spec kind l r2256 hr2256) (by simp only [push_cast, seval]) (by simp only [push_cast, seval]) ?_
 refine back_f ?_
 refine rs 2 [] [] (by kernel_rfl) allP_nil ?_
 refine rf [(0, iS kind), (1, .sl l.length (fl l)), (5, .ptr 0 0), (6, .ptr 1 0)] [(0, .row 26 [iS 0, iS 0]), (1, .row 26 (Enc.cells r2256))] 2 (by kernel_rfl) ?_
 refine wk_id ?_
 refine seq_np ?_
 refine reg_f ?_
 refine rs 3 [] [] (by kernel_rfl) allP_nil ?_
 refine rf [(0, iS kind), (1, .sl l.length (fl l)), (5, .ptr 0 0), (6, .ptr 1 0), (13, bS (r2256.Code != 0))] [(0, .row 26 [iS 0, iS 0]), (1, .row 26 (Enc.cells r2256))] 2 (by kernel_rfl) ?_
 refine wk_id ?_
 refine cond_sx h (by kernel_rfl) (fun g2296 h => ?_) (fun g2296 h => ?_)
 ·refine seq_np ?_
  refine reg_t ?_
  refine rs 3 [] [] (by kernel_rfl) allP_nil ?_
  refine rt [(4, .v (.slice none 0 0)), (5, .ptr 0 0)] [(0, .row 26 (Enc.cells r2256)), (1, .row 26 (Enc.cells r2256))] 5 follows (by kernel_rfl) ?_
  refine wk_id ?_
  obtain rfl := Option.some.inj h
  refine ret_at (.tup [.v (.slice none 0 0), .agg (Enc.cells r2256)]) (by kernel_rfl) ?_
  exact ret_e [] [] (by simp only [push_cast, seval]) (by simp only [push_cast, seval]) rfl rfl rfl
 ·refine wk_id ?_
  refine seq_np ?_
  refine reg_f ?_
  refine rs 5 [] [] (by kernel_rfl) allP_nil ?_
  refine rf [(0, iS kind), (5, .ptr 0 0), (7, .ptr 3 0)] [(0, .row 26 [iS 0, iS 0]), (1, .row 26 (Enc.cells r2256)), (2, .map (mE ([] : List (place × Int)))), (3, .row 47 [.sl l.length (fl l), .mp 2, .v (.slice none 0 0)])] 4 (by kernel_rfl) ?_
  refine wk_id ?_
  refine seq_cut (A := (List GCall) × (List (place × Int)) × (List Int)) (fun a => ([(5, .ptr 0 0), (7, .ptr 1 0)], [(0, .row 26 [iS 0, iS 0]), (1, .row 47 [.sl a.1.length (fl a.1), .mp 2, .own 3 0 a.2.2.length]), (2, .map (mE a.2.1)), (3, .row 3 (fl a.2.2))], 4)) (fun a => (linear_Find_j1 a.1 a.2.1 a.2.2) = some r) (fun K2272 hK2272 => ?_) ?_
  ·refine bsplit_sx h (fun g2273 h => ?_) (fun g2273 h => ?_)
   ·refine seq_np ?_
    refine reg_f ?_
    refine rs 2 [] [] (by kernel_rfl) allP_nil ?_
    obtain ⟨r2276, hr2276, h⟩ := bind_sx h
    refine run_call 21 [iS kind] (some 21) (by kernel_rfl) ?_
    refine call_0 (linear_begin_spec kind g2273 r2276 hr2276) (by simp only [push_cast, seval]) (by simp only [push_cast, seval]) ?_
    refine back_f ?_
    obtain ⟨r2277, hr2277, h⟩ := bind_sx h
    refine call_x (linear_search_from_spec [] 0 l [] ([] : List (place × Int)) r2277 hr2277) (args := [.ptr 3 0, .ifc 60 (.v (.slice none 0 0)), iS 0]) (dst := (some 22)) (by kernel_rfl) [(0, .row 26 [iS 0, iS 0]), (1, .row 26 (Enc.cells r2256)), (2, .map (mE ([] : List (place × Int)))), (3, .row 47 [.sl l.length (fl l), .mp 2, .v (.slice none 0 0)])] 4 (by kernel_rfl) [(0, 3), (1, 2)] [] (bS r2277.1) [(3, .row 47 [.sl r2277.2.1.length (fl r2277.2.1), .mp 2, .own 7 0 r2277.2.2.1.length]), (2, .map (mE r2277.2.2.2)), (6, .dead), (7, .row 3 (fl r2277.2.2.1)), (3, .dead), (2, .dead)] (by simp only [push_cast, seval]) (by simp only [push_cast, seval]) (by kernel_rfl) (.inl rfl) (by simp only [push_cast, seval]) (by simp only [push_cast, seval]) ?_
    refine rs 1 [] [] (by kernel_rfl) allP_nil ?_
    refine rf [(5, .ptr 0 0), (7, .ptr 3 0), (23, bS (!r2277.1))] [(0, .row 26 [iS 0, iS 0]), (1, .row 26 (Enc.cells r2256)), (2, .map (mE r2277.2.2.2)), (3, .row 47 [.sl r2277.2.1.length (fl r2277.2.1), .mp 2, .own 7 0 r2277.2.2.1.length]), (6, .dead), (7, .row 3 (fl r2277.2.2.1))] 8 (by kernel_rfl) ?_
    refine wk_id ?_
    refine cond_sx h (by kernel_rfl) (fun g2280 h => ?_) (fun g2280 h => ?_)
    ·refine seq_np ?_
     refine reg_f ?_
     obtain ⟨r2279, hr2279, h⟩ := bind_sx h
     refine run_call 22 [iS 6, iS 0] (some 24) (by kernel_rfl) ?_
     refine call_0 (linear_fault_spec 6 0 r2279 hr2279) (by simp only [push_cast, seval]) (by simp only [push_cast, seval]) ?_
     refine back_f ?_
     refine rs 2 [] [] (by kernel_rfl) allP_nil ?_
     refine rf [(4, .v (.slice none 0 0)), (5, .ptr 0 0)] [(0, .row 26 (Enc.cells r2279)), (1, .row 26 (Enc.cells r2256)), (2, .map (mE r2277.2.2.2)), (3, .row 47 [.sl r2277.2.1.length (fl r2277.2.1), .mp 2, .own 7 0 r2277.2.2.1.length]), (6, .dead), (7, .row 3 (fl r2277.2.2.1))] 8 (by kernel_rfl) ?_
     refine wk_id ?_
     obtain rfl := Option.some.inj h
     refine ret_at (.tup [.v (.slice none 0 0), .agg (Enc.cells r2279)]) (by kernel_rfl) ?_
     exact ret_e [] [] (by simp only [push_cast, seval]) (by simp only [push_cast, seval]) rfl rfl rfl
    ·exact hK2272 (r2277.2.1, r2277.2.2.2, r2277.2.2.1) _ _ _ h (leSt_m [(0, 0), (1, 3), (2, 2), (3, 7)] [] (by simp only [push_cast, seval]) (by simp only [push_cast, seval]) rfl rfl rfl)
   ·refine bsplit_sx h (fun g2281 h => ?_) (fun g2281 h => ?_)
    ·refine seq_np ?_
     refine reg_f ?_
     refine rs 2 [] [] (by kernel_rfl) allP_nil ?_
     obtain ⟨r2284, hr2284, h⟩ := bind_sx h
     refine run_call 21 [iS kind] (some 21) (by kernel_rfl) ?_
     refine call_0 (linear_begin_1_spec kind g2273 g2281 r2284 hr2284) (by simp only [push_cast, seval]) (by simp only [push_cast, seval]) ?_
     refine back_f ?_
     obtain ⟨r2285, hr2285, h⟩ := bind_sx h
     refine call_x (linear_search_from_3_spec r2284 0 l [] ([] : List (place × Int)) r2285 hr2285) (args := [.ptr 3 0, .ifc 61 (iS r2284), iS 0]) (dst := (some 22)) (by kernel_rfl) [(0, .row 26 [iS 0, iS 0]), (1, .row 26 (Enc.cells r2256)), (2, .map (mE ([] : List (place × Int)))), (3, .row 47 [.sl l.length (fl l), .mp 2, .v (.slice none 0 0)])] 4 (by kernel_rfl) [(0, 3), (1, 2)] [] (bS r2285.1) [(3, .row 47 [.sl r2285.2.1.length (fl r2285.2.1), .mp 2, .own 7 0 r2285.2.2.1.length]), (2, .map (mE r2285.2.2.2)), (6, .dead), (7, .row 3 (fl r2285.2.2.1)), (3, .dead), (2, .dead)] (by simp only [push_cast, seval]) (by simp only [push_cast, seval]) (by kernel_rfl) (.inl rfl) (by simp only [push_cast, seval]) (by simp only [push_cast, seval]) ?_
     refine rs 1 [] [] (by kernel_rfl) allP_nil ?_
     refine rf [(5, .ptr 0 0), (7, .ptr 3 0), (23, bS (!r2285.1))] [(0, .row 26 [iS 0, iS 0]), (1, .row 26 (Enc.cells r2256)), (2, .map (mE r2285.2.2.2)), (3, .row 47 [.sl r2285.2.1.length (fl r2285.2.1), .mp 2, .own 7 0 r2285.2.2.1.length]), (6, .dead), (7, .row 3 (fl r2285.2.2.1))] 8 (by kernel_rfl) ?_
     refine wk_id ?_
     refine cond_sx h (by kernel_rfl) (fun g2288 h => ?_) (fun g2288 h => ?_)
     ·refine seq_np ?_
      refine reg_f ?_
      obtain ⟨r2287, hr2287, h⟩ := bind_sx h
      refine run_call 22 [iS 6, iS 0] (some 24) (by kernel_rfl) ?_
      refine call_0 (linear_fault_spec 6 0 r2287 hr2287) (by simp only [push_cast, seval]) (by simp only [push_cast, seval]) ?_
      refine back_f ?_
      refine rs 2 [] [] (by kernel_rfl) allP_nil ?_
      refine rf [(4, .v (.slice none 0 0)), (5, .ptr 0 0)] [(0, .row 26 (Enc.cells r2287)), (1, .row 26 (Enc.cells r2256)), (2, .map (mE r2285.2.2.2)), (3, .row 47 [.sl r2285.2.1.length (fl r2285.2.1), .mp 2, .own 7 0 r2285.2.2.1.length]), (6, .dead), (7, .row 3 (fl r2285.2.2.1))] 8 (by kernel_rfl) ?_
      refine wk_id ?_
      obtain rfl := Option.some.inj h
      refine ret_at (.tup [.v (.slice none 0 0), .agg (Enc.cells r2287)]) (by kernel_rfl) ?_
      exact ret_e [] [] (by simp only [push_cast, seval]) (by simp only [push_cast, seval]) rfl rfl rfl
     ·exact hK2272 (r2285.2.1, r2285.2.2.2, r2285.2.2.1) _ _ _ h (leSt_m [(0, 0), (1, 3), (2, 2), (3, 7)] [] (by simp only [push_cast, seval]) (by simp only [push_cast, seval]) rfl rfl rfl)
    ·refine seq_np ?_
     refine reg_f ?_
     refine rs 2 [] [] (by kernel_rfl) allP_nil ?_
     obtain ⟨r2291, hr2291, h⟩ := bind_sx h
     refine run_call 21 [iS kind] (some 21) (by kernel_rfl) ?_
     refine call_0 (linear_begin_2_spec kind g2273 g2281 r2291 hr2291) (by simp only [push_cast, seval]) (by simp only [push_cast, seval]) ?_
     refine back_f ?_
     obtain ⟨r2292, hr2292, h⟩ := bind_sx h
     refine call_x (linear_search_from_6_spec r2291 0 l [] ([] : List (place × Int)) r2292 hr2292) (args := [.ptr 3 0, .ifc 62 (iS r2291), iS 0]) (dst := (some 22)) (by kernel_rfl) [(0, .row 26 [iS 0, iS 0]), (1, .row 26 (Enc.cells r2256)), (2, .map (mE ([] : List (place × Int)))), (3, .row 47 [.sl l.length (fl l), .mp 2, .v (.slice none 0 0)])] 4 (by kernel_rfl) [(0, 3), (1, 2)] [] (bS r2292.1) [(3, .row 47 [.sl r2292.2.1.length (fl r2292.2.1), .mp 2, .own 7 0 r2292.2.2.1.length]), (2, .map (mE r2292.2.2.2)), (6, .dead), (7, .row 3 (fl r2292.2.2.1)), (3, .dead), (2, .dead)] (by simp only [push_cast, seval]) (by simp only [push_cast, seval]) (by kernel_rfl) (.inl rfl) (by simp only [push_cast, seval]) (by simp only [push_cast, seval]) ?_
     refine rs 1 [] [] (by kernel_rfl) allP_nil ?_
     refine rf [(5, .ptr 0 0), (7, .ptr 3 0), (23, bS (!r2292.1))] [(0, .row 26 [iS 0, iS 0]), (1, .row 26 (Enc.cells r2256)), (2, .map (mE r2292.2.2.2)), (3, .row 47 [.sl r2292.2.1.length (fl r2292.2.1), .mp 2, .own 7 0 r2292.2.2.1.length]), (6, .dead), (7, .row 3 (fl r2292.2.2.1))] 8 (by kernel_rfl) ?_
     refine wk_id ?_
     refine cond_sx h (by kernel_rfl) (fun g2295 h => ?_) (fun g2295 h => ?_)
     ·refine seq_np ?_
      refine reg_f ?_
      obtain ⟨r2294, hr2294, h⟩ := bind_sx h
      refine run_call 22 [iS 6, iS 0] (some 24) (by kernel_rfl) ?_
      refine call_0 (linear_fault_spec 6 0 r2294 hr2294) (by simp only [push_cast, seval]) (by simp only [push_cast, seval]) ?_
      refine back_f ?_
      refine rs 2 [] [] (by kernel_rfl) allP_nil ?_
      refine rf [(4, .v (.slice none 0 0)), (5, .ptr 0 0)] [(0, .row 26 (Enc.cells r2294)), (1, .row 26 (Enc.cells r2256)), (2, .map (mE r2292.2.2.2)), (3, .row 47 [.sl r2292.2.1.length (fl r2292.2.1), .mp 2, .own 7 0 r2292.2.2.1.length]), (6, .dead), (7, .row 3 (fl r2292.2.2.1))] 8 (by kernel_rfl) ?_
      refine wk_id ?_
      obtain rfl := Option.some.inj h
      refine ret_at (.tup [.v (.slice none 0 0), .agg (Enc.cells r2294)]) (by kernel_rfl) ?_
      exact ret_e [] [] (by simp only [push_cast, seval]) (by simp only [push_cast, seval]) rfl rfl rfl
     ·exact hK2272 (r2292.2.1, r2292.2.2.2, r2292.2.2.1) _ _ _ h (leSt_m [(0, 0), (1, 3), (2, 2), (3, 7)] [] (by simp only [push_cast, seval]) (by simp only [push_cast, seval]) rfl rfl rfl)
  ·rintro ⟨c1_calls1, c2q1, c3q1⟩ h
   try dsimp only at h ⊢
   unfold linear_Find_j1 at h
   refine seq_np ?_
   refine reg_f ?_
   refine rs 7 [] [] (by kernel_rfl) allP_nil ?_
   refine rf [(4, .own 3 0 c3q1.length), (5, .ptr 0 0)] [(0, .row 26 [iS 0, iS 0]), (1, .row 47 [.sl c1_calls1.length (fl c1_calls1), .mp 2, .own 3 0 c3q1.length]), (2, .map (mE c2q1)), (3, .row 3 (fl c3q1))] 4 (by kernel_rfl) ?_
   refine wk_id ?_
   obtain rfl := Option.some.inj h
   refine ret_at (.tup [.own 3 0 c3q1.length, .agg [iS 0, iS 0]]) (by kernel_rfl) ?_
   exact ret_e [(0, 3)] [] (by simp only [push_cast, seval]) (by simp only [push_cast, seval]) rfl rfl rfl

set_option maxRecDepth 100000 in
set_option maxHeartbeats 200000000 in
theorem taskmillref_Ints_spec (xa : (List Int)) (b : (List Int)) (r : Bool) (h : taskmillref_Ints xa b = some r) : SpecW Try.prog 19 [.sl xa.length (fl xa), .sl b.length (fl b)] [] 0 (fun x h n => x = bS r ∧ h = [] ∧ n = 0) := by
 unfold taskmillref_Ints at h
 refine spec_of (draw_ok _) Try.func19 rfl (by decide) rfl (by kernel_rfl) ?_
 refine seq_np ?_
 refine reg_f ?_
 refine rs 1 [] [] (by kernel_rfl) allP_nil ?_
 refine rf [(0, .sl xa.length (fl xa)), (1, .sl b.length (fl b))] [] 0 (by kernel_rfl) ?_
 refine wk_id ?_
 refine seq_np ?_
 refine seq_np ?_
 refine reg_f ?_
 refine rs 5 [] [] (by kernel_rfl) allP_nil ?_
 refine rf [(0, .sl xa.length (fl xa)), (1, .sl b.length (fl b)), (10, bS (((xa.length : Nat) : Int) != ((b.length : Nat) : Int)))] [] 0 (by kernel_rfl) ?_
 refine wk_id ?_
 refine cond_sx h (by kernel_rfl) (fun g2392 h => ?_) (fun g2392 h => ?_)
 ·refine seq_np ?_
  refine reg_f ?_
  refine rs 1 [] [] (by kernel_rfl) allP_nil ?_
  refine rf [(4, bS false)] [] 0 (by kernel_rfl) ?_
  refine wk_id ?_
  obtain rfl := Option.some.inj h
  refine ret_at (bS false) (by kernel_rfl) ?_
  exact ret_e [] [] (by simp only [push_cast, seval]) (by simp only [push_cast, seval]) rfl rfl rfl
 ·refine wk_id ?_
  refine seq_np ?_
  refine seq_np ?_
  refine reg_f ?_
  refine rs 1 [] [] (by kernel_rfl) allP_nil ?_
  refine rf [(0, .sl xa.length (fl xa)), (1, .sl b.length (fl b)), (5, iS 0)] [] 0 (by kernel_rfl) ?_
  refine wk_id ?_
  refine block_np ?_
  refine loop_sx (S := Int) (fun a => ([(0, .sl xa.length (fl xa)), (1, .sl b.length (fl b)), (5, iS a)], [], 0)) h (leSt_m [] [] (by simp only [push_cast, seval]) (by simp only [push_cast, seval]) rfl rfl rfl) ?_
  rintro i7 o2 R2 h hr2 hn2 hx2 ht2
  try dsimp only at h hn2 ⊢
  unfold taskmillref_Ints_l1 at h
  try dsimp only at h
  refine seq_np ?_
  refine seq_np ?_
  refine reg_f ?_
  refine rs 4 [] [] (by kernel_rfl) allP_nil ?_
  refine rf [(0, .sl xa.length (fl xa)), (1, .sl b.length (fl b)), (5, iS i7), (14, bS (decide (i7 < ((xa.length : Nat) : Int))))] [] 0 (by kernel_rfl) ?_
  refine wk_id ?_
  refine cond_sx h (by kernel_rfl) (fun g2391 h => ?_) (fun g2391 h => ?_)
  ·refine wk_id ?_
   refine seq_np ?_
   refine block_np ?_
   refine chk_sx h (fun g2387 h => ?_)
   refine chk_sx h (fun g2389 h => ?_)
   refine seq_np ?_
   refine reg_t ?_
   have k2386 : 0 ≤ i7 ∧ i7 < ((xa.length : Nat) : Int) := by first | simpa only [Bool.and_eq_true, decide_eq_true_eq, bne_iff_ne, ne_eq] using g2387 | (simp at g2387 ⊢; omega)
   have k2388 : 0 ≤ i7 ∧ i7 < ((b.length : Nat) : Int) := by first | simpa only [Bool.and_eq_true, decide_eq_true_eq, bne_iff_ne, ne_eq] using g2389 | (simp at g2389 ⊢; omega)
   refine rs 9 [none, none, some ⟨.iptr (fl xa) ((i7).toNat * 1), [], 2, []⟩, some ⟨iS (ix xa i7), [], 3, []⟩, none, none, some ⟨.iptr (fl b) ((i7).toNat * 1), [], 6, []⟩, some ⟨iS (ix b i7), [], 7, []⟩] _ (by kernel_rfl) (allP_cons (ob_ld b i7 1 0 ((i7).toNat * 1) k2388 rfl (by decide) (by first | rfl | omega) (dflS Try.prog 3) (iS (ix b i7)) rfl 7 []) (allP_cons (ob_ix_l b 1 6 i7 k2388) (allP_cons (ob_ld xa i7 1 0 ((i7).toNat * 1) k2386 rfl (by decide) (by first | rfl | omega) (dflS Try.prog 3) (iS (ix xa i7)) rfl 3 []) (allP_cons (ob_ix_l xa 1 2 i7 k2386) allP_nil)))) ?_
   refine rt [(0, .sl xa.length (fl xa)), (1, .sl b.length (fl b)), (5, iS i7), (25, bS ((ix xa i7) != (ix b i7)))] [] 9 follows (by kernel_rfl) ?_
   refine wk_id ?_
   refine cond_sx h (by kernel_rfl) (fun g2390 h => ?_) (fun g2390 h => ?_)
   ·refine seq_np ?_
    refine reg_f ?_
    refine rs 1 [] [] (by kernel_rfl) allP_nil ?_
    refine rf [(4, bS false)] [] 9 (by kernel_rfl) ?_
    refine wk_id ?_
    refine rt_cast ht2 ?_
    obtain ⟨r0, h, e0⟩ := map_sx h
    have e1 := hr2 r0 e0.symm
    subst r0
    obtain rfl := Option.some.inj h
    refine ret_at (bS false) (by kernel_rfl) ?_
    exact ret_e [] [] (by simp only [push_cast, seval]) (by simp only [push_cast, seval]) rfl rfl rfl
   ·refine wk_id ?_
    refine wk_id ?_
    refine reg_f ?_
    refine rs 3 [] [] (by kernel_rfl) allP_nil ?_
    refine rf [(0, .sl xa.length (fl xa)), (1, .sl b.length (fl b)), (5, iS (IntKind.i64.wrap (i7 + 1)))] [] 9 (by kernel_rfl) ?_
    exact hn2 ((IntKind.i64.wrap (i7 + 1))) _ _ _ (Option.some.inj h).symm (leSt_m [] [] (by simp only [push_cast, seval]) (by simp only [push_cast, seval]) rfl rfl rfl)
  ·change R2 (.exit 0) _ _ _
   refine ex_cast hx2 (id := 0) ?_
   obtain ⟨r0, h, e0⟩ := map_sx h
   have e1 := hr2 r0 e0.symm
   subst r0
   refine wk_id ?_
   refine wk_id ?_
   refine seq_np ?_
   refine reg_f ?_
   refine rs 1 [] [] (by kernel_rfl) allP_nil ?_
   refine rf [(4, bS true)] [] 0 (by kernel_rfl) ?_
   refine wk_id ?_
   obtain rfl := Option.some.inj h
   refine ret_at (bS true) (by kernel_rfl) ?_
   exact ret_e [] [] (by simp only [push_cast, seval]) (by simp only [push_cast, seval]) rfl rfl rfl

set_option maxRecDepth 100000 in
set_option maxHeartbeats 200000000 in
theorem taskmilllaw_linearBegun_spec (r : Bool) (h : taskmilllaw_linearBegun = some r) : SpecW Try.prog 8 [] [] 0 (fun x h n => x = bS r ∧ h = [] ∧ n = 0) := by
 unfold taskmilllaw_linearBegun at h
 refine spec_of (draw_ok _) Try.func8 rfl (by decide) rfl (by kernel_rfl) ?_
 refine seq_np ?_
 refine reg_f ?_
 refine rs 1 [] [] (by kernel_rfl) allP_nil ?_
 refine rf [] [] 0 (by kernel_rfl) ?_
 refine wk_id ?_
 refine seq_np ?_
 refine reg_f ?_
 refine rs 5 [] [] (by kernel_rfl) allP_nil ?_
 refine rf [(1, .own 0 0 ([(GCall.mk 0 2 1 1 0 0 false), (GCall.mk 1 3 1 2 0 0 false), (GCall.mk 4 5 2 0 0 2 true)] : List GCall).length)] [(0, .row 36 (fl ([(GCall.mk 0 2 1 1 0 0 false), (GCall.mk 1 3 1 2 0 0 false), (GCall.mk 4 5 2 0 0 2 true)] : List GCall)))] 1 (by kernel_rfl) ?_
 refine wk_id ?_
 refine seq_np ?_
 refine reg_f ?_
 refine rs 1 [] [] (by kernel_rfl) allP_nil ?_
 obtain ⟨r2397, hr2397, h⟩ := bind_sx h
 refine call_x (linear_Find_spec 1 ([(GCall.mk 0 2 1 1 0 0 false), (GCall.mk 1 3 1 2 0 0 false), (GCall.mk 4 5 2 0 0 2 true)] : List GCall) r2397 hr2397) (args := [iS 1, .own 0 0 ([(GCall.mk 0 2 1 1 0 0 false), (GCall.mk 1 3 1 2 0 0 false), (GCall.mk 4 5 2 0 0 2 true)] : List GCall).length]) (dst := (some 10)) (by kernel_rfl) [(0, .row 36 (fl ([(GCall.mk 0 2 1 1 0 0 false), (GCall.mk 1 3 1 2 0 0 false), (GCall.mk 4 5 2 0 0 2 true)] : List GCall)))] 1 (by kernel_rfl) [] [0] (.tup [.own 1 0 r2397.2.length, .agg (Enc.cells r2397.1)]) [(1, .row 3 (fl r2397.2))] (by simp only [push_cast, seval]) (by simp only [push_cast, seval]) (by kernel_rfl) (.inr ⟨by simp only [push_cast, seval], by simp only [push_cast, seval]⟩) (by simp only [push_cast, seval]) (by simp only [push_cast, seval]) ?_
 refine rs 6 [] [] (by kernel_rfl) allP_nil ?_
 refine rf [(2, .own 1 0 r2397.2.length), (3, .ptr 2 0)] [(0, .row 36 (fl ([(GCall.mk 0 2 1 1 0 0 false), (GCall.mk 1 3 1 2 0 0 false), (GCall.mk 4 5 2 0 0 2 true)] : List GCall))), (1, .row 3 (fl r2397.2)), (2, .row 26 (Enc.cells r2397.1))] 3 (by kernel_rfl) ?_
 refine wk_id ?_
 refine seq_cut (A := Bool) (fun a => ([(0, bS a)], [], 0)) (fun a => (taskmilllaw_linearBegun_j1 a) = some r) (fun K2401 hK2401 => ?_) ?_
 ·refine reg_f ?_
  refine rs 4 [] [] (by kernel_rfl) allP_nil ?_
  refine run_br h 16 (.inl (by kernel_rfl)) (fun g2402 h => ?_) (fun g2402 h => ?_)
  ·refine rs 2 [] [] (by kernel_rfl) allP_nil ?_
   obtain ⟨r2403, hr2403, h⟩ := bind_sx h
   refine call_x (taskmillref_Ints_spec r2397.2 ([1, 0, 2] : List Int) r2403 hr2403) (args := [.own 1 0 r2397.2.length, .own 3 0 ([1, 0, 2] : List Int).length]) (dst := (some 19)) (by kernel_rfl) [(0, .row 36 (fl ([(GCall.mk 0 2 1 1 0 0 false), (GCall.mk 1 3 1 2 0 0 false), (GCall.mk 4 5 2 0 0 2 true)] : List GCall))), (1, .row 3 (fl r2397.2)), (2, .row 26 (Enc.cells r2397.1)), (3, .row 3 (fl ([1, 0, 2] : List Int)))] 4 (by kernel_rfl) [] [1, 3] (bS r2403) [] (by simp only [push_cast, seval]) (by simp only [push_cast, seval]) (by kernel_rfl) (.inr ⟨by simp only [push_cast, seval], by simp only [push_cast, seval]⟩) (by simp only [push_cast, seval]) (by simp only [push_cast, seval]) ?_
   refine rs 2 [] [] (by kernel_rfl) allP_nil ?_
   refine rf [(0, bS r2403)] [(0, .row 36 (fl ([(GCall.mk 0 2 1 1 0 0 false), (GCall.mk 1 3 1 2 0 0 false), (GCall.mk 4 5 2 0 0 2 true)] : List GCall))), (1, .row 3 (fl r2397.2)), (2, .row 26 (Enc.cells r2397.1)), (3, .row 3 (fl ([1, 0, 2] : List Int)))] 4 (by kernel_rfl) ?_
   exact hK2401 (r2403) _ _ _ h (leSt_m [] [] (by (try simp only [g2402]) <;> simp only [push_cast, seval]) (by (try simp only [g2402]) <;> simp only [push_cast, seval]) rfl rfl rfl)
  ·refine rs 5 [] [] (by kernel_rfl) allP_nil ?_
   refine rf [(0, bS false)] [(0, .row 36 (fl ([(GCall.mk 0 2 1 1 0 0 false), (GCall.mk 1 3 1 2 0 0 false), (GCall.mk 4 5 2 0 0 2 true)] : List GCall))), (1, .row 3 (fl r2397.2)), (2, .row 26 (Enc.cells r2397.1))] 3 (by kernel_rfl) ?_
   exact hK2401 (false) _ _ _ h (leSt_m [] [] (by (try simp only [g2402]) <;> simp only [push_cast, seval]) (by (try simp only [g2402]) <;> simp only [push_cast, seval]) rfl rfl rfl)
 ·rintro t0q1 h
  try dsimp only at h ⊢
  unfold taskmilllaw_linearBegun_j1 at h
  obtain rfl := Option.some.inj h
  refine ret_at (bS t0q1) (by kernel_rfl) ?_
  exact ret_e [] [] (by simp only [push_cast, seval]) (by simp only [push_cast, seval]) rfl rfl rfl

set_option maxRecDepth 100000 in
set_option maxHeartbeats 200000000 in
theorem taskmilllaw_ownCalls_spec (l : (List GCall)) (r : (List GCall)) (h : taskmilllaw_ownCalls l = some r) : SpecW Try.prog 10 [.sl l.length (fl l)] [] 0 (fun x h n => x = .own 0 0 r.length ∧ h = [(0, .row 36 (fl r))] ∧ n = 1) := by
 unfold taskmilllaw_ownCalls at h
 refine spec_of (draw_ok _) Try.func10 rfl (by decide) rfl (by kernel_rfl) ?_
 refine seq_np ?_
 refine reg_f ?_
 refine rs 1 [] [] (by kernel_rfl) allP_nil ?_
 refine rf [(0, .sl l.length (fl l))] [] 0 (by kernel_rfl) ?_
 refine wk_id ?_
 refine chk_sx h (fun g2412 h => ?_)
 refine seq_np ?_
 refine reg_f ?_
 have k2411 : l.length * 56 ≤ 140737488355328 := by first | simpa only [Bool.and_eq_true, decide_eq_true_eq, bne_iff_ne, ne_eq] using g2412 | (simp at g2412 ⊢; omega)
 refine rs 3 [none, some ⟨.own 0 0 l.length, [(0, .row 36 (fl l))], 1, []⟩] _ (by kernel_rfl) (allP_cons (ob_app0 (P := Try.prog) l 7 56 rfl (fl l) l.length rfl rfl ((fl l).length = l.length * 7) (app_sl l 7 rfl) 36 (by kernel_rfl) (by decide) k2411 0 []) allP_nil) ?_
 refine rf [(2, .own 0 0 l.length)] [(0, .row 36 (fl l))] 1 (by kernel_rfl) ?_
 refine wk_id ?_
 obtain rfl := Option.some.inj h
 refine ret_at (.own 0 0 l.length) (by kernel_rfl) ?_
 exact ret_e [(0, 0)] [] (by simp only [push_cast, seval]) (by simp only [push_cast, seval]) rfl rfl rfl

set_option maxRecDepth 100000 in
set_option maxHeartbeats 200000000 in
theorem taskmillref_F_spec (code : Int) (xat : Int) (r : Fault) (h : taskmillref_F code xat = some r) : SpecW Try.prog 12 [iS code, iS xat] [] 0 (fun x h n => x = .agg (Enc.cells r) ∧ h = [] ∧ n = 0) := by
 unfold taskmillref_F at h
 refine spec_of (draw_ok _) Try.func12 rfl (by decide) rfl (by kernel_rfl) ?_
 refine seq_np ?_
 refine reg_f ?_
 refine rs 1 [] [] (by kernel_rfl) allP_nil ?_
 refine rf [(0, iS code), (1, iS xat), (4, .ptr 0 0)] [(0, .row 26 [iS 0, iS 0])] 1 (by kernel_rfl) ?_
 refine wk_id ?_
 refine seq_np ?_
 refine reg_f ?_
 refine rs 4 [] [] (by kernel_rfl) allP_nil ?_
 refine rf [(4, .ptr 0 0)] [(0, .row 26 [iS code, iS xat])] 1 (by kernel_rfl) ?_
 refine wk_id ?_
 obtain rfl := Option.some.inj h
 refine ret_at (.agg [iS code, iS xat]) (by kernel_rfl) ?_
 exact ret_e [] [] (by simp only [push_cast, seval]) (by simp only [push_cast, seval]) rfl rfl rfl

set_option maxRecDepth 100000 in
set_option maxHeartbeats 200000000 in
theorem taskmillref_KindOf_spec (k : Int) (r : Int) (h : taskmillref_KindOf k = some r) : SpecW Try.prog 23 [iS k] [] 0 (fun x h n => x = iS r ∧ h = [] ∧ n = 0) := by
 unfold taskmillref_KindOf at h
 refine spec_of (draw_ok _) Try.func23 rfl (by decide) rfl (by kernel_rfl) ?_
 refine seq_np ?_
 refine reg_f ?_
 refine rs 1 [] [] (by kernel_rfl) allP_nil ?_
 refine rf [(0, iS k)] [] 0 (by kernel_rfl) ?_
 refine wk_id ?_
 refine seq_np ?_
 refine seq_np ?_
 refine reg_f ?_
 refine rs 1 [] [] (by kernel_rfl) allP_nil ?_
 refine rf [(3, iS k)] [] 0 (by kernel_rfl) ?_
 refine wk_id ?_
 refine block_np ?_
 refine seq_cut (A := Bool) (fun a => ([(3, iS k), (4, bS a)], [], 0)) (fun a => (taskmillref_KindOf_j2 k a) = some r) (fun K2455 hK2455 => ?_) ?_
 ·refine seq_np ?_
  refine reg_f ?_
  refine rs 2 [] [] (by kernel_rfl) allP_nil ?_
  refine rf [(3, iS k), (4, bS (k == 1))] [] 0 (by kernel_rfl) ?_
  refine wk_id ?_
  refine cond_sx h (by kernel_rfl) (fun g2456 h => ?_) (fun g2456 h => ?_)
  ·exact hK2455 ((k == 1)) _ _ _ h (leSt_m [] [] (by simp only [push_cast, seval]) (by simp only [push_cast, seval]) rfl rfl rfl)
  ·refine reg_f ?_
   refine rs 2 [] [] (by kernel_rfl) allP_nil ?_
   refine rf [(3, iS k), (4, bS (k == 2))] [] 0 (by kernel_rfl) ?_
   exact hK2455 ((k == 2)) _ _ _ h (leSt_m [] [] (by simp only [push_cast, seval]) (by simp only [push_cast, seval]) rfl rfl rfl)
 ·rintro t4q3 h
  try dsimp only at h ⊢
  unfold taskmillref_KindOf_j2 at h
  refine cond_sx h (by kernel_rfl) (fun g2465 h => ?_) (fun g2465 h => ?_)
  ·refine seq_np ?_
   refine reg_f ?_
   refine rs 1 [] [] (by kernel_rfl) allP_nil ?_
   refine rf [(2, iS 1)] [] 0 (by kernel_rfl) ?_
   refine wk_id ?_
   obtain rfl := Option.some.inj h
   refine ret_at (iS 1) (by kernel_rfl) ?_
   exact ret_e [] [] (by simp only [push_cast, seval]) (by simp only [push_cast, seval]) rfl rfl rfl
  ·refine seq_cut (A := Bool) (fun a => ([(3, iS k), (7, bS a)], [], 0)) (fun a => (taskmillref_KindOf_j1 k a) = some r) (fun K2460 hK2460 => ?_) ?_
   ·refine seq_np ?_
    refine reg_f ?_
    refine rs 2 [] [] (by kernel_rfl) allP_nil ?_
    refine rf [(3, iS k), (7, bS (k == 3))] [] 0 (by kernel_rfl) ?_
    refine wk_id ?_
    refine cond_sx h (by kernel_rfl) (fun g2462 h => ?_) (fun g2462 h => ?_)
    ·exact hK2460 ((k == 3)) _ _ _ h (leSt_m [] [] (by simp only [push_cast, seval]) (by simp only [push_cast, seval]) rfl rfl rfl)
    ·refine seq_np ?_
     refine reg_f ?_
     refine rs 2 [] [] (by kernel_rfl) allP_nil ?_
     refine rf [(3, iS k), (7, bS (k == 4))] [] 0 (by kernel_rfl) ?_
     refine wk_id ?_
     refine cond_sx h (by kernel_rfl) (fun g2461 h => ?_) (fun g2461 h => ?_)
     ·exact hK2460 ((k == 4)) _ _ _ h (leSt_m [] [] (by simp only [push_cast, seval]) (by simp only [push_cast, seval]) rfl rfl rfl)
     ·refine reg_f ?_
      refine rs 2 [] [] (by kernel_rfl) allP_nil ?_
      refine rf [(3, iS k), (7, bS (k == 6))] [] 0 (by kernel_rfl) ?_
      exact hK2460 ((k == 6)) _ _ _ h (leSt_m [] [] (by simp only [push_cast, seval]) (by simp only [push_cast, seval]) rfl rfl rfl)
   ·rintro t7q3 h
    try dsimp only at h ⊢
    unfold taskmillref_KindOf_j1 at h
    refine cond_sx h (by kernel_rfl) (fun g2464 h => ?_) (fun g2464 h => ?_)
    ·refine seq_np ?_
     refine reg_f ?_
     refine rs 1 [] [] (by kernel_rfl) allP_nil ?_
     refine rf [(2, iS 2)] [] 0 (by kernel_rfl) ?_
     refine wk_id ?_
     obtain rfl := Option.some.inj h
     refine ret_at (iS 2) (by kernel_rfl) ?_
     exact ret_e [] [] (by simp only [push_cast, seval]) (by simp only [push_cast, seval]) rfl rfl rfl
    ·refine seq_np ?_
     refine reg_f ?_
     refine rs 2 [] [] (by kernel_rfl) allP_nil ?_
     refine rf [(11, bS (k == 5))] [] 0 (by kernel_rfl) ?_
     refine wk_id ?_
     refine cond_sx h (by kernel_rfl) (fun g2463 h => ?_) (fun g2463 h => ?_)
     ·refine seq_np ?_
      refine reg_f ?_
      refine rs 1 [] [] (by kernel_rfl) allP_nil ?_
      refine rf [(2, iS 3)] [] 0 (by kernel_rfl) ?_
      refine wk_id ?_
      obtain rfl := Option.some.inj h
      refine ret_at (iS 3) (by kernel_rfl) ?_
      exact ret_e [] [] (by simp only [push_cast, seval]) (by simp only [push_cast, seval]) rfl rfl rfl
     ·refine wk_id ?_
      refine wk_id ?_
      refine seq_np ?_
      refine reg_f ?_
      refine rs 1 [] [] (by kernel_rfl) allP_nil ?_
      refine rf [(2, iS 0)] [] 0 (by kernel_rfl) ?_
      refine wk_id ?_
      obtain rfl := Option.some.inj h
      refine ret_at (iS 0) (by kernel_rfl) ?_
      exact ret_e [] [] (by simp only [push_cast, seval]) (by simp only [push_cast, seval]) rfl rfl rfl

end Go.Proofs.Ytopomedppninoaa
