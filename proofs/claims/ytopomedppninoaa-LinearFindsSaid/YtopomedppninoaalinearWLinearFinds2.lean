/-
 What laws of the chapter linear compute, and lemmas on it.
 No conditions.
-/
import Derived.Test.YtopomedppninoaalinearWLinearFinds1
set_option linter.unusedSimpArgs false
set_option linter.unusedVariables false
namespace Go.Proofs.Ytopomedppninoaa
open Go Go.Sx
attribute [local irreducible] Wk RunAt
set_option maxRecDepth 100000 in
set_option maxHeartbeats 200000000 in
theorem taskmillref_CallsFault_spec (kind : Int) (l : (List GCall)) (r : Fault) (h : taskmillref_CallsFault kind l = some r) : SpecW Try.prog 11 [iS kind, .sl l.length (fl l)] [] 0 (fun x h n => x = .agg (Enc.cells r) ∧ h = [] ∧ n = 0) := by
 unfold taskmillref_CallsFault at h
 refine spec_of (draw_ok _) Try.func11 rfl (by decide) rfl (by kernel_rfl) ?_
 refine seq_np ?_
 refine reg_f ?_
 refine rs 1 [] [] (by kernel_rfl) allP_nil ?_
 refine rf [(0, iS kind), (1, .sl l.length (fl l)), (4, .ptr 0 0)] [(0, .row 26 [iS 0, iS 0])] 1 (by kernel_rfl) ?_
 refine wk_id ?_
 refine seq_np ?_
 refine seq_np ?_
 refine reg_f ?_
 refine rs 3 [] [] (by kernel_rfl) allP_nil ?_
 refine rf [(0, iS kind), (1, .sl l.length (fl l)), (4, .ptr 0 0), (13, bS (decide ((14 : Int) < ((l.length : Nat) : Int))))] [(0, .row 26 [iS 0, iS 0])] 1 (by kernel_rfl) ?_
 refine wk_id ?_
 refine cond_sx h (by kernel_rfl) (fun g3153 h => ?_) (fun g3153 h => ?_)
 ·refine seq_np ?_
  refine reg_f ?_
  obtain ⟨r2599, hr2599, h⟩ := bind_sx h
  refine run_call 12 [iS 2, iS 0] (some 14) (by kernel_rfl) ?_
  refine call_0 (taskmillref_F_spec 2 0 r2599 hr2599) (by simp only [push_cast, seval]) (by simp only [push_cast, seval]) ?_
  refine back_f ?_
  refine rs 1 [] [] (by kernel_rfl) allP_nil ?_
  refine rf [(4, .ptr 0 0)] [(0, .row 26 (Enc.cells r2599))] 1 (by kernel_rfl) ?_
  refine wk_id ?_
  obtain rfl := Option.some.inj h
  refine ret_at (.agg (Enc.cells r2599)) (by kernel_rfl) ?_
  exact ret_e [] [] (by simp only [push_cast, seval]) (by simp only [push_cast, seval]) rfl rfl rfl
 ·refine wk_id ?_
  refine seq_np ?_
  refine seq_cut (A := Unit) (fun _ => ([(0, iS kind), (1, .sl l.length (fl l)), (4, .ptr 0 0), (20, bS ((decide (kind < 1)) || (decide ((3 : Int) < kind))))], [(0, .row 26 [iS 0, iS 0])], 1)) (fun _ => True) (fun K2604 hK2604 => ?_) (fun _ _ => ?_)
  ·refine reg_f ?_
   refine rs 3 [] [] (by kernel_rfl) allP_nil ?_
   refine run_split 17 (decide (kind < 1)) (.inl (by kernel_rfl)) (fun g2605 => ?_) (fun g2605 => ?_)
   ·refine rs 3 [] [] (by kernel_rfl) allP_nil ?_
    refine rf [(0, iS kind), (1, .sl l.length (fl l)), (4, .ptr 0 0), (20, bS true)] [(0, .row 26 [iS 0, iS 0])] 1 (by kernel_rfl) ?_
    exact hK2604 () _ _ _ trivial (leSt_m [(0, 0)] [] (by (try simp only [g2605]) <;> simp only [push_cast, seval]) (by (try simp only [g2605]) <;> simp only [push_cast, seval]) rfl rfl rfl)
   ·refine rs 3 [] [] (by kernel_rfl) allP_nil ?_
    refine rf [(0, iS kind), (1, .sl l.length (fl l)), (4, .ptr 0 0), (20, bS (decide ((3 : Int) < kind)))] [(0, .row 26 [iS 0, iS 0])] 1 (by kernel_rfl) ?_
    exact hK2604 () _ _ _ trivial (leSt_m [(0, 0)] [] (by (try simp only [g2605]) <;> simp only [push_cast, seval]) (by (try simp only [g2605]) <;> simp only [push_cast, seval]) rfl rfl rfl)
  ·dsimp only
   refine cond_sx h (by kernel_rfl) (fun g3152 h => ?_) (fun g3152 h => ?_)
   ·refine seq_np ?_
    refine reg_f ?_
    obtain ⟨r2607, hr2607, h⟩ := bind_sx h
    refine run_call 12 [iS 4, iS (-1)] (some 21) (by kernel_rfl) ?_
    refine call_0 (taskmillref_F_spec 4 (-1) r2607 hr2607) (by simp only [push_cast, seval]) (by simp only [push_cast, seval]) ?_
    refine back_f ?_
    refine rs 1 [] [] (by kernel_rfl) allP_nil ?_
    refine rf [(4, .ptr 0 0)] [(0, .row 26 (Enc.cells r2607))] 1 (by kernel_rfl) ?_
    refine wk_id ?_
    obtain rfl := Option.some.inj h
    refine ret_at (.agg (Enc.cells r2607)) (by kernel_rfl) ?_
    exact ret_e [] [] (by simp only [push_cast, seval]) (by simp only [push_cast, seval]) rfl rfl rfl
   ·refine wk_id ?_
    refine seq_np ?_
    refine seq_np ?_
    refine reg_f ?_
    refine rs 1 [] [] (by kernel_rfl) allP_nil ?_
    refine rf [(0, iS kind), (1, .sl l.length (fl l)), (4, .ptr 0 0), (5, iS 0)] [(0, .row 26 [iS 0, iS 0])] 1 (by kernel_rfl) ?_
    refine wk_id ?_
    refine block_np ?_
    refine loop_sx (S := Int) (fun a => ([(0, iS kind), (1, .sl l.length (fl l)), (4, .ptr 0 0), (5, iS a)], [(0, .row 26 [iS 0, iS 0])], 1)) h (leSt_m [(0, 0)] [] (by simp only [push_cast, seval]) (by simp only [push_cast, seval]) rfl rfl rfl) ?_
    rintro i7 o2 R2 h hr2 hn2 hx2 ht2
    try dsimp only at h hn2 ⊢
    unfold taskmillref_CallsFault_l1 at h
    try dsimp only at h
    refine seq_np ?_
    refine seq_np ?_
    refine reg_f ?_
    refine rs 4 [] [] (by kernel_rfl) allP_nil ?_
    refine rf [(0, iS kind), (1, .sl l.length (fl l)), (4, .ptr 0 0), (5, iS i7), (25, bS (decide (i7 < ((l.length : Nat) : Int))))] [(0, .row 26 [iS 0, iS 0])] 1 (by kernel_rfl) ?_
    refine wk_id ?_
    refine cond_sx h (by kernel_rfl) (fun g3151 h => ?_) (fun g3151 h => ?_)
    ·refine wk_id ?_
     refine seq_np ?_
     refine block_np ?_
     refine chk_sx h (fun g3053 h => ?_)
     refine seq_np ?_
     refine reg_f ?_
     have k3052 : 0 ≤ i7 ∧ i7 < ((l.length : Nat) : Int) := by first | simpa only [Bool.and_eq_true, decide_eq_true_eq, bne_iff_ne, ne_eq] using g3053 | (simp at g3053 ⊢; omega)
     refine rs 6 [none, none, some ⟨.iptr (fl l) ((i7).toNat * 7), [], 1, []⟩, some ⟨.agg (Enc.cells (ix l i7)), [], 1, []⟩] _ (by kernel_rfl) (allP_cons (ob_ldw l i7 7 ((i7).toNat * 7) k3052 rfl (by first | rfl | omega) (Enc.cells (ix l i7)) rfl 1 []) (allP_cons (ob_ix_l l 7 1 i7 k3052) allP_nil)) ?_
     refine rf [(0, iS kind), (1, .sl l.length (fl l)), (4, .ptr 0 0), (5, iS i7), (6, .ptr 1 0)] [(0, .row 26 [iS 0, iS 0]), (1, .row 36 (Enc.cells (ix l i7)))] 2 (by kernel_rfl) ?_
     refine wk_id ?_
     refine seq_np ?_
     refine seq_np ?_
     refine reg_f ?_
     refine rs 2 [] [] (by kernel_rfl) allP_nil ?_
     obtain ⟨r3058, hr3058, h⟩ := bind_sx h
     refine run_call 23 [iS (ix l i7).Kind] (some 34) (by kernel_rfl) ?_
     refine call_0 (taskmillref_KindOf_spec (ix l i7).Kind r3058 hr3058) (by simp only [push_cast, seval]) (by simp only [push_cast, seval]) ?_
     refine back_f ?_
     refine rs 2 [] [] (by kernel_rfl) allP_nil ?_
     refine rf [(0, iS kind), (1, .sl l.length (fl l)), (4, .ptr 0 0), (5, iS i7), (6, .ptr 1 0), (36, bS (r3058 != kind))] [(0, .row 26 [iS 0, iS 0]), (1, .row 36 (Enc.cells (ix l i7)))] 2 (by kernel_rfl) ?_
     refine wk_id ?_
     refine cond_sx h (by kernel_rfl) (fun g3150 h => ?_) (fun g3150 h => ?_)
     ·refine seq_np ?_
      refine reg_f ?_
      refine rs 1 [] [] (by kernel_rfl) allP_nil ?_
      obtain ⟨r3060, hr3060, h⟩ := bind_sx h
      refine run_call 12 [iS 4, iS i7] (some 38) (by kernel_rfl) ?_
      refine call_0 (taskmillref_F_spec 4 i7 r3060 hr3060) (by simp only [push_cast, seval]) (by simp only [push_cast, seval]) ?_
      refine back_f ?_
      refine rs 1 [] [] (by kernel_rfl) allP_nil ?_
      refine rf [(4, .ptr 0 0)] [(0, .row 26 (Enc.cells r3060)), (1, .row 36 (Enc.cells (ix l i7)))] 2 (by kernel_rfl) ?_
      refine wk_id ?_
      refine rt_cast ht2 ?_
      obtain ⟨r0, h, e0⟩ := map_sx h
      have e1 := hr2 r0 e0.symm
      subst r0
      obtain rfl := Option.some.inj h
      refine ret_at (.agg (Enc.cells r3060)) (by kernel_rfl) ?_
      exact ret_e [] [] (by simp only [push_cast, seval]) (by simp only [push_cast, seval]) rfl rfl rfl
     ·refine wk_id ?_
      refine seq_np ?_
      refine seq_cut (A := Unit) (fun _ => ([(0, iS kind), (1, .sl l.length (fl l)), (4, .ptr 0 0), (5, iS i7), (6, .ptr 1 0), (53, bS ((decide ((ix l i7).Begin < 0)) || ((decide ((ix l i7).End ≤ (ix l i7).Begin)) || (decide ((1000000000 : Int) < (ix l i7).End)))))], [(0, .row 26 [iS 0, iS 0]), (1, .row 36 (Enc.cells (ix l i7)))], 2)) (fun _ => True) (fun K3067 hK3067 => ?_) (fun _ _ => ?_)
      ·refine reg_f ?_
       refine rs 4 [] [] (by kernel_rfl) allP_nil ?_
       refine run_split 42 (decide ((ix l i7).Begin < 0)) (.inl (by kernel_rfl)) (fun g3068 => ?_) (fun g3068 => ?_)
       ·refine rs 11 [] [] (by kernel_rfl) allP_nil ?_
        refine rf [(0, iS kind), (1, .sl l.length (fl l)), (4, .ptr 0 0), (5, iS i7), (6, .ptr 1 0), (53, bS true)] [(0, .row 26 [iS 0, iS 0]), (1, .row 36 (Enc.cells (ix l i7)))] 2 (by kernel_rfl) ?_
        exact hK3067 () _ _ _ trivial (leSt_m [(0, 0), (1, 1)] [] (by (try simp only [g3068]) <;> simp only [push_cast, seval]) (by (try simp only [g3068]) <;> simp only [push_cast, seval]) rfl rfl rfl)
       ·refine rs 7 [] [] (by kernel_rfl) allP_nil ?_
        refine run_split 49 (decide ((ix l i7).End ≤ (ix l i7).Begin)) (.inl (by kernel_rfl)) (fun g3069 => ?_) (fun g3069 => ?_)
        ·refine rs 4 [] [] (by kernel_rfl) allP_nil ?_
         refine rf [(0, iS kind), (1, .sl l.length (fl l)), (4, .ptr 0 0), (5, iS i7), (6, .ptr 1 0), (53, bS true)] [(0, .row 26 [iS 0, iS 0]), (1, .row 36 (Enc.cells (ix l i7)))] 2 (by kernel_rfl) ?_
         exact hK3067 () _ _ _ trivial (leSt_m [(0, 0), (1, 1)] [] (by first | ((try simp only [g3068, g3069]) <;> simp only [push_cast, seval]; done) | ((try simp only [g3068]); (try simp only [g3069]); simp only [push_cast, seval]; done) | (exfalso; clear h; simp_all; done)) (by first | ((try simp only [g3068, g3069]) <;> simp only [push_cast, seval]; done) | ((try simp only [g3068]); (try simp only [g3069]); simp only [push_cast, seval]; done) | (exfalso; clear h; simp_all; done)) rfl rfl rfl)
        ·refine rs 4 [] [] (by kernel_rfl) allP_nil ?_
         refine rf [(0, iS kind), (1, .sl l.length (fl l)), (4, .ptr 0 0), (5, iS i7), (6, .ptr 1 0), (53, bS (decide ((1000000000 : Int) < (ix l i7).End)))] [(0, .row 26 [iS 0, iS 0]), (1, .row 36 (Enc.cells (ix l i7)))] 2 (by kernel_rfl) ?_
         exact hK3067 () _ _ _ trivial (leSt_m [(0, 0), (1, 1)] [] (by first | ((try simp only [g3068, g3069]) <;> simp only [push_cast, seval]; done) | ((try simp only [g3068]); (try simp only [g3069]); simp only [push_cast, seval]; done) | (exfalso; clear h; simp_all; done)) (by first | ((try simp only [g3068, g3069]) <;> simp only [push_cast, seval]; done) | ((try simp only [g3068]); (try simp only [g3069]); simp only [push_cast, seval]; done) | (exfalso; clear h; simp_all; done)) rfl rfl rfl)
      ·dsimp only
       refine cond_sx h (by kernel_rfl) (fun g3149 h => ?_) (fun g3149 h => ?_)
       ·refine seq_np ?_
        refine reg_f ?_
        refine rs 1 [] [] (by kernel_rfl) allP_nil ?_
        obtain ⟨r3071, hr3071, h⟩ := bind_sx h
        refine run_call 12 [iS 3, iS i7] (some 55) (by kernel_rfl) ?_
        refine call_0 (taskmillref_F_spec 3 i7 r3071 hr3071) (by simp only [push_cast, seval]) (by simp only [push_cast, seval]) ?_
        refine back_f ?_
        refine rs 1 [] [] (by kernel_rfl) allP_nil ?_
        refine rf [(4, .ptr 0 0)] [(0, .row 26 (Enc.cells r3071)), (1, .row 36 (Enc.cells (ix l i7)))] 2 (by kernel_rfl) ?_
        refine wk_id ?_
        refine rt_cast ht2 ?_
        obtain ⟨r0, h, e0⟩ := map_sx h
        have e1 := hr2 r0 e0.symm
        subst r0
        obtain rfl := Option.some.inj h
        refine ret_at (.agg (Enc.cells r3071)) (by kernel_rfl) ?_
        exact ret_e [] [] (by simp only [push_cast, seval]) (by simp only [push_cast, seval]) rfl rfl rfl
       ·refine wk_id ?_
        refine seq_np ?_
        refine reg_f ?_
        refine rs 4 [] [] (by kernel_rfl) allP_nil ?_
        refine rf [(0, iS kind), (1, .sl l.length (fl l)), (4, .ptr 0 0), (5, iS i7), (6, .ptr 1 0), (7, bS false), (8, bS false), (9, bS false), (10, bS false)] [(0, .row 26 [iS 0, iS 0]), (1, .row 36 (Enc.cells (ix l i7)))] 2 (by kernel_rfl) ?_
        refine wk_id ?_
        refine seq_np ?_
        refine seq_np ?_
        refine reg_f ?_
        refine rs 2 [] [] (by kernel_rfl) allP_nil ?_
        refine rf [(0, iS kind), (1, .sl l.length (fl l)), (4, .ptr 0 0), (5, iS i7), (6, .ptr 1 0), (7, bS false), (8, bS false), (9, bS false), (10, bS false), (57, iS (ix l i7).Kind)] [(0, .row 26 [iS 0, iS 0]), (1, .row 36 (Enc.cells (ix l i7)))] 2 (by kernel_rfl) ?_
        refine wk_id ?_
        refine block_cut (A := Bool × Bool × Bool × Bool) (fun a => ([(0, iS kind), (1, .sl l.length (fl l)), (4, .ptr 0 0), (5, iS i7), (6, .ptr 1 0), (7, bS a.1), (8, bS a.2.1), (9, bS a.2.2.1), (10, bS a.2.2.2)], [(0, .row 26 [iS 0, iS 0]), (1, .row 36 (Enc.cells (ix l i7)))], 2)) (fun a => (taskmillref_CallsFault_j1 kind l i7 a.1 a.2.1 a.2.2.1 a.2.2.2) = some o2) (fun K3091 hK3091 => ?_) ?_
        ·refine seq_cut (A := Bool) (fun a => ([(0, iS kind), (1, .sl l.length (fl l)), (4, .ptr 0 0), (5, iS i7), (6, .ptr 1 0), (7, bS false), (8, bS false), (9, bS false), (10, bS false), (57, iS (ix l i7).Kind), (58, bS a)], [(0, .row 26 [iS 0, iS 0]), (1, .row 36 (Enc.cells (ix l i7)))], 2)) (fun a => (taskmillref_CallsFault_j2 kind l i7 a) = some o2) (fun K3094 hK3094 => ?_) ?_
         ·refine seq_np ?_
          refine reg_f ?_
          refine rs 2 [] [] (by kernel_rfl) allP_nil ?_
          refine rf [(0, iS kind), (1, .sl l.length (fl l)), (4, .ptr 0 0), (5, iS i7), (6, .ptr 1 0), (7, bS false), (8, bS false), (9, bS false), (10, bS false), (57, iS (ix l i7).Kind), (58, bS ((ix l i7).Kind == 1))] [(0, .row 26 [iS 0, iS 0]), (1, .row 36 (Enc.cells (ix l i7)))] 2 (by kernel_rfl) ?_
          refine wk_id ?_
          refine cond_sx h (by kernel_rfl) (fun g3095 h => ?_) (fun g3095 h => ?_)
          ·exact hK3094 (((ix l i7).Kind == 1)) _ _ _ h (leSt_m [(0, 0), (1, 1)] [] (by simp only [push_cast, seval]) (by simp only [push_cast, seval]) rfl rfl rfl)
          ·refine reg_f ?_
           refine rs 2 [] [] (by kernel_rfl) allP_nil ?_
           refine rf [(0, iS kind), (1, .sl l.length (fl l)), (4, .ptr 0 0), (5, iS i7), (6, .ptr 1 0), (7, bS false), (8, bS false), (9, bS false), (10, bS false), (57, iS (ix l i7).Kind), (58, bS ((ix l i7).Kind == 3))] [(0, .row 26 [iS 0, iS 0]), (1, .row 36 (Enc.cells (ix l i7)))] 2 (by kernel_rfl) ?_
           exact hK3094 (((ix l i7).Kind == 3)) _ _ _ h (leSt_m [(0, 0), (1, 1)] [] (by simp only [push_cast, seval]) (by simp only [push_cast, seval]) rfl rfl rfl)
         ·rintro t58q15 h
          try dsimp only at h ⊢
          unfold taskmillref_CallsFault_j2 at h
          refine cond_sx h (by kernel_rfl) (fun g3100 h => ?_) (fun g3100 h => ?_)
          ·refine reg_f ?_
           refine rs 1 [] [] (by kernel_rfl) allP_nil ?_
           refine rf [(0, iS kind), (1, .sl l.length (fl l)), (4, .ptr 0 0), (5, iS i7), (6, .ptr 1 0), (7, bS true), (8, bS false), (9, bS false), (10, bS false)] [(0, .row 26 [iS 0, iS 0]), (1, .row 36 (Enc.cells (ix l i7)))] 2 (by kernel_rfl) ?_
           exact hK3091 (true, false, false, false) _ _ _ h (leSt_m [(0, 0), (1, 1)] [] (by simp only [push_cast, seval]) (by simp only [push_cast, seval]) rfl rfl rfl)
          ·refine seq_np ?_
           refine reg_f ?_
           refine rs 2 [] [] (by kernel_rfl) allP_nil ?_
           refine rf [(0, iS kind), (1, .sl l.length (fl l)), (4, .ptr 0 0), (5, iS i7), (6, .ptr 1 0), (7, bS false), (8, bS false), (9, bS false), (10, bS false), (57, iS (ix l i7).Kind), (61, bS ((ix l i7).Kind == 2))] [(0, .row 26 [iS 0, iS 0]), (1, .row 36 (Enc.cells (ix l i7)))] 2 (by kernel_rfl) ?_
           refine wk_id ?_
           refine cond_sx h (by kernel_rfl) (fun g3099 h => ?_) (fun g3099 h => ?_)
           ·refine seq_np ?_
            refine reg_f ?_
            refine rs 1 [] [] (by kernel_rfl) allP_nil ?_
            refine rf [(0, iS kind), (1, .sl l.length (fl l)), (4, .ptr 0 0), (5, iS i7), (6, .ptr 1 0), (7, bS false), (8, bS false), (10, bS true)] [(0, .row 26 [iS 0, iS 0]), (1, .row 36 (Enc.cells (ix l i7)))] 2 (by kernel_rfl) ?_
            refine wk_id ?_
            refine reg_f ?_
            refine rs 3 [] [] (by kernel_rfl) allP_nil ?_
            refine rf [(0, iS kind), (1, .sl l.length (fl l)), (4, .ptr 0 0), (5, iS i7), (6, .ptr 1 0), (7, bS false), (8, bS false), (9, bS (ix l i7).Ok), (10, bS true)] [(0, .row 26 [iS 0, iS 0]), (1, .row 36 (Enc.cells (ix l i7)))] 2 (by kernel_rfl) ?_
            exact hK3091 (false, false, (ix l i7).Ok, true) _ _ _ h (leSt_m [(0, 0), (1, 1)] [] (by simp only [push_cast, seval]) (by simp only [push_cast, seval]) rfl rfl rfl)
           ·refine seq_np ?_
            refine reg_f ?_
            refine rs 2 [] [] (by kernel_rfl) allP_nil ?_
            refine rf [(0, iS kind), (1, .sl l.length (fl l)), (4, .ptr 0 0), (5, iS i7), (6, .ptr 1 0), (7, bS false), (8, bS false), (9, bS false), (10, bS false), (57, iS (ix l i7).Kind), (65, bS ((ix l i7).Kind == 4))] [(0, .row 26 [iS 0, iS 0]), (1, .row 36 (Enc.cells (ix l i7)))] 2 (by kernel_rfl) ?_
            refine wk_id ?_
            refine cond_sx h (by kernel_rfl) (fun g3098 h => ?_) (fun g3098 h => ?_)
            ·refine reg_f ?_
             refine rs 1 [] [] (by kernel_rfl) allP_nil ?_
             refine rf [(0, iS kind), (1, .sl l.length (fl l)), (4, .ptr 0 0), (5, iS i7), (6, .ptr 1 0), (7, bS false), (8, bS false), (9, bS true), (10, bS false)] [(0, .row 26 [iS 0, iS 0]), (1, .row 36 (Enc.cells (ix l i7)))] 2 (by kernel_rfl) ?_
             exact hK3091 (false, false, true, false) _ _ _ h (leSt_m [(0, 0), (1, 1)] [] (by simp only [push_cast, seval]) (by simp only [push_cast, seval]) rfl rfl rfl)
            ·refine seq_np ?_
             refine reg_f ?_
             refine rs 2 [] [] (by kernel_rfl) allP_nil ?_
             refine rf [(0, iS kind), (1, .sl l.length (fl l)), (4, .ptr 0 0), (5, iS i7), (6, .ptr 1 0), (7, bS false), (8, bS false), (9, bS false), (10, bS false), (57, iS (ix l i7).Kind), (67, bS ((ix l i7).Kind == 5))] [(0, .row 26 [iS 0, iS 0]), (1, .row 36 (Enc.cells (ix l i7)))] 2 (by kernel_rfl) ?_
             refine wk_id ?_
             refine cond_sx h (by kernel_rfl) (fun g3097 h => ?_) (fun g3097 h => ?_)
             ·refine seq_np ?_
              refine reg_f ?_
              refine rs 1 [] [] (by kernel_rfl) allP_nil ?_
              refine rf [(0, iS kind), (1, .sl l.length (fl l)), (4, .ptr 0 0), (5, iS i7), (6, .ptr 1 0), (7, bS true), (8, bS false), (10, bS false)] [(0, .row 26 [iS 0, iS 0]), (1, .row 36 (Enc.cells (ix l i7)))] 2 (by kernel_rfl) ?_
              refine wk_id ?_
              refine reg_f ?_
              refine rs 1 [] [] (by kernel_rfl) allP_nil ?_
              refine rf [(0, iS kind), (1, .sl l.length (fl l)), (4, .ptr 0 0), (5, iS i7), (6, .ptr 1 0), (7, bS true), (8, bS false), (9, bS true), (10, bS false)] [(0, .row 26 [iS 0, iS 0]), (1, .row 36 (Enc.cells (ix l i7)))] 2 (by kernel_rfl) ?_
              exact hK3091 (true, false, true, false) _ _ _ h (leSt_m [(0, 0), (1, 1)] [] (by simp only [push_cast, seval]) (by simp only [push_cast, seval]) rfl rfl rfl)
             ·refine seq_np ?_
              refine reg_f ?_
              refine rs 2 [] [] (by kernel_rfl) allP_nil ?_
              refine rf [(0, iS kind), (1, .sl l.length (fl l)), (4, .ptr 0 0), (5, iS i7), (6, .ptr 1 0), (7, bS false), (8, bS false), (9, bS false), (10, bS false), (69, bS ((ix l i7).Kind == 6))] [(0, .row 26 [iS 0, iS 0]), (1, .row 36 (Enc.cells (ix l i7)))] 2 (by kernel_rfl) ?_
              refine wk_id ?_
              refine cond_sx h (by kernel_rfl) (fun g3096 h => ?_) (fun g3096 h => ?_)
              ·refine seq_np ?_
               refine reg_f ?_
               refine rs 1 [] [] (by kernel_rfl) allP_nil ?_
               refine rf [(0, iS kind), (1, .sl l.length (fl l)), (4, .ptr 0 0), (5, iS i7), (6, .ptr 1 0), (7, bS true), (9, bS false)] [(0, .row 26 [iS 0, iS 0]), (1, .row 36 (Enc.cells (ix l i7)))] 2 (by kernel_rfl) ?_
               refine wk_id ?_
               refine seq_np ?_
               refine reg_f ?_
               refine rs 1 [] [] (by kernel_rfl) allP_nil ?_
               refine rf [(0, iS kind), (1, .sl l.length (fl l)), (4, .ptr 0 0), (5, iS i7), (6, .ptr 1 0), (7, bS true), (8, bS true), (9, bS false)] [(0, .row 26 [iS 0, iS 0]), (1, .row 36 (Enc.cells (ix l i7)))] 2 (by kernel_rfl) ?_
               refine wk_id ?_
               refine reg_f ?_
               refine rs 1 [] [] (by kernel_rfl) allP_nil ?_
               refine rf [(0, iS kind), (1, .sl l.length (fl l)), (4, .ptr 0 0), (5, iS i7), (6, .ptr 1 0), (7, bS true), (8, bS true), (9, bS false), (10, bS true)] [(0, .row 26 [iS 0, iS 0]), (1, .row 36 (Enc.cells (ix l i7)))] 2 (by kernel_rfl) ?_
               exact hK3091 (true, true, false, true) _ _ _ h (leSt_m [(0, 0), (1, 1)] [] (by simp only [push_cast, seval]) (by simp only [push_cast, seval]) rfl rfl rfl)
              ·exact hK3091 (false, false, false, false) _ _ _ h (leSt_m [(0, 0), (1, 1)] [] (by simp only [push_cast, seval]) (by simp only [push_cast, seval]) rfl rfl rfl)
        ·rintro ⟨arg14, old14, ret14, ok14⟩ h
         try dsimp only at h ⊢
         unfold taskmillref_CallsFault_j1 at h
         refine wk_id ?_
         refine seq_cut (A := Unit) (fun _ => ([(0, iS kind), (1, .sl l.length (fl l)), (4, .ptr 0 0), (5, iS i7), (103, bS (bif (!arg14) then (((ix l i7).Arg != 0) || (bif (!old14) then (((ix l i7).Old != 0) || (bif (!ret14) then (((ix l i7).Ret != 0) || ((!ok14) && (ix l i7).Ok)) else ((!ok14) && (ix l i7).Ok))) else (bif (!ret14) then (((ix l i7).Ret != 0) || ((!ok14) && (ix l i7).Ok)) else ((!ok14) && (ix l i7).Ok)))) else (bif (!old14) then (((ix l i7).Old != 0) || (bif (!ret14) then (((ix l i7).Ret != 0) || ((!ok14) && (ix l i7).Ok)) else ((!ok14) && (ix l i7).Ok))) else (bif (!ret14) then (((ix l i7).Ret != 0) || ((!ok14) && (ix l i7).Ok)) else ((!ok14) && (ix l i7).Ok)))))], [(0, .row 26 [iS 0, iS 0]), (1, .row 36 (Enc.cells (ix l i7)))], 2)) (fun _ => True) (fun K3123 hK3123 => ?_) (fun _ _ => ?_)
         ·refine reg_f ?_
          refine rs 3 [] [] (by kernel_rfl) allP_nil ?_
          refine run_split 73 (!arg14) (.inl (by kernel_rfl)) (fun g3124 => ?_) (fun g3124 => ?_)
          ·refine rs 5 [] [] (by kernel_rfl) allP_nil ?_
           refine run_split 78 ((ix l i7).Arg != 0) (.inl (by kernel_rfl)) (fun g3125 => ?_) (fun g3125 => ?_)
           ·refine rs 25 [] [] (by kernel_rfl) allP_nil ?_
            refine rf [(0, iS kind), (1, .sl l.length (fl l)), (4, .ptr 0 0), (5, iS i7), (103, bS true)] [(0, .row 26 [iS 0, iS 0]), (1, .row 36 (Enc.cells (ix l i7)))] 2 (by kernel_rfl) ?_
            exact hK3123 () _ _ _ trivial (leSt_m [(0, 0), (1, 1)] [] (by first | ((try simp only [g3124, g3125]) <;> simp only [push_cast, seval]; done) | ((try simp only [g3124]); (try simp only [g3125]); simp only [push_cast, seval]; done) | (exfalso; clear h; simp_all; done)) (by first | ((try simp only [g3124, g3125]) <;> simp only [push_cast, seval]; done) | ((try simp only [g3124]); (try simp only [g3125]); simp only [push_cast, seval]; done) | (exfalso; clear h; simp_all; done)) rfl rfl rfl)
           ·refine rs 3 [] [] (by kernel_rfl) allP_nil ?_
            refine run_split 81 (!old14) (.inr (by kernel_rfl)) (fun g3126 => ?_) (fun g3126 => ?_)
            ·refine rn 11 [(0, iS kind), (1, .sl l.length (fl l)), (4, .ptr 0 0), (5, iS i7), (6, .ptr 1 0), (9, bS ret14), (10, bS ok14), (78, bS false), (81, .gd true (bS true))] [(0, .row 26 [iS 0, iS 0]), (1, .row 36 (Enc.cells (ix l i7)))] 2 (by kernel_rfl) ?_
             refine rs 6 [] [] (by kernel_rfl) allP_nil ?_
             refine run_split 87 ((ix l i7).Old != 0) (.inl (by kernel_rfl)) (fun g3127 => ?_) (fun g3127 => ?_)
             ·refine rs 16 [] [] (by kernel_rfl) allP_nil ?_
              refine rf [(0, iS kind), (1, .sl l.length (fl l)), (4, .ptr 0 0), (5, iS i7), (103, bS true)] [(0, .row 26 [iS 0, iS 0]), (1, .row 36 (Enc.cells (ix l i7)))] 2 (by kernel_rfl) ?_
              exact hK3123 () _ _ _ trivial (leSt_m [(0, 0), (1, 1)] [] (by first | ((try simp only [g3124, g3125, g3126, g3127]) <;> simp only [push_cast, seval]; done) | ((try simp only [g3124]); (try simp only [g3125]); (try simp only [g3126]); (try simp only [g3127]); simp only [push_cast, seval]; done) | (exfalso; clear h; simp_all; done)) (by first | ((try simp only [g3124, g3125, g3126, g3127]) <;> simp only [push_cast, seval]; done) | ((try simp only [g3124]); (try simp only [g3125]); (try simp only [g3126]); (try simp only [g3127]); simp only [push_cast, seval]; done) | (exfalso; clear h; simp_all; done)) rfl rfl rfl)
             ·refine rs 3 [] [] (by kernel_rfl) allP_nil ?_
              refine run_split 90 (!ret14) (.inr (by kernel_rfl)) (fun g3128 => ?_) (fun g3128 => ?_)
              ·refine rs 6 [] [] (by kernel_rfl) allP_nil ?_
               refine run_split 96 ((ix l i7).Ret != 0) (.inl (by kernel_rfl)) (fun g3129 => ?_) (fun g3129 => ?_)
               ·refine rn 26 [(0, iS kind), (1, .sl l.length (fl l)), (4, .ptr 0 0), (5, iS i7), (6, .ptr 1 0), (10, bS ok14), (96, bS true)] [(0, .row 26 [iS 0, iS 0]), (1, .row 36 (Enc.cells (ix l i7)))] 2 (by kernel_rfl) ?_
                refine rs 7 [] [] (by kernel_rfl) allP_nil ?_
                refine rf [(0, iS kind), (1, .sl l.length (fl l)), (4, .ptr 0 0), (5, iS i7), (103, bS true)] [(0, .row 26 [iS 0, iS 0]), (1, .row 36 (Enc.cells (ix l i7)))] 2 (by kernel_rfl) ?_
                exact hK3123 () _ _ _ trivial (leSt_m [(0, 0), (1, 1)] [] (by first | ((try simp only [g3124, g3125, g3126, g3127, g3128, g3129]) <;> simp only [push_cast, seval]; done) | ((try simp only [g3124]); (try simp only [g3125]); (try simp only [g3126]); (try simp only [g3127]); (try simp only [g3128]); (try simp only [g3129]); simp only [push_cast, seval]; done) | (exfalso; clear h; simp_all; done)) (by first | ((try simp only [g3124, g3125, g3126, g3127, g3128, g3129]) <;> simp only [push_cast, seval]; done) | ((try simp only [g3124]); (try simp only [g3125]); (try simp only [g3126]); (try simp only [g3127]); (try simp only [g3128]); (try simp only [g3129]); simp only [push_cast, seval]; done) | (exfalso; clear h; simp_all; done)) rfl rfl rfl)
               ·refine rn 26 [(0, iS kind), (1, .sl l.length (fl l)), (4, .ptr 0 0), (5, iS i7), (6, .ptr 1 0), (10, bS ok14), (96, bS false)] [(0, .row 26 [iS 0, iS 0]), (1, .row 36 (Enc.cells (ix l i7)))] 2 (by kernel_rfl) ?_
                refine rs 3 [] [] (by kernel_rfl) allP_nil ?_
                refine run_split 99 (!ok14) (.inr (by kernel_rfl)) (fun g3130 => ?_) (fun g3130 => ?_)
                ·refine rs 4 [] [] (by kernel_rfl) allP_nil ?_
                 refine rf [(0, iS kind), (1, .sl l.length (fl l)), (4, .ptr 0 0), (5, iS i7), (103, bS (ix l i7).Ok)] [(0, .row 26 [iS 0, iS 0]), (1, .row 36 (Enc.cells (ix l i7)))] 2 (by kernel_rfl) ?_
                 exact hK3123 () _ _ _ trivial (leSt_m [(0, 0), (1, 1)] [] (by first | ((try simp only [g3124, g3125, g3126, g3127, g3128, g3129, g3130]) <;> simp only [push_cast, seval]; done) | ((try simp only [g3124]); (try simp only [g3125]); (try simp only [g3126]); (try simp only [g3127]); (try simp only [g3128]); (try simp only [g3129]); (try simp only [g3130]); simp only [push_cast, seval]; done) | (exfalso; clear h; simp_all; done)) (by first | ((try simp only [g3124, g3125, g3126, g3127, g3128, g3129, g3130]) <;> simp only [push_cast, seval]; done) | ((try simp only [g3124]); (try simp only [g3125]); (try simp only [g3126]); (try simp only [g3127]); (try simp only [g3128]); (try simp only [g3129]); (try simp only [g3130]); simp only [push_cast, seval]; done) | (exfalso; clear h; simp_all; done)) rfl rfl rfl)
                ·refine rs 4 [] [] (by kernel_rfl) allP_nil ?_
                 refine rf [(0, iS kind), (1, .sl l.length (fl l)), (4, .ptr 0 0), (5, iS i7), (103, bS false)] [(0, .row 26 [iS 0, iS 0]), (1, .row 36 (Enc.cells (ix l i7)))] 2 (by kernel_rfl) ?_
                 exact hK3123 () _ _ _ trivial (leSt_m [(0, 0), (1, 1)] [] (by first | ((try simp only [g3124, g3125, g3126, g3127, g3128, g3129, g3130]) <;> simp only [push_cast, seval]; done) | ((try simp only [g3124]); (try simp only [g3125]); (try simp only [g3126]); (try simp only [g3127]); (try simp only [g3128]); (try simp only [g3129]); (try simp only [g3130]); simp only [push_cast, seval]; done) | (exfalso; clear h; simp_all; done)) (by first | ((try simp only [g3124, g3125, g3126, g3127, g3128, g3129, g3130]) <;> simp only [push_cast, seval]; done) | ((try simp only [g3124]); (try simp only [g3125]); (try simp only [g3126]); (try simp only [g3127]); (try simp only [g3128]); (try simp only [g3129]); (try simp only [g3130]); simp only [push_cast, seval]; done) | (exfalso; clear h; simp_all; done)) rfl rfl rfl)
              ·refine rs 9 [] [] (by kernel_rfl) allP_nil ?_
               refine run_split 99 (!ok14) (.inr (by kernel_rfl)) (fun g3131 => ?_) (fun g3131 => ?_)
               ·refine rn 29 [(0, iS kind), (1, .sl l.length (fl l)), (4, .ptr 0 0), (5, iS i7), (6, .ptr 1 0), (96, bS false), (99, .gd true (bS true))] [(0, .row 26 [iS 0, iS 0]), (1, .row 36 (Enc.cells (ix l i7)))] 2 (by kernel_rfl) ?_
                refine rs 4 [] [] (by kernel_rfl) allP_nil ?_
                refine rf [(0, iS kind), (1, .sl l.length (fl l)), (4, .ptr 0 0), (5, iS i7), (103, bS (ix l i7).Ok)] [(0, .row 26 [iS 0, iS 0]), (1, .row 36 (Enc.cells (ix l i7)))] 2 (by kernel_rfl) ?_
                exact hK3123 () _ _ _ trivial (leSt_m [(0, 0), (1, 1)] [] (by first | ((try simp only [g3124, g3125, g3126, g3127, g3128, g3131]) <;> simp only [push_cast, seval]; done) | ((try simp only [g3124]); (try simp only [g3125]); (try simp only [g3126]); (try simp only [g3127]); (try simp only [g3128]); (try simp only [g3131]); simp only [push_cast, seval]; done) | (exfalso; clear h; simp_all; done)) (by first | ((try simp only [g3124, g3125, g3126, g3127, g3128, g3131]) <;> simp only [push_cast, seval]; done) | ((try simp only [g3124]); (try simp only [g3125]); (try simp only [g3126]); (try simp only [g3127]); (try simp only [g3128]); (try simp only [g3131]); simp only [push_cast, seval]; done) | (exfalso; clear h; simp_all; done)) rfl rfl rfl)
               ·refine rn 29 [(0, iS kind), (1, .sl l.length (fl l)), (4, .ptr 0 0), (5, iS i7), (6, .ptr 1 0), (96, bS false), (99, .gd true (bS false))] [(0, .row 26 [iS 0, iS 0]), (1, .row 36 (Enc.cells (ix l i7)))] 2 (by kernel_rfl) ?_
                refine rs 4 [] [] (by kernel_rfl) allP_nil ?_
                refine rf [(0, iS kind), (1, .sl l.length (fl l)), (4, .ptr 0 0), (5, iS i7), (103, bS false)] [(0, .row 26 [iS 0, iS 0]), (1, .row 36 (Enc.cells (ix l i7)))] 2 (by kernel_rfl) ?_
                exact hK3123 () _ _ _ trivial (leSt_m [(0, 0), (1, 1)] [] (by first | ((try simp only [g3124, g3125, g3126, g3127, g3128, g3131]) <;> simp only [push_cast, seval]; done) | ((try simp only [g3124]); (try simp only [g3125]); (try simp only [g3126]); (try simp only [g3127]); (try simp only [g3128]); (try simp only [g3131]); simp only [push_cast, seval]; done) | (exfalso; clear h; simp_all; done)) (by first | ((try simp only [g3124, g3125, g3126, g3127, g3128, g3131]) <;> simp only [push_cast, seval]; done) | ((try simp only [g3124]); (try simp only [g3125]); (try simp only [g3126]); (try simp only [g3127]); (try simp only [g3128]); (try simp only [g3131]); simp only [push_cast, seval]; done) | (exfalso; clear h; simp_all; done)) rfl rfl rfl)
            ·refine rn 11 [(0, iS kind), (1, .sl l.length (fl l)), (4, .ptr 0 0), (5, iS i7), (6, .ptr 1 0), (9, bS ret14), (10, bS ok14), (78, bS false), (81, .gd true (bS false))] [(0, .row 26 [iS 0, iS 0]), (1, .row 36 (Enc.cells (ix l i7)))] 2 (by kernel_rfl) ?_
             refine rs 9 [] [] (by kernel_rfl) allP_nil ?_
             refine run_split 90 (!ret14) (.inr (by kernel_rfl)) (fun g3132 => ?_) (fun g3132 => ?_)
             ·refine rs 6 [] [] (by kernel_rfl) allP_nil ?_
              refine run_split 96 ((ix l i7).Ret != 0) (.inl (by kernel_rfl)) (fun g3133 => ?_) (fun g3133 => ?_)
              ·refine rs 7 [] [] (by kernel_rfl) allP_nil ?_
               refine rf [(0, iS kind), (1, .sl l.length (fl l)), (4, .ptr 0 0), (5, iS i7), (103, bS true)] [(0, .row 26 [iS 0, iS 0]), (1, .row 36 (Enc.cells (ix l i7)))] 2 (by kernel_rfl) ?_
               exact hK3123 () _ _ _ trivial (leSt_m [(0, 0), (1, 1)] [] (by first | ((try simp only [g3124, g3125, g3126, g3132, g3133]) <;> simp only [push_cast, seval]; done) | ((try simp only [g3124]); (try simp only [g3125]); (try simp only [g3126]); (try simp only [g3132]); (try simp only [g3133]); simp only [push_cast, seval]; done) | (exfalso; clear h; simp_all; done)) (by first | ((try simp only [g3124, g3125, g3126, g3132, g3133]) <;> simp only [push_cast, seval]; done) | ((try simp only [g3124]); (try simp only [g3125]); (try simp only [g3126]); (try simp only [g3132]); (try simp only [g3133]); simp only [push_cast, seval]; done) | (exfalso; clear h; simp_all; done)) rfl rfl rfl)
              ·refine rs 3 [] [] (by kernel_rfl) allP_nil ?_
               refine run_split 99 (!ok14) (.inr (by kernel_rfl)) (fun g3134 => ?_) (fun g3134 => ?_)
               ·refine rn 29 [(0, iS kind), (1, .sl l.length (fl l)), (4, .ptr 0 0), (5, iS i7), (6, .ptr 1 0), (96, bS false), (99, .gd true (bS true))] [(0, .row 26 [iS 0, iS 0]), (1, .row 36 (Enc.cells (ix l i7)))] 2 (by kernel_rfl) ?_
                refine rs 4 [] [] (by kernel_rfl) allP_nil ?_
                refine rf [(0, iS kind), (1, .sl l.length (fl l)), (4, .ptr 0 0), (5, iS i7), (103, bS (ix l i7).Ok)] [(0, .row 26 [iS 0, iS 0]), (1, .row 36 (Enc.cells (ix l i7)))] 2 (by kernel_rfl) ?_
                exact hK3123 () _ _ _ trivial (leSt_m [(0, 0), (1, 1)] [] (by first | ((try simp only [g3124, g3125, g3126, g3132, g3133, g3134]) <;> simp only [push_cast, seval]; done) | ((try simp only [g3124]); (try simp only [g3125]); (try simp only [g3126]); (try simp only [g3132]); (try simp only [g3133]); (try simp only [g3134]); simp only [push_cast, seval]; done) | (exfalso; clear h; simp_all; done)) (by first | ((try simp only [g3124, g3125, g3126, g3132, g3133, g3134]) <;> simp only [push_cast, seval]; done) | ((try simp only [g3124]); (try simp only [g3125]); (try simp only [g3126]); (try simp only [g3132]); (try simp only [g3133]); (try simp only [g3134]); simp only [push_cast, seval]; done) | (exfalso; clear h; simp_all; done)) rfl rfl rfl)
               ·refine rn 29 [(0, iS kind), (1, .sl l.length (fl l)), (4, .ptr 0 0), (5, iS i7), (6, .ptr 1 0), (96, bS false), (99, .gd true (bS false))] [(0, .row 26 [iS 0, iS 0]), (1, .row 36 (Enc.cells (ix l i7)))] 2 (by kernel_rfl) ?_
                refine rs 4 [] [] (by kernel_rfl) allP_nil ?_
                refine rf [(0, iS kind), (1, .sl l.length (fl l)), (4, .ptr 0 0), (5, iS i7), (103, bS false)] [(0, .row 26 [iS 0, iS 0]), (1, .row 36 (Enc.cells (ix l i7)))] 2 (by kernel_rfl) ?_
                exact hK3123 () _ _ _ trivial (leSt_m [(0, 0), (1, 1)] [] (by first | ((try simp only [g3124, g3125, g3126, g3132, g3133, g3134]) <;> simp only [push_cast, seval]; done) | ((try simp only [g3124]); (try simp only [g3125]); (try simp only [g3126]); (try simp only [g3132]); (try simp only [g3133]); (try simp only [g3134]); simp only [push_cast, seval]; done) | (exfalso; clear h; simp_all; done)) (by first | ((try simp only [g3124, g3125, g3126, g3132, g3133, g3134]) <;> simp only [push_cast, seval]; done) | ((try simp only [g3124]); (try simp only [g3125]); (try simp only [g3126]); (try simp only [g3132]); (try simp only [g3133]); (try simp only [g3134]); simp only [push_cast, seval]; done) | (exfalso; clear h; simp_all; done)) rfl rfl rfl)
             ·refine rs 9 [] [] (by kernel_rfl) allP_nil ?_
              refine run_split 99 (!ok14) (.inr (by kernel_rfl)) (fun g3135 => ?_) (fun g3135 => ?_)
              ·refine rs 4 [] [] (by kernel_rfl) allP_nil ?_
               refine rf [(0, iS kind), (1, .sl l.length (fl l)), (4, .ptr 0 0), (5, iS i7), (103, bS (ix l i7).Ok)] [(0, .row 26 [iS 0, iS 0]), (1, .row 36 (Enc.cells (ix l i7)))] 2 (by kernel_rfl) ?_
               exact hK3123 () _ _ _ trivial (leSt_m [(0, 0), (1, 1)] [] (by first | ((try simp only [g3124, g3125, g3126, g3132, g3135]) <;> simp only [push_cast, seval]; done) | ((try simp only [g3124]); (try simp only [g3125]); (try simp only [g3126]); (try simp only [g3132]); (try simp only [g3135]); simp only [push_cast, seval]; done) | (exfalso; clear h; simp_all; done)) (by first | ((try simp only [g3124, g3125, g3126, g3132, g3135]) <;> simp only [push_cast, seval]; done) | ((try simp only [g3124]); (try simp only [g3125]); (try simp only [g3126]); (try simp only [g3132]); (try simp only [g3135]); simp only [push_cast, seval]; done) | (exfalso; clear h; simp_all; done)) rfl rfl rfl)
              ·refine rs 4 [] [] (by kernel_rfl) allP_nil ?_
               refine rf [(0, iS kind), (1, .sl l.length (fl l)), (4, .ptr 0 0), (5, iS i7), (103, bS false)] [(0, .row 26 [iS 0, iS 0]), (1, .row 36 (Enc.cells (ix l i7)))] 2 (by kernel_rfl) ?_
               exact hK3123 () _ _ _ trivial (leSt_m [(0, 0), (1, 1)] [] (by first | ((try simp only [g3124, g3125, g3126, g3132, g3135]) <;> simp only [push_cast, seval]; done) | ((try simp only [g3124]); (try simp only [g3125]); (try simp only [g3126]); (try simp only [g3132]); (try simp only [g3135]); simp only [push_cast, seval]; done) | (exfalso; clear h; simp_all; done)) (by first | ((try simp only [g3124, g3125, g3126, g3132, g3135]) <;> simp only [push_cast, seval]; done) | ((try simp only [g3124]); (try simp only [g3125]); (try simp only [g3126]); (try simp only [g3132]); (try simp only [g3135]); simp only [push_cast, seval]; done) | (exfalso; clear h; simp_all; done)) rfl rfl rfl)
          ·refine rs 8 [] [] (by kernel_rfl) allP_nil ?_
           refine run_split 81 (!old14) (.inr (by kernel_rfl)) (fun g3136 => ?_) (fun g3136 => ?_)
           ·refine rs 6 [] [] (by kernel_rfl) allP_nil ?_
            refine run_split 87 ((ix l i7).Old != 0) (.inl (by kernel_rfl)) (fun g3137 => ?_) (fun g3137 => ?_)
            ·refine rn 17 [(0, iS kind), (1, .sl l.length (fl l)), (4, .ptr 0 0), (5, iS i7), (6, .ptr 1 0), (9, bS ret14), (10, bS ok14), (87, bS true)] [(0, .row 26 [iS 0, iS 0]), (1, .row 36 (Enc.cells (ix l i7)))] 2 (by kernel_rfl) ?_
             refine rs 16 [] [] (by kernel_rfl) allP_nil ?_
             refine rf [(0, iS kind), (1, .sl l.length (fl l)), (4, .ptr 0 0), (5, iS i7), (103, bS true)] [(0, .row 26 [iS 0, iS 0]), (1, .row 36 (Enc.cells (ix l i7)))] 2 (by kernel_rfl) ?_
             exact hK3123 () _ _ _ trivial (leSt_m [(0, 0), (1, 1)] [] (by first | ((try simp only [g3124, g3136, g3137]) <;> simp only [push_cast, seval]; done) | ((try simp only [g3124]); (try simp only [g3136]); (try simp only [g3137]); simp only [push_cast, seval]; done) | (exfalso; clear h; simp_all; done)) (by first | ((try simp only [g3124, g3136, g3137]) <;> simp only [push_cast, seval]; done) | ((try simp only [g3124]); (try simp only [g3136]); (try simp only [g3137]); simp only [push_cast, seval]; done) | (exfalso; clear h; simp_all; done)) rfl rfl rfl)
            ·refine rn 17 [(0, iS kind), (1, .sl l.length (fl l)), (4, .ptr 0 0), (5, iS i7), (6, .ptr 1 0), (9, bS ret14), (10, bS ok14), (87, bS false)] [(0, .row 26 [iS 0, iS 0]), (1, .row 36 (Enc.cells (ix l i7)))] 2 (by kernel_rfl) ?_
             refine rs 3 [] [] (by kernel_rfl) allP_nil ?_
             refine run_split 90 (!ret14) (.inr (by kernel_rfl)) (fun g3138 => ?_) (fun g3138 => ?_)
             ·refine rs 6 [] [] (by kernel_rfl) allP_nil ?_
              refine run_split 96 ((ix l i7).Ret != 0) (.inl (by kernel_rfl)) (fun g3139 => ?_) (fun g3139 => ?_)
              ·refine rs 7 [] [] (by kernel_rfl) allP_nil ?_
               refine rf [(0, iS kind), (1, .sl l.length (fl l)), (4, .ptr 0 0), (5, iS i7), (103, bS true)] [(0, .row 26 [iS 0, iS 0]), (1, .row 36 (Enc.cells (ix l i7)))] 2 (by kernel_rfl) ?_
               exact hK3123 () _ _ _ trivial (leSt_m [(0, 0), (1, 1)] [] (by first | ((try simp only [g3124, g3136, g3137, g3138, g3139]) <;> simp only [push_cast, seval]; done) | ((try simp only [g3124]); (try simp only [g3136]); (try simp only [g3137]); (try simp only [g3138]); (try simp only [g3139]); simp only [push_cast, seval]; done) | (exfalso; clear h; simp_all; done)) (by first | ((try simp only [g3124, g3136, g3137, g3138, g3139]) <;> simp only [push_cast, seval]; done) | ((try simp only [g3124]); (try simp only [g3136]); (try simp only [g3137]); (try simp only [g3138]); (try simp only [g3139]); simp only [push_cast, seval]; done) | (exfalso; clear h; simp_all; done)) rfl rfl rfl)
              ·refine rs 3 [] [] (by kernel_rfl) allP_nil ?_
               refine run_split 99 (!ok14) (.inr (by kernel_rfl)) (fun g3140 => ?_) (fun g3140 => ?_)
               ·refine rn 29 [(0, iS kind), (1, .sl l.length (fl l)), (4, .ptr 0 0), (5, iS i7), (6, .ptr 1 0), (96, bS false), (99, .gd true (bS true))] [(0, .row 26 [iS 0, iS 0]), (1, .row 36 (Enc.cells (ix l i7)))] 2 (by kernel_rfl) ?_
                refine rs 4 [] [] (by kernel_rfl) allP_nil ?_
                refine rf [(0, iS kind), (1, .sl l.length (fl l)), (4, .ptr 0 0), (5, iS i7), (103, bS (ix l i7).Ok)] [(0, .row 26 [iS 0, iS 0]), (1, .row 36 (Enc.cells (ix l i7)))] 2 (by kernel_rfl) ?_
                exact hK3123 () _ _ _ trivial (leSt_m [(0, 0), (1, 1)] [] (by first | ((try simp only [g3124, g3136, g3137, g3138, g3139, g3140]) <;> simp only [push_cast, seval]; done) | ((try simp only [g3124]); (try simp only [g3136]); (try simp only [g3137]); (try simp only [g3138]); (try simp only [g3139]); (try simp only [g3140]); simp only [push_cast, seval]; done) | (exfalso; clear h; simp_all; done)) (by first | ((try simp only [g3124, g3136, g3137, g3138, g3139, g3140]) <;> simp only [push_cast, seval]; done) | ((try simp only [g3124]); (try simp only [g3136]); (try simp only [g3137]); (try simp only [g3138]); (try simp only [g3139]); (try simp only [g3140]); simp only [push_cast, seval]; done) | (exfalso; clear h; simp_all; done)) rfl rfl rfl)
               ·refine rn 29 [(0, iS kind), (1, .sl l.length (fl l)), (4, .ptr 0 0), (5, iS i7), (6, .ptr 1 0), (96, bS false), (99, .gd true (bS false))] [(0, .row 26 [iS 0, iS 0]), (1, .row 36 (Enc.cells (ix l i7)))] 2 (by kernel_rfl) ?_
                refine rs 4 [] [] (by kernel_rfl) allP_nil ?_
                refine rf [(0, iS kind), (1, .sl l.length (fl l)), (4, .ptr 0 0), (5, iS i7), (103, bS false)] [(0, .row 26 [iS 0, iS 0]), (1, .row 36 (Enc.cells (ix l i7)))] 2 (by kernel_rfl) ?_
                exact hK3123 () _ _ _ trivial (leSt_m [(0, 0), (1, 1)] [] (by first | ((try simp only [g3124, g3136, g3137, g3138, g3139, g3140]) <;> simp only [push_cast, seval]; done) | ((try simp only [g3124]); (try simp only [g3136]); (try simp only [g3137]); (try simp only [g3138]); (try simp only [g3139]); (try simp only [g3140]); simp only [push_cast, seval]; done) | (exfalso; clear h; simp_all; done)) (by first | ((try simp only [g3124, g3136, g3137, g3138, g3139, g3140]) <;> simp only [push_cast, seval]; done) | ((try simp only [g3124]); (try simp only [g3136]); (try simp only [g3137]); (try simp only [g3138]); (try simp only [g3139]); (try simp only [g3140]); simp only [push_cast, seval]; done) | (exfalso; clear h; simp_all; done)) rfl rfl rfl)
             ·refine rs 9 [] [] (by kernel_rfl) allP_nil ?_
              refine run_split 99 (!ok14) (.inr (by kernel_rfl)) (fun g3141 => ?_) (fun g3141 => ?_)
              ·refine rs 4 [] [] (by kernel_rfl) allP_nil ?_
               refine rf [(0, iS kind), (1, .sl l.length (fl l)), (4, .ptr 0 0), (5, iS i7), (103, bS (ix l i7).Ok)] [(0, .row 26 [iS 0, iS 0]), (1, .row 36 (Enc.cells (ix l i7)))] 2 (by kernel_rfl) ?_
               exact hK3123 () _ _ _ trivial (leSt_m [(0, 0), (1, 1)] [] (by first | ((try simp only [g3124, g3136, g3137, g3138, g3141]) <;> simp only [push_cast, seval]; done) | ((try simp only [g3124]); (try simp only [g3136]); (try simp only [g3137]); (try simp only [g3138]); (try simp only [g3141]); simp only [push_cast, seval]; done) | (exfalso; clear h; simp_all; done)) (by first | ((try simp only [g3124, g3136, g3137, g3138, g3141]) <;> simp only [push_cast, seval]; done) | ((try simp only [g3124]); (try simp only [g3136]); (try simp only [g3137]); (try simp only [g3138]); (try simp only [g3141]); simp only [push_cast, seval]; done) | (exfalso; clear h; simp_all; done)) rfl rfl rfl)
              ·refine rs 4 [] [] (by kernel_rfl) allP_nil ?_
               refine rf [(0, iS kind), (1, .sl l.length (fl l)), (4, .ptr 0 0), (5, iS i7), (103, bS false)] [(0, .row 26 [iS 0, iS 0]), (1, .row 36 (Enc.cells (ix l i7)))] 2 (by kernel_rfl) ?_
               exact hK3123 () _ _ _ trivial (leSt_m [(0, 0), (1, 1)] [] (by first | ((try simp only [g3124, g3136, g3137, g3138, g3141]) <;> simp only [push_cast, seval]; done) | ((try simp only [g3124]); (try simp only [g3136]); (try simp only [g3137]); (try simp only [g3138]); (try simp only [g3141]); simp only [push_cast, seval]; done) | (exfalso; clear h; simp_all; done)) (by first | ((try simp only [g3124, g3136, g3137, g3138, g3141]) <;> simp only [push_cast, seval]; done) | ((try simp only [g3124]); (try simp only [g3136]); (try simp only [g3137]); (try simp only [g3138]); (try simp only [g3141]); simp only [push_cast, seval]; done) | (exfalso; clear h; simp_all; done)) rfl rfl rfl)
           ·refine rs 9 [] [] (by kernel_rfl) allP_nil ?_
            refine run_split 90 (!ret14) (.inr (by kernel_rfl)) (fun g3142 => ?_) (fun g3142 => ?_)
            ·refine rn 20 [(0, iS kind), (1, .sl l.length (fl l)), (4, .ptr 0 0), (5, iS i7), (6, .ptr 1 0), (10, bS ok14), (87, bS false), (90, .gd true (bS true))] [(0, .row 26 [iS 0, iS 0]), (1, .row 36 (Enc.cells (ix l i7)))] 2 (by kernel_rfl) ?_
             refine rs 6 [] [] (by kernel_rfl) allP_nil ?_
             refine run_split 96 ((ix l i7).Ret != 0) (.inl (by kernel_rfl)) (fun g3143 => ?_) (fun g3143 => ?_)
             ·refine rs 7 [] [] (by kernel_rfl) allP_nil ?_
              refine rf [(0, iS kind), (1, .sl l.length (fl l)), (4, .ptr 0 0), (5, iS i7), (103, bS true)] [(0, .row 26 [iS 0, iS 0]), (1, .row 36 (Enc.cells (ix l i7)))] 2 (by kernel_rfl) ?_
              exact hK3123 () _ _ _ trivial (leSt_m [(0, 0), (1, 1)] [] (by first | ((try simp only [g3124, g3136, g3142, g3143]) <;> simp only [push_cast, seval]; done) | ((try simp only [g3124]); (try simp only [g3136]); (try simp only [g3142]); (try simp only [g3143]); simp only [push_cast, seval]; done) | (exfalso; clear h; simp_all; done)) (by first | ((try simp only [g3124, g3136, g3142, g3143]) <;> simp only [push_cast, seval]; done) | ((try simp only [g3124]); (try simp only [g3136]); (try simp only [g3142]); (try simp only [g3143]); simp only [push_cast, seval]; done) | (exfalso; clear h; simp_all; done)) rfl rfl rfl)
             ·refine rs 3 [] [] (by kernel_rfl) allP_nil ?_
              refine run_split 99 (!ok14) (.inr (by kernel_rfl)) (fun g3144 => ?_) (fun g3144 => ?_)
              ·refine rs 4 [] [] (by kernel_rfl) allP_nil ?_
               refine rf [(0, iS kind), (1, .sl l.length (fl l)), (4, .ptr 0 0), (5, iS i7), (103, bS (ix l i7).Ok)] [(0, .row 26 [iS 0, iS 0]), (1, .row 36 (Enc.cells (ix l i7)))] 2 (by kernel_rfl) ?_
               exact hK3123 () _ _ _ trivial (leSt_m [(0, 0), (1, 1)] [] (by first | ((try simp only [g3124, g3136, g3142, g3143, g3144]) <;> simp only [push_cast, seval]; done) | ((try simp only [g3124]); (try simp only [g3136]); (try simp only [g3142]); (try simp only [g3143]); (try simp only [g3144]); simp only [push_cast, seval]; done) | (exfalso; clear h; simp_all; done)) (by first | ((try simp only [g3124, g3136, g3142, g3143, g3144]) <;> simp only [push_cast, seval]; done) | ((try simp only [g3124]); (try simp only [g3136]); (try simp only [g3142]); (try simp only [g3143]); (try simp only [g3144]); simp only [push_cast, seval]; done) | (exfalso; clear h; simp_all; done)) rfl rfl rfl)
              ·refine rs 4 [] [] (by kernel_rfl) allP_nil ?_
               refine rf [(0, iS kind), (1, .sl l.length (fl l)), (4, .ptr 0 0), (5, iS i7), (103, bS false)] [(0, .row 26 [iS 0, iS 0]), (1, .row 36 (Enc.cells (ix l i7)))] 2 (by kernel_rfl) ?_
               exact hK3123 () _ _ _ trivial (leSt_m [(0, 0), (1, 1)] [] (by first | ((try simp only [g3124, g3136, g3142, g3143, g3144]) <;> simp only [push_cast, seval]; done) | ((try simp only [g3124]); (try simp only [g3136]); (try simp only [g3142]); (try simp only [g3143]); (try simp only [g3144]); simp only [push_cast, seval]; done) | (exfalso; clear h; simp_all; done)) (by first | ((try simp only [g3124, g3136, g3142, g3143, g3144]) <;> simp only [push_cast, seval]; done) | ((try simp only [g3124]); (try simp only [g3136]); (try simp only [g3142]); (try simp only [g3143]); (try simp only [g3144]); simp only [push_cast, seval]; done) | (exfalso; clear h; simp_all; done)) rfl rfl rfl)
            ·refine rn 20 [(0, iS kind), (1, .sl l.length (fl l)), (4, .ptr 0 0), (5, iS i7), (6, .ptr 1 0), (10, bS ok14), (87, bS false), (90, .gd true (bS false))] [(0, .row 26 [iS 0, iS 0]), (1, .row 36 (Enc.cells (ix l i7)))] 2 (by kernel_rfl) ?_
             refine rs 9 [] [] (by kernel_rfl) allP_nil ?_
             refine run_split 99 (!ok14) (.inr (by kernel_rfl)) (fun g3145 => ?_) (fun g3145 => ?_)
             ·refine rs 4 [] [] (by kernel_rfl) allP_nil ?_
              refine rf [(0, iS kind), (1, .sl l.length (fl l)), (4, .ptr 0 0), (5, iS i7), (103, bS (ix l i7).Ok)] [(0, .row 26 [iS 0, iS 0]), (1, .row 36 (Enc.cells (ix l i7)))] 2 (by kernel_rfl) ?_
              exact hK3123 () _ _ _ trivial (leSt_m [(0, 0), (1, 1)] [] (by first | ((try simp only [g3124, g3136, g3142, g3145]) <;> simp only [push_cast, seval]; done) | ((try simp only [g3124]); (try simp only [g3136]); (try simp only [g3142]); (try simp only [g3145]); simp only [push_cast, seval]; done) | (exfalso; clear h; simp_all; done)) (by first | ((try simp only [g3124, g3136, g3142, g3145]) <;> simp only [push_cast, seval]; done) | ((try simp only [g3124]); (try simp only [g3136]); (try simp only [g3142]); (try simp only [g3145]); simp only [push_cast, seval]; done) | (exfalso; clear h; simp_all; done)) rfl rfl rfl)
             ·refine rs 4 [] [] (by kernel_rfl) allP_nil ?_
              refine rf [(0, iS kind), (1, .sl l.length (fl l)), (4, .ptr 0 0), (5, iS i7), (103, bS false)] [(0, .row 26 [iS 0, iS 0]), (1, .row 36 (Enc.cells (ix l i7)))] 2 (by kernel_rfl) ?_
              exact hK3123 () _ _ _ trivial (leSt_m [(0, 0), (1, 1)] [] (by first | ((try simp only [g3124, g3136, g3142, g3145]) <;> simp only [push_cast, seval]; done) | ((try simp only [g3124]); (try simp only [g3136]); (try simp only [g3142]); (try simp only [g3145]); simp only [push_cast, seval]; done) | (exfalso; clear h; simp_all; done)) (by first | ((try simp only [g3124, g3136, g3142, g3145]) <;> simp only [push_cast, seval]; done) | ((try simp only [g3124]); (try simp only [g3136]); (try simp only [g3142]); (try simp only [g3145]); simp only [push_cast, seval]; done) | (exfalso; clear h; simp_all; done)) rfl rfl rfl)
         ·dsimp only
          refine cond_sx h (by kernel_rfl) (fun g3148 h => ?_) (fun g3148 h => ?_)
          ·refine seq_np ?_
           refine reg_f ?_
           refine rs 1 [] [] (by kernel_rfl) allP_nil ?_
           obtain ⟨r3147, hr3147, h⟩ := bind_sx h
           refine run_call 12 [iS 5, iS i7] (some 105) (by kernel_rfl) ?_
           refine call_0 (taskmillref_F_spec 5 i7 r3147 hr3147) (by simp only [push_cast, seval]) (by simp only [push_cast, seval]) ?_
           refine back_f ?_
           refine rs 1 [] [] (by kernel_rfl) allP_nil ?_
           refine rf [(4, .ptr 0 0)] [(0, .row 26 (Enc.cells r3147)), (1, .row 36 (Enc.cells (ix l i7)))] 2 (by kernel_rfl) ?_
           refine wk_id ?_
           refine rt_cast ht2 ?_
           obtain ⟨r0, h, e0⟩ := map_sx h
           have e1 := hr2 r0 e0.symm
           subst r0
           obtain rfl := Option.some.inj h
           refine ret_at (.agg (Enc.cells r3147)) (by kernel_rfl) ?_
           exact ret_e [] [] (by simp only [push_cast, seval]) (by simp only [push_cast, seval]) rfl rfl rfl
          ·refine wk_id ?_
           refine wk_id ?_
           refine reg_f ?_
           refine rs 3 [] [] (by kernel_rfl) allP_nil ?_
           refine rf [(0, iS kind), (1, .sl l.length (fl l)), (4, .ptr 0 0), (5, iS (IntKind.i64.wrap (i7 + 1)))] [(0, .row 26 [iS 0, iS 0]), (1, .row 36 (Enc.cells (ix l i7)))] 2 (by kernel_rfl) ?_
           exact hn2 ((IntKind.i64.wrap (i7 + 1))) _ _ _ (Option.some.inj h).symm (leSt_m [(0, 0)] [] (by simp only [push_cast, seval]) (by simp only [push_cast, seval]) rfl rfl rfl)
    ·change R2 (.exit 0) _ _ _
     refine ex_cast hx2 (id := 0) ?_
     obtain ⟨r0, h, e0⟩ := map_sx h
     have e1 := hr2 r0 e0.symm
     subst r0
     refine wk_id ?_
     refine wk_id ?_
     refine seq_np ?_
     refine reg_f ?_
     refine rs 2 [] [] (by kernel_rfl) allP_nil ?_
     refine rf [(4, .ptr 0 0)] [(0, .row 26 [iS 0, iS 0])] 1 (by kernel_rfl) ?_
     refine wk_id ?_
     obtain rfl := Option.some.inj h
     refine ret_at (.agg [iS 0, iS 0]) (by kernel_rfl) ?_
     exact ret_e [] [] (by simp only [push_cast, seval]) (by simp only [push_cast, seval]) rfl rfl rfl

set_option maxRecDepth 100000 in
set_option maxHeartbeats 200000000 in
theorem taskmillref_Has_spec (l : (List Int)) (n : Int) (r : Bool) (h : taskmillref_Has l n = some r) : SpecW Try.prog 24 [.sl l.length (fl l), iS n] [] 0 (fun x h n => x = bS r ∧ h = [] ∧ n = 0) := by
 unfold taskmillref_Has at h
 refine spec_of (draw_ok _) Try.func24 rfl (by decide) rfl (by kernel_rfl) ?_
 refine seq_np ?_
 refine reg_f ?_
 refine rs 1 [] [] (by kernel_rfl) allP_nil ?_
 refine rf [(0, .sl l.length (fl l)), (1, iS n)] [] 0 (by kernel_rfl) ?_
 refine wk_id ?_
 refine seq_np ?_
 refine seq_np ?_
 refine reg_f ?_
 refine rs 1 [] [] (by kernel_rfl) allP_nil ?_
 refine rf [(0, .sl l.length (fl l)), (1, iS n), (5, iS 0)] [] 0 (by kernel_rfl) ?_
 refine wk_id ?_
 refine block_np ?_
 refine loop_sx (S := Int) (fun a => ([(0, .sl l.length (fl l)), (1, iS n), (5, iS a)], [], 0)) h (leSt_m [] [] (by simp only [push_cast, seval]) (by simp only [push_cast, seval]) rfl rfl rfl) ?_
 rintro i7 o2 R2 h hr2 hn2 hx2 ht2
 try dsimp only at h hn2 ⊢
 unfold taskmillref_Has_l1 at h
 try dsimp only at h
 refine seq_np ?_
 refine seq_np ?_
 refine reg_f ?_
 refine rs 4 [] [] (by kernel_rfl) allP_nil ?_
 refine rf [(0, .sl l.length (fl l)), (1, iS n), (5, iS i7), (9, bS (decide (i7 < ((l.length : Nat) : Int))))] [] 0 (by kernel_rfl) ?_
 refine wk_id ?_
 refine cond_sx h (by kernel_rfl) (fun g3223 h => ?_) (fun g3223 h => ?_)
 ·refine wk_id ?_
  refine seq_np ?_
  refine block_np ?_
  refine chk_sx h (fun g3221 h => ?_)
  refine seq_np ?_
  refine reg_f ?_
  have k3220 : 0 ≤ i7 ∧ i7 < ((l.length : Nat) : Int) := by first | simpa only [Bool.and_eq_true, decide_eq_true_eq, bne_iff_ne, ne_eq] using g3221 | (simp at g3221 ⊢; omega)
  refine rs 6 [none, none, some ⟨.iptr (fl l) ((i7).toNat * 1), [], 0, []⟩, some ⟨iS (ix l i7), [], 0, []⟩] _ (by kernel_rfl) (allP_cons (ob_ld l i7 1 0 ((i7).toNat * 1) k3220 rfl (by decide) (by first | rfl | omega) (dflS Try.prog 3) (iS (ix l i7)) rfl 0 []) (allP_cons (ob_ix_l l 1 0 i7 k3220) allP_nil)) ?_
  refine rf [(0, .sl l.length (fl l)), (1, iS n), (5, iS i7), (17, bS ((ix l i7) == n))] [] 0 (by kernel_rfl) ?_
  refine wk_id ?_
  refine cond_sx h (by kernel_rfl) (fun g3222 h => ?_) (fun g3222 h => ?_)
  ·refine seq_np ?_
   refine reg_f ?_
   refine rs 1 [] [] (by kernel_rfl) allP_nil ?_
   refine rf [(4, bS true)] [] 0 (by kernel_rfl) ?_
   refine wk_id ?_
   refine rt_cast ht2 ?_
   obtain ⟨r0, h, e0⟩ := map_sx h
   have e1 := hr2 r0 e0.symm
   subst r0
   obtain rfl := Option.some.inj h
   refine ret_at (bS true) (by kernel_rfl) ?_
   exact ret_e [] [] (by simp only [push_cast, seval]) (by simp only [push_cast, seval]) rfl rfl rfl
  ·refine wk_id ?_
   refine wk_id ?_
   refine reg_f ?_
   refine rs 3 [] [] (by kernel_rfl) allP_nil ?_
   refine rf [(0, .sl l.length (fl l)), (1, iS n), (5, iS (IntKind.i64.wrap (i7 + 1)))] [] 0 (by kernel_rfl) ?_
   exact hn2 ((IntKind.i64.wrap (i7 + 1))) _ _ _ (Option.some.inj h).symm (leSt_m [] [] (by simp only [push_cast, seval]) (by simp only [push_cast, seval]) rfl rfl rfl)
 ·change R2 (.exit 0) _ _ _
  refine ex_cast hx2 (id := 0) ?_
  obtain ⟨r0, h, e0⟩ := map_sx h
  have e1 := hr2 r0 e0.symm
  subst r0
  refine wk_id ?_
  refine wk_id ?_
  refine seq_np ?_
  refine reg_f ?_
  refine rs 1 [] [] (by kernel_rfl) allP_nil ?_
  refine rf [(4, bS false)] [] 0 (by kernel_rfl) ?_
  refine wk_id ?_
  obtain rfl := Option.some.inj h
  refine ret_at (bS false) (by kernel_rfl) ?_
  exact ret_e [] [] (by simp only [push_cast, seval]) (by simp only [push_cast, seval]) rfl rfl rfl

set_option maxRecDepth 100000 in
set_option maxHeartbeats 200000000 in
theorem taskmillref_Tells_spec (there : (List Int)) (c : GCall) (r : (List Int) × Bool) (h : taskmillref_Tells there c = some r) : SpecW Try.prog 15 [.sl there.length (fl there), .agg (Enc.cells c)] [] 0 (fun x h n => x = .tup [.sl r.1.length (fl r.1), bS r.2] ∧ h = [] ∧ n = 0) := by
 unfold taskmillref_Tells at h
 refine spec_of (draw_ok _) Try.func15 rfl (by decide) rfl (by kernel_rfl) ?_
 refine seq_np ?_
 refine reg_f ?_
 refine rs 3 [] [] (by kernel_rfl) allP_nil ?_
 refine rf [(0, .sl there.length (fl there)), (3, .ptr 0 0)] [(0, .row 36 (Enc.cells c))] 1 (by kernel_rfl) ?_
 refine wk_id ?_
 refine seq_np ?_
 refine seq_np ?_
 refine reg_f ?_
 refine rs 2 [] [] (by kernel_rfl) allP_nil ?_
 refine rf [(0, .sl there.length (fl there)), (3, .ptr 0 0), (8, iS c.Kind)] [(0, .row 36 (Enc.cells c))] 1 (by kernel_rfl) ?_
 refine wk_id ?_
 refine block_np ?_
 refine seq_np ?_
 refine reg_f ?_
 refine rs 2 [] [] (by kernel_rfl) allP_nil ?_
 refine rf [(0, .sl there.length (fl there)), (3, .ptr 0 0), (8, iS c.Kind), (9, bS (c.Kind == 1))] [(0, .row 36 (Enc.cells c))] 1 (by kernel_rfl) ?_
 refine wk_id ?_
 refine cond_sx h (by kernel_rfl) (fun g3360 h => ?_) (fun g3360 h => ?_)
 ·refine chk_sx h (fun g3313 h => ?_)
  refine chk_sx h (fun g3315 h => ?_)
  refine seq_np ?_
  refine reg_t ?_
  have k3312 : there.length * 8 ≤ 140737488355328 := by first | simpa only [Bool.and_eq_true, decide_eq_true_eq, bne_iff_ne, ne_eq] using g3313 | (simp at g3313 ⊢; omega)
  have k3314 : (there ++ ([c.Arg] : List Int)).length * 8 ≤ 140737488355328 := by first | simpa only [Bool.and_eq_true, decide_eq_true_eq, bne_iff_ne, ne_eq] using g3315 | (simp at g3315 ⊢; omega)
  refine rs 8 [none, some ⟨.own 2 0 there.length, [(2, .row 3 (fl there))], 3, []⟩, none, none, none, some ⟨.own 8 0 (there ++ ([c.Arg] : List Int)).length, [(8, .row 3 (fl (there ++ ([c.Arg] : List Int)))), (2, .dead)], 9, [2, 6]⟩] _ (by kernel_rfl) (allP_cons (ob_app (P := Try.prog) there ([c.Arg] : List Int) 1 8 rfl (appCells (fl ([c.Arg] : List Int)) 0 (([c.Arg] : List Int).length * 1)) ([c.Arg] : List Int).length (app_own ([c.Arg] : List Int) 1 rfl) rfl (0 + ([c.Arg] : List Int).length * 1 ≤ (fl ([c.Arg] : List Int)).length) (app_own_le ([c.Arg] : List Int) 1 rfl) 3 (by kernel_rfl) (by decide) k3314 2 8 [6]) (allP_cons (ob_app0 (P := Try.prog) there 1 8 rfl (fl there) there.length rfl rfl ((fl there).length = there.length * 1) (app_sl there 1 rfl) 3 (by kernel_rfl) (by decide) k3312 2 []) allP_nil)) ?_
  refine rt [(4, .own 8 0 (there ++ ([c.Arg] : List Int)).length), (5, bS true)] [(0, .row 36 (Enc.cells c)), (2, .dead), (6, .row 3 (fl ([c.Arg] : List Int))), (8, .row 3 (fl (there ++ ([c.Arg] : List Int))))] 12 follows (by kernel_rfl) ?_
  refine wk_id ?_
  obtain rfl := Option.some.inj h
  refine ret_at (.tup [.own 8 0 (there ++ ([c.Arg] : List Int)).length, bS true]) (by kernel_rfl) ?_
  exact ret_e [] [8] (by simp only [leS_frz, leS_cut, push_cast, seval]) (by simp only [leS_frz, leS_cut, push_cast, seval]) rfl rfl rfl
 ·refine seq_np ?_
  refine reg_f ?_
  refine rs 2 [] [] (by kernel_rfl) allP_nil ?_
  refine rf [(0, .sl there.length (fl there)), (3, .ptr 0 0), (17, bS (c.Kind == 2))] [(0, .row 36 (Enc.cells c))] 1 (by kernel_rfl) ?_
  refine wk_id ?_
  refine cond_sx h (by kernel_rfl) (fun g3359 h => ?_) (fun g3359 h => ?_)
  ·refine seq_np ?_
   refine seq_np ?_
   refine reg_f ?_
   refine rs 3 [] [] (by kernel_rfl) allP_nil ?_
   refine rf [(0, .sl there.length (fl there)), (3, .ptr 0 0), (21, bS (((there.length : Nat) : Int) == 0))] [(0, .row 36 (Enc.cells c))] 1 (by kernel_rfl) ?_
   refine wk_id ?_
   refine cond_sx h (by kernel_rfl) (fun g3328 h => ?_) (fun g3328 h => ?_)
   ·refine seq_np ?_
    refine reg_t ?_
    refine rs 6 [] [] (by kernel_rfl) allP_nil ?_
    refine rt [(4, .sl there.length (fl there)), (5, bS (!c.Ok))] [(0, .row 36 (Enc.cells c))] 7 follows (by kernel_rfl) ?_
    refine wk_id ?_
    obtain rfl := Option.some.inj h
    refine ret_at (.tup [.sl there.length (fl there), bS (!c.Ok)]) (by kernel_rfl) ?_
    exact ret_e [] [] (by simp only [push_cast, seval]) (by simp only [push_cast, seval]) rfl rfl rfl
   ·refine wk_id ?_
    refine chk_sx h (fun g3324 h => ?_)
    refine chk_sx h (fun g3327 h => ?_)
    refine seq_cut (A := Unit) (fun _ => ([(4, .sl (cut there (1 : Int) ((there.length : Nat) : Int)).length (fl (cut there (1 : Int) ((there.length : Nat) : Int)))), (5, bS (c.Ok && ((ix there (0 : Int)) == c.Ret)))], [(0, .row 36 (Enc.cells c))], 15)) (fun _ => True) (fun K3322 hK3322 => ?_) (fun _ _ => ?_)
    ·refine reg_t ?_
     have k3323 : 0 ≤ (1 : Int) ∧ (1 : Int) ≤ ((there.length : Nat) : Int) ∧ ((there.length : Nat) : Int) ≤ ((there.length : Nat) : Int) := by first | simpa only [Bool.and_eq_true, decide_eq_true_eq, bne_iff_ne, ne_eq] using g3324 | (simp at g3324 ⊢; omega)
     refine rs 5 [none, some ⟨.sl (cut there (1 : Int) ((there.length : Nat) : Int)).length (fl (cut there (1 : Int) ((there.length : Nat) : Int))), [], 2, []⟩] _ (by kernel_rfl) (allP_cons (ob_cut there (1 : Int) ((there.length : Nat) : Int) 1 2 rfl k3323) allP_nil) ?_
     refine run_split 30 c.Ok (.inl (by kernel_rfl)) (fun g3325 => ?_) (fun g3325 => ?_)
     ·have k3326 : 0 ≤ (0 : Int) ∧ (0 : Int) < ((there.length : Nat) : Int) := by have e := or_use g3327 (by first | ((try simp only [g3325]) <;> rfl) | ((try simp only [g3325]); rfl) | (exfalso; clear h; simp_all; done)); first | simpa only [Bool.and_eq_true, decide_eq_true_eq, bne_iff_ne, ne_eq] using e | (simp at e ⊢; omega)
      refine rs 9 [none, some ⟨.iptr (fl there) (((0 : Int)).toNat * 1), [], 7, []⟩, some ⟨iS (ix there (0 : Int)), [], 8, []⟩] _ (by kernel_rfl) (allP_cons (ob_ld there (0 : Int) 1 0 (((0 : Int)).toNat * 1) k3326 rfl (by decide) (by first | rfl | omega) (dflS Try.prog 3) (iS (ix there (0 : Int))) rfl 8 []) (allP_cons (ob_ix_l there 1 7 0 k3326) allP_nil)) ?_
      refine rt [(4, .sl (cut there (1 : Int) ((there.length : Nat) : Int)).length (fl (cut there (1 : Int) ((there.length : Nat) : Int)))), (5, bS ((ix there (0 : Int)) == c.Ret))] [(0, .row 36 (Enc.cells c))] 15 follows (by kernel_rfl) ?_
      exact hK3322 () _ _ _ trivial (leSt_m [(0, 0)] [] (by (try simp only [g3325]) <;> simp only [push_cast, seval]) (by (try simp only [g3325]) <;> simp only [push_cast, seval]) rfl rfl rfl)
     ·refine rs 9 [] [] (by kernel_rfl) allP_nil ?_
      refine rt [(4, .sl (cut there (1 : Int) ((there.length : Nat) : Int)).length (fl (cut there (1 : Int) ((there.length : Nat) : Int)))), (5, bS false)] [(0, .row 36 (Enc.cells c))] 15 follows (by kernel_rfl) ?_
      exact hK3322 () _ _ _ trivial (leSt_m [(0, 0)] [] (by (try simp only [g3325]) <;> simp only [push_cast, seval]) (by (try simp only [g3325]) <;> simp only [push_cast, seval]) rfl rfl rfl)
    ·dsimp only
     obtain rfl := Option.some.inj h
     refine ret_at (.tup [.sl (cut there (1 : Int) ((there.length : Nat) : Int)).length (fl (cut there (1 : Int) ((there.length : Nat) : Int))), bS (c.Ok && ((ix there (0 : Int)) == c.Ret))]) (by kernel_rfl) ?_
     exact ret_e [] [] (by simp only [push_cast, seval]) (by simp only [push_cast, seval]) rfl rfl rfl
  ·refine wk_id ?_
   refine wk_id ?_
   refine seq_np ?_
   refine reg_f ?_
   refine rs 1 [] [] (by kernel_rfl) allP_nil ?_
   refine rf [(0, .sl there.length (fl there)), (3, .ptr 0 0), (6, iS 0)] [(0, .row 36 (Enc.cells c))] 1 (by kernel_rfl) ?_
   refine wk_id ?_
   refine seq_cut (A := Int) (fun a => ([(0, .sl there.length (fl there)), (3, .ptr 0 0), (6, iS a)], [(0, .row 36 (Enc.cells c))], 1)) (fun a => (taskmillref_Tells_j2 there c a) = some r) (fun K3333 hK3333 => ?_) ?_
   ·refine seq_np ?_
    refine reg_f ?_
    refine rs 3 [] [] (by kernel_rfl) allP_nil ?_
    refine rf [(0, .sl there.length (fl there)), (3, .ptr 0 0), (6, iS 0), (40, bS (decide ((0 : Int) < ((there.length : Nat) : Int))))] [(0, .row 36 (Enc.cells c))] 1 (by kernel_rfl) ?_
    refine wk_id ?_
    refine cond_sx h (by kernel_rfl) (fun g3338 h => ?_) (fun g3338 h => ?_)
    ·refine chk_sx h (fun g3337 h => ?_)
     refine reg_f ?_
     have k3336 : 0 ≤ (0 : Int) ∧ (0 : Int) < ((there.length : Nat) : Int) := by first | simpa only [Bool.and_eq_true, decide_eq_true_eq, bne_iff_ne, ne_eq] using g3337 | (simp at g3337 ⊢; omega)
     refine rs 4 [none, some ⟨.iptr (fl there) (((0 : Int)).toNat * 1), [], 1, []⟩, some ⟨iS (ix there (0 : Int)), [], 1, []⟩] _ (by kernel_rfl) (allP_cons (ob_ld there (0 : Int) 1 0 (((0 : Int)).toNat * 1) k3336 rfl (by decide) (by first | rfl | omega) (dflS Try.prog 3) (iS (ix there (0 : Int))) rfl 1 []) (allP_cons (ob_ix_l there 1 1 0 k3336) allP_nil)) ?_
     refine rf [(0, .sl there.length (fl there)), (3, .ptr 0 0), (6, iS (ix there (0 : Int)))] [(0, .row 36 (Enc.cells c))] 1 (by kernel_rfl) ?_
     exact hK3333 ((ix there (0 : Int))) _ _ _ h (leSt_m [(0, 0)] [] (by simp only [push_cast, seval]) (by simp only [push_cast, seval]) rfl rfl rfl)
    ·exact hK3333 (0) _ _ _ h (leSt_m [(0, 0)] [] (by simp only [push_cast, seval]) (by simp only [push_cast, seval]) rfl rfl rfl)
   ·rintro n2 h
    try dsimp only at h ⊢
    unfold taskmillref_Tells_j2 at h
    refine seq_np ?_
    refine seq_np ?_
    refine reg_f ?_
    refine rs 2 [] [] (by kernel_rfl) allP_nil ?_
    refine rf [(0, .sl there.length (fl there)), (3, .ptr 0 0), (6, iS n2), (45, iS c.Kind)] [(0, .row 36 (Enc.cells c))] 1 (by kernel_rfl) ?_
    refine wk_id ?_
    refine block_cut (A := Int) (fun a => ([(6, iS a)], [], 0)) (fun a => (taskmillref_Tells_j1 a) = some r) (fun K3352 hK3352 => ?_) ?_
    ·refine seq_np ?_
     refine reg_f ?_
     refine rs 2 [] [] (by kernel_rfl) allP_nil ?_
     refine rf [(0, .sl there.length (fl there)), (3, .ptr 0 0), (6, iS n2), (45, iS c.Kind), (46, bS (c.Kind == 3))] [(0, .row 36 (Enc.cells c))] 1 (by kernel_rfl) ?_
     refine wk_id ?_
     refine cond_sx h (by kernel_rfl) (fun g3358 h => ?_) (fun g3358 h => ?_)
     ·refine reg_f ?_
      refine rs 3 [] [] (by kernel_rfl) allP_nil ?_
      refine rf [(6, iS c.Arg)] [(0, .row 36 (Enc.cells c))] 1 (by kernel_rfl) ?_
      exact hK3352 (c.Arg) _ _ _ h (leSt_m [] [] (by simp only [push_cast, seval]) (by simp only [push_cast, seval]) rfl rfl rfl)
     ·refine seq_np ?_
      refine reg_f ?_
      refine rs 2 [] [] (by kernel_rfl) allP_nil ?_
      refine rf [(0, .sl there.length (fl there)), (3, .ptr 0 0), (6, iS n2), (45, iS c.Kind), (50, bS (c.Kind == 4))] [(0, .row 36 (Enc.cells c))] 1 (by kernel_rfl) ?_
      refine wk_id ?_
      refine cond_sx h (by kernel_rfl) (fun g3357 h => ?_) (fun g3357 h => ?_)
      ·refine seq_np ?_
       refine reg_t ?_
       refine rs 7 [] [] (by kernel_rfl) allP_nil ?_
       refine rt [(4, .sl there.length (fl there)), (5, bS (n2 == c.Ret))] [(0, .row 36 (Enc.cells c))] 8 follows (by kernel_rfl) ?_
       refine wk_id ?_
       obtain rfl := Option.some.inj h
       refine ret_at (.tup [.sl there.length (fl there), bS (n2 == c.Ret)]) (by kernel_rfl) ?_
       exact ret_e [] [] (by simp only [push_cast, seval]) (by simp only [push_cast, seval]) rfl rfl rfl
      ·refine seq_np ?_
       refine reg_f ?_
       refine rs 2 [] [] (by kernel_rfl) allP_nil ?_
       refine rf [(0, .sl there.length (fl there)), (3, .ptr 0 0), (6, iS n2), (45, iS c.Kind), (57, bS (c.Kind == 5))] [(0, .row 36 (Enc.cells c))] 1 (by kernel_rfl) ?_
       refine wk_id ?_
       refine cond_sx h (by kernel_rfl) (fun g3356 h => ?_) (fun g3356 h => ?_)
       ·refine seq_np ?_
        refine reg_f ?_
        refine rs 5 [] [] (by kernel_rfl) allP_nil ?_
        refine rf [(3, .ptr 0 0), (6, iS (IntKind.i64.wrap (n2 + c.Arg)))] [(0, .row 36 (Enc.cells c))] 1 (by kernel_rfl) ?_
        refine wk_id ?_
        refine seq_np ?_
        refine reg_t ?_
        refine rs 8 [] [] (by kernel_rfl) allP_nil ?_
        refine rt [(4, .own 2 0 ([(IntKind.i64.wrap (n2 + c.Arg))] : List Int).length), (5, bS ((IntKind.i64.wrap (n2 + c.Arg)) == c.Ret))] [(0, .row 36 (Enc.cells c)), (2, .row 3 (fl ([(IntKind.i64.wrap (n2 + c.Arg))] : List Int)))] 10 follows (by kernel_rfl) ?_
        refine wk_id ?_
        obtain rfl := Option.some.inj h
        refine ret_at (.tup [.own 2 0 ([(IntKind.i64.wrap (n2 + c.Arg))] : List Int).length, bS ((IntKind.i64.wrap (n2 + c.Arg)) == c.Ret)]) (by kernel_rfl) ?_
        exact ret_e [] [2] (by simp only [leS_frz, leS_cut, push_cast, seval]) (by simp only [leS_frz, leS_cut, push_cast, seval]) rfl rfl rfl
       ·refine seq_np ?_
        refine reg_f ?_
        refine rs 2 [] [] (by kernel_rfl) allP_nil ?_
        refine rf [(0, .sl there.length (fl there)), (3, .ptr 0 0), (6, iS n2), (69, bS (c.Kind == 6))] [(0, .row 36 (Enc.cells c))] 1 (by kernel_rfl) ?_
        refine wk_id ?_
        refine cond_sx h (by kernel_rfl) (fun g3355 h => ?_) (fun g3355 h => ?_)
        ·refine seq_np ?_
         refine seq_np ?_
         refine reg_f ?_
         refine rs 4 [] [] (by kernel_rfl) allP_nil ?_
         refine rf [(0, .sl there.length (fl there)), (3, .ptr 0 0), (74, bS (n2 != c.Old))] [(0, .row 36 (Enc.cells c))] 1 (by kernel_rfl) ?_
         refine wk_id ?_
         refine cond_sx h (by kernel_rfl) (fun g3354 h => ?_) (fun g3354 h => ?_)
         ·refine seq_np ?_
          refine reg_t ?_
          refine rs 6 [] [] (by kernel_rfl) allP_nil ?_
          refine rt [(4, .sl there.length (fl there)), (5, bS (!c.Ok))] [(0, .row 36 (Enc.cells c))] 7 follows (by kernel_rfl) ?_
          refine wk_id ?_
          obtain rfl := Option.some.inj h
          refine ret_at (.tup [.sl there.length (fl there), bS (!c.Ok)]) (by kernel_rfl) ?_
          exact ret_e [] [] (by simp only [push_cast, seval]) (by simp only [push_cast, seval]) rfl rfl rfl
         ·refine wk_id ?_
          refine seq_np ?_
          refine reg_t ?_
          refine rs 7 [] [] (by kernel_rfl) allP_nil ?_
          refine rt [(4, .own 3 0 ([c.Arg] : List Int).length), (5, bS c.Ok)] [(0, .row 36 (Enc.cells c)), (3, .row 3 (fl ([c.Arg] : List Int)))] 9 follows (by kernel_rfl) ?_
          refine wk_id ?_
          obtain rfl := Option.some.inj h
          refine ret_at (.tup [.own 3 0 ([c.Arg] : List Int).length, bS c.Ok]) (by kernel_rfl) ?_
          exact ret_e [] [3] (by simp only [leS_frz, leS_cut, push_cast, seval]) (by simp only [leS_frz, leS_cut, push_cast, seval]) rfl rfl rfl
        ·exact hK3352 (n2) _ _ _ h (leSt_m [] [] (by simp only [push_cast, seval]) (by simp only [push_cast, seval]) rfl rfl rfl)
    ·rintro n4 h
     try dsimp only at h ⊢
     unfold taskmillref_Tells_j1 at h
     refine wk_id ?_
     refine seq_np ?_
     refine reg_f ?_
     refine rs 4 [] [] (by kernel_rfl) allP_nil ?_
     refine rf [(4, .own 0 0 ([n4] : List Int).length), (5, bS true)] [(0, .row 3 (fl ([n4] : List Int)))] 1 (by kernel_rfl) ?_
     refine wk_id ?_
     obtain rfl := Option.some.inj h
     refine ret_at (.tup [.own 0 0 ([n4] : List Int).length, bS true]) (by kernel_rfl) ?_
     exact ret_e [] [0] (by simp only [leS_frz, leS_cut, push_cast, seval]) (by simp only [leS_frz, leS_cut, push_cast, seval]) rfl rfl rfl

set_option maxRecDepth 100000 in
set_option maxHeartbeats 200000000 in
theorem taskmillref_Orderly_n_spec : ∀ (n : Nat) (l : (List GCall)) (done : (List Int)) (there : (List Int)) (r : Bool), taskmillref_Orderly_n n l done there = some r → SpecW Try.prog 13 [.sl l.length (fl l), .sl done.length (fl done), .sl there.length (fl there)] [] 0 (fun x h n => x = bS r ∧ h = [] ∧ n = 0) := by
 intro n
 induction n with
 | zero => intro l done there r h; exact absurd (show (none : Option (Bool)) = some r from h) (by simp)
 | succ n ih =>
  intro l done there r h
  have h : taskmillref_Orderly_b (taskmillref_Orderly_n n) l done there = some r := h
  generalize taskmillref_Orderly_n n = rcf at ih h
  unfold taskmillref_Orderly_b at h
  refine spec_of (draw_ok _) Try.func13 rfl (by decide) rfl (by kernel_rfl) ?_
  refine seq_np ?_
  refine reg_f ?_
  refine rs 1 [] [] (by kernel_rfl) allP_nil ?_
  refine rf [(0, .sl l.length (fl l)), (1, .sl done.length (fl done)), (2, .sl there.length (fl there))] [] 0 (by kernel_rfl) ?_
  refine wk_id ?_
  refine seq_np ?_
  refine seq_np ?_
  refine reg_f ?_
  refine rs 5 [] [] (by kernel_rfl) allP_nil ?_
  refine rf [(0, .sl l.length (fl l)), (1, .sl done.length (fl done)), (2, .sl there.length (fl there)), (16, bS (((done.length : Nat) : Int) == ((l.length : Nat) : Int)))] [] 0 (by kernel_rfl) ?_
  refine wk_id ?_
  refine cond_sx h (by kernel_rfl) (fun g4248 h => ?_) (fun g4248 h => ?_)
  ·refine seq_np ?_
   refine reg_f ?_
   refine rs 1 [] [] (by kernel_rfl) allP_nil ?_
   refine rf [(6, bS true)] [] 0 (by kernel_rfl) ?_
   refine wk_id ?_
   obtain rfl := Option.some.inj h
   refine ret_at (bS true) (by kernel_rfl) ?_
   exact ret_e [] [] (by simp only [push_cast, seval]) (by simp only [push_cast, seval]) rfl rfl rfl
  ·refine wk_id ?_
   refine seq_np ?_
   refine seq_np ?_
   refine reg_f ?_
   refine rs 1 [] [] (by kernel_rfl) allP_nil ?_
   refine rf [(0, .sl l.length (fl l)), (1, .sl done.length (fl done)), (2, .sl there.length (fl there)), (7, iS 0)] [] 0 (by kernel_rfl) ?_
   refine wk_id ?_
   refine block_np ?_
   refine loop_sx (S := Int) (fun a => ([(0, .sl l.length (fl l)), (1, .sl done.length (fl done)), (2, .sl there.length (fl there)), (7, iS a)], [], 0)) h (leSt_m [] [] (by simp only [push_cast, seval]) (by simp only [push_cast, seval]) rfl rfl rfl) ?_
   rintro i7 o3 R3 h hr3 hn3 hx3 ht3
   try dsimp only at h hn3 ⊢
   unfold taskmillref_Orderly_l2 at h
   try dsimp only at h
   refine seq_np ?_
   refine seq_np ?_
   refine reg_f ?_
   refine rs 4 [] [] (by kernel_rfl) allP_nil ?_
   refine rf [(0, .sl l.length (fl l)), (1, .sl done.length (fl done)), (2, .sl there.length (fl there)), (7, iS i7), (20, bS (decide (i7 < ((l.length : Nat) : Int))))] [] 0 (by kernel_rfl) ?_
   refine wk_id ?_
   refine cond_sx h (by kernel_rfl) (fun g4247 h => ?_) (fun g4247 h => ?_)
   ·refine wk_id ?_
    refine seq_np ?_
    refine block_cut (A := Unit) (fun a => ([(0, .sl l.length (fl l)), (1, .sl done.length (fl done)), (2, .sl there.length (fl there)), (7, iS i7)], [], 0)) (fun a => (taskmillref_Orderly_j1 l done there i7) = some o3) (fun K4101 hK4101 => ?_) ?_
    ·refine seq_np ?_
     refine seq_np ?_
     refine reg_f ?_
     refine rs 2 [] [] (by kernel_rfl) allP_nil ?_
     obtain ⟨r4105, hr4105, h⟩ := bind_sx h
     refine run_call 24 [.sl done.length (fl done), iS i7] (some 25) (by kernel_rfl) ?_
     refine call_0 (taskmillref_Has_spec done i7 r4105 hr4105) (by simp only [push_cast, seval]) (by simp only [push_cast, seval]) ?_
     refine back_f ?_
     refine rf [(0, .sl l.length (fl l)), (1, .sl done.length (fl done)), (2, .sl there.length (fl there)), (7, iS i7), (25, bS r4105)] [] 0 (by kernel_rfl) ?_
     refine wk_id ?_
     refine cond_sx h (by kernel_rfl) (fun g4246 h => ?_) (fun g4246 h => ?_)
     ·exact hK4101 () _ _ _ h (leSt_m [] [] (by simp only [push_cast, seval]) (by simp only [push_cast, seval]) rfl rfl rfl)
     ·refine wk_id ?_
      refine seq_np ?_
      refine reg_f ?_
      refine rs 1 [] [] (by kernel_rfl) allP_nil ?_
      refine rf [(0, .sl l.length (fl l)), (1, .sl done.length (fl done)), (2, .sl there.length (fl there)), (7, iS i7), (8, bS true)] [] 0 (by kernel_rfl) ?_
      refine wk_id ?_
      refine seq_np ?_
      refine seq_np ?_
      refine reg_f ?_
      refine rs 1 [] [] (by kernel_rfl) allP_nil ?_
      refine rf [(0, .sl l.length (fl l)), (1, .sl done.length (fl done)), (2, .sl there.length (fl there)), (7, iS i7), (8, bS true), (9, iS 0)] [] 0 (by kernel_rfl) ?_
      refine wk_id ?_
      refine block_np ?_
      refine loop_sx (S := Bool × Int) (fun a => ([(0, .sl l.length (fl l)), (1, .sl done.length (fl done)), (2, .sl there.length (fl there)), (7, iS i7), (8, bS a.1), (9, iS a.2)], [], 0)) h (leSt_m [] [] (by simp only [push_cast, seval]) (by simp only [push_cast, seval]) rfl rfl rfl) ?_
      rintro ⟨ok78, k31⟩ o4 R4 h hr4 hn4 hx4 ht4
      try dsimp only at h hn4 ⊢
      unfold taskmillref_Orderly_l1 at h
      try dsimp only at h
      refine seq_np ?_
      refine seq_cut (A := Unit) (fun _ => ([(0, .sl l.length (fl l)), (1, .sl done.length (fl done)), (2, .sl there.length (fl there)), (7, iS i7), (8, bS ok78), (9, iS k31), (32, bS ((decide (k31 < ((l.length : Nat) : Int))) && ok78))], [], 0)) (fun _ => True) (fun K4192 hK4192 => ?_) (fun _ _ => ?_)
      ·refine reg_f ?_
       refine rs 5 [] [] (by kernel_rfl) allP_nil ?_
       refine run_split 30 (decide (k31 < ((l.length : Nat) : Int))) (.inl (by kernel_rfl)) (fun g4193 => ?_) (fun g4193 => ?_)
       ·refine rs 2 [] [] (by kernel_rfl) allP_nil ?_
        refine rf [(0, .sl l.length (fl l)), (1, .sl done.length (fl done)), (2, .sl there.length (fl there)), (7, iS i7), (8, bS ok78), (9, iS k31), (32, bS ok78)] [] 0 (by kernel_rfl) ?_
        exact hK4192 () _ _ _ trivial (leSt_m [] [] (by (try simp only [g4193]) <;> simp only [push_cast, seval]) (by (try simp only [g4193]) <;> simp only [push_cast, seval]) rfl rfl rfl)
       ·refine rs 2 [] [] (by kernel_rfl) allP_nil ?_
        refine rf [(0, .sl l.length (fl l)), (1, .sl done.length (fl done)), (2, .sl there.length (fl there)), (7, iS i7), (8, bS ok78), (9, iS k31), (32, bS false)] [] 0 (by kernel_rfl) ?_
        exact hK4192 () _ _ _ trivial (leSt_m [] [] (by (try simp only [g4193]) <;> simp only [push_cast, seval]) (by (try simp only [g4193]) <;> simp only [push_cast, seval]) rfl rfl rfl)
      ·dsimp only
       refine cond_sx h (by kernel_rfl) (fun g4245 h => ?_) (fun g4245 h => ?_)
       ·refine wk_id ?_
        refine seq_np ?_
        refine block_cut (A := Bool) (fun a => ([(0, .sl l.length (fl l)), (1, .sl done.length (fl done)), (2, .sl there.length (fl there)), (7, iS i7), (8, bS a), (9, iS k31)], [], 0)) (fun a => (taskmillref_Orderly_j2 l done there i7 k31 a) = some o4) (fun K4209 hK4209 => ?_) ?_
        ·refine reg_t ?_
         refine rs 2 [] [] (by kernel_rfl) allP_nil ?_
         obtain ⟨r4216, hr4216, h⟩ := bind_sx h
         refine run_call 24 [.sl done.length (fl done), iS k31] (some 37) (by kernel_rfl) ?_
         refine callE_0 (taskmillref_Has_spec done k31 r4216 hr4216) (by simp only [push_cast, seval]) (by simp only [push_cast, seval]) ?_
         refine back_t ?_
         refine rs 1 [] [] (by kernel_rfl) allP_nil ?_
         refine run_br h 38 (.inl (by kernel_rfl)) (fun g4217 h => ?_) (fun g4217 h => ?_)
         ·refine rs 13 [] [] (by kernel_rfl) allP_nil ?_
          refine rt [(0, .sl l.length (fl l)), (1, .sl done.length (fl done)), (2, .sl there.length (fl there)), (7, iS i7), (8, bS true), (9, iS k31)] [] 17 follows (by kernel_rfl) ?_
          exact hK4209 (true) _ _ _ h (leSt_m [] [] (by (try simp only [g4217]) <;> simp only [push_cast, seval]) (by (try simp only [g4217]) <;> simp only [push_cast, seval]) rfl rfl rfl)
         ·refine chk_sx h (fun g4219 h => ?_)
          have k4218 : 0 ≤ k31 ∧ k31 < ((l.length : Nat) : Int) := by first | simpa only [Bool.and_eq_true, decide_eq_true_eq, bne_iff_ne, ne_eq] using g4219 | (simp at g4219 ⊢; omega)
          refine chk_sx h (fun g4221 h => ?_)
          have k4220 : 0 ≤ i7 ∧ i7 < ((l.length : Nat) : Int) := by first | simpa only [Bool.and_eq_true, decide_eq_true_eq, bne_iff_ne, ne_eq] using g4221 | (simp at g4221 ⊢; omega)
          refine rs 13 [none, none, some ⟨.iptr (fl l) ((k31).toNat * 7), [], 6, []⟩, none, some ⟨iS (ix l k31).End, [], 8, []⟩, none, none, some ⟨.iptr (fl l) ((i7).toNat * 7), [], 11, []⟩, none, some ⟨iS (ix l i7).Begin, [], 13, []⟩] _ (by kernel_rfl) (allP_cons (ob_ld l i7 7 0 (((i7).toNat * 7) + 0) k4220 rfl (by decide) (by first | rfl | omega) (dflS Try.prog 3) (iS (ix l i7).Begin) rfl 13 []) (allP_cons (ob_ix_l l 7 11 i7 k4220) (allP_cons (ob_ld l k31 7 1 (((k31).toNat * 7) + 1) k4218 rfl (by decide) (by first | rfl | omega) (dflS Try.prog 3) (iS (ix l k31).End) rfl 8 []) (allP_cons (ob_ix_l l 7 6 k31 k4218) allP_nil)))) ?_
          refine rt [(0, .sl l.length (fl l)), (1, .sl done.length (fl done)), (2, .sl there.length (fl there)), (7, iS i7), (8, bS (decide ((ix l i7).Begin ≤ (ix l k31).End))), (9, iS k31)] [] 17 follows (by kernel_rfl) ?_
          exact hK4209 ((decide ((ix l i7).Begin ≤ (ix l k31).End))) _ _ _ h (leSt_m [] [] (by (try simp only [g4217]) <;> simp only [push_cast, seval]) (by (try simp only [g4217]) <;> simp only [push_cast, seval]) rfl rfl rfl)
        ·rintro ok80 h
         try dsimp only at h ⊢
         unfold taskmillref_Orderly_j2 at h
         refine wk_id ?_
         refine reg_f ?_
         refine rs 3 [] [] (by kernel_rfl) allP_nil ?_
         refine rf [(0, .sl l.length (fl l)), (1, .sl done.length (fl done)), (2, .sl there.length (fl there)), (7, iS i7), (8, bS ok80), (9, iS (IntKind.i64.wrap (k31 + 1)))] [] 0 (by kernel_rfl) ?_
         exact hn4 (ok80, (IntKind.i64.wrap (k31 + 1))) _ _ _ (Option.some.inj h).symm (leSt_m [] [] (by simp only [push_cast, seval]) (by simp only [push_cast, seval]) rfl rfl rfl)
       ·change R4 (.exit 2) _ _ _
        refine ex_cast hx4 (id := 2) ?_
        obtain ⟨r0, h, e0⟩ := map_sx h
        have e1 := hr4 r0 e0.symm
        subst r0
        refine wk_id ?_
        refine wk_id ?_
        refine seq_np ?_
        refine seq_np ?_
        refine reg_f ?_
        refine rs 2 [] [] (by kernel_rfl) allP_nil ?_
        refine rf [(0, .sl l.length (fl l)), (1, .sl done.length (fl done)), (2, .sl there.length (fl there)), (7, iS i7), (52, bS (!ok78))] [] 0 (by kernel_rfl) ?_
        refine wk_id ?_
        refine cond_sx h (by kernel_rfl) (fun g4244 h => ?_) (fun g4244 h => ?_)
        ·exact hK4101 () _ _ _ h (leSt_m [] [] (by simp only [push_cast, seval]) (by simp only [push_cast, seval]) rfl rfl rfl)
        ·refine wk_id ?_
         refine chk_sx h (fun g4227 h => ?_)
         refine seq_np ?_
         refine reg_f ?_
         have k4226 : 0 ≤ i7 ∧ i7 < ((l.length : Nat) : Int) := by first | simpa only [Bool.and_eq_true, decide_eq_true_eq, bne_iff_ne, ne_eq] using g4227 | (simp at g4227 ⊢; omega)
         refine rs 5 [none, none, none, some ⟨.iptr (fl l) ((i7).toNat * 7), [], 0, []⟩, some ⟨.agg (Enc.cells (ix l i7)), [], 0, []⟩] _ (by kernel_rfl) (allP_cons (ob_ldw l i7 7 ((i7).toNat * 7) k4226 rfl (by first | rfl | omega) (Enc.cells (ix l i7)) rfl 0 []) (allP_cons (ob_ix_l l 7 0 i7 k4226) allP_nil)) ?_
         obtain ⟨r4228, hr4228, h⟩ := bind_sx h
         refine run_call 15 [.sl there.length (fl there), .agg (Enc.cells (ix l i7))] (some 59) (by kernel_rfl) ?_
         refine call_0 (taskmillref_Tells_spec there (ix l i7) r4228 hr4228) (by simp only [push_cast, seval]) (by simp only [push_cast, seval]) ?_
         refine back_f ?_
         refine rs 5 [] [] (by kernel_rfl) allP_nil ?_
         refine rf [(0, .sl l.length (fl l)), (1, .sl done.length (fl done)), (2, .sl there.length (fl there)), (7, iS i7), (10, .sl r4228.1.length (fl r4228.1)), (11, bS r4228.2)] [] 0 (by kernel_rfl) ?_
         refine wk_id ?_
         refine seq_cut (A := Bool) (fun a => ([(0, .sl l.length (fl l)), (1, .sl done.length (fl done)), (2, .sl there.length (fl there)), (7, iS i7), (72, bS a)], [], 0)) (fun a => (taskmillref_Orderly_j3 l done there i7 a) = some o3) (fun K4236 hK4236 => ?_) ?_
         ·refine reg_f ?_
          refine rs 2 [] [] (by kernel_rfl) allP_nil ?_
          refine run_br h 63 (.inl (by kernel_rfl)) (fun g4237 h => ?_) (fun g4237 h => ?_)
          ·refine chk_sx h (fun g4239 h => ?_)
           have k4238 : done.length * 8 ≤ 140737488355328 := by first | simpa only [Bool.and_eq_true, decide_eq_true_eq, bne_iff_ne, ne_eq] using g4239 | (simp at g4239 ⊢; omega)
           refine chk_sx h (fun g4241 h => ?_)
           have k4240 : (done ++ ([i7] : List Int)).length * 8 ≤ 140737488355328 := by first | simpa only [Bool.and_eq_true, decide_eq_true_eq, bne_iff_ne, ne_eq] using g4241 | (simp at g4241 ⊢; omega)
           refine rs 7 [none, none, some ⟨.own 0 0 done.length, [(0, .row 3 (fl done))], 1, []⟩, none, none, some ⟨.own 2 0 (done ++ ([i7] : List Int)).length, [(2, .row 3 (fl (done ++ ([i7] : List Int)))), (0, .dead)], 3, [0, 1]⟩] _ (by kernel_rfl) (allP_cons (ob_app (P := Try.prog) done ([i7] : List Int) 1 8 rfl (appCells (fl ([i7] : List Int)) 0 (([i7] : List Int).length * 1)) ([i7] : List Int).length (app_own ([i7] : List Int) 1 rfl) rfl (0 + ([i7] : List Int).length * 1 ≤ (fl ([i7] : List Int)).length) (app_own_le ([i7] : List Int) 1 rfl) 3 (by kernel_rfl) (by decide) k4240 0 2 [1]) (allP_cons (ob_app0 (P := Try.prog) done 1 8 rfl (fl done) done.length rfl rfl ((fl done).length = done.length * 1) (app_sl done 1 rfl) 3 (by kernel_rfl) (by decide) k4238 0 []) allP_nil)) ?_
           obtain ⟨r4242, hr4242, h⟩ := bind_sx h
           refine call_x (ih l (done ++ ([i7] : List Int)) r4228.1 r4242 hr4242) (args := [.sl l.length (fl l), .own 2 0 (done ++ ([i7] : List Int)).length, .sl r4228.1.length (fl r4228.1)]) (dst := (some 71)) (by kernel_rfl) [(0, .dead), (1, .row 3 (fl ([i7] : List Int))), (2, .row 3 (fl (done ++ ([i7] : List Int))))] 3 (by kernel_rfl) [] [2] (bS r4242) [] (by simp only [push_cast, seval]) (by simp only [push_cast, seval]) (by kernel_rfl) (.inr ⟨by simp only [push_cast, seval], by simp only [push_cast, seval]⟩) (by simp only [push_cast, seval]) (by simp only [push_cast, seval]) ?_
           refine rs 1 [] [] (by kernel_rfl) allP_nil ?_
           refine rf [(0, .sl l.length (fl l)), (1, .sl done.length (fl done)), (2, .sl there.length (fl there)), (7, iS i7), (72, bS r4242)] [(0, .dead), (1, .row 3 (fl ([i7] : List Int))), (2, .row 3 (fl (done ++ ([i7] : List Int))))] 3 (by kernel_rfl) ?_
           exact hK4236 (r4242) _ _ _ h (leSt_m [] [] (by (try simp only [g4237]) <;> simp only [push_cast, seval]) (by (try simp only [g4237]) <;> simp only [push_cast, seval]) rfl rfl rfl)
          ·refine rs 9 [] [] (by kernel_rfl) allP_nil ?_
           refine rf [(0, .sl l.length (fl l)), (1, .sl done.length (fl done)), (2, .sl there.length (fl there)), (7, iS i7), (72, bS false)] [] 0 (by kernel_rfl) ?_
           exact hK4236 (false) _ _ _ h (leSt_m [] [] (by (try simp only [g4237]) <;> simp only [push_cast, seval]) (by (try simp only [g4237]) <;> simp only [push_cast, seval]) rfl rfl rfl)
         ·rintro t72q13 h
          try dsimp only at h ⊢
          unfold taskmillref_Orderly_j3 at h
          refine cond_sx h (by kernel_rfl) (fun g4243 h => ?_) (fun g4243 h => ?_)
          ·refine seq_np ?_
           refine reg_f ?_
           refine rs 1 [] [] (by kernel_rfl) allP_nil ?_
           refine rf [(6, bS true)] [] 0 (by kernel_rfl) ?_
           refine wk_id ?_
           refine rt_cast ht3 ?_
           obtain ⟨r0, h, e0⟩ := map_sx h
           have e1 := hr3 r0 e0.symm
           subst r0
           obtain rfl := Option.some.inj h
           refine ret_at (bS true) (by kernel_rfl) ?_
           exact ret_e [] [] (by simp only [push_cast, seval]) (by simp only [push_cast, seval]) rfl rfl rfl
          ·exact hK4101 () _ _ _ h (leSt_m [] [] (by simp only [push_cast, seval]) (by simp only [push_cast, seval]) rfl rfl rfl)
    ·rintro _ h
     try dsimp only at h ⊢
     unfold taskmillref_Orderly_j1 at h
     refine wk_id ?_
     refine reg_f ?_
     refine rs 3 [] [] (by kernel_rfl) allP_nil ?_
     refine rf [(0, .sl l.length (fl l)), (1, .sl done.length (fl done)), (2, .sl there.length (fl there)), (7, iS (IntKind.i64.wrap (i7 + 1)))] [] 0 (by kernel_rfl) ?_
     exact hn3 ((IntKind.i64.wrap (i7 + 1))) _ _ _ (Option.some.inj h).symm (leSt_m [] [] (by simp only [push_cast, seval]) (by simp only [push_cast, seval]) rfl rfl rfl)
   ·change R3 (.exit 0) _ _ _
    refine ex_cast hx3 (id := 0) ?_
    obtain ⟨r0, h, e0⟩ := map_sx h
    have e1 := hr3 r0 e0.symm
    subst r0
    refine wk_id ?_
    refine wk_id ?_
    refine seq_np ?_
    refine reg_f ?_
    refine rs 1 [] [] (by kernel_rfl) allP_nil ?_
    refine rf [(6, bS false)] [] 0 (by kernel_rfl) ?_
    refine wk_id ?_
    obtain rfl := Option.some.inj h
    refine ret_at (bS false) (by kernel_rfl) ?_
    exact ret_e [] [] (by simp only [push_cast, seval]) (by simp only [push_cast, seval]) rfl rfl rfl
set_option maxRecDepth 100000 in
theorem taskmillref_Orderly_spec (l : (List GCall)) (done : (List Int)) (there : (List Int)) (r : Bool) (h : taskmillref_Orderly l done there = some r) : SpecW Try.prog 13 [.sl l.length (fl l), .sl done.length (fl done), .sl there.length (fl there)] [] 0 (fun x h n => x = bS r ∧ h = [] ∧ n = 0) := taskmillref_Orderly_n_spec 5000 l done there r h

set_option maxRecDepth 100000 in
set_option maxHeartbeats 200000000 in
theorem taskmillref_OrderFault_spec (l : (List GCall)) (order : (List Int)) (r : Fault) (h : taskmillref_OrderFault l order = some r) : SpecW Try.prog 14 [.sl l.length (fl l), .sl order.length (fl order)] [] 0 (fun x h n => x = .agg (Enc.cells r) ∧ h = [] ∧ n = 0) := by
 unfold taskmillref_OrderFault at h
 refine spec_of (draw_ok _) Try.func14 rfl (by decide) rfl (by kernel_rfl) ?_
 refine seq_np ?_
 refine reg_f ?_
 refine rs 1 [] [] (by kernel_rfl) allP_nil ?_
 refine rf [(0, .sl l.length (fl l)), (1, .sl order.length (fl order)), (4, .ptr 0 0)] [(0, .row 26 [iS 0, iS 0])] 1 (by kernel_rfl) ?_
 refine wk_id ?_
 refine seq_np ?_
 refine seq_np ?_
 refine reg_f ?_
 refine rs 5 [] [] (by kernel_rfl) allP_nil ?_
 refine rf [(0, .sl l.length (fl l)), (1, .sl order.length (fl order)), (4, .ptr 0 0), (15, bS (((order.length : Nat) : Int) != ((l.length : Nat) : Int)))] [(0, .row 26 [iS 0, iS 0])] 1 (by kernel_rfl) ?_
 refine wk_id ?_
 refine cond_sx h (by kernel_rfl) (fun g5234 h => ?_) (fun g5234 h => ?_)
 ·refine seq_np ?_
  refine reg_f ?_
  obtain ⟨r4436, hr4436, h⟩ := bind_sx h
  refine run_call 12 [iS 8, iS 0] (some 16) (by kernel_rfl) ?_
  refine call_0 (taskmillref_F_spec 8 0 r4436 hr4436) (by simp only [push_cast, seval]) (by simp only [push_cast, seval]) ?_
  refine back_f ?_
  refine rs 1 [] [] (by kernel_rfl) allP_nil ?_
  refine rf [(4, .ptr 0 0)] [(0, .row 26 (Enc.cells r4436))] 1 (by kernel_rfl) ?_
  refine wk_id ?_
  obtain rfl := Option.some.inj h
  refine ret_at (.agg (Enc.cells r4436)) (by kernel_rfl) ?_
  exact ret_e [] [] (by simp only [push_cast, seval]) (by simp only [push_cast, seval]) rfl rfl rfl
 ·refine wk_id ?_
  refine seq_np ?_
  refine reg_f ?_
  refine rs 1 [] [] (by kernel_rfl) allP_nil ?_
  refine rf [(0, .sl l.length (fl l)), (1, .sl order.length (fl order)), (4, .ptr 0 0), (5, .v (.slice none 0 0))] [(0, .row 26 [iS 0, iS 0])] 1 (by kernel_rfl) ?_
  refine wk_id ?_
  refine seq_np ?_
  refine seq_np ?_
  refine reg_f ?_
  refine rs 1 [] [] (by kernel_rfl) allP_nil ?_
  refine rf [(0, .sl l.length (fl l)), (1, .sl order.length (fl order)), (4, .ptr 0 0), (5, .v (.slice none 0 0)), (6, iS 0)] [(0, .row 26 [iS 0, iS 0])] 1 (by kernel_rfl) ?_
  refine wk_id ?_
  refine block_np ?_
  refine loop_sx (S := (List Int) × Int) (fun a => ([(0, .sl l.length (fl l)), (1, .sl order.length (fl order)), (4, .ptr 0 0), (5, .sl a.1.length (fl a.1)), (6, iS a.2)], [(0, .row 26 [iS 0, iS 0])], 1)) h (leSt_m [(0, 0)] [] (by simp only [push_cast, seval]) (by simp only [push_cast, seval]) rfl rfl rfl) ?_
  rintro ⟨there7, n7⟩ o3 R3 h hr3 hn3 hx3 ht3
  try dsimp only at h hn3 ⊢
  unfold taskmillref_OrderFault_l2 at h
  try dsimp only at h
  refine seq_np ?_
  refine seq_np ?_
  refine reg_f ?_
  refine rs 4 [] [] (by kernel_rfl) allP_nil ?_
  refine rf [(0, .sl l.length (fl l)), (1, .sl order.length (fl order)), (4, .ptr 0 0), (5, .sl there7.length (fl there7)), (6, iS n7), (20, bS (decide (n7 < ((order.length : Nat) : Int))))] [(0, .row 26 [iS 0, iS 0])] 1 (by kernel_rfl) ?_
  refine wk_id ?_
  refine cond_sx h (by kernel_rfl) (fun g5233 h => ?_) (fun g5233 h => ?_)
  ·refine wk_id ?_
   refine seq_np ?_
   refine block_np ?_
   refine chk_sx h (fun g5032 h => ?_)
   refine seq_np ?_
   refine reg_f ?_
   have k5031 : 0 ≤ n7 ∧ n7 < ((order.length : Nat) : Int) := by first | simpa only [Bool.and_eq_true, decide_eq_true_eq, bne_iff_ne, ne_eq] using g5032 | (simp at g5032 ⊢; omega)
   refine rs 5 [none, none, some ⟨.iptr (fl order) ((n7).toNat * 1), [], 1, []⟩, some ⟨iS (ix order n7), [], 1, []⟩] _ (by kernel_rfl) (allP_cons (ob_ld order n7 1 0 ((n7).toNat * 1) k5031 rfl (by decide) (by first | rfl | omega) (dflS Try.prog 3) (iS (ix order n7)) rfl 1 []) (allP_cons (ob_ix_l order 1 1 n7 k5031) allP_nil)) ?_
   refine rf [(0, .sl l.length (fl l)), (1, .sl order.length (fl order)), (4, .ptr 0 0), (5, .sl there7.length (fl there7)), (6, iS n7), (7, iS (ix order n7))] [(0, .row 26 [iS 0, iS 0])] 1 (by kernel_rfl) ?_
   refine wk_id ?_
   refine seq_np ?_
   refine seq_cut (A := Unit) (fun _ => ([(0, .sl l.length (fl l)), (1, .sl order.length (fl order)), (4, .ptr 0 0), (5, .sl there7.length (fl there7)), (6, iS n7), (7, iS (ix order n7)), (34, bS ((decide ((ix order n7) < 0)) || (decide (((l.length : Nat) : Int) ≤ (ix order n7)))))], [(0, .row 26 [iS 0, iS 0])], 1)) (fun _ => True) (fun K5037 hK5037 => ?_) (fun _ _ => ?_)
   ·refine reg_f ?_
    refine rs 3 [] [] (by kernel_rfl) allP_nil ?_
    refine run_split 29 (decide ((ix order n7) < 0)) (.inl (by kernel_rfl)) (fun g5038 => ?_) (fun g5038 => ?_)
    ·refine rs 5 [] [] (by kernel_rfl) allP_nil ?_
     refine rf [(0, .sl l.length (fl l)), (1, .sl order.length (fl order)), (4, .ptr 0 0), (5, .sl there7.length (fl there7)), (6, iS n7), (7, iS (ix order n7)), (34, bS true)] [(0, .row 26 [iS 0, iS 0])] 1 (by kernel_rfl) ?_
     exact hK5037 () _ _ _ trivial (leSt_m [(0, 0)] [] (by (try simp only [g5038]) <;> simp only [push_cast, seval]) (by (try simp only [g5038]) <;> simp only [push_cast, seval]) rfl rfl rfl)
    ·refine rs 5 [] [] (by kernel_rfl) allP_nil ?_
     refine rf [(0, .sl l.length (fl l)), (1, .sl order.length (fl order)), (4, .ptr 0 0), (5, .sl there7.length (fl there7)), (6, iS n7), (7, iS (ix order n7)), (34, bS (decide (((l.length : Nat) : Int) ≤ (ix order n7))))] [(0, .row 26 [iS 0, iS 0])] 1 (by kernel_rfl) ?_
     exact hK5037 () _ _ _ trivial (leSt_m [(0, 0)] [] (by (try simp only [g5038]) <;> simp only [push_cast, seval]) (by (try simp only [g5038]) <;> simp only [push_cast, seval]) rfl rfl rfl)
   ·dsimp only
    refine cond_sx h (by kernel_rfl) (fun g5232 h => ?_) (fun g5232 h => ?_)
    ·refine seq_np ?_
     refine reg_f ?_
     refine rs 1 [] [] (by kernel_rfl) allP_nil ?_
     obtain ⟨r5040, hr5040, h⟩ := bind_sx h
     refine run_call 12 [iS 3, iS n7] (some 36) (by kernel_rfl) ?_
     refine call_0 (taskmillref_F_spec 3 n7 r5040 hr5040) (by simp only [push_cast, seval]) (by simp only [push_cast, seval]) ?_
     refine back_f ?_
     refine rs 1 [] [] (by kernel_rfl) allP_nil ?_
     refine rf [(4, .ptr 0 0)] [(0, .row 26 (Enc.cells r5040))] 1 (by kernel_rfl) ?_
     refine wk_id ?_
     refine rt_cast ht3 ?_
     obtain ⟨r0, h, e0⟩ := map_sx h
     have e1 := hr3 r0 e0.symm
     subst r0
     obtain rfl := Option.some.inj h
     refine ret_at (.agg (Enc.cells r5040)) (by kernel_rfl) ?_
     exact ret_e [] [] (by simp only [push_cast, seval]) (by simp only [push_cast, seval]) rfl rfl rfl
    ·refine wk_id ?_
     refine seq_np ?_
     refine chk_sx h (fun g5050 h => ?_)
     refine seq_np ?_
     refine reg_f ?_
     have k5049 : 0 ≤ (0 : Int) ∧ (0 : Int) ≤ n7 ∧ n7 ≤ ((order.length : Nat) : Int) := by first | simpa only [Bool.and_eq_true, decide_eq_true_eq, bne_iff_ne, ne_eq] using g5050 | (simp at g5050 ⊢; omega)
     refine rs 4 [none, none, some ⟨.sl (cut order (0 : Int) n7).length (fl (cut order (0 : Int) n7)), [], 1, []⟩] _ (by kernel_rfl) (allP_cons (ob_cut order (0 : Int) n7 1 1 rfl k5049) allP_nil) ?_
     obtain ⟨r5051, hr5051, h⟩ := bind_sx h
     refine run_call 24 [.sl (cut order (0 : Int) n7).length (fl (cut order (0 : Int) n7)), iS (ix order n7)] (some 41) (by kernel_rfl) ?_
     refine call_0 (taskmillref_Has_spec (cut order (0 : Int) n7) (ix order n7) r5051 hr5051) (by simp only [push_cast, seval]) (by simp only [push_cast, seval]) ?_
     refine back_f ?_
     refine rf [(0, .sl l.length (fl l)), (1, .sl order.length (fl order)), (4, .ptr 0 0), (5, .sl there7.length (fl there7)), (6, iS n7), (7, iS (ix order n7)), (41, bS r5051)] [(0, .row 26 [iS 0, iS 0])] 1 (by kernel_rfl) ?_
     refine wk_id ?_
     refine cond_sx h (by kernel_rfl) (fun g5231 h => ?_) (fun g5231 h => ?_)
     ·refine seq_np ?_
      refine reg_f ?_
      refine rs 1 [] [] (by kernel_rfl) allP_nil ?_
      obtain ⟨r5053, hr5053, h⟩ := bind_sx h
      refine run_call 12 [iS 10, iS n7] (some 43) (by kernel_rfl) ?_
      refine call_0 (taskmillref_F_spec 10 n7 r5053 hr5053) (by simp only [push_cast, seval]) (by simp only [push_cast, seval]) ?_
      refine back_f ?_
      refine rs 1 [] [] (by kernel_rfl) allP_nil ?_
      refine rf [(4, .ptr 0 0)] [(0, .row 26 (Enc.cells r5053))] 1 (by kernel_rfl) ?_
      refine wk_id ?_
      refine rt_cast ht3 ?_
      obtain ⟨r0, h, e0⟩ := map_sx h
      have e1 := hr3 r0 e0.symm
      subst r0
      obtain rfl := Option.some.inj h
      refine ret_at (.agg (Enc.cells r5053)) (by kernel_rfl) ?_
      exact ret_e [] [] (by simp only [push_cast, seval]) (by simp only [push_cast, seval]) rfl rfl rfl
     ·refine wk_id ?_
      refine seq_np ?_
      refine seq_np ?_
      refine reg_f ?_
      refine rs 1 [] [] (by kernel_rfl) allP_nil ?_
      refine rf [(0, .sl l.length (fl l)), (1, .sl order.length (fl order)), (4, .ptr 0 0), (5, .sl there7.length (fl there7)), (6, iS n7), (7, iS (ix order n7)), (8, iS 0)] [(0, .row 26 [iS 0, iS 0])] 1 (by kernel_rfl) ?_
      refine wk_id ?_
      refine block_np ?_
      refine loop_sx (S := Int) (fun a => ([(0, .sl l.length (fl l)), (1, .sl order.length (fl order)), (4, .ptr 0 0), (5, .sl there7.length (fl there7)), (6, iS n7), (7, iS (ix order n7)), (8, iS a)], [(0, .row 26 [iS 0, iS 0])], 1)) h (leSt_m [(0, 0)] [] (by simp only [push_cast, seval]) (by simp only [push_cast, seval]) rfl rfl rfl) ?_
      rintro k31 o4 R4 h hr4 hn4 hx4 ht4
      try dsimp only at h hn4 ⊢
      unfold taskmillref_OrderFault_l1 at h
      try dsimp only at h
      refine seq_np ?_
      refine seq_np ?_
      refine reg_f ?_
      refine rs 4 [] [] (by kernel_rfl) allP_nil ?_
      refine rf [(0, .sl l.length (fl l)), (1, .sl order.length (fl order)), (4, .ptr 0 0), (5, .sl there7.length (fl there7)), (6, iS n7), (7, iS (ix order n7)), (8, iS k31), (47, bS (decide (k31 < ((l.length : Nat) : Int))))] [(0, .row 26 [iS 0, iS 0])] 1 (by kernel_rfl) ?_
      refine wk_id ?_
      refine cond_sx h (by kernel_rfl) (fun g5230 h => ?_) (fun g5230 h => ?_)
      ·refine wk_id ?_
       refine seq_np ?_
       refine block_np ?_
       refine seq_cut (A := Bool) (fun a => ([(0, .sl l.length (fl l)), (1, .sl order.length (fl order)), (4, .ptr 0 0), (5, .sl there7.length (fl there7)), (6, iS n7), (7, iS (ix order n7)), (8, iS k31), (73, bS a)], [(0, .row 26 [iS 0, iS 0])], 1)) (fun a => (taskmillref_OrderFault_j1 l order there7 n7 k31 a) = some o4) (fun K5206 hK5206 => ?_) ?_
       ·refine reg_t ?_
        refine rs 4 [] [] (by kernel_rfl) allP_nil ?_
        refine run_br h 53 (.inl (by kernel_rfl)) (fun g5207 h => ?_) (fun g5207 h => ?_)
        ·refine chk_sx h (fun g5209 h => ?_)
         have k5208 : 0 ≤ (0 : Int) ∧ (0 : Int) ≤ n7 ∧ n7 ≤ ((order.length : Nat) : Int) := by first | simpa only [Bool.and_eq_true, decide_eq_true_eq, bne_iff_ne, ne_eq] using g5209 | (simp at g5209 ⊢; omega)
         refine rs 4 [none, none, some ⟨.sl (cut order (0 : Int) n7).length (fl (cut order (0 : Int) n7)), [], 7, []⟩] _ (by kernel_rfl) (allP_cons (ob_cut order (0 : Int) n7 1 7 rfl k5208) allP_nil) ?_
         obtain ⟨r5210, hr5210, h⟩ := bind_sx h
         refine run_call 24 [.sl (cut order (0 : Int) n7).length (fl (cut order (0 : Int) n7)), iS k31] (some 58) (by kernel_rfl) ?_
         refine callE_0 (taskmillref_Has_spec (cut order (0 : Int) n7) k31 r5210 hr5210) (by simp only [push_cast, seval]) (by simp only [push_cast, seval]) ?_
         refine back_t ?_
         refine rs 3 [] [] (by kernel_rfl) allP_nil ?_
         refine run_br h 61 (.inl (by kernel_rfl)) (fun g5211 h => ?_) (fun g5211 h => ?_)
         ·refine rn 12 [(0, .sl l.length (fl l)), (1, .sl order.length (fl order)), (4, .ptr 0 0), (5, .sl there7.length (fl there7)), (6, iS n7), (7, iS (ix order n7)), (8, iS k31), (61, bS true)] [(0, .row 26 [iS 0, iS 0])] 13 (by kernel_rfl) ?_
          refine chk_sx h (fun g5213 h => ?_)
          have k5212 : 0 ≤ k31 ∧ k31 < ((l.length : Nat) : Int) := by first | simpa only [Bool.and_eq_true, decide_eq_true_eq, bne_iff_ne, ne_eq] using g5213 | (simp at g5213 ⊢; omega)
          refine chk_sx h (fun g5215 h => ?_)
          have k5214 : 0 ≤ (ix order n7) ∧ (ix order n7) < ((l.length : Nat) : Int) := by first | simpa only [Bool.and_eq_true, decide_eq_true_eq, bne_iff_ne, ne_eq] using g5215 | (simp at g5215 ⊢; omega)
          refine rs 12 [none, none, some ⟨.iptr (fl l) ((k31).toNat * 7), [], 15, []⟩, none, some ⟨iS (ix l k31).End, [], 17, []⟩, none, none, some ⟨.iptr (fl l) (((ix order n7)).toNat * 7), [], 20, []⟩, none, some ⟨iS (ix l (ix order n7)).Begin, [], 22, []⟩] _ (by kernel_rfl) (allP_cons (ob_ld l (ix order n7) 7 0 ((((ix order n7)).toNat * 7) + 0) k5214 rfl (by decide) (by first | rfl | omega) (dflS Try.prog 3) (iS (ix l (ix order n7)).Begin) rfl 22 []) (allP_cons (ob_ix_l l 7 20 (ix order n7) k5214) (allP_cons (ob_ld l k31 7 1 (((k31).toNat * 7) + 1) k5212 rfl (by decide) (by first | rfl | omega) (dflS Try.prog 3) (iS (ix l k31).End) rfl 17 []) (allP_cons (ob_ix_l l 7 15 k31 k5212) allP_nil)))) ?_
          refine rt [(0, .sl l.length (fl l)), (1, .sl order.length (fl order)), (4, .ptr 0 0), (5, .sl there7.length (fl there7)), (6, iS n7), (7, iS (ix order n7)), (8, iS k31), (73, bS (decide ((ix l k31).End < (ix l (ix order n7)).Begin)))] [(0, .row 26 [iS 0, iS 0])] 25 follows (by kernel_rfl) ?_
          exact hK5206 ((decide ((ix l k31).End < (ix l (ix order n7)).Begin))) _ _ _ h (leSt_m [(0, 0)] [] (by first | ((try simp only [g5207, g5211]) <;> simp only [push_cast, seval]; done) | ((try simp only [g5207]); (try simp only [g5211]); simp only [push_cast, seval]; done) | (exfalso; clear h; simp_all; done)) (by first | ((try simp only [g5207, g5211]) <;> simp only [push_cast, seval]; done) | ((try simp only [g5207]); (try simp only [g5211]); simp only [push_cast, seval]; done) | (exfalso; clear h; simp_all; done)) rfl rfl rfl)
         ·refine rn 12 [(0, .sl l.length (fl l)), (1, .sl order.length (fl order)), (4, .ptr 0 0), (5, .sl there7.length (fl there7)), (6, iS n7), (7, iS (ix order n7)), (8, iS k31), (61, bS false)] [(0, .row 26 [iS 0, iS 0])] 13 (by kernel_rfl) ?_
          refine rs 12 [] [] (by kernel_rfl) allP_nil ?_
          refine rt [(0, .sl l.length (fl l)), (1, .sl order.length (fl order)), (4, .ptr 0 0), (5, .sl there7.length (fl there7)), (6, iS n7), (7, iS (ix order n7)), (8, iS k31), (73, bS false)] [(0, .row 26 [iS 0, iS 0])] 25 follows (by kernel_rfl) ?_
          exact hK5206 (false) _ _ _ h (leSt_m [(0, 0)] [] (by first | ((try simp only [g5207, g5211]) <;> simp only [push_cast, seval]; done) | ((try simp only [g5207]); (try simp only [g5211]); simp only [push_cast, seval]; done) | (exfalso; clear h; simp_all; done)) (by first | ((try simp only [g5207, g5211]) <;> simp only [push_cast, seval]; done) | ((try simp only [g5207]); (try simp only [g5211]); simp only [push_cast, seval]; done) | (exfalso; clear h; simp_all; done)) rfl rfl rfl)
        ·refine rs 20 [] [] (by kernel_rfl) allP_nil ?_
         refine rt [(0, .sl l.length (fl l)), (1, .sl order.length (fl order)), (4, .ptr 0 0), (5, .sl there7.length (fl there7)), (6, iS n7), (7, iS (ix order n7)), (8, iS k31), (73, bS false)] [(0, .row 26 [iS 0, iS 0])] 25 follows (by kernel_rfl) ?_
         exact hK5206 (false) _ _ _ h (leSt_m [(0, 0)] [] (by (try simp only [g5207]) <;> simp only [push_cast, seval]) (by (try simp only [g5207]) <;> simp only [push_cast, seval]) rfl rfl rfl)
       ·rintro t73q49 h
        try dsimp only at h ⊢
        unfold taskmillref_OrderFault_j1 at h
        refine cond_sx h (by kernel_rfl) (fun g5218 h => ?_) (fun g5218 h => ?_)
        ·refine seq_np ?_
         refine reg_f ?_
         refine rs 1 [] [] (by kernel_rfl) allP_nil ?_
         obtain ⟨r5217, hr5217, h⟩ := bind_sx h
         refine run_call 12 [iS 11, iS n7] (some 75) (by kernel_rfl) ?_
         refine call_0 (taskmillref_F_spec 11 n7 r5217 hr5217) (by simp only [push_cast, seval]) (by simp only [push_cast, seval]) ?_
         refine back_f ?_
         refine rs 1 [] [] (by kernel_rfl) allP_nil ?_
         refine rf [(4, .ptr 0 0)] [(0, .row 26 (Enc.cells r5217))] 1 (by kernel_rfl) ?_
         refine wk_id ?_
         refine rt_cast ht4 ?_
         obtain ⟨r0, h, e0⟩ := map_sx h
         have e1 := hr4 r0 e0.symm
         subst r0
         refine rt_cast ht3 ?_
         obtain ⟨r0, h, e0⟩ := map_sx h
         have e1 := hr3 r0 e0.symm
         subst r0
         obtain rfl := Option.some.inj h
         refine ret_at (.agg (Enc.cells r5217)) (by kernel_rfl) ?_
         exact ret_e [] [] (by simp only [push_cast, seval]) (by simp only [push_cast, seval]) rfl rfl rfl
        ·refine wk_id ?_
         refine wk_id ?_
         refine reg_f ?_
         refine rs 3 [] [] (by kernel_rfl) allP_nil ?_
         refine rf [(0, .sl l.length (fl l)), (1, .sl order.length (fl order)), (4, .ptr 0 0), (5, .sl there7.length (fl there7)), (6, iS n7), (7, iS (ix order n7)), (8, iS (IntKind.i64.wrap (k31 + 1)))] [(0, .row 26 [iS 0, iS 0])] 1 (by kernel_rfl) ?_
         exact hn4 ((IntKind.i64.wrap (k31 + 1))) _ _ _ (Option.some.inj h).symm (leSt_m [(0, 0)] [] (by simp only [push_cast, seval]) (by simp only [push_cast, seval]) rfl rfl rfl)
      ·change R4 (.exit 2) _ _ _
       refine ex_cast hx4 (id := 2) ?_
       obtain ⟨r0, h, e0⟩ := map_sx h
       have e1 := hr4 r0 e0.symm
       subst r0
       refine wk_id ?_
       refine wk_id ?_
       refine chk_sx h (fun g5223 h => ?_)
       refine seq_np ?_
       refine reg_f ?_
       have k5222 : 0 ≤ (ix order n7) ∧ (ix order n7) < ((l.length : Nat) : Int) := by first | simpa only [Bool.and_eq_true, decide_eq_true_eq, bne_iff_ne, ne_eq] using g5223 | (simp at g5223 ⊢; omega)
       refine rs 5 [none, none, none, some ⟨.iptr (fl l) (((ix order n7)).toNat * 7), [], 1, []⟩, some ⟨.agg (Enc.cells (ix l (ix order n7))), [], 1, []⟩] _ (by kernel_rfl) (allP_cons (ob_ldw l (ix order n7) 7 (((ix order n7)).toNat * 7) k5222 rfl (by first | rfl | omega) (Enc.cells (ix l (ix order n7))) rfl 1 []) (allP_cons (ob_ix_l l 7 1 (ix order n7) k5222) allP_nil)) ?_
       obtain ⟨r5224, hr5224, h⟩ := bind_sx h
       refine run_call 15 [.sl there7.length (fl there7), .agg (Enc.cells (ix l (ix order n7)))] (some 82) (by kernel_rfl) ?_
       refine call_0 (taskmillref_Tells_spec there7 (ix l (ix order n7)) r5224 hr5224) (by simp only [push_cast, seval]) (by simp only [push_cast, seval]) ?_
       refine back_f ?_
       refine rs 5 [] [] (by kernel_rfl) allP_nil ?_
       refine rf [(0, .sl l.length (fl l)), (1, .sl order.length (fl order)), (4, .ptr 0 0), (6, iS n7), (9, .sl r5224.1.length (fl r5224.1)), (10, bS r5224.2)] [(0, .row 26 [iS 0, iS 0])] 1 (by kernel_rfl) ?_
       refine wk_id ?_
       refine seq_np ?_
       refine seq_np ?_
       refine reg_f ?_
       refine rs 2 [] [] (by kernel_rfl) allP_nil ?_
       refine rf [(0, .sl l.length (fl l)), (1, .sl order.length (fl order)), (4, .ptr 0 0), (6, iS n7), (9, .sl r5224.1.length (fl r5224.1)), (86, bS (!r5224.2))] [(0, .row 26 [iS 0, iS 0])] 1 (by kernel_rfl) ?_
       refine wk_id ?_
       refine cond_sx h (by kernel_rfl) (fun g5229 h => ?_) (fun g5229 h => ?_)
       ·refine seq_np ?_
        refine reg_f ?_
        refine rs 1 [] [] (by kernel_rfl) allP_nil ?_
        obtain ⟨r5228, hr5228, h⟩ := bind_sx h
        refine run_call 12 [iS 7, iS n7] (some 88) (by kernel_rfl) ?_
        refine call_0 (taskmillref_F_spec 7 n7 r5228 hr5228) (by simp only [push_cast, seval]) (by simp only [push_cast, seval]) ?_
        refine back_f ?_
        refine rs 1 [] [] (by kernel_rfl) allP_nil ?_
        refine rf [(4, .ptr 0 0)] [(0, .row 26 (Enc.cells r5228))] 1 (by kernel_rfl) ?_
        refine wk_id ?_
        refine rt_cast ht3 ?_
        obtain ⟨r0, h, e0⟩ := map_sx h
        have e1 := hr3 r0 e0.symm
        subst r0
        obtain rfl := Option.some.inj h
        refine ret_at (.agg (Enc.cells r5228)) (by kernel_rfl) ?_
        exact ret_e [] [] (by simp only [push_cast, seval]) (by simp only [push_cast, seval]) rfl rfl rfl
       ·refine wk_id ?_
        refine reg_f ?_
        refine rs 2 [] [] (by kernel_rfl) allP_nil ?_
        refine rf [(0, .sl l.length (fl l)), (1, .sl order.length (fl order)), (4, .ptr 0 0), (5, .sl r5224.1.length (fl r5224.1)), (6, iS n7)] [(0, .row 26 [iS 0, iS 0])] 1 (by kernel_rfl) ?_
        refine wk_id ?_
        refine wk_id ?_
        refine reg_f ?_
        refine rs 3 [] [] (by kernel_rfl) allP_nil ?_
        refine rf [(0, .sl l.length (fl l)), (1, .sl order.length (fl order)), (4, .ptr 0 0), (5, .sl r5224.1.length (fl r5224.1)), (6, iS (IntKind.i64.wrap (n7 + 1)))] [(0, .row 26 [iS 0, iS 0])] 1 (by kernel_rfl) ?_
        exact hn3 (r5224.1, (IntKind.i64.wrap (n7 + 1))) _ _ _ (Option.some.inj h).symm (leSt_m [(0, 0)] [] (by simp only [push_cast, seval]) (by simp only [push_cast, seval]) rfl rfl rfl)
  ·change R3 (.exit 0) _ _ _
   refine ex_cast hx3 (id := 0) ?_
   obtain ⟨r0, h, e0⟩ := map_sx h
   have e1 := hr3 r0 e0.symm
   subst r0
   refine wk_id ?_
   refine wk_id ?_
   refine seq_np ?_
   refine reg_f ?_
   refine rs 2 [] [] (by kernel_rfl) allP_nil ?_
   refine rf [(4, .ptr 0 0)] [(0, .row 26 [iS 0, iS 0])] 1 (by kernel_rfl) ?_
   refine wk_id ?_
   obtain rfl := Option.some.inj h
   refine ret_at (.agg [iS 0, iS 0]) (by kernel_rfl) ?_
   exact ret_e [] [] (by simp only [push_cast, seval]) (by simp only [push_cast, seval]) rfl rfl rfl

set_option maxRecDepth 100000 in
set_option maxHeartbeats 200000000 in
theorem taskmilllaw_LinearFinds_spec (kind : Int) (l : (List GCall)) (r : Bool) (h : taskmilllaw_LinearFinds kind l = some r) : SpecW Try.prog 3 [iS kind, .sl l.length (fl l)] [] 0 (fun x h n => x = bS r ∧ h = [] ∧ n = 0) := by
 unfold taskmilllaw_LinearFinds at h
 refine spec_of (draw_ok _) Try.func3 rfl (by decide) rfl (by kernel_rfl) ?_
 refine seq_np ?_
 refine reg_f ?_
 refine rs 1 [] [] (by kernel_rfl) allP_nil ?_
 refine rf [(0, iS kind), (1, .sl l.length (fl l))] [] 0 (by kernel_rfl) ?_
 refine wk_id ?_
 refine seq_np ?_
 refine seq_np ?_
 refine reg_f ?_
 obtain ⟨r5239, hr5239, h⟩ := bind_sx h
 refine run_call 8 [] (some 8) (by kernel_rfl) ?_
 refine call_0 (taskmilllaw_linearBegun_spec r5239 hr5239) (by simp only [push_cast, seval]) (by simp only [push_cast, seval]) ?_
 refine back_f ?_
 refine rs 1 [] [] (by kernel_rfl) allP_nil ?_
 refine rf [(0, iS kind), (1, .sl l.length (fl l)), (9, bS (!r5239))] [] 0 (by kernel_rfl) ?_
 refine wk_id ?_
 refine cond_sx h (by kernel_rfl) (fun g5277 h => ?_) (fun g5277 h => ?_)
 ·refine seq_np ?_
  refine reg_f ?_
  refine rs 1 [] [] (by kernel_rfl) allP_nil ?_
  refine rf [(4, bS false)] [] 0 (by kernel_rfl) ?_
  refine wk_id ?_
  obtain rfl := Option.some.inj h
  refine ret_at (bS false) (by kernel_rfl) ?_
  exact ret_e [] [] (by simp only [push_cast, seval]) (by simp only [push_cast, seval]) rfl rfl rfl
 ·refine wk_id ?_
  refine seq_np ?_
  refine seq_np ?_
  refine reg_f ?_
  refine rs 3 [] [] (by kernel_rfl) allP_nil ?_
  refine rf [(0, iS kind), (1, .sl l.length (fl l)), (12, bS (decide ((100 : Int) < ((l.length : Nat) : Int))))] [] 0 (by kernel_rfl) ?_
  refine wk_id ?_
  refine cond_sx h (by kernel_rfl) (fun g5276 h => ?_) (fun g5276 h => ?_)
  ·refine seq_np ?_
   refine reg_f ?_
   refine rs 1 [] [] (by kernel_rfl) allP_nil ?_
   refine rf [(4, bS true)] [] 0 (by kernel_rfl) ?_
   refine wk_id ?_
   obtain rfl := Option.some.inj h
   refine ret_at (bS true) (by kernel_rfl) ?_
   exact ret_e [] [] (by simp only [push_cast, seval]) (by simp only [push_cast, seval]) rfl rfl rfl
  ·refine wk_id ?_
   refine seq_np ?_
   refine reg_f ?_
   refine rs 2 [] [] (by kernel_rfl) allP_nil ?_
   obtain ⟨r5243, hr5243, h⟩ := bind_sx h
   refine call_x (taskmilllaw_ownCalls_spec l r5243 hr5243) (args := [.sl l.length (fl l)]) (dst := (some 16)) (by kernel_rfl) [] 0 (by kernel_rfl) [] [] (.own 0 0 r5243.length) [(0, .row 36 (fl r5243))] (by simp only [push_cast, seval]) (by simp only [push_cast, seval]) (by kernel_rfl) (.inl rfl) (by simp only [push_cast, seval]) (by simp only [push_cast, seval]) ?_
   obtain ⟨r5244, hr5244, h⟩ := bind_sx h
   refine call_x (linear_Find_spec kind r5243 r5244 hr5244) (args := [iS kind, .own 0 0 r5243.length]) (dst := (some 17)) (by kernel_rfl) [(0, .row 36 (fl r5243))] 1 (by kernel_rfl) [] [0] (.tup [.own 1 0 r5244.2.length, .agg (Enc.cells r5244.1)]) [(1, .row 3 (fl r5244.2))] (by simp only [push_cast, seval]) (by simp only [push_cast, seval]) (by kernel_rfl) (.inr ⟨by simp only [push_cast, seval], by simp only [push_cast, seval]⟩) (by simp only [push_cast, seval]) (by simp only [push_cast, seval]) ?_
   refine rs 6 [] [] (by kernel_rfl) allP_nil ?_
   refine rf [(0, iS kind), (1, .sl l.length (fl l)), (5, .own 1 0 r5244.2.length), (6, .ptr 2 0)] [(0, .row 36 (fl r5243)), (1, .row 3 (fl r5244.2)), (2, .row 26 (Enc.cells r5244.1))] 3 (by kernel_rfl) ?_
   refine wk_id ?_
   refine seq_np ?_
   refine reg_f ?_
   refine rs 2 [] [] (by kernel_rfl) allP_nil ?_
   obtain ⟨r5246, hr5246, h⟩ := bind_sx h
   refine run_call 11 [iS kind, .sl l.length (fl l)] (some 22) (by kernel_rfl) ?_
   refine call_0 (taskmillref_CallsFault_spec kind l r5246 hr5246) (by simp only [push_cast, seval]) (by simp only [push_cast, seval]) ?_
   refine back_f ?_
   refine rs 2 [] [] (by kernel_rfl) allP_nil ?_
   refine rf [(1, .sl l.length (fl l)), (5, .own 1 0 r5244.2.length), (6, .ptr 2 0), (7, .ptr 3 0)] [(0, .row 36 (fl r5243)), (1, .row 3 (fl r5244.2)), (2, .row 26 (Enc.cells r5244.1)), (3, .row 26 (Enc.cells r5246))] 4 (by kernel_rfl) ?_
   refine wk_id ?_
   refine seq_np ?_
   refine seq_np ?_
   refine reg_f ?_
   refine rs 3 [] [] (by kernel_rfl) allP_nil ?_
   refine rf [(1, .sl l.length (fl l)), (5, .own 1 0 r5244.2.length), (6, .ptr 2 0), (7, .ptr 3 0), (25, bS (r5246.Code != 0))] [(0, .row 36 (fl r5243)), (1, .row 3 (fl r5244.2)), (2, .row 26 (Enc.cells r5244.1)), (3, .row 26 (Enc.cells r5246))] 4 (by kernel_rfl) ?_
   refine wk_id ?_
   refine cond_sx h (by kernel_rfl) (fun g5275 h => ?_) (fun g5275 h => ?_)
   ·refine seq_cut (A := Unit) (fun _ => ([(4, bS (((r5244.1.Code == r5246.Code) && ((r5244.1.At == r5246.At) && true)) && (((r5244.2.length : Nat) : Int) == 0)))], [(0, .row 36 (fl r5243)), (1, .row 3 (fl r5244.2)), (2, .row 26 (Enc.cells r5244.1)), (3, .row 26 (Enc.cells r5246))], 4)) (fun _ => True) (fun K5250 hK5250 => ?_) (fun _ _ => ?_)
    ·refine reg_f ?_
     refine rs 4 [] [] (by kernel_rfl) allP_nil ?_
     refine run_split 29 ((r5244.1.Code == r5246.Code) && ((r5244.1.At == r5246.At) && true)) (.inl (by kernel_rfl)) (fun g5251 => ?_) (fun g5251 => ?_)
     ·refine rs 5 [] [] (by kernel_rfl) allP_nil ?_
      refine rf [(4, bS (((r5244.2.length : Nat) : Int) == 0))] [(0, .row 36 (fl r5243)), (1, .row 3 (fl r5244.2)), (2, .row 26 (Enc.cells r5244.1)), (3, .row 26 (Enc.cells r5246))] 4 (by kernel_rfl) ?_
      exact hK5250 () _ _ _ trivial (leSt_m [(0, 0), (1, 1), (2, 2), (3, 3)] [] (by (try simp only [g5251]) <;> simp only [push_cast, seval]) (by (try simp only [g5251]) <;> simp only [push_cast, seval]) rfl rfl rfl)
     ·refine rs 5 [] [] (by kernel_rfl) allP_nil ?_
      refine rf [(4, bS false)] [(0, .row 36 (fl r5243)), (1, .row 3 (fl r5244.2)), (2, .row 26 (Enc.cells r5244.1)), (3, .row 26 (Enc.cells r5246))] 4 (by kernel_rfl) ?_
      exact hK5250 () _ _ _ trivial (leSt_m [(0, 0), (1, 1), (2, 2), (3, 3)] [] (by (try simp only [g5251]) <;> simp only [push_cast, seval]) (by (try simp only [g5251]) <;> simp only [push_cast, seval]) rfl rfl rfl)
    ·dsimp only
     obtain rfl := Option.some.inj h
     refine ret_at (bS (((r5244.1.Code == r5246.Code) && ((r5244.1.At == r5246.At) && true)) && (((r5244.2.length : Nat) : Int) == 0))) (by kernel_rfl) ?_
     exact ret_e [] [] (by simp only [push_cast, seval]) (by simp only [push_cast, seval]) rfl rfl rfl
   ·refine wk_id ?_
    refine seq_np ?_
    refine seq_np ?_
    refine reg_f ?_
    refine rs 3 [] [] (by kernel_rfl) allP_nil ?_
    refine rf [(1, .sl l.length (fl l)), (5, .own 1 0 r5244.2.length), (6, .ptr 2 0), (36, bS (r5244.1.Code != 0))] [(0, .row 36 (fl r5243)), (1, .row 3 (fl r5244.2)), (2, .row 26 (Enc.cells r5244.1)), (3, .row 26 (Enc.cells r5246))] 4 (by kernel_rfl) ?_
    refine wk_id ?_
    refine cond_sx h (by kernel_rfl) (fun g5274 h => ?_) (fun g5274 h => ?_)
    ·refine seq_cut (A := Bool) (fun a => ([(4, bS a)], [], 0)) (fun a => (taskmilllaw_LinearFinds_j1 a) = some r) (fun K5266 hK5266 => ?_) ?_
     ·refine reg_t ?_
      refine rs 1 [] [] (by kernel_rfl) allP_nil ?_
      obtain ⟨r5267, hr5267, h⟩ := bind_sx h
      refine run_call 12 [iS 6, iS 0] (some 38) (by kernel_rfl) ?_
      refine callE_0 (taskmillref_F_spec 6 0 r5267 hr5267) (by simp only [push_cast, seval]) (by simp only [push_cast, seval]) ?_
      refine back_t ?_
      refine rs 2 [] [] (by kernel_rfl) allP_nil ?_
      refine run_br h 40 (.inl (by kernel_rfl)) (fun g5268 h => ?_) (fun g5268 h => ?_)
      ·refine rs 5 [] [] (by kernel_rfl) allP_nil ?_
       refine run_br h 45 (.inl (by kernel_rfl)) (fun g5269 h => ?_) (fun g5269 h => ?_)
       ·refine rn 9 [(1, .sl l.length (fl l)), (45, bS true)] [(0, .row 36 (fl r5243)), (1, .row 3 (fl r5244.2)), (2, .row 26 (Enc.cells r5244.1)), (3, .row 26 (Enc.cells r5246))] 13 (by kernel_rfl) ?_
        refine rs 4 [] [] (by kernel_rfl) allP_nil ?_
        refine run_br h 49 (.inr (by kernel_rfl)) (fun g5270 h => ?_) (fun g5270 h => ?_)
        ·refine rs 6 [] [] (by kernel_rfl) allP_nil ?_
         refine rt [(4, bS true)] [(0, .row 36 (fl r5243)), (1, .row 3 (fl r5244.2)), (2, .row 26 (Enc.cells r5244.1)), (3, .row 26 (Enc.cells r5246))] 23 follows (by kernel_rfl) ?_
         exact hK5266 (true) _ _ _ h (leSt_m [] [] (by first | ((try simp only [g5268, g5269, g5270]) <;> simp only [push_cast, seval]; done) | ((try simp only [g5268]); (try simp only [g5269]); (try simp only [g5270]); simp only [push_cast, seval]; done) | (exfalso; clear h; simp_all; done)) (by first | ((try simp only [g5268, g5269, g5270]) <;> simp only [push_cast, seval]; done) | ((try simp only [g5268]); (try simp only [g5269]); (try simp only [g5270]); simp only [push_cast, seval]; done) | (exfalso; clear h; simp_all; done)) rfl rfl rfl)
        ·refine rs 1 [] [] (by kernel_rfl) allP_nil ?_
         obtain ⟨r5271, hr5271, h⟩ := bind_sx h
         refine call_x (taskmillref_Orderly_spec l [] [] r5271 hr5271) (args := [.sl l.length (fl l), .v (.slice none 0 0), .v (.slice none 0 0)]) (dst := (some 51)) (by kernel_rfl) [(0, .row 36 (fl r5243)), (1, .row 3 (fl r5244.2)), (2, .row 26 (Enc.cells r5244.1)), (3, .row 26 (Enc.cells r5246))] 18 (by kernel_rfl) [] [] (bS r5271) [] (by simp only [push_cast, seval]) (by simp only [push_cast, seval]) (by kernel_rfl) (.inl rfl) (by simp only [push_cast, seval]) (by simp only [push_cast, seval]) ?_
         refine rs 4 [] [] (by kernel_rfl) allP_nil ?_
         refine rt [(4, bS (!r5271))] [(0, .row 36 (fl r5243)), (1, .row 3 (fl r5244.2)), (2, .row 26 (Enc.cells r5244.1)), (3, .row 26 (Enc.cells r5246))] 23 follows (by kernel_rfl) ?_
         exact hK5266 ((!r5271)) _ _ _ h (leSt_m [] [] (by first | ((try simp only [g5268, g5269, g5270]) <;> simp only [push_cast, seval]; done) | ((try simp only [g5268]); (try simp only [g5269]); (try simp only [g5270]); simp only [push_cast, seval]; done) | (exfalso; clear h; simp_all; done)) (by first | ((try simp only [g5268, g5269, g5270]) <;> simp only [push_cast, seval]; done) | ((try simp only [g5268]); (try simp only [g5269]); (try simp only [g5270]); simp only [push_cast, seval]; done) | (exfalso; clear h; simp_all; done)) rfl rfl rfl)
       ·refine rn 9 [(1, .sl l.length (fl l)), (45, bS false)] [(0, .row 36 (fl r5243)), (1, .row 3 (fl r5244.2)), (2, .row 26 (Enc.cells r5244.1)), (3, .row 26 (Enc.cells r5246))] 13 (by kernel_rfl) ?_
        refine rs 10 [] [] (by kernel_rfl) allP_nil ?_
        refine rt [(4, bS false)] [(0, .row 36 (fl r5243)), (1, .row 3 (fl r5244.2)), (2, .row 26 (Enc.cells r5244.1)), (3, .row 26 (Enc.cells r5246))] 23 follows (by kernel_rfl) ?_
        exact hK5266 (false) _ _ _ h (leSt_m [] [] (by first | ((try simp only [g5268, g5269]) <;> simp only [push_cast, seval]; done) | ((try simp only [g5268]); (try simp only [g5269]); simp only [push_cast, seval]; done) | (exfalso; clear h; simp_all; done)) (by first | ((try simp only [g5268, g5269]) <;> simp only [push_cast, seval]; done) | ((try simp only [g5268]); (try simp only [g5269]); simp only [push_cast, seval]; done) | (exfalso; clear h; simp_all; done)) rfl rfl rfl)
      ·refine rs 15 [] [] (by kernel_rfl) allP_nil ?_
       refine rt [(4, bS false)] [(0, .row 36 (fl r5243)), (1, .row 3 (fl r5244.2)), (2, .row 26 (Enc.cells r5244.1)), (3, .row 26 (Enc.cells r5246))] 23 follows (by kernel_rfl) ?_
       exact hK5266 (false) _ _ _ h (leSt_m [] [] (by (try simp only [g5268]) <;> simp only [push_cast, seval]) (by (try simp only [g5268]) <;> simp only [push_cast, seval]) rfl rfl rfl)
     ·rintro t4q2 h
      try dsimp only at h ⊢
      unfold taskmilllaw_LinearFinds_j1 at h
      obtain rfl := Option.some.inj h
      refine ret_at (bS t4q2) (by kernel_rfl) ?_
      exact ret_e [] [] (by simp only [push_cast, seval]) (by simp only [push_cast, seval]) rfl rfl rfl
    ·refine wk_id ?_
     refine seq_np ?_
     refine reg_f ?_
     refine rs 2 [] [] (by kernel_rfl) allP_nil ?_
     obtain ⟨r5273, hr5273, h⟩ := bind_sx h
     refine call_x (taskmillref_OrderFault_spec l r5244.2 r5273 hr5273) (args := [.sl l.length (fl l), .own 1 0 r5244.2.length]) (dst := (some 57)) (by kernel_rfl) [(0, .row 36 (fl r5243)), (1, .row 3 (fl r5244.2)), (2, .row 26 (Enc.cells r5244.1)), (3, .row 26 (Enc.cells r5246))] 4 (by kernel_rfl) [] [1] (.agg (Enc.cells r5273)) [] (by simp only [push_cast, seval]) (by simp only [push_cast, seval]) (by kernel_rfl) (.inr ⟨by simp only [push_cast, seval], by simp only [push_cast, seval]⟩) (by simp only [push_cast, seval]) (by simp only [push_cast, seval]) ?_
     refine rs 3 [] [] (by kernel_rfl) allP_nil ?_
     refine rf [(4, bS (r5273.Code == 0))] [(0, .row 36 (fl r5243)), (1, .row 3 (fl r5244.2)), (2, .row 26 (Enc.cells r5244.1)), (3, .row 26 (Enc.cells r5246))] 4 (by kernel_rfl) ?_
     refine wk_id ?_
     obtain rfl := Option.some.inj h
     refine ret_at (bS (r5273.Code == 0)) (by kernel_rfl) ?_
     exact ret_e [] [] (by simp only [push_cast, seval]) (by simp only [push_cast, seval]) rfl rfl rfl

end Go.Proofs.Ytopomedppninoaa
