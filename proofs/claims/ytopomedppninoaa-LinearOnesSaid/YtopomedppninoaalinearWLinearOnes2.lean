/-
 What laws of the chapter linear compute, and lemmas on it.
 No conditions.
-/
import Derived.Test.YtopomedppninoaalinearWLinearOnes1
set_option linter.unusedSimpArgs false
set_option linter.unusedVariables false
namespace Go.Proofs.Ytopomedppninoaa
open Go Go.Sx
attribute [local irreducible] Wk RunAt
set_option maxRecDepth 100000 in
set_option maxHeartbeats 200000000 in
theorem taskmillref_CallsFault_spec (kind : Int) (l : (List GCall)) (r : Fault) (h : taskmillref_CallsFault kind l = some r) : SpecW Try.prog 11 [iS kind, .sl l.length (fl l)] [] 0 (fun x h n => x = .agg (Enc.cells r) ∧ h = [] ∧ n = 0) := by
 unfold taskmillref_CallsFault at h
 refine spec_of (draw_ok _) Try.func11 rfl (by decide) rfl (by kernel_rfl) ?_
 refine seq_np ?_
 refine reg_f ?_
 refine rs 1 [] [] (by kernel_rfl) allP_nil ?_
 refine rf [(0, iS kind), (1, .sl l.length (fl l)), (4, .ptr 0 0)] [(0, .row 26 [iS 0, iS 0])] 1 (by kernel_rfl) ?_
 refine wk_id ?_
 refine seq_np ?_
 refine seq_np ?_
 refine reg_f ?_
 refine rs 3 [] [] (by kernel_rfl) allP_nil ?_
 refine rf [(0, iS kind), (1, .sl l.length (fl l)), (4, .ptr 0 0), (13, bS (decide ((14 : Int) < ((l.length : Nat) : Int))))] [(0, .row 26 [iS 0, iS 0])] 1 (by kernel_rfl) ?_
 refine wk_id ?_
 refine cond_sx h (by kernel_rfl) (fun g3153 h => ?_) (fun g3153 h => ?_)
 ·refine seq_np ?_
  refine reg_f ?_
  obtain ⟨r2599, hr2599, h⟩ := bind_sx h
  refine run_call 12 [iS 2, iS 0] (some 14) (by kernel_rfl) ?_
  refine call_0 (taskmillref_F_spec 2 0 r2599 hr2599) (by simp only [push_cast, seval]) (by simp only [push_cast, seval]) ?_
  refine back_f ?_
  refine rs 1 [] [] (by kernel_rfl) allP_nil ?_
  refine rf [(4, .ptr 0 0)] [(0, .row 26 (Enc.cells r2599))] 1 (by kernel_rfl) ?_
  refine wk_id ?_
  obtain rfl := Option.some.inj h
  refine ret_at (.agg (Enc.cells r2599)) (by kernel_rfl) ?_
  exact ret_e [] [] (by simp only [push_cast, seval]) (by simp only [push_cast, seval]) rfl rfl rfl
 ·refine wk_id ?_
  refine seq_np ?_
  refine seq_cut (A := Unit) (fun _ => ([(0, iS kind), (1, .sl l.length (fl l)), (4, .ptr 0 0), (20, bS ((decide (kind < 1)) || (decide ((3 : Int) < kind))))], [(0, .row 26 [iS 0, iS 0])], 1)) (fun _ => True) (fun K2604 hK2604 => ?_) (fun _ _ => ?_)
  ·refine reg_f ?_
   refine rs 3 [] [] (by kernel_rfl) allP_nil ?_
   refine run_split 17 (decide (kind < 1)) (.inl (by kernel_rfl)) (fun g2605 => ?_) (fun g2605 => ?_)
   ·refine rs 3 [] [] (by kernel_rfl) allP_nil ?_
    refine rf [(0, iS kind), (1, .sl l.length (fl l)), (4, .ptr 0 0), (20, bS true)] [(0, .row 26 [iS 0, iS 0])] 1 (by kernel_rfl) ?_
    exact hK2604 () _ _ _ trivial (leSt_m [(0, 0)] [] (by (try simp only [g2605]) <;> simp only [push_cast, seval]) (by (try simp only [g2605]) <;> simp only [push_cast, seval]) rfl rfl rfl)
   ·refine rs 3 [] [] (by kernel_rfl) allP_nil ?_
    refine rf [(0, iS kind), (1, .sl l.length (fl l)), (4, .ptr 0 0), (20, bS (decide ((3 : Int) < kind)))] [(0, .row 26 [iS 0, iS 0])] 1 (by kernel_rfl) ?_
    exact hK2604 () _ _ _ trivial (leSt_m [(0, 0)] [] (by (try simp only [g2605]) <;> simp only [push_cast, seval]) (by (try simp only [g2605]) <;> simp only [push_cast, seval]) rfl rfl rfl)
  ·dsimp only
   refine cond_sx h (by kernel_rfl) (fun g3152 h => ?_) (fun g3152 h => ?_)
   ·refine seq_np ?_
    refine reg_f ?_
    obtain ⟨r2607, hr2607, h⟩ := bind_sx h
    refine run_call 12 [iS 4, iS (-1)] (some 21) (by kernel_rfl) ?_
    refine call_0 (taskmillref_F_spec 4 (-1) r2607 hr2607) (by simp only [push_cast, seval]) (by simp only [push_cast, seval]) ?_
    refine back_f ?_
    refine rs 1 [] [] (by kernel_rfl) allP_nil ?_
    refine rf [(4, .ptr 0 0)] [(0, .row 26 (Enc.cells r2607))] 1 (by kernel_rfl) ?_
    refine wk_id ?_
    obtain rfl := Option.some.inj h
    refine ret_at (.agg (Enc.cells r2607)) (by kernel_rfl) ?_
    exact ret_e [] [] (by simp only [push_cast, seval]) (by simp only [push_cast, seval]) rfl rfl rfl
   ·refine wk_id ?_
    refine seq_np ?_
    refine seq_np ?_
    refine reg_f ?_
    refine rs 1 [] [] (by kernel_rfl) allP_nil ?_
    refine rf [(0, iS kind), (1, .sl l.length (fl l)), (4, .ptr 0 0), (5, iS 0)] [(0, .row 26 [iS 0, iS 0])] 1 (by kernel_rfl) ?_
    refine wk_id ?_
    refine block_np ?_
    refine loop_sx (S := Int) (fun a => ([(0, iS kind), (1, .sl l.length (fl l)), (4, .ptr 0 0), (5, iS a)], [(0, .row 26 [iS 0, iS 0])], 1)) h (leSt_m [(0, 0)] [] (by simp only [push_cast, seval]) (by simp only [push_cast, seval]) rfl rfl rfl) ?_
    rintro i7 o2 R2 h hr2 hn2 hx2 ht2
    try dsimp only at h hn2 ⊢
    unfold taskmillref_CallsFault_l1 at h
    try dsimp only at h
    refine seq_np ?_
    refine seq_np ?_
    refine reg_f ?_
    refine rs 4 [] [] (by kernel_rfl) allP_nil ?_
    refine rf [(0, iS kind), (1, .sl l.length (fl l)), (4, .ptr 0 0), (5, iS i7), (25, bS (decide (i7 < ((l.length : Nat) : Int))))] [(0, .row 26 [iS 0, iS 0])] 1 (by kernel_rfl) ?_
    refine wk_id ?_
    refine cond_sx h (by kernel_rfl) (fun g3151 h => ?_) (fun g3151 h => ?_)
    ·refine wk_id ?_
     refine seq_np ?_
     refine block_np ?_
     refine chk_sx h (fun g3053 h => ?_)
     refine seq_np ?_
     refine reg_f ?_
     have k3052 : 0 ≤ i7 ∧ i7 < ((l.length : Nat) : Int) := by first | simpa only [Bool.and_eq_true, decide_eq_true_eq, bne_iff_ne, ne_eq] using g3053 | (simp at g3053 ⊢; omega)
     refine rs 6 [none, none, some ⟨.iptr (fl l) ((i7).toNat * 7), [], 1, []⟩, some ⟨.agg (Enc.cells (ix l i7)), [], 1, []⟩] _ (by kernel_rfl) (allP_cons (ob_ldw l i7 7 ((i7).toNat * 7) k3052 rfl (by first | rfl | omega) (Enc.cells (ix l i7)) rfl 1 []) (allP_cons (ob_ix_l l 7 1 i7 k3052) allP_nil)) ?_
     refine rf [(0, iS kind), (1, .sl l.length (fl l)), (4, .ptr 0 0), (5, iS i7), (6, .ptr 1 0)] [(0, .row 26 [iS 0, iS 0]), (1, .row 36 (Enc.cells (ix l i7)))] 2 (by kernel_rfl) ?_
     refine wk_id ?_
     refine seq_np ?_
     refine seq_np ?_
     refine reg_f ?_
     refine rs 2 [] [] (by kernel_rfl) allP_nil ?_
     obtain ⟨r3058, hr3058, h⟩ := bind_sx h
     refine run_call 23 [iS (ix l i7).Kind] (some 34) (by kernel_rfl) ?_
     refine call_0 (taskmillref_KindOf_spec (ix l i7).Kind r3058 hr3058) (by simp only [push_cast, seval]) (by simp only [push_cast, seval]) ?_
     refine back_f ?_
     refine rs 2 [] [] (by kernel_rfl) allP_nil ?_
     refine rf [(0, iS kind), (1, .sl l.length (fl l)), (4, .ptr 0 0), (5, iS i7), (6, .ptr 1 0), (36, bS (r3058 != kind))] [(0, .row 26 [iS 0, iS 0]), (1, .row 36 (Enc.cells (ix l i7)))] 2 (by kernel_rfl) ?_
     refine wk_id ?_
     refine cond_sx h (by kernel_rfl) (fun g3150 h => ?_) (fun g3150 h => ?_)
     ·refine seq_np ?_
      refine reg_f ?_
      refine rs 1 [] [] (by kernel_rfl) allP_nil ?_
      obtain ⟨r3060, hr3060, h⟩ := bind_sx h
      refine run_call 12 [iS 4, iS i7] (some 38) (by kernel_rfl) ?_
      refine call_0 (taskmillref_F_spec 4 i7 r3060 hr3060) (by simp only [push_cast, seval]) (by simp only [push_cast, seval]) ?_
      refine back_f ?_
      refine rs 1 [] [] (by kernel_rfl) allP_nil ?_
      refine rf [(4, .ptr 0 0)] [(0, .row 26 (Enc.cells r3060)), (1, .row 36 (Enc.cells (ix l i7)))] 2 (by kernel_rfl) ?_
      refine wk_id ?_
      refine rt_cast ht2 ?_
      obtain ⟨r0, h, e0⟩ := map_sx h
      have e1 := hr2 r0 e0.symm
      subst r0
      obtain rfl := Option.some.inj h
      refine ret_at (.agg (Enc.cells r3060)) (by kernel_rfl) ?_
      exact ret_e [] [] (by simp only [push_cast, seval]) (by simp only [push_cast, seval]) rfl rfl rfl
     ·refine wk_id ?_
      refine seq_np ?_
      refine seq_cut (A := Unit) (fun _ => ([(0, iS kind), (1, .sl l.length (fl l)), (4, .ptr 0 0), (5, iS i7), (6, .ptr 1 0), (53, bS ((decide ((ix l i7).Begin < 0)) || ((decide ((ix l i7).End ≤ (ix l i7).Begin)) || (decide ((1000000000 : Int) < (ix l i7).End)))))], [(0, .row 26 [iS 0, iS 0]), (1, .row 36 (Enc.cells (ix l i7)))], 2)) (fun _ => True) (fun K3067 hK3067 => ?_) (fun _ _ => ?_)
      ·refine reg_f ?_
       refine rs 4 [] [] (by kernel_rfl) allP_nil ?_
       refine run_split 42 (decide ((ix l i7).Begin < 0)) (.inl (by kernel_rfl)) (fun g3068 => ?_) (fun g3068 => ?_)
       ·refine rs 11 [] [] (by kernel_rfl) allP_nil ?_
        refine rf [(0, iS kind), (1, .sl l.length (fl l)), (4, .ptr 0 0), (5, iS i7), (6, .ptr 1 0), (53, bS true)] [(0, .row 26 [iS 0, iS 0]), (1, .row 36 (Enc.cells (ix l i7)))] 2 (by kernel_rfl) ?_
        exact hK3067 () _ _ _ trivial (leSt_m [(0, 0), (1, 1)] [] (by (try simp only [g3068]) <;> simp only [push_cast, seval]) (by (try simp only [g3068]) <;> simp only [push_cast, seval]) rfl rfl rfl)
       ·refine rs 7 [] [] (by kernel_rfl) allP_nil ?_
        refine run_split 49 (decide ((ix l i7).End ≤ (ix l i7).Begin)) (.inl (by kernel_rfl)) (fun g3069 => ?_) (fun g3069 => ?_)
        ·refine rs 4 [] [] (by kernel_rfl) allP_nil ?_
         refine rf [(0, iS kind), (1, .sl l.length (fl l)), (4, .ptr 0 0), (5, iS i7), (6, .ptr 1 0), (53, bS true)] [(0, .row 26 [iS 0, iS 0]), (1, .row 36 (Enc.cells (ix l i7)))] 2 (by kernel_rfl) ?_
         exact hK3067 () _ _ _ trivial (leSt_m [(0, 0), (1, 1)] [] (by first | ((try simp only [g3068, g3069]) <;> simp only [push_cast, seval]; done) | ((try simp only [g3068]); (try simp only [g3069]); simp only [push_cast, seval]; done) | (exfalso; clear h; simp_all; done)) (by first | ((try simp only [g3068, g3069]) <;> simp only [push_cast, seval]; done) | ((try simp only [g3068]); (try simp only [g3069]); simp only [push_cast, seval]; done) | (exfalso; clear h; simp_all; done)) rfl rfl rfl)
        ·refine rs 4 [] [] (by kernel_rfl) allP_nil ?_
         refine rf [(0, iS kind), (1, .sl l.length (fl l)), (4, .ptr 0 0), (5, iS i7), (6, .ptr 1 0), (53, bS (decide ((1000000000 : Int) < (ix l i7).End)))] [(0, .row 26 [iS 0, iS 0]), (1, .row 36 (Enc.cells (ix l i7)))] 2 (by kernel_rfl) ?_
         exact hK3067 () _ _ _ trivial (leSt_m [(0, 0), (1, 1)] [] (by first | ((try simp only [g3068, g3069]) <;> simp only [push_cast, seval]; done) | ((try simp only [g3068]); (try simp only [g3069]); simp only [push_cast, seval]; done) | (exfalso; clear h; simp_all; done)) (by first | ((try simp only [g3068, g3069]) <;> simp only [push_cast, seval]; done) | ((try simp only [g3068]); (try simp only [g3069]); simp only [push_cast, seval]; done) | (exfalso; clear h; simp_all; done)) rfl rfl rfl)
      ·dsimp only
       refine cond_sx h (by kernel_rfl) (fun g3149 h => ?_) (fun g3149 h => ?_)
       ·refine seq_np ?_
        refine reg_f ?_
        refine rs 1 [] [] (by kernel_rfl) allP_nil ?_
        obtain ⟨r3071, hr3071, h⟩ := bind_sx h
        refine run_call 12 [iS 3, iS i7] (some 55) (by kernel_rfl) ?_
        refine call_0 (taskmillref_F_spec 3 i7 r3071 hr3071) (by simp only [push_cast, seval]) (by simp only [push_cast, seval]) ?_
        refine back_f ?_
        refine rs 1 [] [] (by kernel_rfl) allP_nil ?_
        refine rf [(4, .ptr 0 0)] [(0, .row 26 (Enc.cells r3071)), (1, .row 36 (Enc.cells (ix l i7)))] 2 (by kernel_rfl) ?_
        refine wk_id ?_
        refine rt_cast ht2 ?_
        obtain ⟨r0, h, e0⟩ := map_sx h
        have e1 := hr2 r0 e0.symm
        subst r0
        obtain rfl := Option.some.inj h
        refine ret_at (.agg (Enc.cells r3071)) (by kernel_rfl) ?_
        exact ret_e [] [] (by simp only [push_cast, seval]) (by simp only [push_cast, seval]) rfl rfl rfl
       ·refine wk_id ?_
        refine seq_np ?_
        refine reg_f ?_
        refine rs 4 [] [] (by kernel_rfl) allP_nil ?_
        refine rf [(0, iS kind), (1, .sl l.length (fl l)), (4, .ptr 0 0), (5, iS i7), (6, .ptr 1 0), (7, bS false), (8, bS false), (9, bS false), (10, bS false)] [(0, .row 26 [iS 0, iS 0]), (1, .row 36 (Enc.cells (ix l i7)))] 2 (by kernel_rfl) ?_
        refine wk_id ?_
        refine seq_np ?_
        refine seq_np ?_
        refine reg_f ?_
        refine rs 2 [] [] (by kernel_rfl) allP_nil ?_
        refine rf [(0, iS kind), (1, .sl l.length (fl l)), (4, .ptr 0 0), (5, iS i7), (6, .ptr 1 0), (7, bS false), (8, bS false), (9, bS false), (10, bS false), (57, iS (ix l i7).Kind)] [(0, .row 26 [iS 0, iS 0]), (1, .row 36 (Enc.cells (ix l i7)))] 2 (by kernel_rfl) ?_
        refine wk_id ?_
        refine block_cut (A := Bool × Bool × Bool × Bool) (fun a => ([(0, iS kind), (1, .sl l.length (fl l)), (4, .ptr 0 0), (5, iS i7), (6, .ptr 1 0), (7, bS a.1), (8, bS a.2.1), (9, bS a.2.2.1), (10, bS a.2.2.2)], [(0, .row 26 [iS 0, iS 0]), (1, .row 36 (Enc.cells (ix l i7)))], 2)) (fun a => (taskmillref_CallsFault_j1 kind l i7 a.1 a.2.1 a.2.2.1 a.2.2.2) = some o2) (fun K3091 hK3091 => ?_) ?_
        ·refine seq_cut (A := Bool) (fun a => ([(0, iS kind), (1, .sl l.length (fl l)), (4, .ptr 0 0), (5, iS i7), (6, .ptr 1 0), (7, bS false), (8, bS false), (9, bS false), (10, bS false), (57, iS (ix l i7).Kind), (58, bS a)], [(0, .row 26 [iS 0, iS 0]), (1, .row 36 (Enc.cells (ix l i7)))], 2)) (fun a => (taskmillref_CallsFault_j2 kind l i7 a) = some o2) (fun K3094 hK3094 => ?_) ?_
         ·refine seq_np ?_
          refine reg_f ?_
          refine rs 2 [] [] (by kernel_rfl) allP_nil ?_
          refine rf [(0, iS kind), (1, .sl l.length (fl l)), (4, .ptr 0 0), (5, iS i7), (6, .ptr 1 0), (7, bS false), (8, bS false), (9, bS false), (10, bS false), (57, iS (ix l i7).Kind), (58, bS ((ix l i7).Kind == 1))] [(0, .row 26 [iS 0, iS 0]), (1, .row 36 (Enc.cells (ix l i7)))] 2 (by kernel_rfl) ?_
          refine wk_id ?_
          refine cond_sx h (by kernel_rfl) (fun g3095 h => ?_) (fun g3095 h => ?_)
          ·exact hK3094 (((ix l i7).Kind == 1)) _ _ _ h (leSt_m [(0, 0), (1, 1)] [] (by simp only [push_cast, seval]) (by simp only [push_cast, seval]) rfl rfl rfl)
          ·refine reg_f ?_
           refine rs 2 [] [] (by kernel_rfl) allP_nil ?_
           refine rf [(0, iS kind), (1, .sl l.length (fl l)), (4, .ptr 0 0), (5, iS i7), (6, .ptr 1 0), (7, bS false), (8, bS false), (9, bS false), (10, bS false), (57, iS (ix l i7).Kind), (58, bS ((ix l i7).Kind == 3))] [(0, .row 26 [iS 0, iS 0]), (1, .row 36 (Enc.cells (ix l i7)))] 2 (by kernel_rfl) ?_
           exact hK3094 (((ix l i7).Kind == 3)) _ _ _ h (leSt_m [(0, 0), (1, 1)] [] (by simp only [push_cast, seval]) (by simp only [push_cast, seval]) rfl rfl rfl)
         ·rintro t58q15 h
          try dsimp only at h ⊢
          unfold taskmillref_CallsFault_j2 at h
          refine cond_sx h (by kernel_rfl) (fun g3100 h => ?_) (fun g3100 h => ?_)
          ·refine reg_f ?_
           refine rs 1 [] [] (by kernel_rfl) allP_nil ?_
           refine rf [(0, iS kind), (1, .sl l.length (fl l)), (4, .ptr 0 0), (5, iS i7), (6, .ptr 1 0), (7, bS true), (8, bS false), (9, bS false), (10, bS false)] [(0, .row 26 [iS 0, iS 0]), (1, .row 36 (Enc.cells (ix l i7)))] 2 (by kernel_rfl) ?_
           exact hK3091 (true, false, false, false) _ _ _ h (leSt_m [(0, 0), (1, 1)] [] (by simp only [push_cast, seval]) (by simp only [push_cast, seval]) rfl rfl rfl)
          ·refine seq_np ?_
           refine reg_f ?_
           refine rs 2 [] [] (by kernel_rfl) allP_nil ?_
           refine rf [(0, iS kind), (1, .sl l.length (fl l)), (4, .ptr 0 0), (5, iS i7), (6, .ptr 1 0), (7, bS false), (8, bS false), (9, bS false), (10, bS false), (57, iS (ix l i7).Kind), (61, bS ((ix l i7).Kind == 2))] [(0, .row 26 [iS 0, iS 0]), (1, .row 36 (Enc.cells (ix l i7)))] 2 (by kernel_rfl) ?_
           refine wk_id ?_
           refine cond_sx h (by kernel_rfl) (fun g3099 h => ?_) (fun g3099 h => ?_)
           ·refine seq_np ?_
            refine reg_f ?_
            refine rs 1 [] [] (by kernel_rfl) allP_nil ?_
            refine rf [(0, iS kind), (1, .sl l.length (fl l)), (4, .ptr 0 0), (5, iS i7), (6, .ptr 1 0), (7, bS false), (8, bS false), (10, bS true)] [(0, .row 26 [iS 0, iS 0]), (1, .row 36 (Enc.cells (ix l i7)))] 2 (by kernel_rfl) ?_
            refine wk_id ?_
            refine reg_f ?_
            refine rs 3 [] [] (by kernel_rfl) allP_nil ?_
            refine rf [(0, iS kind), (1, .sl l.length (fl l)), (4, .ptr 0 0), (5, iS i7), (6, .ptr 1 0), (7, bS false), (8, bS false), (9, bS (ix l i7).Ok), (10, bS true)] [(0, .row 26 [iS 0, iS 0]), (1, .row 36 (Enc.cells (ix l i7)))] 2 (by kernel_rfl) ?_
            exact hK3091 (false, false, (ix l i7).Ok, true) _ _ _ h (leSt_m [(0, 0), (1, 1)] [] (by simp only [push_cast, seval]) (by simp only [push_cast, seval]) rfl rfl rfl)
           ·refine seq_np ?_
            refine reg_f ?_
            refine rs 2 [] [] (by kernel_rfl) allP_nil ?_
            refine rf [(0, iS kind), (1, .sl l.length (fl l)), (4, .ptr 0 0), (5, iS i7), (6, .ptr 1 0), (7, bS false), (8, bS false), (9, bS false), (10, bS false), (57, iS (ix l i7).Kind), (65, bS ((ix l i7).Kind == 4))] [(0, .row 26 [iS 0, iS 0]), (1, .row 36 (Enc.cells (ix l i7)))] 2 (by kernel_rfl) ?_
            refine wk_id ?_
            refine cond_sx h (by kernel_rfl) (fun g3098 h => ?_) (fun g3098 h => ?_)
            ·refine reg_f ?_
             refine rs 1 [] [] (by kernel_rfl) allP_nil ?_
             refine rf [(0, iS kind), (1, .sl l.length (fl l)), (4, .ptr 0 0), (5, iS i7), (6, .ptr 1 0), (7, bS false), (8, bS false), (9, bS true), (10, bS false)] [(0, .row 26 [iS 0, iS 0]), (1, .row 36 (Enc.cells (ix l i7)))] 2 (by kernel_rfl) ?_
             exact hK3091 (false, false, true, false) _ _ _ h (leSt_m [(0, 0), (1, 1)] [] (by simp only [push_cast, seval]) (by simp only [push_cast, seval]) rfl rfl rfl)
            ·refine seq_np ?_
             refine reg_f ?_
             refine rs 2 [] [] (by kernel_rfl) allP_nil ?_
             refine rf [(0, iS kind), (1, .sl l.length (fl l)), (4, .ptr 0 0), (5, iS i7), (6, .ptr 1 0), (7, bS false), (8, bS false), (9, bS false), (10, bS false), (57, iS (ix l i7).Kind), (67, bS ((ix l i7).Kind == 5))] [(0, .row 26 [iS 0, iS 0]), (1, .row 36 (Enc.cells (ix l i7)))] 2 (by kernel_rfl) ?_
             refine wk_id ?_
             refine cond_sx h (by kernel_rfl) (fun g3097 h => ?_) (fun g3097 h => ?_)
             ·refine seq_np ?_
              refine reg_f ?_
              refine rs 1 [] [] (by kernel_rfl) allP_nil ?_
              refine rf [(0, iS kind), (1, .sl l.length (fl l)), (4, .ptr 0 0), (5, iS i7), (6, .ptr 1 0), (7, bS true), (8, bS false), (10, bS false)] [(0, .row 26 [iS 0, iS 0]), (1, .row 36 (Enc.cells (ix l i7)))] 2 (by kernel_rfl) ?_
              refine wk_id ?_
              refine reg_f ?_
              refine rs 1 [] [] (by kernel_rfl) allP_nil ?_
              refine rf [(0, iS kind), (1, .sl l.length (fl l)), (4, .ptr 0 0), (5, iS i7), (6, .ptr 1 0), (7, bS true), (8, bS false), (9, bS true), (10, bS false)] [(0, .row 26 [iS 0, iS 0]), (1, .row 36 (Enc.cells (ix l i7)))] 2 (by kernel_rfl) ?_
              exact hK3091 (true, false, true, false) _ _ _ h (leSt_m [(0, 0), (1, 1)] [] (by simp only [push_cast, seval]) (by simp only [push_cast, seval]) rfl rfl rfl)
             ·refine seq_np ?_
              refine reg_f ?_
              refine rs 2 [] [] (by kernel_rfl) allP_nil ?_
              refine rf [(0, iS kind), (1, .sl l.length (fl l)), (4, .ptr 0 0), (5, iS i7), (6, .ptr 1 0), (7, bS false), (8, bS false), (9, bS false), (10, bS false), (69, bS ((ix l i7).Kind == 6))] [(0, .row 26 [iS 0, iS 0]), (1, .row 36 (Enc.cells (ix l i7)))] 2 (by kernel_rfl) ?_
              refine wk_id ?_
              refine cond_sx h (by kernel_rfl) (fun g3096 h => ?_) (fun g3096 h => ?_)
              ·refine seq_np ?_
               refine reg_f ?_
               refine rs 1 [] [] (by kernel_rfl) allP_nil ?_
               refine rf [(0, iS kind), (1, .sl l.length (fl l)), (4, .ptr 0 0), (5, iS i7), (6, .ptr 1 0), (7, bS true), (9, bS false)] [(0, .row 26 [iS 0, iS 0]), (1, .row 36 (Enc.cells (ix l i7)))] 2 (by kernel_rfl) ?_
               refine wk_id ?_
               refine seq_np ?_
               refine reg_f ?_
               refine rs 1 [] [] (by kernel_rfl) allP_nil ?_
               refine rf [(0, iS kind), (1, .sl l.length (fl l)), (4, .ptr 0 0), (5, iS i7), (6, .ptr 1 0), (7, bS true), (8, bS true), (9, bS false)] [(0, .row 26 [iS 0, iS 0]), (1, .row 36 (Enc.cells (ix l i7)))] 2 (by kernel_rfl) ?_
               refine wk_id ?_
               refine reg_f ?_
               refine rs 1 [] [] (by kernel_rfl) allP_nil ?_
               refine rf [(0, iS kind), (1, .sl l.length (fl l)), (4, .ptr 0 0), (5, iS i7), (6, .ptr 1 0), (7, bS true), (8, bS true), (9, bS false), (10, bS true)] [(0, .row 26 [iS 0, iS 0]), (1, .row 36 (Enc.cells (ix l i7)))] 2 (by kernel_rfl) ?_
               exact hK3091 (true, true, false, true) _ _ _ h (leSt_m [(0, 0), (1, 1)] [] (by simp only [push_cast, seval]) (by simp only [push_cast, seval]) rfl rfl rfl)
              ·exact hK3091 (false, false, false, false) _ _ _ h (leSt_m [(0, 0), (1, 1)] [] (by simp only [push_cast, seval]) (by simp only [push_cast, seval]) rfl rfl rfl)
        ·rintro ⟨arg14, old14, ret14, ok14⟩ h
         try dsimp only at h ⊢
         unfold taskmillref_CallsFault_j1 at h
         refine wk_id ?_
         refine seq_cut (A := Unit) (fun _ => ([(0, iS kind), (1, .sl l.length (fl l)), (4, .ptr 0 0), (5, iS i7), (103, bS (bif (!arg14) then (((ix l i7).Arg != 0) || (bif (!old14) then (((ix l i7).Old != 0) || (bif (!ret14) then (((ix l i7).Ret != 0) || ((!ok14) && (ix l i7).Ok)) else ((!ok14) && (ix l i7).Ok))) else (bif (!ret14) then (((ix l i7).Ret != 0) || ((!ok14) && (ix l i7).Ok)) else ((!ok14) && (ix l i7).Ok)))) else (bif (!old14) then (((ix l i7).Old != 0) || (bif (!ret14) then (((ix l i7).Ret != 0) || ((!ok14) && (ix l i7).Ok)) else ((!ok14) && (ix l i7).Ok))) else (bif (!ret14) then (((ix l i7).Ret != 0) || ((!ok14) && (ix l i7).Ok)) else ((!ok14) && (ix l i7).Ok)))))], [(0, .row 26 [iS 0, iS 0]), (1, .row 36 (Enc.cells (ix l i7)))], 2)) (fun _ => True) (fun K3123 hK3123 => ?_) (fun _ _ => ?_)
         ·refine reg_f ?_
          refine rs 3 [] [] (by kernel_rfl) allP_nil ?_
          refine run_split 73 (!arg14) (.inl (by kernel_rfl)) (fun g3124 => ?_) (fun g3124 => ?_)
          ·refine rs 5 [] [] (by kernel_rfl) allP_nil ?_
           refine run_split 78 ((ix l i7).Arg != 0) (.inl (by kernel_rfl)) (fun g3125 => ?_) (fun g3125 => ?_)
           ·refine rs 25 [] [] (by kernel_rfl) allP_nil ?_
            refine rf [(0, iS kind), (1, .sl l.length (fl l)), (4, .ptr 0 0), (5, iS i7), (103, bS true)] [(0, .row 26 [iS 0, iS 0]), (1, .row 36 (Enc.cells (ix l i7)))] 2 (by kernel_rfl) ?_
            exact hK3123 () _ _ _ trivial (leSt_m [(0, 0), (1, 1)] [] (by first | ((try simp only [g3124, g3125]) <;> simp only [push_cast, seval]; done) | ((try simp only [g3124]); (try simp only [g3125]); simp only [push_cast, seval]; done) | (exfalso; clear h; simp_all; done)) (by first | ((try simp only [g3124, g3125]) <;> simp only [push_cast, seval]; done) | ((try simp only [g3124]); (try simp only [g3125]); simp only [push_cast, seval]; done) | (exfalso; clear h; simp_all; done)) rfl rfl rfl)
           ·refine rs 3 [] [] (by kernel_rfl) allP_nil ?_
            refine run_split 81 (!old14) (.inr (by kernel_rfl)) (fun g3126 => ?_) (fun g3126 => ?_)
            ·refine rn 11 [(0, iS kind), (1, .sl l.length (fl l)), (4, .ptr 0 0), (5, iS i7), (6, .ptr 1 0), (9, bS ret14), (10, bS ok14), (78, bS false), (81, .gd true (bS true))] [(0, .row 26 [iS 0, iS 0]), (1, .row 36 (Enc.cells (ix l i7)))] 2 (by kernel_rfl) ?_
             refine rs 6 [] [] (by kernel_rfl) allP_nil ?_
             refine run_split 87 ((ix l i7).Old != 0) (.inl (by kernel_rfl)) (fun g3127 => ?_) (fun g3127 => ?_)
             ·refine rs 16 [] [] (by kernel_rfl) allP_nil ?_
              refine rf [(0, iS kind), (1, .sl l.length (fl l)), (4, .ptr 0 0), (5, iS i7), (103, bS true)] [(0, .row 26 [iS 0, iS 0]), (1, .row 36 (Enc.cells (ix l i7)))] 2 (by kernel_rfl) ?_
              exact hK3123 () _ _ _ trivial (leSt_m [(0, 0), (1, 1)] [] (by first | ((try simp only [g3124, g3125, g3126, g3127]) <;> simp only [push_cast, seval]; done) | ((try simp only [g3124]); (try simp only [g3125]); (try simp only [g3126]); (try simp only [g3127]); simp only [push_cast, seval]; done) | (exfalso; clear h; simp_all; done)) (by first | ((try simp only [g3124, g3125, g3126, g3127]) <;> simp only [push_cast, seval]; done) | ((try simp only [g3124]); (try simp only [g3125]); (try simp only [g3126]); (try simp only [g3127]); simp only [push_cast, seval]; done) | (exfalso; clear h; simp_all; done)) rfl rfl rfl)
             ·refine rs 3 [] [] (by kernel_rfl) allP_nil ?_
              refine run_split 90 (!ret14) (.inr (by kernel_rfl)) (fun g3128 => ?_) (fun g3128 => ?_)
              ·refine rs 6 [] [] (by kernel_rfl) allP_nil ?_
               refine run_split 96 ((ix l i7).Ret != 0) (.inl (by kernel_rfl)) (fun g3129 => ?_) (fun g3129 => ?_)
               ·refine rn 26 [(0, iS kind), (1, .sl l.length (fl l)), (4, .ptr 0 0), (5, iS i7), (6, .ptr 1 0), (10, bS ok14), (96, bS true)] [(0, .row 26 [iS 0, iS 0]), (1, .row 36 (Enc.cells (ix l i7)))] 2 (by kernel_rfl) ?_
                refine rs 7 [] [] (by kernel_rfl) allP_nil ?_
                refine rf [(0, iS kind), (1, .sl l.length (fl l)), (4, .ptr 0 0), (5, iS i7), (103, bS true)] [(0, .row 26 [iS 0, iS 0]), (1, .row 36 (Enc.cells (ix l i7)))] 2 (by kernel_rfl) ?_
                exact hK3123 () _ _ _ trivial (leSt_m [(0, 0), (1, 1)] [] (by first | ((try simp only [g3124, g3125, g3126, g3127, g3128, g3129]) <;> simp only [push_cast, seval]; done) | ((try simp only [g3124]); (try simp only [g3125]); (try simp only [g3126]); (try simp only [g3127]); (try simp only [g3128]); (try simp only [g3129]); simp only [push_cast, seval]; done) | (exfalso; clear h; simp_all; done)) (by first | ((try simp only [g3124, g3125, g3126, g3127, g3128, g3129]) <;> simp only [push_cast, seval]; done) | ((try simp only [g3124]); (try simp only [g3125]); (try simp only [g3126]); (try simp only [g3127]); (try simp only [g3128]); (try simp only [g3129]); simp only [push_cast, seval]; done) | (exfalso; clear h; simp_all; done)) rfl rfl rfl)
               ·refine rn 26 [(0, iS kind), (1, .sl l.length (fl l)), (4, .ptr 0 0), (5, iS i7), (6, .ptr 1 0), (10, bS ok14), (96, bS false)] [(0, .row 26 [iS 0, iS 0]), (1, .row 36 (Enc.cells (ix l i7)))] 2 (by kernel_rfl) ?_
                refine rs 3 [] [] (by kernel_rfl) allP_nil ?_
                refine run_split 99 (!ok14) (.inr (by kernel_rfl)) (fun g3130 => ?_) (fun g3130 => ?_)
                ·refine rs 4 [] [] (by kernel_rfl) allP_nil ?_
                 refine rf [(0, iS kind), (1, .sl l.length (fl l)), (4, .ptr 0 0), (5, iS i7), (103, bS (ix l i7).Ok)] [(0, .row 26 [iS 0, iS 0]), (1, .row 36 (Enc.cells (ix l i7)))] 2 (by kernel_rfl) ?_
                 exact hK3123 () _ _ _ trivial (leSt_m [(0, 0), (1, 1)] [] (by first | ((try simp only [g3124, g3125, g3126, g3127, g3128, g3129, g3130]) <;> simp only [push_cast, seval]; done) | ((try simp only [g3124]); (try simp only [g3125]); (try simp only [g3126]); (try simp only [g3127]); (try simp only [g3128]); (try simp only [g3129]); (try simp only [g3130]); simp only [push_cast, seval]; done) | (exfalso; clear h; simp_all; done)) (by first | ((try simp only [g3124, g3125, g3126, g3127, g3128, g3129, g3130]) <;> simp only [push_cast, seval]; done) | ((try simp only [g3124]); (try simp only [g3125]); (try simp only [g3126]); (try simp only [g3127]); (try simp only [g3128]); (try simp only [g3129]); (try simp only [g3130]); simp only [push_cast, seval]; done) | (exfalso; clear h; simp_all; done)) rfl rfl rfl)
                ·refine rs 4 [] [] (by kernel_rfl) allP_nil ?_
                 refine rf [(0, iS kind), (1, .sl l.length (fl l)), (4, .ptr 0 0), (5, iS i7), (103, bS false)] [(0, .row 26 [iS 0, iS 0]), (1, .row 36 (Enc.cells (ix l i7)))] 2 (by kernel_rfl) ?_
                 exact hK3123 () _ _ _ trivial (leSt_m [(0, 0), (1, 1)] [] (by first | ((try simp only [g3124, g3125, g3126, g3127, g3128, g3129, g3130]) <;> simp only [push_cast, seval]; done) | ((try simp only [g3124]); (try simp only [g3125]); (try simp only [g3126]); (try simp only [g3127]); (try simp only [g3128]); (try simp only [g3129]); (try simp only [g3130]); simp only [push_cast, seval]; done) | (exfalso; clear h; simp_all; done)) (by first | ((try simp only [g3124, g3125, g3126, g3127, g3128, g3129, g3130]) <;> simp only [push_cast, seval]; done) | ((try simp only [g3124]); (try simp only [g3125]); (try simp only [g3126]); (try simp only [g3127]); (try simp only [g3128]); (try simp only [g3129]); (try simp only [g3130]); simp only [push_cast, seval]; done) | (exfalso; clear h; simp_all; done)) rfl rfl rfl)
              ·refine rs 9 [] [] (by kernel_rfl) allP_nil ?_
               refine run_split 99 (!ok14) (.inr (by kernel_rfl)) (fun g3131 => ?_) (fun g3131 => ?_)
               ·refine rn 29 [(0, iS kind), (1, .sl l.length (fl l)), (4, .ptr 0 0), (5, iS i7), (6, .ptr 1 0), (96, bS false), (99, .gd true (bS true))] [(0, .row 26 [iS 0, iS 0]), (1, .row 36 (Enc.cells (ix l i7)))] 2 (by kernel_rfl) ?_
                refine rs 4 [] [] (by kernel_rfl) allP_nil ?_
                refine rf [(0, iS kind), (1, .sl l.length (fl l)), (4, .ptr 0 0), (5, iS i7), (103, bS (ix l i7).Ok)] [(0, .row 26 [iS 0, iS 0]), (1, .row 36 (Enc.cells (ix l i7)))] 2 (by kernel_rfl) ?_
                exact hK3123 () _ _ _ trivial (leSt_m [(0, 0), (1, 1)] [] (by first | ((try simp only [g3124, g3125, g3126, g3127, g3128, g3131]) <;> simp only [push_cast, seval]; done) | ((try simp only [g3124]); (try simp only [g3125]); (try simp only [g3126]); (try simp only [g3127]); (try simp only [g3128]); (try simp only [g3131]); simp only [push_cast, seval]; done) | (exfalso; clear h; simp_all; done)) (by first | ((try simp only [g3124, g3125, g3126, g3127, g3128, g3131]) <;> simp only [push_cast, seval]; done) | ((try simp only [g3124]); (try simp only [g3125]); (try simp only [g3126]); (try simp only [g3127]); (try simp only [g3128]); (try simp only [g3131]); simp only [push_cast, seval]; done) | (exfalso; clear h; simp_all; done)) rfl rfl rfl)
               ·refine rn 29 [(0, iS kind), (1, .sl l.length (fl l)), (4, .ptr 0 0), (5, iS i7), (6, .ptr 1 0), (96, bS false), (99, .gd true (bS false))] [(0, .row 26 [iS 0, iS 0]), (1, .row 36 (Enc.cells (ix l i7)))] 2 (by kernel_rfl) ?_
                refine rs 4 [] [] (by kernel_rfl) allP_nil ?_
                refine rf [(0, iS kind), (1, .sl l.length (fl l)), (4, .ptr 0 0), (5, iS i7), (103, bS false)] [(0, .row 26 [iS 0, iS 0]), (1, .row 36 (Enc.cells (ix l i7)))] 2 (by kernel_rfl) ?_
                exact hK3123 () _ _ _ trivial (leSt_m [(0, 0), (1, 1)] [] (by first | ((try simp only [g3124, g3125, g3126, g3127, g3128, g3131]) <;> simp only [push_cast, seval]; done) | ((try simp only [g3124]); (try simp only [g3125]); (try simp only [g3126]); (try simp only [g3127]); (try simp only [g3128]); (try simp only [g3131]); simp only [push_cast, seval]; done) | (exfalso; clear h; simp_all; done)) (by first | ((try simp only [g3124, g3125, g3126, g3127, g3128, g3131]) <;> simp only [push_cast, seval]; done) | ((try simp only [g3124]); (try simp only [g3125]); (try simp only [g3126]); (try simp only [g3127]); (try simp only [g3128]); (try simp only [g3131]); simp only [push_cast, seval]; done) | (exfalso; clear h; simp_all; done)) rfl rfl rfl)
            ·refine rn 11 [(0, iS kind), (1, .sl l.length (fl l)), (4, .ptr 0 0), (5, iS i7), (6, .ptr 1 0), (9, bS ret14), (10, bS ok14), (78, bS false), (81, .gd true (bS false))] [(0, .row 26 [iS 0, iS 0]), (1, .row 36 (Enc.cells (ix l i7)))] 2 (by kernel_rfl) ?_
             refine rs 9 [] [] (by kernel_rfl) allP_nil ?_
             refine run_split 90 (!ret14) (.inr (by kernel_rfl)) (fun g3132 => ?_) (fun g3132 => ?_)
             ·refine rs 6 [] [] (by kernel_rfl) allP_nil ?_
              refine run_split 96 ((ix l i7).Ret != 0) (.inl (by kernel_rfl)) (fun g3133 => ?_) (fun g3133 => ?_)
              ·refine rs 7 [] [] (by kernel_rfl) allP_nil ?_
               refine rf [(0, iS kind), (1, .sl l.length (fl l)), (4, .ptr 0 0), (5, iS i7), (103, bS true)] [(0, .row 26 [iS 0, iS 0]), (1, .row 36 (Enc.cells (ix l i7)))] 2 (by kernel_rfl) ?_
               exact hK3123 () _ _ _ trivial (leSt_m [(0, 0), (1, 1)] [] (by first | ((try simp only [g3124, g3125, g3126, g3132, g3133]) <;> simp only [push_cast, seval]; done) | ((try simp only [g3124]); (try simp only [g3125]); (try simp only [g3126]); (try simp only [g3132]); (try simp only [g3133]); simp only [push_cast, seval]; done) | (exfalso; clear h; simp_all; done)) (by first | ((try simp only [g3124, g3125, g3126, g3132, g3133]) <;> simp only [push_cast, seval]; done) | ((try simp only [g3124]); (try simp only [g3125]); (try simp only [g3126]); (try simp only [g3132]); (try simp only [g3133]); simp only [push_cast, seval]; done) | (exfalso; clear h; simp_all; done)) rfl rfl rfl)
              ·refine rs 3 [] [] (by kernel_rfl) allP_nil ?_
               refine run_split 99 (!ok14) (.inr (by kernel_rfl)) (fun g3134 => ?_) (fun g3134 => ?_)
               ·refine rn 29 [(0, iS kind), (1, .sl l.length (fl l)), (4, .ptr 0 0), (5, iS i7), (6, .ptr 1 0), (96, bS false), (99, .gd true (bS true))] [(0, .row 26 [iS 0, iS 0]), (1, .row 36 (Enc.cells (ix l i7)))] 2 (by kernel_rfl) ?_
                refine rs 4 [] [] (by kernel_rfl) allP_nil ?_
                refine rf [(0, iS kind), (1, .sl l.length (fl l)), (4, .ptr 0 0), (5, iS i7), (103, bS (ix l i7).Ok)] [(0, .row 26 [iS 0, iS 0]), (1, .row 36 (Enc.cells (ix l i7)))] 2 (by kernel_rfl) ?_
                exact hK3123 () _ _ _ trivial (leSt_m [(0, 0), (1, 1)] [] (by first | ((try simp only [g3124, g3125, g3126, g3132, g3133, g3134]) <;> simp only [push_cast, seval]; done) | ((try simp only [g3124]); (try simp only [g3125]); (try simp only [g3126]); (try simp only [g3132]); (try simp only [g3133]); (try simp only [g3134]); simp only [push_cast, seval]; done) | (exfalso; clear h; simp_all; done)) (by first | ((try simp only [g3124, g3125, g3126, g3132, g3133, g3134]) <;> simp only [push_cast, seval]; done) | ((try simp only [g3124]); (try simp only [g3125]); (try simp only [g3126]); (try simp only [g3132]); (try simp only [g3133]); (try simp only [g3134]); simp only [push_cast, seval]; done) | (exfalso; clear h; simp_all; done)) rfl rfl rfl)
               ·refine rn 29 [(0, iS kind), (1, .sl l.length (fl l)), (4, .ptr 0 0), (5, iS i7), (6, .ptr 1 0), (96, bS false), (99, .gd true (bS false))] [(0, .row 26 [iS 0, iS 0]), (1, .row 36 (Enc.cells (ix l i7)))] 2 (by kernel_rfl) ?_
                refine rs 4 [] [] (by kernel_rfl) allP_nil ?_
                refine rf [(0, iS kind), (1, .sl l.length (fl l)), (4, .ptr 0 0), (5, iS i7), (103, bS false)] [(0, .row 26 [iS 0, iS 0]), (1, .row 36 (Enc.cells (ix l i7)))] 2 (by kernel_rfl) ?_
                exact hK3123 () _ _ _ trivial (leSt_m [(0, 0), (1, 1)] [] (by first | ((try simp only [g3124, g3125, g3126, g3132, g3133, g3134]) <;> simp only [push_cast, seval]; done) | ((try simp only [g3124]); (try simp only [g3125]); (try simp only [g3126]); (try simp only [g3132]); (try simp only [g3133]); (try simp only [g3134]); simp only [push_cast, seval]; done) | (exfalso; clear h; simp_all; done)) (by first | ((try simp only [g3124, g3125, g3126, g3132, g3133, g3134]) <;> simp only [push_cast, seval]; done) | ((try simp only [g3124]); (try simp only [g3125]); (try simp only [g3126]); (try simp only [g3132]); (try simp only [g3133]); (try simp only [g3134]); simp only [push_cast, seval]; done) | (exfalso; clear h; simp_all; done)) rfl rfl rfl)
             ·refine rs 9 [] [] (by kernel_rfl) allP_nil ?_
              refine run_split 99 (!ok14) (.inr (by kernel_rfl)) (fun g3135 => ?_) (fun g3135 => ?_)
              ·refine rs 4 [] [] (by kernel_rfl) allP_nil ?_
               refine rf [(0, iS kind), (1, .sl l.length (fl l)), (4, .ptr 0 0), (5, iS i7), (103, bS (ix l i7).Ok)] [(0, .row 26 [iS 0, iS 0]), (1, .row 36 (Enc.cells (ix l i7)))] 2 (by kernel_rfl) ?_
               exact hK3123 () _ _ _ trivial (leSt_m [(0, 0), (1, 1)] [] (by first | ((try simp only [g3124, g3125, g3126, g3132, g3135]) <;> simp only [push_cast, seval]; done) | ((try simp only [g3124]); (try simp only [g3125]); (try simp only [g3126]); (try simp only [g3132]); (try simp only [g3135]); simp only [push_cast, seval]; done) | (exfalso; clear h; simp_all; done)) (by first | ((try simp only [g3124, g3125, g3126, g3132, g3135]) <;> simp only [push_cast, seval]; done) | ((try simp only [g3124]); (try simp only [g3125]); (try simp only [g3126]); (try simp only [g3132]); (try simp only [g3135]); simp only [push_cast, seval]; done) | (exfalso; clear h; simp_all; done)) rfl rfl rfl)
              ·refine rs 4 [] [] (by kernel_rfl) allP_nil ?_
               refine rf [(0, iS kind), (1, .sl l.length (fl l)), (4, .ptr 0 0), (5, iS i7), (103, bS false)] [(0, .row 26 [iS 0, iS 0]), (1, .row 36 (Enc.cells (ix l i7)))] 2 (by kernel_rfl) ?_
               exact hK3123 () _ _ _ trivial (leSt_m [(0, 0), (1, 1)] [] (by first | ((try simp only [g3124, g3125, g3126, g3132, g3135]) <;> simp only [push_cast, seval]; done) | ((try simp only [g3124]); (try simp only [g3125]); (try simp only [g3126]); (try simp only [g3132]); (try simp only [g3135]); simp only [push_cast, seval]; done) | (exfalso; clear h; simp_all; done)) (by first | ((try simp only [g3124, g3125, g3126, g3132, g3135]) <;> simp only [push_cast, seval]; done) | ((try simp only [g3124]); (try simp only [g3125]); (try simp only [g3126]); (try simp only [g3132]); (try simp only [g3135]); simp only [push_cast, seval]; done) | (exfalso; clear h; simp_all; done)) rfl rfl rfl)
          ·refine rs 8 [] [] (by kernel_rfl) allP_nil ?_
           refine run_split 81 (!old14) (.inr (by kernel_rfl)) (fun g3136 => ?_) (fun g3136 => ?_)
           ·refine rs 6 [] [] (by kernel_rfl) allP_nil ?_
            refine run_split 87 ((ix l i7).Old != 0) (.inl (by kernel_rfl)) (fun g3137 => ?_) (fun g3137 => ?_)
            ·refine rn 17 [(0, iS kind), (1, .sl l.length (fl l)), (4, .ptr 0 0), (5, iS i7), (6, .ptr 1 0), (9, bS ret14), (10, bS ok14), (87, bS true)] [(0, .row 26 [iS 0, iS 0]), (1, .row 36 (Enc.cells (ix l i7)))] 2 (by kernel_rfl) ?_
             refine rs 16 [] [] (by kernel_rfl) allP_nil ?_
             refine rf [(0, iS kind), (1, .sl l.length (fl l)), (4, .ptr 0 0), (5, iS i7), (103, bS true)] [(0, .row 26 [iS 0, iS 0]), (1, .row 36 (Enc.cells (ix l i7)))] 2 (by kernel_rfl) ?_
             exact hK3123 () _ _ _ trivial (leSt_m [(0, 0), (1, 1)] [] (by first | ((try simp only [g3124, g3136, g3137]) <;> simp only [push_cast, seval]; done) | ((try simp only [g3124]); (try simp only [g3136]); (try simp only [g3137]); simp only [push_cast, seval]; done) | (exfalso; clear h; simp_all; done)) (by first | ((try simp only [g3124, g3136, g3137]) <;> simp only [push_cast, seval]; done) | ((try simp only [g3124]); (try simp only [g3136]); (try simp only [g3137]); simp only [push_cast, seval]; done) | (exfalso; clear h; simp_all; done)) rfl rfl rfl)
            ·refine rn 17 [(0, iS kind), (1, .sl l.length (fl l)), (4, .ptr 0 0), (5, iS i7), (6, .ptr 1 0), (9, bS ret14), (10, bS ok14), (87, bS false)] [(0, .row 26 [iS 0, iS 0]), (1, .row 36 (Enc.cells (ix l i7)))] 2 (by kernel_rfl) ?_
             refine rs 3 [] [] (by kernel_rfl) allP_nil ?_
             refine run_split 90 (!ret14) (.inr (by kernel_rfl)) (fun g3138 => ?_) (fun g3138 => ?_)
             ·refine rs 6 [] [] (by kernel_rfl) allP_nil ?_
              refine run_split 96 ((ix l i7).Ret != 0) (.inl (by kernel_rfl)) (fun g3139 => ?_) (fun g3139 => ?_)
              ·refine rs 7 [] [] (by kernel_rfl) allP_nil ?_
               refine rf [(0, iS kind), (1, .sl l.length (fl l)), (4, .ptr 0 0), (5, iS i7), (103, bS true)] [(0, .row 26 [iS 0, iS 0]), (1, .row 36 (Enc.cells (ix l i7)))] 2 (by kernel_rfl) ?_
               exact hK3123 () _ _ _ trivial (leSt_m [(0, 0), (1, 1)] [] (by first | ((try simp only [g3124, g3136, g3137, g3138, g3139]) <;> simp only [push_cast, seval]; done) | ((try simp only [g3124]); (try simp only [g3136]); (try simp only [g3137]); (try simp only [g3138]); (try simp only [g3139]); simp only [push_cast, seval]; done) | (exfalso; clear h; simp_all; done)) (by first | ((try simp only [g3124, g3136, g3137, g3138, g3139]) <;> simp only [push_cast, seval]; done) | ((try simp only [g3124]); (try simp only [g3136]); (try simp only [g3137]); (try simp only [g3138]); (try simp only [g3139]); simp only [push_cast, seval]; done) | (exfalso; clear h; simp_all; done)) rfl rfl rfl)
              ·refine rs 3 [] [] (by kernel_rfl) allP_nil ?_
               refine run_split 99 (!ok14) (.inr (by kernel_rfl)) (fun g3140 => ?_) (fun g3140 => ?_)
               ·refine rn 29 [(0, iS kind), (1, .sl l.length (fl l)), (4, .ptr 0 0), (5, iS i7), (6, .ptr 1 0), (96, bS false), (99, .gd true (bS true))] [(0, .row 26 [iS 0, iS 0]), (1, .row 36 (Enc.cells (ix l i7)))] 2 (by kernel_rfl) ?_
                refine rs 4 [] [] (by kernel_rfl) allP_nil ?_
                refine rf [(0, iS kind), (1, .sl l.length (fl l)), (4, .ptr 0 0), (5, iS i7), (103, bS (ix l i7).Ok)] [(0, .row 26 [iS 0, iS 0]), (1, .row 36 (Enc.cells (ix l i7)))] 2 (by kernel_rfl) ?_
                exact hK3123 () _ _ _ trivial (leSt_m [(0, 0), (1, 1)] [] (by first | ((try simp only [g3124, g3136, g3137, g3138, g3139, g3140]) <;> simp only [push_cast, seval]; done) | ((try simp only [g3124]); (try simp only [g3136]); (try simp only [g3137]); (try simp only [g3138]); (try simp only [g3139]); (try simp only [g3140]); simp only [push_cast, seval]; done) | (exfalso; clear h; simp_all; done)) (by first | ((try simp only [g3124, g3136, g3137, g3138, g3139, g3140]) <;> simp only [push_cast, seval]; done) | ((try simp only [g3124]); (try simp only [g3136]); (try simp only [g3137]); (try simp only [g3138]); (try simp only [g3139]); (try simp only [g3140]); simp only [push_cast, seval]; done) | (exfalso; clear h; simp_all; done)) rfl rfl rfl)
               ·refine rn 29 [(0, iS kind), (1, .sl l.length (fl l)), (4, .ptr 0 0), (5, iS i7), (6, .ptr 1 0), (96, bS false), (99, .gd true (bS false))] [(0, .row 26 [iS 0, iS 0]), (1, .row 36 (Enc.cells (ix l i7)))] 2 (by kernel_rfl) ?_
                refine rs 4 [] [] (by kernel_rfl) allP_nil ?_
                refine rf [(0, iS kind), (1, .sl l.length (fl l)), (4, .ptr 0 0), (5, iS i7), (103, bS false)] [(0, .row 26 [iS 0, iS 0]), (1, .row 36 (Enc.cells (ix l i7)))] 2 (by kernel_rfl) ?_
                exact hK3123 () _ _ _ trivial (leSt_m [(0, 0), (1, 1)] [] (by first | ((try simp only [g3124, g3136, g3137, g3138, g3139, g3140]) <;> simp only [push_cast, seval]; done) | ((try simp only [g3124]); (try simp only [g3136]); (try simp only [g3137]); (try simp only [g3138]); (try simp only [g3139]); (try simp only [g3140]); simp only [push_cast, seval]; done) | (exfalso; clear h; simp_all; done)) (by first | ((try simp only [g3124, g3136, g3137, g3138, g3139, g3140]) <;> simp only [push_cast, seval]; done) | ((try simp only [g3124]); (try simp only [g3136]); (try simp only [g3137]); (try simp only [g3138]); (try simp only [g3139]); (try simp only [g3140]); simp only [push_cast, seval]; done) | (exfalso; clear h; simp_all; done)) rfl rfl rfl)
             ·refine rs 9 [] [] (by kernel_rfl) allP_nil ?_
              refine run_split 99 (!ok14) (.inr (by kernel_rfl)) (fun g3141 => ?_) (fun g3141 => ?_)
              ·refine rs 4 [] [] (by kernel_rfl) allP_nil ?_
               refine rf [(0, iS kind), (1, .sl l.length (fl l)), (4, .ptr 0 0), (5, iS i7), (103, bS (ix l i7).Ok)] [(0, .row 26 [iS 0, iS 0]), (1, .row 36 (Enc.cells (ix l i7)))] 2 (by kernel_rfl) ?_
               exact hK3123 () _ _ _ trivial (leSt_m [(0, 0), (1, 1)] [] (by first | ((try simp only [g3124, g3136, g3137, g3138, g3141]) <;> simp only [push_cast, seval]; done) | ((try simp only [g3124]); (try simp only [g3136]); (try simp only [g3137]); (try simp only [g3138]); (try simp only [g3141]); simp only [push_cast, seval]; done) | (exfalso; clear h; simp_all; done)) (by first | ((try simp only [g3124, g3136, g3137, g3138, g3141]) <;> simp only [push_cast, seval]; done) | ((try simp only [g3124]); (try simp only [g3136]); (try simp only [g3137]); (try simp only [g3138]); (try simp only [g3141]); simp only [push_cast, seval]; done) | (exfalso; clear h; simp_all; done)) rfl rfl rfl)
              ·refine rs 4 [] [] (by kernel_rfl) allP_nil ?_
               refine rf [(0, iS kind), (1, .sl l.length (fl l)), (4, .ptr 0 0), (5, iS i7), (103, bS false)] [(0, .row 26 [iS 0, iS 0]), (1, .row 36 (Enc.cells (ix l i7)))] 2 (by kernel_rfl) ?_
               exact hK3123 () _ _ _ trivial (leSt_m [(0, 0), (1, 1)] [] (by first | ((try simp only [g3124, g3136, g3137, g3138, g3141]) <;> simp only [push_cast, seval]; done) | ((try simp only [g3124]); (try simp only [g3136]); (try simp only [g3137]); (try simp only [g3138]); (try simp only [g3141]); simp only [push_cast, seval]; done) | (exfalso; clear h; simp_all; done)) (by first | ((try simp only [g3124, g3136, g3137, g3138, g3141]) <;> simp only [push_cast, seval]; done) | ((try simp only [g3124]); (try simp only [g3136]); (try simp only [g3137]); (try simp only [g3138]); (try simp only [g3141]); simp only [push_cast, seval]; done) | (exfalso; clear h; simp_all; done)) rfl rfl rfl)
           ·refine rs 9 [] [] (by kernel_rfl) allP_nil ?_
            refine run_split 90 (!ret14) (.inr (by kernel_rfl)) (fun g3142 => ?_) (fun g3142 => ?_)
            ·refine rn 20 [(0, iS kind), (1, .sl l.length (fl l)), (4, .ptr 0 0), (5, iS i7), (6, .ptr 1 0), (10, bS ok14), (87, bS false), (90, .gd true (bS true))] [(0, .row 26 [iS 0, iS 0]), (1, .row 36 (Enc.cells (ix l i7)))] 2 (by kernel_rfl) ?_
             refine rs 6 [] [] (by kernel_rfl) allP_nil ?_
             refine run_split 96 ((ix l i7).Ret != 0) (.inl (by kernel_rfl)) (fun g3143 => ?_) (fun g3143 => ?_)
             ·refine rs 7 [] [] (by kernel_rfl) allP_nil ?_
              refine rf [(0, iS kind), (1, .sl l.length (fl l)), (4, .ptr 0 0), (5, iS i7), (103, bS true)] [(0, .row 26 [iS 0, iS 0]), (1, .row 36 (Enc.cells (ix l i7)))] 2 (by kernel_rfl) ?_
              exact hK3123 () _ _ _ trivial (leSt_m [(0, 0), (1, 1)] [] (by first | ((try simp only [g3124, g3136, g3142, g3143]) <;> simp only [push_cast, seval]; done) | ((try simp only [g3124]); (try simp only [g3136]); (try simp only [g3142]); (try simp only [g3143]); simp only [push_cast, seval]; done) | (exfalso; clear h; simp_all; done)) (by first | ((try simp only [g3124, g3136, g3142, g3143]) <;> simp only [push_cast, seval]; done) | ((try simp only [g3124]); (try simp only [g3136]); (try simp only [g3142]); (try simp only [g3143]); simp only [push_cast, seval]; done) | (exfalso; clear h; simp_all; done)) rfl rfl rfl)
             ·refine rs 3 [] [] (by kernel_rfl) allP_nil ?_
              refine run_split 99 (!ok14) (.inr (by kernel_rfl)) (fun g3144 => ?_) (fun g3144 => ?_)
              ·refine rs 4 [] [] (by kernel_rfl) allP_nil ?_
               refine rf [(0, iS kind), (1, .sl l.length (fl l)), (4, .ptr 0 0), (5, iS i7), (103, bS (ix l i7).Ok)] [(0, .row 26 [iS 0, iS 0]), (1, .row 36 (Enc.cells (ix l i7)))] 2 (by kernel_rfl) ?_
               exact hK3123 () _ _ _ trivial (leSt_m [(0, 0), (1, 1)] [] (by first | ((try simp only [g3124, g3136, g3142, g3143, g3144]) <;> simp only [push_cast, seval]; done) | ((try simp only [g3124]); (try simp only [g3136]); (try simp only [g3142]); (try simp only [g3143]); (try simp only [g3144]); simp only [push_cast, seval]; done) | (exfalso; clear h; simp_all; done)) (by first | ((try simp only [g3124, g3136, g3142, g3143, g3144]) <;> simp only [push_cast, seval]; done) | ((try simp only [g3124]); (try simp only [g3136]); (try simp only [g3142]); (try simp only [g3143]); (try simp only [g3144]); simp only [push_cast, seval]; done) | (exfalso; clear h; simp_all; done)) rfl rfl rfl)
              ·refine rs 4 [] [] (by kernel_rfl) allP_nil ?_
               refine rf [(0, iS kind), (1, .sl l.length (fl l)), (4, .ptr 0 0), (5, iS i7), (103, bS false)] [(0, .row 26 [iS 0, iS 0]), (1, .row 36 (Enc.cells (ix l i7)))] 2 (by kernel_rfl) ?_
               exact hK3123 () _ _ _ trivial (leSt_m [(0, 0), (1, 1)] [] (by first | ((try simp only [g3124, g3136, g3142, g3143, g3144]) <;> simp only [push_cast, seval]; done) | ((try simp only [g3124]); (try simp only [g3136]); (try simp only [g3142]); (try simp only [g3143]); (try simp only [g3144]); simp only [push_cast, seval]; done) | (exfalso; clear h; simp_all; done)) (by first | ((try simp only [g3124, g3136, g3142, g3143, g3144]) <;> simp only [push_cast, seval]; done) | ((try simp only [g3124]); (try simp only [g3136]); (try simp only [g3142]); (try simp only [g3143]); (try simp only [g3144]); simp only [push_cast, seval]; done) | (exfalso; clear h; simp_all; done)) rfl rfl rfl)
            ·refine rn 20 [(0, iS kind), (1, .sl l.length (fl l)), (4, .ptr 0 0), (5, iS i7), (6, .ptr 1 0), (10, bS ok14), (87, bS false), (90, .gd true (bS false))] [(0, .row 26 [iS 0, iS 0]), (1, .row 36 (Enc.cells (ix l i7)))] 2 (by kernel_rfl) ?_
             refine rs 9 [] [] (by kernel_rfl) allP_nil ?_
             refine run_split 99 (!ok14) (.inr (by kernel_rfl)) (fun g3145 => ?_) (fun g3145 => ?_)
             ·refine rs 4 [] [] (by kernel_rfl) allP_nil ?_
              refine rf [(0, iS kind), (1, .sl l.length (fl l)), (4, .ptr 0 0), (5, iS i7), (103, bS (ix l i7).Ok)] [(0, .row 26 [iS 0, iS 0]), (1, .row 36 (Enc.cells (ix l i7)))] 2 (by kernel_rfl) ?_
              exact hK3123 () _ _ _ trivial (leSt_m [(0, 0), (1, 1)] [] (by first | ((try simp only [g3124, g3136, g3142, g3145]) <;> simp only [push_cast, seval]; done) | ((try simp only [g3124]); (try simp only [g3136]); (try simp only [g3142]); (try simp only [g3145]); simp only [push_cast, seval]; done) | (exfalso; clear h; simp_all; done)) (by first | ((try simp only [g3124, g3136, g3142, g3145]) <;> simp only [push_cast, seval]; done) | ((try simp only [g3124]); (try simp only [g3136]); (try simp only [g3142]); (try simp only [g3145]); simp only [push_cast, seval]; done) | (exfalso; clear h; simp_all; done)) rfl rfl rfl)
             ·refine rs 4 [] [] (by kernel_rfl) allP_nil ?_
              refine rf [(0, iS kind), (1, .sl l.length (fl l)), (4, .ptr 0 0), (5, iS i7), (103, bS false)] [(0, .row 26 [iS 0, iS 0]), (1, .row 36 (Enc.cells (ix l i7)))] 2 (by kernel_rfl) ?_
              exact hK3123 () _ _ _ trivial (leSt_m [(0, 0), (1, 1)] [] (by first | ((try simp only [g3124, g3136, g3142, g3145]) <;> simp only [push_cast, seval]; done) | ((try simp only [g3124]); (try simp only [g3136]); (try simp only [g3142]); (try simp only [g3145]); simp only [push_cast, seval]; done) | (exfalso; clear h; simp_all; done)) (by first | ((try simp only [g3124, g3136, g3142, g3145]) <;> simp only [push_cast, seval]; done) | ((try simp only [g3124]); (try simp only [g3136]); (try simp only [g3142]); (try simp only [g3145]); simp only [push_cast, seval]; done) | (exfalso; clear h; simp_all; done)) rfl rfl rfl)
         ·dsimp only
          refine cond_sx h (by kernel_rfl) (fun g3148 h => ?_) (fun g3148 h => ?_)
          ·refine seq_np ?_
           refine reg_f ?_
           refine rs 1 [] [] (by kernel_rfl) allP_nil ?_
           obtain ⟨r3147, hr3147, h⟩ := bind_sx h
           refine run_call 12 [iS 5, iS i7] (some 105) (by kernel_rfl) ?_
           refine call_0 (taskmillref_F_spec 5 i7 r3147 hr3147) (by simp only [push_cast, seval]) (by simp only [push_cast, seval]) ?_
           refine back_f ?_
           refine rs 1 [] [] (by kernel_rfl) allP_nil ?_
           refine rf [(4, .ptr 0 0)] [(0, .row 26 (Enc.cells r3147)), (1, .row 36 (Enc.cells (ix l i7)))] 2 (by kernel_rfl) ?_
           refine wk_id ?_
           refine rt_cast ht2 ?_
           obtain ⟨r0, h, e0⟩ := map_sx h
           have e1 := hr2 r0 e0.symm
           subst r0
           obtain rfl := Option.some.inj h
           refine ret_at (.agg (Enc.cells r3147)) (by kernel_rfl) ?_
           exact ret_e [] [] (by simp only [push_cast, seval]) (by simp only [push_cast, seval]) rfl rfl rfl
          ·refine wk_id ?_
           refine wk_id ?_
           refine reg_f ?_
           refine rs 3 [] [] (by kernel_rfl) allP_nil ?_
           refine rf [(0, iS kind), (1, .sl l.length (fl l)), (4, .ptr 0 0), (5, iS (IntKind.i64.wrap (i7 + 1)))] [(0, .row 26 [iS 0, iS 0]), (1, .row 36 (Enc.cells (ix l i7)))] 2 (by kernel_rfl) ?_
           exact hn2 ((IntKind.i64.wrap (i7 + 1))) _ _ _ (Option.some.inj h).symm (leSt_m [(0, 0)] [] (by simp only [push_cast, seval]) (by simp only [push_cast, seval]) rfl rfl rfl)
    ·change R2 (.exit 0) _ _ _
     refine ex_cast hx2 (id := 0) ?_
     obtain ⟨r0, h, e0⟩ := map_sx h
     have e1 := hr2 r0 e0.symm
     subst r0
     refine wk_id ?_
     refine wk_id ?_
     refine seq_np ?_
     refine reg_f ?_
     refine rs 2 [] [] (by kernel_rfl) allP_nil ?_
     refine rf [(4, .ptr 0 0)] [(0, .row 26 [iS 0, iS 0])] 1 (by kernel_rfl) ?_
     refine wk_id ?_
     obtain rfl := Option.some.inj h
     refine ret_at (.agg [iS 0, iS 0]) (by kernel_rfl) ?_
     exact ret_e [] [] (by simp only [push_cast, seval]) (by simp only [push_cast, seval]) rfl rfl rfl

set_option maxRecDepth 100000 in
set_option maxHeartbeats 200000000 in
theorem taskmillref_Tells_spec (there : (List Int)) (c : GCall) (r : (List Int) × Bool) (h : taskmillref_Tells there c = some r) : SpecW Try.prog 15 [.sl there.length (fl there), .agg (Enc.cells c)] [] 0 (fun x h n => x = .tup [.sl r.1.length (fl r.1), bS r.2] ∧ h = [] ∧ n = 0) := by
 unfold taskmillref_Tells at h
 refine spec_of (draw_ok _) Try.func15 rfl (by decide) rfl (by kernel_rfl) ?_
 refine seq_np ?_
 refine reg_f ?_
 refine rs 3 [] [] (by kernel_rfl) allP_nil ?_
 refine rf [(0, .sl there.length (fl there)), (3, .ptr 0 0)] [(0, .row 36 (Enc.cells c))] 1 (by kernel_rfl) ?_
 refine wk_id ?_
 refine seq_np ?_
 refine seq_np ?_
 refine reg_f ?_
 refine rs 2 [] [] (by kernel_rfl) allP_nil ?_
 refine rf [(0, .sl there.length (fl there)), (3, .ptr 0 0), (8, iS c.Kind)] [(0, .row 36 (Enc.cells c))] 1 (by kernel_rfl) ?_
 refine wk_id ?_
 refine block_np ?_
 refine seq_np ?_
 refine reg_f ?_
 refine rs 2 [] [] (by kernel_rfl) allP_nil ?_
 refine rf [(0, .sl there.length (fl there)), (3, .ptr 0 0), (8, iS c.Kind), (9, bS (c.Kind == 1))] [(0, .row 36 (Enc.cells c))] 1 (by kernel_rfl) ?_
 refine wk_id ?_
 refine cond_sx h (by kernel_rfl) (fun g3360 h => ?_) (fun g3360 h => ?_)
 ·refine chk_sx h (fun g3313 h => ?_)
  refine chk_sx h (fun g3315 h => ?_)
  refine seq_np ?_
  refine reg_t ?_
  have k3312 : there.length * 8 ≤ 140737488355328 := by first | simpa only [Bool.and_eq_true, decide_eq_true_eq, bne_iff_ne, ne_eq] using g3313 | (simp at g3313 ⊢; omega)
  have k3314 : (there ++ ([c.Arg] : List Int)).length * 8 ≤ 140737488355328 := by first | simpa only [Bool.and_eq_true, decide_eq_true_eq, bne_iff_ne, ne_eq] using g3315 | (simp at g3315 ⊢; omega)
  refine rs 8 [none, some ⟨.own 2 0 there.length, [(2, .row 3 (fl there))], 3, []⟩, none, none, none, some ⟨.own 8 0 (there ++ ([c.Arg] : List Int)).length, [(8, .row 3 (fl (there ++ ([c.Arg] : List Int)))), (2, .dead)], 9, [2, 6]⟩] _ (by kernel_rfl) (allP_cons (ob_app (P := Try.prog) there ([c.Arg] : List Int) 1 8 rfl (appCells (fl ([c.Arg] : List Int)) 0 (([c.Arg] : List Int).length * 1)) ([c.Arg] : List Int).length (app_own ([c.Arg] : List Int) 1 rfl) rfl (0 + ([c.Arg] : List Int).length * 1 ≤ (fl ([c.Arg] : List Int)).length) (app_own_le ([c.Arg] : List Int) 1 rfl) 3 (by kernel_rfl) (by decide) k3314 2 8 [6]) (allP_cons (ob_app0 (P := Try.prog) there 1 8 rfl (fl there) there.length rfl rfl ((fl there).length = there.length * 1) (app_sl there 1 rfl) 3 (by kernel_rfl) (by decide) k3312 2 []) allP_nil)) ?_
  refine rt [(4, .own 8 0 (there ++ ([c.Arg] : List Int)).length), (5, bS true)] [(0, .row 36 (Enc.cells c)), (2, .dead), (6, .row 3 (fl ([c.Arg] : List Int))), (8, .row 3 (fl (there ++ ([c.Arg] : List Int))))] 12 follows (by kernel_rfl) ?_
  refine wk_id ?_
  obtain rfl := Option.some.inj h
  refine ret_at (.tup [.own 8 0 (there ++ ([c.Arg] : List Int)).length, bS true]) (by kernel_rfl) ?_
  exact ret_e [] [8] (by simp only [leS_frz, leS_cut, push_cast, seval]) (by simp only [leS_frz, leS_cut, push_cast, seval]) rfl rfl rfl
 ·refine seq_np ?_
  refine reg_f ?_
  refine rs 2 [] [] (by kernel_rfl) allP_nil ?_
  refine rf [(0, .sl there.length (fl there)), (3, .ptr 0 0), (17, bS (c.Kind == 2))] [(0, .row 36 (Enc.cells c))] 1 (by kernel_rfl) ?_
  refine wk_id ?_
  refine cond_sx h (by kernel_rfl) (fun g3359 h => ?_) (fun g3359 h => ?_)
  ·refine seq_np ?_
   refine seq_np ?_
   refine reg_f ?_
   refine rs 3 [] [] (by kernel_rfl) allP_nil ?_
   refine rf [(0, .sl there.length (fl there)), (3, .ptr 0 0), (21, bS (((there.length : Nat) : Int) == 0))] [(0, .row 36 (Enc.cells c))] 1 (by kernel_rfl) ?_
   refine wk_id ?_
   refine cond_sx h (by kernel_rfl) (fun g3328 h => ?_) (fun g3328 h => ?_)
   ·refine seq_np ?_
    refine reg_t ?_
    refine rs 6 [] [] (by kernel_rfl) allP_nil ?_
    refine rt [(4, .sl there.length (fl there)), (5, bS (!c.Ok))] [(0, .row 36 (Enc.cells c))] 7 follows (by kernel_rfl) ?_
    refine wk_id ?_
    obtain rfl := Option.some.inj h
    refine ret_at (.tup [.sl there.length (fl there), bS (!c.Ok)]) (by kernel_rfl) ?_
    exact ret_e [] [] (by simp only [push_cast, seval]) (by simp only [push_cast, seval]) rfl rfl rfl
   ·refine wk_id ?_
    refine chk_sx h (fun g3324 h => ?_)
    refine chk_sx h (fun g3327 h => ?_)
    refine seq_cut (A := Unit) (fun _ => ([(4, .sl (cut there (1 : Int) ((there.length : Nat) : Int)).length (fl (cut there (1 : Int) ((there.length : Nat) : Int)))), (5, bS (c.Ok && ((ix there (0 : Int)) == c.Ret)))], [(0, .row 36 (Enc.cells c))], 15)) (fun _ => True) (fun K3322 hK3322 => ?_) (fun _ _ => ?_)
    ·refine reg_t ?_
     have k3323 : 0 ≤ (1 : Int) ∧ (1 : Int) ≤ ((there.length : Nat) : Int) ∧ ((there.length : Nat) : Int) ≤ ((there.length : Nat) : Int) := by first | simpa only [Bool.and_eq_true, decide_eq_true_eq, bne_iff_ne, ne_eq] using g3324 | (simp at g3324 ⊢; omega)
     refine rs 5 [none, some ⟨.sl (cut there (1 : Int) ((there.length : Nat) : Int)).length (fl (cut there (1 : Int) ((there.length : Nat) : Int))), [], 2, []⟩] _ (by kernel_rfl) (allP_cons (ob_cut there (1 : Int) ((there.length : Nat) : Int) 1 2 rfl k3323) allP_nil) ?_
     refine run_split 30 c.Ok (.inl (by kernel_rfl)) (fun g3325 => ?_) (fun g3325 => ?_)
     ·have k3326 : 0 ≤ (0 : Int) ∧ (0 : Int) < ((there.length : Nat) : Int) := by have e := or_use g3327 (by first | ((try simp only [g3325]) <;> rfl) | ((try simp only [g3325]); rfl) | (exfalso; clear h; simp_all; done)); first | simpa only [Bool.and_eq_true, decide_eq_true_eq, bne_iff_ne, ne_eq] using e | (simp at e ⊢; omega)
      refine rs 9 [none, some ⟨.iptr (fl there) (((0 : Int)).toNat * 1), [], 7, []⟩, some ⟨iS (ix there (0 : Int)), [], 8, []⟩] _ (by kernel_rfl) (allP_cons (ob_ld there (0 : Int) 1 0 (((0 : Int)).toNat * 1) k3326 rfl (by decide) (by first | rfl | omega) (dflS Try.prog 3) (iS (ix there (0 : Int))) rfl 8 []) (allP_cons (ob_ix_l there 1 7 0 k3326) allP_nil)) ?_
      refine rt [(4, .sl (cut there (1 : Int) ((there.length : Nat) : Int)).length (fl (cut there (1 : Int) ((there.length : Nat) : Int)))), (5, bS ((ix there (0 : Int)) == c.Ret))] [(0, .row 36 (Enc.cells c))] 15 follows (by kernel_rfl) ?_
      exact hK3322 () _ _ _ trivial (leSt_m [(0, 0)] [] (by (try simp only [g3325]) <;> simp only [push_cast, seval]) (by (try simp only [g3325]) <;> simp only [push_cast, seval]) rfl rfl rfl)
     ·refine rs 9 [] [] (by kernel_rfl) allP_nil ?_
      refine rt [(4, .sl (cut there (1 : Int) ((there.length : Nat) : Int)).length (fl (cut there (1 : Int) ((there.length : Nat) : Int)))), (5, bS false)] [(0, .row 36 (Enc.cells c))] 15 follows (by kernel_rfl) ?_
      exact hK3322 () _ _ _ trivial (leSt_m [(0, 0)] [] (by (try simp only [g3325]) <;> simp only [push_cast, seval]) (by (try simp only [g3325]) <;> simp only [push_cast, seval]) rfl rfl rfl)
    ·dsimp only
     obtain rfl := Option.some.inj h
     refine ret_at (.tup [.sl (cut there (1 : Int) ((there.length : Nat) : Int)).length (fl (cut there (1 : Int) ((there.length : Nat) : Int))), bS (c.Ok && ((ix there (0 : Int)) == c.Ret))]) (by kernel_rfl) ?_
     exact ret_e [] [] (by simp only [push_cast, seval]) (by simp only [push_cast, seval]) rfl rfl rfl
  ·refine wk_id ?_
   refine wk_id ?_
   refine seq_np ?_
   refine reg_f ?_
   refine rs 1 [] [] (by kernel_rfl) allP_nil ?_
   refine rf [(0, .sl there.length (fl there)), (3, .ptr 0 0), (6, iS 0)] [(0, .row 36 (Enc.cells c))] 1 (by kernel_rfl) ?_
   refine wk_id ?_
   refine seq_cut (A := Int) (fun a => ([(0, .sl there.length (fl there)), (3, .ptr 0 0), (6, iS a)], [(0, .row 36 (Enc.cells c))], 1)) (fun a => (taskmillref_Tells_j2 there c a) = some r) (fun K3333 hK3333 => ?_) ?_
   ·refine seq_np ?_
    refine reg_f ?_
    refine rs 3 [] [] (by kernel_rfl) allP_nil ?_
    refine rf [(0, .sl there.length (fl there)), (3, .ptr 0 0), (6, iS 0), (40, bS (decide ((0 : Int) < ((there.length : Nat) : Int))))] [(0, .row 36 (Enc.cells c))] 1 (by kernel_rfl) ?_
    refine wk_id ?_
    refine cond_sx h (by kernel_rfl) (fun g3338 h => ?_) (fun g3338 h => ?_)
    ·refine chk_sx h (fun g3337 h => ?_)
     refine reg_f ?_
     have k3336 : 0 ≤ (0 : Int) ∧ (0 : Int) < ((there.length : Nat) : Int) := by first | simpa only [Bool.and_eq_true, decide_eq_true_eq, bne_iff_ne, ne_eq] using g3337 | (simp at g3337 ⊢; omega)
     refine rs 4 [none, some ⟨.iptr (fl there) (((0 : Int)).toNat * 1), [], 1, []⟩, some ⟨iS (ix there (0 : Int)), [], 1, []⟩] _ (by kernel_rfl) (allP_cons (ob_ld there (0 : Int) 1 0 (((0 : Int)).toNat * 1) k3336 rfl (by decide) (by first | rfl | omega) (dflS Try.prog 3) (iS (ix there (0 : Int))) rfl 1 []) (allP_cons (ob_ix_l there 1 1 0 k3336) allP_nil)) ?_
     refine rf [(0, .sl there.length (fl there)), (3, .ptr 0 0), (6, iS (ix there (0 : Int)))] [(0, .row 36 (Enc.cells c))] 1 (by kernel_rfl) ?_
     exact hK3333 ((ix there (0 : Int))) _ _ _ h (leSt_m [(0, 0)] [] (by simp only [push_cast, seval]) (by simp only [push_cast, seval]) rfl rfl rfl)
    ·exact hK3333 (0) _ _ _ h (leSt_m [(0, 0)] [] (by simp only [push_cast, seval]) (by simp only [push_cast, seval]) rfl rfl rfl)
   ·rintro n2 h
    try dsimp only at h ⊢
    unfold taskmillref_Tells_j2 at h
    refine seq_np ?_
    refine seq_np ?_
    refine reg_f ?_
    refine rs 2 [] [] (by kernel_rfl) allP_nil ?_
    refine rf [(0, .sl there.length (fl there)), (3, .ptr 0 0), (6, iS n2), (45, iS c.Kind)] [(0, .row 36 (Enc.cells c))] 1 (by kernel_rfl) ?_
    refine wk_id ?_
    refine block_cut (A := Int) (fun a => ([(6, iS a)], [], 0)) (fun a => (taskmillref_Tells_j1 a) = some r) (fun K3352 hK3352 => ?_) ?_
    ·refine seq_np ?_
     refine reg_f ?_
     refine rs 2 [] [] (by kernel_rfl) allP_nil ?_
     refine rf [(0, .sl there.length (fl there)), (3, .ptr 0 0), (6, iS n2), (45, iS c.Kind), (46, bS (c.Kind == 3))] [(0, .row 36 (Enc.cells c))] 1 (by kernel_rfl) ?_
     refine wk_id ?_
     refine cond_sx h (by kernel_rfl) (fun g3358 h => ?_) (fun g3358 h => ?_)
     ·refine reg_f ?_
      refine rs 3 [] [] (by kernel_rfl) allP_nil ?_
      refine rf [(6, iS c.Arg)] [(0, .row 36 (Enc.cells c))] 1 (by kernel_rfl) ?_
      exact hK3352 (c.Arg) _ _ _ h (leSt_m [] [] (by simp only [push_cast, seval]) (by simp only [push_cast, seval]) rfl rfl rfl)
     ·refine seq_np ?_
      refine reg_f ?_
      refine rs 2 [] [] (by kernel_rfl) allP_nil ?_
      refine rf [(0, .sl there.length (fl there)), (3, .ptr 0 0), (6, iS n2), (45, iS c.Kind), (50, bS (c.Kind == 4))] [(0, .row 36 (Enc.cells c))] 1 (by kernel_rfl) ?_
      refine wk_id ?_
      refine cond_sx h (by kernel_rfl) (fun g3357 h => ?_) (fun g3357 h => ?_)
      ·refine seq_np ?_
       refine reg_t ?_
       refine rs 7 [] [] (by kernel_rfl) allP_nil ?_
       refine rt [(4, .sl there.length (fl there)), (5, bS (n2 == c.Ret))] [(0, .row 36 (Enc.cells c))] 8 follows (by kernel_rfl) ?_
       refine wk_id ?_
       obtain rfl := Option.some.inj h
       refine ret_at (.tup [.sl there.length (fl there), bS (n2 == c.Ret)]) (by kernel_rfl) ?_
       exact ret_e [] [] (by simp only [push_cast, seval]) (by simp only [push_cast, seval]) rfl rfl rfl
      ·refine seq_np ?_
       refine reg_f ?_
       refine rs 2 [] [] (by kernel_rfl) allP_nil ?_
       refine rf [(0, .sl there.length (fl there)), (3, .ptr 0 0), (6, iS n2), (45, iS c.Kind), (57, bS (c.Kind == 5))] [(0, .row 36 (Enc.cells c))] 1 (by kernel_rfl) ?_
       refine wk_id ?_
       refine cond_sx h (by kernel_rfl) (fun g3356 h => ?_) (fun g3356 h => ?_)
       ·refine seq_np ?_
        refine reg_f ?_
        refine rs 5 [] [] (by kernel_rfl) allP_nil ?_
        refine rf [(3, .ptr 0 0), (6, iS (IntKind.i64.wrap (n2 + c.Arg)))] [(0, .row 36 (Enc.cells c))] 1 (by kernel_rfl) ?_
        refine wk_id ?_
        refine seq_np ?_
        refine reg_t ?_
        refine rs 8 [] [] (by kernel_rfl) allP_nil ?_
        refine rt [(4, .own 2 0 ([(IntKind.i64.wrap (n2 + c.Arg))] : List Int).length), (5, bS ((IntKind.i64.wrap (n2 + c.Arg)) == c.Ret))] [(0, .row 36 (Enc.cells c)), (2, .row 3 (fl ([(IntKind.i64.wrap (n2 + c.Arg))] : List Int)))] 10 follows (by kernel_rfl) ?_
        refine wk_id ?_
        obtain rfl := Option.some.inj h
        refine ret_at (.tup [.own 2 0 ([(IntKind.i64.wrap (n2 + c.Arg))] : List Int).length, bS ((IntKind.i64.wrap (n2 + c.Arg)) == c.Ret)]) (by kernel_rfl) ?_
        exact ret_e [] [2] (by simp only [leS_frz, leS_cut, push_cast, seval]) (by simp only [leS_frz, leS_cut, push_cast, seval]) rfl rfl rfl
       ·refine seq_np ?_
        refine reg_f ?_
        refine rs 2 [] [] (by kernel_rfl) allP_nil ?_
        refine rf [(0, .sl there.length (fl there)), (3, .ptr 0 0), (6, iS n2), (69, bS (c.Kind == 6))] [(0, .row 36 (Enc.cells c))] 1 (by kernel_rfl) ?_
        refine wk_id ?_
        refine cond_sx h (by kernel_rfl) (fun g3355 h => ?_) (fun g3355 h => ?_)
        ·refine seq_np ?_
         refine seq_np ?_
         refine reg_f ?_
         refine rs 4 [] [] (by kernel_rfl) allP_nil ?_
         refine rf [(0, .sl there.length (fl there)), (3, .ptr 0 0), (74, bS (n2 != c.Old))] [(0, .row 36 (Enc.cells c))] 1 (by kernel_rfl) ?_
         refine wk_id ?_
         refine cond_sx h (by kernel_rfl) (fun g3354 h => ?_) (fun g3354 h => ?_)
         ·refine seq_np ?_
          refine reg_t ?_
          refine rs 6 [] [] (by kernel_rfl) allP_nil ?_
          refine rt [(4, .sl there.length (fl there)), (5, bS (!c.Ok))] [(0, .row 36 (Enc.cells c))] 7 follows (by kernel_rfl) ?_
          refine wk_id ?_
          obtain rfl := Option.some.inj h
          refine ret_at (.tup [.sl there.length (fl there), bS (!c.Ok)]) (by kernel_rfl) ?_
          exact ret_e [] [] (by simp only [push_cast, seval]) (by simp only [push_cast, seval]) rfl rfl rfl
         ·refine wk_id ?_
          refine seq_np ?_
          refine reg_t ?_
          refine rs 7 [] [] (by kernel_rfl) allP_nil ?_
          refine rt [(4, .own 3 0 ([c.Arg] : List Int).length), (5, bS c.Ok)] [(0, .row 36 (Enc.cells c)), (3, .row 3 (fl ([c.Arg] : List Int)))] 9 follows (by kernel_rfl) ?_
          refine wk_id ?_
          obtain rfl := Option.some.inj h
          refine ret_at (.tup [.own 3 0 ([c.Arg] : List Int).length, bS c.Ok]) (by kernel_rfl) ?_
          exact ret_e [] [3] (by simp only [leS_frz, leS_cut, push_cast, seval]) (by simp only [leS_frz, leS_cut, push_cast, seval]) rfl rfl rfl
        ·exact hK3352 (n2) _ _ _ h (leSt_m [] [] (by simp only [push_cast, seval]) (by simp only [push_cast, seval]) rfl rfl rfl)
    ·rintro n4 h
     try dsimp only at h ⊢
     unfold taskmillref_Tells_j1 at h
     refine wk_id ?_
     refine seq_np ?_
     refine reg_f ?_
     refine rs 4 [] [] (by kernel_rfl) allP_nil ?_
     refine rf [(4, .own 0 0 ([n4] : List Int).length), (5, bS true)] [(0, .row 3 (fl ([n4] : List Int)))] 1 (by kernel_rfl) ?_
     refine wk_id ?_
     obtain rfl := Option.some.inj h
     refine ret_at (.tup [.own 0 0 ([n4] : List Int).length, bS true]) (by kernel_rfl) ?_
     exact ret_e [] [0] (by simp only [leS_frz, leS_cut, push_cast, seval]) (by simp only [leS_frz, leS_cut, push_cast, seval]) rfl rfl rfl

end Go.Proofs.Ytopomedppninoaa
