/-
 What laws of the chapter linear compute, and lemmas on it.
 No conditions.
-/
import Derived.Test.YtopomedppninoaalinearWLinearPlays1
set_option linter.unusedSimpArgs false
set_option linter.unusedVariables false
namespace Go.Proofs.Ytopomedppninoaa
open Go Go.Sx
attribute [local irreducible] Wk RunAt
set_option maxRecDepth 100000 in
set_option maxHeartbeats 200000000 in
theorem taskmillref_CallsFault_spec (kind : Int) (l : (List GCall)) (r : Fault) (h : taskmillref_CallsFault kind l = some r) : SpecW Try.prog 11 [iS kind, .sl l.length (fl l)] [] 0 (fun x h n => x = .agg (Enc.cells r) ∧ h = [] ∧ n = 0) := by
 unfold taskmillref_CallsFault at h
 refine spec_of (draw_ok _) Try.func11 rfl (by decide) rfl (by kernel_rfl) ?_
 refine seq_np ?_
 refine reg_f ?_
 refine rs 1 [] [] (by kernel_rfl) allP_nil ?_
 refine rf [(0, iS kind), (1, .sl l.length (fl l)), (4, .ptr 0 0)] [(0, .row 26 [iS 0, iS 0])] 1 (by kernel_rfl) ?_
 refine wk_id ?_
 refine seq_np ?_
 refine seq_np ?_
 refine reg_f ?_
 refine rs 3 [] [] (by kernel_rfl) allP_nil ?_
 refine rf [(0, iS kind), (1, .sl l.length (fl l)), (4, .ptr 0 0), (13, bS (decide ((14 : Int) < ((l.length : Nat) : Int))))] [(0, .row 26 [iS 0, iS 0])] 1 (by kernel_rfl) ?_
 refine wk_id ?_
 refine cond_sx h (by kernel_rfl) (fun g3153 h => ?_) (fun g3153 h => ?_)
 ·refine seq_np ?_
  refine reg_f ?_
  obtain ⟨r2599, hr2599, h⟩ := bind_sx h
  refine run_call 12 [iS 2, iS 0] (some 14) (by kernel_rfl) ?_
  refine call_0 (taskmillref_F_spec 2 0 r2599 hr2599) (by simp only [push_cast, seval]) (by simp only [push_cast, seval]) ?_
  refine back_f ?_
  refine rs 1 [] [] (by kernel_rfl) allP_nil ?_
  refine rf [(4, .ptr 0 0)] [(0, .row 26 (Enc.cells r2599))] 1 (by kernel_rfl) ?_
  refine wk_id ?_
  obtain rfl := Option.some.inj h
  refine ret_at (.agg (Enc.cells r2599)) (by kernel_rfl) ?_
  exact ret_e [] [] (by simp only [push_cast, seval]) (by simp only [push_cast, seval]) rfl rfl rfl
 ·refine wk_id ?_
  refine seq_np ?_
  refine seq_cut (A := Unit) (fun _ => ([(0, iS kind), (1, .sl l.length (fl l)), (4, .ptr 0 0), (20, bS ((decide (kind < 1)) || (decide ((3 : Int) < kind))))], [(0, .row 26 [iS 0, iS 0])], 1)) (fun _ => True) (fun K2604 hK2604 => ?_) (fun _ _ => ?_)
  ·refine reg_f ?_
   refine rs 3 [] [] (by kernel_rfl) allP_nil ?_
   refine run_split 17 (decide (kind < 1)) (.inl (by kernel_rfl)) (fun g2605 => ?_) (fun g2605 => ?_)
   ·refine rs 3 [] [] (by kernel_rfl) allP_nil ?_
    refine rf [(0, iS kind), (1, .sl l.length (fl l)), (4, .ptr 0 0), (20, bS true)] [(0, .row 26 [iS 0, iS 0])] 1 (by kernel_rfl) ?_
    exact hK2604 () _ _ _ trivial (leSt_m [(0, 0)] [] (by (try simp only [g2605]) <;> simp only [push_cast, seval]) (by (try simp only [g2605]) <;> simp only [push_cast, seval]) rfl rfl rfl)
   ·refine rs 3 [] [] (by kernel_rfl) allP_nil ?_
    refine rf [(0, iS kind), (1, .sl l.length (fl l)), (4, .ptr 0 0), (20, bS (decide ((3 : Int) < kind)))] [(0, .row 26 [iS 0, iS 0])] 1 (by kernel_rfl) ?_
    exact hK2604 () _ _ _ trivial (leSt_m [(0, 0)] [] (by (try simp only [g2605]) <;> simp only [push_cast, seval]) (by (try simp only [g2605]) <;> simp only [push_cast, seval]) rfl rfl rfl)
  ·dsimp only
   refine cond_sx h (by kernel_rfl) (fun g3152 h => ?_) (fun g3152 h => ?_)
   ·refine seq_np ?_
    refine reg_f ?_
    obtain ⟨r2607, hr2607, h⟩ := bind_sx h
    refine run_call 12 [iS 4, iS (-1)] (some 21) (by kernel_rfl) ?_
    refine call_0 (taskmillref_F_spec 4 (-1) r2607 hr2607) (by simp only [push_cast, seval]) (by simp only [push_cast, seval]) ?_
    refine back_f ?_
    refine rs 1 [] [] (by kernel_rfl) allP_nil ?_
    refine rf [(4, .ptr 0 0)] [(0, .row 26 (Enc.cells r2607))] 1 (by kernel_rfl) ?_
    refine wk_id ?_
    obtain rfl := Option.some.inj h
    refine ret_at (.agg (Enc.cells r2607)) (by kernel_rfl) ?_
    exact ret_e [] [] (by simp only [push_cast, seval]) (by simp only [push_cast, seval]) rfl rfl rfl
   ·refine wk_id ?_
    refine seq_np ?_
    refine seq_np ?_
    refine reg_f ?_
    refine rs 1 [] [] (by kernel_rfl) allP_nil ?_
    refine rf [(0, iS kind), (1, .sl l.length (fl l)), (4, .ptr 0 0), (5, iS 0)] [(0, .row 26 [iS 0, iS 0])] 1 (by kernel_rfl) ?_
    refine wk_id ?_
    refine block_np ?_
    refine loop_sx (S := Int) (fun a => ([(0, iS kind), (1, .sl l.length (fl l)), (4, .ptr 0 0), (5, iS a)], [(0, .row 26 [iS 0, iS 0])], 1)) h (leSt_m [(0, 0)] [] (by simp only [push_cast, seval]) (by simp only [push_cast, seval]) rfl rfl rfl) ?_
    rintro i7 o2 R2 h hr2 hn2 hx2 ht2
    try dsimp only at h hn2 ⊢
    unfold taskmillref_CallsFault_l1 at h
    try dsimp only at h
    refine seq_np ?_
    refine seq_np ?_
    refine reg_f ?_
    refine rs 4 [] [] (by kernel_rfl) allP_nil ?_
    refine rf [(0, iS kind), (1, .sl l.length (fl l)), (4, .ptr 0 0), (5, iS i7), (25, bS (decide (i7 < ((l.length : Nat) : Int))))] [(0, .row 26 [iS 0, iS 0])] 1 (by kernel_rfl) ?_
    refine wk_id ?_
    refine cond_sx h (by kernel_rfl) (fun g3151 h => ?_) (fun g3151 h => ?_)
    ·refine wk_id ?_
     refine seq_np ?_
     refine block_np ?_
     refine chk_sx h (fun g3053 h => ?_)
     refine seq_np ?_
     refine reg_f ?_
     have k3052 : 0 ≤ i7 ∧ i7 < ((l.length : Nat) : Int) := by first | simpa only [Bool.and_eq_true, decide_eq_true_eq, bne_iff_ne, ne_eq] using g3053 | (simp at g3053 ⊢; omega)
     refine rs 6 [none, none, some ⟨.iptr (fl l) ((i7).toNat * 7), [], 1, []⟩, some ⟨.agg (Enc.cells (ix l i7)), [], 1, []⟩] _ (by kernel_rfl) (allP_cons (ob_ldw l i7 7 ((i7).toNat * 7) k3052 rfl (by first | rfl | omega) (Enc.cells (ix l i7)) rfl 1 []) (allP_cons (ob_ix_l l 7 1 i7 k3052) allP_nil)) ?_
     refine rf [(0, iS kind), (1, .sl l.length (fl l)), (4, .ptr 0 0), (5, iS i7), (6, .ptr 1 0)] [(0, .row 26 [iS 0, iS 0]), (1, .row 36 (Enc.cells (ix l i7)))] 2 (by kernel_rfl) ?_
     refine wk_id ?_
     refine seq_np ?_
     refine seq_np ?_
     refine reg_f ?_
     refine rs 2 [] [] (by kernel_rfl) allP_nil ?_
     obtain ⟨r3058, hr3058, h⟩ := bind_sx h
     refine run_call 23 [iS (ix l i7).Kind] (some 34) (by kernel_rfl) ?_
     refine call_0 (taskmillref_KindOf_spec (ix l i7).Kind r3058 hr3058) (by simp only [push_cast, seval]) (by simp only [push_cast, seval]) ?_
     refine back_f ?_
     refine rs 2 [] [] (by kernel_rfl) allP_nil ?_
     refine rf [(0, iS kind), (1, .sl l.length (fl l)), (4, .ptr 0 0), (5, iS i7), (6, .ptr 1 0), (36, bS (r3058 != kind))] [(0, .row 26 [iS 0, iS 0]), (1, .row 36 (Enc.cells (ix l i7)))] 2 (by kernel_rfl) ?_
     refine wk_id ?_
     refine cond_sx h (by kernel_rfl) (fun g3150 h => ?_) (fun g3150 h => ?_)
     ·refine seq_np ?_
      refine reg_f ?_
      refine rs 1 [] [] (by kernel_rfl) allP_nil ?_
      obtain ⟨r3060, hr3060, h⟩ := bind_sx h
      refine run_call 12 [iS 4, iS i7] (some 38) (by kernel_rfl) ?_
      refine call_0 (taskmillref_F_spec 4 i7 r3060 hr3060) (by simp only [push_cast, seval]) (by simp only [push_cast, seval]) ?_
      refine back_f ?_
      refine rs 1 [] [] (by kernel_rfl) allP_nil ?_
      refine rf [(4, .ptr 0 0)] [(0, .row 26 (Enc.cells r3060)), (1, .row 36 (Enc.cells (ix l i7)))] 2 (by kernel_rfl) ?_
      refine wk_id ?_
      refine rt_cast ht2 ?_
      obtain ⟨r0, h, e0⟩ := map_sx h
      have e1 := hr2 r0 e0.symm
      subst r0
      obtain rfl := Option.some.inj h
      refine ret_at (.agg (Enc.cells r3060)) (by kernel_rfl) ?_
      exact ret_e [] [] (by simp only [push_cast, seval]) (by simp only [push_cast, seval]) rfl rfl rfl
     ·refine wk_id ?_
      refine seq_np ?_
      refine seq_cut (A := Unit) (fun _ => ([(0, iS kind), (1, .sl l.length (fl l)), (4, .ptr 0 0), (5, iS i7), (6, .ptr 1 0), (53, bS ((decide ((ix l i7).Begin < 0)) || ((decide ((ix l i7).End ≤ (ix l i7).Begin)) || (decide ((1000000000 : Int) < (ix l i7).End)))))], [(0, .row 26 [iS 0, iS 0]), (1, .row 36 (Enc.cells (ix l i7)))], 2)) (fun _ => True) (fun K3067 hK3067 => ?_) (fun _ _ => ?_)
      ·refine reg_f ?_
       refine rs 4 [] [] (by kernel_rfl) allP_nil ?_
       refine run_split 42 (decide ((ix l i7).Begin < 0)) (.inl (by kernel_rfl)) (fun g3068 => ?_) (fun g3068 => ?_)
       ·refine rs 11 [] [] (by kernel_rfl) allP_nil ?_
        refine rf [(0, iS kind), (1, .sl l.length (fl l)), (4, .ptr 0 0), (5, iS i7), (6, .ptr 1 0), (53, bS true)] [(0, .row 26 [iS 0, iS 0]), (1, .row 36 (Enc.cells (ix l i7)))] 2 (by kernel_rfl) ?_
        exact hK3067 () _ _ _ trivial (leSt_m [(0, 0), (1, 1)] [] (by (try simp only [g3068]) <;> simp only [push_cast, seval]) (by (try simp only [g3068]) <;> simp only [push_cast, seval]) rfl rfl rfl)
       ·refine rs 7 [] [] (by kernel_rfl) allP_nil ?_
        refine run_split 49 (decide ((ix l i7).End ≤ (ix l i7).Begin)) (.inl (by kernel_rfl)) (fun g3069 => ?_) (fun g3069 => ?_)
        ·refine rs 4 [] [] (by kernel_rfl) allP_nil ?_
         refine rf [(0, iS kind), (1, .sl l.length (fl l)), (4, .ptr 0 0), (5, iS i7), (6, .ptr 1 0), (53, bS true)] [(0, .row 26 [iS 0, iS 0]), (1, .row 36 (Enc.cells (ix l i7)))] 2 (by kernel_rfl) ?_
         exact hK3067 () _ _ _ trivial (leSt_m [(0, 0), (1, 1)] [] (by first | ((try simp only [g3068, g3069]) <;> simp only [push_cast, seval]; done) | ((try simp only [g3068]); (try simp only [g3069]); simp only [push_cast, seval]; done) | (exfalso; clear h; simp_all; done)) (by first | ((try simp only [g3068, g3069]) <;> simp only [push_cast, seval]; done) | ((try simp only [g3068]); (try simp only [g3069]); simp only [push_cast, seval]; done) | (exfalso; clear h; simp_all; done)) rfl rfl rfl)
        ·refine rs 4 [] [] (by kernel_rfl) allP_nil ?_
         refine rf [(0, iS kind), (1, .sl l.length (fl l)), (4, .ptr 0 0), (5, iS i7), (6, .ptr 1 0), (53, bS (decide ((1000000000 : Int) < (ix l i7).End)))] [(0, .row 26 [iS 0, iS 0]), (1, .row 36 (Enc.cells (ix l i7)))] 2 (by kernel_rfl) ?_
         exact hK3067 () _ _ _ trivial (leSt_m [(0, 0), (1, 1)] [] (by first | ((try simp only [g3068, g3069]) <;> simp only [push_cast, seval]; done) | ((try simp only [g3068]); (try simp only [g3069]); simp only [push_cast, seval]; done) | (exfalso; clear h; simp_all; done)) (by first | ((try simp only [g3068, g3069]) <;> simp only [push_cast, seval]; done) | ((try simp only [g3068]); (try simp only [g3069]); simp only [push_cast, seval]; done) | (exfalso; clear h; simp_all; done)) rfl rfl rfl)
      ·dsimp only
       refine cond_sx h (by kernel_rfl) (fun g3149 h => ?_) (fun g3149 h => ?_)
       ·refine seq_np ?_
        refine reg_f ?_
        refine rs 1 [] [] (by kernel_rfl) allP_nil ?_
        obtain ⟨r3071, hr3071, h⟩ := bind_sx h
        refine run_call 12 [iS 3, iS i7] (some 55) (by kernel_rfl) ?_
        refine call_0 (taskmillref_F_spec 3 i7 r3071 hr3071) (by simp only [push_cast, seval]) (by simp only [push_cast, seval]) ?_
        refine back_f ?_
        refine rs 1 [] [] (by kernel_rfl) allP_nil ?_
        refine rf [(4, .ptr 0 0)] [(0, .row 26 (Enc.cells r3071)), (1, .row 36 (Enc.cells (ix l i7)))] 2 (by kernel_rfl) ?_
        refine wk_id ?_
        refine rt_cast ht2 ?_
        obtain ⟨r0, h, e0⟩ := map_sx h
        have e1 := hr2 r0 e0.symm
        subst r0
        obtain rfl := Option.some.inj h
        refine ret_at (.agg (Enc.cells r3071)) (by kernel_rfl) ?_
        exact ret_e [] [] (by simp only [push_cast, seval]) (by simp only [push_cast, seval]) rfl rfl rfl
       ·refine wk_id ?_
        refine seq_np ?_
        refine reg_f ?_
        refine rs 4 [] [] (by kernel_rfl) allP_nil ?_
        refine rf [(0, iS kind), (1, .sl l.length (fl l)), (4, .ptr 0 0), (5, iS i7), (6, .ptr 1 0), (7, bS false), (8, bS false), (9, bS false), (10, bS false)] [(0, .row 26 [iS 0, iS 0]), (1, .row 36 (Enc.cells (ix l i7)))] 2 (by kernel_rfl) ?_
        refine wk_id ?_
        refine seq_np ?_
        refine seq_np ?_
        refine reg_f ?_
        refine rs 2 [] [] (by kernel_rfl) allP_nil ?_
        refine rf [(0, iS kind), (1, .sl l.length (fl l)), (4, .ptr 0 0), (5, iS i7), (6, .ptr 1 0), (7, bS false), (8, bS false), (9, bS false), (10, bS false), (57, iS (ix l i7).Kind)] [(0, .row 26 [iS 0, iS 0]), (1, .row 36 (Enc.cells (ix l i7)))] 2 (by kernel_rfl) ?_
        refine wk_id ?_
        refine block_cut (A := Bool × Bool × Bool × Bool) (fun a => ([(0, iS kind), (1, .sl l.length (fl l)), (4, .ptr 0 0), (5, iS i7), (6, .ptr 1 0), (7, bS a.1), (8, bS a.2.1), (9, bS a.2.2.1), (10, bS a.2.2.2)], [(0, .row 26 [iS 0, iS 0]), (1, .row 36 (Enc.cells (ix l i7)))], 2)) (fun a => (taskmillref_CallsFault_j1 kind l i7 a.1 a.2.1 a.2.2.1 a.2.2.2) = some o2) (fun K3091 hK3091 => ?_) ?_
        ·refine seq_cut (A := Bool) (fun a => ([(0, iS kind), (1, .sl l.length (fl l)), (4, .ptr 0 0), (5, iS i7), (6, .ptr 1 0), (7, bS false), (8, bS false), (9, bS false), (10, bS false), (57, iS (ix l i7).Kind), (58, bS a)], [(0, .row 26 [iS 0, iS 0]), (1, .row 36 (Enc.cells (ix l i7)))], 2)) (fun a => (taskmillref_CallsFault_j2 kind l i7 a) = some o2) (fun K3094 hK3094 => ?_) ?_
         ·refine seq_np ?_
          refine reg_f ?_
          refine rs 2 [] [] (by kernel_rfl) allP_nil ?_
          refine rf [(0, iS kind), (1, .sl l.length (fl l)), (4, .ptr 0 0), (5, iS i7), (6, .ptr 1 0), (7, bS false), (8, bS false), (9, bS false), (10, bS false), (57, iS (ix l i7).Kind), (58, bS ((ix l i7).Kind == 1))] [(0, .row 26 [iS 0, iS 0]), (1, .row 36 (Enc.cells (ix l i7)))] 2 (by kernel_rfl) ?_
          refine wk_id ?_
          refine cond_sx h (by kernel_rfl) (fun g3095 h => ?_) (fun g3095 h => ?_)
          ·exact hK3094 (((ix l i7).Kind == 1)) _ _ _ h (leSt_m [(0, 0), (1, 1)] [] (by simp only [push_cast, seval]) (by simp only [push_cast, seval]) rfl rfl rfl)
          ·refine reg_f ?_
           refine rs 2 [] [] (by kernel_rfl) allP_nil ?_
           refine rf [(0, iS kind), (1, .sl l.length (fl l)), (4, .ptr 0 0), (5, iS i7), (6, .ptr 1 0), (7, bS false), (8, bS false), (9, bS false), (10, bS false), (57, iS (ix l i7).Kind), (58, bS ((ix l i7).Kind == 3))] [(0, .row 26 [iS 0, iS 0]), (1, .row 36 (Enc.cells (ix l i7)))] 2 (by kernel_rfl) ?_
           exact hK3094 (((ix l i7).Kind == 3)) _ _ _ h (leSt_m [(0, 0), (1, 1)] [] (by simp only [push_cast, seval]) (by simp only [push_cast, seval]) rfl rfl rfl)
         ·rintro t58q15 h
          try dsimp only at h ⊢
          unfold taskmillref_CallsFault_j2 at h
          refine cond_sx h (by kernel_rfl) (fun g3100 h => ?_) (fun g3100 h => ?_)
          ·refine reg_f ?_
           refine rs 1 [] [] (by kernel_rfl) allP_nil ?_
           refine rf [(0, iS kind), (1, .sl l.length (fl l)), (4, .ptr 0 0), (5, iS i7), (6, .ptr 1 0), (7, bS true), (8, bS false), (9, bS false), (10, bS false)] [(0, .row 26 [iS 0, iS 0]), (1, .row 36 (Enc.cells (ix l i7)))] 2 (by kernel_rfl) ?_
           exact hK3091 (true, false, false, false) _ _ _ h (leSt_m [(0, 0), (1, 1)] [] (by simp only [push_cast, seval]) (by simp only [push_cast, seval]) rfl rfl rfl)
          ·refine seq_np ?_
           refine reg_f ?_
           refine rs 2 [] [] (by kernel_rfl) allP_nil ?_
           refine rf [(0, iS kind), (1, .sl l.length (fl l)), (4, .ptr 0 0), (5, iS i7), (6, .ptr 1 0), (7, bS false), (8, bS false), (9, bS false), (10, bS false), (57, iS (ix l i7).Kind), (61, bS ((ix l i7).Kind == 2))] [(0, .row 26 [iS 0, iS 0]), (1, .row 36 (Enc.cells (ix l i7)))] 2 (by kernel_rfl) ?_
           refine wk_id ?_
           refine cond_sx h (by kernel_rfl) (fun g3099 h => ?_) (fun g3099 h => ?_)
           ·refine seq_np ?_
            refine reg_f ?_
            refine rs 1 [] [] (by kernel_rfl) allP_nil ?_
            refine rf [(0, iS kind), (1, .sl l.length (fl l)), (4, .ptr 0 0), (5, iS i7), (6, .ptr 1 0), (7, bS false), (8, bS false), (10, bS true)] [(0, .row 26 [iS 0, iS 0]), (1, .row 36 (Enc.cells (ix l i7)))] 2 (by kernel_rfl) ?_
            refine wk_id ?_
            refine reg_f ?_
            refine rs 3 [] [] (by kernel_rfl) allP_nil ?_
            refine rf [(0, iS kind), (1, .sl l.length (fl l)), (4, .ptr 0 0), (5, iS i7), (6, .ptr 1 0), (7, bS false), (8, bS false), (9, bS (ix l i7).Ok), (10, bS true)] [(0, .row 26 [iS 0, iS 0]), (1, .row 36 (Enc.cells (ix l i7)))] 2 (by kernel_rfl) ?_
            exact hK3091 (false, false, (ix l i7).Ok, true) _ _ _ h (leSt_m [(0, 0), (1, 1)] [] (by simp only [push_cast, seval]) (by simp only [push_cast, seval]) rfl rfl rfl)
           ·refine seq_np ?_
            refine reg_f ?_
            refine rs 2 [] [] (by kernel_rfl) allP_nil ?_
            refine rf [(0, iS kind), (1, .sl l.length (fl l)), (4, .ptr 0 0), (5, iS i7), (6, .ptr 1 0), (7, bS false), (8, bS false), (9, bS false), (10, bS false), (57, iS (ix l i7).Kind), (65, bS ((ix l i7).Kind == 4))] [(0, .row 26 [iS 0, iS 0]), (1, .row 36 (Enc.cells (ix l i7)))] 2 (by kernel_rfl) ?_
            refine wk_id ?_
            refine cond_sx h (by kernel_rfl) (fun g3098 h => ?_) (fun g3098 h => ?_)
            ·refine reg_f ?_
             refine rs 1 [] [] (by kernel_rfl) allP_nil ?_
             refine rf [(0, iS kind), (1, .sl l.length (fl l)), (4, .ptr 0 0), (5, iS i7), (6, .ptr 1 0), (7, bS false), (8, bS false), (9, bS true), (10, bS false)] [(0, .row 26 [iS 0, iS 0]), (1, .row 36 (Enc.cells (ix l i7)))] 2 (by kernel_rfl) ?_
             exact hK3091 (false, false, true, false) _ _ _ h (leSt_m [(0, 0), (1, 1)] [] (by simp only [push_cast, seval]) (by simp only [push_cast, seval]) rfl rfl rfl)
            ·refine seq_np ?_
             refine reg_f ?_
             refine rs 2 [] [] (by kernel_rfl) allP_nil ?_
             refine rf [(0, iS kind), (1, .sl l.length (fl l)), (4, .ptr 0 0), (5, iS i7), (6, .ptr 1 0), (7, bS false), (8, bS false), (9, bS false), (10, bS false), (57, iS (ix l i7).Kind), (67, bS ((ix l i7).Kind == 5))] [(0, .row 26 [iS 0, iS 0]), (1, .row 36 (Enc.cells (ix l i7)))] 2 (by kernel_rfl) ?_
             refine wk_id ?_
             refine cond_sx h (by kernel_rfl) (fun g3097 h => ?_) (fun g3097 h => ?_)
             ·refine seq_np ?_
              refine reg_f ?_
              refine rs 1 [] [] (by kernel_rfl) allP_nil ?_
              refine rf [(0, iS kind), (1, .sl l.length (fl l)), (4, .ptr 0 0), (5, iS i7), (6, .ptr 1 0), (7, bS true), (8, bS false), (10, bS false)] [(0, .row 26 [iS 0, iS 0]), (1, .row 36 (Enc.cells (ix l i7)))] 2 (by kernel_rfl) ?_
              refine wk_id ?_
              refine reg_f ?_
              refine rs 1 [] [] (by kernel_rfl) allP_nil ?_
              refine rf [(0, iS kind), (1, .sl l.length (fl l)), (4, .ptr 0 0), (5, iS i7), (6, .ptr 1 0), (7, bS true), (8, bS false), (9, bS true), (10, bS false)] [(0, .row 26 [iS 0, iS 0]), (1, .row 36 (Enc.cells (ix l i7)))] 2 (by kernel_rfl) ?_
              exact hK3091 (true, false, true, false) _ _ _ h (leSt_m [(0, 0), (1, 1)] [] (by simp only [push_cast, seval]) (by simp only [push_cast, seval]) rfl rfl rfl)
             ·refine seq_np ?_
              refine reg_f ?_
              refine rs 2 [] [] (by kernel_rfl) allP_nil ?_
              refine rf [(0, iS kind), (1, .sl l.length (fl l)), (4, .ptr 0 0), (5, iS i7), (6, .ptr 1 0), (7, bS false), (8, bS false), (9, bS false), (10, bS false), (69, bS ((ix l i7).Kind == 6))] [(0, .row 26 [iS 0, iS 0]), (1, .row 36 (Enc.cells (ix l i7)))] 2 (by kernel_rfl) ?_
              refine wk_id ?_
              refine cond_sx h (by kernel_rfl) (fun g3096 h => ?_) (fun g3096 h => ?_)
              ·refine seq_np ?_
               refine reg_f ?_
               refine rs 1 [] [] (by kernel_rfl) allP_nil ?_
               refine rf [(0, iS kind), (1, .sl l.length (fl l)), (4, .ptr 0 0), (5, iS i7), (6, .ptr 1 0), (7, bS true), (9, bS false)] [(0, .row 26 [iS 0, iS 0]), (1, .row 36 (Enc.cells (ix l i7)))] 2 (by kernel_rfl) ?_
               refine wk_id ?_
               refine seq_np ?_
               refine reg_f ?_
               refine rs 1 [] [] (by kernel_rfl) allP_nil ?_
               refine rf [(0, iS kind), (1, .sl l.length (fl l)), (4, .ptr 0 0), (5, iS i7), (6, .ptr 1 0), (7, bS true), (8, bS true), (9, bS false)] [(0, .row 26 [iS 0, iS 0]), (1, .row 36 (Enc.cells (ix l i7)))] 2 (by kernel_rfl) ?_
               refine wk_id ?_
               refine reg_f ?_
               refine rs 1 [] [] (by kernel_rfl) allP_nil ?_
               refine rf [(0, iS kind), (1, .sl l.length (fl l)), (4, .ptr 0 0), (5, iS i7), (6, .ptr 1 0), (7, bS true), (8, bS true), (9, bS false), (10, bS true)] [(0, .row 26 [iS 0, iS 0]), (1, .row 36 (Enc.cells (ix l i7)))] 2 (by kernel_rfl) ?_
               exact hK3091 (true, true, false, true) _ _ _ h (leSt_m [(0, 0), (1, 1)] [] (by simp only [push_cast, seval]) (by simp only [push_cast, seval]) rfl rfl rfl)
              ·exact hK3091 (false, false, false, false) _ _ _ h (leSt_m [(0, 0), (1, 1)] [] (by simp only [push_cast, seval]) (by simp only [push_cast, seval]) rfl rfl rfl)
        ·rintro ⟨arg14, old14, ret14, ok14⟩ h
         try dsimp only at h ⊢
         unfold taskmillref_CallsFault_j1 at h
         refine wk_id ?_
         refine seq_cut (A := Unit) (fun _ => ([(0, iS kind), (1, .sl l.length (fl l)), (4, .ptr 0 0), (5, iS i7), (103, bS (bif (!arg14) then (((ix l i7).Arg != 0) || (bif (!old14) then (((ix l i7).Old != 0) || (bif (!ret14) then (((ix l i7).Ret != 0) || ((!ok14) && (ix l i7).Ok)) else ((!ok14) && (ix l i7).Ok))) else (bif (!ret14) then (((ix l i7).Ret != 0) || ((!ok14) && (ix l i7).Ok)) else ((!ok14) && (ix l i7).Ok)))) else (bif (!old14) then (((ix l i7).Old != 0) || (bif (!ret14) then (((ix l i7).Ret != 0) || ((!ok14) && (ix l i7).Ok)) else ((!ok14) && (ix l i7).Ok))) else (bif (!ret14) then (((ix l i7).Ret != 0) || ((!ok14) && (ix l i7).Ok)) else ((!ok14) && (ix l i7).Ok)))))], [(0, .row 26 [iS 0, iS 0]), (1, .row 36 (Enc.cells (ix l i7)))], 2)) (fun _ => True) (fun K3123 hK3123 => ?_) (fun _ _ => ?_)
         ·refine reg_f ?_
          refine rs 3 [] [] (by kernel_rfl) allP_nil ?_
          refine run_split 73 (!arg14) (.inl (by kernel_rfl)) (fun g3124 => ?_) (fun g3124 => ?_)
          ·refine rs 5 [] [] (by kernel_rfl) allP_nil ?_
           refine run_split 78 ((ix l i7).Arg != 0) (.inl (by kernel_rfl)) (fun g3125 => ?_) (fun g3125 => ?_)
           ·refine rs 25 [] [] (by kernel_rfl) allP_nil ?_
            refine rf [(0, iS kind), (1, .sl l.length (fl l)), (4, .ptr 0 0), (5, iS i7), (103, bS true)] [(0, .row 26 [iS 0, iS 0]), (1, .row 36 (Enc.cells (ix l i7)))] 2 (by kernel_rfl) ?_
            exact hK3123 () _ _ _ trivial (leSt_m [(0, 0), (1, 1)] [] (by first | ((try simp only [g3124, g3125]) <;> simp only [push_cast, seval]; done) | ((try simp only [g3124]); (try simp only [g3125]); simp only [push_cast, seval]; done) | (exfalso; clear h; simp_all; done)) (by first | ((try simp only [g3124, g3125]) <;> simp only [push_cast, seval]; done) | ((try simp only [g3124]); (try simp only [g3125]); simp only [push_cast, seval]; done) | (exfalso; clear h; simp_all; done)) rfl rfl rfl)
           ·refine rs 3 [] [] (by kernel_rfl) allP_nil ?_
            refine run_split 81 (!old14) (.inr (by kernel_rfl)) (fun g3126 => ?_) (fun g3126 => ?_)
            ·refine rn 11 [(0, iS kind), (1, .sl l.length (fl l)), (4, .ptr 0 0), (5, iS i7), (6, .ptr 1 0), (9, bS ret14), (10, bS ok14), (78, bS false), (81, .gd true (bS true))] [(0, .row 26 [iS 0, iS 0]), (1, .row 36 (Enc.cells (ix l i7)))] 2 (by kernel_rfl) ?_
             refine rs 6 [] [] (by kernel_rfl) allP_nil ?_
             refine run_split 87 ((ix l i7).Old != 0) (.inl (by kernel_rfl)) (fun g3127 => ?_) (fun g3127 => ?_)
             ·refine rs 16 [] [] (by kernel_rfl) allP_nil ?_
              refine rf [(0, iS kind), (1, .sl l.length (fl l)), (4, .ptr 0 0), (5, iS i7), (103, bS true)] [(0, .row 26 [iS 0, iS 0]), (1, .row 36 (Enc.cells (ix l i7)))] 2 (by kernel_rfl) ?_
              exact hK3123 () _ _ _ trivial (leSt_m [(0, 0), (1, 1)] [] (by first | ((try simp only [g3124, g3125, g3126, g3127]) <;> simp only [push_cast, seval]; done) | ((try simp only [g3124]); (try simp only [g3125]); (try simp only [g3126]); (try simp only [g3127]); simp only [push_cast, seval]; done) | (exfalso; clear h; simp_all; done)) (by first | ((try simp only [g3124, g3125, g3126, g3127]) <;> simp only [push_cast, seval]; done) | ((try simp only [g3124]); (try simp only [g3125]); (try simp only [g3126]); (try simp only [g3127]); simp only [push_cast, seval]; done) | (exfalso; clear h; simp_all; done)) rfl rfl rfl)
             ·refine rs 3 [] [] (by kernel_rfl) allP_nil ?_
              refine run_split 90 (!ret14) (.inr (by kernel_rfl)) (fun g3128 => ?_) (fun g3128 => ?_)
              ·refine rs 6 [] [] (by kernel_rfl) allP_nil ?_
               refine run_split 96 ((ix l i7).Ret != 0) (.inl (by kernel_rfl)) (fun g3129 => ?_) (fun g3129 => ?_)
               ·refine rn 26 [(0, iS kind), (1, .sl l.length (fl l)), (4, .ptr 0 0), (5, iS i7), (6, .ptr 1 0), (10, bS ok14), (96, bS true)] [(0, .row 26 [iS 0, iS 0]), (1, .row 36 (Enc.cells (ix l i7)))] 2 (by kernel_rfl) ?_
                refine rs 7 [] [] (by kernel_rfl) allP_nil ?_
                refine rf [(0, iS kind), (1, .sl l.length (fl l)), (4, .ptr 0 0), (5, iS i7), (103, bS true)] [(0, .row 26 [iS 0, iS 0]), (1, .row 36 (Enc.cells (ix l i7)))] 2 (by kernel_rfl) ?_
                exact hK3123 () _ _ _ trivial (leSt_m [(0, 0), (1, 1)] [] (by first | ((try simp only [g3124, g3125, g3126, g3127, g3128, g3129]) <;> simp only [push_cast, seval]; done) | ((try simp only [g3124]); (try simp only [g3125]); (try simp only [g3126]); (try simp only [g3127]); (try simp only [g3128]); (try simp only [g3129]); simp only [push_cast, seval]; done) | (exfalso; clear h; simp_all; done)) (by first | ((try simp only [g3124, g3125, g3126, g3127, g3128, g3129]) <;> simp only [push_cast, seval]; done) | ((try simp only [g3124]); (try simp only [g3125]); (try simp only [g3126]); (try simp only [g3127]); (try simp only [g3128]); (try simp only [g3129]); simp only [push_cast, seval]; done) | (exfalso; clear h; simp_all; done)) rfl rfl rfl)
               ·refine rn 26 [(0, iS kind), (1, .sl l.length (fl l)), (4, .ptr 0 0), (5, iS i7), (6, .ptr 1 0), (10, bS ok14), (96, bS false)] [(0, .row 26 [iS 0, iS 0]), (1, .row 36 (Enc.cells (ix l i7)))] 2 (by kernel_rfl) ?_
                refine rs 3 [] [] (by kernel_rfl) allP_nil ?_
                refine run_split 99 (!ok14) (.inr (by kernel_rfl)) (fun g3130 => ?_) (fun g3130 => ?_)
                ·refine rs 4 [] [] (by kernel_rfl) allP_nil ?_
                 refine rf [(0, iS kind), (1, .sl l.length (fl l)), (4, .ptr 0 0), (5, iS i7), (103, bS (ix l i7).Ok)] [(0, .row 26 [iS 0, iS 0]), (1, .row 36 (Enc.cells (ix l i7)))] 2 (by kernel_rfl) ?_
                 exact hK3123 () _ _ _ trivial (leSt_m [(0, 0), (1, 1)] [] (by first | ((try simp only [g3124, g3125, g3126, g3127, g3128, g3129, g3130]) <;> simp only [push_cast, seval]; done) | ((try simp only [g3124]); (try simp only [g3125]); (try simp only [g3126]); (try simp only [g3127]); (try simp only [g3128]); (try simp only [g3129]); (try simp only [g3130]); simp only [push_cast, seval]; done) | (exfalso; clear h; simp_all; done)) (by first | ((try simp only [g3124, g3125, g3126, g3127, g3128, g3129, g3130]) <;> simp only [push_cast, seval]; done) | ((try simp only [g3124]); (try simp only [g3125]); (try simp only [g3126]); (try simp only [g3127]); (try simp only [g3128]); (try simp only [g3129]); (try simp only [g3130]); simp only [push_cast, seval]; done) | (exfalso; clear h; simp_all; done)) rfl rfl rfl)
                ·refine rs 4 [] [] (by kernel_rfl) allP_nil ?_
                 refine rf [(0, iS kind), (1, .sl l.length (fl l)), (4, .ptr 0 0), (5, iS i7), (103, bS false)] [(0, .row 26 [iS 0, iS 0]), (1, .row 36 (Enc.cells (ix l i7)))] 2 (by kernel_rfl) ?_
                 exact hK3123 () _ _ _ trivial (leSt_m [(0, 0), (1, 1)] [] (by first | ((try simp only [g3124, g3125, g3126, g3127, g3128, g3129, g3130]) <;> simp only [push_cast, seval]; done) | ((try simp only [g3124]); (try simp only [g3125]); (try simp only [g3126]); (try simp only [g3127]); (try simp only [g3128]); (try simp only [g3129]); (try simp only [g3130]); simp only [push_cast, seval]; done) | (exfalso; clear h; simp_all; done)) (by first | ((try simp only [g3124, g3125, g3126, g3127, g3128, g3129, g3130]) <;> simp only [push_cast, seval]; done) | ((try simp only [g3124]); (try simp only [g3125]); (try simp only [g3126]); (try simp only [g3127]); (try simp only [g3128]); (try simp only [g3129]); (try simp only [g3130]); simp only [push_cast, seval]; done) | (exfalso; clear h; simp_all; done)) rfl rfl rfl)
              ·refine rs 9 [] [] (by kernel_rfl) allP_nil ?_
               refine run_split 99 (!ok14) (.inr (by kernel_rfl)) (fun g3131 => ?_) (fun g3131 => ?_)
               ·refine rn 29 [(0, iS kind), (1, .sl l.length (fl l)), (4, .ptr 0 0), (5, iS i7), (6, .ptr 1 0), (96, bS false), (99, .gd true (bS true))] [(0, .row 26 [iS 0, iS 0]), (1, .row 36 (Enc.cells (ix l i7)))] 2 (by kernel_rfl) ?_
                refine rs 4 [] [] (by kernel_rfl) allP_nil ?_
                refine rf [(0, iS kind), (1, .sl l.length (fl l)), (4, .ptr 0 0), (5, iS i7), (103, bS (ix l i7).Ok)] [(0, .row 26 [iS 0, iS 0]), (1, .row 36 (Enc.cells (ix l i7)))] 2 (by kernel_rfl) ?_
                exact hK3123 () _ _ _ trivial (leSt_m [(0, 0), (1, 1)] [] (by first | ((try simp only [g3124, g3125, g3126, g3127, g3128, g3131]) <;> simp only [push_cast, seval]; done) | ((try simp only [g3124]); (try simp only [g3125]); (try simp only [g3126]); (try simp only [g3127]); (try simp only [g3128]); (try simp only [g3131]); simp only [push_cast, seval]; done) | (exfalso; clear h; simp_all; done)) (by first | ((try simp only [g3124, g3125, g3126, g3127, g3128, g3131]) <;> simp only [push_cast, seval]; done) | ((try simp only [g3124]); (try simp only [g3125]); (try simp only [g3126]); (try simp only [g3127]); (try simp only [g3128]); (try simp only [g3131]); simp only [push_cast, seval]; done) | (exfalso; clear h; simp_all; done)) rfl rfl rfl)
               ·refine rn 29 [(0, iS kind), (1, .sl l.length (fl l)), (4, .ptr 0 0), (5, iS i7), (6, .ptr 1 0), (96, bS false), (99, .gd true (bS false))] [(0, .row 26 [iS 0, iS 0]), (1, .row 36 (Enc.cells (ix l i7)))] 2 (by kernel_rfl) ?_
                refine rs 4 [] [] (by kernel_rfl) allP_nil ?_
                refine rf [(0, iS kind), (1, .sl l.length (fl l)), (4, .ptr 0 0), (5, iS i7), (103, bS false)] [(0, .row 26 [iS 0, iS 0]), (1, .row 36 (Enc.cells (ix l i7)))] 2 (by kernel_rfl) ?_
                exact hK3123 () _ _ _ trivial (leSt_m [(0, 0), (1, 1)] [] (by first | ((try simp only [g3124, g3125, g3126, g3127, g3128, g3131]) <;> simp only [push_cast, seval]; done) | ((try simp only [g3124]); (try simp only [g3125]); (try simp only [g3126]); (try simp only [g3127]); (try simp only [g3128]); (try simp only [g3131]); simp only [push_cast, seval]; done) | (exfalso; clear h; simp_all; done)) (by first | ((try simp only [g3124, g3125, g3126, g3127, g3128, g3131]) <;> simp only [push_cast, seval]; done) | ((try simp only [g3124]); (try simp only [g3125]); (try simp only [g3126]); (try simp only [g3127]); (try simp only [g3128]); (try simp only [g3131]); simp only [push_cast, seval]; done) | (exfalso; clear h; simp_all; done)) rfl rfl rfl)
            ·refine rn 11 [(0, iS kind), (1, .sl l.length (fl l)), (4, .ptr 0 0), (5, iS i7), (6, .ptr 1 0), (9, bS ret14), (10, bS ok14), (78, bS false), (81, .gd true (bS false))] [(0, .row 26 [iS 0, iS 0]), (1, .row 36 (Enc.cells (ix l i7)))] 2 (by kernel_rfl) ?_
             refine rs 9 [] [] (by kernel_rfl) allP_nil ?_
             refine run_split 90 (!ret14) (.inr (by kernel_rfl)) (fun g3132 => ?_) (fun g3132 => ?_)
             ·refine rs 6 [] [] (by kernel_rfl) allP_nil ?_
              refine run_split 96 ((ix l i7).Ret != 0) (.inl (by kernel_rfl)) (fun g3133 => ?_) (fun g3133 => ?_)
              ·refine rs 7 [] [] (by kernel_rfl) allP_nil ?_
               refine rf [(0, iS kind), (1, .sl l.length (fl l)), (4, .ptr 0 0), (5, iS i7), (103, bS true)] [(0, .row 26 [iS 0, iS 0]), (1, .row 36 (Enc.cells (ix l i7)))] 2 (by kernel_rfl) ?_
               exact hK3123 () _ _ _ trivial (leSt_m [(0, 0), (1, 1)] [] (by first | ((try simp only [g3124, g3125, g3126, g3132, g3133]) <;> simp only [push_cast, seval]; done) | ((try simp only [g3124]); (try simp only [g3125]); (try simp only [g3126]); (try simp only [g3132]); (try simp only [g3133]); simp only [push_cast, seval]; done) | (exfalso; clear h; simp_all; done)) (by first | ((try simp only [g3124, g3125, g3126, g3132, g3133]) <;> simp only [push_cast, seval]; done) | ((try simp only [g3124]); (try simp only [g3125]); (try simp only [g3126]); (try simp only [g3132]); (try simp only [g3133]); simp only [push_cast, seval]; done) | (exfalso; clear h; simp_all; done)) rfl rfl rfl)
              ·refine rs 3 [] [] (by kernel_rfl) allP_nil ?_
               refine run_split 99 (!ok14) (.inr (by kernel_rfl)) (fun g3134 => ?_) (fun g3134 => ?_)
               ·refine rn 29 [(0, iS kind), (1, .sl l.length (fl l)), (4, .ptr 0 0), (5, iS i7), (6, .ptr 1 0), (96, bS false), (99, .gd true (bS true))] [(0, .row 26 [iS 0, iS 0]), (1, .row 36 (Enc.cells (ix l i7)))] 2 (by kernel_rfl) ?_
                refine rs 4 [] [] (by kernel_rfl) allP_nil ?_
                refine rf [(0, iS kind), (1, .sl l.length (fl l)), (4, .ptr 0 0), (5, iS i7), (103, bS (ix l i7).Ok)] [(0, .row 26 [iS 0, iS 0]), (1, .row 36 (Enc.cells (ix l i7)))] 2 (by kernel_rfl) ?_
                exact hK3123 () _ _ _ trivial (leSt_m [(0, 0), (1, 1)] [] (by first | ((try simp only [g3124, g3125, g3126, g3132, g3133, g3134]) <;> simp only [push_cast, seval]; done) | ((try simp only [g3124]); (try simp only [g3125]); (try simp only [g3126]); (try simp only [g3132]); (try simp only [g3133]); (try simp only [g3134]); simp only [push_cast, seval]; done) | (exfalso; clear h; simp_all; done)) (by first | ((try simp only [g3124, g3125, g3126, g3132, g3133, g3134]) <;> simp only [push_cast, seval]; done) | ((try simp only [g3124]); (try simp only [g3125]); (try simp only [g3126]); (try simp only [g3132]); (try simp only [g3133]); (try simp only [g3134]); simp only [push_cast, seval]; done) | (exfalso; clear h; simp_all; done)) rfl rfl rfl)
               ·refine rn 29 [(0, iS kind), (1, .sl l.length (fl l)), (4, .ptr 0 0), (5, iS i7), (6, .ptr 1 0), (96, bS false), (99, .gd true (bS false))] [(0, .row 26 [iS 0, iS 0]), (1, .row 36 (Enc.cells (ix l i7)))] 2 (by kernel_rfl) ?_
                refine rs 4 [] [] (by kernel_rfl) allP_nil ?_
                refine rf [(0, iS kind), (1, .sl l.length (fl l)), (4, .ptr 0 0), (5, iS i7), (103, bS false)] [(0, .row 26 [iS 0, iS 0]), (1, .row 36 (Enc.cells (ix l i7)))] 2 (by kernel_rfl) ?_
                exact hK3123 () _ _ _ trivial (leSt_m [(0, 0), (1, 1)] [] (by first | ((try simp only [g3124, g3125, g3126, g3132, g3133, g3134]) <;> simp only [push_cast, seval]; done) | ((try simp only [g3124]); (try simp only [g3125]); (try simp only [g3126]); (try simp only [g3132]); (try simp only [g3133]); (try simp only [g3134]); simp only [push_cast, seval]; done) | (exfalso; clear h; simp_all; done)) (by first | ((try simp only [g3124, g3125, g3126, g3132, g3133, g3134]) <;> simp only [push_cast, seval]; done) | ((try simp only [g3124]); (try simp only [g3125]); (try simp only [g3126]); (try simp only [g3132]); (try simp only [g3133]); (try simp only [g3134]); simp only [push_cast, seval]; done) | (exfalso; clear h; simp_all; done)) rfl rfl rfl)
             ·refine rs 9 [] [] (by kernel_rfl) allP_nil ?_
              refine run_split 99 (!ok14) (.inr (by kernel_rfl)) (fun g3135 => ?_) (fun g3135 => ?_)
              ·refine rs 4 [] [] (by kernel_rfl) allP_nil ?_
               refine rf [(0, iS kind), (1, .sl l.length (fl l)), (4, .ptr 0 0), (5, iS i7), (103, bS (ix l i7).Ok)] [(0, .row 26 [iS 0, iS 0]), (1, .row 36 (Enc.cells (ix l i7)))] 2 (by kernel_rfl) ?_
               exact hK3123 () _ _ _ trivial (leSt_m [(0, 0), (1, 1)] [] (by first | ((try simp only [g3124, g3125, g3126, g3132, g3135]) <;> simp only [push_cast, seval]; done) | ((try simp only [g3124]); (try simp only [g3125]); (try simp only [g3126]); (try simp only [g3132]); (try simp only [g3135]); simp only [push_cast, seval]; done) | (exfalso; clear h; simp_all; done)) (by first | ((try simp only [g3124, g3125, g3126, g3132, g3135]) <;> simp only [push_cast, seval]; done) | ((try simp only [g3124]); (try simp only [g3125]); (try simp only [g3126]); (try simp only [g3132]); (try simp only [g3135]); simp only [push_cast, seval]; done) | (exfalso; clear h; simp_all; done)) rfl rfl rfl)
              ·refine rs 4 [] [] (by kernel_rfl) allP_nil ?_
               refine rf [(0, iS kind), (1, .sl l.length (fl l)), (4, .ptr 0 0), (5, iS i7), (103, bS false)] [(0, .row 26 [iS 0, iS 0]), (1, .row 36 (Enc.cells (ix l i7)))] 2 (by kernel_rfl) ?_
               exact hK3123 () _ _ _ trivial (leSt_m [(0, 0), (1, 1)] [] (by first | ((try simp only [g3124, g3125, g3126, g3132, g3135]) <;> simp only [push_cast, seval]; done) | ((try simp only [g3124]); (try simp only [g3125]); (try simp only [g3126]); (try simp only [g3132]); (try simp only [g3135]); simp only [push_cast, seval]; done) | (exfalso; clear h; simp_all; done)) (by first | ((try simp only [g3124, g3125, g3126, g3132, g3135]) <;> simp only [push_cast, seval]; done) | ((try simp only [g3124]); (try simp only [g3125]); (try simp only [g3126]); (try simp only [g3132]); (try simp only [g3135]); simp only [push_cast, seval]; done) | (exfalso; clear h; simp_all; done)) rfl rfl rfl)
          ·refine rs 8 [] [] (by kernel_rfl) allP_nil ?_
           refine run_split 81 (!old14) (.inr (by kernel_rfl)) (fun g3136 => ?_) (fun g3136 => ?_)
           ·refine rs 6 [] [] (by kernel_rfl) allP_nil ?_
            refine run_split 87 ((ix l i7).Old != 0) (.inl (by kernel_rfl)) (fun g3137 => ?_) (fun g3137 => ?_)
            ·refine rn 17 [(0, iS kind), (1, .sl l.length (fl l)), (4, .ptr 0 0), (5, iS i7), (6, .ptr 1 0), (9, bS ret14), (10, bS ok14), (87, bS true)] [(0, .row 26 [iS 0, iS 0]), (1, .row 36 (Enc.cells (ix l i7)))] 2 (by kernel_rfl) ?_
             refine rs 16 [] [] (by kernel_rfl) allP_nil ?_
             refine rf [(0, iS kind), (1, .sl l.length (fl l)), (4, .ptr 0 0), (5, iS i7), (103, bS true)] [(0, .row 26 [iS 0, iS 0]), (1, .row 36 (Enc.cells (ix l i7)))] 2 (by kernel_rfl) ?_
             exact hK3123 () _ _ _ trivial (leSt_m [(0, 0), (1, 1)] [] (by first | ((try simp only [g3124, g3136, g3137]) <;> simp only [push_cast, seval]; done) | ((try simp only [g3124]); (try simp only [g3136]); (try simp only [g3137]); simp only [push_cast, seval]; done) | (exfalso; clear h; simp_all; done)) (by first | ((try simp only [g3124, g3136, g3137]) <;> simp only [push_cast, seval]; done) | ((try simp only [g3124]); (try simp only [g3136]); (try simp only [g3137]); simp only [push_cast, seval]; done) | (exfalso; clear h; simp_all; done)) rfl rfl rfl)
            ·refine rn 17 [(0, iS kind), (1, .sl l.length (fl l)), (4, .ptr 0 0), (5, iS i7), (6, .ptr 1 0), (9, bS ret14), (10, bS ok14), (87, bS false)] [(0, .row 26 [iS 0, iS 0]), (1, .row 36 (Enc.cells (ix l i7)))] 2 (by kernel_rfl) ?_
             refine rs 3 [] [] (by kernel_rfl) allP_nil ?_
             refine run_split 90 (!ret14) (.inr (by kernel_rfl)) (fun g3138 => ?_) (fun g3138 => ?_)
             ·refine rs 6 [] [] (by kernel_rfl) allP_nil ?_
              refine run_split 96 ((ix l i7).Ret != 0) (.inl (by kernel_rfl)) (fun g3139 => ?_) (fun g3139 => ?_)
              ·refine rs 7 [] [] (by kernel_rfl) allP_nil ?_
               refine rf [(0, iS kind), (1, .sl l.length (fl l)), (4, .ptr 0 0), (5, iS i7), (103, bS true)] [(0, .row 26 [iS 0, iS 0]), (1, .row 36 (Enc.cells (ix l i7)))] 2 (by kernel_rfl) ?_
               exact hK3123 () _ _ _ trivial (leSt_m [(0, 0), (1, 1)] [] (by first | ((try simp only [g3124, g3136, g3137, g3138, g3139]) <;> simp only [push_cast, seval]; done) | ((try simp only [g3124]); (try simp only [g3136]); (try simp only [g3137]); (try simp only [g3138]); (try simp only [g3139]); simp only [push_cast, seval]; done) | (exfalso; clear h; simp_all; done)) (by first | ((try simp only [g3124, g3136, g3137, g3138, g3139]) <;> simp only [push_cast, seval]; done) | ((try simp only [g3124]); (try simp only [g3136]); (try simp only [g3137]); (try simp only [g3138]); (try simp only [g3139]); simp only [push_cast, seval]; done) | (exfalso; clear h; simp_all; done)) rfl rfl rfl)
              ·refine rs 3 [] [] (by kernel_rfl) allP_nil ?_
               refine run_split 99 (!ok14) (.inr (by kernel_rfl)) (fun g3140 => ?_) (fun g3140 => ?_)
               ·refine rn 29 [(0, iS kind), (1, .sl l.length (fl l)), (4, .ptr 0 0), (5, iS i7), (6, .ptr 1 0), (96, bS false), (99, .gd true (bS true))] [(0, .row 26 [iS 0, iS 0]), (1, .row 36 (Enc.cells (ix l i7)))] 2 (by kernel_rfl) ?_
                refine rs 4 [] [] (by kernel_rfl) allP_nil ?_
                refine rf [(0, iS kind), (1, .sl l.length (fl l)), (4, .ptr 0 0), (5, iS i7), (103, bS (ix l i7).Ok)] [(0, .row 26 [iS 0, iS 0]), (1, .row 36 (Enc.cells (ix l i7)))] 2 (by kernel_rfl) ?_
                exact hK3123 () _ _ _ trivial (leSt_m [(0, 0), (1, 1)] [] (by first | ((try simp only [g3124, g3136, g3137, g3138, g3139, g3140]) <;> simp only [push_cast, seval]; done) | ((try simp only [g3124]); (try simp only [g3136]); (try simp only [g3137]); (try simp only [g3138]); (try simp only [g3139]); (try simp only [g3140]); simp only [push_cast, seval]; done) | (exfalso; clear h; simp_all; done)) (by first | ((try simp only [g3124, g3136, g3137, g3138, g3139, g3140]) <;> simp only [push_cast, seval]; done) | ((try simp only [g3124]); (try simp only [g3136]); (try simp only [g3137]); (try simp only [g3138]); (try simp only [g3139]); (try simp only [g3140]); simp only [push_cast, seval]; done) | (exfalso; clear h; simp_all; done)) rfl rfl rfl)
               ·refine rn 29 [(0, iS kind), (1, .sl l.length (fl l)), (4, .ptr 0 0), (5, iS i7), (6, .ptr 1 0), (96, bS false), (99, .gd true (bS false))] [(0, .row 26 [iS 0, iS 0]), (1, .row 36 (Enc.cells (ix l i7)))] 2 (by kernel_rfl) ?_
                refine rs 4 [] [] (by kernel_rfl) allP_nil ?_
                refine rf [(0, iS kind), (1, .sl l.length (fl l)), (4, .ptr 0 0), (5, iS i7), (103, bS false)] [(0, .row 26 [iS 0, iS 0]), (1, .row 36 (Enc.cells (ix l i7)))] 2 (by kernel_rfl) ?_
                exact hK3123 () _ _ _ trivial (leSt_m [(0, 0), (1, 1)] [] (by first | ((try simp only [g3124, g3136, g3137, g3138, g3139, g3140]) <;> simp only [push_cast, seval]; done) | ((try simp only [g3124]); (try simp only [g3136]); (try simp only [g3137]); (try simp only [g3138]); (try simp only [g3139]); (try simp only [g3140]); simp only [push_cast, seval]; done) | (exfalso; clear h; simp_all; done)) (by first | ((try simp only [g3124, g3136, g3137, g3138, g3139, g3140]) <;> simp only [push_cast, seval]; done) | ((try simp only [g3124]); (try simp only [g3136]); (try simp only [g3137]); (try simp only [g3138]); (try simp only [g3139]); (try simp only [g3140]); simp only [push_cast, seval]; done) | (exfalso; clear h; simp_all; done)) rfl rfl rfl)
             ·refine rs 9 [] [] (by kernel_rfl) allP_nil ?_
              refine run_split 99 (!ok14) (.inr (by kernel_rfl)) (fun g3141 => ?_) (fun g3141 => ?_)
              ·refine rs 4 [] [] (by kernel_rfl) allP_nil ?_
               refine rf [(0, iS kind), (1, .sl l.length (fl l)), (4, .ptr 0 0), (5, iS i7), (103, bS (ix l i7).Ok)] [(0, .row 26 [iS 0, iS 0]), (1, .row 36 (Enc.cells (ix l i7)))] 2 (by kernel_rfl) ?_
               exact hK3123 () _ _ _ trivial (leSt_m [(0, 0), (1, 1)] [] (by first | ((try simp only [g3124, g3136, g3137, g3138, g3141]) <;> simp only [push_cast, seval]; done) | ((try simp only [g3124]); (try simp only [g3136]); (try simp only [g3137]); (try simp only [g3138]); (try simp only [g3141]); simp only [push_cast, seval]; done) | (exfalso; clear h; simp_all; done)) (by first | ((try simp only [g3124, g3136, g3137, g3138, g3141]) <;> simp only [push_cast, seval]; done) | ((try simp only [g3124]); (try simp only [g3136]); (try simp only [g3137]); (try simp only [g3138]); (try simp only [g3141]); simp only [push_cast, seval]; done) | (exfalso; clear h; simp_all; done)) rfl rfl rfl)
              ·refine rs 4 [] [] (by kernel_rfl) allP_nil ?_
               refine rf [(0, iS kind), (1, .sl l.length (fl l)), (4, .ptr 0 0), (5, iS i7), (103, bS false)] [(0, .row 26 [iS 0, iS 0]), (1, .row 36 (Enc.cells (ix l i7)))] 2 (by kernel_rfl) ?_
               exact hK3123 () _ _ _ trivial (leSt_m [(0, 0), (1, 1)] [] (by first | ((try simp only [g3124, g3136, g3137, g3138, g3141]) <;> simp only [push_cast, seval]; done) | ((try simp only [g3124]); (try simp only [g3136]); (try simp only [g3137]); (try simp only [g3138]); (try simp only [g3141]); simp only [push_cast, seval]; done) | (exfalso; clear h; simp_all; done)) (by first | ((try simp only [g3124, g3136, g3137, g3138, g3141]) <;> simp only [push_cast, seval]; done) | ((try simp only [g3124]); (try simp only [g3136]); (try simp only [g3137]); (try simp only [g3138]); (try simp only [g3141]); simp only [push_cast, seval]; done) | (exfalso; clear h; simp_all; done)) rfl rfl rfl)
           ·refine rs 9 [] [] (by kernel_rfl) allP_nil ?_
            refine run_split 90 (!ret14) (.inr (by kernel_rfl)) (fun g3142 => ?_) (fun g3142 => ?_)
            ·refine rn 20 [(0, iS kind), (1, .sl l.length (fl l)), (4, .ptr 0 0), (5, iS i7), (6, .ptr 1 0), (10, bS ok14), (87, bS false), (90, .gd true (bS true))] [(0, .row 26 [iS 0, iS 0]), (1, .row 36 (Enc.cells (ix l i7)))] 2 (by kernel_rfl) ?_
             refine rs 6 [] [] (by kernel_rfl) allP_nil ?_
             refine run_split 96 ((ix l i7).Ret != 0) (.inl (by kernel_rfl)) (fun g3143 => ?_) (fun g3143 => ?_)
             ·refine rs 7 [] [] (by kernel_rfl) allP_nil ?_
              refine rf [(0, iS kind), (1, .sl l.length (fl l)), (4, .ptr 0 0), (5, iS i7), (103, bS true)] [(0, .row 26 [iS 0, iS 0]), (1, .row 36 (Enc.cells (ix l i7)))] 2 (by kernel_rfl) ?_
              exact hK3123 () _ _ _ trivial (leSt_m [(0, 0), (1, 1)] [] (by first | ((try simp only [g3124, g3136, g3142, g3143]) <;> simp only [push_cast, seval]; done) | ((try simp only [g3124]); (try simp only [g3136]); (try simp only [g3142]); (try simp only [g3143]); simp only [push_cast, seval]; done) | (exfalso; clear h; simp_all; done)) (by first | ((try simp only [g3124, g3136, g3142, g3143]) <;> simp only [push_cast, seval]; done) | ((try simp only [g3124]); (try simp only [g3136]); (try simp only [g3142]); (try simp only [g3143]); simp only [push_cast, seval]; done) | (exfalso; clear h; simp_all; done)) rfl rfl rfl)
             ·refine rs 3 [] [] (by kernel_rfl) allP_nil ?_
              refine run_split 99 (!ok14) (.inr (by kernel_rfl)) (fun g3144 => ?_) (fun g3144 => ?_)
              ·refine rs 4 [] [] (by kernel_rfl) allP_nil ?_
               refine rf [(0, iS kind), (1, .sl l.length (fl l)), (4, .ptr 0 0), (5, iS i7), (103, bS (ix l i7).Ok)] [(0, .row 26 [iS 0, iS 0]), (1, .row 36 (Enc.cells (ix l i7)))] 2 (by kernel_rfl) ?_
               exact hK3123 () _ _ _ trivial (leSt_m [(0, 0), (1, 1)] [] (by first | ((try simp only [g3124, g3136, g3142, g3143, g3144]) <;> simp only [push_cast, seval]; done) | ((try simp only [g3124]); (try simp only [g3136]); (try simp only [g3142]); (try simp only [g3143]); (try simp only [g3144]); simp only [push_cast, seval]; done) | (exfalso; clear h; simp_all; done)) (by first | ((try simp only [g3124, g3136, g3142, g3143, g3144]) <;> simp only [push_cast, seval]; done) | ((try simp only [g3124]); (try simp only [g3136]); (try simp only [g3142]); (try simp only [g3143]); (try simp only [g3144]); simp only [push_cast, seval]; done) | (exfalso; clear h; simp_all; done)) rfl rfl rfl)
              ·refine rs 4 [] [] (by kernel_rfl) allP_nil ?_
               refine rf [(0, iS kind), (1, .sl l.length (fl l)), (4, .ptr 0 0), (5, iS i7), (103, bS false)] [(0, .row 26 [iS 0, iS 0]), (1, .row 36 (Enc.cells (ix l i7)))] 2 (by kernel_rfl) ?_
               exact hK3123 () _ _ _ trivial (leSt_m [(0, 0), (1, 1)] [] (by first | ((try simp only [g3124, g3136, g3142, g3143, g3144]) <;> simp only [push_cast, seval]; done) | ((try simp only [g3124]); (try simp only [g3136]); (try simp only [g3142]); (try simp only [g3143]); (try simp only [g3144]); simp only [push_cast, seval]; done) | (exfalso; clear h; simp_all; done)) (by first | ((try simp only [g3124, g3136, g3142, g3143, g3144]) <;> simp only [push_cast, seval]; done) | ((try simp only [g3124]); (try simp only [g3136]); (try simp only [g3142]); (try simp only [g3143]); (try simp only [g3144]); simp only [push_cast, seval]; done) | (exfalso; clear h; simp_all; done)) rfl rfl rfl)
            ·refine rn 20 [(0, iS kind), (1, .sl l.length (fl l)), (4, .ptr 0 0), (5, iS i7), (6, .ptr 1 0), (10, bS ok14), (87, bS false), (90, .gd true (bS false))] [(0, .row 26 [iS 0, iS 0]), (1, .row 36 (Enc.cells (ix l i7)))] 2 (by kernel_rfl) ?_
             refine rs 9 [] [] (by kernel_rfl) allP_nil ?_
             refine run_split 99 (!ok14) (.inr (by kernel_rfl)) (fun g3145 => ?_) (fun g3145 => ?_)
             ·refine rs 4 [] [] (by kernel_rfl) allP_nil ?_
              refine rf [(0, iS kind), (1, .sl l.length (fl l)), (4, .ptr 0 0), (5, iS i7), (103, bS (ix l i7).Ok)] [(0, .row 26 [iS 0, iS 0]), (1, .row 36 (Enc.cells (ix l i7)))] 2 (by kernel_rfl) ?_
              exact hK3123 () _ _ _ trivial (leSt_m [(0, 0), (1, 1)] [] (by first | ((try simp only [g3124, g3136, g3142, g3145]) <;> simp only [push_cast, seval]; done) | ((try simp only [g3124]); (try simp only [g3136]); (try simp only [g3142]); (try simp only [g3145]); simp only [push_cast, seval]; done) | (exfalso; clear h; simp_all; done)) (by first | ((try simp only [g3124, g3136, g3142, g3145]) <;> simp only [push_cast, seval]; done) | ((try simp only [g3124]); (try simp only [g3136]); (try simp only [g3142]); (try simp only [g3145]); simp only [push_cast, seval]; done) | (exfalso; clear h; simp_all; done)) rfl rfl rfl)
             ·refine rs 4 [] [] (by kernel_rfl) allP_nil ?_
              refine rf [(0, iS kind), (1, .sl l.length (fl l)), (4, .ptr 0 0), (5, iS i7), (103, bS false)] [(0, .row 26 [iS 0, iS 0]), (1, .row 36 (Enc.cells (ix l i7)))] 2 (by kernel_rfl) ?_
              exact hK3123 () _ _ _ trivial (leSt_m [(0, 0), (1, 1)] [] (by first | ((try simp only [g3124, g3136, g3142, g3145]) <;> simp only [push_cast, seval]; done) | ((try simp only [g3124]); (try simp only [g3136]); (try simp only [g3142]); (try simp only [g3145]); simp only [push_cast, seval]; done) | (exfalso; clear h; simp_all; done)) (by first | ((try simp only [g3124, g3136, g3142, g3145]) <;> simp only [push_cast, seval]; done) | ((try simp only [g3124]); (try simp only [g3136]); (try simp only [g3142]); (try simp only [g3145]); simp only [push_cast, seval]; done) | (exfalso; clear h; simp_all; done)) rfl rfl rfl)
         ·dsimp only
          refine cond_sx h (by kernel_rfl) (fun g3148 h => ?_) (fun g3148 h => ?_)
          ·refine seq_np ?_
           refine reg_f ?_
           refine rs 1 [] [] (by kernel_rfl) allP_nil ?_
           obtain ⟨r3147, hr3147, h⟩ := bind_sx h
           refine run_call 12 [iS 5, iS i7] (some 105) (by kernel_rfl) ?_
           refine call_0 (taskmillref_F_spec 5 i7 r3147 hr3147) (by simp only [push_cast, seval]) (by simp only [push_cast, seval]) ?_
           refine back_f ?_
           refine rs 1 [] [] (by kernel_rfl) allP_nil ?_
           refine rf [(4, .ptr 0 0)] [(0, .row 26 (Enc.cells r3147)), (1, .row 36 (Enc.cells (ix l i7)))] 2 (by kernel_rfl) ?_
           refine wk_id ?_
           refine rt_cast ht2 ?_
           obtain ⟨r0, h, e0⟩ := map_sx h
           have e1 := hr2 r0 e0.symm
           subst r0
           obtain rfl := Option.some.inj h
           refine ret_at (.agg (Enc.cells r3147)) (by kernel_rfl) ?_
           exact ret_e [] [] (by simp only [push_cast, seval]) (by simp only [push_cast, seval]) rfl rfl rfl
          ·refine wk_id ?_
           refine wk_id ?_
           refine reg_f ?_
           refine rs 3 [] [] (by kernel_rfl) allP_nil ?_
           refine rf [(0, iS kind), (1, .sl l.length (fl l)), (4, .ptr 0 0), (5, iS (IntKind.i64.wrap (i7 + 1)))] [(0, .row 26 [iS 0, iS 0]), (1, .row 36 (Enc.cells (ix l i7)))] 2 (by kernel_rfl) ?_
           exact hn2 ((IntKind.i64.wrap (i7 + 1))) _ _ _ (Option.some.inj h).symm (leSt_m [(0, 0)] [] (by simp only [push_cast, seval]) (by simp only [push_cast, seval]) rfl rfl rfl)
    ·change R2 (.exit 0) _ _ _
     refine ex_cast hx2 (id := 0) ?_
     obtain ⟨r0, h, e0⟩ := map_sx h
     have e1 := hr2 r0 e0.symm
     subst r0
     refine wk_id ?_
     refine wk_id ?_
     refine seq_np ?_
     refine reg_f ?_
     refine rs 2 [] [] (by kernel_rfl) allP_nil ?_
     refine rf [(4, .ptr 0 0)] [(0, .row 26 [iS 0, iS 0])] 1 (by kernel_rfl) ?_
     refine wk_id ?_
     obtain rfl := Option.some.inj h
     refine ret_at (.agg [iS 0, iS 0]) (by kernel_rfl) ?_
     exact ret_e [] [] (by simp only [push_cast, seval]) (by simp only [push_cast, seval]) rfl rfl rfl

set_option maxRecDepth 100000 in
set_option maxHeartbeats 200000000 in
theorem taskmillref_Has_spec (l : (List Int)) (n : Int) (r : Bool) (h : taskmillref_Has l n = some r) : SpecW Try.prog 24 [.sl l.length (fl l), iS n] [] 0 (fun x h n => x = bS r ∧ h = [] ∧ n = 0) := by
 unfold taskmillref_Has at h
 refine spec_of (draw_ok _) Try.func24 rfl (by decide) rfl (by kernel_rfl) ?_
 refine seq_np ?_
 refine reg_f ?_
 refine rs 1 [] [] (by kernel_rfl) allP_nil ?_
 refine rf [(0, .sl l.length (fl l)), (1, iS n)] [] 0 (by kernel_rfl) ?_
 refine wk_id ?_
 refine seq_np ?_
 refine seq_np ?_
 refine reg_f ?_
 refine rs 1 [] [] (by kernel_rfl) allP_nil ?_
 refine rf [(0, .sl l.length (fl l)), (1, iS n), (5, iS 0)] [] 0 (by kernel_rfl) ?_
 refine wk_id ?_
 refine block_np ?_
 refine loop_sx (S := Int) (fun a => ([(0, .sl l.length (fl l)), (1, iS n), (5, iS a)], [], 0)) h (leSt_m [] [] (by simp only [push_cast, seval]) (by simp only [push_cast, seval]) rfl rfl rfl) ?_
 rintro i7 o2 R2 h hr2 hn2 hx2 ht2
 try dsimp only at h hn2 ⊢
 unfold taskmillref_Has_l1 at h
 try dsimp only at h
 refine seq_np ?_
 refine seq_np ?_
 refine reg_f ?_
 refine rs 4 [] [] (by kernel_rfl) allP_nil ?_
 refine rf [(0, .sl l.length (fl l)), (1, iS n), (5, iS i7), (9, bS (decide (i7 < ((l.length : Nat) : Int))))] [] 0 (by kernel_rfl) ?_
 refine wk_id ?_
 refine cond_sx h (by kernel_rfl) (fun g3223 h => ?_) (fun g3223 h => ?_)
 ·refine wk_id ?_
  refine seq_np ?_
  refine block_np ?_
  refine chk_sx h (fun g3221 h => ?_)
  refine seq_np ?_
  refine reg_f ?_
  have k3220 : 0 ≤ i7 ∧ i7 < ((l.length : Nat) : Int) := by first | simpa only [Bool.and_eq_true, decide_eq_true_eq, bne_iff_ne, ne_eq] using g3221 | (simp at g3221 ⊢; omega)
  refine rs 6 [none, none, some ⟨.iptr (fl l) ((i7).toNat * 1), [], 0, []⟩, some ⟨iS (ix l i7), [], 0, []⟩] _ (by kernel_rfl) (allP_cons (ob_ld l i7 1 0 ((i7).toNat * 1) k3220 rfl (by decide) (by first | rfl | omega) (dflS Try.prog 3) (iS (ix l i7)) rfl 0 []) (allP_cons (ob_ix_l l 1 0 i7 k3220) allP_nil)) ?_
  refine rf [(0, .sl l.length (fl l)), (1, iS n), (5, iS i7), (17, bS ((ix l i7) == n))] [] 0 (by kernel_rfl) ?_
  refine wk_id ?_
  refine cond_sx h (by kernel_rfl) (fun g3222 h => ?_) (fun g3222 h => ?_)
  ·refine seq_np ?_
   refine reg_f ?_
   refine rs 1 [] [] (by kernel_rfl) allP_nil ?_
   refine rf [(4, bS true)] [] 0 (by kernel_rfl) ?_
   refine wk_id ?_
   refine rt_cast ht2 ?_
   obtain ⟨r0, h, e0⟩ := map_sx h
   have e1 := hr2 r0 e0.symm
   subst r0
   obtain rfl := Option.some.inj h
   refine ret_at (bS true) (by kernel_rfl) ?_
   exact ret_e [] [] (by simp only [push_cast, seval]) (by simp only [push_cast, seval]) rfl rfl rfl
  ·refine wk_id ?_
   refine wk_id ?_
   refine reg_f ?_
   refine rs 3 [] [] (by kernel_rfl) allP_nil ?_
   refine rf [(0, .sl l.length (fl l)), (1, iS n), (5, iS (IntKind.i64.wrap (i7 + 1)))] [] 0 (by kernel_rfl) ?_
   exact hn2 ((IntKind.i64.wrap (i7 + 1))) _ _ _ (Option.some.inj h).symm (leSt_m [] [] (by simp only [push_cast, seval]) (by simp only [push_cast, seval]) rfl rfl rfl)
 ·change R2 (.exit 0) _ _ _
  refine ex_cast hx2 (id := 0) ?_
  obtain ⟨r0, h, e0⟩ := map_sx h
  have e1 := hr2 r0 e0.symm
  subst r0
  refine wk_id ?_
  refine wk_id ?_
  refine seq_np ?_
  refine reg_f ?_
  refine rs 1 [] [] (by kernel_rfl) allP_nil ?_
  refine rf [(4, bS false)] [] 0 (by kernel_rfl) ?_
  refine wk_id ?_
  obtain rfl := Option.some.inj h
  refine ret_at (bS false) (by kernel_rfl) ?_
  exact ret_e [] [] (by simp only [push_cast, seval]) (by simp only [push_cast, seval]) rfl rfl rfl

set_option maxRecDepth 100000 in
set_option maxHeartbeats 200000000 in
theorem taskmillref_Tells_spec (there : (List Int)) (c : GCall) (r : (List Int) × Bool) (h : taskmillref_Tells there c = some r) : SpecW Try.prog 15 [.sl there.length (fl there), .agg (Enc.cells c)] [] 0 (fun x h n => x = .tup [.sl r.1.length (fl r.1), bS r.2] ∧ h = [] ∧ n = 0) := by
 unfold taskmillref_Tells at h
 refine spec_of (draw_ok _) Try.func15 rfl (by decide) rfl (by kernel_rfl) ?_
 refine seq_np ?_
 refine reg_f ?_
 refine rs 3 [] [] (by kernel_rfl) allP_nil ?_
 refine rf [(0, .sl there.length (fl there)), (3, .ptr 0 0)] [(0, .row 36 (Enc.cells c))] 1 (by kernel_rfl) ?_
 refine wk_id ?_
 refine seq_np ?_
 refine seq_np ?_
 refine reg_f ?_
 refine rs 2 [] [] (by kernel_rfl) allP_nil ?_
 refine rf [(0, .sl there.length (fl there)), (3, .ptr 0 0), (8, iS c.Kind)] [(0, .row 36 (Enc.cells c))] 1 (by kernel_rfl) ?_
 refine wk_id ?_
 refine block_np ?_
 refine seq_np ?_
 refine reg_f ?_
 refine rs 2 [] [] (by kernel_rfl) allP_nil ?_
 refine rf [(0, .sl there.length (fl there)), (3, .ptr 0 0), (8, iS c.Kind), (9, bS (c.Kind == 1))] [(0, .row 36 (Enc.cells c))] 1 (by kernel_rfl) ?_
 refine wk_id ?_
 refine cond_sx h (by kernel_rfl) (fun g3360 h => ?_) (fun g3360 h => ?_)
 ·refine chk_sx h (fun g3313 h => ?_)
  refine chk_sx h (fun g3315 h => ?_)
  refine seq_np ?_
  refine reg_t ?_
  have k3312 : there.length * 8 ≤ 140737488355328 := by first | simpa only [Bool.and_eq_true, decide_eq_true_eq, bne_iff_ne, ne_eq] using g3313 | (simp at g3313 ⊢; omega)
  have k3314 : (there ++ ([c.Arg] : List Int)).length * 8 ≤ 140737488355328 := by first | simpa only [Bool.and_eq_true, decide_eq_true_eq, bne_iff_ne, ne_eq] using g3315 | (simp at g3315 ⊢; omega)
  refine rs 8 [none, some ⟨.own 2 0 there.length, [(2, .row 3 (fl there))], 3, []⟩, none, none, none, some ⟨.own 8 0 (there ++ ([c.Arg] : List Int)).length, [(8, .row 3 (fl (there ++ ([c.Arg] : List Int)))), (2, .dead)], 9, [2, 6]⟩] _ (by kernel_rfl) (allP_cons (ob_app (P := Try.prog) there ([c.Arg] : List Int) 1 8 rfl (appCells (fl ([c.Arg] : List Int)) 0 (([c.Arg] : List Int).length * 1)) ([c.Arg] : List Int).length (app_own ([c.Arg] : List Int) 1 rfl) rfl (0 + ([c.Arg] : List Int).length * 1 ≤ (fl ([c.Arg] : List Int)).length) (app_own_le ([c.Arg] : List Int) 1 rfl) 3 (by kernel_rfl) (by decide) k3314 2 8 [6]) (allP_cons (ob_app0 (P := Try.prog) there 1 8 rfl (fl there) there.length rfl rfl ((fl there).length = there.length * 1) (app_sl there 1 rfl) 3 (by kernel_rfl) (by decide) k3312 2 []) allP_nil)) ?_
  refine rt [(4, .own 8 0 (there ++ ([c.Arg] : List Int)).length), (5, bS true)] [(0, .row 36 (Enc.cells c)), (2, .dead), (6, .row 3 (fl ([c.Arg] : List Int))), (8, .row 3 (fl (there ++ ([c.Arg] : List Int))))] 12 follows (by kernel_rfl) ?_
  refine wk_id ?_
  obtain rfl := Option.some.inj h
  refine ret_at (.tup [.own 8 0 (there ++ ([c.Arg] : List Int)).length, bS true]) (by kernel_rfl) ?_
  exact ret_e [] [8] (by simp only [leS_frz, leS_cut, push_cast, seval]) (by simp only [leS_frz, leS_cut, push_cast, seval]) rfl rfl rfl
 ·refine seq_np ?_
  refine reg_f ?_
  refine rs 2 [] [] (by kernel_rfl) allP_nil ?_
  refine rf [(0, .sl there.length (fl there)), (3, .ptr 0 0), (17, bS (c.Kind == 2))] [(0, .row 36 (Enc.cells c))] 1 (by kernel_rfl) ?_
  refine wk_id ?_
  refine cond_sx h (by kernel_rfl) (fun g3359 h => ?_) (fun g3359 h => ?_)
  ·refine seq_np ?_
   refine seq_np ?_
   refine reg_f ?_
   refine rs 3 [] [] (by kernel_rfl) allP_nil ?_
   refine rf [(0, .sl there.length (fl there)), (3, .ptr 0 0), (21, bS (((there.length : Nat) : Int) == 0))] [(0, .row 36 (Enc.cells c))] 1 (by kernel_rfl) ?_
   refine wk_id ?_
   refine cond_sx h (by kernel_rfl) (fun g3328 h => ?_) (fun g3328 h => ?_)
   ·refine seq_np ?_
    refine reg_t ?_
    refine rs 6 [] [] (by kernel_rfl) allP_nil ?_
    refine rt [(4, .sl there.length (fl there)), (5, bS (!c.Ok))] [(0, .row 36 (Enc.cells c))] 7 follows (by kernel_rfl) ?_
    refine wk_id ?_
    obtain rfl := Option.some.inj h
    refine ret_at (.tup [.sl there.length (fl there), bS (!c.Ok)]) (by kernel_rfl) ?_
    exact ret_e [] [] (by simp only [push_cast, seval]) (by simp only [push_cast, seval]) rfl rfl rfl
   ·refine wk_id ?_
    refine chk_sx h (fun g3324 h => ?_)
    refine chk_sx h (fun g3327 h => ?_)
    refine seq_cut (A := Unit) (fun _ => ([(4, .sl (cut there (1 : Int) ((there.length : Nat) : Int)).length (fl (cut there (1 : Int) ((there.length : Nat) : Int)))), (5, bS (c.Ok && ((ix there (0 : Int)) == c.Ret)))], [(0, .row 36 (Enc.cells c))], 15)) (fun _ => True) (fun K3322 hK3322 => ?_) (fun _ _ => ?_)
    ·refine reg_t ?_
     have k3323 : 0 ≤ (1 : Int) ∧ (1 : Int) ≤ ((there.length : Nat) : Int) ∧ ((there.length : Nat) : Int) ≤ ((there.length : Nat) : Int) := by first | simpa only [Bool.and_eq_true, decide_eq_true_eq, bne_iff_ne, ne_eq] using g3324 | (simp at g3324 ⊢; omega)
     refine rs 5 [none, some ⟨.sl (cut there (1 : Int) ((there.length : Nat) : Int)).length (fl (cut there (1 : Int) ((there.length : Nat) : Int))), [], 2, []⟩] _ (by kernel_rfl) (allP_cons (ob_cut there (1 : Int) ((there.length : Nat) : Int) 1 2 rfl k3323) allP_nil) ?_
     refine run_split 30 c.Ok (.inl (by kernel_rfl)) (fun g3325 => ?_) (fun g3325 => ?_)
     ·have k3326 : 0 ≤ (0 : Int) ∧ (0 : Int) < ((there.length : Nat) : Int) := by have e := or_use g3327 (by first | ((try simp only [g3325]) <;> rfl) | ((try simp only [g3325]); rfl) | (exfalso; clear h; simp_all; done)); first | simpa only [Bool.and_eq_true, decide_eq_true_eq, bne_iff_ne, ne_eq] using e | (simp at e ⊢; omega)
      refine rs 9 [none, some ⟨.iptr (fl there) (((0 : Int)).toNat * 1), [], 7, []⟩, some ⟨iS (ix there (0 : Int)), [], 8, []⟩] _ (by kernel_rfl) (allP_cons (ob_ld there (0 : Int) 1 0 (((0 : Int)).toNat * 1) k3326 rfl (by decide) (by first | rfl | omega) (dflS Try.prog 3) (iS (ix there (0 : Int))) rfl 8 []) (allP_cons (ob_ix_l there 1 7 0 k3326) allP_nil)) ?_
      refine rt [(4, .sl (cut there (1 : Int) ((there.length : Nat) : Int)).length (fl (cut there (1 : Int) ((there.length : Nat) : Int)))), (5, bS ((ix there (0 : Int)) == c.Ret))] [(0, .row 36 (Enc.cells c))] 15 follows (by kernel_rfl) ?_
      exact hK3322 () _ _ _ trivial (leSt_m [(0, 0)] [] (by (try simp only [g3325]) <;> simp only [push_cast, seval]) (by (try simp only [g3325]) <;> simp only [push_cast, seval]) rfl rfl rfl)
     ·refine rs 9 [] [] (by kernel_rfl) allP_nil ?_
      refine rt [(4, .sl (cut there (1 : Int) ((there.length : Nat) : Int)).length (fl (cut there (1 : Int) ((there.length : Nat) : Int)))), (5, bS false)] [(0, .row 36 (Enc.cells c))] 15 follows (by kernel_rfl) ?_
      exact hK3322 () _ _ _ trivial (leSt_m [(0, 0)] [] (by (try simp only [g3325]) <;> simp only [push_cast, seval]) (by (try simp only [g3325]) <;> simp only [push_cast, seval]) rfl rfl rfl)
    ·dsimp only
     obtain rfl := Option.some.inj h
     refine ret_at (.tup [.sl (cut there (1 : Int) ((there.length : Nat) : Int)).length (fl (cut there (1 : Int) ((there.length : Nat) : Int))), bS (c.Ok && ((ix there (0 : Int)) == c.Ret))]) (by kernel_rfl) ?_
     exact ret_e [] [] (by simp only [push_cast, seval]) (by simp only [push_cast, seval]) rfl rfl rfl
  ·refine wk_id ?_
   refine wk_id ?_
   refine seq_np ?_
   refine reg_f ?_
   refine rs 1 [] [] (by kernel_rfl) allP_nil ?_
   refine rf [(0, .sl there.length (fl there)), (3, .ptr 0 0), (6, iS 0)] [(0, .row 36 (Enc.cells c))] 1 (by kernel_rfl) ?_
   refine wk_id ?_
   refine seq_cut (A := Int) (fun a => ([(0, .sl there.length (fl there)), (3, .ptr 0 0), (6, iS a)], [(0, .row 36 (Enc.cells c))], 1)) (fun a => (taskmillref_Tells_j2 there c a) = some r) (fun K3333 hK3333 => ?_) ?_
   ·refine seq_np ?_
    refine reg_f ?_
    refine rs 3 [] [] (by kernel_rfl) allP_nil ?_
    refine rf [(0, .sl there.length (fl there)), (3, .ptr 0 0), (6, iS 0), (40, bS (decide ((0 : Int) < ((there.length : Nat) : Int))))] [(0, .row 36 (Enc.cells c))] 1 (by kernel_rfl) ?_
    refine wk_id ?_
    refine cond_sx h (by kernel_rfl) (fun g3338 h => ?_) (fun g3338 h => ?_)
    ·refine chk_sx h (fun g3337 h => ?_)
     refine reg_f ?_
     have k3336 : 0 ≤ (0 : Int) ∧ (0 : Int) < ((there.length : Nat) : Int) := by first | simpa only [Bool.and_eq_true, decide_eq_true_eq, bne_iff_ne, ne_eq] using g3337 | (simp at g3337 ⊢; omega)
     refine rs 4 [none, some ⟨.iptr (fl there) (((0 : Int)).toNat * 1), [], 1, []⟩, some ⟨iS (ix there (0 : Int)), [], 1, []⟩] _ (by kernel_rfl) (allP_cons (ob_ld there (0 : Int) 1 0 (((0 : Int)).toNat * 1) k3336 rfl (by decide) (by first | rfl | omega) (dflS Try.prog 3) (iS (ix there (0 : Int))) rfl 1 []) (allP_cons (ob_ix_l there 1 1 0 k3336) allP_nil)) ?_
     refine rf [(0, .sl there.length (fl there)), (3, .ptr 0 0), (6, iS (ix there (0 : Int)))] [(0, .row 36 (Enc.cells c))] 1 (by kernel_rfl) ?_
     exact hK3333 ((ix there (0 : Int))) _ _ _ h (leSt_m [(0, 0)] [] (by simp only [push_cast, seval]) (by simp only [push_cast, seval]) rfl rfl rfl)
    ·exact hK3333 (0) _ _ _ h (leSt_m [(0, 0)] [] (by simp only [push_cast, seval]) (by simp only [push_cast, seval]) rfl rfl rfl)
   ·rintro n2 h
    try dsimp only at h ⊢
    unfold taskmillref_Tells_j2 at h
    refine seq_np ?_
    refine seq_np ?_
    refine reg_f ?_
    refine rs 2 [] [] (by kernel_rfl) allP_nil ?_
    refine rf [(0, .sl there.length (fl there)), (3, .ptr 0 0), (6, iS n2), (45, iS c.Kind)] [(0, .row 36 (Enc.cells c))] 1 (by kernel_rfl) ?_
    refine wk_id ?_
    refine block_cut (A := Int) (fun a => ([(6, iS a)], [], 0)) (fun a => (taskmillref_Tells_j1 a) = some r) (fun K3352 hK3352 => ?_) ?_
    ·refine seq_np ?_
     refine reg_f ?_
     refine rs 2 [] [] (by kernel_rfl) allP_nil ?_
     refine rf [(0, .sl there.length (fl there)), (3, .ptr 0 0), (6, iS n2), (45, iS c.Kind), (46, bS (c.Kind == 3))] [(0, .row 36 (Enc.cells c))] 1 (by kernel_rfl) ?_
     refine wk_id ?_
     refine cond_sx h (by kernel_rfl) (fun g3358 h => ?_) (fun g3358 h => ?_)
     ·refine reg_f ?_
      refine rs 3 [] [] (by kernel_rfl) allP_nil ?_
      refine rf [(6, iS c.Arg)] [(0, .row 36 (Enc.cells c))] 1 (by kernel_rfl) ?_
      exact hK3352 (c.Arg) _ _ _ h (leSt_m [] [] (by simp only [push_cast, seval]) (by simp only [push_cast, seval]) rfl rfl rfl)
     ·refine seq_np ?_
      refine reg_f ?_
      refine rs 2 [] [] (by kernel_rfl) allP_nil ?_
      refine rf [(0, .sl there.length (fl there)), (3, .ptr 0 0), (6, iS n2), (45, iS c.Kind), (50, bS (c.Kind == 4))] [(0, .row 36 (Enc.cells c))] 1 (by kernel_rfl) ?_
      refine wk_id ?_
      refine cond_sx h (by kernel_rfl) (fun g3357 h => ?_) (fun g3357 h => ?_)
      ·refine seq_np ?_
       refine reg_t ?_
       refine rs 7 [] [] (by kernel_rfl) allP_nil ?_
       refine rt [(4, .sl there.length (fl there)), (5, bS (n2 == c.Ret))] [(0, .row 36 (Enc.cells c))] 8 follows (by kernel_rfl) ?_
       refine wk_id ?_
       obtain rfl := Option.some.inj h
       refine ret_at (.tup [.sl there.length (fl there), bS (n2 == c.Ret)]) (by kernel_rfl) ?_
       exact ret_e [] [] (by simp only [push_cast, seval]) (by simp only [push_cast, seval]) rfl rfl rfl
      ·refine seq_np ?_
       refine reg_f ?_
       refine rs 2 [] [] (by kernel_rfl) allP_nil ?_
       refine rf [(0, .sl there.length (fl there)), (3, .ptr 0 0), (6, iS n2), (45, iS c.Kind), (57, bS (c.Kind == 5))] [(0, .row 36 (Enc.cells c))] 1 (by kernel_rfl) ?_
       refine wk_id ?_
       refine cond_sx h (by kernel_rfl) (fun g3356 h => ?_) (fun g3356 h => ?_)
       ·refine seq_np ?_
        refine reg_f ?_
        refine rs 5 [] [] (by kernel_rfl) allP_nil ?_
        refine rf [(3, .ptr 0 0), (6, iS (IntKind.i64.wrap (n2 + c.Arg)))] [(0, .row 36 (Enc.cells c))] 1 (by kernel_rfl) ?_
        refine wk_id ?_
        refine seq_np ?_
        refine reg_t ?_
        refine rs 8 [] [] (by kernel_rfl) allP_nil ?_
        refine rt [(4, .own 2 0 ([(IntKind.i64.wrap (n2 + c.Arg))] : List Int).length), (5, bS ((IntKind.i64.wrap (n2 + c.Arg)) == c.Ret))] [(0, .row 36 (Enc.cells c)), (2, .row 3 (fl ([(IntKind.i64.wrap (n2 + c.Arg))] : List Int)))] 10 follows (by kernel_rfl) ?_
        refine wk_id ?_
        obtain rfl := Option.some.inj h
        refine ret_at (.tup [.own 2 0 ([(IntKind.i64.wrap (n2 + c.Arg))] : List Int).length, bS ((IntKind.i64.wrap (n2 + c.Arg)) == c.Ret)]) (by kernel_rfl) ?_
        exact ret_e [] [2] (by simp only [leS_frz, leS_cut, push_cast, seval]) (by simp only [leS_frz, leS_cut, push_cast, seval]) rfl rfl rfl
       ·refine seq_np ?_
        refine reg_f ?_
        refine rs 2 [] [] (by kernel_rfl) allP_nil ?_
        refine rf [(0, .sl there.length (fl there)), (3, .ptr 0 0), (6, iS n2), (69, bS (c.Kind == 6))] [(0, .row 36 (Enc.cells c))] 1 (by kernel_rfl) ?_
        refine wk_id ?_
        refine cond_sx h (by kernel_rfl) (fun g3355 h => ?_) (fun g3355 h => ?_)
        ·refine seq_np ?_
         refine seq_np ?_
         refine reg_f ?_
         refine rs 4 [] [] (by kernel_rfl) allP_nil ?_
         refine rf [(0, .sl there.length (fl there)), (3, .ptr 0 0), (74, bS (n2 != c.Old))] [(0, .row 36 (Enc.cells c))] 1 (by kernel_rfl) ?_
         refine wk_id ?_
         refine cond_sx h (by kernel_rfl) (fun g3354 h => ?_) (fun g3354 h => ?_)
         ·refine seq_np ?_
          refine reg_t ?_
          refine rs 6 [] [] (by kernel_rfl) allP_nil ?_
          refine rt [(4, .sl there.length (fl there)), (5, bS (!c.Ok))] [(0, .row 36 (Enc.cells c))] 7 follows (by kernel_rfl) ?_
          refine wk_id ?_
          obtain rfl := Option.some.inj h
          refine ret_at (.tup [.sl there.length (fl there), bS (!c.Ok)]) (by kernel_rfl) ?_
          exact ret_e [] [] (by simp only [push_cast, seval]) (by simp only [push_cast, seval]) rfl rfl rfl
         ·refine wk_id ?_
          refine seq_np ?_
          refine reg_t ?_
          refine rs 7 [] [] (by kernel_rfl) allP_nil ?_
          refine rt [(4, .own 3 0 ([c.Arg] : List Int).length), (5, bS c.Ok)] [(0, .row 36 (Enc.cells c)), (3, .row 3 (fl ([c.Arg] : List Int)))] 9 follows (by kernel_rfl) ?_
          refine wk_id ?_
          obtain rfl := Option.some.inj h
          refine ret_at (.tup [.own 3 0 ([c.Arg] : List Int).length, bS c.Ok]) (by kernel_rfl) ?_
          exact ret_e [] [3] (by simp only [leS_frz, leS_cut, push_cast, seval]) (by simp only [leS_frz, leS_cut, push_cast, seval]) rfl rfl rfl
        ·exact hK3352 (n2) _ _ _ h (leSt_m [] [] (by simp only [push_cast, seval]) (by simp only [push_cast, seval]) rfl rfl rfl)
    ·rintro n4 h
     try dsimp only at h ⊢
     unfold taskmillref_Tells_j1 at h
     refine wk_id ?_
     refine seq_np ?_
     refine reg_f ?_
     refine rs 4 [] [] (by kernel_rfl) allP_nil ?_
     refine rf [(4, .own 0 0 ([n4] : List Int).length), (5, bS true)] [(0, .row 3 (fl ([n4] : List Int)))] 1 (by kernel_rfl) ?_
     refine wk_id ?_
     obtain rfl := Option.some.inj h
     refine ret_at (.tup [.own 0 0 ([n4] : List Int).length, bS true]) (by kernel_rfl) ?_
     exact ret_e [] [0] (by simp only [leS_frz, leS_cut, push_cast, seval]) (by simp only [leS_frz, leS_cut, push_cast, seval]) rfl rfl rfl

set_option maxRecDepth 100000 in
set_option maxHeartbeats 200000000 in
theorem taskmillref_OrderFault_spec (l : (List GCall)) (order : (List Int)) (r : Fault) (h : taskmillref_OrderFault l order = some r) : SpecW Try.prog 14 [.sl l.length (fl l), .sl order.length (fl order)] [] 0 (fun x h n => x = .agg (Enc.cells r) ∧ h = [] ∧ n = 0) := by
 unfold taskmillref_OrderFault at h
 refine spec_of (draw_ok _) Try.func14 rfl (by decide) rfl (by kernel_rfl) ?_
 refine seq_np ?_
 refine reg_f ?_
 refine rs 1 [] [] (by kernel_rfl) allP_nil ?_
 refine rf [(0, .sl l.length (fl l)), (1, .sl order.length (fl order)), (4, .ptr 0 0)] [(0, .row 26 [iS 0, iS 0])] 1 (by kernel_rfl) ?_
 refine wk_id ?_
 refine seq_np ?_
 refine seq_np ?_
 refine reg_f ?_
 refine rs 5 [] [] (by kernel_rfl) allP_nil ?_
 refine rf [(0, .sl l.length (fl l)), (1, .sl order.length (fl order)), (4, .ptr 0 0), (15, bS (((order.length : Nat) : Int) != ((l.length : Nat) : Int)))] [(0, .row 26 [iS 0, iS 0])] 1 (by kernel_rfl) ?_
 refine wk_id ?_
 refine cond_sx h (by kernel_rfl) (fun g5234 h => ?_) (fun g5234 h => ?_)
 ·refine seq_np ?_
  refine reg_f ?_
  obtain ⟨r4436, hr4436, h⟩ := bind_sx h
  refine run_call 12 [iS 8, iS 0] (some 16) (by kernel_rfl) ?_
  refine call_0 (taskmillref_F_spec 8 0 r4436 hr4436) (by simp only [push_cast, seval]) (by simp only [push_cast, seval]) ?_
  refine back_f ?_
  refine rs 1 [] [] (by kernel_rfl) allP_nil ?_
  refine rf [(4, .ptr 0 0)] [(0, .row 26 (Enc.cells r4436))] 1 (by kernel_rfl) ?_
  refine wk_id ?_
  obtain rfl := Option.some.inj h
  refine ret_at (.agg (Enc.cells r4436)) (by kernel_rfl) ?_
  exact ret_e [] [] (by simp only [push_cast, seval]) (by simp only [push_cast, seval]) rfl rfl rfl
 ·refine wk_id ?_
  refine seq_np ?_
  refine reg_f ?_
  refine rs 1 [] [] (by kernel_rfl) allP_nil ?_
  refine rf [(0, .sl l.length (fl l)), (1, .sl order.length (fl order)), (4, .ptr 0 0), (5, .v (.slice none 0 0))] [(0, .row 26 [iS 0, iS 0])] 1 (by kernel_rfl) ?_
  refine wk_id ?_
  refine seq_np ?_
  refine seq_np ?_
  refine reg_f ?_
  refine rs 1 [] [] (by kernel_rfl) allP_nil ?_
  refine rf [(0, .sl l.length (fl l)), (1, .sl order.length (fl order)), (4, .ptr 0 0), (5, .v (.slice none 0 0)), (6, iS 0)] [(0, .row 26 [iS 0, iS 0])] 1 (by kernel_rfl) ?_
  refine wk_id ?_
  refine block_np ?_
  refine loop_sx (S := (List Int) × Int) (fun a => ([(0, .sl l.length (fl l)), (1, .sl order.length (fl order)), (4, .ptr 0 0), (5, .sl a.1.length (fl a.1)), (6, iS a.2)], [(0, .row 26 [iS 0, iS 0])], 1)) h (leSt_m [(0, 0)] [] (by simp only [push_cast, seval]) (by simp only [push_cast, seval]) rfl rfl rfl) ?_
  rintro ⟨there7, n7⟩ o3 R3 h hr3 hn3 hx3 ht3
  try dsimp only at h hn3 ⊢
  unfold taskmillref_OrderFault_l2 at h
  try dsimp only at h
  refine seq_np ?_
  refine seq_np ?_
  refine reg_f ?_
  refine rs 4 [] [] (by kernel_rfl) allP_nil ?_
  refine rf [(0, .sl l.length (fl l)), (1, .sl order.length (fl order)), (4, .ptr 0 0), (5, .sl there7.length (fl there7)), (6, iS n7), (20, bS (decide (n7 < ((order.length : Nat) : Int))))] [(0, .row 26 [iS 0, iS 0])] 1 (by kernel_rfl) ?_
  refine wk_id ?_
  refine cond_sx h (by kernel_rfl) (fun g5233 h => ?_) (fun g5233 h => ?_)
  ·refine wk_id ?_
   refine seq_np ?_
   refine block_np ?_
   refine chk_sx h (fun g5032 h => ?_)
   refine seq_np ?_
   refine reg_f ?_
   have k5031 : 0 ≤ n7 ∧ n7 < ((order.length : Nat) : Int) := by first | simpa only [Bool.and_eq_true, decide_eq_true_eq, bne_iff_ne, ne_eq] using g5032 | (simp at g5032 ⊢; omega)
   refine rs 5 [none, none, some ⟨.iptr (fl order) ((n7).toNat * 1), [], 1, []⟩, some ⟨iS (ix order n7), [], 1, []⟩] _ (by kernel_rfl) (allP_cons (ob_ld order n7 1 0 ((n7).toNat * 1) k5031 rfl (by decide) (by first | rfl | omega) (dflS Try.prog 3) (iS (ix order n7)) rfl 1 []) (allP_cons (ob_ix_l order 1 1 n7 k5031) allP_nil)) ?_
   refine rf [(0, .sl l.length (fl l)), (1, .sl order.length (fl order)), (4, .ptr 0 0), (5, .sl there7.length (fl there7)), (6, iS n7), (7, iS (ix order n7))] [(0, .row 26 [iS 0, iS 0])] 1 (by kernel_rfl) ?_
   refine wk_id ?_
   refine seq_np ?_
   refine seq_cut (A := Unit) (fun _ => ([(0, .sl l.length (fl l)), (1, .sl order.length (fl order)), (4, .ptr 0 0), (5, .sl there7.length (fl there7)), (6, iS n7), (7, iS (ix order n7)), (34, bS ((decide ((ix order n7) < 0)) || (decide (((l.length : Nat) : Int) ≤ (ix order n7)))))], [(0, .row 26 [iS 0, iS 0])], 1)) (fun _ => True) (fun K5037 hK5037 => ?_) (fun _ _ => ?_)
   ·refine reg_f ?_
    refine rs 3 [] [] (by kernel_rfl) allP_nil ?_
    refine run_split 29 (decide ((ix order n7) < 0)) (.inl (by kernel_rfl)) (fun g5038 => ?_) (fun g5038 => ?_)
    ·refine rs 5 [] [] (by kernel_rfl) allP_nil ?_
     refine rf [(0, .sl l.length (fl l)), (1, .sl order.length (fl order)), (4, .ptr 0 0), (5, .sl there7.length (fl there7)), (6, iS n7), (7, iS (ix order n7)), (34, bS true)] [(0, .row 26 [iS 0, iS 0])] 1 (by kernel_rfl) ?_
     exact hK5037 () _ _ _ trivial (leSt_m [(0, 0)] [] (by (try simp only [g5038]) <;> simp only [push_cast, seval]) (by (try simp only [g5038]) <;> simp only [push_cast, seval]) rfl rfl rfl)
    ·refine rs 5 [] [] (by kernel_rfl) allP_nil ?_
     refine rf [(0, .sl l.length (fl l)), (1, .sl order.length (fl order)), (4, .ptr 0 0), (5, .sl there7.length (fl there7)), (6, iS n7), (7, iS (ix order n7)), (34, bS (decide (((l.length : Nat) : Int) ≤ (ix order n7))))] [(0, .row 26 [iS 0, iS 0])] 1 (by kernel_rfl) ?_
     exact hK5037 () _ _ _ trivial (leSt_m [(0, 0)] [] (by (try simp only [g5038]) <;> simp only [push_cast, seval]) (by (try simp only [g5038]) <;> simp only [push_cast, seval]) rfl rfl rfl)
   ·dsimp only
    refine cond_sx h (by kernel_rfl) (fun g5232 h => ?_) (fun g5232 h => ?_)
    ·refine seq_np ?_
     refine reg_f ?_
     refine rs 1 [] [] (by kernel_rfl) allP_nil ?_
     obtain ⟨r5040, hr5040, h⟩ := bind_sx h
     refine run_call 12 [iS 3, iS n7] (some 36) (by kernel_rfl) ?_
     refine call_0 (taskmillref_F_spec 3 n7 r5040 hr5040) (by simp only [push_cast, seval]) (by simp only [push_cast, seval]) ?_
     refine back_f ?_
     refine rs 1 [] [] (by kernel_rfl) allP_nil ?_
     refine rf [(4, .ptr 0 0)] [(0, .row 26 (Enc.cells r5040))] 1 (by kernel_rfl) ?_
     refine wk_id ?_
     refine rt_cast ht3 ?_
     obtain ⟨r0, h, e0⟩ := map_sx h
     have e1 := hr3 r0 e0.symm
     subst r0
     obtain rfl := Option.some.inj h
     refine ret_at (.agg (Enc.cells r5040)) (by kernel_rfl) ?_
     exact ret_e [] [] (by simp only [push_cast, seval]) (by simp only [push_cast, seval]) rfl rfl rfl
    ·refine wk_id ?_
     refine seq_np ?_
     refine chk_sx h (fun g5050 h => ?_)
     refine seq_np ?_
     refine reg_f ?_
     have k5049 : 0 ≤ (0 : Int) ∧ (0 : Int) ≤ n7 ∧ n7 ≤ ((order.length : Nat) : Int) := by first | simpa only [Bool.and_eq_true, decide_eq_true_eq, bne_iff_ne, ne_eq] using g5050 | (simp at g5050 ⊢; omega)
     refine rs 4 [none, none, some ⟨.sl (cut order (0 : Int) n7).length (fl (cut order (0 : Int) n7)), [], 1, []⟩] _ (by kernel_rfl) (allP_cons (ob_cut order (0 : Int) n7 1 1 rfl k5049) allP_nil) ?_
     obtain ⟨r5051, hr5051, h⟩ := bind_sx h
     refine run_call 24 [.sl (cut order (0 : Int) n7).length (fl (cut order (0 : Int) n7)), iS (ix order n7)] (some 41) (by kernel_rfl) ?_
     refine call_0 (taskmillref_Has_spec (cut order (0 : Int) n7) (ix order n7) r5051 hr5051) (by simp only [push_cast, seval]) (by simp only [push_cast, seval]) ?_
     refine back_f ?_
     refine rf [(0, .sl l.length (fl l)), (1, .sl order.length (fl order)), (4, .ptr 0 0), (5, .sl there7.length (fl there7)), (6, iS n7), (7, iS (ix order n7)), (41, bS r5051)] [(0, .row 26 [iS 0, iS 0])] 1 (by kernel_rfl) ?_
     refine wk_id ?_
     refine cond_sx h (by kernel_rfl) (fun g5231 h => ?_) (fun g5231 h => ?_)
     ·refine seq_np ?_
      refine reg_f ?_
      refine rs 1 [] [] (by kernel_rfl) allP_nil ?_
      obtain ⟨r5053, hr5053, h⟩ := bind_sx h
      refine run_call 12 [iS 10, iS n7] (some 43) (by kernel_rfl) ?_
      refine call_0 (taskmillref_F_spec 10 n7 r5053 hr5053) (by simp only [push_cast, seval]) (by simp only [push_cast, seval]) ?_
      refine back_f ?_
      refine rs 1 [] [] (by kernel_rfl) allP_nil ?_
      refine rf [(4, .ptr 0 0)] [(0, .row 26 (Enc.cells r5053))] 1 (by kernel_rfl) ?_
      refine wk_id ?_
      refine rt_cast ht3 ?_
      obtain ⟨r0, h, e0⟩ := map_sx h
      have e1 := hr3 r0 e0.symm
      subst r0
      obtain rfl := Option.some.inj h
      refine ret_at (.agg (Enc.cells r5053)) (by kernel_rfl) ?_
      exact ret_e [] [] (by simp only [push_cast, seval]) (by simp only [push_cast, seval]) rfl rfl rfl
     ·refine wk_id ?_
      refine seq_np ?_
      refine seq_np ?_
      refine reg_f ?_
      refine rs 1 [] [] (by kernel_rfl) allP_nil ?_
      refine rf [(0, .sl l.length (fl l)), (1, .sl order.length (fl order)), (4, .ptr 0 0), (5, .sl there7.length (fl there7)), (6, iS n7), (7, iS (ix order n7)), (8, iS 0)] [(0, .row 26 [iS 0, iS 0])] 1 (by kernel_rfl) ?_
      refine wk_id ?_
      refine block_np ?_
      refine loop_sx (S := Int) (fun a => ([(0, .sl l.length (fl l)), (1, .sl order.length (fl order)), (4, .ptr 0 0), (5, .sl there7.length (fl there7)), (6, iS n7), (7, iS (ix order n7)), (8, iS a)], [(0, .row 26 [iS 0, iS 0])], 1)) h (leSt_m [(0, 0)] [] (by simp only [push_cast, seval]) (by simp only [push_cast, seval]) rfl rfl rfl) ?_
      rintro k31 o4 R4 h hr4 hn4 hx4 ht4
      try dsimp only at h hn4 ⊢
      unfold taskmillref_OrderFault_l1 at h
      try dsimp only at h
      refine seq_np ?_
      refine seq_np ?_
      refine reg_f ?_
      refine rs 4 [] [] (by kernel_rfl) allP_nil ?_
      refine rf [(0, .sl l.length (fl l)), (1, .sl order.length (fl order)), (4, .ptr 0 0), (5, .sl there7.length (fl there7)), (6, iS n7), (7, iS (ix order n7)), (8, iS k31), (47, bS (decide (k31 < ((l.length : Nat) : Int))))] [(0, .row 26 [iS 0, iS 0])] 1 (by kernel_rfl) ?_
      refine wk_id ?_
      refine cond_sx h (by kernel_rfl) (fun g5230 h => ?_) (fun g5230 h => ?_)
      ·refine wk_id ?_
       refine seq_np ?_
       refine block_np ?_
       refine seq_cut (A := Bool) (fun a => ([(0, .sl l.length (fl l)), (1, .sl order.length (fl order)), (4, .ptr 0 0), (5, .sl there7.length (fl there7)), (6, iS n7), (7, iS (ix order n7)), (8, iS k31), (73, bS a)], [(0, .row 26 [iS 0, iS 0])], 1)) (fun a => (taskmillref_OrderFault_j1 l order there7 n7 k31 a) = some o4) (fun K5206 hK5206 => ?_) ?_
       ·refine reg_t ?_
        refine rs 4 [] [] (by kernel_rfl) allP_nil ?_
        refine run_br h 53 (.inl (by kernel_rfl)) (fun g5207 h => ?_) (fun g5207 h => ?_)
        ·refine chk_sx h (fun g5209 h => ?_)
         have k5208 : 0 ≤ (0 : Int) ∧ (0 : Int) ≤ n7 ∧ n7 ≤ ((order.length : Nat) : Int) := by first | simpa only [Bool.and_eq_true, decide_eq_true_eq, bne_iff_ne, ne_eq] using g5209 | (simp at g5209 ⊢; omega)
         refine rs 4 [none, none, some ⟨.sl (cut order (0 : Int) n7).length (fl (cut order (0 : Int) n7)), [], 7, []⟩] _ (by kernel_rfl) (allP_cons (ob_cut order (0 : Int) n7 1 7 rfl k5208) allP_nil) ?_
         obtain ⟨r5210, hr5210, h⟩ := bind_sx h
         refine run_call 24 [.sl (cut order (0 : Int) n7).length (fl (cut order (0 : Int) n7)), iS k31] (some 58) (by kernel_rfl) ?_
         refine callE_0 (taskmillref_Has_spec (cut order (0 : Int) n7) k31 r5210 hr5210) (by simp only [push_cast, seval]) (by simp only [push_cast, seval]) ?_
         refine back_t ?_
         refine rs 3 [] [] (by kernel_rfl) allP_nil ?_
         refine run_br h 61 (.inl (by kernel_rfl)) (fun g5211 h => ?_) (fun g5211 h => ?_)
         ·refine rn 12 [(0, .sl l.length (fl l)), (1, .sl order.length (fl order)), (4, .ptr 0 0), (5, .sl there7.length (fl there7)), (6, iS n7), (7, iS (ix order n7)), (8, iS k31), (61, bS true)] [(0, .row 26 [iS 0, iS 0])] 13 (by kernel_rfl) ?_
          refine chk_sx h (fun g5213 h => ?_)
          have k5212 : 0 ≤ k31 ∧ k31 < ((l.length : Nat) : Int) := by first | simpa only [Bool.and_eq_true, decide_eq_true_eq, bne_iff_ne, ne_eq] using g5213 | (simp at g5213 ⊢; omega)
          refine chk_sx h (fun g5215 h => ?_)
          have k5214 : 0 ≤ (ix order n7) ∧ (ix order n7) < ((l.length : Nat) : Int) := by first | simpa only [Bool.and_eq_true, decide_eq_true_eq, bne_iff_ne, ne_eq] using g5215 | (simp at g5215 ⊢; omega)
          refine rs 12 [none, none, some ⟨.iptr (fl l) ((k31).toNat * 7), [], 15, []⟩, none, some ⟨iS (ix l k31).End, [], 17, []⟩, none, none, some ⟨.iptr (fl l) (((ix order n7)).toNat * 7), [], 20, []⟩, none, some ⟨iS (ix l (ix order n7)).Begin, [], 22, []⟩] _ (by kernel_rfl) (allP_cons (ob_ld l (ix order n7) 7 0 ((((ix order n7)).toNat * 7) + 0) k5214 rfl (by decide) (by first | rfl | omega) (dflS Try.prog 3) (iS (ix l (ix order n7)).Begin) rfl 22 []) (allP_cons (ob_ix_l l 7 20 (ix order n7) k5214) (allP_cons (ob_ld l k31 7 1 (((k31).toNat * 7) + 1) k5212 rfl (by decide) (by first | rfl | omega) (dflS Try.prog 3) (iS (ix l k31).End) rfl 17 []) (allP_cons (ob_ix_l l 7 15 k31 k5212) allP_nil)))) ?_
          refine rt [(0, .sl l.length (fl l)), (1, .sl order.length (fl order)), (4, .ptr 0 0), (5, .sl there7.length (fl there7)), (6, iS n7), (7, iS (ix order n7)), (8, iS k31), (73, bS (decide ((ix l k31).End < (ix l (ix order n7)).Begin)))] [(0, .row 26 [iS 0, iS 0])] 25 follows (by kernel_rfl) ?_
          exact hK5206 ((decide ((ix l k31).End < (ix l (ix order n7)).Begin))) _ _ _ h (leSt_m [(0, 0)] [] (by first | ((try simp only [g5207, g5211]) <;> simp only [push_cast, seval]; done) | ((try simp only [g5207]); (try simp only [g5211]); simp only [push_cast, seval]; done) | (exfalso; clear h; simp_all; done)) (by first | ((try simp only [g5207, g5211]) <;> simp only [push_cast, seval]; done) | ((try simp only [g5207]); (try simp only [g5211]); simp only [push_cast, seval]; done) | (exfalso; clear h; simp_all; done)) rfl rfl rfl)
         ·refine rn 12 [(0, .sl l.length (fl l)), (1, .sl order.length (fl order)), (4, .ptr 0 0), (5, .sl there7.length (fl there7)), (6, iS n7), (7, iS (ix order n7)), (8, iS k31), (61, bS false)] [(0, .row 26 [iS 0, iS 0])] 13 (by kernel_rfl) ?_
          refine rs 12 [] [] (by kernel_rfl) allP_nil ?_
          refine rt [(0, .sl l.length (fl l)), (1, .sl order.length (fl order)), (4, .ptr 0 0), (5, .sl there7.length (fl there7)), (6, iS n7), (7, iS (ix order n7)), (8, iS k31), (73, bS false)] [(0, .row 26 [iS 0, iS 0])] 25 follows (by kernel_rfl) ?_
          exact hK5206 (false) _ _ _ h (leSt_m [(0, 0)] [] (by first | ((try simp only [g5207, g5211]) <;> simp only [push_cast, seval]; done) | ((try simp only [g5207]); (try simp only [g5211]); simp only [push_cast, seval]; done) | (exfalso; clear h; simp_all; done)) (by first | ((try simp only [g5207, g5211]) <;> simp only [push_cast, seval]; done) | ((try simp only [g5207]); (try simp only [g5211]); simp only [push_cast, seval]; done) | (exfalso; clear h; simp_all; done)) rfl rfl rfl)
        ·refine rs 20 [] [] (by kernel_rfl) allP_nil ?_
         refine rt [(0, .sl l.length (fl l)), (1, .sl order.length (fl order)), (4, .ptr 0 0), (5, .sl there7.length (fl there7)), (6, iS n7), (7, iS (ix order n7)), (8, iS k31), (73, bS false)] [(0, .row 26 [iS 0, iS 0])] 25 follows (by kernel_rfl) ?_
         exact hK5206 (false) _ _ _ h (leSt_m [(0, 0)] [] (by (try simp only [g5207]) <;> simp only [push_cast, seval]) (by (try simp only [g5207]) <;> simp only [push_cast, seval]) rfl rfl rfl)
       ·rintro t73q49 h
        try dsimp only at h ⊢
        unfold taskmillref_OrderFault_j1 at h
        refine cond_sx h (by kernel_rfl) (fun g5218 h => ?_) (fun g5218 h => ?_)
        ·refine seq_np ?_
         refine reg_f ?_
         refine rs 1 [] [] (by kernel_rfl) allP_nil ?_
         obtain ⟨r5217, hr5217, h⟩ := bind_sx h
         refine run_call 12 [iS 11, iS n7] (some 75) (by kernel_rfl) ?_
         refine call_0 (taskmillref_F_spec 11 n7 r5217 hr5217) (by simp only [push_cast, seval]) (by simp only [push_cast, seval]) ?_
         refine back_f ?_
         refine rs 1 [] [] (by kernel_rfl) allP_nil ?_
         refine rf [(4, .ptr 0 0)] [(0, .row 26 (Enc.cells r5217))] 1 (by kernel_rfl) ?_
         refine wk_id ?_
         refine rt_cast ht4 ?_
         obtain ⟨r0, h, e0⟩ := map_sx h
         have e1 := hr4 r0 e0.symm
         subst r0
         refine rt_cast ht3 ?_
         obtain ⟨r0, h, e0⟩ := map_sx h
         have e1 := hr3 r0 e0.symm
         subst r0
         obtain rfl := Option.some.inj h
         refine ret_at (.agg (Enc.cells r5217)) (by kernel_rfl) ?_
         exact ret_e [] [] (by simp only [push_cast, seval]) (by simp only [push_cast, seval]) rfl rfl rfl
        ·refine wk_id ?_
         refine wk_id ?_
         refine reg_f ?_
         refine rs 3 [] [] (by kernel_rfl) allP_nil ?_
         refine rf [(0, .sl l.length (fl l)), (1, .sl order.length (fl order)), (4, .ptr 0 0), (5, .sl there7.length (fl there7)), (6, iS n7), (7, iS (ix order n7)), (8, iS (IntKind.i64.wrap (k31 + 1)))] [(0, .row 26 [iS 0, iS 0])] 1 (by kernel_rfl) ?_
         exact hn4 ((IntKind.i64.wrap (k31 + 1))) _ _ _ (Option.some.inj h).symm (leSt_m [(0, 0)] [] (by simp only [push_cast, seval]) (by simp only [push_cast, seval]) rfl rfl rfl)
      ·change R4 (.exit 2) _ _ _
       refine ex_cast hx4 (id := 2) ?_
       obtain ⟨r0, h, e0⟩ := map_sx h
       have e1 := hr4 r0 e0.symm
       subst r0
       refine wk_id ?_
       refine wk_id ?_
       refine chk_sx h (fun g5223 h => ?_)
       refine seq_np ?_
       refine reg_f ?_
       have k5222 : 0 ≤ (ix order n7) ∧ (ix order n7) < ((l.length : Nat) : Int) := by first | simpa only [Bool.and_eq_true, decide_eq_true_eq, bne_iff_ne, ne_eq] using g5223 | (simp at g5223 ⊢; omega)
       refine rs 5 [none, none, none, some ⟨.iptr (fl l) (((ix order n7)).toNat * 7), [], 1, []⟩, some ⟨.agg (Enc.cells (ix l (ix order n7))), [], 1, []⟩] _ (by kernel_rfl) (allP_cons (ob_ldw l (ix order n7) 7 (((ix order n7)).toNat * 7) k5222 rfl (by first | rfl | omega) (Enc.cells (ix l (ix order n7))) rfl 1 []) (allP_cons (ob_ix_l l 7 1 (ix order n7) k5222) allP_nil)) ?_
       obtain ⟨r5224, hr5224, h⟩ := bind_sx h
       refine run_call 15 [.sl there7.length (fl there7), .agg (Enc.cells (ix l (ix order n7)))] (some 82) (by kernel_rfl) ?_
       refine call_0 (taskmillref_Tells_spec there7 (ix l (ix order n7)) r5224 hr5224) (by simp only [push_cast, seval]) (by simp only [push_cast, seval]) ?_
       refine back_f ?_
       refine rs 5 [] [] (by kernel_rfl) allP_nil ?_
       refine rf [(0, .sl l.length (fl l)), (1, .sl order.length (fl order)), (4, .ptr 0 0), (6, iS n7), (9, .sl r5224.1.length (fl r5224.1)), (10, bS r5224.2)] [(0, .row 26 [iS 0, iS 0])] 1 (by kernel_rfl) ?_
       refine wk_id ?_
       refine seq_np ?_
       refine seq_np ?_
       refine reg_f ?_
       refine rs 2 [] [] (by kernel_rfl) allP_nil ?_
       refine rf [(0, .sl l.length (fl l)), (1, .sl order.length (fl order)), (4, .ptr 0 0), (6, iS n7), (9, .sl r5224.1.length (fl r5224.1)), (86, bS (!r5224.2))] [(0, .row 26 [iS 0, iS 0])] 1 (by kernel_rfl) ?_
       refine wk_id ?_
       refine cond_sx h (by kernel_rfl) (fun g5229 h => ?_) (fun g5229 h => ?_)
       ·refine seq_np ?_
        refine reg_f ?_
        refine rs 1 [] [] (by kernel_rfl) allP_nil ?_
        obtain ⟨r5228, hr5228, h⟩ := bind_sx h
        refine run_call 12 [iS 7, iS n7] (some 88) (by kernel_rfl) ?_
        refine call_0 (taskmillref_F_spec 7 n7 r5228 hr5228) (by simp only [push_cast, seval]) (by simp only [push_cast, seval]) ?_
        refine back_f ?_
        refine rs 1 [] [] (by kernel_rfl) allP_nil ?_
        refine rf [(4, .ptr 0 0)] [(0, .row 26 (Enc.cells r5228))] 1 (by kernel_rfl) ?_
        refine wk_id ?_
        refine rt_cast ht3 ?_
        obtain ⟨r0, h, e0⟩ := map_sx h
        have e1 := hr3 r0 e0.symm
        subst r0
        obtain rfl := Option.some.inj h
        refine ret_at (.agg (Enc.cells r5228)) (by kernel_rfl) ?_
        exact ret_e [] [] (by simp only [push_cast, seval]) (by simp only [push_cast, seval]) rfl rfl rfl
       ·refine wk_id ?_
        refine reg_f ?_
        refine rs 2 [] [] (by kernel_rfl) allP_nil ?_
        refine rf [(0, .sl l.length (fl l)), (1, .sl order.length (fl order)), (4, .ptr 0 0), (5, .sl r5224.1.length (fl r5224.1)), (6, iS n7)] [(0, .row 26 [iS 0, iS 0])] 1 (by kernel_rfl) ?_
        refine wk_id ?_
        refine wk_id ?_
        refine reg_f ?_
        refine rs 3 [] [] (by kernel_rfl) allP_nil ?_
        refine rf [(0, .sl l.length (fl l)), (1, .sl order.length (fl order)), (4, .ptr 0 0), (5, .sl r5224.1.length (fl r5224.1)), (6, iS (IntKind.i64.wrap (n7 + 1)))] [(0, .row 26 [iS 0, iS 0])] 1 (by kernel_rfl) ?_
        exact hn3 (r5224.1, (IntKind.i64.wrap (n7 + 1))) _ _ _ (Option.some.inj h).symm (leSt_m [(0, 0)] [] (by simp only [push_cast, seval]) (by simp only [push_cast, seval]) rfl rfl rfl)
  ·change R3 (.exit 0) _ _ _
   refine ex_cast hx3 (id := 0) ?_
   obtain ⟨r0, h, e0⟩ := map_sx h
   have e1 := hr3 r0 e0.symm
   subst r0
   refine wk_id ?_
   refine wk_id ?_
   refine seq_np ?_
   refine reg_f ?_
   refine rs 2 [] [] (by kernel_rfl) allP_nil ?_
   refine rf [(4, .ptr 0 0)] [(0, .row 26 [iS 0, iS 0])] 1 (by kernel_rfl) ?_
   refine wk_id ?_
   obtain rfl := Option.some.inj h
   refine ret_at (.agg [iS 0, iS 0]) (by kernel_rfl) ?_
   exact ret_e [] [] (by simp only [push_cast, seval]) (by simp only [push_cast, seval]) rfl rfl rfl

set_option maxRecDepth 100000 in
set_option maxHeartbeats 200000000 in
theorem taskmilllaw_own_spec (l : (List Int)) (r : (List Int)) (h : taskmilllaw_own l = some r) : SpecW Try.prog 18 [.sl l.length (fl l)] [] 0 (fun x h n => x = .own 0 0 r.length ∧ h = [(0, .row 3 (fl r))] ∧ n = 1) := by
 unfold taskmilllaw_own at h
 refine spec_of (draw_ok _) Try.func18 rfl (by decide) rfl (by kernel_rfl) ?_
 refine seq_np ?_
 refine reg_f ?_
 refine rs 1 [] [] (by kernel_rfl) allP_nil ?_
 refine rf [(0, .sl l.length (fl l))] [] 0 (by kernel_rfl) ?_
 refine wk_id ?_
 refine chk_sx h (fun g6468 h => ?_)
 refine seq_np ?_
 refine reg_f ?_
 have k6467 : l.length * 8 ≤ 140737488355328 := by first | simpa only [Bool.and_eq_true, decide_eq_true_eq, bne_iff_ne, ne_eq] using g6468 | (simp at g6468 ⊢; omega)
 refine rs 3 [none, some ⟨.own 0 0 l.length, [(0, .row 3 (fl l))], 1, []⟩] _ (by kernel_rfl) (allP_cons (ob_app0 (P := Try.prog) l 1 8 rfl (fl l) l.length rfl rfl ((fl l).length = l.length * 1) (app_sl l 1 rfl) 3 (by kernel_rfl) (by decide) k6467 0 []) allP_nil) ?_
 refine rf [(2, .own 0 0 l.length)] [(0, .row 3 (fl l))] 1 (by kernel_rfl) ?_
 refine wk_id ?_
 obtain rfl := Option.some.inj h
 refine ret_at (.own 0 0 l.length) (by kernel_rfl) ?_
 exact ret_e [(0, 0)] [] (by simp only [push_cast, seval]) (by simp only [push_cast, seval]) rfl rfl rfl

set_option maxRecDepth 100000 in
set_option maxHeartbeats 200000000 in
theorem linear_Play_spec (kind : Int) (l : (List GCall)) (order : (List Int)) (r : Fault) (h : linear_Play kind l order = some r) : SpecW Try.prog 17 [iS kind, .sl l.length (fl l), .sl order.length (fl order)] [] 0 (fun x h n => x = .agg (Enc.cells r) ∧ h = [] ∧ n = 0) := by
 unfold linear_Play at h
 refine spec_of (draw_ok _) Try.func17 rfl (by decide) rfl (by kernel_rfl) ?_
 refine seq_np ?_
 refine reg_f ?_
 refine rs 1 [] [] (by kernel_rfl) allP_nil ?_
 refine rf [(0, iS kind), (1, .sl l.length (fl l)), (2, .sl order.length (fl order)), (6, .ptr 0 0)] [(0, .row 26 [iS 0, iS 0])] 1 (by kernel_rfl) ?_
 refine wk_id ?_
 refine seq_np ?_
 refine seq_np ?_
 refine reg_f ?_
 refine rs 2 [] [] (by kernel_rfl) allP_nil ?_
 obtain ⟨r6926, hr6926, h⟩ := bind_sx h
 refine run_call 16 [iS kind, .sl l.length (fl l)] (some 18) (by kernel_rfl) ?_
 refine call_0 (linear_Check_spec kind l r6926 hr6926) (by simp only [push_cast, seval]) (by simp only [push_cast, seval]) ?_
 refine back_f ?_
 refine rs 2 [] [] (by kernel_rfl) allP_nil ?_
 refine rf [(0, iS kind), (1, .sl l.length (fl l)), (2, .sl order.length (fl order)), (6, .ptr 0 0), (7, .ptr 1 0)] [(0, .row 26 [iS 0, iS 0]), (1, .row 26 (Enc.cells r6926))] 2 (by kernel_rfl) ?_
 refine wk_id ?_
 refine seq_np ?_
 refine reg_f ?_
 refine rs 3 [] [] (by kernel_rfl) allP_nil ?_
 refine rf [(0, iS kind), (1, .sl l.length (fl l)), (2, .sl order.length (fl order)), (6, .ptr 0 0), (7, .ptr 1 0), (21, bS (r6926.Code != 0))] [(0, .row 26 [iS 0, iS 0]), (1, .row 26 (Enc.cells r6926))] 2 (by kernel_rfl) ?_
 refine wk_id ?_
 refine cond_sx h (by kernel_rfl) (fun g8917 h => ?_) (fun g8917 h => ?_)
 ·refine seq_np ?_
  refine reg_f ?_
  refine rs 2 [] [] (by kernel_rfl) allP_nil ?_
  refine rf [(6, .ptr 0 0)] [(0, .row 26 (Enc.cells r6926)), (1, .row 26 (Enc.cells r6926))] 2 (by kernel_rfl) ?_
  refine wk_id ?_
  obtain rfl := Option.some.inj h
  refine ret_at (.agg (Enc.cells r6926)) (by kernel_rfl) ?_
  exact ret_e [] [] (by simp only [push_cast, seval]) (by simp only [push_cast, seval]) rfl rfl rfl
 ·refine wk_id ?_
  refine seq_np ?_
  refine seq_np ?_
  refine reg_f ?_
  refine rs 5 [] [] (by kernel_rfl) allP_nil ?_
  refine rf [(0, iS kind), (1, .sl l.length (fl l)), (2, .sl order.length (fl order)), (6, .ptr 0 0), (27, bS (((order.length : Nat) : Int) != ((l.length : Nat) : Int)))] [(0, .row 26 [iS 0, iS 0]), (1, .row 26 (Enc.cells r6926))] 2 (by kernel_rfl) ?_
  refine wk_id ?_
  refine cond_sx h (by kernel_rfl) (fun g8916 h => ?_) (fun g8916 h => ?_)
  ·refine seq_np ?_
   refine reg_f ?_
   obtain ⟨r6930, hr6930, h⟩ := bind_sx h
   refine run_call 22 [iS 8, iS 0] (some 28) (by kernel_rfl) ?_
   refine call_0 (linear_fault_spec 8 0 r6930 hr6930) (by simp only [push_cast, seval]) (by simp only [push_cast, seval]) ?_
   refine back_f ?_
   refine rs 1 [] [] (by kernel_rfl) allP_nil ?_
   refine rf [(6, .ptr 0 0)] [(0, .row 26 (Enc.cells r6930)), (1, .row 26 (Enc.cells r6926))] 2 (by kernel_rfl) ?_
   refine wk_id ?_
   obtain rfl := Option.some.inj h
   refine ret_at (.agg (Enc.cells r6930)) (by kernel_rfl) ?_
   exact ret_e [] [] (by simp only [push_cast, seval]) (by simp only [push_cast, seval]) rfl rfl rfl
  ·refine wk_id ?_
   refine bsplit_sx h (fun g6931 h => ?_) (fun g6931 h => ?_)
   ·refine seq_np ?_
    refine reg_f ?_
    refine rs 1 [] [] (by kernel_rfl) allP_nil ?_
    obtain ⟨r6933, hr6933, h⟩ := bind_sx h
    refine run_call 21 [iS kind] (some 30) (by kernel_rfl) ?_
    refine call_0 (linear_begin_spec kind g6931 r6933 hr6933) (by simp only [push_cast, seval]) (by simp only [push_cast, seval]) ?_
    refine back_f ?_
    refine rs 2 [] [] (by kernel_rfl) allP_nil ?_
    refine rf [(1, .sl l.length (fl l)), (2, .sl order.length (fl order)), (6, .ptr 0 0), (8, iS 0), (9, .ifc 60 (.v (.slice none 0 0)))] [(0, .row 26 [iS 0, iS 0]), (1, .row 26 (Enc.cells r6926))] 2 (by kernel_rfl) ?_
    refine wk_id ?_
    refine seq_np ?_
    refine seq_np ?_
    refine reg_f ?_
    refine rs 3 [] [] (by kernel_rfl) allP_nil ?_
    refine rf [(1, .sl l.length (fl l)), (6, .ptr 0 0), (8, iS 0), (9, .ifc 60 (.v (.slice none 0 0))), (31, .sl order.length (fl order)), (32, iS ((order.length : Nat) : Int)), (33, iS 0)] [(0, .row 26 [iS 0, iS 0]), (1, .row 26 (Enc.cells r6926))] 2 (by kernel_rfl) ?_
    refine wk_id ?_
    refine block_np ?_
    refine loop_sx (S := Int × (List Int) × Int) (fun a => ([(1, .sl l.length (fl l)), (6, .ptr 0 0), (8, iS a.1), (9, .ifc 60 (.sl a.2.1.length (fl a.2.1))), (31, .sl order.length (fl order)), (32, iS ((order.length : Nat) : Int)), (33, iS a.2.2)], [(0, .row 26 [iS 0, iS 0])], 1)) h (leSt_m [(0, 0)] [] (by simp only [push_cast, seval]) (by simp only [push_cast, seval]) rfl rfl rfl) ?_
    rintro ⟨done11, t13, t33q11⟩ o7 R7 h hr7 hn7 hx7 ht7
    try dsimp only at h hn7 ⊢
    unfold linear_Play_l2 at h
    try dsimp only at h
    refine seq_np ?_
    refine reg_f ?_
    refine rs 1 [] [] (by kernel_rfl) allP_nil ?_
    refine rf [(1, .sl l.length (fl l)), (6, .ptr 0 0), (8, iS done11), (9, .ifc 60 (.sl t13.length (fl t13))), (31, .sl order.length (fl order)), (32, iS ((order.length : Nat) : Int)), (33, iS t33q11), (34, bS (decide (t33q11 < ((order.length : Nat) : Int))))] [(0, .row 26 [iS 0, iS 0])] 1 (by kernel_rfl) ?_
    refine wk_id ?_
    refine seq_np ?_
    refine cond_sx h (by kernel_rfl) (fun g7592 h => ?_) (fun g7592 h => ?_)
    ·refine wk_id ?_
     refine seq_np ?_
     refine block_np ?_
     refine chk_sx h (fun g7429 h => ?_)
     refine seq_np ?_
     refine reg_f ?_
     have k7428 : 0 ≤ t33q11 ∧ t33q11 < ((order.length : Nat) : Int) := by first | simpa only [Bool.and_eq_true, decide_eq_true_eq, bne_iff_ne, ne_eq] using g7429 | (simp at g7429 ⊢; omega)
     refine rs 5 [none, some ⟨.iptr (fl order) ((t33q11).toNat * 1), [], 1, []⟩, some ⟨iS (ix order t33q11), [], 1, []⟩] _ (by kernel_rfl) (allP_cons (ob_ld order t33q11 1 0 ((t33q11).toNat * 1) k7428 rfl (by decide) (by first | rfl | omega) (dflS Try.prog 3) (iS (ix order t33q11)) rfl 1 []) (allP_cons (ob_ix_l order 1 1 t33q11 k7428) allP_nil)) ?_
     refine rf [(1, .sl l.length (fl l)), (6, .ptr 0 0), (8, iS done11), (9, .ifc 60 (.sl t13.length (fl t13))), (10, iS t33q11), (11, iS (ix order t33q11)), (31, .sl order.length (fl order)), (32, iS ((order.length : Nat) : Int)), (33, iS t33q11)] [(0, .row 26 [iS 0, iS 0])] 1 (by kernel_rfl) ?_
     refine wk_id ?_
     refine seq_np ?_
     refine seq_cut (A := Unit) (fun _ => ([(1, .sl l.length (fl l)), (6, .ptr 0 0), (8, iS done11), (9, .ifc 60 (.sl t13.length (fl t13))), (10, iS t33q11), (11, iS (ix order t33q11)), (31, .sl order.length (fl order)), (32, iS ((order.length : Nat) : Int)), (33, iS t33q11), (45, bS ((decide ((ix order t33q11) < 0)) || (decide (((l.length : Nat) : Int) ≤ (ix order t33q11)))))], [(0, .row 26 [iS 0, iS 0])], 1)) (fun _ => True) (fun K7434 hK7434 => ?_) (fun _ _ => ?_)
     ·refine reg_f ?_
      refine rs 3 [] [] (by kernel_rfl) allP_nil ?_
      refine run_split 40 (decide ((ix order t33q11) < 0)) (.inl (by kernel_rfl)) (fun g7435 => ?_) (fun g7435 => ?_)
      ·refine rs 5 [] [] (by kernel_rfl) allP_nil ?_
       refine rf [(1, .sl l.length (fl l)), (6, .ptr 0 0), (8, iS done11), (9, .ifc 60 (.sl t13.length (fl t13))), (10, iS t33q11), (11, iS (ix order t33q11)), (31, .sl order.length (fl order)), (32, iS ((order.length : Nat) : Int)), (33, iS t33q11), (45, bS true)] [(0, .row 26 [iS 0, iS 0])] 1 (by kernel_rfl) ?_
       exact hK7434 () _ _ _ trivial (leSt_m [(0, 0)] [] (by (try simp only [g7435]) <;> simp only [push_cast, seval]) (by (try simp only [g7435]) <;> simp only [push_cast, seval]) rfl rfl rfl)
      ·refine rs 5 [] [] (by kernel_rfl) allP_nil ?_
       refine rf [(1, .sl l.length (fl l)), (6, .ptr 0 0), (8, iS done11), (9, .ifc 60 (.sl t13.length (fl t13))), (10, iS t33q11), (11, iS (ix order t33q11)), (31, .sl order.length (fl order)), (32, iS ((order.length : Nat) : Int)), (33, iS t33q11), (45, bS (decide (((l.length : Nat) : Int) ≤ (ix order t33q11))))] [(0, .row 26 [iS 0, iS 0])] 1 (by kernel_rfl) ?_
       exact hK7434 () _ _ _ trivial (leSt_m [(0, 0)] [] (by (try simp only [g7435]) <;> simp only [push_cast, seval]) (by (try simp only [g7435]) <;> simp only [push_cast, seval]) rfl rfl rfl)
     ·dsimp only
      refine cond_sx h (by kernel_rfl) (fun g7591 h => ?_) (fun g7591 h => ?_)
      ·refine seq_np ?_
       refine reg_f ?_
       refine rs 1 [] [] (by kernel_rfl) allP_nil ?_
       obtain ⟨r7437, hr7437, h⟩ := bind_sx h
       refine run_call 22 [iS 3, iS t33q11] (some 47) (by kernel_rfl) ?_
       refine call_0 (linear_fault_spec 3 t33q11 r7437 hr7437) (by simp only [push_cast, seval]) (by simp only [push_cast, seval]) ?_
       refine back_f ?_
       refine rs 1 [] [] (by kernel_rfl) allP_nil ?_
       refine rf [(6, .ptr 0 0)] [(0, .row 26 (Enc.cells r7437))] 1 (by kernel_rfl) ?_
       refine wk_id ?_
       refine rt_cast ht7 ?_
       obtain ⟨r0, h, e0⟩ := map_sx h
       have e1 := hr7 r0 e0.symm
       subst r0
       obtain rfl := Option.some.inj h
       refine ret_at (.agg (Enc.cells r7437)) (by kernel_rfl) ?_
       exact ret_e [] [] (by simp only [push_cast, seval]) (by simp only [push_cast, seval]) rfl rfl rfl
      ·refine wk_id ?_
       refine seq_np ?_
       refine chk_sx h (fun g7445 h => ?_)
       refine seq_np ?_
       refine reg_f ?_
       have k7444 : 0 ≤ (ix order t33q11) := by first | simpa only [Bool.and_eq_true, decide_eq_true_eq, bne_iff_ne, ne_eq] using g7445 | (simp at g7445 ⊢; omega)
       refine rs 5 [none, none, some ⟨iS (Int.fdiv done11 (2 ^ (min ((ix order t33q11)).toNat (IntKind.i64).bits))), [], 1, []⟩] _ (by kernel_rfl) (allP_cons (ob_p (v := iS (Int.fdiv done11 (2 ^ (min ((ix order t33q11)).toNat (IntKind.i64).bits)))) (nx := 1) (r := []) k7444) allP_nil) ?_
       refine rf [(1, .sl l.length (fl l)), (6, .ptr 0 0), (8, iS done11), (9, .ifc 60 (.sl t13.length (fl t13))), (10, iS t33q11), (11, iS (ix order t33q11)), (31, .sl order.length (fl order)), (32, iS ((order.length : Nat) : Int)), (33, iS t33q11), (52, bS ((IntKind.i64.wrap (((BitVec.ofInt (IntKind.i64).bits (Int.fdiv done11 (2 ^ (min ((ix order t33q11)).toNat (IntKind.i64).bits))) &&& BitVec.ofInt (IntKind.i64).bits 1).toNat : Nat) : Int)) == 1))] [(0, .row 26 [iS 0, iS 0])] 1 (by kernel_rfl) ?_
       refine wk_id ?_
       refine cond_sx h (by kernel_rfl) (fun g7590 h => ?_) (fun g7590 h => ?_)
       ·refine seq_np ?_
        refine reg_f ?_
        refine rs 1 [] [] (by kernel_rfl) allP_nil ?_
        obtain ⟨r7447, hr7447, h⟩ := bind_sx h
        refine run_call 22 [iS 10, iS t33q11] (some 54) (by kernel_rfl) ?_
        refine call_0 (linear_fault_spec 10 t33q11 r7447 hr7447) (by simp only [push_cast, seval]) (by simp only [push_cast, seval]) ?_
        refine back_f ?_
        refine rs 1 [] [] (by kernel_rfl) allP_nil ?_
        refine rf [(6, .ptr 0 0)] [(0, .row 26 (Enc.cells r7447))] 1 (by kernel_rfl) ?_
        refine wk_id ?_
        refine rt_cast ht7 ?_
        obtain ⟨r0, h, e0⟩ := map_sx h
        have e1 := hr7 r0 e0.symm
        subst r0
        obtain rfl := Option.some.inj h
        refine ret_at (.agg (Enc.cells r7447)) (by kernel_rfl) ?_
        exact ret_e [] [] (by simp only [push_cast, seval]) (by simp only [push_cast, seval]) rfl rfl rfl
       ·refine wk_id ?_
        refine seq_np ?_
        refine seq_np ?_
        refine reg_f ?_
        refine rs 3 [] [] (by kernel_rfl) allP_nil ?_
        refine rf [(1, .sl l.length (fl l)), (6, .ptr 0 0), (8, iS done11), (9, .ifc 60 (.sl t13.length (fl t13))), (10, iS t33q11), (11, iS (ix order t33q11)), (31, .sl order.length (fl order)), (32, iS ((order.length : Nat) : Int)), (33, iS t33q11), (55, .sl l.length (fl l)), (56, iS ((l.length : Nat) : Int)), (57, iS 0)] [(0, .row 26 [iS 0, iS 0])] 1 (by kernel_rfl) ?_
        refine wk_id ?_
        refine block_np ?_
        refine loop_sx (S := Int) (fun a => ([(1, .sl l.length (fl l)), (6, .ptr 0 0), (8, iS done11), (9, .ifc 60 (.sl t13.length (fl t13))), (10, iS t33q11), (11, iS (ix order t33q11)), (31, .sl order.length (fl order)), (32, iS ((order.length : Nat) : Int)), (33, iS t33q11), (55, .sl l.length (fl l)), (56, iS ((l.length : Nat) : Int)), (57, iS a)], [(0, .row 26 [iS 0, iS 0])], 1)) h (leSt_m [(0, 0)] [] (by simp only [push_cast, seval]) (by simp only [push_cast, seval]) rfl rfl rfl) ?_
        rintro t57q43 o8 R8 h hr8 hn8 hx8 ht8
        try dsimp only at h hn8 ⊢
        unfold linear_Play_l1 at h
        try dsimp only at h
        refine seq_np ?_
        refine reg_f ?_
        refine rs 1 [] [] (by kernel_rfl) allP_nil ?_
        refine rf [(1, .sl l.length (fl l)), (6, .ptr 0 0), (8, iS done11), (9, .ifc 60 (.sl t13.length (fl t13))), (10, iS t33q11), (11, iS (ix order t33q11)), (31, .sl order.length (fl order)), (32, iS ((order.length : Nat) : Int)), (33, iS t33q11), (55, .sl l.length (fl l)), (56, iS ((l.length : Nat) : Int)), (57, iS t57q43), (58, bS (decide (t57q43 < ((l.length : Nat) : Int))))] [(0, .row 26 [iS 0, iS 0])] 1 (by kernel_rfl) ?_
        refine wk_id ?_
        refine seq_np ?_
        refine cond_sx h (by kernel_rfl) (fun g7589 h => ?_) (fun g7589 h => ?_)
        ·refine wk_id ?_
         refine seq_np ?_
         refine block_np ?_
         refine chk_sx h (fun g7557 h => ?_)
         refine seq_np ?_
         refine reg_f ?_
         have k7556 : 0 ≤ t57q43 ∧ t57q43 < ((l.length : Nat) : Int) := by first | simpa only [Bool.and_eq_true, decide_eq_true_eq, bne_iff_ne, ne_eq] using g7557 | (simp at g7557 ⊢; omega)
         refine rs 6 [none, some ⟨.iptr (fl l) ((t57q43).toNat * 7), [], 1, []⟩, some ⟨.agg (Enc.cells (ix l t57q43)), [], 1, []⟩] _ (by kernel_rfl) (allP_cons (ob_ldw l t57q43 7 ((t57q43).toNat * 7) k7556 rfl (by first | rfl | omega) (Enc.cells (ix l t57q43)) rfl 1 []) (allP_cons (ob_ix_l l 7 1 t57q43 k7556) allP_nil)) ?_
         refine rf [(1, .sl l.length (fl l)), (6, .ptr 0 0), (8, iS done11), (9, .ifc 60 (.sl t13.length (fl t13))), (10, iS t33q11), (11, iS (ix order t33q11)), (12, iS t57q43), (13, .ptr 1 0), (31, .sl order.length (fl order)), (32, iS ((order.length : Nat) : Int)), (33, iS t33q11), (55, .sl l.length (fl l)), (56, iS ((l.length : Nat) : Int)), (57, iS t57q43)] [(0, .row 26 [iS 0, iS 0]), (1, .row 36 (Enc.cells (ix l t57q43)))] 2 (by kernel_rfl) ?_
         refine wk_id ?_
         refine chk_sx h (fun g7566 h => ?_)
         refine chk_sx h (fun g7570 h => ?_)
         refine seq_cut (A := Unit) (fun _ => ([(1, .sl l.length (fl l)), (6, .ptr 0 0), (8, iS done11), (9, .ifc 60 (.sl t13.length (fl t13))), (10, iS t33q11), (11, iS (ix order t33q11)), (31, .sl order.length (fl order)), (32, iS ((order.length : Nat) : Int)), (33, iS t33q11), (55, .sl l.length (fl l)), (56, iS ((l.length : Nat) : Int)), (57, iS t57q43), (81, bS (((IntKind.i64.wrap (((BitVec.ofInt (IntKind.i64).bits (Int.fdiv done11 (2 ^ (min (t57q43).toNat (IntKind.i64).bits))) &&& BitVec.ofInt (IntKind.i64).bits 1).toNat : Nat) : Int)) == 0) && ((t57q43 != (ix order t33q11)) && (decide ((ix l t57q43).End < (ix l (ix order t33q11)).Begin)))))], [(0, .row 26 [iS 0, iS 0]), (1, .row 36 (Enc.cells (ix l t57q43)))], 22)) (fun _ => True) (fun K7564 hK7564 => ?_) (fun _ _ => ?_)
         ·refine reg_t ?_
          have k7565 : 0 ≤ t57q43 := by first | simpa only [Bool.and_eq_true, decide_eq_true_eq, bne_iff_ne, ne_eq] using g7566 | (simp at g7566 ⊢; omega)
          refine rs 6 [none, none, some ⟨iS (Int.fdiv done11 (2 ^ (min (t57q43).toNat (IntKind.i64).bits))), [], 4, []⟩] _ (by kernel_rfl) (allP_cons (ob_p (v := iS (Int.fdiv done11 (2 ^ (min (t57q43).toNat (IntKind.i64).bits)))) (nx := 4) (r := []) k7565) allP_nil) ?_
          refine run_split 67 ((IntKind.i64.wrap (((BitVec.ofInt (IntKind.i64).bits (Int.fdiv done11 (2 ^ (min (t57q43).toNat (IntKind.i64).bits))) &&& BitVec.ofInt (IntKind.i64).bits 1).toNat : Nat) : Int)) == 0) (.inl (by kernel_rfl)) (fun g7567 => ?_) (fun g7567 => ?_)
          ·refine rs 5 [] [] (by kernel_rfl) allP_nil ?_
           refine run_split 72 (t57q43 != (ix order t33q11)) (.inl (by kernel_rfl)) (fun g7568 => ?_) (fun g7568 => ?_)
           ·have k7569 : 0 ≤ (ix order t33q11) ∧ (ix order t33q11) < ((l.length : Nat) : Int) := by have e := or_use g7570 (by first | ((try simp only [g7567, g7568]) <;> rfl) | ((try simp only [g7567]); (try simp only [g7568]); rfl) | (exfalso; clear h; simp_all; done)); first | simpa only [Bool.and_eq_true, decide_eq_true_eq, bne_iff_ne, ne_eq] using e | (simp at e ⊢; omega)
            refine rs 9 [none, none, none, none, some ⟨.iptr (fl l) (((ix order t33q11)).toNat * 7), [], 17, []⟩, none, some ⟨iS (ix l (ix order t33q11)).Begin, [], 19, []⟩] _ (by kernel_rfl) (allP_cons (ob_ld l (ix order t33q11) 7 0 ((((ix order t33q11)).toNat * 7) + 0) k7569 rfl (by decide) (by first | rfl | omega) (dflS Try.prog 3) (iS (ix l (ix order t33q11)).Begin) rfl 19 []) (allP_cons (ob_ix_l l 7 17 (ix order t33q11) k7569) allP_nil)) ?_
            refine rt [(1, .sl l.length (fl l)), (6, .ptr 0 0), (8, iS done11), (9, .ifc 60 (.sl t13.length (fl t13))), (10, iS t33q11), (11, iS (ix order t33q11)), (31, .sl order.length (fl order)), (32, iS ((order.length : Nat) : Int)), (33, iS t33q11), (55, .sl l.length (fl l)), (56, iS ((l.length : Nat) : Int)), (57, iS t57q43), (81, bS (decide ((ix l t57q43).End < (ix l (ix order t33q11)).Begin)))] [(0, .row 26 [iS 0, iS 0]), (1, .row 36 (Enc.cells (ix l t57q43)))] 22 follows (by kernel_rfl) ?_
            exact hK7564 () _ _ _ trivial (leSt_m [(0, 0), (1, 1)] [] (by first | ((try simp only [g7567, g7568]) <;> simp only [push_cast, seval]; done) | ((try simp only [g7567]); (try simp only [g7568]); simp only [push_cast, seval]; done) | (exfalso; clear h; simp_all; done)) (by first | ((try simp only [g7567, g7568]) <;> simp only [push_cast, seval]; done) | ((try simp only [g7567]); (try simp only [g7568]); simp only [push_cast, seval]; done) | (exfalso; clear h; simp_all; done)) rfl rfl rfl)
           ·refine rs 9 [] [] (by kernel_rfl) allP_nil ?_
            refine rt [(1, .sl l.length (fl l)), (6, .ptr 0 0), (8, iS done11), (9, .ifc 60 (.sl t13.length (fl t13))), (10, iS t33q11), (11, iS (ix order t33q11)), (31, .sl order.length (fl order)), (32, iS ((order.length : Nat) : Int)), (33, iS t33q11), (55, .sl l.length (fl l)), (56, iS ((l.length : Nat) : Int)), (57, iS t57q43), (81, bS false)] [(0, .row 26 [iS 0, iS 0]), (1, .row 36 (Enc.cells (ix l t57q43)))] 22 follows (by kernel_rfl) ?_
            exact hK7564 () _ _ _ trivial (leSt_m [(0, 0), (1, 1)] [] (by first | ((try simp only [g7567, g7568]) <;> simp only [push_cast, seval]; done) | ((try simp only [g7567]); (try simp only [g7568]); simp only [push_cast, seval]; done) | (exfalso; clear h; simp_all; done)) (by first | ((try simp only [g7567, g7568]) <;> simp only [push_cast, seval]; done) | ((try simp only [g7567]); (try simp only [g7568]); simp only [push_cast, seval]; done) | (exfalso; clear h; simp_all; done)) rfl rfl rfl)
          ·refine rs 14 [] [] (by kernel_rfl) allP_nil ?_
           refine rt [(1, .sl l.length (fl l)), (6, .ptr 0 0), (8, iS done11), (9, .ifc 60 (.sl t13.length (fl t13))), (10, iS t33q11), (11, iS (ix order t33q11)), (31, .sl order.length (fl order)), (32, iS ((order.length : Nat) : Int)), (33, iS t33q11), (55, .sl l.length (fl l)), (56, iS ((l.length : Nat) : Int)), (57, iS t57q43), (81, bS false)] [(0, .row 26 [iS 0, iS 0]), (1, .row 36 (Enc.cells (ix l t57q43)))] 22 follows (by kernel_rfl) ?_
           exact hK7564 () _ _ _ trivial (leSt_m [(0, 0), (1, 1)] [] (by (try simp only [g7567]) <;> simp only [push_cast, seval]) (by (try simp only [g7567]) <;> simp only [push_cast, seval]) rfl rfl rfl)
         ·dsimp only
          refine cond_sx h (by kernel_rfl) (fun g7573 h => ?_) (fun g7573 h => ?_)
          ·refine seq_np ?_
           refine reg_f ?_
           refine rs 1 [] [] (by kernel_rfl) allP_nil ?_
           obtain ⟨r7572, hr7572, h⟩ := bind_sx h
           refine run_call 22 [iS 11, iS t33q11] (some 83) (by kernel_rfl) ?_
           refine call_0 (linear_fault_spec 11 t33q11 r7572 hr7572) (by simp only [push_cast, seval]) (by simp only [push_cast, seval]) ?_
           refine back_f ?_
           refine rs 1 [] [] (by kernel_rfl) allP_nil ?_
           refine rf [(6, .ptr 0 0)] [(0, .row 26 (Enc.cells r7572)), (1, .row 36 (Enc.cells (ix l t57q43)))] 22 (by kernel_rfl) ?_
           refine wk_id ?_
           refine rt_cast ht8 ?_
           obtain ⟨r0, h, e0⟩ := map_sx h
           have e1 := hr8 r0 e0.symm
           subst r0
           refine rt_cast ht7 ?_
           obtain ⟨r0, h, e0⟩ := map_sx h
           have e1 := hr7 r0 e0.symm
           subst r0
           obtain rfl := Option.some.inj h
           refine ret_at (.agg (Enc.cells r7572)) (by kernel_rfl) ?_
           exact ret_e [] [] (by simp only [push_cast, seval]) (by simp only [push_cast, seval]) rfl rfl rfl
          ·refine wk_id ?_
           refine wk_id ?_
           refine reg_f ?_
           refine rs 2 [] [] (by kernel_rfl) allP_nil ?_
           refine rf [(1, .sl l.length (fl l)), (6, .ptr 0 0), (8, iS done11), (9, .ifc 60 (.sl t13.length (fl t13))), (10, iS t33q11), (11, iS (ix order t33q11)), (31, .sl order.length (fl order)), (32, iS ((order.length : Nat) : Int)), (33, iS t33q11), (55, .sl l.length (fl l)), (56, iS ((l.length : Nat) : Int)), (57, iS (IntKind.i64.wrap (t57q43 + 1)))] [(0, .row 26 [iS 0, iS 0]), (1, .row 36 (Enc.cells (ix l t57q43)))] 22 (by kernel_rfl) ?_
           exact hn8 ((IntKind.i64.wrap (t57q43 + 1))) _ _ _ (Option.some.inj h).symm (leSt_m [(0, 0)] [] (by simp only [push_cast, seval]) (by simp only [push_cast, seval]) rfl rfl rfl)
        ·change R8 (.exit 2) _ _ _
         refine ex_cast hx8 (id := 2) ?_
         obtain ⟨r0, h, e0⟩ := map_sx h
         have e1 := hr8 r0 e0.symm
         subst r0
         refine wk_id ?_
         refine wk_id ?_
         refine chk_sx h (fun g7578 h => ?_)
         refine seq_np ?_
         refine reg_t ?_
         have k7577 : 0 ≤ (ix order t33q11) ∧ (ix order t33q11) < ((l.length : Nat) : Int) := by first | simpa only [Bool.and_eq_true, decide_eq_true_eq, bne_iff_ne, ne_eq] using g7578 | (simp at g7578 ⊢; omega)
         refine rs 8 [none, none, none, some ⟨.iptr (fl l) (((ix order t33q11)).toNat * 7), [], 4, []⟩, some ⟨.agg (Enc.cells (ix l (ix order t33q11))), [], 5, []⟩] _ (by kernel_rfl) (allP_cons (ob_ldw l (ix order t33q11) 7 (((ix order t33q11)).toNat * 7) k7577 rfl (by first | rfl | omega) (Enc.cells (ix l (ix order t33q11))) rfl 5 []) (allP_cons (ob_ix_l l 7 4 (ix order t33q11) k7577) allP_nil)) ?_
         obtain ⟨r7579, hr7579, h⟩ := bind_sx h
         refine call_xI (linear_queue_do_spec t13 (ix l (ix order t33q11)) r7579 hr7579) (args := [.sl t13.length (fl t13), .agg (Enc.cells (ix l (ix order t33q11)))]) (dst := (some 94)) (by kernel_rfl) [(0, .row 26 [iS 0, iS 0])] 9 (by kernel_rfl) [] [] (.tup [.ifc 60 (.sl r7579.1.length (fl r7579.1)), bS r7579.2]) [] (by simp only [push_cast, seval]) (by simp only [push_cast, seval]) (by kernel_rfl) (.inl rfl) (by simp only [push_cast, seval]) (by simp only [push_cast, seval]) ?_
         refine rs 5 [] [] (by kernel_rfl) allP_nil ?_
         refine rt [(1, .sl l.length (fl l)), (6, .ptr 0 0), (8, iS done11), (10, iS t33q11), (11, iS (ix order t33q11)), (14, .ifc 60 (.sl r7579.1.length (fl r7579.1))), (15, bS r7579.2), (31, .sl order.length (fl order)), (32, iS ((order.length : Nat) : Int)), (33, iS t33q11)] [(0, .row 26 [iS 0, iS 0])] 15 follows (by kernel_rfl) ?_
         refine wk_id ?_
         refine seq_np ?_
         refine seq_np ?_
         refine reg_f ?_
         refine rs 2 [] [] (by kernel_rfl) allP_nil ?_
         refine rf [(1, .sl l.length (fl l)), (6, .ptr 0 0), (8, iS done11), (10, iS t33q11), (11, iS (ix order t33q11)), (14, .ifc 60 (.sl r7579.1.length (fl r7579.1))), (31, .sl order.length (fl order)), (32, iS ((order.length : Nat) : Int)), (33, iS t33q11), (98, bS (!r7579.2))] [(0, .row 26 [iS 0, iS 0])] 15 (by kernel_rfl) ?_
         refine wk_id ?_
         refine cond_sx h (by kernel_rfl) (fun g7588 h => ?_) (fun g7588 h => ?_)
         ·refine seq_np ?_
          refine reg_f ?_
          refine rs 1 [] [] (by kernel_rfl) allP_nil ?_
          obtain ⟨r7583, hr7583, h⟩ := bind_sx h
          refine run_call 22 [iS 7, iS t33q11] (some 100) (by kernel_rfl) ?_
          refine call_0 (linear_fault_spec 7 t33q11 r7583 hr7583) (by simp only [push_cast, seval]) (by simp only [push_cast, seval]) ?_
          refine back_f ?_
          refine rs 1 [] [] (by kernel_rfl) allP_nil ?_
          refine rf [(6, .ptr 0 0)] [(0, .row 26 (Enc.cells r7583))] 15 (by kernel_rfl) ?_
          refine wk_id ?_
          refine rt_cast ht7 ?_
          obtain ⟨r0, h, e0⟩ := map_sx h
          have e1 := hr7 r0 e0.symm
          subst r0
          obtain rfl := Option.some.inj h
          refine ret_at (.agg (Enc.cells r7583)) (by kernel_rfl) ?_
          exact ret_e [] [] (by simp only [push_cast, seval]) (by simp only [push_cast, seval]) rfl rfl rfl
         ·refine wk_id ?_
          refine chk_sx h (fun g7587 h => ?_)
          refine reg_f ?_
          have k7586 : 0 ≤ (ix order t33q11) := by first | simpa only [Bool.and_eq_true, decide_eq_true_eq, bne_iff_ne, ne_eq] using g7587 | (simp at g7587 ⊢; omega)
          refine rs 7 [none, none, some ⟨iS (IntKind.i64.wrap ((1 : Int) * 2 ^ (min ((ix order t33q11)).toNat (IntKind.i64).bits))), [], 15, []⟩] _ (by kernel_rfl) (allP_cons (ob_p (v := iS (IntKind.i64.wrap ((1 : Int) * 2 ^ (min ((ix order t33q11)).toNat (IntKind.i64).bits)))) (nx := 15) (r := []) k7586) allP_nil) ?_
          refine rf [(1, .sl l.length (fl l)), (6, .ptr 0 0), (8, iS (IntKind.i64.wrap (((BitVec.ofInt (IntKind.i64).bits done11 ||| BitVec.ofInt (IntKind.i64).bits (IntKind.i64.wrap ((1 : Int) * 2 ^ (min ((ix order t33q11)).toNat (IntKind.i64).bits)))).toNat : Nat) : Int))), (9, .ifc 60 (.sl r7579.1.length (fl r7579.1))), (31, .sl order.length (fl order)), (32, iS ((order.length : Nat) : Int)), (33, iS t33q11)] [(0, .row 26 [iS 0, iS 0])] 15 (by kernel_rfl) ?_
          refine wk_id ?_
          refine wk_id ?_
          refine reg_f ?_
          refine rs 2 [] [] (by kernel_rfl) allP_nil ?_
          refine rf [(1, .sl l.length (fl l)), (6, .ptr 0 0), (8, iS (IntKind.i64.wrap (((BitVec.ofInt (IntKind.i64).bits done11 ||| BitVec.ofInt (IntKind.i64).bits (IntKind.i64.wrap ((1 : Int) * 2 ^ (min ((ix order t33q11)).toNat (IntKind.i64).bits)))).toNat : Nat) : Int))), (9, .ifc 60 (.sl r7579.1.length (fl r7579.1))), (31, .sl order.length (fl order)), (32, iS ((order.length : Nat) : Int)), (33, iS (IntKind.i64.wrap (t33q11 + 1)))] [(0, .row 26 [iS 0, iS 0])] 15 (by kernel_rfl) ?_
          exact hn7 ((IntKind.i64.wrap (((BitVec.ofInt (IntKind.i64).bits done11 ||| BitVec.ofInt (IntKind.i64).bits (IntKind.i64.wrap ((1 : Int) * 2 ^ (min ((ix order t33q11)).toNat (IntKind.i64).bits)))).toNat : Nat) : Int)), r7579.1, (IntKind.i64.wrap (t33q11 + 1))) _ _ _ (Option.some.inj h).symm (leSt_m [(0, 0)] [] (by simp only [push_cast, seval]) (by simp only [push_cast, seval]) rfl rfl rfl)
    ·change R7 (.exit 0) _ _ _
     refine ex_cast hx7 (id := 0) ?_
     obtain ⟨r0, h, e0⟩ := map_sx h
     have e1 := hr7 r0 e0.symm
     subst r0
     refine wk_id ?_
     refine wk_id ?_
     refine seq_np ?_
     refine reg_f ?_
     refine rs 2 [] [] (by kernel_rfl) allP_nil ?_
     refine rf [(6, .ptr 0 0)] [(0, .row 26 [iS 0, iS 0])] 1 (by kernel_rfl) ?_
     refine wk_id ?_
     obtain rfl := Option.some.inj h
     refine ret_at (.agg [iS 0, iS 0]) (by kernel_rfl) ?_
     exact ret_e [] [] (by simp only [push_cast, seval]) (by simp only [push_cast, seval]) rfl rfl rfl
   ·refine bsplit_sx h (fun g7593 h => ?_) (fun g7593 h => ?_)
    ·refine seq_np ?_
     refine reg_f ?_
     refine rs 1 [] [] (by kernel_rfl) allP_nil ?_
     obtain ⟨r7595, hr7595, h⟩ := bind_sx h
     refine run_call 21 [iS kind] (some 30) (by kernel_rfl) ?_
     refine call_0 (linear_begin_1_spec kind g6931 g7593 r7595 hr7595) (by simp only [push_cast, seval]) (by simp only [push_cast, seval]) ?_
     refine back_f ?_
     refine rs 2 [] [] (by kernel_rfl) allP_nil ?_
     refine rf [(1, .sl l.length (fl l)), (2, .sl order.length (fl order)), (6, .ptr 0 0), (8, iS 0), (9, .ifc 61 (iS r7595))] [(0, .row 26 [iS 0, iS 0]), (1, .row 26 (Enc.cells r6926))] 2 (by kernel_rfl) ?_
     refine wk_id ?_
     refine seq_np ?_
     refine seq_np ?_
     refine reg_f ?_
     refine rs 3 [] [] (by kernel_rfl) allP_nil ?_
     refine rf [(1, .sl l.length (fl l)), (6, .ptr 0 0), (8, iS 0), (9, .ifc 61 (iS r7595)), (31, .sl order.length (fl order)), (32, iS ((order.length : Nat) : Int)), (33, iS 0)] [(0, .row 26 [iS 0, iS 0]), (1, .row 26 (Enc.cells r6926))] 2 (by kernel_rfl) ?_
     refine wk_id ?_
     refine block_np ?_
     refine loop_sx (S := Int × Int × Int) (fun a => ([(1, .sl l.length (fl l)), (6, .ptr 0 0), (8, iS a.1), (9, .ifc 61 (iS a.2.1)), (31, .sl order.length (fl order)), (32, iS ((order.length : Nat) : Int)), (33, iS a.2.2)], [(0, .row 26 [iS 0, iS 0])], 1)) h (leSt_m [(0, 0)] [] (by simp only [push_cast, seval]) (by simp only [push_cast, seval]) rfl rfl rfl) ?_
     rintro ⟨done17, t22, t33q17⟩ o9 R9 h hr9 hn9 hx9 ht9
     try dsimp only at h hn9 ⊢
     unfold linear_Play_l4 at h
     try dsimp only at h
     refine seq_np ?_
     refine reg_f ?_
     refine rs 1 [] [] (by kernel_rfl) allP_nil ?_
     refine rf [(1, .sl l.length (fl l)), (6, .ptr 0 0), (8, iS done17), (9, .ifc 61 (iS t22)), (31, .sl order.length (fl order)), (32, iS ((order.length : Nat) : Int)), (33, iS t33q17), (34, bS (decide (t33q17 < ((order.length : Nat) : Int))))] [(0, .row 26 [iS 0, iS 0])] 1 (by kernel_rfl) ?_
     refine wk_id ?_
     refine seq_np ?_
     refine cond_sx h (by kernel_rfl) (fun g8254 h => ?_) (fun g8254 h => ?_)
     ·refine wk_id ?_
      refine seq_np ?_
      refine block_np ?_
      refine chk_sx h (fun g8091 h => ?_)
      refine seq_np ?_
      refine reg_f ?_
      have k8090 : 0 ≤ t33q17 ∧ t33q17 < ((order.length : Nat) : Int) := by first | simpa only [Bool.and_eq_true, decide_eq_true_eq, bne_iff_ne, ne_eq] using g8091 | (simp at g8091 ⊢; omega)
      refine rs 5 [none, some ⟨.iptr (fl order) ((t33q17).toNat * 1), [], 1, []⟩, some ⟨iS (ix order t33q17), [], 1, []⟩] _ (by kernel_rfl) (allP_cons (ob_ld order t33q17 1 0 ((t33q17).toNat * 1) k8090 rfl (by decide) (by first | rfl | omega) (dflS Try.prog 3) (iS (ix order t33q17)) rfl 1 []) (allP_cons (ob_ix_l order 1 1 t33q17 k8090) allP_nil)) ?_
      refine rf [(1, .sl l.length (fl l)), (6, .ptr 0 0), (8, iS done17), (9, .ifc 61 (iS t22)), (10, iS t33q17), (11, iS (ix order t33q17)), (31, .sl order.length (fl order)), (32, iS ((order.length : Nat) : Int)), (33, iS t33q17)] [(0, .row 26 [iS 0, iS 0])] 1 (by kernel_rfl) ?_
      refine wk_id ?_
      refine seq_np ?_
      refine seq_cut (A := Unit) (fun _ => ([(1, .sl l.length (fl l)), (6, .ptr 0 0), (8, iS done17), (9, .ifc 61 (iS t22)), (10, iS t33q17), (11, iS (ix order t33q17)), (31, .sl order.length (fl order)), (32, iS ((order.length : Nat) : Int)), (33, iS t33q17), (45, bS ((decide ((ix order t33q17) < 0)) || (decide (((l.length : Nat) : Int) ≤ (ix order t33q17)))))], [(0, .row 26 [iS 0, iS 0])], 1)) (fun _ => True) (fun K8096 hK8096 => ?_) (fun _ _ => ?_)
      ·refine reg_f ?_
       refine rs 3 [] [] (by kernel_rfl) allP_nil ?_
       refine run_split 40 (decide ((ix order t33q17) < 0)) (.inl (by kernel_rfl)) (fun g8097 => ?_) (fun g8097 => ?_)
       ·refine rs 5 [] [] (by kernel_rfl) allP_nil ?_
        refine rf [(1, .sl l.length (fl l)), (6, .ptr 0 0), (8, iS done17), (9, .ifc 61 (iS t22)), (10, iS t33q17), (11, iS (ix order t33q17)), (31, .sl order.length (fl order)), (32, iS ((order.length : Nat) : Int)), (33, iS t33q17), (45, bS true)] [(0, .row 26 [iS 0, iS 0])] 1 (by kernel_rfl) ?_
        exact hK8096 () _ _ _ trivial (leSt_m [(0, 0)] [] (by (try simp only [g8097]) <;> simp only [push_cast, seval]) (by (try simp only [g8097]) <;> simp only [push_cast, seval]) rfl rfl rfl)
       ·refine rs 5 [] [] (by kernel_rfl) allP_nil ?_
        refine rf [(1, .sl l.length (fl l)), (6, .ptr 0 0), (8, iS done17), (9, .ifc 61 (iS t22)), (10, iS t33q17), (11, iS (ix order t33q17)), (31, .sl order.length (fl order)), (32, iS ((order.length : Nat) : Int)), (33, iS t33q17), (45, bS (decide (((l.length : Nat) : Int) ≤ (ix order t33q17))))] [(0, .row 26 [iS 0, iS 0])] 1 (by kernel_rfl) ?_
        exact hK8096 () _ _ _ trivial (leSt_m [(0, 0)] [] (by (try simp only [g8097]) <;> simp only [push_cast, seval]) (by (try simp only [g8097]) <;> simp only [push_cast, seval]) rfl rfl rfl)
      ·dsimp only
       refine cond_sx h (by kernel_rfl) (fun g8253 h => ?_) (fun g8253 h => ?_)
       ·refine seq_np ?_
        refine reg_f ?_
        refine rs 1 [] [] (by kernel_rfl) allP_nil ?_
        obtain ⟨r8099, hr8099, h⟩ := bind_sx h
        refine run_call 22 [iS 3, iS t33q17] (some 47) (by kernel_rfl) ?_
        refine call_0 (linear_fault_spec 3 t33q17 r8099 hr8099) (by simp only [push_cast, seval]) (by simp only [push_cast, seval]) ?_
        refine back_f ?_
        refine rs 1 [] [] (by kernel_rfl) allP_nil ?_
        refine rf [(6, .ptr 0 0)] [(0, .row 26 (Enc.cells r8099))] 1 (by kernel_rfl) ?_
        refine wk_id ?_
        refine rt_cast ht9 ?_
        obtain ⟨r0, h, e0⟩ := map_sx h
        have e1 := hr9 r0 e0.symm
        subst r0
        obtain rfl := Option.some.inj h
        refine ret_at (.agg (Enc.cells r8099)) (by kernel_rfl) ?_
        exact ret_e [] [] (by simp only [push_cast, seval]) (by simp only [push_cast, seval]) rfl rfl rfl
       ·refine wk_id ?_
        refine seq_np ?_
        refine chk_sx h (fun g8107 h => ?_)
        refine seq_np ?_
        refine reg_f ?_
        have k8106 : 0 ≤ (ix order t33q17) := by first | simpa only [Bool.and_eq_true, decide_eq_true_eq, bne_iff_ne, ne_eq] using g8107 | (simp at g8107 ⊢; omega)
        refine rs 5 [none, none, some ⟨iS (Int.fdiv done17 (2 ^ (min ((ix order t33q17)).toNat (IntKind.i64).bits))), [], 1, []⟩] _ (by kernel_rfl) (allP_cons (ob_p (v := iS (Int.fdiv done17 (2 ^ (min ((ix order t33q17)).toNat (IntKind.i64).bits)))) (nx := 1) (r := []) k8106) allP_nil) ?_
        refine rf [(1, .sl l.length (fl l)), (6, .ptr 0 0), (8, iS done17), (9, .ifc 61 (iS t22)), (10, iS t33q17), (11, iS (ix order t33q17)), (31, .sl order.length (fl order)), (32, iS ((order.length : Nat) : Int)), (33, iS t33q17), (52, bS ((IntKind.i64.wrap (((BitVec.ofInt (IntKind.i64).bits (Int.fdiv done17 (2 ^ (min ((ix order t33q17)).toNat (IntKind.i64).bits))) &&& BitVec.ofInt (IntKind.i64).bits 1).toNat : Nat) : Int)) == 1))] [(0, .row 26 [iS 0, iS 0])] 1 (by kernel_rfl) ?_
        refine wk_id ?_
        refine cond_sx h (by kernel_rfl) (fun g8252 h => ?_) (fun g8252 h => ?_)
        ·refine seq_np ?_
         refine reg_f ?_
         refine rs 1 [] [] (by kernel_rfl) allP_nil ?_
         obtain ⟨r8109, hr8109, h⟩ := bind_sx h
         refine run_call 22 [iS 10, iS t33q17] (some 54) (by kernel_rfl) ?_
         refine call_0 (linear_fault_spec 10 t33q17 r8109 hr8109) (by simp only [push_cast, seval]) (by simp only [push_cast, seval]) ?_
         refine back_f ?_
         refine rs 1 [] [] (by kernel_rfl) allP_nil ?_
         refine rf [(6, .ptr 0 0)] [(0, .row 26 (Enc.cells r8109))] 1 (by kernel_rfl) ?_
         refine wk_id ?_
         refine rt_cast ht9 ?_
         obtain ⟨r0, h, e0⟩ := map_sx h
         have e1 := hr9 r0 e0.symm
         subst r0
         obtain rfl := Option.some.inj h
         refine ret_at (.agg (Enc.cells r8109)) (by kernel_rfl) ?_
         exact ret_e [] [] (by simp only [push_cast, seval]) (by simp only [push_cast, seval]) rfl rfl rfl
        ·refine wk_id ?_
         refine seq_np ?_
         refine seq_np ?_
         refine reg_f ?_
         refine rs 3 [] [] (by kernel_rfl) allP_nil ?_
         refine rf [(1, .sl l.length (fl l)), (6, .ptr 0 0), (8, iS done17), (9, .ifc 61 (iS t22)), (10, iS t33q17), (11, iS (ix order t33q17)), (31, .sl order.length (fl order)), (32, iS ((order.length : Nat) : Int)), (33, iS t33q17), (55, .sl l.length (fl l)), (56, iS ((l.length : Nat) : Int)), (57, iS 0)] [(0, .row 26 [iS 0, iS 0])] 1 (by kernel_rfl) ?_
         refine wk_id ?_
         refine block_np ?_
         refine loop_sx (S := Int) (fun a => ([(1, .sl l.length (fl l)), (6, .ptr 0 0), (8, iS done17), (9, .ifc 61 (iS t22)), (10, iS t33q17), (11, iS (ix order t33q17)), (31, .sl order.length (fl order)), (32, iS ((order.length : Nat) : Int)), (33, iS t33q17), (55, .sl l.length (fl l)), (56, iS ((l.length : Nat) : Int)), (57, iS a)], [(0, .row 26 [iS 0, iS 0])], 1)) h (leSt_m [(0, 0)] [] (by simp only [push_cast, seval]) (by simp only [push_cast, seval]) rfl rfl rfl) ?_
         rintro t57q69 o10 R10 h hr10 hn10 hx10 ht10
         try dsimp only at h hn10 ⊢
         unfold linear_Play_l3 at h
         try dsimp only at h
         refine seq_np ?_
         refine reg_f ?_
         refine rs 1 [] [] (by kernel_rfl) allP_nil ?_
         refine rf [(1, .sl l.length (fl l)), (6, .ptr 0 0), (8, iS done17), (9, .ifc 61 (iS t22)), (10, iS t33q17), (11, iS (ix order t33q17)), (31, .sl order.length (fl order)), (32, iS ((order.length : Nat) : Int)), (33, iS t33q17), (55, .sl l.length (fl l)), (56, iS ((l.length : Nat) : Int)), (57, iS t57q69), (58, bS (decide (t57q69 < ((l.length : Nat) : Int))))] [(0, .row 26 [iS 0, iS 0])] 1 (by kernel_rfl) ?_
         refine wk_id ?_
         refine seq_np ?_
         refine cond_sx h (by kernel_rfl) (fun g8251 h => ?_) (fun g8251 h => ?_)
         ·refine wk_id ?_
          refine seq_np ?_
          refine block_np ?_
          refine chk_sx h (fun g8219 h => ?_)
          refine seq_np ?_
          refine reg_f ?_
          have k8218 : 0 ≤ t57q69 ∧ t57q69 < ((l.length : Nat) : Int) := by first | simpa only [Bool.and_eq_true, decide_eq_true_eq, bne_iff_ne, ne_eq] using g8219 | (simp at g8219 ⊢; omega)
          refine rs 6 [none, some ⟨.iptr (fl l) ((t57q69).toNat * 7), [], 1, []⟩, some ⟨.agg (Enc.cells (ix l t57q69)), [], 1, []⟩] _ (by kernel_rfl) (allP_cons (ob_ldw l t57q69 7 ((t57q69).toNat * 7) k8218 rfl (by first | rfl | omega) (Enc.cells (ix l t57q69)) rfl 1 []) (allP_cons (ob_ix_l l 7 1 t57q69 k8218) allP_nil)) ?_
          refine rf [(1, .sl l.length (fl l)), (6, .ptr 0 0), (8, iS done17), (9, .ifc 61 (iS t22)), (10, iS t33q17), (11, iS (ix order t33q17)), (12, iS t57q69), (13, .ptr 1 0), (31, .sl order.length (fl order)), (32, iS ((order.length : Nat) : Int)), (33, iS t33q17), (55, .sl l.length (fl l)), (56, iS ((l.length : Nat) : Int)), (57, iS t57q69)] [(0, .row 26 [iS 0, iS 0]), (1, .row 36 (Enc.cells (ix l t57q69)))] 2 (by kernel_rfl) ?_
          refine wk_id ?_
          refine chk_sx h (fun g8228 h => ?_)
          refine chk_sx h (fun g8232 h => ?_)
          refine seq_cut (A := Unit) (fun _ => ([(1, .sl l.length (fl l)), (6, .ptr 0 0), (8, iS done17), (9, .ifc 61 (iS t22)), (10, iS t33q17), (11, iS (ix order t33q17)), (31, .sl order.length (fl order)), (32, iS ((order.length : Nat) : Int)), (33, iS t33q17), (55, .sl l.length (fl l)), (56, iS ((l.length : Nat) : Int)), (57, iS t57q69), (81, bS (((IntKind.i64.wrap (((BitVec.ofInt (IntKind.i64).bits (Int.fdiv done17 (2 ^ (min (t57q69).toNat (IntKind.i64).bits))) &&& BitVec.ofInt (IntKind.i64).bits 1).toNat : Nat) : Int)) == 0) && ((t57q69 != (ix order t33q17)) && (decide ((ix l t57q69).End < (ix l (ix order t33q17)).Begin)))))], [(0, .row 26 [iS 0, iS 0]), (1, .row 36 (Enc.cells (ix l t57q69)))], 22)) (fun _ => True) (fun K8226 hK8226 => ?_) (fun _ _ => ?_)
          ·refine reg_t ?_
           have k8227 : 0 ≤ t57q69 := by first | simpa only [Bool.and_eq_true, decide_eq_true_eq, bne_iff_ne, ne_eq] using g8228 | (simp at g8228 ⊢; omega)
           refine rs 6 [none, none, some ⟨iS (Int.fdiv done17 (2 ^ (min (t57q69).toNat (IntKind.i64).bits))), [], 4, []⟩] _ (by kernel_rfl) (allP_cons (ob_p (v := iS (Int.fdiv done17 (2 ^ (min (t57q69).toNat (IntKind.i64).bits)))) (nx := 4) (r := []) k8227) allP_nil) ?_
           refine run_split 67 ((IntKind.i64.wrap (((BitVec.ofInt (IntKind.i64).bits (Int.fdiv done17 (2 ^ (min (t57q69).toNat (IntKind.i64).bits))) &&& BitVec.ofInt (IntKind.i64).bits 1).toNat : Nat) : Int)) == 0) (.inl (by kernel_rfl)) (fun g8229 => ?_) (fun g8229 => ?_)
           ·refine rs 5 [] [] (by kernel_rfl) allP_nil ?_
            refine run_split 72 (t57q69 != (ix order t33q17)) (.inl (by kernel_rfl)) (fun g8230 => ?_) (fun g8230 => ?_)
            ·have k8231 : 0 ≤ (ix order t33q17) ∧ (ix order t33q17) < ((l.length : Nat) : Int) := by have e := or_use g8232 (by first | ((try simp only [g8229, g8230]) <;> rfl) | ((try simp only [g8229]); (try simp only [g8230]); rfl) | (exfalso; clear h; simp_all; done)); first | simpa only [Bool.and_eq_true, decide_eq_true_eq, bne_iff_ne, ne_eq] using e | (simp at e ⊢; omega)
             refine rs 9 [none, none, none, none, some ⟨.iptr (fl l) (((ix order t33q17)).toNat * 7), [], 17, []⟩, none, some ⟨iS (ix l (ix order t33q17)).Begin, [], 19, []⟩] _ (by kernel_rfl) (allP_cons (ob_ld l (ix order t33q17) 7 0 ((((ix order t33q17)).toNat * 7) + 0) k8231 rfl (by decide) (by first | rfl | omega) (dflS Try.prog 3) (iS (ix l (ix order t33q17)).Begin) rfl 19 []) (allP_cons (ob_ix_l l 7 17 (ix order t33q17) k8231) allP_nil)) ?_
             refine rt [(1, .sl l.length (fl l)), (6, .ptr 0 0), (8, iS done17), (9, .ifc 61 (iS t22)), (10, iS t33q17), (11, iS (ix order t33q17)), (31, .sl order.length (fl order)), (32, iS ((order.length : Nat) : Int)), (33, iS t33q17), (55, .sl l.length (fl l)), (56, iS ((l.length : Nat) : Int)), (57, iS t57q69), (81, bS (decide ((ix l t57q69).End < (ix l (ix order t33q17)).Begin)))] [(0, .row 26 [iS 0, iS 0]), (1, .row 36 (Enc.cells (ix l t57q69)))] 22 follows (by kernel_rfl) ?_
             exact hK8226 () _ _ _ trivial (leSt_m [(0, 0), (1, 1)] [] (by first | ((try simp only [g8229, g8230]) <;> simp only [push_cast, seval]; done) | ((try simp only [g8229]); (try simp only [g8230]); simp only [push_cast, seval]; done) | (exfalso; clear h; simp_all; done)) (by first | ((try simp only [g8229, g8230]) <;> simp only [push_cast, seval]; done) | ((try simp only [g8229]); (try simp only [g8230]); simp only [push_cast, seval]; done) | (exfalso; clear h; simp_all; done)) rfl rfl rfl)
            ·refine rs 9 [] [] (by kernel_rfl) allP_nil ?_
             refine rt [(1, .sl l.length (fl l)), (6, .ptr 0 0), (8, iS done17), (9, .ifc 61 (iS t22)), (10, iS t33q17), (11, iS (ix order t33q17)), (31, .sl order.length (fl order)), (32, iS ((order.length : Nat) : Int)), (33, iS t33q17), (55, .sl l.length (fl l)), (56, iS ((l.length : Nat) : Int)), (57, iS t57q69), (81, bS false)] [(0, .row 26 [iS 0, iS 0]), (1, .row 36 (Enc.cells (ix l t57q69)))] 22 follows (by kernel_rfl) ?_
             exact hK8226 () _ _ _ trivial (leSt_m [(0, 0), (1, 1)] [] (by first | ((try simp only [g8229, g8230]) <;> simp only [push_cast, seval]; done) | ((try simp only [g8229]); (try simp only [g8230]); simp only [push_cast, seval]; done) | (exfalso; clear h; simp_all; done)) (by first | ((try simp only [g8229, g8230]) <;> simp only [push_cast, seval]; done) | ((try simp only [g8229]); (try simp only [g8230]); simp only [push_cast, seval]; done) | (exfalso; clear h; simp_all; done)) rfl rfl rfl)
           ·refine rs 14 [] [] (by kernel_rfl) allP_nil ?_
            refine rt [(1, .sl l.length (fl l)), (6, .ptr 0 0), (8, iS done17), (9, .ifc 61 (iS t22)), (10, iS t33q17), (11, iS (ix order t33q17)), (31, .sl order.length (fl order)), (32, iS ((order.length : Nat) : Int)), (33, iS t33q17), (55, .sl l.length (fl l)), (56, iS ((l.length : Nat) : Int)), (57, iS t57q69), (81, bS false)] [(0, .row 26 [iS 0, iS 0]), (1, .row 36 (Enc.cells (ix l t57q69)))] 22 follows (by kernel_rfl) ?_
            exact hK8226 () _ _ _ trivial (leSt_m [(0, 0), (1, 1)] [] (by (try simp only [g8229]) <;> simp only [push_cast, seval]) (by (try simp only [g8229]) <;> simp only [push_cast, seval]) rfl rfl rfl)
          ·dsimp only
           refine cond_sx h (by kernel_rfl) (fun g8235 h => ?_) (fun g8235 h => ?_)
           ·refine seq_np ?_
            refine reg_f ?_
            refine rs 1 [] [] (by kernel_rfl) allP_nil ?_
            obtain ⟨r8234, hr8234, h⟩ := bind_sx h
            refine run_call 22 [iS 11, iS t33q17] (some 83) (by kernel_rfl) ?_
            refine call_0 (linear_fault_spec 11 t33q17 r8234 hr8234) (by simp only [push_cast, seval]) (by simp only [push_cast, seval]) ?_
            refine back_f ?_
            refine rs 1 [] [] (by kernel_rfl) allP_nil ?_
            refine rf [(6, .ptr 0 0)] [(0, .row 26 (Enc.cells r8234)), (1, .row 36 (Enc.cells (ix l t57q69)))] 22 (by kernel_rfl) ?_
            refine wk_id ?_
            refine rt_cast ht10 ?_
            obtain ⟨r0, h, e0⟩ := map_sx h
            have e1 := hr10 r0 e0.symm
            subst r0
            refine rt_cast ht9 ?_
            obtain ⟨r0, h, e0⟩ := map_sx h
            have e1 := hr9 r0 e0.symm
            subst r0
            obtain rfl := Option.some.inj h
            refine ret_at (.agg (Enc.cells r8234)) (by kernel_rfl) ?_
            exact ret_e [] [] (by simp only [push_cast, seval]) (by simp only [push_cast, seval]) rfl rfl rfl
           ·refine wk_id ?_
            refine wk_id ?_
            refine reg_f ?_
            refine rs 2 [] [] (by kernel_rfl) allP_nil ?_
            refine rf [(1, .sl l.length (fl l)), (6, .ptr 0 0), (8, iS done17), (9, .ifc 61 (iS t22)), (10, iS t33q17), (11, iS (ix order t33q17)), (31, .sl order.length (fl order)), (32, iS ((order.length : Nat) : Int)), (33, iS t33q17), (55, .sl l.length (fl l)), (56, iS ((l.length : Nat) : Int)), (57, iS (IntKind.i64.wrap (t57q69 + 1)))] [(0, .row 26 [iS 0, iS 0]), (1, .row 36 (Enc.cells (ix l t57q69)))] 22 (by kernel_rfl) ?_
            exact hn10 ((IntKind.i64.wrap (t57q69 + 1))) _ _ _ (Option.some.inj h).symm (leSt_m [(0, 0)] [] (by simp only [push_cast, seval]) (by simp only [push_cast, seval]) rfl rfl rfl)
         ·change R10 (.exit 2) _ _ _
          refine ex_cast hx10 (id := 2) ?_
          obtain ⟨r0, h, e0⟩ := map_sx h
          have e1 := hr10 r0 e0.symm
          subst r0
          refine wk_id ?_
          refine wk_id ?_
          refine chk_sx h (fun g8240 h => ?_)
          refine seq_np ?_
          refine reg_t ?_
          have k8239 : 0 ≤ (ix order t33q17) ∧ (ix order t33q17) < ((l.length : Nat) : Int) := by first | simpa only [Bool.and_eq_true, decide_eq_true_eq, bne_iff_ne, ne_eq] using g8240 | (simp at g8240 ⊢; omega)
          refine rs 8 [none, none, none, some ⟨.iptr (fl l) (((ix order t33q17)).toNat * 7), [], 4, []⟩, some ⟨.agg (Enc.cells (ix l (ix order t33q17))), [], 5, []⟩] _ (by kernel_rfl) (allP_cons (ob_ldw l (ix order t33q17) 7 (((ix order t33q17)).toNat * 7) k8239 rfl (by first | rfl | omega) (Enc.cells (ix l (ix order t33q17))) rfl 5 []) (allP_cons (ob_ix_l l 7 4 (ix order t33q17) k8239) allP_nil)) ?_
          obtain ⟨r8241, hr8241, h⟩ := bind_sx h
          refine call_xI (linear_register_do_spec t22 (ix l (ix order t33q17)) r8241 hr8241) (args := [iS t22, .agg (Enc.cells (ix l (ix order t33q17)))]) (dst := (some 94)) (by kernel_rfl) [(0, .row 26 [iS 0, iS 0])] 9 (by kernel_rfl) [] [] (.tup [.ifc 61 (iS r8241.1), bS r8241.2]) [] (by simp only [push_cast, seval]) (by simp only [push_cast, seval]) (by kernel_rfl) (.inl rfl) (by simp only [push_cast, seval]) (by simp only [push_cast, seval]) ?_
          refine rs 5 [] [] (by kernel_rfl) allP_nil ?_
          refine rt [(1, .sl l.length (fl l)), (6, .ptr 0 0), (8, iS done17), (10, iS t33q17), (11, iS (ix order t33q17)), (14, .ifc 61 (iS r8241.1)), (15, bS r8241.2), (31, .sl order.length (fl order)), (32, iS ((order.length : Nat) : Int)), (33, iS t33q17)] [(0, .row 26 [iS 0, iS 0])] 15 follows (by kernel_rfl) ?_
          refine wk_id ?_
          refine seq_np ?_
          refine seq_np ?_
          refine reg_f ?_
          refine rs 2 [] [] (by kernel_rfl) allP_nil ?_
          refine rf [(1, .sl l.length (fl l)), (6, .ptr 0 0), (8, iS done17), (10, iS t33q17), (11, iS (ix order t33q17)), (14, .ifc 61 (iS r8241.1)), (31, .sl order.length (fl order)), (32, iS ((order.length : Nat) : Int)), (33, iS t33q17), (98, bS (!r8241.2))] [(0, .row 26 [iS 0, iS 0])] 15 (by kernel_rfl) ?_
          refine wk_id ?_
          refine cond_sx h (by kernel_rfl) (fun g8250 h => ?_) (fun g8250 h => ?_)
          ·refine seq_np ?_
           refine reg_f ?_
           refine rs 1 [] [] (by kernel_rfl) allP_nil ?_
           obtain ⟨r8245, hr8245, h⟩ := bind_sx h
           refine run_call 22 [iS 7, iS t33q17] (some 100) (by kernel_rfl) ?_
           refine call_0 (linear_fault_spec 7 t33q17 r8245 hr8245) (by simp only [push_cast, seval]) (by simp only [push_cast, seval]) ?_
           refine back_f ?_
           refine rs 1 [] [] (by kernel_rfl) allP_nil ?_
           refine rf [(6, .ptr 0 0)] [(0, .row 26 (Enc.cells r8245))] 15 (by kernel_rfl) ?_
           refine wk_id ?_
           refine rt_cast ht9 ?_
           obtain ⟨r0, h, e0⟩ := map_sx h
           have e1 := hr9 r0 e0.symm
           subst r0
           obtain rfl := Option.some.inj h
           refine ret_at (.agg (Enc.cells r8245)) (by kernel_rfl) ?_
           exact ret_e [] [] (by simp only [push_cast, seval]) (by simp only [push_cast, seval]) rfl rfl rfl
          ·refine wk_id ?_
           refine chk_sx h (fun g8249 h => ?_)
           refine reg_f ?_
           have k8248 : 0 ≤ (ix order t33q17) := by first | simpa only [Bool.and_eq_true, decide_eq_true_eq, bne_iff_ne, ne_eq] using g8249 | (simp at g8249 ⊢; omega)
           refine rs 7 [none, none, some ⟨iS (IntKind.i64.wrap ((1 : Int) * 2 ^ (min ((ix order t33q17)).toNat (IntKind.i64).bits))), [], 15, []⟩] _ (by kernel_rfl) (allP_cons (ob_p (v := iS (IntKind.i64.wrap ((1 : Int) * 2 ^ (min ((ix order t33q17)).toNat (IntKind.i64).bits)))) (nx := 15) (r := []) k8248) allP_nil) ?_
           refine rf [(1, .sl l.length (fl l)), (6, .ptr 0 0), (8, iS (IntKind.i64.wrap (((BitVec.ofInt (IntKind.i64).bits done17 ||| BitVec.ofInt (IntKind.i64).bits (IntKind.i64.wrap ((1 : Int) * 2 ^ (min ((ix order t33q17)).toNat (IntKind.i64).bits)))).toNat : Nat) : Int))), (9, .ifc 61 (iS r8241.1)), (31, .sl order.length (fl order)), (32, iS ((order.length : Nat) : Int)), (33, iS t33q17)] [(0, .row 26 [iS 0, iS 0])] 15 (by kernel_rfl) ?_
           refine wk_id ?_
           refine wk_id ?_
           refine reg_f ?_
           refine rs 2 [] [] (by kernel_rfl) allP_nil ?_
           refine rf [(1, .sl l.length (fl l)), (6, .ptr 0 0), (8, iS (IntKind.i64.wrap (((BitVec.ofInt (IntKind.i64).bits done17 ||| BitVec.ofInt (IntKind.i64).bits (IntKind.i64.wrap ((1 : Int) * 2 ^ (min ((ix order t33q17)).toNat (IntKind.i64).bits)))).toNat : Nat) : Int))), (9, .ifc 61 (iS r8241.1)), (31, .sl order.length (fl order)), (32, iS ((order.length : Nat) : Int)), (33, iS (IntKind.i64.wrap (t33q17 + 1)))] [(0, .row 26 [iS 0, iS 0])] 15 (by kernel_rfl) ?_
           exact hn9 ((IntKind.i64.wrap (((BitVec.ofInt (IntKind.i64).bits done17 ||| BitVec.ofInt (IntKind.i64).bits (IntKind.i64.wrap ((1 : Int) * 2 ^ (min ((ix order t33q17)).toNat (IntKind.i64).bits)))).toNat : Nat) : Int)), r8241.1, (IntKind.i64.wrap (t33q17 + 1))) _ _ _ (Option.some.inj h).symm (leSt_m [(0, 0)] [] (by simp only [push_cast, seval]) (by simp only [push_cast, seval]) rfl rfl rfl)
     ·change R9 (.exit 0) _ _ _
      refine ex_cast hx9 (id := 0) ?_
      obtain ⟨r0, h, e0⟩ := map_sx h
      have e1 := hr9 r0 e0.symm
      subst r0
      refine wk_id ?_
      refine wk_id ?_
      refine seq_np ?_
      refine reg_f ?_
      refine rs 2 [] [] (by kernel_rfl) allP_nil ?_
      refine rf [(6, .ptr 0 0)] [(0, .row 26 [iS 0, iS 0])] 1 (by kernel_rfl) ?_
      refine wk_id ?_
      obtain rfl := Option.some.inj h
      refine ret_at (.agg [iS 0, iS 0]) (by kernel_rfl) ?_
      exact ret_e [] [] (by simp only [push_cast, seval]) (by simp only [push_cast, seval]) rfl rfl rfl
    ·refine seq_np ?_
     refine reg_f ?_
     refine rs 1 [] [] (by kernel_rfl) allP_nil ?_
     obtain ⟨r8256, hr8256, h⟩ := bind_sx h
     refine run_call 21 [iS kind] (some 30) (by kernel_rfl) ?_
     refine call_0 (linear_begin_2_spec kind g6931 g7593 r8256 hr8256) (by simp only [push_cast, seval]) (by simp only [push_cast, seval]) ?_
     refine back_f ?_
     refine rs 2 [] [] (by kernel_rfl) allP_nil ?_
     refine rf [(1, .sl l.length (fl l)), (2, .sl order.length (fl order)), (6, .ptr 0 0), (8, iS 0), (9, .ifc 62 (iS r8256))] [(0, .row 26 [iS 0, iS 0]), (1, .row 26 (Enc.cells r6926))] 2 (by kernel_rfl) ?_
     refine wk_id ?_
     refine seq_np ?_
     refine seq_np ?_
     refine reg_f ?_
     refine rs 3 [] [] (by kernel_rfl) allP_nil ?_
     refine rf [(1, .sl l.length (fl l)), (6, .ptr 0 0), (8, iS 0), (9, .ifc 62 (iS r8256)), (31, .sl order.length (fl order)), (32, iS ((order.length : Nat) : Int)), (33, iS 0)] [(0, .row 26 [iS 0, iS 0]), (1, .row 26 (Enc.cells r6926))] 2 (by kernel_rfl) ?_
     refine wk_id ?_
     refine block_np ?_
     refine loop_sx (S := Int × Int × Int) (fun a => ([(1, .sl l.length (fl l)), (6, .ptr 0 0), (8, iS a.1), (9, .ifc 62 (iS a.2.1)), (31, .sl order.length (fl order)), (32, iS ((order.length : Nat) : Int)), (33, iS a.2.2)], [(0, .row 26 [iS 0, iS 0])], 1)) h (leSt_m [(0, 0)] [] (by simp only [push_cast, seval]) (by simp only [push_cast, seval]) rfl rfl rfl) ?_
     rintro ⟨done23, t31, t33q23⟩ o11 R11 h hr11 hn11 hx11 ht11
     try dsimp only at h hn11 ⊢
     unfold linear_Play_l6 at h
     try dsimp only at h
     refine seq_np ?_
     refine reg_f ?_
     refine rs 1 [] [] (by kernel_rfl) allP_nil ?_
     refine rf [(1, .sl l.length (fl l)), (6, .ptr 0 0), (8, iS done23), (9, .ifc 62 (iS t31)), (31, .sl order.length (fl order)), (32, iS ((order.length : Nat) : Int)), (33, iS t33q23), (34, bS (decide (t33q23 < ((order.length : Nat) : Int))))] [(0, .row 26 [iS 0, iS 0])] 1 (by kernel_rfl) ?_
     refine wk_id ?_
     refine seq_np ?_
     refine cond_sx h (by kernel_rfl) (fun g8915 h => ?_) (fun g8915 h => ?_)
     ·refine wk_id ?_
      refine seq_np ?_
      refine block_np ?_
      refine chk_sx h (fun g8752 h => ?_)
      refine seq_np ?_
      refine reg_f ?_
      have k8751 : 0 ≤ t33q23 ∧ t33q23 < ((order.length : Nat) : Int) := by first | simpa only [Bool.and_eq_true, decide_eq_true_eq, bne_iff_ne, ne_eq] using g8752 | (simp at g8752 ⊢; omega)
      refine rs 5 [none, some ⟨.iptr (fl order) ((t33q23).toNat * 1), [], 1, []⟩, some ⟨iS (ix order t33q23), [], 1, []⟩] _ (by kernel_rfl) (allP_cons (ob_ld order t33q23 1 0 ((t33q23).toNat * 1) k8751 rfl (by decide) (by first | rfl | omega) (dflS Try.prog 3) (iS (ix order t33q23)) rfl 1 []) (allP_cons (ob_ix_l order 1 1 t33q23 k8751) allP_nil)) ?_
      refine rf [(1, .sl l.length (fl l)), (6, .ptr 0 0), (8, iS done23), (9, .ifc 62 (iS t31)), (10, iS t33q23), (11, iS (ix order t33q23)), (31, .sl order.length (fl order)), (32, iS ((order.length : Nat) : Int)), (33, iS t33q23)] [(0, .row 26 [iS 0, iS 0])] 1 (by kernel_rfl) ?_
      refine wk_id ?_
      refine seq_np ?_
      refine seq_cut (A := Unit) (fun _ => ([(1, .sl l.length (fl l)), (6, .ptr 0 0), (8, iS done23), (9, .ifc 62 (iS t31)), (10, iS t33q23), (11, iS (ix order t33q23)), (31, .sl order.length (fl order)), (32, iS ((order.length : Nat) : Int)), (33, iS t33q23), (45, bS ((decide ((ix order t33q23) < 0)) || (decide (((l.length : Nat) : Int) ≤ (ix order t33q23)))))], [(0, .row 26 [iS 0, iS 0])], 1)) (fun _ => True) (fun K8757 hK8757 => ?_) (fun _ _ => ?_)
      ·refine reg_f ?_
       refine rs 3 [] [] (by kernel_rfl) allP_nil ?_
       refine run_split 40 (decide ((ix order t33q23) < 0)) (.inl (by kernel_rfl)) (fun g8758 => ?_) (fun g8758 => ?_)
       ·refine rs 5 [] [] (by kernel_rfl) allP_nil ?_
        refine rf [(1, .sl l.length (fl l)), (6, .ptr 0 0), (8, iS done23), (9, .ifc 62 (iS t31)), (10, iS t33q23), (11, iS (ix order t33q23)), (31, .sl order.length (fl order)), (32, iS ((order.length : Nat) : Int)), (33, iS t33q23), (45, bS true)] [(0, .row 26 [iS 0, iS 0])] 1 (by kernel_rfl) ?_
        exact hK8757 () _ _ _ trivial (leSt_m [(0, 0)] [] (by (try simp only [g8758]) <;> simp only [push_cast, seval]) (by (try simp only [g8758]) <;> simp only [push_cast, seval]) rfl rfl rfl)
       ·refine rs 5 [] [] (by kernel_rfl) allP_nil ?_
        refine rf [(1, .sl l.length (fl l)), (6, .ptr 0 0), (8, iS done23), (9, .ifc 62 (iS t31)), (10, iS t33q23), (11, iS (ix order t33q23)), (31, .sl order.length (fl order)), (32, iS ((order.length : Nat) : Int)), (33, iS t33q23), (45, bS (decide (((l.length : Nat) : Int) ≤ (ix order t33q23))))] [(0, .row 26 [iS 0, iS 0])] 1 (by kernel_rfl) ?_
        exact hK8757 () _ _ _ trivial (leSt_m [(0, 0)] [] (by (try simp only [g8758]) <;> simp only [push_cast, seval]) (by (try simp only [g8758]) <;> simp only [push_cast, seval]) rfl rfl rfl)
      ·dsimp only
       refine cond_sx h (by kernel_rfl) (fun g8914 h => ?_) (fun g8914 h => ?_)
       ·refine seq_np ?_
        refine reg_f ?_
        refine rs 1 [] [] (by kernel_rfl) allP_nil ?_
        obtain ⟨r8760, hr8760, h⟩ := bind_sx h
        refine run_call 22 [iS 3, iS t33q23] (some 47) (by kernel_rfl) ?_
        refine call_0 (linear_fault_spec 3 t33q23 r8760 hr8760) (by simp only [push_cast, seval]) (by simp only [push_cast, seval]) ?_
        refine back_f ?_
        refine rs 1 [] [] (by kernel_rfl) allP_nil ?_
        refine rf [(6, .ptr 0 0)] [(0, .row 26 (Enc.cells r8760))] 1 (by kernel_rfl) ?_
        refine wk_id ?_
        refine rt_cast ht11 ?_
        obtain ⟨r0, h, e0⟩ := map_sx h
        have e1 := hr11 r0 e0.symm
        subst r0
        obtain rfl := Option.some.inj h
        refine ret_at (.agg (Enc.cells r8760)) (by kernel_rfl) ?_
        exact ret_e [] [] (by simp only [push_cast, seval]) (by simp only [push_cast, seval]) rfl rfl rfl
       ·refine wk_id ?_
        refine seq_np ?_
        refine chk_sx h (fun g8768 h => ?_)
        refine seq_np ?_
        refine reg_f ?_
        have k8767 : 0 ≤ (ix order t33q23) := by first | simpa only [Bool.and_eq_true, decide_eq_true_eq, bne_iff_ne, ne_eq] using g8768 | (simp at g8768 ⊢; omega)
        refine rs 5 [none, none, some ⟨iS (Int.fdiv done23 (2 ^ (min ((ix order t33q23)).toNat (IntKind.i64).bits))), [], 1, []⟩] _ (by kernel_rfl) (allP_cons (ob_p (v := iS (Int.fdiv done23 (2 ^ (min ((ix order t33q23)).toNat (IntKind.i64).bits)))) (nx := 1) (r := []) k8767) allP_nil) ?_
        refine rf [(1, .sl l.length (fl l)), (6, .ptr 0 0), (8, iS done23), (9, .ifc 62 (iS t31)), (10, iS t33q23), (11, iS (ix order t33q23)), (31, .sl order.length (fl order)), (32, iS ((order.length : Nat) : Int)), (33, iS t33q23), (52, bS ((IntKind.i64.wrap (((BitVec.ofInt (IntKind.i64).bits (Int.fdiv done23 (2 ^ (min ((ix order t33q23)).toNat (IntKind.i64).bits))) &&& BitVec.ofInt (IntKind.i64).bits 1).toNat : Nat) : Int)) == 1))] [(0, .row 26 [iS 0, iS 0])] 1 (by kernel_rfl) ?_
        refine wk_id ?_
        refine cond_sx h (by kernel_rfl) (fun g8913 h => ?_) (fun g8913 h => ?_)
        ·refine seq_np ?_
         refine reg_f ?_
         refine rs 1 [] [] (by kernel_rfl) allP_nil ?_
         obtain ⟨r8770, hr8770, h⟩ := bind_sx h
         refine run_call 22 [iS 10, iS t33q23] (some 54) (by kernel_rfl) ?_
         refine call_0 (linear_fault_spec 10 t33q23 r8770 hr8770) (by simp only [push_cast, seval]) (by simp only [push_cast, seval]) ?_
         refine back_f ?_
         refine rs 1 [] [] (by kernel_rfl) allP_nil ?_
         refine rf [(6, .ptr 0 0)] [(0, .row 26 (Enc.cells r8770))] 1 (by kernel_rfl) ?_
         refine wk_id ?_
         refine rt_cast ht11 ?_
         obtain ⟨r0, h, e0⟩ := map_sx h
         have e1 := hr11 r0 e0.symm
         subst r0
         obtain rfl := Option.some.inj h
         refine ret_at (.agg (Enc.cells r8770)) (by kernel_rfl) ?_
         exact ret_e [] [] (by simp only [push_cast, seval]) (by simp only [push_cast, seval]) rfl rfl rfl
        ·refine wk_id ?_
         refine seq_np ?_
         refine seq_np ?_
         refine reg_f ?_
         refine rs 3 [] [] (by kernel_rfl) allP_nil ?_
         refine rf [(1, .sl l.length (fl l)), (6, .ptr 0 0), (8, iS done23), (9, .ifc 62 (iS t31)), (10, iS t33q23), (11, iS (ix order t33q23)), (31, .sl order.length (fl order)), (32, iS ((order.length : Nat) : Int)), (33, iS t33q23), (55, .sl l.length (fl l)), (56, iS ((l.length : Nat) : Int)), (57, iS 0)] [(0, .row 26 [iS 0, iS 0])] 1 (by kernel_rfl) ?_
         refine wk_id ?_
         refine block_np ?_
         refine loop_sx (S := Int) (fun a => ([(1, .sl l.length (fl l)), (6, .ptr 0 0), (8, iS done23), (9, .ifc 62 (iS t31)), (10, iS t33q23), (11, iS (ix order t33q23)), (31, .sl order.length (fl order)), (32, iS ((order.length : Nat) : Int)), (33, iS t33q23), (55, .sl l.length (fl l)), (56, iS ((l.length : Nat) : Int)), (57, iS a)], [(0, .row 26 [iS 0, iS 0])], 1)) h (leSt_m [(0, 0)] [] (by simp only [push_cast, seval]) (by simp only [push_cast, seval]) rfl rfl rfl) ?_
         rintro t57q95 o12 R12 h hr12 hn12 hx12 ht12
         try dsimp only at h hn12 ⊢
         unfold linear_Play_l5 at h
         try dsimp only at h
         refine seq_np ?_
         refine reg_f ?_
         refine rs 1 [] [] (by kernel_rfl) allP_nil ?_
         refine rf [(1, .sl l.length (fl l)), (6, .ptr 0 0), (8, iS done23), (9, .ifc 62 (iS t31)), (10, iS t33q23), (11, iS (ix order t33q23)), (31, .sl order.length (fl order)), (32, iS ((order.length : Nat) : Int)), (33, iS t33q23), (55, .sl l.length (fl l)), (56, iS ((l.length : Nat) : Int)), (57, iS t57q95), (58, bS (decide (t57q95 < ((l.length : Nat) : Int))))] [(0, .row 26 [iS 0, iS 0])] 1 (by kernel_rfl) ?_
         refine wk_id ?_
         refine seq_np ?_
         refine cond_sx h (by kernel_rfl) (fun g8912 h => ?_) (fun g8912 h => ?_)
         ·refine wk_id ?_
          refine seq_np ?_
          refine block_np ?_
          refine chk_sx h (fun g8880 h => ?_)
          refine seq_np ?_
          refine reg_f ?_
          have k8879 : 0 ≤ t57q95 ∧ t57q95 < ((l.length : Nat) : Int) := by first | simpa only [Bool.and_eq_true, decide_eq_true_eq, bne_iff_ne, ne_eq] using g8880 | (simp at g8880 ⊢; omega)
          refine rs 6 [none, some ⟨.iptr (fl l) ((t57q95).toNat * 7), [], 1, []⟩, some ⟨.agg (Enc.cells (ix l t57q95)), [], 1, []⟩] _ (by kernel_rfl) (allP_cons (ob_ldw l t57q95 7 ((t57q95).toNat * 7) k8879 rfl (by first | rfl | omega) (Enc.cells (ix l t57q95)) rfl 1 []) (allP_cons (ob_ix_l l 7 1 t57q95 k8879) allP_nil)) ?_
          refine rf [(1, .sl l.length (fl l)), (6, .ptr 0 0), (8, iS done23), (9, .ifc 62 (iS t31)), (10, iS t33q23), (11, iS (ix order t33q23)), (12, iS t57q95), (13, .ptr 1 0), (31, .sl order.length (fl order)), (32, iS ((order.length : Nat) : Int)), (33, iS t33q23), (55, .sl l.length (fl l)), (56, iS ((l.length : Nat) : Int)), (57, iS t57q95)] [(0, .row 26 [iS 0, iS 0]), (1, .row 36 (Enc.cells (ix l t57q95)))] 2 (by kernel_rfl) ?_
          refine wk_id ?_
          refine chk_sx h (fun g8889 h => ?_)
          refine chk_sx h (fun g8893 h => ?_)
          refine seq_cut (A := Unit) (fun _ => ([(1, .sl l.length (fl l)), (6, .ptr 0 0), (8, iS done23), (9, .ifc 62 (iS t31)), (10, iS t33q23), (11, iS (ix order t33q23)), (31, .sl order.length (fl order)), (32, iS ((order.length : Nat) : Int)), (33, iS t33q23), (55, .sl l.length (fl l)), (56, iS ((l.length : Nat) : Int)), (57, iS t57q95), (81, bS (((IntKind.i64.wrap (((BitVec.ofInt (IntKind.i64).bits (Int.fdiv done23 (2 ^ (min (t57q95).toNat (IntKind.i64).bits))) &&& BitVec.ofInt (IntKind.i64).bits 1).toNat : Nat) : Int)) == 0) && ((t57q95 != (ix order t33q23)) && (decide ((ix l t57q95).End < (ix l (ix order t33q23)).Begin)))))], [(0, .row 26 [iS 0, iS 0]), (1, .row 36 (Enc.cells (ix l t57q95)))], 22)) (fun _ => True) (fun K8887 hK8887 => ?_) (fun _ _ => ?_)
          ·refine reg_t ?_
           have k8888 : 0 ≤ t57q95 := by first | simpa only [Bool.and_eq_true, decide_eq_true_eq, bne_iff_ne, ne_eq] using g8889 | (simp at g8889 ⊢; omega)
           refine rs 6 [none, none, some ⟨iS (Int.fdiv done23 (2 ^ (min (t57q95).toNat (IntKind.i64).bits))), [], 4, []⟩] _ (by kernel_rfl) (allP_cons (ob_p (v := iS (Int.fdiv done23 (2 ^ (min (t57q95).toNat (IntKind.i64).bits)))) (nx := 4) (r := []) k8888) allP_nil) ?_
           refine run_split 67 ((IntKind.i64.wrap (((BitVec.ofInt (IntKind.i64).bits (Int.fdiv done23 (2 ^ (min (t57q95).toNat (IntKind.i64).bits))) &&& BitVec.ofInt (IntKind.i64).bits 1).toNat : Nat) : Int)) == 0) (.inl (by kernel_rfl)) (fun g8890 => ?_) (fun g8890 => ?_)
           ·refine rs 5 [] [] (by kernel_rfl) allP_nil ?_
            refine run_split 72 (t57q95 != (ix order t33q23)) (.inl (by kernel_rfl)) (fun g8891 => ?_) (fun g8891 => ?_)
            ·have k8892 : 0 ≤ (ix order t33q23) ∧ (ix order t33q23) < ((l.length : Nat) : Int) := by have e := or_use g8893 (by first | ((try simp only [g8890, g8891]) <;> rfl) | ((try simp only [g8890]); (try simp only [g8891]); rfl) | (exfalso; clear h; simp_all; done)); first | simpa only [Bool.and_eq_true, decide_eq_true_eq, bne_iff_ne, ne_eq] using e | (simp at e ⊢; omega)
             refine rs 9 [none, none, none, none, some ⟨.iptr (fl l) (((ix order t33q23)).toNat * 7), [], 17, []⟩, none, some ⟨iS (ix l (ix order t33q23)).Begin, [], 19, []⟩] _ (by kernel_rfl) (allP_cons (ob_ld l (ix order t33q23) 7 0 ((((ix order t33q23)).toNat * 7) + 0) k8892 rfl (by decide) (by first | rfl | omega) (dflS Try.prog 3) (iS (ix l (ix order t33q23)).Begin) rfl 19 []) (allP_cons (ob_ix_l l 7 17 (ix order t33q23) k8892) allP_nil)) ?_
             refine rt [(1, .sl l.length (fl l)), (6, .ptr 0 0), (8, iS done23), (9, .ifc 62 (iS t31)), (10, iS t33q23), (11, iS (ix order t33q23)), (31, .sl order.length (fl order)), (32, iS ((order.length : Nat) : Int)), (33, iS t33q23), (55, .sl l.length (fl l)), (56, iS ((l.length : Nat) : Int)), (57, iS t57q95), (81, bS (decide ((ix l t57q95).End < (ix l (ix order t33q23)).Begin)))] [(0, .row 26 [iS 0, iS 0]), (1, .row 36 (Enc.cells (ix l t57q95)))] 22 follows (by kernel_rfl) ?_
             exact hK8887 () _ _ _ trivial (leSt_m [(0, 0), (1, 1)] [] (by first | ((try simp only [g8890, g8891]) <;> simp only [push_cast, seval]; done) | ((try simp only [g8890]); (try simp only [g8891]); simp only [push_cast, seval]; done) | (exfalso; clear h; simp_all; done)) (by first | ((try simp only [g8890, g8891]) <;> simp only [push_cast, seval]; done) | ((try simp only [g8890]); (try simp only [g8891]); simp only [push_cast, seval]; done) | (exfalso; clear h; simp_all; done)) rfl rfl rfl)
            ·refine rs 9 [] [] (by kernel_rfl) allP_nil ?_
             refine rt [(1, .sl l.length (fl l)), (6, .ptr 0 0), (8, iS done23), (9, .ifc 62 (iS t31)), (10, iS t33q23), (11, iS (ix order t33q23)), (31, .sl order.length (fl order)), (32, iS ((order.length : Nat) : Int)), (33, iS t33q23), (55, .sl l.length (fl l)), (56, iS ((l.length : Nat) : Int)), (57, iS t57q95), (81, bS false)] [(0, .row 26 [iS 0, iS 0]), (1, .row 36 (Enc.cells (ix l t57q95)))] 22 follows (by kernel_rfl) ?_
             exact hK8887 () _ _ _ trivial (leSt_m [(0, 0), (1, 1)] [] (by first | ((try simp only [g8890, g8891]) <;> simp only [push_cast, seval]; done) | ((try simp only [g8890]); (try simp only [g8891]); simp only [push_cast, seval]; done) | (exfalso; clear h; simp_all; done)) (by first | ((try simp only [g8890, g8891]) <;> simp only [push_cast, seval]; done) | ((try simp only [g8890]); (try simp only [g8891]); simp only [push_cast, seval]; done) | (exfalso; clear h; simp_all; done)) rfl rfl rfl)
           ·refine rs 14 [] [] (by kernel_rfl) allP_nil ?_
            refine rt [(1, .sl l.length (fl l)), (6, .ptr 0 0), (8, iS done23), (9, .ifc 62 (iS t31)), (10, iS t33q23), (11, iS (ix order t33q23)), (31, .sl order.length (fl order)), (32, iS ((order.length : Nat) : Int)), (33, iS t33q23), (55, .sl l.length (fl l)), (56, iS ((l.length : Nat) : Int)), (57, iS t57q95), (81, bS false)] [(0, .row 26 [iS 0, iS 0]), (1, .row 36 (Enc.cells (ix l t57q95)))] 22 follows (by kernel_rfl) ?_
            exact hK8887 () _ _ _ trivial (leSt_m [(0, 0), (1, 1)] [] (by (try simp only [g8890]) <;> simp only [push_cast, seval]) (by (try simp only [g8890]) <;> simp only [push_cast, seval]) rfl rfl rfl)
          ·dsimp only
           refine cond_sx h (by kernel_rfl) (fun g8896 h => ?_) (fun g8896 h => ?_)
           ·refine seq_np ?_
            refine reg_f ?_
            refine rs 1 [] [] (by kernel_rfl) allP_nil ?_
            obtain ⟨r8895, hr8895, h⟩ := bind_sx h
            refine run_call 22 [iS 11, iS t33q23] (some 83) (by kernel_rfl) ?_
            refine call_0 (linear_fault_spec 11 t33q23 r8895 hr8895) (by simp only [push_cast, seval]) (by simp only [push_cast, seval]) ?_
            refine back_f ?_
            refine rs 1 [] [] (by kernel_rfl) allP_nil ?_
            refine rf [(6, .ptr 0 0)] [(0, .row 26 (Enc.cells r8895)), (1, .row 36 (Enc.cells (ix l t57q95)))] 22 (by kernel_rfl) ?_
            refine wk_id ?_
            refine rt_cast ht12 ?_
            obtain ⟨r0, h, e0⟩ := map_sx h
            have e1 := hr12 r0 e0.symm
            subst r0
            refine rt_cast ht11 ?_
            obtain ⟨r0, h, e0⟩ := map_sx h
            have e1 := hr11 r0 e0.symm
            subst r0
            obtain rfl := Option.some.inj h
            refine ret_at (.agg (Enc.cells r8895)) (by kernel_rfl) ?_
            exact ret_e [] [] (by simp only [push_cast, seval]) (by simp only [push_cast, seval]) rfl rfl rfl
           ·refine wk_id ?_
            refine wk_id ?_
            refine reg_f ?_
            refine rs 2 [] [] (by kernel_rfl) allP_nil ?_
            refine rf [(1, .sl l.length (fl l)), (6, .ptr 0 0), (8, iS done23), (9, .ifc 62 (iS t31)), (10, iS t33q23), (11, iS (ix order t33q23)), (31, .sl order.length (fl order)), (32, iS ((order.length : Nat) : Int)), (33, iS t33q23), (55, .sl l.length (fl l)), (56, iS ((l.length : Nat) : Int)), (57, iS (IntKind.i64.wrap (t57q95 + 1)))] [(0, .row 26 [iS 0, iS 0]), (1, .row 36 (Enc.cells (ix l t57q95)))] 22 (by kernel_rfl) ?_
            exact hn12 ((IntKind.i64.wrap (t57q95 + 1))) _ _ _ (Option.some.inj h).symm (leSt_m [(0, 0)] [] (by simp only [push_cast, seval]) (by simp only [push_cast, seval]) rfl rfl rfl)
         ·change R12 (.exit 2) _ _ _
          refine ex_cast hx12 (id := 2) ?_
          obtain ⟨r0, h, e0⟩ := map_sx h
          have e1 := hr12 r0 e0.symm
          subst r0
          refine wk_id ?_
          refine wk_id ?_
          refine chk_sx h (fun g8901 h => ?_)
          refine seq_np ?_
          refine reg_t ?_
          have k8900 : 0 ≤ (ix order t33q23) ∧ (ix order t33q23) < ((l.length : Nat) : Int) := by first | simpa only [Bool.and_eq_true, decide_eq_true_eq, bne_iff_ne, ne_eq] using g8901 | (simp at g8901 ⊢; omega)
          refine rs 8 [none, none, none, some ⟨.iptr (fl l) (((ix order t33q23)).toNat * 7), [], 4, []⟩, some ⟨.agg (Enc.cells (ix l (ix order t33q23))), [], 5, []⟩] _ (by kernel_rfl) (allP_cons (ob_ldw l (ix order t33q23) 7 (((ix order t33q23)).toNat * 7) k8900 rfl (by first | rfl | omega) (Enc.cells (ix l (ix order t33q23))) rfl 5 []) (allP_cons (ob_ix_l l 7 4 (ix order t33q23) k8900) allP_nil)) ?_
          obtain ⟨r8902, hr8902, h⟩ := bind_sx h
          refine call_xI (linear_counter_do_spec t31 (ix l (ix order t33q23)) r8902 hr8902) (args := [iS t31, .agg (Enc.cells (ix l (ix order t33q23)))]) (dst := (some 94)) (by kernel_rfl) [(0, .row 26 [iS 0, iS 0])] 9 (by kernel_rfl) [] [] (.tup [.ifc 62 (iS r8902.1), bS r8902.2]) [] (by simp only [push_cast, seval]) (by simp only [push_cast, seval]) (by kernel_rfl) (.inl rfl) (by simp only [push_cast, seval]) (by simp only [push_cast, seval]) ?_
          refine rs 5 [] [] (by kernel_rfl) allP_nil ?_
          refine rt [(1, .sl l.length (fl l)), (6, .ptr 0 0), (8, iS done23), (10, iS t33q23), (11, iS (ix order t33q23)), (14, .ifc 62 (iS r8902.1)), (15, bS r8902.2), (31, .sl order.length (fl order)), (32, iS ((order.length : Nat) : Int)), (33, iS t33q23)] [(0, .row 26 [iS 0, iS 0])] 15 follows (by kernel_rfl) ?_
          refine wk_id ?_
          refine seq_np ?_
          refine seq_np ?_
          refine reg_f ?_
          refine rs 2 [] [] (by kernel_rfl) allP_nil ?_
          refine rf [(1, .sl l.length (fl l)), (6, .ptr 0 0), (8, iS done23), (10, iS t33q23), (11, iS (ix order t33q23)), (14, .ifc 62 (iS r8902.1)), (31, .sl order.length (fl order)), (32, iS ((order.length : Nat) : Int)), (33, iS t33q23), (98, bS (!r8902.2))] [(0, .row 26 [iS 0, iS 0])] 15 (by kernel_rfl) ?_
          refine wk_id ?_
          refine cond_sx h (by kernel_rfl) (fun g8911 h => ?_) (fun g8911 h => ?_)
          ·refine seq_np ?_
           refine reg_f ?_
           refine rs 1 [] [] (by kernel_rfl) allP_nil ?_
           obtain ⟨r8906, hr8906, h⟩ := bind_sx h
           refine run_call 22 [iS 7, iS t33q23] (some 100) (by kernel_rfl) ?_
           refine call_0 (linear_fault_spec 7 t33q23 r8906 hr8906) (by simp only [push_cast, seval]) (by simp only [push_cast, seval]) ?_
           refine back_f ?_
           refine rs 1 [] [] (by kernel_rfl) allP_nil ?_
           refine rf [(6, .ptr 0 0)] [(0, .row 26 (Enc.cells r8906))] 15 (by kernel_rfl) ?_
           refine wk_id ?_
           refine rt_cast ht11 ?_
           obtain ⟨r0, h, e0⟩ := map_sx h
           have e1 := hr11 r0 e0.symm
           subst r0
           obtain rfl := Option.some.inj h
           refine ret_at (.agg (Enc.cells r8906)) (by kernel_rfl) ?_
           exact ret_e [] [] (by simp only [push_cast, seval]) (by simp only [push_cast, seval]) rfl rfl rfl
          ·refine wk_id ?_
           refine chk_sx h (fun g8910 h => ?_)
           refine reg_f ?_
           have k8909 : 0 ≤ (ix order t33q23) := by first | simpa only [Bool.and_eq_true, decide_eq_true_eq, bne_iff_ne, ne_eq] using g8910 | (simp at g8910 ⊢; omega)
           refine rs 7 [none, none, some ⟨iS (IntKind.i64.wrap ((1 : Int) * 2 ^ (min ((ix order t33q23)).toNat (IntKind.i64).bits))), [], 15, []⟩] _ (by kernel_rfl) (allP_cons (ob_p (v := iS (IntKind.i64.wrap ((1 : Int) * 2 ^ (min ((ix order t33q23)).toNat (IntKind.i64).bits)))) (nx := 15) (r := []) k8909) allP_nil) ?_
           refine rf [(1, .sl l.length (fl l)), (6, .ptr 0 0), (8, iS (IntKind.i64.wrap (((BitVec.ofInt (IntKind.i64).bits done23 ||| BitVec.ofInt (IntKind.i64).bits (IntKind.i64.wrap ((1 : Int) * 2 ^ (min ((ix order t33q23)).toNat (IntKind.i64).bits)))).toNat : Nat) : Int))), (9, .ifc 62 (iS r8902.1)), (31, .sl order.length (fl order)), (32, iS ((order.length : Nat) : Int)), (33, iS t33q23)] [(0, .row 26 [iS 0, iS 0])] 15 (by kernel_rfl) ?_
           refine wk_id ?_
           refine wk_id ?_
           refine reg_f ?_
           refine rs 2 [] [] (by kernel_rfl) allP_nil ?_
           refine rf [(1, .sl l.length (fl l)), (6, .ptr 0 0), (8, iS (IntKind.i64.wrap (((BitVec.ofInt (IntKind.i64).bits done23 ||| BitVec.ofInt (IntKind.i64).bits (IntKind.i64.wrap ((1 : Int) * 2 ^ (min ((ix order t33q23)).toNat (IntKind.i64).bits)))).toNat : Nat) : Int))), (9, .ifc 62 (iS r8902.1)), (31, .sl order.length (fl order)), (32, iS ((order.length : Nat) : Int)), (33, iS (IntKind.i64.wrap (t33q23 + 1)))] [(0, .row 26 [iS 0, iS 0])] 15 (by kernel_rfl) ?_
           exact hn11 ((IntKind.i64.wrap (((BitVec.ofInt (IntKind.i64).bits done23 ||| BitVec.ofInt (IntKind.i64).bits (IntKind.i64.wrap ((1 : Int) * 2 ^ (min ((ix order t33q23)).toNat (IntKind.i64).bits)))).toNat : Nat) : Int)), r8902.1, (IntKind.i64.wrap (t33q23 + 1))) _ _ _ (Option.some.inj h).symm (leSt_m [(0, 0)] [] (by simp only [push_cast, seval]) (by simp only [push_cast, seval]) rfl rfl rfl)
     ·change R11 (.exit 0) _ _ _
      refine ex_cast hx11 (id := 0) ?_
      obtain ⟨r0, h, e0⟩ := map_sx h
      have e1 := hr11 r0 e0.symm
      subst r0
      refine wk_id ?_
      refine wk_id ?_
      refine seq_np ?_
      refine reg_f ?_
      refine rs 2 [] [] (by kernel_rfl) allP_nil ?_
      refine rf [(6, .ptr 0 0)] [(0, .row 26 [iS 0, iS 0])] 1 (by kernel_rfl) ?_
      refine wk_id ?_
      obtain rfl := Option.some.inj h
      refine ret_at (.agg [iS 0, iS 0]) (by kernel_rfl) ?_
      exact ret_e [] [] (by simp only [push_cast, seval]) (by simp only [push_cast, seval]) rfl rfl rfl

set_option maxRecDepth 100000 in
set_option maxHeartbeats 200000000 in
theorem taskmilllaw_LinearPlays_spec (kind : Int) (l : (List GCall)) (order : (List Int)) (r : Bool) (h : taskmilllaw_LinearPlays kind l order = some r) : SpecW Try.prog 6 [iS kind, .sl l.length (fl l), .sl order.length (fl order)] [] 0 (fun x h n => x = bS r ∧ h = [] ∧ n = 0) := by
 unfold taskmilllaw_LinearPlays at h
 refine spec_of (draw_ok _) Try.func6 rfl (by decide) rfl (by kernel_rfl) ?_
 refine seq_np ?_
 refine reg_f ?_
 refine rs 1 [] [] (by kernel_rfl) allP_nil ?_
 refine rf [(0, iS kind), (1, .sl l.length (fl l)), (2, .sl order.length (fl order))] [] 0 (by kernel_rfl) ?_
 refine wk_id ?_
 refine seq_np ?_
 refine seq_np ?_
 refine reg_f ?_
 obtain ⟨r8928, hr8928, h⟩ := bind_sx h
 refine run_call 8 [] (some 10) (by kernel_rfl) ?_
 refine call_0 (taskmilllaw_linearBegun_spec r8928 hr8928) (by simp only [push_cast, seval]) (by simp only [push_cast, seval]) ?_
 refine back_f ?_
 refine rs 1 [] [] (by kernel_rfl) allP_nil ?_
 refine rf [(0, iS kind), (1, .sl l.length (fl l)), (2, .sl order.length (fl order)), (11, bS (!r8928))] [] 0 (by kernel_rfl) ?_
 refine wk_id ?_
 refine cond_sx h (by kernel_rfl) (fun g8956 h => ?_) (fun g8956 h => ?_)
 ·refine seq_np ?_
  refine reg_f ?_
  refine rs 1 [] [] (by kernel_rfl) allP_nil ?_
  refine rf [(6, bS false)] [] 0 (by kernel_rfl) ?_
  refine wk_id ?_
  obtain rfl := Option.some.inj h
  refine ret_at (bS false) (by kernel_rfl) ?_
  exact ret_e [] [] (by simp only [push_cast, seval]) (by simp only [push_cast, seval]) rfl rfl rfl
 ·refine wk_id ?_
  refine seq_np ?_
  refine seq_cut (A := Unit) (fun _ => ([(0, iS kind), (1, .sl l.length (fl l)), (2, .sl order.length (fl order)), (19, bS ((decide ((100 : Int) < ((l.length : Nat) : Int))) || (decide ((100 : Int) < ((order.length : Nat) : Int)))))], [], 0)) (fun _ => True) (fun K8932 hK8932 => ?_) (fun _ _ => ?_)
  ·refine reg_f ?_
   refine rs 4 [] [] (by kernel_rfl) allP_nil ?_
   refine run_split 15 (decide ((100 : Int) < ((l.length : Nat) : Int))) (.inl (by kernel_rfl)) (fun g8933 => ?_) (fun g8933 => ?_)
   ·refine rs 4 [] [] (by kernel_rfl) allP_nil ?_
    refine rf [(0, iS kind), (1, .sl l.length (fl l)), (2, .sl order.length (fl order)), (19, bS true)] [] 0 (by kernel_rfl) ?_
    exact hK8932 () _ _ _ trivial (leSt_m [] [] (by (try simp only [g8933]) <;> simp only [push_cast, seval]) (by (try simp only [g8933]) <;> simp only [push_cast, seval]) rfl rfl rfl)
   ·refine rs 4 [] [] (by kernel_rfl) allP_nil ?_
    refine rf [(0, iS kind), (1, .sl l.length (fl l)), (2, .sl order.length (fl order)), (19, bS (decide ((100 : Int) < ((order.length : Nat) : Int))))] [] 0 (by kernel_rfl) ?_
    exact hK8932 () _ _ _ trivial (leSt_m [] [] (by (try simp only [g8933]) <;> simp only [push_cast, seval]) (by (try simp only [g8933]) <;> simp only [push_cast, seval]) rfl rfl rfl)
  ·dsimp only
   refine cond_sx h (by kernel_rfl) (fun g8955 h => ?_) (fun g8955 h => ?_)
   ·refine seq_np ?_
    refine reg_f ?_
    refine rs 1 [] [] (by kernel_rfl) allP_nil ?_
    refine rf [(6, bS true)] [] 0 (by kernel_rfl) ?_
    refine wk_id ?_
    obtain rfl := Option.some.inj h
    refine ret_at (bS true) (by kernel_rfl) ?_
    exact ret_e [] [] (by simp only [push_cast, seval]) (by simp only [push_cast, seval]) rfl rfl rfl
   ·refine wk_id ?_
    refine seq_np ?_
    refine reg_f ?_
    refine rs 2 [] [] (by kernel_rfl) allP_nil ?_
    obtain ⟨r8936, hr8936, h⟩ := bind_sx h
    refine call_x (taskmilllaw_ownCalls_spec l r8936 hr8936) (args := [.sl l.length (fl l)]) (dst := (some 22)) (by kernel_rfl) [] 0 (by kernel_rfl) [] [] (.own 0 0 r8936.length) [(0, .row 36 (fl r8936))] (by simp only [push_cast, seval]) (by simp only [push_cast, seval]) (by kernel_rfl) (.inl rfl) (by simp only [push_cast, seval]) (by simp only [push_cast, seval]) ?_
    obtain ⟨r8937, hr8937, h⟩ := bind_sx h
    refine call_x (linear_Check_spec kind r8936 r8937 hr8937) (args := [iS kind, .own 0 0 r8936.length]) (dst := (some 23)) (by kernel_rfl) [(0, .row 36 (fl r8936))] 1 (by kernel_rfl) [] [0] (.agg (Enc.cells r8937)) [] (by simp only [push_cast, seval]) (by simp only [push_cast, seval]) (by kernel_rfl) (.inr ⟨by simp only [push_cast, seval], by simp only [push_cast, seval]⟩) (by simp only [push_cast, seval]) (by simp only [push_cast, seval]) ?_
    refine rs 2 [] [] (by kernel_rfl) allP_nil ?_
    refine rf [(0, iS kind), (1, .sl l.length (fl l)), (2, .sl order.length (fl order)), (7, .ptr 1 0)] [(0, .row 36 (fl r8936)), (1, .row 26 (Enc.cells r8937))] 2 (by kernel_rfl) ?_
    refine wk_id ?_
    refine seq_np ?_
    refine reg_f ?_
    refine rs 2 [] [] (by kernel_rfl) allP_nil ?_
    obtain ⟨r8941, hr8941, h⟩ := bind_sx h
    refine call_x (taskmilllaw_ownCalls_spec l r8941 hr8941) (args := [.sl l.length (fl l)]) (dst := (some 26)) (by kernel_rfl) [(0, .row 36 (fl r8936)), (1, .row 26 (Enc.cells r8937))] 2 (by kernel_rfl) [] [] (.own 2 0 r8941.length) [(2, .row 36 (fl r8941))] (by simp only [push_cast, seval]) (by simp only [push_cast, seval]) (by kernel_rfl) (.inl rfl) (by simp only [push_cast, seval]) (by simp only [push_cast, seval]) ?_
    refine rs 1 [] [] (by kernel_rfl) allP_nil ?_
    obtain ⟨r8942, hr8942, h⟩ := bind_sx h
    refine call_x (taskmilllaw_own_spec order r8942 hr8942) (args := [.sl order.length (fl order)]) (dst := (some 28)) (by kernel_rfl) [(0, .row 36 (fl r8936)), (1, .row 26 (Enc.cells r8937)), (2, .row 36 (fl r8941))] 3 (by kernel_rfl) [] [] (.own 3 0 r8942.length) [(3, .row 3 (fl r8942))] (by simp only [push_cast, seval]) (by simp only [push_cast, seval]) (by kernel_rfl) (.inl rfl) (by simp only [push_cast, seval]) (by simp only [push_cast, seval]) ?_
    obtain ⟨r8943, hr8943, h⟩ := bind_sx h
    refine call_x (linear_Play_spec kind r8941 r8942 r8943 hr8943) (args := [iS kind, .own 2 0 r8941.length, .own 3 0 r8942.length]) (dst := (some 29)) (by kernel_rfl) [(0, .row 36 (fl r8936)), (1, .row 26 (Enc.cells r8937)), (2, .row 36 (fl r8941)), (3, .row 3 (fl r8942))] 4 (by kernel_rfl) [] [2, 3] (.agg (Enc.cells r8943)) [] (by simp only [push_cast, seval]) (by simp only [push_cast, seval]) (by kernel_rfl) (.inr ⟨by simp only [push_cast, seval], by simp only [push_cast, seval]⟩) (by simp only [push_cast, seval]) (by simp only [push_cast, seval]) ?_
    refine rs 2 [] [] (by kernel_rfl) allP_nil ?_
    refine rf [(0, iS kind), (1, .sl l.length (fl l)), (2, .sl order.length (fl order)), (7, .ptr 1 0), (8, .ptr 4 0)] [(0, .row 36 (fl r8936)), (1, .row 26 (Enc.cells r8937)), (2, .row 36 (fl r8941)), (3, .row 3 (fl r8942)), (4, .row 26 (Enc.cells r8943))] 5 (by kernel_rfl) ?_
    refine wk_id ?_
    refine seq_np ?_
    refine reg_f ?_
    refine rs 2 [] [] (by kernel_rfl) allP_nil ?_
    obtain ⟨r8945, hr8945, h⟩ := bind_sx h
    refine run_call 11 [iS kind, .sl l.length (fl l)] (some 32) (by kernel_rfl) ?_
    refine call_0 (taskmillref_CallsFault_spec kind l r8945 hr8945) (by simp only [push_cast, seval]) (by simp only [push_cast, seval]) ?_
    refine back_f ?_
    refine rs 2 [] [] (by kernel_rfl) allP_nil ?_
    refine rf [(1, .sl l.length (fl l)), (2, .sl order.length (fl order)), (7, .ptr 1 0), (8, .ptr 4 0), (9, .ptr 5 0)] [(0, .row 36 (fl r8936)), (1, .row 26 (Enc.cells r8937)), (2, .row 36 (fl r8941)), (3, .row 3 (fl r8942)), (4, .row 26 (Enc.cells r8943)), (5, .row 26 (Enc.cells r8945))] 6 (by kernel_rfl) ?_
    refine wk_id ?_
    refine seq_np ?_
    refine seq_np ?_
    refine reg_f ?_
    refine rs 3 [] [] (by kernel_rfl) allP_nil ?_
    refine rf [(1, .sl l.length (fl l)), (2, .sl order.length (fl order)), (8, .ptr 4 0), (9, .ptr 5 0), (35, bS (!((r8937.Code == r8945.Code) && ((r8937.At == r8945.At) && true))))] [(0, .row 36 (fl r8936)), (1, .row 26 (Enc.cells r8937)), (2, .row 36 (fl r8941)), (3, .row 3 (fl r8942)), (4, .row 26 (Enc.cells r8943)), (5, .row 26 (Enc.cells r8945))] 6 (by kernel_rfl) ?_
    refine wk_id ?_
    refine cond_sx h (by kernel_rfl) (fun g8954 h => ?_) (fun g8954 h => ?_)
    ·refine seq_np ?_
     refine reg_f ?_
     refine rs 1 [] [] (by kernel_rfl) allP_nil ?_
     refine rf [(6, bS false)] [(0, .row 36 (fl r8936)), (1, .row 26 (Enc.cells r8937)), (2, .row 36 (fl r8941)), (3, .row 3 (fl r8942)), (4, .row 26 (Enc.cells r8943)), (5, .row 26 (Enc.cells r8945))] 6 (by kernel_rfl) ?_
     refine wk_id ?_
     obtain rfl := Option.some.inj h
     refine ret_at (bS false) (by kernel_rfl) ?_
     exact ret_e [] [] (by simp only [push_cast, seval]) (by simp only [push_cast, seval]) rfl rfl rfl
    ·refine wk_id ?_
     refine seq_cut (A := Fault × Fault) (fun a => ([(8, .ptr 0 0), (9, .ptr 1 0)], [(0, .row 26 (Enc.cells a.1)), (1, .row 26 (Enc.cells a.2))], 2)) (fun a => (taskmilllaw_LinearPlays_j1 a.1 a.2) = some r) (fun K8950 hK8950 => ?_) ?_
     ·refine seq_np ?_
      refine reg_f ?_
      refine rs 3 [] [] (by kernel_rfl) allP_nil ?_
      refine rf [(1, .sl l.length (fl l)), (2, .sl order.length (fl order)), (8, .ptr 4 0), (9, .ptr 5 0), (38, bS (r8945.Code == 0))] [(0, .row 36 (fl r8936)), (1, .row 26 (Enc.cells r8937)), (2, .row 36 (fl r8941)), (3, .row 3 (fl r8942)), (4, .row 26 (Enc.cells r8943)), (5, .row 26 (Enc.cells r8945))] 6 (by kernel_rfl) ?_
      refine wk_id ?_
      refine cond_sx h (by kernel_rfl) (fun g8953 h => ?_) (fun g8953 h => ?_)
      ·refine reg_f ?_
       refine rs 2 [] [] (by kernel_rfl) allP_nil ?_
       obtain ⟨r8952, hr8952, h⟩ := bind_sx h
       refine run_call 14 [.sl l.length (fl l), .sl order.length (fl order)] (some 41) (by kernel_rfl) ?_
       refine call_0 (taskmillref_OrderFault_spec l order r8952 hr8952) (by simp only [push_cast, seval]) (by simp only [push_cast, seval]) ?_
       refine back_f ?_
       refine rs 1 [] [] (by kernel_rfl) allP_nil ?_
       refine rf [(8, .ptr 4 0), (9, .ptr 5 0)] [(0, .row 36 (fl r8936)), (1, .row 26 (Enc.cells r8937)), (2, .row 36 (fl r8941)), (3, .row 3 (fl r8942)), (4, .row 26 (Enc.cells r8943)), (5, .row 26 (Enc.cells r8952))] 6 (by kernel_rfl) ?_
       exact hK8950 (r8943, r8952) _ _ _ h (leSt_m [(0, 4), (1, 5)] [] (by simp only [push_cast, seval]) (by simp only [push_cast, seval]) rfl rfl rfl)
      ·exact hK8950 (r8943, r8945) _ _ _ h (leSt_m [(0, 4), (1, 5)] [] (by simp only [push_cast, seval]) (by simp only [push_cast, seval]) rfl rfl rfl)
     ·rintro ⟨c0q1, c1q1⟩ h
      try dsimp only at h ⊢
      unfold taskmilllaw_LinearPlays_j1 at h
      refine seq_np ?_
      refine reg_f ?_
      refine rs 4 [] [] (by kernel_rfl) allP_nil ?_
      refine rf [(6, bS ((c0q1.Code == c1q1.Code) && ((c0q1.At == c1q1.At) && true)))] [(0, .row 26 (Enc.cells c0q1)), (1, .row 26 (Enc.cells c1q1))] 2 (by kernel_rfl) ?_
      refine wk_id ?_
      obtain rfl := Option.some.inj h
      refine ret_at (bS ((c0q1.Code == c1q1.Code) && ((c0q1.At == c1q1.At) && true))) (by kernel_rfl) ?_
      exact ret_e [] [] (by simp only [push_cast, seval]) (by simp only [push_cast, seval]) rfl rfl rfl

end Go.Proofs.Ytopomedppninoaa
