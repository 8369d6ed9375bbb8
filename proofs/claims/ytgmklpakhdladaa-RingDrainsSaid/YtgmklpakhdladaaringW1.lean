/-
  What laws of the chapter ring compute, and lemmas on it.
  No conditions.
-/
import Derived.Test.YtgmklpakhdladaaProg
import Derived.Test.YtgmklpakhdladaaringG
set_option linter.unusedSimpArgs false
set_option linter.unusedVariables false
namespace Go.Proofs.Ytgmklpakhdladaa
open Go Go.Sx
attribute [local irreducible] Wk RunAt
theorem follows : Try.prog.follows .mixedOrders = true := by kernel_rfl

set_option maxRecDepth 100000 in
set_option maxHeartbeats 10000000 in
theorem ring_fault_spec (code : Int) (xat : Int) (r : Fault) (h : ring_fault code xat = some r) : SpecW Try.prog 27 [iS code, iS xat] [] 0 (fun x h n => x = .agg (Enc.cells r) ∧ h = [] ∧ n = 0) := by
  unfold ring_fault at h
  refine spec_of (draw_ok _) Try.func27 rfl (by decide) rfl (by kernel_rfl) ?_
  refine seq_np ?_
  refine reg_f ?_
  refine rs 1 [] [] (by kernel_rfl) allP_nil ?_
  refine rf [(0, iS code), (1, iS xat), (4, .ptr 0 0)] [(0, .row 28 [iS 0, iS 0])] 1 (by kernel_rfl) ?_
  refine wk_id ?_
  refine seq_np ?_
  refine reg_f ?_
  refine rs 4 [] [] (by kernel_rfl) allP_nil ?_
  refine rf [(4, .ptr 0 0)] [(0, .row 28 [iS code, iS xat])] 1 (by kernel_rfl) ?_
  refine wk_id ?_
  obtain rfl := Option.some.inj h
  refine ret_at (.agg [iS code, iS xat]) (by kernel_rfl) ?_
  exact ret_e [] [] (by simp only [push_cast, seval]) (by simp only [push_cast, seval]) rfl rfl rfl

set_option maxRecDepth 100000 in
set_option maxHeartbeats 10000000 in
theorem ring_Check_spec (q : Ring) (r : Fault) (h : ring_Check q = some r) : SpecW Try.prog 13 [.agg (Enc.cells q)] [] 0 (fun x h n => x = .agg (Enc.cells r) ∧ h = [] ∧ n = 0) := by
  unfold ring_Check at h
  refine spec_of (draw_ok _) Try.func13 rfl (by decide) rfl (by kernel_rfl) ?_
  refine seq_np ?_
  refine reg_f ?_
  refine rs 2 [] [] (by kernel_rfl) allP_nil ?_
  refine rf [(1, .ptr 0 0), (2, .ptr 1 0)] [(0, .row 24 (Enc.cells q)), (1, .row 28 [iS 0, iS 0])] 2 (by kernel_rfl) ?_
  refine wk_id ?_
  refine seq_np ?_
  refine seq_np ?_
  refine reg_f ?_
  refine rs 4 [] [] (by kernel_rfl) allP_nil ?_
  refine rf [(1, .ptr 0 0), (2, .ptr 1 0), (9, bS (decide ((256 : Int) < ((q.List.length : Nat) : Int))))] [(0, .row 24 (Enc.cells q)), (1, .row 28 [iS 0, iS 0])] 2 (by kernel_rfl) ?_
  refine wk_id ?_
  refine cond_sx h (by kernel_rfl) (fun g130 h => ?_) (fun g130 h => ?_)
  · refine seq_np ?_
    refine reg_f ?_
    obtain ⟨r33, hr33, h⟩ := bind_sx h
    refine run_call 27 [iS 2, iS 0] (some 10) (by kernel_rfl) ?_
    refine call_0 (ring_fault_spec 2 0 r33 hr33) (by simp only [push_cast, seval]) (by simp only [push_cast, seval]) ?_
    refine back_f ?_
    refine rs 1 [] [] (by kernel_rfl) allP_nil ?_
    refine rf [(2, .ptr 1 0)] [(0, .row 24 (Enc.cells q)), (1, .row 28 (Enc.cells r33))] 2 (by kernel_rfl) ?_
    refine wk_id ?_
    obtain rfl := Option.some.inj h
    refine ret_at (.agg (Enc.cells r33)) (by kernel_rfl) ?_
    exact ret_e [] [] (by simp only [push_cast, seval]) (by simp only [push_cast, seval]) rfl rfl rfl
  · refine wk_id ?_
    refine seq_np ?_
    refine reg_f ?_
    refine rs 2 [] [] (by kernel_rfl) allP_nil ?_
    refine rf [(1, .ptr 0 0), (2, .ptr 1 0), (3, .mp 2)] [(0, .row 24 (Enc.cells q)), (1, .row 28 [iS 0, iS 0]), (2, .map (mi []))] 3 (by kernel_rfl) ?_
    refine wk_id ?_
    refine seq_np ?_
    refine seq_np ?_
    refine reg_f ?_
    refine rs 3 [] [] (by kernel_rfl) allP_nil ?_
    refine rf [(1, .ptr 0 0), (2, .ptr 1 0), (3, .mp 2), (14, bS (decide (q.Next < 0)))] [(0, .row 24 (Enc.cells q)), (1, .row 28 [iS 0, iS 0]), (2, .map (mi []))] 3 (by kernel_rfl) ?_
    refine wk_id ?_
    refine cond_sx h (by kernel_rfl) (fun g129 h => ?_) (fun g129 h => ?_)
    · refine seq_np ?_
      refine reg_f ?_
      obtain ⟨r37, hr37, h⟩ := bind_sx h
      refine run_call 27 [iS 3, iS 0] (some 15) (by kernel_rfl) ?_
      refine call_0 (ring_fault_spec 3 0 r37 hr37) (by simp only [push_cast, seval]) (by simp only [push_cast, seval]) ?_
      refine back_f ?_
      refine rs 1 [] [] (by kernel_rfl) allP_nil ?_
      refine rf [(2, .ptr 1 0)] [(0, .row 24 (Enc.cells q)), (1, .row 28 (Enc.cells r37)), (2, .map (mi []))] 3 (by kernel_rfl) ?_
      refine wk_id ?_
      obtain rfl := Option.some.inj h
      refine ret_at (.agg (Enc.cells r37)) (by kernel_rfl) ?_
      exact ret_e [] [] (by simp only [push_cast, seval]) (by simp only [push_cast, seval]) rfl rfl rfl
    · refine wk_id ?_
      refine seq_cut (A := (List (Int × Int))) (fun a => ([(1, .ptr 0 0), (2, .ptr 1 0), (3, .mp 2)], [(0, .row 24 (Enc.cells q)), (1, .row 28 [iS 0, iS 0]), (2, .map (mi a))], 3)) (fun a => (ring_Check_j1 q a) = some r) (fun K40 hK40 => ?_) ?_
      · refine seq_np ?_
        refine reg_f ?_
        refine rs 3 [] [] (by kernel_rfl) allP_nil ?_
        refine rf [(1, .ptr 0 0), (2, .ptr 1 0), (3, .mp 2), (18, bS (decide ((0 : Int) < q.Next)))] [(0, .row 24 (Enc.cells q)), (1, .row 28 [iS 0, iS 0]), (2, .map (mi []))] 3 (by kernel_rfl) ?_
        refine wk_id ?_
        refine cond_sx h (by kernel_rfl) (fun g41 h => ?_) (fun g41 h => ?_)
        · refine reg_f ?_
          refine rs 4 [none, none, none, some ⟨.any, [(2, .map (mi (miSet [] q.Next 1)))], 3, [2]⟩] _ (by kernel_rfl) (allP_cons (ob_mset (.int .i64) rfl q.Next 1 [] 2 3) allP_nil) ?_
          refine rf [(1, .ptr 0 0), (2, .ptr 1 0), (3, .mp 2)] [(0, .row 24 (Enc.cells q)), (1, .row 28 [iS 0, iS 0]), (2, .map (mi (miSet [] q.Next 1)))] 3 (by kernel_rfl) ?_
          exact hK40 ((miSet [] q.Next 1)) _ _ _ h (leSt_m [(0, 0), (1, 1), (2, 2)] [] (by simp only [push_cast, seval]) (by simp only [push_cast, seval]) rfl rfl rfl)
        · exact hK40 ([]) _ _ _ h (leSt_m [(0, 0), (1, 1), (2, 2)] [] (by simp only [push_cast, seval]) (by simp only [push_cast, seval]) rfl rfl rfl)
      · rintro c2q1 h
        try dsimp only at h ⊢
        unfold ring_Check_j1 at h
        refine seq_np ?_
        refine seq_np ?_
        refine reg_f ?_
        refine rs 4 [] [] (by kernel_rfl) allP_nil ?_
        refine rf [(2, .ptr 1 0), (3, .mp 2), (23, .sl q.List.length (fl q.List)), (24, iS ((q.List.length : Nat) : Int)), (25, iS 0)] [(0, .row 24 (Enc.cells q)), (1, .row 28 [iS 0, iS 0]), (2, .map (mi c2q1))] 3 (by kernel_rfl) ?_
        refine wk_id ?_
        refine block_np ?_
        refine loop_sx (S := Int × (List (Int × Int))) (fun a => ([(2, .ptr 0 0), (3, .mp 1), (23, .sl q.List.length (fl q.List)), (24, iS ((q.List.length : Nat) : Int)), (25, iS a.1)], [(0, .row 28 [iS 0, iS 0]), (1, .map (mi a.2))], 2)) h (leSt_m [(0, 1), (1, 2)] [] (by simp only [push_cast, seval]) (by simp only [push_cast, seval]) rfl rfl rfl) ?_
        rintro ⟨t25q7, c1q7⟩ o2 R2 h hr2 hn2 hx2 ht2
        try dsimp only at h hn2 ⊢
        unfold ring_Check_l1 at h
        try dsimp only at h
        refine seq_np ?_
        refine reg_f ?_
        refine rs 1 [] [] (by kernel_rfl) allP_nil ?_
        refine rf [(2, .ptr 0 0), (3, .mp 1), (23, .sl q.List.length (fl q.List)), (24, iS ((q.List.length : Nat) : Int)), (25, iS t25q7), (26, bS (decide (t25q7 < ((q.List.length : Nat) : Int))))] [(0, .row 28 [iS 0, iS 0]), (1, .map (mi c1q7))] 2 (by kernel_rfl) ?_
        refine wk_id ?_
        refine seq_np ?_
        refine cond_sx h (by kernel_rfl) (fun g128 h => ?_) (fun g128 h => ?_)
        · refine wk_id ?_
          refine seq_np ?_
          refine block_np ?_
          refine chk_sx h (fun g117 h => ?_)
          refine seq_np ?_
          refine reg_f ?_
          have k116 : 0 ≤ t25q7 ∧ t25q7 < ((q.List.length : Nat) : Int) := by first | simpa only [Bool.and_eq_true, decide_eq_true_eq, bne_iff_ne, ne_eq] using g117 | (simp at g117 ⊢; omega)
          refine rs 5 [none, some ⟨.iptr (fl q.List) ((t25q7).toNat * 1), [], 2, []⟩, some ⟨iS (ix q.List t25q7), [], 2, []⟩] _ (by kernel_rfl) (allP_cons (ob_ld q.List t25q7 1 0 ((t25q7).toNat * 1) k116 rfl (by decide) (by first | rfl | omega) (dflS Try.prog 3) (iS (ix q.List t25q7)) rfl 2 []) (allP_cons (ob_ix_l q.List 1 2 t25q7 k116) allP_nil)) ?_
          refine rf [(2, .ptr 0 0), (3, .mp 1), (4, iS t25q7), (5, iS (ix q.List t25q7)), (23, .sl q.List.length (fl q.List)), (24, iS ((q.List.length : Nat) : Int)), (25, iS t25q7)] [(0, .row 28 [iS 0, iS 0]), (1, .map (mi c1q7))] 2 (by kernel_rfl) ?_
          refine wk_id ?_
          refine seq_np ?_
          refine seq_np ?_
          refine reg_f ?_
          refine rs 2 [] [] (by kernel_rfl) allP_nil ?_
          refine rf [(2, .ptr 0 0), (3, .mp 1), (4, iS t25q7), (5, iS (ix q.List t25q7)), (23, .sl q.List.length (fl q.List)), (24, iS ((q.List.length : Nat) : Int)), (25, iS t25q7), (31, bS (decide ((ix q.List t25q7) < 1)))] [(0, .row 28 [iS 0, iS 0]), (1, .map (mi c1q7))] 2 (by kernel_rfl) ?_
          refine wk_id ?_
          refine cond_sx h (by kernel_rfl) (fun g127 h => ?_) (fun g127 h => ?_)
          · refine seq_np ?_
            refine reg_f ?_
            refine rs 2 [] [] (by kernel_rfl) allP_nil ?_
            obtain ⟨r121, hr121, h⟩ := bind_sx h
            refine run_call 27 [iS 3, iS (IntKind.i64.wrap (t25q7 + 1))] (some 34) (by kernel_rfl) ?_
            refine call_0 (ring_fault_spec 3 (IntKind.i64.wrap (t25q7 + 1)) r121 hr121) (by simp only [push_cast, seval]) (by simp only [push_cast, seval]) ?_
            refine back_f ?_
            refine rs 1 [] [] (by kernel_rfl) allP_nil ?_
            refine rf [(2, .ptr 0 0)] [(0, .row 28 (Enc.cells r121)), (1, .map (mi c1q7))] 2 (by kernel_rfl) ?_
            refine wk_id ?_
            refine rt_cast ht2 ?_
            obtain ⟨r0, h, e0⟩ := map_sx h
            have e1 := hr2 r0 e0.symm
            subst r0
            obtain rfl := Option.some.inj h
            refine ret_at (.agg (Enc.cells r121)) (by kernel_rfl) ?_
            exact ret_e [] [] (by simp only [push_cast, seval]) (by simp only [push_cast, seval]) rfl rfl rfl
          · refine wk_id ?_
            refine seq_np ?_
            refine seq_np ?_
            refine reg_f ?_
            refine rs 4 [none, none, some ⟨iS (miGet c1q7 (ix q.List t25q7)), [], 2, [1]⟩] _ (by kernel_rfl) (allP_cons (ob_look (.int .i64) rfl (ix q.List t25q7) c1q7 1 2) allP_nil) ?_
            refine rf [(2, .ptr 0 0), (3, .mp 1), (4, iS t25q7), (5, iS (ix q.List t25q7)), (23, .sl q.List.length (fl q.List)), (24, iS ((q.List.length : Nat) : Int)), (25, iS t25q7), (38, bS (decide ((0 : Int) < (miGet c1q7 (ix q.List t25q7)))))] [(0, .row 28 [iS 0, iS 0]), (1, .map (mi c1q7))] 2 (by kernel_rfl) ?_
            refine wk_id ?_
            refine cond_sx h (by kernel_rfl) (fun g126 h => ?_) (fun g126 h => ?_)
            · refine seq_np ?_
              refine reg_f ?_
              refine rs 2 [] [] (by kernel_rfl) allP_nil ?_
              obtain ⟨r125, hr125, h⟩ := bind_sx h
              refine run_call 27 [iS 10, iS (IntKind.i64.wrap (t25q7 + 1))] (some 41) (by kernel_rfl) ?_
              refine call_0 (ring_fault_spec 10 (IntKind.i64.wrap (t25q7 + 1)) r125 hr125) (by simp only [push_cast, seval]) (by simp only [push_cast, seval]) ?_
              refine back_f ?_
              refine rs 1 [] [] (by kernel_rfl) allP_nil ?_
              refine rf [(2, .ptr 0 0)] [(0, .row 28 (Enc.cells r125)), (1, .map (mi c1q7))] 2 (by kernel_rfl) ?_
              refine wk_id ?_
              refine rt_cast ht2 ?_
              obtain ⟨r0, h, e0⟩ := map_sx h
              have e1 := hr2 r0 e0.symm
              subst r0
              obtain rfl := Option.some.inj h
              refine ret_at (.agg (Enc.cells r125)) (by kernel_rfl) ?_
              exact ret_e [] [] (by simp only [push_cast, seval]) (by simp only [push_cast, seval]) rfl rfl rfl
            · refine wk_id ?_
              refine reg_f ?_
              refine rs 3 [none, none, some ⟨.any, [(1, .map (mi (miSet c1q7 (ix q.List t25q7) 1)))], 2, [1]⟩] _ (by kernel_rfl) (allP_cons (ob_mset (.int .i64) rfl (ix q.List t25q7) 1 c1q7 1 2) allP_nil) ?_
              refine rf [(2, .ptr 0 0), (3, .mp 1), (23, .sl q.List.length (fl q.List)), (24, iS ((q.List.length : Nat) : Int)), (25, iS t25q7)] [(0, .row 28 [iS 0, iS 0]), (1, .map (mi (miSet c1q7 (ix q.List t25q7) 1)))] 2 (by kernel_rfl) ?_
              refine wk_id ?_
              refine wk_id ?_
              refine reg_f ?_
              refine rs 2 [] [] (by kernel_rfl) allP_nil ?_
              refine rf [(2, .ptr 0 0), (3, .mp 1), (23, .sl q.List.length (fl q.List)), (24, iS ((q.List.length : Nat) : Int)), (25, iS (IntKind.i64.wrap (t25q7 + 1)))] [(0, .row 28 [iS 0, iS 0]), (1, .map (mi (miSet c1q7 (ix q.List t25q7) 1)))] 2 (by kernel_rfl) ?_
              exact hn2 ((IntKind.i64.wrap (t25q7 + 1)), (miSet c1q7 (ix q.List t25q7) 1)) _ _ _ (Option.some.inj h).symm (leSt_m [(0, 0), (1, 1)] [] (by simp only [push_cast, seval]) (by simp only [push_cast, seval]) rfl rfl rfl)
        · refine ex_cast hx2 (id := 0) ?_
          obtain ⟨r0, h, e0⟩ := map_sx h
          have e1 := hr2 r0 e0.symm
          subst r0
          refine wk_id ?_
          refine wk_id ?_
          refine seq_np ?_
          refine reg_f ?_
          refine rs 2 [] [] (by kernel_rfl) allP_nil ?_
          refine rf [(2, .ptr 0 0)] [(0, .row 28 [iS 0, iS 0]), (1, .map (mi c1q7))] 2 (by kernel_rfl) ?_
          refine wk_id ?_
          obtain rfl := Option.some.inj h
          refine ret_at (.agg [iS 0, iS 0]) (by kernel_rfl) ?_
          exact ret_e [] [] (by simp only [push_cast, seval]) (by simp only [push_cast, seval]) rfl rfl rfl

set_option maxRecDepth 100000 in
set_option maxHeartbeats 10000000 in
theorem slices_Clone_spec (s : (List Int)) (r : (List Int)) (h : slices_Clone s = some r) : SpecW Try.prog 32 [.sl s.length (fl s)] [] 0 (fun x h n => x = .own 0 0 r.length ∧ h = [(0, .row 3 (fl r))] ∧ n = 1) := by
  unfold slices_Clone at h
  refine spec_of (draw_ok _) Try.func32 rfl (by decide) rfl (by kernel_rfl) ?_
  refine seq_np ?_
  refine reg_f ?_
  refine rs 1 [] [] (by kernel_rfl) allP_nil ?_
  refine rf [(0, .sl s.length (fl s))] [] 0 (by kernel_rfl) ?_
  refine wk_id ?_
  refine seq_np ?_
  refine seq_np ?_
  refine reg_f ?_
  refine rs 1 [] [] (by kernel_rfl) allP_nil ?_
  refine run_nil s.length (some 4) (by kernel_rfl) (fun g144 => ?_) ?_
  · obtain rfl : s = [] := List.eq_nil_of_length_eq_zero g144
    replace h : (some ([])) = some r := by simpa using h
    refine rf [(0, .sl ([] : List Int).length (fl ([] : List Int))), (4, bS true)] [] 0 (by kernel_rfl) ?_
    refine wk_id ?_
    refine cond_t (by kernel_rfl) ?_
    refine seq_np ?_
    refine reg_f ?_
    refine rs 1 [] [] (by kernel_rfl) allP_nil ?_
    refine rf [(2, .v (.slice none 0 0))] [] 0 (by kernel_rfl) ?_
    refine wk_id ?_
    obtain rfl := Option.some.inj h
    refine ret_at (.v (.slice none 0 0)) (by kernel_rfl) ?_
    exact ret_e [] [] (by simp only [push_cast, seval]) (by simp only [push_cast, seval]) rfl rfl rfl
  · refine rf [(0, .sl s.length (fl s)), (4, bS false)] [] 0 (by kernel_rfl) ?_
    refine wk_id ?_
    refine cond_f (by kernel_rfl) ?_
    refine wk_id ?_
    refine chk_sx h (fun g143 h => ?_)
    refine seq_np ?_
    refine reg_f ?_
    refine run_mk0 Int (some 5) 3 (by kernel_rfl) ?_
    have k142 : (([] : List Int) ++ s).length * 8 ≤ 140737488355328 := by first | simpa only [Bool.and_eq_true, decide_eq_true_eq, bne_iff_ne, ne_eq] using g143 | (simp at g143 ⊢; omega)
    refine rs 3 [none, some ⟨.own 1 0 (([] : List Int) ++ s).length, [(1, .row 3 (fl (([] : List Int) ++ s))), (0, .dead)], 2, [0]⟩] _ (by kernel_rfl) (allP_cons (ob_app (P := Try.prog) ([] : List Int) s 1 8 rfl (fl s) s.length rfl rfl ((fl s).length = s.length * 1) (app_sl s 1 rfl) 3 (by kernel_rfl) (by decide) k142 0 1 []) allP_nil) ?_
    refine rf [(2, .own 1 0 (([] : List Int) ++ s).length)] [(0, .dead), (1, .row 3 (fl (([] : List Int) ++ s)))] 2 (by kernel_rfl) ?_
    refine wk_id ?_
    obtain rfl := Option.some.inj h
    refine ret_at (.own 1 0 (([] : List Int) ++ s).length) (by kernel_rfl) ?_
    exact ret_e [(0, 1)] [] (by simp only [push_cast, seval]) (by simp only [push_cast, seval]) rfl rfl rfl

set_option maxRecDepth 100000 in
set_option maxHeartbeats 10000000 in
theorem ring_All_spec (q : Ring) (r : (List Int)) (h : ring_All q = some r) : SpecW Try.prog 29 [.agg (Enc.cells q)] [] 0 (fun x h n => x = .own 0 0 r.length ∧ h = [(0, .row 3 (fl r))] ∧ n = 1) := by
  unfold ring_All at h
  refine spec_of (draw_ok _) Try.func29 rfl (by decide) rfl (by kernel_rfl) ?_
  refine seq_np ?_
  refine reg_f ?_
  refine rs 2 [] [] (by kernel_rfl) allP_nil ?_
  refine rf [(1, .ptr 0 0)] [(0, .row 24 (Enc.cells q))] 1 (by kernel_rfl) ?_
  refine wk_id ?_
  refine seq_np ?_
  refine seq_np ?_
  refine reg_f ?_
  refine rs 3 [] [] (by kernel_rfl) allP_nil ?_
  refine rf [(1, .ptr 0 0), (5, bS (decide ((0 : Int) < q.Next)))] [(0, .row 24 (Enc.cells q))] 1 (by kernel_rfl) ?_
  refine wk_id ?_
  refine cond_sx h (by kernel_rfl) (fun g155 h => ?_) (fun g155 h => ?_)
  · refine chk_sx h (fun g152 h => ?_)
    refine seq_np ?_
    refine reg_f ?_
    have k151 : (([q.Next] : List Int) ++ q.List).length * 8 ≤ 140737488355328 := by first | simpa only [Bool.and_eq_true, decide_eq_true_eq, bne_iff_ne, ne_eq] using g152 | (simp at g152 ⊢; omega)
    refine rs 7 [none, none, none, none, none, some ⟨.own 2 0 (([q.Next] : List Int) ++ q.List).length, [(2, .row 3 (fl (([q.Next] : List Int) ++ q.List))), (1, .dead)], 3, [1]⟩] _ (by kernel_rfl) (allP_cons (ob_app (P := Try.prog) ([q.Next] : List Int) q.List 1 8 rfl (fl q.List) q.List.length rfl rfl ((fl q.List).length = q.List.length * 1) (app_sl q.List 1 rfl) 3 (by kernel_rfl) (by decide) k151 1 2 []) allP_nil) ?_
    refine rf [(2, .own 2 0 (([q.Next] : List Int) ++ q.List).length)] [(0, .row 24 (Enc.cells q)), (1, .dead), (2, .row 3 (fl (([q.Next] : List Int) ++ q.List)))] 3 (by kernel_rfl) ?_
    refine wk_id ?_
    obtain rfl := Option.some.inj h
    refine ret_at (.own 2 0 (([q.Next] : List Int) ++ q.List).length) (by kernel_rfl) ?_
    exact ret_e [(0, 2)] [] (by simp only [push_cast, seval]) (by simp only [push_cast, seval]) rfl rfl rfl
  · refine wk_id ?_
    refine seq_np ?_
    refine reg_f ?_
    refine rs 2 [] [] (by kernel_rfl) allP_nil ?_
    obtain ⟨r154, hr154, h⟩ := bind_sx h
    refine call_x (slices_Clone_spec q.List r154 hr154) (args := [.sl q.List.length (fl q.List)]) (dst := (some 14)) (by kernel_rfl) [(0, .row 24 (Enc.cells q))] 1 (by kernel_rfl) [] [] (.own 1 0 r154.length) [(1, .row 3 (fl r154))] (by simp only [push_cast, seval]) (by simp only [push_cast, seval]) (by kernel_rfl) (.inl rfl) (by simp only [push_cast, seval]) (by simp only [push_cast, seval]) ?_
    refine rs 1 [] [] (by kernel_rfl) allP_nil ?_
    refine rf [(2, .own 1 0 r154.length)] [(0, .row 24 (Enc.cells q)), (1, .row 3 (fl r154))] 2 (by kernel_rfl) ?_
    refine wk_id ?_
    obtain rfl := Option.some.inj h
    refine ret_at (.own 1 0 r154.length) (by kernel_rfl) ?_
    exact ret_e [(0, 1)] [] (by simp only [push_cast, seval]) (by simp only [push_cast, seval]) rfl rfl rfl

set_option maxRecDepth 100000 in
set_option maxHeartbeats 10000000 in
theorem slices_Index_spec (s : (List Int)) (v : Int) (r : Int) (h : slices_Index s v = some r) : SpecW Try.prog 34 [.sl s.length (fl s), iS v] [] 0 (fun x h n => x = iS r ∧ h = [] ∧ n = 0) := by
  unfold slices_Index at h
  refine spec_of (draw_ok _) Try.func34 rfl (by decide) rfl (by kernel_rfl) ?_
  refine seq_np ?_
  refine reg_f ?_
  refine rs 1 [] [] (by kernel_rfl) allP_nil ?_
  refine rf [(0, .sl s.length (fl s)), (1, iS v)] [] 0 (by kernel_rfl) ?_
  refine wk_id ?_
  refine seq_np ?_
  refine seq_np ?_
  refine reg_f ?_
  refine rs 3 [] [] (by kernel_rfl) allP_nil ?_
  refine rf [(0, .sl s.length (fl s)), (1, iS v), (7, iS ((s.length : Nat) : Int)), (8, iS 0)] [] 0 (by kernel_rfl) ?_
  refine wk_id ?_
  refine block_np ?_
  refine loop_sx (S := Int) (fun a => ([(0, .sl s.length (fl s)), (1, iS v), (7, iS ((s.length : Nat) : Int)), (8, iS a)], [], 0)) h (leSt_m [] [] (by simp only [push_cast, seval]) (by simp only [push_cast, seval]) rfl rfl rfl) ?_
  rintro t8q7 o2 R2 h hr2 hn2 hx2 ht2
  try dsimp only at h hn2 ⊢
  unfold slices_Index_l1 at h
  try dsimp only at h
  refine seq_np ?_
  refine reg_f ?_
  refine rs 1 [] [] (by kernel_rfl) allP_nil ?_
  refine rf [(0, .sl s.length (fl s)), (1, iS v), (7, iS ((s.length : Nat) : Int)), (8, iS t8q7), (9, bS (decide (t8q7 < ((s.length : Nat) : Int))))] [] 0 (by kernel_rfl) ?_
  refine wk_id ?_
  refine seq_np ?_
  refine cond_sx h (by kernel_rfl) (fun g217 h => ?_) (fun g217 h => ?_)
  · refine wk_id ?_
    refine seq_np ?_
    refine block_np ?_
    refine seq_np ?_
    refine reg_f ?_
    refine rs 2 [] [] (by kernel_rfl) allP_nil ?_
    refine rf [(0, .sl s.length (fl s)), (1, iS v), (5, iS t8q7), (7, iS ((s.length : Nat) : Int)), (8, iS t8q7)] [] 0 (by kernel_rfl) ?_
    refine wk_id ?_
    refine chk_sx h (fun g215 h => ?_)
    refine seq_np ?_
    refine reg_f ?_
    have k214 : 0 ≤ t8q7 ∧ t8q7 < ((s.length : Nat) : Int) := by first | simpa only [Bool.and_eq_true, decide_eq_true_eq, bne_iff_ne, ne_eq] using g215 | (simp at g215 ⊢; omega)
    refine rs 6 [none, none, none, some ⟨.iptr (fl s) ((t8q7).toNat * 1), [], 0, []⟩, some ⟨iS (ix s t8q7), [], 0, []⟩] _ (by kernel_rfl) (allP_cons (ob_ld s t8q7 1 0 ((t8q7).toNat * 1) k214 rfl (by decide) (by first | rfl | omega) (dflS Try.prog 3) (iS (ix s t8q7)) rfl 0 []) (allP_cons (ob_ix_l s 1 0 t8q7 k214) allP_nil)) ?_
    refine rf [(0, .sl s.length (fl s)), (1, iS v), (5, iS t8q7), (7, iS ((s.length : Nat) : Int)), (8, iS t8q7), (16, bS (v == (ix s t8q7)))] [] 0 (by kernel_rfl) ?_
    refine wk_id ?_
    refine cond_sx h (by kernel_rfl) (fun g216 h => ?_) (fun g216 h => ?_)
    · refine seq_np ?_
      refine reg_f ?_
      refine rs 2 [] [] (by kernel_rfl) allP_nil ?_
      refine rf [(4, iS t8q7)] [] 0 (by kernel_rfl) ?_
      refine wk_id ?_
      refine rt_cast ht2 ?_
      obtain ⟨r0, h, e0⟩ := map_sx h
      have e1 := hr2 r0 e0.symm
      subst r0
      obtain rfl := Option.some.inj h
      refine ret_at (iS t8q7) (by kernel_rfl) ?_
      exact ret_e [] [] (by simp only [push_cast, seval]) (by simp only [push_cast, seval]) rfl rfl rfl
    · refine wk_id ?_
      refine wk_id ?_
      refine reg_f ?_
      refine rs 2 [] [] (by kernel_rfl) allP_nil ?_
      refine rf [(0, .sl s.length (fl s)), (1, iS v), (7, iS ((s.length : Nat) : Int)), (8, iS (IntKind.i64.wrap (t8q7 + 1)))] [] 0 (by kernel_rfl) ?_
      exact hn2 ((IntKind.i64.wrap (t8q7 + 1))) _ _ _ (Option.some.inj h).symm (leSt_m [] [] (by simp only [push_cast, seval]) (by simp only [push_cast, seval]) rfl rfl rfl)
  · refine ex_cast hx2 (id := 0) ?_
    obtain ⟨r0, h, e0⟩ := map_sx h
    have e1 := hr2 r0 e0.symm
    subst r0
    refine wk_id ?_
    refine wk_id ?_
    refine seq_np ?_
    refine reg_f ?_
    refine rs 1 [] [] (by kernel_rfl) allP_nil ?_
    refine rf [(4, iS (-1))] [] 0 (by kernel_rfl) ?_
    refine wk_id ?_
    obtain rfl := Option.some.inj h
    refine ret_at (iS (-1)) (by kernel_rfl) ?_
    exact ret_e [] [] (by simp only [push_cast, seval]) (by simp only [push_cast, seval]) rfl rfl rfl

set_option maxRecDepth 100000 in
set_option maxHeartbeats 10000000 in
theorem slices_Contains_spec (s : (List Int)) (v : Int) (r : Bool) (h : slices_Contains s v = some r) : SpecW Try.prog 28 [.sl s.length (fl s), iS v] [] 0 (fun x h n => x = bS r ∧ h = [] ∧ n = 0) := by
  unfold slices_Contains at h
  refine spec_of (draw_ok _) Try.func28 rfl (by decide) rfl (by kernel_rfl) ?_
  refine seq_np ?_
  refine reg_f ?_
  refine rs 1 [] [] (by kernel_rfl) allP_nil ?_
  refine rf [(0, .sl s.length (fl s)), (1, iS v)] [] 0 (by kernel_rfl) ?_
  refine wk_id ?_
  refine seq_np ?_
  refine reg_f ?_
  refine rs 2 [] [] (by kernel_rfl) allP_nil ?_
  obtain ⟨r220, hr220, h⟩ := bind_sx h
  refine run_call 34 [.sl s.length (fl s), iS v] (some 7) (by kernel_rfl) ?_
  refine call_0 (slices_Index_spec s v r220 hr220) (by simp only [push_cast, seval]) (by simp only [push_cast, seval]) ?_
  refine back_f ?_
  refine rs 2 [] [] (by kernel_rfl) allP_nil ?_
  refine rf [(4, bS (decide ((0 : Int) ≤ r220)))] [] 0 (by kernel_rfl) ?_
  refine wk_id ?_
  obtain rfl := Option.some.inj h
  refine ret_at (bS (decide ((0 : Int) ≤ r220))) (by kernel_rfl) ?_
  exact ret_e [] [] (by simp only [push_cast, seval]) (by simp only [push_cast, seval]) rfl rfl rfl

set_option maxRecDepth 100000 in
set_option maxHeartbeats 10000000 in
theorem ring_copied_spec (q : Ring) (r : Int × (List Int)) (h : ring_copied q = some r) : SpecW Try.prog 30 [.agg (Enc.cells q)] [] 0 (fun x h n => x = .agg [iS r.1, .own 0 0 r.2.length] ∧ h = [(0, .row 3 (fl r.2))] ∧ n = 1) := by
  unfold ring_copied at h
  refine spec_of (draw_ok _) Try.func30 rfl (by decide) rfl (by kernel_rfl) ?_
  refine seq_np ?_
  refine reg_f ?_
  refine rs 2 [] [] (by kernel_rfl) allP_nil ?_
  refine rf [(1, .ptr 0 0), (2, .ptr 1 0)] [(0, .row 24 (Enc.cells q)), (1, .row 24 [iS 0, .v (.slice none 0 0)])] 2 (by kernel_rfl) ?_
  refine wk_id ?_
  refine seq_np ?_
  refine reg_t ?_
  refine rs 4 [] [] (by kernel_rfl) allP_nil ?_
  obtain ⟨r226, hr226, h⟩ := bind_sx h
  refine call_x (slices_Clone_spec q.List r226 hr226) (args := [.sl q.List.length (fl q.List)]) (dst := (some 7)) (by kernel_rfl) [(0, .row 24 (Enc.cells q)), (1, .row 24 [iS 0, .v (.slice none 0 0)])] 6 (by kernel_rfl) [] [] (.own 6 0 r226.length) [(6, .row 3 (fl r226))] (by simp only [push_cast, seval]) (by simp only [push_cast, seval]) (by kernel_rfl) (.inl rfl) (by simp only [push_cast, seval]) (by simp only [push_cast, seval]) ?_
  refine rs 2 [] [] (by kernel_rfl) allP_nil ?_
  refine rt [(2, .ptr 1 0)] [(0, .row 24 (Enc.cells q)), (1, .row 24 [iS q.Next, .own 6 0 r226.length]), (6, .row 3 (fl r226))] 10 follows (by kernel_rfl) ?_
  refine wk_id ?_
  obtain rfl := Option.some.inj h
  refine ret_at (.agg [iS q.Next, .own 6 0 r226.length]) (by kernel_rfl) ?_
  exact ret_e [(0, 6)] [] (by simp only [push_cast, seval]) (by simp only [push_cast, seval]) rfl rfl rfl

set_option maxRecDepth 100000 in
set_option maxHeartbeats 10000000 in
theorem ring_tail_spec (t : Int) (c0_Next : Int) (c1 : (List Int)) (r : Int × (List Int) × (List Int)) (h : ring_tail t c0_Next c1 = some r) : SpecW Try.prog 31 [.ptr 0 0, iS t] [(0, .row 24 [iS c0_Next, .own 1 0 c1.length]), (1, .row 3 (fl c1))] 2 (fun x h n => x = .own 2 0 r.2.1.length ∧ h = [(0, .row 24 [iS r.1, .own 3 0 r.2.2.length]), (1, .dead), (2, .row 3 (fl r.2.1)), (3, .row 3 (fl r.2.2))] ∧ n = 4) := by
  unfold ring_tail at h
  refine spec_of (draw_ok _) Try.func31 rfl (by decide) rfl (by kernel_rfl) ?_
  refine seq_np ?_
  refine reg_f ?_
  refine rs 1 [] [] (by kernel_rfl) allP_nil ?_
  refine rf [(0, .ptr 0 0), (1, iS t)] [(0, .row 24 [iS c0_Next, .own 1 0 c1.length]), (1, .row 3 (fl c1))] 2 (by kernel_rfl) ?_
  refine wk_id ?_
  refine seq_np ?_
  refine seq_np ?_
  refine reg_f ?_
  refine rs 6 [] [] (by kernel_rfl) allP_nil ?_
  refine rf [(0, .ptr 0 0), (1, iS t), (11, bS (decide (((c1.length : Nat) : Int) < 256)))] [(0, .row 24 [iS c0_Next, .own 1 0 c1.length]), (1, .row 3 (fl c1))] 2 (by kernel_rfl) ?_
  refine wk_id ?_
  refine cond_sx h (by kernel_rfl) (fun g266 h => ?_) (fun g266 h => ?_)
  · refine chk_sx h (fun g249 h => ?_)
    refine seq_np ?_
    refine reg_f ?_
    have k248 : (c1 ++ ([t] : List Int)).length * 8 ≤ 140737488355328 := by first | simpa only [Bool.and_eq_true, decide_eq_true_eq, bne_iff_ne, ne_eq] using g249 | (simp at g249 ⊢; omega)
    refine rs 11 [none, none, none, none, none, none, none, some ⟨.own 3 0 (c1 ++ ([t] : List Int)).length, [(3, .row 3 (fl (c1 ++ ([t] : List Int)))), (1, .dead)], 4, [1, 2]⟩] _ (by kernel_rfl) (allP_cons (ob_app (P := Try.prog) c1 ([t] : List Int) 1 8 rfl (appCells (fl ([t] : List Int)) 0 (([t] : List Int).length * 1)) ([t] : List Int).length (app_own ([t] : List Int) 1 rfl) rfl (0 + ([t] : List Int).length * 1 ≤ (fl ([t] : List Int)).length) (app_own_le ([t] : List Int) 1 rfl) 3 (by kernel_rfl) (by decide) k248 1 3 [2]) allP_nil) ?_
    refine rf [] [(0, .row 24 [iS c0_Next, .own 3 0 (c1 ++ ([t] : List Int)).length]), (1, .dead), (2, .row 3 (fl ([t] : List Int))), (3, .row 3 (fl (c1 ++ ([t] : List Int))))] 4 (by kernel_rfl) ?_
    refine wk_id ?_
    refine seq_np ?_
    refine reg_f ?_
    refine rs 1 [] [] (by kernel_rfl) allP_nil ?_
    refine rf [(4, .v (.slice none 0 0))] [(0, .row 24 [iS c0_Next, .own 3 0 (c1 ++ ([t] : List Int)).length]), (1, .dead), (2, .row 3 (fl ([t] : List Int))), (3, .row 3 (fl (c1 ++ ([t] : List Int))))] 4 (by kernel_rfl) ?_
    refine wk_id ?_
    obtain rfl := Option.some.inj h
    refine ret_at (.v (.slice none 0 0)) (by kernel_rfl) ?_
    exact ret_e [(0, 0), (1, 1), (3, 3)] [] (by simp only [push_cast, seval]) (by simp only [push_cast, seval]) rfl rfl rfl
  · refine wk_id ?_
    refine chk_sx h (fun g256 h => ?_)
    refine seq_np ?_
    refine reg_f ?_
    have k255 : 0 ≤ (0 : Int) ∧ (0 : Int) ≤ (128 : Int) ∧ (128 : Int) ≤ ((c1.length : Nat) : Int) := by first | simpa only [Bool.and_eq_true, decide_eq_true_eq, bne_iff_ne, ne_eq] using g256 | (simp at g256 ⊢; omega)
    refine rs 5 [none, none, none, none, some ⟨.own 1 (((0 : Int)).toNat * 1) (cut c1 (0 : Int) (128 : Int)).length, [], 2, [1]⟩] _ (by kernel_rfl) (allP_cons (ob_cutP (P := Try.prog) c1 (0 : Int) (128 : Int) 1 2 1 3 (by kernel_rfl) k255) allP_nil) ?_
    obtain ⟨r257, hr257, h⟩ := bind_sx h
    refine call_x (slices_Clone_spec (cut c1 (0 : Int) (128 : Int)) r257 hr257) (args := [.own 1 (((0 : Int)).toNat * 1) (cut c1 (0 : Int) (128 : Int)).length]) (dst := (some 27)) (by kernel_rfl) [(0, .row 24 [iS c0_Next, .own 1 0 c1.length]), (1, .row 3 (fl c1))] 2 (by kernel_rfl) [] [1] (.own 2 0 r257.length) [(2, .row 3 (fl r257))] (by simp only [push_cast, seval]) (by simp only [push_cast, seval]) (by kernel_rfl) (.inr ⟨by simp only [push_cast, seval], by simp only [push_cast, seval]⟩) (by simp only [push_cast, seval]) (by simp only [push_cast, seval]) ?_
    refine chk_sx h (fun g259 h => ?_)
    have k258 : (r257 ++ ([t] : List Int)).length * 8 ≤ 140737488355328 := by first | simpa only [Bool.and_eq_true, decide_eq_true_eq, bne_iff_ne, ne_eq] using g259 | (simp at g259 ⊢; omega)
    refine rs 4 [none, none, some ⟨.own 4 0 (r257 ++ ([t] : List Int)).length, [(4, .row 3 (fl (r257 ++ ([t] : List Int)))), (2, .dead)], 5, [2, 3]⟩] _ (by kernel_rfl) (allP_cons (ob_app (P := Try.prog) r257 ([t] : List Int) 1 8 rfl (appCells (fl ([t] : List Int)) 0 (([t] : List Int).length * 1)) ([t] : List Int).length (app_own ([t] : List Int) 1 rfl) rfl (0 + ([t] : List Int).length * 1 ≤ (fl ([t] : List Int)).length) (app_own_le ([t] : List Int) 1 rfl) 3 (by kernel_rfl) (by decide) k258 2 4 [3]) allP_nil) ?_
    refine rf [(0, .ptr 0 0), (5, .own 4 0 (r257 ++ ([t] : List Int)).length)] [(0, .row 24 [iS c0_Next, .own 1 0 c1.length]), (1, .row 3 (fl c1)), (2, .dead), (3, .row 3 (fl ([t] : List Int))), (4, .row 3 (fl (r257 ++ ([t] : List Int))))] 5 (by kernel_rfl) ?_
    refine wk_id ?_
    refine chk_sx h (fun g264 h => ?_)
    refine seq_np ?_
    refine reg_f ?_
    have k263 : 0 ≤ (128 : Int) ∧ (128 : Int) ≤ ((c1.length : Nat) : Int) ∧ ((c1.length : Nat) : Int) ≤ ((c1.length : Nat) : Int) := by first | simpa only [Bool.and_eq_true, decide_eq_true_eq, bne_iff_ne, ne_eq] using g264 | (simp at g264 ⊢; omega)
    refine rs 6 [none, none, none, none, none, some ⟨.own 1 (((128 : Int)).toNat * 1) (cut c1 (128 : Int) ((c1.length : Nat) : Int)).length, [], 5, [1]⟩] _ (by kernel_rfl) (allP_cons (ob_cutP (P := Try.prog) c1 (128 : Int) ((c1.length : Nat) : Int) 1 5 1 3 (by kernel_rfl) k263) allP_nil) ?_
    obtain ⟨r265, hr265, h⟩ := bind_sx h
    refine call_x (slices_Clone_spec (cut c1 (128 : Int) ((c1.length : Nat) : Int)) r265 hr265) (args := [.own 1 (((128 : Int)).toNat * 1) (cut c1 (128 : Int) ((c1.length : Nat) : Int)).length]) (dst := (some 37)) (by kernel_rfl) [(0, .row 24 [iS c0_Next, .own 1 0 c1.length]), (1, .row 3 (fl c1)), (2, .dead), (3, .row 3 (fl ([t] : List Int))), (4, .row 3 (fl (r257 ++ ([t] : List Int))))] 5 (by kernel_rfl) [] [1] (.own 5 0 r265.length) [(5, .row 3 (fl r265))] (by simp only [push_cast, seval]) (by simp only [push_cast, seval]) (by kernel_rfl) (.inr ⟨by simp only [push_cast, seval], by simp only [push_cast, seval]⟩) (by simp only [push_cast, seval]) (by simp only [push_cast, seval]) ?_
    refine rs 3 [] [] (by kernel_rfl) allP_nil ?_
    refine rf [(5, .own 4 0 (r257 ++ ([t] : List Int)).length)] [(0, .row 24 [iS c0_Next, .own 5 0 r265.length]), (1, .row 3 (fl c1)), (2, .dead), (3, .row 3 (fl ([t] : List Int))), (4, .row 3 (fl (r257 ++ ([t] : List Int)))), (5, .row 3 (fl r265))] 6 (by kernel_rfl) ?_
    refine wk_id ?_
    refine seq_np ?_
    refine reg_f ?_
    refine rs 2 [] [] (by kernel_rfl) allP_nil ?_
    refine rf [(4, .own 4 0 (r257 ++ ([t] : List Int)).length)] [(0, .row 24 [iS c0_Next, .own 5 0 r265.length]), (1, .row 3 (fl c1)), (2, .dead), (3, .row 3 (fl ([t] : List Int))), (4, .row 3 (fl (r257 ++ ([t] : List Int)))), (5, .row 3 (fl r265))] 6 (by kernel_rfl) ?_
    refine wk_id ?_
    obtain rfl := Option.some.inj h
    refine ret_at (.own 4 0 (r257 ++ ([t] : List Int)).length) (by kernel_rfl) ?_
    exact ret_e [(0, 0), (1, 1), (2, 4), (3, 5)] [] (by simp only [push_cast, seval]) (by simp only [push_cast, seval]) rfl rfl rfl

set_option maxRecDepth 100000 in
set_option maxHeartbeats 10000000 in
theorem ring_Put_spec (q : Ring) (task : Int) (xnext : Bool) (r : Int × Fault × (List Int) × (List Int)) (h : ring_Put q task xnext = some r) : SpecW Try.prog 14 [.agg (Enc.cells q), iS task, bS xnext] [] 0 (fun x h n => x = .tup [.agg [iS r.1, .own 0 0 r.2.2.1.length], .own 1 0 r.2.2.2.length, .agg (Enc.cells r.2.1)] ∧ h = [(0, .row 3 (fl r.2.2.1)), (1, .row 3 (fl r.2.2.2))] ∧ n = 2) := by
  unfold ring_Put at h
  refine spec_of (draw_ok _) Try.func14 rfl (by decide) rfl (by kernel_rfl) ?_
  refine seq_np ?_
  refine reg_f ?_
  refine rs 4 [] [] (by kernel_rfl) allP_nil ?_
  refine rf [(1, iS task), (2, bS xnext), (3, .ptr 0 0), (6, .ptr 1 0), (8, .ptr 2 0)] [(0, .row 24 (Enc.cells q)), (1, .row 24 [iS 0, .v (.slice none 0 0)]), (2, .row 28 [iS 0, iS 0])] 3 (by kernel_rfl) ?_
  refine wk_id ?_
  refine seq_np ?_
  refine seq_np ?_
  refine reg_f ?_
  refine rs 1 [] [] (by kernel_rfl) allP_nil ?_
  obtain ⟨r271, hr271, h⟩ := bind_sx h
  refine run_call 13 [.agg (Enc.cells q)] (some 12) (by kernel_rfl) ?_
  refine call_0 (ring_Check_spec q r271 hr271) (by simp only [push_cast, seval]) (by simp only [push_cast, seval]) ?_
  refine back_f ?_
  refine rs 2 [] [] (by kernel_rfl) allP_nil ?_
  refine rf [(1, iS task), (2, bS xnext), (3, .ptr 0 0), (6, .ptr 1 0), (8, .ptr 2 0), (9, .ptr 3 0)] [(0, .row 24 (Enc.cells q)), (1, .row 24 [iS 0, .v (.slice none 0 0)]), (2, .row 28 [iS 0, iS 0]), (3, .row 28 (Enc.cells r271))] 4 (by kernel_rfl) ?_
  refine wk_id ?_
  refine seq_np ?_
  refine reg_f ?_
  refine rs 3 [] [] (by kernel_rfl) allP_nil ?_
  refine rf [(1, iS task), (2, bS xnext), (3, .ptr 0 0), (6, .ptr 1 0), (8, .ptr 2 0), (9, .ptr 3 0), (15, bS (r271.Code != 0))] [(0, .row 24 (Enc.cells q)), (1, .row 24 [iS 0, .v (.slice none 0 0)]), (2, .row 28 [iS 0, iS 0]), (3, .row 28 (Enc.cells r271))] 4 (by kernel_rfl) ?_
  refine wk_id ?_
  refine cond_sx h (by kernel_rfl) (fun g298 h => ?_) (fun g298 h => ?_)
  · refine seq_np ?_
    refine reg_t ?_
    refine rs 5 [] [] (by kernel_rfl) allP_nil ?_
    refine rt [(6, .ptr 1 0), (7, .v (.slice none 0 0)), (8, .ptr 2 0)] [(0, .row 24 (Enc.cells q)), (1, .row 24 [iS 0, .v (.slice none 0 0)]), (2, .row 28 (Enc.cells r271)), (3, .row 28 (Enc.cells r271))] 9 follows (by kernel_rfl) ?_
    refine wk_id ?_
    obtain rfl := Option.some.inj h
    refine ret_at (.tup [.agg [iS 0, .v (.slice none 0 0)], .v (.slice none 0 0), .agg (Enc.cells r271)]) (by kernel_rfl) ?_
    exact ret_e [] [] (by simp only [push_cast, seval]) (by simp only [push_cast, seval]) rfl rfl rfl
  · refine wk_id ?_
    refine seq_np ?_
    refine seq_np ?_
    refine reg_f ?_
    refine rs 2 [] [] (by kernel_rfl) allP_nil ?_
    refine rf [(1, iS task), (2, bS xnext), (3, .ptr 0 0), (6, .ptr 1 0), (8, .ptr 2 0), (19, bS (decide (task < 1)))] [(0, .row 24 (Enc.cells q)), (1, .row 24 [iS 0, .v (.slice none 0 0)]), (2, .row 28 [iS 0, iS 0]), (3, .row 28 (Enc.cells r271))] 4 (by kernel_rfl) ?_
    refine wk_id ?_
    refine cond_sx h (by kernel_rfl) (fun g297 h => ?_) (fun g297 h => ?_)
    · refine seq_np ?_
      refine reg_f ?_
      refine rs 1 [] [] (by kernel_rfl) allP_nil ?_
      obtain ⟨r275, hr275, h⟩ := bind_sx h
      refine run_call 27 [iS 3, iS (-1)] (some 21) (by kernel_rfl) ?_
      refine call_0 (ring_fault_spec 3 (-1) r275 hr275) (by simp only [push_cast, seval]) (by simp only [push_cast, seval]) ?_
      refine back_f ?_
      refine rs 3 [] [] (by kernel_rfl) allP_nil ?_
      refine rf [(6, .ptr 1 0), (7, .v (.slice none 0 0)), (8, .ptr 2 0)] [(0, .row 24 (Enc.cells q)), (1, .row 24 [iS 0, .v (.slice none 0 0)]), (2, .row 28 (Enc.cells r275)), (3, .row 28 (Enc.cells r271))] 4 (by kernel_rfl) ?_
      refine wk_id ?_
      obtain rfl := Option.some.inj h
      refine ret_at (.tup [.agg [iS 0, .v (.slice none 0 0)], .v (.slice none 0 0), .agg (Enc.cells r275)]) (by kernel_rfl) ?_
      exact ret_e [] [] (by simp only [push_cast, seval]) (by simp only [push_cast, seval]) rfl rfl rfl
    · refine wk_id ?_
      refine seq_np ?_
      refine seq_np ?_
      refine reg_f ?_
      refine rs 1 [] [] (by kernel_rfl) allP_nil ?_
      obtain ⟨r282, hr282, h⟩ := bind_sx h
      refine call_x (ring_All_spec q r282 hr282) (args := [.agg (Enc.cells q)]) (dst := (some 23)) (by kernel_rfl) [(0, .row 24 (Enc.cells q)), (1, .row 24 [iS 0, .v (.slice none 0 0)]), (2, .row 28 [iS 0, iS 0]), (3, .row 28 (Enc.cells r271))] 4 (by kernel_rfl) [] [] (.own 4 0 r282.length) [(4, .row 3 (fl r282))] (by simp only [push_cast, seval]) (by simp only [push_cast, seval]) (by kernel_rfl) (.inl rfl) (by simp only [push_cast, seval]) (by simp only [push_cast, seval]) ?_
      refine rs 1 [] [] (by kernel_rfl) allP_nil ?_
      obtain ⟨r283, hr283, h⟩ := bind_sx h
      refine call_x (slices_Contains_spec r282 task r283 hr283) (args := [.own 4 0 r282.length, iS task]) (dst := (some 25)) (by kernel_rfl) [(0, .row 24 (Enc.cells q)), (1, .row 24 [iS 0, .v (.slice none 0 0)]), (2, .row 28 [iS 0, iS 0]), (3, .row 28 (Enc.cells r271)), (4, .row 3 (fl r282))] 5 (by kernel_rfl) [] [4] (bS r283) [] (by simp only [push_cast, seval]) (by simp only [push_cast, seval]) (by kernel_rfl) (.inr ⟨by simp only [push_cast, seval], by simp only [push_cast, seval]⟩) (by simp only [push_cast, seval]) (by simp only [push_cast, seval]) ?_
      refine rf [(1, iS task), (2, bS xnext), (3, .ptr 0 0), (6, .ptr 1 0), (8, .ptr 2 0), (25, bS r283)] [(0, .row 24 (Enc.cells q)), (1, .row 24 [iS 0, .v (.slice none 0 0)]), (2, .row 28 [iS 0, iS 0]), (3, .row 28 (Enc.cells r271)), (4, .row 3 (fl r282))] 5 (by kernel_rfl) ?_
      refine wk_id ?_
      refine cond_sx h (by kernel_rfl) (fun g296 h => ?_) (fun g296 h => ?_)
      · refine seq_np ?_
        refine reg_f ?_
        refine rs 1 [] [] (by kernel_rfl) allP_nil ?_
        obtain ⟨r285, hr285, h⟩ := bind_sx h
        refine run_call 27 [iS 10, iS (-1)] (some 27) (by kernel_rfl) ?_
        refine call_0 (ring_fault_spec 10 (-1) r285 hr285) (by simp only [push_cast, seval]) (by simp only [push_cast, seval]) ?_
        refine back_f ?_
        refine rs 3 [] [] (by kernel_rfl) allP_nil ?_
        refine rf [(6, .ptr 1 0), (7, .v (.slice none 0 0)), (8, .ptr 2 0)] [(0, .row 24 (Enc.cells q)), (1, .row 24 [iS 0, .v (.slice none 0 0)]), (2, .row 28 (Enc.cells r285)), (3, .row 28 (Enc.cells r271)), (4, .row 3 (fl r282))] 5 (by kernel_rfl) ?_
        refine wk_id ?_
        obtain rfl := Option.some.inj h
        refine ret_at (.tup [.agg [iS 0, .v (.slice none 0 0)], .v (.slice none 0 0), .agg (Enc.cells r285)]) (by kernel_rfl) ?_
        exact ret_e [] [] (by simp only [push_cast, seval]) (by simp only [push_cast, seval]) rfl rfl rfl
      · refine wk_id ?_
        refine seq_np ?_
        refine reg_f ?_
        refine rs 1 [] [] (by kernel_rfl) allP_nil ?_
        obtain ⟨r287, hr287, h⟩ := bind_sx h
        refine call_x (ring_copied_spec q r287 hr287) (args := [.agg (Enc.cells q)]) (dst := (some 29)) (by kernel_rfl) [(0, .row 24 (Enc.cells q)), (1, .row 24 [iS 0, .v (.slice none 0 0)]), (2, .row 28 [iS 0, iS 0]), (3, .row 28 (Enc.cells r271)), (4, .row 3 (fl r282))] 5 (by kernel_rfl) [] [] (.agg [iS r287.1, .own 5 0 r287.2.length]) [(5, .row 3 (fl r287.2))] (by simp only [push_cast, seval]) (by simp only [push_cast, seval]) (by kernel_rfl) (.inl rfl) (by simp only [push_cast, seval]) (by simp only [push_cast, seval]) ?_
        refine rs 1 [] [] (by kernel_rfl) allP_nil ?_
        refine rf [(1, iS task), (2, bS xnext), (3, .ptr 0 0), (6, .ptr 1 0), (8, .ptr 2 0)] [(0, .row 24 [iS r287.1, .own 5 0 r287.2.length]), (1, .row 24 [iS 0, .v (.slice none 0 0)]), (2, .row 28 [iS 0, iS 0]), (3, .row 28 (Enc.cells r271)), (4, .row 3 (fl r282)), (5, .row 3 (fl r287.2))] 6 (by kernel_rfl) ?_
        refine wk_id ?_
        refine seq_cut (A := Int × Int × (List Int)) (fun a => ([(1, iS a.1), (3, .ptr 0 0), (6, .ptr 1 0), (8, .ptr 2 0)], [(0, .row 24 [iS a.2.1, .own 3 0 a.2.2.length]), (1, .row 24 [iS 0, .v (.slice none 0 0)]), (2, .row 28 [iS 0, iS 0]), (3, .row 3 (fl a.2.2))], 4)) (fun a => (ring_Put_j1 a.1 a.2.1 a.2.2) = some r) (fun K291 hK291 => ?_) ?_
        · refine seq_np ?_
          refine reg_f ?_
          refine rs 1 [] [] (by kernel_rfl) allP_nil ?_
          refine rf [(1, iS task), (3, .ptr 0 0), (6, .ptr 1 0), (8, .ptr 2 0), (30, bS xnext)] [(0, .row 24 [iS r287.1, .own 5 0 r287.2.length]), (1, .row 24 [iS 0, .v (.slice none 0 0)]), (2, .row 28 [iS 0, iS 0]), (3, .row 28 (Enc.cells r271)), (4, .row 3 (fl r282)), (5, .row 3 (fl r287.2))] 6 (by kernel_rfl) ?_
          refine wk_id ?_
          refine cond_sx h (by kernel_rfl) (fun g293 h => ?_) (fun g293 h => ?_)
          · refine seq_np ?_
            refine reg_f ?_
            refine rs 6 [] [] (by kernel_rfl) allP_nil ?_
            refine rf [(1, iS r287.1), (3, .ptr 0 0), (6, .ptr 1 0), (8, .ptr 2 0)] [(0, .row 24 [iS task, .own 5 0 r287.2.length]), (1, .row 24 [iS 0, .v (.slice none 0 0)]), (2, .row 28 [iS 0, iS 0]), (3, .row 28 (Enc.cells r271)), (4, .row 3 (fl r282)), (5, .row 3 (fl r287.2))] 6 (by kernel_rfl) ?_
            refine wk_id ?_
            refine seq_np ?_
            refine reg_f ?_
            refine rs 2 [] [] (by kernel_rfl) allP_nil ?_
            refine rf [(1, iS r287.1), (3, .ptr 0 0), (6, .ptr 1 0), (8, .ptr 2 0), (36, bS (r287.1 == 0))] [(0, .row 24 [iS task, .own 5 0 r287.2.length]), (1, .row 24 [iS 0, .v (.slice none 0 0)]), (2, .row 28 [iS 0, iS 0]), (3, .row 28 (Enc.cells r271)), (4, .row 3 (fl r282)), (5, .row 3 (fl r287.2))] 6 (by kernel_rfl) ?_
            refine wk_id ?_
            refine cond_sx h (by kernel_rfl) (fun g292 h => ?_) (fun g292 h => ?_)
            · refine seq_np ?_
              refine reg_f ?_
              refine rs 5 [] [] (by kernel_rfl) allP_nil ?_
              refine rf [(6, .ptr 1 0), (7, .v (.slice none 0 0)), (8, .ptr 2 0)] [(0, .row 24 [iS task, .own 5 0 r287.2.length]), (1, .row 24 [iS task, .own 5 0 r287.2.length]), (2, .row 28 [iS 0, iS 0]), (3, .row 28 (Enc.cells r271)), (4, .row 3 (fl r282)), (5, .row 3 (fl r287.2))] 6 (by kernel_rfl) ?_
              refine wk_id ?_
              obtain rfl := Option.some.inj h
              refine ret_at (.tup [.agg [iS task, .own 5 0 r287.2.length], .v (.slice none 0 0), .agg [iS 0, iS 0]]) (by kernel_rfl) ?_
              exact ret_e [(0, 5)] [] (by simp only [push_cast, seval]) (by simp only [push_cast, seval]) rfl rfl rfl
            · exact hK291 (r287.1, task, r287.2) _ _ _ h (leSt_m [(0, 0), (1, 1), (2, 2), (3, 5)] [] (by simp only [push_cast, seval]) (by simp only [push_cast, seval]) rfl rfl rfl)
          · exact hK291 (task, r287.1, r287.2) _ _ _ h (leSt_m [(0, 0), (1, 1), (2, 2), (3, 5)] [] (by simp only [push_cast, seval]) (by simp only [push_cast, seval]) rfl rfl rfl)
        · rintro ⟨task2, c0_Next1, c3q1⟩ h
          try dsimp only at h ⊢
          unfold ring_Put_j1 at h
          refine seq_np ?_
          refine reg_f ?_
          refine rs 1 [] [] (by kernel_rfl) allP_nil ?_
          obtain ⟨r295, hr295, h⟩ := bind_sx h
          refine call_x (ring_tail_spec task2 c0_Next1 c3q1 r295 hr295) (args := [.ptr 0 0, iS task2]) (dst := (some 40)) (by kernel_rfl) [(0, .row 24 [iS c0_Next1, .own 3 0 c3q1.length]), (1, .row 24 [iS 0, .v (.slice none 0 0)]), (2, .row 28 [iS 0, iS 0]), (3, .row 3 (fl c3q1))] 4 (by kernel_rfl) [(0, 0), (1, 3)] [] (.own 6 0 r295.2.1.length) [(0, .row 24 [iS r295.1, .own 7 0 r295.2.2.length]), (3, .dead), (6, .row 3 (fl r295.2.1)), (7, .row 3 (fl r295.2.2)), (0, .dead), (3, .dead)] (by simp only [push_cast, seval]) (by simp only [push_cast, seval]) (by kernel_rfl) (.inl rfl) (by simp only [push_cast, seval]) (by simp only [push_cast, seval]) ?_
          refine rs 1 [] [] (by kernel_rfl) allP_nil ?_
          refine rf [(3, .ptr 0 0), (6, .ptr 1 0), (8, .ptr 2 0), (10, .own 6 0 r295.2.1.length)] [(0, .row 24 [iS r295.1, .own 7 0 r295.2.2.length]), (1, .row 24 [iS 0, .v (.slice none 0 0)]), (2, .row 28 [iS 0, iS 0]), (3, .dead), (6, .row 3 (fl r295.2.1)), (7, .row 3 (fl r295.2.2))] 8 (by kernel_rfl) ?_
          refine wk_id ?_
          refine seq_np ?_
          refine reg_f ?_
          refine rs 6 [] [] (by kernel_rfl) allP_nil ?_
          refine rf [(6, .ptr 1 0), (7, .own 6 0 r295.2.1.length), (8, .ptr 2 0)] [(0, .row 24 [iS r295.1, .own 7 0 r295.2.2.length]), (1, .row 24 [iS r295.1, .own 7 0 r295.2.2.length]), (2, .row 28 [iS 0, iS 0]), (3, .dead), (6, .row 3 (fl r295.2.1)), (7, .row 3 (fl r295.2.2))] 8 (by kernel_rfl) ?_
          refine wk_id ?_
          obtain rfl := Option.some.inj h
          refine ret_at (.tup [.agg [iS r295.1, .own 7 0 r295.2.2.length], .own 6 0 r295.2.1.length, .agg [iS 0, iS 0]]) (by kernel_rfl) ?_
          exact ret_e [(0, 7), (1, 6)] [] (by simp only [push_cast, seval]) (by simp only [push_cast, seval]) rfl rfl rfl

set_option maxRecDepth 100000 in
set_option maxHeartbeats 10000000 in
theorem taskmillref_Ints_spec (xa : (List Int)) (b : (List Int)) (r : Bool) (h : taskmillref_Ints xa b = some r) : SpecW Try.prog 22 [.sl xa.length (fl xa), .sl b.length (fl b)] [] 0 (fun x h n => x = bS r ∧ h = [] ∧ n = 0) := by
  unfold taskmillref_Ints at h
  refine spec_of (draw_ok _) Try.func22 rfl (by decide) rfl (by kernel_rfl) ?_
  refine seq_np ?_
  refine reg_f ?_
  refine rs 1 [] [] (by kernel_rfl) allP_nil ?_
  refine rf [(0, .sl xa.length (fl xa)), (1, .sl b.length (fl b))] [] 0 (by kernel_rfl) ?_
  refine wk_id ?_
  refine seq_np ?_
  refine seq_np ?_
  refine reg_f ?_
  refine rs 5 [] [] (by kernel_rfl) allP_nil ?_
  refine rf [(0, .sl xa.length (fl xa)), (1, .sl b.length (fl b)), (10, bS (((xa.length : Nat) : Int) != ((b.length : Nat) : Int)))] [] 0 (by kernel_rfl) ?_
  refine wk_id ?_
  refine cond_sx h (by kernel_rfl) (fun g396 h => ?_) (fun g396 h => ?_)
  · refine seq_np ?_
    refine reg_f ?_
    refine rs 1 [] [] (by kernel_rfl) allP_nil ?_
    refine rf [(4, bS false)] [] 0 (by kernel_rfl) ?_
    refine wk_id ?_
    obtain rfl := Option.some.inj h
    refine ret_at (bS false) (by kernel_rfl) ?_
    exact ret_e [] [] (by simp only [push_cast, seval]) (by simp only [push_cast, seval]) rfl rfl rfl
  · refine wk_id ?_
    refine seq_np ?_
    refine seq_np ?_
    refine reg_f ?_
    refine rs 1 [] [] (by kernel_rfl) allP_nil ?_
    refine rf [(0, .sl xa.length (fl xa)), (1, .sl b.length (fl b)), (5, iS 0)] [] 0 (by kernel_rfl) ?_
    refine wk_id ?_
    refine block_np ?_
    refine loop_sx (S := Int) (fun a => ([(0, .sl xa.length (fl xa)), (1, .sl b.length (fl b)), (5, iS a)], [], 0)) h (leSt_m [] [] (by simp only [push_cast, seval]) (by simp only [push_cast, seval]) rfl rfl rfl) ?_
    rintro i7 o2 R2 h hr2 hn2 hx2 ht2
    try dsimp only at h hn2 ⊢
    unfold taskmillref_Ints_l1 at h
    try dsimp only at h
    refine seq_np ?_
    refine seq_np ?_
    refine reg_f ?_
    refine rs 4 [] [] (by kernel_rfl) allP_nil ?_
    refine rf [(0, .sl xa.length (fl xa)), (1, .sl b.length (fl b)), (5, iS i7), (14, bS (decide (i7 < ((xa.length : Nat) : Int))))] [] 0 (by kernel_rfl) ?_
    refine wk_id ?_
    refine cond_sx h (by kernel_rfl) (fun g395 h => ?_) (fun g395 h => ?_)
    · refine wk_id ?_
      refine seq_np ?_
      refine block_np ?_
      refine chk_sx h (fun g391 h => ?_)
      refine chk_sx h (fun g393 h => ?_)
      refine seq_np ?_
      refine reg_t ?_
      have k390 : 0 ≤ i7 ∧ i7 < ((xa.length : Nat) : Int) := by first | simpa only [Bool.and_eq_true, decide_eq_true_eq, bne_iff_ne, ne_eq] using g391 | (simp at g391 ⊢; omega)
      have k392 : 0 ≤ i7 ∧ i7 < ((b.length : Nat) : Int) := by first | simpa only [Bool.and_eq_true, decide_eq_true_eq, bne_iff_ne, ne_eq] using g393 | (simp at g393 ⊢; omega)
      refine rs 9 [none, none, some ⟨.iptr (fl xa) ((i7).toNat * 1), [], 2, []⟩, some ⟨iS (ix xa i7), [], 3, []⟩, none, none, some ⟨.iptr (fl b) ((i7).toNat * 1), [], 6, []⟩, some ⟨iS (ix b i7), [], 7, []⟩] _ (by kernel_rfl) (allP_cons (ob_ld b i7 1 0 ((i7).toNat * 1) k392 rfl (by decide) (by first | rfl | omega) (dflS Try.prog 3) (iS (ix b i7)) rfl 7 []) (allP_cons (ob_ix_l b 1 6 i7 k392) (allP_cons (ob_ld xa i7 1 0 ((i7).toNat * 1) k390 rfl (by decide) (by first | rfl | omega) (dflS Try.prog 3) (iS (ix xa i7)) rfl 3 []) (allP_cons (ob_ix_l xa 1 2 i7 k390) allP_nil)))) ?_
      refine rt [(0, .sl xa.length (fl xa)), (1, .sl b.length (fl b)), (5, iS i7), (25, bS ((ix xa i7) != (ix b i7)))] [] 9 follows (by kernel_rfl) ?_
      refine wk_id ?_
      refine cond_sx h (by kernel_rfl) (fun g394 h => ?_) (fun g394 h => ?_)
      · refine seq_np ?_
        refine reg_f ?_
        refine rs 1 [] [] (by kernel_rfl) allP_nil ?_
        refine rf [(4, bS false)] [] 9 (by kernel_rfl) ?_
        refine wk_id ?_
        refine rt_cast ht2 ?_
        obtain ⟨r0, h, e0⟩ := map_sx h
        have e1 := hr2 r0 e0.symm
        subst r0
        obtain rfl := Option.some.inj h
        refine ret_at (bS false) (by kernel_rfl) ?_
        exact ret_e [] [] (by simp only [push_cast, seval]) (by simp only [push_cast, seval]) rfl rfl rfl
      · refine wk_id ?_
        refine wk_id ?_
        refine reg_f ?_
        refine rs 3 [] [] (by kernel_rfl) allP_nil ?_
        refine rf [(0, .sl xa.length (fl xa)), (1, .sl b.length (fl b)), (5, iS (IntKind.i64.wrap (i7 + 1)))] [] 9 (by kernel_rfl) ?_
        exact hn2 ((IntKind.i64.wrap (i7 + 1))) _ _ _ (Option.some.inj h).symm (leSt_m [] [] (by simp only [push_cast, seval]) (by simp only [push_cast, seval]) rfl rfl rfl)
    · refine ex_cast hx2 (id := 0) ?_
      obtain ⟨r0, h, e0⟩ := map_sx h
      have e1 := hr2 r0 e0.symm
      subst r0
      refine wk_id ?_
      refine wk_id ?_
      refine seq_np ?_
      refine reg_f ?_
      refine rs 1 [] [] (by kernel_rfl) allP_nil ?_
      refine rf [(4, bS true)] [] 0 (by kernel_rfl) ?_
      refine wk_id ?_
      obtain rfl := Option.some.inj h
      refine ret_at (bS true) (by kernel_rfl) ?_
      exact ret_e [] [] (by simp only [push_cast, seval]) (by simp only [push_cast, seval]) rfl rfl rfl

set_option maxRecDepth 100000 in
set_option maxHeartbeats 10000000 in
theorem taskmilllaw_ringBegun_spec (r : Bool) (h : taskmilllaw_ringBegun = some r) : SpecW Try.prog 11 [] [] 0 (fun x h n => x = bS r ∧ h = [] ∧ n = 0) := by
  unfold taskmilllaw_ringBegun at h
  refine spec_of (draw_ok _) Try.func11 rfl (by decide) rfl (by kernel_rfl) ?_
  refine seq_np ?_
  refine reg_f ?_
  refine rs 1 [] [] (by kernel_rfl) allP_nil ?_
  refine rf [] [] 0 (by kernel_rfl) ?_
  refine wk_id ?_
  refine seq_np ?_
  refine reg_f ?_
  refine rs 2 [] [] (by kernel_rfl) allP_nil ?_
  obtain ⟨r401, hr401, h⟩ := bind_sx h
  refine call_x (ring_Put_spec (Ring.mk 2 ([1] : List Int)) 3 true r401 hr401) (args := [.agg [iS 2, .own 0 0 ([1] : List Int).length], iS 3, bS true]) (dst := (some 7)) (by kernel_rfl) [(0, .row 3 (fl ([1] : List Int)))] 1 (by kernel_rfl) [] [0] (.tup [.agg [iS r401.1, .own 1 0 r401.2.2.1.length], .own 2 0 r401.2.2.2.length, .agg (Enc.cells r401.2.1)]) [(1, .row 3 (fl r401.2.2.1)), (2, .row 3 (fl r401.2.2.2))] (by simp only [push_cast, seval]) (by simp only [push_cast, seval]) (by kernel_rfl) (.inr ⟨by simp only [push_cast, seval], by simp only [push_cast, seval]⟩) (by simp only [push_cast, seval]) (by simp only [push_cast, seval]) ?_
  refine rs 9 [] [] (by kernel_rfl) allP_nil ?_
  refine rf [(1, .ptr 3 0), (2, .own 2 0 r401.2.2.2.length), (3, .ptr 4 0)] [(0, .row 3 (fl ([1] : List Int))), (1, .row 3 (fl r401.2.2.1)), (2, .row 3 (fl r401.2.2.2)), (3, .row 24 [iS r401.1, .own 1 0 r401.2.2.1.length]), (4, .row 28 (Enc.cells r401.2.1))] 5 (by kernel_rfl) ?_
  refine wk_id ?_
  refine seq_cut (A := Bool) (fun a => ([(0, bS a)], [], 0)) (fun a => (taskmilllaw_ringBegun_j1 a) = some r) (fun K407 hK407 => ?_) ?_
  · refine reg_f ?_
    refine rs 4 [] [] (by kernel_rfl) allP_nil ?_
    refine run_br h 14 (.inl (by kernel_rfl)) (fun g408 h => ?_) (fun g408 h => ?_)
    · refine rs 5 [] [] (by kernel_rfl) allP_nil ?_
      refine run_br h 19 (.inl (by kernel_rfl)) (fun g409 h => ?_) (fun g409 h => ?_)
      · refine rs 5 [] [] (by kernel_rfl) allP_nil ?_
        refine run_br h 24 (.inl (by kernel_rfl)) (fun g410 h => ?_) (fun g410 h => ?_)
        · refine rs 3 [] [] (by kernel_rfl) allP_nil ?_
          obtain ⟨r411, hr411, h⟩ := bind_sx h
          refine call_x (taskmillref_Ints_spec r401.2.2.1 ([1, 2] : List Int) r411 hr411) (args := [.own 1 0 r401.2.2.1.length, .own 5 0 ([1, 2] : List Int).length]) (dst := (some 28)) (by kernel_rfl) [(0, .row 3 (fl ([1] : List Int))), (1, .row 3 (fl r401.2.2.1)), (2, .row 3 (fl r401.2.2.2)), (3, .row 24 [iS r401.1, .own 1 0 r401.2.2.1.length]), (4, .row 28 (Enc.cells r401.2.1)), (5, .row 3 (fl ([1, 2] : List Int)))] 6 (by kernel_rfl) [] [1, 5] (bS r411) [] (by simp only [push_cast, seval]) (by simp only [push_cast, seval]) (by kernel_rfl) (.inr ⟨by simp only [push_cast, seval], by simp only [push_cast, seval]⟩) (by simp only [push_cast, seval]) (by simp only [push_cast, seval]) ?_
          refine rs 2 [] [] (by kernel_rfl) allP_nil ?_
          refine rf [(0, bS r411)] [(0, .row 3 (fl ([1] : List Int))), (1, .row 3 (fl r401.2.2.1)), (2, .row 3 (fl r401.2.2.2)), (3, .row 24 [iS r401.1, .own 1 0 r401.2.2.1.length]), (4, .row 28 (Enc.cells r401.2.1)), (5, .row 3 (fl ([1, 2] : List Int)))] 6 (by kernel_rfl) ?_
          exact hK407 (r411) _ _ _ h (leSt_m [] [] (by (try simp only [g408, g409, g410]) <;> simp only [push_cast, seval]) (by (try simp only [g408, g409, g410]) <;> simp only [push_cast, seval]) rfl rfl rfl)
        · refine rs 6 [] [] (by kernel_rfl) allP_nil ?_
          refine rf [(0, bS false)] [(0, .row 3 (fl ([1] : List Int))), (1, .row 3 (fl r401.2.2.1)), (2, .row 3 (fl r401.2.2.2)), (3, .row 24 [iS r401.1, .own 1 0 r401.2.2.1.length]), (4, .row 28 (Enc.cells r401.2.1))] 5 (by kernel_rfl) ?_
          exact hK407 (false) _ _ _ h (leSt_m [] [] (by (try simp only [g408, g409, g410]) <;> simp only [push_cast, seval]) (by (try simp only [g408, g409, g410]) <;> simp only [push_cast, seval]) rfl rfl rfl)
      · refine rs 11 [] [] (by kernel_rfl) allP_nil ?_
        refine rf [(0, bS false)] [(0, .row 3 (fl ([1] : List Int))), (1, .row 3 (fl r401.2.2.1)), (2, .row 3 (fl r401.2.2.2)), (3, .row 24 [iS r401.1, .own 1 0 r401.2.2.1.length]), (4, .row 28 (Enc.cells r401.2.1))] 5 (by kernel_rfl) ?_
        exact hK407 (false) _ _ _ h (leSt_m [] [] (by (try simp only [g408, g409]) <;> simp only [push_cast, seval]) (by (try simp only [g408, g409]) <;> simp only [push_cast, seval]) rfl rfl rfl)
    · refine rs 16 [] [] (by kernel_rfl) allP_nil ?_
      refine rf [(0, bS false)] [(0, .row 3 (fl ([1] : List Int))), (1, .row 3 (fl r401.2.2.1)), (2, .row 3 (fl r401.2.2.2)), (3, .row 24 [iS r401.1, .own 1 0 r401.2.2.1.length]), (4, .row 28 (Enc.cells r401.2.1))] 5 (by kernel_rfl) ?_
      exact hK407 (false) _ _ _ h (leSt_m [] [] (by (try simp only [g408]) <;> simp only [push_cast, seval]) (by (try simp only [g408]) <;> simp only [push_cast, seval]) rfl rfl rfl)
  · rintro t0q1 h
    try dsimp only at h ⊢
    unfold taskmilllaw_ringBegun_j1 at h
    obtain rfl := Option.some.inj h
    refine ret_at (bS t0q1) (by kernel_rfl) ?_
    exact ret_e [] [] (by simp only [push_cast, seval]) (by simp only [push_cast, seval]) rfl rfl rfl

set_option maxRecDepth 100000 in
set_option maxHeartbeats 10000000 in
theorem taskmilllaw_own_spec (l : (List Int)) (r : (List Int)) (h : taskmilllaw_own l = some r) : SpecW Try.prog 25 [.sl l.length (fl l)] [] 0 (fun x h n => x = .own 0 0 r.length ∧ h = [(0, .row 3 (fl r))] ∧ n = 1) := by
  unfold taskmilllaw_own at h
  refine spec_of (draw_ok _) Try.func25 rfl (by decide) rfl (by kernel_rfl) ?_
  refine seq_np ?_
  refine reg_f ?_
  refine rs 1 [] [] (by kernel_rfl) allP_nil ?_
  refine rf [(0, .sl l.length (fl l))] [] 0 (by kernel_rfl) ?_
  refine wk_id ?_
  refine chk_sx h (fun g420 h => ?_)
  refine seq_np ?_
  refine reg_f ?_
  have k419 : l.length * 8 ≤ 140737488355328 := by first | simpa only [Bool.and_eq_true, decide_eq_true_eq, bne_iff_ne, ne_eq] using g420 | (simp at g420 ⊢; omega)
  refine rs 3 [none, some ⟨.own 0 0 l.length, [(0, .row 3 (fl l))], 1, []⟩] _ (by kernel_rfl) (allP_cons (ob_app0 (P := Try.prog) l 1 8 rfl (fl l) l.length rfl rfl ((fl l).length = l.length * 1) (app_sl l 1 rfl) 3 (by kernel_rfl) (by decide) k419 0 []) allP_nil) ?_
  refine rf [(2, .own 0 0 l.length)] [(0, .row 3 (fl l))] 1 (by kernel_rfl) ?_
  refine wk_id ?_
  obtain rfl := Option.some.inj h
  refine ret_at (.own 0 0 l.length) (by kernel_rfl) ?_
  exact ret_e [(0, 0)] [] (by simp only [push_cast, seval]) (by simp only [push_cast, seval]) rfl rfl rfl

set_option maxRecDepth 100000 in
set_option maxHeartbeats 10000000 in
theorem taskmilllaw_ownRing_spec (q : Ring) (r : Int × (List Int)) (h : taskmilllaw_ownRing q = some r) : SpecW Try.prog 12 [.agg (Enc.cells q)] [] 0 (fun x h n => x = .agg [iS r.1, .own 0 0 r.2.length] ∧ h = [(0, .row 3 (fl r.2))] ∧ n = 1) := by
  unfold taskmilllaw_ownRing at h
  refine spec_of (draw_ok _) Try.func12 rfl (by decide) rfl (by kernel_rfl) ?_
  refine seq_np ?_
  refine reg_f ?_
  refine rs 2 [] [] (by kernel_rfl) allP_nil ?_
  refine rf [(1, .ptr 0 0), (2, .ptr 1 0)] [(0, .row 24 (Enc.cells q)), (1, .row 24 [iS 0, .v (.slice none 0 0)])] 2 (by kernel_rfl) ?_
  refine wk_id ?_
  refine seq_np ?_
  refine reg_t ?_
  refine rs 4 [] [] (by kernel_rfl) allP_nil ?_
  obtain ⟨r423, hr423, h⟩ := bind_sx h
  refine call_x (taskmilllaw_own_spec q.List r423 hr423) (args := [.sl q.List.length (fl q.List)]) (dst := (some 7)) (by kernel_rfl) [(0, .row 24 (Enc.cells q)), (1, .row 24 [iS 0, .v (.slice none 0 0)])] 6 (by kernel_rfl) [] [] (.own 6 0 r423.length) [(6, .row 3 (fl r423))] (by simp only [push_cast, seval]) (by simp only [push_cast, seval]) (by kernel_rfl) (.inl rfl) (by simp only [push_cast, seval]) (by simp only [push_cast, seval]) ?_
  refine rs 2 [] [] (by kernel_rfl) allP_nil ?_
  refine rt [(2, .ptr 1 0)] [(0, .row 24 (Enc.cells q)), (1, .row 24 [iS q.Next, .own 6 0 r423.length]), (6, .row 3 (fl r423))] 10 follows (by kernel_rfl) ?_
  refine wk_id ?_
  obtain rfl := Option.some.inj h
  refine ret_at (.agg [iS q.Next, .own 6 0 r423.length]) (by kernel_rfl) ?_
  exact ret_e [(0, 6)] [] (by simp only [push_cast, seval]) (by simp only [push_cast, seval]) rfl rfl rfl

set_option maxRecDepth 100000 in
set_option maxHeartbeats 10000000 in
theorem taskmillref_F_spec (code : Int) (xat : Int) (r : Fault) (h : taskmillref_F code xat = some r) : SpecW Try.prog 17 [iS code, iS xat] [] 0 (fun x h n => x = .agg (Enc.cells r) ∧ h = [] ∧ n = 0) := by
  unfold taskmillref_F at h
  refine spec_of (draw_ok _) Try.func17 rfl (by decide) rfl (by kernel_rfl) ?_
  refine seq_np ?_
  refine reg_f ?_
  refine rs 1 [] [] (by kernel_rfl) allP_nil ?_
  refine rf [(0, iS code), (1, iS xat), (4, .ptr 0 0)] [(0, .row 28 [iS 0, iS 0])] 1 (by kernel_rfl) ?_
  refine wk_id ?_
  refine seq_np ?_
  refine reg_f ?_
  refine rs 4 [] [] (by kernel_rfl) allP_nil ?_
  refine rf [(4, .ptr 0 0)] [(0, .row 28 [iS code, iS xat])] 1 (by kernel_rfl) ?_
  refine wk_id ?_
  obtain rfl := Option.some.inj h
  refine ret_at (.agg [iS code, iS xat]) (by kernel_rfl) ?_
  exact ret_e [] [] (by simp only [push_cast, seval]) (by simp only [push_cast, seval]) rfl rfl rfl

set_option maxRecDepth 100000 in
set_option maxHeartbeats 10000000 in
theorem taskmillref_Has_spec (l : (List Int)) (n : Int) (r : Bool) (h : taskmillref_Has l n = some r) : SpecW Try.prog 18 [.sl l.length (fl l), iS n] [] 0 (fun x h n => x = bS r ∧ h = [] ∧ n = 0) := by
  unfold taskmillref_Has at h
  refine spec_of (draw_ok _) Try.func18 rfl (by decide) rfl (by kernel_rfl) ?_
  refine seq_np ?_
  refine reg_f ?_
  refine rs 1 [] [] (by kernel_rfl) allP_nil ?_
  refine rf [(0, .sl l.length (fl l)), (1, iS n)] [] 0 (by kernel_rfl) ?_
  refine wk_id ?_
  refine seq_np ?_
  refine seq_np ?_
  refine reg_f ?_
  refine rs 1 [] [] (by kernel_rfl) allP_nil ?_
  refine rf [(0, .sl l.length (fl l)), (1, iS n), (5, iS 0)] [] 0 (by kernel_rfl) ?_
  refine wk_id ?_
  refine block_np ?_
  refine loop_sx (S := Int) (fun a => ([(0, .sl l.length (fl l)), (1, iS n), (5, iS a)], [], 0)) h (leSt_m [] [] (by simp only [push_cast, seval]) (by simp only [push_cast, seval]) rfl rfl rfl) ?_
  rintro i7 o2 R2 h hr2 hn2 hx2 ht2
  try dsimp only at h hn2 ⊢
  unfold taskmillref_Has_l1 at h
  try dsimp only at h
  refine seq_np ?_
  refine seq_np ?_
  refine reg_f ?_
  refine rs 4 [] [] (by kernel_rfl) allP_nil ?_
  refine rf [(0, .sl l.length (fl l)), (1, iS n), (5, iS i7), (9, bS (decide (i7 < ((l.length : Nat) : Int))))] [] 0 (by kernel_rfl) ?_
  refine wk_id ?_
  refine cond_sx h (by kernel_rfl) (fun g503 h => ?_) (fun g503 h => ?_)
  · refine wk_id ?_
    refine seq_np ?_
    refine block_np ?_
    refine chk_sx h (fun g501 h => ?_)
    refine seq_np ?_
    refine reg_f ?_
    have k500 : 0 ≤ i7 ∧ i7 < ((l.length : Nat) : Int) := by first | simpa only [Bool.and_eq_true, decide_eq_true_eq, bne_iff_ne, ne_eq] using g501 | (simp at g501 ⊢; omega)
    refine rs 6 [none, none, some ⟨.iptr (fl l) ((i7).toNat * 1), [], 0, []⟩, some ⟨iS (ix l i7), [], 0, []⟩] _ (by kernel_rfl) (allP_cons (ob_ld l i7 1 0 ((i7).toNat * 1) k500 rfl (by decide) (by first | rfl | omega) (dflS Try.prog 3) (iS (ix l i7)) rfl 0 []) (allP_cons (ob_ix_l l 1 0 i7 k500) allP_nil)) ?_
    refine rf [(0, .sl l.length (fl l)), (1, iS n), (5, iS i7), (17, bS ((ix l i7) == n))] [] 0 (by kernel_rfl) ?_
    refine wk_id ?_
    refine cond_sx h (by kernel_rfl) (fun g502 h => ?_) (fun g502 h => ?_)
    · refine seq_np ?_
      refine reg_f ?_
      refine rs 1 [] [] (by kernel_rfl) allP_nil ?_
      refine rf [(4, bS true)] [] 0 (by kernel_rfl) ?_
      refine wk_id ?_
      refine rt_cast ht2 ?_
      obtain ⟨r0, h, e0⟩ := map_sx h
      have e1 := hr2 r0 e0.symm
      subst r0
      obtain rfl := Option.some.inj h
      refine ret_at (bS true) (by kernel_rfl) ?_
      exact ret_e [] [] (by simp only [push_cast, seval]) (by simp only [push_cast, seval]) rfl rfl rfl
    · refine wk_id ?_
      refine wk_id ?_
      refine reg_f ?_
      refine rs 3 [] [] (by kernel_rfl) allP_nil ?_
      refine rf [(0, .sl l.length (fl l)), (1, iS n), (5, iS (IntKind.i64.wrap (i7 + 1)))] [] 0 (by kernel_rfl) ?_
      exact hn2 ((IntKind.i64.wrap (i7 + 1))) _ _ _ (Option.some.inj h).symm (leSt_m [] [] (by simp only [push_cast, seval]) (by simp only [push_cast, seval]) rfl rfl rfl)
  · refine ex_cast hx2 (id := 0) ?_
    obtain ⟨r0, h, e0⟩ := map_sx h
    have e1 := hr2 r0 e0.symm
    subst r0
    refine wk_id ?_
    refine wk_id ?_
    refine seq_np ?_
    refine reg_f ?_
    refine rs 1 [] [] (by kernel_rfl) allP_nil ?_
    refine rf [(4, bS false)] [] 0 (by kernel_rfl) ?_
    refine wk_id ?_
    obtain rfl := Option.some.inj h
    refine ret_at (bS false) (by kernel_rfl) ?_
    exact ret_e [] [] (by simp only [push_cast, seval]) (by simp only [push_cast, seval]) rfl rfl rfl

set_option maxRecDepth 100000 in
set_option maxHeartbeats 10000000 in
theorem taskmillref_RingFault_spec (q : Ring) (r : Fault) (h : taskmillref_RingFault q = some r) : SpecW Try.prog 15 [.agg (Enc.cells q)] [] 0 (fun x h n => x = .agg (Enc.cells r) ∧ h = [] ∧ n = 0) := by
  unfold taskmillref_RingFault at h
  refine spec_of (draw_ok _) Try.func15 rfl (by decide) rfl (by kernel_rfl) ?_
  refine seq_np ?_
  refine reg_f ?_
  refine rs 2 [] [] (by kernel_rfl) allP_nil ?_
  refine rf [(1, .ptr 0 0), (2, .ptr 1 0)] [(0, .row 24 (Enc.cells q)), (1, .row 28 [iS 0, iS 0])] 2 (by kernel_rfl) ?_
  refine wk_id ?_
  refine seq_np ?_
  refine seq_np ?_
  refine reg_f ?_
  refine rs 4 [] [] (by kernel_rfl) allP_nil ?_
  refine rf [(1, .ptr 0 0), (2, .ptr 1 0), (7, bS (decide ((256 : Int) < ((q.List.length : Nat) : Int))))] [(0, .row 24 (Enc.cells q)), (1, .row 28 [iS 0, iS 0])] 2 (by kernel_rfl) ?_
  refine wk_id ?_
  refine cond_sx h (by kernel_rfl) (fun g758 h => ?_) (fun g758 h => ?_)
  · refine seq_np ?_
    refine reg_f ?_
    obtain ⟨r547, hr547, h⟩ := bind_sx h
    refine run_call 17 [iS 2, iS 0] (some 8) (by kernel_rfl) ?_
    refine call_0 (taskmillref_F_spec 2 0 r547 hr547) (by simp only [push_cast, seval]) (by simp only [push_cast, seval]) ?_
    refine back_f ?_
    refine rs 1 [] [] (by kernel_rfl) allP_nil ?_
    refine rf [(2, .ptr 1 0)] [(0, .row 24 (Enc.cells q)), (1, .row 28 (Enc.cells r547))] 2 (by kernel_rfl) ?_
    refine wk_id ?_
    obtain rfl := Option.some.inj h
    refine ret_at (.agg (Enc.cells r547)) (by kernel_rfl) ?_
    exact ret_e [] [] (by simp only [push_cast, seval]) (by simp only [push_cast, seval]) rfl rfl rfl
  · refine wk_id ?_
    refine seq_np ?_
    refine seq_np ?_
    refine reg_f ?_
    refine rs 3 [] [] (by kernel_rfl) allP_nil ?_
    refine rf [(1, .ptr 0 0), (2, .ptr 1 0), (11, bS (decide (q.Next < 0)))] [(0, .row 24 (Enc.cells q)), (1, .row 28 [iS 0, iS 0])] 2 (by kernel_rfl) ?_
    refine wk_id ?_
    refine cond_sx h (by kernel_rfl) (fun g757 h => ?_) (fun g757 h => ?_)
    · refine seq_np ?_
      refine reg_f ?_
      obtain ⟨r551, hr551, h⟩ := bind_sx h
      refine run_call 17 [iS 3, iS 0] (some 12) (by kernel_rfl) ?_
      refine call_0 (taskmillref_F_spec 3 0 r551 hr551) (by simp only [push_cast, seval]) (by simp only [push_cast, seval]) ?_
      refine back_f ?_
      refine rs 1 [] [] (by kernel_rfl) allP_nil ?_
      refine rf [(2, .ptr 1 0)] [(0, .row 24 (Enc.cells q)), (1, .row 28 (Enc.cells r551))] 2 (by kernel_rfl) ?_
      refine wk_id ?_
      obtain rfl := Option.some.inj h
      refine ret_at (.agg (Enc.cells r551)) (by kernel_rfl) ?_
      exact ret_e [] [] (by simp only [push_cast, seval]) (by simp only [push_cast, seval]) rfl rfl rfl
    · refine wk_id ?_
      refine seq_np ?_
      refine seq_np ?_
      refine reg_f ?_
      refine rs 1 [] [] (by kernel_rfl) allP_nil ?_
      refine rf [(1, .ptr 0 0), (2, .ptr 1 0), (3, iS 0)] [(0, .row 24 (Enc.cells q)), (1, .row 28 [iS 0, iS 0])] 2 (by kernel_rfl) ?_
      refine wk_id ?_
      refine block_np ?_
      refine loop_sx (S := Int) (fun a => ([(1, .ptr 0 0), (2, .ptr 1 0), (3, iS a)], [(0, .row 24 (Enc.cells q)), (1, .row 28 [iS 0, iS 0])], 2)) h (leSt_m [(0, 0), (1, 1)] [] (by simp only [push_cast, seval]) (by simp only [push_cast, seval]) rfl rfl rfl) ?_
      rintro i7 o2 R2 h hr2 hn2 hx2 ht2
      try dsimp only at h hn2 ⊢
      unfold taskmillref_RingFault_l1 at h
      try dsimp only at h
      refine seq_np ?_
      refine seq_np ?_
      refine reg_f ?_
      refine rs 5 [] [] (by kernel_rfl) allP_nil ?_
      refine rf [(1, .ptr 0 0), (2, .ptr 1 0), (3, iS i7), (17, bS (decide (i7 < ((q.List.length : Nat) : Int))))] [(0, .row 24 (Enc.cells q)), (1, .row 28 [iS 0, iS 0])] 2 (by kernel_rfl) ?_
      refine wk_id ?_
      refine cond_sx h (by kernel_rfl) (fun g756 h => ?_) (fun g756 h => ?_)
      · refine wk_id ?_
        refine seq_np ?_
        refine block_np ?_
        refine seq_np ?_
        refine chk_sx h (fun g731 h => ?_)
        refine seq_np ?_
        refine reg_f ?_
        have k730 : 0 ≤ i7 ∧ i7 < ((q.List.length : Nat) : Int) := by first | simpa only [Bool.and_eq_true, decide_eq_true_eq, bne_iff_ne, ne_eq] using g731 | (simp at g731 ⊢; omega)
        refine rs 6 [none, none, none, some ⟨.iptr (fl q.List) ((i7).toNat * 1), [], 2, []⟩, some ⟨iS (ix q.List i7), [], 2, []⟩] _ (by kernel_rfl) (allP_cons (ob_ld q.List i7 1 0 ((i7).toNat * 1) k730 rfl (by decide) (by first | rfl | omega) (dflS Try.prog 3) (iS (ix q.List i7)) rfl 2 []) (allP_cons (ob_ix_l q.List 1 2 i7 k730) allP_nil)) ?_
        refine rf [(1, .ptr 0 0), (2, .ptr 1 0), (3, iS i7), (25, bS (decide ((ix q.List i7) < 1)))] [(0, .row 24 (Enc.cells q)), (1, .row 28 [iS 0, iS 0])] 2 (by kernel_rfl) ?_
        refine wk_id ?_
        refine cond_sx h (by kernel_rfl) (fun g755 h => ?_) (fun g755 h => ?_)
        · refine seq_np ?_
          refine reg_f ?_
          refine rs 2 [] [] (by kernel_rfl) allP_nil ?_
          obtain ⟨r733, hr733, h⟩ := bind_sx h
          refine run_call 17 [iS 3, iS (IntKind.i64.wrap (i7 + 1))] (some 28) (by kernel_rfl) ?_
          refine call_0 (taskmillref_F_spec 3 (IntKind.i64.wrap (i7 + 1)) r733 hr733) (by simp only [push_cast, seval]) (by simp only [push_cast, seval]) ?_
          refine back_f ?_
          refine rs 1 [] [] (by kernel_rfl) allP_nil ?_
          refine rf [(2, .ptr 1 0)] [(0, .row 24 (Enc.cells q)), (1, .row 28 (Enc.cells r733))] 2 (by kernel_rfl) ?_
          refine wk_id ?_
          refine rt_cast ht2 ?_
          obtain ⟨r0, h, e0⟩ := map_sx h
          have e1 := hr2 r0 e0.symm
          subst r0
          obtain rfl := Option.some.inj h
          refine ret_at (.agg (Enc.cells r733)) (by kernel_rfl) ?_
          exact ret_e [] [] (by simp only [push_cast, seval]) (by simp only [push_cast, seval]) rfl rfl rfl
        · refine wk_id ?_
          refine chk_sx h (fun g745 h => ?_)
          refine seq_cut (A := Bool) (fun a => ([(1, .ptr 0 0), (2, .ptr 1 0), (3, iS i7), (48, bS a)], [(0, .row 24 (Enc.cells q)), (1, .row 28 [iS 0, iS 0])], 2)) (fun a => (taskmillref_RingFault_j1 q i7 a) = some o2) (fun K743 hK743 => ?_) ?_
          · refine reg_t ?_
            have k744 : 0 ≤ i7 ∧ i7 < ((q.List.length : Nat) : Int) := by first | simpa only [Bool.and_eq_true, decide_eq_true_eq, bne_iff_ne, ne_eq] using g745 | (simp at g745 ⊢; omega)
            refine rs 9 [none, none, none, some ⟨.iptr (fl q.List) ((i7).toNat * 1), [], 5, []⟩, some ⟨iS (ix q.List i7), [], 6, []⟩] _ (by kernel_rfl) (allP_cons (ob_ld q.List i7 1 0 ((i7).toNat * 1) k744 rfl (by decide) (by first | rfl | omega) (dflS Try.prog 3) (iS (ix q.List i7)) rfl 6 []) (allP_cons (ob_ix_l q.List 1 5 i7 k744) allP_nil)) ?_
            refine run_br h 37 (.inl (by kernel_rfl)) (fun g746 h => ?_) (fun g746 h => ?_)
            · refine rs 11 [] [] (by kernel_rfl) allP_nil ?_
              refine rt [(1, .ptr 0 0), (2, .ptr 1 0), (3, iS i7), (48, bS true)] [(0, .row 24 (Enc.cells q)), (1, .row 28 [iS 0, iS 0])] 22 follows (by kernel_rfl) ?_
              exact hK743 (true) _ _ _ h (leSt_m [(0, 0), (1, 1)] [] (by (try simp only [g746]) <;> simp only [push_cast, seval]) (by (try simp only [g746]) <;> simp only [push_cast, seval]) rfl rfl rfl)
            · refine chk_sx h (fun g748 h => ?_)
              have k747 : 0 ≤ (0 : Int) ∧ (0 : Int) ≤ i7 ∧ i7 ≤ ((q.List.length : Nat) : Int) := by first | simpa only [Bool.and_eq_true, decide_eq_true_eq, bne_iff_ne, ne_eq] using g748 | (simp at g748 ⊢; omega)
              refine chk_sx h (fun g750 h => ?_)
              have k749 : 0 ≤ i7 ∧ i7 < ((q.List.length : Nat) : Int) := by first | simpa only [Bool.and_eq_true, decide_eq_true_eq, bne_iff_ne, ne_eq] using g750 | (simp at g750 ⊢; omega)
              refine rs 9 [none, none, none, some ⟨.sl (cut q.List (0 : Int) i7).length (fl (cut q.List (0 : Int) i7)), [], 14, []⟩, none, none, none, some ⟨.iptr (fl q.List) ((i7).toNat * 1), [], 18, []⟩, some ⟨iS (ix q.List i7), [], 19, []⟩] _ (by kernel_rfl) (allP_cons (ob_ld q.List i7 1 0 ((i7).toNat * 1) k749 rfl (by decide) (by first | rfl | omega) (dflS Try.prog 3) (iS (ix q.List i7)) rfl 19 []) (allP_cons (ob_ix_l q.List 1 18 i7 k749) (allP_cons (ob_cut q.List (0 : Int) i7 1 14 rfl k747) allP_nil))) ?_
              obtain ⟨r751, hr751, h⟩ := bind_sx h
              refine run_call 18 [.sl (cut q.List (0 : Int) i7).length (fl (cut q.List (0 : Int) i7)), iS (ix q.List i7)] (some 47) (by kernel_rfl) ?_
              refine callE_0 (taskmillref_Has_spec (cut q.List (0 : Int) i7) (ix q.List i7) r751 hr751) (by simp only [push_cast, seval]) (by simp only [push_cast, seval]) ?_
              refine back_t ?_
              refine rs 1 [] [] (by kernel_rfl) allP_nil ?_
              refine rt [(1, .ptr 0 0), (2, .ptr 1 0), (3, iS i7), (48, bS r751)] [(0, .row 24 (Enc.cells q)), (1, .row 28 [iS 0, iS 0])] 22 follows (by kernel_rfl) ?_
              exact hK743 (r751) _ _ _ h (leSt_m [(0, 0), (1, 1)] [] (by (try simp only [g746]) <;> simp only [push_cast, seval]) (by (try simp only [g746]) <;> simp only [push_cast, seval]) rfl rfl rfl)
          · rintro t48q13 h
            try dsimp only at h ⊢
            unfold taskmillref_RingFault_j1 at h
            refine cond_sx h (by kernel_rfl) (fun g754 h => ?_) (fun g754 h => ?_)
            · refine seq_np ?_
              refine reg_f ?_
              refine rs 2 [] [] (by kernel_rfl) allP_nil ?_
              obtain ⟨r753, hr753, h⟩ := bind_sx h
              refine run_call 17 [iS 10, iS (IntKind.i64.wrap (i7 + 1))] (some 51) (by kernel_rfl) ?_
              refine call_0 (taskmillref_F_spec 10 (IntKind.i64.wrap (i7 + 1)) r753 hr753) (by simp only [push_cast, seval]) (by simp only [push_cast, seval]) ?_
              refine back_f ?_
              refine rs 1 [] [] (by kernel_rfl) allP_nil ?_
              refine rf [(2, .ptr 1 0)] [(0, .row 24 (Enc.cells q)), (1, .row 28 (Enc.cells r753))] 2 (by kernel_rfl) ?_
              refine wk_id ?_
              refine rt_cast ht2 ?_
              obtain ⟨r0, h, e0⟩ := map_sx h
              have e1 := hr2 r0 e0.symm
              subst r0
              obtain rfl := Option.some.inj h
              refine ret_at (.agg (Enc.cells r753)) (by kernel_rfl) ?_
              exact ret_e [] [] (by simp only [push_cast, seval]) (by simp only [push_cast, seval]) rfl rfl rfl
            · refine wk_id ?_
              refine wk_id ?_
              refine reg_f ?_
              refine rs 3 [] [] (by kernel_rfl) allP_nil ?_
              refine rf [(1, .ptr 0 0), (2, .ptr 1 0), (3, iS (IntKind.i64.wrap (i7 + 1)))] [(0, .row 24 (Enc.cells q)), (1, .row 28 [iS 0, iS 0])] 2 (by kernel_rfl) ?_
              exact hn2 ((IntKind.i64.wrap (i7 + 1))) _ _ _ (Option.some.inj h).symm (leSt_m [(0, 0), (1, 1)] [] (by simp only [push_cast, seval]) (by simp only [push_cast, seval]) rfl rfl rfl)
      · refine ex_cast hx2 (id := 0) ?_
        obtain ⟨r0, h, e0⟩ := map_sx h
        have e1 := hr2 r0 e0.symm
        subst r0
        refine wk_id ?_
        refine wk_id ?_
        refine seq_np ?_
        refine reg_f ?_
        refine rs 2 [] [] (by kernel_rfl) allP_nil ?_
        refine rf [(2, .ptr 1 0)] [(0, .row 24 (Enc.cells q)), (1, .row 28 [iS 0, iS 0])] 2 (by kernel_rfl) ?_
        refine wk_id ?_
        obtain rfl := Option.some.inj h
        refine ret_at (.agg [iS 0, iS 0]) (by kernel_rfl) ?_
        exact ret_e [] [] (by simp only [push_cast, seval]) (by simp only [push_cast, seval]) rfl rfl rfl

set_option maxRecDepth 100000 in
set_option maxHeartbeats 10000000 in
theorem taskmillref_SameRing_spec (xa : Ring) (b : Ring) (r : Bool) (h : taskmillref_SameRing xa b = some r) : SpecW Try.prog 16 [.agg (Enc.cells xa), .agg (Enc.cells b)] [] 0 (fun x h n => x = bS r ∧ h = [] ∧ n = 0) := by
  unfold taskmillref_SameRing at h
  refine spec_of (draw_ok _) Try.func16 rfl (by decide) rfl (by kernel_rfl) ?_
  refine seq_np ?_
  refine reg_f ?_
  refine rs 3 [] [] (by kernel_rfl) allP_nil ?_
  refine rf [(2, .ptr 0 0), (3, .ptr 1 0)] [(0, .row 24 (Enc.cells xa)), (1, .row 24 (Enc.cells b))] 2 (by kernel_rfl) ?_
  refine wk_id ?_
  refine seq_cut (A := Bool) (fun a => ([(4, bS a)], [], 0)) (fun a => (taskmillref_SameRing_j1 a) = some r) (fun K768 hK768 => ?_) ?_
  · refine reg_f ?_
    refine rs 6 [] [] (by kernel_rfl) allP_nil ?_
    refine run_br h 10 (.inl (by kernel_rfl)) (fun g769 h => ?_) (fun g769 h => ?_)
    · refine rs 4 [] [] (by kernel_rfl) allP_nil ?_
      obtain ⟨r770, hr770, h⟩ := bind_sx h
      refine run_call 22 [.sl xa.List.length (fl xa.List), .sl b.List.length (fl b.List)] (some 15) (by kernel_rfl) ?_
      refine call_0 (taskmillref_Ints_spec xa.List b.List r770 hr770) (by simp only [push_cast, seval]) (by simp only [push_cast, seval]) ?_
      refine back_f ?_
      refine rs 2 [] [] (by kernel_rfl) allP_nil ?_
      refine rf [(4, bS r770)] [(0, .row 24 (Enc.cells xa)), (1, .row 24 (Enc.cells b))] 2 (by kernel_rfl) ?_
      exact hK768 (r770) _ _ _ h (leSt_m [] [] (by (try simp only [g769]) <;> simp only [push_cast, seval]) (by (try simp only [g769]) <;> simp only [push_cast, seval]) rfl rfl rfl)
    · refine rs 7 [] [] (by kernel_rfl) allP_nil ?_
      refine rf [(4, bS false)] [(0, .row 24 (Enc.cells xa)), (1, .row 24 (Enc.cells b))] 2 (by kernel_rfl) ?_
      exact hK768 (false) _ _ _ h (leSt_m [] [] (by (try simp only [g769]) <;> simp only [push_cast, seval]) (by (try simp only [g769]) <;> simp only [push_cast, seval]) rfl rfl rfl)
  · rintro t4q1 h
    try dsimp only at h ⊢
    unfold taskmillref_SameRing_j1 at h
    obtain rfl := Option.some.inj h
    refine ret_at (bS t4q1) (by kernel_rfl) ?_
    exact ret_e [] [] (by simp only [push_cast, seval]) (by simp only [push_cast, seval]) rfl rfl rfl

set_option maxRecDepth 100000 in
set_option maxHeartbeats 10000000 in
theorem taskmillref_Line_spec (q : Ring) (r : (List Int)) (h : taskmillref_Line q = some r) : SpecW Try.prog 19 [.agg (Enc.cells q)] [] 0 (fun x h n => x = .own 0 0 r.length ∧ h = [(0, .row 3 (fl r))] ∧ n = 1) := by
  unfold taskmillref_Line at h
  refine spec_of (draw_ok _) Try.func19 rfl (by decide) rfl (by kernel_rfl) ?_
  refine seq_np ?_
  refine reg_f ?_
  refine rs 2 [] [] (by kernel_rfl) allP_nil ?_
  refine rf [(1, .ptr 0 0)] [(0, .row 24 (Enc.cells q))] 1 (by kernel_rfl) ?_
  refine wk_id ?_
  refine seq_np ?_
  refine reg_f ?_
  refine rs 1 [] [] (by kernel_rfl) allP_nil ?_
  refine rf [(1, .ptr 0 0), (3, .v (.slice none 0 0))] [(0, .row 24 (Enc.cells q))] 1 (by kernel_rfl) ?_
  refine wk_id ?_
  refine seq_cut (A := (List Int)) (fun a => ([(1, .ptr 0 0), (3, .own 1 0 a.length)], [(0, .row 24 (Enc.cells q)), (1, .row 3 (fl a))], 2)) (fun a => (taskmillref_Line_j1 q a) = some r) (fun K792 hK792 => ?_) ?_
  · refine seq_np ?_
    refine reg_f ?_
    refine rs 3 [] [] (by kernel_rfl) allP_nil ?_
    refine rf [(1, .ptr 0 0), (3, .v (.slice none 0 0)), (6, bS (decide ((0 : Int) < q.Next)))] [(0, .row 24 (Enc.cells q))] 1 (by kernel_rfl) ?_
    refine wk_id ?_
    refine cond_sx h (by kernel_rfl) (fun g797 h => ?_) (fun g797 h => ?_)
    · refine chk_sx h (fun g796 h => ?_)
      refine reg_f ?_
      have k795 : ([q.Next] : List Int).length * 8 ≤ 140737488355328 := by first | simpa only [Bool.and_eq_true, decide_eq_true_eq, bne_iff_ne, ne_eq] using g796 | (simp at g796 ⊢; omega)
      refine rs 6 [none, none, none, none, some ⟨.own 2 0 ([q.Next] : List Int).length, [(2, .row 3 (fl ([q.Next] : List Int)))], 3, [1]⟩] _ (by kernel_rfl) (allP_cons (ob_app0 (P := Try.prog) ([q.Next] : List Int) 1 8 rfl (appCells (fl ([q.Next] : List Int)) 0 (([q.Next] : List Int).length * 1)) ([q.Next] : List Int).length (app_own ([q.Next] : List Int) 1 rfl) rfl (0 + ([q.Next] : List Int).length * 1 ≤ (fl ([q.Next] : List Int)).length) (app_own_le ([q.Next] : List Int) 1 rfl) 3 (by kernel_rfl) (by decide) k795 2 [1]) allP_nil) ?_
      refine rf [(1, .ptr 0 0), (3, .own 2 0 ([q.Next] : List Int).length)] [(0, .row 24 (Enc.cells q)), (1, .row 3 (fl ([q.Next] : List Int))), (2, .row 3 (fl ([q.Next] : List Int)))] 3 (by kernel_rfl) ?_
      exact hK792 (([q.Next] : List Int)) _ _ _ h (leSt_m [(0, 0), (1, 2)] [] (by simp only [push_cast, seval]) (by simp only [push_cast, seval]) rfl rfl rfl)
    · exact hK792 ([]) _ _ _ h (leSt_m [(0, 0)] [] (by simp only [push_cast, seval]) (by simp only [push_cast, seval]) rfl rfl rfl)
  · rintro c1q1 h
    try dsimp only at h ⊢
    unfold taskmillref_Line_j1 at h
    refine chk_sx h (fun g801 h => ?_)
    refine seq_np ?_
    refine reg_f ?_
    have k800 : (c1q1 ++ q.List).length * 8 ≤ 140737488355328 := by first | simpa only [Bool.and_eq_true, decide_eq_true_eq, bne_iff_ne, ne_eq] using g801 | (simp at g801 ⊢; omega)
    refine rs 5 [none, none, none, some ⟨.own 2 0 (c1q1 ++ q.List).length, [(2, .row 3 (fl (c1q1 ++ q.List))), (1, .dead)], 3, [1]⟩] _ (by kernel_rfl) (allP_cons (ob_app (P := Try.prog) c1q1 q.List 1 8 rfl (fl q.List) q.List.length rfl rfl ((fl q.List).length = q.List.length * 1) (app_sl q.List 1 rfl) 3 (by kernel_rfl) (by decide) k800 1 2 []) allP_nil) ?_
    refine rf [(2, .own 2 0 (c1q1 ++ q.List).length)] [(0, .row 24 (Enc.cells q)), (1, .dead), (2, .row 3 (fl (c1q1 ++ q.List)))] 3 (by kernel_rfl) ?_
    refine wk_id ?_
    obtain rfl := Option.some.inj h
    refine ret_at (.own 2 0 (c1q1 ++ q.List).length) (by kernel_rfl) ?_
    exact ret_e [(0, 2)] [] (by simp only [push_cast, seval]) (by simp only [push_cast, seval]) rfl rfl rfl

set_option maxRecDepth 100000 in
set_option maxHeartbeats 10000000 in
theorem taskmilllaw_noRing_spec (q : Ring) (r : Bool) (h : taskmilllaw_noRing q = some r) : SpecW Try.prog 20 [.agg (Enc.cells q)] [] 0 (fun x h n => x = bS r ∧ h = [] ∧ n = 0) := by
  unfold taskmilllaw_noRing at h
  refine spec_of (draw_ok _) Try.func20 rfl (by decide) rfl (by kernel_rfl) ?_
  refine seq_np ?_
  refine reg_f ?_
  refine rs 2 [] [] (by kernel_rfl) allP_nil ?_
  refine rf [(1, .ptr 0 0)] [(0, .row 24 (Enc.cells q))] 1 (by kernel_rfl) ?_
  refine wk_id ?_
  refine seq_cut (A := Unit) (fun _ => ([(2, bS ((q.Next == 0) && (((q.List.length : Nat) : Int) == 0)))], [(0, .row 24 (Enc.cells q))], 1)) (fun _ => True) (fun K813 hK813 => ?_) (fun _ _ => ?_)
  · refine reg_f ?_
    refine rs 4 [] [] (by kernel_rfl) allP_nil ?_
    refine run_split 6 (q.Next == 0) (.inl (by kernel_rfl)) (fun g814 => ?_) (fun g814 => ?_)
    · refine rs 6 [] [] (by kernel_rfl) allP_nil ?_
      refine rf [(2, bS (((q.List.length : Nat) : Int) == 0))] [(0, .row 24 (Enc.cells q))] 1 (by kernel_rfl) ?_
      exact hK813 () _ _ _ trivial (leSt_m [(0, 0)] [] (by (try simp only [g814]) <;> simp only [push_cast, seval]) (by (try simp only [g814]) <;> simp only [push_cast, seval]) rfl rfl rfl)
    · refine rs 6 [] [] (by kernel_rfl) allP_nil ?_
      refine rf [(2, bS false)] [(0, .row 24 (Enc.cells q))] 1 (by kernel_rfl) ?_
      exact hK813 () _ _ _ trivial (leSt_m [(0, 0)] [] (by (try simp only [g814]) <;> simp only [push_cast, seval]) (by (try simp only [g814]) <;> simp only [push_cast, seval]) rfl rfl rfl)
  · dsimp only
    obtain rfl := Option.some.inj h
    refine ret_at (bS ((q.Next == 0) && (((q.List.length : Nat) : Int) == 0))) (by kernel_rfl) ?_
    exact ret_e [] [] (by simp only [push_cast, seval]) (by simp only [push_cast, seval]) rfl rfl rfl

set_option maxRecDepth 100000 in
set_option maxHeartbeats 10000000 in
theorem taskmillref_Queued_spec (l : (List Int)) (t : Int) (r : (List Int) × (List Int)) (h : taskmillref_Queued l t = some r) : SpecW Try.prog 21 [.sl l.length (fl l), iS t] [] 0 (fun x h n => x = .tup [.own 0 0 r.1.length, .own 1 0 r.2.length] ∧ h = [(0, .row 3 (fl r.1)), (1, .row 3 (fl r.2))] ∧ n = 2) := by
  unfold taskmillref_Queued at h
  refine spec_of (draw_ok _) Try.func21 rfl (by decide) rfl (by kernel_rfl) ?_
  refine seq_np ?_
  refine reg_f ?_
  refine rs 2 [] [] (by kernel_rfl) allP_nil ?_
  refine rf [(0, .sl l.length (fl l)), (1, iS t)] [] 0 (by kernel_rfl) ?_
  refine wk_id ?_
  refine seq_np ?_
  refine seq_np ?_
  refine reg_f ?_
  refine rs 3 [] [] (by kernel_rfl) allP_nil ?_
  refine rf [(0, .sl l.length (fl l)), (1, iS t), (8, bS (decide (((l.length : Nat) : Int) < 256)))] [] 0 (by kernel_rfl) ?_
  refine wk_id ?_
  refine cond_sx h (by kernel_rfl) (fun g871 h => ?_) (fun g871 h => ?_)
  · refine chk_sx h (fun g848 h => ?_)
    refine chk_sx h (fun g850 h => ?_)
    refine seq_np ?_
    refine reg_f ?_
    have k847 : l.length * 8 ≤ 140737488355328 := by first | simpa only [Bool.and_eq_true, decide_eq_true_eq, bne_iff_ne, ne_eq] using g848 | (simp at g848 ⊢; omega)
    have k849 : (l ++ ([t] : List Int)).length * 8 ≤ 140737488355328 := by first | simpa only [Bool.and_eq_true, decide_eq_true_eq, bne_iff_ne, ne_eq] using g850 | (simp at g850 ⊢; omega)
    refine rs 7 [none, some ⟨.own 0 0 l.length, [(0, .row 3 (fl l))], 1, []⟩, none, none, some ⟨.own 2 0 (l ++ ([t] : List Int)).length, [(2, .row 3 (fl (l ++ ([t] : List Int)))), (0, .dead)], 3, [0, 1]⟩] _ (by kernel_rfl) (allP_cons (ob_app (P := Try.prog) l ([t] : List Int) 1 8 rfl (appCells (fl ([t] : List Int)) 0 (([t] : List Int).length * 1)) ([t] : List Int).length (app_own ([t] : List Int) 1 rfl) rfl (0 + ([t] : List Int).length * 1 ≤ (fl ([t] : List Int)).length) (app_own_le ([t] : List Int) 1 rfl) 3 (by kernel_rfl) (by decide) k849 0 2 [1]) (allP_cons (ob_app0 (P := Try.prog) l 1 8 rfl (fl l) l.length rfl rfl ((fl l).length = l.length * 1) (app_sl l 1 rfl) 3 (by kernel_rfl) (by decide) k847 0 []) allP_nil)) ?_
    refine rf [(4, .own 2 0 (l ++ ([t] : List Int)).length), (5, .v (.slice none 0 0))] [(0, .dead), (1, .row 3 (fl ([t] : List Int))), (2, .row 3 (fl (l ++ ([t] : List Int))))] 3 (by kernel_rfl) ?_
    refine wk_id ?_
    obtain rfl := Option.some.inj h
    refine ret_at (.tup [.own 2 0 (l ++ ([t] : List Int)).length, .v (.slice none 0 0)]) (by kernel_rfl) ?_
    exact ret_e [(0, 2)] [] (by simp only [push_cast, seval]) (by simp only [push_cast, seval]) rfl rfl rfl
  · refine wk_id ?_
    refine chk_sx h (fun g862 h => ?_)
    refine chk_sx h (fun g864 h => ?_)
    refine chk_sx h (fun g866 h => ?_)
    refine chk_sx h (fun g868 h => ?_)
    refine chk_sx h (fun g870 h => ?_)
    refine seq_np ?_
    refine reg_t ?_
    have k861 : 0 ≤ (128 : Int) ∧ (128 : Int) ≤ ((l.length : Nat) : Int) ∧ ((l.length : Nat) : Int) ≤ ((l.length : Nat) : Int) := by first | simpa only [Bool.and_eq_true, decide_eq_true_eq, bne_iff_ne, ne_eq] using g862 | (simp at g862 ⊢; omega)
    have k863 : (cut l (128 : Int) ((l.length : Nat) : Int)).length * 8 ≤ 140737488355328 := by first | simpa only [Bool.and_eq_true, decide_eq_true_eq, bne_iff_ne, ne_eq] using g864 | (simp at g864 ⊢; omega)
    have k865 : 0 ≤ (0 : Int) ∧ (0 : Int) ≤ (128 : Int) ∧ (128 : Int) ≤ ((l.length : Nat) : Int) := by first | simpa only [Bool.and_eq_true, decide_eq_true_eq, bne_iff_ne, ne_eq] using g866 | (simp at g866 ⊢; omega)
    have k867 : (cut l (0 : Int) (128 : Int)).length * 8 ≤ 140737488355328 := by first | simpa only [Bool.and_eq_true, decide_eq_true_eq, bne_iff_ne, ne_eq] using g868 | (simp at g868 ⊢; omega)
    have k869 : ((cut l (0 : Int) (128 : Int)) ++ ([t] : List Int)).length * 8 ≤ 140737488355328 := by first | simpa only [Bool.and_eq_true, decide_eq_true_eq, bne_iff_ne, ne_eq] using g870 | (simp at g870 ⊢; omega)
    refine rs 11 [none, some ⟨.sl (cut l (128 : Int) ((l.length : Nat) : Int)).length (fl (cut l (128 : Int) ((l.length : Nat) : Int))), [], 1, []⟩, some ⟨.own 2 0 (cut l (128 : Int) ((l.length : Nat) : Int)).length, [(2, .row 3 (fl (cut l (128 : Int) ((l.length : Nat) : Int))))], 3, []⟩, none, some ⟨.sl (cut l (0 : Int) (128 : Int)).length (fl (cut l (0 : Int) (128 : Int))), [], 5, []⟩, some ⟨.own 6 0 (cut l (0 : Int) (128 : Int)).length, [(6, .row 3 (fl (cut l (0 : Int) (128 : Int))))], 7, []⟩, none, none, some ⟨.own 11 0 ((cut l (0 : Int) (128 : Int)) ++ ([t] : List Int)).length, [(11, .row 3 (fl ((cut l (0 : Int) (128 : Int)) ++ ([t] : List Int)))), (6, .dead)], 12, [6, 9]⟩] _ (by kernel_rfl) (allP_cons (ob_app (P := Try.prog) (cut l (0 : Int) (128 : Int)) ([t] : List Int) 1 8 rfl (appCells (fl ([t] : List Int)) 0 (([t] : List Int).length * 1)) ([t] : List Int).length (app_own ([t] : List Int) 1 rfl) rfl (0 + ([t] : List Int).length * 1 ≤ (fl ([t] : List Int)).length) (app_own_le ([t] : List Int) 1 rfl) 3 (by kernel_rfl) (by decide) k869 6 11 [9]) (allP_cons (ob_app0 (P := Try.prog) (cut l (0 : Int) (128 : Int)) 1 8 rfl (fl (cut l (0 : Int) (128 : Int))) (cut l (0 : Int) (128 : Int)).length rfl rfl ((fl (cut l (0 : Int) (128 : Int))).length = (cut l (0 : Int) (128 : Int)).length * 1) (app_sl (cut l (0 : Int) (128 : Int)) 1 rfl) 3 (by kernel_rfl) (by decide) k867 6 []) (allP_cons (ob_cut l (0 : Int) (128 : Int) 1 5 rfl k865) (allP_cons (ob_app0 (P := Try.prog) (cut l (128 : Int) ((l.length : Nat) : Int)) 1 8 rfl (fl (cut l (128 : Int) ((l.length : Nat) : Int))) (cut l (128 : Int) ((l.length : Nat) : Int)).length rfl rfl ((fl (cut l (128 : Int) ((l.length : Nat) : Int))).length = (cut l (128 : Int) ((l.length : Nat) : Int)).length * 1) (app_sl (cut l (128 : Int) ((l.length : Nat) : Int)) 1 rfl) 3 (by kernel_rfl) (by decide) k863 2 []) (allP_cons (ob_cut l (128 : Int) ((l.length : Nat) : Int) 1 1 rfl k861) allP_nil))))) ?_
    refine rt [(4, .own 2 0 (cut l (128 : Int) ((l.length : Nat) : Int)).length), (5, .own 11 0 ((cut l (0 : Int) (128 : Int)) ++ ([t] : List Int)).length)] [(2, .row 3 (fl (cut l (128 : Int) ((l.length : Nat) : Int)))), (6, .dead), (9, .row 3 (fl ([t] : List Int))), (11, .row 3 (fl ((cut l (0 : Int) (128 : Int)) ++ ([t] : List Int))))] 15 follows (by kernel_rfl) ?_
    refine wk_id ?_
    obtain rfl := Option.some.inj h
    refine ret_at (.tup [.own 2 0 (cut l (128 : Int) ((l.length : Nat) : Int)).length, .own 11 0 ((cut l (0 : Int) (128 : Int)) ++ ([t] : List Int)).length]) (by kernel_rfl) ?_
    exact ret_e [(0, 2), (1, 11)] [] (by simp only [push_cast, seval]) (by simp only [push_cast, seval]) rfl rfl rfl

set_option maxRecDepth 100000 in
set_option maxHeartbeats 10000000 in
theorem taskmilllaw_RingPuts_spec (q : Ring) (task : Int) (xnext : Bool) (r : Bool) (h : taskmilllaw_RingPuts q task xnext = some r) : SpecW Try.prog 3 [.agg (Enc.cells q), iS task, bS xnext] [] 0 (fun x h n => x = bS r ∧ h = [] ∧ n = 0) := by
  unfold taskmilllaw_RingPuts at h
  refine spec_of (draw_ok _) Try.func3 rfl (by decide) rfl (by kernel_rfl) ?_
  refine seq_np ?_
  refine reg_f ?_
  refine rs 2 [] [] (by kernel_rfl) allP_nil ?_
  refine rf [(1, iS task), (2, bS xnext), (3, .ptr 0 0)] [(0, .row 24 (Enc.cells q))] 1 (by kernel_rfl) ?_
  refine wk_id ?_
  refine seq_np ?_
  refine seq_np ?_
  refine reg_f ?_
  obtain ⟨r884, hr884, h⟩ := bind_sx h
  refine run_call 11 [] (some 15) (by kernel_rfl) ?_
  refine call_0 (taskmilllaw_ringBegun_spec r884 hr884) (by simp only [push_cast, seval]) (by simp only [push_cast, seval]) ?_
  refine back_f ?_
  refine rs 1 [] [] (by kernel_rfl) allP_nil ?_
  refine rf [(1, iS task), (2, bS xnext), (3, .ptr 0 0), (16, bS (!r884))] [(0, .row 24 (Enc.cells q))] 1 (by kernel_rfl) ?_
  refine wk_id ?_
  refine cond_sx h (by kernel_rfl) (fun g971 h => ?_) (fun g971 h => ?_)
  · refine seq_np ?_
    refine reg_f ?_
    refine rs 1 [] [] (by kernel_rfl) allP_nil ?_
    refine rf [(6, bS false)] [(0, .row 24 (Enc.cells q))] 1 (by kernel_rfl) ?_
    refine wk_id ?_
    obtain rfl := Option.some.inj h
    refine ret_at (bS false) (by kernel_rfl) ?_
    exact ret_e [] [] (by simp only [push_cast, seval]) (by simp only [push_cast, seval]) rfl rfl rfl
  · refine wk_id ?_
    refine seq_np ?_
    refine seq_np ?_
    refine reg_f ?_
    refine rs 4 [] [] (by kernel_rfl) allP_nil ?_
    refine rf [(1, iS task), (2, bS xnext), (3, .ptr 0 0), (20, bS (decide ((2000 : Int) < ((q.List.length : Nat) : Int))))] [(0, .row 24 (Enc.cells q))] 1 (by kernel_rfl) ?_
    refine wk_id ?_
    refine cond_sx h (by kernel_rfl) (fun g970 h => ?_) (fun g970 h => ?_)
    · refine seq_np ?_
      refine reg_f ?_
      refine rs 1 [] [] (by kernel_rfl) allP_nil ?_
      refine rf [(6, bS true)] [(0, .row 24 (Enc.cells q))] 1 (by kernel_rfl) ?_
      refine wk_id ?_
      obtain rfl := Option.some.inj h
      refine ret_at (bS true) (by kernel_rfl) ?_
      exact ret_e [] [] (by simp only [push_cast, seval]) (by simp only [push_cast, seval]) rfl rfl rfl
    · refine wk_id ?_
      refine seq_np ?_
      refine reg_f ?_
      refine rs 1 [] [] (by kernel_rfl) allP_nil ?_
      obtain ⟨r887, hr887, h⟩ := bind_sx h
      refine call_x (taskmilllaw_ownRing_spec q r887 hr887) (args := [.agg (Enc.cells q)]) (dst := (some 22)) (by kernel_rfl) [(0, .row 24 (Enc.cells q))] 1 (by kernel_rfl) [] [] (.agg [iS r887.1, .own 1 0 r887.2.length]) [(1, .row 3 (fl r887.2))] (by simp only [push_cast, seval]) (by simp only [push_cast, seval]) (by kernel_rfl) (.inl rfl) (by simp only [push_cast, seval]) (by simp only [push_cast, seval]) ?_
      refine rs 2 [] [] (by kernel_rfl) allP_nil ?_
      refine rf [(1, iS task), (2, bS xnext), (3, .ptr 0 0), (7, .ptr 2 0)] [(0, .row 24 (Enc.cells q)), (1, .row 3 (fl r887.2)), (2, .row 24 [iS r887.1, .own 1 0 r887.2.length])] 3 (by kernel_rfl) ?_
      refine wk_id ?_
      refine seq_np ?_
      refine reg_f ?_
      refine rs 1 [] [] (by kernel_rfl) allP_nil ?_
      obtain ⟨r889, hr889, h⟩ := bind_sx h
      refine call_x (ring_Check_spec (Ring.mk r887.1 r887.2) r889 hr889) (args := [.agg [iS r887.1, .own 1 0 r887.2.length]]) (dst := (some 24)) (by kernel_rfl) [(0, .row 24 (Enc.cells q)), (1, .row 3 (fl r887.2)), (2, .row 24 [iS r887.1, .own 1 0 r887.2.length])] 3 (by kernel_rfl) [] [1] (.agg (Enc.cells r889)) [] (by simp only [push_cast, seval]) (by simp only [push_cast, seval]) (by kernel_rfl) (.inr ⟨by simp only [push_cast, seval], by simp only [push_cast, seval]⟩) (by simp only [push_cast, seval]) (by simp only [push_cast, seval]) ?_
      refine rs 2 [] [] (by kernel_rfl) allP_nil ?_
      refine rf [(1, iS task), (2, bS xnext), (3, .ptr 0 0), (7, .ptr 2 0), (8, .ptr 3 0)] [(0, .row 24 (Enc.cells q)), (1, .row 3 (fl r887.2)), (2, .row 24 [iS r887.1, .own 1 0 r887.2.length]), (3, .row 28 (Enc.cells r889))] 4 (by kernel_rfl) ?_
      refine wk_id ?_
      refine seq_np ?_
      refine reg_f ?_
      refine rs 3 [] [] (by kernel_rfl) allP_nil ?_
      obtain ⟨r891, hr891, h⟩ := bind_sx h
      refine call_x (ring_Put_spec (Ring.mk r887.1 r887.2) task xnext r891 hr891) (args := [.agg [iS r887.1, .own 1 0 r887.2.length], iS task, bS xnext]) (dst := (some 29)) (by kernel_rfl) [(0, .row 24 (Enc.cells q)), (1, .row 3 (fl r887.2)), (2, .row 24 [iS r887.1, .own 1 0 r887.2.length]), (3, .row 28 (Enc.cells r889))] 4 (by kernel_rfl) [] [1] (.tup [.agg [iS r891.1, .own 4 0 r891.2.2.1.length], .own 5 0 r891.2.2.2.length, .agg (Enc.cells r891.2.1)]) [(4, .row 3 (fl r891.2.2.1)), (5, .row 3 (fl r891.2.2.2))] (by simp only [push_cast, seval]) (by simp only [push_cast, seval]) (by kernel_rfl) (.inr ⟨by simp only [push_cast, seval], by simp only [push_cast, seval]⟩) (by simp only [push_cast, seval]) (by simp only [push_cast, seval]) ?_
      refine rs 9 [] [] (by kernel_rfl) allP_nil ?_
      refine rf [(1, iS task), (2, bS xnext), (3, .ptr 0 0), (7, .ptr 2 0), (8, .ptr 3 0), (9, .ptr 6 0), (10, .own 5 0 r891.2.2.2.length), (11, .ptr 7 0)] [(0, .row 24 (Enc.cells q)), (1, .row 3 (fl r887.2)), (2, .row 24 [iS r887.1, .own 1 0 r887.2.length]), (3, .row 28 (Enc.cells r889)), (4, .row 3 (fl r891.2.2.1)), (5, .row 3 (fl r891.2.2.2)), (6, .row 24 [iS r891.1, .own 4 0 r891.2.2.1.length]), (7, .row 28 (Enc.cells r891.2.1))] 8 (by kernel_rfl) ?_
      refine wk_id ?_
      refine seq_np ?_
      refine reg_f ?_
      refine rs 1 [] [] (by kernel_rfl) allP_nil ?_
      obtain ⟨r893, hr893, h⟩ := bind_sx h
      refine run_call 15 [.agg (Enc.cells q)] (some 34) (by kernel_rfl) ?_
      refine call_0 (taskmillref_RingFault_spec q r893 hr893) (by simp only [push_cast, seval]) (by simp only [push_cast, seval]) ?_
      refine back_f ?_
      refine rs 2 [] [] (by kernel_rfl) allP_nil ?_
      refine rf [(1, iS task), (2, bS xnext), (3, .ptr 0 0), (7, .ptr 2 0), (8, .ptr 3 0), (9, .ptr 6 0), (10, .own 5 0 r891.2.2.2.length), (11, .ptr 7 0), (12, .ptr 8 0)] [(0, .row 24 (Enc.cells q)), (1, .row 3 (fl r887.2)), (2, .row 24 [iS r887.1, .own 1 0 r887.2.length]), (3, .row 28 (Enc.cells r889)), (4, .row 3 (fl r891.2.2.1)), (5, .row 3 (fl r891.2.2.2)), (6, .row 24 [iS r891.1, .own 4 0 r891.2.2.1.length]), (7, .row 28 (Enc.cells r891.2.1)), (8, .row 28 (Enc.cells r893))] 9 (by kernel_rfl) ?_
      refine wk_id ?_
      refine seq_np ?_
      refine seq_cut (A := Bool × Int × (List Int) × Fault × Fault × (List Int)) (fun a => ([(1, iS task), (2, bS xnext), (3, .ptr 0 0), (9, .ptr 1 0), (10, .own 2 0 a.2.2.1.length), (11, .ptr 3 0), (12, .ptr 4 0), (43, bS a.1)], [(0, .row 24 (Enc.cells q)), (1, .row 24 [iS a.2.1, .own 5 0 a.2.2.2.2.2.length]), (2, .row 3 (fl a.2.2.1)), (3, .row 28 (Enc.cells a.2.2.2.1)), (4, .row 28 (Enc.cells a.2.2.2.2.1)), (5, .row 3 (fl a.2.2.2.2.2))], 6)) (fun a => (taskmilllaw_RingPuts_j8 q task xnext a.1 a.2.1 a.2.2.1 a.2.2.2.1 a.2.2.2.2.1 a.2.2.2.2.2) = some r) (fun K902 hK902 => ?_) ?_
      · refine reg_f ?_
        refine rs 4 [] [] (by kernel_rfl) allP_nil ?_
        refine run_br h 38 (.inl (by kernel_rfl)) (fun g903 h => ?_) (fun g903 h => ?_)
        · refine rs 5 [] [] (by kernel_rfl) allP_nil ?_
          refine rf [(1, iS task), (2, bS xnext), (3, .ptr 0 0), (9, .ptr 6 0), (10, .own 5 0 r891.2.2.2.length), (11, .ptr 7 0), (12, .ptr 8 0), (43, bS true)] [(0, .row 24 (Enc.cells q)), (1, .row 3 (fl r887.2)), (2, .row 24 [iS r887.1, .own 1 0 r887.2.length]), (3, .row 28 (Enc.cells r889)), (4, .row 3 (fl r891.2.2.1)), (5, .row 3 (fl r891.2.2.2)), (6, .row 24 [iS r891.1, .own 4 0 r891.2.2.1.length]), (7, .row 28 (Enc.cells r891.2.1)), (8, .row 28 (Enc.cells r893))] 9 (by kernel_rfl) ?_
          exact hK902 (true, r891.1, r891.2.2.2, r891.2.1, r893, r891.2.2.1) _ _ _ h (leSt_m [(0, 0), (1, 6), (2, 5), (3, 7), (4, 8), (5, 4)] [] (by (try simp only [g903]) <;> simp only [push_cast, seval]) (by (try simp only [g903]) <;> simp only [push_cast, seval]) rfl rfl rfl)
        · refine rs 2 [] [] (by kernel_rfl) allP_nil ?_
          obtain ⟨r904, hr904, h⟩ := bind_sx h
          refine call_x (taskmillref_SameRing_spec (Ring.mk r887.1 r887.2) q r904 hr904) (args := [.agg [iS r887.1, .own 1 0 r887.2.length], .agg (Enc.cells q)]) (dst := (some 41)) (by kernel_rfl) [(0, .row 24 (Enc.cells q)), (1, .row 3 (fl r887.2)), (2, .row 24 [iS r887.1, .own 1 0 r887.2.length]), (3, .row 28 (Enc.cells r889)), (4, .row 3 (fl r891.2.2.1)), (5, .row 3 (fl r891.2.2.2)), (6, .row 24 [iS r891.1, .own 4 0 r891.2.2.1.length]), (7, .row 28 (Enc.cells r891.2.1)), (8, .row 28 (Enc.cells r893))] 9 (by kernel_rfl) [] [1] (bS r904) [] (by simp only [push_cast, seval]) (by simp only [push_cast, seval]) (by kernel_rfl) (.inr ⟨by simp only [push_cast, seval], by simp only [push_cast, seval]⟩) (by simp only [push_cast, seval]) (by simp only [push_cast, seval]) ?_
          refine rs 2 [] [] (by kernel_rfl) allP_nil ?_
          refine rf [(1, iS task), (2, bS xnext), (3, .ptr 0 0), (9, .ptr 6 0), (10, .own 5 0 r891.2.2.2.length), (11, .ptr 7 0), (12, .ptr 8 0), (43, bS (!r904))] [(0, .row 24 (Enc.cells q)), (1, .row 3 (fl r887.2)), (2, .row 24 [iS r887.1, .own 1 0 r887.2.length]), (3, .row 28 (Enc.cells r889)), (4, .row 3 (fl r891.2.2.1)), (5, .row 3 (fl r891.2.2.2)), (6, .row 24 [iS r891.1, .own 4 0 r891.2.2.1.length]), (7, .row 28 (Enc.cells r891.2.1)), (8, .row 28 (Enc.cells r893))] 9 (by kernel_rfl) ?_
          exact hK902 ((!r904), r891.1, r891.2.2.2, r891.2.1, r893, r891.2.2.1) _ _ _ h (leSt_m [(0, 0), (1, 6), (2, 5), (3, 7), (4, 8), (5, 4)] [] (by (try simp only [g903]) <;> simp only [push_cast, seval]) (by (try simp only [g903]) <;> simp only [push_cast, seval]) rfl rfl rfl)
      · rintro ⟨t43q2, c1_Next2, c2q2, c3q3, c4q4, c5q2⟩ h
        try dsimp only at h ⊢
        unfold taskmilllaw_RingPuts_j8 at h
        refine cond_sx h (by kernel_rfl) (fun g969 h => ?_) (fun g969 h => ?_)
        · refine seq_np ?_
          refine reg_f ?_
          refine rs 1 [] [] (by kernel_rfl) allP_nil ?_
          refine rf [(6, bS false)] [(0, .row 24 (Enc.cells q)), (1, .row 24 [iS c1_Next2, .own 5 0 c5q2.length]), (2, .row 3 (fl c2q2)), (3, .row 28 (Enc.cells c3q3)), (4, .row 28 (Enc.cells c4q4)), (5, .row 3 (fl c5q2))] 6 (by kernel_rfl) ?_
          refine wk_id ?_
          obtain rfl := Option.some.inj h
          refine ret_at (bS false) (by kernel_rfl) ?_
          exact ret_e [] [] (by simp only [push_cast, seval]) (by simp only [push_cast, seval]) rfl rfl rfl
        · refine wk_id ?_
          refine seq_cut (A := Fault) (fun a => ([(1, iS task), (2, bS xnext), (3, .ptr 0 0), (9, .ptr 1 0), (10, .own 2 0 c2q2.length), (11, .ptr 3 0), (12, .ptr 4 0)], [(0, .row 24 (Enc.cells q)), (1, .row 24 [iS c1_Next2, .own 5 0 c5q2.length]), (2, .row 3 (fl c2q2)), (3, .row 28 (Enc.cells c3q3)), (4, .row 28 (Enc.cells a)), (5, .row 3 (fl c5q2))], 6)) (fun a => (taskmilllaw_RingPuts_j7 q task xnext c1_Next2 c2q2 c3q3 c5q2 a) = some r) (fun K909 hK909 => ?_) ?_
          · refine seq_cut (A := Unit) (fun _ => ([(1, iS task), (2, bS xnext), (3, .ptr 0 0), (9, .ptr 1 0), (10, .own 2 0 c2q2.length), (11, .ptr 3 0), (12, .ptr 4 0), (50, bS ((c4q4.Code == 0) && (decide (task < 1))))], [(0, .row 24 (Enc.cells q)), (1, .row 24 [iS c1_Next2, .own 5 0 c5q2.length]), (2, .row 3 (fl c2q2)), (3, .row 28 (Enc.cells c3q3)), (4, .row 28 (Enc.cells c4q4)), (5, .row 3 (fl c5q2))], 6)) (fun _ => True) (fun K911 hK911 => ?_) (fun _ _ => ?_)
            · refine reg_f ?_
              refine rs 4 [] [] (by kernel_rfl) allP_nil ?_
              refine run_split 47 (c4q4.Code == 0) (.inl (by kernel_rfl)) (fun g912 => ?_) (fun g912 => ?_)
              · refine rs 3 [] [] (by kernel_rfl) allP_nil ?_
                refine rf [(1, iS task), (2, bS xnext), (3, .ptr 0 0), (9, .ptr 1 0), (10, .own 2 0 c2q2.length), (11, .ptr 3 0), (12, .ptr 4 0), (50, bS (decide (task < 1)))] [(0, .row 24 (Enc.cells q)), (1, .row 24 [iS c1_Next2, .own 5 0 c5q2.length]), (2, .row 3 (fl c2q2)), (3, .row 28 (Enc.cells c3q3)), (4, .row 28 (Enc.cells c4q4)), (5, .row 3 (fl c5q2))] 6 (by kernel_rfl) ?_
                exact hK911 () _ _ _ trivial (leSt_m [(0, 0), (1, 1), (2, 2), (3, 3), (4, 4), (5, 5)] [] (by (try simp only [g912]) <;> simp only [push_cast, seval]) (by (try simp only [g912]) <;> simp only [push_cast, seval]) rfl rfl rfl)
              · refine rs 3 [] [] (by kernel_rfl) allP_nil ?_
                refine rf [(1, iS task), (2, bS xnext), (3, .ptr 0 0), (9, .ptr 1 0), (10, .own 2 0 c2q2.length), (11, .ptr 3 0), (12, .ptr 4 0), (50, bS false)] [(0, .row 24 (Enc.cells q)), (1, .row 24 [iS c1_Next2, .own 5 0 c5q2.length]), (2, .row 3 (fl c2q2)), (3, .row 28 (Enc.cells c3q3)), (4, .row 28 (Enc.cells c4q4)), (5, .row 3 (fl c5q2))] 6 (by kernel_rfl) ?_
                exact hK911 () _ _ _ trivial (leSt_m [(0, 0), (1, 1), (2, 2), (3, 3), (4, 4), (5, 5)] [] (by (try simp only [g912]) <;> simp only [push_cast, seval]) (by (try simp only [g912]) <;> simp only [push_cast, seval]) rfl rfl rfl)
            · dsimp only
              refine cond_sx h (by kernel_rfl) (fun g915 h => ?_) (fun g915 h => ?_)
              · refine reg_f ?_
                obtain ⟨r914, hr914, h⟩ := bind_sx h
                refine run_call 17 [iS 3, iS (-1)] (some 51) (by kernel_rfl) ?_
                refine call_0 (taskmillref_F_spec 3 (-1) r914 hr914) (by simp only [push_cast, seval]) (by simp only [push_cast, seval]) ?_
                refine back_f ?_
                refine rs 1 [] [] (by kernel_rfl) allP_nil ?_
                refine rf [(1, iS task), (2, bS xnext), (3, .ptr 0 0), (9, .ptr 1 0), (10, .own 2 0 c2q2.length), (11, .ptr 3 0), (12, .ptr 4 0)] [(0, .row 24 (Enc.cells q)), (1, .row 24 [iS c1_Next2, .own 5 0 c5q2.length]), (2, .row 3 (fl c2q2)), (3, .row 28 (Enc.cells c3q3)), (4, .row 28 (Enc.cells r914)), (5, .row 3 (fl c5q2))] 6 (by kernel_rfl) ?_
                exact hK909 (r914) _ _ _ h (leSt_m [(0, 0), (1, 1), (2, 2), (3, 3), (4, 4), (5, 5)] [] (by simp only [push_cast, seval]) (by simp only [push_cast, seval]) rfl rfl rfl)
              · exact hK909 (c4q4) _ _ _ h (leSt_m [(0, 0), (1, 1), (2, 2), (3, 3), (4, 4), (5, 5)] [] (by simp only [push_cast, seval]) (by simp only [push_cast, seval]) rfl rfl rfl)
          · rintro c4q5 h
            try dsimp only at h ⊢
            unfold taskmilllaw_RingPuts_j7 at h
            refine seq_cut (A := Fault) (fun a => ([(1, iS task), (2, bS xnext), (3, .ptr 0 0), (9, .ptr 1 0), (10, .own 2 0 c2q2.length), (11, .ptr 3 0), (12, .ptr 4 0)], [(0, .row 24 (Enc.cells q)), (1, .row 24 [iS c1_Next2, .own 5 0 c5q2.length]), (2, .row 3 (fl c2q2)), (3, .row 28 (Enc.cells c3q3)), (4, .row 28 (Enc.cells a)), (5, .row 3 (fl c5q2))], 6)) (fun a => (taskmilllaw_RingPuts_j5 q task xnext c1_Next2 c2q2 c3q3 c5q2 a) = some r) (fun K924 hK924 => ?_) ?_
            · refine seq_cut (A := Bool) (fun a => ([(1, iS task), (2, bS xnext), (3, .ptr 0 0), (9, .ptr 1 0), (10, .own 2 0 c2q2.length), (11, .ptr 3 0), (12, .ptr 4 0), (60, bS a)], [(0, .row 24 (Enc.cells q)), (1, .row 24 [iS c1_Next2, .own 5 0 c5q2.length]), (2, .row 3 (fl c2q2)), (3, .row 28 (Enc.cells c3q3)), (4, .row 28 (Enc.cells c4q5)), (5, .row 3 (fl c5q2))], 6)) (fun a => (taskmilllaw_RingPuts_j6 q task xnext c1_Next2 c2q2 c3q3 c5q2 c4q5 a) = some r) (fun K929 hK929 => ?_) ?_
              · refine reg_f ?_
                refine rs 4 [] [] (by kernel_rfl) allP_nil ?_
                refine run_br h 55 (.inl (by kernel_rfl)) (fun g930 h => ?_) (fun g930 h => ?_)
                · refine rs 1 [] [] (by kernel_rfl) allP_nil ?_
                  obtain ⟨r931, hr931, h⟩ := bind_sx h
                  refine call_x (taskmillref_Line_spec q r931 hr931) (args := [.agg (Enc.cells q)]) (dst := (some 57)) (by kernel_rfl) [(0, .row 24 (Enc.cells q)), (1, .row 24 [iS c1_Next2, .own 5 0 c5q2.length]), (2, .row 3 (fl c2q2)), (3, .row 28 (Enc.cells c3q3)), (4, .row 28 (Enc.cells c4q5)), (5, .row 3 (fl c5q2))] 6 (by kernel_rfl) [] [] (.own 6 0 r931.length) [(6, .row 3 (fl r931))] (by simp only [push_cast, seval]) (by simp only [push_cast, seval]) (by kernel_rfl) (.inl rfl) (by simp only [push_cast, seval]) (by simp only [push_cast, seval]) ?_
                  refine rs 1 [] [] (by kernel_rfl) allP_nil ?_
                  obtain ⟨r932, hr932, h⟩ := bind_sx h
                  refine call_x (taskmillref_Has_spec r931 task r932 hr932) (args := [.own 6 0 r931.length, iS task]) (dst := (some 59)) (by kernel_rfl) [(0, .row 24 (Enc.cells q)), (1, .row 24 [iS c1_Next2, .own 5 0 c5q2.length]), (2, .row 3 (fl c2q2)), (3, .row 28 (Enc.cells c3q3)), (4, .row 28 (Enc.cells c4q5)), (5, .row 3 (fl c5q2)), (6, .row 3 (fl r931))] 7 (by kernel_rfl) [] [6] (bS r932) [] (by simp only [push_cast, seval]) (by simp only [push_cast, seval]) (by kernel_rfl) (.inr ⟨by simp only [push_cast, seval], by simp only [push_cast, seval]⟩) (by simp only [push_cast, seval]) (by simp only [push_cast, seval]) ?_
                  refine rs 1 [] [] (by kernel_rfl) allP_nil ?_
                  refine rf [(1, iS task), (2, bS xnext), (3, .ptr 0 0), (9, .ptr 1 0), (10, .own 2 0 c2q2.length), (11, .ptr 3 0), (12, .ptr 4 0), (60, bS r932)] [(0, .row 24 (Enc.cells q)), (1, .row 24 [iS c1_Next2, .own 5 0 c5q2.length]), (2, .row 3 (fl c2q2)), (3, .row 28 (Enc.cells c3q3)), (4, .row 28 (Enc.cells c4q5)), (5, .row 3 (fl c5q2)), (6, .row 3 (fl r931))] 7 (by kernel_rfl) ?_
                  exact hK929 (r932) _ _ _ h (leSt_m [(0, 0), (1, 1), (2, 2), (3, 3), (4, 4), (5, 5)] [] (by (try simp only [g930]) <;> simp only [push_cast, seval]) (by (try simp only [g930]) <;> simp only [push_cast, seval]) rfl rfl rfl)
                · refine rs 5 [] [] (by kernel_rfl) allP_nil ?_
                  refine rf [(1, iS task), (2, bS xnext), (3, .ptr 0 0), (9, .ptr 1 0), (10, .own 2 0 c2q2.length), (11, .ptr 3 0), (12, .ptr 4 0), (60, bS false)] [(0, .row 24 (Enc.cells q)), (1, .row 24 [iS c1_Next2, .own 5 0 c5q2.length]), (2, .row 3 (fl c2q2)), (3, .row 28 (Enc.cells c3q3)), (4, .row 28 (Enc.cells c4q5)), (5, .row 3 (fl c5q2))] 6 (by kernel_rfl) ?_
                  exact hK929 (false) _ _ _ h (leSt_m [(0, 0), (1, 1), (2, 2), (3, 3), (4, 4), (5, 5)] [] (by (try simp only [g930]) <;> simp only [push_cast, seval]) (by (try simp only [g930]) <;> simp only [push_cast, seval]) rfl rfl rfl)
              · rintro t60q2 h
                try dsimp only at h ⊢
                unfold taskmilllaw_RingPuts_j6 at h
                refine cond_sx h (by kernel_rfl) (fun g935 h => ?_) (fun g935 h => ?_)
                · refine reg_f ?_
                  obtain ⟨r934, hr934, h⟩ := bind_sx h
                  refine run_call 17 [iS 10, iS (-1)] (some 61) (by kernel_rfl) ?_
                  refine call_0 (taskmillref_F_spec 10 (-1) r934 hr934) (by simp only [push_cast, seval]) (by simp only [push_cast, seval]) ?_
                  refine back_f ?_
                  refine rs 1 [] [] (by kernel_rfl) allP_nil ?_
                  refine rf [(1, iS task), (2, bS xnext), (3, .ptr 0 0), (9, .ptr 1 0), (10, .own 2 0 c2q2.length), (11, .ptr 3 0), (12, .ptr 4 0)] [(0, .row 24 (Enc.cells q)), (1, .row 24 [iS c1_Next2, .own 5 0 c5q2.length]), (2, .row 3 (fl c2q2)), (3, .row 28 (Enc.cells c3q3)), (4, .row 28 (Enc.cells r934)), (5, .row 3 (fl c5q2))] 6 (by kernel_rfl) ?_
                  exact hK924 (r934) _ _ _ h (leSt_m [(0, 0), (1, 1), (2, 2), (3, 3), (4, 4), (5, 5)] [] (by simp only [push_cast, seval]) (by simp only [push_cast, seval]) rfl rfl rfl)
                · exact hK924 (c4q5) _ _ _ h (leSt_m [(0, 0), (1, 1), (2, 2), (3, 3), (4, 4), (5, 5)] [] (by simp only [push_cast, seval]) (by simp only [push_cast, seval]) rfl rfl rfl)
            · rintro c4q6 h
              try dsimp only at h ⊢
              unfold taskmilllaw_RingPuts_j5 at h
              refine seq_np ?_
              refine seq_np ?_
              refine reg_f ?_
              refine rs 3 [] [] (by kernel_rfl) allP_nil ?_
              refine rf [(1, iS task), (2, bS xnext), (3, .ptr 0 0), (9, .ptr 1 0), (10, .own 2 0 c2q2.length), (12, .ptr 4 0), (64, bS (!((c3q3.Code == c4q6.Code) && ((c3q3.At == c4q6.At) && true))))] [(0, .row 24 (Enc.cells q)), (1, .row 24 [iS c1_Next2, .own 5 0 c5q2.length]), (2, .row 3 (fl c2q2)), (3, .row 28 (Enc.cells c3q3)), (4, .row 28 (Enc.cells c4q6)), (5, .row 3 (fl c5q2))] 6 (by kernel_rfl) ?_
              refine wk_id ?_
              refine cond_sx h (by kernel_rfl) (fun g968 h => ?_) (fun g968 h => ?_)
              · refine seq_np ?_
                refine reg_f ?_
                refine rs 1 [] [] (by kernel_rfl) allP_nil ?_
                refine rf [(6, bS false)] [(0, .row 24 (Enc.cells q)), (1, .row 24 [iS c1_Next2, .own 5 0 c5q2.length]), (2, .row 3 (fl c2q2)), (3, .row 28 (Enc.cells c3q3)), (4, .row 28 (Enc.cells c4q6)), (5, .row 3 (fl c5q2))] 6 (by kernel_rfl) ?_
                refine wk_id ?_
                obtain rfl := Option.some.inj h
                refine ret_at (bS false) (by kernel_rfl) ?_
                exact ret_e [] [] (by simp only [push_cast, seval]) (by simp only [push_cast, seval]) rfl rfl rfl
              · refine wk_id ?_
                refine seq_np ?_
                refine seq_np ?_
                refine reg_f ?_
                refine rs 3 [] [] (by kernel_rfl) allP_nil ?_
                refine rf [(1, iS task), (2, bS xnext), (3, .ptr 0 0), (9, .ptr 1 0), (10, .own 2 0 c2q2.length), (67, bS (c4q6.Code != 0))] [(0, .row 24 (Enc.cells q)), (1, .row 24 [iS c1_Next2, .own 5 0 c5q2.length]), (2, .row 3 (fl c2q2)), (3, .row 28 (Enc.cells c3q3)), (4, .row 28 (Enc.cells c4q6)), (5, .row 3 (fl c5q2))] 6 (by kernel_rfl) ?_
                refine wk_id ?_
                refine cond_sx h (by kernel_rfl) (fun g967 h => ?_) (fun g967 h => ?_)
                · refine seq_cut (A := Bool) (fun a => ([(6, bS a)], [], 0)) (fun a => (taskmilllaw_RingPuts_j1 a) = some r) (fun K945 hK945 => ?_) ?_
                  · refine reg_f ?_
                    refine rs 1 [] [] (by kernel_rfl) allP_nil ?_
                    obtain ⟨r946, hr946, h⟩ := bind_sx h
                    refine call_x (taskmilllaw_noRing_spec (Ring.mk c1_Next2 c5q2) r946 hr946) (args := [.agg [iS c1_Next2, .own 5 0 c5q2.length]]) (dst := (some 69)) (by kernel_rfl) [(0, .row 24 (Enc.cells q)), (1, .row 24 [iS c1_Next2, .own 5 0 c5q2.length]), (2, .row 3 (fl c2q2)), (3, .row 28 (Enc.cells c3q3)), (4, .row 28 (Enc.cells c4q6)), (5, .row 3 (fl c5q2))] 6 (by kernel_rfl) [] [5] (bS r946) [] (by simp only [push_cast, seval]) (by simp only [push_cast, seval]) (by kernel_rfl) (.inr ⟨by simp only [push_cast, seval], by simp only [push_cast, seval]⟩) (by simp only [push_cast, seval]) (by simp only [push_cast, seval]) ?_
                    refine rs 1 [] [] (by kernel_rfl) allP_nil ?_
                    refine run_br h 70 (.inl (by kernel_rfl)) (fun g947 h => ?_) (fun g947 h => ?_)
                    · refine rs 5 [] [] (by kernel_rfl) allP_nil ?_
                      refine rf [(6, bS (((c2q2.length : Nat) : Int) == 0))] [(0, .row 24 (Enc.cells q)), (1, .row 24 [iS c1_Next2, .own 5 0 c5q2.length]), (2, .row 3 (fl c2q2)), (3, .row 28 (Enc.cells c3q3)), (4, .row 28 (Enc.cells c4q6)), (5, .row 3 (fl c5q2))] 6 (by kernel_rfl) ?_
                      exact hK945 ((((c2q2.length : Nat) : Int) == 0)) _ _ _ h (leSt_m [] [] (by (try simp only [g947]) <;> simp only [push_cast, seval]) (by (try simp only [g947]) <;> simp only [push_cast, seval]) rfl rfl rfl)
                    · refine rs 5 [] [] (by kernel_rfl) allP_nil ?_
                      refine rf [(6, bS false)] [(0, .row 24 (Enc.cells q)), (1, .row 24 [iS c1_Next2, .own 5 0 c5q2.length]), (2, .row 3 (fl c2q2)), (3, .row 28 (Enc.cells c3q3)), (4, .row 28 (Enc.cells c4q6)), (5, .row 3 (fl c5q2))] 6 (by kernel_rfl) ?_
                      exact hK945 (false) _ _ _ h (leSt_m [] [] (by (try simp only [g947]) <;> simp only [push_cast, seval]) (by (try simp only [g947]) <;> simp only [push_cast, seval]) rfl rfl rfl)
                  · rintro t6q3 h
                    try dsimp only at h ⊢
                    unfold taskmilllaw_RingPuts_j1 at h
                    obtain rfl := Option.some.inj h
                    refine ret_at (bS t6q3) (by kernel_rfl) ?_
                    exact ret_e [] [] (by simp only [push_cast, seval]) (by simp only [push_cast, seval]) rfl rfl rfl
                · refine wk_id ?_
                  refine seq_np ?_
                  refine reg_f ?_
                  refine rs 7 [] [] (by kernel_rfl) allP_nil ?_
                  refine rf [(1, iS task), (2, bS xnext), (3, .ptr 0 0), (9, .ptr 1 0), (10, .own 2 0 c2q2.length), (13, .ptr 6 0)] [(0, .row 24 (Enc.cells q)), (1, .row 24 [iS c1_Next2, .own 5 0 c5q2.length]), (2, .row 3 (fl c2q2)), (3, .row 28 (Enc.cells c3q3)), (4, .row 28 (Enc.cells c4q6)), (5, .row 3 (fl c5q2)), (6, .row 24 (Enc.cells q))] 7 (by kernel_rfl) ?_
                  refine wk_id ?_
                  refine seq_np ?_
                  refine reg_f ?_
                  refine rs 1 [] [] (by kernel_rfl) allP_nil ?_
                  refine rf [(1, iS task), (2, bS xnext), (3, .ptr 0 0), (9, .ptr 1 0), (10, .own 2 0 c2q2.length), (13, .ptr 6 0), (14, .v (.slice none 0 0))] [(0, .row 24 (Enc.cells q)), (1, .row 24 [iS c1_Next2, .own 5 0 c5q2.length]), (2, .row 3 (fl c2q2)), (3, .row 28 (Enc.cells c3q3)), (4, .row 28 (Enc.cells c4q6)), (5, .row 3 (fl c5q2)), (6, .row 24 (Enc.cells q))] 7 (by kernel_rfl) ?_
                  refine wk_id ?_
                  refine seq_cut (A := Int × Int) (fun a => ([(1, iS a.1), (3, .ptr 0 0), (9, .ptr 1 0), (10, .own 2 0 c2q2.length), (13, .ptr 3 0), (14, .v (.slice none 0 0))], [(0, .row 24 (Enc.cells q)), (1, .row 24 [iS c1_Next2, .own 4 0 c5q2.length]), (2, .row 3 (fl c2q2)), (3, .row 24 [iS a.2, .sl q.List.length (fl q.List)]), (4, .row 3 (fl c5q2))], 5)) (fun a => (taskmilllaw_RingPuts_j4 q c1_Next2 c2q2 c5q2 a.1 a.2) = some r) (fun K950 hK950 => ?_) ?_
                  · refine seq_np ?_
                    refine reg_f ?_
                    refine rs 1 [] [] (by kernel_rfl) allP_nil ?_
                    refine rf [(1, iS task), (3, .ptr 0 0), (9, .ptr 1 0), (10, .own 2 0 c2q2.length), (13, .ptr 6 0), (14, .v (.slice none 0 0)), (80, bS xnext)] [(0, .row 24 (Enc.cells q)), (1, .row 24 [iS c1_Next2, .own 5 0 c5q2.length]), (2, .row 3 (fl c2q2)), (3, .row 28 (Enc.cells c3q3)), (4, .row 28 (Enc.cells c4q6)), (5, .row 3 (fl c5q2)), (6, .row 24 (Enc.cells q))] 7 (by kernel_rfl) ?_
                    refine wk_id ?_
                    refine cond_sx h (by kernel_rfl) (fun g951 h => ?_) (fun g951 h => ?_)
                    · refine seq_np ?_
                      refine reg_f ?_
                      refine rs 3 [] [] (by kernel_rfl) allP_nil ?_
                      refine rf [(3, .ptr 0 0), (9, .ptr 1 0), (10, .own 2 0 c2q2.length), (13, .ptr 6 0), (14, .v (.slice none 0 0))] [(0, .row 24 (Enc.cells q)), (1, .row 24 [iS c1_Next2, .own 5 0 c5q2.length]), (2, .row 3 (fl c2q2)), (3, .row 28 (Enc.cells c3q3)), (4, .row 28 (Enc.cells c4q6)), (5, .row 3 (fl c5q2)), (6, .row 24 [iS task, .sl q.List.length (fl q.List)])] 7 (by kernel_rfl) ?_
                      refine wk_id ?_
                      refine reg_f ?_
                      refine rs 3 [] [] (by kernel_rfl) allP_nil ?_
                      refine rf [(1, iS q.Next), (3, .ptr 0 0), (9, .ptr 1 0), (10, .own 2 0 c2q2.length), (13, .ptr 6 0), (14, .v (.slice none 0 0))] [(0, .row 24 (Enc.cells q)), (1, .row 24 [iS c1_Next2, .own 5 0 c5q2.length]), (2, .row 3 (fl c2q2)), (3, .row 28 (Enc.cells c3q3)), (4, .row 28 (Enc.cells c4q6)), (5, .row 3 (fl c5q2)), (6, .row 24 [iS task, .sl q.List.length (fl q.List)])] 7 (by kernel_rfl) ?_
                      exact hK950 (q.Next, task) _ _ _ h (leSt_m [(0, 0), (1, 1), (2, 2), (3, 6), (4, 5)] [] (by simp only [push_cast, seval]) (by simp only [push_cast, seval]) rfl rfl rfl)
                    · exact hK950 (task, q.Next) _ _ _ h (leSt_m [(0, 0), (1, 1), (2, 2), (3, 6), (4, 5)] [] (by simp only [push_cast, seval]) (by simp only [push_cast, seval]) rfl rfl rfl)
                  · rintro ⟨task2, c3_Next1⟩ h
                    try dsimp only at h ⊢
                    unfold taskmilllaw_RingPuts_j4 at h
                    refine seq_cut (A := (List Int) × (List Int)) (fun a => ([(9, .ptr 0 0), (10, .own 1 0 c2q2.length), (13, .ptr 2 0), (14, .own 3 0 a.2.length)], [(0, .row 24 [iS c1_Next2, .own 4 0 c5q2.length]), (1, .row 3 (fl c2q2)), (2, .row 24 [iS c3_Next1, .sl a.1.length (fl a.1)]), (3, .row 3 (fl a.2)), (4, .row 3 (fl c5q2))], 5)) (fun a => (taskmilllaw_RingPuts_j3 c1_Next2 c2q2 c5q2 c3_Next1 a.1 a.2) = some r) (fun K955 hK955 => ?_) ?_
                    · refine seq_np ?_
                      refine reg_f ?_
                      refine rs 2 [] [] (by kernel_rfl) allP_nil ?_
                      refine rf [(1, iS task2), (3, .ptr 0 0), (9, .ptr 1 0), (10, .own 2 0 c2q2.length), (13, .ptr 3 0), (14, .v (.slice none 0 0)), (86, bS (decide ((0 : Int) < task2)))] [(0, .row 24 (Enc.cells q)), (1, .row 24 [iS c1_Next2, .own 4 0 c5q2.length]), (2, .row 3 (fl c2q2)), (3, .row 24 [iS c3_Next1, .sl q.List.length (fl q.List)]), (4, .row 3 (fl c5q2))] 5 (by kernel_rfl) ?_
                      refine wk_id ?_
                      refine cond_sx h (by kernel_rfl) (fun g958 h => ?_) (fun g958 h => ?_)
                      · refine reg_f ?_
                        refine rs 3 [] [] (by kernel_rfl) allP_nil ?_
                        obtain ⟨r957, hr957, h⟩ := bind_sx h
                        refine call_x (taskmillref_Queued_spec q.List task2 r957 hr957) (args := [.sl q.List.length (fl q.List), iS task2]) (dst := (some 91)) (by kernel_rfl) [(0, .row 24 (Enc.cells q)), (1, .row 24 [iS c1_Next2, .own 4 0 c5q2.length]), (2, .row 3 (fl c2q2)), (3, .row 24 [iS c3_Next1, .sl q.List.length (fl q.List)]), (4, .row 3 (fl c5q2))] 5 (by kernel_rfl) [] [] (.tup [.own 5 0 r957.1.length, .own 6 0 r957.2.length]) [(5, .row 3 (fl r957.1)), (6, .row 3 (fl r957.2))] (by simp only [push_cast, seval]) (by simp only [push_cast, seval]) (by kernel_rfl) (.inl rfl) (by simp only [push_cast, seval]) (by simp only [push_cast, seval]) ?_
                        refine rs 6 [] [] (by kernel_rfl) allP_nil ?_
                        refine rf [(9, .ptr 1 0), (10, .own 2 0 c2q2.length), (13, .ptr 3 0), (14, .own 6 0 r957.2.length)] [(0, .row 24 (Enc.cells q)), (1, .row 24 [iS c1_Next2, .own 4 0 c5q2.length]), (2, .row 3 (fl c2q2)), (3, .row 24 [iS c3_Next1, .own 5 0 r957.1.length]), (4, .row 3 (fl c5q2)), (5, .row 3 (fl r957.1)), (6, .row 3 (fl r957.2))] 7 (by kernel_rfl) ?_
                        exact hK955 (r957.1, r957.2) _ _ _ h (leSt_m [(0, 1), (1, 2), (2, 3), (3, 6), (4, 4)] [5] (by simp only [push_cast, seval]) (by simp only [push_cast, seval]) rfl rfl rfl)
                      · exact hK955 (q.List, []) _ _ _ h (leSt_m [(0, 1), (1, 2), (2, 3), (4, 4)] [] (by simp only [push_cast, seval]) (by simp only [push_cast, seval]) rfl rfl rfl)
                    · rintro ⟨c2_List1, c3q4⟩ h
                      try dsimp only at h ⊢
                      unfold taskmilllaw_RingPuts_j3 at h
                      refine seq_cut (A := Bool) (fun a => ([(6, bS a)], [], 0)) (fun a => (taskmilllaw_RingPuts_j2 a) = some r) (fun K963 hK963 => ?_) ?_
                      · refine reg_f ?_
                        refine rs 2 [] [] (by kernel_rfl) allP_nil ?_
                        obtain ⟨r964, hr964, h⟩ := bind_sx h
                        refine call_x (taskmillref_SameRing_spec (Ring.mk c1_Next2 c5q2) (Ring.mk c3_Next1 c2_List1) r964 hr964) (args := [.agg [iS c1_Next2, .own 4 0 c5q2.length], .agg [iS c3_Next1, .sl c2_List1.length (fl c2_List1)]]) (dst := (some 97)) (by kernel_rfl) [(0, .row 24 [iS c1_Next2, .own 4 0 c5q2.length]), (1, .row 3 (fl c2q2)), (2, .row 24 [iS c3_Next1, .sl c2_List1.length (fl c2_List1)]), (3, .row 3 (fl c3q4)), (4, .row 3 (fl c5q2))] 5 (by kernel_rfl) [] [4] (bS r964) [] (by simp only [push_cast, seval]) (by simp only [push_cast, seval]) (by kernel_rfl) (.inr ⟨by simp only [push_cast, seval], by simp only [push_cast, seval]⟩) (by simp only [push_cast, seval]) (by simp only [push_cast, seval]) ?_
                        refine rs 1 [] [] (by kernel_rfl) allP_nil ?_
                        refine run_br h 98 (.inl (by kernel_rfl)) (fun g965 h => ?_) (fun g965 h => ?_)
                        · refine rs 2 [] [] (by kernel_rfl) allP_nil ?_
                          obtain ⟨r966, hr966, h⟩ := bind_sx h
                          refine call_x (taskmillref_Ints_spec c2q2 c3q4 r966 hr966) (args := [.own 1 0 c2q2.length, .own 3 0 c3q4.length]) (dst := (some 101)) (by kernel_rfl) [(0, .row 24 [iS c1_Next2, .own 4 0 c5q2.length]), (1, .row 3 (fl c2q2)), (2, .row 24 [iS c3_Next1, .sl c2_List1.length (fl c2_List1)]), (3, .row 3 (fl c3q4)), (4, .row 3 (fl c5q2))] 5 (by kernel_rfl) [] [1, 3] (bS r966) [] (by simp only [push_cast, seval]) (by simp only [push_cast, seval]) (by kernel_rfl) (.inr ⟨by simp only [push_cast, seval], by simp only [push_cast, seval]⟩) (by simp only [push_cast, seval]) (by simp only [push_cast, seval]) ?_
                          refine rs 2 [] [] (by kernel_rfl) allP_nil ?_
                          refine rf [(6, bS r966)] [(0, .row 24 [iS c1_Next2, .own 4 0 c5q2.length]), (1, .row 3 (fl c2q2)), (2, .row 24 [iS c3_Next1, .sl c2_List1.length (fl c2_List1)]), (3, .row 3 (fl c3q4)), (4, .row 3 (fl c5q2))] 5 (by kernel_rfl) ?_
                          exact hK963 (r966) _ _ _ h (leSt_m [] [] (by (try simp only [g965]) <;> simp only [push_cast, seval]) (by (try simp only [g965]) <;> simp only [push_cast, seval]) rfl rfl rfl)
                        · refine rs 5 [] [] (by kernel_rfl) allP_nil ?_
                          refine rf [(6, bS false)] [(0, .row 24 [iS c1_Next2, .own 4 0 c5q2.length]), (1, .row 3 (fl c2q2)), (2, .row 24 [iS c3_Next1, .sl c2_List1.length (fl c2_List1)]), (3, .row 3 (fl c3q4)), (4, .row 3 (fl c5q2))] 5 (by kernel_rfl) ?_
                          exact hK963 (false) _ _ _ h (leSt_m [] [] (by (try simp only [g965]) <;> simp only [push_cast, seval]) (by (try simp only [g965]) <;> simp only [push_cast, seval]) rfl rfl rfl)
                      · rintro t6q4 h
                        try dsimp only at h ⊢
                        unfold taskmilllaw_RingPuts_j2 at h
                        obtain rfl := Option.some.inj h
                        refine ret_at (bS t6q4) (by kernel_rfl) ?_
                        exact ret_e [] [] (by simp only [push_cast, seval]) (by simp only [push_cast, seval]) rfl rfl rfl

set_option maxRecDepth 100000 in
set_option maxHeartbeats 10000000 in
theorem ring_Take_spec (q : Ring) (r : Int × Int × Fault × (List Int)) (h : ring_Take q = some r) : SpecW Try.prog 23 [.agg (Enc.cells q)] [] 0 (fun x h n => x = .tup [.agg [iS r.1, .own 0 0 r.2.2.2.length], iS r.2.1, .agg (Enc.cells r.2.2.1)] ∧ h = [(0, .row 3 (fl r.2.2.2))] ∧ n = 1) := by
  unfold ring_Take at h
  refine spec_of (draw_ok _) Try.func23 rfl (by decide) rfl (by kernel_rfl) ?_
  refine seq_np ?_
  refine reg_f ?_
  refine rs 4 [] [] (by kernel_rfl) allP_nil ?_
  refine rf [(1, .ptr 0 0), (2, .ptr 1 0), (4, .ptr 2 0)] [(0, .row 24 (Enc.cells q)), (1, .row 24 [iS 0, .v (.slice none 0 0)]), (2, .row 28 [iS 0, iS 0])] 3 (by kernel_rfl) ?_
  refine wk_id ?_
  refine seq_np ?_
  refine seq_np ?_
  refine reg_f ?_
  refine rs 1 [] [] (by kernel_rfl) allP_nil ?_
  obtain ⟨r990, hr990, h⟩ := bind_sx h
  refine run_call 13 [.agg (Enc.cells q)] (some 9) (by kernel_rfl) ?_
  refine call_0 (ring_Check_spec q r990 hr990) (by simp only [push_cast, seval]) (by simp only [push_cast, seval]) ?_
  refine back_f ?_
  refine rs 2 [] [] (by kernel_rfl) allP_nil ?_
  refine rf [(1, .ptr 0 0), (2, .ptr 1 0), (4, .ptr 2 0), (5, .ptr 3 0)] [(0, .row 24 (Enc.cells q)), (1, .row 24 [iS 0, .v (.slice none 0 0)]), (2, .row 28 [iS 0, iS 0]), (3, .row 28 (Enc.cells r990))] 4 (by kernel_rfl) ?_
  refine wk_id ?_
  refine seq_np ?_
  refine reg_f ?_
  refine rs 3 [] [] (by kernel_rfl) allP_nil ?_
  refine rf [(1, .ptr 0 0), (2, .ptr 1 0), (4, .ptr 2 0), (5, .ptr 3 0), (12, bS (r990.Code != 0))] [(0, .row 24 (Enc.cells q)), (1, .row 24 [iS 0, .v (.slice none 0 0)]), (2, .row 28 [iS 0, iS 0]), (3, .row 28 (Enc.cells r990))] 4 (by kernel_rfl) ?_
  refine wk_id ?_
  refine cond_sx h (by kernel_rfl) (fun g1010 h => ?_) (fun g1010 h => ?_)
  · refine seq_np ?_
    refine reg_t ?_
    refine rs 5 [] [] (by kernel_rfl) allP_nil ?_
    refine rt [(2, .ptr 1 0), (3, iS 0), (4, .ptr 2 0)] [(0, .row 24 (Enc.cells q)), (1, .row 24 [iS 0, .v (.slice none 0 0)]), (2, .row 28 (Enc.cells r990)), (3, .row 28 (Enc.cells r990))] 9 follows (by kernel_rfl) ?_
    refine wk_id ?_
    obtain rfl := Option.some.inj h
    refine ret_at (.tup [.agg [iS 0, .v (.slice none 0 0)], iS 0, .agg (Enc.cells r990)]) (by kernel_rfl) ?_
    exact ret_e [] [] (by simp only [push_cast, seval]) (by simp only [push_cast, seval]) rfl rfl rfl
  · refine wk_id ?_
    refine seq_np ?_
    refine reg_f ?_
    refine rs 1 [] [] (by kernel_rfl) allP_nil ?_
    obtain ⟨r992, hr992, h⟩ := bind_sx h
    refine call_x (ring_copied_spec q r992 hr992) (args := [.agg (Enc.cells q)]) (dst := (some 16)) (by kernel_rfl) [(0, .row 24 (Enc.cells q)), (1, .row 24 [iS 0, .v (.slice none 0 0)]), (2, .row 28 [iS 0, iS 0]), (3, .row 28 (Enc.cells r990))] 4 (by kernel_rfl) [] [] (.agg [iS r992.1, .own 4 0 r992.2.length]) [(4, .row 3 (fl r992.2))] (by simp only [push_cast, seval]) (by simp only [push_cast, seval]) (by kernel_rfl) (.inl rfl) (by simp only [push_cast, seval]) (by simp only [push_cast, seval]) ?_
    refine rs 1 [] [] (by kernel_rfl) allP_nil ?_
    refine rf [(1, .ptr 0 0), (2, .ptr 1 0), (4, .ptr 2 0)] [(0, .row 24 [iS r992.1, .own 4 0 r992.2.length]), (1, .row 24 [iS 0, .v (.slice none 0 0)]), (2, .row 28 [iS 0, iS 0]), (3, .row 28 (Enc.cells r990)), (4, .row 3 (fl r992.2))] 5 (by kernel_rfl) ?_
    refine wk_id ?_
    refine seq_np ?_
    refine seq_np ?_
    refine reg_f ?_
    refine rs 3 [] [] (by kernel_rfl) allP_nil ?_
    refine rf [(1, .ptr 0 0), (2, .ptr 1 0), (4, .ptr 2 0), (6, iS r992.1)] [(0, .row 24 [iS r992.1, .own 4 0 r992.2.length]), (1, .row 24 [iS 0, .v (.slice none 0 0)]), (2, .row 28 [iS 0, iS 0]), (3, .row 28 (Enc.cells r990)), (4, .row 3 (fl r992.2))] 5 (by kernel_rfl) ?_
    refine wk_id ?_
    refine seq_np ?_
    refine reg_f ?_
    refine rs 2 [] [] (by kernel_rfl) allP_nil ?_
    refine rf [(1, .ptr 0 0), (2, .ptr 1 0), (4, .ptr 2 0), (6, iS r992.1), (20, bS (decide ((0 : Int) < r992.1)))] [(0, .row 24 [iS r992.1, .own 4 0 r992.2.length]), (1, .row 24 [iS 0, .v (.slice none 0 0)]), (2, .row 28 [iS 0, iS 0]), (3, .row 28 (Enc.cells r990)), (4, .row 3 (fl r992.2))] 5 (by kernel_rfl) ?_
    refine wk_id ?_
    refine cond_sx h (by kernel_rfl) (fun g1009 h => ?_) (fun g1009 h => ?_)
    · refine seq_np ?_
      refine reg_f ?_
      refine rs 2 [] [] (by kernel_rfl) allP_nil ?_
      refine rf [(1, .ptr 0 0), (2, .ptr 1 0), (4, .ptr 2 0), (6, iS r992.1)] [(0, .row 24 [iS 0, .own 4 0 r992.2.length]), (1, .row 24 [iS 0, .v (.slice none 0 0)]), (2, .row 28 [iS 0, iS 0]), (3, .row 28 (Enc.cells r990)), (4, .row 3 (fl r992.2))] 5 (by kernel_rfl) ?_
      refine wk_id ?_
      refine seq_np ?_
      refine reg_f ?_
      refine rs 6 [] [] (by kernel_rfl) allP_nil ?_
      refine rf [(2, .ptr 1 0), (3, iS r992.1), (4, .ptr 2 0)] [(0, .row 24 [iS 0, .own 4 0 r992.2.length]), (1, .row 24 [iS 0, .own 4 0 r992.2.length]), (2, .row 28 [iS 0, iS 0]), (3, .row 28 (Enc.cells r990)), (4, .row 3 (fl r992.2))] 5 (by kernel_rfl) ?_
      refine wk_id ?_
      obtain rfl := Option.some.inj h
      refine ret_at (.tup [.agg [iS 0, .own 4 0 r992.2.length], iS r992.1, .agg [iS 0, iS 0]]) (by kernel_rfl) ?_
      exact ret_e [(0, 4)] [] (by simp only [push_cast, seval]) (by simp only [push_cast, seval]) rfl rfl rfl
    · refine wk_id ?_
      refine seq_np ?_
      refine seq_np ?_
      refine reg_f ?_
      refine rs 4 [] [] (by kernel_rfl) allP_nil ?_
      refine rf [(1, .ptr 0 0), (2, .ptr 1 0), (4, .ptr 2 0), (28, bS (((r992.2.length : Nat) : Int) == 0))] [(0, .row 24 [iS r992.1, .own 4 0 r992.2.length]), (1, .row 24 [iS 0, .v (.slice none 0 0)]), (2, .row 28 [iS 0, iS 0]), (3, .row 28 (Enc.cells r990)), (4, .row 3 (fl r992.2))] 5 (by kernel_rfl) ?_
      refine wk_id ?_
      refine cond_sx h (by kernel_rfl) (fun g1008 h => ?_) (fun g1008 h => ?_)
      · refine seq_np ?_
        refine reg_f ?_
        refine rs 1 [] [] (by kernel_rfl) allP_nil ?_
        obtain ⟨r997, hr997, h⟩ := bind_sx h
        refine run_call 27 [iS 6, iS 0] (some 30) (by kernel_rfl) ?_
        refine call_0 (ring_fault_spec 6 0 r997 hr997) (by simp only [push_cast, seval]) (by simp only [push_cast, seval]) ?_
        refine back_f ?_
        refine rs 3 [] [] (by kernel_rfl) allP_nil ?_
        refine rf [(2, .ptr 1 0), (3, iS 0), (4, .ptr 2 0)] [(0, .row 24 [iS r992.1, .own 4 0 r992.2.length]), (1, .row 24 [iS 0, .v (.slice none 0 0)]), (2, .row 28 (Enc.cells r997)), (3, .row 28 (Enc.cells r990)), (4, .row 3 (fl r992.2))] 5 (by kernel_rfl) ?_
        refine wk_id ?_
        obtain rfl := Option.some.inj h
        refine ret_at (.tup [.agg [iS 0, .v (.slice none 0 0)], iS 0, .agg (Enc.cells r997)]) (by kernel_rfl) ?_
        exact ret_e [] [] (by simp only [push_cast, seval]) (by simp only [push_cast, seval]) rfl rfl rfl
      · refine wk_id ?_
        refine chk_sx h (fun g1001 h => ?_)
        refine seq_np ?_
        refine reg_f ?_
        have k1000 : 0 ≤ (0 : Int) ∧ (0 : Int) < ((r992.2.length : Nat) : Int) := by first | simpa only [Bool.and_eq_true, decide_eq_true_eq, bne_iff_ne, ne_eq] using g1001 | (simp at g1001 ⊢; omega)
        refine rs 5 [none, none, some ⟨.ptr 4 (0 + ((0 : Int)).toNat * 1), [], 5, [4]⟩, some ⟨iS (ix r992.2 (0 : Int)), [], 5, [4]⟩] _ (by kernel_rfl) (allP_cons (ob_ld r992.2 (0 : Int) 1 0 (0 + ((0 : Int)).toNat * 1) k1000 rfl (by decide) (by first | rfl | omega) (dflS Try.prog 3) (iS (ix r992.2 (0 : Int))) rfl 5 [4]) (allP_cons (ob_ix_o 4 r992.2.length 0 1 5 0 k1000) allP_nil)) ?_
        refine rf [(1, .ptr 0 0), (2, .ptr 1 0), (4, .ptr 2 0), (7, iS (ix r992.2 (0 : Int)))] [(0, .row 24 [iS r992.1, .own 4 0 r992.2.length]), (1, .row 24 [iS 0, .v (.slice none 0 0)]), (2, .row 28 [iS 0, iS 0]), (3, .row 28 (Enc.cells r990)), (4, .row 3 (fl r992.2))] 5 (by kernel_rfl) ?_
        refine wk_id ?_
        refine chk_sx h (fun g1006 h => ?_)
        refine seq_np ?_
        refine reg_f ?_
        have k1005 : 0 ≤ (1 : Int) ∧ (1 : Int) ≤ ((r992.2.length : Nat) : Int) ∧ ((r992.2.length : Nat) : Int) ≤ ((r992.2.length : Nat) : Int) := by first | simpa only [Bool.and_eq_true, decide_eq_true_eq, bne_iff_ne, ne_eq] using g1006 | (simp at g1006 ⊢; omega)
        refine rs 3 [none, none, some ⟨.own 4 (((1 : Int)).toNat * 1) (cut r992.2 (1 : Int) ((r992.2.length : Nat) : Int)).length, [], 5, [4]⟩] _ (by kernel_rfl) (allP_cons (ob_cutP (P := Try.prog) r992.2 (1 : Int) ((r992.2.length : Nat) : Int) 1 5 4 3 (by kernel_rfl) k1005) allP_nil) ?_
        obtain ⟨r1007, hr1007, h⟩ := bind_sx h
        refine call_x (slices_Clone_spec (cut r992.2 (1 : Int) ((r992.2.length : Nat) : Int)) r1007 hr1007) (args := [.own 4 (((1 : Int)).toNat * 1) (cut r992.2 (1 : Int) ((r992.2.length : Nat) : Int)).length]) (dst := (some 38)) (by kernel_rfl) [(0, .row 24 [iS r992.1, .own 4 0 r992.2.length]), (1, .row 24 [iS 0, .v (.slice none 0 0)]), (2, .row 28 [iS 0, iS 0]), (3, .row 28 (Enc.cells r990)), (4, .row 3 (fl r992.2))] 5 (by kernel_rfl) [] [4] (.own 5 0 r1007.length) [(5, .row 3 (fl r1007))] (by simp only [push_cast, seval]) (by simp only [push_cast, seval]) (by kernel_rfl) (.inr ⟨by simp only [push_cast, seval], by simp only [push_cast, seval]⟩) (by simp only [push_cast, seval]) (by simp only [push_cast, seval]) ?_
        refine rs 2 [] [] (by kernel_rfl) allP_nil ?_
        refine rf [(1, .ptr 0 0), (2, .ptr 1 0), (4, .ptr 2 0), (7, iS (ix r992.2 (0 : Int)))] [(0, .row 24 [iS r992.1, .own 5 0 r1007.length]), (1, .row 24 [iS 0, .v (.slice none 0 0)]), (2, .row 28 [iS 0, iS 0]), (3, .row 28 (Enc.cells r990)), (4, .row 3 (fl r992.2)), (5, .row 3 (fl r1007))] 6 (by kernel_rfl) ?_
        refine wk_id ?_
        refine seq_np ?_
        refine reg_f ?_
        refine rs 6 [] [] (by kernel_rfl) allP_nil ?_
        refine rf [(2, .ptr 1 0), (3, iS (ix r992.2 (0 : Int))), (4, .ptr 2 0)] [(0, .row 24 [iS r992.1, .own 5 0 r1007.length]), (1, .row 24 [iS r992.1, .own 5 0 r1007.length]), (2, .row 28 [iS 0, iS 0]), (3, .row 28 (Enc.cells r990)), (4, .row 3 (fl r992.2)), (5, .row 3 (fl r1007))] 6 (by kernel_rfl) ?_
        refine wk_id ?_
        obtain rfl := Option.some.inj h
        refine ret_at (.tup [.agg [iS r992.1, .own 5 0 r1007.length], iS (ix r992.2 (0 : Int)), .agg [iS 0, iS 0]]) (by kernel_rfl) ?_
        exact ret_e [(0, 5)] [] (by simp only [push_cast, seval]) (by simp only [push_cast, seval]) rfl rfl rfl

set_option maxRecDepth 100000 in
set_option maxHeartbeats 10000000 in
theorem taskmilllaw_RingTakes_spec (q : Ring) (r : Bool) (h : taskmilllaw_RingTakes q = some r) : SpecW Try.prog 4 [.agg (Enc.cells q)] [] 0 (fun x h n => x = bS r ∧ h = [] ∧ n = 0) := by
  unfold taskmilllaw_RingTakes at h
  refine spec_of (draw_ok _) Try.func4 rfl (by decide) rfl (by kernel_rfl) ?_
  refine seq_np ?_
  refine reg_f ?_
  refine rs 2 [] [] (by kernel_rfl) allP_nil ?_
  refine rf [(1, .ptr 0 0)] [(0, .row 24 (Enc.cells q))] 1 (by kernel_rfl) ?_
  refine wk_id ?_
  refine seq_np ?_
  refine seq_np ?_
  refine reg_f ?_
  obtain ⟨r1037, hr1037, h⟩ := bind_sx h
  refine run_call 11 [] (some 8) (by kernel_rfl) ?_
  refine call_0 (taskmilllaw_ringBegun_spec r1037 hr1037) (by simp only [push_cast, seval]) (by simp only [push_cast, seval]) ?_
  refine back_f ?_
  refine rs 1 [] [] (by kernel_rfl) allP_nil ?_
  refine rf [(1, .ptr 0 0), (9, bS (!r1037))] [(0, .row 24 (Enc.cells q))] 1 (by kernel_rfl) ?_
  refine wk_id ?_
  refine cond_sx h (by kernel_rfl) (fun g1089 h => ?_) (fun g1089 h => ?_)
  · refine seq_np ?_
    refine reg_f ?_
    refine rs 1 [] [] (by kernel_rfl) allP_nil ?_
    refine rf [(2, bS false)] [(0, .row 24 (Enc.cells q))] 1 (by kernel_rfl) ?_
    refine wk_id ?_
    obtain rfl := Option.some.inj h
    refine ret_at (bS false) (by kernel_rfl) ?_
    exact ret_e [] [] (by simp only [push_cast, seval]) (by simp only [push_cast, seval]) rfl rfl rfl
  · refine wk_id ?_
    refine seq_np ?_
    refine seq_np ?_
    refine reg_f ?_
    refine rs 4 [] [] (by kernel_rfl) allP_nil ?_
    refine rf [(1, .ptr 0 0), (13, bS (decide ((2000 : Int) < ((q.List.length : Nat) : Int))))] [(0, .row 24 (Enc.cells q))] 1 (by kernel_rfl) ?_
    refine wk_id ?_
    refine cond_sx h (by kernel_rfl) (fun g1088 h => ?_) (fun g1088 h => ?_)
    · refine seq_np ?_
      refine reg_f ?_
      refine rs 1 [] [] (by kernel_rfl) allP_nil ?_
      refine rf [(2, bS true)] [(0, .row 24 (Enc.cells q))] 1 (by kernel_rfl) ?_
      refine wk_id ?_
      obtain rfl := Option.some.inj h
      refine ret_at (bS true) (by kernel_rfl) ?_
      exact ret_e [] [] (by simp only [push_cast, seval]) (by simp only [push_cast, seval]) rfl rfl rfl
    · refine wk_id ?_
      refine seq_np ?_
      refine reg_f ?_
      refine rs 1 [] [] (by kernel_rfl) allP_nil ?_
      obtain ⟨r1041, hr1041, h⟩ := bind_sx h
      refine call_x (taskmilllaw_ownRing_spec q r1041 hr1041) (args := [.agg (Enc.cells q)]) (dst := (some 16)) (by kernel_rfl) [(0, .row 24 (Enc.cells q))] 1 (by kernel_rfl) [] [] (.agg [iS r1041.1, .own 1 0 r1041.2.length]) [(1, .row 3 (fl r1041.2))] (by simp only [push_cast, seval]) (by simp only [push_cast, seval]) (by kernel_rfl) (.inl rfl) (by simp only [push_cast, seval]) (by simp only [push_cast, seval]) ?_
      obtain ⟨r1042, hr1042, h⟩ := bind_sx h
      refine call_x (ring_Take_spec (Ring.mk r1041.1 r1041.2) r1042 hr1042) (args := [.agg [iS r1041.1, .own 1 0 r1041.2.length]]) (dst := (some 17)) (by kernel_rfl) [(0, .row 24 (Enc.cells q)), (1, .row 3 (fl r1041.2))] 2 (by kernel_rfl) [] [1] (.tup [.agg [iS r1042.1, .own 2 0 r1042.2.2.2.length], iS r1042.2.1, .agg (Enc.cells r1042.2.2.1)]) [(2, .row 3 (fl r1042.2.2.2))] (by simp only [push_cast, seval]) (by simp only [push_cast, seval]) (by kernel_rfl) (.inr ⟨by simp only [push_cast, seval], by simp only [push_cast, seval]⟩) (by simp only [push_cast, seval]) (by simp only [push_cast, seval]) ?_
      refine rs 9 [] [] (by kernel_rfl) allP_nil ?_
      refine rf [(1, .ptr 0 0), (3, .ptr 3 0), (4, iS r1042.2.1), (5, .ptr 4 0)] [(0, .row 24 (Enc.cells q)), (1, .row 3 (fl r1041.2)), (2, .row 3 (fl r1042.2.2.2)), (3, .row 24 [iS r1042.1, .own 2 0 r1042.2.2.2.length]), (4, .row 28 (Enc.cells r1042.2.2.1))] 5 (by kernel_rfl) ?_
      refine wk_id ?_
      refine seq_np ?_
      refine reg_f ?_
      refine rs 1 [] [] (by kernel_rfl) allP_nil ?_
      obtain ⟨r1044, hr1044, h⟩ := bind_sx h
      refine run_call 15 [.agg (Enc.cells q)] (some 22) (by kernel_rfl) ?_
      refine call_0 (taskmillref_RingFault_spec q r1044 hr1044) (by simp only [push_cast, seval]) (by simp only [push_cast, seval]) ?_
      refine back_f ?_
      refine rs 2 [] [] (by kernel_rfl) allP_nil ?_
      refine rf [(1, .ptr 0 0), (3, .ptr 3 0), (4, iS r1042.2.1), (5, .ptr 4 0), (6, .ptr 5 0)] [(0, .row 24 (Enc.cells q)), (1, .row 3 (fl r1041.2)), (2, .row 3 (fl r1042.2.2.2)), (3, .row 24 [iS r1042.1, .own 2 0 r1042.2.2.2.length]), (4, .row 28 (Enc.cells r1042.2.2.1)), (5, .row 28 (Enc.cells r1044))] 6 (by kernel_rfl) ?_
      refine wk_id ?_
      refine seq_np ?_
      refine reg_f ?_
      refine rs 1 [] [] (by kernel_rfl) allP_nil ?_
      obtain ⟨r1046, hr1046, h⟩ := bind_sx h
      refine call_x (taskmillref_Line_spec q r1046 hr1046) (args := [.agg (Enc.cells q)]) (dst := (some 24)) (by kernel_rfl) [(0, .row 24 (Enc.cells q)), (1, .row 3 (fl r1041.2)), (2, .row 3 (fl r1042.2.2.2)), (3, .row 24 [iS r1042.1, .own 2 0 r1042.2.2.2.length]), (4, .row 28 (Enc.cells r1042.2.2.1)), (5, .row 28 (Enc.cells r1044))] 6 (by kernel_rfl) [] [] (.own 6 0 r1046.length) [(6, .row 3 (fl r1046))] (by simp only [push_cast, seval]) (by simp only [push_cast, seval]) (by kernel_rfl) (.inl rfl) (by simp only [push_cast, seval]) (by simp only [push_cast, seval]) ?_
      refine rs 1 [] [] (by kernel_rfl) allP_nil ?_
      refine rf [(3, .ptr 3 0), (4, iS r1042.2.1), (5, .ptr 4 0), (6, .ptr 5 0), (7, .own 6 0 r1046.length)] [(0, .row 24 (Enc.cells q)), (1, .row 3 (fl r1041.2)), (2, .row 3 (fl r1042.2.2.2)), (3, .row 24 [iS r1042.1, .own 2 0 r1042.2.2.2.length]), (4, .row 28 (Enc.cells r1042.2.2.1)), (5, .row 28 (Enc.cells r1044)), (6, .row 3 (fl r1046))] 7 (by kernel_rfl) ?_
      refine wk_id ?_
      refine seq_cut (A := Int × Int × Fault × Fault × (List Int) × (List Int)) (fun a => ([(3, .ptr 0 0), (4, iS a.1), (5, .ptr 1 0), (6, .ptr 2 0), (7, .own 3 0 a.2.2.2.2.1.length)], [(0, .row 24 [iS a.2.1, .own 4 0 a.2.2.2.2.2.length]), (1, .row 28 (Enc.cells a.2.2.1)), (2, .row 28 (Enc.cells a.2.2.2.1)), (3, .row 3 (fl a.2.2.2.2.1)), (4, .row 3 (fl a.2.2.2.2.2))], 5)) (fun a => (taskmilllaw_RingTakes_j3 a.1 a.2.1 a.2.2.1 a.2.2.2.1 a.2.2.2.2.1 a.2.2.2.2.2) = some r) (fun K1051 hK1051 => ?_) ?_
      · refine seq_cut (A := Unit) (fun _ => ([(3, .ptr 3 0), (4, iS r1042.2.1), (5, .ptr 4 0), (6, .ptr 5 0), (7, .own 6 0 r1046.length), (32, bS ((r1044.Code == 0) && (((r1046.length : Nat) : Int) == 0)))], [(0, .row 24 (Enc.cells q)), (1, .row 3 (fl r1041.2)), (2, .row 3 (fl r1042.2.2.2)), (3, .row 24 [iS r1042.1, .own 2 0 r1042.2.2.2.length]), (4, .row 28 (Enc.cells r1042.2.2.1)), (5, .row 28 (Enc.cells r1044)), (6, .row 3 (fl r1046))], 7)) (fun _ => True) (fun K1053 hK1053 => ?_) (fun _ _ => ?_)
        · refine reg_f ?_
          refine rs 4 [] [] (by kernel_rfl) allP_nil ?_
          refine run_split 28 (r1044.Code == 0) (.inl (by kernel_rfl)) (fun g1054 => ?_) (fun g1054 => ?_)
          · refine rs 4 [] [] (by kernel_rfl) allP_nil ?_
            refine rf [(3, .ptr 3 0), (4, iS r1042.2.1), (5, .ptr 4 0), (6, .ptr 5 0), (7, .own 6 0 r1046.length), (32, bS (((r1046.length : Nat) : Int) == 0))] [(0, .row 24 (Enc.cells q)), (1, .row 3 (fl r1041.2)), (2, .row 3 (fl r1042.2.2.2)), (3, .row 24 [iS r1042.1, .own 2 0 r1042.2.2.2.length]), (4, .row 28 (Enc.cells r1042.2.2.1)), (5, .row 28 (Enc.cells r1044)), (6, .row 3 (fl r1046))] 7 (by kernel_rfl) ?_
            exact hK1053 () _ _ _ trivial (leSt_m [(0, 0), (1, 1), (2, 2), (3, 3), (4, 4), (5, 5), (6, 6)] [] (by (try simp only [g1054]) <;> simp only [push_cast, seval]) (by (try simp only [g1054]) <;> simp only [push_cast, seval]) rfl rfl rfl)
          · refine rs 4 [] [] (by kernel_rfl) allP_nil ?_
            refine rf [(3, .ptr 3 0), (4, iS r1042.2.1), (5, .ptr 4 0), (6, .ptr 5 0), (7, .own 6 0 r1046.length), (32, bS false)] [(0, .row 24 (Enc.cells q)), (1, .row 3 (fl r1041.2)), (2, .row 3 (fl r1042.2.2.2)), (3, .row 24 [iS r1042.1, .own 2 0 r1042.2.2.2.length]), (4, .row 28 (Enc.cells r1042.2.2.1)), (5, .row 28 (Enc.cells r1044)), (6, .row 3 (fl r1046))] 7 (by kernel_rfl) ?_
            exact hK1053 () _ _ _ trivial (leSt_m [(0, 0), (1, 1), (2, 2), (3, 3), (4, 4), (5, 5), (6, 6)] [] (by (try simp only [g1054]) <;> simp only [push_cast, seval]) (by (try simp only [g1054]) <;> simp only [push_cast, seval]) rfl rfl rfl)
        · dsimp only
          refine cond_sx h (by kernel_rfl) (fun g1057 h => ?_) (fun g1057 h => ?_)
          · refine reg_f ?_
            obtain ⟨r1056, hr1056, h⟩ := bind_sx h
            refine run_call 17 [iS 6, iS 0] (some 33) (by kernel_rfl) ?_
            refine call_0 (taskmillref_F_spec 6 0 r1056 hr1056) (by simp only [push_cast, seval]) (by simp only [push_cast, seval]) ?_
            refine back_f ?_
            refine rs 1 [] [] (by kernel_rfl) allP_nil ?_
            refine rf [(3, .ptr 3 0), (4, iS r1042.2.1), (5, .ptr 4 0), (6, .ptr 5 0), (7, .own 6 0 r1046.length)] [(0, .row 24 (Enc.cells q)), (1, .row 3 (fl r1041.2)), (2, .row 3 (fl r1042.2.2.2)), (3, .row 24 [iS r1042.1, .own 2 0 r1042.2.2.2.length]), (4, .row 28 (Enc.cells r1042.2.2.1)), (5, .row 28 (Enc.cells r1056)), (6, .row 3 (fl r1046))] 7 (by kernel_rfl) ?_
            exact hK1051 (r1042.2.1, r1042.1, r1042.2.2.1, r1056, r1046, r1042.2.2.2) _ _ _ h (leSt_m [(0, 3), (1, 4), (2, 5), (3, 6), (4, 2)] [] (by simp only [push_cast, seval]) (by simp only [push_cast, seval]) rfl rfl rfl)
          · exact hK1051 (r1042.2.1, r1042.1, r1042.2.2.1, r1044, r1046, r1042.2.2.2) _ _ _ h (leSt_m [(0, 3), (1, 4), (2, 5), (3, 6), (4, 2)] [] (by simp only [push_cast, seval]) (by simp only [push_cast, seval]) rfl rfl rfl)
      · rintro ⟨tq, c0_Next1, c1q1, c2q1, c3q1, c4q1⟩ h
        try dsimp only at h ⊢
        unfold taskmilllaw_RingTakes_j3 at h
        refine seq_np ?_
        refine seq_np ?_
        refine reg_f ?_
        refine rs 3 [] [] (by kernel_rfl) allP_nil ?_
        refine rf [(3, .ptr 0 0), (4, iS tq), (6, .ptr 2 0), (7, .own 3 0 c3q1.length), (36, bS (!((c1q1.Code == c2q1.Code) && ((c1q1.At == c2q1.At) && true))))] [(0, .row 24 [iS c0_Next1, .own 4 0 c4q1.length]), (1, .row 28 (Enc.cells c1q1)), (2, .row 28 (Enc.cells c2q1)), (3, .row 3 (fl c3q1)), (4, .row 3 (fl c4q1))] 5 (by kernel_rfl) ?_
        refine wk_id ?_
        refine cond_sx h (by kernel_rfl) (fun g1087 h => ?_) (fun g1087 h => ?_)
        · refine seq_np ?_
          refine reg_f ?_
          refine rs 1 [] [] (by kernel_rfl) allP_nil ?_
          refine rf [(2, bS false)] [(0, .row 24 [iS c0_Next1, .own 4 0 c4q1.length]), (1, .row 28 (Enc.cells c1q1)), (2, .row 28 (Enc.cells c2q1)), (3, .row 3 (fl c3q1)), (4, .row 3 (fl c4q1))] 5 (by kernel_rfl) ?_
          refine wk_id ?_
          obtain rfl := Option.some.inj h
          refine ret_at (bS false) (by kernel_rfl) ?_
          exact ret_e [] [] (by simp only [push_cast, seval]) (by simp only [push_cast, seval]) rfl rfl rfl
        · refine wk_id ?_
          refine seq_np ?_
          refine seq_np ?_
          refine reg_f ?_
          refine rs 3 [] [] (by kernel_rfl) allP_nil ?_
          refine rf [(3, .ptr 0 0), (4, iS tq), (7, .own 3 0 c3q1.length), (39, bS (c2q1.Code != 0))] [(0, .row 24 [iS c0_Next1, .own 4 0 c4q1.length]), (1, .row 28 (Enc.cells c1q1)), (2, .row 28 (Enc.cells c2q1)), (3, .row 3 (fl c3q1)), (4, .row 3 (fl c4q1))] 5 (by kernel_rfl) ?_
          refine wk_id ?_
          refine cond_sx h (by kernel_rfl) (fun g1086 h => ?_) (fun g1086 h => ?_)
          · refine seq_cut (A := Bool) (fun a => ([(2, bS a)], [], 0)) (fun a => (taskmilllaw_RingTakes_j1 a) = some r) (fun K1067 hK1067 => ?_) ?_
            · refine reg_f ?_
              refine rs 1 [] [] (by kernel_rfl) allP_nil ?_
              obtain ⟨r1068, hr1068, h⟩ := bind_sx h
              refine call_x (taskmilllaw_noRing_spec (Ring.mk c0_Next1 c4q1) r1068 hr1068) (args := [.agg [iS c0_Next1, .own 4 0 c4q1.length]]) (dst := (some 41)) (by kernel_rfl) [(0, .row 24 [iS c0_Next1, .own 4 0 c4q1.length]), (1, .row 28 (Enc.cells c1q1)), (2, .row 28 (Enc.cells c2q1)), (3, .row 3 (fl c3q1)), (4, .row 3 (fl c4q1))] 5 (by kernel_rfl) [] [4] (bS r1068) [] (by simp only [push_cast, seval]) (by simp only [push_cast, seval]) (by kernel_rfl) (.inr ⟨by simp only [push_cast, seval], by simp only [push_cast, seval]⟩) (by simp only [push_cast, seval]) (by simp only [push_cast, seval]) ?_
              refine rs 1 [] [] (by kernel_rfl) allP_nil ?_
              refine run_br h 42 (.inl (by kernel_rfl)) (fun g1069 h => ?_) (fun g1069 h => ?_)
              · refine rs 4 [] [] (by kernel_rfl) allP_nil ?_
                refine rf [(2, bS (tq == 0))] [(0, .row 24 [iS c0_Next1, .own 4 0 c4q1.length]), (1, .row 28 (Enc.cells c1q1)), (2, .row 28 (Enc.cells c2q1)), (3, .row 3 (fl c3q1)), (4, .row 3 (fl c4q1))] 5 (by kernel_rfl) ?_
                exact hK1067 ((tq == 0)) _ _ _ h (leSt_m [] [] (by (try simp only [g1069]) <;> simp only [push_cast, seval]) (by (try simp only [g1069]) <;> simp only [push_cast, seval]) rfl rfl rfl)
              · refine rs 4 [] [] (by kernel_rfl) allP_nil ?_
                refine rf [(2, bS false)] [(0, .row 24 [iS c0_Next1, .own 4 0 c4q1.length]), (1, .row 28 (Enc.cells c1q1)), (2, .row 28 (Enc.cells c2q1)), (3, .row 3 (fl c3q1)), (4, .row 3 (fl c4q1))] 5 (by kernel_rfl) ?_
                exact hK1067 (false) _ _ _ h (leSt_m [] [] (by (try simp only [g1069]) <;> simp only [push_cast, seval]) (by (try simp only [g1069]) <;> simp only [push_cast, seval]) rfl rfl rfl)
            · rintro t2q3 h
              try dsimp only at h ⊢
              unfold taskmilllaw_RingTakes_j1 at h
              obtain rfl := Option.some.inj h
              refine ret_at (bS t2q3) (by kernel_rfl) ?_
              exact ret_e [] [] (by simp only [push_cast, seval]) (by simp only [push_cast, seval]) rfl rfl rfl
          · refine wk_id ?_
            refine chk_sx h (fun g1080 h => ?_)
            refine seq_cut (A := Bool) (fun a => ([(2, bS a)], [], 0)) (fun a => (taskmilllaw_RingTakes_j2 a) = some r) (fun K1078 hK1078 => ?_) ?_
            · refine reg_t ?_
              have k1079 : 0 ≤ (0 : Int) ∧ (0 : Int) < ((c3q1.length : Nat) : Int) := by first | simpa only [Bool.and_eq_true, decide_eq_true_eq, bne_iff_ne, ne_eq] using g1080 | (simp at g1080 ⊢; omega)
              refine rs 6 [none, none, some ⟨.ptr 3 (0 + ((0 : Int)).toNat * 1), [], 7, [3]⟩, some ⟨iS (ix c3q1 (0 : Int)), [], 8, [3]⟩] _ (by kernel_rfl) (allP_cons (ob_ld c3q1 (0 : Int) 1 0 (0 + ((0 : Int)).toNat * 1) k1079 rfl (by decide) (by first | rfl | omega) (dflS Try.prog 3) (iS (ix c3q1 (0 : Int))) rfl 8 [3]) (allP_cons (ob_ix_o 3 c3q1.length 0 1 7 0 k1079) allP_nil)) ?_
              refine run_br h 51 (.inl (by kernel_rfl)) (fun g1081 h => ?_) (fun g1081 h => ?_)
              · refine rs 5 [] [] (by kernel_rfl) allP_nil ?_
                refine run_br h 56 (.inl (by kernel_rfl)) (fun g1082 h => ?_) (fun g1082 h => ?_)
                · refine chk_sx h (fun g1084 h => ?_)
                  have k1083 : 0 ≤ (1 : Int) ∧ (1 : Int) ≤ ((c3q1.length : Nat) : Int) ∧ ((c3q1.length : Nat) : Int) ≤ ((c3q1.length : Nat) : Int) := by first | simpa only [Bool.and_eq_true, decide_eq_true_eq, bne_iff_ne, ne_eq] using g1084 | (simp at g1084 ⊢; omega)
                  refine rs 4 [none, none, none, some ⟨.own 3 (((1 : Int)).toNat * 1) (cut c3q1 (1 : Int) ((c3q1.length : Nat) : Int)).length, [], 19, [3]⟩] _ (by kernel_rfl) (allP_cons (ob_cutP (P := Try.prog) c3q1 (1 : Int) ((c3q1.length : Nat) : Int) 1 19 3 3 (by kernel_rfl) k1083) allP_nil) ?_
                  obtain ⟨r1085, hr1085, h⟩ := bind_sx h
                  refine call_x (taskmillref_Ints_spec c4q1 (cut c3q1 (1 : Int) ((c3q1.length : Nat) : Int)) r1085 hr1085) (args := [.own 4 0 c4q1.length, .own 3 (((1 : Int)).toNat * 1) (cut c3q1 (1 : Int) ((c3q1.length : Nat) : Int)).length]) (dst := (some 61)) (by kernel_rfl) [(0, .row 24 [iS c0_Next1, .own 4 0 c4q1.length]), (1, .row 28 (Enc.cells c1q1)), (2, .row 28 (Enc.cells c2q1)), (3, .row 3 (fl c3q1)), (4, .row 3 (fl c4q1))] 20 (by kernel_rfl) [] [3, 4] (bS r1085) [] (by simp only [push_cast, seval]) (by simp only [push_cast, seval]) (by kernel_rfl) (.inr ⟨by simp only [push_cast, seval], by simp only [push_cast, seval]⟩) (by simp only [push_cast, seval]) (by simp only [push_cast, seval]) ?_
                  refine rs 2 [] [] (by kernel_rfl) allP_nil ?_
                  refine rt [(2, bS r1085)] [(0, .row 24 [iS c0_Next1, .own 4 0 c4q1.length]), (1, .row 28 (Enc.cells c1q1)), (2, .row 28 (Enc.cells c2q1)), (3, .row 3 (fl c3q1)), (4, .row 3 (fl c4q1))] 23 follows (by kernel_rfl) ?_
                  exact hK1078 (r1085) _ _ _ h (leSt_m [] [] (by (try simp only [g1081, g1082]) <;> simp only [push_cast, seval]) (by (try simp only [g1081, g1082]) <;> simp only [push_cast, seval]) rfl rfl rfl)
                · refine rs 7 [] [] (by kernel_rfl) allP_nil ?_
                  refine rt [(2, bS false)] [(0, .row 24 [iS c0_Next1, .own 4 0 c4q1.length]), (1, .row 28 (Enc.cells c1q1)), (2, .row 28 (Enc.cells c2q1)), (3, .row 3 (fl c3q1)), (4, .row 3 (fl c4q1))] 23 follows (by kernel_rfl) ?_
                  exact hK1078 (false) _ _ _ h (leSt_m [] [] (by (try simp only [g1081, g1082]) <;> simp only [push_cast, seval]) (by (try simp only [g1081, g1082]) <;> simp only [push_cast, seval]) rfl rfl rfl)
              · refine rs 12 [] [] (by kernel_rfl) allP_nil ?_
                refine rt [(2, bS false)] [(0, .row 24 [iS c0_Next1, .own 4 0 c4q1.length]), (1, .row 28 (Enc.cells c1q1)), (2, .row 28 (Enc.cells c2q1)), (3, .row 3 (fl c3q1)), (4, .row 3 (fl c4q1))] 23 follows (by kernel_rfl) ?_
                exact hK1078 (false) _ _ _ h (leSt_m [] [] (by (try simp only [g1081]) <;> simp only [push_cast, seval]) (by (try simp only [g1081]) <;> simp only [push_cast, seval]) rfl rfl rfl)
            · rintro t2q4 h
              try dsimp only at h ⊢
              unfold taskmilllaw_RingTakes_j2 at h
              obtain rfl := Option.some.inj h
              refine ret_at (bS t2q4) (by kernel_rfl) ?_
              exact ret_e [] [] (by simp only [push_cast, seval]) (by simp only [push_cast, seval]) rfl rfl rfl

set_option maxRecDepth 100000 in
set_option maxHeartbeats 10000000 in
theorem taskmilllaw_RingOrder_spec (n : Int) (r : Bool) (h : taskmilllaw_RingOrder n = some r) : SpecW Try.prog 5 [iS n] [] 0 (fun x h n => x = bS r ∧ h = [] ∧ n = 0) := by
  unfold taskmilllaw_RingOrder at h
  refine spec_of (draw_ok _) Try.func5 rfl (by decide) rfl (by kernel_rfl) ?_
  refine seq_np ?_
  refine reg_f ?_
  refine rs 1 [] [] (by kernel_rfl) allP_nil ?_
  refine rf [(0, iS n)] [] 0 (by kernel_rfl) ?_
  refine wk_id ?_
  refine seq_np ?_
  refine seq_np ?_
  refine reg_f ?_
  obtain ⟨r1125, hr1125, h⟩ := bind_sx h
  refine run_call 11 [] (some 15) (by kernel_rfl) ?_
  refine call_0 (taskmilllaw_ringBegun_spec r1125 hr1125) (by simp only [push_cast, seval]) (by simp only [push_cast, seval]) ?_
  refine back_f ?_
  refine rs 1 [] [] (by kernel_rfl) allP_nil ?_
  refine rf [(0, iS n), (16, bS (!r1125))] [] 0 (by kernel_rfl) ?_
  refine wk_id ?_
  refine cond_sx h (by kernel_rfl) (fun g1238 h => ?_) (fun g1238 h => ?_)
  · refine seq_np ?_
    refine reg_f ?_
    refine rs 1 [] [] (by kernel_rfl) allP_nil ?_
    refine rf [(2, bS false)] [] 0 (by kernel_rfl) ?_
    refine wk_id ?_
    obtain rfl := Option.some.inj h
    refine ret_at (bS false) (by kernel_rfl) ?_
    exact ret_e [] [] (by simp only [push_cast, seval]) (by simp only [push_cast, seval]) rfl rfl rfl
  · refine wk_id ?_
    refine seq_np ?_
    refine seq_cut (A := Unit) (fun _ => ([(0, iS n), (22, bS ((decide (n < 0)) || (decide ((256 : Int) < n))))], [], 0)) (fun _ => True) (fun K1129 hK1129 => ?_) (fun _ _ => ?_)
    · refine reg_f ?_
      refine rs 3 [] [] (by kernel_rfl) allP_nil ?_
      refine run_split 19 (decide (n < 0)) (.inl (by kernel_rfl)) (fun g1130 => ?_) (fun g1130 => ?_)
      · refine rs 3 [] [] (by kernel_rfl) allP_nil ?_
        refine rf [(0, iS n), (22, bS true)] [] 0 (by kernel_rfl) ?_
        exact hK1129 () _ _ _ trivial (leSt_m [] [] (by (try simp only [g1130]) <;> simp only [push_cast, seval]) (by (try simp only [g1130]) <;> simp only [push_cast, seval]) rfl rfl rfl)
      · refine rs 3 [] [] (by kernel_rfl) allP_nil ?_
        refine rf [(0, iS n), (22, bS (decide ((256 : Int) < n)))] [] 0 (by kernel_rfl) ?_
        exact hK1129 () _ _ _ trivial (leSt_m [] [] (by (try simp only [g1130]) <;> simp only [push_cast, seval]) (by (try simp only [g1130]) <;> simp only [push_cast, seval]) rfl rfl rfl)
    · dsimp only
      refine cond_sx h (by kernel_rfl) (fun g1237 h => ?_) (fun g1237 h => ?_)
      · refine seq_np ?_
        refine reg_f ?_
        refine rs 1 [] [] (by kernel_rfl) allP_nil ?_
        refine rf [(2, bS true)] [] 0 (by kernel_rfl) ?_
        refine wk_id ?_
        obtain rfl := Option.some.inj h
        refine ret_at (bS true) (by kernel_rfl) ?_
        exact ret_e [] [] (by simp only [push_cast, seval]) (by simp only [push_cast, seval]) rfl rfl rfl
      · refine wk_id ?_
        refine seq_np ?_
        refine reg_f ?_
        refine rs 3 [] [] (by kernel_rfl) allP_nil ?_
        refine rf [(0, iS n), (3, .ptr 0 0)] [(0, .row 24 [iS 0, .v (.slice none 0 0)])] 1 (by kernel_rfl) ?_
        refine wk_id ?_
        refine seq_np ?_
        refine seq_np ?_
        refine reg_f ?_
        refine rs 1 [] [] (by kernel_rfl) allP_nil ?_
        refine rf [(0, iS n), (3, .ptr 0 0), (4, iS 1)] [(0, .row 24 [iS 0, .v (.slice none 0 0)])] 1 (by kernel_rfl) ?_
        refine wk_id ?_
        refine block_np ?_
        refine loop_sx (S := Int × Int × (List Int)) (fun a => ([(0, iS n), (3, .ptr 0 0), (4, iS a.1)], [(0, .row 24 [iS a.2.1, .own 1 0 a.2.2.length]), (1, .row 3 (fl a.2.2))], 2)) h (leSt_m [(0, 0)] [] (by simp only [push_cast, seval]) (by simp only [push_cast, seval]) rfl rfl rfl) ?_
        rintro ⟨t9, c0_Next9, c1q9⟩ o3 R3 h hr3 hn3 hx3 ht3
        try dsimp only at h hn3 ⊢
        unfold taskmilllaw_RingOrder_l2 at h
        try dsimp only at h
        refine seq_np ?_
        refine seq_np ?_
        refine reg_f ?_
        refine rs 3 [] [] (by kernel_rfl) allP_nil ?_
        refine rf [(0, iS n), (3, .ptr 0 0), (4, iS t9), (26, bS (decide (t9 ≤ n)))] [(0, .row 24 [iS c0_Next9, .own 1 0 c1q9.length]), (1, .row 3 (fl c1q9))] 2 (by kernel_rfl) ?_
        refine wk_id ?_
        refine cond_sx h (by kernel_rfl) (fun g1236 h => ?_) (fun g1236 h => ?_)
        · refine wk_id ?_
          refine seq_np ?_
          refine block_np ?_
          refine seq_np ?_
          refine reg_f ?_
          refine rs 2 [] [] (by kernel_rfl) allP_nil ?_
          obtain ⟨r1174, hr1174, h⟩ := bind_sx h
          refine call_x (ring_Put_spec (Ring.mk c0_Next9 c1q9) t9 false r1174 hr1174) (args := [.agg [iS c0_Next9, .own 1 0 c1q9.length], iS t9, bS false]) (dst := (some 32)) (by kernel_rfl) [(0, .row 24 [iS c0_Next9, .own 1 0 c1q9.length]), (1, .row 3 (fl c1q9))] 2 (by kernel_rfl) [] [1] (.tup [.agg [iS r1174.1, .own 2 0 r1174.2.2.1.length], .own 3 0 r1174.2.2.2.length, .agg (Enc.cells r1174.2.1)]) [(2, .row 3 (fl r1174.2.2.1)), (3, .row 3 (fl r1174.2.2.2))] (by simp only [push_cast, seval]) (by simp only [push_cast, seval]) (by kernel_rfl) (.inr ⟨by simp only [push_cast, seval], by simp only [push_cast, seval]⟩) (by simp only [push_cast, seval]) (by simp only [push_cast, seval]) ?_
          refine rs 9 [] [] (by kernel_rfl) allP_nil ?_
          refine rf [(0, iS n), (3, .ptr 0 0), (4, iS t9), (5, .ptr 4 0), (6, .own 3 0 r1174.2.2.2.length), (7, .ptr 5 0)] [(0, .row 24 [iS c0_Next9, .own 1 0 c1q9.length]), (1, .row 3 (fl c1q9)), (2, .row 3 (fl r1174.2.2.1)), (3, .row 3 (fl r1174.2.2.2)), (4, .row 24 [iS r1174.1, .own 2 0 r1174.2.2.1.length]), (5, .row 28 (Enc.cells r1174.2.1))] 6 (by kernel_rfl) ?_
          refine wk_id ?_
          refine seq_np ?_
          refine seq_cut (A := Unit) (fun _ => ([(0, iS n), (3, .ptr 0 0), (4, iS t9), (5, .ptr 4 0), (43, bS ((r1174.2.1.Code != 0) || (decide ((0 : Int) < ((r1174.2.2.2.length : Nat) : Int)))))], [(0, .row 24 [iS c0_Next9, .own 1 0 c1q9.length]), (1, .row 3 (fl c1q9)), (2, .row 3 (fl r1174.2.2.1)), (3, .row 3 (fl r1174.2.2.2)), (4, .row 24 [iS r1174.1, .own 2 0 r1174.2.2.1.length]), (5, .row 28 (Enc.cells r1174.2.1))], 6)) (fun _ => True) (fun K1178 hK1178 => ?_) (fun _ _ => ?_)
          · refine reg_f ?_
            refine rs 4 [] [] (by kernel_rfl) allP_nil ?_
            refine run_split 39 (r1174.2.1.Code != 0) (.inl (by kernel_rfl)) (fun g1179 => ?_) (fun g1179 => ?_)
            · refine rs 4 [] [] (by kernel_rfl) allP_nil ?_
              refine rf [(0, iS n), (3, .ptr 0 0), (4, iS t9), (5, .ptr 4 0), (43, bS true)] [(0, .row 24 [iS c0_Next9, .own 1 0 c1q9.length]), (1, .row 3 (fl c1q9)), (2, .row 3 (fl r1174.2.2.1)), (3, .row 3 (fl r1174.2.2.2)), (4, .row 24 [iS r1174.1, .own 2 0 r1174.2.2.1.length]), (5, .row 28 (Enc.cells r1174.2.1))] 6 (by kernel_rfl) ?_
              exact hK1178 () _ _ _ trivial (leSt_m [(0, 0), (1, 1), (2, 2), (3, 3), (4, 4), (5, 5)] [] (by (try simp only [g1179]) <;> simp only [push_cast, seval]) (by (try simp only [g1179]) <;> simp only [push_cast, seval]) rfl rfl rfl)
            · refine rs 4 [] [] (by kernel_rfl) allP_nil ?_
              refine rf [(0, iS n), (3, .ptr 0 0), (4, iS t9), (5, .ptr 4 0), (43, bS (decide ((0 : Int) < ((r1174.2.2.2.length : Nat) : Int))))] [(0, .row 24 [iS c0_Next9, .own 1 0 c1q9.length]), (1, .row 3 (fl c1q9)), (2, .row 3 (fl r1174.2.2.1)), (3, .row 3 (fl r1174.2.2.2)), (4, .row 24 [iS r1174.1, .own 2 0 r1174.2.2.1.length]), (5, .row 28 (Enc.cells r1174.2.1))] 6 (by kernel_rfl) ?_
              exact hK1178 () _ _ _ trivial (leSt_m [(0, 0), (1, 1), (2, 2), (3, 3), (4, 4), (5, 5)] [] (by (try simp only [g1179]) <;> simp only [push_cast, seval]) (by (try simp only [g1179]) <;> simp only [push_cast, seval]) rfl rfl rfl)
          · dsimp only
            refine cond_sx h (by kernel_rfl) (fun g1180 h => ?_) (fun g1180 h => ?_)
            · refine seq_np ?_
              refine reg_f ?_
              refine rs 1 [] [] (by kernel_rfl) allP_nil ?_
              refine rf [(2, bS false)] [(0, .row 24 [iS c0_Next9, .own 1 0 c1q9.length]), (1, .row 3 (fl c1q9)), (2, .row 3 (fl r1174.2.2.1)), (3, .row 3 (fl r1174.2.2.2)), (4, .row 24 [iS r1174.1, .own 2 0 r1174.2.2.1.length]), (5, .row 28 (Enc.cells r1174.2.1))] 6 (by kernel_rfl) ?_
              refine wk_id ?_
              refine rt_cast ht3 ?_
              obtain ⟨r0, h, e0⟩ := map_sx h
              have e1 := hr3 r0 e0.symm
              subst r0
              obtain rfl := Option.some.inj h
              refine ret_at (bS false) (by kernel_rfl) ?_
              exact ret_e [] [] (by simp only [push_cast, seval]) (by simp only [push_cast, seval]) rfl rfl rfl
            · refine wk_id ?_
              refine reg_f ?_
              refine rs 2 [] [] (by kernel_rfl) allP_nil ?_
              refine rf [(0, iS n), (3, .ptr 0 0), (4, iS t9)] [(0, .row 24 [iS r1174.1, .own 2 0 r1174.2.2.1.length]), (1, .row 3 (fl c1q9)), (2, .row 3 (fl r1174.2.2.1)), (3, .row 3 (fl r1174.2.2.2)), (4, .row 24 [iS r1174.1, .own 2 0 r1174.2.2.1.length]), (5, .row 28 (Enc.cells r1174.2.1))] 6 (by kernel_rfl) ?_
              refine wk_id ?_
              refine wk_id ?_
              refine reg_f ?_
              refine rs 3 [] [] (by kernel_rfl) allP_nil ?_
              refine rf [(0, iS n), (3, .ptr 0 0), (4, iS (IntKind.i64.wrap (t9 + 1)))] [(0, .row 24 [iS r1174.1, .own 2 0 r1174.2.2.1.length]), (1, .row 3 (fl c1q9)), (2, .row 3 (fl r1174.2.2.1)), (3, .row 3 (fl r1174.2.2.2)), (4, .row 24 [iS r1174.1, .own 2 0 r1174.2.2.1.length]), (5, .row 28 (Enc.cells r1174.2.1))] 6 (by kernel_rfl) ?_
              exact hn3 ((IntKind.i64.wrap (t9 + 1)), r1174.1, r1174.2.2.1) _ _ _ (Option.some.inj h).symm (leSt_m [(0, 0), (1, 2)] [] (by simp only [push_cast, seval]) (by simp only [push_cast, seval]) rfl rfl rfl)
        · refine ex_cast hx3 (id := 0) ?_
          obtain ⟨r0, h, e0⟩ := map_sx h
          have e1 := hr3 r0 e0.symm
          subst r0
          refine wk_id ?_
          refine wk_id ?_
          refine seq_np ?_
          refine seq_np ?_
          refine reg_f ?_
          refine rs 1 [] [] (by kernel_rfl) allP_nil ?_
          refine rf [(0, iS n), (3, .ptr 0 0), (8, iS 1)] [(0, .row 24 [iS c0_Next9, .own 1 0 c1q9.length]), (1, .row 3 (fl c1q9))] 2 (by kernel_rfl) ?_
          refine wk_id ?_
          refine block_np ?_
          refine loop_sx (S := Int × Int × (List Int)) (fun a => ([(0, iS n), (3, .ptr 0 0), (8, iS a.1)], [(0, .row 24 [iS a.2.1, .own 1 0 a.2.2.length]), (1, .row 3 (fl a.2.2))], 2)) h (leSt_m [(0, 0), (1, 1)] [] (by simp only [push_cast, seval]) (by simp only [push_cast, seval]) rfl rfl rfl) ?_
          rintro ⟨t15, c0_Next15, c1q15⟩ o4 R4 h hr4 hn4 hx4 ht4
          try dsimp only at h hn4 ⊢
          unfold taskmilllaw_RingOrder_l1 at h
          try dsimp only at h
          refine seq_np ?_
          refine seq_np ?_
          refine reg_f ?_
          refine rs 3 [] [] (by kernel_rfl) allP_nil ?_
          refine rf [(0, iS n), (3, .ptr 0 0), (8, iS t15), (47, bS (decide (t15 ≤ n)))] [(0, .row 24 [iS c0_Next15, .own 1 0 c1q15.length]), (1, .row 3 (fl c1q15))] 2 (by kernel_rfl) ?_
          refine wk_id ?_
          refine cond_sx h (by kernel_rfl) (fun g1235 h => ?_) (fun g1235 h => ?_)
          · refine wk_id ?_
            refine seq_np ?_
            refine block_np ?_
            refine seq_np ?_
            refine reg_f ?_
            refine rs 1 [] [] (by kernel_rfl) allP_nil ?_
            obtain ⟨r1224, hr1224, h⟩ := bind_sx h
            refine call_x (ring_Take_spec (Ring.mk c0_Next15 c1q15) r1224 hr1224) (args := [.agg [iS c0_Next15, .own 1 0 c1q15.length]]) (dst := (some 52)) (by kernel_rfl) [(0, .row 24 [iS c0_Next15, .own 1 0 c1q15.length]), (1, .row 3 (fl c1q15))] 2 (by kernel_rfl) [] [1] (.tup [.agg [iS r1224.1, .own 2 0 r1224.2.2.2.length], iS r1224.2.1, .agg (Enc.cells r1224.2.2.1)]) [(2, .row 3 (fl r1224.2.2.2))] (by simp only [push_cast, seval]) (by simp only [push_cast, seval]) (by kernel_rfl) (.inr ⟨by simp only [push_cast, seval], by simp only [push_cast, seval]⟩) (by simp only [push_cast, seval]) (by simp only [push_cast, seval]) ?_
            refine rs 9 [] [] (by kernel_rfl) allP_nil ?_
            refine rf [(0, iS n), (3, .ptr 0 0), (8, iS t15), (9, .ptr 3 0), (10, iS r1224.2.1), (11, .ptr 4 0)] [(0, .row 24 [iS c0_Next15, .own 1 0 c1q15.length]), (1, .row 3 (fl c1q15)), (2, .row 3 (fl r1224.2.2.2)), (3, .row 24 [iS r1224.1, .own 2 0 r1224.2.2.2.length]), (4, .row 28 (Enc.cells r1224.2.2.1))] 5 (by kernel_rfl) ?_
            refine wk_id ?_
            refine seq_np ?_
            refine seq_cut (A := Unit) (fun _ => ([(0, iS n), (3, .ptr 0 0), (8, iS t15), (9, .ptr 3 0), (63, bS ((r1224.2.2.1.Code != 0) || (r1224.2.1 != t15)))], [(0, .row 24 [iS c0_Next15, .own 1 0 c1q15.length]), (1, .row 3 (fl c1q15)), (2, .row 3 (fl r1224.2.2.2)), (3, .row 24 [iS r1224.1, .own 2 0 r1224.2.2.2.length]), (4, .row 28 (Enc.cells r1224.2.2.1))], 5)) (fun _ => True) (fun K1228 hK1228 => ?_) (fun _ _ => ?_)
            · refine reg_f ?_
              refine rs 4 [] [] (by kernel_rfl) allP_nil ?_
              refine run_split 59 (r1224.2.2.1.Code != 0) (.inl (by kernel_rfl)) (fun g1229 => ?_) (fun g1229 => ?_)
              · refine rs 4 [] [] (by kernel_rfl) allP_nil ?_
                refine rf [(0, iS n), (3, .ptr 0 0), (8, iS t15), (9, .ptr 3 0), (63, bS true)] [(0, .row 24 [iS c0_Next15, .own 1 0 c1q15.length]), (1, .row 3 (fl c1q15)), (2, .row 3 (fl r1224.2.2.2)), (3, .row 24 [iS r1224.1, .own 2 0 r1224.2.2.2.length]), (4, .row 28 (Enc.cells r1224.2.2.1))] 5 (by kernel_rfl) ?_
                exact hK1228 () _ _ _ trivial (leSt_m [(0, 0), (1, 1), (2, 2), (3, 3), (4, 4)] [] (by (try simp only [g1229]) <;> simp only [push_cast, seval]) (by (try simp only [g1229]) <;> simp only [push_cast, seval]) rfl rfl rfl)
              · refine rs 4 [] [] (by kernel_rfl) allP_nil ?_
                refine rf [(0, iS n), (3, .ptr 0 0), (8, iS t15), (9, .ptr 3 0), (63, bS (r1224.2.1 != t15))] [(0, .row 24 [iS c0_Next15, .own 1 0 c1q15.length]), (1, .row 3 (fl c1q15)), (2, .row 3 (fl r1224.2.2.2)), (3, .row 24 [iS r1224.1, .own 2 0 r1224.2.2.2.length]), (4, .row 28 (Enc.cells r1224.2.2.1))] 5 (by kernel_rfl) ?_
                exact hK1228 () _ _ _ trivial (leSt_m [(0, 0), (1, 1), (2, 2), (3, 3), (4, 4)] [] (by (try simp only [g1229]) <;> simp only [push_cast, seval]) (by (try simp only [g1229]) <;> simp only [push_cast, seval]) rfl rfl rfl)
            · dsimp only
              refine cond_sx h (by kernel_rfl) (fun g1230 h => ?_) (fun g1230 h => ?_)
              · refine seq_np ?_
                refine reg_f ?_
                refine rs 1 [] [] (by kernel_rfl) allP_nil ?_
                refine rf [(2, bS false)] [(0, .row 24 [iS c0_Next15, .own 1 0 c1q15.length]), (1, .row 3 (fl c1q15)), (2, .row 3 (fl r1224.2.2.2)), (3, .row 24 [iS r1224.1, .own 2 0 r1224.2.2.2.length]), (4, .row 28 (Enc.cells r1224.2.2.1))] 5 (by kernel_rfl) ?_
                refine wk_id ?_
                refine rt_cast ht4 ?_
                obtain ⟨r0, h, e0⟩ := map_sx h
                have e1 := hr4 r0 e0.symm
                subst r0
                obtain rfl := Option.some.inj h
                refine ret_at (bS false) (by kernel_rfl) ?_
                exact ret_e [] [] (by simp only [push_cast, seval]) (by simp only [push_cast, seval]) rfl rfl rfl
              · refine wk_id ?_
                refine reg_f ?_
                refine rs 2 [] [] (by kernel_rfl) allP_nil ?_
                refine rf [(0, iS n), (3, .ptr 0 0), (8, iS t15)] [(0, .row 24 [iS r1224.1, .own 2 0 r1224.2.2.2.length]), (1, .row 3 (fl c1q15)), (2, .row 3 (fl r1224.2.2.2)), (3, .row 24 [iS r1224.1, .own 2 0 r1224.2.2.2.length]), (4, .row 28 (Enc.cells r1224.2.2.1))] 5 (by kernel_rfl) ?_
                refine wk_id ?_
                refine wk_id ?_
                refine reg_f ?_
                refine rs 3 [] [] (by kernel_rfl) allP_nil ?_
                refine rf [(0, iS n), (3, .ptr 0 0), (8, iS (IntKind.i64.wrap (t15 + 1)))] [(0, .row 24 [iS r1224.1, .own 2 0 r1224.2.2.2.length]), (1, .row 3 (fl c1q15)), (2, .row 3 (fl r1224.2.2.2)), (3, .row 24 [iS r1224.1, .own 2 0 r1224.2.2.2.length]), (4, .row 28 (Enc.cells r1224.2.2.1))] 5 (by kernel_rfl) ?_
                exact hn4 ((IntKind.i64.wrap (t15 + 1)), r1224.1, r1224.2.2.2) _ _ _ (Option.some.inj h).symm (leSt_m [(0, 0), (1, 2)] [] (by simp only [push_cast, seval]) (by simp only [push_cast, seval]) rfl rfl rfl)
          · refine ex_cast hx4 (id := 2) ?_
            obtain ⟨r0, h, e0⟩ := map_sx h
            have e1 := hr4 r0 e0.symm
            subst r0
            refine wk_id ?_
            refine wk_id ?_
            refine seq_np ?_
            refine reg_f ?_
            refine rs 1 [] [] (by kernel_rfl) allP_nil ?_
            obtain ⟨r1232, hr1232, h⟩ := bind_sx h
            refine call_x (ring_Take_spec (Ring.mk c0_Next15 c1q15) r1232 hr1232) (args := [.agg [iS c0_Next15, .own 1 0 c1q15.length]]) (dst := (some 67)) (by kernel_rfl) [(0, .row 24 [iS c0_Next15, .own 1 0 c1q15.length]), (1, .row 3 (fl c1q15))] 2 (by kernel_rfl) [] [1] (.tup [.agg [iS r1232.1, .own 2 0 r1232.2.2.2.length], iS r1232.2.1, .agg (Enc.cells r1232.2.2.1)]) [(2, .row 3 (fl r1232.2.2.2))] (by simp only [push_cast, seval]) (by simp only [push_cast, seval]) (by kernel_rfl) (.inr ⟨by simp only [push_cast, seval], by simp only [push_cast, seval]⟩) (by simp only [push_cast, seval]) (by simp only [push_cast, seval]) ?_
            refine rs 9 [] [] (by kernel_rfl) allP_nil ?_
            refine rf [(14, .ptr 4 0)] [(0, .row 24 [iS c0_Next15, .own 1 0 c1q15.length]), (1, .row 3 (fl c1q15)), (2, .row 3 (fl r1232.2.2.2)), (3, .row 24 [iS r1232.1, .own 2 0 r1232.2.2.2.length]), (4, .row 28 (Enc.cells r1232.2.2.1))] 5 (by kernel_rfl) ?_
            refine wk_id ?_
            refine seq_np ?_
            refine reg_t ?_
            refine rs 1 [] [] (by kernel_rfl) allP_nil ?_
            obtain ⟨r1234, hr1234, h⟩ := bind_sx h
            refine run_call 17 [iS 6, iS 0] (some 72) (by kernel_rfl) ?_
            refine callE_0 (taskmillref_F_spec 6 0 r1234 hr1234) (by simp only [push_cast, seval]) (by simp only [push_cast, seval]) ?_
            refine back_t ?_
            refine rs 2 [] [] (by kernel_rfl) allP_nil ?_
            refine rt [(2, bS ((r1232.2.2.1.Code == r1234.Code) && ((r1232.2.2.1.At == r1234.At) && true)))] [(0, .row 24 [iS c0_Next15, .own 1 0 c1q15.length]), (1, .row 3 (fl c1q15)), (2, .row 3 (fl r1232.2.2.2)), (3, .row 24 [iS r1232.1, .own 2 0 r1232.2.2.2.length]), (4, .row 28 (Enc.cells r1232.2.2.1))] 9 follows (by kernel_rfl) ?_
            refine wk_id ?_
            obtain rfl := Option.some.inj h
            refine ret_at (bS ((r1232.2.2.1.Code == r1234.Code) && ((r1232.2.2.1.At == r1234.At) && true))) (by kernel_rfl) ?_
            exact ret_e [] [] (by simp only [push_cast, seval]) (by simp only [push_cast, seval]) rfl rfl rfl

set_option maxRecDepth 100000 in
set_option maxHeartbeats 10000000 in
theorem taskmilllaw_RingNext_spec (q : Ring) (task : Int) (r : Bool) (h : taskmilllaw_RingNext q task = some r) : SpecW Try.prog 6 [.agg (Enc.cells q), iS task] [] 0 (fun x h n => x = bS r ∧ h = [] ∧ n = 0) := by
  unfold taskmilllaw_RingNext at h
  refine spec_of (draw_ok _) Try.func6 rfl (by decide) rfl (by kernel_rfl) ?_
  refine seq_np ?_
  refine reg_f ?_
  refine rs 2 [] [] (by kernel_rfl) allP_nil ?_
  refine rf [(1, iS task), (2, .ptr 0 0)] [(0, .row 24 (Enc.cells q))] 1 (by kernel_rfl) ?_
  refine wk_id ?_
  refine seq_np ?_
  refine seq_np ?_
  refine reg_f ?_
  obtain ⟨r1283, hr1283, h⟩ := bind_sx h
  refine run_call 11 [] (some 13) (by kernel_rfl) ?_
  refine call_0 (taskmilllaw_ringBegun_spec r1283 hr1283) (by simp only [push_cast, seval]) (by simp only [push_cast, seval]) ?_
  refine back_f ?_
  refine rs 1 [] [] (by kernel_rfl) allP_nil ?_
  refine rf [(1, iS task), (2, .ptr 0 0), (14, bS (!r1283))] [(0, .row 24 (Enc.cells q))] 1 (by kernel_rfl) ?_
  refine wk_id ?_
  refine cond_sx h (by kernel_rfl) (fun g1409 h => ?_) (fun g1409 h => ?_)
  · refine seq_np ?_
    refine reg_f ?_
    refine rs 1 [] [] (by kernel_rfl) allP_nil ?_
    refine rf [(4, bS false)] [(0, .row 24 (Enc.cells q))] 1 (by kernel_rfl) ?_
    refine wk_id ?_
    obtain rfl := Option.some.inj h
    refine ret_at (bS false) (by kernel_rfl) ?_
    exact ret_e [] [] (by simp only [push_cast, seval]) (by simp only [push_cast, seval]) rfl rfl rfl
  · refine wk_id ?_
    refine seq_np ?_
    refine seq_cut (A := Bool) (fun a => ([(1, iS task), (2, .ptr 0 0), (34, bS a)], [(0, .row 24 (Enc.cells q))], 1)) (fun a => (taskmilllaw_RingNext_j2 q task a) = some r) (fun K1300 hK1300 => ?_) ?_
    · refine reg_f ?_
      refine rs 5 [] [] (by kernel_rfl) allP_nil ?_
      refine run_br h 19 (.inl (by kernel_rfl)) (fun g1301 h => ?_) (fun g1301 h => ?_)
      · refine rs 15 [] [] (by kernel_rfl) allP_nil ?_
        refine rf [(1, iS task), (2, .ptr 0 0), (34, bS true)] [(0, .row 24 (Enc.cells q))] 1 (by kernel_rfl) ?_
        exact hK1300 (true) _ _ _ h (leSt_m [(0, 0)] [] (by (try simp only [g1301]) <;> simp only [push_cast, seval]) (by (try simp only [g1301]) <;> simp only [push_cast, seval]) rfl rfl rfl)
      · refine rs 1 [] [] (by kernel_rfl) allP_nil ?_
        obtain ⟨r1302, hr1302, h⟩ := bind_sx h
        refine run_call 15 [.agg (Enc.cells q)] (some 21) (by kernel_rfl) ?_
        refine call_0 (taskmillref_RingFault_spec q r1302 hr1302) (by simp only [push_cast, seval]) (by simp only [push_cast, seval]) ?_
        refine back_f ?_
        refine rs 4 [] [] (by kernel_rfl) allP_nil ?_
        refine run_br h 25 (.inl (by kernel_rfl)) (fun g1303 h => ?_) (fun g1303 h => ?_)
        · refine rs 9 [] [] (by kernel_rfl) allP_nil ?_
          refine rf [(1, iS task), (2, .ptr 0 0), (34, bS true)] [(0, .row 24 (Enc.cells q))] 1 (by kernel_rfl) ?_
          exact hK1300 (true) _ _ _ h (leSt_m [(0, 0)] [] (by (try simp only [g1301, g1303]) <;> simp only [push_cast, seval]) (by (try simp only [g1301, g1303]) <;> simp only [push_cast, seval]) rfl rfl rfl)
        · refine rs 4 [] [] (by kernel_rfl) allP_nil ?_
          refine run_br h 29 (.inl (by kernel_rfl)) (fun g1304 h => ?_) (fun g1304 h => ?_)
          · refine rs 5 [] [] (by kernel_rfl) allP_nil ?_
            refine rf [(1, iS task), (2, .ptr 0 0), (34, bS true)] [(0, .row 24 (Enc.cells q))] 1 (by kernel_rfl) ?_
            exact hK1300 (true) _ _ _ h (leSt_m [(0, 0)] [] (by (try simp only [g1301, g1303, g1304]) <;> simp only [push_cast, seval]) (by (try simp only [g1301, g1303, g1304]) <;> simp only [push_cast, seval]) rfl rfl rfl)
          · refine rs 1 [] [] (by kernel_rfl) allP_nil ?_
            obtain ⟨r1305, hr1305, h⟩ := bind_sx h
            refine call_x (taskmillref_Line_spec q r1305 hr1305) (args := [.agg (Enc.cells q)]) (dst := (some 31)) (by kernel_rfl) [(0, .row 24 (Enc.cells q))] 1 (by kernel_rfl) [] [] (.own 1 0 r1305.length) [(1, .row 3 (fl r1305))] (by simp only [push_cast, seval]) (by simp only [push_cast, seval]) (by kernel_rfl) (.inl rfl) (by simp only [push_cast, seval]) (by simp only [push_cast, seval]) ?_
            refine rs 1 [] [] (by kernel_rfl) allP_nil ?_
            obtain ⟨r1306, hr1306, h⟩ := bind_sx h
            refine call_x (taskmillref_Has_spec r1305 task r1306 hr1306) (args := [.own 1 0 r1305.length, iS task]) (dst := (some 33)) (by kernel_rfl) [(0, .row 24 (Enc.cells q)), (1, .row 3 (fl r1305))] 2 (by kernel_rfl) [] [1] (bS r1306) [] (by simp only [push_cast, seval]) (by simp only [push_cast, seval]) (by kernel_rfl) (.inr ⟨by simp only [push_cast, seval], by simp only [push_cast, seval]⟩) (by simp only [push_cast, seval]) (by simp only [push_cast, seval]) ?_
            refine rs 1 [] [] (by kernel_rfl) allP_nil ?_
            refine rf [(1, iS task), (2, .ptr 0 0), (34, bS r1306)] [(0, .row 24 (Enc.cells q)), (1, .row 3 (fl r1305))] 2 (by kernel_rfl) ?_
            exact hK1300 (r1306) _ _ _ h (leSt_m [(0, 0)] [] (by (try simp only [g1301, g1303, g1304]) <;> simp only [push_cast, seval]) (by (try simp only [g1301, g1303, g1304]) <;> simp only [push_cast, seval]) rfl rfl rfl)
    · rintro t34q2 h
      try dsimp only at h ⊢
      unfold taskmilllaw_RingNext_j2 at h
      refine cond_sx h (by kernel_rfl) (fun g1408 h => ?_) (fun g1408 h => ?_)
      · refine seq_np ?_
        refine reg_f ?_
        refine rs 1 [] [] (by kernel_rfl) allP_nil ?_
        refine rf [(4, bS true)] [(0, .row 24 (Enc.cells q))] 1 (by kernel_rfl) ?_
        refine wk_id ?_
        obtain rfl := Option.some.inj h
        refine ret_at (bS true) (by kernel_rfl) ?_
        exact ret_e [] [] (by simp only [push_cast, seval]) (by simp only [push_cast, seval]) rfl rfl rfl
      · refine wk_id ?_
        refine seq_np ?_
        refine reg_f ?_
        refine rs 2 [] [] (by kernel_rfl) allP_nil ?_
        obtain ⟨r1308, hr1308, h⟩ := bind_sx h
        refine call_x (ring_Put_spec q task true r1308 hr1308) (args := [.agg (Enc.cells q), iS task, bS true]) (dst := (some 38)) (by kernel_rfl) [(0, .row 24 (Enc.cells q))] 1 (by kernel_rfl) [] [] (.tup [.agg [iS r1308.1, .own 1 0 r1308.2.2.1.length], .own 2 0 r1308.2.2.2.length, .agg (Enc.cells r1308.2.1)]) [(1, .row 3 (fl r1308.2.2.1)), (2, .row 3 (fl r1308.2.2.2))] (by simp only [push_cast, seval]) (by simp only [push_cast, seval]) (by kernel_rfl) (.inl rfl) (by simp only [push_cast, seval]) (by simp only [push_cast, seval]) ?_
        refine rs 9 [] [] (by kernel_rfl) allP_nil ?_
        refine rf [(1, iS task), (2, .ptr 0 0), (5, .ptr 3 0), (6, .own 2 0 r1308.2.2.2.length), (7, .ptr 4 0)] [(0, .row 24 (Enc.cells q)), (1, .row 3 (fl r1308.2.2.1)), (2, .row 3 (fl r1308.2.2.2)), (3, .row 24 [iS r1308.1, .own 1 0 r1308.2.2.1.length]), (4, .row 28 (Enc.cells r1308.2.1))] 5 (by kernel_rfl) ?_
        refine wk_id ?_
        refine seq_np ?_
        refine seq_cut (A := Unit) (fun _ => ([(1, iS task), (2, .ptr 0 0), (5, .ptr 3 0), (49, bS ((r1308.2.1.Code != 0) || (decide ((0 : Int) < ((r1308.2.2.2.length : Nat) : Int)))))], [(0, .row 24 (Enc.cells q)), (1, .row 3 (fl r1308.2.2.1)), (2, .row 3 (fl r1308.2.2.2)), (3, .row 24 [iS r1308.1, .own 1 0 r1308.2.2.1.length]), (4, .row 28 (Enc.cells r1308.2.1))], 5)) (fun _ => True) (fun K1312 hK1312 => ?_) (fun _ _ => ?_)
        · refine reg_f ?_
          refine rs 4 [] [] (by kernel_rfl) allP_nil ?_
          refine run_split 45 (r1308.2.1.Code != 0) (.inl (by kernel_rfl)) (fun g1313 => ?_) (fun g1313 => ?_)
          · refine rs 4 [] [] (by kernel_rfl) allP_nil ?_
            refine rf [(1, iS task), (2, .ptr 0 0), (5, .ptr 3 0), (49, bS true)] [(0, .row 24 (Enc.cells q)), (1, .row 3 (fl r1308.2.2.1)), (2, .row 3 (fl r1308.2.2.2)), (3, .row 24 [iS r1308.1, .own 1 0 r1308.2.2.1.length]), (4, .row 28 (Enc.cells r1308.2.1))] 5 (by kernel_rfl) ?_
            exact hK1312 () _ _ _ trivial (leSt_m [(0, 0), (1, 1), (2, 2), (3, 3), (4, 4)] [] (by (try simp only [g1313]) <;> simp only [push_cast, seval]) (by (try simp only [g1313]) <;> simp only [push_cast, seval]) rfl rfl rfl)
          · refine rs 4 [] [] (by kernel_rfl) allP_nil ?_
            refine rf [(1, iS task), (2, .ptr 0 0), (5, .ptr 3 0), (49, bS (decide ((0 : Int) < ((r1308.2.2.2.length : Nat) : Int))))] [(0, .row 24 (Enc.cells q)), (1, .row 3 (fl r1308.2.2.1)), (2, .row 3 (fl r1308.2.2.2)), (3, .row 24 [iS r1308.1, .own 1 0 r1308.2.2.1.length]), (4, .row 28 (Enc.cells r1308.2.1))] 5 (by kernel_rfl) ?_
            exact hK1312 () _ _ _ trivial (leSt_m [(0, 0), (1, 1), (2, 2), (3, 3), (4, 4)] [] (by (try simp only [g1313]) <;> simp only [push_cast, seval]) (by (try simp only [g1313]) <;> simp only [push_cast, seval]) rfl rfl rfl)
        · dsimp only
          refine cond_sx h (by kernel_rfl) (fun g1407 h => ?_) (fun g1407 h => ?_)
          · refine seq_np ?_
            refine reg_f ?_
            refine rs 1 [] [] (by kernel_rfl) allP_nil ?_
            refine rf [(4, bS false)] [(0, .row 24 (Enc.cells q)), (1, .row 3 (fl r1308.2.2.1)), (2, .row 3 (fl r1308.2.2.2)), (3, .row 24 [iS r1308.1, .own 1 0 r1308.2.2.1.length]), (4, .row 28 (Enc.cells r1308.2.1))] 5 (by kernel_rfl) ?_
            refine wk_id ?_
            obtain rfl := Option.some.inj h
            refine ret_at (bS false) (by kernel_rfl) ?_
            exact ret_e [] [] (by simp only [push_cast, seval]) (by simp only [push_cast, seval]) rfl rfl rfl
          · refine wk_id ?_
            refine chk_sx h (fun g1317 h => ?_)
            refine seq_np ?_
            refine reg_f ?_
            have k1316 : (([task] : List Int) ++ q.List).length * 8 ≤ 140737488355328 := by first | simpa only [Bool.and_eq_true, decide_eq_true_eq, bne_iff_ne, ne_eq] using g1317 | (simp at g1317 ⊢; omega)
            refine rs 6 [none, none, none, none, some ⟨.own 6 0 (([task] : List Int) ++ q.List).length, [(6, .row 3 (fl (([task] : List Int) ++ q.List))), (5, .dead)], 7, [5]⟩] _ (by kernel_rfl) (allP_cons (ob_app (P := Try.prog) ([task] : List Int) q.List 1 8 rfl (fl q.List) q.List.length rfl rfl ((fl q.List).length = q.List.length * 1) (app_sl q.List 1 rfl) 3 (by kernel_rfl) (by decide) k1316 5 6 []) allP_nil) ?_
            refine rf [(2, .ptr 0 0), (5, .ptr 3 0), (8, .own 6 0 (([task] : List Int) ++ q.List).length)] [(0, .row 24 (Enc.cells q)), (1, .row 3 (fl r1308.2.2.1)), (2, .row 3 (fl r1308.2.2.2)), (3, .row 24 [iS r1308.1, .own 1 0 r1308.2.2.1.length]), (4, .row 28 (Enc.cells r1308.2.1)), (5, .dead), (6, .row 3 (fl (([task] : List Int) ++ q.List)))] 7 (by kernel_rfl) ?_
            refine wk_id ?_
            refine seq_cut (A := Int × (List Int) × (List Int)) (fun a => ([(5, .ptr 0 0), (8, .own 1 0 a.2.1.length)], [(0, .row 24 [iS a.1, .own 2 0 a.2.2.length]), (1, .row 3 (fl a.2.1)), (2, .row 3 (fl a.2.2))], 3)) (fun a => (taskmilllaw_RingNext_j1 a.1 a.2.1 a.2.2) = some r) (fun K1322 hK1322 => ?_) ?_
            · refine seq_np ?_
              refine reg_f ?_
              refine rs 3 [] [] (by kernel_rfl) allP_nil ?_
              refine rf [(2, .ptr 0 0), (5, .ptr 3 0), (8, .own 6 0 (([task] : List Int) ++ q.List).length), (57, bS (decide ((0 : Int) < q.Next)))] [(0, .row 24 (Enc.cells q)), (1, .row 3 (fl r1308.2.2.1)), (2, .row 3 (fl r1308.2.2.2)), (3, .row 24 [iS r1308.1, .own 1 0 r1308.2.2.1.length]), (4, .row 28 (Enc.cells r1308.2.1)), (5, .dead), (6, .row 3 (fl (([task] : List Int) ++ q.List)))] 7 (by kernel_rfl) ?_
              refine wk_id ?_
              refine cond_sx h (by kernel_rfl) (fun g1327 h => ?_) (fun g1327 h => ?_)
              · refine chk_sx h (fun g1326 h => ?_)
                refine reg_f ?_
                have k1325 : ((([task] : List Int) ++ q.List) ++ ([q.Next] : List Int)).length * 8 ≤ 140737488355328 := by first | simpa only [Bool.and_eq_true, decide_eq_true_eq, bne_iff_ne, ne_eq] using g1326 | (simp at g1326 ⊢; omega)
                refine rs 6 [none, none, none, none, some ⟨.own 8 0 ((([task] : List Int) ++ q.List) ++ ([q.Next] : List Int)).length, [(8, .row 3 (fl ((([task] : List Int) ++ q.List) ++ ([q.Next] : List Int)))), (6, .dead)], 9, [6, 7]⟩] _ (by kernel_rfl) (allP_cons (ob_app (P := Try.prog) (([task] : List Int) ++ q.List) ([q.Next] : List Int) 1 8 rfl (appCells (fl ([q.Next] : List Int)) 0 (([q.Next] : List Int).length * 1)) ([q.Next] : List Int).length (app_own ([q.Next] : List Int) 1 rfl) rfl (0 + ([q.Next] : List Int).length * 1 ≤ (fl ([q.Next] : List Int)).length) (app_own_le ([q.Next] : List Int) 1 rfl) 3 (by kernel_rfl) (by decide) k1325 6 8 [7]) allP_nil) ?_
                refine rf [(5, .ptr 3 0), (8, .own 8 0 ((([task] : List Int) ++ q.List) ++ ([q.Next] : List Int)).length)] [(0, .row 24 (Enc.cells q)), (1, .row 3 (fl r1308.2.2.1)), (2, .row 3 (fl r1308.2.2.2)), (3, .row 24 [iS r1308.1, .own 1 0 r1308.2.2.1.length]), (4, .row 28 (Enc.cells r1308.2.1)), (5, .dead), (6, .dead), (7, .row 3 (fl ([q.Next] : List Int))), (8, .row 3 (fl ((([task] : List Int) ++ q.List) ++ ([q.Next] : List Int))))] 9 (by kernel_rfl) ?_
                exact hK1322 (r1308.1, ((([task] : List Int) ++ q.List) ++ ([q.Next] : List Int)), r1308.2.2.1) _ _ _ h (leSt_m [(0, 3), (1, 8), (2, 1)] [] (by simp only [push_cast, seval]) (by simp only [push_cast, seval]) rfl rfl rfl)
              · exact hK1322 (r1308.1, (([task] : List Int) ++ q.List), r1308.2.2.1) _ _ _ h (leSt_m [(0, 3), (1, 6), (2, 1)] [] (by simp only [push_cast, seval]) (by simp only [push_cast, seval]) rfl rfl rfl)
            · rintro ⟨c0_Next3, c1q1, c2q3⟩ h
              try dsimp only at h ⊢
              unfold taskmilllaw_RingNext_j1 at h
              refine seq_np ?_
              refine seq_np ?_
              refine reg_f ?_
              refine rs 1 [] [] (by kernel_rfl) allP_nil ?_
              refine rf [(5, .ptr 0 0), (8, .own 1 0 c1q1.length), (9, iS 0)] [(0, .row 24 [iS c0_Next3, .own 2 0 c2q3.length]), (1, .row 3 (fl c1q1)), (2, .row 3 (fl c2q3))] 3 (by kernel_rfl) ?_
              refine wk_id ?_
              refine block_np ?_
              refine loop_sx (S := Int × Int × (List Int)) (fun a => ([(5, .ptr 0 0), (8, .own 1 0 c1q1.length), (9, iS a.1)], [(0, .row 24 [iS a.2.1, .own 2 0 a.2.2.length]), (1, .row 3 (fl c1q1)), (2, .row 3 (fl a.2.2))], 3)) h (leSt_m [(0, 0), (1, 1), (2, 2)] [] (by simp only [push_cast, seval]) (by simp only [push_cast, seval]) rfl rfl rfl) ?_
              rintro ⟨i7, c0_Next9, c2q9⟩ o2 R2 h hr2 hn2 hx2 ht2
              try dsimp only at h hn2 ⊢
              unfold taskmilllaw_RingNext_l1 at h
              try dsimp only at h
              refine seq_np ?_
              refine seq_np ?_
              refine reg_f ?_
              refine rs 4 [] [] (by kernel_rfl) allP_nil ?_
              refine rf [(5, .ptr 0 0), (8, .own 1 0 c1q1.length), (9, iS i7), (66, bS (decide (i7 < ((c1q1.length : Nat) : Int))))] [(0, .row 24 [iS c0_Next9, .own 2 0 c2q9.length]), (1, .row 3 (fl c1q1)), (2, .row 3 (fl c2q9))] 3 (by kernel_rfl) ?_
              refine wk_id ?_
              refine cond_sx h (by kernel_rfl) (fun g1406 h => ?_) (fun g1406 h => ?_)
              · refine wk_id ?_
                refine seq_np ?_
                refine block_np ?_
                refine seq_np ?_
                refine reg_f ?_
                refine rs 1 [] [] (by kernel_rfl) allP_nil ?_
                obtain ⟨r1391, hr1391, h⟩ := bind_sx h
                refine call_x (ring_Take_spec (Ring.mk c0_Next9 c2q9) r1391 hr1391) (args := [.agg [iS c0_Next9, .own 2 0 c2q9.length]]) (dst := (some 71)) (by kernel_rfl) [(0, .row 24 [iS c0_Next9, .own 2 0 c2q9.length]), (1, .row 3 (fl c1q1)), (2, .row 3 (fl c2q9))] 3 (by kernel_rfl) [] [2] (.tup [.agg [iS r1391.1, .own 3 0 r1391.2.2.2.length], iS r1391.2.1, .agg (Enc.cells r1391.2.2.1)]) [(3, .row 3 (fl r1391.2.2.2))] (by simp only [push_cast, seval]) (by simp only [push_cast, seval]) (by kernel_rfl) (.inr ⟨by simp only [push_cast, seval], by simp only [push_cast, seval]⟩) (by simp only [push_cast, seval]) (by simp only [push_cast, seval]) ?_
                refine rs 9 [] [] (by kernel_rfl) allP_nil ?_
                refine rf [(5, .ptr 0 0), (8, .own 1 0 c1q1.length), (9, iS i7), (10, .ptr 4 0), (11, iS r1391.2.1), (12, .ptr 5 0)] [(0, .row 24 [iS c0_Next9, .own 2 0 c2q9.length]), (1, .row 3 (fl c1q1)), (2, .row 3 (fl c2q9)), (3, .row 3 (fl r1391.2.2.2)), (4, .row 24 [iS r1391.1, .own 3 0 r1391.2.2.2.length]), (5, .row 28 (Enc.cells r1391.2.2.1))] 6 (by kernel_rfl) ?_
                refine wk_id ?_
                refine seq_np ?_
                refine chk_sx h (fun g1402 h => ?_)
                refine seq_cut (A := Unit) (fun _ => ([(5, .ptr 0 0), (8, .own 1 0 c1q1.length), (9, iS i7), (10, .ptr 4 0), (85, bS ((r1391.2.2.1.Code != 0) || (r1391.2.1 != (ix c1q1 i7))))], [(0, .row 24 [iS c0_Next9, .own 2 0 c2q9.length]), (1, .row 3 (fl c1q1)), (2, .row 3 (fl c2q9)), (3, .row 3 (fl r1391.2.2.2)), (4, .row 24 [iS r1391.1, .own 3 0 r1391.2.2.2.length]), (5, .row 28 (Enc.cells r1391.2.2.1))], 6)) (fun _ => True) (fun K1399 hK1399 => ?_) (fun _ _ => ?_)
                · refine reg_f ?_
                  refine rs 4 [] [] (by kernel_rfl) allP_nil ?_
                  refine run_split 78 (r1391.2.2.1.Code != 0) (.inl (by kernel_rfl)) (fun g1400 => ?_) (fun g1400 => ?_)
                  · refine rs 7 [] [] (by kernel_rfl) allP_nil ?_
                    refine rf [(5, .ptr 0 0), (8, .own 1 0 c1q1.length), (9, iS i7), (10, .ptr 4 0), (85, bS true)] [(0, .row 24 [iS c0_Next9, .own 2 0 c2q9.length]), (1, .row 3 (fl c1q1)), (2, .row 3 (fl c2q9)), (3, .row 3 (fl r1391.2.2.2)), (4, .row 24 [iS r1391.1, .own 3 0 r1391.2.2.2.length]), (5, .row 28 (Enc.cells r1391.2.2.1))] 6 (by kernel_rfl) ?_
                    exact hK1399 () _ _ _ trivial (leSt_m [(0, 0), (1, 1), (2, 2), (3, 3), (4, 4), (5, 5)] [] (by (try simp only [g1400]) <;> simp only [push_cast, seval]) (by (try simp only [g1400]) <;> simp only [push_cast, seval]) rfl rfl rfl)
                  · have k1401 : 0 ≤ i7 ∧ i7 < ((c1q1.length : Nat) : Int) := by have e := or_use g1402 (by (try simp only [g1400]) <;> rfl); first | simpa only [Bool.and_eq_true, decide_eq_true_eq, bne_iff_ne, ne_eq] using e | (simp at e ⊢; omega)
                    refine rs 7 [none, none, none, some ⟨.ptr 1 (0 + (i7).toNat * 1), [], 6, [1]⟩, some ⟨iS (ix c1q1 i7), [], 6, [1]⟩] _ (by kernel_rfl) (allP_cons (ob_ld c1q1 i7 1 0 (0 + (i7).toNat * 1) k1401 rfl (by decide) (by first | rfl | omega) (dflS Try.prog 3) (iS (ix c1q1 i7)) rfl 6 [1]) (allP_cons (ob_ix_o 1 c1q1.length 0 1 6 i7 k1401) allP_nil)) ?_
                    refine rf [(5, .ptr 0 0), (8, .own 1 0 c1q1.length), (9, iS i7), (10, .ptr 4 0), (85, bS (r1391.2.1 != (ix c1q1 i7)))] [(0, .row 24 [iS c0_Next9, .own 2 0 c2q9.length]), (1, .row 3 (fl c1q1)), (2, .row 3 (fl c2q9)), (3, .row 3 (fl r1391.2.2.2)), (4, .row 24 [iS r1391.1, .own 3 0 r1391.2.2.2.length]), (5, .row 28 (Enc.cells r1391.2.2.1))] 6 (by kernel_rfl) ?_
                    exact hK1399 () _ _ _ trivial (leSt_m [(0, 0), (1, 1), (2, 2), (3, 3), (4, 4), (5, 5)] [] (by (try simp only [g1400]) <;> simp only [push_cast, seval]) (by (try simp only [g1400]) <;> simp only [push_cast, seval]) rfl rfl rfl)
                · dsimp only
                  refine cond_sx h (by kernel_rfl) (fun g1403 h => ?_) (fun g1403 h => ?_)
                  · refine seq_np ?_
                    refine reg_f ?_
                    refine rs 1 [] [] (by kernel_rfl) allP_nil ?_
                    refine rf [(4, bS false)] [(0, .row 24 [iS c0_Next9, .own 2 0 c2q9.length]), (1, .row 3 (fl c1q1)), (2, .row 3 (fl c2q9)), (3, .row 3 (fl r1391.2.2.2)), (4, .row 24 [iS r1391.1, .own 3 0 r1391.2.2.2.length]), (5, .row 28 (Enc.cells r1391.2.2.1))] 6 (by kernel_rfl) ?_
                    refine wk_id ?_
                    refine rt_cast ht2 ?_
                    obtain ⟨r0, h, e0⟩ := map_sx h
                    have e1 := hr2 r0 e0.symm
                    subst r0
                    obtain rfl := Option.some.inj h
                    refine ret_at (bS false) (by kernel_rfl) ?_
                    exact ret_e [] [] (by simp only [push_cast, seval]) (by simp only [push_cast, seval]) rfl rfl rfl
                  · refine wk_id ?_
                    refine reg_f ?_
                    refine rs 2 [] [] (by kernel_rfl) allP_nil ?_
                    refine rf [(5, .ptr 0 0), (8, .own 1 0 c1q1.length), (9, iS i7)] [(0, .row 24 [iS r1391.1, .own 3 0 r1391.2.2.2.length]), (1, .row 3 (fl c1q1)), (2, .row 3 (fl c2q9)), (3, .row 3 (fl r1391.2.2.2)), (4, .row 24 [iS r1391.1, .own 3 0 r1391.2.2.2.length]), (5, .row 28 (Enc.cells r1391.2.2.1))] 6 (by kernel_rfl) ?_
                    refine wk_id ?_
                    refine wk_id ?_
                    refine reg_f ?_
                    refine rs 3 [] [] (by kernel_rfl) allP_nil ?_
                    refine rf [(5, .ptr 0 0), (8, .own 1 0 c1q1.length), (9, iS (IntKind.i64.wrap (i7 + 1)))] [(0, .row 24 [iS r1391.1, .own 3 0 r1391.2.2.2.length]), (1, .row 3 (fl c1q1)), (2, .row 3 (fl c2q9)), (3, .row 3 (fl r1391.2.2.2)), (4, .row 24 [iS r1391.1, .own 3 0 r1391.2.2.2.length]), (5, .row 28 (Enc.cells r1391.2.2.1))] 6 (by kernel_rfl) ?_
                    exact hn2 ((IntKind.i64.wrap (i7 + 1)), r1391.1, r1391.2.2.2) _ _ _ (Option.some.inj h).symm (leSt_m [(0, 0), (1, 1), (2, 3)] [] (by simp only [push_cast, seval]) (by simp only [push_cast, seval]) rfl rfl rfl)
              · refine ex_cast hx2 (id := 0) ?_
                obtain ⟨r0, h, e0⟩ := map_sx h
                have e1 := hr2 r0 e0.symm
                subst r0
                refine wk_id ?_
                refine wk_id ?_
                refine seq_np ?_
                refine reg_f ?_
                refine rs 1 [] [] (by kernel_rfl) allP_nil ?_
                obtain ⟨r1405, hr1405, h⟩ := bind_sx h
                refine call_x (taskmilllaw_noRing_spec (Ring.mk c0_Next9 c2q9) r1405 hr1405) (args := [.agg [iS c0_Next9, .own 2 0 c2q9.length]]) (dst := (some 88)) (by kernel_rfl) [(0, .row 24 [iS c0_Next9, .own 2 0 c2q9.length]), (1, .row 3 (fl c1q1)), (2, .row 3 (fl c2q9))] 3 (by kernel_rfl) [] [2] (bS r1405) [] (by simp only [push_cast, seval]) (by simp only [push_cast, seval]) (by kernel_rfl) (.inr ⟨by simp only [push_cast, seval], by simp only [push_cast, seval]⟩) (by simp only [push_cast, seval]) (by simp only [push_cast, seval]) ?_
                refine rs 1 [] [] (by kernel_rfl) allP_nil ?_
                refine rf [(4, bS r1405)] [(0, .row 24 [iS c0_Next9, .own 2 0 c2q9.length]), (1, .row 3 (fl c1q1)), (2, .row 3 (fl c2q9))] 3 (by kernel_rfl) ?_
                refine wk_id ?_
                obtain rfl := Option.some.inj h
                refine ret_at (bS r1405) (by kernel_rfl) ?_
                exact ret_e [] [] (by simp only [push_cast, seval]) (by simp only [push_cast, seval]) rfl rfl rfl

set_option maxRecDepth 100000 in
set_option maxHeartbeats 10000000 in
theorem ring_disjoint_spec (xa : (List Int)) (b : (List Int)) (r : Int) (h : ring_disjoint xa b = some r) : SpecW Try.prog 33 [.sl xa.length (fl xa), .sl b.length (fl b)] [] 0 (fun x h n => x = iS r ∧ h = [] ∧ n = 0) := by
  unfold ring_disjoint at h
  refine spec_of (draw_ok _) Try.func33 rfl (by decide) rfl (by kernel_rfl) ?_
  refine seq_np ?_
  refine reg_f ?_
  refine rs 1 [] [] (by kernel_rfl) allP_nil ?_
  refine rf [(0, .sl xa.length (fl xa)), (1, .sl b.length (fl b))] [] 0 (by kernel_rfl) ?_
  refine wk_id ?_
  refine seq_np ?_
  refine reg_f ?_
  refine rs 2 [] [] (by kernel_rfl) allP_nil ?_
  refine rf [(0, .sl xa.length (fl xa)), (1, .sl b.length (fl b)), (5, .mp 0)] [(0, .map (mi []))] 1 (by kernel_rfl) ?_
  refine wk_id ?_
  refine seq_np ?_
  refine seq_np ?_
  refine reg_f ?_
  refine rs 3 [] [] (by kernel_rfl) allP_nil ?_
  refine rf [(1, .sl b.length (fl b)), (5, .mp 0), (11, .sl xa.length (fl xa)), (12, iS ((xa.length : Nat) : Int)), (13, iS 0)] [(0, .map (mi []))] 1 (by kernel_rfl) ?_
  refine wk_id ?_
  refine block_np ?_
  refine loop_sx (S := Int × (List (Int × Int))) (fun a => ([(1, .sl b.length (fl b)), (5, .mp 0), (11, .sl xa.length (fl xa)), (12, iS ((xa.length : Nat) : Int)), (13, iS a.1)], [(0, .map (mi a.2))], 1)) h (leSt_m [(0, 0)] [] (by simp only [push_cast, seval]) (by simp only [push_cast, seval]) rfl rfl rfl) ?_
  rintro ⟨t13q7, c0q9⟩ o3 R3 h hr3 hn3 hx3 ht3
  try dsimp only at h hn3 ⊢
  unfold ring_disjoint_l2 at h
  try dsimp only at h
  refine seq_np ?_
  refine reg_f ?_
  refine rs 1 [] [] (by kernel_rfl) allP_nil ?_
  refine rf [(1, .sl b.length (fl b)), (5, .mp 0), (11, .sl xa.length (fl xa)), (12, iS ((xa.length : Nat) : Int)), (13, iS t13q7), (14, bS (decide (t13q7 < ((xa.length : Nat) : Int))))] [(0, .map (mi c0q9))] 1 (by kernel_rfl) ?_
  refine wk_id ?_
  refine seq_np ?_
  refine cond_sx h (by kernel_rfl) (fun g1545 h => ?_) (fun g1545 h => ?_)
  · refine wk_id ?_
    refine seq_np ?_
    refine block_np ?_
    refine chk_sx h (fun g1495 h => ?_)
    refine seq_np ?_
    refine reg_f ?_
    have k1494 : 0 ≤ t13q7 ∧ t13q7 < ((xa.length : Nat) : Int) := by first | simpa only [Bool.and_eq_true, decide_eq_true_eq, bne_iff_ne, ne_eq] using g1495 | (simp at g1495 ⊢; omega)
    refine rs 3 [some ⟨.iptr (fl xa) ((t13q7).toNat * 1), [], 1, []⟩, some ⟨iS (ix xa t13q7), [], 1, []⟩] _ (by kernel_rfl) (allP_cons (ob_ld xa t13q7 1 0 ((t13q7).toNat * 1) k1494 rfl (by decide) (by first | rfl | omega) (dflS Try.prog 3) (iS (ix xa t13q7)) rfl 1 []) (allP_cons (ob_ix_l xa 1 1 t13q7 k1494) allP_nil)) ?_
    refine rf [(1, .sl b.length (fl b)), (5, .mp 0), (7, iS (ix xa t13q7)), (11, .sl xa.length (fl xa)), (12, iS ((xa.length : Nat) : Int)), (13, iS t13q7)] [(0, .map (mi c0q9))] 1 (by kernel_rfl) ?_
    refine wk_id ?_
    refine reg_f ?_
    refine rs 3 [none, none, some ⟨.any, [(0, .map (mi (miSet c0q9 (ix xa t13q7) 1)))], 1, [0]⟩] _ (by kernel_rfl) (allP_cons (ob_mset (.int .i64) rfl (ix xa t13q7) 1 c0q9 0 1) allP_nil) ?_
    refine rf [(1, .sl b.length (fl b)), (5, .mp 0), (11, .sl xa.length (fl xa)), (12, iS ((xa.length : Nat) : Int)), (13, iS t13q7)] [(0, .map (mi (miSet c0q9 (ix xa t13q7) 1)))] 1 (by kernel_rfl) ?_
    refine wk_id ?_
    refine wk_id ?_
    refine reg_f ?_
    refine rs 2 [] [] (by kernel_rfl) allP_nil ?_
    refine rf [(1, .sl b.length (fl b)), (5, .mp 0), (11, .sl xa.length (fl xa)), (12, iS ((xa.length : Nat) : Int)), (13, iS (IntKind.i64.wrap (t13q7 + 1)))] [(0, .map (mi (miSet c0q9 (ix xa t13q7) 1)))] 1 (by kernel_rfl) ?_
    exact hn3 ((IntKind.i64.wrap (t13q7 + 1)), (miSet c0q9 (ix xa t13q7) 1)) _ _ _ (Option.some.inj h).symm (leSt_m [(0, 0)] [] (by simp only [push_cast, seval]) (by simp only [push_cast, seval]) rfl rfl rfl)
  · refine ex_cast hx3 (id := 0) ?_
    obtain ⟨r0, h, e0⟩ := map_sx h
    have e1 := hr3 r0 e0.symm
    subst r0
    refine wk_id ?_
    refine wk_id ?_
    refine seq_np ?_
    refine seq_np ?_
    refine reg_f ?_
    refine rs 3 [] [] (by kernel_rfl) allP_nil ?_
    refine rf [(5, .mp 0), (20, .sl b.length (fl b)), (21, iS ((b.length : Nat) : Int)), (22, iS 0)] [(0, .map (mi c0q9))] 1 (by kernel_rfl) ?_
    refine wk_id ?_
    refine block_np ?_
    refine loop_sx (S := Int × (List (Int × Int))) (fun a => ([(5, .mp 0), (20, .sl b.length (fl b)), (21, iS ((b.length : Nat) : Int)), (22, iS a.1)], [(0, .map (mi a.2))], 1)) h (leSt_m [(0, 0)] [] (by simp only [push_cast, seval]) (by simp only [push_cast, seval]) rfl rfl rfl) ?_
    rintro ⟨t22q7, c0q15⟩ o4 R4 h hr4 hn4 hx4 ht4
    try dsimp only at h hn4 ⊢
    unfold ring_disjoint_l1 at h
    try dsimp only at h
    refine seq_np ?_
    refine reg_f ?_
    refine rs 1 [] [] (by kernel_rfl) allP_nil ?_
    refine rf [(5, .mp 0), (20, .sl b.length (fl b)), (21, iS ((b.length : Nat) : Int)), (22, iS t22q7), (23, bS (decide (t22q7 < ((b.length : Nat) : Int))))] [(0, .map (mi c0q15))] 1 (by kernel_rfl) ?_
    refine wk_id ?_
    refine seq_np ?_
    refine cond_sx h (by kernel_rfl) (fun g1544 h => ?_) (fun g1544 h => ?_)
    · refine wk_id ?_
      refine seq_np ?_
      refine block_np ?_
      refine chk_sx h (fun g1541 h => ?_)
      refine seq_np ?_
      refine reg_f ?_
      have k1540 : 0 ≤ t22q7 ∧ t22q7 < ((b.length : Nat) : Int) := by first | simpa only [Bool.and_eq_true, decide_eq_true_eq, bne_iff_ne, ne_eq] using g1541 | (simp at g1541 ⊢; omega)
      refine rs 5 [none, some ⟨.iptr (fl b) ((t22q7).toNat * 1), [], 1, []⟩, some ⟨iS (ix b t22q7), [], 1, []⟩] _ (by kernel_rfl) (allP_cons (ob_ld b t22q7 1 0 ((t22q7).toNat * 1) k1540 rfl (by decide) (by first | rfl | omega) (dflS Try.prog 3) (iS (ix b t22q7)) rfl 1 []) (allP_cons (ob_ix_l b 1 1 t22q7 k1540) allP_nil)) ?_
      refine rf [(5, .mp 0), (8, iS t22q7), (9, iS (ix b t22q7)), (20, .sl b.length (fl b)), (21, iS ((b.length : Nat) : Int)), (22, iS t22q7)] [(0, .map (mi c0q15))] 1 (by kernel_rfl) ?_
      refine wk_id ?_
      refine seq_np ?_
      refine seq_np ?_
      refine reg_f ?_
      refine rs 4 [none, none, some ⟨iS (miGet c0q15 (ix b t22q7)), [], 1, [0]⟩] _ (by kernel_rfl) (allP_cons (ob_look (.int .i64) rfl (ix b t22q7) c0q15 0 1) allP_nil) ?_
      refine rf [(5, .mp 0), (8, iS t22q7), (9, iS (ix b t22q7)), (20, .sl b.length (fl b)), (21, iS ((b.length : Nat) : Int)), (22, iS t22q7), (30, bS (decide ((0 : Int) < (miGet c0q15 (ix b t22q7)))))] [(0, .map (mi c0q15))] 1 (by kernel_rfl) ?_
      refine wk_id ?_
      refine cond_sx h (by kernel_rfl) (fun g1543 h => ?_) (fun g1543 h => ?_)
      · refine seq_np ?_
        refine reg_f ?_
        refine rs 2 [] [] (by kernel_rfl) allP_nil ?_
        refine rf [(4, iS t22q7)] [(0, .map (mi c0q15))] 1 (by kernel_rfl) ?_
        refine wk_id ?_
        refine rt_cast ht4 ?_
        obtain ⟨r0, h, e0⟩ := map_sx h
        have e1 := hr4 r0 e0.symm
        subst r0
        obtain rfl := Option.some.inj h
        refine ret_at (iS t22q7) (by kernel_rfl) ?_
        exact ret_e [] [] (by simp only [push_cast, seval]) (by simp only [push_cast, seval]) rfl rfl rfl
      · refine wk_id ?_
        refine reg_f ?_
        refine rs 3 [none, none, some ⟨.any, [(0, .map (mi (miSet c0q15 (ix b t22q7) 1)))], 1, [0]⟩] _ (by kernel_rfl) (allP_cons (ob_mset (.int .i64) rfl (ix b t22q7) 1 c0q15 0 1) allP_nil) ?_
        refine rf [(5, .mp 0), (20, .sl b.length (fl b)), (21, iS ((b.length : Nat) : Int)), (22, iS t22q7)] [(0, .map (mi (miSet c0q15 (ix b t22q7) 1)))] 1 (by kernel_rfl) ?_
        refine wk_id ?_
        refine wk_id ?_
        refine reg_f ?_
        refine rs 2 [] [] (by kernel_rfl) allP_nil ?_
        refine rf [(5, .mp 0), (20, .sl b.length (fl b)), (21, iS ((b.length : Nat) : Int)), (22, iS (IntKind.i64.wrap (t22q7 + 1)))] [(0, .map (mi (miSet c0q15 (ix b t22q7) 1)))] 1 (by kernel_rfl) ?_
        exact hn4 ((IntKind.i64.wrap (t22q7 + 1)), (miSet c0q15 (ix b t22q7) 1)) _ _ _ (Option.some.inj h).symm (leSt_m [(0, 0)] [] (by simp only [push_cast, seval]) (by simp only [push_cast, seval]) rfl rfl rfl)
    · refine ex_cast hx4 (id := 2) ?_
      obtain ⟨r0, h, e0⟩ := map_sx h
      have e1 := hr4 r0 e0.symm
      subst r0
      refine wk_id ?_
      refine wk_id ?_
      refine seq_np ?_
      refine reg_f ?_
      refine rs 1 [] [] (by kernel_rfl) allP_nil ?_
      refine rf [(4, iS (-1))] [(0, .map (mi c0q15))] 1 (by kernel_rfl) ?_
      refine wk_id ?_
      obtain rfl := Option.some.inj h
      refine ret_at (iS (-1)) (by kernel_rfl) ?_
      exact ret_e [] [] (by simp only [push_cast, seval]) (by simp only [push_cast, seval]) rfl rfl rfl

set_option maxRecDepth 100000 in
set_option maxHeartbeats 10000000 in
theorem ring_Refill_spec (q : Ring) (global : (List Int)) (procs : Int) (r : Int × Fault × (List Int) × (List Int)) (h : ring_Refill q global procs = some r) : SpecW Try.prog 24 [.agg (Enc.cells q), .sl global.length (fl global), iS procs] [] 0 (fun x h n => x = .tup [.agg [iS r.1, .own 0 0 r.2.2.1.length], .own 1 0 r.2.2.2.length, .agg (Enc.cells r.2.1)] ∧ h = [(0, .row 3 (fl r.2.2.1)), (1, .row 3 (fl r.2.2.2))] ∧ n = 2) := by
  unfold ring_Refill at h
  refine spec_of (draw_ok _) Try.func24 rfl (by decide) rfl (by kernel_rfl) ?_
  refine seq_np ?_
  refine reg_f ?_
  refine rs 4 [] [] (by kernel_rfl) allP_nil ?_
  refine rf [(1, .sl global.length (fl global)), (2, iS procs), (3, .ptr 0 0), (6, .ptr 1 0), (8, .ptr 2 0)] [(0, .row 24 (Enc.cells q)), (1, .row 24 [iS 0, .v (.slice none 0 0)]), (2, .row 28 [iS 0, iS 0])] 3 (by kernel_rfl) ?_
  refine wk_id ?_
  refine seq_np ?_
  refine seq_np ?_
  refine reg_f ?_
  refine rs 1 [] [] (by kernel_rfl) allP_nil ?_
  obtain ⟨r1565, hr1565, h⟩ := bind_sx h
  refine run_call 13 [.agg (Enc.cells q)] (some 15) (by kernel_rfl) ?_
  refine call_0 (ring_Check_spec q r1565 hr1565) (by simp only [push_cast, seval]) (by simp only [push_cast, seval]) ?_
  refine back_f ?_
  refine rs 2 [] [] (by kernel_rfl) allP_nil ?_
  refine rf [(1, .sl global.length (fl global)), (2, iS procs), (3, .ptr 0 0), (6, .ptr 1 0), (8, .ptr 2 0), (9, .ptr 3 0)] [(0, .row 24 (Enc.cells q)), (1, .row 24 [iS 0, .v (.slice none 0 0)]), (2, .row 28 [iS 0, iS 0]), (3, .row 28 (Enc.cells r1565))] 4 (by kernel_rfl) ?_
  refine wk_id ?_
  refine seq_np ?_
  refine reg_f ?_
  refine rs 3 [] [] (by kernel_rfl) allP_nil ?_
  refine rf [(1, .sl global.length (fl global)), (2, iS procs), (3, .ptr 0 0), (6, .ptr 1 0), (8, .ptr 2 0), (9, .ptr 3 0), (18, bS (r1565.Code != 0))] [(0, .row 24 (Enc.cells q)), (1, .row 24 [iS 0, .v (.slice none 0 0)]), (2, .row 28 [iS 0, iS 0]), (3, .row 28 (Enc.cells r1565))] 4 (by kernel_rfl) ?_
  refine wk_id ?_
  refine cond_sx h (by kernel_rfl) (fun g1671 h => ?_) (fun g1671 h => ?_)
  · refine seq_np ?_
    refine reg_t ?_
    refine rs 5 [] [] (by kernel_rfl) allP_nil ?_
    refine rt [(6, .ptr 1 0), (7, .v (.slice none 0 0)), (8, .ptr 2 0)] [(0, .row 24 (Enc.cells q)), (1, .row 24 [iS 0, .v (.slice none 0 0)]), (2, .row 28 (Enc.cells r1565)), (3, .row 28 (Enc.cells r1565))] 9 follows (by kernel_rfl) ?_
    refine wk_id ?_
    obtain rfl := Option.some.inj h
    refine ret_at (.tup [.agg [iS 0, .v (.slice none 0 0)], .v (.slice none 0 0), .agg (Enc.cells r1565)]) (by kernel_rfl) ?_
    exact ret_e [] [] (by simp only [push_cast, seval]) (by simp only [push_cast, seval]) rfl rfl rfl
  · refine wk_id ?_
    refine seq_np ?_
    refine seq_np ?_
    refine reg_f ?_
    refine rs 3 [] [] (by kernel_rfl) allP_nil ?_
    refine rf [(1, .sl global.length (fl global)), (2, iS procs), (3, .ptr 0 0), (6, .ptr 1 0), (8, .ptr 2 0), (23, bS (decide ((5000 : Int) < ((global.length : Nat) : Int))))] [(0, .row 24 (Enc.cells q)), (1, .row 24 [iS 0, .v (.slice none 0 0)]), (2, .row 28 [iS 0, iS 0]), (3, .row 28 (Enc.cells r1565))] 4 (by kernel_rfl) ?_
    refine wk_id ?_
    refine cond_sx h (by kernel_rfl) (fun g1670 h => ?_) (fun g1670 h => ?_)
    · refine seq_np ?_
      refine reg_f ?_
      refine rs 1 [] [] (by kernel_rfl) allP_nil ?_
      obtain ⟨r1569, hr1569, h⟩ := bind_sx h
      refine run_call 27 [iS 2, iS (-1)] (some 25) (by kernel_rfl) ?_
      refine call_0 (ring_fault_spec 2 (-1) r1569 hr1569) (by simp only [push_cast, seval]) (by simp only [push_cast, seval]) ?_
      refine back_f ?_
      refine rs 3 [] [] (by kernel_rfl) allP_nil ?_
      refine rf [(6, .ptr 1 0), (7, .v (.slice none 0 0)), (8, .ptr 2 0)] [(0, .row 24 (Enc.cells q)), (1, .row 24 [iS 0, .v (.slice none 0 0)]), (2, .row 28 (Enc.cells r1569)), (3, .row 28 (Enc.cells r1565))] 4 (by kernel_rfl) ?_
      refine wk_id ?_
      obtain rfl := Option.some.inj h
      refine ret_at (.tup [.agg [iS 0, .v (.slice none 0 0)], .v (.slice none 0 0), .agg (Enc.cells r1569)]) (by kernel_rfl) ?_
      exact ret_e [] [] (by simp only [push_cast, seval]) (by simp only [push_cast, seval]) rfl rfl rfl
    · refine wk_id ?_
      refine seq_np ?_
      refine seq_np ?_
      refine reg_f ?_
      refine rs 3 [] [] (by kernel_rfl) allP_nil ?_
      refine rf [(1, .sl global.length (fl global)), (2, iS procs), (3, .ptr 0 0), (6, .ptr 1 0), (8, .ptr 2 0), (26, .sl global.length (fl global)), (27, iS ((global.length : Nat) : Int)), (28, iS 0)] [(0, .row 24 (Enc.cells q)), (1, .row 24 [iS 0, .v (.slice none 0 0)]), (2, .row 28 [iS 0, iS 0]), (3, .row 28 (Enc.cells r1565))] 4 (by kernel_rfl) ?_
      refine wk_id ?_
      refine block_np ?_
      refine loop_sx (S := Int) (fun a => ([(1, .sl global.length (fl global)), (2, iS procs), (3, .ptr 0 0), (6, .ptr 1 0), (8, .ptr 2 0), (26, .sl global.length (fl global)), (27, iS ((global.length : Nat) : Int)), (28, iS a)], [(0, .row 24 (Enc.cells q)), (1, .row 24 [iS 0, .v (.slice none 0 0)]), (2, .row 28 [iS 0, iS 0])], 3)) h (leSt_m [(0, 0), (1, 1), (2, 2)] [] (by simp only [push_cast, seval]) (by simp only [push_cast, seval]) rfl rfl rfl) ?_
      rintro t28q7 o2 R2 h hr2 hn2 hx2 ht2
      try dsimp only at h hn2 ⊢
      unfold ring_Refill_l1 at h
      try dsimp only at h
      refine seq_np ?_
      refine reg_f ?_
      refine rs 1 [] [] (by kernel_rfl) allP_nil ?_
      refine rf [(1, .sl global.length (fl global)), (2, iS procs), (3, .ptr 0 0), (6, .ptr 1 0), (8, .ptr 2 0), (26, .sl global.length (fl global)), (27, iS ((global.length : Nat) : Int)), (28, iS t28q7), (29, bS (decide (t28q7 < ((global.length : Nat) : Int))))] [(0, .row 24 (Enc.cells q)), (1, .row 24 [iS 0, .v (.slice none 0 0)]), (2, .row 28 [iS 0, iS 0])] 3 (by kernel_rfl) ?_
      refine wk_id ?_
      refine seq_np ?_
      refine cond_sx h (by kernel_rfl) (fun g1669 h => ?_) (fun g1669 h => ?_)
      · refine wk_id ?_
        refine seq_np ?_
        refine block_np ?_
        refine chk_sx h (fun g1625 h => ?_)
        refine seq_np ?_
        refine reg_f ?_
        have k1624 : 0 ≤ t28q7 ∧ t28q7 < ((global.length : Nat) : Int) := by first | simpa only [Bool.and_eq_true, decide_eq_true_eq, bne_iff_ne, ne_eq] using g1625 | (simp at g1625 ⊢; omega)
        refine rs 5 [none, some ⟨.iptr (fl global) ((t28q7).toNat * 1), [], 3, []⟩, some ⟨iS (ix global t28q7), [], 3, []⟩] _ (by kernel_rfl) (allP_cons (ob_ld global t28q7 1 0 ((t28q7).toNat * 1) k1624 rfl (by decide) (by first | rfl | omega) (dflS Try.prog 3) (iS (ix global t28q7)) rfl 3 []) (allP_cons (ob_ix_l global 1 3 t28q7 k1624) allP_nil)) ?_
        refine rf [(1, .sl global.length (fl global)), (2, iS procs), (3, .ptr 0 0), (6, .ptr 1 0), (8, .ptr 2 0), (10, iS t28q7), (11, iS (ix global t28q7)), (26, .sl global.length (fl global)), (27, iS ((global.length : Nat) : Int)), (28, iS t28q7)] [(0, .row 24 (Enc.cells q)), (1, .row 24 [iS 0, .v (.slice none 0 0)]), (2, .row 28 [iS 0, iS 0])] 3 (by kernel_rfl) ?_
        refine wk_id ?_
        refine seq_np ?_
        refine reg_f ?_
        refine rs 2 [] [] (by kernel_rfl) allP_nil ?_
        refine rf [(1, .sl global.length (fl global)), (2, iS procs), (3, .ptr 0 0), (6, .ptr 1 0), (8, .ptr 2 0), (10, iS t28q7), (26, .sl global.length (fl global)), (27, iS ((global.length : Nat) : Int)), (28, iS t28q7), (34, bS (decide ((ix global t28q7) < 1)))] [(0, .row 24 (Enc.cells q)), (1, .row 24 [iS 0, .v (.slice none 0 0)]), (2, .row 28 [iS 0, iS 0])] 3 (by kernel_rfl) ?_
        refine wk_id ?_
        refine cond_sx h (by kernel_rfl) (fun g1628 h => ?_) (fun g1628 h => ?_)
        · refine seq_np ?_
          refine reg_f ?_
          refine rs 2 [] [] (by kernel_rfl) allP_nil ?_
          obtain ⟨r1627, hr1627, h⟩ := bind_sx h
          refine run_call 27 [iS 5, iS t28q7] (some 37) (by kernel_rfl) ?_
          refine call_0 (ring_fault_spec 5 t28q7 r1627 hr1627) (by simp only [push_cast, seval]) (by simp only [push_cast, seval]) ?_
          refine back_f ?_
          refine rs 3 [] [] (by kernel_rfl) allP_nil ?_
          refine rf [(6, .ptr 1 0), (7, .v (.slice none 0 0)), (8, .ptr 2 0)] [(0, .row 24 (Enc.cells q)), (1, .row 24 [iS 0, .v (.slice none 0 0)]), (2, .row 28 (Enc.cells r1627))] 3 (by kernel_rfl) ?_
          refine wk_id ?_
          refine rt_cast ht2 ?_
          obtain ⟨r0, h, e0⟩ := map_sx h
          have e1 := hr2 r0 e0.symm
          subst r0
          obtain rfl := Option.some.inj h
          refine ret_at (.tup [.agg [iS 0, .v (.slice none 0 0)], .v (.slice none 0 0), .agg (Enc.cells r1627)]) (by kernel_rfl) ?_
          exact ret_e [] [] (by simp only [push_cast, seval]) (by simp only [push_cast, seval]) rfl rfl rfl
        · refine wk_id ?_
          refine wk_id ?_
          refine reg_f ?_
          refine rs 2 [] [] (by kernel_rfl) allP_nil ?_
          refine rf [(1, .sl global.length (fl global)), (2, iS procs), (3, .ptr 0 0), (6, .ptr 1 0), (8, .ptr 2 0), (26, .sl global.length (fl global)), (27, iS ((global.length : Nat) : Int)), (28, iS (IntKind.i64.wrap (t28q7 + 1)))] [(0, .row 24 (Enc.cells q)), (1, .row 24 [iS 0, .v (.slice none 0 0)]), (2, .row 28 [iS 0, iS 0])] 3 (by kernel_rfl) ?_
          exact hn2 ((IntKind.i64.wrap (t28q7 + 1))) _ _ _ (Option.some.inj h).symm (leSt_m [(0, 0), (1, 1), (2, 2)] [] (by simp only [push_cast, seval]) (by simp only [push_cast, seval]) rfl rfl rfl)
      · refine ex_cast hx2 (id := 0) ?_
        obtain ⟨r0, h, e0⟩ := map_sx h
        have e1 := hr2 r0 e0.symm
        subst r0
        refine wk_id ?_
        refine wk_id ?_
        refine seq_np ?_
        refine seq_np ?_
        refine reg_f ?_
        refine rs 1 [] [] (by kernel_rfl) allP_nil ?_
        obtain ⟨r1635, hr1635, h⟩ := bind_sx h
        refine call_x (ring_All_spec q r1635 hr1635) (args := [.agg (Enc.cells q)]) (dst := (some 40)) (by kernel_rfl) [(0, .row 24 (Enc.cells q)), (1, .row 24 [iS 0, .v (.slice none 0 0)]), (2, .row 28 [iS 0, iS 0])] 3 (by kernel_rfl) [] [] (.own 3 0 r1635.length) [(3, .row 3 (fl r1635))] (by simp only [push_cast, seval]) (by simp only [push_cast, seval]) (by kernel_rfl) (.inl rfl) (by simp only [push_cast, seval]) (by simp only [push_cast, seval]) ?_
        refine rs 1 [] [] (by kernel_rfl) allP_nil ?_
        obtain ⟨r1636, hr1636, h⟩ := bind_sx h
        refine call_x (ring_disjoint_spec r1635 global r1636 hr1636) (args := [.own 3 0 r1635.length, .sl global.length (fl global)]) (dst := (some 42)) (by kernel_rfl) [(0, .row 24 (Enc.cells q)), (1, .row 24 [iS 0, .v (.slice none 0 0)]), (2, .row 28 [iS 0, iS 0]), (3, .row 3 (fl r1635))] 4 (by kernel_rfl) [] [3] (iS r1636) [] (by simp only [push_cast, seval]) (by simp only [push_cast, seval]) (by kernel_rfl) (.inr ⟨by simp only [push_cast, seval], by simp only [push_cast, seval]⟩) (by simp only [push_cast, seval]) (by simp only [push_cast, seval]) ?_
        refine rs 1 [] [] (by kernel_rfl) allP_nil ?_
        refine rf [(1, .sl global.length (fl global)), (2, iS procs), (3, .ptr 0 0), (6, .ptr 1 0), (8, .ptr 2 0), (12, iS r1636)] [(0, .row 24 (Enc.cells q)), (1, .row 24 [iS 0, .v (.slice none 0 0)]), (2, .row 28 [iS 0, iS 0]), (3, .row 3 (fl r1635))] 4 (by kernel_rfl) ?_
        refine wk_id ?_
        refine seq_np ?_
        refine reg_f ?_
        refine rs 2 [] [] (by kernel_rfl) allP_nil ?_
        refine rf [(1, .sl global.length (fl global)), (2, iS procs), (3, .ptr 0 0), (6, .ptr 1 0), (8, .ptr 2 0), (12, iS r1636), (44, bS (decide ((0 : Int) ≤ r1636)))] [(0, .row 24 (Enc.cells q)), (1, .row 24 [iS 0, .v (.slice none 0 0)]), (2, .row 28 [iS 0, iS 0]), (3, .row 3 (fl r1635))] 4 (by kernel_rfl) ?_
        refine wk_id ?_
        refine cond_sx h (by kernel_rfl) (fun g1668 h => ?_) (fun g1668 h => ?_)
        · refine seq_np ?_
          refine reg_f ?_
          refine rs 2 [] [] (by kernel_rfl) allP_nil ?_
          obtain ⟨r1638, hr1638, h⟩ := bind_sx h
          refine run_call 27 [iS 8, iS r1636] (some 47) (by kernel_rfl) ?_
          refine call_0 (ring_fault_spec 8 r1636 r1638 hr1638) (by simp only [push_cast, seval]) (by simp only [push_cast, seval]) ?_
          refine back_f ?_
          refine rs 3 [] [] (by kernel_rfl) allP_nil ?_
          refine rf [(6, .ptr 1 0), (7, .v (.slice none 0 0)), (8, .ptr 2 0)] [(0, .row 24 (Enc.cells q)), (1, .row 24 [iS 0, .v (.slice none 0 0)]), (2, .row 28 (Enc.cells r1638)), (3, .row 3 (fl r1635))] 4 (by kernel_rfl) ?_
          refine wk_id ?_
          obtain rfl := Option.some.inj h
          refine ret_at (.tup [.agg [iS 0, .v (.slice none 0 0)], .v (.slice none 0 0), .agg (Enc.cells r1638)]) (by kernel_rfl) ?_
          exact ret_e [] [] (by simp only [push_cast, seval]) (by simp only [push_cast, seval]) rfl rfl rfl
        · refine wk_id ?_
          refine seq_np ?_
          refine seq_cut (A := Unit) (fun _ => ([(1, .sl global.length (fl global)), (2, iS procs), (3, .ptr 0 0), (6, .ptr 1 0), (8, .ptr 2 0), (53, bS ((decide (procs < 1)) || (decide ((64 : Int) < procs))))], [(0, .row 24 (Enc.cells q)), (1, .row 24 [iS 0, .v (.slice none 0 0)]), (2, .row 28 [iS 0, iS 0]), (3, .row 3 (fl r1635))], 4)) (fun _ => True) (fun K1643 hK1643 => ?_) (fun _ _ => ?_)
          · refine reg_f ?_
            refine rs 3 [] [] (by kernel_rfl) allP_nil ?_
            refine run_split 50 (decide (procs < 1)) (.inl (by kernel_rfl)) (fun g1644 => ?_) (fun g1644 => ?_)
            · refine rs 3 [] [] (by kernel_rfl) allP_nil ?_
              refine rf [(1, .sl global.length (fl global)), (2, iS procs), (3, .ptr 0 0), (6, .ptr 1 0), (8, .ptr 2 0), (53, bS true)] [(0, .row 24 (Enc.cells q)), (1, .row 24 [iS 0, .v (.slice none 0 0)]), (2, .row 28 [iS 0, iS 0]), (3, .row 3 (fl r1635))] 4 (by kernel_rfl) ?_
              exact hK1643 () _ _ _ trivial (leSt_m [(0, 0), (1, 1), (2, 2), (3, 3)] [] (by (try simp only [g1644]) <;> simp only [push_cast, seval]) (by (try simp only [g1644]) <;> simp only [push_cast, seval]) rfl rfl rfl)
            · refine rs 3 [] [] (by kernel_rfl) allP_nil ?_
              refine rf [(1, .sl global.length (fl global)), (2, iS procs), (3, .ptr 0 0), (6, .ptr 1 0), (8, .ptr 2 0), (53, bS (decide ((64 : Int) < procs)))] [(0, .row 24 (Enc.cells q)), (1, .row 24 [iS 0, .v (.slice none 0 0)]), (2, .row 28 [iS 0, iS 0]), (3, .row 3 (fl r1635))] 4 (by kernel_rfl) ?_
              exact hK1643 () _ _ _ trivial (leSt_m [(0, 0), (1, 1), (2, 2), (3, 3)] [] (by (try simp only [g1644]) <;> simp only [push_cast, seval]) (by (try simp only [g1644]) <;> simp only [push_cast, seval]) rfl rfl rfl)
          · dsimp only
            refine cond_sx h (by kernel_rfl) (fun g1667 h => ?_) (fun g1667 h => ?_)
            · refine seq_np ?_
              refine reg_f ?_
              refine rs 1 [] [] (by kernel_rfl) allP_nil ?_
              obtain ⟨r1646, hr1646, h⟩ := bind_sx h
              refine run_call 27 [iS 3, iS (-1)] (some 55) (by kernel_rfl) ?_
              refine call_0 (ring_fault_spec 3 (-1) r1646 hr1646) (by simp only [push_cast, seval]) (by simp only [push_cast, seval]) ?_
              refine back_f ?_
              refine rs 3 [] [] (by kernel_rfl) allP_nil ?_
              refine rf [(6, .ptr 1 0), (7, .v (.slice none 0 0)), (8, .ptr 2 0)] [(0, .row 24 (Enc.cells q)), (1, .row 24 [iS 0, .v (.slice none 0 0)]), (2, .row 28 (Enc.cells r1646)), (3, .row 3 (fl r1635))] 4 (by kernel_rfl) ?_
              refine wk_id ?_
              obtain rfl := Option.some.inj h
              refine ret_at (.tup [.agg [iS 0, .v (.slice none 0 0)], .v (.slice none 0 0), .agg (Enc.cells r1646)]) (by kernel_rfl) ?_
              exact ret_e [] [] (by simp only [push_cast, seval]) (by simp only [push_cast, seval]) rfl rfl rfl
            · refine wk_id ?_
              refine chk_sx h (fun g1650 h => ?_)
              refine seq_np ?_
              refine reg_t ?_
              have k1649 : procs ≠ 0 := by first | simpa only [Bool.and_eq_true, decide_eq_true_eq, bne_iff_ne, ne_eq] using g1650 | (simp at g1650 ⊢; omega)
              refine rs 13 [none, none, none, some ⟨iS (IntKind.i64.wrap (Int.tdiv ((global.length : Nat) : Int) procs)), [], 7, []⟩] _ (by kernel_rfl) (allP_cons (ob_p (v := iS (IntKind.i64.wrap (Int.tdiv ((global.length : Nat) : Int) procs))) (nx := 7) (r := []) k1649) allP_nil) ?_
              refine rt [(1, .sl global.length (fl global)), (3, .ptr 0 0), (6, .ptr 1 0), (8, .ptr 2 0), (13, iS (min (min (min (IntKind.i64.wrap ((IntKind.i64.wrap (Int.tdiv ((global.length : Nat) : Int) procs)) + 1)) ((global.length : Nat) : Int)) 128) (IntKind.i64.wrap ((256 : Int) - ((q.List.length : Nat) : Int)))))] [(0, .row 24 (Enc.cells q)), (1, .row 24 [iS 0, .v (.slice none 0 0)]), (2, .row 28 [iS 0, iS 0]), (3, .row 3 (fl r1635))] 17 follows (by kernel_rfl) ?_
              refine wk_id ?_
              refine seq_np ?_
              refine reg_f ?_
              refine rs 1 [] [] (by kernel_rfl) allP_nil ?_
              obtain ⟨r1652, hr1652, h⟩ := bind_sx h
              refine call_x (ring_copied_spec q r1652 hr1652) (args := [.agg (Enc.cells q)]) (dst := (some 69)) (by kernel_rfl) [(0, .row 24 (Enc.cells q)), (1, .row 24 [iS 0, .v (.slice none 0 0)]), (2, .row 28 [iS 0, iS 0]), (3, .row 3 (fl r1635))] 17 (by kernel_rfl) [] [] (.agg [iS r1652.1, .own 17 0 r1652.2.length]) [(17, .row 3 (fl r1652.2))] (by simp only [push_cast, seval]) (by simp only [push_cast, seval]) (by kernel_rfl) (.inl rfl) (by simp only [push_cast, seval]) (by simp only [push_cast, seval]) ?_
              refine rs 1 [] [] (by kernel_rfl) allP_nil ?_
              refine rf [(1, .sl global.length (fl global)), (3, .ptr 0 0), (6, .ptr 1 0), (8, .ptr 2 0), (13, iS (min (min (min (IntKind.i64.wrap ((IntKind.i64.wrap (Int.tdiv ((global.length : Nat) : Int) procs)) + 1)) ((global.length : Nat) : Int)) 128) (IntKind.i64.wrap ((256 : Int) - ((q.List.length : Nat) : Int)))))] [(0, .row 24 [iS r1652.1, .own 17 0 r1652.2.length]), (1, .row 24 [iS 0, .v (.slice none 0 0)]), (2, .row 28 [iS 0, iS 0]), (3, .row 3 (fl r1635)), (17, .row 3 (fl r1652.2))] 18 (by kernel_rfl) ?_
              refine wk_id ?_
              refine chk_sx h (fun g1658 h => ?_)
              refine chk_sx h (fun g1660 h => ?_)
              refine seq_np ?_
              refine reg_t ?_
              have k1657 : 0 ≤ (0 : Int) ∧ (0 : Int) ≤ (min (min (min (IntKind.i64.wrap ((IntKind.i64.wrap (Int.tdiv ((global.length : Nat) : Int) procs)) + 1)) ((global.length : Nat) : Int)) 128) (IntKind.i64.wrap ((256 : Int) - ((q.List.length : Nat) : Int)))) ∧ (min (min (min (IntKind.i64.wrap ((IntKind.i64.wrap (Int.tdiv ((global.length : Nat) : Int) procs)) + 1)) ((global.length : Nat) : Int)) 128) (IntKind.i64.wrap ((256 : Int) - ((q.List.length : Nat) : Int)))) ≤ ((global.length : Nat) : Int) := by first | simpa only [Bool.and_eq_true, decide_eq_true_eq, bne_iff_ne, ne_eq] using g1658 | (simp at g1658 ⊢; omega)
              have k1659 : (r1652.2 ++ (cut global (0 : Int) (min (min (min (IntKind.i64.wrap ((IntKind.i64.wrap (Int.tdiv ((global.length : Nat) : Int) procs)) + 1)) ((global.length : Nat) : Int)) 128) (IntKind.i64.wrap ((256 : Int) - ((q.List.length : Nat) : Int)))))).length * 8 ≤ 140737488355328 := by first | simpa only [Bool.and_eq_true, decide_eq_true_eq, bne_iff_ne, ne_eq] using g1660 | (simp at g1660 ⊢; omega)
              refine rs 8 [none, none, none, none, some ⟨.sl (cut global (0 : Int) (min (min (min (IntKind.i64.wrap ((IntKind.i64.wrap (Int.tdiv ((global.length : Nat) : Int) procs)) + 1)) ((global.length : Nat) : Int)) 128) (IntKind.i64.wrap ((256 : Int) - ((q.List.length : Nat) : Int))))).length (fl (cut global (0 : Int) (min (min (min (IntKind.i64.wrap ((IntKind.i64.wrap (Int.tdiv ((global.length : Nat) : Int) procs)) + 1)) ((global.length : Nat) : Int)) 128) (IntKind.i64.wrap ((256 : Int) - ((q.List.length : Nat) : Int)))))), [], 22, []⟩, some ⟨.own 23 0 (r1652.2 ++ (cut global (0 : Int) (min (min (min (IntKind.i64.wrap ((IntKind.i64.wrap (Int.tdiv ((global.length : Nat) : Int) procs)) + 1)) ((global.length : Nat) : Int)) 128) (IntKind.i64.wrap ((256 : Int) - ((q.List.length : Nat) : Int)))))).length, [(23, .row 3 (fl (r1652.2 ++ (cut global (0 : Int) (min (min (min (IntKind.i64.wrap ((IntKind.i64.wrap (Int.tdiv ((global.length : Nat) : Int) procs)) + 1)) ((global.length : Nat) : Int)) 128) (IntKind.i64.wrap ((256 : Int) - ((q.List.length : Nat) : Int)))))))), (17, .dead)], 24, [17]⟩] _ (by kernel_rfl) (allP_cons (ob_app (P := Try.prog) r1652.2 (cut global (0 : Int) (min (min (min (IntKind.i64.wrap ((IntKind.i64.wrap (Int.tdiv ((global.length : Nat) : Int) procs)) + 1)) ((global.length : Nat) : Int)) 128) (IntKind.i64.wrap ((256 : Int) - ((q.List.length : Nat) : Int))))) 1 8 rfl (fl (cut global (0 : Int) (min (min (min (IntKind.i64.wrap ((IntKind.i64.wrap (Int.tdiv ((global.length : Nat) : Int) procs)) + 1)) ((global.length : Nat) : Int)) 128) (IntKind.i64.wrap ((256 : Int) - ((q.List.length : Nat) : Int)))))) (cut global (0 : Int) (min (min (min (IntKind.i64.wrap ((IntKind.i64.wrap (Int.tdiv ((global.length : Nat) : Int) procs)) + 1)) ((global.length : Nat) : Int)) 128) (IntKind.i64.wrap ((256 : Int) - ((q.List.length : Nat) : Int))))).length rfl rfl ((fl (cut global (0 : Int) (min (min (min (IntKind.i64.wrap ((IntKind.i64.wrap (Int.tdiv ((global.length : Nat) : Int) procs)) + 1)) ((global.length : Nat) : Int)) 128) (IntKind.i64.wrap ((256 : Int) - ((q.List.length : Nat) : Int)))))).length = (cut global (0 : Int) (min (min (min (IntKind.i64.wrap ((IntKind.i64.wrap (Int.tdiv ((global.length : Nat) : Int) procs)) + 1)) ((global.length : Nat) : Int)) 128) (IntKind.i64.wrap ((256 : Int) - ((q.List.length : Nat) : Int))))).length * 1) (app_sl (cut global (0 : Int) (min (min (min (IntKind.i64.wrap ((IntKind.i64.wrap (Int.tdiv ((global.length : Nat) : Int) procs)) + 1)) ((global.length : Nat) : Int)) 128) (IntKind.i64.wrap ((256 : Int) - ((q.List.length : Nat) : Int))))) 1 rfl) 3 (by kernel_rfl) (by decide) k1659 17 23 []) (allP_cons (ob_cut global (0 : Int) (min (min (min (IntKind.i64.wrap ((IntKind.i64.wrap (Int.tdiv ((global.length : Nat) : Int) procs)) + 1)) ((global.length : Nat) : Int)) 128) (IntKind.i64.wrap ((256 : Int) - ((q.List.length : Nat) : Int)))) 1 22 rfl k1657) allP_nil)) ?_
              refine rt [(1, .sl global.length (fl global)), (3, .ptr 0 0), (6, .ptr 1 0), (8, .ptr 2 0), (13, iS (min (min (min (IntKind.i64.wrap ((IntKind.i64.wrap (Int.tdiv ((global.length : Nat) : Int) procs)) + 1)) ((global.length : Nat) : Int)) 128) (IntKind.i64.wrap ((256 : Int) - ((q.List.length : Nat) : Int)))))] [(0, .row 24 [iS r1652.1, .own 23 0 (r1652.2 ++ (cut global (0 : Int) (min (min (min (IntKind.i64.wrap ((IntKind.i64.wrap (Int.tdiv ((global.length : Nat) : Int) procs)) + 1)) ((global.length : Nat) : Int)) 128) (IntKind.i64.wrap ((256 : Int) - ((q.List.length : Nat) : Int)))))).length]), (1, .row 24 [iS 0, .v (.slice none 0 0)]), (2, .row 28 [iS 0, iS 0]), (3, .row 3 (fl r1635)), (17, .dead), (23, .row 3 (fl (r1652.2 ++ (cut global (0 : Int) (min (min (min (IntKind.i64.wrap ((IntKind.i64.wrap (Int.tdiv ((global.length : Nat) : Int) procs)) + 1)) ((global.length : Nat) : Int)) 128) (IntKind.i64.wrap ((256 : Int) - ((q.List.length : Nat) : Int))))))))] 27 follows (by kernel_rfl) ?_
              refine wk_id ?_
              refine chk_sx h (fun g1665 h => ?_)
              refine seq_np ?_
              refine reg_t ?_
              have k1664 : 0 ≤ (min (min (min (IntKind.i64.wrap ((IntKind.i64.wrap (Int.tdiv ((global.length : Nat) : Int) procs)) + 1)) ((global.length : Nat) : Int)) 128) (IntKind.i64.wrap ((256 : Int) - ((q.List.length : Nat) : Int)))) ∧ (min (min (min (IntKind.i64.wrap ((IntKind.i64.wrap (Int.tdiv ((global.length : Nat) : Int) procs)) + 1)) ((global.length : Nat) : Int)) 128) (IntKind.i64.wrap ((256 : Int) - ((q.List.length : Nat) : Int)))) ≤ ((global.length : Nat) : Int) ∧ ((global.length : Nat) : Int) ≤ ((global.length : Nat) : Int) := by first | simpa only [Bool.and_eq_true, decide_eq_true_eq, bne_iff_ne, ne_eq] using g1665 | (simp at g1665 ⊢; omega)
              refine rs 4 [none, none, none, some ⟨.sl (cut global (min (min (min (IntKind.i64.wrap ((IntKind.i64.wrap (Int.tdiv ((global.length : Nat) : Int) procs)) + 1)) ((global.length : Nat) : Int)) 128) (IntKind.i64.wrap ((256 : Int) - ((q.List.length : Nat) : Int)))) ((global.length : Nat) : Int)).length (fl (cut global (min (min (min (IntKind.i64.wrap ((IntKind.i64.wrap (Int.tdiv ((global.length : Nat) : Int) procs)) + 1)) ((global.length : Nat) : Int)) 128) (IntKind.i64.wrap ((256 : Int) - ((q.List.length : Nat) : Int)))) ((global.length : Nat) : Int))), [], 30, []⟩] _ (by kernel_rfl) (allP_cons (ob_cut global (min (min (min (IntKind.i64.wrap ((IntKind.i64.wrap (Int.tdiv ((global.length : Nat) : Int) procs)) + 1)) ((global.length : Nat) : Int)) 128) (IntKind.i64.wrap ((256 : Int) - ((q.List.length : Nat) : Int)))) ((global.length : Nat) : Int) 1 30 rfl k1664) allP_nil) ?_
              obtain ⟨r1666, hr1666, h⟩ := bind_sx h
              refine call_x (slices_Clone_spec (cut global (min (min (min (IntKind.i64.wrap ((IntKind.i64.wrap (Int.tdiv ((global.length : Nat) : Int) procs)) + 1)) ((global.length : Nat) : Int)) 128) (IntKind.i64.wrap ((256 : Int) - ((q.List.length : Nat) : Int)))) ((global.length : Nat) : Int)) r1666 hr1666) (args := [.sl (cut global (min (min (min (IntKind.i64.wrap ((IntKind.i64.wrap (Int.tdiv ((global.length : Nat) : Int) procs)) + 1)) ((global.length : Nat) : Int)) 128) (IntKind.i64.wrap ((256 : Int) - ((q.List.length : Nat) : Int)))) ((global.length : Nat) : Int)).length (fl (cut global (min (min (min (IntKind.i64.wrap ((IntKind.i64.wrap (Int.tdiv ((global.length : Nat) : Int) procs)) + 1)) ((global.length : Nat) : Int)) 128) (IntKind.i64.wrap ((256 : Int) - ((q.List.length : Nat) : Int)))) ((global.length : Nat) : Int)))]) (dst := (some 81)) (by kernel_rfl) [(0, .row 24 [iS r1652.1, .own 23 0 (r1652.2 ++ (cut global (0 : Int) (min (min (min (IntKind.i64.wrap ((IntKind.i64.wrap (Int.tdiv ((global.length : Nat) : Int) procs)) + 1)) ((global.length : Nat) : Int)) 128) (IntKind.i64.wrap ((256 : Int) - ((q.List.length : Nat) : Int)))))).length]), (1, .row 24 [iS 0, .v (.slice none 0 0)]), (2, .row 28 [iS 0, iS 0]), (3, .row 3 (fl r1635)), (17, .dead), (23, .row 3 (fl (r1652.2 ++ (cut global (0 : Int) (min (min (min (IntKind.i64.wrap ((IntKind.i64.wrap (Int.tdiv ((global.length : Nat) : Int) procs)) + 1)) ((global.length : Nat) : Int)) 128) (IntKind.i64.wrap ((256 : Int) - ((q.List.length : Nat) : Int))))))))] 31 (by kernel_rfl) [] [] (.own 31 0 r1666.length) [(31, .row 3 (fl r1666))] (by simp only [push_cast, seval]) (by simp only [push_cast, seval]) (by kernel_rfl) (.inl rfl) (by simp only [push_cast, seval]) (by simp only [push_cast, seval]) ?_
              refine rs 4 [] [] (by kernel_rfl) allP_nil ?_
              refine rt [(6, .ptr 1 0), (7, .own 31 0 r1666.length), (8, .ptr 2 0)] [(0, .row 24 [iS r1652.1, .own 23 0 (r1652.2 ++ (cut global (0 : Int) (min (min (min (IntKind.i64.wrap ((IntKind.i64.wrap (Int.tdiv ((global.length : Nat) : Int) procs)) + 1)) ((global.length : Nat) : Int)) 128) (IntKind.i64.wrap ((256 : Int) - ((q.List.length : Nat) : Int)))))).length]), (1, .row 24 [iS r1652.1, .own 23 0 (r1652.2 ++ (cut global (0 : Int) (min (min (min (IntKind.i64.wrap ((IntKind.i64.wrap (Int.tdiv ((global.length : Nat) : Int) procs)) + 1)) ((global.length : Nat) : Int)) 128) (IntKind.i64.wrap ((256 : Int) - ((q.List.length : Nat) : Int)))))).length]), (2, .row 28 [iS 0, iS 0]), (3, .row 3 (fl r1635)), (17, .dead), (23, .row 3 (fl (r1652.2 ++ (cut global (0 : Int) (min (min (min (IntKind.i64.wrap ((IntKind.i64.wrap (Int.tdiv ((global.length : Nat) : Int) procs)) + 1)) ((global.length : Nat) : Int)) 128) (IntKind.i64.wrap ((256 : Int) - ((q.List.length : Nat) : Int)))))))), (31, .row 3 (fl r1666))] 37 follows (by kernel_rfl) ?_
              refine wk_id ?_
              obtain rfl := Option.some.inj h
              refine ret_at (.tup [.agg [iS r1652.1, .own 23 0 (r1652.2 ++ (cut global (0 : Int) (min (min (min (IntKind.i64.wrap ((IntKind.i64.wrap (Int.tdiv ((global.length : Nat) : Int) procs)) + 1)) ((global.length : Nat) : Int)) 128) (IntKind.i64.wrap ((256 : Int) - ((q.List.length : Nat) : Int)))))).length], .own 31 0 r1666.length, .agg [iS 0, iS 0]]) (by kernel_rfl) ?_
              exact ret_e [(0, 23), (1, 31)] [] (by simp only [push_cast, seval]) (by simp only [push_cast, seval]) rfl rfl rfl

end Go.Proofs.Ytgmklpakhdladaa
