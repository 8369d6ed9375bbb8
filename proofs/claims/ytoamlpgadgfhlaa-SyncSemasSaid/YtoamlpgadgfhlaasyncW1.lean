/-
  What laws of the chapter sync compute, and lemmas on it.
  No conditions.
-/
import Derived.Test.YtoamlpgadgfhlaaProg
import Derived.Test.YtoamlpgadgfhlaasyncG
set_option linter.unusedSimpArgs false
set_option linter.unusedVariables false
namespace Go.Proofs.Ytoamlpgadgfhlaa
open Go Go.Sx
attribute [local irreducible] Wk RunAt
theorem follows : Try.prog.follows .mixedOrders = true := by kernel_rfl

set_option maxRecDepth 100000 in
set_option maxHeartbeats 10000000 in
theorem sync_fault_spec (code : Int) (xat : Int) (r : Fault) (h : sync_fault code xat = some r) : SpecW Try.prog 38 [iS code, iS xat] [] 0 (fun x h n => x = .agg (Enc.cells r) ∧ h = [] ∧ n = 0) := by
  unfold sync_fault at h
  refine spec_of (draw_ok _) Try.func38 rfl (by decide) rfl (by kernel_rfl) ?_
  refine seq_np ?_
  refine reg_f ?_
  refine rs 1 [] [] (by kernel_rfl) allP_nil ?_
  refine rf [(0, iS code), (1, iS xat), (4, .ptr 0 0)] [(0, .row 29 [iS 0, iS 0])] 1 (by kernel_rfl) ?_
  refine wk_id ?_
  refine seq_np ?_
  refine reg_f ?_
  refine rs 4 [] [] (by kernel_rfl) allP_nil ?_
  refine rf [(4, .ptr 0 0)] [(0, .row 29 [iS code, iS xat])] 1 (by kernel_rfl) ?_
  refine wk_id ?_
  obtain rfl := Option.some.inj h
  refine ret_at (.agg [iS code, iS xat]) (by kernel_rfl) ?_
  exact ret_e [] [] (by simp only [push_cast, seval]) (by simp only [push_cast, seval]) rfl rfl rfl

set_option maxRecDepth 100000 in
set_option maxHeartbeats 10000000 in
theorem sync_sema_spec (s : Sema) (r : Fault) (h : sync_sema s = some r) : SpecW Try.prog 37 [.agg (Enc.cells s)] [] 0 (fun x h n => x = .agg (Enc.cells r) ∧ h = [] ∧ n = 0) := by
  unfold sync_sema at h
  refine spec_of (draw_ok _) Try.func37 rfl (by decide) rfl (by kernel_rfl) ?_
  refine seq_np ?_
  refine reg_f ?_
  refine rs 2 [] [] (by kernel_rfl) allP_nil ?_
  refine rf [(1, .ptr 0 0), (2, .ptr 1 0)] [(0, .row 24 (Enc.cells s)), (1, .row 29 [iS 0, iS 0])] 2 (by kernel_rfl) ?_
  refine wk_id ?_
  refine seq_np ?_
  refine seq_np ?_
  refine reg_f ?_
  refine rs 4 [] [] (by kernel_rfl) allP_nil ?_
  refine rf [(1, .ptr 0 0), (2, .ptr 1 0), (9, bS (decide ((5000 : Int) < ((s.Line.length : Nat) : Int))))] [(0, .row 24 (Enc.cells s)), (1, .row 29 [iS 0, iS 0])] 2 (by kernel_rfl) ?_
  refine wk_id ?_
  refine cond_sx h (by kernel_rfl) (fun g212 h => ?_) (fun g212 h => ?_)
  · refine seq_np ?_
    refine reg_f ?_
    obtain ⟨r48, hr48, h⟩ := bind_sx h
    refine run_call 38 [iS 2, iS 0] (some 10) (by kernel_rfl) ?_
    refine call_0 (sync_fault_spec 2 0 r48 hr48) (by simp only [push_cast, seval]) (by simp only [push_cast, seval]) ?_
    refine back_f ?_
    refine rs 1 [] [] (by kernel_rfl) allP_nil ?_
    refine rf [(2, .ptr 1 0)] [(0, .row 24 (Enc.cells s)), (1, .row 29 (Enc.cells r48))] 2 (by kernel_rfl) ?_
    refine wk_id ?_
    obtain rfl := Option.some.inj h
    refine ret_at (.agg (Enc.cells r48)) (by kernel_rfl) ?_
    exact ret_e [] [] (by simp only [push_cast, seval]) (by simp only [push_cast, seval]) rfl rfl rfl
  · refine wk_id ?_
    refine seq_np ?_
    refine seq_cut (A := Unit) (fun _ => ([(1, .ptr 0 0), (2, .ptr 1 0), (18, bS ((decide (s.Free < 0)) || (decide ((1000000000 : Int) < s.Free))))], [(0, .row 24 (Enc.cells s)), (1, .row 29 [iS 0, iS 0])], 2)) (fun _ => True) (fun K53 hK53 => ?_) (fun _ _ => ?_)
    · refine reg_f ?_
      refine rs 4 [] [] (by kernel_rfl) allP_nil ?_
      refine run_split 14 (decide (s.Free < 0)) (.inl (by kernel_rfl)) (fun g54 => ?_) (fun g54 => ?_)
      · refine rs 4 [] [] (by kernel_rfl) allP_nil ?_
        refine rf [(1, .ptr 0 0), (2, .ptr 1 0), (18, bS true)] [(0, .row 24 (Enc.cells s)), (1, .row 29 [iS 0, iS 0])] 2 (by kernel_rfl) ?_
        exact hK53 () _ _ _ trivial (leSt_m [(0, 0), (1, 1)] [] (by (try simp only [g54]) <;> simp only [push_cast, seval]) (by (try simp only [g54]) <;> simp only [push_cast, seval]) rfl rfl rfl)
      · refine rs 4 [] [] (by kernel_rfl) allP_nil ?_
        refine rf [(1, .ptr 0 0), (2, .ptr 1 0), (18, bS (decide ((1000000000 : Int) < s.Free)))] [(0, .row 24 (Enc.cells s)), (1, .row 29 [iS 0, iS 0])] 2 (by kernel_rfl) ?_
        exact hK53 () _ _ _ trivial (leSt_m [(0, 0), (1, 1)] [] (by (try simp only [g54]) <;> simp only [push_cast, seval]) (by (try simp only [g54]) <;> simp only [push_cast, seval]) rfl rfl rfl)
    · dsimp only
      refine cond_sx h (by kernel_rfl) (fun g211 h => ?_) (fun g211 h => ?_)
      · refine seq_np ?_
        refine reg_f ?_
        obtain ⟨r56, hr56, h⟩ := bind_sx h
        refine run_call 38 [iS 3, iS 0] (some 19) (by kernel_rfl) ?_
        refine call_0 (sync_fault_spec 3 0 r56 hr56) (by simp only [push_cast, seval]) (by simp only [push_cast, seval]) ?_
        refine back_f ?_
        refine rs 1 [] [] (by kernel_rfl) allP_nil ?_
        refine rf [(2, .ptr 1 0)] [(0, .row 24 (Enc.cells s)), (1, .row 29 (Enc.cells r56))] 2 (by kernel_rfl) ?_
        refine wk_id ?_
        obtain rfl := Option.some.inj h
        refine ret_at (.agg (Enc.cells r56)) (by kernel_rfl) ?_
        exact ret_e [] [] (by simp only [push_cast, seval]) (by simp only [push_cast, seval]) rfl rfl rfl
      · refine wk_id ?_
        refine seq_np ?_
        refine chk_sx h (fun g68 h => ?_)
        refine seq_cut (A := Unit) (fun _ => ([(1, .ptr 0 0), (2, .ptr 1 0), (33, bS ((decide ((0 : Int) < ((s.Line.length : Nat) : Int))) && (decide ((ix s.Line (0 : Int)).N ≤ s.Free))))], [(0, .row 24 (Enc.cells s)), (1, .row 29 [iS 0, iS 0])], 16)) (fun _ => True) (fun K65 hK65 => ?_) (fun _ _ => ?_)
        · refine reg_t ?_
          refine rs 5 [] [] (by kernel_rfl) allP_nil ?_
          refine run_split 24 (decide ((0 : Int) < ((s.Line.length : Nat) : Int))) (.inl (by kernel_rfl)) (fun g66 => ?_) (fun g66 => ?_)
          · have k67 : 0 ≤ (0 : Int) ∧ (0 : Int) < ((s.Line.length : Nat) : Int) := by have e := or_use g68 (by (try simp only [g66]) <;> rfl); first | simpa only [Bool.and_eq_true, decide_eq_true_eq, bne_iff_ne, ne_eq] using e | (simp at e ⊢; omega)
            refine rs 9 [none, none, some ⟨.iptr (fl s.Line) (((0 : Int)).toNat * 3), [], 9, []⟩, none, some ⟨iS (ix s.Line (0 : Int)).N, [], 11, []⟩] _ (by kernel_rfl) (allP_cons (ob_ld s.Line (0 : Int) 3 2 ((((0 : Int)).toNat * 3) + 2) k67 rfl (by decide) (by first | rfl | omega) (dflS Try.prog 3) (iS (ix s.Line (0 : Int)).N) rfl 11 []) (allP_cons (ob_ix_l s.Line 3 9 0 k67) allP_nil)) ?_
            refine rt [(1, .ptr 0 0), (2, .ptr 1 0), (33, bS (decide ((ix s.Line (0 : Int)).N ≤ s.Free)))] [(0, .row 24 (Enc.cells s)), (1, .row 29 [iS 0, iS 0])] 16 follows (by kernel_rfl) ?_
            exact hK65 () _ _ _ trivial (leSt_m [(0, 0), (1, 1)] [] (by (try simp only [g66]) <;> simp only [push_cast, seval]) (by (try simp only [g66]) <;> simp only [push_cast, seval]) rfl rfl rfl)
          · refine rs 9 [] [] (by kernel_rfl) allP_nil ?_
            refine rt [(1, .ptr 0 0), (2, .ptr 1 0), (33, bS false)] [(0, .row 24 (Enc.cells s)), (1, .row 29 [iS 0, iS 0])] 16 follows (by kernel_rfl) ?_
            exact hK65 () _ _ _ trivial (leSt_m [(0, 0), (1, 1)] [] (by (try simp only [g66]) <;> simp only [push_cast, seval]) (by (try simp only [g66]) <;> simp only [push_cast, seval]) rfl rfl rfl)
        · dsimp only
          refine cond_sx h (by kernel_rfl) (fun g210 h => ?_) (fun g210 h => ?_)
          · refine seq_np ?_
            refine reg_f ?_
            obtain ⟨r70, hr70, h⟩ := bind_sx h
            refine run_call 38 [iS 5, iS 0] (some 34) (by kernel_rfl) ?_
            refine call_0 (sync_fault_spec 5 0 r70 hr70) (by simp only [push_cast, seval]) (by simp only [push_cast, seval]) ?_
            refine back_f ?_
            refine rs 1 [] [] (by kernel_rfl) allP_nil ?_
            refine rf [(2, .ptr 1 0)] [(0, .row 24 (Enc.cells s)), (1, .row 29 (Enc.cells r70))] 16 (by kernel_rfl) ?_
            refine wk_id ?_
            obtain rfl := Option.some.inj h
            refine ret_at (.agg (Enc.cells r70)) (by kernel_rfl) ?_
            exact ret_e [] [] (by simp only [push_cast, seval]) (by simp only [push_cast, seval]) rfl rfl rfl
          · refine wk_id ?_
            refine seq_np ?_
            refine reg_f ?_
            refine rs 2 [] [] (by kernel_rfl) allP_nil ?_
            refine rf [(1, .ptr 0 0), (2, .ptr 1 0), (3, .mp 16)] [(0, .row 24 (Enc.cells s)), (1, .row 29 [iS 0, iS 0]), (16, .map (mi []))] 17 (by kernel_rfl) ?_
            refine wk_id ?_
            refine seq_np ?_
            refine seq_np ?_
            refine reg_f ?_
            refine rs 4 [] [] (by kernel_rfl) allP_nil ?_
            refine rf [(2, .ptr 1 0), (3, .mp 16), (37, .sl s.Line.length (fl s.Line)), (38, iS ((s.Line.length : Nat) : Int)), (39, iS 0)] [(0, .row 24 (Enc.cells s)), (1, .row 29 [iS 0, iS 0]), (16, .map (mi []))] 17 (by kernel_rfl) ?_
            refine wk_id ?_
            refine block_np ?_
            refine loop_sx (S := Int × (List (Int × Int))) (fun a => ([(2, .ptr 0 0), (3, .mp 1), (37, .sl s.Line.length (fl s.Line)), (38, iS ((s.Line.length : Nat) : Int)), (39, iS a.1)], [(0, .row 29 [iS 0, iS 0]), (1, .map (mi a.2))], 2)) h (leSt_m [(0, 1), (1, 16)] [] (by simp only [push_cast, seval]) (by simp only [push_cast, seval]) rfl rfl rfl) ?_
            rintro ⟨t39q7, c1q7⟩ o2 R2 h hr2 hn2 hx2 ht2
            try dsimp only at h hn2 ⊢
            unfold sync_sema_l1 at h
            try dsimp only at h
            refine seq_np ?_
            refine reg_f ?_
            refine rs 1 [] [] (by kernel_rfl) allP_nil ?_
            refine rf [(2, .ptr 0 0), (3, .mp 1), (37, .sl s.Line.length (fl s.Line)), (38, iS ((s.Line.length : Nat) : Int)), (39, iS t39q7), (40, bS (decide (t39q7 < ((s.Line.length : Nat) : Int))))] [(0, .row 29 [iS 0, iS 0]), (1, .map (mi c1q7))] 2 (by kernel_rfl) ?_
            refine wk_id ?_
            refine seq_np ?_
            refine cond_sx h (by kernel_rfl) (fun g209 h => ?_) (fun g209 h => ?_)
            · refine wk_id ?_
              refine seq_np ?_
              refine block_np ?_
              refine chk_sx h (fun g186 h => ?_)
              refine seq_np ?_
              refine reg_f ?_
              have k185 : 0 ≤ t39q7 ∧ t39q7 < ((s.Line.length : Nat) : Int) := by first | simpa only [Bool.and_eq_true, decide_eq_true_eq, bne_iff_ne, ne_eq] using g186 | (simp at g186 ⊢; omega)
              refine rs 6 [none, some ⟨.iptr (fl s.Line) ((t39q7).toNat * 3), [], 2, []⟩, some ⟨.agg (Enc.cells (ix s.Line t39q7)), [], 2, []⟩] _ (by kernel_rfl) (allP_cons (ob_ldw s.Line t39q7 3 ((t39q7).toNat * 3) k185 rfl (by first | rfl | omega) [iS (ix s.Line t39q7).Task, bS (ix s.Line t39q7).Write, iS (ix s.Line t39q7).N] rfl 2 []) (allP_cons (ob_ix_l s.Line 3 2 t39q7 k185) allP_nil)) ?_
              refine rf [(2, .ptr 0 0), (3, .mp 1), (4, iS t39q7), (5, .ptr 2 0), (37, .sl s.Line.length (fl s.Line)), (38, iS ((s.Line.length : Nat) : Int)), (39, iS t39q7)] [(0, .row 29 [iS 0, iS 0]), (1, .map (mi c1q7)), (2, .row 42 (Enc.cells (ix s.Line t39q7)))] 3 (by kernel_rfl) ?_
              refine wk_id ?_
              refine seq_np ?_
              refine seq_cut (A := Unit) (fun _ => ([(2, .ptr 0 0), (3, .mp 1), (4, iS t39q7), (5, .ptr 2 0), (37, .sl s.Line.length (fl s.Line)), (38, iS ((s.Line.length : Nat) : Int)), (39, iS t39q7), (56, bS ((decide ((ix s.Line t39q7).Task < 1)) || ((decide ((ix s.Line t39q7).N < 1)) || (decide ((1000000000 : Int) < (ix s.Line t39q7).N)))))], [(0, .row 29 [iS 0, iS 0]), (1, .map (mi c1q7)), (2, .row 42 (Enc.cells (ix s.Line t39q7)))], 3)) (fun _ => True) (fun K193 hK193 => ?_) (fun _ _ => ?_)
              · refine reg_f ?_
                refine rs 4 [] [] (by kernel_rfl) allP_nil ?_
                refine run_split 47 (decide ((ix s.Line t39q7).Task < 1)) (.inl (by kernel_rfl)) (fun g194 => ?_) (fun g194 => ?_)
                · refine rs 9 [] [] (by kernel_rfl) allP_nil ?_
                  refine rf [(2, .ptr 0 0), (3, .mp 1), (4, iS t39q7), (5, .ptr 2 0), (37, .sl s.Line.length (fl s.Line)), (38, iS ((s.Line.length : Nat) : Int)), (39, iS t39q7), (56, bS true)] [(0, .row 29 [iS 0, iS 0]), (1, .map (mi c1q7)), (2, .row 42 (Enc.cells (ix s.Line t39q7)))] 3 (by kernel_rfl) ?_
                  exact hK193 () _ _ _ trivial (leSt_m [(0, 0), (1, 1), (2, 2)] [] (by (try simp only [g194]) <;> simp only [push_cast, seval]) (by (try simp only [g194]) <;> simp only [push_cast, seval]) rfl rfl rfl)
                · refine rs 5 [] [] (by kernel_rfl) allP_nil ?_
                  refine run_split 52 (decide ((ix s.Line t39q7).N < 1)) (.inl (by kernel_rfl)) (fun g195 => ?_) (fun g195 => ?_)
                  · refine rs 4 [] [] (by kernel_rfl) allP_nil ?_
                    refine rf [(2, .ptr 0 0), (3, .mp 1), (4, iS t39q7), (5, .ptr 2 0), (37, .sl s.Line.length (fl s.Line)), (38, iS ((s.Line.length : Nat) : Int)), (39, iS t39q7), (56, bS true)] [(0, .row 29 [iS 0, iS 0]), (1, .map (mi c1q7)), (2, .row 42 (Enc.cells (ix s.Line t39q7)))] 3 (by kernel_rfl) ?_
                    exact hK193 () _ _ _ trivial (leSt_m [(0, 0), (1, 1), (2, 2)] [] (by (try simp only [g194, g195]) <;> simp only [push_cast, seval]) (by (try simp only [g194, g195]) <;> simp only [push_cast, seval]) rfl rfl rfl)
                  · refine rs 4 [] [] (by kernel_rfl) allP_nil ?_
                    refine rf [(2, .ptr 0 0), (3, .mp 1), (4, iS t39q7), (5, .ptr 2 0), (37, .sl s.Line.length (fl s.Line)), (38, iS ((s.Line.length : Nat) : Int)), (39, iS t39q7), (56, bS (decide ((1000000000 : Int) < (ix s.Line t39q7).N)))] [(0, .row 29 [iS 0, iS 0]), (1, .map (mi c1q7)), (2, .row 42 (Enc.cells (ix s.Line t39q7)))] 3 (by kernel_rfl) ?_
                    exact hK193 () _ _ _ trivial (leSt_m [(0, 0), (1, 1), (2, 2)] [] (by (try simp only [g194, g195]) <;> simp only [push_cast, seval]) (by (try simp only [g194, g195]) <;> simp only [push_cast, seval]) rfl rfl rfl)
              · dsimp only
                refine cond_sx h (by kernel_rfl) (fun g208 h => ?_) (fun g208 h => ?_)
                · refine seq_np ?_
                  refine reg_f ?_
                  refine rs 2 [] [] (by kernel_rfl) allP_nil ?_
                  obtain ⟨r197, hr197, h⟩ := bind_sx h
                  refine run_call 38 [iS 3, iS (IntKind.i64.wrap (t39q7 + 1))] (some 59) (by kernel_rfl) ?_
                  refine call_0 (sync_fault_spec 3 (IntKind.i64.wrap (t39q7 + 1)) r197 hr197) (by simp only [push_cast, seval]) (by simp only [push_cast, seval]) ?_
                  refine back_f ?_
                  refine rs 1 [] [] (by kernel_rfl) allP_nil ?_
                  refine rf [(2, .ptr 0 0)] [(0, .row 29 (Enc.cells r197)), (1, .map (mi c1q7)), (2, .row 42 (Enc.cells (ix s.Line t39q7)))] 3 (by kernel_rfl) ?_
                  refine wk_id ?_
                  refine rt_cast ht2 ?_
                  obtain ⟨r0, h, e0⟩ := map_sx h
                  have e1 := hr2 r0 e0.symm
                  subst r0
                  obtain rfl := Option.some.inj h
                  refine ret_at (.agg (Enc.cells r197)) (by kernel_rfl) ?_
                  exact ret_e [] [] (by simp only [push_cast, seval]) (by simp only [push_cast, seval]) rfl rfl rfl
                · refine wk_id ?_
                  refine seq_np ?_
                  refine seq_np ?_
                  refine reg_f ?_
                  refine rs 5 [none, none, none, some ⟨iS (miGet c1q7 (ix s.Line t39q7).Task), [], 3, [1]⟩] _ (by kernel_rfl) (allP_cons (ob_look (.int .i64) rfl (ix s.Line t39q7).Task c1q7 1 3) allP_nil) ?_
                  refine rf [(2, .ptr 0 0), (3, .mp 1), (4, iS t39q7), (5, .ptr 2 0), (37, .sl s.Line.length (fl s.Line)), (38, iS ((s.Line.length : Nat) : Int)), (39, iS t39q7), (64, bS (decide ((0 : Int) < (miGet c1q7 (ix s.Line t39q7).Task))))] [(0, .row 29 [iS 0, iS 0]), (1, .map (mi c1q7)), (2, .row 42 (Enc.cells (ix s.Line t39q7)))] 3 (by kernel_rfl) ?_
                  refine wk_id ?_
                  refine cond_sx h (by kernel_rfl) (fun g207 h => ?_) (fun g207 h => ?_)
                  · refine seq_np ?_
                    refine reg_f ?_
                    refine rs 2 [] [] (by kernel_rfl) allP_nil ?_
                    obtain ⟨r201, hr201, h⟩ := bind_sx h
                    refine run_call 38 [iS 10, iS (IntKind.i64.wrap (t39q7 + 1))] (some 67) (by kernel_rfl) ?_
                    refine call_0 (sync_fault_spec 10 (IntKind.i64.wrap (t39q7 + 1)) r201 hr201) (by simp only [push_cast, seval]) (by simp only [push_cast, seval]) ?_
                    refine back_f ?_
                    refine rs 1 [] [] (by kernel_rfl) allP_nil ?_
                    refine rf [(2, .ptr 0 0)] [(0, .row 29 (Enc.cells r201)), (1, .map (mi c1q7)), (2, .row 42 (Enc.cells (ix s.Line t39q7)))] 3 (by kernel_rfl) ?_
                    refine wk_id ?_
                    refine rt_cast ht2 ?_
                    obtain ⟨r0, h, e0⟩ := map_sx h
                    have e1 := hr2 r0 e0.symm
                    subst r0
                    obtain rfl := Option.some.inj h
                    refine ret_at (.agg (Enc.cells r201)) (by kernel_rfl) ?_
                    exact ret_e [] [] (by simp only [push_cast, seval]) (by simp only [push_cast, seval]) rfl rfl rfl
                  · refine wk_id ?_
                    refine seq_np ?_
                    refine seq_np ?_
                    refine reg_f ?_
                    refine rs 2 [] [] (by kernel_rfl) allP_nil ?_
                    refine rf [(2, .ptr 0 0), (3, .mp 1), (4, iS t39q7), (5, .ptr 2 0), (37, .sl s.Line.length (fl s.Line)), (38, iS ((s.Line.length : Nat) : Int)), (39, iS t39q7), (69, bS (ix s.Line t39q7).Write)] [(0, .row 29 [iS 0, iS 0]), (1, .map (mi c1q7)), (2, .row 42 (Enc.cells (ix s.Line t39q7)))] 3 (by kernel_rfl) ?_
                    refine wk_id ?_
                    refine cond_sx h (by kernel_rfl) (fun g206 h => ?_) (fun g206 h => ?_)
                    · refine seq_np ?_
                      refine reg_f ?_
                      refine rs 2 [] [] (by kernel_rfl) allP_nil ?_
                      obtain ⟨r205, hr205, h⟩ := bind_sx h
                      refine run_call 38 [iS 5, iS (IntKind.i64.wrap (t39q7 + 1))] (some 72) (by kernel_rfl) ?_
                      refine call_0 (sync_fault_spec 5 (IntKind.i64.wrap (t39q7 + 1)) r205 hr205) (by simp only [push_cast, seval]) (by simp only [push_cast, seval]) ?_
                      refine back_f ?_
                      refine rs 1 [] [] (by kernel_rfl) allP_nil ?_
                      refine rf [(2, .ptr 0 0)] [(0, .row 29 (Enc.cells r205)), (1, .map (mi c1q7)), (2, .row 42 (Enc.cells (ix s.Line t39q7)))] 3 (by kernel_rfl) ?_
                      refine wk_id ?_
                      refine rt_cast ht2 ?_
                      obtain ⟨r0, h, e0⟩ := map_sx h
                      have e1 := hr2 r0 e0.symm
                      subst r0
                      obtain rfl := Option.some.inj h
                      refine ret_at (.agg (Enc.cells r205)) (by kernel_rfl) ?_
                      exact ret_e [] [] (by simp only [push_cast, seval]) (by simp only [push_cast, seval]) rfl rfl rfl
                    · refine wk_id ?_
                      refine reg_f ?_
                      refine rs 4 [none, none, none, some ⟨.any, [(1, .map (mi (miSet c1q7 (ix s.Line t39q7).Task 1)))], 3, [1]⟩] _ (by kernel_rfl) (allP_cons (ob_mset (.int .i64) rfl (ix s.Line t39q7).Task 1 c1q7 1 3) allP_nil) ?_
                      refine rf [(2, .ptr 0 0), (3, .mp 1), (37, .sl s.Line.length (fl s.Line)), (38, iS ((s.Line.length : Nat) : Int)), (39, iS t39q7)] [(0, .row 29 [iS 0, iS 0]), (1, .map (mi (miSet c1q7 (ix s.Line t39q7).Task 1))), (2, .row 42 (Enc.cells (ix s.Line t39q7)))] 3 (by kernel_rfl) ?_
                      refine wk_id ?_
                      refine wk_id ?_
                      refine reg_f ?_
                      refine rs 2 [] [] (by kernel_rfl) allP_nil ?_
                      refine rf [(2, .ptr 0 0), (3, .mp 1), (37, .sl s.Line.length (fl s.Line)), (38, iS ((s.Line.length : Nat) : Int)), (39, iS (IntKind.i64.wrap (t39q7 + 1)))] [(0, .row 29 [iS 0, iS 0]), (1, .map (mi (miSet c1q7 (ix s.Line t39q7).Task 1))), (2, .row 42 (Enc.cells (ix s.Line t39q7)))] 3 (by kernel_rfl) ?_
                      exact hn2 ((IntKind.i64.wrap (t39q7 + 1)), (miSet c1q7 (ix s.Line t39q7).Task 1)) _ _ _ (Option.some.inj h).symm (leSt_m [(0, 0), (1, 1)] [] (by simp only [push_cast, seval]) (by simp only [push_cast, seval]) rfl rfl rfl)
            · refine ex_cast hx2 (id := 0) ?_
              obtain ⟨r0, h, e0⟩ := map_sx h
              have e1 := hr2 r0 e0.symm
              subst r0
              refine wk_id ?_
              refine wk_id ?_
              refine seq_np ?_
              refine reg_f ?_
              refine rs 2 [] [] (by kernel_rfl) allP_nil ?_
              refine rf [(2, .ptr 0 0)] [(0, .row 29 [iS 0, iS 0]), (1, .map (mi c1q7))] 2 (by kernel_rfl) ?_
              refine wk_id ?_
              obtain rfl := Option.some.inj h
              refine ret_at (.agg [iS 0, iS 0]) (by kernel_rfl) ?_
              exact ret_e [] [] (by simp only [push_cast, seval]) (by simp only [push_cast, seval]) rfl rfl rfl

set_option maxRecDepth 100000 in
set_option maxHeartbeats 10000000 in
theorem slices_Clone_Want_spec (s : (List Want)) (r : (List Want)) (h : slices_Clone_Want s = some r) : SpecW Try.prog 41 [.sl s.length (fl s)] [] 0 (fun x h n => x = .own 0 0 r.length ∧ h = [(0, .row 42 (fl r))] ∧ n = 1) := by
  unfold slices_Clone_Want at h
  refine spec_of (draw_ok _) Try.func41 rfl (by decide) rfl (by kernel_rfl) ?_
  refine seq_np ?_
  refine reg_f ?_
  refine rs 1 [] [] (by kernel_rfl) allP_nil ?_
  refine rf [(0, .sl s.length (fl s))] [] 0 (by kernel_rfl) ?_
  refine wk_id ?_
  refine seq_np ?_
  refine seq_np ?_
  refine reg_f ?_
  refine rs 1 [] [] (by kernel_rfl) allP_nil ?_
  refine run_nil s.length (some 4) (by kernel_rfl) (fun g226 => ?_) ?_
  · obtain rfl : s = [] := List.eq_nil_of_length_eq_zero g226
    replace h : (some ([])) = some r := by simpa using h
    refine rf [(0, .sl ([] : List Want).length (fl ([] : List Want))), (4, bS true)] [] 0 (by kernel_rfl) ?_
    refine wk_id ?_
    refine cond_t (by kernel_rfl) ?_
    refine seq_np ?_
    refine reg_f ?_
    refine rs 1 [] [] (by kernel_rfl) allP_nil ?_
    refine rf [(2, .v (.slice none 0 0))] [] 0 (by kernel_rfl) ?_
    refine wk_id ?_
    obtain rfl := Option.some.inj h
    refine ret_at (.v (.slice none 0 0)) (by kernel_rfl) ?_
    exact ret_e [] [] (by simp only [push_cast, seval]) (by simp only [push_cast, seval]) rfl rfl rfl
  · refine rf [(0, .sl s.length (fl s)), (4, bS false)] [] 0 (by kernel_rfl) ?_
    refine wk_id ?_
    refine cond_f (by kernel_rfl) ?_
    refine wk_id ?_
    refine chk_sx h (fun g225 h => ?_)
    refine seq_np ?_
    refine reg_f ?_
    refine run_mk0 Want (some 5) 42 (by kernel_rfl) ?_
    have k224 : (([] : List Want) ++ s).length * 24 ≤ 140737488355328 := by first | simpa only [Bool.and_eq_true, decide_eq_true_eq, bne_iff_ne, ne_eq] using g225 | (simp at g225 ⊢; omega)
    refine rs 3 [none, some ⟨.own 1 0 (([] : List Want) ++ s).length, [(1, .row 42 (fl (([] : List Want) ++ s))), (0, .dead)], 2, [0]⟩] _ (by kernel_rfl) (allP_cons (ob_app (P := Try.prog) ([] : List Want) s 3 24 rfl (fl s) s.length rfl rfl ((fl s).length = s.length * 3) (app_sl s 3 rfl) 42 (by kernel_rfl) (by decide) k224 0 1 []) allP_nil) ?_
    refine rf [(2, .own 1 0 (([] : List Want) ++ s).length)] [(0, .dead), (1, .row 42 (fl (([] : List Want) ++ s)))] 2 (by kernel_rfl) ?_
    refine wk_id ?_
    obtain rfl := Option.some.inj h
    refine ret_at (.own 1 0 (([] : List Want) ++ s).length) (by kernel_rfl) ?_
    exact ret_e [(0, 1)] [] (by simp only [push_cast, seval]) (by simp only [push_cast, seval]) rfl rfl rfl

set_option maxRecDepth 100000 in
set_option maxHeartbeats 10000000 in
theorem sync_give_spec (c0_Free : Int) (c1 : (List Want)) (r : (List Int) × Int × (List Want)) (h : sync_give c0_Free c1 = some r) : SpecW Try.prog 43 [.ptr 0 0] [(0, .row 24 [iS c0_Free, .own 1 0 c1.length]), (1, .row 42 (fl c1))] 2 (fun x h n => x = .own 2 0 r.1.length ∧ h = [(0, .row 24 [iS r.2.1, .own 3 0 r.2.2.length]), (1, .dead), (2, .row 3 (fl r.1)), (3, .row 42 (fl r.2.2))] ∧ n = 4) := by
  unfold sync_give at h
  refine spec_of (draw_ok _) Try.func43 rfl (by decide) rfl (by kernel_rfl) ?_
  refine seq_np ?_
  refine reg_f ?_
  refine rs 1 [] [] (by kernel_rfl) allP_nil ?_
  refine rf [(0, .ptr 0 0)] [(0, .row 24 [iS c0_Free, .own 1 0 c1.length]), (1, .row 42 (fl c1))] 2 (by kernel_rfl) ?_
  refine wk_id ?_
  refine seq_np ?_
  refine reg_f ?_
  refine rs 1 [] [] (by kernel_rfl) allP_nil ?_
  refine rf [(0, .ptr 0 0), (3, .v (.slice none 0 0))] [(0, .row 24 [iS c0_Free, .own 1 0 c1.length]), (1, .row 42 (fl c1))] 2 (by kernel_rfl) ?_
  refine wk_id ?_
  refine seq_np ?_
  refine block_np ?_
  refine loop_sx (S := Int × (List Int) × (List Want)) (fun a => ([(0, .ptr 0 0), (3, .own 2 0 a.2.1.length)], [(0, .row 24 [iS a.1, .own 3 0 a.2.2.length]), (1, .dead), (2, .row 3 (fl a.2.1)), (3, .row 42 (fl a.2.2))], 4)) h (leSt_m [(0, 0), (3, 1)] [] (by simp only [push_cast, seval]) (by simp only [push_cast, seval]) rfl rfl rfl) ?_
  rintro ⟨c0_Free9, c2q8, c3q8⟩ o2 R2 h hr2 hn2 hx2 ht2
  try dsimp only at h hn2 ⊢
  unfold sync_give_l1 at h
  try dsimp only at h
  refine seq_np ?_
  refine chk_sx h (fun g374 h => ?_)
  refine seq_cut (A := Unit) (fun _ => ([(0, .ptr 0 0), (3, .own 2 0 c2q8.length), (23, bS ((decide ((0 : Int) < ((c3q8.length : Nat) : Int))) && (decide ((ix c3q8 (0 : Int)).N ≤ c0_Free9))))], [(0, .row 24 [iS c0_Free9, .own 3 0 c3q8.length]), (2, .row 3 (fl c2q8)), (3, .row 42 (fl c3q8))], 24)) (fun _ => True) (fun K371 hK371 => ?_) (fun _ _ => ?_)
  · refine reg_t ?_
    refine rs 7 [] [] (by kernel_rfl) allP_nil ?_
    refine run_split 10 (decide ((0 : Int) < ((c3q8.length : Nat) : Int))) (.inl (by kernel_rfl)) (fun g372 => ?_) (fun g372 => ?_)
    · have k373 : 0 ≤ (0 : Int) ∧ (0 : Int) < ((c3q8.length : Nat) : Int) := by have e := or_use g374 (by (try simp only [g372]) <;> rfl); first | simpa only [Bool.and_eq_true, decide_eq_true_eq, bne_iff_ne, ne_eq] using e | (simp at e ⊢; omega)
      refine rs 13 [none, none, none, none, some ⟨.ptr 3 (0 + ((0 : Int)).toNat * 3), [], 15, [3]⟩, none, some ⟨iS (ix c3q8 (0 : Int)).N, [], 17, [3]⟩] _ (by kernel_rfl) (allP_cons (ob_ld c3q8 (0 : Int) 3 2 ((0 + ((0 : Int)).toNat * 3) + 2) k373 rfl (by decide) (by first | rfl | omega) (dflS Try.prog 3) (iS (ix c3q8 (0 : Int)).N) rfl 17 [3]) (allP_cons (ob_ix_o 3 c3q8.length 0 3 15 0 k373) allP_nil)) ?_
      refine rt [(0, .ptr 0 0), (3, .own 2 0 c2q8.length), (23, bS (decide ((ix c3q8 (0 : Int)).N ≤ c0_Free9)))] [(0, .row 24 [iS c0_Free9, .own 3 0 c3q8.length]), (1, .dead), (2, .row 3 (fl c2q8)), (3, .row 42 (fl c3q8))] 24 follows (by kernel_rfl) ?_
      exact hK371 () _ _ _ trivial (leSt_m [(0, 0), (2, 2), (3, 3)] [] (by (try simp only [g372]) <;> simp only [push_cast, seval]) (by (try simp only [g372]) <;> simp only [push_cast, seval]) rfl rfl rfl)
    · refine rs 13 [] [] (by kernel_rfl) allP_nil ?_
      refine rt [(0, .ptr 0 0), (3, .own 2 0 c2q8.length), (23, bS false)] [(0, .row 24 [iS c0_Free9, .own 3 0 c3q8.length]), (1, .dead), (2, .row 3 (fl c2q8)), (3, .row 42 (fl c3q8))] 24 follows (by kernel_rfl) ?_
      exact hK371 () _ _ _ trivial (leSt_m [(0, 0), (2, 2), (3, 3)] [] (by (try simp only [g372]) <;> simp only [push_cast, seval]) (by (try simp only [g372]) <;> simp only [push_cast, seval]) rfl rfl rfl)
  · dsimp only
    refine cond_sx h (by kernel_rfl) (fun g391 h => ?_) (fun g391 h => ?_)
    · refine wk_id ?_
      refine block_np ?_
      refine chk_sx h (fun g378 h => ?_)
      refine seq_np ?_
      refine reg_t ?_
      have k377 : 0 ≤ (0 : Int) ∧ (0 : Int) < ((c3q8.length : Nat) : Int) := by first | simpa only [Bool.and_eq_true, decide_eq_true_eq, bne_iff_ne, ne_eq] using g378 | (simp at g378 ⊢; omega)
      refine rs 15 [none, none, none, none, none, none, none, none, some ⟨.ptr 3 (0 + ((0 : Int)).toNat * 3), [], 32, [3]⟩, none, some ⟨iS (ix c3q8 (0 : Int)).N, [], 34, [3]⟩] _ (by kernel_rfl) (allP_cons (ob_ld c3q8 (0 : Int) 3 2 ((0 + ((0 : Int)).toNat * 3) + 2) k377 rfl (by decide) (by first | rfl | omega) (dflS Try.prog 3) (iS (ix c3q8 (0 : Int)).N) rfl 34 [3]) (allP_cons (ob_ix_o 3 c3q8.length 0 3 32 0 k377) allP_nil)) ?_
      refine rt [(0, .ptr 0 0), (3, .own 2 0 c2q8.length)] [(0, .row 24 [iS (IntKind.i64.wrap (c0_Free9 - (ix c3q8 (0 : Int)).N)), .own 3 0 c3q8.length]), (2, .row 3 (fl c2q8)), (3, .row 42 (fl c3q8))] 39 follows (by kernel_rfl) ?_
      refine wk_id ?_
      refine chk_sx h (fun g384 h => ?_)
      refine chk_sx h (fun g386 h => ?_)
      refine seq_np ?_
      refine reg_f ?_
      have k383 : 0 ≤ (0 : Int) ∧ (0 : Int) < ((c3q8.length : Nat) : Int) := by first | simpa only [Bool.and_eq_true, decide_eq_true_eq, bne_iff_ne, ne_eq] using g384 | (simp at g384 ⊢; omega)
      have k385 : (c2q8 ++ ([(ix c3q8 (0 : Int)).Task] : List Int)).length * 8 ≤ 140737488355328 := by first | simpa only [Bool.and_eq_true, decide_eq_true_eq, bne_iff_ne, ne_eq] using g386 | (simp at g386 ⊢; omega)
      refine rs 11 [none, none, none, none, none, some ⟨.ptr 3 (0 + ((0 : Int)).toNat * 3), [], 39, [3]⟩, none, some ⟨iS (ix c3q8 (0 : Int)).Task, [], 39, [3]⟩, none, some ⟨.own 40 0 (c2q8 ++ ([(ix c3q8 (0 : Int)).Task] : List Int)).length, [(40, .row 3 (fl (c2q8 ++ ([(ix c3q8 (0 : Int)).Task] : List Int)))), (2, .dead)], 41, [2, 39]⟩] _ (by kernel_rfl) (allP_cons (ob_app (P := Try.prog) c2q8 ([(ix c3q8 (0 : Int)).Task] : List Int) 1 8 rfl (appCells (fl ([(ix c3q8 (0 : Int)).Task] : List Int)) 0 (([(ix c3q8 (0 : Int)).Task] : List Int).length * 1)) ([(ix c3q8 (0 : Int)).Task] : List Int).length (app_own ([(ix c3q8 (0 : Int)).Task] : List Int) 1 rfl) rfl (0 + ([(ix c3q8 (0 : Int)).Task] : List Int).length * 1 ≤ (fl ([(ix c3q8 (0 : Int)).Task] : List Int)).length) (app_own_le ([(ix c3q8 (0 : Int)).Task] : List Int) 1 rfl) 3 (by kernel_rfl) (by decide) k385 2 40 [39]) (allP_cons (ob_ld c3q8 (0 : Int) 3 0 ((0 + ((0 : Int)).toNat * 3) + 0) k383 rfl (by decide) (by first | rfl | omega) (dflS Try.prog 3) (iS (ix c3q8 (0 : Int)).Task) rfl 39 [3]) (allP_cons (ob_ix_o 3 c3q8.length 0 3 39 0 k383) allP_nil))) ?_
      refine rf [(0, .ptr 0 0), (3, .own 40 0 (c2q8 ++ ([(ix c3q8 (0 : Int)).Task] : List Int)).length)] [(0, .row 24 [iS (IntKind.i64.wrap (c0_Free9 - (ix c3q8 (0 : Int)).N)), .own 3 0 c3q8.length]), (2, .dead), (3, .row 42 (fl c3q8)), (39, .row 3 (fl ([(ix c3q8 (0 : Int)).Task] : List Int))), (40, .row 3 (fl (c2q8 ++ ([(ix c3q8 (0 : Int)).Task] : List Int))))] 41 (by kernel_rfl) ?_
      refine wk_id ?_
      refine chk_sx h (fun g390 h => ?_)
      refine reg_f ?_
      have k389 : 0 ≤ (1 : Int) ∧ (1 : Int) ≤ ((c3q8.length : Nat) : Int) ∧ ((c3q8.length : Nat) : Int) ≤ ((c3q8.length : Nat) : Int) := by first | simpa only [Bool.and_eq_true, decide_eq_true_eq, bne_iff_ne, ne_eq] using g390 | (simp at g390 ⊢; omega)
      refine rs 5 [] [] (by kernel_rfl) allP_nil ?_
      refine run_cutO c3q8 (some 53) 3 3 42 (1 : Int) ((c3q8.length : Nat) : Int) (by kernel_rfl) rfl k389 ?_
      refine rs 3 [] [] (by kernel_rfl) allP_nil ?_
      refine rf [(0, .ptr 0 0), (3, .own 40 0 (c2q8 ++ ([(ix c3q8 (0 : Int)).Task] : List Int)).length)] [(0, .row 24 [iS (IntKind.i64.wrap (c0_Free9 - (ix c3q8 (0 : Int)).N)), .own 41 0 (cut c3q8 (1 : Int) ((c3q8.length : Nat) : Int)).length]), (2, .dead), (3, .dead), (39, .row 3 (fl ([(ix c3q8 (0 : Int)).Task] : List Int))), (40, .row 3 (fl (c2q8 ++ ([(ix c3q8 (0 : Int)).Task] : List Int)))), (41, .row 42 (fl (cut c3q8 (1 : Int) ((c3q8.length : Nat) : Int))))] 42 (by kernel_rfl) ?_
      refine wk_id ?_
      exact hn2 ((IntKind.i64.wrap (c0_Free9 - (ix c3q8 (0 : Int)).N)), (c2q8 ++ ([(ix c3q8 (0 : Int)).Task] : List Int)), (cut c3q8 (1 : Int) ((c3q8.length : Nat) : Int))) _ _ _ (Option.some.inj h).symm (leSt_m [(0, 0), (2, 40), (3, 41)] [] (by simp only [push_cast, seval]) (by simp only [push_cast, seval]) rfl rfl rfl)
    · refine ex_cast hx2 (id := 0) ?_
      obtain ⟨r0, h, e0⟩ := map_sx h
      have e1 := hr2 r0 e0.symm
      subst r0
      refine wk_id ?_
      refine wk_id ?_
      refine seq_np ?_
      refine reg_f ?_
      refine rs 2 [] [] (by kernel_rfl) allP_nil ?_
      refine rf [(2, .own 2 0 c2q8.length)] [(0, .row 24 [iS c0_Free9, .own 3 0 c3q8.length]), (2, .row 3 (fl c2q8)), (3, .row 42 (fl c3q8))] 24 (by kernel_rfl) ?_
      refine wk_id ?_
      obtain rfl := Option.some.inj h
      refine ret_at (.own 2 0 c2q8.length) (by kernel_rfl) ?_
      exact ret_e [(0, 0), (2, 2), (3, 3)] [] (by simp only [push_cast, seval]) (by simp only [push_cast, seval]) rfl rfl rfl

set_option maxRecDepth 100000 in
set_option maxHeartbeats 10000000 in
theorem sync_Release_spec (s : Sema) (n : Int) (r : Int × Fault × (List Want) × (List Int)) (h : sync_Release s n = some r) : SpecW Try.prog 16 [.agg (Enc.cells s), iS n] [] 0 (fun x h n => x = .tup [.agg [iS r.1, .own 0 0 r.2.2.1.length], .own 1 0 r.2.2.2.length, .agg (Enc.cells r.2.1)] ∧ h = [(0, .row 42 (fl r.2.2.1)), (1, .row 3 (fl r.2.2.2))] ∧ n = 2) := by
  unfold sync_Release at h
  refine spec_of (draw_ok _) Try.func16 rfl (by decide) rfl (by kernel_rfl) ?_
  refine seq_np ?_
  refine reg_f ?_
  refine rs 4 [] [] (by kernel_rfl) allP_nil ?_
  refine rf [(1, iS n), (2, .ptr 0 0), (4, .ptr 1 0), (6, .ptr 2 0)] [(0, .row 24 (Enc.cells s)), (1, .row 24 [iS 0, .v (.slice none 0 0)]), (2, .row 29 [iS 0, iS 0])] 3 (by kernel_rfl) ?_
  refine wk_id ?_
  refine seq_np ?_
  refine seq_np ?_
  refine reg_f ?_
  refine rs 1 [] [] (by kernel_rfl) allP_nil ?_
  obtain ⟨r396, hr396, h⟩ := bind_sx h
  refine run_call 37 [.agg (Enc.cells s)] (some 11) (by kernel_rfl) ?_
  refine call_0 (sync_sema_spec s r396 hr396) (by simp only [push_cast, seval]) (by simp only [push_cast, seval]) ?_
  refine back_f ?_
  refine rs 2 [] [] (by kernel_rfl) allP_nil ?_
  refine rf [(1, iS n), (2, .ptr 0 0), (4, .ptr 1 0), (6, .ptr 2 0), (7, .ptr 3 0)] [(0, .row 24 (Enc.cells s)), (1, .row 24 [iS 0, .v (.slice none 0 0)]), (2, .row 29 [iS 0, iS 0]), (3, .row 29 (Enc.cells r396))] 4 (by kernel_rfl) ?_
  refine wk_id ?_
  refine seq_np ?_
  refine reg_f ?_
  refine rs 3 [] [] (by kernel_rfl) allP_nil ?_
  refine rf [(1, iS n), (2, .ptr 0 0), (4, .ptr 1 0), (6, .ptr 2 0), (7, .ptr 3 0), (14, bS (r396.Code != 0))] [(0, .row 24 (Enc.cells s)), (1, .row 24 [iS 0, .v (.slice none 0 0)]), (2, .row 29 [iS 0, iS 0]), (3, .row 29 (Enc.cells r396))] 4 (by kernel_rfl) ?_
  refine wk_id ?_
  refine cond_sx h (by kernel_rfl) (fun g415 h => ?_) (fun g415 h => ?_)
  · refine seq_np ?_
    refine reg_t ?_
    refine rs 5 [] [] (by kernel_rfl) allP_nil ?_
    refine rt [(4, .ptr 1 0), (5, .v (.slice none 0 0)), (6, .ptr 2 0)] [(0, .row 24 (Enc.cells s)), (1, .row 24 [iS 0, .v (.slice none 0 0)]), (2, .row 29 (Enc.cells r396)), (3, .row 29 (Enc.cells r396))] 9 follows (by kernel_rfl) ?_
    refine wk_id ?_
    obtain rfl := Option.some.inj h
    refine ret_at (.tup [.agg [iS 0, .v (.slice none 0 0)], .v (.slice none 0 0), .agg (Enc.cells r396)]) (by kernel_rfl) ?_
    exact ret_e [] [] (by simp only [push_cast, seval]) (by simp only [push_cast, seval]) rfl rfl rfl
  · refine wk_id ?_
    refine seq_np ?_
    refine seq_cut (A := Unit) (fun _ => ([(1, iS n), (2, .ptr 0 0), (4, .ptr 1 0), (6, .ptr 2 0), (22, bS ((decide (n < 0)) || (decide ((1000000000 : Int) < n))))], [(0, .row 24 (Enc.cells s)), (1, .row 24 [iS 0, .v (.slice none 0 0)]), (2, .row 29 [iS 0, iS 0]), (3, .row 29 (Enc.cells r396))], 4)) (fun _ => True) (fun K401 hK401 => ?_) (fun _ _ => ?_)
    · refine reg_f ?_
      refine rs 3 [] [] (by kernel_rfl) allP_nil ?_
      refine run_split 19 (decide (n < 0)) (.inl (by kernel_rfl)) (fun g402 => ?_) (fun g402 => ?_)
      · refine rs 3 [] [] (by kernel_rfl) allP_nil ?_
        refine rf [(1, iS n), (2, .ptr 0 0), (4, .ptr 1 0), (6, .ptr 2 0), (22, bS true)] [(0, .row 24 (Enc.cells s)), (1, .row 24 [iS 0, .v (.slice none 0 0)]), (2, .row 29 [iS 0, iS 0]), (3, .row 29 (Enc.cells r396))] 4 (by kernel_rfl) ?_
        exact hK401 () _ _ _ trivial (leSt_m [(0, 0), (1, 1), (2, 2), (3, 3)] [] (by (try simp only [g402]) <;> simp only [push_cast, seval]) (by (try simp only [g402]) <;> simp only [push_cast, seval]) rfl rfl rfl)
      · refine rs 3 [] [] (by kernel_rfl) allP_nil ?_
        refine rf [(1, iS n), (2, .ptr 0 0), (4, .ptr 1 0), (6, .ptr 2 0), (22, bS (decide ((1000000000 : Int) < n)))] [(0, .row 24 (Enc.cells s)), (1, .row 24 [iS 0, .v (.slice none 0 0)]), (2, .row 29 [iS 0, iS 0]), (3, .row 29 (Enc.cells r396))] 4 (by kernel_rfl) ?_
        exact hK401 () _ _ _ trivial (leSt_m [(0, 0), (1, 1), (2, 2), (3, 3)] [] (by (try simp only [g402]) <;> simp only [push_cast, seval]) (by (try simp only [g402]) <;> simp only [push_cast, seval]) rfl rfl rfl)
    · dsimp only
      refine cond_sx h (by kernel_rfl) (fun g414 h => ?_) (fun g414 h => ?_)
      · refine seq_np ?_
        refine reg_f ?_
        refine rs 1 [] [] (by kernel_rfl) allP_nil ?_
        obtain ⟨r404, hr404, h⟩ := bind_sx h
        refine run_call 38 [iS 3, iS (-1)] (some 24) (by kernel_rfl) ?_
        refine call_0 (sync_fault_spec 3 (-1) r404 hr404) (by simp only [push_cast, seval]) (by simp only [push_cast, seval]) ?_
        refine back_f ?_
        refine rs 3 [] [] (by kernel_rfl) allP_nil ?_
        refine rf [(4, .ptr 1 0), (5, .v (.slice none 0 0)), (6, .ptr 2 0)] [(0, .row 24 (Enc.cells s)), (1, .row 24 [iS 0, .v (.slice none 0 0)]), (2, .row 29 (Enc.cells r404)), (3, .row 29 (Enc.cells r396))] 4 (by kernel_rfl) ?_
        refine wk_id ?_
        obtain rfl := Option.some.inj h
        refine ret_at (.tup [.agg [iS 0, .v (.slice none 0 0)], .v (.slice none 0 0), .agg (Enc.cells r404)]) (by kernel_rfl) ?_
        exact ret_e [] [] (by simp only [push_cast, seval]) (by simp only [push_cast, seval]) rfl rfl rfl
      · refine wk_id ?_
        refine seq_np ?_
        refine seq_np ?_
        refine reg_f ?_
        refine rs 5 [] [] (by kernel_rfl) allP_nil ?_
        refine rf [(1, iS n), (2, .ptr 0 0), (4, .ptr 1 0), (6, .ptr 2 0), (29, bS (decide ((1000000000 : Int) < (IntKind.i64.wrap (s.Free + n)))))] [(0, .row 24 (Enc.cells s)), (1, .row 24 [iS 0, .v (.slice none 0 0)]), (2, .row 29 [iS 0, iS 0]), (3, .row 29 (Enc.cells r396))] 4 (by kernel_rfl) ?_
        refine wk_id ?_
        refine cond_sx h (by kernel_rfl) (fun g413 h => ?_) (fun g413 h => ?_)
        · refine seq_np ?_
          refine reg_f ?_
          refine rs 1 [] [] (by kernel_rfl) allP_nil ?_
          obtain ⟨r408, hr408, h⟩ := bind_sx h
          refine run_call 38 [iS 9, iS 0] (some 31) (by kernel_rfl) ?_
          refine call_0 (sync_fault_spec 9 0 r408 hr408) (by simp only [push_cast, seval]) (by simp only [push_cast, seval]) ?_
          refine back_f ?_
          refine rs 3 [] [] (by kernel_rfl) allP_nil ?_
          refine rf [(4, .ptr 1 0), (5, .v (.slice none 0 0)), (6, .ptr 2 0)] [(0, .row 24 (Enc.cells s)), (1, .row 24 [iS 0, .v (.slice none 0 0)]), (2, .row 29 (Enc.cells r408)), (3, .row 29 (Enc.cells r396))] 4 (by kernel_rfl) ?_
          refine wk_id ?_
          obtain rfl := Option.some.inj h
          refine ret_at (.tup [.agg [iS 0, .v (.slice none 0 0)], .v (.slice none 0 0), .agg (Enc.cells r408)]) (by kernel_rfl) ?_
          exact ret_e [] [] (by simp only [push_cast, seval]) (by simp only [push_cast, seval]) rfl rfl rfl
        · refine wk_id ?_
          refine seq_np ?_
          refine reg_t ?_
          refine rs 6 [] [] (by kernel_rfl) allP_nil ?_
          obtain ⟨r410, hr410, h⟩ := bind_sx h
          refine call_x (slices_Clone_Want_spec s.Line r410 hr410) (args := [.sl s.Line.length (fl s.Line)]) (dst := (some 38)) (by kernel_rfl) [(0, .row 24 (Enc.cells s)), (1, .row 24 [iS 0, .v (.slice none 0 0)]), (2, .row 29 [iS 0, iS 0]), (3, .row 29 (Enc.cells r396))] 10 (by kernel_rfl) [] [] (.own 10 0 r410.length) [(10, .row 42 (fl r410))] (by simp only [push_cast, seval]) (by simp only [push_cast, seval]) (by kernel_rfl) (.inl rfl) (by simp only [push_cast, seval]) (by simp only [push_cast, seval]) ?_
          refine rs 3 [] [] (by kernel_rfl) allP_nil ?_
          refine rt [(4, .ptr 1 0), (6, .ptr 2 0), (8, .ptr 13 0)] [(0, .row 24 (Enc.cells s)), (1, .row 24 [iS 0, .v (.slice none 0 0)]), (2, .row 29 [iS 0, iS 0]), (3, .row 29 (Enc.cells r396)), (10, .row 42 (fl r410)), (13, .row 24 [iS (IntKind.i64.wrap (s.Free + n)), .own 10 0 r410.length])] 16 follows (by kernel_rfl) ?_
          refine wk_id ?_
          refine seq_np ?_
          refine reg_f ?_
          obtain ⟨r412, hr412, h⟩ := bind_sx h
          refine call_x (sync_give_spec (IntKind.i64.wrap (s.Free + n)) r410 r412 hr412) (args := [.ptr 13 0]) (dst := (some 40)) (by kernel_rfl) [(0, .row 24 (Enc.cells s)), (1, .row 24 [iS 0, .v (.slice none 0 0)]), (2, .row 29 [iS 0, iS 0]), (3, .row 29 (Enc.cells r396)), (10, .row 42 (fl r410)), (13, .row 24 [iS (IntKind.i64.wrap (s.Free + n)), .own 10 0 r410.length])] 16 (by kernel_rfl) [(0, 13), (1, 10)] [] (.own 18 0 r412.1.length) [(13, .row 24 [iS r412.2.1, .own 19 0 r412.2.2.length]), (10, .dead), (18, .row 3 (fl r412.1)), (19, .row 42 (fl r412.2.2)), (13, .dead), (10, .dead)] (by simp only [push_cast, seval]) (by simp only [push_cast, seval]) (by kernel_rfl) (.inl rfl) (by simp only [push_cast, seval]) (by simp only [push_cast, seval]) ?_
          refine rs 1 [] [] (by kernel_rfl) allP_nil ?_
          refine rf [(4, .ptr 1 0), (6, .ptr 2 0), (8, .ptr 13 0), (9, .own 18 0 r412.1.length)] [(0, .row 24 (Enc.cells s)), (1, .row 24 [iS 0, .v (.slice none 0 0)]), (2, .row 29 [iS 0, iS 0]), (3, .row 29 (Enc.cells r396)), (10, .dead), (13, .row 24 [iS r412.2.1, .own 19 0 r412.2.2.length]), (18, .row 3 (fl r412.1)), (19, .row 42 (fl r412.2.2))] 20 (by kernel_rfl) ?_
          refine wk_id ?_
          refine seq_np ?_
          refine reg_f ?_
          refine rs 6 [] [] (by kernel_rfl) allP_nil ?_
          refine rf [(4, .ptr 1 0), (5, .own 18 0 r412.1.length), (6, .ptr 2 0)] [(0, .row 24 (Enc.cells s)), (1, .row 24 [iS r412.2.1, .own 19 0 r412.2.2.length]), (2, .row 29 [iS 0, iS 0]), (3, .row 29 (Enc.cells r396)), (10, .dead), (13, .row 24 [iS r412.2.1, .own 19 0 r412.2.2.length]), (18, .row 3 (fl r412.1)), (19, .row 42 (fl r412.2.2))] 20 (by kernel_rfl) ?_
          refine wk_id ?_
          obtain rfl := Option.some.inj h
          refine ret_at (.tup [.agg [iS r412.2.1, .own 19 0 r412.2.2.length], .own 18 0 r412.1.length, .agg [iS 0, iS 0]]) (by kernel_rfl) ?_
          exact ret_e [(0, 19), (1, 18)] [] (by simp only [push_cast, seval]) (by simp only [push_cast, seval]) rfl rfl rfl

set_option maxRecDepth 100000 in
set_option maxHeartbeats 10000000 in
theorem taskmillref_Ints_spec (xa : (List Int)) (b : (List Int)) (r : Bool) (h : taskmillref_Ints xa b = some r) : SpecW Try.prog 23 [.sl xa.length (fl xa), .sl b.length (fl b)] [] 0 (fun x h n => x = bS r ∧ h = [] ∧ n = 0) := by
  unfold taskmillref_Ints at h
  refine spec_of (draw_ok _) Try.func23 rfl (by decide) rfl (by kernel_rfl) ?_
  refine seq_np ?_
  refine reg_f ?_
  refine rs 1 [] [] (by kernel_rfl) allP_nil ?_
  refine rf [(0, .sl xa.length (fl xa)), (1, .sl b.length (fl b))] [] 0 (by kernel_rfl) ?_
  refine wk_id ?_
  refine seq_np ?_
  refine seq_np ?_
  refine reg_f ?_
  refine rs 5 [] [] (by kernel_rfl) allP_nil ?_
  refine rf [(0, .sl xa.length (fl xa)), (1, .sl b.length (fl b)), (10, bS (((xa.length : Nat) : Int) != ((b.length : Nat) : Int)))] [] 0 (by kernel_rfl) ?_
  refine wk_id ?_
  refine cond_sx h (by kernel_rfl) (fun g511 h => ?_) (fun g511 h => ?_)
  · refine seq_np ?_
    refine reg_f ?_
    refine rs 1 [] [] (by kernel_rfl) allP_nil ?_
    refine rf [(4, bS false)] [] 0 (by kernel_rfl) ?_
    refine wk_id ?_
    obtain rfl := Option.some.inj h
    refine ret_at (bS false) (by kernel_rfl) ?_
    exact ret_e [] [] (by simp only [push_cast, seval]) (by simp only [push_cast, seval]) rfl rfl rfl
  · refine wk_id ?_
    refine seq_np ?_
    refine seq_np ?_
    refine reg_f ?_
    refine rs 1 [] [] (by kernel_rfl) allP_nil ?_
    refine rf [(0, .sl xa.length (fl xa)), (1, .sl b.length (fl b)), (5, iS 0)] [] 0 (by kernel_rfl) ?_
    refine wk_id ?_
    refine block_np ?_
    refine loop_sx (S := Int) (fun a => ([(0, .sl xa.length (fl xa)), (1, .sl b.length (fl b)), (5, iS a)], [], 0)) h (leSt_m [] [] (by simp only [push_cast, seval]) (by simp only [push_cast, seval]) rfl rfl rfl) ?_
    rintro i7 o2 R2 h hr2 hn2 hx2 ht2
    try dsimp only at h hn2 ⊢
    unfold taskmillref_Ints_l1 at h
    try dsimp only at h
    refine seq_np ?_
    refine seq_np ?_
    refine reg_f ?_
    refine rs 4 [] [] (by kernel_rfl) allP_nil ?_
    refine rf [(0, .sl xa.length (fl xa)), (1, .sl b.length (fl b)), (5, iS i7), (14, bS (decide (i7 < ((xa.length : Nat) : Int))))] [] 0 (by kernel_rfl) ?_
    refine wk_id ?_
    refine cond_sx h (by kernel_rfl) (fun g510 h => ?_) (fun g510 h => ?_)
    · refine wk_id ?_
      refine seq_np ?_
      refine block_np ?_
      refine chk_sx h (fun g506 h => ?_)
      refine chk_sx h (fun g508 h => ?_)
      refine seq_np ?_
      refine reg_t ?_
      have k505 : 0 ≤ i7 ∧ i7 < ((xa.length : Nat) : Int) := by first | simpa only [Bool.and_eq_true, decide_eq_true_eq, bne_iff_ne, ne_eq] using g506 | (simp at g506 ⊢; omega)
      have k507 : 0 ≤ i7 ∧ i7 < ((b.length : Nat) : Int) := by first | simpa only [Bool.and_eq_true, decide_eq_true_eq, bne_iff_ne, ne_eq] using g508 | (simp at g508 ⊢; omega)
      refine rs 9 [none, none, some ⟨.iptr (fl xa) ((i7).toNat * 1), [], 2, []⟩, some ⟨iS (ix xa i7), [], 3, []⟩, none, none, some ⟨.iptr (fl b) ((i7).toNat * 1), [], 6, []⟩, some ⟨iS (ix b i7), [], 7, []⟩] _ (by kernel_rfl) (allP_cons (ob_ld b i7 1 0 ((i7).toNat * 1) k507 rfl (by decide) (by first | rfl | omega) (dflS Try.prog 3) (iS (ix b i7)) rfl 7 []) (allP_cons (ob_ix_l b 1 6 i7 k507) (allP_cons (ob_ld xa i7 1 0 ((i7).toNat * 1) k505 rfl (by decide) (by first | rfl | omega) (dflS Try.prog 3) (iS (ix xa i7)) rfl 3 []) (allP_cons (ob_ix_l xa 1 2 i7 k505) allP_nil)))) ?_
      refine rt [(0, .sl xa.length (fl xa)), (1, .sl b.length (fl b)), (5, iS i7), (25, bS ((ix xa i7) != (ix b i7)))] [] 9 follows (by kernel_rfl) ?_
      refine wk_id ?_
      refine cond_sx h (by kernel_rfl) (fun g509 h => ?_) (fun g509 h => ?_)
      · refine seq_np ?_
        refine reg_f ?_
        refine rs 1 [] [] (by kernel_rfl) allP_nil ?_
        refine rf [(4, bS false)] [] 9 (by kernel_rfl) ?_
        refine wk_id ?_
        refine rt_cast ht2 ?_
        obtain ⟨r0, h, e0⟩ := map_sx h
        have e1 := hr2 r0 e0.symm
        subst r0
        obtain rfl := Option.some.inj h
        refine ret_at (bS false) (by kernel_rfl) ?_
        exact ret_e [] [] (by simp only [push_cast, seval]) (by simp only [push_cast, seval]) rfl rfl rfl
      · refine wk_id ?_
        refine wk_id ?_
        refine reg_f ?_
        refine rs 3 [] [] (by kernel_rfl) allP_nil ?_
        refine rf [(0, .sl xa.length (fl xa)), (1, .sl b.length (fl b)), (5, iS (IntKind.i64.wrap (i7 + 1)))] [] 9 (by kernel_rfl) ?_
        exact hn2 ((IntKind.i64.wrap (i7 + 1))) _ _ _ (Option.some.inj h).symm (leSt_m [] [] (by simp only [push_cast, seval]) (by simp only [push_cast, seval]) rfl rfl rfl)
    · refine ex_cast hx2 (id := 0) ?_
      obtain ⟨r0, h, e0⟩ := map_sx h
      have e1 := hr2 r0 e0.symm
      subst r0
      refine wk_id ?_
      refine wk_id ?_
      refine seq_np ?_
      refine reg_f ?_
      refine rs 1 [] [] (by kernel_rfl) allP_nil ?_
      refine rf [(4, bS true)] [] 0 (by kernel_rfl) ?_
      refine wk_id ?_
      obtain rfl := Option.some.inj h
      refine ret_at (bS true) (by kernel_rfl) ?_
      exact ret_e [] [] (by simp only [push_cast, seval]) (by simp only [push_cast, seval]) rfl rfl rfl

set_option maxRecDepth 100000 in
set_option maxHeartbeats 10000000 in
theorem taskmilllaw_syncBegun_spec (r : Bool) (h : taskmilllaw_syncBegun = some r) : SpecW Try.prog 12 [] [] 0 (fun x h n => x = bS r ∧ h = [] ∧ n = 0) := by
  unfold taskmilllaw_syncBegun at h
  refine spec_of (draw_ok _) Try.func12 rfl (by decide) rfl (by kernel_rfl) ?_
  refine seq_np ?_
  refine reg_f ?_
  refine rs 1 [] [] (by kernel_rfl) allP_nil ?_
  refine rf [] [] 0 (by kernel_rfl) ?_
  refine wk_id ?_
  refine seq_np ?_
  refine reg_f ?_
  refine rs 4 [] [] (by kernel_rfl) allP_nil ?_
  obtain ⟨r518, hr518, h⟩ := bind_sx h
  refine call_x (sync_Release_spec (Sema.mk 1 ([(Want.mk 1 false 2), (Want.mk 2 false 1)] : List Want)) 1 r518 hr518) (args := [.agg [iS 1, .own 0 0 ([(Want.mk 1 false 2), (Want.mk 2 false 1)] : List Want).length], iS 1]) (dst := (some 9)) (by kernel_rfl) [(0, .row 42 (fl ([(Want.mk 1 false 2), (Want.mk 2 false 1)] : List Want)))] 1 (by kernel_rfl) [] [0] (.tup [.agg [iS r518.1, .own 1 0 r518.2.2.1.length], .own 2 0 r518.2.2.2.length, .agg (Enc.cells r518.2.1)]) [(1, .row 42 (fl r518.2.2.1)), (2, .row 3 (fl r518.2.2.2))] (by simp only [push_cast, seval]) (by simp only [push_cast, seval]) (by kernel_rfl) (.inr ⟨by simp only [push_cast, seval], by simp only [push_cast, seval]⟩) (by simp only [push_cast, seval]) (by simp only [push_cast, seval]) ?_
  refine rs 9 [] [] (by kernel_rfl) allP_nil ?_
  refine rf [(1, .ptr 3 0), (2, .own 2 0 r518.2.2.2.length), (3, .ptr 4 0)] [(0, .row 42 (fl ([(Want.mk 1 false 2), (Want.mk 2 false 1)] : List Want))), (1, .row 42 (fl r518.2.2.1)), (2, .row 3 (fl r518.2.2.2)), (3, .row 24 [iS r518.1, .own 1 0 r518.2.2.1.length]), (4, .row 29 (Enc.cells r518.2.1))] 5 (by kernel_rfl) ?_
  refine wk_id ?_
  refine seq_cut (A := Bool) (fun a => ([(0, bS a)], [], 0)) (fun a => (taskmilllaw_syncBegun_j1 a) = some r) (fun K524 hK524 => ?_) ?_
  · refine reg_f ?_
    refine rs 4 [] [] (by kernel_rfl) allP_nil ?_
    refine run_br h 16 (.inl (by kernel_rfl)) (fun g525 h => ?_) (fun g525 h => ?_)
    · refine rs 2 [] [] (by kernel_rfl) allP_nil ?_
      obtain ⟨r526, hr526, h⟩ := bind_sx h
      refine call_x (taskmillref_Ints_spec r518.2.2.2 ([1] : List Int) r526 hr526) (args := [.own 2 0 r518.2.2.2.length, .own 5 0 ([1] : List Int).length]) (dst := (some 19)) (by kernel_rfl) [(0, .row 42 (fl ([(Want.mk 1 false 2), (Want.mk 2 false 1)] : List Want))), (1, .row 42 (fl r518.2.2.1)), (2, .row 3 (fl r518.2.2.2)), (3, .row 24 [iS r518.1, .own 1 0 r518.2.2.1.length]), (4, .row 29 (Enc.cells r518.2.1)), (5, .row 3 (fl ([1] : List Int)))] 6 (by kernel_rfl) [] [2, 5] (bS r526) [] (by simp only [push_cast, seval]) (by simp only [push_cast, seval]) (by kernel_rfl) (.inr ⟨by simp only [push_cast, seval], by simp only [push_cast, seval]⟩) (by simp only [push_cast, seval]) (by simp only [push_cast, seval]) ?_
      refine rs 2 [] [] (by kernel_rfl) allP_nil ?_
      refine run_br h 21 (.inl (by kernel_rfl)) (fun g527 h => ?_) (fun g527 h => ?_)
      · refine rn 9 [(1, .ptr 3 0), (21, bS true)] [(0, .row 42 (fl ([(Want.mk 1 false 2), (Want.mk 2 false 1)] : List Want))), (1, .row 42 (fl r518.2.2.1)), (2, .row 3 (fl r518.2.2.2)), (3, .row 24 [iS r518.1, .own 1 0 r518.2.2.1.length]), (4, .row 29 (Enc.cells r518.2.1)), (5, .row 3 (fl ([1] : List Int)))] 6 (by kernel_rfl) ?_
        refine rs 5 [] [] (by kernel_rfl) allP_nil ?_
        refine run_br h 26 (.inl (by kernel_rfl)) (fun g528 h => ?_) (fun g528 h => ?_)
        · refine rs 6 [] [] (by kernel_rfl) allP_nil ?_
          refine rf [(0, bS (((r518.2.2.1.length : Nat) : Int) == 1))] [(0, .row 42 (fl ([(Want.mk 1 false 2), (Want.mk 2 false 1)] : List Want))), (1, .row 42 (fl r518.2.2.1)), (2, .row 3 (fl r518.2.2.2)), (3, .row 24 [iS r518.1, .own 1 0 r518.2.2.1.length]), (4, .row 29 (Enc.cells r518.2.1)), (5, .row 3 (fl ([1] : List Int)))] 6 (by kernel_rfl) ?_
          exact hK524 ((((r518.2.2.1.length : Nat) : Int) == 1)) _ _ _ h (leSt_m [] [] (by (try simp only [g525, g527, g528]) <;> simp only [push_cast, seval]) (by (try simp only [g525, g527, g528]) <;> simp only [push_cast, seval]) rfl rfl rfl)
        · refine rs 6 [] [] (by kernel_rfl) allP_nil ?_
          refine rf [(0, bS false)] [(0, .row 42 (fl ([(Want.mk 1 false 2), (Want.mk 2 false 1)] : List Want))), (1, .row 42 (fl r518.2.2.1)), (2, .row 3 (fl r518.2.2.2)), (3, .row 24 [iS r518.1, .own 1 0 r518.2.2.1.length]), (4, .row 29 (Enc.cells r518.2.1)), (5, .row 3 (fl ([1] : List Int)))] 6 (by kernel_rfl) ?_
          exact hK524 (false) _ _ _ h (leSt_m [] [] (by (try simp only [g525, g527, g528]) <;> simp only [push_cast, seval]) (by (try simp only [g525, g527, g528]) <;> simp only [push_cast, seval]) rfl rfl rfl)
      · refine rn 9 [(1, .ptr 3 0), (21, bS false)] [(0, .row 42 (fl ([(Want.mk 1 false 2), (Want.mk 2 false 1)] : List Want))), (1, .row 42 (fl r518.2.2.1)), (2, .row 3 (fl r518.2.2.2)), (3, .row 24 [iS r518.1, .own 1 0 r518.2.2.1.length]), (4, .row 29 (Enc.cells r518.2.1)), (5, .row 3 (fl ([1] : List Int)))] 6 (by kernel_rfl) ?_
        refine rs 11 [] [] (by kernel_rfl) allP_nil ?_
        refine rf [(0, bS false)] [(0, .row 42 (fl ([(Want.mk 1 false 2), (Want.mk 2 false 1)] : List Want))), (1, .row 42 (fl r518.2.2.1)), (2, .row 3 (fl r518.2.2.2)), (3, .row 24 [iS r518.1, .own 1 0 r518.2.2.1.length]), (4, .row 29 (Enc.cells r518.2.1)), (5, .row 3 (fl ([1] : List Int)))] 6 (by kernel_rfl) ?_
        exact hK524 (false) _ _ _ h (leSt_m [] [] (by (try simp only [g525, g527]) <;> simp only [push_cast, seval]) (by (try simp only [g525, g527]) <;> simp only [push_cast, seval]) rfl rfl rfl)
    · refine rs 16 [] [] (by kernel_rfl) allP_nil ?_
      refine rf [(0, bS false)] [(0, .row 42 (fl ([(Want.mk 1 false 2), (Want.mk 2 false 1)] : List Want))), (1, .row 42 (fl r518.2.2.1)), (2, .row 3 (fl r518.2.2.2)), (3, .row 24 [iS r518.1, .own 1 0 r518.2.2.1.length]), (4, .row 29 (Enc.cells r518.2.1))] 5 (by kernel_rfl) ?_
      exact hK524 (false) _ _ _ h (leSt_m [] [] (by (try simp only [g525]) <;> simp only [push_cast, seval]) (by (try simp only [g525]) <;> simp only [push_cast, seval]) rfl rfl rfl)
  · rintro t0q1 h
    try dsimp only at h ⊢
    unfold taskmilllaw_syncBegun_j1 at h
    obtain rfl := Option.some.inj h
    refine ret_at (bS t0q1) (by kernel_rfl) ?_
    exact ret_e [] [] (by simp only [push_cast, seval]) (by simp only [push_cast, seval]) rfl rfl rfl

set_option maxRecDepth 100000 in
set_option maxHeartbeats 10000000 in
theorem taskmilllaw_long_spec (n : Int) (r : Bool) (h : taskmilllaw_long n = some r) : SpecW Try.prog 13 [iS n] [] 0 (fun x h n => x = bS r ∧ h = [] ∧ n = 0) := by
  unfold taskmilllaw_long at h
  refine spec_of (draw_ok _) Try.func13 rfl (by decide) rfl (by kernel_rfl) ?_
  refine seq_np ?_
  refine reg_f ?_
  refine rs 1 [] [] (by kernel_rfl) allP_nil ?_
  refine rf [(0, iS n)] [] 0 (by kernel_rfl) ?_
  refine wk_id ?_
  refine seq_cut (A := Unit) (fun _ => ([(2, bS (bif (decide ((700 : Int) < n)) then ((decide (n < 4999)) || (decide ((6000 : Int) < n))) else (decide ((6000 : Int) < n))))], [], 0)) (fun _ => True) (fun K535 hK535 => ?_) (fun _ _ => ?_)
  · refine reg_f ?_
    refine rs 3 [] [] (by kernel_rfl) allP_nil ?_
    refine run_split 5 (decide ((700 : Int) < n)) (.inl (by kernel_rfl)) (fun g536 => ?_) (fun g536 => ?_)
    · refine rs 4 [] [] (by kernel_rfl) allP_nil ?_
      refine run_split 9 (decide (n < 4999)) (.inl (by kernel_rfl)) (fun g537 => ?_) (fun g537 => ?_)
      · refine rs 4 [] [] (by kernel_rfl) allP_nil ?_
        refine rf [(2, bS true)] [] 0 (by kernel_rfl) ?_
        exact hK535 () _ _ _ trivial (leSt_m [] [] (by (try simp only [g536, g537]) <;> simp only [push_cast, seval]) (by (try simp only [g536, g537]) <;> simp only [push_cast, seval]) rfl rfl rfl)
      · refine rs 4 [] [] (by kernel_rfl) allP_nil ?_
        refine rf [(2, bS (decide ((6000 : Int) < n)))] [] 0 (by kernel_rfl) ?_
        exact hK535 () _ _ _ trivial (leSt_m [] [] (by (try simp only [g536, g537]) <;> simp only [push_cast, seval]) (by (try simp only [g536, g537]) <;> simp only [push_cast, seval]) rfl rfl rfl)
    · refine rs 8 [] [] (by kernel_rfl) allP_nil ?_
      refine rf [(2, bS (decide ((6000 : Int) < n)))] [] 0 (by kernel_rfl) ?_
      exact hK535 () _ _ _ trivial (leSt_m [] [] (by (try simp only [g536]) <;> simp only [push_cast, seval]) (by (try simp only [g536]) <;> simp only [push_cast, seval]) rfl rfl rfl)
  · dsimp only
    obtain rfl := Option.some.inj h
    refine ret_at (bS (bif (decide ((700 : Int) < n)) then ((decide (n < 4999)) || (decide ((6000 : Int) < n))) else (decide ((6000 : Int) < n)))) (by kernel_rfl) ?_
    exact ret_e [] [] (by simp only [push_cast, seval]) (by simp only [push_cast, seval]) rfl rfl rfl

set_option maxRecDepth 100000 in
set_option maxHeartbeats 10000000 in
theorem taskmilllaw_ownWants_spec (l : (List Want)) (r : (List Want)) (h : taskmilllaw_ownWants l = some r) : SpecW Try.prog 14 [.sl l.length (fl l)] [] 0 (fun x h n => x = .own 0 0 r.length ∧ h = [(0, .row 42 (fl r))] ∧ n = 1) := by
  unfold taskmilllaw_ownWants at h
  refine spec_of (draw_ok _) Try.func14 rfl (by decide) rfl (by kernel_rfl) ?_
  refine seq_np ?_
  refine reg_f ?_
  refine rs 1 [] [] (by kernel_rfl) allP_nil ?_
  refine rf [(0, .sl l.length (fl l))] [] 0 (by kernel_rfl) ?_
  refine wk_id ?_
  refine chk_sx h (fun g545 h => ?_)
  refine seq_np ?_
  refine reg_f ?_
  have k544 : l.length * 24 ≤ 140737488355328 := by first | simpa only [Bool.and_eq_true, decide_eq_true_eq, bne_iff_ne, ne_eq] using g545 | (simp at g545 ⊢; omega)
  refine rs 3 [none, some ⟨.own 0 0 l.length, [(0, .row 42 (fl l))], 1, []⟩] _ (by kernel_rfl) (allP_cons (ob_app0 (P := Try.prog) l 3 24 rfl (fl l) l.length rfl rfl ((fl l).length = l.length * 3) (app_sl l 3 rfl) 42 (by kernel_rfl) (by decide) k544 0 []) allP_nil) ?_
  refine rf [(2, .own 0 0 l.length)] [(0, .row 42 (fl l))] 1 (by kernel_rfl) ?_
  refine wk_id ?_
  obtain rfl := Option.some.inj h
  refine ret_at (.own 0 0 l.length) (by kernel_rfl) ?_
  exact ret_e [(0, 0)] [] (by simp only [push_cast, seval]) (by simp only [push_cast, seval]) rfl rfl rfl

set_option maxRecDepth 100000 in
set_option maxHeartbeats 10000000 in
theorem sync_Acquire_1_spec (w : Want) (c0 : Int) (r : Bool × Int) (h : sync_Acquire_1 w c0 = some r) : SpecW Try.prog 40 [.agg (Enc.cells w), .ptr 0 0] [(0, .row 3 [iS c0])] 1 (fun x h n => x = bS r.1 ∧ h = [(0, .row 3 [iS r.2])] ∧ n = 1) := by
  unfold sync_Acquire_1 at h
  refine spec_of (draw_ok _) Try.func40 rfl (by decide) rfl (by kernel_rfl) ?_
  refine seq_np ?_
  refine reg_f ?_
  refine rs 2 [] [] (by kernel_rfl) allP_nil ?_
  refine rf [(1, .ptr 0 0), (2, .ptr 1 0)] [(0, .row 3 [iS c0]), (1, .row 42 (Enc.cells w))] 2 (by kernel_rfl) ?_
  refine wk_id ?_
  refine seq_np ?_
  refine reg_f ?_
  refine rs 5 [] [] (by kernel_rfl) allP_nil ?_
  refine rf [(3, bS (w.Task == c0))] [(0, .row 3 [iS c0]), (1, .row 42 (Enc.cells w))] 2 (by kernel_rfl) ?_
  refine wk_id ?_
  obtain rfl := Option.some.inj h
  refine ret_at (bS (w.Task == c0)) (by kernel_rfl) ?_
  exact ret_e [(0, 0)] [] (by simp only [push_cast, seval]) (by simp only [push_cast, seval]) rfl rfl rfl

set_option maxRecDepth 100000 in
set_option maxHeartbeats 10000000 in
theorem slices_IndexFunc_Want_spec (s : (List Want)) (c0 : Int) (r : Int × Int) (h : slices_IndexFunc_Want s c0 = some r) : SpecW Try.prog 51 [.sl s.length (fl s), .clo 40 [.ptr 0 0]] [(0, .row 3 [iS c0])] 1 (fun x h n => x = iS r.1 ∧ h = [(0, .row 3 [iS r.2])] ∧ n = 1) := by
  unfold slices_IndexFunc_Want at h
  refine spec_of (draw_ok _) Try.func51 rfl (by decide) rfl (by kernel_rfl) ?_
  refine seq_np ?_
  refine reg_f ?_
  refine rs 1 [] [] (by kernel_rfl) allP_nil ?_
  refine rf [(0, .sl s.length (fl s)), (1, .clo 40 [.ptr 0 0])] [(0, .row 3 [iS c0])] 1 (by kernel_rfl) ?_
  refine wk_id ?_
  refine seq_np ?_
  refine seq_np ?_
  refine reg_f ?_
  refine rs 3 [] [] (by kernel_rfl) allP_nil ?_
  refine rf [(0, .sl s.length (fl s)), (1, .clo 40 [.ptr 0 0]), (7, iS ((s.length : Nat) : Int)), (8, iS 0)] [(0, .row 3 [iS c0])] 1 (by kernel_rfl) ?_
  refine wk_id ?_
  refine block_np ?_
  refine loop_sx (S := Int × Int) (fun a => ([(0, .sl s.length (fl s)), (1, .clo 40 [.ptr 0 0]), (7, iS ((s.length : Nat) : Int)), (8, iS a.1)], [(0, .row 3 [iS a.2])], 1)) h (leSt_m [(0, 0)] [] (by simp only [push_cast, seval]) (by simp only [push_cast, seval]) rfl rfl rfl) ?_
  rintro ⟨t8q7, c0q9⟩ o2 R2 h hr2 hn2 hx2 ht2
  try dsimp only at h hn2 ⊢
  unfold slices_IndexFunc_Want_l1 at h
  try dsimp only at h
  refine seq_np ?_
  refine reg_f ?_
  refine rs 1 [] [] (by kernel_rfl) allP_nil ?_
  refine rf [(0, .sl s.length (fl s)), (1, .clo 40 [.ptr 0 0]), (7, iS ((s.length : Nat) : Int)), (8, iS t8q7), (9, bS (decide (t8q7 < ((s.length : Nat) : Int))))] [(0, .row 3 [iS c0q9])] 1 (by kernel_rfl) ?_
  refine wk_id ?_
  refine seq_np ?_
  refine cond_sx h (by kernel_rfl) (fun g628 h => ?_) (fun g628 h => ?_)
  · refine wk_id ?_
    refine seq_np ?_
    refine block_np ?_
    refine seq_np ?_
    refine reg_f ?_
    refine rs 2 [] [] (by kernel_rfl) allP_nil ?_
    refine rf [(0, .sl s.length (fl s)), (1, .clo 40 [.ptr 0 0]), (5, iS t8q7), (7, iS ((s.length : Nat) : Int)), (8, iS t8q7)] [(0, .row 3 [iS c0q9])] 1 (by kernel_rfl) ?_
    refine wk_id ?_
    refine chk_sx h (fun g625 h => ?_)
    refine seq_np ?_
    refine reg_f ?_
    have k624 : 0 ≤ t8q7 ∧ t8q7 < ((s.length : Nat) : Int) := by first | simpa only [Bool.and_eq_true, decide_eq_true_eq, bne_iff_ne, ne_eq] using g625 | (simp at g625 ⊢; omega)
    refine rs 5 [none, none, none, some ⟨.iptr (fl s) ((t8q7).toNat * 3), [], 1, []⟩, some ⟨.agg (Enc.cells (ix s t8q7)), [], 1, []⟩] _ (by kernel_rfl) (allP_cons (ob_ldw s t8q7 3 ((t8q7).toNat * 3) k624 rfl (by first | rfl | omega) [iS (ix s t8q7).Task, bS (ix s t8q7).Write, iS (ix s t8q7).N] rfl 1 []) (allP_cons (ob_ix_l s 3 1 t8q7 k624) allP_nil)) ?_
    obtain ⟨r626, hr626, h⟩ := bind_sx h
    refine call_x (sync_Acquire_1_spec (ix s t8q7) c0q9 r626 hr626) (args := [.agg (Enc.cells (ix s t8q7)), .ptr 0 0]) (dst := (some 16)) (by kernel_rfl) [(0, .row 3 [iS c0q9])] 1 (by kernel_rfl) [(0, 0)] [] (bS r626.1) [(0, .row 3 [iS r626.2]), (0, .dead)] (by simp only [push_cast, seval]) (by simp only [push_cast, seval]) (by kernel_rfl) (.inl rfl) (by simp only [push_cast, seval]) (by simp only [push_cast, seval]) ?_
    refine rf [(0, .sl s.length (fl s)), (1, .clo 40 [.ptr 0 0]), (5, iS t8q7), (7, iS ((s.length : Nat) : Int)), (8, iS t8q7), (16, bS r626.1)] [(0, .row 3 [iS r626.2])] 2 (by kernel_rfl) ?_
    refine wk_id ?_
    refine cond_sx h (by kernel_rfl) (fun g627 h => ?_) (fun g627 h => ?_)
    · refine seq_np ?_
      refine reg_f ?_
      refine rs 2 [] [] (by kernel_rfl) allP_nil ?_
      refine rf [(4, iS t8q7)] [(0, .row 3 [iS r626.2])] 2 (by kernel_rfl) ?_
      refine wk_id ?_
      refine rt_cast ht2 ?_
      obtain ⟨r0, h, e0⟩ := map_sx h
      have e1 := hr2 r0 e0.symm
      subst r0
      obtain rfl := Option.some.inj h
      refine ret_at (iS t8q7) (by kernel_rfl) ?_
      exact ret_e [(0, 0)] [] (by simp only [push_cast, seval]) (by simp only [push_cast, seval]) rfl rfl rfl
    · refine wk_id ?_
      refine wk_id ?_
      refine reg_f ?_
      refine rs 2 [] [] (by kernel_rfl) allP_nil ?_
      refine rf [(0, .sl s.length (fl s)), (1, .clo 40 [.ptr 0 0]), (7, iS ((s.length : Nat) : Int)), (8, iS (IntKind.i64.wrap (t8q7 + 1)))] [(0, .row 3 [iS r626.2])] 2 (by kernel_rfl) ?_
      exact hn2 ((IntKind.i64.wrap (t8q7 + 1)), r626.2) _ _ _ (Option.some.inj h).symm (leSt_m [(0, 0)] [] (by simp only [push_cast, seval]) (by simp only [push_cast, seval]) rfl rfl rfl)
  · refine ex_cast hx2 (id := 0) ?_
    obtain ⟨r0, h, e0⟩ := map_sx h
    have e1 := hr2 r0 e0.symm
    subst r0
    refine wk_id ?_
    refine wk_id ?_
    refine seq_np ?_
    refine reg_f ?_
    refine rs 1 [] [] (by kernel_rfl) allP_nil ?_
    refine rf [(4, iS (-1))] [(0, .row 3 [iS c0q9])] 1 (by kernel_rfl) ?_
    refine wk_id ?_
    obtain rfl := Option.some.inj h
    refine ret_at (iS (-1)) (by kernel_rfl) ?_
    exact ret_e [(0, 0)] [] (by simp only [push_cast, seval]) (by simp only [push_cast, seval]) rfl rfl rfl

set_option maxRecDepth 100000 in
set_option maxHeartbeats 10000000 in
theorem slices_ContainsFunc_Want_spec (s : (List Want)) (c0 : Int) (r : Bool × Int) (h : slices_ContainsFunc_Want s c0 = some r) : SpecW Try.prog 39 [.sl s.length (fl s), .clo 40 [.ptr 0 0]] [(0, .row 3 [iS c0])] 1 (fun x h n => x = bS r.1 ∧ h = [(0, .row 3 [iS r.2])] ∧ n = 1) := by
  unfold slices_ContainsFunc_Want at h
  refine spec_of (draw_ok _) Try.func39 rfl (by decide) rfl (by kernel_rfl) ?_
  refine seq_np ?_
  refine reg_f ?_
  refine rs 1 [] [] (by kernel_rfl) allP_nil ?_
  refine rf [(0, .sl s.length (fl s)), (1, .clo 40 [.ptr 0 0])] [(0, .row 3 [iS c0])] 1 (by kernel_rfl) ?_
  refine wk_id ?_
  refine seq_np ?_
  refine reg_f ?_
  refine rs 2 [] [] (by kernel_rfl) allP_nil ?_
  obtain ⟨r631, hr631, h⟩ := bind_sx h
  refine call_x (slices_IndexFunc_Want_spec s c0 r631 hr631) (args := [.sl s.length (fl s), .clo 40 [.ptr 0 0]]) (dst := (some 7)) (by kernel_rfl) [(0, .row 3 [iS c0])] 1 (by kernel_rfl) [(0, 0)] [] (iS r631.1) [(0, .row 3 [iS r631.2]), (0, .dead)] (by simp only [push_cast, seval]) (by simp only [push_cast, seval]) (by kernel_rfl) (.inl rfl) (by simp only [push_cast, seval]) (by simp only [push_cast, seval]) ?_
  refine rs 2 [] [] (by kernel_rfl) allP_nil ?_
  refine rf [(4, bS (decide ((0 : Int) ≤ r631.1)))] [(0, .row 3 [iS r631.2])] 2 (by kernel_rfl) ?_
  refine wk_id ?_
  obtain rfl := Option.some.inj h
  refine ret_at (bS (decide ((0 : Int) ≤ r631.1))) (by kernel_rfl) ?_
  exact ret_e [(0, 0)] [] (by simp only [push_cast, seval]) (by simp only [push_cast, seval]) rfl rfl rfl

set_option maxRecDepth 100000 in
set_option maxHeartbeats 10000000 in
theorem slices_Index_int_spec (s : (List Int)) (v : Int) (r : Int) (h : slices_Index_int s v = some r) : SpecW Try.prog 52 [.sl s.length (fl s), iS v] [] 0 (fun x h n => x = iS r ∧ h = [] ∧ n = 0) := by
  unfold slices_Index_int at h
  refine spec_of (draw_ok _) Try.func52 rfl (by decide) rfl (by kernel_rfl) ?_
  refine seq_np ?_
  refine reg_f ?_
  refine rs 1 [] [] (by kernel_rfl) allP_nil ?_
  refine rf [(0, .sl s.length (fl s)), (1, iS v)] [] 0 (by kernel_rfl) ?_
  refine wk_id ?_
  refine seq_np ?_
  refine seq_np ?_
  refine reg_f ?_
  refine rs 3 [] [] (by kernel_rfl) allP_nil ?_
  refine rf [(0, .sl s.length (fl s)), (1, iS v), (7, iS ((s.length : Nat) : Int)), (8, iS 0)] [] 0 (by kernel_rfl) ?_
  refine wk_id ?_
  refine block_np ?_
  refine loop_sx (S := Int) (fun a => ([(0, .sl s.length (fl s)), (1, iS v), (7, iS ((s.length : Nat) : Int)), (8, iS a)], [], 0)) h (leSt_m [] [] (by simp only [push_cast, seval]) (by simp only [push_cast, seval]) rfl rfl rfl) ?_
  rintro t8q7 o2 R2 h hr2 hn2 hx2 ht2
  try dsimp only at h hn2 ⊢
  unfold slices_Index_int_l1 at h
  try dsimp only at h
  refine seq_np ?_
  refine reg_f ?_
  refine rs 1 [] [] (by kernel_rfl) allP_nil ?_
  refine rf [(0, .sl s.length (fl s)), (1, iS v), (7, iS ((s.length : Nat) : Int)), (8, iS t8q7), (9, bS (decide (t8q7 < ((s.length : Nat) : Int))))] [] 0 (by kernel_rfl) ?_
  refine wk_id ?_
  refine seq_np ?_
  refine cond_sx h (by kernel_rfl) (fun g701 h => ?_) (fun g701 h => ?_)
  · refine wk_id ?_
    refine seq_np ?_
    refine block_np ?_
    refine seq_np ?_
    refine reg_f ?_
    refine rs 2 [] [] (by kernel_rfl) allP_nil ?_
    refine rf [(0, .sl s.length (fl s)), (1, iS v), (5, iS t8q7), (7, iS ((s.length : Nat) : Int)), (8, iS t8q7)] [] 0 (by kernel_rfl) ?_
    refine wk_id ?_
    refine chk_sx h (fun g699 h => ?_)
    refine seq_np ?_
    refine reg_f ?_
    have k698 : 0 ≤ t8q7 ∧ t8q7 < ((s.length : Nat) : Int) := by first | simpa only [Bool.and_eq_true, decide_eq_true_eq, bne_iff_ne, ne_eq] using g699 | (simp at g699 ⊢; omega)
    refine rs 6 [none, none, none, some ⟨.iptr (fl s) ((t8q7).toNat * 1), [], 0, []⟩, some ⟨iS (ix s t8q7), [], 0, []⟩] _ (by kernel_rfl) (allP_cons (ob_ld s t8q7 1 0 ((t8q7).toNat * 1) k698 rfl (by decide) (by first | rfl | omega) (dflS Try.prog 3) (iS (ix s t8q7)) rfl 0 []) (allP_cons (ob_ix_l s 1 0 t8q7 k698) allP_nil)) ?_
    refine rf [(0, .sl s.length (fl s)), (1, iS v), (5, iS t8q7), (7, iS ((s.length : Nat) : Int)), (8, iS t8q7), (16, bS (v == (ix s t8q7)))] [] 0 (by kernel_rfl) ?_
    refine wk_id ?_
    refine cond_sx h (by kernel_rfl) (fun g700 h => ?_) (fun g700 h => ?_)
    · refine seq_np ?_
      refine reg_f ?_
      refine rs 2 [] [] (by kernel_rfl) allP_nil ?_
      refine rf [(4, iS t8q7)] [] 0 (by kernel_rfl) ?_
      refine wk_id ?_
      refine rt_cast ht2 ?_
      obtain ⟨r0, h, e0⟩ := map_sx h
      have e1 := hr2 r0 e0.symm
      subst r0
      obtain rfl := Option.some.inj h
      refine ret_at (iS t8q7) (by kernel_rfl) ?_
      exact ret_e [] [] (by simp only [push_cast, seval]) (by simp only [push_cast, seval]) rfl rfl rfl
    · refine wk_id ?_
      refine wk_id ?_
      refine reg_f ?_
      refine rs 2 [] [] (by kernel_rfl) allP_nil ?_
      refine rf [(0, .sl s.length (fl s)), (1, iS v), (7, iS ((s.length : Nat) : Int)), (8, iS (IntKind.i64.wrap (t8q7 + 1)))] [] 0 (by kernel_rfl) ?_
      exact hn2 ((IntKind.i64.wrap (t8q7 + 1))) _ _ _ (Option.some.inj h).symm (leSt_m [] [] (by simp only [push_cast, seval]) (by simp only [push_cast, seval]) rfl rfl rfl)
  · refine ex_cast hx2 (id := 0) ?_
    obtain ⟨r0, h, e0⟩ := map_sx h
    have e1 := hr2 r0 e0.symm
    subst r0
    refine wk_id ?_
    refine wk_id ?_
    refine seq_np ?_
    refine reg_f ?_
    refine rs 1 [] [] (by kernel_rfl) allP_nil ?_
    refine rf [(4, iS (-1))] [] 0 (by kernel_rfl) ?_
    refine wk_id ?_
    obtain rfl := Option.some.inj h
    refine ret_at (iS (-1)) (by kernel_rfl) ?_
    exact ret_e [] [] (by simp only [push_cast, seval]) (by simp only [push_cast, seval]) rfl rfl rfl

set_option maxRecDepth 100000 in
set_option maxHeartbeats 10000000 in
theorem slices_Contains_int_spec (s : (List Int)) (v : Int) (r : Bool) (h : slices_Contains_int s v = some r) : SpecW Try.prog 42 [.sl s.length (fl s), iS v] [] 0 (fun x h n => x = bS r ∧ h = [] ∧ n = 0) := by
  unfold slices_Contains_int at h
  refine spec_of (draw_ok _) Try.func42 rfl (by decide) rfl (by kernel_rfl) ?_
  refine seq_np ?_
  refine reg_f ?_
  refine rs 1 [] [] (by kernel_rfl) allP_nil ?_
  refine rf [(0, .sl s.length (fl s)), (1, iS v)] [] 0 (by kernel_rfl) ?_
  refine wk_id ?_
  refine seq_np ?_
  refine reg_f ?_
  refine rs 2 [] [] (by kernel_rfl) allP_nil ?_
  obtain ⟨r704, hr704, h⟩ := bind_sx h
  refine run_call 52 [.sl s.length (fl s), iS v] (some 7) (by kernel_rfl) ?_
  refine call_0 (slices_Index_int_spec s v r704 hr704) (by simp only [push_cast, seval]) (by simp only [push_cast, seval]) ?_
  refine back_f ?_
  refine rs 2 [] [] (by kernel_rfl) allP_nil ?_
  refine rf [(4, bS (decide ((0 : Int) ≤ r704)))] [] 0 (by kernel_rfl) ?_
  refine wk_id ?_
  obtain rfl := Option.some.inj h
  refine ret_at (bS (decide ((0 : Int) ≤ r704))) (by kernel_rfl) ?_
  exact ret_e [] [] (by simp only [push_cast, seval]) (by simp only [push_cast, seval]) rfl rfl rfl

set_option maxRecDepth 100000 in
set_option maxHeartbeats 10000000 in
theorem sync_Acquire_spec (s : Sema) (task : Int) (n : Int) (xtry : Bool) (r : Int × Bool × Fault × (List Want)) (h : sync_Acquire s task n xtry = some r) : SpecW Try.prog 15 [.agg (Enc.cells s), iS task, iS n, bS xtry] [] 0 (fun x h n => x = .tup [.agg [iS r.1, .own 0 0 r.2.2.2.length], bS r.2.1, .agg (Enc.cells r.2.2.1)] ∧ h = [(0, .row 42 (fl r.2.2.2))] ∧ n = 1) := by
  unfold sync_Acquire at h
  refine spec_of (draw_ok _) Try.func15 rfl (by decide) rfl (by kernel_rfl) ?_
  refine seq_np ?_
  refine reg_f ?_
  refine rs 5 [] [] (by kernel_rfl) allP_nil ?_
  refine rf [(2, iS n), (3, bS xtry), (4, .ptr 0 0), (5, .ptr 1 0), (8, .ptr 2 0), (10, .ptr 3 0)] [(0, .row 24 (Enc.cells s)), (1, .row 3 [iS task]), (2, .row 24 [iS 0, .v (.slice none 0 0)]), (3, .row 29 [iS 0, iS 0])] 4 (by kernel_rfl) ?_
  refine wk_id ?_
  refine seq_np ?_
  refine seq_np ?_
  refine reg_f ?_
  refine rs 1 [] [] (by kernel_rfl) allP_nil ?_
  obtain ⟨r715, hr715, h⟩ := bind_sx h
  refine run_call 37 [.agg (Enc.cells s)] (some 14) (by kernel_rfl) ?_
  refine call_0 (sync_sema_spec s r715 hr715) (by simp only [push_cast, seval]) (by simp only [push_cast, seval]) ?_
  refine back_f ?_
  refine rs 2 [] [] (by kernel_rfl) allP_nil ?_
  refine rf [(2, iS n), (3, bS xtry), (4, .ptr 0 0), (5, .ptr 1 0), (8, .ptr 2 0), (10, .ptr 3 0), (11, .ptr 4 0)] [(0, .row 24 (Enc.cells s)), (1, .row 3 [iS task]), (2, .row 24 [iS 0, .v (.slice none 0 0)]), (3, .row 29 [iS 0, iS 0]), (4, .row 29 (Enc.cells r715))] 5 (by kernel_rfl) ?_
  refine wk_id ?_
  refine seq_np ?_
  refine reg_f ?_
  refine rs 3 [] [] (by kernel_rfl) allP_nil ?_
  refine rf [(2, iS n), (3, bS xtry), (4, .ptr 0 0), (5, .ptr 1 0), (8, .ptr 2 0), (10, .ptr 3 0), (11, .ptr 4 0), (17, bS (r715.Code != 0))] [(0, .row 24 (Enc.cells s)), (1, .row 3 [iS task]), (2, .row 24 [iS 0, .v (.slice none 0 0)]), (3, .row 29 [iS 0, iS 0]), (4, .row 29 (Enc.cells r715))] 5 (by kernel_rfl) ?_
  refine wk_id ?_
  refine cond_sx h (by kernel_rfl) (fun g765 h => ?_) (fun g765 h => ?_)
  · refine seq_np ?_
    refine reg_t ?_
    refine rs 5 [] [] (by kernel_rfl) allP_nil ?_
    refine rt [(8, .ptr 2 0), (9, bS false), (10, .ptr 3 0)] [(0, .row 24 (Enc.cells s)), (1, .row 3 [iS task]), (2, .row 24 [iS 0, .v (.slice none 0 0)]), (3, .row 29 (Enc.cells r715)), (4, .row 29 (Enc.cells r715))] 10 follows (by kernel_rfl) ?_
    refine wk_id ?_
    obtain rfl := Option.some.inj h
    refine ret_at (.tup [.agg [iS 0, .v (.slice none 0 0)], bS false, .agg (Enc.cells r715)]) (by kernel_rfl) ?_
    exact ret_e [] [] (by simp only [push_cast, seval]) (by simp only [push_cast, seval]) rfl rfl rfl
  · refine wk_id ?_
    refine seq_np ?_
    refine seq_cut (A := Unit) (fun _ => ([(2, iS n), (3, bS xtry), (4, .ptr 0 0), (5, .ptr 1 0), (8, .ptr 2 0), (10, .ptr 3 0), (29, bS ((decide (task < 1)) || ((decide (n < 1)) || (decide ((1000000000 : Int) < n)))))], [(0, .row 24 (Enc.cells s)), (1, .row 3 [iS task]), (2, .row 24 [iS 0, .v (.slice none 0 0)]), (3, .row 29 [iS 0, iS 0]), (4, .row 29 (Enc.cells r715))], 5)) (fun _ => True) (fun K722 hK722 => ?_) (fun _ _ => ?_)
    · refine reg_f ?_
      refine rs 3 [] [] (by kernel_rfl) allP_nil ?_
      refine run_split 22 (decide (task < 1)) (.inl (by kernel_rfl)) (fun g723 => ?_) (fun g723 => ?_)
      · refine rs 7 [] [] (by kernel_rfl) allP_nil ?_
        refine rf [(2, iS n), (3, bS xtry), (4, .ptr 0 0), (5, .ptr 1 0), (8, .ptr 2 0), (10, .ptr 3 0), (29, bS true)] [(0, .row 24 (Enc.cells s)), (1, .row 3 [iS task]), (2, .row 24 [iS 0, .v (.slice none 0 0)]), (3, .row 29 [iS 0, iS 0]), (4, .row 29 (Enc.cells r715))] 5 (by kernel_rfl) ?_
        exact hK722 () _ _ _ trivial (leSt_m [(0, 0), (1, 1), (2, 2), (3, 3), (4, 4)] [] (by (try simp only [g723]) <;> simp only [push_cast, seval]) (by (try simp only [g723]) <;> simp only [push_cast, seval]) rfl rfl rfl)
      · refine rs 4 [] [] (by kernel_rfl) allP_nil ?_
        refine run_split 26 (decide (n < 1)) (.inl (by kernel_rfl)) (fun g724 => ?_) (fun g724 => ?_)
        · refine rs 3 [] [] (by kernel_rfl) allP_nil ?_
          refine rf [(2, iS n), (3, bS xtry), (4, .ptr 0 0), (5, .ptr 1 0), (8, .ptr 2 0), (10, .ptr 3 0), (29, bS true)] [(0, .row 24 (Enc.cells s)), (1, .row 3 [iS task]), (2, .row 24 [iS 0, .v (.slice none 0 0)]), (3, .row 29 [iS 0, iS 0]), (4, .row 29 (Enc.cells r715))] 5 (by kernel_rfl) ?_
          exact hK722 () _ _ _ trivial (leSt_m [(0, 0), (1, 1), (2, 2), (3, 3), (4, 4)] [] (by (try simp only [g723, g724]) <;> simp only [push_cast, seval]) (by (try simp only [g723, g724]) <;> simp only [push_cast, seval]) rfl rfl rfl)
        · refine rs 3 [] [] (by kernel_rfl) allP_nil ?_
          refine rf [(2, iS n), (3, bS xtry), (4, .ptr 0 0), (5, .ptr 1 0), (8, .ptr 2 0), (10, .ptr 3 0), (29, bS (decide ((1000000000 : Int) < n)))] [(0, .row 24 (Enc.cells s)), (1, .row 3 [iS task]), (2, .row 24 [iS 0, .v (.slice none 0 0)]), (3, .row 29 [iS 0, iS 0]), (4, .row 29 (Enc.cells r715))] 5 (by kernel_rfl) ?_
          exact hK722 () _ _ _ trivial (leSt_m [(0, 0), (1, 1), (2, 2), (3, 3), (4, 4)] [] (by (try simp only [g723, g724]) <;> simp only [push_cast, seval]) (by (try simp only [g723, g724]) <;> simp only [push_cast, seval]) rfl rfl rfl)
    · dsimp only
      refine cond_sx h (by kernel_rfl) (fun g764 h => ?_) (fun g764 h => ?_)
      · refine seq_np ?_
        refine reg_f ?_
        refine rs 1 [] [] (by kernel_rfl) allP_nil ?_
        obtain ⟨r726, hr726, h⟩ := bind_sx h
        refine run_call 38 [iS 3, iS (-1)] (some 31) (by kernel_rfl) ?_
        refine call_0 (sync_fault_spec 3 (-1) r726 hr726) (by simp only [push_cast, seval]) (by simp only [push_cast, seval]) ?_
        refine back_f ?_
        refine rs 3 [] [] (by kernel_rfl) allP_nil ?_
        refine rf [(8, .ptr 2 0), (9, bS false), (10, .ptr 3 0)] [(0, .row 24 (Enc.cells s)), (1, .row 3 [iS task]), (2, .row 24 [iS 0, .v (.slice none 0 0)]), (3, .row 29 (Enc.cells r726)), (4, .row 29 (Enc.cells r715))] 5 (by kernel_rfl) ?_
        refine wk_id ?_
        obtain rfl := Option.some.inj h
        refine ret_at (.tup [.agg [iS 0, .v (.slice none 0 0)], bS false, .agg (Enc.cells r726)]) (by kernel_rfl) ?_
        exact ret_e [] [] (by simp only [push_cast, seval]) (by simp only [push_cast, seval]) rfl rfl rfl
      · refine wk_id ?_
        refine seq_np ?_
        refine seq_np ?_
        refine reg_f ?_
        refine rs 3 [] [] (by kernel_rfl) allP_nil ?_
        obtain ⟨r731, hr731, h⟩ := bind_sx h
        refine call_x (slices_ContainsFunc_Want_spec s.Line task r731 hr731) (args := [.sl s.Line.length (fl s.Line), .clo 40 [.ptr 1 0]]) (dst := (some 35)) (by kernel_rfl) [(0, .row 24 (Enc.cells s)), (1, .row 3 [iS task]), (2, .row 24 [iS 0, .v (.slice none 0 0)]), (3, .row 29 [iS 0, iS 0]), (4, .row 29 (Enc.cells r715))] 5 (by kernel_rfl) [(0, 1)] [] (bS r731.1) [(1, .row 3 [iS r731.2]), (1, .dead)] (by simp only [push_cast, seval]) (by simp only [push_cast, seval]) (by kernel_rfl) (.inl rfl) (by simp only [push_cast, seval]) (by simp only [push_cast, seval]) ?_
        refine rf [(2, iS n), (3, bS xtry), (4, .ptr 0 0), (5, .ptr 1 0), (8, .ptr 2 0), (10, .ptr 3 0), (35, bS r731.1)] [(0, .row 24 (Enc.cells s)), (1, .row 3 [iS r731.2]), (2, .row 24 [iS 0, .v (.slice none 0 0)]), (3, .row 29 [iS 0, iS 0]), (4, .row 29 (Enc.cells r715))] 6 (by kernel_rfl) ?_
        refine wk_id ?_
        refine cond_sx h (by kernel_rfl) (fun g763 h => ?_) (fun g763 h => ?_)
        · refine seq_np ?_
          refine reg_f ?_
          refine rs 1 [] [] (by kernel_rfl) allP_nil ?_
          obtain ⟨r733, hr733, h⟩ := bind_sx h
          refine run_call 38 [iS 10, iS (-1)] (some 37) (by kernel_rfl) ?_
          refine call_0 (sync_fault_spec 10 (-1) r733 hr733) (by simp only [push_cast, seval]) (by simp only [push_cast, seval]) ?_
          refine back_f ?_
          refine rs 3 [] [] (by kernel_rfl) allP_nil ?_
          refine rf [(8, .ptr 2 0), (9, bS false), (10, .ptr 3 0)] [(0, .row 24 (Enc.cells s)), (1, .row 3 [iS r731.2]), (2, .row 24 [iS 0, .v (.slice none 0 0)]), (3, .row 29 (Enc.cells r733)), (4, .row 29 (Enc.cells r715))] 6 (by kernel_rfl) ?_
          refine wk_id ?_
          obtain rfl := Option.some.inj h
          refine ret_at (.tup [.agg [iS 0, .v (.slice none 0 0)], bS false, .agg (Enc.cells r733)]) (by kernel_rfl) ?_
          exact ret_e [] [] (by simp only [push_cast, seval]) (by simp only [push_cast, seval]) rfl rfl rfl
        · refine wk_id ?_
          refine seq_np ?_
          refine seq_np ?_
          refine reg_f ?_
          refine rs 4 [] [] (by kernel_rfl) allP_nil ?_
          refine rf [(2, iS n), (3, bS xtry), (4, .ptr 0 0), (5, .ptr 1 0), (8, .ptr 2 0), (10, .ptr 3 0), (41, bS (((s.Line.length : Nat) : Int) == 5000))] [(0, .row 24 (Enc.cells s)), (1, .row 3 [iS r731.2]), (2, .row 24 [iS 0, .v (.slice none 0 0)]), (3, .row 29 [iS 0, iS 0]), (4, .row 29 (Enc.cells r715))] 6 (by kernel_rfl) ?_
          refine wk_id ?_
          refine cond_sx h (by kernel_rfl) (fun g762 h => ?_) (fun g762 h => ?_)
          · refine seq_np ?_
            refine reg_f ?_
            refine rs 1 [] [] (by kernel_rfl) allP_nil ?_
            obtain ⟨r737, hr737, h⟩ := bind_sx h
            refine run_call 38 [iS 9, iS 0] (some 43) (by kernel_rfl) ?_
            refine call_0 (sync_fault_spec 9 0 r737 hr737) (by simp only [push_cast, seval]) (by simp only [push_cast, seval]) ?_
            refine back_f ?_
            refine rs 3 [] [] (by kernel_rfl) allP_nil ?_
            refine rf [(8, .ptr 2 0), (9, bS false), (10, .ptr 3 0)] [(0, .row 24 (Enc.cells s)), (1, .row 3 [iS r731.2]), (2, .row 24 [iS 0, .v (.slice none 0 0)]), (3, .row 29 (Enc.cells r737)), (4, .row 29 (Enc.cells r715))] 6 (by kernel_rfl) ?_
            refine wk_id ?_
            obtain rfl := Option.some.inj h
            refine ret_at (.tup [.agg [iS 0, .v (.slice none 0 0)], bS false, .agg (Enc.cells r737)]) (by kernel_rfl) ?_
            exact ret_e [] [] (by simp only [push_cast, seval]) (by simp only [push_cast, seval]) rfl rfl rfl
          · refine wk_id ?_
            refine seq_np ?_
            refine reg_t ?_
            refine rs 4 [] [] (by kernel_rfl) allP_nil ?_
            obtain ⟨r741, hr741, h⟩ := bind_sx h
            refine call_x (slices_Clone_Want_spec s.Line r741 hr741) (args := [.sl s.Line.length (fl s.Line)]) (dst := (some 48)) (by kernel_rfl) [(0, .row 24 (Enc.cells s)), (1, .row 3 [iS r731.2]), (2, .row 24 [iS 0, .v (.slice none 0 0)]), (3, .row 29 [iS 0, iS 0]), (4, .row 29 (Enc.cells r715))] 10 (by kernel_rfl) [] [] (.own 10 0 r741.length) [(10, .row 42 (fl r741))] (by simp only [push_cast, seval]) (by simp only [push_cast, seval]) (by kernel_rfl) (.inl rfl) (by simp only [push_cast, seval]) (by simp only [push_cast, seval]) ?_
            refine chk_sx h (fun g743 h => ?_)
            have k742 : (r741 ++ ([(Want.mk r731.2 false n)] : List Want)).length * 24 ≤ 140737488355328 := by first | simpa only [Bool.and_eq_true, decide_eq_true_eq, bne_iff_ne, ne_eq] using g743 | (simp at g743 ⊢; omega)
            refine rs 8 [none, none, none, none, some ⟨.own 17 0 (r741 ++ ([(Want.mk r731.2 false n)] : List Want)).length, [(17, .row 42 (fl (r741 ++ ([(Want.mk r731.2 false n)] : List Want)))), (10, .dead)], 18, [10, 15]⟩] _ (by kernel_rfl) (allP_cons (ob_app (P := Try.prog) r741 ([(Want.mk r731.2 false n)] : List Want) 3 24 rfl (appCells (fl ([(Want.mk r731.2 false n)] : List Want)) 0 (([(Want.mk r731.2 false n)] : List Want).length * 3)) ([(Want.mk r731.2 false n)] : List Want).length (app_own ([(Want.mk r731.2 false n)] : List Want) 3 rfl) rfl (0 + ([(Want.mk r731.2 false n)] : List Want).length * 3 ≤ (fl ([(Want.mk r731.2 false n)] : List Want)).length) (app_own_le ([(Want.mk r731.2 false n)] : List Want) 3 rfl) 42 (by kernel_rfl) (by decide) k742 10 17 [15]) allP_nil) ?_
            refine rt [(3, bS xtry), (5, .ptr 1 0), (8, .ptr 2 0), (10, .ptr 3 0), (12, .ptr 20 0)] [(0, .row 24 (Enc.cells s)), (1, .row 3 [iS r731.2]), (2, .row 24 [iS 0, .v (.slice none 0 0)]), (3, .row 29 [iS 0, iS 0]), (4, .row 29 (Enc.cells r715)), (10, .dead), (15, .row 42 (fl ([(Want.mk r731.2 false n)] : List Want))), (17, .row 42 (fl (r741 ++ ([(Want.mk r731.2 false n)] : List Want)))), (20, .row 24 [iS s.Free, .own 17 0 (r741 ++ ([(Want.mk r731.2 false n)] : List Want)).length])] 23 follows (by kernel_rfl) ?_
            refine wk_id ?_
            refine seq_np ?_
            refine seq_np ?_
            refine reg_t ?_
            obtain ⟨r749, hr749, h⟩ := bind_sx h
            refine call_x (sync_give_spec s.Free (r741 ++ ([(Want.mk r731.2 false n)] : List Want)) r749 hr749) (args := [.ptr 20 0]) (dst := (some 55)) (by kernel_rfl) [(0, .row 24 (Enc.cells s)), (1, .row 3 [iS r731.2]), (2, .row 24 [iS 0, .v (.slice none 0 0)]), (3, .row 29 [iS 0, iS 0]), (4, .row 29 (Enc.cells r715)), (10, .dead), (15, .row 42 (fl ([(Want.mk r731.2 false n)] : List Want))), (17, .row 42 (fl (r741 ++ ([(Want.mk r731.2 false n)] : List Want)))), (20, .row 24 [iS s.Free, .own 17 0 (r741 ++ ([(Want.mk r731.2 false n)] : List Want)).length])] 23 (by kernel_rfl) [(0, 20), (1, 17)] [] (.own 25 0 r749.1.length) [(20, .row 24 [iS r749.2.1, .own 26 0 r749.2.2.length]), (17, .dead), (25, .row 3 (fl r749.1)), (26, .row 42 (fl r749.2.2)), (20, .dead), (17, .dead)] (by simp only [push_cast, seval]) (by simp only [push_cast, seval]) (by kernel_rfl) (.inl rfl) (by simp only [push_cast, seval]) (by simp only [push_cast, seval]) ?_
            refine rs 1 [] [] (by kernel_rfl) allP_nil ?_
            obtain ⟨r750, hr750, h⟩ := bind_sx h
            refine call_x (slices_Contains_int_spec r749.1 r731.2 r750 hr750) (args := [.own 25 0 r749.1.length, iS r731.2]) (dst := (some 57)) (by kernel_rfl) [(0, .row 24 (Enc.cells s)), (1, .row 3 [iS r731.2]), (2, .row 24 [iS 0, .v (.slice none 0 0)]), (3, .row 29 [iS 0, iS 0]), (4, .row 29 (Enc.cells r715)), (10, .dead), (15, .row 42 (fl ([(Want.mk r731.2 false n)] : List Want))), (17, .dead), (20, .row 24 [iS r749.2.1, .own 26 0 r749.2.2.length]), (25, .row 3 (fl r749.1)), (26, .row 42 (fl r749.2.2))] 29 (by kernel_rfl) [] [25] (bS r750) [] (by simp only [push_cast, seval]) (by simp only [push_cast, seval]) (by kernel_rfl) (.inr ⟨by simp only [push_cast, seval], by simp only [push_cast, seval]⟩) (by simp only [push_cast, seval]) (by simp only [push_cast, seval]) ?_
            refine rt [(3, bS xtry), (8, .ptr 2 0), (10, .ptr 3 0), (12, .ptr 20 0), (57, bS r750)] [(0, .row 24 (Enc.cells s)), (1, .row 3 [iS r731.2]), (2, .row 24 [iS 0, .v (.slice none 0 0)]), (3, .row 29 [iS 0, iS 0]), (4, .row 29 (Enc.cells r715)), (10, .dead), (15, .row 42 (fl ([(Want.mk r731.2 false n)] : List Want))), (17, .dead), (20, .row 24 [iS r749.2.1, .own 26 0 r749.2.2.length]), (25, .row 3 (fl r749.1)), (26, .row 42 (fl r749.2.2))] 30 follows (by kernel_rfl) ?_
            refine wk_id ?_
            refine cond_sx h (by kernel_rfl) (fun g761 h => ?_) (fun g761 h => ?_)
            · refine seq_np ?_
              refine reg_f ?_
              refine rs 5 [] [] (by kernel_rfl) allP_nil ?_
              refine rf [(8, .ptr 2 0), (9, bS true), (10, .ptr 3 0)] [(0, .row 24 (Enc.cells s)), (1, .row 3 [iS r731.2]), (2, .row 24 [iS r749.2.1, .own 26 0 r749.2.2.length]), (3, .row 29 [iS 0, iS 0]), (4, .row 29 (Enc.cells r715)), (10, .dead), (15, .row 42 (fl ([(Want.mk r731.2 false n)] : List Want))), (17, .dead), (20, .row 24 [iS r749.2.1, .own 26 0 r749.2.2.length]), (25, .row 3 (fl r749.1)), (26, .row 42 (fl r749.2.2))] 30 (by kernel_rfl) ?_
              refine wk_id ?_
              obtain rfl := Option.some.inj h
              refine ret_at (.tup [.agg [iS r749.2.1, .own 26 0 r749.2.2.length], bS true, .agg [iS 0, iS 0]]) (by kernel_rfl) ?_
              exact ret_e [(0, 26)] [] (by simp only [push_cast, seval]) (by simp only [push_cast, seval]) rfl rfl rfl
            · refine wk_id ?_
              refine seq_cut (A := Int × (List Want)) (fun a => ([(8, .ptr 0 0), (10, .ptr 1 0), (12, .ptr 2 0)], [(0, .row 24 [iS 0, .v (.slice none 0 0)]), (1, .row 29 [iS 0, iS 0]), (2, .row 24 [iS a.1, .own 3 0 a.2.length]), (3, .row 42 (fl a.2))], 4)) (fun a => (sync_Acquire_j1 a.1 a.2) = some r) (fun K755 hK755 => ?_) ?_
              · refine seq_np ?_
                refine reg_f ?_
                refine rs 1 [] [] (by kernel_rfl) allP_nil ?_
                refine rf [(8, .ptr 2 0), (10, .ptr 3 0), (12, .ptr 20 0), (60, bS xtry)] [(0, .row 24 (Enc.cells s)), (1, .row 3 [iS r731.2]), (2, .row 24 [iS 0, .v (.slice none 0 0)]), (3, .row 29 [iS 0, iS 0]), (4, .row 29 (Enc.cells r715)), (10, .dead), (15, .row 42 (fl ([(Want.mk r731.2 false n)] : List Want))), (17, .dead), (20, .row 24 [iS r749.2.1, .own 26 0 r749.2.2.length]), (25, .row 3 (fl r749.1)), (26, .row 42 (fl r749.2.2))] 30 (by kernel_rfl) ?_
                refine wk_id ?_
                refine cond_sx h (by kernel_rfl) (fun g760 h => ?_) (fun g760 h => ?_)
                · refine chk_sx h (fun g759 h => ?_)
                  refine reg_f ?_
                  have k758 : 0 ≤ (0 : Int) ∧ (0 : Int) ≤ (IntKind.i64.wrap (((r749.2.2.length : Nat) : Int) - 1)) ∧ (IntKind.i64.wrap (((r749.2.2.length : Nat) : Int) - 1)) ≤ ((r749.2.2.length : Nat) : Int) := by first | simpa only [Bool.and_eq_true, decide_eq_true_eq, bne_iff_ne, ne_eq] using g759 | (simp at g759 ⊢; omega)
                  refine rs 6 [] [] (by kernel_rfl) allP_nil ?_
                  refine run_cutO r749.2.2 (some 67) 26 3 42 (0 : Int) (IntKind.i64.wrap (((r749.2.2.length : Nat) : Int) - 1)) (by kernel_rfl) rfl k758 ?_
                  refine rs 2 [] [] (by kernel_rfl) allP_nil ?_
                  refine rf [(8, .ptr 2 0), (10, .ptr 3 0), (12, .ptr 20 0)] [(0, .row 24 (Enc.cells s)), (1, .row 3 [iS r731.2]), (2, .row 24 [iS 0, .v (.slice none 0 0)]), (3, .row 29 [iS 0, iS 0]), (4, .row 29 (Enc.cells r715)), (10, .dead), (15, .row 42 (fl ([(Want.mk r731.2 false n)] : List Want))), (17, .dead), (20, .row 24 [iS r749.2.1, .own 30 0 (cut r749.2.2 (0 : Int) (IntKind.i64.wrap (((r749.2.2.length : Nat) : Int) - 1))).length]), (25, .row 3 (fl r749.1)), (26, .dead), (30, .row 42 (fl (cut r749.2.2 (0 : Int) (IntKind.i64.wrap (((r749.2.2.length : Nat) : Int) - 1)))))] 31 (by kernel_rfl) ?_
                  exact hK755 (r749.2.1, (cut r749.2.2 (0 : Int) (IntKind.i64.wrap (((r749.2.2.length : Nat) : Int) - 1)))) _ _ _ h (leSt_m [(0, 2), (1, 3), (2, 20), (3, 30)] [] (by simp only [push_cast, seval]) (by simp only [push_cast, seval]) rfl rfl rfl)
                · exact hK755 (r749.2.1, r749.2.2) _ _ _ h (leSt_m [(0, 2), (1, 3), (2, 20), (3, 26)] [] (by simp only [push_cast, seval]) (by simp only [push_cast, seval]) rfl rfl rfl)
              · rintro ⟨c2_Free1, c3q1⟩ h
                try dsimp only at h ⊢
                unfold sync_Acquire_j1 at h
                refine seq_np ?_
                refine reg_f ?_
                refine rs 5 [] [] (by kernel_rfl) allP_nil ?_
                refine rf [(8, .ptr 0 0), (9, bS false), (10, .ptr 1 0)] [(0, .row 24 [iS c2_Free1, .own 3 0 c3q1.length]), (1, .row 29 [iS 0, iS 0]), (2, .row 24 [iS c2_Free1, .own 3 0 c3q1.length]), (3, .row 42 (fl c3q1))] 4 (by kernel_rfl) ?_
                refine wk_id ?_
                obtain rfl := Option.some.inj h
                refine ret_at (.tup [.agg [iS c2_Free1, .own 3 0 c3q1.length], bS false, .agg [iS 0, iS 0]]) (by kernel_rfl) ?_
                exact ret_e [(0, 3)] [] (by simp only [push_cast, seval]) (by simp only [push_cast, seval]) rfl rfl rfl

set_option maxRecDepth 100000 in
set_option maxHeartbeats 10000000 in
theorem taskmillref_F_spec (code : Int) (xat : Int) (r : Fault) (h : taskmillref_F code xat = some r) : SpecW Try.prog 19 [iS code, iS xat] [] 0 (fun x h n => x = .agg (Enc.cells r) ∧ h = [] ∧ n = 0) := by
  unfold taskmillref_F at h
  refine spec_of (draw_ok _) Try.func19 rfl (by decide) rfl (by kernel_rfl) ?_
  refine seq_np ?_
  refine reg_f ?_
  refine rs 1 [] [] (by kernel_rfl) allP_nil ?_
  refine rf [(0, iS code), (1, iS xat), (4, .ptr 0 0)] [(0, .row 29 [iS 0, iS 0])] 1 (by kernel_rfl) ?_
  refine wk_id ?_
  refine seq_np ?_
  refine reg_f ?_
  refine rs 4 [] [] (by kernel_rfl) allP_nil ?_
  refine rf [(4, .ptr 0 0)] [(0, .row 29 [iS code, iS xat])] 1 (by kernel_rfl) ?_
  refine wk_id ?_
  obtain rfl := Option.some.inj h
  refine ret_at (.agg [iS code, iS xat]) (by kernel_rfl) ?_
  exact ret_e [] [] (by simp only [push_cast, seval]) (by simp only [push_cast, seval]) rfl rfl rfl

set_option maxRecDepth 100000 in
set_option maxHeartbeats 10000000 in
theorem taskmillref_InLine_spec (l : (List Want)) (task : Int) (r : Int) (h : taskmillref_InLine l task = some r) : SpecW Try.prog 20 [.sl l.length (fl l), iS task] [] 0 (fun x h n => x = iS r ∧ h = [] ∧ n = 0) := by
  unfold taskmillref_InLine at h
  refine spec_of (draw_ok _) Try.func20 rfl (by decide) rfl (by kernel_rfl) ?_
  refine seq_np ?_
  refine reg_f ?_
  refine rs 1 [] [] (by kernel_rfl) allP_nil ?_
  refine rf [(0, .sl l.length (fl l)), (1, iS task)] [] 0 (by kernel_rfl) ?_
  refine wk_id ?_
  refine seq_np ?_
  refine seq_np ?_
  refine reg_f ?_
  refine rs 1 [] [] (by kernel_rfl) allP_nil ?_
  refine rf [(0, .sl l.length (fl l)), (1, iS task), (5, iS 0)] [] 0 (by kernel_rfl) ?_
  refine wk_id ?_
  refine block_np ?_
  refine loop_sx (S := Int) (fun a => ([(0, .sl l.length (fl l)), (1, iS task), (5, iS a)], [], 0)) h (leSt_m [] [] (by simp only [push_cast, seval]) (by simp only [push_cast, seval]) rfl rfl rfl) ?_
  rintro i7 o2 R2 h hr2 hn2 hx2 ht2
  try dsimp only at h hn2 ⊢
  unfold taskmillref_InLine_l1 at h
  try dsimp only at h
  refine seq_np ?_
  refine seq_np ?_
  refine reg_f ?_
  refine rs 4 [] [] (by kernel_rfl) allP_nil ?_
  refine rf [(0, .sl l.length (fl l)), (1, iS task), (5, iS i7), (9, bS (decide (i7 < ((l.length : Nat) : Int))))] [] 0 (by kernel_rfl) ?_
  refine wk_id ?_
  refine cond_sx h (by kernel_rfl) (fun g847 h => ?_) (fun g847 h => ?_)
  · refine wk_id ?_
    refine seq_np ?_
    refine block_np ?_
    refine chk_sx h (fun g845 h => ?_)
    refine seq_np ?_
    refine reg_f ?_
    have k844 : 0 ≤ i7 ∧ i7 < ((l.length : Nat) : Int) := by first | simpa only [Bool.and_eq_true, decide_eq_true_eq, bne_iff_ne, ne_eq] using g845 | (simp at g845 ⊢; omega)
    refine rs 7 [none, none, some ⟨.iptr (fl l) ((i7).toNat * 3), [], 0, []⟩, none, some ⟨iS (ix l i7).Task, [], 0, []⟩] _ (by kernel_rfl) (allP_cons (ob_ld l i7 3 0 (((i7).toNat * 3) + 0) k844 rfl (by decide) (by first | rfl | omega) (dflS Try.prog 3) (iS (ix l i7).Task) rfl 0 []) (allP_cons (ob_ix_l l 3 0 i7 k844) allP_nil)) ?_
    refine rf [(0, .sl l.length (fl l)), (1, iS task), (5, iS i7), (18, bS ((ix l i7).Task == task))] [] 0 (by kernel_rfl) ?_
    refine wk_id ?_
    refine cond_sx h (by kernel_rfl) (fun g846 h => ?_) (fun g846 h => ?_)
    · refine seq_np ?_
      refine reg_f ?_
      refine rs 2 [] [] (by kernel_rfl) allP_nil ?_
      refine rf [(4, iS i7)] [] 0 (by kernel_rfl) ?_
      refine wk_id ?_
      refine rt_cast ht2 ?_
      obtain ⟨r0, h, e0⟩ := map_sx h
      have e1 := hr2 r0 e0.symm
      subst r0
      obtain rfl := Option.some.inj h
      refine ret_at (iS i7) (by kernel_rfl) ?_
      exact ret_e [] [] (by simp only [push_cast, seval]) (by simp only [push_cast, seval]) rfl rfl rfl
    · refine wk_id ?_
      refine wk_id ?_
      refine reg_f ?_
      refine rs 3 [] [] (by kernel_rfl) allP_nil ?_
      refine rf [(0, .sl l.length (fl l)), (1, iS task), (5, iS (IntKind.i64.wrap (i7 + 1)))] [] 0 (by kernel_rfl) ?_
      exact hn2 ((IntKind.i64.wrap (i7 + 1))) _ _ _ (Option.some.inj h).symm (leSt_m [] [] (by simp only [push_cast, seval]) (by simp only [push_cast, seval]) rfl rfl rfl)
  · refine ex_cast hx2 (id := 0) ?_
    obtain ⟨r0, h, e0⟩ := map_sx h
    have e1 := hr2 r0 e0.symm
    subst r0
    refine wk_id ?_
    refine wk_id ?_
    refine seq_np ?_
    refine reg_f ?_
    refine rs 1 [] [] (by kernel_rfl) allP_nil ?_
    refine rf [(4, iS (-1))] [] 0 (by kernel_rfl) ?_
    refine wk_id ?_
    obtain rfl := Option.some.inj h
    refine ret_at (iS (-1)) (by kernel_rfl) ?_
    exact ret_e [] [] (by simp only [push_cast, seval]) (by simp only [push_cast, seval]) rfl rfl rfl

set_option maxRecDepth 100000 in
set_option maxHeartbeats 10000000 in
theorem taskmillref_SemaFault_spec (s : Sema) (r : Fault) (h : taskmillref_SemaFault s = some r) : SpecW Try.prog 17 [.agg (Enc.cells s)] [] 0 (fun x h n => x = .agg (Enc.cells r) ∧ h = [] ∧ n = 0) := by
  unfold taskmillref_SemaFault at h
  refine spec_of (draw_ok _) Try.func17 rfl (by decide) rfl (by kernel_rfl) ?_
  refine seq_np ?_
  refine reg_f ?_
  refine rs 2 [] [] (by kernel_rfl) allP_nil ?_
  refine rf [(1, .ptr 0 0), (2, .ptr 1 0)] [(0, .row 24 (Enc.cells s)), (1, .row 29 [iS 0, iS 0])] 2 (by kernel_rfl) ?_
  refine wk_id ?_
  refine seq_np ?_
  refine seq_np ?_
  refine reg_f ?_
  refine rs 4 [] [] (by kernel_rfl) allP_nil ?_
  refine rf [(1, .ptr 0 0), (2, .ptr 1 0), (8, bS (decide ((5000 : Int) < ((s.Line.length : Nat) : Int))))] [(0, .row 24 (Enc.cells s)), (1, .row 29 [iS 0, iS 0])] 2 (by kernel_rfl) ?_
  refine wk_id ?_
  refine cond_sx h (by kernel_rfl) (fun g1086 h => ?_) (fun g1086 h => ?_)
  · refine seq_np ?_
    refine reg_f ?_
    obtain ⟨r885, hr885, h⟩ := bind_sx h
    refine run_call 19 [iS 2, iS 0] (some 9) (by kernel_rfl) ?_
    refine call_0 (taskmillref_F_spec 2 0 r885 hr885) (by simp only [push_cast, seval]) (by simp only [push_cast, seval]) ?_
    refine back_f ?_
    refine rs 1 [] [] (by kernel_rfl) allP_nil ?_
    refine rf [(2, .ptr 1 0)] [(0, .row 24 (Enc.cells s)), (1, .row 29 (Enc.cells r885))] 2 (by kernel_rfl) ?_
    refine wk_id ?_
    obtain rfl := Option.some.inj h
    refine ret_at (.agg (Enc.cells r885)) (by kernel_rfl) ?_
    exact ret_e [] [] (by simp only [push_cast, seval]) (by simp only [push_cast, seval]) rfl rfl rfl
  · refine wk_id ?_
    refine seq_np ?_
    refine seq_cut (A := Unit) (fun _ => ([(1, .ptr 0 0), (2, .ptr 1 0), (17, bS ((decide (s.Free < 0)) || (decide ((1000000000 : Int) < s.Free))))], [(0, .row 24 (Enc.cells s)), (1, .row 29 [iS 0, iS 0])], 2)) (fun _ => True) (fun K890 hK890 => ?_) (fun _ _ => ?_)
    · refine reg_f ?_
      refine rs 4 [] [] (by kernel_rfl) allP_nil ?_
      refine run_split 13 (decide (s.Free < 0)) (.inl (by kernel_rfl)) (fun g891 => ?_) (fun g891 => ?_)
      · refine rs 4 [] [] (by kernel_rfl) allP_nil ?_
        refine rf [(1, .ptr 0 0), (2, .ptr 1 0), (17, bS true)] [(0, .row 24 (Enc.cells s)), (1, .row 29 [iS 0, iS 0])] 2 (by kernel_rfl) ?_
        exact hK890 () _ _ _ trivial (leSt_m [(0, 0), (1, 1)] [] (by (try simp only [g891]) <;> simp only [push_cast, seval]) (by (try simp only [g891]) <;> simp only [push_cast, seval]) rfl rfl rfl)
      · refine rs 4 [] [] (by kernel_rfl) allP_nil ?_
        refine rf [(1, .ptr 0 0), (2, .ptr 1 0), (17, bS (decide ((1000000000 : Int) < s.Free)))] [(0, .row 24 (Enc.cells s)), (1, .row 29 [iS 0, iS 0])] 2 (by kernel_rfl) ?_
        exact hK890 () _ _ _ trivial (leSt_m [(0, 0), (1, 1)] [] (by (try simp only [g891]) <;> simp only [push_cast, seval]) (by (try simp only [g891]) <;> simp only [push_cast, seval]) rfl rfl rfl)
    · dsimp only
      refine cond_sx h (by kernel_rfl) (fun g1085 h => ?_) (fun g1085 h => ?_)
      · refine seq_np ?_
        refine reg_f ?_
        obtain ⟨r893, hr893, h⟩ := bind_sx h
        refine run_call 19 [iS 3, iS 0] (some 18) (by kernel_rfl) ?_
        refine call_0 (taskmillref_F_spec 3 0 r893 hr893) (by simp only [push_cast, seval]) (by simp only [push_cast, seval]) ?_
        refine back_f ?_
        refine rs 1 [] [] (by kernel_rfl) allP_nil ?_
        refine rf [(2, .ptr 1 0)] [(0, .row 24 (Enc.cells s)), (1, .row 29 (Enc.cells r893))] 2 (by kernel_rfl) ?_
        refine wk_id ?_
        obtain rfl := Option.some.inj h
        refine ret_at (.agg (Enc.cells r893)) (by kernel_rfl) ?_
        exact ret_e [] [] (by simp only [push_cast, seval]) (by simp only [push_cast, seval]) rfl rfl rfl
      · refine wk_id ?_
        refine seq_np ?_
        refine chk_sx h (fun g905 h => ?_)
        refine seq_cut (A := Unit) (fun _ => ([(1, .ptr 0 0), (2, .ptr 1 0), (32, bS ((decide ((0 : Int) < ((s.Line.length : Nat) : Int))) && (decide ((ix s.Line (0 : Int)).N ≤ s.Free))))], [(0, .row 24 (Enc.cells s)), (1, .row 29 [iS 0, iS 0])], 16)) (fun _ => True) (fun K902 hK902 => ?_) (fun _ _ => ?_)
        · refine reg_t ?_
          refine rs 5 [] [] (by kernel_rfl) allP_nil ?_
          refine run_split 23 (decide ((0 : Int) < ((s.Line.length : Nat) : Int))) (.inl (by kernel_rfl)) (fun g903 => ?_) (fun g903 => ?_)
          · have k904 : 0 ≤ (0 : Int) ∧ (0 : Int) < ((s.Line.length : Nat) : Int) := by have e := or_use g905 (by (try simp only [g903]) <;> rfl); first | simpa only [Bool.and_eq_true, decide_eq_true_eq, bne_iff_ne, ne_eq] using e | (simp at e ⊢; omega)
            refine rs 9 [none, none, some ⟨.iptr (fl s.Line) (((0 : Int)).toNat * 3), [], 9, []⟩, none, some ⟨iS (ix s.Line (0 : Int)).N, [], 11, []⟩] _ (by kernel_rfl) (allP_cons (ob_ld s.Line (0 : Int) 3 2 ((((0 : Int)).toNat * 3) + 2) k904 rfl (by decide) (by first | rfl | omega) (dflS Try.prog 3) (iS (ix s.Line (0 : Int)).N) rfl 11 []) (allP_cons (ob_ix_l s.Line 3 9 0 k904) allP_nil)) ?_
            refine rt [(1, .ptr 0 0), (2, .ptr 1 0), (32, bS (decide ((ix s.Line (0 : Int)).N ≤ s.Free)))] [(0, .row 24 (Enc.cells s)), (1, .row 29 [iS 0, iS 0])] 16 follows (by kernel_rfl) ?_
            exact hK902 () _ _ _ trivial (leSt_m [(0, 0), (1, 1)] [] (by (try simp only [g903]) <;> simp only [push_cast, seval]) (by (try simp only [g903]) <;> simp only [push_cast, seval]) rfl rfl rfl)
          · refine rs 9 [] [] (by kernel_rfl) allP_nil ?_
            refine rt [(1, .ptr 0 0), (2, .ptr 1 0), (32, bS false)] [(0, .row 24 (Enc.cells s)), (1, .row 29 [iS 0, iS 0])] 16 follows (by kernel_rfl) ?_
            exact hK902 () _ _ _ trivial (leSt_m [(0, 0), (1, 1)] [] (by (try simp only [g903]) <;> simp only [push_cast, seval]) (by (try simp only [g903]) <;> simp only [push_cast, seval]) rfl rfl rfl)
        · dsimp only
          refine cond_sx h (by kernel_rfl) (fun g1084 h => ?_) (fun g1084 h => ?_)
          · refine seq_np ?_
            refine reg_f ?_
            obtain ⟨r907, hr907, h⟩ := bind_sx h
            refine run_call 19 [iS 5, iS 0] (some 33) (by kernel_rfl) ?_
            refine call_0 (taskmillref_F_spec 5 0 r907 hr907) (by simp only [push_cast, seval]) (by simp only [push_cast, seval]) ?_
            refine back_f ?_
            refine rs 1 [] [] (by kernel_rfl) allP_nil ?_
            refine rf [(2, .ptr 1 0)] [(0, .row 24 (Enc.cells s)), (1, .row 29 (Enc.cells r907))] 16 (by kernel_rfl) ?_
            refine wk_id ?_
            obtain rfl := Option.some.inj h
            refine ret_at (.agg (Enc.cells r907)) (by kernel_rfl) ?_
            exact ret_e [] [] (by simp only [push_cast, seval]) (by simp only [push_cast, seval]) rfl rfl rfl
          · refine wk_id ?_
            refine seq_np ?_
            refine seq_np ?_
            refine reg_f ?_
            refine rs 1 [] [] (by kernel_rfl) allP_nil ?_
            refine rf [(1, .ptr 0 0), (2, .ptr 1 0), (3, iS 0)] [(0, .row 24 (Enc.cells s)), (1, .row 29 [iS 0, iS 0])] 16 (by kernel_rfl) ?_
            refine wk_id ?_
            refine block_np ?_
            refine loop_sx (S := Int) (fun a => ([(1, .ptr 0 0), (2, .ptr 1 0), (3, iS a)], [(0, .row 24 (Enc.cells s)), (1, .row 29 [iS 0, iS 0])], 2)) h (leSt_m [(0, 0), (1, 1)] [] (by simp only [push_cast, seval]) (by simp only [push_cast, seval]) rfl rfl rfl) ?_
            rintro i7 o2 R2 h hr2 hn2 hx2 ht2
            try dsimp only at h hn2 ⊢
            unfold taskmillref_SemaFault_l1 at h
            try dsimp only at h
            refine seq_np ?_
            refine seq_np ?_
            refine reg_f ?_
            refine rs 5 [] [] (by kernel_rfl) allP_nil ?_
            refine rf [(1, .ptr 0 0), (2, .ptr 1 0), (3, iS i7), (38, bS (decide (i7 < ((s.Line.length : Nat) : Int))))] [(0, .row 24 (Enc.cells s)), (1, .row 29 [iS 0, iS 0])] 2 (by kernel_rfl) ?_
            refine wk_id ?_
            refine cond_sx h (by kernel_rfl) (fun g1083 h => ?_) (fun g1083 h => ?_)
            · refine wk_id ?_
              refine seq_np ?_
              refine block_np ?_
              refine chk_sx h (fun g1053 h => ?_)
              refine seq_np ?_
              refine reg_f ?_
              have k1052 : 0 ≤ i7 ∧ i7 < ((s.Line.length : Nat) : Int) := by first | simpa only [Bool.and_eq_true, decide_eq_true_eq, bne_iff_ne, ne_eq] using g1053 | (simp at g1053 ⊢; omega)
              refine rs 7 [none, none, none, some ⟨.iptr (fl s.Line) ((i7).toNat * 3), [], 2, []⟩, some ⟨.agg (Enc.cells (ix s.Line i7)), [], 2, []⟩] _ (by kernel_rfl) (allP_cons (ob_ldw s.Line i7 3 ((i7).toNat * 3) k1052 rfl (by first | rfl | omega) [iS (ix s.Line i7).Task, bS (ix s.Line i7).Write, iS (ix s.Line i7).N] rfl 2 []) (allP_cons (ob_ix_l s.Line 3 2 i7 k1052) allP_nil)) ?_
              refine rf [(1, .ptr 0 0), (2, .ptr 1 0), (3, iS i7), (4, .ptr 2 0)] [(0, .row 24 (Enc.cells s)), (1, .row 29 [iS 0, iS 0]), (2, .row 42 (Enc.cells (ix s.Line i7)))] 3 (by kernel_rfl) ?_
              refine wk_id ?_
              refine seq_np ?_
              refine seq_cut (A := Unit) (fun _ => ([(1, .ptr 0 0), (2, .ptr 1 0), (3, iS i7), (4, .ptr 2 0), (58, bS ((decide ((ix s.Line i7).Task < 1)) || ((decide ((ix s.Line i7).N < 1)) || (decide ((1000000000 : Int) < (ix s.Line i7).N)))))], [(0, .row 24 (Enc.cells s)), (1, .row 29 [iS 0, iS 0]), (2, .row 42 (Enc.cells (ix s.Line i7)))], 3)) (fun _ => True) (fun K1060 hK1060 => ?_) (fun _ _ => ?_)
              · refine reg_f ?_
                refine rs 4 [] [] (by kernel_rfl) allP_nil ?_
                refine run_split 49 (decide ((ix s.Line i7).Task < 1)) (.inl (by kernel_rfl)) (fun g1061 => ?_) (fun g1061 => ?_)
                · refine rs 9 [] [] (by kernel_rfl) allP_nil ?_
                  refine rf [(1, .ptr 0 0), (2, .ptr 1 0), (3, iS i7), (4, .ptr 2 0), (58, bS true)] [(0, .row 24 (Enc.cells s)), (1, .row 29 [iS 0, iS 0]), (2, .row 42 (Enc.cells (ix s.Line i7)))] 3 (by kernel_rfl) ?_
                  exact hK1060 () _ _ _ trivial (leSt_m [(0, 0), (1, 1), (2, 2)] [] (by (try simp only [g1061]) <;> simp only [push_cast, seval]) (by (try simp only [g1061]) <;> simp only [push_cast, seval]) rfl rfl rfl)
                · refine rs 5 [] [] (by kernel_rfl) allP_nil ?_
                  refine run_split 54 (decide ((ix s.Line i7).N < 1)) (.inl (by kernel_rfl)) (fun g1062 => ?_) (fun g1062 => ?_)
                  · refine rs 4 [] [] (by kernel_rfl) allP_nil ?_
                    refine rf [(1, .ptr 0 0), (2, .ptr 1 0), (3, iS i7), (4, .ptr 2 0), (58, bS true)] [(0, .row 24 (Enc.cells s)), (1, .row 29 [iS 0, iS 0]), (2, .row 42 (Enc.cells (ix s.Line i7)))] 3 (by kernel_rfl) ?_
                    exact hK1060 () _ _ _ trivial (leSt_m [(0, 0), (1, 1), (2, 2)] [] (by (try simp only [g1061, g1062]) <;> simp only [push_cast, seval]) (by (try simp only [g1061, g1062]) <;> simp only [push_cast, seval]) rfl rfl rfl)
                  · refine rs 4 [] [] (by kernel_rfl) allP_nil ?_
                    refine rf [(1, .ptr 0 0), (2, .ptr 1 0), (3, iS i7), (4, .ptr 2 0), (58, bS (decide ((1000000000 : Int) < (ix s.Line i7).N)))] [(0, .row 24 (Enc.cells s)), (1, .row 29 [iS 0, iS 0]), (2, .row 42 (Enc.cells (ix s.Line i7)))] 3 (by kernel_rfl) ?_
                    exact hK1060 () _ _ _ trivial (leSt_m [(0, 0), (1, 1), (2, 2)] [] (by (try simp only [g1061, g1062]) <;> simp only [push_cast, seval]) (by (try simp only [g1061, g1062]) <;> simp only [push_cast, seval]) rfl rfl rfl)
              · dsimp only
                refine cond_sx h (by kernel_rfl) (fun g1082 h => ?_) (fun g1082 h => ?_)
                · refine seq_np ?_
                  refine reg_f ?_
                  refine rs 2 [] [] (by kernel_rfl) allP_nil ?_
                  obtain ⟨r1064, hr1064, h⟩ := bind_sx h
                  refine run_call 19 [iS 3, iS (IntKind.i64.wrap (i7 + 1))] (some 61) (by kernel_rfl) ?_
                  refine call_0 (taskmillref_F_spec 3 (IntKind.i64.wrap (i7 + 1)) r1064 hr1064) (by simp only [push_cast, seval]) (by simp only [push_cast, seval]) ?_
                  refine back_f ?_
                  refine rs 1 [] [] (by kernel_rfl) allP_nil ?_
                  refine rf [(2, .ptr 1 0)] [(0, .row 24 (Enc.cells s)), (1, .row 29 (Enc.cells r1064)), (2, .row 42 (Enc.cells (ix s.Line i7)))] 3 (by kernel_rfl) ?_
                  refine wk_id ?_
                  refine rt_cast ht2 ?_
                  obtain ⟨r0, h, e0⟩ := map_sx h
                  have e1 := hr2 r0 e0.symm
                  subst r0
                  obtain rfl := Option.some.inj h
                  refine ret_at (.agg (Enc.cells r1064)) (by kernel_rfl) ?_
                  exact ret_e [] [] (by simp only [push_cast, seval]) (by simp only [push_cast, seval]) rfl rfl rfl
                · refine wk_id ?_
                  refine seq_np ?_
                  refine chk_sx h (fun g1074 h => ?_)
                  refine seq_np ?_
                  refine reg_t ?_
                  have k1073 : 0 ≤ (0 : Int) ∧ (0 : Int) ≤ i7 ∧ i7 ≤ ((s.Line.length : Nat) : Int) := by first | simpa only [Bool.and_eq_true, decide_eq_true_eq, bne_iff_ne, ne_eq] using g1074 | (simp at g1074 ⊢; omega)
                  refine rs 6 [none, none, none, some ⟨.sl (cut s.Line (0 : Int) i7).length (fl (cut s.Line (0 : Int) i7)), [], 6, []⟩] _ (by kernel_rfl) (allP_cons (ob_cut s.Line (0 : Int) i7 3 6 rfl k1073) allP_nil) ?_
                  obtain ⟨r1075, hr1075, h⟩ := bind_sx h
                  refine run_call 20 [.sl (cut s.Line (0 : Int) i7).length (fl (cut s.Line (0 : Int) i7)), iS (ix s.Line i7).Task] (some 68) (by kernel_rfl) ?_
                  refine callE_0 (taskmillref_InLine_spec (cut s.Line (0 : Int) i7) (ix s.Line i7).Task r1075 hr1075) (by simp only [push_cast, seval]) (by simp only [push_cast, seval]) ?_
                  refine back_t ?_
                  refine rs 1 [] [] (by kernel_rfl) allP_nil ?_
                  refine rt [(1, .ptr 0 0), (2, .ptr 1 0), (3, iS i7), (4, .ptr 2 0), (69, bS (decide ((0 : Int) ≤ r1075)))] [(0, .row 24 (Enc.cells s)), (1, .row 29 [iS 0, iS 0]), (2, .row 42 (Enc.cells (ix s.Line i7)))] 11 follows (by kernel_rfl) ?_
                  refine wk_id ?_
                  refine cond_sx h (by kernel_rfl) (fun g1081 h => ?_) (fun g1081 h => ?_)
                  · refine seq_np ?_
                    refine reg_f ?_
                    refine rs 2 [] [] (by kernel_rfl) allP_nil ?_
                    obtain ⟨r1077, hr1077, h⟩ := bind_sx h
                    refine run_call 19 [iS 10, iS (IntKind.i64.wrap (i7 + 1))] (some 72) (by kernel_rfl) ?_
                    refine call_0 (taskmillref_F_spec 10 (IntKind.i64.wrap (i7 + 1)) r1077 hr1077) (by simp only [push_cast, seval]) (by simp only [push_cast, seval]) ?_
                    refine back_f ?_
                    refine rs 1 [] [] (by kernel_rfl) allP_nil ?_
                    refine rf [(2, .ptr 1 0)] [(0, .row 24 (Enc.cells s)), (1, .row 29 (Enc.cells r1077)), (2, .row 42 (Enc.cells (ix s.Line i7)))] 11 (by kernel_rfl) ?_
                    refine wk_id ?_
                    refine rt_cast ht2 ?_
                    obtain ⟨r0, h, e0⟩ := map_sx h
                    have e1 := hr2 r0 e0.symm
                    subst r0
                    obtain rfl := Option.some.inj h
                    refine ret_at (.agg (Enc.cells r1077)) (by kernel_rfl) ?_
                    exact ret_e [] [] (by simp only [push_cast, seval]) (by simp only [push_cast, seval]) rfl rfl rfl
                  · refine wk_id ?_
                    refine seq_np ?_
                    refine reg_f ?_
                    refine rs 2 [] [] (by kernel_rfl) allP_nil ?_
                    refine rf [(1, .ptr 0 0), (2, .ptr 1 0), (3, iS i7), (74, bS (ix s.Line i7).Write)] [(0, .row 24 (Enc.cells s)), (1, .row 29 [iS 0, iS 0]), (2, .row 42 (Enc.cells (ix s.Line i7)))] 11 (by kernel_rfl) ?_
                    refine wk_id ?_
                    refine cond_sx h (by kernel_rfl) (fun g1080 h => ?_) (fun g1080 h => ?_)
                    · refine seq_np ?_
                      refine reg_f ?_
                      refine rs 2 [] [] (by kernel_rfl) allP_nil ?_
                      obtain ⟨r1079, hr1079, h⟩ := bind_sx h
                      refine run_call 19 [iS 5, iS (IntKind.i64.wrap (i7 + 1))] (some 77) (by kernel_rfl) ?_
                      refine call_0 (taskmillref_F_spec 5 (IntKind.i64.wrap (i7 + 1)) r1079 hr1079) (by simp only [push_cast, seval]) (by simp only [push_cast, seval]) ?_
                      refine back_f ?_
                      refine rs 1 [] [] (by kernel_rfl) allP_nil ?_
                      refine rf [(2, .ptr 1 0)] [(0, .row 24 (Enc.cells s)), (1, .row 29 (Enc.cells r1079)), (2, .row 42 (Enc.cells (ix s.Line i7)))] 11 (by kernel_rfl) ?_
                      refine wk_id ?_
                      refine rt_cast ht2 ?_
                      obtain ⟨r0, h, e0⟩ := map_sx h
                      have e1 := hr2 r0 e0.symm
                      subst r0
                      obtain rfl := Option.some.inj h
                      refine ret_at (.agg (Enc.cells r1079)) (by kernel_rfl) ?_
                      exact ret_e [] [] (by simp only [push_cast, seval]) (by simp only [push_cast, seval]) rfl rfl rfl
                    · refine wk_id ?_
                      refine wk_id ?_
                      refine reg_f ?_
                      refine rs 3 [] [] (by kernel_rfl) allP_nil ?_
                      refine rf [(1, .ptr 0 0), (2, .ptr 1 0), (3, iS (IntKind.i64.wrap (i7 + 1)))] [(0, .row 24 (Enc.cells s)), (1, .row 29 [iS 0, iS 0]), (2, .row 42 (Enc.cells (ix s.Line i7)))] 11 (by kernel_rfl) ?_
                      exact hn2 ((IntKind.i64.wrap (i7 + 1))) _ _ _ (Option.some.inj h).symm (leSt_m [(0, 0), (1, 1)] [] (by simp only [push_cast, seval]) (by simp only [push_cast, seval]) rfl rfl rfl)
            · refine ex_cast hx2 (id := 0) ?_
              obtain ⟨r0, h, e0⟩ := map_sx h
              have e1 := hr2 r0 e0.symm
              subst r0
              refine wk_id ?_
              refine wk_id ?_
              refine seq_np ?_
              refine reg_f ?_
              refine rs 2 [] [] (by kernel_rfl) allP_nil ?_
              refine rf [(2, .ptr 1 0)] [(0, .row 24 (Enc.cells s)), (1, .row 29 [iS 0, iS 0])] 2 (by kernel_rfl) ?_
              refine wk_id ?_
              obtain rfl := Option.some.inj h
              refine ret_at (.agg [iS 0, iS 0]) (by kernel_rfl) ?_
              exact ret_e [] [] (by simp only [push_cast, seval]) (by simp only [push_cast, seval]) rfl rfl rfl

set_option maxRecDepth 100000 in
set_option maxHeartbeats 10000000 in
theorem taskmillref_SameWants_spec (xa : (List Want)) (b : (List Want)) (r : Bool) (h : taskmillref_SameWants xa b = some r) : SpecW Try.prog 44 [.sl xa.length (fl xa), .sl b.length (fl b)] [] 0 (fun x h n => x = bS r ∧ h = [] ∧ n = 0) := by
  unfold taskmillref_SameWants at h
  refine spec_of (draw_ok _) Try.func44 rfl (by decide) rfl (by kernel_rfl) ?_
  refine seq_np ?_
  refine reg_f ?_
  refine rs 1 [] [] (by kernel_rfl) allP_nil ?_
  refine rf [(0, .sl xa.length (fl xa)), (1, .sl b.length (fl b))] [] 0 (by kernel_rfl) ?_
  refine wk_id ?_
  refine seq_np ?_
  refine seq_np ?_
  refine reg_f ?_
  refine rs 5 [] [] (by kernel_rfl) allP_nil ?_
  refine rf [(0, .sl xa.length (fl xa)), (1, .sl b.length (fl b)), (10, bS (((xa.length : Nat) : Int) != ((b.length : Nat) : Int)))] [] 0 (by kernel_rfl) ?_
  refine wk_id ?_
  refine cond_sx h (by kernel_rfl) (fun g1182 h => ?_) (fun g1182 h => ?_)
  · refine seq_np ?_
    refine reg_f ?_
    refine rs 1 [] [] (by kernel_rfl) allP_nil ?_
    refine rf [(4, bS false)] [] 0 (by kernel_rfl) ?_
    refine wk_id ?_
    obtain rfl := Option.some.inj h
    refine ret_at (bS false) (by kernel_rfl) ?_
    exact ret_e [] [] (by simp only [push_cast, seval]) (by simp only [push_cast, seval]) rfl rfl rfl
  · refine wk_id ?_
    refine seq_np ?_
    refine seq_np ?_
    refine reg_f ?_
    refine rs 1 [] [] (by kernel_rfl) allP_nil ?_
    refine rf [(0, .sl xa.length (fl xa)), (1, .sl b.length (fl b)), (5, iS 0)] [] 0 (by kernel_rfl) ?_
    refine wk_id ?_
    refine block_np ?_
    refine loop_sx (S := Int) (fun a => ([(0, .sl xa.length (fl xa)), (1, .sl b.length (fl b)), (5, iS a)], [], 0)) h (leSt_m [] [] (by simp only [push_cast, seval]) (by simp only [push_cast, seval]) rfl rfl rfl) ?_
    rintro i7 o2 R2 h hr2 hn2 hx2 ht2
    try dsimp only at h hn2 ⊢
    unfold taskmillref_SameWants_l1 at h
    try dsimp only at h
    refine seq_np ?_
    refine seq_np ?_
    refine reg_f ?_
    refine rs 4 [] [] (by kernel_rfl) allP_nil ?_
    refine rf [(0, .sl xa.length (fl xa)), (1, .sl b.length (fl b)), (5, iS i7), (14, bS (decide (i7 < ((xa.length : Nat) : Int))))] [] 0 (by kernel_rfl) ?_
    refine wk_id ?_
    refine cond_sx h (by kernel_rfl) (fun g1181 h => ?_) (fun g1181 h => ?_)
    · refine wk_id ?_
      refine seq_np ?_
      refine block_np ?_
      refine chk_sx h (fun g1177 h => ?_)
      refine chk_sx h (fun g1179 h => ?_)
      refine seq_np ?_
      refine reg_t ?_
      have k1176 : 0 ≤ i7 ∧ i7 < ((xa.length : Nat) : Int) := by first | simpa only [Bool.and_eq_true, decide_eq_true_eq, bne_iff_ne, ne_eq] using g1177 | (simp at g1177 ⊢; omega)
      have k1178 : 0 ≤ i7 ∧ i7 < ((b.length : Nat) : Int) := by first | simpa only [Bool.and_eq_true, decide_eq_true_eq, bne_iff_ne, ne_eq] using g1179 | (simp at g1179 ⊢; omega)
      refine rs 9 [none, none, some ⟨.iptr (fl xa) ((i7).toNat * 3), [], 2, []⟩, some ⟨.agg (Enc.cells (ix xa i7)), [], 3, []⟩, none, none, some ⟨.iptr (fl b) ((i7).toNat * 3), [], 6, []⟩, some ⟨.agg (Enc.cells (ix b i7)), [], 7, []⟩] _ (by kernel_rfl) (allP_cons (ob_ldw b i7 3 ((i7).toNat * 3) k1178 rfl (by first | rfl | omega) [iS (ix b i7).Task, bS (ix b i7).Write, iS (ix b i7).N] rfl 7 []) (allP_cons (ob_ix_l b 3 6 i7 k1178) (allP_cons (ob_ldw xa i7 3 ((i7).toNat * 3) k1176 rfl (by first | rfl | omega) [iS (ix xa i7).Task, bS (ix xa i7).Write, iS (ix xa i7).N] rfl 3 []) (allP_cons (ob_ix_l xa 3 2 i7 k1176) allP_nil)))) ?_
      refine rt [(0, .sl xa.length (fl xa)), (1, .sl b.length (fl b)), (5, iS i7), (25, bS (!(((ix xa i7).Task == (ix b i7).Task) && (((ix xa i7).Write == (ix b i7).Write) && (((ix xa i7).N == (ix b i7).N) && true)))))] [] 9 follows (by kernel_rfl) ?_
      refine wk_id ?_
      refine cond_sx h (by kernel_rfl) (fun g1180 h => ?_) (fun g1180 h => ?_)
      · refine seq_np ?_
        refine reg_f ?_
        refine rs 1 [] [] (by kernel_rfl) allP_nil ?_
        refine rf [(4, bS false)] [] 9 (by kernel_rfl) ?_
        refine wk_id ?_
        refine rt_cast ht2 ?_
        obtain ⟨r0, h, e0⟩ := map_sx h
        have e1 := hr2 r0 e0.symm
        subst r0
        obtain rfl := Option.some.inj h
        refine ret_at (bS false) (by kernel_rfl) ?_
        exact ret_e [] [] (by simp only [push_cast, seval]) (by simp only [push_cast, seval]) rfl rfl rfl
      · refine wk_id ?_
        refine wk_id ?_
        refine reg_f ?_
        refine rs 3 [] [] (by kernel_rfl) allP_nil ?_
        refine rf [(0, .sl xa.length (fl xa)), (1, .sl b.length (fl b)), (5, iS (IntKind.i64.wrap (i7 + 1)))] [] 9 (by kernel_rfl) ?_
        exact hn2 ((IntKind.i64.wrap (i7 + 1))) _ _ _ (Option.some.inj h).symm (leSt_m [] [] (by simp only [push_cast, seval]) (by simp only [push_cast, seval]) rfl rfl rfl)
    · refine ex_cast hx2 (id := 0) ?_
      obtain ⟨r0, h, e0⟩ := map_sx h
      have e1 := hr2 r0 e0.symm
      subst r0
      refine wk_id ?_
      refine wk_id ?_
      refine seq_np ?_
      refine reg_f ?_
      refine rs 1 [] [] (by kernel_rfl) allP_nil ?_
      refine rf [(4, bS true)] [] 0 (by kernel_rfl) ?_
      refine wk_id ?_
      obtain rfl := Option.some.inj h
      refine ret_at (bS true) (by kernel_rfl) ?_
      exact ret_e [] [] (by simp only [push_cast, seval]) (by simp only [push_cast, seval]) rfl rfl rfl

set_option maxRecDepth 100000 in
set_option maxHeartbeats 10000000 in
theorem taskmilllaw_sameSema_spec (xa : Sema) (b : Sema) (r : Bool) (h : taskmilllaw_sameSema xa b = some r) : SpecW Try.prog 18 [.agg (Enc.cells xa), .agg (Enc.cells b)] [] 0 (fun x h n => x = bS r ∧ h = [] ∧ n = 0) := by
  unfold taskmilllaw_sameSema at h
  refine spec_of (draw_ok _) Try.func18 rfl (by decide) rfl (by kernel_rfl) ?_
  refine seq_np ?_
  refine reg_f ?_
  refine rs 3 [] [] (by kernel_rfl) allP_nil ?_
  refine rf [(2, .ptr 0 0), (3, .ptr 1 0)] [(0, .row 24 (Enc.cells xa)), (1, .row 24 (Enc.cells b))] 2 (by kernel_rfl) ?_
  refine wk_id ?_
  refine seq_cut (A := Bool) (fun a => ([(4, bS a)], [], 0)) (fun a => (taskmilllaw_sameSema_j1 a) = some r) (fun K1189 hK1189 => ?_) ?_
  · refine reg_f ?_
    refine rs 6 [] [] (by kernel_rfl) allP_nil ?_
    refine run_br h 10 (.inl (by kernel_rfl)) (fun g1190 h => ?_) (fun g1190 h => ?_)
    · refine rs 4 [] [] (by kernel_rfl) allP_nil ?_
      obtain ⟨r1191, hr1191, h⟩ := bind_sx h
      refine run_call 44 [.sl xa.Line.length (fl xa.Line), .sl b.Line.length (fl b.Line)] (some 15) (by kernel_rfl) ?_
      refine call_0 (taskmillref_SameWants_spec xa.Line b.Line r1191 hr1191) (by simp only [push_cast, seval]) (by simp only [push_cast, seval]) ?_
      refine back_f ?_
      refine rs 2 [] [] (by kernel_rfl) allP_nil ?_
      refine rf [(4, bS r1191)] [(0, .row 24 (Enc.cells xa)), (1, .row 24 (Enc.cells b))] 2 (by kernel_rfl) ?_
      exact hK1189 (r1191) _ _ _ h (leSt_m [] [] (by (try simp only [g1190]) <;> simp only [push_cast, seval]) (by (try simp only [g1190]) <;> simp only [push_cast, seval]) rfl rfl rfl)
    · refine rs 7 [] [] (by kernel_rfl) allP_nil ?_
      refine rf [(4, bS false)] [(0, .row 24 (Enc.cells xa)), (1, .row 24 (Enc.cells b))] 2 (by kernel_rfl) ?_
      exact hK1189 (false) _ _ _ h (leSt_m [] [] (by (try simp only [g1190]) <;> simp only [push_cast, seval]) (by (try simp only [g1190]) <;> simp only [push_cast, seval]) rfl rfl rfl)
  · rintro t4q1 h
    try dsimp only at h ⊢
    unfold taskmilllaw_sameSema_j1 at h
    obtain rfl := Option.some.inj h
    refine ret_at (bS t4q1) (by kernel_rfl) ?_
    exact ret_e [] [] (by simp only [push_cast, seval]) (by simp only [push_cast, seval]) rfl rfl rfl

set_option maxRecDepth 100000 in
set_option maxHeartbeats 10000000 in
theorem taskmillref_Given_spec (s : Sema) (r : Sema × (List Int)) (h : taskmillref_Given s = some r) : SpecW Try.prog 21 [.agg (Enc.cells s)] [] 0 (fun x h n => x = .tup [.agg (Enc.cells r.1), .own 0 0 r.2.length] ∧ h = [(0, .row 3 (fl r.2))] ∧ n = 1) := by
  unfold taskmillref_Given at h
  refine spec_of (draw_ok _) Try.func21 rfl (by decide) rfl (by kernel_rfl) ?_
  refine seq_np ?_
  refine reg_f ?_
  refine rs 3 [] [] (by kernel_rfl) allP_nil ?_
  refine rf [(1, .ptr 0 0), (2, .ptr 1 0)] [(0, .row 24 (Enc.cells s)), (1, .row 24 [iS 0, .v (.slice none 0 0)])] 2 (by kernel_rfl) ?_
  refine wk_id ?_
  refine seq_np ?_
  refine reg_f ?_
  refine rs 1 [] [] (by kernel_rfl) allP_nil ?_
  refine rf [(1, .ptr 0 0), (2, .ptr 1 0), (4, .v (.slice none 0 0))] [(0, .row 24 (Enc.cells s)), (1, .row 24 [iS 0, .v (.slice none 0 0)])] 2 (by kernel_rfl) ?_
  refine wk_id ?_
  refine seq_np ?_
  refine block_np ?_
  refine loop_sx (S := Sema × (List Int)) (fun a => ([(1, .ptr 0 0), (2, .ptr 1 0), (4, .own 2 0 a.2.length)], [(0, .row 24 (Enc.cells a.1)), (1, .row 24 [iS 0, .v (.slice none 0 0)]), (2, .row 3 (fl a.2))], 3)) h (leSt_m [(0, 0), (1, 1)] [] (by simp only [push_cast, seval]) (by simp only [push_cast, seval]) rfl rfl rfl) ?_
  rintro ⟨c0q8, c2q7⟩ o2 R2 h hr2 hn2 hx2 ht2
  try dsimp only at h hn2 ⊢
  unfold taskmillref_Given_l1 at h
  try dsimp only at h
  refine seq_np ?_
  refine chk_sx h (fun g1369 h => ?_)
  refine seq_cut (A := Unit) (fun _ => ([(1, .ptr 0 0), (2, .ptr 1 0), (4, .own 2 0 c2q7.length), (18, bS ((decide ((0 : Int) < ((c0q8.Line.length : Nat) : Int))) && (decide ((ix c0q8.Line (0 : Int)).N ≤ c0q8.Free))))], [(0, .row 24 (Enc.cells c0q8)), (1, .row 24 [iS 0, .v (.slice none 0 0)]), (2, .row 3 (fl c2q7))], 17)) (fun _ => True) (fun K1366 hK1366 => ?_) (fun _ _ => ?_)
  · refine reg_t ?_
    refine rs 5 [] [] (by kernel_rfl) allP_nil ?_
    refine run_split 9 (decide ((0 : Int) < ((c0q8.Line.length : Nat) : Int))) (.inl (by kernel_rfl)) (fun g1367 => ?_) (fun g1367 => ?_)
    · have k1368 : 0 ≤ (0 : Int) ∧ (0 : Int) < ((c0q8.Line.length : Nat) : Int) := by have e := or_use g1369 (by (try simp only [g1367]) <;> rfl); first | simpa only [Bool.and_eq_true, decide_eq_true_eq, bne_iff_ne, ne_eq] using e | (simp at e ⊢; omega)
      refine rs 9 [none, none, none, none, some ⟨.iptr (fl c0q8.Line) (((0 : Int)).toNat * 3), [], 12, []⟩, none, some ⟨iS (ix c0q8.Line (0 : Int)).N, [], 14, []⟩] _ (by kernel_rfl) (allP_cons (ob_ld c0q8.Line (0 : Int) 3 2 ((((0 : Int)).toNat * 3) + 2) k1368 rfl (by decide) (by first | rfl | omega) (dflS Try.prog 3) (iS (ix c0q8.Line (0 : Int)).N) rfl 14 []) (allP_cons (ob_ix_l c0q8.Line 3 12 0 k1368) allP_nil)) ?_
      refine rt [(1, .ptr 0 0), (2, .ptr 1 0), (4, .own 2 0 c2q7.length), (18, bS (decide ((ix c0q8.Line (0 : Int)).N ≤ c0q8.Free)))] [(0, .row 24 (Enc.cells c0q8)), (1, .row 24 [iS 0, .v (.slice none 0 0)]), (2, .row 3 (fl c2q7))] 17 follows (by kernel_rfl) ?_
      exact hK1366 () _ _ _ trivial (leSt_m [(0, 0), (1, 1), (2, 2)] [] (by (try simp only [g1367]) <;> simp only [push_cast, seval]) (by (try simp only [g1367]) <;> simp only [push_cast, seval]) rfl rfl rfl)
    · refine rs 9 [] [] (by kernel_rfl) allP_nil ?_
      refine rt [(1, .ptr 0 0), (2, .ptr 1 0), (4, .own 2 0 c2q7.length), (18, bS false)] [(0, .row 24 (Enc.cells c0q8)), (1, .row 24 [iS 0, .v (.slice none 0 0)]), (2, .row 3 (fl c2q7))] 17 follows (by kernel_rfl) ?_
      exact hK1366 () _ _ _ trivial (leSt_m [(0, 0), (1, 1), (2, 2)] [] (by (try simp only [g1367]) <;> simp only [push_cast, seval]) (by (try simp only [g1367]) <;> simp only [push_cast, seval]) rfl rfl rfl)
  · dsimp only
    refine cond_sx h (by kernel_rfl) (fun g1386 h => ?_) (fun g1386 h => ?_)
    · refine wk_id ?_
      refine block_np ?_
      refine chk_sx h (fun g1375 h => ?_)
      refine chk_sx h (fun g1377 h => ?_)
      refine seq_np ?_
      refine reg_f ?_
      have k1374 : 0 ≤ (0 : Int) ∧ (0 : Int) < ((c0q8.Line.length : Nat) : Int) := by first | simpa only [Bool.and_eq_true, decide_eq_true_eq, bne_iff_ne, ne_eq] using g1375 | (simp at g1375 ⊢; omega)
      have k1376 : (c2q7 ++ ([(ix c0q8.Line (0 : Int)).Task] : List Int)).length * 8 ≤ 140737488355328 := by first | simpa only [Bool.and_eq_true, decide_eq_true_eq, bne_iff_ne, ne_eq] using g1377 | (simp at g1377 ⊢; omega)
      refine rs 9 [none, none, none, some ⟨.iptr (fl c0q8.Line) (((0 : Int)).toNat * 3), [], 17, []⟩, none, some ⟨iS (ix c0q8.Line (0 : Int)).Task, [], 17, []⟩, none, some ⟨.own 18 0 (c2q7 ++ ([(ix c0q8.Line (0 : Int)).Task] : List Int)).length, [(18, .row 3 (fl (c2q7 ++ ([(ix c0q8.Line (0 : Int)).Task] : List Int)))), (2, .dead)], 19, [2, 17]⟩] _ (by kernel_rfl) (allP_cons (ob_app (P := Try.prog) c2q7 ([(ix c0q8.Line (0 : Int)).Task] : List Int) 1 8 rfl (appCells (fl ([(ix c0q8.Line (0 : Int)).Task] : List Int)) 0 (([(ix c0q8.Line (0 : Int)).Task] : List Int).length * 1)) ([(ix c0q8.Line (0 : Int)).Task] : List Int).length (app_own ([(ix c0q8.Line (0 : Int)).Task] : List Int) 1 rfl) rfl (0 + ([(ix c0q8.Line (0 : Int)).Task] : List Int).length * 1 ≤ (fl ([(ix c0q8.Line (0 : Int)).Task] : List Int)).length) (app_own_le ([(ix c0q8.Line (0 : Int)).Task] : List Int) 1 rfl) 3 (by kernel_rfl) (by decide) k1376 2 18 [17]) (allP_cons (ob_ld c0q8.Line (0 : Int) 3 0 ((((0 : Int)).toNat * 3) + 0) k1374 rfl (by decide) (by first | rfl | omega) (dflS Try.prog 3) (iS (ix c0q8.Line (0 : Int)).Task) rfl 17 []) (allP_cons (ob_ix_l c0q8.Line 3 17 0 k1374) allP_nil))) ?_
      refine rf [(1, .ptr 0 0), (2, .ptr 1 0), (4, .own 18 0 (c2q7 ++ ([(ix c0q8.Line (0 : Int)).Task] : List Int)).length)] [(0, .row 24 (Enc.cells c0q8)), (1, .row 24 [iS 0, .v (.slice none 0 0)]), (2, .dead), (17, .row 3 (fl ([(ix c0q8.Line (0 : Int)).Task] : List Int))), (18, .row 3 (fl (c2q7 ++ ([(ix c0q8.Line (0 : Int)).Task] : List Int))))] 19 (by kernel_rfl) ?_
      refine wk_id ?_
      refine chk_sx h (fun g1381 h => ?_)
      refine seq_np ?_
      refine reg_t ?_
      have k1380 : 0 ≤ (0 : Int) ∧ (0 : Int) < ((c0q8.Line.length : Nat) : Int) := by first | simpa only [Bool.and_eq_true, decide_eq_true_eq, bne_iff_ne, ne_eq] using g1381 | (simp at g1381 ⊢; omega)
      refine rs 10 [none, none, none, none, some ⟨.iptr (fl c0q8.Line) (((0 : Int)).toNat * 3), [], 23, []⟩, none, some ⟨iS (ix c0q8.Line (0 : Int)).N, [], 25, []⟩] _ (by kernel_rfl) (allP_cons (ob_ld c0q8.Line (0 : Int) 3 2 ((((0 : Int)).toNat * 3) + 2) k1380 rfl (by decide) (by first | rfl | omega) (dflS Try.prog 3) (iS (ix c0q8.Line (0 : Int)).N) rfl 25 []) (allP_cons (ob_ix_l c0q8.Line 3 23 0 k1380) allP_nil)) ?_
      refine rt [(1, .ptr 0 0), (2, .ptr 1 0), (4, .own 18 0 (c2q7 ++ ([(ix c0q8.Line (0 : Int)).Task] : List Int)).length)] [(0, .row 24 [iS (IntKind.i64.wrap (c0q8.Free - (ix c0q8.Line (0 : Int)).N)), .sl c0q8.Line.length (fl c0q8.Line)]), (1, .row 24 [iS 0, .v (.slice none 0 0)]), (2, .dead), (17, .row 3 (fl ([(ix c0q8.Line (0 : Int)).Task] : List Int))), (18, .row 3 (fl (c2q7 ++ ([(ix c0q8.Line (0 : Int)).Task] : List Int))))] 29 follows (by kernel_rfl) ?_
      refine wk_id ?_
      refine chk_sx h (fun g1385 h => ?_)
      refine reg_f ?_
      have k1384 : 0 ≤ (1 : Int) ∧ (1 : Int) ≤ ((c0q8.Line.length : Nat) : Int) ∧ ((c0q8.Line.length : Nat) : Int) ≤ ((c0q8.Line.length : Nat) : Int) := by first | simpa only [Bool.and_eq_true, decide_eq_true_eq, bne_iff_ne, ne_eq] using g1385 | (simp at g1385 ⊢; omega)
      refine rs 5 [none, none, some ⟨.sl (cut c0q8.Line (1 : Int) ((c0q8.Line.length : Nat) : Int)).length (fl (cut c0q8.Line (1 : Int) ((c0q8.Line.length : Nat) : Int))), [], 29, []⟩] _ (by kernel_rfl) (allP_cons (ob_cut c0q8.Line (1 : Int) ((c0q8.Line.length : Nat) : Int) 3 29 rfl k1384) allP_nil) ?_
      refine rf [(1, .ptr 0 0), (2, .ptr 1 0), (4, .own 18 0 (c2q7 ++ ([(ix c0q8.Line (0 : Int)).Task] : List Int)).length)] [(0, .row 24 [iS (IntKind.i64.wrap (c0q8.Free - (ix c0q8.Line (0 : Int)).N)), .sl (cut c0q8.Line (1 : Int) ((c0q8.Line.length : Nat) : Int)).length (fl (cut c0q8.Line (1 : Int) ((c0q8.Line.length : Nat) : Int)))]), (1, .row 24 [iS 0, .v (.slice none 0 0)]), (2, .dead), (17, .row 3 (fl ([(ix c0q8.Line (0 : Int)).Task] : List Int))), (18, .row 3 (fl (c2q7 ++ ([(ix c0q8.Line (0 : Int)).Task] : List Int))))] 29 (by kernel_rfl) ?_
      refine wk_id ?_
      exact hn2 ((Sema.mk (IntKind.i64.wrap (c0q8.Free - (ix c0q8.Line (0 : Int)).N)) (cut c0q8.Line (1 : Int) ((c0q8.Line.length : Nat) : Int))), (c2q7 ++ ([(ix c0q8.Line (0 : Int)).Task] : List Int))) _ _ _ (Option.some.inj h).symm (leSt_m [(0, 0), (1, 1), (2, 18)] [] (by simp only [push_cast, seval]) (by simp only [push_cast, seval]) rfl rfl rfl)
    · refine ex_cast hx2 (id := 0) ?_
      obtain ⟨r0, h, e0⟩ := map_sx h
      have e1 := hr2 r0 e0.symm
      subst r0
      refine wk_id ?_
      refine wk_id ?_
      refine seq_np ?_
      refine reg_f ?_
      refine rs 4 [] [] (by kernel_rfl) allP_nil ?_
      refine rf [(2, .ptr 1 0), (3, .own 2 0 c2q7.length)] [(0, .row 24 (Enc.cells c0q8)), (1, .row 24 (Enc.cells c0q8)), (2, .row 3 (fl c2q7))] 17 (by kernel_rfl) ?_
      refine wk_id ?_
      obtain rfl := Option.some.inj h
      refine ret_at (.tup [.agg (Enc.cells c0q8), .own 2 0 c2q7.length]) (by kernel_rfl) ?_
      exact ret_e [(0, 2)] [] (by simp only [push_cast, seval]) (by simp only [push_cast, seval]) rfl rfl rfl

set_option maxRecDepth 100000 in
set_option maxHeartbeats 10000000 in
theorem taskmillref_Given_1_spec (s_Free : Int) (c0 : (List Want)) (r : Int × (List Want) × (List Int)) (h : taskmillref_Given_1 s_Free c0 = some r) : SpecW Try.prog 21 [.agg [iS s_Free, .own 0 0 c0.length]] [(0, .row 42 (fl c0))] 1 (fun x h n => x = .tup [.agg [iS r.1, .own 1 0 r.2.1.length], .own 2 0 r.2.2.length] ∧ h = [(0, .dead), (1, .row 42 (fl r.2.1)), (2, .row 3 (fl r.2.2))] ∧ n = 3) := by
  unfold taskmillref_Given_1 at h
  refine spec_of (draw_ok _) Try.func21 rfl (by decide) rfl (by kernel_rfl) ?_
  refine seq_np ?_
  refine reg_f ?_
  refine rs 3 [] [] (by kernel_rfl) allP_nil ?_
  refine rf [(1, .ptr 1 0), (2, .ptr 2 0)] [(0, .row 42 (fl c0)), (1, .row 24 [iS s_Free, .own 0 0 c0.length]), (2, .row 24 [iS 0, .v (.slice none 0 0)])] 3 (by kernel_rfl) ?_
  refine wk_id ?_
  refine seq_np ?_
  refine reg_f ?_
  refine rs 1 [] [] (by kernel_rfl) allP_nil ?_
  refine rf [(1, .ptr 1 0), (2, .ptr 2 0), (4, .v (.slice none 0 0))] [(0, .row 42 (fl c0)), (1, .row 24 [iS s_Free, .own 0 0 c0.length]), (2, .row 24 [iS 0, .v (.slice none 0 0)])] 3 (by kernel_rfl) ?_
  refine wk_id ?_
  refine seq_np ?_
  refine block_np ?_
  refine loop_sx (S := Int × (List Int) × (List Want)) (fun a => ([(1, .ptr 1 0), (2, .ptr 2 0), (4, .own 3 0 a.2.1.length)], [(0, .dead), (1, .row 24 [iS a.1, .own 4 0 a.2.2.length]), (2, .row 24 [iS 0, .v (.slice none 0 0)]), (3, .row 3 (fl a.2.1)), (4, .row 42 (fl a.2.2))], 5)) h (leSt_m [(1, 1), (2, 2), (4, 0)] [] (by simp only [push_cast, seval]) (by simp only [push_cast, seval]) rfl rfl rfl) ?_
  rintro ⟨c1_Free7, c3q7, c4q7⟩ o2 R2 h hr2 hn2 hx2 ht2
  try dsimp only at h hn2 ⊢
  unfold taskmillref_Given_1_l1 at h
  try dsimp only at h
  refine seq_np ?_
  refine chk_sx h (fun g1533 h => ?_)
  refine seq_cut (A := Unit) (fun _ => ([(1, .ptr 1 0), (2, .ptr 2 0), (4, .own 3 0 c3q7.length), (18, bS ((decide ((0 : Int) < ((c4q7.length : Nat) : Int))) && (decide ((ix c4q7 (0 : Int)).N ≤ c1_Free7))))], [(1, .row 24 [iS c1_Free7, .own 4 0 c4q7.length]), (2, .row 24 [iS 0, .v (.slice none 0 0)]), (3, .row 3 (fl c3q7)), (4, .row 42 (fl c4q7))], 19)) (fun _ => True) (fun K1530 hK1530 => ?_) (fun _ _ => ?_)
  · refine reg_t ?_
    refine rs 5 [] [] (by kernel_rfl) allP_nil ?_
    refine run_split 9 (decide ((0 : Int) < ((c4q7.length : Nat) : Int))) (.inl (by kernel_rfl)) (fun g1531 => ?_) (fun g1531 => ?_)
    · have k1532 : 0 ≤ (0 : Int) ∧ (0 : Int) < ((c4q7.length : Nat) : Int) := by have e := or_use g1533 (by (try simp only [g1531]) <;> rfl); first | simpa only [Bool.and_eq_true, decide_eq_true_eq, bne_iff_ne, ne_eq] using e | (simp at e ⊢; omega)
      refine rs 9 [none, none, none, none, some ⟨.ptr 4 (0 + ((0 : Int)).toNat * 3), [], 14, [4]⟩, none, some ⟨iS (ix c4q7 (0 : Int)).N, [], 16, [4]⟩] _ (by kernel_rfl) (allP_cons (ob_ld c4q7 (0 : Int) 3 2 ((0 + ((0 : Int)).toNat * 3) + 2) k1532 rfl (by decide) (by first | rfl | omega) (dflS Try.prog 3) (iS (ix c4q7 (0 : Int)).N) rfl 16 [4]) (allP_cons (ob_ix_o 4 c4q7.length 0 3 14 0 k1532) allP_nil)) ?_
      refine rt [(1, .ptr 1 0), (2, .ptr 2 0), (4, .own 3 0 c3q7.length), (18, bS (decide ((ix c4q7 (0 : Int)).N ≤ c1_Free7)))] [(0, .dead), (1, .row 24 [iS c1_Free7, .own 4 0 c4q7.length]), (2, .row 24 [iS 0, .v (.slice none 0 0)]), (3, .row 3 (fl c3q7)), (4, .row 42 (fl c4q7))] 19 follows (by kernel_rfl) ?_
      exact hK1530 () _ _ _ trivial (leSt_m [(1, 1), (2, 2), (3, 3), (4, 4)] [] (by (try simp only [g1531]) <;> simp only [push_cast, seval]) (by (try simp only [g1531]) <;> simp only [push_cast, seval]) rfl rfl rfl)
    · refine rs 9 [] [] (by kernel_rfl) allP_nil ?_
      refine rt [(1, .ptr 1 0), (2, .ptr 2 0), (4, .own 3 0 c3q7.length), (18, bS false)] [(0, .dead), (1, .row 24 [iS c1_Free7, .own 4 0 c4q7.length]), (2, .row 24 [iS 0, .v (.slice none 0 0)]), (3, .row 3 (fl c3q7)), (4, .row 42 (fl c4q7))] 19 follows (by kernel_rfl) ?_
      exact hK1530 () _ _ _ trivial (leSt_m [(1, 1), (2, 2), (3, 3), (4, 4)] [] (by (try simp only [g1531]) <;> simp only [push_cast, seval]) (by (try simp only [g1531]) <;> simp only [push_cast, seval]) rfl rfl rfl)
  · dsimp only
    refine cond_sx h (by kernel_rfl) (fun g1550 h => ?_) (fun g1550 h => ?_)
    · refine wk_id ?_
      refine block_np ?_
      refine chk_sx h (fun g1539 h => ?_)
      refine chk_sx h (fun g1541 h => ?_)
      refine seq_np ?_
      refine reg_f ?_
      have k1538 : 0 ≤ (0 : Int) ∧ (0 : Int) < ((c4q7.length : Nat) : Int) := by first | simpa only [Bool.and_eq_true, decide_eq_true_eq, bne_iff_ne, ne_eq] using g1539 | (simp at g1539 ⊢; omega)
      have k1540 : (c3q7 ++ ([(ix c4q7 (0 : Int)).Task] : List Int)).length * 8 ≤ 140737488355328 := by first | simpa only [Bool.and_eq_true, decide_eq_true_eq, bne_iff_ne, ne_eq] using g1541 | (simp at g1541 ⊢; omega)
      refine rs 9 [none, none, none, some ⟨.ptr 4 (0 + ((0 : Int)).toNat * 3), [], 19, [4]⟩, none, some ⟨iS (ix c4q7 (0 : Int)).Task, [], 19, [4]⟩, none, some ⟨.own 20 0 (c3q7 ++ ([(ix c4q7 (0 : Int)).Task] : List Int)).length, [(20, .row 3 (fl (c3q7 ++ ([(ix c4q7 (0 : Int)).Task] : List Int)))), (3, .dead)], 21, [3, 19]⟩] _ (by kernel_rfl) (allP_cons (ob_app (P := Try.prog) c3q7 ([(ix c4q7 (0 : Int)).Task] : List Int) 1 8 rfl (appCells (fl ([(ix c4q7 (0 : Int)).Task] : List Int)) 0 (([(ix c4q7 (0 : Int)).Task] : List Int).length * 1)) ([(ix c4q7 (0 : Int)).Task] : List Int).length (app_own ([(ix c4q7 (0 : Int)).Task] : List Int) 1 rfl) rfl (0 + ([(ix c4q7 (0 : Int)).Task] : List Int).length * 1 ≤ (fl ([(ix c4q7 (0 : Int)).Task] : List Int)).length) (app_own_le ([(ix c4q7 (0 : Int)).Task] : List Int) 1 rfl) 3 (by kernel_rfl) (by decide) k1540 3 20 [19]) (allP_cons (ob_ld c4q7 (0 : Int) 3 0 ((0 + ((0 : Int)).toNat * 3) + 0) k1538 rfl (by decide) (by first | rfl | omega) (dflS Try.prog 3) (iS (ix c4q7 (0 : Int)).Task) rfl 19 [4]) (allP_cons (ob_ix_o 4 c4q7.length 0 3 19 0 k1538) allP_nil))) ?_
      refine rf [(1, .ptr 1 0), (2, .ptr 2 0), (4, .own 20 0 (c3q7 ++ ([(ix c4q7 (0 : Int)).Task] : List Int)).length)] [(1, .row 24 [iS c1_Free7, .own 4 0 c4q7.length]), (2, .row 24 [iS 0, .v (.slice none 0 0)]), (3, .dead), (4, .row 42 (fl c4q7)), (19, .row 3 (fl ([(ix c4q7 (0 : Int)).Task] : List Int))), (20, .row 3 (fl (c3q7 ++ ([(ix c4q7 (0 : Int)).Task] : List Int))))] 21 (by kernel_rfl) ?_
      refine wk_id ?_
      refine chk_sx h (fun g1545 h => ?_)
      refine seq_np ?_
      refine reg_t ?_
      have k1544 : 0 ≤ (0 : Int) ∧ (0 : Int) < ((c4q7.length : Nat) : Int) := by first | simpa only [Bool.and_eq_true, decide_eq_true_eq, bne_iff_ne, ne_eq] using g1545 | (simp at g1545 ⊢; omega)
      refine rs 10 [none, none, none, none, some ⟨.ptr 4 (0 + ((0 : Int)).toNat * 3), [], 25, [4]⟩, none, some ⟨iS (ix c4q7 (0 : Int)).N, [], 27, [4]⟩] _ (by kernel_rfl) (allP_cons (ob_ld c4q7 (0 : Int) 3 2 ((0 + ((0 : Int)).toNat * 3) + 2) k1544 rfl (by decide) (by first | rfl | omega) (dflS Try.prog 3) (iS (ix c4q7 (0 : Int)).N) rfl 27 [4]) (allP_cons (ob_ix_o 4 c4q7.length 0 3 25 0 k1544) allP_nil)) ?_
      refine rt [(1, .ptr 1 0), (2, .ptr 2 0), (4, .own 20 0 (c3q7 ++ ([(ix c4q7 (0 : Int)).Task] : List Int)).length)] [(1, .row 24 [iS (IntKind.i64.wrap (c1_Free7 - (ix c4q7 (0 : Int)).N)), .own 4 0 c4q7.length]), (2, .row 24 [iS 0, .v (.slice none 0 0)]), (3, .dead), (4, .row 42 (fl c4q7)), (19, .row 3 (fl ([(ix c4q7 (0 : Int)).Task] : List Int))), (20, .row 3 (fl (c3q7 ++ ([(ix c4q7 (0 : Int)).Task] : List Int))))] 31 follows (by kernel_rfl) ?_
      refine wk_id ?_
      refine chk_sx h (fun g1549 h => ?_)
      refine reg_f ?_
      have k1548 : 0 ≤ (1 : Int) ∧ (1 : Int) ≤ ((c4q7.length : Nat) : Int) ∧ ((c4q7.length : Nat) : Int) ≤ ((c4q7.length : Nat) : Int) := by first | simpa only [Bool.and_eq_true, decide_eq_true_eq, bne_iff_ne, ne_eq] using g1549 | (simp at g1549 ⊢; omega)
      refine rs 2 [] [] (by kernel_rfl) allP_nil ?_
      refine run_cutO c4q7 (some 38) 4 3 42 (1 : Int) ((c4q7.length : Nat) : Int) (by kernel_rfl) rfl k1548 ?_
      refine rs 2 [] [] (by kernel_rfl) allP_nil ?_
      refine rf [(1, .ptr 1 0), (2, .ptr 2 0), (4, .own 20 0 (c3q7 ++ ([(ix c4q7 (0 : Int)).Task] : List Int)).length)] [(1, .row 24 [iS (IntKind.i64.wrap (c1_Free7 - (ix c4q7 (0 : Int)).N)), .own 31 0 (cut c4q7 (1 : Int) ((c4q7.length : Nat) : Int)).length]), (2, .row 24 [iS 0, .v (.slice none 0 0)]), (3, .dead), (4, .dead), (19, .row 3 (fl ([(ix c4q7 (0 : Int)).Task] : List Int))), (20, .row 3 (fl (c3q7 ++ ([(ix c4q7 (0 : Int)).Task] : List Int)))), (31, .row 42 (fl (cut c4q7 (1 : Int) ((c4q7.length : Nat) : Int))))] 32 (by kernel_rfl) ?_
      refine wk_id ?_
      exact hn2 ((IntKind.i64.wrap (c1_Free7 - (ix c4q7 (0 : Int)).N)), (c3q7 ++ ([(ix c4q7 (0 : Int)).Task] : List Int)), (cut c4q7 (1 : Int) ((c4q7.length : Nat) : Int))) _ _ _ (Option.some.inj h).symm (leSt_m [(1, 1), (2, 2), (3, 20), (4, 31)] [] (by simp only [push_cast, seval]) (by simp only [push_cast, seval]) rfl rfl rfl)
    · refine ex_cast hx2 (id := 0) ?_
      obtain ⟨r0, h, e0⟩ := map_sx h
      have e1 := hr2 r0 e0.symm
      subst r0
      refine wk_id ?_
      refine wk_id ?_
      refine seq_np ?_
      refine reg_f ?_
      refine rs 4 [] [] (by kernel_rfl) allP_nil ?_
      refine rf [(2, .ptr 2 0), (3, .own 3 0 c3q7.length)] [(1, .row 24 [iS c1_Free7, .own 4 0 c4q7.length]), (2, .row 24 [iS c1_Free7, .own 4 0 c4q7.length]), (3, .row 3 (fl c3q7)), (4, .row 42 (fl c4q7))] 19 (by kernel_rfl) ?_
      refine wk_id ?_
      obtain rfl := Option.some.inj h
      refine ret_at (.tup [.agg [iS c1_Free7, .own 4 0 c4q7.length], .own 3 0 c3q7.length]) (by kernel_rfl) ?_
      exact ret_e [(1, 4), (2, 3)] [] (by simp only [push_cast, seval]) (by simp only [push_cast, seval]) rfl rfl rfl

set_option maxRecDepth 100000 in
set_option maxHeartbeats 10000000 in
theorem taskmillref_Has_spec (l : (List Int)) (n : Int) (r : Bool) (h : taskmillref_Has l n = some r) : SpecW Try.prog 22 [.sl l.length (fl l), iS n] [] 0 (fun x h n => x = bS r ∧ h = [] ∧ n = 0) := by
  unfold taskmillref_Has at h
  refine spec_of (draw_ok _) Try.func22 rfl (by decide) rfl (by kernel_rfl) ?_
  refine seq_np ?_
  refine reg_f ?_
  refine rs 1 [] [] (by kernel_rfl) allP_nil ?_
  refine rf [(0, .sl l.length (fl l)), (1, iS n)] [] 0 (by kernel_rfl) ?_
  refine wk_id ?_
  refine seq_np ?_
  refine seq_np ?_
  refine reg_f ?_
  refine rs 1 [] [] (by kernel_rfl) allP_nil ?_
  refine rf [(0, .sl l.length (fl l)), (1, iS n), (5, iS 0)] [] 0 (by kernel_rfl) ?_
  refine wk_id ?_
  refine block_np ?_
  refine loop_sx (S := Int) (fun a => ([(0, .sl l.length (fl l)), (1, iS n), (5, iS a)], [], 0)) h (leSt_m [] [] (by simp only [push_cast, seval]) (by simp only [push_cast, seval]) rfl rfl rfl) ?_
  rintro i7 o2 R2 h hr2 hn2 hx2 ht2
  try dsimp only at h hn2 ⊢
  unfold taskmillref_Has_l1 at h
  try dsimp only at h
  refine seq_np ?_
  refine seq_np ?_
  refine reg_f ?_
  refine rs 4 [] [] (by kernel_rfl) allP_nil ?_
  refine rf [(0, .sl l.length (fl l)), (1, iS n), (5, iS i7), (9, bS (decide (i7 < ((l.length : Nat) : Int))))] [] 0 (by kernel_rfl) ?_
  refine wk_id ?_
  refine cond_sx h (by kernel_rfl) (fun g1612 h => ?_) (fun g1612 h => ?_)
  · refine wk_id ?_
    refine seq_np ?_
    refine block_np ?_
    refine chk_sx h (fun g1610 h => ?_)
    refine seq_np ?_
    refine reg_f ?_
    have k1609 : 0 ≤ i7 ∧ i7 < ((l.length : Nat) : Int) := by first | simpa only [Bool.and_eq_true, decide_eq_true_eq, bne_iff_ne, ne_eq] using g1610 | (simp at g1610 ⊢; omega)
    refine rs 6 [none, none, some ⟨.iptr (fl l) ((i7).toNat * 1), [], 0, []⟩, some ⟨iS (ix l i7), [], 0, []⟩] _ (by kernel_rfl) (allP_cons (ob_ld l i7 1 0 ((i7).toNat * 1) k1609 rfl (by decide) (by first | rfl | omega) (dflS Try.prog 3) (iS (ix l i7)) rfl 0 []) (allP_cons (ob_ix_l l 1 0 i7 k1609) allP_nil)) ?_
    refine rf [(0, .sl l.length (fl l)), (1, iS n), (5, iS i7), (17, bS ((ix l i7) == n))] [] 0 (by kernel_rfl) ?_
    refine wk_id ?_
    refine cond_sx h (by kernel_rfl) (fun g1611 h => ?_) (fun g1611 h => ?_)
    · refine seq_np ?_
      refine reg_f ?_
      refine rs 1 [] [] (by kernel_rfl) allP_nil ?_
      refine rf [(4, bS true)] [] 0 (by kernel_rfl) ?_
      refine wk_id ?_
      refine rt_cast ht2 ?_
      obtain ⟨r0, h, e0⟩ := map_sx h
      have e1 := hr2 r0 e0.symm
      subst r0
      obtain rfl := Option.some.inj h
      refine ret_at (bS true) (by kernel_rfl) ?_
      exact ret_e [] [] (by simp only [push_cast, seval]) (by simp only [push_cast, seval]) rfl rfl rfl
    · refine wk_id ?_
      refine wk_id ?_
      refine reg_f ?_
      refine rs 3 [] [] (by kernel_rfl) allP_nil ?_
      refine rf [(0, .sl l.length (fl l)), (1, iS n), (5, iS (IntKind.i64.wrap (i7 + 1)))] [] 0 (by kernel_rfl) ?_
      exact hn2 ((IntKind.i64.wrap (i7 + 1))) _ _ _ (Option.some.inj h).symm (leSt_m [] [] (by simp only [push_cast, seval]) (by simp only [push_cast, seval]) rfl rfl rfl)
  · refine ex_cast hx2 (id := 0) ?_
    obtain ⟨r0, h, e0⟩ := map_sx h
    have e1 := hr2 r0 e0.symm
    subst r0
    refine wk_id ?_
    refine wk_id ?_
    refine seq_np ?_
    refine reg_f ?_
    refine rs 1 [] [] (by kernel_rfl) allP_nil ?_
    refine rf [(4, bS false)] [] 0 (by kernel_rfl) ?_
    refine wk_id ?_
    obtain rfl := Option.some.inj h
    refine ret_at (bS false) (by kernel_rfl) ?_
    exact ret_e [] [] (by simp only [push_cast, seval]) (by simp only [push_cast, seval]) rfl rfl rfl

set_option maxRecDepth 100000 in
set_option maxHeartbeats 10000000 in
theorem taskmilllaw_SyncSemas_spec (s : Sema) (task : Int) (n : Int) (xtry : Bool) (r : Bool) (h : taskmilllaw_SyncSemas s task n xtry = some r) : SpecW Try.prog 3 [.agg (Enc.cells s), iS task, iS n, bS xtry] [] 0 (fun x h n => x = bS r ∧ h = [] ∧ n = 0) := by
  unfold taskmilllaw_SyncSemas at h
  refine spec_of (draw_ok _) Try.func3 rfl (by decide) rfl (by kernel_rfl) ?_
  refine seq_np ?_
  refine reg_f ?_
  refine rs 2 [] [] (by kernel_rfl) allP_nil ?_
  refine rf [(1, iS task), (2, iS n), (3, bS xtry), (4, .ptr 0 0)] [(0, .row 24 (Enc.cells s))] 1 (by kernel_rfl) ?_
  refine wk_id ?_
  refine seq_np ?_
  refine seq_np ?_
  refine reg_f ?_
  obtain ⟨r1650, hr1650, h⟩ := bind_sx h
  refine run_call 12 [] (some 22) (by kernel_rfl) ?_
  refine call_0 (taskmilllaw_syncBegun_spec r1650 hr1650) (by simp only [push_cast, seval]) (by simp only [push_cast, seval]) ?_
  refine back_f ?_
  refine rs 1 [] [] (by kernel_rfl) allP_nil ?_
  refine rf [(1, iS task), (2, iS n), (3, bS xtry), (4, .ptr 0 0), (23, bS (!r1650))] [(0, .row 24 (Enc.cells s))] 1 (by kernel_rfl) ?_
  refine wk_id ?_
  refine cond_sx h (by kernel_rfl) (fun g1817 h => ?_) (fun g1817 h => ?_)
  · refine seq_np ?_
    refine reg_f ?_
    refine rs 1 [] [] (by kernel_rfl) allP_nil ?_
    refine rf [(8, bS false)] [(0, .row 24 (Enc.cells s))] 1 (by kernel_rfl) ?_
    refine wk_id ?_
    obtain rfl := Option.some.inj h
    refine ret_at (bS false) (by kernel_rfl) ?_
    exact ret_e [] [] (by simp only [push_cast, seval]) (by simp only [push_cast, seval]) rfl rfl rfl
  · refine wk_id ?_
    refine seq_np ?_
    refine seq_np ?_
    refine reg_f ?_
    refine rs 3 [] [] (by kernel_rfl) allP_nil ?_
    obtain ⟨r1654, hr1654, h⟩ := bind_sx h
    refine run_call 13 [iS ((s.Line.length : Nat) : Int)] (some 27) (by kernel_rfl) ?_
    refine call_0 (taskmilllaw_long_spec ((s.Line.length : Nat) : Int) r1654 hr1654) (by simp only [push_cast, seval]) (by simp only [push_cast, seval]) ?_
    refine back_f ?_
    refine rf [(1, iS task), (2, iS n), (3, bS xtry), (4, .ptr 0 0), (27, bS r1654)] [(0, .row 24 (Enc.cells s))] 1 (by kernel_rfl) ?_
    refine wk_id ?_
    refine cond_sx h (by kernel_rfl) (fun g1816 h => ?_) (fun g1816 h => ?_)
    · refine seq_np ?_
      refine reg_f ?_
      refine rs 1 [] [] (by kernel_rfl) allP_nil ?_
      refine rf [(8, bS true)] [(0, .row 24 (Enc.cells s))] 1 (by kernel_rfl) ?_
      refine wk_id ?_
      obtain rfl := Option.some.inj h
      refine ret_at (bS true) (by kernel_rfl) ?_
      exact ret_e [] [] (by simp only [push_cast, seval]) (by simp only [push_cast, seval]) rfl rfl rfl
    · refine wk_id ?_
      refine seq_np ?_
      refine reg_t ?_
      refine rs 4 [] [] (by kernel_rfl) allP_nil ?_
      obtain ⟨r1656, hr1656, h⟩ := bind_sx h
      refine call_x (taskmilllaw_ownWants_spec s.Line r1656 hr1656) (args := [.sl s.Line.length (fl s.Line)]) (dst := (some 32)) (by kernel_rfl) [(0, .row 24 (Enc.cells s))] 5 (by kernel_rfl) [] [] (.own 5 0 r1656.length) [(5, .row 42 (fl r1656))] (by simp only [push_cast, seval]) (by simp only [push_cast, seval]) (by kernel_rfl) (.inl rfl) (by simp only [push_cast, seval]) (by simp only [push_cast, seval]) ?_
      refine rs 3 [] [] (by kernel_rfl) allP_nil ?_
      refine rt [(1, iS task), (2, iS n), (3, bS xtry), (4, .ptr 0 0), (9, .ptr 8 0)] [(0, .row 24 (Enc.cells s)), (5, .row 42 (fl r1656)), (8, .row 24 [iS s.Free, .own 5 0 r1656.length])] 11 follows (by kernel_rfl) ?_
      refine wk_id ?_
      refine seq_np ?_
      refine reg_f ?_
      refine rs 4 [] [] (by kernel_rfl) allP_nil ?_
      obtain ⟨r1658, hr1658, h⟩ := bind_sx h
      refine call_x (sync_Acquire_spec (Sema.mk s.Free r1656) task n xtry r1658 hr1658) (args := [.agg [iS s.Free, .own 5 0 r1656.length], iS task, iS n, bS xtry]) (dst := (some 39)) (by kernel_rfl) [(0, .row 24 (Enc.cells s)), (5, .row 42 (fl r1656)), (8, .row 24 [iS s.Free, .own 5 0 r1656.length])] 11 (by kernel_rfl) [] [5] (.tup [.agg [iS r1658.1, .own 11 0 r1658.2.2.2.length], bS r1658.2.1, .agg (Enc.cells r1658.2.2.1)]) [(11, .row 42 (fl r1658.2.2.2))] (by simp only [push_cast, seval]) (by simp only [push_cast, seval]) (by kernel_rfl) (.inr ⟨by simp only [push_cast, seval], by simp only [push_cast, seval]⟩) (by simp only [push_cast, seval]) (by simp only [push_cast, seval]) ?_
      refine rs 9 [] [] (by kernel_rfl) allP_nil ?_
      refine rf [(1, iS task), (2, iS n), (3, bS xtry), (4, .ptr 0 0), (9, .ptr 8 0), (10, .ptr 12 0), (11, bS r1658.2.1), (12, .ptr 13 0)] [(0, .row 24 (Enc.cells s)), (5, .row 42 (fl r1656)), (8, .row 24 [iS s.Free, .own 5 0 r1656.length]), (11, .row 42 (fl r1658.2.2.2)), (12, .row 24 [iS r1658.1, .own 11 0 r1658.2.2.2.length]), (13, .row 29 (Enc.cells r1658.2.2.1))] 14 (by kernel_rfl) ?_
      refine wk_id ?_
      refine seq_np ?_
      refine reg_f ?_
      refine rs 2 [] [] (by kernel_rfl) allP_nil ?_
      obtain ⟨r1660, hr1660, h⟩ := bind_sx h
      refine call_x (sync_Release_spec (Sema.mk s.Free r1656) n r1660 hr1660) (args := [.agg [iS s.Free, .own 5 0 r1656.length], iS n]) (dst := (some 46)) (by kernel_rfl) [(0, .row 24 (Enc.cells s)), (5, .row 42 (fl r1656)), (8, .row 24 [iS s.Free, .own 5 0 r1656.length]), (11, .row 42 (fl r1658.2.2.2)), (12, .row 24 [iS r1658.1, .own 11 0 r1658.2.2.2.length]), (13, .row 29 (Enc.cells r1658.2.2.1))] 14 (by kernel_rfl) [] [5] (.tup [.agg [iS r1660.1, .own 14 0 r1660.2.2.1.length], .own 15 0 r1660.2.2.2.length, .agg (Enc.cells r1660.2.1)]) [(14, .row 42 (fl r1660.2.2.1)), (15, .row 3 (fl r1660.2.2.2))] (by simp only [push_cast, seval]) (by simp only [push_cast, seval]) (by kernel_rfl) (.inr ⟨by simp only [push_cast, seval], by simp only [push_cast, seval]⟩) (by simp only [push_cast, seval]) (by simp only [push_cast, seval]) ?_
      refine rs 9 [] [] (by kernel_rfl) allP_nil ?_
      refine rf [(1, iS task), (2, iS n), (3, bS xtry), (4, .ptr 0 0), (9, .ptr 8 0), (10, .ptr 12 0), (11, bS r1658.2.1), (12, .ptr 13 0), (13, .ptr 16 0), (14, .own 15 0 r1660.2.2.2.length), (15, .ptr 17 0)] [(0, .row 24 (Enc.cells s)), (5, .row 42 (fl r1656)), (8, .row 24 [iS s.Free, .own 5 0 r1656.length]), (11, .row 42 (fl r1658.2.2.2)), (12, .row 24 [iS r1658.1, .own 11 0 r1658.2.2.2.length]), (13, .row 29 (Enc.cells r1658.2.2.1)), (14, .row 42 (fl r1660.2.2.1)), (15, .row 3 (fl r1660.2.2.2)), (16, .row 24 [iS r1660.1, .own 14 0 r1660.2.2.1.length]), (17, .row 29 (Enc.cells r1660.2.1))] 18 (by kernel_rfl) ?_
      refine wk_id ?_
      refine seq_np ?_
      refine reg_f ?_
      refine rs 1 [] [] (by kernel_rfl) allP_nil ?_
      obtain ⟨r1662, hr1662, h⟩ := bind_sx h
      refine run_call 17 [.agg (Enc.cells s)] (some 51) (by kernel_rfl) ?_
      refine call_0 (taskmillref_SemaFault_spec s r1662 hr1662) (by simp only [push_cast, seval]) (by simp only [push_cast, seval]) ?_
      refine back_f ?_
      refine rs 2 [] [] (by kernel_rfl) allP_nil ?_
      refine rf [(1, iS task), (2, iS n), (3, bS xtry), (4, .ptr 0 0), (9, .ptr 8 0), (10, .ptr 12 0), (11, bS r1658.2.1), (12, .ptr 13 0), (13, .ptr 16 0), (14, .own 15 0 r1660.2.2.2.length), (15, .ptr 17 0), (16, .ptr 18 0)] [(0, .row 24 (Enc.cells s)), (5, .row 42 (fl r1656)), (8, .row 24 [iS s.Free, .own 5 0 r1656.length]), (11, .row 42 (fl r1658.2.2.2)), (12, .row 24 [iS r1658.1, .own 11 0 r1658.2.2.2.length]), (13, .row 29 (Enc.cells r1658.2.2.1)), (14, .row 42 (fl r1660.2.2.1)), (15, .row 3 (fl r1660.2.2.2)), (16, .row 24 [iS r1660.1, .own 14 0 r1660.2.2.1.length]), (17, .row 29 (Enc.cells r1660.2.1)), (18, .row 29 (Enc.cells r1662))] 19 (by kernel_rfl) ?_
      refine wk_id ?_
      refine seq_np ?_
      refine seq_np ?_
      refine reg_f ?_
      refine rs 2 [] [] (by kernel_rfl) allP_nil ?_
      obtain ⟨r1666, hr1666, h⟩ := bind_sx h
      refine call_x (taskmilllaw_sameSema_spec (Sema.mk s.Free r1656) s r1666 hr1666) (args := [.agg [iS s.Free, .own 5 0 r1656.length], .agg (Enc.cells s)]) (dst := (some 54)) (by kernel_rfl) [(0, .row 24 (Enc.cells s)), (5, .row 42 (fl r1656)), (8, .row 24 [iS s.Free, .own 5 0 r1656.length]), (11, .row 42 (fl r1658.2.2.2)), (12, .row 24 [iS r1658.1, .own 11 0 r1658.2.2.2.length]), (13, .row 29 (Enc.cells r1658.2.2.1)), (14, .row 42 (fl r1660.2.2.1)), (15, .row 3 (fl r1660.2.2.2)), (16, .row 24 [iS r1660.1, .own 14 0 r1660.2.2.1.length]), (17, .row 29 (Enc.cells r1660.2.1)), (18, .row 29 (Enc.cells r1662))] 19 (by kernel_rfl) [] [5] (bS r1666) [] (by simp only [push_cast, seval]) (by simp only [push_cast, seval]) (by kernel_rfl) (.inr ⟨by simp only [push_cast, seval], by simp only [push_cast, seval]⟩) (by simp only [push_cast, seval]) (by simp only [push_cast, seval]) ?_
      refine rs 1 [] [] (by kernel_rfl) allP_nil ?_
      refine rf [(1, iS task), (2, iS n), (3, bS xtry), (4, .ptr 0 0), (10, .ptr 12 0), (11, bS r1658.2.1), (12, .ptr 13 0), (13, .ptr 16 0), (14, .own 15 0 r1660.2.2.2.length), (15, .ptr 17 0), (16, .ptr 18 0), (55, bS (!r1666))] [(0, .row 24 (Enc.cells s)), (5, .row 42 (fl r1656)), (8, .row 24 [iS s.Free, .own 5 0 r1656.length]), (11, .row 42 (fl r1658.2.2.2)), (12, .row 24 [iS r1658.1, .own 11 0 r1658.2.2.2.length]), (13, .row 29 (Enc.cells r1658.2.2.1)), (14, .row 42 (fl r1660.2.2.1)), (15, .row 3 (fl r1660.2.2.2)), (16, .row 24 [iS r1660.1, .own 14 0 r1660.2.2.1.length]), (17, .row 29 (Enc.cells r1660.2.1)), (18, .row 29 (Enc.cells r1662))] 19 (by kernel_rfl) ?_
      refine wk_id ?_
      refine cond_sx h (by kernel_rfl) (fun g1815 h => ?_) (fun g1815 h => ?_)
      · refine seq_np ?_
        refine reg_f ?_
        refine rs 1 [] [] (by kernel_rfl) allP_nil ?_
        refine rf [(8, bS false)] [(0, .row 24 (Enc.cells s)), (5, .row 42 (fl r1656)), (8, .row 24 [iS s.Free, .own 5 0 r1656.length]), (11, .row 42 (fl r1658.2.2.2)), (12, .row 24 [iS r1658.1, .own 11 0 r1658.2.2.2.length]), (13, .row 29 (Enc.cells r1658.2.2.1)), (14, .row 42 (fl r1660.2.2.1)), (15, .row 3 (fl r1660.2.2.2)), (16, .row 24 [iS r1660.1, .own 14 0 r1660.2.2.1.length]), (17, .row 29 (Enc.cells r1660.2.1)), (18, .row 29 (Enc.cells r1662))] 19 (by kernel_rfl) ?_
        refine wk_id ?_
        obtain rfl := Option.some.inj h
        refine ret_at (bS false) (by kernel_rfl) ?_
        exact ret_e [] [] (by simp only [push_cast, seval]) (by simp only [push_cast, seval]) rfl rfl rfl
      · refine wk_id ?_
        refine seq_np ?_
        refine reg_f ?_
        refine rs 3 [] [] (by kernel_rfl) allP_nil ?_
        refine rf [(1, iS task), (2, iS n), (3, bS xtry), (4, .ptr 0 0), (10, .ptr 12 0), (11, bS r1658.2.1), (12, .ptr 13 0), (13, .ptr 16 0), (14, .own 15 0 r1660.2.2.2.length), (15, .ptr 17 0), (16, .ptr 18 0), (17, .ptr 19 0)] [(0, .row 24 (Enc.cells s)), (5, .row 42 (fl r1656)), (8, .row 24 [iS s.Free, .own 5 0 r1656.length]), (11, .row 42 (fl r1658.2.2.2)), (12, .row 24 [iS r1658.1, .own 11 0 r1658.2.2.2.length]), (13, .row 29 (Enc.cells r1658.2.2.1)), (14, .row 42 (fl r1660.2.2.1)), (15, .row 3 (fl r1660.2.2.2)), (16, .row 24 [iS r1660.1, .own 14 0 r1660.2.2.1.length]), (17, .row 29 (Enc.cells r1660.2.1)), (18, .row 29 (Enc.cells r1662)), (19, .row 29 (Enc.cells r1662))] 20 (by kernel_rfl) ?_
        refine wk_id ?_
        refine seq_cut (A := Bool × Int × Fault × Int × (List Int) × Fault × Fault × Fault × (List Want) × (List Want)) (fun a => ([(1, iS task), (2, iS n), (3, bS xtry), (4, .ptr 0 0), (10, .ptr 1 0), (11, bS a.1), (12, .ptr 2 0), (13, .ptr 3 0), (14, .own 4 0 a.2.2.2.2.1.length), (15, .ptr 5 0), (16, .ptr 6 0), (17, .ptr 7 0)], [(0, .row 24 (Enc.cells s)), (1, .row 24 [iS a.2.1, .own 8 0 a.2.2.2.2.2.2.2.2.1.length]), (2, .row 29 (Enc.cells a.2.2.1)), (3, .row 24 [iS a.2.2.2.1, .own 9 0 a.2.2.2.2.2.2.2.2.2.length]), (4, .row 3 (fl a.2.2.2.2.1)), (5, .row 29 (Enc.cells a.2.2.2.2.2.1)), (6, .row 29 (Enc.cells a.2.2.2.2.2.2.1)), (7, .row 29 (Enc.cells a.2.2.2.2.2.2.2.1)), (8, .row 42 (fl a.2.2.2.2.2.2.2.2.1)), (9, .row 42 (fl a.2.2.2.2.2.2.2.2.2))], 10)) (fun a => (taskmilllaw_SyncSemas_j11 s task n xtry a.1 a.2.1 a.2.2.1 a.2.2.2.1 a.2.2.2.2.1 a.2.2.2.2.2.1 a.2.2.2.2.2.2.1 a.2.2.2.2.2.2.2.1 a.2.2.2.2.2.2.2.2.1 a.2.2.2.2.2.2.2.2.2) = some r) (fun K1673 hK1673 => ?_) ?_
        · refine seq_cut (A := Unit) (fun _ => ([(1, iS task), (2, iS n), (3, bS xtry), (4, .ptr 0 0), (10, .ptr 12 0), (11, bS r1658.2.1), (12, .ptr 13 0), (13, .ptr 16 0), (14, .own 15 0 r1660.2.2.2.length), (15, .ptr 17 0), (16, .ptr 18 0), (17, .ptr 19 0), (71, bS ((r1662.Code == 0) && ((decide (task < 1)) || ((decide (n < 1)) || (decide ((1000000000 : Int) < n))))))], [(0, .row 24 (Enc.cells s)), (5, .row 42 (fl r1656)), (8, .row 24 [iS s.Free, .own 5 0 r1656.length]), (11, .row 42 (fl r1658.2.2.2)), (12, .row 24 [iS r1658.1, .own 11 0 r1658.2.2.2.length]), (13, .row 29 (Enc.cells r1658.2.2.1)), (14, .row 42 (fl r1660.2.2.1)), (15, .row 3 (fl r1660.2.2.2)), (16, .row 24 [iS r1660.1, .own 14 0 r1660.2.2.1.length]), (17, .row 29 (Enc.cells r1660.2.1)), (18, .row 29 (Enc.cells r1662)), (19, .row 29 (Enc.cells r1662))], 20)) (fun _ => True) (fun K1677 hK1677 => ?_) (fun _ _ => ?_)
          · refine reg_f ?_
            refine rs 4 [] [] (by kernel_rfl) allP_nil ?_
            refine run_split 60 (r1662.Code == 0) (.inl (by kernel_rfl)) (fun g1678 => ?_) (fun g1678 => ?_)
            · refine rs 3 [] [] (by kernel_rfl) allP_nil ?_
              refine run_split 63 (decide (task < 1)) (.inr (by kernel_rfl)) (fun g1679 => ?_) (fun g1679 => ?_)
              · refine rs 8 [] [] (by kernel_rfl) allP_nil ?_
                refine rf [(1, iS task), (2, iS n), (3, bS xtry), (4, .ptr 0 0), (10, .ptr 12 0), (11, bS r1658.2.1), (12, .ptr 13 0), (13, .ptr 16 0), (14, .own 15 0 r1660.2.2.2.length), (15, .ptr 17 0), (16, .ptr 18 0), (17, .ptr 19 0), (71, bS true)] [(0, .row 24 (Enc.cells s)), (5, .row 42 (fl r1656)), (8, .row 24 [iS s.Free, .own 5 0 r1656.length]), (11, .row 42 (fl r1658.2.2.2)), (12, .row 24 [iS r1658.1, .own 11 0 r1658.2.2.2.length]), (13, .row 29 (Enc.cells r1658.2.2.1)), (14, .row 42 (fl r1660.2.2.1)), (15, .row 3 (fl r1660.2.2.2)), (16, .row 24 [iS r1660.1, .own 14 0 r1660.2.2.1.length]), (17, .row 29 (Enc.cells r1660.2.1)), (18, .row 29 (Enc.cells r1662)), (19, .row 29 (Enc.cells r1662))] 20 (by kernel_rfl) ?_
                exact hK1677 () _ _ _ trivial (leSt_m [(0, 0), (5, 5), (8, 8), (11, 11), (12, 12), (13, 13), (14, 14), (15, 15), (16, 16), (17, 17), (18, 18), (19, 19)] [] (by (try simp only [g1678, g1679]) <;> simp only [push_cast, seval]) (by (try simp only [g1678, g1679]) <;> simp only [push_cast, seval]) rfl rfl rfl)
              · refine rs 4 [] [] (by kernel_rfl) allP_nil ?_
                refine run_split 67 (decide (n < 1)) (.inr (by kernel_rfl)) (fun g1680 => ?_) (fun g1680 => ?_)
                · refine rn 11 [(1, iS task), (2, iS n), (3, bS xtry), (4, .ptr 0 0), (10, .ptr 12 0), (11, bS r1658.2.1), (12, .ptr 13 0), (13, .ptr 16 0), (14, .own 15 0 r1660.2.2.2.length), (15, .ptr 17 0), (16, .ptr 18 0), (17, .ptr 19 0), (60, bS true), (67, .gd true (bS true))] [(0, .row 24 (Enc.cells s)), (5, .row 42 (fl r1656)), (8, .row 24 [iS s.Free, .own 5 0 r1656.length]), (11, .row 42 (fl r1658.2.2.2)), (12, .row 24 [iS r1658.1, .own 11 0 r1658.2.2.2.length]), (13, .row 29 (Enc.cells r1658.2.2.1)), (14, .row 42 (fl r1660.2.2.1)), (15, .row 3 (fl r1660.2.2.2)), (16, .row 24 [iS r1660.1, .own 14 0 r1660.2.2.1.length]), (17, .row 29 (Enc.cells r1660.2.1)), (18, .row 29 (Enc.cells r1662)), (19, .row 29 (Enc.cells r1662))] 20 (by kernel_rfl) ?_
                  refine rs 4 [] [] (by kernel_rfl) allP_nil ?_
                  refine rf [(1, iS task), (2, iS n), (3, bS xtry), (4, .ptr 0 0), (10, .ptr 12 0), (11, bS r1658.2.1), (12, .ptr 13 0), (13, .ptr 16 0), (14, .own 15 0 r1660.2.2.2.length), (15, .ptr 17 0), (16, .ptr 18 0), (17, .ptr 19 0), (71, bS true)] [(0, .row 24 (Enc.cells s)), (5, .row 42 (fl r1656)), (8, .row 24 [iS s.Free, .own 5 0 r1656.length]), (11, .row 42 (fl r1658.2.2.2)), (12, .row 24 [iS r1658.1, .own 11 0 r1658.2.2.2.length]), (13, .row 29 (Enc.cells r1658.2.2.1)), (14, .row 42 (fl r1660.2.2.1)), (15, .row 3 (fl r1660.2.2.2)), (16, .row 24 [iS r1660.1, .own 14 0 r1660.2.2.1.length]), (17, .row 29 (Enc.cells r1660.2.1)), (18, .row 29 (Enc.cells r1662)), (19, .row 29 (Enc.cells r1662))] 20 (by kernel_rfl) ?_
                  exact hK1677 () _ _ _ trivial (leSt_m [(0, 0), (5, 5), (8, 8), (11, 11), (12, 12), (13, 13), (14, 14), (15, 15), (16, 16), (17, 17), (18, 18), (19, 19)] [] (by (try simp only [g1678, g1679, g1680]) <;> simp only [push_cast, seval]) (by (try simp only [g1678, g1679, g1680]) <;> simp only [push_cast, seval]) rfl rfl rfl)
                · refine rn 11 [(1, iS task), (2, iS n), (3, bS xtry), (4, .ptr 0 0), (10, .ptr 12 0), (11, bS r1658.2.1), (12, .ptr 13 0), (13, .ptr 16 0), (14, .own 15 0 r1660.2.2.2.length), (15, .ptr 17 0), (16, .ptr 18 0), (17, .ptr 19 0), (60, bS true), (67, .gd true (bS false))] [(0, .row 24 (Enc.cells s)), (5, .row 42 (fl r1656)), (8, .row 24 [iS s.Free, .own 5 0 r1656.length]), (11, .row 42 (fl r1658.2.2.2)), (12, .row 24 [iS r1658.1, .own 11 0 r1658.2.2.2.length]), (13, .row 29 (Enc.cells r1658.2.2.1)), (14, .row 42 (fl r1660.2.2.1)), (15, .row 3 (fl r1660.2.2.2)), (16, .row 24 [iS r1660.1, .own 14 0 r1660.2.2.1.length]), (17, .row 29 (Enc.cells r1660.2.1)), (18, .row 29 (Enc.cells r1662)), (19, .row 29 (Enc.cells r1662))] 20 (by kernel_rfl) ?_
                  refine rs 4 [] [] (by kernel_rfl) allP_nil ?_
                  refine rf [(1, iS task), (2, iS n), (3, bS xtry), (4, .ptr 0 0), (10, .ptr 12 0), (11, bS r1658.2.1), (12, .ptr 13 0), (13, .ptr 16 0), (14, .own 15 0 r1660.2.2.2.length), (15, .ptr 17 0), (16, .ptr 18 0), (17, .ptr 19 0), (71, bS (decide ((1000000000 : Int) < n)))] [(0, .row 24 (Enc.cells s)), (5, .row 42 (fl r1656)), (8, .row 24 [iS s.Free, .own 5 0 r1656.length]), (11, .row 42 (fl r1658.2.2.2)), (12, .row 24 [iS r1658.1, .own 11 0 r1658.2.2.2.length]), (13, .row 29 (Enc.cells r1658.2.2.1)), (14, .row 42 (fl r1660.2.2.1)), (15, .row 3 (fl r1660.2.2.2)), (16, .row 24 [iS r1660.1, .own 14 0 r1660.2.2.1.length]), (17, .row 29 (Enc.cells r1660.2.1)), (18, .row 29 (Enc.cells r1662)), (19, .row 29 (Enc.cells r1662))] 20 (by kernel_rfl) ?_
                  exact hK1677 () _ _ _ trivial (leSt_m [(0, 0), (5, 5), (8, 8), (11, 11), (12, 12), (13, 13), (14, 14), (15, 15), (16, 16), (17, 17), (18, 18), (19, 19)] [] (by (try simp only [g1678, g1679, g1680]) <;> simp only [push_cast, seval]) (by (try simp only [g1678, g1679, g1680]) <;> simp only [push_cast, seval]) rfl rfl rfl)
            · refine rs 11 [] [] (by kernel_rfl) allP_nil ?_
              refine rf [(1, iS task), (2, iS n), (3, bS xtry), (4, .ptr 0 0), (10, .ptr 12 0), (11, bS r1658.2.1), (12, .ptr 13 0), (13, .ptr 16 0), (14, .own 15 0 r1660.2.2.2.length), (15, .ptr 17 0), (16, .ptr 18 0), (17, .ptr 19 0), (71, bS false)] [(0, .row 24 (Enc.cells s)), (5, .row 42 (fl r1656)), (8, .row 24 [iS s.Free, .own 5 0 r1656.length]), (11, .row 42 (fl r1658.2.2.2)), (12, .row 24 [iS r1658.1, .own 11 0 r1658.2.2.2.length]), (13, .row 29 (Enc.cells r1658.2.2.1)), (14, .row 42 (fl r1660.2.2.1)), (15, .row 3 (fl r1660.2.2.2)), (16, .row 24 [iS r1660.1, .own 14 0 r1660.2.2.1.length]), (17, .row 29 (Enc.cells r1660.2.1)), (18, .row 29 (Enc.cells r1662)), (19, .row 29 (Enc.cells r1662))] 20 (by kernel_rfl) ?_
              exact hK1677 () _ _ _ trivial (leSt_m [(0, 0), (5, 5), (8, 8), (11, 11), (12, 12), (13, 13), (14, 14), (15, 15), (16, 16), (17, 17), (18, 18), (19, 19)] [] (by (try simp only [g1678]) <;> simp only [push_cast, seval]) (by (try simp only [g1678]) <;> simp only [push_cast, seval]) rfl rfl rfl)
          · dsimp only
            refine cond_sx h (by kernel_rfl) (fun g1683 h => ?_) (fun g1683 h => ?_)
            · refine reg_f ?_
              obtain ⟨r1682, hr1682, h⟩ := bind_sx h
              refine run_call 19 [iS 3, iS (-1)] (some 72) (by kernel_rfl) ?_
              refine call_0 (taskmillref_F_spec 3 (-1) r1682 hr1682) (by simp only [push_cast, seval]) (by simp only [push_cast, seval]) ?_
              refine back_f ?_
              refine rs 1 [] [] (by kernel_rfl) allP_nil ?_
              refine rf [(1, iS task), (2, iS n), (3, bS xtry), (4, .ptr 0 0), (10, .ptr 12 0), (11, bS r1658.2.1), (12, .ptr 13 0), (13, .ptr 16 0), (14, .own 15 0 r1660.2.2.2.length), (15, .ptr 17 0), (16, .ptr 18 0), (17, .ptr 19 0)] [(0, .row 24 (Enc.cells s)), (5, .row 42 (fl r1656)), (8, .row 24 [iS s.Free, .own 5 0 r1656.length]), (11, .row 42 (fl r1658.2.2.2)), (12, .row 24 [iS r1658.1, .own 11 0 r1658.2.2.2.length]), (13, .row 29 (Enc.cells r1658.2.2.1)), (14, .row 42 (fl r1660.2.2.1)), (15, .row 3 (fl r1660.2.2.2)), (16, .row 24 [iS r1660.1, .own 14 0 r1660.2.2.1.length]), (17, .row 29 (Enc.cells r1660.2.1)), (18, .row 29 (Enc.cells r1662)), (19, .row 29 (Enc.cells r1682))] 20 (by kernel_rfl) ?_
              exact hK1673 (r1658.2.1, r1658.1, r1658.2.2.1, r1660.1, r1660.2.2.2, r1660.2.1, r1662, r1682, r1658.2.2.2, r1660.2.2.1) _ _ _ h (leSt_m [(0, 0), (1, 12), (2, 13), (3, 16), (4, 15), (5, 17), (6, 18), (7, 19), (8, 11), (9, 14)] [] (by simp only [push_cast, seval]) (by simp only [push_cast, seval]) rfl rfl rfl)
            · exact hK1673 (r1658.2.1, r1658.1, r1658.2.2.1, r1660.1, r1660.2.2.2, r1660.2.1, r1662, r1662, r1658.2.2.2, r1660.2.2.1) _ _ _ h (leSt_m [(0, 0), (1, 12), (2, 13), (3, 16), (4, 15), (5, 17), (6, 18), (7, 19), (8, 11), (9, 14)] [] (by simp only [push_cast, seval]) (by simp only [push_cast, seval]) rfl rfl rfl)
        · rintro ⟨xin1, c1_Free1, c2q1, c3_Free1, c4q3, c5q1, c6q1, c7q3, c8q1, c9q1⟩ h
          try dsimp only at h ⊢
          unfold taskmilllaw_SyncSemas_j11 at h
          refine seq_cut (A := Fault) (fun a => ([(1, iS task), (2, iS n), (3, bS xtry), (4, .ptr 0 0), (10, .ptr 1 0), (11, bS xin1), (12, .ptr 2 0), (13, .ptr 3 0), (14, .own 4 0 c4q3.length), (15, .ptr 5 0), (16, .ptr 6 0), (17, .ptr 7 0)], [(0, .row 24 (Enc.cells s)), (1, .row 24 [iS c1_Free1, .own 8 0 c8q1.length]), (2, .row 29 (Enc.cells c2q1)), (3, .row 24 [iS c3_Free1, .own 9 0 c9q1.length]), (4, .row 3 (fl c4q3)), (5, .row 29 (Enc.cells c5q1)), (6, .row 29 (Enc.cells c6q1)), (7, .row 29 (Enc.cells a)), (8, .row 42 (fl c8q1)), (9, .row 42 (fl c9q1))], 10)) (fun a => (taskmilllaw_SyncSemas_j9 s task n xtry xin1 c1_Free1 c2q1 c3_Free1 c4q3 c5q1 c6q1 c8q1 c9q1 a) = some r) (fun K1691 hK1691 => ?_) ?_
          · refine seq_cut (A := Bool) (fun a => ([(1, iS task), (2, iS n), (3, bS xtry), (4, .ptr 0 0), (10, .ptr 1 0), (11, bS xin1), (12, .ptr 2 0), (13, .ptr 3 0), (14, .own 4 0 c4q3.length), (15, .ptr 5 0), (16, .ptr 6 0), (17, .ptr 7 0), (82, bS a)], [(0, .row 24 (Enc.cells s)), (1, .row 24 [iS c1_Free1, .own 8 0 c8q1.length]), (2, .row 29 (Enc.cells c2q1)), (3, .row 24 [iS c3_Free1, .own 9 0 c9q1.length]), (4, .row 3 (fl c4q3)), (5, .row 29 (Enc.cells c5q1)), (6, .row 29 (Enc.cells c6q1)), (7, .row 29 (Enc.cells c7q3)), (8, .row 42 (fl c8q1)), (9, .row 42 (fl c9q1))], 10)) (fun a => (taskmilllaw_SyncSemas_j10 s task n xtry xin1 c1_Free1 c2q1 c3_Free1 c4q3 c5q1 c6q1 c7q3 c8q1 c9q1 a) = some r) (fun K1695 hK1695 => ?_) ?_
            · refine reg_f ?_
              refine rs 4 [] [] (by kernel_rfl) allP_nil ?_
              refine run_br h 76 (.inl (by kernel_rfl)) (fun g1696 h => ?_) (fun g1696 h => ?_)
              · refine rs 3 [] [] (by kernel_rfl) allP_nil ?_
                obtain ⟨r1697, hr1697, h⟩ := bind_sx h
                refine run_call 20 [.sl s.Line.length (fl s.Line), iS task] (some 80) (by kernel_rfl) ?_
                refine call_0 (taskmillref_InLine_spec s.Line task r1697 hr1697) (by simp only [push_cast, seval]) (by simp only [push_cast, seval]) ?_
                refine back_f ?_
                refine rs 2 [] [] (by kernel_rfl) allP_nil ?_
                refine rf [(1, iS task), (2, iS n), (3, bS xtry), (4, .ptr 0 0), (10, .ptr 1 0), (11, bS xin1), (12, .ptr 2 0), (13, .ptr 3 0), (14, .own 4 0 c4q3.length), (15, .ptr 5 0), (16, .ptr 6 0), (17, .ptr 7 0), (82, bS (decide ((0 : Int) ≤ r1697)))] [(0, .row 24 (Enc.cells s)), (1, .row 24 [iS c1_Free1, .own 8 0 c8q1.length]), (2, .row 29 (Enc.cells c2q1)), (3, .row 24 [iS c3_Free1, .own 9 0 c9q1.length]), (4, .row 3 (fl c4q3)), (5, .row 29 (Enc.cells c5q1)), (6, .row 29 (Enc.cells c6q1)), (7, .row 29 (Enc.cells c7q3)), (8, .row 42 (fl c8q1)), (9, .row 42 (fl c9q1))] 10 (by kernel_rfl) ?_
                exact hK1695 ((decide ((0 : Int) ≤ r1697))) _ _ _ h (leSt_m [(0, 0), (1, 1), (2, 2), (3, 3), (4, 4), (5, 5), (6, 6), (7, 7), (8, 8), (9, 9)] [] (by (try simp only [g1696]) <;> simp only [push_cast, seval]) (by (try simp only [g1696]) <;> simp only [push_cast, seval]) rfl rfl rfl)
              · refine rs 6 [] [] (by kernel_rfl) allP_nil ?_
                refine rf [(1, iS task), (2, iS n), (3, bS xtry), (4, .ptr 0 0), (10, .ptr 1 0), (11, bS xin1), (12, .ptr 2 0), (13, .ptr 3 0), (14, .own 4 0 c4q3.length), (15, .ptr 5 0), (16, .ptr 6 0), (17, .ptr 7 0), (82, bS false)] [(0, .row 24 (Enc.cells s)), (1, .row 24 [iS c1_Free1, .own 8 0 c8q1.length]), (2, .row 29 (Enc.cells c2q1)), (3, .row 24 [iS c3_Free1, .own 9 0 c9q1.length]), (4, .row 3 (fl c4q3)), (5, .row 29 (Enc.cells c5q1)), (6, .row 29 (Enc.cells c6q1)), (7, .row 29 (Enc.cells c7q3)), (8, .row 42 (fl c8q1)), (9, .row 42 (fl c9q1))] 10 (by kernel_rfl) ?_
                exact hK1695 (false) _ _ _ h (leSt_m [(0, 0), (1, 1), (2, 2), (3, 3), (4, 4), (5, 5), (6, 6), (7, 7), (8, 8), (9, 9)] [] (by (try simp only [g1696]) <;> simp only [push_cast, seval]) (by (try simp only [g1696]) <;> simp only [push_cast, seval]) rfl rfl rfl)
            · rintro t82q2 h
              try dsimp only at h ⊢
              unfold taskmilllaw_SyncSemas_j10 at h
              refine cond_sx h (by kernel_rfl) (fun g1700 h => ?_) (fun g1700 h => ?_)
              · refine reg_f ?_
                obtain ⟨r1699, hr1699, h⟩ := bind_sx h
                refine run_call 19 [iS 10, iS (-1)] (some 83) (by kernel_rfl) ?_
                refine call_0 (taskmillref_F_spec 10 (-1) r1699 hr1699) (by simp only [push_cast, seval]) (by simp only [push_cast, seval]) ?_
                refine back_f ?_
                refine rs 1 [] [] (by kernel_rfl) allP_nil ?_
                refine rf [(1, iS task), (2, iS n), (3, bS xtry), (4, .ptr 0 0), (10, .ptr 1 0), (11, bS xin1), (12, .ptr 2 0), (13, .ptr 3 0), (14, .own 4 0 c4q3.length), (15, .ptr 5 0), (16, .ptr 6 0), (17, .ptr 7 0)] [(0, .row 24 (Enc.cells s)), (1, .row 24 [iS c1_Free1, .own 8 0 c8q1.length]), (2, .row 29 (Enc.cells c2q1)), (3, .row 24 [iS c3_Free1, .own 9 0 c9q1.length]), (4, .row 3 (fl c4q3)), (5, .row 29 (Enc.cells c5q1)), (6, .row 29 (Enc.cells c6q1)), (7, .row 29 (Enc.cells r1699)), (8, .row 42 (fl c8q1)), (9, .row 42 (fl c9q1))] 10 (by kernel_rfl) ?_
                exact hK1691 (r1699) _ _ _ h (leSt_m [(0, 0), (1, 1), (2, 2), (3, 3), (4, 4), (5, 5), (6, 6), (7, 7), (8, 8), (9, 9)] [] (by simp only [push_cast, seval]) (by simp only [push_cast, seval]) rfl rfl rfl)
              · exact hK1691 (c7q3) _ _ _ h (leSt_m [(0, 0), (1, 1), (2, 2), (3, 3), (4, 4), (5, 5), (6, 6), (7, 7), (8, 8), (9, 9)] [] (by simp only [push_cast, seval]) (by simp only [push_cast, seval]) rfl rfl rfl)
          · rintro c7q4 h
            try dsimp only at h ⊢
            unfold taskmilllaw_SyncSemas_j9 at h
            refine seq_cut (A := Fault) (fun a => ([(1, iS task), (2, iS n), (3, bS xtry), (4, .ptr 0 0), (10, .ptr 1 0), (11, bS xin1), (12, .ptr 2 0), (13, .ptr 3 0), (14, .own 4 0 c4q3.length), (15, .ptr 5 0), (16, .ptr 6 0), (17, .ptr 7 0)], [(0, .row 24 (Enc.cells s)), (1, .row 24 [iS c1_Free1, .own 8 0 c8q1.length]), (2, .row 29 (Enc.cells c2q1)), (3, .row 24 [iS c3_Free1, .own 9 0 c9q1.length]), (4, .row 3 (fl c4q3)), (5, .row 29 (Enc.cells c5q1)), (6, .row 29 (Enc.cells c6q1)), (7, .row 29 (Enc.cells a)), (8, .row 42 (fl c8q1)), (9, .row 42 (fl c9q1))], 10)) (fun a => (taskmilllaw_SyncSemas_j8 s task n xtry xin1 c1_Free1 c2q1 c3_Free1 c4q3 c5q1 c6q1 c8q1 c9q1 a) = some r) (fun K1705 hK1705 => ?_) ?_
            · refine seq_cut (A := Unit) (fun _ => ([(1, iS task), (2, iS n), (3, bS xtry), (4, .ptr 0 0), (10, .ptr 1 0), (11, bS xin1), (12, .ptr 2 0), (13, .ptr 3 0), (14, .own 4 0 c4q3.length), (15, .ptr 5 0), (16, .ptr 6 0), (17, .ptr 7 0), (92, bS ((c7q4.Code == 0) && (((s.Line.length : Nat) : Int) == 5000)))], [(0, .row 24 (Enc.cells s)), (1, .row 24 [iS c1_Free1, .own 8 0 c8q1.length]), (2, .row 29 (Enc.cells c2q1)), (3, .row 24 [iS c3_Free1, .own 9 0 c9q1.length]), (4, .row 3 (fl c4q3)), (5, .row 29 (Enc.cells c5q1)), (6, .row 29 (Enc.cells c6q1)), (7, .row 29 (Enc.cells c7q4)), (8, .row 42 (fl c8q1)), (9, .row 42 (fl c9q1))], 10)) (fun _ => True) (fun K1707 hK1707 => ?_) (fun _ _ => ?_)
              · refine reg_f ?_
                refine rs 4 [] [] (by kernel_rfl) allP_nil ?_
                refine run_split 87 (c7q4.Code == 0) (.inl (by kernel_rfl)) (fun g1708 => ?_) (fun g1708 => ?_)
                · refine rs 5 [] [] (by kernel_rfl) allP_nil ?_
                  refine rf [(1, iS task), (2, iS n), (3, bS xtry), (4, .ptr 0 0), (10, .ptr 1 0), (11, bS xin1), (12, .ptr 2 0), (13, .ptr 3 0), (14, .own 4 0 c4q3.length), (15, .ptr 5 0), (16, .ptr 6 0), (17, .ptr 7 0), (92, bS (((s.Line.length : Nat) : Int) == 5000))] [(0, .row 24 (Enc.cells s)), (1, .row 24 [iS c1_Free1, .own 8 0 c8q1.length]), (2, .row 29 (Enc.cells c2q1)), (3, .row 24 [iS c3_Free1, .own 9 0 c9q1.length]), (4, .row 3 (fl c4q3)), (5, .row 29 (Enc.cells c5q1)), (6, .row 29 (Enc.cells c6q1)), (7, .row 29 (Enc.cells c7q4)), (8, .row 42 (fl c8q1)), (9, .row 42 (fl c9q1))] 10 (by kernel_rfl) ?_
                  exact hK1707 () _ _ _ trivial (leSt_m [(0, 0), (1, 1), (2, 2), (3, 3), (4, 4), (5, 5), (6, 6), (7, 7), (8, 8), (9, 9)] [] (by (try simp only [g1708]) <;> simp only [push_cast, seval]) (by (try simp only [g1708]) <;> simp only [push_cast, seval]) rfl rfl rfl)
                · refine rs 5 [] [] (by kernel_rfl) allP_nil ?_
                  refine rf [(1, iS task), (2, iS n), (3, bS xtry), (4, .ptr 0 0), (10, .ptr 1 0), (11, bS xin1), (12, .ptr 2 0), (13, .ptr 3 0), (14, .own 4 0 c4q3.length), (15, .ptr 5 0), (16, .ptr 6 0), (17, .ptr 7 0), (92, bS false)] [(0, .row 24 (Enc.cells s)), (1, .row 24 [iS c1_Free1, .own 8 0 c8q1.length]), (2, .row 29 (Enc.cells c2q1)), (3, .row 24 [iS c3_Free1, .own 9 0 c9q1.length]), (4, .row 3 (fl c4q3)), (5, .row 29 (Enc.cells c5q1)), (6, .row 29 (Enc.cells c6q1)), (7, .row 29 (Enc.cells c7q4)), (8, .row 42 (fl c8q1)), (9, .row 42 (fl c9q1))] 10 (by kernel_rfl) ?_
                  exact hK1707 () _ _ _ trivial (leSt_m [(0, 0), (1, 1), (2, 2), (3, 3), (4, 4), (5, 5), (6, 6), (7, 7), (8, 8), (9, 9)] [] (by (try simp only [g1708]) <;> simp only [push_cast, seval]) (by (try simp only [g1708]) <;> simp only [push_cast, seval]) rfl rfl rfl)
              · dsimp only
                refine cond_sx h (by kernel_rfl) (fun g1711 h => ?_) (fun g1711 h => ?_)
                · refine reg_f ?_
                  obtain ⟨r1710, hr1710, h⟩ := bind_sx h
                  refine run_call 19 [iS 9, iS 0] (some 93) (by kernel_rfl) ?_
                  refine call_0 (taskmillref_F_spec 9 0 r1710 hr1710) (by simp only [push_cast, seval]) (by simp only [push_cast, seval]) ?_
                  refine back_f ?_
                  refine rs 1 [] [] (by kernel_rfl) allP_nil ?_
                  refine rf [(1, iS task), (2, iS n), (3, bS xtry), (4, .ptr 0 0), (10, .ptr 1 0), (11, bS xin1), (12, .ptr 2 0), (13, .ptr 3 0), (14, .own 4 0 c4q3.length), (15, .ptr 5 0), (16, .ptr 6 0), (17, .ptr 7 0)] [(0, .row 24 (Enc.cells s)), (1, .row 24 [iS c1_Free1, .own 8 0 c8q1.length]), (2, .row 29 (Enc.cells c2q1)), (3, .row 24 [iS c3_Free1, .own 9 0 c9q1.length]), (4, .row 3 (fl c4q3)), (5, .row 29 (Enc.cells c5q1)), (6, .row 29 (Enc.cells c6q1)), (7, .row 29 (Enc.cells r1710)), (8, .row 42 (fl c8q1)), (9, .row 42 (fl c9q1))] 10 (by kernel_rfl) ?_
                  exact hK1705 (r1710) _ _ _ h (leSt_m [(0, 0), (1, 1), (2, 2), (3, 3), (4, 4), (5, 5), (6, 6), (7, 7), (8, 8), (9, 9)] [] (by simp only [push_cast, seval]) (by simp only [push_cast, seval]) rfl rfl rfl)
                · exact hK1705 (c7q4) _ _ _ h (leSt_m [(0, 0), (1, 1), (2, 2), (3, 3), (4, 4), (5, 5), (6, 6), (7, 7), (8, 8), (9, 9)] [] (by simp only [push_cast, seval]) (by simp only [push_cast, seval]) rfl rfl rfl)
            · rintro c7q5 h
              try dsimp only at h ⊢
              unfold taskmilllaw_SyncSemas_j8 at h
              refine seq_np ?_
              refine seq_np ?_
              refine reg_f ?_
              refine rs 3 [] [] (by kernel_rfl) allP_nil ?_
              refine rf [(1, iS task), (2, iS n), (3, bS xtry), (4, .ptr 0 0), (10, .ptr 1 0), (11, bS xin1), (13, .ptr 3 0), (14, .own 4 0 c4q3.length), (15, .ptr 5 0), (16, .ptr 6 0), (17, .ptr 7 0), (96, bS (!((c2q1.Code == c7q5.Code) && ((c2q1.At == c7q5.At) && true))))] [(0, .row 24 (Enc.cells s)), (1, .row 24 [iS c1_Free1, .own 8 0 c8q1.length]), (2, .row 29 (Enc.cells c2q1)), (3, .row 24 [iS c3_Free1, .own 9 0 c9q1.length]), (4, .row 3 (fl c4q3)), (5, .row 29 (Enc.cells c5q1)), (6, .row 29 (Enc.cells c6q1)), (7, .row 29 (Enc.cells c7q5)), (8, .row 42 (fl c8q1)), (9, .row 42 (fl c9q1))] 10 (by kernel_rfl) ?_
              refine wk_id ?_
              refine cond_sx h (by kernel_rfl) (fun g1814 h => ?_) (fun g1814 h => ?_)
              · refine seq_np ?_
                refine reg_f ?_
                refine rs 1 [] [] (by kernel_rfl) allP_nil ?_
                refine rf [(8, bS false)] [(0, .row 24 (Enc.cells s)), (1, .row 24 [iS c1_Free1, .own 8 0 c8q1.length]), (2, .row 29 (Enc.cells c2q1)), (3, .row 24 [iS c3_Free1, .own 9 0 c9q1.length]), (4, .row 3 (fl c4q3)), (5, .row 29 (Enc.cells c5q1)), (6, .row 29 (Enc.cells c6q1)), (7, .row 29 (Enc.cells c7q5)), (8, .row 42 (fl c8q1)), (9, .row 42 (fl c9q1))] 10 (by kernel_rfl) ?_
                refine wk_id ?_
                obtain rfl := Option.some.inj h
                refine ret_at (bS false) (by kernel_rfl) ?_
                exact ret_e [] [] (by simp only [push_cast, seval]) (by simp only [push_cast, seval]) rfl rfl rfl
              · refine wk_id ?_
                refine seq_cut (A := Unit) (fun a => ([(2, iS n), (4, .ptr 0 0), (13, .ptr 1 0), (14, .own 2 0 c4q3.length), (15, .ptr 3 0), (16, .ptr 4 0)], [(0, .row 24 (Enc.cells s)), (1, .row 24 [iS c3_Free1, .own 5 0 c9q1.length]), (2, .row 3 (fl c4q3)), (3, .row 29 (Enc.cells c5q1)), (4, .row 29 (Enc.cells c6q1)), (5, .row 42 (fl c9q1))], 6)) (fun a => (taskmilllaw_SyncSemas_j5 s n c3_Free1 c4q3 c5q1 c6q1 c9q1) = some r) (fun K1732 hK1732 => ?_) ?_
                · refine seq_np ?_
                  refine reg_f ?_
                  refine rs 3 [] [] (by kernel_rfl) allP_nil ?_
                  refine rf [(1, iS task), (2, iS n), (3, bS xtry), (4, .ptr 0 0), (10, .ptr 1 0), (11, bS xin1), (13, .ptr 3 0), (14, .own 4 0 c4q3.length), (15, .ptr 5 0), (16, .ptr 6 0), (99, bS (c7q5.Code != 0))] [(0, .row 24 (Enc.cells s)), (1, .row 24 [iS c1_Free1, .own 8 0 c8q1.length]), (2, .row 29 (Enc.cells c2q1)), (3, .row 24 [iS c3_Free1, .own 9 0 c9q1.length]), (4, .row 3 (fl c4q3)), (5, .row 29 (Enc.cells c5q1)), (6, .row 29 (Enc.cells c6q1)), (7, .row 29 (Enc.cells c7q5)), (8, .row 42 (fl c8q1)), (9, .row 42 (fl c9q1))] 10 (by kernel_rfl) ?_
                  refine wk_id ?_
                  refine cond_sx h (by kernel_rfl) (fun g1764 h => ?_) (fun g1764 h => ?_)
                  · refine seq_cut (A := Bool) (fun a => ([(2, iS n), (4, .ptr 0 0), (13, .ptr 1 0), (14, .own 2 0 c4q3.length), (15, .ptr 3 0), (16, .ptr 4 0), (106, bS a)], [(0, .row 24 (Enc.cells s)), (1, .row 24 [iS c3_Free1, .own 5 0 c9q1.length]), (2, .row 3 (fl c4q3)), (3, .row 29 (Enc.cells c5q1)), (4, .row 29 (Enc.cells c6q1)), (5, .row 42 (fl c9q1))], 6)) (fun a => (taskmilllaw_SyncSemas_j6 s n c3_Free1 c4q3 c5q1 c6q1 c9q1 a) = some r) (fun K1736 hK1736 => ?_) ?_
                    · refine reg_f ?_
                      refine rs 2 [] [] (by kernel_rfl) allP_nil ?_
                      obtain ⟨r1737, hr1737, h⟩ := bind_sx h
                      refine call_x (taskmilllaw_sameSema_spec (Sema.mk c1_Free1 c8q1) (Sema.mk 0 []) r1737 hr1737) (args := [.agg [iS c1_Free1, .own 8 0 c8q1.length], .agg [iS 0, .v (.slice none 0 0)]]) (dst := (some 102)) (by kernel_rfl) [(0, .row 24 (Enc.cells s)), (1, .row 24 [iS c1_Free1, .own 8 0 c8q1.length]), (2, .row 29 (Enc.cells c2q1)), (3, .row 24 [iS c3_Free1, .own 9 0 c9q1.length]), (4, .row 3 (fl c4q3)), (5, .row 29 (Enc.cells c5q1)), (6, .row 29 (Enc.cells c6q1)), (7, .row 29 (Enc.cells c7q5)), (8, .row 42 (fl c8q1)), (9, .row 42 (fl c9q1))] 10 (by kernel_rfl) [] [8] (bS r1737) [] (by simp only [push_cast, seval]) (by simp only [push_cast, seval]) (by kernel_rfl) (.inr ⟨by simp only [push_cast, seval], by simp only [push_cast, seval]⟩) (by simp only [push_cast, seval]) (by simp only [push_cast, seval]) ?_
                      refine rs 2 [] [] (by kernel_rfl) allP_nil ?_
                      refine run_br h 104 (.inl (by kernel_rfl)) (fun g1738 h => ?_) (fun g1738 h => ?_)
                      · refine rs 2 [] [] (by kernel_rfl) allP_nil ?_
                        refine rf [(2, iS n), (4, .ptr 0 0), (13, .ptr 3 0), (14, .own 4 0 c4q3.length), (15, .ptr 5 0), (16, .ptr 6 0), (106, bS true)] [(0, .row 24 (Enc.cells s)), (1, .row 24 [iS c1_Free1, .own 8 0 c8q1.length]), (2, .row 29 (Enc.cells c2q1)), (3, .row 24 [iS c3_Free1, .own 9 0 c9q1.length]), (4, .row 3 (fl c4q3)), (5, .row 29 (Enc.cells c5q1)), (6, .row 29 (Enc.cells c6q1)), (7, .row 29 (Enc.cells c7q5)), (8, .row 42 (fl c8q1)), (9, .row 42 (fl c9q1))] 10 (by kernel_rfl) ?_
                        exact hK1736 (true) _ _ _ h (leSt_m [(0, 0), (1, 3), (2, 4), (3, 5), (4, 6), (5, 9)] [] (by (try simp only [g1738]) <;> simp only [push_cast, seval]) (by (try simp only [g1738]) <;> simp only [push_cast, seval]) rfl rfl rfl)
                      · refine rs 2 [] [] (by kernel_rfl) allP_nil ?_
                        refine rf [(2, iS n), (4, .ptr 0 0), (13, .ptr 3 0), (14, .own 4 0 c4q3.length), (15, .ptr 5 0), (16, .ptr 6 0), (106, bS xin1)] [(0, .row 24 (Enc.cells s)), (1, .row 24 [iS c1_Free1, .own 8 0 c8q1.length]), (2, .row 29 (Enc.cells c2q1)), (3, .row 24 [iS c3_Free1, .own 9 0 c9q1.length]), (4, .row 3 (fl c4q3)), (5, .row 29 (Enc.cells c5q1)), (6, .row 29 (Enc.cells c6q1)), (7, .row 29 (Enc.cells c7q5)), (8, .row 42 (fl c8q1)), (9, .row 42 (fl c9q1))] 10 (by kernel_rfl) ?_
                        exact hK1736 (xin1) _ _ _ h (leSt_m [(0, 0), (1, 3), (2, 4), (3, 5), (4, 6), (5, 9)] [] (by (try simp only [g1738]) <;> simp only [push_cast, seval]) (by (try simp only [g1738]) <;> simp only [push_cast, seval]) rfl rfl rfl)
                    · rintro t106q2 h
                      try dsimp only at h ⊢
                      unfold taskmilllaw_SyncSemas_j6 at h
                      refine cond_sx h (by kernel_rfl) (fun g1739 h => ?_) (fun g1739 h => ?_)
                      · refine seq_np ?_
                        refine reg_f ?_
                        refine rs 1 [] [] (by kernel_rfl) allP_nil ?_
                        refine rf [(8, bS false)] [(0, .row 24 (Enc.cells s)), (1, .row 24 [iS c3_Free1, .own 5 0 c9q1.length]), (2, .row 3 (fl c4q3)), (3, .row 29 (Enc.cells c5q1)), (4, .row 29 (Enc.cells c6q1)), (5, .row 42 (fl c9q1))] 6 (by kernel_rfl) ?_
                        refine wk_id ?_
                        obtain rfl := Option.some.inj h
                        refine ret_at (bS false) (by kernel_rfl) ?_
                        exact ret_e [] [] (by simp only [push_cast, seval]) (by simp only [push_cast, seval]) rfl rfl rfl
                      · exact hK1732 () _ _ _ h (leSt_m [(0, 0), (1, 1), (2, 2), (3, 3), (4, 4), (5, 5)] [] (by simp only [push_cast, seval]) (by simp only [push_cast, seval]) rfl rfl rfl)
                  · refine seq_np ?_
                    refine reg_t ?_
                    refine rs 4 [] [] (by kernel_rfl) allP_nil ?_
                    obtain ⟨r1744, hr1744, h⟩ := bind_sx h
                    refine call_x (taskmilllaw_ownWants_spec s.Line r1744 hr1744) (args := [.sl s.Line.length (fl s.Line)]) (dst := (some 112)) (by kernel_rfl) [(0, .row 24 (Enc.cells s)), (1, .row 24 [iS c1_Free1, .own 8 0 c8q1.length]), (2, .row 29 (Enc.cells c2q1)), (3, .row 24 [iS c3_Free1, .own 9 0 c9q1.length]), (4, .row 3 (fl c4q3)), (5, .row 29 (Enc.cells c5q1)), (6, .row 29 (Enc.cells c6q1)), (7, .row 29 (Enc.cells c7q5)), (8, .row 42 (fl c8q1)), (9, .row 42 (fl c9q1))] 14 (by kernel_rfl) [] [] (.own 14 0 r1744.length) [(14, .row 42 (fl r1744))] (by simp only [push_cast, seval]) (by simp only [push_cast, seval]) (by kernel_rfl) (.inl rfl) (by simp only [push_cast, seval]) (by simp only [push_cast, seval]) ?_
                    refine chk_sx h (fun g1746 h => ?_)
                    have k1745 : (r1744 ++ ([(Want.mk task false n)] : List Want)).length * 24 ≤ 140737488355328 := by first | simpa only [Bool.and_eq_true, decide_eq_true_eq, bne_iff_ne, ne_eq] using g1746 | (simp at g1746 ⊢; omega)
                    refine rs 6 [none, none, none, none, some ⟨.own 21 0 (r1744 ++ ([(Want.mk task false n)] : List Want)).length, [(21, .row 42 (fl (r1744 ++ ([(Want.mk task false n)] : List Want)))), (14, .dead)], 22, [14, 19]⟩] _ (by kernel_rfl) (allP_cons (ob_app (P := Try.prog) r1744 ([(Want.mk task false n)] : List Want) 3 24 rfl (appCells (fl ([(Want.mk task false n)] : List Want)) 0 (([(Want.mk task false n)] : List Want).length * 3)) ([(Want.mk task false n)] : List Want).length (app_own ([(Want.mk task false n)] : List Want) 3 rfl) rfl (0 + ([(Want.mk task false n)] : List Want).length * 3 ≤ (fl ([(Want.mk task false n)] : List Want)).length) (app_own_le ([(Want.mk task false n)] : List Want) 3 rfl) 42 (by kernel_rfl) (by decide) k1745 14 21 [19]) allP_nil) ?_
                    obtain ⟨r1747, hr1747, h⟩ := bind_sx h
                    refine call_x (taskmillref_Given_1_spec s.Free (r1744 ++ ([(Want.mk task false n)] : List Want)) r1747 hr1747) (args := [.agg [iS s.Free, .own 21 0 (r1744 ++ ([(Want.mk task false n)] : List Want)).length]]) (dst := (some 119)) (by kernel_rfl) [(0, .row 24 (Enc.cells s)), (1, .row 24 [iS c1_Free1, .own 8 0 c8q1.length]), (2, .row 29 (Enc.cells c2q1)), (3, .row 24 [iS c3_Free1, .own 9 0 c9q1.length]), (4, .row 3 (fl c4q3)), (5, .row 29 (Enc.cells c5q1)), (6, .row 29 (Enc.cells c6q1)), (7, .row 29 (Enc.cells c7q5)), (8, .row 42 (fl c8q1)), (9, .row 42 (fl c9q1)), (14, .dead), (19, .row 42 (fl ([(Want.mk task false n)] : List Want))), (21, .row 42 (fl (r1744 ++ ([(Want.mk task false n)] : List Want))))] 24 (by kernel_rfl) [(0, 21)] [] (.tup [.agg [iS r1747.1, .own 25 0 r1747.2.1.length], .own 26 0 r1747.2.2.length]) [(21, .dead), (25, .row 42 (fl r1747.2.1)), (26, .row 3 (fl r1747.2.2)), (21, .dead)] (by simp only [push_cast, seval]) (by simp only [push_cast, seval]) (by kernel_rfl) (.inl rfl) (by simp only [push_cast, seval]) (by simp only [push_cast, seval]) ?_
                    refine rs 6 [] [] (by kernel_rfl) allP_nil ?_
                    refine rt [(1, iS task), (2, iS n), (3, bS xtry), (4, .ptr 0 0), (10, .ptr 1 0), (11, bS xin1), (13, .ptr 3 0), (14, .own 4 0 c4q3.length), (15, .ptr 5 0), (16, .ptr 6 0), (18, .ptr 31 0), (19, .own 26 0 r1747.2.2.length)] [(0, .row 24 (Enc.cells s)), (1, .row 24 [iS c1_Free1, .own 8 0 c8q1.length]), (2, .row 29 (Enc.cells c2q1)), (3, .row 24 [iS c3_Free1, .own 9 0 c9q1.length]), (4, .row 3 (fl c4q3)), (5, .row 29 (Enc.cells c5q1)), (6, .row 29 (Enc.cells c6q1)), (7, .row 29 (Enc.cells c7q5)), (8, .row 42 (fl c8q1)), (9, .row 42 (fl c9q1)), (14, .dead), (19, .row 42 (fl ([(Want.mk task false n)] : List Want))), (21, .dead), (25, .row 42 (fl r1747.2.1)), (26, .row 3 (fl r1747.2.2)), (31, .row 24 [iS r1747.1, .own 25 0 r1747.2.1.length])] 35 follows (by kernel_rfl) ?_
                    refine wk_id ?_
                    refine seq_np ?_
                    refine seq_np ?_
                    refine reg_f ?_
                    refine rs 3 [] [] (by kernel_rfl) allP_nil ?_
                    obtain ⟨r1751, hr1751, h⟩ := bind_sx h
                    refine call_x (taskmillref_Has_spec r1747.2.2 task r1751 hr1751) (args := [.own 26 0 r1747.2.2.length, iS task]) (dst := (some 125)) (by kernel_rfl) [(0, .row 24 (Enc.cells s)), (1, .row 24 [iS c1_Free1, .own 8 0 c8q1.length]), (2, .row 29 (Enc.cells c2q1)), (3, .row 24 [iS c3_Free1, .own 9 0 c9q1.length]), (4, .row 3 (fl c4q3)), (5, .row 29 (Enc.cells c5q1)), (6, .row 29 (Enc.cells c6q1)), (7, .row 29 (Enc.cells c7q5)), (8, .row 42 (fl c8q1)), (9, .row 42 (fl c9q1)), (14, .dead), (19, .row 42 (fl ([(Want.mk task false n)] : List Want))), (21, .dead), (25, .row 42 (fl r1747.2.1)), (26, .row 3 (fl r1747.2.2)), (31, .row 24 [iS r1747.1, .own 25 0 r1747.2.1.length])] 35 (by kernel_rfl) [] [26] (bS r1751) [] (by simp only [push_cast, seval]) (by simp only [push_cast, seval]) (by kernel_rfl) (.inr ⟨by simp only [push_cast, seval], by simp only [push_cast, seval]⟩) (by simp only [push_cast, seval]) (by simp only [push_cast, seval]) ?_
                    refine rs 1 [] [] (by kernel_rfl) allP_nil ?_
                    refine rf [(2, iS n), (3, bS xtry), (4, .ptr 0 0), (10, .ptr 1 0), (11, bS xin1), (13, .ptr 3 0), (14, .own 4 0 c4q3.length), (15, .ptr 5 0), (16, .ptr 6 0), (18, .ptr 31 0), (126, bS (xin1 != r1751))] [(0, .row 24 (Enc.cells s)), (1, .row 24 [iS c1_Free1, .own 8 0 c8q1.length]), (2, .row 29 (Enc.cells c2q1)), (3, .row 24 [iS c3_Free1, .own 9 0 c9q1.length]), (4, .row 3 (fl c4q3)), (5, .row 29 (Enc.cells c5q1)), (6, .row 29 (Enc.cells c6q1)), (7, .row 29 (Enc.cells c7q5)), (8, .row 42 (fl c8q1)), (9, .row 42 (fl c9q1)), (14, .dead), (19, .row 42 (fl ([(Want.mk task false n)] : List Want))), (21, .dead), (25, .row 42 (fl r1747.2.1)), (26, .row 3 (fl r1747.2.2)), (31, .row 24 [iS r1747.1, .own 25 0 r1747.2.1.length])] 35 (by kernel_rfl) ?_
                    refine wk_id ?_
                    refine cond_sx h (by kernel_rfl) (fun g1763 h => ?_) (fun g1763 h => ?_)
                    · refine seq_np ?_
                      refine reg_f ?_
                      refine rs 1 [] [] (by kernel_rfl) allP_nil ?_
                      refine rf [(8, bS false)] [(0, .row 24 (Enc.cells s)), (1, .row 24 [iS c1_Free1, .own 8 0 c8q1.length]), (2, .row 29 (Enc.cells c2q1)), (3, .row 24 [iS c3_Free1, .own 9 0 c9q1.length]), (4, .row 3 (fl c4q3)), (5, .row 29 (Enc.cells c5q1)), (6, .row 29 (Enc.cells c6q1)), (7, .row 29 (Enc.cells c7q5)), (8, .row 42 (fl c8q1)), (9, .row 42 (fl c9q1)), (14, .dead), (19, .row 42 (fl ([(Want.mk task false n)] : List Want))), (21, .dead), (25, .row 42 (fl r1747.2.1)), (26, .row 3 (fl r1747.2.2)), (31, .row 24 [iS r1747.1, .own 25 0 r1747.2.1.length])] 35 (by kernel_rfl) ?_
                      refine wk_id ?_
                      obtain rfl := Option.some.inj h
                      refine ret_at (bS false) (by kernel_rfl) ?_
                      exact ret_e [] [] (by simp only [push_cast, seval]) (by simp only [push_cast, seval]) rfl rfl rfl
                    · refine wk_id ?_
                      refine seq_cut (A := Int × (List Want)) (fun a => ([(2, iS n), (4, .ptr 0 0), (10, .ptr 1 0), (13, .ptr 2 0), (14, .own 3 0 c4q3.length), (15, .ptr 4 0), (16, .ptr 5 0), (18, .ptr 6 0)], [(0, .row 24 (Enc.cells s)), (1, .row 24 [iS c1_Free1, .own 7 0 c8q1.length]), (2, .row 24 [iS c3_Free1, .own 8 0 c9q1.length]), (3, .row 3 (fl c4q3)), (4, .row 29 (Enc.cells c5q1)), (5, .row 29 (Enc.cells c6q1)), (6, .row 24 [iS a.1, .sl a.2.length (fl a.2)]), (7, .row 42 (fl c8q1)), (8, .row 42 (fl c9q1))], 9)) (fun a => (taskmilllaw_SyncSemas_j7 s n c1_Free1 c3_Free1 c4q3 c5q1 c6q1 c8q1 c9q1 a.1 a.2) = some r) (fun K1755 hK1755 => ?_) ?_
                      · refine seq_cut (A := Unit) (fun _ => ([(2, iS n), (4, .ptr 0 0), (10, .ptr 1 0), (13, .ptr 3 0), (14, .own 4 0 c4q3.length), (15, .ptr 5 0), (16, .ptr 6 0), (18, .ptr 31 0), (131, bS ((!xin1) && xtry))], [(0, .row 24 (Enc.cells s)), (1, .row 24 [iS c1_Free1, .own 8 0 c8q1.length]), (2, .row 29 (Enc.cells c2q1)), (3, .row 24 [iS c3_Free1, .own 9 0 c9q1.length]), (4, .row 3 (fl c4q3)), (5, .row 29 (Enc.cells c5q1)), (6, .row 29 (Enc.cells c6q1)), (7, .row 29 (Enc.cells c7q5)), (8, .row 42 (fl c8q1)), (9, .row 42 (fl c9q1)), (19, .row 42 (fl ([(Want.mk task false n)] : List Want))), (25, .row 42 (fl r1747.2.1)), (26, .row 3 (fl r1747.2.2)), (31, .row 24 [iS r1747.1, .own 25 0 r1747.2.1.length])], 35)) (fun _ => True) (fun K1757 hK1757 => ?_) (fun _ _ => ?_)
                        · refine reg_f ?_
                          refine rs 3 [] [] (by kernel_rfl) allP_nil ?_
                          refine run_split 129 (!xin1) (.inl (by kernel_rfl)) (fun g1758 => ?_) (fun g1758 => ?_)
                          · refine rs 2 [] [] (by kernel_rfl) allP_nil ?_
                            refine rf [(2, iS n), (4, .ptr 0 0), (10, .ptr 1 0), (13, .ptr 3 0), (14, .own 4 0 c4q3.length), (15, .ptr 5 0), (16, .ptr 6 0), (18, .ptr 31 0), (131, bS xtry)] [(0, .row 24 (Enc.cells s)), (1, .row 24 [iS c1_Free1, .own 8 0 c8q1.length]), (2, .row 29 (Enc.cells c2q1)), (3, .row 24 [iS c3_Free1, .own 9 0 c9q1.length]), (4, .row 3 (fl c4q3)), (5, .row 29 (Enc.cells c5q1)), (6, .row 29 (Enc.cells c6q1)), (7, .row 29 (Enc.cells c7q5)), (8, .row 42 (fl c8q1)), (9, .row 42 (fl c9q1)), (14, .dead), (19, .row 42 (fl ([(Want.mk task false n)] : List Want))), (21, .dead), (25, .row 42 (fl r1747.2.1)), (26, .row 3 (fl r1747.2.2)), (31, .row 24 [iS r1747.1, .own 25 0 r1747.2.1.length])] 35 (by kernel_rfl) ?_
                            exact hK1757 () _ _ _ trivial (leSt_m [(0, 0), (1, 1), (2, 2), (3, 3), (4, 4), (5, 5), (6, 6), (7, 7), (8, 8), (9, 9), (19, 19), (25, 25), (26, 26), (31, 31)] [] (by (try simp only [g1758]) <;> simp only [push_cast, seval]) (by (try simp only [g1758]) <;> simp only [push_cast, seval]) rfl rfl rfl)
                          · refine rs 2 [] [] (by kernel_rfl) allP_nil ?_
                            refine rf [(2, iS n), (4, .ptr 0 0), (10, .ptr 1 0), (13, .ptr 3 0), (14, .own 4 0 c4q3.length), (15, .ptr 5 0), (16, .ptr 6 0), (18, .ptr 31 0), (131, bS false)] [(0, .row 24 (Enc.cells s)), (1, .row 24 [iS c1_Free1, .own 8 0 c8q1.length]), (2, .row 29 (Enc.cells c2q1)), (3, .row 24 [iS c3_Free1, .own 9 0 c9q1.length]), (4, .row 3 (fl c4q3)), (5, .row 29 (Enc.cells c5q1)), (6, .row 29 (Enc.cells c6q1)), (7, .row 29 (Enc.cells c7q5)), (8, .row 42 (fl c8q1)), (9, .row 42 (fl c9q1)), (14, .dead), (19, .row 42 (fl ([(Want.mk task false n)] : List Want))), (21, .dead), (25, .row 42 (fl r1747.2.1)), (26, .row 3 (fl r1747.2.2)), (31, .row 24 [iS r1747.1, .own 25 0 r1747.2.1.length])] 35 (by kernel_rfl) ?_
                            exact hK1757 () _ _ _ trivial (leSt_m [(0, 0), (1, 1), (2, 2), (3, 3), (4, 4), (5, 5), (6, 6), (7, 7), (8, 8), (9, 9), (19, 19), (25, 25), (26, 26), (31, 31)] [] (by (try simp only [g1758]) <;> simp only [push_cast, seval]) (by (try simp only [g1758]) <;> simp only [push_cast, seval]) rfl rfl rfl)
                        · dsimp only
                          refine cond_sx h (by kernel_rfl) (fun g1759 h => ?_) (fun g1759 h => ?_)
                          · refine reg_f ?_
                            refine rs 2 [] [] (by kernel_rfl) allP_nil ?_
                            refine rf [(2, iS n), (4, .ptr 0 0), (10, .ptr 1 0), (13, .ptr 3 0), (14, .own 4 0 c4q3.length), (15, .ptr 5 0), (16, .ptr 6 0), (18, .ptr 31 0)] [(0, .row 24 (Enc.cells s)), (1, .row 24 [iS c1_Free1, .own 8 0 c8q1.length]), (2, .row 29 (Enc.cells c2q1)), (3, .row 24 [iS c3_Free1, .own 9 0 c9q1.length]), (4, .row 3 (fl c4q3)), (5, .row 29 (Enc.cells c5q1)), (6, .row 29 (Enc.cells c6q1)), (7, .row 29 (Enc.cells c7q5)), (8, .row 42 (fl c8q1)), (9, .row 42 (fl c9q1)), (19, .row 42 (fl ([(Want.mk task false n)] : List Want))), (25, .row 42 (fl r1747.2.1)), (26, .row 3 (fl r1747.2.2)), (31, .row 24 (Enc.cells s))] 35 (by kernel_rfl) ?_
                            exact hK1755 (s.Free, s.Line) _ _ _ h (leSt_m [(0, 0), (1, 1), (2, 3), (3, 4), (4, 5), (5, 6), (6, 31), (7, 8), (8, 9)] [] (by simp only [push_cast, seval]) (by simp only [push_cast, seval]) rfl rfl rfl)
                          · exact hK1755 (r1747.1, r1747.2.1) _ _ _ h (leSt_m [(0, 0), (1, 1), (2, 3), (3, 4), (4, 5), (5, 6), (6, 31), (7, 8), (8, 9)] [25] (by simp only [push_cast, seval]) (by simp only [push_cast, seval]) rfl rfl rfl)
                      · rintro ⟨c6_Free2, c6_Line2⟩ h
                        try dsimp only at h ⊢
                        unfold taskmilllaw_SyncSemas_j7 at h
                        refine seq_np ?_
                        refine reg_f ?_
                        refine rs 2 [] [] (by kernel_rfl) allP_nil ?_
                        obtain ⟨r1761, hr1761, h⟩ := bind_sx h
                        refine call_x (taskmilllaw_sameSema_spec (Sema.mk c1_Free1 c8q1) (Sema.mk c6_Free2 c6_Line2) r1761 hr1761) (args := [.agg [iS c1_Free1, .own 7 0 c8q1.length], .agg [iS c6_Free2, .sl c6_Line2.length (fl c6_Line2)]]) (dst := (some 135)) (by kernel_rfl) [(0, .row 24 (Enc.cells s)), (1, .row 24 [iS c1_Free1, .own 7 0 c8q1.length]), (2, .row 24 [iS c3_Free1, .own 8 0 c9q1.length]), (3, .row 3 (fl c4q3)), (4, .row 29 (Enc.cells c5q1)), (5, .row 29 (Enc.cells c6q1)), (6, .row 24 [iS c6_Free2, .sl c6_Line2.length (fl c6_Line2)]), (7, .row 42 (fl c8q1)), (8, .row 42 (fl c9q1))] 9 (by kernel_rfl) [] [7] (bS r1761) [] (by simp only [push_cast, seval]) (by simp only [push_cast, seval]) (by kernel_rfl) (.inr ⟨by simp only [push_cast, seval], by simp only [push_cast, seval]⟩) (by simp only [push_cast, seval]) (by simp only [push_cast, seval]) ?_
                        refine rs 1 [] [] (by kernel_rfl) allP_nil ?_
                        refine rf [(2, iS n), (4, .ptr 0 0), (13, .ptr 2 0), (14, .own 3 0 c4q3.length), (15, .ptr 4 0), (16, .ptr 5 0), (136, bS (!r1761))] [(0, .row 24 (Enc.cells s)), (1, .row 24 [iS c1_Free1, .own 7 0 c8q1.length]), (2, .row 24 [iS c3_Free1, .own 8 0 c9q1.length]), (3, .row 3 (fl c4q3)), (4, .row 29 (Enc.cells c5q1)), (5, .row 29 (Enc.cells c6q1)), (6, .row 24 [iS c6_Free2, .sl c6_Line2.length (fl c6_Line2)]), (7, .row 42 (fl c8q1)), (8, .row 42 (fl c9q1))] 9 (by kernel_rfl) ?_
                        refine wk_id ?_
                        refine cond_sx h (by kernel_rfl) (fun g1762 h => ?_) (fun g1762 h => ?_)
                        · refine seq_np ?_
                          refine reg_f ?_
                          refine rs 1 [] [] (by kernel_rfl) allP_nil ?_
                          refine rf [(8, bS false)] [(0, .row 24 (Enc.cells s)), (1, .row 24 [iS c1_Free1, .own 7 0 c8q1.length]), (2, .row 24 [iS c3_Free1, .own 8 0 c9q1.length]), (3, .row 3 (fl c4q3)), (4, .row 29 (Enc.cells c5q1)), (5, .row 29 (Enc.cells c6q1)), (6, .row 24 [iS c6_Free2, .sl c6_Line2.length (fl c6_Line2)]), (7, .row 42 (fl c8q1)), (8, .row 42 (fl c9q1))] 9 (by kernel_rfl) ?_
                          refine wk_id ?_
                          obtain rfl := Option.some.inj h
                          refine ret_at (bS false) (by kernel_rfl) ?_
                          exact ret_e [] [] (by simp only [push_cast, seval]) (by simp only [push_cast, seval]) rfl rfl rfl
                        · exact hK1732 () _ _ _ h (leSt_m [(0, 0), (1, 2), (2, 3), (3, 4), (4, 5), (5, 8)] [] (by simp only [push_cast, seval]) (by simp only [push_cast, seval]) rfl rfl rfl)
                · rintro _ h
                  try dsimp only at h ⊢
                  unfold taskmilllaw_SyncSemas_j5 at h
                  refine seq_cut (A := Fault) (fun a => ([(2, iS n), (4, .ptr 0 0), (13, .ptr 1 0), (14, .own 2 0 c4q3.length), (15, .ptr 3 0), (16, .ptr 4 0)], [(0, .row 24 (Enc.cells s)), (1, .row 24 [iS c3_Free1, .own 5 0 c9q1.length]), (2, .row 3 (fl c4q3)), (3, .row 29 (Enc.cells c5q1)), (4, .row 29 (Enc.cells a)), (5, .row 42 (fl c9q1))], 6)) (fun a => (taskmilllaw_SyncSemas_j4 s n c3_Free1 c4q3 c5q1 c9q1 a) = some r) (fun K1770 hK1770 => ?_) ?_
                  · refine seq_cut (A := Unit) (fun _ => ([(2, iS n), (4, .ptr 0 0), (13, .ptr 1 0), (14, .own 2 0 c4q3.length), (15, .ptr 3 0), (16, .ptr 4 0), (147, bS ((c6q1.Code == 0) && ((decide (n < 0)) || (decide ((1000000000 : Int) < n)))))], [(0, .row 24 (Enc.cells s)), (1, .row 24 [iS c3_Free1, .own 5 0 c9q1.length]), (2, .row 3 (fl c4q3)), (3, .row 29 (Enc.cells c5q1)), (4, .row 29 (Enc.cells c6q1)), (5, .row 42 (fl c9q1))], 6)) (fun _ => True) (fun K1773 hK1773 => ?_) (fun _ _ => ?_)
                    · refine reg_f ?_
                      refine rs 4 [] [] (by kernel_rfl) allP_nil ?_
                      refine run_split 140 (c6q1.Code == 0) (.inl (by kernel_rfl)) (fun g1774 => ?_) (fun g1774 => ?_)
                      · refine rs 3 [] [] (by kernel_rfl) allP_nil ?_
                        refine run_split 143 (decide (n < 0)) (.inr (by kernel_rfl)) (fun g1775 => ?_) (fun g1775 => ?_)
                        · refine rs 4 [] [] (by kernel_rfl) allP_nil ?_
                          refine rf [(2, iS n), (4, .ptr 0 0), (13, .ptr 1 0), (14, .own 2 0 c4q3.length), (15, .ptr 3 0), (16, .ptr 4 0), (147, bS true)] [(0, .row 24 (Enc.cells s)), (1, .row 24 [iS c3_Free1, .own 5 0 c9q1.length]), (2, .row 3 (fl c4q3)), (3, .row 29 (Enc.cells c5q1)), (4, .row 29 (Enc.cells c6q1)), (5, .row 42 (fl c9q1))] 6 (by kernel_rfl) ?_
                          exact hK1773 () _ _ _ trivial (leSt_m [(0, 0), (1, 1), (2, 2), (3, 3), (4, 4), (5, 5)] [] (by (try simp only [g1774, g1775]) <;> simp only [push_cast, seval]) (by (try simp only [g1774, g1775]) <;> simp only [push_cast, seval]) rfl rfl rfl)
                        · refine rs 4 [] [] (by kernel_rfl) allP_nil ?_
                          refine rf [(2, iS n), (4, .ptr 0 0), (13, .ptr 1 0), (14, .own 2 0 c4q3.length), (15, .ptr 3 0), (16, .ptr 4 0), (147, bS (decide ((1000000000 : Int) < n)))] [(0, .row 24 (Enc.cells s)), (1, .row 24 [iS c3_Free1, .own 5 0 c9q1.length]), (2, .row 3 (fl c4q3)), (3, .row 29 (Enc.cells c5q1)), (4, .row 29 (Enc.cells c6q1)), (5, .row 42 (fl c9q1))] 6 (by kernel_rfl) ?_
                          exact hK1773 () _ _ _ trivial (leSt_m [(0, 0), (1, 1), (2, 2), (3, 3), (4, 4), (5, 5)] [] (by (try simp only [g1774, g1775]) <;> simp only [push_cast, seval]) (by (try simp only [g1774, g1775]) <;> simp only [push_cast, seval]) rfl rfl rfl)
                      · refine rs 7 [] [] (by kernel_rfl) allP_nil ?_
                        refine rf [(2, iS n), (4, .ptr 0 0), (13, .ptr 1 0), (14, .own 2 0 c4q3.length), (15, .ptr 3 0), (16, .ptr 4 0), (147, bS false)] [(0, .row 24 (Enc.cells s)), (1, .row 24 [iS c3_Free1, .own 5 0 c9q1.length]), (2, .row 3 (fl c4q3)), (3, .row 29 (Enc.cells c5q1)), (4, .row 29 (Enc.cells c6q1)), (5, .row 42 (fl c9q1))] 6 (by kernel_rfl) ?_
                        exact hK1773 () _ _ _ trivial (leSt_m [(0, 0), (1, 1), (2, 2), (3, 3), (4, 4), (5, 5)] [] (by (try simp only [g1774]) <;> simp only [push_cast, seval]) (by (try simp only [g1774]) <;> simp only [push_cast, seval]) rfl rfl rfl)
                    · dsimp only
                      refine cond_sx h (by kernel_rfl) (fun g1778 h => ?_) (fun g1778 h => ?_)
                      · refine reg_f ?_
                        obtain ⟨r1777, hr1777, h⟩ := bind_sx h
                        refine run_call 19 [iS 3, iS (-1)] (some 148) (by kernel_rfl) ?_
                        refine call_0 (taskmillref_F_spec 3 (-1) r1777 hr1777) (by simp only [push_cast, seval]) (by simp only [push_cast, seval]) ?_
                        refine back_f ?_
                        refine rs 1 [] [] (by kernel_rfl) allP_nil ?_
                        refine rf [(2, iS n), (4, .ptr 0 0), (13, .ptr 1 0), (14, .own 2 0 c4q3.length), (15, .ptr 3 0), (16, .ptr 4 0)] [(0, .row 24 (Enc.cells s)), (1, .row 24 [iS c3_Free1, .own 5 0 c9q1.length]), (2, .row 3 (fl c4q3)), (3, .row 29 (Enc.cells c5q1)), (4, .row 29 (Enc.cells r1777)), (5, .row 42 (fl c9q1))] 6 (by kernel_rfl) ?_
                        exact hK1770 (r1777) _ _ _ h (leSt_m [(0, 0), (1, 1), (2, 2), (3, 3), (4, 4), (5, 5)] [] (by simp only [push_cast, seval]) (by simp only [push_cast, seval]) rfl rfl rfl)
                      · exact hK1770 (c6q1) _ _ _ h (leSt_m [(0, 0), (1, 1), (2, 2), (3, 3), (4, 4), (5, 5)] [] (by simp only [push_cast, seval]) (by simp only [push_cast, seval]) rfl rfl rfl)
                  · rintro c4q4 h
                    try dsimp only at h ⊢
                    unfold taskmilllaw_SyncSemas_j4 at h
                    refine seq_cut (A := Fault) (fun a => ([(2, iS n), (4, .ptr 0 0), (13, .ptr 1 0), (14, .own 2 0 c4q3.length), (15, .ptr 3 0), (16, .ptr 4 0)], [(0, .row 24 (Enc.cells s)), (1, .row 24 [iS c3_Free1, .own 5 0 c9q1.length]), (2, .row 3 (fl c4q3)), (3, .row 29 (Enc.cells c5q1)), (4, .row 29 (Enc.cells a)), (5, .row 42 (fl c9q1))], 6)) (fun a => (taskmilllaw_SyncSemas_j3 s n c3_Free1 c4q3 c5q1 c9q1 a) = some r) (fun K1783 hK1783 => ?_) ?_
                    · refine seq_cut (A := Unit) (fun _ => ([(2, iS n), (4, .ptr 0 0), (13, .ptr 1 0), (14, .own 2 0 c4q3.length), (15, .ptr 3 0), (16, .ptr 4 0), (158, bS ((c4q4.Code == 0) && (decide ((1000000000 : Int) < (IntKind.i64.wrap (s.Free + n))))))], [(0, .row 24 (Enc.cells s)), (1, .row 24 [iS c3_Free1, .own 5 0 c9q1.length]), (2, .row 3 (fl c4q3)), (3, .row 29 (Enc.cells c5q1)), (4, .row 29 (Enc.cells c4q4)), (5, .row 42 (fl c9q1))], 6)) (fun _ => True) (fun K1785 hK1785 => ?_) (fun _ _ => ?_)
                      · refine reg_f ?_
                        refine rs 4 [] [] (by kernel_rfl) allP_nil ?_
                        refine run_split 152 (c4q4.Code == 0) (.inl (by kernel_rfl)) (fun g1786 => ?_) (fun g1786 => ?_)
                        · refine rs 6 [] [] (by kernel_rfl) allP_nil ?_
                          refine rf [(2, iS n), (4, .ptr 0 0), (13, .ptr 1 0), (14, .own 2 0 c4q3.length), (15, .ptr 3 0), (16, .ptr 4 0), (158, bS (decide ((1000000000 : Int) < (IntKind.i64.wrap (s.Free + n)))))] [(0, .row 24 (Enc.cells s)), (1, .row 24 [iS c3_Free1, .own 5 0 c9q1.length]), (2, .row 3 (fl c4q3)), (3, .row 29 (Enc.cells c5q1)), (4, .row 29 (Enc.cells c4q4)), (5, .row 42 (fl c9q1))] 6 (by kernel_rfl) ?_
                          exact hK1785 () _ _ _ trivial (leSt_m [(0, 0), (1, 1), (2, 2), (3, 3), (4, 4), (5, 5)] [] (by (try simp only [g1786]) <;> simp only [push_cast, seval]) (by (try simp only [g1786]) <;> simp only [push_cast, seval]) rfl rfl rfl)
                        · refine rs 6 [] [] (by kernel_rfl) allP_nil ?_
                          refine rf [(2, iS n), (4, .ptr 0 0), (13, .ptr 1 0), (14, .own 2 0 c4q3.length), (15, .ptr 3 0), (16, .ptr 4 0), (158, bS false)] [(0, .row 24 (Enc.cells s)), (1, .row 24 [iS c3_Free1, .own 5 0 c9q1.length]), (2, .row 3 (fl c4q3)), (3, .row 29 (Enc.cells c5q1)), (4, .row 29 (Enc.cells c4q4)), (5, .row 42 (fl c9q1))] 6 (by kernel_rfl) ?_
                          exact hK1785 () _ _ _ trivial (leSt_m [(0, 0), (1, 1), (2, 2), (3, 3), (4, 4), (5, 5)] [] (by (try simp only [g1786]) <;> simp only [push_cast, seval]) (by (try simp only [g1786]) <;> simp only [push_cast, seval]) rfl rfl rfl)
                      · dsimp only
                        refine cond_sx h (by kernel_rfl) (fun g1789 h => ?_) (fun g1789 h => ?_)
                        · refine reg_f ?_
                          obtain ⟨r1788, hr1788, h⟩ := bind_sx h
                          refine run_call 19 [iS 9, iS 0] (some 159) (by kernel_rfl) ?_
                          refine call_0 (taskmillref_F_spec 9 0 r1788 hr1788) (by simp only [push_cast, seval]) (by simp only [push_cast, seval]) ?_
                          refine back_f ?_
                          refine rs 1 [] [] (by kernel_rfl) allP_nil ?_
                          refine rf [(2, iS n), (4, .ptr 0 0), (13, .ptr 1 0), (14, .own 2 0 c4q3.length), (15, .ptr 3 0), (16, .ptr 4 0)] [(0, .row 24 (Enc.cells s)), (1, .row 24 [iS c3_Free1, .own 5 0 c9q1.length]), (2, .row 3 (fl c4q3)), (3, .row 29 (Enc.cells c5q1)), (4, .row 29 (Enc.cells r1788)), (5, .row 42 (fl c9q1))] 6 (by kernel_rfl) ?_
                          exact hK1783 (r1788) _ _ _ h (leSt_m [(0, 0), (1, 1), (2, 2), (3, 3), (4, 4), (5, 5)] [] (by simp only [push_cast, seval]) (by simp only [push_cast, seval]) rfl rfl rfl)
                        · exact hK1783 (c4q4) _ _ _ h (leSt_m [(0, 0), (1, 1), (2, 2), (3, 3), (4, 4), (5, 5)] [] (by simp only [push_cast, seval]) (by simp only [push_cast, seval]) rfl rfl rfl)
                    · rintro c4q5 h
                      try dsimp only at h ⊢
                      unfold taskmilllaw_SyncSemas_j3 at h
                      refine seq_np ?_
                      refine seq_np ?_
                      refine reg_f ?_
                      refine rs 3 [] [] (by kernel_rfl) allP_nil ?_
                      refine rf [(2, iS n), (4, .ptr 0 0), (13, .ptr 1 0), (14, .own 2 0 c4q3.length), (16, .ptr 4 0), (162, bS (!((c5q1.Code == c4q5.Code) && ((c5q1.At == c4q5.At) && true))))] [(0, .row 24 (Enc.cells s)), (1, .row 24 [iS c3_Free1, .own 5 0 c9q1.length]), (2, .row 3 (fl c4q3)), (3, .row 29 (Enc.cells c5q1)), (4, .row 29 (Enc.cells c4q5)), (5, .row 42 (fl c9q1))] 6 (by kernel_rfl) ?_
                      refine wk_id ?_
                      refine cond_sx h (by kernel_rfl) (fun g1813 h => ?_) (fun g1813 h => ?_)
                      · refine seq_np ?_
                        refine reg_f ?_
                        refine rs 1 [] [] (by kernel_rfl) allP_nil ?_
                        refine rf [(8, bS false)] [(0, .row 24 (Enc.cells s)), (1, .row 24 [iS c3_Free1, .own 5 0 c9q1.length]), (2, .row 3 (fl c4q3)), (3, .row 29 (Enc.cells c5q1)), (4, .row 29 (Enc.cells c4q5)), (5, .row 42 (fl c9q1))] 6 (by kernel_rfl) ?_
                        refine wk_id ?_
                        obtain rfl := Option.some.inj h
                        refine ret_at (bS false) (by kernel_rfl) ?_
                        exact ret_e [] [] (by simp only [push_cast, seval]) (by simp only [push_cast, seval]) rfl rfl rfl
                      · refine wk_id ?_
                        refine seq_np ?_
                        refine seq_np ?_
                        refine reg_f ?_
                        refine rs 3 [] [] (by kernel_rfl) allP_nil ?_
                        refine rf [(2, iS n), (4, .ptr 0 0), (13, .ptr 1 0), (14, .own 2 0 c4q3.length), (165, bS (c4q5.Code != 0))] [(0, .row 24 (Enc.cells s)), (1, .row 24 [iS c3_Free1, .own 5 0 c9q1.length]), (2, .row 3 (fl c4q3)), (3, .row 29 (Enc.cells c5q1)), (4, .row 29 (Enc.cells c4q5)), (5, .row 42 (fl c9q1))] 6 (by kernel_rfl) ?_
                        refine wk_id ?_
                        refine cond_sx h (by kernel_rfl) (fun g1812 h => ?_) (fun g1812 h => ?_)
                        · refine seq_cut (A := Bool) (fun a => ([(8, bS a)], [], 0)) (fun a => (taskmilllaw_SyncSemas_j1 a) = some r) (fun K1799 hK1799 => ?_) ?_
                          · refine reg_f ?_
                            refine rs 2 [] [] (by kernel_rfl) allP_nil ?_
                            obtain ⟨r1800, hr1800, h⟩ := bind_sx h
                            refine call_x (taskmilllaw_sameSema_spec (Sema.mk c3_Free1 c9q1) (Sema.mk 0 []) r1800 hr1800) (args := [.agg [iS c3_Free1, .own 5 0 c9q1.length], .agg [iS 0, .v (.slice none 0 0)]]) (dst := (some 168)) (by kernel_rfl) [(0, .row 24 (Enc.cells s)), (1, .row 24 [iS c3_Free1, .own 5 0 c9q1.length]), (2, .row 3 (fl c4q3)), (3, .row 29 (Enc.cells c5q1)), (4, .row 29 (Enc.cells c4q5)), (5, .row 42 (fl c9q1))] 6 (by kernel_rfl) [] [5] (bS r1800) [] (by simp only [push_cast, seval]) (by simp only [push_cast, seval]) (by kernel_rfl) (.inr ⟨by simp only [push_cast, seval], by simp only [push_cast, seval]⟩) (by simp only [push_cast, seval]) (by simp only [push_cast, seval]) ?_
                            refine rs 1 [] [] (by kernel_rfl) allP_nil ?_
                            refine run_br h 169 (.inl (by kernel_rfl)) (fun g1801 h => ?_) (fun g1801 h => ?_)
                            · refine rs 5 [] [] (by kernel_rfl) allP_nil ?_
                              refine rf [(8, bS (((c4q3.length : Nat) : Int) == 0))] [(0, .row 24 (Enc.cells s)), (1, .row 24 [iS c3_Free1, .own 5 0 c9q1.length]), (2, .row 3 (fl c4q3)), (3, .row 29 (Enc.cells c5q1)), (4, .row 29 (Enc.cells c4q5)), (5, .row 42 (fl c9q1))] 6 (by kernel_rfl) ?_
                              exact hK1799 ((((c4q3.length : Nat) : Int) == 0)) _ _ _ h (leSt_m [] [] (by (try simp only [g1801]) <;> simp only [push_cast, seval]) (by (try simp only [g1801]) <;> simp only [push_cast, seval]) rfl rfl rfl)
                            · refine rs 5 [] [] (by kernel_rfl) allP_nil ?_
                              refine rf [(8, bS false)] [(0, .row 24 (Enc.cells s)), (1, .row 24 [iS c3_Free1, .own 5 0 c9q1.length]), (2, .row 3 (fl c4q3)), (3, .row 29 (Enc.cells c5q1)), (4, .row 29 (Enc.cells c4q5)), (5, .row 42 (fl c9q1))] 6 (by kernel_rfl) ?_
                              exact hK1799 (false) _ _ _ h (leSt_m [] [] (by (try simp only [g1801]) <;> simp only [push_cast, seval]) (by (try simp only [g1801]) <;> simp only [push_cast, seval]) rfl rfl rfl)
                          · rintro t8q3 h
                            try dsimp only at h ⊢
                            unfold taskmilllaw_SyncSemas_j1 at h
                            obtain rfl := Option.some.inj h
                            refine ret_at (bS t8q3) (by kernel_rfl) ?_
                            exact ret_e [] [] (by simp only [push_cast, seval]) (by simp only [push_cast, seval]) rfl rfl rfl
                        · refine wk_id ?_
                          refine seq_np ?_
                          refine reg_f ?_
                          refine rs 7 [] [] (by kernel_rfl) allP_nil ?_
                          obtain ⟨r1803, hr1803, h⟩ := bind_sx h
                          refine call_x (taskmillref_Given_spec (Sema.mk (IntKind.i64.wrap (s.Free + n)) s.Line) r1803 hr1803) (args := [.agg [iS (IntKind.i64.wrap (s.Free + n)), .sl s.Line.length (fl s.Line)]]) (dst := (some 182)) (by kernel_rfl) [(0, .row 24 (Enc.cells s)), (1, .row 24 [iS c3_Free1, .own 5 0 c9q1.length]), (2, .row 3 (fl c4q3)), (3, .row 29 (Enc.cells c5q1)), (4, .row 29 (Enc.cells c4q5)), (5, .row 42 (fl c9q1))] 6 (by kernel_rfl) [] [] (.tup [.agg (Enc.cells r1803.1), .own 6 0 r1803.2.length]) [(6, .row 3 (fl r1803.2))] (by simp only [push_cast, seval]) (by simp only [push_cast, seval]) (by kernel_rfl) (.inl rfl) (by simp only [push_cast, seval]) (by simp only [push_cast, seval]) ?_
                          refine rs 6 [] [] (by kernel_rfl) allP_nil ?_
                          refine rf [(13, .ptr 1 0), (14, .own 2 0 c4q3.length), (20, .ptr 7 0), (21, .own 6 0 r1803.2.length)] [(0, .row 24 (Enc.cells s)), (1, .row 24 [iS c3_Free1, .own 5 0 c9q1.length]), (2, .row 3 (fl c4q3)), (3, .row 29 (Enc.cells c5q1)), (4, .row 29 (Enc.cells c4q5)), (5, .row 42 (fl c9q1)), (6, .row 3 (fl r1803.2)), (7, .row 24 (Enc.cells r1803.1))] 8 (by kernel_rfl) ?_
                          refine wk_id ?_
                          refine seq_cut (A := Bool) (fun a => ([(8, bS a)], [], 0)) (fun a => (taskmilllaw_SyncSemas_j2 a) = some r) (fun K1808 hK1808 => ?_) ?_
                          · refine reg_f ?_
                            refine rs 2 [] [] (by kernel_rfl) allP_nil ?_
                            obtain ⟨r1809, hr1809, h⟩ := bind_sx h
                            refine call_x (taskmilllaw_sameSema_spec (Sema.mk c3_Free1 c9q1) r1803.1 r1809 hr1809) (args := [.agg [iS c3_Free1, .own 5 0 c9q1.length], .agg (Enc.cells r1803.1)]) (dst := (some 187)) (by kernel_rfl) [(0, .row 24 (Enc.cells s)), (1, .row 24 [iS c3_Free1, .own 5 0 c9q1.length]), (2, .row 3 (fl c4q3)), (3, .row 29 (Enc.cells c5q1)), (4, .row 29 (Enc.cells c4q5)), (5, .row 42 (fl c9q1)), (6, .row 3 (fl r1803.2)), (7, .row 24 (Enc.cells r1803.1))] 8 (by kernel_rfl) [] [5] (bS r1809) [] (by simp only [push_cast, seval]) (by simp only [push_cast, seval]) (by kernel_rfl) (.inr ⟨by simp only [push_cast, seval], by simp only [push_cast, seval]⟩) (by simp only [push_cast, seval]) (by simp only [push_cast, seval]) ?_
                            refine rs 1 [] [] (by kernel_rfl) allP_nil ?_
                            refine run_br h 188 (.inl (by kernel_rfl)) (fun g1810 h => ?_) (fun g1810 h => ?_)
                            · refine rs 2 [] [] (by kernel_rfl) allP_nil ?_
                              obtain ⟨r1811, hr1811, h⟩ := bind_sx h
                              refine call_x (taskmillref_Ints_spec c4q3 r1803.2 r1811 hr1811) (args := [.own 2 0 c4q3.length, .own 6 0 r1803.2.length]) (dst := (some 191)) (by kernel_rfl) [(0, .row 24 (Enc.cells s)), (1, .row 24 [iS c3_Free1, .own 5 0 c9q1.length]), (2, .row 3 (fl c4q3)), (3, .row 29 (Enc.cells c5q1)), (4, .row 29 (Enc.cells c4q5)), (5, .row 42 (fl c9q1)), (6, .row 3 (fl r1803.2)), (7, .row 24 (Enc.cells r1803.1))] 8 (by kernel_rfl) [] [2, 6] (bS r1811) [] (by simp only [push_cast, seval]) (by simp only [push_cast, seval]) (by kernel_rfl) (.inr ⟨by simp only [push_cast, seval], by simp only [push_cast, seval]⟩) (by simp only [push_cast, seval]) (by simp only [push_cast, seval]) ?_
                              refine rs 2 [] [] (by kernel_rfl) allP_nil ?_
                              refine rf [(8, bS r1811)] [(0, .row 24 (Enc.cells s)), (1, .row 24 [iS c3_Free1, .own 5 0 c9q1.length]), (2, .row 3 (fl c4q3)), (3, .row 29 (Enc.cells c5q1)), (4, .row 29 (Enc.cells c4q5)), (5, .row 42 (fl c9q1)), (6, .row 3 (fl r1803.2)), (7, .row 24 (Enc.cells r1803.1))] 8 (by kernel_rfl) ?_
                              exact hK1808 (r1811) _ _ _ h (leSt_m [] [] (by (try simp only [g1810]) <;> simp only [push_cast, seval]) (by (try simp only [g1810]) <;> simp only [push_cast, seval]) rfl rfl rfl)
                            · refine rs 5 [] [] (by kernel_rfl) allP_nil ?_
                              refine rf [(8, bS false)] [(0, .row 24 (Enc.cells s)), (1, .row 24 [iS c3_Free1, .own 5 0 c9q1.length]), (2, .row 3 (fl c4q3)), (3, .row 29 (Enc.cells c5q1)), (4, .row 29 (Enc.cells c4q5)), (5, .row 42 (fl c9q1)), (6, .row 3 (fl r1803.2)), (7, .row 24 (Enc.cells r1803.1))] 8 (by kernel_rfl) ?_
                              exact hK1808 (false) _ _ _ h (leSt_m [] [] (by (try simp only [g1810]) <;> simp only [push_cast, seval]) (by (try simp only [g1810]) <;> simp only [push_cast, seval]) rfl rfl rfl)
                          · rintro t8q4 h
                            try dsimp only at h ⊢
                            unfold taskmilllaw_SyncSemas_j2 at h
                            obtain rfl := Option.some.inj h
                            refine ret_at (bS t8q4) (by kernel_rfl) ?_
                            exact ret_e [] [] (by simp only [push_cast, seval]) (by simp only [push_cast, seval]) rfl rfl rfl

end Go.Proofs.Ytoamlpgadgfhlaa
