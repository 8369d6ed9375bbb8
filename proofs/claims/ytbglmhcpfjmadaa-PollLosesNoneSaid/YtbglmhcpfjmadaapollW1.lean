/-
  What laws of the chapter poll compute, and lemmas on it.
  No conditions.
-/
import Derived.Test.YtbglmhcpfjmadaaProg
import Derived.Test.YtbglmhcpfjmadaapollG
set_option linter.unusedSimpArgs false
set_option linter.unusedVariables false
namespace Go.Proofs.Ytbglmhcpfjmadaa
open Go Go.Sx
attribute [local irreducible] Wk RunAt
theorem follows : Try.prog.follows .mixedOrders = true := by kernel_rfl

set_option maxRecDepth 100000 in
set_option maxHeartbeats 10000000 in
theorem poll_fault_spec (code : Int) (xat : Int) (r : Fault) (h : poll_fault code xat = some r) : SpecW Try.prog 18 [iS code, iS xat] [] 0 (fun x h n => x = .agg (Enc.cells r) ∧ h = [] ∧ n = 0) := by
  unfold poll_fault at h
  refine spec_of (draw_ok _) Try.func18 rfl (by decide) rfl (by kernel_rfl) ?_
  refine seq_np ?_
  refine reg_f ?_
  refine rs 1 [] [] (by kernel_rfl) allP_nil ?_
  refine rf [(0, iS code), (1, iS xat), (4, .ptr 0 0)] [(0, .row 27 [iS 0, iS 0])] 1 (by kernel_rfl) ?_
  refine wk_id ?_
  refine seq_np ?_
  refine reg_f ?_
  refine rs 4 [] [] (by kernel_rfl) allP_nil ?_
  refine rf [(4, .ptr 0 0)] [(0, .row 27 [iS code, iS xat])] 1 (by kernel_rfl) ?_
  refine wk_id ?_
  obtain rfl := Option.some.inj h
  refine ret_at (.agg [iS code, iS xat]) (by kernel_rfl) ?_
  exact ret_e [] [] (by simp only [push_cast, seval]) (by simp only [push_cast, seval]) rfl rfl rfl

set_option maxRecDepth 100000 in
set_option maxHeartbeats 10000000 in
theorem poll_Check_spec (d : Desc) (r : Fault) (h : poll_Check d = some r) : SpecW Try.prog 6 [.agg (Enc.cells d)] [] 0 (fun x h n => x = .agg (Enc.cells r) ∧ h = [] ∧ n = 0) := by
  unfold poll_Check at h
  refine spec_of (draw_ok _) Try.func6 rfl (by decide) rfl (by kernel_rfl) ?_
  refine seq_np ?_
  refine reg_f ?_
  refine rs 2 [] [] (by kernel_rfl) allP_nil ?_
  refine rf [(1, .ptr 0 0), (2, .ptr 1 0)] [(0, .row 25 (Enc.cells d)), (1, .row 27 [iS 0, iS 0])] 2 (by kernel_rfl) ?_
  refine wk_id ?_
  refine seq_np ?_
  refine seq_np ?_
  refine reg_f ?_
  refine rs 1 [] [] (by kernel_rfl) allP_nil ?_
  refine rf [(1, .ptr 0 0), (2, .ptr 1 0), (4, iS 0)] [(0, .row 25 (Enc.cells d)), (1, .row 27 [iS 0, iS 0])] 2 (by kernel_rfl) ?_
  refine wk_id ?_
  refine block_np ?_
  refine loop_sx (S := Int) (fun a => ([(1, .ptr 0 0), (2, .ptr 1 0), (4, iS a)], [(0, .row 25 (Enc.cells d)), (1, .row 27 [iS 0, iS 0])], 2)) h (leSt_m [(0, 0), (1, 1)] [] (by simp only [push_cast, seval]) (by simp only [push_cast, seval]) rfl rfl rfl) ?_
  rintro t4q7 o2 R2 h hr2 hn2 hx2 ht2
  try dsimp only at h hn2 ⊢
  unfold poll_Check_l1 at h
  try dsimp only at h
  refine seq_np ?_
  refine reg_f ?_
  refine rs 1 [] [] (by kernel_rfl) allP_nil ?_
  refine rf [(1, .ptr 0 0), (2, .ptr 1 0), (4, iS t4q7), (5, bS (decide (t4q7 < 2)))] [(0, .row 25 (Enc.cells d)), (1, .row 27 [iS 0, iS 0])] 2 (by kernel_rfl) ?_
  refine wk_id ?_
  refine seq_np ?_
  refine cond_sx h (by kernel_rfl) (fun g556 h => ?_) (fun g556 h => ?_)
  · refine wk_id ?_
    refine seq_np ?_
    refine block_cut (A := Unit) (fun a => ([(1, .ptr 0 0), (2, .ptr 1 0), (4, iS t4q7)], [(0, .row 25 (Enc.cells d)), (1, .row 27 [iS 0, iS 0])], 2)) (fun a => (poll_Check_j1 d t4q7) = some o2) (fun K459 hK459 => ?_) ?_
    · refine seq_np ?_
      refine reg_f ?_
      refine rs 2 [] [] (by kernel_rfl) allP_nil ?_
      refine rf [(1, .ptr 0 0), (2, .ptr 1 0), (3, iS t4q7), (4, iS t4q7)] [(0, .row 25 (Enc.cells d)), (1, .row 27 [iS 0, iS 0])] 2 (by kernel_rfl) ?_
      refine wk_id ?_
      refine seq_cut (A := Unit) (fun a => ([(1, .ptr 0 0), (2, .ptr 1 0), (3, iS t4q7), (4, iS t4q7)], [(0, .row 25 (Enc.cells d)), (1, .row 27 [iS 0, iS 0])], 2)) (fun a => (poll_Check_j2 d t4q7) = some o2) (fun K475 hK475 => ?_) ?_
      · refine split_s h (fun g476 h => ?_) (fun g477 h => ?_)
        · refine seq_cut (A := Unit) (fun _ => ([(1, .ptr 0 0), (2, .ptr 1 0), (3, iS t4q7), (4, iS t4q7), (25, bS ((decide (d.Task_e0 < 0)) || ((decide (d.Until_e0 < 0)) || (decide ((1000000000 : Int) < d.Until_e0)))))], [(0, .row 25 (Enc.cells d)), (1, .row 27 [iS 0, iS 0])], 2)) (fun _ => True) (fun K480 hK480 => ?_) (fun _ _ => ?_)
          · refine reg_f ?_
            refine rs 2 [] [] (by kernel_rfl) allP_nil ?_
            refine run_at 7 .i64 t4q7 0 g476 (by kernel_rfl) ?_
            refine rs 4 [] [] (by kernel_rfl) allP_nil ?_
            refine run_split 12 (decide (d.Task_e0 < 0)) (.inl (by kernel_rfl)) (fun g481 => ?_) (fun g481 => ?_)
            · refine rs 13 [] [] (by kernel_rfl) allP_nil ?_
              refine rf [(1, .ptr 0 0), (2, .ptr 1 0), (3, iS t4q7), (4, iS t4q7), (25, bS true)] [(0, .row 25 (Enc.cells d)), (1, .row 27 [iS 0, iS 0])] 2 (by kernel_rfl) ?_
              exact hK480 () _ _ _ trivial (leSt_m [(0, 0), (1, 1)] [] (by (try simp only [g481]) <;> simp only [push_cast, seval]) (by (try simp only [g481]) <;> simp only [push_cast, seval]) rfl rfl rfl)
            · refine rs 2 [] [] (by kernel_rfl) allP_nil ?_
              refine run_at_g 13 .i64 t4q7 0 g476 (by kernel_rfl) ?_
              refine rs 5 [] [] (by kernel_rfl) allP_nil ?_
              refine run_split 19 (decide (d.Until_e0 < 0)) (.inl (by kernel_rfl)) (fun g482 => ?_) (fun g482 => ?_)
              · refine rs 6 [] [] (by kernel_rfl) allP_nil ?_
                refine rf [(1, .ptr 0 0), (2, .ptr 1 0), (3, iS t4q7), (4, iS t4q7), (25, bS true)] [(0, .row 25 (Enc.cells d)), (1, .row 27 [iS 0, iS 0])] 2 (by kernel_rfl) ?_
                exact hK480 () _ _ _ trivial (leSt_m [(0, 0), (1, 1)] [] (by first | ((try simp only [g481, g482]) <;> simp only [push_cast, seval]; done) | ((try simp only [g481]); (try simp only [g482]); simp only [push_cast, seval]; done) | (exfalso; clear h; simp_all; done)) (by first | ((try simp only [g481, g482]) <;> simp only [push_cast, seval]; done) | ((try simp only [g481]); (try simp only [g482]); simp only [push_cast, seval]; done) | (exfalso; clear h; simp_all; done)) rfl rfl rfl)
              · refine rs 2 [] [] (by kernel_rfl) allP_nil ?_
                refine run_at_g 20 .i64 t4q7 0 g476 (by kernel_rfl) ?_
                refine rs 4 [] [] (by kernel_rfl) allP_nil ?_
                refine rf [(1, .ptr 0 0), (2, .ptr 1 0), (3, iS t4q7), (4, iS t4q7), (25, bS (decide ((1000000000 : Int) < d.Until_e0)))] [(0, .row 25 (Enc.cells d)), (1, .row 27 [iS 0, iS 0])] 2 (by kernel_rfl) ?_
                exact hK480 () _ _ _ trivial (leSt_m [(0, 0), (1, 1)] [] (by first | ((try simp only [g481, g482]) <;> simp only [push_cast, seval]; done) | ((try simp only [g481]); (try simp only [g482]); simp only [push_cast, seval]; done) | (exfalso; clear h; simp_all; done)) (by first | ((try simp only [g481, g482]) <;> simp only [push_cast, seval]; done) | ((try simp only [g481]); (try simp only [g482]); simp only [push_cast, seval]; done) | (exfalso; clear h; simp_all; done)) rfl rfl rfl)
          · dsimp only
            refine cond_sx h (by kernel_rfl) (fun g485 h => ?_) (fun g485 h => ?_)
            · refine seq_np ?_
              refine reg_f ?_
              refine rs 1 [] [] (by kernel_rfl) allP_nil ?_
              obtain ⟨r484, hr484, h⟩ := bind_sx h
              refine run_call 18 [iS 3, iS t4q7] (some 27) (by kernel_rfl) ?_
              refine call_0 (poll_fault_spec 3 t4q7 r484 hr484) (by simp only [push_cast, seval]) (by simp only [push_cast, seval]) ?_
              refine back_f ?_
              refine rs 1 [] [] (by kernel_rfl) allP_nil ?_
              refine rf [(2, .ptr 1 0)] [(0, .row 25 (Enc.cells d)), (1, .row 27 (Enc.cells r484))] 2 (by kernel_rfl) ?_
              refine wk_id ?_
              refine rt_cast ht2 ?_
              obtain ⟨r0, h, e0⟩ := map_sx h
              have e1 := hr2 r0 e0.symm
              subst r0
              obtain rfl := Option.some.inj h
              refine ret_at (.agg (Enc.cells r484)) (by kernel_rfl) ?_
              exact ret_e [] [] (by simp only [push_cast, seval]) (by simp only [push_cast, seval]) rfl rfl rfl
            · exact hK475 () _ _ _ h (leSt_m [(0, 0), (1, 1)] [] (by simp only [push_cast, seval]) (by simp only [push_cast, seval]) rfl rfl rfl)
        refine split_s h (fun g486 h => ?_) (fun g487 h => ?_)
        · refine seq_cut (A := Unit) (fun _ => ([(1, .ptr 0 0), (2, .ptr 1 0), (3, iS t4q7), (4, iS t4q7), (25, bS ((decide (d.Task_e1 < 0)) || ((decide (d.Until_e1 < 0)) || (decide ((1000000000 : Int) < d.Until_e1)))))], [(0, .row 25 (Enc.cells d)), (1, .row 27 [iS 0, iS 0])], 2)) (fun _ => True) (fun K490 hK490 => ?_) (fun _ _ => ?_)
          · refine reg_f ?_
            refine rs 2 [] [] (by kernel_rfl) allP_nil ?_
            refine run_at 7 .i64 t4q7 1 g486 (by kernel_rfl) ?_
            refine rs 4 [] [] (by kernel_rfl) allP_nil ?_
            refine run_split 12 (decide (d.Task_e1 < 0)) (.inl (by kernel_rfl)) (fun g491 => ?_) (fun g491 => ?_)
            · refine rs 13 [] [] (by kernel_rfl) allP_nil ?_
              refine rf [(1, .ptr 0 0), (2, .ptr 1 0), (3, iS t4q7), (4, iS t4q7), (25, bS true)] [(0, .row 25 (Enc.cells d)), (1, .row 27 [iS 0, iS 0])] 2 (by kernel_rfl) ?_
              exact hK490 () _ _ _ trivial (leSt_m [(0, 0), (1, 1)] [] (by (try simp only [g491]) <;> simp only [push_cast, seval]) (by (try simp only [g491]) <;> simp only [push_cast, seval]) rfl rfl rfl)
            · refine rs 2 [] [] (by kernel_rfl) allP_nil ?_
              refine run_at_g 13 .i64 t4q7 1 g486 (by kernel_rfl) ?_
              refine rs 5 [] [] (by kernel_rfl) allP_nil ?_
              refine run_split 19 (decide (d.Until_e1 < 0)) (.inl (by kernel_rfl)) (fun g492 => ?_) (fun g492 => ?_)
              · refine rs 6 [] [] (by kernel_rfl) allP_nil ?_
                refine rf [(1, .ptr 0 0), (2, .ptr 1 0), (3, iS t4q7), (4, iS t4q7), (25, bS true)] [(0, .row 25 (Enc.cells d)), (1, .row 27 [iS 0, iS 0])] 2 (by kernel_rfl) ?_
                exact hK490 () _ _ _ trivial (leSt_m [(0, 0), (1, 1)] [] (by first | ((try simp only [g491, g492]) <;> simp only [push_cast, seval]; done) | ((try simp only [g491]); (try simp only [g492]); simp only [push_cast, seval]; done) | (exfalso; clear h; simp_all; done)) (by first | ((try simp only [g491, g492]) <;> simp only [push_cast, seval]; done) | ((try simp only [g491]); (try simp only [g492]); simp only [push_cast, seval]; done) | (exfalso; clear h; simp_all; done)) rfl rfl rfl)
              · refine rs 2 [] [] (by kernel_rfl) allP_nil ?_
                refine run_at_g 20 .i64 t4q7 1 g486 (by kernel_rfl) ?_
                refine rs 4 [] [] (by kernel_rfl) allP_nil ?_
                refine rf [(1, .ptr 0 0), (2, .ptr 1 0), (3, iS t4q7), (4, iS t4q7), (25, bS (decide ((1000000000 : Int) < d.Until_e1)))] [(0, .row 25 (Enc.cells d)), (1, .row 27 [iS 0, iS 0])] 2 (by kernel_rfl) ?_
                exact hK490 () _ _ _ trivial (leSt_m [(0, 0), (1, 1)] [] (by first | ((try simp only [g491, g492]) <;> simp only [push_cast, seval]; done) | ((try simp only [g491]); (try simp only [g492]); simp only [push_cast, seval]; done) | (exfalso; clear h; simp_all; done)) (by first | ((try simp only [g491, g492]) <;> simp only [push_cast, seval]; done) | ((try simp only [g491]); (try simp only [g492]); simp only [push_cast, seval]; done) | (exfalso; clear h; simp_all; done)) rfl rfl rfl)
          · dsimp only
            refine cond_sx h (by kernel_rfl) (fun g495 h => ?_) (fun g495 h => ?_)
            · refine seq_np ?_
              refine reg_f ?_
              refine rs 1 [] [] (by kernel_rfl) allP_nil ?_
              obtain ⟨r494, hr494, h⟩ := bind_sx h
              refine run_call 18 [iS 3, iS t4q7] (some 27) (by kernel_rfl) ?_
              refine call_0 (poll_fault_spec 3 t4q7 r494 hr494) (by simp only [push_cast, seval]) (by simp only [push_cast, seval]) ?_
              refine back_f ?_
              refine rs 1 [] [] (by kernel_rfl) allP_nil ?_
              refine rf [(2, .ptr 1 0)] [(0, .row 25 (Enc.cells d)), (1, .row 27 (Enc.cells r494))] 2 (by kernel_rfl) ?_
              refine wk_id ?_
              refine rt_cast ht2 ?_
              obtain ⟨r0, h, e0⟩ := map_sx h
              have e1 := hr2 r0 e0.symm
              subst r0
              obtain rfl := Option.some.inj h
              refine ret_at (.agg (Enc.cells r494)) (by kernel_rfl) ?_
              exact ret_e [] [] (by simp only [push_cast, seval]) (by simp only [push_cast, seval]) rfl rfl rfl
            · exact hK475 () _ _ _ h (leSt_m [(0, 0), (1, 1)] [] (by simp only [push_cast, seval]) (by simp only [push_cast, seval]) rfl rfl rfl)
        refine chk_sx h (fun g499 h => ?_)
        refine seq_np ?_
        refine reg_f ?_
        have k498 : 0 ≤ t4q7 ∧ t4q7 < 2 := by first | simpa only [Bool.and_eq_true, decide_eq_true_eq, bne_iff_ne, ne_eq] using g499 | (simp at g499 ⊢; omega)
        exfalso
        omega
      · rintro _ h
        try dsimp only at h ⊢
        unfold poll_Check_j2 at h
        refine split_s h (fun g501 h => ?_) (fun g502 h => ?_)
        · refine seq_cut (A := Unit) (fun _ => ([(1, .ptr 0 0), (2, .ptr 1 0), (3, iS t4q7), (4, iS t4q7), (62, bS (bif d.Closed then (d.Ready_e0 || ((decide ((0 : Int) < d.Task_e0)) || ((decide ((0 : Int) < d.Until_e0)) || (d.Ready_e0 && (decide ((0 : Int) < d.Task_e0)))))) else (d.Ready_e0 && (decide ((0 : Int) < d.Task_e0)))))], [(0, .row 25 (Enc.cells d)), (1, .row 27 [iS 0, iS 0])], 2)) (fun _ => True) (fun K509 hK509 => ?_) (fun _ _ => ?_)
          · refine reg_f ?_
            refine rs 3 [] [] (by kernel_rfl) allP_nil ?_
            refine run_split 30 d.Closed (.inl (by kernel_rfl)) (fun g510 => ?_) (fun g510 => ?_)
            · refine rs 2 [] [] (by kernel_rfl) allP_nil ?_
              refine run_at_g 31 .i64 t4q7 0 g501 (by kernel_rfl) ?_
              refine rs 3 [] [] (by kernel_rfl) allP_nil ?_
              refine run_split 35 d.Ready_e0 (.inr (by kernel_rfl)) (fun g511 => ?_) (fun g511 => ?_)
              · refine rs 27 [] [] (by kernel_rfl) allP_nil ?_
                refine rf [(1, .ptr 0 0), (2, .ptr 1 0), (3, iS t4q7), (4, iS t4q7), (62, bS true)] [(0, .row 25 (Enc.cells d)), (1, .row 27 [iS 0, iS 0])] 2 (by kernel_rfl) ?_
                exact hK509 () _ _ _ trivial (leSt_m [(0, 0), (1, 1)] [] (by first | ((try simp only [g510, g511]) <;> simp only [push_cast, seval]; done) | ((try simp only [g510]); (try simp only [g511]); simp only [push_cast, seval]; done) | (exfalso; clear h; simp_all; done)) (by first | ((try simp only [g510, g511]) <;> simp only [push_cast, seval]; done) | ((try simp only [g510]); (try simp only [g511]); simp only [push_cast, seval]; done) | (exfalso; clear h; simp_all; done)) rfl rfl rfl)
              · refine rs 2 [] [] (by kernel_rfl) allP_nil ?_
                refine run_at_g 36 .i64 t4q7 0 g501 (by kernel_rfl) ?_
                refine rs 5 [] [] (by kernel_rfl) allP_nil ?_
                refine run_split 42 (decide ((0 : Int) < d.Task_e0)) (.inr (by kernel_rfl)) (fun g512 => ?_) (fun g512 => ?_)
                · refine rn 15 [(1, .ptr 0 0), (2, .ptr 1 0), (3, iS t4q7), (4, iS t4q7), (30, bS true), (42, .gd true (bS true))] [(0, .row 25 (Enc.cells d)), (1, .row 27 [iS 0, iS 0])] 2 (by kernel_rfl) ?_
                  refine rs 20 [] [] (by kernel_rfl) allP_nil ?_
                  refine rf [(1, .ptr 0 0), (2, .ptr 1 0), (3, iS t4q7), (4, iS t4q7), (62, bS true)] [(0, .row 25 (Enc.cells d)), (1, .row 27 [iS 0, iS 0])] 2 (by kernel_rfl) ?_
                  exact hK509 () _ _ _ trivial (leSt_m [(0, 0), (1, 1)] [] (by first | ((try simp only [g510, g511, g512]) <;> simp only [push_cast, seval]; done) | ((try simp only [g510]); (try simp only [g511]); (try simp only [g512]); simp only [push_cast, seval]; done) | (exfalso; clear h; simp_all; done)) (by first | ((try simp only [g510, g511, g512]) <;> simp only [push_cast, seval]; done) | ((try simp only [g510]); (try simp only [g511]); (try simp only [g512]); simp only [push_cast, seval]; done) | (exfalso; clear h; simp_all; done)) rfl rfl rfl)
                · refine rn 15 [(1, .ptr 0 0), (2, .ptr 1 0), (3, iS t4q7), (4, iS t4q7), (30, bS true), (42, .gd true (bS false))] [(0, .row 25 (Enc.cells d)), (1, .row 27 [iS 0, iS 0])] 2 (by kernel_rfl) ?_
                  refine rs 2 [] [] (by kernel_rfl) allP_nil ?_
                  refine run_at_g 43 .i64 t4q7 0 g501 (by kernel_rfl) ?_
                  refine rs 6 [] [] (by kernel_rfl) allP_nil ?_
                  refine run_split 50 (decide ((0 : Int) < d.Until_e0)) (.inl (by kernel_rfl)) (fun g513 => ?_) (fun g513 => ?_)
                  · refine rs 12 [] [] (by kernel_rfl) allP_nil ?_
                    refine rf [(1, .ptr 0 0), (2, .ptr 1 0), (3, iS t4q7), (4, iS t4q7), (62, bS true)] [(0, .row 25 (Enc.cells d)), (1, .row 27 [iS 0, iS 0])] 2 (by kernel_rfl) ?_
                    exact hK509 () _ _ _ trivial (leSt_m [(0, 0), (1, 1)] [] (by first | ((try simp only [g510, g511, g512, g513]) <;> simp only [push_cast, seval]; done) | ((try simp only [g510]); (try simp only [g511]); (try simp only [g512]); (try simp only [g513]); simp only [push_cast, seval]; done) | (exfalso; clear h; simp_all; done)) (by first | ((try simp only [g510, g511, g512, g513]) <;> simp only [push_cast, seval]; done) | ((try simp only [g510]); (try simp only [g511]); (try simp only [g512]); (try simp only [g513]); simp only [push_cast, seval]; done) | (exfalso; clear h; simp_all; done)) rfl rfl rfl)
                  · refine rs 2 [] [] (by kernel_rfl) allP_nil ?_
                    refine run_at_g 51 .i64 t4q7 0 g501 (by kernel_rfl) ?_
                    refine rs 3 [] [] (by kernel_rfl) allP_nil ?_
                    refine run_split 55 d.Ready_e0 (.inr (by kernel_rfl)) (fun g514 => ?_) (fun g514 => ?_)
                    · refine rs 2 [] [] (by kernel_rfl) allP_nil ?_
                      refine run_at_g 56 .i64 t4q7 0 g501 (by kernel_rfl) ?_
                      refine rs 5 [] [] (by kernel_rfl) allP_nil ?_
                      refine rf [(1, .ptr 0 0), (2, .ptr 1 0), (3, iS t4q7), (4, iS t4q7), (62, bS (decide ((0 : Int) < d.Task_e0)))] [(0, .row 25 (Enc.cells d)), (1, .row 27 [iS 0, iS 0])] 2 (by kernel_rfl) ?_
                      exact hK509 () _ _ _ trivial (leSt_m [(0, 0), (1, 1)] [] (by first | ((try simp only [g510, g511, g512, g513, g514]) <;> simp only [push_cast, seval]; done) | ((try simp only [g510]); (try simp only [g511]); (try simp only [g512]); (try simp only [g513]); (try simp only [g514]); simp only [push_cast, seval]; done) | (exfalso; clear h; simp_all; done)) (by first | ((try simp only [g510, g511, g512, g513, g514]) <;> simp only [push_cast, seval]; done) | ((try simp only [g510]); (try simp only [g511]); (try simp only [g512]); (try simp only [g513]); (try simp only [g514]); simp only [push_cast, seval]; done) | (exfalso; clear h; simp_all; done)) rfl rfl rfl)
                    · refine rs 7 [] [] (by kernel_rfl) allP_nil ?_
                      refine rf [(1, .ptr 0 0), (2, .ptr 1 0), (3, iS t4q7), (4, iS t4q7), (62, bS false)] [(0, .row 25 (Enc.cells d)), (1, .row 27 [iS 0, iS 0])] 2 (by kernel_rfl) ?_
                      exact hK509 () _ _ _ trivial (leSt_m [(0, 0), (1, 1)] [] (by first | ((try simp only [g510, g511, g512, g513, g514]) <;> simp only [push_cast, seval]; done) | ((try simp only [g510]); (try simp only [g511]); (try simp only [g512]); (try simp only [g513]); (try simp only [g514]); simp only [push_cast, seval]; done) | (exfalso; clear h; simp_all; done)) (by first | ((try simp only [g510, g511, g512, g513, g514]) <;> simp only [push_cast, seval]; done) | ((try simp only [g510]); (try simp only [g511]); (try simp only [g512]); (try simp only [g513]); (try simp only [g514]); simp only [push_cast, seval]; done) | (exfalso; clear h; simp_all; done)) rfl rfl rfl)
            · refine rs 22 [] [] (by kernel_rfl) allP_nil ?_
              refine run_at_g 51 .i64 t4q7 0 g501 (by kernel_rfl) ?_
              refine rs 3 [] [] (by kernel_rfl) allP_nil ?_
              refine run_split 55 d.Ready_e0 (.inr (by kernel_rfl)) (fun g515 => ?_) (fun g515 => ?_)
              · refine rs 2 [] [] (by kernel_rfl) allP_nil ?_
                refine run_at_g 56 .i64 t4q7 0 g501 (by kernel_rfl) ?_
                refine rs 5 [] [] (by kernel_rfl) allP_nil ?_
                refine rf [(1, .ptr 0 0), (2, .ptr 1 0), (3, iS t4q7), (4, iS t4q7), (62, bS (decide ((0 : Int) < d.Task_e0)))] [(0, .row 25 (Enc.cells d)), (1, .row 27 [iS 0, iS 0])] 2 (by kernel_rfl) ?_
                exact hK509 () _ _ _ trivial (leSt_m [(0, 0), (1, 1)] [] (by first | ((try simp only [g510, g515]) <;> simp only [push_cast, seval]; done) | ((try simp only [g510]); (try simp only [g515]); simp only [push_cast, seval]; done) | (exfalso; clear h; simp_all; done)) (by first | ((try simp only [g510, g515]) <;> simp only [push_cast, seval]; done) | ((try simp only [g510]); (try simp only [g515]); simp only [push_cast, seval]; done) | (exfalso; clear h; simp_all; done)) rfl rfl rfl)
              · refine rs 7 [] [] (by kernel_rfl) allP_nil ?_
                refine rf [(1, .ptr 0 0), (2, .ptr 1 0), (3, iS t4q7), (4, iS t4q7), (62, bS false)] [(0, .row 25 (Enc.cells d)), (1, .row 27 [iS 0, iS 0])] 2 (by kernel_rfl) ?_
                exact hK509 () _ _ _ trivial (leSt_m [(0, 0), (1, 1)] [] (by first | ((try simp only [g510, g515]) <;> simp only [push_cast, seval]; done) | ((try simp only [g510]); (try simp only [g515]); simp only [push_cast, seval]; done) | (exfalso; clear h; simp_all; done)) (by first | ((try simp only [g510, g515]) <;> simp only [push_cast, seval]; done) | ((try simp only [g510]); (try simp only [g515]); simp only [push_cast, seval]; done) | (exfalso; clear h; simp_all; done)) rfl rfl rfl)
          · dsimp only
            refine cond_sx h (by kernel_rfl) (fun g518 h => ?_) (fun g518 h => ?_)
            · refine seq_np ?_
              refine reg_f ?_
              refine rs 1 [] [] (by kernel_rfl) allP_nil ?_
              obtain ⟨r517, hr517, h⟩ := bind_sx h
              refine run_call 18 [iS 5, iS t4q7] (some 64) (by kernel_rfl) ?_
              refine call_0 (poll_fault_spec 5 t4q7 r517 hr517) (by simp only [push_cast, seval]) (by simp only [push_cast, seval]) ?_
              refine back_f ?_
              refine rs 1 [] [] (by kernel_rfl) allP_nil ?_
              refine rf [(2, .ptr 1 0)] [(0, .row 25 (Enc.cells d)), (1, .row 27 (Enc.cells r517))] 2 (by kernel_rfl) ?_
              refine wk_id ?_
              refine rt_cast ht2 ?_
              obtain ⟨r0, h, e0⟩ := map_sx h
              have e1 := hr2 r0 e0.symm
              subst r0
              obtain rfl := Option.some.inj h
              refine ret_at (.agg (Enc.cells r517)) (by kernel_rfl) ?_
              exact ret_e [] [] (by simp only [push_cast, seval]) (by simp only [push_cast, seval]) rfl rfl rfl
            · exact hK459 () _ _ _ h (leSt_m [(0, 0), (1, 1)] [] (by simp only [push_cast, seval]) (by simp only [push_cast, seval]) rfl rfl rfl)
        refine split_s h (fun g519 h => ?_) (fun g520 h => ?_)
        · refine seq_cut (A := Unit) (fun _ => ([(1, .ptr 0 0), (2, .ptr 1 0), (3, iS t4q7), (4, iS t4q7), (62, bS (bif d.Closed then (d.Ready_e1 || ((decide ((0 : Int) < d.Task_e1)) || ((decide ((0 : Int) < d.Until_e1)) || (d.Ready_e1 && (decide ((0 : Int) < d.Task_e1)))))) else (d.Ready_e1 && (decide ((0 : Int) < d.Task_e1)))))], [(0, .row 25 (Enc.cells d)), (1, .row 27 [iS 0, iS 0])], 2)) (fun _ => True) (fun K527 hK527 => ?_) (fun _ _ => ?_)
          · refine reg_f ?_
            refine rs 3 [] [] (by kernel_rfl) allP_nil ?_
            refine run_split 30 d.Closed (.inl (by kernel_rfl)) (fun g528 => ?_) (fun g528 => ?_)
            · refine rs 2 [] [] (by kernel_rfl) allP_nil ?_
              refine run_at_g 31 .i64 t4q7 1 g519 (by kernel_rfl) ?_
              refine rs 3 [] [] (by kernel_rfl) allP_nil ?_
              refine run_split 35 d.Ready_e1 (.inr (by kernel_rfl)) (fun g529 => ?_) (fun g529 => ?_)
              · refine rs 27 [] [] (by kernel_rfl) allP_nil ?_
                refine rf [(1, .ptr 0 0), (2, .ptr 1 0), (3, iS t4q7), (4, iS t4q7), (62, bS true)] [(0, .row 25 (Enc.cells d)), (1, .row 27 [iS 0, iS 0])] 2 (by kernel_rfl) ?_
                exact hK527 () _ _ _ trivial (leSt_m [(0, 0), (1, 1)] [] (by first | ((try simp only [g528, g529]) <;> simp only [push_cast, seval]; done) | ((try simp only [g528]); (try simp only [g529]); simp only [push_cast, seval]; done) | (exfalso; clear h; simp_all; done)) (by first | ((try simp only [g528, g529]) <;> simp only [push_cast, seval]; done) | ((try simp only [g528]); (try simp only [g529]); simp only [push_cast, seval]; done) | (exfalso; clear h; simp_all; done)) rfl rfl rfl)
              · refine rs 2 [] [] (by kernel_rfl) allP_nil ?_
                refine run_at_g 36 .i64 t4q7 1 g519 (by kernel_rfl) ?_
                refine rs 5 [] [] (by kernel_rfl) allP_nil ?_
                refine run_split 42 (decide ((0 : Int) < d.Task_e1)) (.inr (by kernel_rfl)) (fun g530 => ?_) (fun g530 => ?_)
                · refine rn 15 [(1, .ptr 0 0), (2, .ptr 1 0), (3, iS t4q7), (4, iS t4q7), (30, bS true), (42, .gd true (bS true))] [(0, .row 25 (Enc.cells d)), (1, .row 27 [iS 0, iS 0])] 2 (by kernel_rfl) ?_
                  refine rs 20 [] [] (by kernel_rfl) allP_nil ?_
                  refine rf [(1, .ptr 0 0), (2, .ptr 1 0), (3, iS t4q7), (4, iS t4q7), (62, bS true)] [(0, .row 25 (Enc.cells d)), (1, .row 27 [iS 0, iS 0])] 2 (by kernel_rfl) ?_
                  exact hK527 () _ _ _ trivial (leSt_m [(0, 0), (1, 1)] [] (by first | ((try simp only [g528, g529, g530]) <;> simp only [push_cast, seval]; done) | ((try simp only [g528]); (try simp only [g529]); (try simp only [g530]); simp only [push_cast, seval]; done) | (exfalso; clear h; simp_all; done)) (by first | ((try simp only [g528, g529, g530]) <;> simp only [push_cast, seval]; done) | ((try simp only [g528]); (try simp only [g529]); (try simp only [g530]); simp only [push_cast, seval]; done) | (exfalso; clear h; simp_all; done)) rfl rfl rfl)
                · refine rn 15 [(1, .ptr 0 0), (2, .ptr 1 0), (3, iS t4q7), (4, iS t4q7), (30, bS true), (42, .gd true (bS false))] [(0, .row 25 (Enc.cells d)), (1, .row 27 [iS 0, iS 0])] 2 (by kernel_rfl) ?_
                  refine rs 2 [] [] (by kernel_rfl) allP_nil ?_
                  refine run_at_g 43 .i64 t4q7 1 g519 (by kernel_rfl) ?_
                  refine rs 6 [] [] (by kernel_rfl) allP_nil ?_
                  refine run_split 50 (decide ((0 : Int) < d.Until_e1)) (.inl (by kernel_rfl)) (fun g531 => ?_) (fun g531 => ?_)
                  · refine rs 12 [] [] (by kernel_rfl) allP_nil ?_
                    refine rf [(1, .ptr 0 0), (2, .ptr 1 0), (3, iS t4q7), (4, iS t4q7), (62, bS true)] [(0, .row 25 (Enc.cells d)), (1, .row 27 [iS 0, iS 0])] 2 (by kernel_rfl) ?_
                    exact hK527 () _ _ _ trivial (leSt_m [(0, 0), (1, 1)] [] (by first | ((try simp only [g528, g529, g530, g531]) <;> simp only [push_cast, seval]; done) | ((try simp only [g528]); (try simp only [g529]); (try simp only [g530]); (try simp only [g531]); simp only [push_cast, seval]; done) | (exfalso; clear h; simp_all; done)) (by first | ((try simp only [g528, g529, g530, g531]) <;> simp only [push_cast, seval]; done) | ((try simp only [g528]); (try simp only [g529]); (try simp only [g530]); (try simp only [g531]); simp only [push_cast, seval]; done) | (exfalso; clear h; simp_all; done)) rfl rfl rfl)
                  · refine rs 2 [] [] (by kernel_rfl) allP_nil ?_
                    refine run_at_g 51 .i64 t4q7 1 g519 (by kernel_rfl) ?_
                    refine rs 3 [] [] (by kernel_rfl) allP_nil ?_
                    refine run_split 55 d.Ready_e1 (.inr (by kernel_rfl)) (fun g532 => ?_) (fun g532 => ?_)
                    · refine rs 2 [] [] (by kernel_rfl) allP_nil ?_
                      refine run_at_g 56 .i64 t4q7 1 g519 (by kernel_rfl) ?_
                      refine rs 5 [] [] (by kernel_rfl) allP_nil ?_
                      refine rf [(1, .ptr 0 0), (2, .ptr 1 0), (3, iS t4q7), (4, iS t4q7), (62, bS (decide ((0 : Int) < d.Task_e1)))] [(0, .row 25 (Enc.cells d)), (1, .row 27 [iS 0, iS 0])] 2 (by kernel_rfl) ?_
                      exact hK527 () _ _ _ trivial (leSt_m [(0, 0), (1, 1)] [] (by first | ((try simp only [g528, g529, g530, g531, g532]) <;> simp only [push_cast, seval]; done) | ((try simp only [g528]); (try simp only [g529]); (try simp only [g530]); (try simp only [g531]); (try simp only [g532]); simp only [push_cast, seval]; done) | (exfalso; clear h; simp_all; done)) (by first | ((try simp only [g528, g529, g530, g531, g532]) <;> simp only [push_cast, seval]; done) | ((try simp only [g528]); (try simp only [g529]); (try simp only [g530]); (try simp only [g531]); (try simp only [g532]); simp only [push_cast, seval]; done) | (exfalso; clear h; simp_all; done)) rfl rfl rfl)
                    · refine rs 7 [] [] (by kernel_rfl) allP_nil ?_
                      refine rf [(1, .ptr 0 0), (2, .ptr 1 0), (3, iS t4q7), (4, iS t4q7), (62, bS false)] [(0, .row 25 (Enc.cells d)), (1, .row 27 [iS 0, iS 0])] 2 (by kernel_rfl) ?_
                      exact hK527 () _ _ _ trivial (leSt_m [(0, 0), (1, 1)] [] (by first | ((try simp only [g528, g529, g530, g531, g532]) <;> simp only [push_cast, seval]; done) | ((try simp only [g528]); (try simp only [g529]); (try simp only [g530]); (try simp only [g531]); (try simp only [g532]); simp only [push_cast, seval]; done) | (exfalso; clear h; simp_all; done)) (by first | ((try simp only [g528, g529, g530, g531, g532]) <;> simp only [push_cast, seval]; done) | ((try simp only [g528]); (try simp only [g529]); (try simp only [g530]); (try simp only [g531]); (try simp only [g532]); simp only [push_cast, seval]; done) | (exfalso; clear h; simp_all; done)) rfl rfl rfl)
            · refine rs 22 [] [] (by kernel_rfl) allP_nil ?_
              refine run_at_g 51 .i64 t4q7 1 g519 (by kernel_rfl) ?_
              refine rs 3 [] [] (by kernel_rfl) allP_nil ?_
              refine run_split 55 d.Ready_e1 (.inr (by kernel_rfl)) (fun g533 => ?_) (fun g533 => ?_)
              · refine rs 2 [] [] (by kernel_rfl) allP_nil ?_
                refine run_at_g 56 .i64 t4q7 1 g519 (by kernel_rfl) ?_
                refine rs 5 [] [] (by kernel_rfl) allP_nil ?_
                refine rf [(1, .ptr 0 0), (2, .ptr 1 0), (3, iS t4q7), (4, iS t4q7), (62, bS (decide ((0 : Int) < d.Task_e1)))] [(0, .row 25 (Enc.cells d)), (1, .row 27 [iS 0, iS 0])] 2 (by kernel_rfl) ?_
                exact hK527 () _ _ _ trivial (leSt_m [(0, 0), (1, 1)] [] (by first | ((try simp only [g528, g533]) <;> simp only [push_cast, seval]; done) | ((try simp only [g528]); (try simp only [g533]); simp only [push_cast, seval]; done) | (exfalso; clear h; simp_all; done)) (by first | ((try simp only [g528, g533]) <;> simp only [push_cast, seval]; done) | ((try simp only [g528]); (try simp only [g533]); simp only [push_cast, seval]; done) | (exfalso; clear h; simp_all; done)) rfl rfl rfl)
              · refine rs 7 [] [] (by kernel_rfl) allP_nil ?_
                refine rf [(1, .ptr 0 0), (2, .ptr 1 0), (3, iS t4q7), (4, iS t4q7), (62, bS false)] [(0, .row 25 (Enc.cells d)), (1, .row 27 [iS 0, iS 0])] 2 (by kernel_rfl) ?_
                exact hK527 () _ _ _ trivial (leSt_m [(0, 0), (1, 1)] [] (by first | ((try simp only [g528, g533]) <;> simp only [push_cast, seval]; done) | ((try simp only [g528]); (try simp only [g533]); simp only [push_cast, seval]; done) | (exfalso; clear h; simp_all; done)) (by first | ((try simp only [g528, g533]) <;> simp only [push_cast, seval]; done) | ((try simp only [g528]); (try simp only [g533]); simp only [push_cast, seval]; done) | (exfalso; clear h; simp_all; done)) rfl rfl rfl)
          · dsimp only
            refine cond_sx h (by kernel_rfl) (fun g536 h => ?_) (fun g536 h => ?_)
            · refine seq_np ?_
              refine reg_f ?_
              refine rs 1 [] [] (by kernel_rfl) allP_nil ?_
              obtain ⟨r535, hr535, h⟩ := bind_sx h
              refine run_call 18 [iS 5, iS t4q7] (some 64) (by kernel_rfl) ?_
              refine call_0 (poll_fault_spec 5 t4q7 r535 hr535) (by simp only [push_cast, seval]) (by simp only [push_cast, seval]) ?_
              refine back_f ?_
              refine rs 1 [] [] (by kernel_rfl) allP_nil ?_
              refine rf [(2, .ptr 1 0)] [(0, .row 25 (Enc.cells d)), (1, .row 27 (Enc.cells r535))] 2 (by kernel_rfl) ?_
              refine wk_id ?_
              refine rt_cast ht2 ?_
              obtain ⟨r0, h, e0⟩ := map_sx h
              have e1 := hr2 r0 e0.symm
              subst r0
              obtain rfl := Option.some.inj h
              refine ret_at (.agg (Enc.cells r535)) (by kernel_rfl) ?_
              exact ret_e [] [] (by simp only [push_cast, seval]) (by simp only [push_cast, seval]) rfl rfl rfl
            · exact hK459 () _ _ _ h (leSt_m [(0, 0), (1, 1)] [] (by simp only [push_cast, seval]) (by simp only [push_cast, seval]) rfl rfl rfl)
        refine seq_np ?_
        refine reg_f ?_
        refine rs 3 [] [] (by kernel_rfl) allP_nil ?_
        refine run_br h 30 (.inl (by kernel_rfl)) (fun g542 h => ?_) (fun g542 h => ?_)
        · refine chk_sx h (fun g544 h => ?_)
          have k543 : 0 ≤ t4q7 ∧ t4q7 < 2 := by first | simpa only [Bool.and_eq_true, decide_eq_true_eq, bne_iff_ne, ne_eq] using g544 | (simp at g544 ⊢; omega)
          exfalso
          omega
        · refine chk_sx h (fun g546 h => ?_)
          have k545 : 0 ≤ t4q7 ∧ t4q7 < 2 := by first | simpa only [Bool.and_eq_true, decide_eq_true_eq, bne_iff_ne, ne_eq] using g546 | (simp at g546 ⊢; omega)
          exfalso
          omega
    · rintro _ h
      try dsimp only at h ⊢
      unfold poll_Check_j1 at h
      refine wk_id ?_
      refine reg_f ?_
      refine rs 2 [] [] (by kernel_rfl) allP_nil ?_
      refine rf [(1, .ptr 0 0), (2, .ptr 1 0), (4, iS (IntKind.i64.wrap (t4q7 + 1)))] [(0, .row 25 (Enc.cells d)), (1, .row 27 [iS 0, iS 0])] 2 (by kernel_rfl) ?_
      exact hn2 ((IntKind.i64.wrap (t4q7 + 1))) _ _ _ (Option.some.inj h).symm (leSt_m [(0, 0), (1, 1)] [] (by simp only [push_cast, seval]) (by simp only [push_cast, seval]) rfl rfl rfl)
  · change R2 (.exit 0) _ _ _
    refine ex_cast hx2 (id := 0) ?_
    obtain ⟨r0, h, e0⟩ := map_sx h
    have e1 := hr2 r0 e0.symm
    subst r0
    refine wk_id ?_
    refine wk_id ?_
    refine seq_np ?_
    refine seq_cut (A := Unit) (fun _ => ([(2, .ptr 1 0), (78, bS ((decide ((0 : Int) < d.Task_e0)) && (d.Task_e0 == d.Task_e1)))], [(0, .row 25 (Enc.cells d)), (1, .row 27 [iS 0, iS 0])], 2)) (fun _ => True) (fun K551 hK551 => ?_) (fun _ _ => ?_)
    · refine reg_f ?_
      refine rs 5 [] [] (by kernel_rfl) allP_nil ?_
      refine run_split 70 (decide ((0 : Int) < d.Task_e0)) (.inl (by kernel_rfl)) (fun g552 => ?_) (fun g552 => ?_)
      · refine rs 8 [] [] (by kernel_rfl) allP_nil ?_
        refine rf [(2, .ptr 1 0), (78, bS (d.Task_e0 == d.Task_e1))] [(0, .row 25 (Enc.cells d)), (1, .row 27 [iS 0, iS 0])] 2 (by kernel_rfl) ?_
        exact hK551 () _ _ _ trivial (leSt_m [(0, 0), (1, 1)] [] (by (try simp only [g552]) <;> simp only [push_cast, seval]) (by (try simp only [g552]) <;> simp only [push_cast, seval]) rfl rfl rfl)
      · refine rs 8 [] [] (by kernel_rfl) allP_nil ?_
        refine rf [(2, .ptr 1 0), (78, bS false)] [(0, .row 25 (Enc.cells d)), (1, .row 27 [iS 0, iS 0])] 2 (by kernel_rfl) ?_
        exact hK551 () _ _ _ trivial (leSt_m [(0, 0), (1, 1)] [] (by (try simp only [g552]) <;> simp only [push_cast, seval]) (by (try simp only [g552]) <;> simp only [push_cast, seval]) rfl rfl rfl)
    · dsimp only
      refine cond_sx h (by kernel_rfl) (fun g555 h => ?_) (fun g555 h => ?_)
      · refine seq_np ?_
        refine reg_f ?_
        obtain ⟨r554, hr554, h⟩ := bind_sx h
        refine run_call 18 [iS 10, iS 1] (some 79) (by kernel_rfl) ?_
        refine call_0 (poll_fault_spec 10 1 r554 hr554) (by simp only [push_cast, seval]) (by simp only [push_cast, seval]) ?_
        refine back_f ?_
        refine rs 1 [] [] (by kernel_rfl) allP_nil ?_
        refine rf [(2, .ptr 1 0)] [(0, .row 25 (Enc.cells d)), (1, .row 27 (Enc.cells r554))] 2 (by kernel_rfl) ?_
        refine wk_id ?_
        obtain rfl := Option.some.inj h
        refine ret_at (.agg (Enc.cells r554)) (by kernel_rfl) ?_
        exact ret_e [] [] (by simp only [push_cast, seval]) (by simp only [push_cast, seval]) rfl rfl rfl
      · refine wk_id ?_
        refine seq_np ?_
        refine reg_f ?_
        refine rs 2 [] [] (by kernel_rfl) allP_nil ?_
        refine rf [(2, .ptr 1 0)] [(0, .row 25 (Enc.cells d)), (1, .row 27 [iS 0, iS 0])] 2 (by kernel_rfl) ?_
        refine wk_id ?_
        obtain rfl := Option.some.inj h
        refine ret_at (.agg [iS 0, iS 0]) (by kernel_rfl) ?_
        exact ret_e [] [] (by simp only [push_cast, seval]) (by simp only [push_cast, seval]) rfl rfl rfl

set_option maxRecDepth 100000 in
set_option maxHeartbeats 10000000 in
theorem poll_side_spec (d : Desc) (way : Int) (r : Fault) (h : poll_side d way = some r) : SpecW Try.prog 19 [.agg (Enc.cells d), iS way] [] 0 (fun x h n => x = .agg (Enc.cells r) ∧ h = [] ∧ n = 0) := by
  unfold poll_side at h
  refine spec_of (draw_ok _) Try.func19 rfl (by decide) rfl (by kernel_rfl) ?_
  refine seq_np ?_
  refine reg_f ?_
  refine rs 2 [] [] (by kernel_rfl) allP_nil ?_
  refine rf [(1, iS way), (2, .ptr 0 0), (4, .ptr 1 0)] [(0, .row 25 (Enc.cells d)), (1, .row 27 [iS 0, iS 0])] 2 (by kernel_rfl) ?_
  refine wk_id ?_
  refine seq_np ?_
  refine seq_np ?_
  refine reg_f ?_
  refine rs 1 [] [] (by kernel_rfl) allP_nil ?_
  obtain ⟨r566, hr566, h⟩ := bind_sx h
  refine run_call 6 [.agg (Enc.cells d)] (some 7) (by kernel_rfl) ?_
  refine call_0 (poll_Check_spec d r566 hr566) (by simp only [push_cast, seval]) (by simp only [push_cast, seval]) ?_
  refine back_f ?_
  refine rs 2 [] [] (by kernel_rfl) allP_nil ?_
  refine rf [(1, iS way), (4, .ptr 1 0), (5, .ptr 2 0)] [(0, .row 25 (Enc.cells d)), (1, .row 27 [iS 0, iS 0]), (2, .row 27 (Enc.cells r566))] 3 (by kernel_rfl) ?_
  refine wk_id ?_
  refine seq_np ?_
  refine reg_f ?_
  refine rs 3 [] [] (by kernel_rfl) allP_nil ?_
  refine rf [(1, iS way), (4, .ptr 1 0), (5, .ptr 2 0), (10, bS (r566.Code != 0))] [(0, .row 25 (Enc.cells d)), (1, .row 27 [iS 0, iS 0]), (2, .row 27 (Enc.cells r566))] 3 (by kernel_rfl) ?_
  refine wk_id ?_
  refine cond_sx h (by kernel_rfl) (fun g576 h => ?_) (fun g576 h => ?_)
  · refine seq_np ?_
    refine reg_f ?_
    refine rs 2 [] [] (by kernel_rfl) allP_nil ?_
    refine rf [(4, .ptr 1 0)] [(0, .row 25 (Enc.cells d)), (1, .row 27 (Enc.cells r566)), (2, .row 27 (Enc.cells r566))] 3 (by kernel_rfl) ?_
    refine wk_id ?_
    obtain rfl := Option.some.inj h
    refine ret_at (.agg (Enc.cells r566)) (by kernel_rfl) ?_
    exact ret_e [] [] (by simp only [push_cast, seval]) (by simp only [push_cast, seval]) rfl rfl rfl
  · refine wk_id ?_
    refine seq_np ?_
    refine seq_cut (A := Unit) (fun _ => ([(4, .ptr 1 0), (17, bS ((decide (way < 0)) || (decide ((1 : Int) < way))))], [(0, .row 25 (Enc.cells d)), (1, .row 27 [iS 0, iS 0]), (2, .row 27 (Enc.cells r566))], 3)) (fun _ => True) (fun K571 hK571 => ?_) (fun _ _ => ?_)
    · refine reg_f ?_
      refine rs 3 [] [] (by kernel_rfl) allP_nil ?_
      refine run_split 14 (decide (way < 0)) (.inl (by kernel_rfl)) (fun g572 => ?_) (fun g572 => ?_)
      · refine rs 3 [] [] (by kernel_rfl) allP_nil ?_
        refine rf [(4, .ptr 1 0), (17, bS true)] [(0, .row 25 (Enc.cells d)), (1, .row 27 [iS 0, iS 0]), (2, .row 27 (Enc.cells r566))] 3 (by kernel_rfl) ?_
        exact hK571 () _ _ _ trivial (leSt_m [(0, 0), (1, 1), (2, 2)] [] (by (try simp only [g572]) <;> simp only [push_cast, seval]) (by (try simp only [g572]) <;> simp only [push_cast, seval]) rfl rfl rfl)
      · refine rs 3 [] [] (by kernel_rfl) allP_nil ?_
        refine rf [(4, .ptr 1 0), (17, bS (decide ((1 : Int) < way)))] [(0, .row 25 (Enc.cells d)), (1, .row 27 [iS 0, iS 0]), (2, .row 27 (Enc.cells r566))] 3 (by kernel_rfl) ?_
        exact hK571 () _ _ _ trivial (leSt_m [(0, 0), (1, 1), (2, 2)] [] (by (try simp only [g572]) <;> simp only [push_cast, seval]) (by (try simp only [g572]) <;> simp only [push_cast, seval]) rfl rfl rfl)
    · dsimp only
      refine cond_sx h (by kernel_rfl) (fun g575 h => ?_) (fun g575 h => ?_)
      · refine seq_np ?_
        refine reg_f ?_
        obtain ⟨r574, hr574, h⟩ := bind_sx h
        refine run_call 18 [iS 4, iS (-1)] (some 18) (by kernel_rfl) ?_
        refine call_0 (poll_fault_spec 4 (-1) r574 hr574) (by simp only [push_cast, seval]) (by simp only [push_cast, seval]) ?_
        refine back_f ?_
        refine rs 1 [] [] (by kernel_rfl) allP_nil ?_
        refine rf [(4, .ptr 1 0)] [(0, .row 25 (Enc.cells d)), (1, .row 27 (Enc.cells r574)), (2, .row 27 (Enc.cells r566))] 3 (by kernel_rfl) ?_
        refine wk_id ?_
        obtain rfl := Option.some.inj h
        refine ret_at (.agg (Enc.cells r574)) (by kernel_rfl) ?_
        exact ret_e [] [] (by simp only [push_cast, seval]) (by simp only [push_cast, seval]) rfl rfl rfl
      · refine wk_id ?_
        refine seq_np ?_
        refine reg_f ?_
        refine rs 2 [] [] (by kernel_rfl) allP_nil ?_
        refine rf [(4, .ptr 1 0)] [(0, .row 25 (Enc.cells d)), (1, .row 27 [iS 0, iS 0]), (2, .row 27 (Enc.cells r566))] 3 (by kernel_rfl) ?_
        refine wk_id ?_
        obtain rfl := Option.some.inj h
        refine ret_at (.agg [iS 0, iS 0]) (by kernel_rfl) ?_
        exact ret_e [] [] (by simp only [push_cast, seval]) (by simp only [push_cast, seval]) rfl rfl rfl

set_option maxRecDepth 100000 in
set_option maxHeartbeats 10000000 in
theorem poll_late_spec (d : Desc) (way : Int) (now : Int) (r : Bool) (h : poll_late d way now = some r) : SpecW Try.prog 20 [.agg (Enc.cells d), iS way, iS now] [] 0 (fun x h n => x = bS r ∧ h = [] ∧ n = 0) := by
  unfold poll_late at h
  refine spec_of (draw_ok _) Try.func20 rfl (by decide) rfl (by kernel_rfl) ?_
  refine seq_np ?_
  refine reg_f ?_
  refine rs 2 [] [] (by kernel_rfl) allP_nil ?_
  refine rf [(1, iS way), (2, iS now), (3, .ptr 0 0)] [(0, .row 25 (Enc.cells d))] 1 (by kernel_rfl) ?_
  refine wk_id ?_
  refine split_s h (fun g595 h => ?_) (fun g596 h => ?_)
  · refine seq_cut (A := Unit) (fun _ => ([(6, bS ((decide ((0 : Int) < d.Until_e0)) && (decide (d.Until_e0 ≤ now))))], [(0, .row 25 (Enc.cells d))], 1)) (fun _ => True) (fun K598 hK598 => ?_) (fun _ _ => ?_)
    · refine reg_f ?_
      refine rs 2 [] [] (by kernel_rfl) allP_nil ?_
      refine run_at 7 .i64 way 0 g595 (by kernel_rfl) ?_
      refine rs 4 [] [] (by kernel_rfl) allP_nil ?_
      refine run_split 12 (decide ((0 : Int) < d.Until_e0)) (.inl (by kernel_rfl)) (fun g599 => ?_) (fun g599 => ?_)
      · refine rs 2 [] [] (by kernel_rfl) allP_nil ?_
        refine run_at_g 13 .i64 way 0 g595 (by kernel_rfl) ?_
        refine rs 6 [] [] (by kernel_rfl) allP_nil ?_
        refine rf [(6, bS (decide (d.Until_e0 ≤ now)))] [(0, .row 25 (Enc.cells d))] 1 (by kernel_rfl) ?_
        exact hK598 () _ _ _ trivial (leSt_m [(0, 0)] [] (by (try simp only [g599]) <;> simp only [push_cast, seval]) (by (try simp only [g599]) <;> simp only [push_cast, seval]) rfl rfl rfl)
      · refine rs 8 [] [] (by kernel_rfl) allP_nil ?_
        refine rf [(6, bS false)] [(0, .row 25 (Enc.cells d))] 1 (by kernel_rfl) ?_
        exact hK598 () _ _ _ trivial (leSt_m [(0, 0)] [] (by (try simp only [g599]) <;> simp only [push_cast, seval]) (by (try simp only [g599]) <;> simp only [push_cast, seval]) rfl rfl rfl)
    · dsimp only
      obtain rfl := Option.some.inj h
      refine ret_at (bS ((decide ((0 : Int) < d.Until_e0)) && (decide (d.Until_e0 ≤ now)))) (by kernel_rfl) ?_
      exact ret_e [] [] (by simp only [push_cast, seval]) (by simp only [push_cast, seval]) rfl rfl rfl
  refine split_s h (fun g600 h => ?_) (fun g601 h => ?_)
  · refine seq_cut (A := Unit) (fun _ => ([(6, bS ((decide ((0 : Int) < d.Until_e1)) && (decide (d.Until_e1 ≤ now))))], [(0, .row 25 (Enc.cells d))], 1)) (fun _ => True) (fun K603 hK603 => ?_) (fun _ _ => ?_)
    · refine reg_f ?_
      refine rs 2 [] [] (by kernel_rfl) allP_nil ?_
      refine run_at 7 .i64 way 1 g600 (by kernel_rfl) ?_
      refine rs 4 [] [] (by kernel_rfl) allP_nil ?_
      refine run_split 12 (decide ((0 : Int) < d.Until_e1)) (.inl (by kernel_rfl)) (fun g604 => ?_) (fun g604 => ?_)
      · refine rs 2 [] [] (by kernel_rfl) allP_nil ?_
        refine run_at_g 13 .i64 way 1 g600 (by kernel_rfl) ?_
        refine rs 6 [] [] (by kernel_rfl) allP_nil ?_
        refine rf [(6, bS (decide (d.Until_e1 ≤ now)))] [(0, .row 25 (Enc.cells d))] 1 (by kernel_rfl) ?_
        exact hK603 () _ _ _ trivial (leSt_m [(0, 0)] [] (by (try simp only [g604]) <;> simp only [push_cast, seval]) (by (try simp only [g604]) <;> simp only [push_cast, seval]) rfl rfl rfl)
      · refine rs 8 [] [] (by kernel_rfl) allP_nil ?_
        refine rf [(6, bS false)] [(0, .row 25 (Enc.cells d))] 1 (by kernel_rfl) ?_
        exact hK603 () _ _ _ trivial (leSt_m [(0, 0)] [] (by (try simp only [g604]) <;> simp only [push_cast, seval]) (by (try simp only [g604]) <;> simp only [push_cast, seval]) rfl rfl rfl)
    · dsimp only
      obtain rfl := Option.some.inj h
      refine ret_at (bS ((decide ((0 : Int) < d.Until_e1)) && (decide (d.Until_e1 ≤ now)))) (by kernel_rfl) ?_
      exact ret_e [] [] (by simp only [push_cast, seval]) (by simp only [push_cast, seval]) rfl rfl rfl
  refine chk_sx h (fun g608 h => ?_)
  refine seq_np ?_
  refine reg_f ?_
  have k607 : 0 ≤ way ∧ way < 2 := by first | simpa only [Bool.and_eq_true, decide_eq_true_eq, bne_iff_ne, ne_eq] using g608 | (simp at g608 ⊢; omega)
  exfalso
  omega

set_option maxRecDepth 100000 in
set_option maxHeartbeats 10000000 in
theorem poll_Wait_spec (d : Desc) (way : Int) (task : Int) (now : Int) (r : Desc × Int × Fault) (h : poll_Wait d way task now = some r) : SpecW Try.prog 7 [.agg (Enc.cells d), iS way, iS task, iS now] [] 0 (fun x h n => x = .tup [.agg (Enc.cells r.1), iS r.2.1, .agg (Enc.cells r.2.2)] ∧ h = [] ∧ n = 0) := by
  unfold poll_Wait at h
  refine spec_of (draw_ok _) Try.func7 rfl (by decide) rfl (by kernel_rfl) ?_
  refine seq_np ?_
  refine reg_f ?_
  refine rs 4 [] [] (by kernel_rfl) allP_nil ?_
  refine rf [(1, iS way), (2, iS task), (3, iS now), (4, .ptr 0 0), (8, .ptr 1 0), (10, .ptr 2 0)] [(0, .row 25 (Enc.cells d)), (1, .row 25 [bS false, bS false, bS false, iS 0, iS 0, iS 0, iS 0]), (2, .row 27 [iS 0, iS 0])] 3 (by kernel_rfl) ?_
  refine wk_id ?_
  refine seq_np ?_
  refine reg_f ?_
  refine rs 2 [] [] (by kernel_rfl) allP_nil ?_
  obtain ⟨r654, hr654, h⟩ := bind_sx h
  refine run_call 19 [.agg (Enc.cells d), iS way] (some 14) (by kernel_rfl) ?_
  refine call_0 (poll_side_spec d way r654 hr654) (by simp only [push_cast, seval]) (by simp only [push_cast, seval]) ?_
  refine back_f ?_
  refine rs 2 [] [] (by kernel_rfl) allP_nil ?_
  refine rf [(1, iS way), (2, iS task), (3, iS now), (4, .ptr 0 0), (8, .ptr 1 0), (10, .ptr 2 0), (11, .ptr 3 0)] [(0, .row 25 (Enc.cells d)), (1, .row 25 [bS false, bS false, bS false, iS 0, iS 0, iS 0, iS 0]), (2, .row 27 [iS 0, iS 0]), (3, .row 27 (Enc.cells r654))] 4 (by kernel_rfl) ?_
  refine wk_id ?_
  refine seq_np ?_
  refine block_cut (A := Fault) (fun a => ([(8, .ptr 0 0), (10, .ptr 1 0), (11, .ptr 2 0)], [(0, .row 25 [bS false, bS false, bS false, iS 0, iS 0, iS 0, iS 0]), (1, .row 27 [iS 0, iS 0]), (2, .row 27 (Enc.cells a))], 3)) (fun a => (poll_Wait_j1 a) = some r) (fun K760 hK760 => ?_) ?_
  · refine seq_np ?_
    refine reg_f ?_
    refine rs 4 [] [] (by kernel_rfl) allP_nil ?_
    refine rf [(1, iS way), (2, iS task), (3, iS now), (4, .ptr 0 0), (8, .ptr 1 0), (10, .ptr 2 0), (11, .ptr 3 0), (21, bS (r654.Code != 0))] [(0, .row 25 (Enc.cells d)), (1, .row 25 [bS false, bS false, bS false, iS 0, iS 0, iS 0, iS 0]), (2, .row 27 [iS 0, iS 0]), (3, .row 27 (Enc.cells r654))] 4 (by kernel_rfl) ?_
    refine wk_id ?_
    refine cond_sx h (by kernel_rfl) (fun g831 h => ?_) (fun g831 h => ?_)
    · exact hK760 (r654) _ _ _ h (leSt_m [(0, 1), (1, 2), (2, 3)] [] (by simp only [push_cast, seval]) (by simp only [push_cast, seval]) rfl rfl rfl)
    · refine seq_cut (A := Unit) (fun _ => ([(1, iS way), (2, iS task), (3, iS now), (4, .ptr 0 0), (8, .ptr 1 0), (10, .ptr 2 0), (11, .ptr 3 0), (25, bS ((decide (task < 1)) || ((decide (now < 0)) || (decide ((1000000000 : Int) < now)))))], [(0, .row 25 (Enc.cells d)), (1, .row 25 [bS false, bS false, bS false, iS 0, iS 0, iS 0, iS 0]), (2, .row 27 [iS 0, iS 0]), (3, .row 27 (Enc.cells r654))], 4)) (fun _ => True) (fun K763 hK763 => ?_) (fun _ _ => ?_)
      · refine reg_f ?_
        refine rs 3 [] [] (by kernel_rfl) allP_nil ?_
        refine run_split 28 (decide (task < 1)) (.inl (by kernel_rfl)) (fun g764 => ?_) (fun g764 => ?_)
        · refine rs 8 [] [] (by kernel_rfl) allP_nil ?_
          refine rf [(1, iS way), (2, iS task), (3, iS now), (4, .ptr 0 0), (8, .ptr 1 0), (10, .ptr 2 0), (11, .ptr 3 0), (25, bS true)] [(0, .row 25 (Enc.cells d)), (1, .row 25 [bS false, bS false, bS false, iS 0, iS 0, iS 0, iS 0]), (2, .row 27 [iS 0, iS 0]), (3, .row 27 (Enc.cells r654))] 4 (by kernel_rfl) ?_
          exact hK763 () _ _ _ trivial (leSt_m [(0, 0), (1, 1), (2, 2), (3, 3)] [] (by (try simp only [g764]) <;> simp only [push_cast, seval]) (by (try simp only [g764]) <;> simp only [push_cast, seval]) rfl rfl rfl)
        · refine rs 4 [] [] (by kernel_rfl) allP_nil ?_
          refine run_split 32 (decide (now < 0)) (.inl (by kernel_rfl)) (fun g765 => ?_) (fun g765 => ?_)
          · refine rs 4 [] [] (by kernel_rfl) allP_nil ?_
            refine rf [(1, iS way), (2, iS task), (3, iS now), (4, .ptr 0 0), (8, .ptr 1 0), (10, .ptr 2 0), (11, .ptr 3 0), (25, bS true)] [(0, .row 25 (Enc.cells d)), (1, .row 25 [bS false, bS false, bS false, iS 0, iS 0, iS 0, iS 0]), (2, .row 27 [iS 0, iS 0]), (3, .row 27 (Enc.cells r654))] 4 (by kernel_rfl) ?_
            exact hK763 () _ _ _ trivial (leSt_m [(0, 0), (1, 1), (2, 2), (3, 3)] [] (by first | ((try simp only [g764, g765]) <;> simp only [push_cast, seval]; done) | ((try simp only [g764]); (try simp only [g765]); simp only [push_cast, seval]; done) | (exfalso; clear h; simp_all; done)) (by first | ((try simp only [g764, g765]) <;> simp only [push_cast, seval]; done) | ((try simp only [g764]); (try simp only [g765]); simp only [push_cast, seval]; done) | (exfalso; clear h; simp_all; done)) rfl rfl rfl)
          · refine rs 4 [] [] (by kernel_rfl) allP_nil ?_
            refine rf [(1, iS way), (2, iS task), (3, iS now), (4, .ptr 0 0), (8, .ptr 1 0), (10, .ptr 2 0), (11, .ptr 3 0), (25, bS (decide ((1000000000 : Int) < now)))] [(0, .row 25 (Enc.cells d)), (1, .row 25 [bS false, bS false, bS false, iS 0, iS 0, iS 0, iS 0]), (2, .row 27 [iS 0, iS 0]), (3, .row 27 (Enc.cells r654))] 4 (by kernel_rfl) ?_
            exact hK763 () _ _ _ trivial (leSt_m [(0, 0), (1, 1), (2, 2), (3, 3)] [] (by first | ((try simp only [g764, g765]) <;> simp only [push_cast, seval]; done) | ((try simp only [g764]); (try simp only [g765]); simp only [push_cast, seval]; done) | (exfalso; clear h; simp_all; done)) (by first | ((try simp only [g764, g765]) <;> simp only [push_cast, seval]; done) | ((try simp only [g764]); (try simp only [g765]); simp only [push_cast, seval]; done) | (exfalso; clear h; simp_all; done)) rfl rfl rfl)
      · dsimp only
        refine cond_sx h (by kernel_rfl) (fun g830 h => ?_) (fun g830 h => ?_)
        · refine reg_f ?_
          obtain ⟨r767, hr767, h⟩ := bind_sx h
          refine run_call 18 [iS 3, iS (-1)] (some 36) (by kernel_rfl) ?_
          refine call_0 (poll_fault_spec 3 (-1) r767 hr767) (by simp only [push_cast, seval]) (by simp only [push_cast, seval]) ?_
          refine back_f ?_
          refine rs 1 [] [] (by kernel_rfl) allP_nil ?_
          refine rf [(8, .ptr 1 0), (10, .ptr 2 0), (11, .ptr 3 0)] [(0, .row 25 (Enc.cells d)), (1, .row 25 [bS false, bS false, bS false, iS 0, iS 0, iS 0, iS 0]), (2, .row 27 [iS 0, iS 0]), (3, .row 27 (Enc.cells r767))] 4 (by kernel_rfl) ?_
          exact hK760 (r767) _ _ _ h (leSt_m [(0, 1), (1, 2), (2, 3)] [] (by simp only [push_cast, seval]) (by simp only [push_cast, seval]) rfl rfl rfl)
        · refine split_s h (fun g768 h => ?_) (fun g769 h => ?_)
          · refine seq_np ?_
            refine reg_f ?_
            refine rs 2 [] [] (by kernel_rfl) allP_nil ?_
            refine run_at 38 .i64 way 0 g768 (by kernel_rfl) ?_
            refine rs 4 [] [] (by kernel_rfl) allP_nil ?_
            refine rf [(1, iS way), (2, iS task), (3, iS now), (4, .ptr 0 0), (8, .ptr 1 0), (10, .ptr 2 0), (11, .ptr 3 0), (37, bS (decide ((0 : Int) < d.Task_e0)))] [(0, .row 25 (Enc.cells d)), (1, .row 25 [bS false, bS false, bS false, iS 0, iS 0, iS 0, iS 0]), (2, .row 27 [iS 0, iS 0]), (3, .row 27 (Enc.cells r654))] 4 (by kernel_rfl) ?_
            refine wk_id ?_
            refine cond_sx h (by kernel_rfl) (fun g796 h => ?_) (fun g796 h => ?_)
            · refine reg_f ?_
              obtain ⟨r771, hr771, h⟩ := bind_sx h
              refine run_call 18 [iS 11, iS (-1)] (some 43) (by kernel_rfl) ?_
              refine call_0 (poll_fault_spec 11 (-1) r771 hr771) (by simp only [push_cast, seval]) (by simp only [push_cast, seval]) ?_
              refine back_f ?_
              refine rs 1 [] [] (by kernel_rfl) allP_nil ?_
              refine rf [(8, .ptr 1 0), (10, .ptr 2 0), (11, .ptr 3 0)] [(0, .row 25 (Enc.cells d)), (1, .row 25 [bS false, bS false, bS false, iS 0, iS 0, iS 0, iS 0]), (2, .row 27 [iS 0, iS 0]), (3, .row 27 (Enc.cells r771))] 4 (by kernel_rfl) ?_
              exact hK760 (r771) _ _ _ h (leSt_m [(0, 1), (1, 2), (2, 3)] [] (by simp only [push_cast, seval]) (by simp only [push_cast, seval]) rfl rfl rfl)
            · refine split_s h (fun g772 h => ?_) (fun g773 h => ?_)
              · refine seq_np ?_
                refine reg_f ?_
                refine rs 3 [] [] (by kernel_rfl) allP_nil ?_
                refine run_at 46 .i64 (IntKind.i64.wrap ((1 : Int) - way)) 0 g772 (by kernel_rfl) ?_
                refine rs 5 [] [] (by kernel_rfl) allP_nil ?_
                refine rf [(1, iS way), (2, iS task), (3, iS now), (4, .ptr 0 0), (8, .ptr 1 0), (10, .ptr 2 0), (11, .ptr 3 0), (44, bS (d.Task_e0 == task))] [(0, .row 25 (Enc.cells d)), (1, .row 25 [bS false, bS false, bS false, iS 0, iS 0, iS 0, iS 0]), (2, .row 27 [iS 0, iS 0]), (3, .row 27 (Enc.cells r654))] 4 (by kernel_rfl) ?_
                refine wk_id ?_
                refine cond_sx h (by kernel_rfl) (fun g781 h => ?_) (fun g781 h => ?_)
                · refine reg_f ?_
                  obtain ⟨r775, hr775, h⟩ := bind_sx h
                  refine run_call 18 [iS 10, iS (-1)] (some 52) (by kernel_rfl) ?_
                  refine call_0 (poll_fault_spec 10 (-1) r775 hr775) (by simp only [push_cast, seval]) (by simp only [push_cast, seval]) ?_
                  refine back_f ?_
                  refine rs 1 [] [] (by kernel_rfl) allP_nil ?_
                  refine rf [(8, .ptr 1 0), (10, .ptr 2 0), (11, .ptr 3 0)] [(0, .row 25 (Enc.cells d)), (1, .row 25 [bS false, bS false, bS false, iS 0, iS 0, iS 0, iS 0]), (2, .row 27 [iS 0, iS 0]), (3, .row 27 (Enc.cells r775))] 4 (by kernel_rfl) ?_
                  exact hK760 (r775) _ _ _ h (leSt_m [(0, 1), (1, 2), (2, 3)] [] (by simp only [push_cast, seval]) (by simp only [push_cast, seval]) rfl rfl rfl)
                · refine seq_np ?_
                  refine reg_f ?_
                  refine rs 3 [] [] (by kernel_rfl) allP_nil ?_
                  refine rf [(1, iS way), (2, iS task), (3, iS now), (4, .ptr 0 0), (8, .ptr 1 0), (10, .ptr 2 0), (11, .ptr 3 0), (53, bS d.Closed)] [(0, .row 25 (Enc.cells d)), (1, .row 25 [bS false, bS false, bS false, iS 0, iS 0, iS 0, iS 0]), (2, .row 27 [iS 0, iS 0]), (3, .row 27 (Enc.cells r654))] 4 (by kernel_rfl) ?_
                  refine wk_id ?_
                  refine cond_sx h (by kernel_rfl) (fun g780 h => ?_) (fun g780 h => ?_)
                  · refine seq_np ?_
                    refine reg_t ?_
                    refine rs 5 [] [] (by kernel_rfl) allP_nil ?_
                    refine rt [(8, .ptr 1 0), (9, iS 3), (10, .ptr 2 0)] [(0, .row 25 (Enc.cells d)), (1, .row 25 (Enc.cells d)), (2, .row 27 (Enc.cells r654)), (3, .row 27 (Enc.cells r654))] 9 follows (by kernel_rfl) ?_
                    refine wk_id ?_
                    obtain rfl := Option.some.inj h
                    refine ret_at (.tup [.agg (Enc.cells d), iS 3, .agg (Enc.cells r654)]) (by kernel_rfl) ?_
                    exact ret_e [] [] (by simp only [push_cast, seval]) (by simp only [push_cast, seval]) rfl rfl rfl
                  · refine seq_np ?_
                    refine reg_f ?_
                    refine rs 3 [] [] (by kernel_rfl) allP_nil ?_
                    obtain ⟨r777, hr777, h⟩ := bind_sx h
                    refine run_call 20 [.agg (Enc.cells d), iS way, iS now] (some 62) (by kernel_rfl) ?_
                    refine call_0 (poll_late_spec d way now r777 hr777) (by simp only [push_cast, seval]) (by simp only [push_cast, seval]) ?_
                    refine back_f ?_
                    refine rs 1 [] [] (by kernel_rfl) allP_nil ?_
                    refine rf [(1, iS way), (2, iS task), (4, .ptr 0 0), (8, .ptr 1 0), (10, .ptr 2 0), (11, .ptr 3 0), (58, bS r777)] [(0, .row 25 (Enc.cells d)), (1, .row 25 [bS false, bS false, bS false, iS 0, iS 0, iS 0, iS 0]), (2, .row 27 [iS 0, iS 0]), (3, .row 27 (Enc.cells r654))] 4 (by kernel_rfl) ?_
                    refine wk_id ?_
                    refine cond_sx h (by kernel_rfl) (fun g779 h => ?_) (fun g779 h => ?_)
                    · refine seq_np ?_
                      refine reg_t ?_
                      refine rs 5 [] [] (by kernel_rfl) allP_nil ?_
                      refine rt [(8, .ptr 1 0), (9, iS 2), (10, .ptr 2 0)] [(0, .row 25 (Enc.cells d)), (1, .row 25 (Enc.cells d)), (2, .row 27 (Enc.cells r654)), (3, .row 27 (Enc.cells r654))] 9 follows (by kernel_rfl) ?_
                      refine wk_id ?_
                      obtain rfl := Option.some.inj h
                      refine ret_at (.tup [.agg (Enc.cells d), iS 2, .agg (Enc.cells r654)]) (by kernel_rfl) ?_
                      exact ret_e [] [] (by simp only [push_cast, seval]) (by simp only [push_cast, seval]) rfl rfl rfl
                    · refine seq_np ?_
                      refine reg_f ?_
                      refine rs 2 [] [] (by kernel_rfl) allP_nil ?_
                      refine run_at 66 .i64 way 0 g768 (by kernel_rfl) ?_
                      refine rs 3 [] [] (by kernel_rfl) allP_nil ?_
                      refine rf [(1, iS way), (2, iS task), (4, .ptr 0 0), (8, .ptr 1 0), (10, .ptr 2 0), (11, .ptr 3 0), (65, bS d.Ready_e0)] [(0, .row 25 (Enc.cells d)), (1, .row 25 [bS false, bS false, bS false, iS 0, iS 0, iS 0, iS 0]), (2, .row 27 [iS 0, iS 0]), (3, .row 27 (Enc.cells r654))] 4 (by kernel_rfl) ?_
                      refine wk_id ?_
                      refine cond_sx h (by kernel_rfl) (fun g778 h => ?_) (fun g778 h => ?_)
                      · refine seq_np ?_
                        refine reg_f ?_
                        refine rs 2 [] [] (by kernel_rfl) allP_nil ?_
                        refine run_at 70 .i64 way 0 g768 (by kernel_rfl) ?_
                        refine rs 2 [] [] (by kernel_rfl) allP_nil ?_
                        refine rf [(4, .ptr 0 0), (8, .ptr 1 0), (10, .ptr 2 0), (11, .ptr 3 0)] [(0, .row 25 [bS d.Closed, bS false, bS d.Ready_e1, iS d.Task_e0, iS d.Task_e1, iS d.Until_e0, iS d.Until_e1]), (1, .row 25 [bS false, bS false, bS false, iS 0, iS 0, iS 0, iS 0]), (2, .row 27 [iS 0, iS 0]), (3, .row 27 (Enc.cells r654))] 4 (by kernel_rfl) ?_
                        refine wk_id ?_
                        refine seq_np ?_
                        refine reg_t ?_
                        refine rs 5 [] [] (by kernel_rfl) allP_nil ?_
                        refine rt [(8, .ptr 1 0), (9, iS 1), (10, .ptr 2 0)] [(0, .row 25 [bS d.Closed, bS false, bS d.Ready_e1, iS d.Task_e0, iS d.Task_e1, iS d.Until_e0, iS d.Until_e1]), (1, .row 25 [bS d.Closed, bS false, bS d.Ready_e1, iS d.Task_e0, iS d.Task_e1, iS d.Until_e0, iS d.Until_e1]), (2, .row 27 (Enc.cells r654)), (3, .row 27 (Enc.cells r654))] 9 follows (by kernel_rfl) ?_
                        refine wk_id ?_
                        obtain rfl := Option.some.inj h
                        refine ret_at (.tup [.agg [bS d.Closed, bS false, bS d.Ready_e1, iS d.Task_e0, iS d.Task_e1, iS d.Until_e0, iS d.Until_e1], iS 1, .agg (Enc.cells r654)]) (by kernel_rfl) ?_
                        exact ret_e [] [] (by simp only [push_cast, seval]) (by simp only [push_cast, seval]) rfl rfl rfl
                      · refine seq_np ?_
                        refine reg_f ?_
                        refine rs 3 [] [] (by kernel_rfl) allP_nil ?_
                        refine run_at 15 .i64 way 0 g768 (by kernel_rfl) ?_
                        refine rs 2 [] [] (by kernel_rfl) allP_nil ?_
                        refine rf [(4, .ptr 0 0), (8, .ptr 1 0), (10, .ptr 2 0), (11, .ptr 3 0)] [(0, .row 25 [bS d.Closed, bS d.Ready_e0, bS d.Ready_e1, iS task, iS d.Task_e1, iS d.Until_e0, iS d.Until_e1]), (1, .row 25 [bS false, bS false, bS false, iS 0, iS 0, iS 0, iS 0]), (2, .row 27 [iS 0, iS 0]), (3, .row 27 (Enc.cells r654))] 4 (by kernel_rfl) ?_
                        refine wk_id ?_
                        refine seq_np ?_
                        refine reg_t ?_
                        refine rs 5 [] [] (by kernel_rfl) allP_nil ?_
                        refine rt [(8, .ptr 1 0), (9, iS 0), (10, .ptr 2 0)] [(0, .row 25 [bS d.Closed, bS d.Ready_e0, bS d.Ready_e1, iS task, iS d.Task_e1, iS d.Until_e0, iS d.Until_e1]), (1, .row 25 [bS d.Closed, bS d.Ready_e0, bS d.Ready_e1, iS task, iS d.Task_e1, iS d.Until_e0, iS d.Until_e1]), (2, .row 27 (Enc.cells r654)), (3, .row 27 (Enc.cells r654))] 9 follows (by kernel_rfl) ?_
                        refine wk_id ?_
                        obtain rfl := Option.some.inj h
                        refine ret_at (.tup [.agg [bS d.Closed, bS d.Ready_e0, bS d.Ready_e1, iS task, iS d.Task_e1, iS d.Until_e0, iS d.Until_e1], iS 0, .agg (Enc.cells r654)]) (by kernel_rfl) ?_
                        exact ret_e [] [] (by simp only [push_cast, seval]) (by simp only [push_cast, seval]) rfl rfl rfl
              refine split_s h (fun g782 h => ?_) (fun g783 h => ?_)
              · refine seq_np ?_
                refine reg_f ?_
                refine rs 3 [] [] (by kernel_rfl) allP_nil ?_
                refine run_at 46 .i64 (IntKind.i64.wrap ((1 : Int) - way)) 1 g782 (by kernel_rfl) ?_
                refine rs 5 [] [] (by kernel_rfl) allP_nil ?_
                refine rf [(1, iS way), (2, iS task), (3, iS now), (4, .ptr 0 0), (8, .ptr 1 0), (10, .ptr 2 0), (11, .ptr 3 0), (44, bS (d.Task_e1 == task))] [(0, .row 25 (Enc.cells d)), (1, .row 25 [bS false, bS false, bS false, iS 0, iS 0, iS 0, iS 0]), (2, .row 27 [iS 0, iS 0]), (3, .row 27 (Enc.cells r654))] 4 (by kernel_rfl) ?_
                refine wk_id ?_
                refine cond_sx h (by kernel_rfl) (fun g791 h => ?_) (fun g791 h => ?_)
                · refine reg_f ?_
                  obtain ⟨r785, hr785, h⟩ := bind_sx h
                  refine run_call 18 [iS 10, iS (-1)] (some 52) (by kernel_rfl) ?_
                  refine call_0 (poll_fault_spec 10 (-1) r785 hr785) (by simp only [push_cast, seval]) (by simp only [push_cast, seval]) ?_
                  refine back_f ?_
                  refine rs 1 [] [] (by kernel_rfl) allP_nil ?_
                  refine rf [(8, .ptr 1 0), (10, .ptr 2 0), (11, .ptr 3 0)] [(0, .row 25 (Enc.cells d)), (1, .row 25 [bS false, bS false, bS false, iS 0, iS 0, iS 0, iS 0]), (2, .row 27 [iS 0, iS 0]), (3, .row 27 (Enc.cells r785))] 4 (by kernel_rfl) ?_
                  exact hK760 (r785) _ _ _ h (leSt_m [(0, 1), (1, 2), (2, 3)] [] (by simp only [push_cast, seval]) (by simp only [push_cast, seval]) rfl rfl rfl)
                · refine seq_np ?_
                  refine reg_f ?_
                  refine rs 3 [] [] (by kernel_rfl) allP_nil ?_
                  refine rf [(1, iS way), (2, iS task), (3, iS now), (4, .ptr 0 0), (8, .ptr 1 0), (10, .ptr 2 0), (11, .ptr 3 0), (53, bS d.Closed)] [(0, .row 25 (Enc.cells d)), (1, .row 25 [bS false, bS false, bS false, iS 0, iS 0, iS 0, iS 0]), (2, .row 27 [iS 0, iS 0]), (3, .row 27 (Enc.cells r654))] 4 (by kernel_rfl) ?_
                  refine wk_id ?_
                  refine cond_sx h (by kernel_rfl) (fun g790 h => ?_) (fun g790 h => ?_)
                  · refine seq_np ?_
                    refine reg_t ?_
                    refine rs 5 [] [] (by kernel_rfl) allP_nil ?_
                    refine rt [(8, .ptr 1 0), (9, iS 3), (10, .ptr 2 0)] [(0, .row 25 (Enc.cells d)), (1, .row 25 (Enc.cells d)), (2, .row 27 (Enc.cells r654)), (3, .row 27 (Enc.cells r654))] 9 follows (by kernel_rfl) ?_
                    refine wk_id ?_
                    obtain rfl := Option.some.inj h
                    refine ret_at (.tup [.agg (Enc.cells d), iS 3, .agg (Enc.cells r654)]) (by kernel_rfl) ?_
                    exact ret_e [] [] (by simp only [push_cast, seval]) (by simp only [push_cast, seval]) rfl rfl rfl
                  · refine seq_np ?_
                    refine reg_f ?_
                    refine rs 3 [] [] (by kernel_rfl) allP_nil ?_
                    obtain ⟨r787, hr787, h⟩ := bind_sx h
                    refine run_call 20 [.agg (Enc.cells d), iS way, iS now] (some 62) (by kernel_rfl) ?_
                    refine call_0 (poll_late_spec d way now r787 hr787) (by simp only [push_cast, seval]) (by simp only [push_cast, seval]) ?_
                    refine back_f ?_
                    refine rs 1 [] [] (by kernel_rfl) allP_nil ?_
                    refine rf [(1, iS way), (2, iS task), (4, .ptr 0 0), (8, .ptr 1 0), (10, .ptr 2 0), (11, .ptr 3 0), (58, bS r787)] [(0, .row 25 (Enc.cells d)), (1, .row 25 [bS false, bS false, bS false, iS 0, iS 0, iS 0, iS 0]), (2, .row 27 [iS 0, iS 0]), (3, .row 27 (Enc.cells r654))] 4 (by kernel_rfl) ?_
                    refine wk_id ?_
                    refine cond_sx h (by kernel_rfl) (fun g789 h => ?_) (fun g789 h => ?_)
                    · refine seq_np ?_
                      refine reg_t ?_
                      refine rs 5 [] [] (by kernel_rfl) allP_nil ?_
                      refine rt [(8, .ptr 1 0), (9, iS 2), (10, .ptr 2 0)] [(0, .row 25 (Enc.cells d)), (1, .row 25 (Enc.cells d)), (2, .row 27 (Enc.cells r654)), (3, .row 27 (Enc.cells r654))] 9 follows (by kernel_rfl) ?_
                      refine wk_id ?_
                      obtain rfl := Option.some.inj h
                      refine ret_at (.tup [.agg (Enc.cells d), iS 2, .agg (Enc.cells r654)]) (by kernel_rfl) ?_
                      exact ret_e [] [] (by simp only [push_cast, seval]) (by simp only [push_cast, seval]) rfl rfl rfl
                    · refine seq_np ?_
                      refine reg_f ?_
                      refine rs 2 [] [] (by kernel_rfl) allP_nil ?_
                      refine run_at 66 .i64 way 0 g768 (by kernel_rfl) ?_
                      refine rs 3 [] [] (by kernel_rfl) allP_nil ?_
                      refine rf [(1, iS way), (2, iS task), (4, .ptr 0 0), (8, .ptr 1 0), (10, .ptr 2 0), (11, .ptr 3 0), (65, bS d.Ready_e0)] [(0, .row 25 (Enc.cells d)), (1, .row 25 [bS false, bS false, bS false, iS 0, iS 0, iS 0, iS 0]), (2, .row 27 [iS 0, iS 0]), (3, .row 27 (Enc.cells r654))] 4 (by kernel_rfl) ?_
                      refine wk_id ?_
                      refine cond_sx h (by kernel_rfl) (fun g788 h => ?_) (fun g788 h => ?_)
                      · refine seq_np ?_
                        refine reg_f ?_
                        refine rs 2 [] [] (by kernel_rfl) allP_nil ?_
                        refine run_at 70 .i64 way 0 g768 (by kernel_rfl) ?_
                        refine rs 2 [] [] (by kernel_rfl) allP_nil ?_
                        refine rf [(4, .ptr 0 0), (8, .ptr 1 0), (10, .ptr 2 0), (11, .ptr 3 0)] [(0, .row 25 [bS d.Closed, bS false, bS d.Ready_e1, iS d.Task_e0, iS d.Task_e1, iS d.Until_e0, iS d.Until_e1]), (1, .row 25 [bS false, bS false, bS false, iS 0, iS 0, iS 0, iS 0]), (2, .row 27 [iS 0, iS 0]), (3, .row 27 (Enc.cells r654))] 4 (by kernel_rfl) ?_
                        refine wk_id ?_
                        refine seq_np ?_
                        refine reg_t ?_
                        refine rs 5 [] [] (by kernel_rfl) allP_nil ?_
                        refine rt [(8, .ptr 1 0), (9, iS 1), (10, .ptr 2 0)] [(0, .row 25 [bS d.Closed, bS false, bS d.Ready_e1, iS d.Task_e0, iS d.Task_e1, iS d.Until_e0, iS d.Until_e1]), (1, .row 25 [bS d.Closed, bS false, bS d.Ready_e1, iS d.Task_e0, iS d.Task_e1, iS d.Until_e0, iS d.Until_e1]), (2, .row 27 (Enc.cells r654)), (3, .row 27 (Enc.cells r654))] 9 follows (by kernel_rfl) ?_
                        refine wk_id ?_
                        obtain rfl := Option.some.inj h
                        refine ret_at (.tup [.agg [bS d.Closed, bS false, bS d.Ready_e1, iS d.Task_e0, iS d.Task_e1, iS d.Until_e0, iS d.Until_e1], iS 1, .agg (Enc.cells r654)]) (by kernel_rfl) ?_
                        exact ret_e [] [] (by simp only [push_cast, seval]) (by simp only [push_cast, seval]) rfl rfl rfl
                      · refine seq_np ?_
                        refine reg_f ?_
                        refine rs 3 [] [] (by kernel_rfl) allP_nil ?_
                        refine run_at 15 .i64 way 0 g768 (by kernel_rfl) ?_
                        refine rs 2 [] [] (by kernel_rfl) allP_nil ?_
                        refine rf [(4, .ptr 0 0), (8, .ptr 1 0), (10, .ptr 2 0), (11, .ptr 3 0)] [(0, .row 25 [bS d.Closed, bS d.Ready_e0, bS d.Ready_e1, iS task, iS d.Task_e1, iS d.Until_e0, iS d.Until_e1]), (1, .row 25 [bS false, bS false, bS false, iS 0, iS 0, iS 0, iS 0]), (2, .row 27 [iS 0, iS 0]), (3, .row 27 (Enc.cells r654))] 4 (by kernel_rfl) ?_
                        refine wk_id ?_
                        refine seq_np ?_
                        refine reg_t ?_
                        refine rs 5 [] [] (by kernel_rfl) allP_nil ?_
                        refine rt [(8, .ptr 1 0), (9, iS 0), (10, .ptr 2 0)] [(0, .row 25 [bS d.Closed, bS d.Ready_e0, bS d.Ready_e1, iS task, iS d.Task_e1, iS d.Until_e0, iS d.Until_e1]), (1, .row 25 [bS d.Closed, bS d.Ready_e0, bS d.Ready_e1, iS task, iS d.Task_e1, iS d.Until_e0, iS d.Until_e1]), (2, .row 27 (Enc.cells r654)), (3, .row 27 (Enc.cells r654))] 9 follows (by kernel_rfl) ?_
                        refine wk_id ?_
                        obtain rfl := Option.some.inj h
                        refine ret_at (.tup [.agg [bS d.Closed, bS d.Ready_e0, bS d.Ready_e1, iS task, iS d.Task_e1, iS d.Until_e0, iS d.Until_e1], iS 0, .agg (Enc.cells r654)]) (by kernel_rfl) ?_
                        exact ret_e [] [] (by simp only [push_cast, seval]) (by simp only [push_cast, seval]) rfl rfl rfl
              refine chk_sx h (fun g795 h => ?_)
              refine seq_np ?_
              refine reg_f ?_
              have k794 : 0 ≤ (IntKind.i64.wrap ((1 : Int) - way)) ∧ (IntKind.i64.wrap ((1 : Int) - way)) < 2 := by first | simpa only [Bool.and_eq_true, decide_eq_true_eq, bne_iff_ne, ne_eq] using g795 | (simp at g795 ⊢; omega)
              exfalso
              omega
          refine split_s h (fun g797 h => ?_) (fun g798 h => ?_)
          · refine seq_np ?_
            refine reg_f ?_
            refine rs 2 [] [] (by kernel_rfl) allP_nil ?_
            refine run_at 38 .i64 way 1 g797 (by kernel_rfl) ?_
            refine rs 4 [] [] (by kernel_rfl) allP_nil ?_
            refine rf [(1, iS way), (2, iS task), (3, iS now), (4, .ptr 0 0), (8, .ptr 1 0), (10, .ptr 2 0), (11, .ptr 3 0), (37, bS (decide ((0 : Int) < d.Task_e1)))] [(0, .row 25 (Enc.cells d)), (1, .row 25 [bS false, bS false, bS false, iS 0, iS 0, iS 0, iS 0]), (2, .row 27 [iS 0, iS 0]), (3, .row 27 (Enc.cells r654))] 4 (by kernel_rfl) ?_
            refine wk_id ?_
            refine cond_sx h (by kernel_rfl) (fun g825 h => ?_) (fun g825 h => ?_)
            · refine reg_f ?_
              obtain ⟨r800, hr800, h⟩ := bind_sx h
              refine run_call 18 [iS 11, iS (-1)] (some 43) (by kernel_rfl) ?_
              refine call_0 (poll_fault_spec 11 (-1) r800 hr800) (by simp only [push_cast, seval]) (by simp only [push_cast, seval]) ?_
              refine back_f ?_
              refine rs 1 [] [] (by kernel_rfl) allP_nil ?_
              refine rf [(8, .ptr 1 0), (10, .ptr 2 0), (11, .ptr 3 0)] [(0, .row 25 (Enc.cells d)), (1, .row 25 [bS false, bS false, bS false, iS 0, iS 0, iS 0, iS 0]), (2, .row 27 [iS 0, iS 0]), (3, .row 27 (Enc.cells r800))] 4 (by kernel_rfl) ?_
              exact hK760 (r800) _ _ _ h (leSt_m [(0, 1), (1, 2), (2, 3)] [] (by simp only [push_cast, seval]) (by simp only [push_cast, seval]) rfl rfl rfl)
            · refine split_s h (fun g801 h => ?_) (fun g802 h => ?_)
              · refine seq_np ?_
                refine reg_f ?_
                refine rs 3 [] [] (by kernel_rfl) allP_nil ?_
                refine run_at 46 .i64 (IntKind.i64.wrap ((1 : Int) - way)) 0 g801 (by kernel_rfl) ?_
                refine rs 5 [] [] (by kernel_rfl) allP_nil ?_
                refine rf [(1, iS way), (2, iS task), (3, iS now), (4, .ptr 0 0), (8, .ptr 1 0), (10, .ptr 2 0), (11, .ptr 3 0), (44, bS (d.Task_e0 == task))] [(0, .row 25 (Enc.cells d)), (1, .row 25 [bS false, bS false, bS false, iS 0, iS 0, iS 0, iS 0]), (2, .row 27 [iS 0, iS 0]), (3, .row 27 (Enc.cells r654))] 4 (by kernel_rfl) ?_
                refine wk_id ?_
                refine cond_sx h (by kernel_rfl) (fun g810 h => ?_) (fun g810 h => ?_)
                · refine reg_f ?_
                  obtain ⟨r804, hr804, h⟩ := bind_sx h
                  refine run_call 18 [iS 10, iS (-1)] (some 52) (by kernel_rfl) ?_
                  refine call_0 (poll_fault_spec 10 (-1) r804 hr804) (by simp only [push_cast, seval]) (by simp only [push_cast, seval]) ?_
                  refine back_f ?_
                  refine rs 1 [] [] (by kernel_rfl) allP_nil ?_
                  refine rf [(8, .ptr 1 0), (10, .ptr 2 0), (11, .ptr 3 0)] [(0, .row 25 (Enc.cells d)), (1, .row 25 [bS false, bS false, bS false, iS 0, iS 0, iS 0, iS 0]), (2, .row 27 [iS 0, iS 0]), (3, .row 27 (Enc.cells r804))] 4 (by kernel_rfl) ?_
                  exact hK760 (r804) _ _ _ h (leSt_m [(0, 1), (1, 2), (2, 3)] [] (by simp only [push_cast, seval]) (by simp only [push_cast, seval]) rfl rfl rfl)
                · refine seq_np ?_
                  refine reg_f ?_
                  refine rs 3 [] [] (by kernel_rfl) allP_nil ?_
                  refine rf [(1, iS way), (2, iS task), (3, iS now), (4, .ptr 0 0), (8, .ptr 1 0), (10, .ptr 2 0), (11, .ptr 3 0), (53, bS d.Closed)] [(0, .row 25 (Enc.cells d)), (1, .row 25 [bS false, bS false, bS false, iS 0, iS 0, iS 0, iS 0]), (2, .row 27 [iS 0, iS 0]), (3, .row 27 (Enc.cells r654))] 4 (by kernel_rfl) ?_
                  refine wk_id ?_
                  refine cond_sx h (by kernel_rfl) (fun g809 h => ?_) (fun g809 h => ?_)
                  · refine seq_np ?_
                    refine reg_t ?_
                    refine rs 5 [] [] (by kernel_rfl) allP_nil ?_
                    refine rt [(8, .ptr 1 0), (9, iS 3), (10, .ptr 2 0)] [(0, .row 25 (Enc.cells d)), (1, .row 25 (Enc.cells d)), (2, .row 27 (Enc.cells r654)), (3, .row 27 (Enc.cells r654))] 9 follows (by kernel_rfl) ?_
                    refine wk_id ?_
                    obtain rfl := Option.some.inj h
                    refine ret_at (.tup [.agg (Enc.cells d), iS 3, .agg (Enc.cells r654)]) (by kernel_rfl) ?_
                    exact ret_e [] [] (by simp only [push_cast, seval]) (by simp only [push_cast, seval]) rfl rfl rfl
                  · refine seq_np ?_
                    refine reg_f ?_
                    refine rs 3 [] [] (by kernel_rfl) allP_nil ?_
                    obtain ⟨r806, hr806, h⟩ := bind_sx h
                    refine run_call 20 [.agg (Enc.cells d), iS way, iS now] (some 62) (by kernel_rfl) ?_
                    refine call_0 (poll_late_spec d way now r806 hr806) (by simp only [push_cast, seval]) (by simp only [push_cast, seval]) ?_
                    refine back_f ?_
                    refine rs 1 [] [] (by kernel_rfl) allP_nil ?_
                    refine rf [(1, iS way), (2, iS task), (4, .ptr 0 0), (8, .ptr 1 0), (10, .ptr 2 0), (11, .ptr 3 0), (58, bS r806)] [(0, .row 25 (Enc.cells d)), (1, .row 25 [bS false, bS false, bS false, iS 0, iS 0, iS 0, iS 0]), (2, .row 27 [iS 0, iS 0]), (3, .row 27 (Enc.cells r654))] 4 (by kernel_rfl) ?_
                    refine wk_id ?_
                    refine cond_sx h (by kernel_rfl) (fun g808 h => ?_) (fun g808 h => ?_)
                    · refine seq_np ?_
                      refine reg_t ?_
                      refine rs 5 [] [] (by kernel_rfl) allP_nil ?_
                      refine rt [(8, .ptr 1 0), (9, iS 2), (10, .ptr 2 0)] [(0, .row 25 (Enc.cells d)), (1, .row 25 (Enc.cells d)), (2, .row 27 (Enc.cells r654)), (3, .row 27 (Enc.cells r654))] 9 follows (by kernel_rfl) ?_
                      refine wk_id ?_
                      obtain rfl := Option.some.inj h
                      refine ret_at (.tup [.agg (Enc.cells d), iS 2, .agg (Enc.cells r654)]) (by kernel_rfl) ?_
                      exact ret_e [] [] (by simp only [push_cast, seval]) (by simp only [push_cast, seval]) rfl rfl rfl
                    · refine seq_np ?_
                      refine reg_f ?_
                      refine rs 2 [] [] (by kernel_rfl) allP_nil ?_
                      refine run_at 66 .i64 way 1 g797 (by kernel_rfl) ?_
                      refine rs 3 [] [] (by kernel_rfl) allP_nil ?_
                      refine rf [(1, iS way), (2, iS task), (4, .ptr 0 0), (8, .ptr 1 0), (10, .ptr 2 0), (11, .ptr 3 0), (65, bS d.Ready_e1)] [(0, .row 25 (Enc.cells d)), (1, .row 25 [bS false, bS false, bS false, iS 0, iS 0, iS 0, iS 0]), (2, .row 27 [iS 0, iS 0]), (3, .row 27 (Enc.cells r654))] 4 (by kernel_rfl) ?_
                      refine wk_id ?_
                      refine cond_sx h (by kernel_rfl) (fun g807 h => ?_) (fun g807 h => ?_)
                      · refine seq_np ?_
                        refine reg_f ?_
                        refine rs 2 [] [] (by kernel_rfl) allP_nil ?_
                        refine run_at 70 .i64 way 1 g797 (by kernel_rfl) ?_
                        refine rs 2 [] [] (by kernel_rfl) allP_nil ?_
                        refine rf [(4, .ptr 0 0), (8, .ptr 1 0), (10, .ptr 2 0), (11, .ptr 3 0)] [(0, .row 25 [bS d.Closed, bS d.Ready_e0, bS false, iS d.Task_e0, iS d.Task_e1, iS d.Until_e0, iS d.Until_e1]), (1, .row 25 [bS false, bS false, bS false, iS 0, iS 0, iS 0, iS 0]), (2, .row 27 [iS 0, iS 0]), (3, .row 27 (Enc.cells r654))] 4 (by kernel_rfl) ?_
                        refine wk_id ?_
                        refine seq_np ?_
                        refine reg_t ?_
                        refine rs 5 [] [] (by kernel_rfl) allP_nil ?_
                        refine rt [(8, .ptr 1 0), (9, iS 1), (10, .ptr 2 0)] [(0, .row 25 [bS d.Closed, bS d.Ready_e0, bS false, iS d.Task_e0, iS d.Task_e1, iS d.Until_e0, iS d.Until_e1]), (1, .row 25 [bS d.Closed, bS d.Ready_e0, bS false, iS d.Task_e0, iS d.Task_e1, iS d.Until_e0, iS d.Until_e1]), (2, .row 27 (Enc.cells r654)), (3, .row 27 (Enc.cells r654))] 9 follows (by kernel_rfl) ?_
                        refine wk_id ?_
                        obtain rfl := Option.some.inj h
                        refine ret_at (.tup [.agg [bS d.Closed, bS d.Ready_e0, bS false, iS d.Task_e0, iS d.Task_e1, iS d.Until_e0, iS d.Until_e1], iS 1, .agg (Enc.cells r654)]) (by kernel_rfl) ?_
                        exact ret_e [] [] (by simp only [push_cast, seval]) (by simp only [push_cast, seval]) rfl rfl rfl
                      · refine seq_np ?_
                        refine reg_f ?_
                        refine rs 3 [] [] (by kernel_rfl) allP_nil ?_
                        refine run_at 15 .i64 way 1 g797 (by kernel_rfl) ?_
                        refine rs 2 [] [] (by kernel_rfl) allP_nil ?_
                        refine rf [(4, .ptr 0 0), (8, .ptr 1 0), (10, .ptr 2 0), (11, .ptr 3 0)] [(0, .row 25 [bS d.Closed, bS d.Ready_e0, bS d.Ready_e1, iS d.Task_e0, iS task, iS d.Until_e0, iS d.Until_e1]), (1, .row 25 [bS false, bS false, bS false, iS 0, iS 0, iS 0, iS 0]), (2, .row 27 [iS 0, iS 0]), (3, .row 27 (Enc.cells r654))] 4 (by kernel_rfl) ?_
                        refine wk_id ?_
                        refine seq_np ?_
                        refine reg_t ?_
                        refine rs 5 [] [] (by kernel_rfl) allP_nil ?_
                        refine rt [(8, .ptr 1 0), (9, iS 0), (10, .ptr 2 0)] [(0, .row 25 [bS d.Closed, bS d.Ready_e0, bS d.Ready_e1, iS d.Task_e0, iS task, iS d.Until_e0, iS d.Until_e1]), (1, .row 25 [bS d.Closed, bS d.Ready_e0, bS d.Ready_e1, iS d.Task_e0, iS task, iS d.Until_e0, iS d.Until_e1]), (2, .row 27 (Enc.cells r654)), (3, .row 27 (Enc.cells r654))] 9 follows (by kernel_rfl) ?_
                        refine wk_id ?_
                        obtain rfl := Option.some.inj h
                        refine ret_at (.tup [.agg [bS d.Closed, bS d.Ready_e0, bS d.Ready_e1, iS d.Task_e0, iS task, iS d.Until_e0, iS d.Until_e1], iS 0, .agg (Enc.cells r654)]) (by kernel_rfl) ?_
                        exact ret_e [] [] (by simp only [push_cast, seval]) (by simp only [push_cast, seval]) rfl rfl rfl
              refine split_s h (fun g811 h => ?_) (fun g812 h => ?_)
              · refine seq_np ?_
                refine reg_f ?_
                refine rs 3 [] [] (by kernel_rfl) allP_nil ?_
                refine run_at 46 .i64 (IntKind.i64.wrap ((1 : Int) - way)) 1 g811 (by kernel_rfl) ?_
                refine rs 5 [] [] (by kernel_rfl) allP_nil ?_
                refine rf [(1, iS way), (2, iS task), (3, iS now), (4, .ptr 0 0), (8, .ptr 1 0), (10, .ptr 2 0), (11, .ptr 3 0), (44, bS (d.Task_e1 == task))] [(0, .row 25 (Enc.cells d)), (1, .row 25 [bS false, bS false, bS false, iS 0, iS 0, iS 0, iS 0]), (2, .row 27 [iS 0, iS 0]), (3, .row 27 (Enc.cells r654))] 4 (by kernel_rfl) ?_
                refine wk_id ?_
                refine cond_sx h (by kernel_rfl) (fun g820 h => ?_) (fun g820 h => ?_)
                · refine reg_f ?_
                  obtain ⟨r814, hr814, h⟩ := bind_sx h
                  refine run_call 18 [iS 10, iS (-1)] (some 52) (by kernel_rfl) ?_
                  refine call_0 (poll_fault_spec 10 (-1) r814 hr814) (by simp only [push_cast, seval]) (by simp only [push_cast, seval]) ?_
                  refine back_f ?_
                  refine rs 1 [] [] (by kernel_rfl) allP_nil ?_
                  refine rf [(8, .ptr 1 0), (10, .ptr 2 0), (11, .ptr 3 0)] [(0, .row 25 (Enc.cells d)), (1, .row 25 [bS false, bS false, bS false, iS 0, iS 0, iS 0, iS 0]), (2, .row 27 [iS 0, iS 0]), (3, .row 27 (Enc.cells r814))] 4 (by kernel_rfl) ?_
                  exact hK760 (r814) _ _ _ h (leSt_m [(0, 1), (1, 2), (2, 3)] [] (by simp only [push_cast, seval]) (by simp only [push_cast, seval]) rfl rfl rfl)
                · refine seq_np ?_
                  refine reg_f ?_
                  refine rs 3 [] [] (by kernel_rfl) allP_nil ?_
                  refine rf [(1, iS way), (2, iS task), (3, iS now), (4, .ptr 0 0), (8, .ptr 1 0), (10, .ptr 2 0), (11, .ptr 3 0), (53, bS d.Closed)] [(0, .row 25 (Enc.cells d)), (1, .row 25 [bS false, bS false, bS false, iS 0, iS 0, iS 0, iS 0]), (2, .row 27 [iS 0, iS 0]), (3, .row 27 (Enc.cells r654))] 4 (by kernel_rfl) ?_
                  refine wk_id ?_
                  refine cond_sx h (by kernel_rfl) (fun g819 h => ?_) (fun g819 h => ?_)
                  · refine seq_np ?_
                    refine reg_t ?_
                    refine rs 5 [] [] (by kernel_rfl) allP_nil ?_
                    refine rt [(8, .ptr 1 0), (9, iS 3), (10, .ptr 2 0)] [(0, .row 25 (Enc.cells d)), (1, .row 25 (Enc.cells d)), (2, .row 27 (Enc.cells r654)), (3, .row 27 (Enc.cells r654))] 9 follows (by kernel_rfl) ?_
                    refine wk_id ?_
                    obtain rfl := Option.some.inj h
                    refine ret_at (.tup [.agg (Enc.cells d), iS 3, .agg (Enc.cells r654)]) (by kernel_rfl) ?_
                    exact ret_e [] [] (by simp only [push_cast, seval]) (by simp only [push_cast, seval]) rfl rfl rfl
                  · refine seq_np ?_
                    refine reg_f ?_
                    refine rs 3 [] [] (by kernel_rfl) allP_nil ?_
                    obtain ⟨r816, hr816, h⟩ := bind_sx h
                    refine run_call 20 [.agg (Enc.cells d), iS way, iS now] (some 62) (by kernel_rfl) ?_
                    refine call_0 (poll_late_spec d way now r816 hr816) (by simp only [push_cast, seval]) (by simp only [push_cast, seval]) ?_
                    refine back_f ?_
                    refine rs 1 [] [] (by kernel_rfl) allP_nil ?_
                    refine rf [(1, iS way), (2, iS task), (4, .ptr 0 0), (8, .ptr 1 0), (10, .ptr 2 0), (11, .ptr 3 0), (58, bS r816)] [(0, .row 25 (Enc.cells d)), (1, .row 25 [bS false, bS false, bS false, iS 0, iS 0, iS 0, iS 0]), (2, .row 27 [iS 0, iS 0]), (3, .row 27 (Enc.cells r654))] 4 (by kernel_rfl) ?_
                    refine wk_id ?_
                    refine cond_sx h (by kernel_rfl) (fun g818 h => ?_) (fun g818 h => ?_)
                    · refine seq_np ?_
                      refine reg_t ?_
                      refine rs 5 [] [] (by kernel_rfl) allP_nil ?_
                      refine rt [(8, .ptr 1 0), (9, iS 2), (10, .ptr 2 0)] [(0, .row 25 (Enc.cells d)), (1, .row 25 (Enc.cells d)), (2, .row 27 (Enc.cells r654)), (3, .row 27 (Enc.cells r654))] 9 follows (by kernel_rfl) ?_
                      refine wk_id ?_
                      obtain rfl := Option.some.inj h
                      refine ret_at (.tup [.agg (Enc.cells d), iS 2, .agg (Enc.cells r654)]) (by kernel_rfl) ?_
                      exact ret_e [] [] (by simp only [push_cast, seval]) (by simp only [push_cast, seval]) rfl rfl rfl
                    · refine seq_np ?_
                      refine reg_f ?_
                      refine rs 2 [] [] (by kernel_rfl) allP_nil ?_
                      refine run_at 66 .i64 way 1 g797 (by kernel_rfl) ?_
                      refine rs 3 [] [] (by kernel_rfl) allP_nil ?_
                      refine rf [(1, iS way), (2, iS task), (4, .ptr 0 0), (8, .ptr 1 0), (10, .ptr 2 0), (11, .ptr 3 0), (65, bS d.Ready_e1)] [(0, .row 25 (Enc.cells d)), (1, .row 25 [bS false, bS false, bS false, iS 0, iS 0, iS 0, iS 0]), (2, .row 27 [iS 0, iS 0]), (3, .row 27 (Enc.cells r654))] 4 (by kernel_rfl) ?_
                      refine wk_id ?_
                      refine cond_sx h (by kernel_rfl) (fun g817 h => ?_) (fun g817 h => ?_)
                      · refine seq_np ?_
                        refine reg_f ?_
                        refine rs 2 [] [] (by kernel_rfl) allP_nil ?_
                        refine run_at 70 .i64 way 1 g797 (by kernel_rfl) ?_
                        refine rs 2 [] [] (by kernel_rfl) allP_nil ?_
                        refine rf [(4, .ptr 0 0), (8, .ptr 1 0), (10, .ptr 2 0), (11, .ptr 3 0)] [(0, .row 25 [bS d.Closed, bS d.Ready_e0, bS false, iS d.Task_e0, iS d.Task_e1, iS d.Until_e0, iS d.Until_e1]), (1, .row 25 [bS false, bS false, bS false, iS 0, iS 0, iS 0, iS 0]), (2, .row 27 [iS 0, iS 0]), (3, .row 27 (Enc.cells r654))] 4 (by kernel_rfl) ?_
                        refine wk_id ?_
                        refine seq_np ?_
                        refine reg_t ?_
                        refine rs 5 [] [] (by kernel_rfl) allP_nil ?_
                        refine rt [(8, .ptr 1 0), (9, iS 1), (10, .ptr 2 0)] [(0, .row 25 [bS d.Closed, bS d.Ready_e0, bS false, iS d.Task_e0, iS d.Task_e1, iS d.Until_e0, iS d.Until_e1]), (1, .row 25 [bS d.Closed, bS d.Ready_e0, bS false, iS d.Task_e0, iS d.Task_e1, iS d.Until_e0, iS d.Until_e1]), (2, .row 27 (Enc.cells r654)), (3, .row 27 (Enc.cells r654))] 9 follows (by kernel_rfl) ?_
                        refine wk_id ?_
                        obtain rfl := Option.some.inj h
                        refine ret_at (.tup [.agg [bS d.Closed, bS d.Ready_e0, bS false, iS d.Task_e0, iS d.Task_e1, iS d.Until_e0, iS d.Until_e1], iS 1, .agg (Enc.cells r654)]) (by kernel_rfl) ?_
                        exact ret_e [] [] (by simp only [push_cast, seval]) (by simp only [push_cast, seval]) rfl rfl rfl
                      · refine seq_np ?_
                        refine reg_f ?_
                        refine rs 3 [] [] (by kernel_rfl) allP_nil ?_
                        refine run_at 15 .i64 way 1 g797 (by kernel_rfl) ?_
                        refine rs 2 [] [] (by kernel_rfl) allP_nil ?_
                        refine rf [(4, .ptr 0 0), (8, .ptr 1 0), (10, .ptr 2 0), (11, .ptr 3 0)] [(0, .row 25 [bS d.Closed, bS d.Ready_e0, bS d.Ready_e1, iS d.Task_e0, iS task, iS d.Until_e0, iS d.Until_e1]), (1, .row 25 [bS false, bS false, bS false, iS 0, iS 0, iS 0, iS 0]), (2, .row 27 [iS 0, iS 0]), (3, .row 27 (Enc.cells r654))] 4 (by kernel_rfl) ?_
                        refine wk_id ?_
                        refine seq_np ?_
                        refine reg_t ?_
                        refine rs 5 [] [] (by kernel_rfl) allP_nil ?_
                        refine rt [(8, .ptr 1 0), (9, iS 0), (10, .ptr 2 0)] [(0, .row 25 [bS d.Closed, bS d.Ready_e0, bS d.Ready_e1, iS d.Task_e0, iS task, iS d.Until_e0, iS d.Until_e1]), (1, .row 25 [bS d.Closed, bS d.Ready_e0, bS d.Ready_e1, iS d.Task_e0, iS task, iS d.Until_e0, iS d.Until_e1]), (2, .row 27 (Enc.cells r654)), (3, .row 27 (Enc.cells r654))] 9 follows (by kernel_rfl) ?_
                        refine wk_id ?_
                        obtain rfl := Option.some.inj h
                        refine ret_at (.tup [.agg [bS d.Closed, bS d.Ready_e0, bS d.Ready_e1, iS d.Task_e0, iS task, iS d.Until_e0, iS d.Until_e1], iS 0, .agg (Enc.cells r654)]) (by kernel_rfl) ?_
                        exact ret_e [] [] (by simp only [push_cast, seval]) (by simp only [push_cast, seval]) rfl rfl rfl
              refine chk_sx h (fun g824 h => ?_)
              refine seq_np ?_
              refine reg_f ?_
              have k823 : 0 ≤ (IntKind.i64.wrap ((1 : Int) - way)) ∧ (IntKind.i64.wrap ((1 : Int) - way)) < 2 := by first | simpa only [Bool.and_eq_true, decide_eq_true_eq, bne_iff_ne, ne_eq] using g824 | (simp at g824 ⊢; omega)
              exfalso
              omega
          refine chk_sx h (fun g829 h => ?_)
          refine seq_np ?_
          refine reg_f ?_
          have k828 : 0 ≤ way ∧ way < 2 := by first | simpa only [Bool.and_eq_true, decide_eq_true_eq, bne_iff_ne, ne_eq] using g829 | (simp at g829 ⊢; omega)
          exfalso
          omega
  · rintro c2q2 h
    try dsimp only at h ⊢
    unfold poll_Wait_j1 at h
    refine wk_id ?_
    refine seq_np ?_
    refine reg_t ?_
    refine rs 5 [] [] (by kernel_rfl) allP_nil ?_
    refine rt [(8, .ptr 0 0), (9, iS 0), (10, .ptr 1 0)] [(0, .row 25 [bS false, bS false, bS false, iS 0, iS 0, iS 0, iS 0]), (1, .row 27 (Enc.cells c2q2)), (2, .row 27 (Enc.cells c2q2))] 8 follows (by kernel_rfl) ?_
    refine wk_id ?_
    obtain rfl := Option.some.inj h
    refine ret_at (.tup [.agg [bS false, bS false, bS false, iS 0, iS 0, iS 0, iS 0], iS 0, .agg (Enc.cells c2q2)]) (by kernel_rfl) ?_
    exact ret_e [] [] (by simp only [push_cast, seval]) (by simp only [push_cast, seval]) rfl rfl rfl

set_option maxRecDepth 100000 in
set_option maxHeartbeats 10000000 in
theorem poll_Fire_spec (d : Desc) (way : Int) (r : Desc × Int × Fault) (h : poll_Fire d way = some r) : SpecW Try.prog 8 [.agg (Enc.cells d), iS way] [] 0 (fun x h n => x = .tup [.agg (Enc.cells r.1), iS r.2.1, .agg (Enc.cells r.2.2)] ∧ h = [] ∧ n = 0) := by
  unfold poll_Fire at h
  refine spec_of (draw_ok _) Try.func8 rfl (by decide) rfl (by kernel_rfl) ?_
  refine seq_np ?_
  refine reg_f ?_
  refine rs 4 [] [] (by kernel_rfl) allP_nil ?_
  refine rf [(1, iS way), (2, .ptr 0 0), (4, .ptr 1 0), (6, .ptr 2 0)] [(0, .row 25 (Enc.cells d)), (1, .row 25 [bS false, bS false, bS false, iS 0, iS 0, iS 0, iS 0]), (2, .row 27 [iS 0, iS 0])] 3 (by kernel_rfl) ?_
  refine wk_id ?_
  refine seq_np ?_
  refine seq_np ?_
  refine reg_f ?_
  refine rs 2 [] [] (by kernel_rfl) allP_nil ?_
  obtain ⟨r852, hr852, h⟩ := bind_sx h
  refine run_call 19 [.agg (Enc.cells d), iS way] (some 11) (by kernel_rfl) ?_
  refine call_0 (poll_side_spec d way r852 hr852) (by simp only [push_cast, seval]) (by simp only [push_cast, seval]) ?_
  refine back_f ?_
  refine rs 2 [] [] (by kernel_rfl) allP_nil ?_
  refine rf [(1, iS way), (2, .ptr 0 0), (4, .ptr 1 0), (6, .ptr 2 0), (7, .ptr 3 0)] [(0, .row 25 (Enc.cells d)), (1, .row 25 [bS false, bS false, bS false, iS 0, iS 0, iS 0, iS 0]), (2, .row 27 [iS 0, iS 0]), (3, .row 27 (Enc.cells r852))] 4 (by kernel_rfl) ?_
  refine wk_id ?_
  refine seq_np ?_
  refine reg_f ?_
  refine rs 3 [] [] (by kernel_rfl) allP_nil ?_
  refine rf [(1, iS way), (2, .ptr 0 0), (4, .ptr 1 0), (6, .ptr 2 0), (7, .ptr 3 0), (14, bS (r852.Code != 0))] [(0, .row 25 (Enc.cells d)), (1, .row 25 [bS false, bS false, bS false, iS 0, iS 0, iS 0, iS 0]), (2, .row 27 [iS 0, iS 0]), (3, .row 27 (Enc.cells r852))] 4 (by kernel_rfl) ?_
  refine wk_id ?_
  refine cond_sx h (by kernel_rfl) (fun g881 h => ?_) (fun g881 h => ?_)
  · refine seq_np ?_
    refine reg_t ?_
    refine rs 5 [] [] (by kernel_rfl) allP_nil ?_
    refine rt [(4, .ptr 1 0), (5, iS 0), (6, .ptr 2 0)] [(0, .row 25 (Enc.cells d)), (1, .row 25 [bS false, bS false, bS false, iS 0, iS 0, iS 0, iS 0]), (2, .row 27 (Enc.cells r852)), (3, .row 27 (Enc.cells r852))] 9 follows (by kernel_rfl) ?_
    refine wk_id ?_
    obtain rfl := Option.some.inj h
    refine ret_at (.tup [.agg [bS false, bS false, bS false, iS 0, iS 0, iS 0, iS 0], iS 0, .agg (Enc.cells r852)]) (by kernel_rfl) ?_
    exact ret_e [] [] (by simp only [push_cast, seval]) (by simp only [push_cast, seval]) rfl rfl rfl
  · refine wk_id ?_
    refine split_s h (fun g853 h => ?_) (fun g854 h => ?_)
    · refine seq_np ?_
      refine reg_f ?_
      refine rs 2 [] [] (by kernel_rfl) allP_nil ?_
      refine run_at 17 .i64 way 0 g853 (by kernel_rfl) ?_
      refine rs 3 [] [] (by kernel_rfl) allP_nil ?_
      refine rf [(1, iS way), (2, .ptr 0 0), (4, .ptr 1 0), (6, .ptr 2 0), (8, iS d.Task_e0)] [(0, .row 25 (Enc.cells d)), (1, .row 25 [bS false, bS false, bS false, iS 0, iS 0, iS 0, iS 0]), (2, .row 27 [iS 0, iS 0]), (3, .row 27 (Enc.cells r852))] 4 (by kernel_rfl) ?_
      refine wk_id ?_
      refine seq_np ?_
      refine block_cut (A := Desc) (fun a => ([(2, .ptr 0 0), (4, .ptr 1 0), (6, .ptr 2 0), (8, iS d.Task_e0)], [(0, .row 25 (Enc.cells a)), (1, .row 25 [bS false, bS false, bS false, iS 0, iS 0, iS 0, iS 0]), (2, .row 27 [iS 0, iS 0])], 3)) (fun a => (poll_Fire_j2 d a) = some r) (fun K862 hK862 => ?_) ?_
      · refine seq_np ?_
        refine reg_f ?_
        refine rs 3 [] [] (by kernel_rfl) allP_nil ?_
        refine rf [(1, iS way), (2, .ptr 0 0), (4, .ptr 1 0), (6, .ptr 2 0), (8, iS d.Task_e0), (24, bS d.Closed)] [(0, .row 25 (Enc.cells d)), (1, .row 25 [bS false, bS false, bS false, iS 0, iS 0, iS 0, iS 0]), (2, .row 27 [iS 0, iS 0]), (3, .row 27 (Enc.cells r852))] 4 (by kernel_rfl) ?_
        refine wk_id ?_
        refine cond_sx h (by kernel_rfl) (fun g864 h => ?_) (fun g864 h => ?_)
        · exact hK862 (d) _ _ _ h (leSt_m [(0, 0), (1, 1), (2, 2)] [] (by simp only [push_cast, seval]) (by simp only [push_cast, seval]) rfl rfl rfl)
        · refine seq_np ?_
          refine reg_f ?_
          refine rs 3 [] [] (by kernel_rfl) allP_nil ?_
          refine rf [(1, iS way), (2, .ptr 0 0), (4, .ptr 1 0), (6, .ptr 2 0), (8, iS d.Task_e0), (27, bS (decide ((0 : Int) < d.Task_e0)))] [(0, .row 25 (Enc.cells d)), (1, .row 25 [bS false, bS false, bS false, iS 0, iS 0, iS 0, iS 0]), (2, .row 27 [iS 0, iS 0]), (3, .row 27 (Enc.cells r852))] 4 (by kernel_rfl) ?_
          refine wk_id ?_
          refine cond_sx h (by kernel_rfl) (fun g863 h => ?_) (fun g863 h => ?_)
          · refine reg_f ?_
            refine rs 2 [] [] (by kernel_rfl) allP_nil ?_
            refine run_at 30 .i64 way 0 g853 (by kernel_rfl) ?_
            refine rs 2 [] [] (by kernel_rfl) allP_nil ?_
            refine rf [(2, .ptr 0 0), (4, .ptr 1 0), (6, .ptr 2 0), (8, iS d.Task_e0)] [(0, .row 25 [bS d.Closed, bS d.Ready_e0, bS d.Ready_e1, iS 0, iS d.Task_e1, iS d.Until_e0, iS d.Until_e1]), (1, .row 25 [bS false, bS false, bS false, iS 0, iS 0, iS 0, iS 0]), (2, .row 27 [iS 0, iS 0]), (3, .row 27 (Enc.cells r852))] 4 (by kernel_rfl) ?_
            exact hK862 ((Desc.mk d.Closed d.Ready_e0 d.Ready_e1 0 d.Task_e1 d.Until_e0 d.Until_e1)) _ _ _ h (leSt_m [(0, 0), (1, 1), (2, 2)] [] (by simp only [push_cast, seval]) (by simp only [push_cast, seval]) rfl rfl rfl)
          · refine reg_f ?_
            refine rs 2 [] [] (by kernel_rfl) allP_nil ?_
            refine run_at 21 .i64 way 0 g853 (by kernel_rfl) ?_
            refine rs 2 [] [] (by kernel_rfl) allP_nil ?_
            refine rf [(2, .ptr 0 0), (4, .ptr 1 0), (6, .ptr 2 0), (8, iS d.Task_e0)] [(0, .row 25 [bS d.Closed, bS true, bS d.Ready_e1, iS d.Task_e0, iS d.Task_e1, iS d.Until_e0, iS d.Until_e1]), (1, .row 25 [bS false, bS false, bS false, iS 0, iS 0, iS 0, iS 0]), (2, .row 27 [iS 0, iS 0]), (3, .row 27 (Enc.cells r852))] 4 (by kernel_rfl) ?_
            exact hK862 ((Desc.mk d.Closed true d.Ready_e1 d.Task_e0 d.Task_e1 d.Until_e0 d.Until_e1)) _ _ _ h (leSt_m [(0, 0), (1, 1), (2, 2)] [] (by simp only [push_cast, seval]) (by simp only [push_cast, seval]) rfl rfl rfl)
      · rintro c0q3 h
        try dsimp only at h ⊢
        unfold poll_Fire_j2 at h
        refine wk_id ?_
        refine seq_np ?_
        refine reg_f ?_
        refine rs 6 [] [] (by kernel_rfl) allP_nil ?_
        refine rf [(4, .ptr 1 0), (5, iS d.Task_e0), (6, .ptr 2 0)] [(0, .row 25 (Enc.cells c0q3)), (1, .row 25 (Enc.cells c0q3)), (2, .row 27 [iS 0, iS 0])] 3 (by kernel_rfl) ?_
        refine wk_id ?_
        obtain rfl := Option.some.inj h
        refine ret_at (.tup [.agg (Enc.cells c0q3), iS d.Task_e0, .agg [iS 0, iS 0]]) (by kernel_rfl) ?_
        exact ret_e [] [] (by simp only [push_cast, seval]) (by simp only [push_cast, seval]) rfl rfl rfl
    refine split_s h (fun g865 h => ?_) (fun g866 h => ?_)
    · refine seq_np ?_
      refine reg_f ?_
      refine rs 2 [] [] (by kernel_rfl) allP_nil ?_
      refine run_at 17 .i64 way 1 g865 (by kernel_rfl) ?_
      refine rs 3 [] [] (by kernel_rfl) allP_nil ?_
      refine rf [(1, iS way), (2, .ptr 0 0), (4, .ptr 1 0), (6, .ptr 2 0), (8, iS d.Task_e1)] [(0, .row 25 (Enc.cells d)), (1, .row 25 [bS false, bS false, bS false, iS 0, iS 0, iS 0, iS 0]), (2, .row 27 [iS 0, iS 0]), (3, .row 27 (Enc.cells r852))] 4 (by kernel_rfl) ?_
      refine wk_id ?_
      refine seq_np ?_
      refine block_cut (A := Desc) (fun a => ([(2, .ptr 0 0), (4, .ptr 1 0), (6, .ptr 2 0), (8, iS d.Task_e1)], [(0, .row 25 (Enc.cells a)), (1, .row 25 [bS false, bS false, bS false, iS 0, iS 0, iS 0, iS 0]), (2, .row 27 [iS 0, iS 0])], 3)) (fun a => (poll_Fire_j1 d a) = some r) (fun K874 hK874 => ?_) ?_
      · refine seq_np ?_
        refine reg_f ?_
        refine rs 3 [] [] (by kernel_rfl) allP_nil ?_
        refine rf [(1, iS way), (2, .ptr 0 0), (4, .ptr 1 0), (6, .ptr 2 0), (8, iS d.Task_e1), (24, bS d.Closed)] [(0, .row 25 (Enc.cells d)), (1, .row 25 [bS false, bS false, bS false, iS 0, iS 0, iS 0, iS 0]), (2, .row 27 [iS 0, iS 0]), (3, .row 27 (Enc.cells r852))] 4 (by kernel_rfl) ?_
        refine wk_id ?_
        refine cond_sx h (by kernel_rfl) (fun g876 h => ?_) (fun g876 h => ?_)
        · exact hK874 (d) _ _ _ h (leSt_m [(0, 0), (1, 1), (2, 2)] [] (by simp only [push_cast, seval]) (by simp only [push_cast, seval]) rfl rfl rfl)
        · refine seq_np ?_
          refine reg_f ?_
          refine rs 3 [] [] (by kernel_rfl) allP_nil ?_
          refine rf [(1, iS way), (2, .ptr 0 0), (4, .ptr 1 0), (6, .ptr 2 0), (8, iS d.Task_e1), (27, bS (decide ((0 : Int) < d.Task_e1)))] [(0, .row 25 (Enc.cells d)), (1, .row 25 [bS false, bS false, bS false, iS 0, iS 0, iS 0, iS 0]), (2, .row 27 [iS 0, iS 0]), (3, .row 27 (Enc.cells r852))] 4 (by kernel_rfl) ?_
          refine wk_id ?_
          refine cond_sx h (by kernel_rfl) (fun g875 h => ?_) (fun g875 h => ?_)
          · refine reg_f ?_
            refine rs 2 [] [] (by kernel_rfl) allP_nil ?_
            refine run_at 30 .i64 way 1 g865 (by kernel_rfl) ?_
            refine rs 2 [] [] (by kernel_rfl) allP_nil ?_
            refine rf [(2, .ptr 0 0), (4, .ptr 1 0), (6, .ptr 2 0), (8, iS d.Task_e1)] [(0, .row 25 [bS d.Closed, bS d.Ready_e0, bS d.Ready_e1, iS d.Task_e0, iS 0, iS d.Until_e0, iS d.Until_e1]), (1, .row 25 [bS false, bS false, bS false, iS 0, iS 0, iS 0, iS 0]), (2, .row 27 [iS 0, iS 0]), (3, .row 27 (Enc.cells r852))] 4 (by kernel_rfl) ?_
            exact hK874 ((Desc.mk d.Closed d.Ready_e0 d.Ready_e1 d.Task_e0 0 d.Until_e0 d.Until_e1)) _ _ _ h (leSt_m [(0, 0), (1, 1), (2, 2)] [] (by simp only [push_cast, seval]) (by simp only [push_cast, seval]) rfl rfl rfl)
          · refine reg_f ?_
            refine rs 2 [] [] (by kernel_rfl) allP_nil ?_
            refine run_at 21 .i64 way 1 g865 (by kernel_rfl) ?_
            refine rs 2 [] [] (by kernel_rfl) allP_nil ?_
            refine rf [(2, .ptr 0 0), (4, .ptr 1 0), (6, .ptr 2 0), (8, iS d.Task_e1)] [(0, .row 25 [bS d.Closed, bS d.Ready_e0, bS true, iS d.Task_e0, iS d.Task_e1, iS d.Until_e0, iS d.Until_e1]), (1, .row 25 [bS false, bS false, bS false, iS 0, iS 0, iS 0, iS 0]), (2, .row 27 [iS 0, iS 0]), (3, .row 27 (Enc.cells r852))] 4 (by kernel_rfl) ?_
            exact hK874 ((Desc.mk d.Closed d.Ready_e0 true d.Task_e0 d.Task_e1 d.Until_e0 d.Until_e1)) _ _ _ h (leSt_m [(0, 0), (1, 1), (2, 2)] [] (by simp only [push_cast, seval]) (by simp only [push_cast, seval]) rfl rfl rfl)
      · rintro c0q5 h
        try dsimp only at h ⊢
        unfold poll_Fire_j1 at h
        refine wk_id ?_
        refine seq_np ?_
        refine reg_f ?_
        refine rs 6 [] [] (by kernel_rfl) allP_nil ?_
        refine rf [(4, .ptr 1 0), (5, iS d.Task_e1), (6, .ptr 2 0)] [(0, .row 25 (Enc.cells c0q5)), (1, .row 25 (Enc.cells c0q5)), (2, .row 27 [iS 0, iS 0])] 3 (by kernel_rfl) ?_
        refine wk_id ?_
        obtain rfl := Option.some.inj h
        refine ret_at (.tup [.agg (Enc.cells c0q5), iS d.Task_e1, .agg [iS 0, iS 0]]) (by kernel_rfl) ?_
        exact ret_e [] [] (by simp only [push_cast, seval]) (by simp only [push_cast, seval]) rfl rfl rfl
    refine chk_sx h (fun g880 h => ?_)
    refine seq_np ?_
    refine reg_f ?_
    have k879 : 0 ≤ way ∧ way < 2 := by first | simpa only [Bool.and_eq_true, decide_eq_true_eq, bne_iff_ne, ne_eq] using g880 | (simp at g880 ⊢; omega)
    exfalso
    omega

set_option maxRecDepth 100000 in
set_option maxHeartbeats 10000000 in
theorem taskmilllaw_pollBegun_spec (r : Bool) (h : taskmilllaw_pollBegun = some r) : SpecW Try.prog 9 [] [] 0 (fun x h n => x = bS r ∧ h = [] ∧ n = 0) := by
  unfold taskmilllaw_pollBegun at h
  refine spec_of (draw_ok _) Try.func9 rfl (by decide) rfl (by kernel_rfl) ?_
  refine seq_np ?_
  refine reg_f ?_
  refine rs 1 [] [] (by kernel_rfl) allP_nil ?_
  refine rf [] [] 0 (by kernel_rfl) ?_
  refine wk_id ?_
  refine seq_np ?_
  refine reg_f ?_
  refine rs 1 [] [] (by kernel_rfl) allP_nil ?_
  obtain ⟨r889, hr889, h⟩ := bind_sx h
  refine run_call 7 [.agg [bS false, bS false, bS false, iS 0, iS 0, iS 0, iS 0], iS 0, iS 1, iS 0] (some 9) (by kernel_rfl) ?_
  refine call_0 (poll_Wait_spec (Desc.mk false false false 0 0 0 0) 0 1 0 r889 hr889) (by simp only [push_cast, seval]) (by simp only [push_cast, seval]) ?_
  refine back_f ?_
  refine rs 9 [] [] (by kernel_rfl) allP_nil ?_
  refine rf [(1, .ptr 0 0), (3, .ptr 1 0)] [(0, .row 25 (Enc.cells r889.1)), (1, .row 27 (Enc.cells r889.2.2))] 2 (by kernel_rfl) ?_
  refine wk_id ?_
  refine seq_np ?_
  refine reg_f ?_
  refine rs 1 [] [] (by kernel_rfl) allP_nil ?_
  obtain ⟨r891, hr891, h⟩ := bind_sx h
  refine run_call 8 [.agg (Enc.cells r889.1), iS 0] (some 15) (by kernel_rfl) ?_
  refine call_0 (poll_Fire_spec r889.1 0 r891 hr891) (by simp only [push_cast, seval]) (by simp only [push_cast, seval]) ?_
  refine back_f ?_
  refine rs 9 [] [] (by kernel_rfl) allP_nil ?_
  refine rf [(3, .ptr 1 0), (4, .ptr 2 0), (5, iS r891.2.1), (6, .ptr 3 0)] [(0, .row 25 (Enc.cells r889.1)), (1, .row 27 (Enc.cells r889.2.2)), (2, .row 25 (Enc.cells r891.1)), (3, .row 27 (Enc.cells r891.2.2))] 4 (by kernel_rfl) ?_
  refine wk_id ?_
  refine seq_cut (A := Unit) (fun _ => ([(0, bS ((r889.2.2.Code == 0) && ((r891.2.2.Code == 0) && ((r891.2.1 == 1) && ((r891.1.Closed == false) && ((r891.1.Ready_e0 == false) && ((r891.1.Ready_e1 == false) && ((r891.1.Task_e0 == 0) && ((r891.1.Task_e1 == 0) && ((r891.1.Until_e0 == 0) && ((r891.1.Until_e1 == 0) && true)))))))))))], [(0, .row 25 (Enc.cells r889.1)), (1, .row 27 (Enc.cells r889.2.2)), (2, .row 25 (Enc.cells r891.1)), (3, .row 27 (Enc.cells r891.2.2))], 4)) (fun _ => True) (fun K895 hK895 => ?_) (fun _ _ => ?_)
  · refine reg_f ?_
    refine rs 4 [] [] (by kernel_rfl) allP_nil ?_
    refine run_split 22 (r889.2.2.Code == 0) (.inl (by kernel_rfl)) (fun g896 => ?_) (fun g896 => ?_)
    · refine rs 5 [] [] (by kernel_rfl) allP_nil ?_
      refine run_split 27 (r891.2.2.Code == 0) (.inl (by kernel_rfl)) (fun g897 => ?_) (fun g897 => ?_)
      · refine rs 4 [] [] (by kernel_rfl) allP_nil ?_
        refine run_split 31 (r891.2.1 == 1) (.inl (by kernel_rfl)) (fun g898 => ?_) (fun g898 => ?_)
        · refine rn 13 [(4, .ptr 2 0), (31, bS true)] [(0, .row 25 (Enc.cells r889.1)), (1, .row 27 (Enc.cells r889.2.2)), (2, .row 25 (Enc.cells r891.1)), (3, .row 27 (Enc.cells r891.2.2))] 4 (by kernel_rfl) ?_
          refine rs 5 [] [] (by kernel_rfl) allP_nil ?_
          refine rf [(0, bS ((r891.1.Closed == false) && ((r891.1.Ready_e0 == false) && ((r891.1.Ready_e1 == false) && ((r891.1.Task_e0 == 0) && ((r891.1.Task_e1 == 0) && ((r891.1.Until_e0 == 0) && ((r891.1.Until_e1 == 0) && true))))))))] [(0, .row 25 (Enc.cells r889.1)), (1, .row 27 (Enc.cells r889.2.2)), (2, .row 25 (Enc.cells r891.1)), (3, .row 27 (Enc.cells r891.2.2))] 4 (by kernel_rfl) ?_
          exact hK895 () _ _ _ trivial (leSt_m [(0, 0), (1, 1), (2, 2), (3, 3)] [] (by first | ((try simp only [g896, g897, g898]) <;> simp only [push_cast, seval]; done) | ((try simp only [g896]); (try simp only [g897]); (try simp only [g898]); simp only [push_cast, seval]; done) | (exfalso; clear h; simp_all; done)) (by first | ((try simp only [g896, g897, g898]) <;> simp only [push_cast, seval]; done) | ((try simp only [g896]); (try simp only [g897]); (try simp only [g898]); simp only [push_cast, seval]; done) | (exfalso; clear h; simp_all; done)) rfl rfl rfl)
        · refine rn 13 [(4, .ptr 2 0), (31, bS false)] [(0, .row 25 (Enc.cells r889.1)), (1, .row 27 (Enc.cells r889.2.2)), (2, .row 25 (Enc.cells r891.1)), (3, .row 27 (Enc.cells r891.2.2))] 4 (by kernel_rfl) ?_
          refine rs 5 [] [] (by kernel_rfl) allP_nil ?_
          refine rf [(0, bS false)] [(0, .row 25 (Enc.cells r889.1)), (1, .row 27 (Enc.cells r889.2.2)), (2, .row 25 (Enc.cells r891.1)), (3, .row 27 (Enc.cells r891.2.2))] 4 (by kernel_rfl) ?_
          exact hK895 () _ _ _ trivial (leSt_m [(0, 0), (1, 1), (2, 2), (3, 3)] [] (by first | ((try simp only [g896, g897, g898]) <;> simp only [push_cast, seval]; done) | ((try simp only [g896]); (try simp only [g897]); (try simp only [g898]); simp only [push_cast, seval]; done) | (exfalso; clear h; simp_all; done)) (by first | ((try simp only [g896, g897, g898]) <;> simp only [push_cast, seval]; done) | ((try simp only [g896]); (try simp only [g897]); (try simp only [g898]); simp only [push_cast, seval]; done) | (exfalso; clear h; simp_all; done)) rfl rfl rfl)
      · refine rs 9 [] [] (by kernel_rfl) allP_nil ?_
        refine rf [(0, bS false)] [(0, .row 25 (Enc.cells r889.1)), (1, .row 27 (Enc.cells r889.2.2)), (2, .row 25 (Enc.cells r891.1)), (3, .row 27 (Enc.cells r891.2.2))] 4 (by kernel_rfl) ?_
        exact hK895 () _ _ _ trivial (leSt_m [(0, 0), (1, 1), (2, 2), (3, 3)] [] (by first | ((try simp only [g896, g897]) <;> simp only [push_cast, seval]; done) | ((try simp only [g896]); (try simp only [g897]); simp only [push_cast, seval]; done) | (exfalso; clear h; simp_all; done)) (by first | ((try simp only [g896, g897]) <;> simp only [push_cast, seval]; done) | ((try simp only [g896]); (try simp only [g897]); simp only [push_cast, seval]; done) | (exfalso; clear h; simp_all; done)) rfl rfl rfl)
    · refine rs 14 [] [] (by kernel_rfl) allP_nil ?_
      refine rf [(0, bS false)] [(0, .row 25 (Enc.cells r889.1)), (1, .row 27 (Enc.cells r889.2.2)), (2, .row 25 (Enc.cells r891.1)), (3, .row 27 (Enc.cells r891.2.2))] 4 (by kernel_rfl) ?_
      exact hK895 () _ _ _ trivial (leSt_m [(0, 0), (1, 1), (2, 2), (3, 3)] [] (by (try simp only [g896]) <;> simp only [push_cast, seval]) (by (try simp only [g896]) <;> simp only [push_cast, seval]) rfl rfl rfl)
  · dsimp only
    obtain rfl := Option.some.inj h
    refine ret_at (bS ((r889.2.2.Code == 0) && ((r891.2.2.Code == 0) && ((r891.2.1 == 1) && ((r891.1.Closed == false) && ((r891.1.Ready_e0 == false) && ((r891.1.Ready_e1 == false) && ((r891.1.Task_e0 == 0) && ((r891.1.Task_e1 == 0) && ((r891.1.Until_e0 == 0) && ((r891.1.Until_e1 == 0) && true))))))))))) (by kernel_rfl) ?_
    exact ret_e [] [] (by simp only [push_cast, seval]) (by simp only [push_cast, seval]) rfl rfl rfl

set_option maxRecDepth 100000 in
set_option maxHeartbeats 10000000 in
theorem taskmillref_F_spec (code : Int) (xat : Int) (r : Fault) (h : taskmillref_F code xat = some r) : SpecW Try.prog 12 [iS code, iS xat] [] 0 (fun x h n => x = .agg (Enc.cells r) ∧ h = [] ∧ n = 0) := by
  unfold taskmillref_F at h
  refine spec_of (draw_ok _) Try.func12 rfl (by decide) rfl (by kernel_rfl) ?_
  refine seq_np ?_
  refine reg_f ?_
  refine rs 1 [] [] (by kernel_rfl) allP_nil ?_
  refine rf [(0, iS code), (1, iS xat), (4, .ptr 0 0)] [(0, .row 27 [iS 0, iS 0])] 1 (by kernel_rfl) ?_
  refine wk_id ?_
  refine seq_np ?_
  refine reg_f ?_
  refine rs 4 [] [] (by kernel_rfl) allP_nil ?_
  refine rf [(4, .ptr 0 0)] [(0, .row 27 [iS code, iS xat])] 1 (by kernel_rfl) ?_
  refine wk_id ?_
  obtain rfl := Option.some.inj h
  refine ret_at (.agg [iS code, iS xat]) (by kernel_rfl) ?_
  exact ret_e [] [] (by simp only [push_cast, seval]) (by simp only [push_cast, seval]) rfl rfl rfl

set_option maxRecDepth 100000 in
set_option maxHeartbeats 10000000 in
theorem taskmillref_DescFault_spec (d : Desc) (r : Fault) (h : taskmillref_DescFault d = some r) : SpecW Try.prog 10 [.agg (Enc.cells d)] [] 0 (fun x h n => x = .agg (Enc.cells r) ∧ h = [] ∧ n = 0) := by
  unfold taskmillref_DescFault at h
  refine spec_of (draw_ok _) Try.func10 rfl (by decide) rfl (by kernel_rfl) ?_
  refine seq_np ?_
  refine reg_f ?_
  refine rs 2 [] [] (by kernel_rfl) allP_nil ?_
  refine rf [(1, .ptr 0 0), (2, .ptr 1 0)] [(0, .row 25 (Enc.cells d)), (1, .row 27 [iS 0, iS 0])] 2 (by kernel_rfl) ?_
  refine wk_id ?_
  refine seq_np ?_
  refine seq_np ?_
  refine reg_f ?_
  refine rs 1 [] [] (by kernel_rfl) allP_nil ?_
  refine rf [(1, .ptr 0 0), (2, .ptr 1 0), (3, iS 0)] [(0, .row 25 (Enc.cells d)), (1, .row 27 [iS 0, iS 0])] 2 (by kernel_rfl) ?_
  refine wk_id ?_
  refine block_np ?_
  refine loop_sx (S := Int) (fun a => ([(1, .ptr 0 0), (2, .ptr 1 0), (3, iS a)], [(0, .row 25 (Enc.cells d)), (1, .row 27 [iS 0, iS 0])], 2)) h (leSt_m [(0, 0), (1, 1)] [] (by simp only [push_cast, seval]) (by simp only [push_cast, seval]) rfl rfl rfl) ?_
  rintro i7 o2 R2 h hr2 hn2 hx2 ht2
  try dsimp only at h hn2 ⊢
  unfold taskmillref_DescFault_l1 at h
  try dsimp only at h
  refine seq_np ?_
  refine seq_np ?_
  refine reg_f ?_
  refine rs 2 [] [] (by kernel_rfl) allP_nil ?_
  refine rf [(1, .ptr 0 0), (2, .ptr 1 0), (3, iS i7), (5, bS (decide (i7 < 2)))] [(0, .row 25 (Enc.cells d)), (1, .row 27 [iS 0, iS 0])] 2 (by kernel_rfl) ?_
  refine wk_id ?_
  refine cond_sx h (by kernel_rfl) (fun g1456 h => ?_) (fun g1456 h => ?_)
  · refine wk_id ?_
    refine seq_np ?_
    refine block_cut (A := Unit) (fun a => ([(1, .ptr 0 0), (2, .ptr 1 0), (3, iS i7)], [(0, .row 25 (Enc.cells d)), (1, .row 27 [iS 0, iS 0])], 2)) (fun a => (taskmillref_DescFault_j1 d i7) = some o2) (fun K1359 hK1359 => ?_) ?_
    · refine seq_cut (A := Unit) (fun a => ([(1, .ptr 0 0), (2, .ptr 1 0), (3, iS i7)], [(0, .row 25 (Enc.cells d)), (1, .row 27 [iS 0, iS 0])], 2)) (fun a => (taskmillref_DescFault_j2 d i7) = some o2) (fun K1375 hK1375 => ?_) ?_
      · refine split_s h (fun g1376 h => ?_) (fun g1377 h => ?_)
        · refine seq_cut (A := Unit) (fun _ => ([(1, .ptr 0 0), (2, .ptr 1 0), (3, iS i7), (26, bS ((decide (d.Task_e0 < 0)) || ((decide (d.Until_e0 < 0)) || (decide ((1000000000 : Int) < d.Until_e0)))))], [(0, .row 25 (Enc.cells d)), (1, .row 27 [iS 0, iS 0])], 2)) (fun _ => True) (fun K1380 hK1380 => ?_) (fun _ _ => ?_)
          · refine reg_f ?_
            refine rs 2 [] [] (by kernel_rfl) allP_nil ?_
            refine run_at 8 .i64 i7 0 g1376 (by kernel_rfl) ?_
            refine rs 4 [] [] (by kernel_rfl) allP_nil ?_
            refine run_split 13 (decide (d.Task_e0 < 0)) (.inl (by kernel_rfl)) (fun g1381 => ?_) (fun g1381 => ?_)
            · refine rs 13 [] [] (by kernel_rfl) allP_nil ?_
              refine rf [(1, .ptr 0 0), (2, .ptr 1 0), (3, iS i7), (26, bS true)] [(0, .row 25 (Enc.cells d)), (1, .row 27 [iS 0, iS 0])] 2 (by kernel_rfl) ?_
              exact hK1380 () _ _ _ trivial (leSt_m [(0, 0), (1, 1)] [] (by (try simp only [g1381]) <;> simp only [push_cast, seval]) (by (try simp only [g1381]) <;> simp only [push_cast, seval]) rfl rfl rfl)
            · refine rs 2 [] [] (by kernel_rfl) allP_nil ?_
              refine run_at_g 14 .i64 i7 0 g1376 (by kernel_rfl) ?_
              refine rs 5 [] [] (by kernel_rfl) allP_nil ?_
              refine run_split 20 (decide (d.Until_e0 < 0)) (.inl (by kernel_rfl)) (fun g1382 => ?_) (fun g1382 => ?_)
              · refine rs 6 [] [] (by kernel_rfl) allP_nil ?_
                refine rf [(1, .ptr 0 0), (2, .ptr 1 0), (3, iS i7), (26, bS true)] [(0, .row 25 (Enc.cells d)), (1, .row 27 [iS 0, iS 0])] 2 (by kernel_rfl) ?_
                exact hK1380 () _ _ _ trivial (leSt_m [(0, 0), (1, 1)] [] (by first | ((try simp only [g1381, g1382]) <;> simp only [push_cast, seval]; done) | ((try simp only [g1381]); (try simp only [g1382]); simp only [push_cast, seval]; done) | (exfalso; clear h; simp_all; done)) (by first | ((try simp only [g1381, g1382]) <;> simp only [push_cast, seval]; done) | ((try simp only [g1381]); (try simp only [g1382]); simp only [push_cast, seval]; done) | (exfalso; clear h; simp_all; done)) rfl rfl rfl)
              · refine rs 2 [] [] (by kernel_rfl) allP_nil ?_
                refine run_at_g 21 .i64 i7 0 g1376 (by kernel_rfl) ?_
                refine rs 4 [] [] (by kernel_rfl) allP_nil ?_
                refine rf [(1, .ptr 0 0), (2, .ptr 1 0), (3, iS i7), (26, bS (decide ((1000000000 : Int) < d.Until_e0)))] [(0, .row 25 (Enc.cells d)), (1, .row 27 [iS 0, iS 0])] 2 (by kernel_rfl) ?_
                exact hK1380 () _ _ _ trivial (leSt_m [(0, 0), (1, 1)] [] (by first | ((try simp only [g1381, g1382]) <;> simp only [push_cast, seval]; done) | ((try simp only [g1381]); (try simp only [g1382]); simp only [push_cast, seval]; done) | (exfalso; clear h; simp_all; done)) (by first | ((try simp only [g1381, g1382]) <;> simp only [push_cast, seval]; done) | ((try simp only [g1381]); (try simp only [g1382]); simp only [push_cast, seval]; done) | (exfalso; clear h; simp_all; done)) rfl rfl rfl)
          · dsimp only
            refine cond_sx h (by kernel_rfl) (fun g1385 h => ?_) (fun g1385 h => ?_)
            · refine seq_np ?_
              refine reg_f ?_
              refine rs 1 [] [] (by kernel_rfl) allP_nil ?_
              obtain ⟨r1384, hr1384, h⟩ := bind_sx h
              refine run_call 12 [iS 3, iS i7] (some 28) (by kernel_rfl) ?_
              refine call_0 (taskmillref_F_spec 3 i7 r1384 hr1384) (by simp only [push_cast, seval]) (by simp only [push_cast, seval]) ?_
              refine back_f ?_
              refine rs 1 [] [] (by kernel_rfl) allP_nil ?_
              refine rf [(2, .ptr 1 0)] [(0, .row 25 (Enc.cells d)), (1, .row 27 (Enc.cells r1384))] 2 (by kernel_rfl) ?_
              refine wk_id ?_
              refine rt_cast ht2 ?_
              obtain ⟨r0, h, e0⟩ := map_sx h
              have e1 := hr2 r0 e0.symm
              subst r0
              obtain rfl := Option.some.inj h
              refine ret_at (.agg (Enc.cells r1384)) (by kernel_rfl) ?_
              exact ret_e [] [] (by simp only [push_cast, seval]) (by simp only [push_cast, seval]) rfl rfl rfl
            · exact hK1375 () _ _ _ h (leSt_m [(0, 0), (1, 1)] [] (by simp only [push_cast, seval]) (by simp only [push_cast, seval]) rfl rfl rfl)
        refine split_s h (fun g1386 h => ?_) (fun g1387 h => ?_)
        · refine seq_cut (A := Unit) (fun _ => ([(1, .ptr 0 0), (2, .ptr 1 0), (3, iS i7), (26, bS ((decide (d.Task_e1 < 0)) || ((decide (d.Until_e1 < 0)) || (decide ((1000000000 : Int) < d.Until_e1)))))], [(0, .row 25 (Enc.cells d)), (1, .row 27 [iS 0, iS 0])], 2)) (fun _ => True) (fun K1390 hK1390 => ?_) (fun _ _ => ?_)
          · refine reg_f ?_
            refine rs 2 [] [] (by kernel_rfl) allP_nil ?_
            refine run_at 8 .i64 i7 1 g1386 (by kernel_rfl) ?_
            refine rs 4 [] [] (by kernel_rfl) allP_nil ?_
            refine run_split 13 (decide (d.Task_e1 < 0)) (.inl (by kernel_rfl)) (fun g1391 => ?_) (fun g1391 => ?_)
            · refine rs 13 [] [] (by kernel_rfl) allP_nil ?_
              refine rf [(1, .ptr 0 0), (2, .ptr 1 0), (3, iS i7), (26, bS true)] [(0, .row 25 (Enc.cells d)), (1, .row 27 [iS 0, iS 0])] 2 (by kernel_rfl) ?_
              exact hK1390 () _ _ _ trivial (leSt_m [(0, 0), (1, 1)] [] (by (try simp only [g1391]) <;> simp only [push_cast, seval]) (by (try simp only [g1391]) <;> simp only [push_cast, seval]) rfl rfl rfl)
            · refine rs 2 [] [] (by kernel_rfl) allP_nil ?_
              refine run_at_g 14 .i64 i7 1 g1386 (by kernel_rfl) ?_
              refine rs 5 [] [] (by kernel_rfl) allP_nil ?_
              refine run_split 20 (decide (d.Until_e1 < 0)) (.inl (by kernel_rfl)) (fun g1392 => ?_) (fun g1392 => ?_)
              · refine rs 6 [] [] (by kernel_rfl) allP_nil ?_
                refine rf [(1, .ptr 0 0), (2, .ptr 1 0), (3, iS i7), (26, bS true)] [(0, .row 25 (Enc.cells d)), (1, .row 27 [iS 0, iS 0])] 2 (by kernel_rfl) ?_
                exact hK1390 () _ _ _ trivial (leSt_m [(0, 0), (1, 1)] [] (by first | ((try simp only [g1391, g1392]) <;> simp only [push_cast, seval]; done) | ((try simp only [g1391]); (try simp only [g1392]); simp only [push_cast, seval]; done) | (exfalso; clear h; simp_all; done)) (by first | ((try simp only [g1391, g1392]) <;> simp only [push_cast, seval]; done) | ((try simp only [g1391]); (try simp only [g1392]); simp only [push_cast, seval]; done) | (exfalso; clear h; simp_all; done)) rfl rfl rfl)
              · refine rs 2 [] [] (by kernel_rfl) allP_nil ?_
                refine run_at_g 21 .i64 i7 1 g1386 (by kernel_rfl) ?_
                refine rs 4 [] [] (by kernel_rfl) allP_nil ?_
                refine rf [(1, .ptr 0 0), (2, .ptr 1 0), (3, iS i7), (26, bS (decide ((1000000000 : Int) < d.Until_e1)))] [(0, .row 25 (Enc.cells d)), (1, .row 27 [iS 0, iS 0])] 2 (by kernel_rfl) ?_
                exact hK1390 () _ _ _ trivial (leSt_m [(0, 0), (1, 1)] [] (by first | ((try simp only [g1391, g1392]) <;> simp only [push_cast, seval]; done) | ((try simp only [g1391]); (try simp only [g1392]); simp only [push_cast, seval]; done) | (exfalso; clear h; simp_all; done)) (by first | ((try simp only [g1391, g1392]) <;> simp only [push_cast, seval]; done) | ((try simp only [g1391]); (try simp only [g1392]); simp only [push_cast, seval]; done) | (exfalso; clear h; simp_all; done)) rfl rfl rfl)
          · dsimp only
            refine cond_sx h (by kernel_rfl) (fun g1395 h => ?_) (fun g1395 h => ?_)
            · refine seq_np ?_
              refine reg_f ?_
              refine rs 1 [] [] (by kernel_rfl) allP_nil ?_
              obtain ⟨r1394, hr1394, h⟩ := bind_sx h
              refine run_call 12 [iS 3, iS i7] (some 28) (by kernel_rfl) ?_
              refine call_0 (taskmillref_F_spec 3 i7 r1394 hr1394) (by simp only [push_cast, seval]) (by simp only [push_cast, seval]) ?_
              refine back_f ?_
              refine rs 1 [] [] (by kernel_rfl) allP_nil ?_
              refine rf [(2, .ptr 1 0)] [(0, .row 25 (Enc.cells d)), (1, .row 27 (Enc.cells r1394))] 2 (by kernel_rfl) ?_
              refine wk_id ?_
              refine rt_cast ht2 ?_
              obtain ⟨r0, h, e0⟩ := map_sx h
              have e1 := hr2 r0 e0.symm
              subst r0
              obtain rfl := Option.some.inj h
              refine ret_at (.agg (Enc.cells r1394)) (by kernel_rfl) ?_
              exact ret_e [] [] (by simp only [push_cast, seval]) (by simp only [push_cast, seval]) rfl rfl rfl
            · exact hK1375 () _ _ _ h (leSt_m [(0, 0), (1, 1)] [] (by simp only [push_cast, seval]) (by simp only [push_cast, seval]) rfl rfl rfl)
        refine chk_sx h (fun g1399 h => ?_)
        refine seq_np ?_
        refine reg_f ?_
        have k1398 : 0 ≤ i7 ∧ i7 < 2 := by first | simpa only [Bool.and_eq_true, decide_eq_true_eq, bne_iff_ne, ne_eq] using g1399 | (simp at g1399 ⊢; omega)
        exfalso
        omega
      · rintro _ h
        try dsimp only at h ⊢
        unfold taskmillref_DescFault_j2 at h
        refine split_s h (fun g1401 h => ?_) (fun g1402 h => ?_)
        · refine seq_cut (A := Unit) (fun _ => ([(1, .ptr 0 0), (2, .ptr 1 0), (3, iS i7), (63, bS (bif d.Closed then (d.Ready_e0 || ((decide ((0 : Int) < d.Task_e0)) || ((decide ((0 : Int) < d.Until_e0)) || (d.Ready_e0 && (decide ((0 : Int) < d.Task_e0)))))) else (d.Ready_e0 && (decide ((0 : Int) < d.Task_e0)))))], [(0, .row 25 (Enc.cells d)), (1, .row 27 [iS 0, iS 0])], 2)) (fun _ => True) (fun K1409 hK1409 => ?_) (fun _ _ => ?_)
          · refine reg_f ?_
            refine rs 3 [] [] (by kernel_rfl) allP_nil ?_
            refine run_split 31 d.Closed (.inl (by kernel_rfl)) (fun g1410 => ?_) (fun g1410 => ?_)
            · refine rs 2 [] [] (by kernel_rfl) allP_nil ?_
              refine run_at_g 32 .i64 i7 0 g1401 (by kernel_rfl) ?_
              refine rs 3 [] [] (by kernel_rfl) allP_nil ?_
              refine run_split 36 d.Ready_e0 (.inr (by kernel_rfl)) (fun g1411 => ?_) (fun g1411 => ?_)
              · refine rs 27 [] [] (by kernel_rfl) allP_nil ?_
                refine rf [(1, .ptr 0 0), (2, .ptr 1 0), (3, iS i7), (63, bS true)] [(0, .row 25 (Enc.cells d)), (1, .row 27 [iS 0, iS 0])] 2 (by kernel_rfl) ?_
                exact hK1409 () _ _ _ trivial (leSt_m [(0, 0), (1, 1)] [] (by first | ((try simp only [g1410, g1411]) <;> simp only [push_cast, seval]; done) | ((try simp only [g1410]); (try simp only [g1411]); simp only [push_cast, seval]; done) | (exfalso; clear h; simp_all; done)) (by first | ((try simp only [g1410, g1411]) <;> simp only [push_cast, seval]; done) | ((try simp only [g1410]); (try simp only [g1411]); simp only [push_cast, seval]; done) | (exfalso; clear h; simp_all; done)) rfl rfl rfl)
              · refine rs 2 [] [] (by kernel_rfl) allP_nil ?_
                refine run_at_g 37 .i64 i7 0 g1401 (by kernel_rfl) ?_
                refine rs 5 [] [] (by kernel_rfl) allP_nil ?_
                refine run_split 43 (decide ((0 : Int) < d.Task_e0)) (.inr (by kernel_rfl)) (fun g1412 => ?_) (fun g1412 => ?_)
                · refine rn 15 [(1, .ptr 0 0), (2, .ptr 1 0), (3, iS i7), (31, bS true), (43, .gd true (bS true))] [(0, .row 25 (Enc.cells d)), (1, .row 27 [iS 0, iS 0])] 2 (by kernel_rfl) ?_
                  refine rs 20 [] [] (by kernel_rfl) allP_nil ?_
                  refine rf [(1, .ptr 0 0), (2, .ptr 1 0), (3, iS i7), (63, bS true)] [(0, .row 25 (Enc.cells d)), (1, .row 27 [iS 0, iS 0])] 2 (by kernel_rfl) ?_
                  exact hK1409 () _ _ _ trivial (leSt_m [(0, 0), (1, 1)] [] (by first | ((try simp only [g1410, g1411, g1412]) <;> simp only [push_cast, seval]; done) | ((try simp only [g1410]); (try simp only [g1411]); (try simp only [g1412]); simp only [push_cast, seval]; done) | (exfalso; clear h; simp_all; done)) (by first | ((try simp only [g1410, g1411, g1412]) <;> simp only [push_cast, seval]; done) | ((try simp only [g1410]); (try simp only [g1411]); (try simp only [g1412]); simp only [push_cast, seval]; done) | (exfalso; clear h; simp_all; done)) rfl rfl rfl)
                · refine rn 15 [(1, .ptr 0 0), (2, .ptr 1 0), (3, iS i7), (31, bS true), (43, .gd true (bS false))] [(0, .row 25 (Enc.cells d)), (1, .row 27 [iS 0, iS 0])] 2 (by kernel_rfl) ?_
                  refine rs 2 [] [] (by kernel_rfl) allP_nil ?_
                  refine run_at_g 44 .i64 i7 0 g1401 (by kernel_rfl) ?_
                  refine rs 6 [] [] (by kernel_rfl) allP_nil ?_
                  refine run_split 51 (decide ((0 : Int) < d.Until_e0)) (.inl (by kernel_rfl)) (fun g1413 => ?_) (fun g1413 => ?_)
                  · refine rs 12 [] [] (by kernel_rfl) allP_nil ?_
                    refine rf [(1, .ptr 0 0), (2, .ptr 1 0), (3, iS i7), (63, bS true)] [(0, .row 25 (Enc.cells d)), (1, .row 27 [iS 0, iS 0])] 2 (by kernel_rfl) ?_
                    exact hK1409 () _ _ _ trivial (leSt_m [(0, 0), (1, 1)] [] (by first | ((try simp only [g1410, g1411, g1412, g1413]) <;> simp only [push_cast, seval]; done) | ((try simp only [g1410]); (try simp only [g1411]); (try simp only [g1412]); (try simp only [g1413]); simp only [push_cast, seval]; done) | (exfalso; clear h; simp_all; done)) (by first | ((try simp only [g1410, g1411, g1412, g1413]) <;> simp only [push_cast, seval]; done) | ((try simp only [g1410]); (try simp only [g1411]); (try simp only [g1412]); (try simp only [g1413]); simp only [push_cast, seval]; done) | (exfalso; clear h; simp_all; done)) rfl rfl rfl)
                  · refine rs 2 [] [] (by kernel_rfl) allP_nil ?_
                    refine run_at_g 52 .i64 i7 0 g1401 (by kernel_rfl) ?_
                    refine rs 3 [] [] (by kernel_rfl) allP_nil ?_
                    refine run_split 56 d.Ready_e0 (.inr (by kernel_rfl)) (fun g1414 => ?_) (fun g1414 => ?_)
                    · refine rs 2 [] [] (by kernel_rfl) allP_nil ?_
                      refine run_at_g 57 .i64 i7 0 g1401 (by kernel_rfl) ?_
                      refine rs 5 [] [] (by kernel_rfl) allP_nil ?_
                      refine rf [(1, .ptr 0 0), (2, .ptr 1 0), (3, iS i7), (63, bS (decide ((0 : Int) < d.Task_e0)))] [(0, .row 25 (Enc.cells d)), (1, .row 27 [iS 0, iS 0])] 2 (by kernel_rfl) ?_
                      exact hK1409 () _ _ _ trivial (leSt_m [(0, 0), (1, 1)] [] (by first | ((try simp only [g1410, g1411, g1412, g1413, g1414]) <;> simp only [push_cast, seval]; done) | ((try simp only [g1410]); (try simp only [g1411]); (try simp only [g1412]); (try simp only [g1413]); (try simp only [g1414]); simp only [push_cast, seval]; done) | (exfalso; clear h; simp_all; done)) (by first | ((try simp only [g1410, g1411, g1412, g1413, g1414]) <;> simp only [push_cast, seval]; done) | ((try simp only [g1410]); (try simp only [g1411]); (try simp only [g1412]); (try simp only [g1413]); (try simp only [g1414]); simp only [push_cast, seval]; done) | (exfalso; clear h; simp_all; done)) rfl rfl rfl)
                    · refine rs 7 [] [] (by kernel_rfl) allP_nil ?_
                      refine rf [(1, .ptr 0 0), (2, .ptr 1 0), (3, iS i7), (63, bS false)] [(0, .row 25 (Enc.cells d)), (1, .row 27 [iS 0, iS 0])] 2 (by kernel_rfl) ?_
                      exact hK1409 () _ _ _ trivial (leSt_m [(0, 0), (1, 1)] [] (by first | ((try simp only [g1410, g1411, g1412, g1413, g1414]) <;> simp only [push_cast, seval]; done) | ((try simp only [g1410]); (try simp only [g1411]); (try simp only [g1412]); (try simp only [g1413]); (try simp only [g1414]); simp only [push_cast, seval]; done) | (exfalso; clear h; simp_all; done)) (by first | ((try simp only [g1410, g1411, g1412, g1413, g1414]) <;> simp only [push_cast, seval]; done) | ((try simp only [g1410]); (try simp only [g1411]); (try simp only [g1412]); (try simp only [g1413]); (try simp only [g1414]); simp only [push_cast, seval]; done) | (exfalso; clear h; simp_all; done)) rfl rfl rfl)
            · refine rs 22 [] [] (by kernel_rfl) allP_nil ?_
              refine run_at_g 52 .i64 i7 0 g1401 (by kernel_rfl) ?_
              refine rs 3 [] [] (by kernel_rfl) allP_nil ?_
              refine run_split 56 d.Ready_e0 (.inr (by kernel_rfl)) (fun g1415 => ?_) (fun g1415 => ?_)
              · refine rs 2 [] [] (by kernel_rfl) allP_nil ?_
                refine run_at_g 57 .i64 i7 0 g1401 (by kernel_rfl) ?_
                refine rs 5 [] [] (by kernel_rfl) allP_nil ?_
                refine rf [(1, .ptr 0 0), (2, .ptr 1 0), (3, iS i7), (63, bS (decide ((0 : Int) < d.Task_e0)))] [(0, .row 25 (Enc.cells d)), (1, .row 27 [iS 0, iS 0])] 2 (by kernel_rfl) ?_
                exact hK1409 () _ _ _ trivial (leSt_m [(0, 0), (1, 1)] [] (by first | ((try simp only [g1410, g1415]) <;> simp only [push_cast, seval]; done) | ((try simp only [g1410]); (try simp only [g1415]); simp only [push_cast, seval]; done) | (exfalso; clear h; simp_all; done)) (by first | ((try simp only [g1410, g1415]) <;> simp only [push_cast, seval]; done) | ((try simp only [g1410]); (try simp only [g1415]); simp only [push_cast, seval]; done) | (exfalso; clear h; simp_all; done)) rfl rfl rfl)
              · refine rs 7 [] [] (by kernel_rfl) allP_nil ?_
                refine rf [(1, .ptr 0 0), (2, .ptr 1 0), (3, iS i7), (63, bS false)] [(0, .row 25 (Enc.cells d)), (1, .row 27 [iS 0, iS 0])] 2 (by kernel_rfl) ?_
                exact hK1409 () _ _ _ trivial (leSt_m [(0, 0), (1, 1)] [] (by first | ((try simp only [g1410, g1415]) <;> simp only [push_cast, seval]; done) | ((try simp only [g1410]); (try simp only [g1415]); simp only [push_cast, seval]; done) | (exfalso; clear h; simp_all; done)) (by first | ((try simp only [g1410, g1415]) <;> simp only [push_cast, seval]; done) | ((try simp only [g1410]); (try simp only [g1415]); simp only [push_cast, seval]; done) | (exfalso; clear h; simp_all; done)) rfl rfl rfl)
          · dsimp only
            refine cond_sx h (by kernel_rfl) (fun g1418 h => ?_) (fun g1418 h => ?_)
            · refine seq_np ?_
              refine reg_f ?_
              refine rs 1 [] [] (by kernel_rfl) allP_nil ?_
              obtain ⟨r1417, hr1417, h⟩ := bind_sx h
              refine run_call 12 [iS 5, iS i7] (some 65) (by kernel_rfl) ?_
              refine call_0 (taskmillref_F_spec 5 i7 r1417 hr1417) (by simp only [push_cast, seval]) (by simp only [push_cast, seval]) ?_
              refine back_f ?_
              refine rs 1 [] [] (by kernel_rfl) allP_nil ?_
              refine rf [(2, .ptr 1 0)] [(0, .row 25 (Enc.cells d)), (1, .row 27 (Enc.cells r1417))] 2 (by kernel_rfl) ?_
              refine wk_id ?_
              refine rt_cast ht2 ?_
              obtain ⟨r0, h, e0⟩ := map_sx h
              have e1 := hr2 r0 e0.symm
              subst r0
              obtain rfl := Option.some.inj h
              refine ret_at (.agg (Enc.cells r1417)) (by kernel_rfl) ?_
              exact ret_e [] [] (by simp only [push_cast, seval]) (by simp only [push_cast, seval]) rfl rfl rfl
            · exact hK1359 () _ _ _ h (leSt_m [(0, 0), (1, 1)] [] (by simp only [push_cast, seval]) (by simp only [push_cast, seval]) rfl rfl rfl)
        refine split_s h (fun g1419 h => ?_) (fun g1420 h => ?_)
        · refine seq_cut (A := Unit) (fun _ => ([(1, .ptr 0 0), (2, .ptr 1 0), (3, iS i7), (63, bS (bif d.Closed then (d.Ready_e1 || ((decide ((0 : Int) < d.Task_e1)) || ((decide ((0 : Int) < d.Until_e1)) || (d.Ready_e1 && (decide ((0 : Int) < d.Task_e1)))))) else (d.Ready_e1 && (decide ((0 : Int) < d.Task_e1)))))], [(0, .row 25 (Enc.cells d)), (1, .row 27 [iS 0, iS 0])], 2)) (fun _ => True) (fun K1427 hK1427 => ?_) (fun _ _ => ?_)
          · refine reg_f ?_
            refine rs 3 [] [] (by kernel_rfl) allP_nil ?_
            refine run_split 31 d.Closed (.inl (by kernel_rfl)) (fun g1428 => ?_) (fun g1428 => ?_)
            · refine rs 2 [] [] (by kernel_rfl) allP_nil ?_
              refine run_at_g 32 .i64 i7 1 g1419 (by kernel_rfl) ?_
              refine rs 3 [] [] (by kernel_rfl) allP_nil ?_
              refine run_split 36 d.Ready_e1 (.inr (by kernel_rfl)) (fun g1429 => ?_) (fun g1429 => ?_)
              · refine rs 27 [] [] (by kernel_rfl) allP_nil ?_
                refine rf [(1, .ptr 0 0), (2, .ptr 1 0), (3, iS i7), (63, bS true)] [(0, .row 25 (Enc.cells d)), (1, .row 27 [iS 0, iS 0])] 2 (by kernel_rfl) ?_
                exact hK1427 () _ _ _ trivial (leSt_m [(0, 0), (1, 1)] [] (by first | ((try simp only [g1428, g1429]) <;> simp only [push_cast, seval]; done) | ((try simp only [g1428]); (try simp only [g1429]); simp only [push_cast, seval]; done) | (exfalso; clear h; simp_all; done)) (by first | ((try simp only [g1428, g1429]) <;> simp only [push_cast, seval]; done) | ((try simp only [g1428]); (try simp only [g1429]); simp only [push_cast, seval]; done) | (exfalso; clear h; simp_all; done)) rfl rfl rfl)
              · refine rs 2 [] [] (by kernel_rfl) allP_nil ?_
                refine run_at_g 37 .i64 i7 1 g1419 (by kernel_rfl) ?_
                refine rs 5 [] [] (by kernel_rfl) allP_nil ?_
                refine run_split 43 (decide ((0 : Int) < d.Task_e1)) (.inr (by kernel_rfl)) (fun g1430 => ?_) (fun g1430 => ?_)
                · refine rn 15 [(1, .ptr 0 0), (2, .ptr 1 0), (3, iS i7), (31, bS true), (43, .gd true (bS true))] [(0, .row 25 (Enc.cells d)), (1, .row 27 [iS 0, iS 0])] 2 (by kernel_rfl) ?_
                  refine rs 20 [] [] (by kernel_rfl) allP_nil ?_
                  refine rf [(1, .ptr 0 0), (2, .ptr 1 0), (3, iS i7), (63, bS true)] [(0, .row 25 (Enc.cells d)), (1, .row 27 [iS 0, iS 0])] 2 (by kernel_rfl) ?_
                  exact hK1427 () _ _ _ trivial (leSt_m [(0, 0), (1, 1)] [] (by first | ((try simp only [g1428, g1429, g1430]) <;> simp only [push_cast, seval]; done) | ((try simp only [g1428]); (try simp only [g1429]); (try simp only [g1430]); simp only [push_cast, seval]; done) | (exfalso; clear h; simp_all; done)) (by first | ((try simp only [g1428, g1429, g1430]) <;> simp only [push_cast, seval]; done) | ((try simp only [g1428]); (try simp only [g1429]); (try simp only [g1430]); simp only [push_cast, seval]; done) | (exfalso; clear h; simp_all; done)) rfl rfl rfl)
                · refine rn 15 [(1, .ptr 0 0), (2, .ptr 1 0), (3, iS i7), (31, bS true), (43, .gd true (bS false))] [(0, .row 25 (Enc.cells d)), (1, .row 27 [iS 0, iS 0])] 2 (by kernel_rfl) ?_
                  refine rs 2 [] [] (by kernel_rfl) allP_nil ?_
                  refine run_at_g 44 .i64 i7 1 g1419 (by kernel_rfl) ?_
                  refine rs 6 [] [] (by kernel_rfl) allP_nil ?_
                  refine run_split 51 (decide ((0 : Int) < d.Until_e1)) (.inl (by kernel_rfl)) (fun g1431 => ?_) (fun g1431 => ?_)
                  · refine rs 12 [] [] (by kernel_rfl) allP_nil ?_
                    refine rf [(1, .ptr 0 0), (2, .ptr 1 0), (3, iS i7), (63, bS true)] [(0, .row 25 (Enc.cells d)), (1, .row 27 [iS 0, iS 0])] 2 (by kernel_rfl) ?_
                    exact hK1427 () _ _ _ trivial (leSt_m [(0, 0), (1, 1)] [] (by first | ((try simp only [g1428, g1429, g1430, g1431]) <;> simp only [push_cast, seval]; done) | ((try simp only [g1428]); (try simp only [g1429]); (try simp only [g1430]); (try simp only [g1431]); simp only [push_cast, seval]; done) | (exfalso; clear h; simp_all; done)) (by first | ((try simp only [g1428, g1429, g1430, g1431]) <;> simp only [push_cast, seval]; done) | ((try simp only [g1428]); (try simp only [g1429]); (try simp only [g1430]); (try simp only [g1431]); simp only [push_cast, seval]; done) | (exfalso; clear h; simp_all; done)) rfl rfl rfl)
                  · refine rs 2 [] [] (by kernel_rfl) allP_nil ?_
                    refine run_at_g 52 .i64 i7 1 g1419 (by kernel_rfl) ?_
                    refine rs 3 [] [] (by kernel_rfl) allP_nil ?_
                    refine run_split 56 d.Ready_e1 (.inr (by kernel_rfl)) (fun g1432 => ?_) (fun g1432 => ?_)
                    · refine rs 2 [] [] (by kernel_rfl) allP_nil ?_
                      refine run_at_g 57 .i64 i7 1 g1419 (by kernel_rfl) ?_
                      refine rs 5 [] [] (by kernel_rfl) allP_nil ?_
                      refine rf [(1, .ptr 0 0), (2, .ptr 1 0), (3, iS i7), (63, bS (decide ((0 : Int) < d.Task_e1)))] [(0, .row 25 (Enc.cells d)), (1, .row 27 [iS 0, iS 0])] 2 (by kernel_rfl) ?_
                      exact hK1427 () _ _ _ trivial (leSt_m [(0, 0), (1, 1)] [] (by first | ((try simp only [g1428, g1429, g1430, g1431, g1432]) <;> simp only [push_cast, seval]; done) | ((try simp only [g1428]); (try simp only [g1429]); (try simp only [g1430]); (try simp only [g1431]); (try simp only [g1432]); simp only [push_cast, seval]; done) | (exfalso; clear h; simp_all; done)) (by first | ((try simp only [g1428, g1429, g1430, g1431, g1432]) <;> simp only [push_cast, seval]; done) | ((try simp only [g1428]); (try simp only [g1429]); (try simp only [g1430]); (try simp only [g1431]); (try simp only [g1432]); simp only [push_cast, seval]; done) | (exfalso; clear h; simp_all; done)) rfl rfl rfl)
                    · refine rs 7 [] [] (by kernel_rfl) allP_nil ?_
                      refine rf [(1, .ptr 0 0), (2, .ptr 1 0), (3, iS i7), (63, bS false)] [(0, .row 25 (Enc.cells d)), (1, .row 27 [iS 0, iS 0])] 2 (by kernel_rfl) ?_
                      exact hK1427 () _ _ _ trivial (leSt_m [(0, 0), (1, 1)] [] (by first | ((try simp only [g1428, g1429, g1430, g1431, g1432]) <;> simp only [push_cast, seval]; done) | ((try simp only [g1428]); (try simp only [g1429]); (try simp only [g1430]); (try simp only [g1431]); (try simp only [g1432]); simp only [push_cast, seval]; done) | (exfalso; clear h; simp_all; done)) (by first | ((try simp only [g1428, g1429, g1430, g1431, g1432]) <;> simp only [push_cast, seval]; done) | ((try simp only [g1428]); (try simp only [g1429]); (try simp only [g1430]); (try simp only [g1431]); (try simp only [g1432]); simp only [push_cast, seval]; done) | (exfalso; clear h; simp_all; done)) rfl rfl rfl)
            · refine rs 22 [] [] (by kernel_rfl) allP_nil ?_
              refine run_at_g 52 .i64 i7 1 g1419 (by kernel_rfl) ?_
              refine rs 3 [] [] (by kernel_rfl) allP_nil ?_
              refine run_split 56 d.Ready_e1 (.inr (by kernel_rfl)) (fun g1433 => ?_) (fun g1433 => ?_)
              · refine rs 2 [] [] (by kernel_rfl) allP_nil ?_
                refine run_at_g 57 .i64 i7 1 g1419 (by kernel_rfl) ?_
                refine rs 5 [] [] (by kernel_rfl) allP_nil ?_
                refine rf [(1, .ptr 0 0), (2, .ptr 1 0), (3, iS i7), (63, bS (decide ((0 : Int) < d.Task_e1)))] [(0, .row 25 (Enc.cells d)), (1, .row 27 [iS 0, iS 0])] 2 (by kernel_rfl) ?_
                exact hK1427 () _ _ _ trivial (leSt_m [(0, 0), (1, 1)] [] (by first | ((try simp only [g1428, g1433]) <;> simp only [push_cast, seval]; done) | ((try simp only [g1428]); (try simp only [g1433]); simp only [push_cast, seval]; done) | (exfalso; clear h; simp_all; done)) (by first | ((try simp only [g1428, g1433]) <;> simp only [push_cast, seval]; done) | ((try simp only [g1428]); (try simp only [g1433]); simp only [push_cast, seval]; done) | (exfalso; clear h; simp_all; done)) rfl rfl rfl)
              · refine rs 7 [] [] (by kernel_rfl) allP_nil ?_
                refine rf [(1, .ptr 0 0), (2, .ptr 1 0), (3, iS i7), (63, bS false)] [(0, .row 25 (Enc.cells d)), (1, .row 27 [iS 0, iS 0])] 2 (by kernel_rfl) ?_
                exact hK1427 () _ _ _ trivial (leSt_m [(0, 0), (1, 1)] [] (by first | ((try simp only [g1428, g1433]) <;> simp only [push_cast, seval]; done) | ((try simp only [g1428]); (try simp only [g1433]); simp only [push_cast, seval]; done) | (exfalso; clear h; simp_all; done)) (by first | ((try simp only [g1428, g1433]) <;> simp only [push_cast, seval]; done) | ((try simp only [g1428]); (try simp only [g1433]); simp only [push_cast, seval]; done) | (exfalso; clear h; simp_all; done)) rfl rfl rfl)
          · dsimp only
            refine cond_sx h (by kernel_rfl) (fun g1436 h => ?_) (fun g1436 h => ?_)
            · refine seq_np ?_
              refine reg_f ?_
              refine rs 1 [] [] (by kernel_rfl) allP_nil ?_
              obtain ⟨r1435, hr1435, h⟩ := bind_sx h
              refine run_call 12 [iS 5, iS i7] (some 65) (by kernel_rfl) ?_
              refine call_0 (taskmillref_F_spec 5 i7 r1435 hr1435) (by simp only [push_cast, seval]) (by simp only [push_cast, seval]) ?_
              refine back_f ?_
              refine rs 1 [] [] (by kernel_rfl) allP_nil ?_
              refine rf [(2, .ptr 1 0)] [(0, .row 25 (Enc.cells d)), (1, .row 27 (Enc.cells r1435))] 2 (by kernel_rfl) ?_
              refine wk_id ?_
              refine rt_cast ht2 ?_
              obtain ⟨r0, h, e0⟩ := map_sx h
              have e1 := hr2 r0 e0.symm
              subst r0
              obtain rfl := Option.some.inj h
              refine ret_at (.agg (Enc.cells r1435)) (by kernel_rfl) ?_
              exact ret_e [] [] (by simp only [push_cast, seval]) (by simp only [push_cast, seval]) rfl rfl rfl
            · exact hK1359 () _ _ _ h (leSt_m [(0, 0), (1, 1)] [] (by simp only [push_cast, seval]) (by simp only [push_cast, seval]) rfl rfl rfl)
        refine seq_np ?_
        refine reg_f ?_
        refine rs 3 [] [] (by kernel_rfl) allP_nil ?_
        refine run_br h 31 (.inl (by kernel_rfl)) (fun g1442 h => ?_) (fun g1442 h => ?_)
        · refine chk_sx h (fun g1444 h => ?_)
          have k1443 : 0 ≤ i7 ∧ i7 < 2 := by first | simpa only [Bool.and_eq_true, decide_eq_true_eq, bne_iff_ne, ne_eq] using g1444 | (simp at g1444 ⊢; omega)
          exfalso
          omega
        · refine chk_sx h (fun g1446 h => ?_)
          have k1445 : 0 ≤ i7 ∧ i7 < 2 := by first | simpa only [Bool.and_eq_true, decide_eq_true_eq, bne_iff_ne, ne_eq] using g1446 | (simp at g1446 ⊢; omega)
          exfalso
          omega
    · rintro _ h
      try dsimp only at h ⊢
      unfold taskmillref_DescFault_j1 at h
      refine wk_id ?_
      refine reg_f ?_
      refine rs 3 [] [] (by kernel_rfl) allP_nil ?_
      refine rf [(1, .ptr 0 0), (2, .ptr 1 0), (3, iS (IntKind.i64.wrap (i7 + 1)))] [(0, .row 25 (Enc.cells d)), (1, .row 27 [iS 0, iS 0])] 2 (by kernel_rfl) ?_
      exact hn2 ((IntKind.i64.wrap (i7 + 1))) _ _ _ (Option.some.inj h).symm (leSt_m [(0, 0), (1, 1)] [] (by simp only [push_cast, seval]) (by simp only [push_cast, seval]) rfl rfl rfl)
  · change R2 (.exit 0) _ _ _
    refine ex_cast hx2 (id := 0) ?_
    obtain ⟨r0, h, e0⟩ := map_sx h
    have e1 := hr2 r0 e0.symm
    subst r0
    refine wk_id ?_
    refine wk_id ?_
    refine seq_np ?_
    refine seq_cut (A := Unit) (fun _ => ([(2, .ptr 1 0), (78, bS ((decide ((0 : Int) < d.Task_e0)) && (d.Task_e0 == d.Task_e1)))], [(0, .row 25 (Enc.cells d)), (1, .row 27 [iS 0, iS 0])], 2)) (fun _ => True) (fun K1451 hK1451 => ?_) (fun _ _ => ?_)
    · refine reg_f ?_
      refine rs 5 [] [] (by kernel_rfl) allP_nil ?_
      refine run_split 70 (decide ((0 : Int) < d.Task_e0)) (.inl (by kernel_rfl)) (fun g1452 => ?_) (fun g1452 => ?_)
      · refine rs 8 [] [] (by kernel_rfl) allP_nil ?_
        refine rf [(2, .ptr 1 0), (78, bS (d.Task_e0 == d.Task_e1))] [(0, .row 25 (Enc.cells d)), (1, .row 27 [iS 0, iS 0])] 2 (by kernel_rfl) ?_
        exact hK1451 () _ _ _ trivial (leSt_m [(0, 0), (1, 1)] [] (by (try simp only [g1452]) <;> simp only [push_cast, seval]) (by (try simp only [g1452]) <;> simp only [push_cast, seval]) rfl rfl rfl)
      · refine rs 8 [] [] (by kernel_rfl) allP_nil ?_
        refine rf [(2, .ptr 1 0), (78, bS false)] [(0, .row 25 (Enc.cells d)), (1, .row 27 [iS 0, iS 0])] 2 (by kernel_rfl) ?_
        exact hK1451 () _ _ _ trivial (leSt_m [(0, 0), (1, 1)] [] (by (try simp only [g1452]) <;> simp only [push_cast, seval]) (by (try simp only [g1452]) <;> simp only [push_cast, seval]) rfl rfl rfl)
    · dsimp only
      refine cond_sx h (by kernel_rfl) (fun g1455 h => ?_) (fun g1455 h => ?_)
      · refine seq_np ?_
        refine reg_f ?_
        obtain ⟨r1454, hr1454, h⟩ := bind_sx h
        refine run_call 12 [iS 10, iS 1] (some 79) (by kernel_rfl) ?_
        refine call_0 (taskmillref_F_spec 10 1 r1454 hr1454) (by simp only [push_cast, seval]) (by simp only [push_cast, seval]) ?_
        refine back_f ?_
        refine rs 1 [] [] (by kernel_rfl) allP_nil ?_
        refine rf [(2, .ptr 1 0)] [(0, .row 25 (Enc.cells d)), (1, .row 27 (Enc.cells r1454))] 2 (by kernel_rfl) ?_
        refine wk_id ?_
        obtain rfl := Option.some.inj h
        refine ret_at (.agg (Enc.cells r1454)) (by kernel_rfl) ?_
        exact ret_e [] [] (by simp only [push_cast, seval]) (by simp only [push_cast, seval]) rfl rfl rfl
      · refine wk_id ?_
        refine seq_np ?_
        refine reg_f ?_
        refine rs 2 [] [] (by kernel_rfl) allP_nil ?_
        refine rf [(2, .ptr 1 0)] [(0, .row 25 (Enc.cells d)), (1, .row 27 [iS 0, iS 0])] 2 (by kernel_rfl) ?_
        refine wk_id ?_
        obtain rfl := Option.some.inj h
        refine ret_at (.agg [iS 0, iS 0]) (by kernel_rfl) ?_
        exact ret_e [] [] (by simp only [push_cast, seval]) (by simp only [push_cast, seval]) rfl rfl rfl

set_option maxRecDepth 100000 in
set_option maxHeartbeats 10000000 in
theorem taskmilllaw_wayFault_spec (d : Desc) (way : Int) (r : Fault) (h : taskmilllaw_wayFault d way = some r) : SpecW Try.prog 11 [.agg (Enc.cells d), iS way] [] 0 (fun x h n => x = .agg (Enc.cells r) ∧ h = [] ∧ n = 0) := by
  unfold taskmilllaw_wayFault at h
  refine spec_of (draw_ok _) Try.func11 rfl (by decide) rfl (by kernel_rfl) ?_
  refine seq_np ?_
  refine reg_f ?_
  refine rs 2 [] [] (by kernel_rfl) allP_nil ?_
  refine rf [(1, iS way), (2, .ptr 0 0), (4, .ptr 1 0)] [(0, .row 25 (Enc.cells d)), (1, .row 27 [iS 0, iS 0])] 2 (by kernel_rfl) ?_
  refine wk_id ?_
  refine seq_np ?_
  refine reg_f ?_
  refine rs 1 [] [] (by kernel_rfl) allP_nil ?_
  obtain ⟨r1469, hr1469, h⟩ := bind_sx h
  refine run_call 10 [.agg (Enc.cells d)] (some 7) (by kernel_rfl) ?_
  refine call_0 (taskmillref_DescFault_spec d r1469 hr1469) (by simp only [push_cast, seval]) (by simp only [push_cast, seval]) ?_
  refine back_f ?_
  refine rs 2 [] [] (by kernel_rfl) allP_nil ?_
  refine rf [(1, iS way), (4, .ptr 1 0), (5, .ptr 2 0)] [(0, .row 25 (Enc.cells d)), (1, .row 27 [iS 0, iS 0]), (2, .row 27 (Enc.cells r1469))] 3 (by kernel_rfl) ?_
  refine wk_id ?_
  refine seq_cut (A := Fault) (fun a => ([(4, .ptr 0 0), (5, .ptr 1 0)], [(0, .row 27 [iS 0, iS 0]), (1, .row 27 (Enc.cells a))], 2)) (fun a => (taskmilllaw_wayFault_j1 a) = some r) (fun K1475 hK1475 => ?_) ?_
  · refine seq_cut (A := Unit) (fun _ => ([(4, .ptr 1 0), (5, .ptr 2 0), (18, bS ((r1469.Code == 0) && ((way != 0) && (way != 1))))], [(0, .row 25 (Enc.cells d)), (1, .row 27 [iS 0, iS 0]), (2, .row 27 (Enc.cells r1469))], 3)) (fun _ => True) (fun K1478 hK1478 => ?_) (fun _ _ => ?_)
    · refine reg_f ?_
      refine rs 4 [] [] (by kernel_rfl) allP_nil ?_
      refine run_split 11 (r1469.Code == 0) (.inl (by kernel_rfl)) (fun g1479 => ?_) (fun g1479 => ?_)
      · refine rs 4 [] [] (by kernel_rfl) allP_nil ?_
        refine run_split 15 (way != 0) (.inl (by kernel_rfl)) (fun g1480 => ?_) (fun g1480 => ?_)
        · refine rs 3 [] [] (by kernel_rfl) allP_nil ?_
          refine rf [(4, .ptr 1 0), (5, .ptr 2 0), (18, bS (way != 1))] [(0, .row 25 (Enc.cells d)), (1, .row 27 [iS 0, iS 0]), (2, .row 27 (Enc.cells r1469))] 3 (by kernel_rfl) ?_
          exact hK1478 () _ _ _ trivial (leSt_m [(0, 0), (1, 1), (2, 2)] [] (by first | ((try simp only [g1479, g1480]) <;> simp only [push_cast, seval]; done) | ((try simp only [g1479]); (try simp only [g1480]); simp only [push_cast, seval]; done) | (exfalso; clear h; simp_all; done)) (by first | ((try simp only [g1479, g1480]) <;> simp only [push_cast, seval]; done) | ((try simp only [g1479]); (try simp only [g1480]); simp only [push_cast, seval]; done) | (exfalso; clear h; simp_all; done)) rfl rfl rfl)
        · refine rs 3 [] [] (by kernel_rfl) allP_nil ?_
          refine rf [(4, .ptr 1 0), (5, .ptr 2 0), (18, bS false)] [(0, .row 25 (Enc.cells d)), (1, .row 27 [iS 0, iS 0]), (2, .row 27 (Enc.cells r1469))] 3 (by kernel_rfl) ?_
          exact hK1478 () _ _ _ trivial (leSt_m [(0, 0), (1, 1), (2, 2)] [] (by first | ((try simp only [g1479, g1480]) <;> simp only [push_cast, seval]; done) | ((try simp only [g1479]); (try simp only [g1480]); simp only [push_cast, seval]; done) | (exfalso; clear h; simp_all; done)) (by first | ((try simp only [g1479, g1480]) <;> simp only [push_cast, seval]; done) | ((try simp only [g1479]); (try simp only [g1480]); simp only [push_cast, seval]; done) | (exfalso; clear h; simp_all; done)) rfl rfl rfl)
      · refine rs 7 [] [] (by kernel_rfl) allP_nil ?_
        refine rf [(4, .ptr 1 0), (5, .ptr 2 0), (18, bS false)] [(0, .row 25 (Enc.cells d)), (1, .row 27 [iS 0, iS 0]), (2, .row 27 (Enc.cells r1469))] 3 (by kernel_rfl) ?_
        exact hK1478 () _ _ _ trivial (leSt_m [(0, 0), (1, 1), (2, 2)] [] (by (try simp only [g1479]) <;> simp only [push_cast, seval]) (by (try simp only [g1479]) <;> simp only [push_cast, seval]) rfl rfl rfl)
    · dsimp only
      refine cond_sx h (by kernel_rfl) (fun g1483 h => ?_) (fun g1483 h => ?_)
      · refine reg_f ?_
        obtain ⟨r1482, hr1482, h⟩ := bind_sx h
        refine run_call 12 [iS 4, iS (-1)] (some 19) (by kernel_rfl) ?_
        refine call_0 (taskmillref_F_spec 4 (-1) r1482 hr1482) (by simp only [push_cast, seval]) (by simp only [push_cast, seval]) ?_
        refine back_f ?_
        refine rs 1 [] [] (by kernel_rfl) allP_nil ?_
        refine rf [(4, .ptr 1 0), (5, .ptr 2 0)] [(0, .row 25 (Enc.cells d)), (1, .row 27 [iS 0, iS 0]), (2, .row 27 (Enc.cells r1482))] 3 (by kernel_rfl) ?_
        exact hK1475 (r1482) _ _ _ h (leSt_m [(0, 1), (1, 2)] [] (by simp only [push_cast, seval]) (by simp only [push_cast, seval]) rfl rfl rfl)
      · exact hK1475 (r1469) _ _ _ h (leSt_m [(0, 1), (1, 2)] [] (by simp only [push_cast, seval]) (by simp only [push_cast, seval]) rfl rfl rfl)
  · rintro c1q1 h
    try dsimp only at h ⊢
    unfold taskmilllaw_wayFault_j1 at h
    refine seq_np ?_
    refine reg_f ?_
    refine rs 2 [] [] (by kernel_rfl) allP_nil ?_
    refine rf [(4, .ptr 0 0)] [(0, .row 27 (Enc.cells c1q1)), (1, .row 27 (Enc.cells c1q1))] 2 (by kernel_rfl) ?_
    refine wk_id ?_
    obtain rfl := Option.some.inj h
    refine ret_at (.agg (Enc.cells c1q1)) (by kernel_rfl) ?_
    exact ret_e [] [] (by simp only [push_cast, seval]) (by simp only [push_cast, seval]) rfl rfl rfl

set_option maxRecDepth 100000 in
set_option maxHeartbeats 10000000 in
theorem taskmilllaw_isLate_spec (d : Desc) (way : Int) (now : Int) (r : Bool) (h : taskmilllaw_isLate d way now = some r) : SpecW Try.prog 13 [.agg (Enc.cells d), iS way, iS now] [] 0 (fun x h n => x = bS r ∧ h = [] ∧ n = 0) := by
  unfold taskmilllaw_isLate at h
  refine spec_of (draw_ok _) Try.func13 rfl (by decide) rfl (by kernel_rfl) ?_
  refine seq_np ?_
  refine reg_f ?_
  refine rs 2 [] [] (by kernel_rfl) allP_nil ?_
  refine rf [(1, iS way), (2, iS now), (3, .ptr 0 0)] [(0, .row 25 (Enc.cells d))] 1 (by kernel_rfl) ?_
  refine wk_id ?_
  refine split_s h (fun g1533 h => ?_) (fun g1534 h => ?_)
  · refine seq_cut (A := Unit) (fun _ => ([(6, bS ((d.Until_e0 != 0) && (decide (d.Until_e0 ≤ now))))], [(0, .row 25 (Enc.cells d))], 1)) (fun _ => True) (fun K1536 hK1536 => ?_) (fun _ _ => ?_)
    · refine reg_f ?_
      refine rs 2 [] [] (by kernel_rfl) allP_nil ?_
      refine run_at 7 .i64 way 0 g1533 (by kernel_rfl) ?_
      refine rs 4 [] [] (by kernel_rfl) allP_nil ?_
      refine run_split 12 (d.Until_e0 != 0) (.inl (by kernel_rfl)) (fun g1537 => ?_) (fun g1537 => ?_)
      · refine rs 2 [] [] (by kernel_rfl) allP_nil ?_
        refine run_at_g 13 .i64 way 0 g1533 (by kernel_rfl) ?_
        refine rs 6 [] [] (by kernel_rfl) allP_nil ?_
        refine rf [(6, bS (decide (d.Until_e0 ≤ now)))] [(0, .row 25 (Enc.cells d))] 1 (by kernel_rfl) ?_
        exact hK1536 () _ _ _ trivial (leSt_m [(0, 0)] [] (by (try simp only [g1537]) <;> simp only [push_cast, seval]) (by (try simp only [g1537]) <;> simp only [push_cast, seval]) rfl rfl rfl)
      · refine rs 8 [] [] (by kernel_rfl) allP_nil ?_
        refine rf [(6, bS false)] [(0, .row 25 (Enc.cells d))] 1 (by kernel_rfl) ?_
        exact hK1536 () _ _ _ trivial (leSt_m [(0, 0)] [] (by (try simp only [g1537]) <;> simp only [push_cast, seval]) (by (try simp only [g1537]) <;> simp only [push_cast, seval]) rfl rfl rfl)
    · dsimp only
      obtain rfl := Option.some.inj h
      refine ret_at (bS ((d.Until_e0 != 0) && (decide (d.Until_e0 ≤ now)))) (by kernel_rfl) ?_
      exact ret_e [] [] (by simp only [push_cast, seval]) (by simp only [push_cast, seval]) rfl rfl rfl
  refine split_s h (fun g1538 h => ?_) (fun g1539 h => ?_)
  · refine seq_cut (A := Unit) (fun _ => ([(6, bS ((d.Until_e1 != 0) && (decide (d.Until_e1 ≤ now))))], [(0, .row 25 (Enc.cells d))], 1)) (fun _ => True) (fun K1541 hK1541 => ?_) (fun _ _ => ?_)
    · refine reg_f ?_
      refine rs 2 [] [] (by kernel_rfl) allP_nil ?_
      refine run_at 7 .i64 way 1 g1538 (by kernel_rfl) ?_
      refine rs 4 [] [] (by kernel_rfl) allP_nil ?_
      refine run_split 12 (d.Until_e1 != 0) (.inl (by kernel_rfl)) (fun g1542 => ?_) (fun g1542 => ?_)
      · refine rs 2 [] [] (by kernel_rfl) allP_nil ?_
        refine run_at_g 13 .i64 way 1 g1538 (by kernel_rfl) ?_
        refine rs 6 [] [] (by kernel_rfl) allP_nil ?_
        refine rf [(6, bS (decide (d.Until_e1 ≤ now)))] [(0, .row 25 (Enc.cells d))] 1 (by kernel_rfl) ?_
        exact hK1541 () _ _ _ trivial (leSt_m [(0, 0)] [] (by (try simp only [g1542]) <;> simp only [push_cast, seval]) (by (try simp only [g1542]) <;> simp only [push_cast, seval]) rfl rfl rfl)
      · refine rs 8 [] [] (by kernel_rfl) allP_nil ?_
        refine rf [(6, bS false)] [(0, .row 25 (Enc.cells d))] 1 (by kernel_rfl) ?_
        exact hK1541 () _ _ _ trivial (leSt_m [(0, 0)] [] (by (try simp only [g1542]) <;> simp only [push_cast, seval]) (by (try simp only [g1542]) <;> simp only [push_cast, seval]) rfl rfl rfl)
    · dsimp only
      obtain rfl := Option.some.inj h
      refine ret_at (bS ((d.Until_e1 != 0) && (decide (d.Until_e1 ≤ now)))) (by kernel_rfl) ?_
      exact ret_e [] [] (by simp only [push_cast, seval]) (by simp only [push_cast, seval]) rfl rfl rfl
  refine chk_sx h (fun g1546 h => ?_)
  refine seq_np ?_
  refine reg_f ?_
  have k1545 : 0 ≤ way ∧ way < 2 := by first | simpa only [Bool.and_eq_true, decide_eq_true_eq, bne_iff_ne, ne_eq] using g1546 | (simp at g1546 ⊢; omega)
  exfalso
  omega

set_option maxRecDepth 100000 in
set_option maxHeartbeats 10000000 in
theorem taskmilllaw_PollWaits_spec (d : Desc) (way : Int) (task : Int) (now : Int) (r : Bool) (h : taskmilllaw_PollWaits d way task now = some r) : SpecW Try.prog 3 [.agg (Enc.cells d), iS way, iS task, iS now] [] 0 (fun x h n => x = bS r ∧ h = [] ∧ n = 0) := by
  unfold taskmilllaw_PollWaits at h
  refine spec_of (draw_ok _) Try.func3 rfl (by decide) rfl (by kernel_rfl) ?_
  refine seq_np ?_
  refine reg_f ?_
  refine rs 2 [] [] (by kernel_rfl) allP_nil ?_
  refine rf [(1, iS way), (2, iS task), (3, iS now), (4, .ptr 0 0)] [(0, .row 25 (Enc.cells d))] 1 (by kernel_rfl) ?_
  refine wk_id ?_
  refine seq_np ?_
  refine reg_f ?_
  refine rs 1 [] [] (by kernel_rfl) allP_nil ?_
  obtain ⟨r1586, hr1586, h⟩ := bind_sx h
  refine run_call 6 [.agg (Enc.cells d)] (some 21) (by kernel_rfl) ?_
  refine call_0 (poll_Check_spec d r1586 hr1586) (by simp only [push_cast, seval]) (by simp only [push_cast, seval]) ?_
  refine back_f ?_
  refine rs 2 [] [] (by kernel_rfl) allP_nil ?_
  refine rf [(1, iS way), (2, iS task), (3, iS now), (4, .ptr 0 0), (9, .ptr 1 0)] [(0, .row 25 (Enc.cells d)), (1, .row 27 (Enc.cells r1586))] 2 (by kernel_rfl) ?_
  refine wk_id ?_
  refine seq_np ?_
  refine reg_f ?_
  refine rs 4 [] [] (by kernel_rfl) allP_nil ?_
  obtain ⟨r1588, hr1588, h⟩ := bind_sx h
  refine run_call 7 [.agg (Enc.cells d), iS way, iS task, iS now] (some 27) (by kernel_rfl) ?_
  refine call_0 (poll_Wait_spec d way task now r1588 hr1588) (by simp only [push_cast, seval]) (by simp only [push_cast, seval]) ?_
  refine back_f ?_
  refine rs 9 [] [] (by kernel_rfl) allP_nil ?_
  refine rf [(1, iS way), (2, iS task), (3, iS now), (4, .ptr 0 0), (9, .ptr 1 0), (10, .ptr 2 0), (11, iS r1588.2.1), (12, .ptr 3 0)] [(0, .row 25 (Enc.cells d)), (1, .row 27 (Enc.cells r1586)), (2, .row 25 (Enc.cells r1588.1)), (3, .row 27 (Enc.cells r1588.2.2))] 4 (by kernel_rfl) ?_
  refine wk_id ?_
  refine seq_np ?_
  refine reg_f ?_
  refine rs 2 [] [] (by kernel_rfl) allP_nil ?_
  obtain ⟨r1590, hr1590, h⟩ := bind_sx h
  refine run_call 8 [.agg (Enc.cells d), iS way] (some 34) (by kernel_rfl) ?_
  refine call_0 (poll_Fire_spec d way r1590 hr1590) (by simp only [push_cast, seval]) (by simp only [push_cast, seval]) ?_
  refine back_f ?_
  refine rs 9 [] [] (by kernel_rfl) allP_nil ?_
  refine rf [(1, iS way), (2, iS task), (3, iS now), (4, .ptr 0 0), (9, .ptr 1 0), (10, .ptr 2 0), (11, iS r1588.2.1), (12, .ptr 3 0), (13, .ptr 4 0), (14, iS r1590.2.1), (15, .ptr 5 0)] [(0, .row 25 (Enc.cells d)), (1, .row 27 (Enc.cells r1586)), (2, .row 25 (Enc.cells r1588.1)), (3, .row 27 (Enc.cells r1588.2.2)), (4, .row 25 (Enc.cells r1590.1)), (5, .row 27 (Enc.cells r1590.2.2))] 6 (by kernel_rfl) ?_
  refine wk_id ?_
  refine seq_np ?_
  refine seq_cut (A := Int × Int × Bool × Desc × Fault × Desc × Fault) (fun a => ([(1, iS way), (2, iS task), (3, iS now), (4, .ptr 0 0), (10, .ptr 1 0), (11, iS a.1), (12, .ptr 2 0), (13, .ptr 3 0), (14, iS a.2.1), (15, .ptr 4 0), (45, bS a.2.2.1)], [(0, .row 25 (Enc.cells d)), (1, .row 25 (Enc.cells a.2.2.2.1)), (2, .row 27 (Enc.cells a.2.2.2.2.1)), (3, .row 25 (Enc.cells a.2.2.2.2.2.1)), (4, .row 27 (Enc.cells a.2.2.2.2.2.2))], 5)) (fun a => (taskmilllaw_PollWaits_j6 d way task now a.1 a.2.1 a.2.2.1 a.2.2.2.1 a.2.2.2.2.1 a.2.2.2.2.2.1 a.2.2.2.2.2.2) = some r) (fun K1601 hK1601 => ?_) ?_
  · refine reg_t ?_
    obtain ⟨r1602, hr1602, h⟩ := bind_sx h
    refine run_call 9 [] (some 38) (by kernel_rfl) ?_
    refine callE_0 (taskmilllaw_pollBegun_spec r1602 hr1602) (by simp only [push_cast, seval]) (by simp only [push_cast, seval]) ?_
    refine back_t ?_
    refine rs 2 [] [] (by kernel_rfl) allP_nil ?_
    refine run_br h 40 (.inl (by kernel_rfl)) (fun g1603 h => ?_) (fun g1603 h => ?_)
    · refine rs 5 [] [] (by kernel_rfl) allP_nil ?_
      refine rt [(1, iS way), (2, iS task), (3, iS now), (4, .ptr 0 0), (10, .ptr 2 0), (11, iS r1588.2.1), (12, .ptr 3 0), (13, .ptr 4 0), (14, iS r1590.2.1), (15, .ptr 5 0), (45, bS true)] [(0, .row 25 (Enc.cells d)), (1, .row 27 (Enc.cells r1586)), (2, .row 25 (Enc.cells r1588.1)), (3, .row 27 (Enc.cells r1588.2.2)), (4, .row 25 (Enc.cells r1590.1)), (5, .row 27 (Enc.cells r1590.2.2))] 14 follows (by kernel_rfl) ?_
      exact hK1601 (r1588.2.1, r1590.2.1, true, r1588.1, r1588.2.2, r1590.1, r1590.2.2) _ _ _ h (leSt_m [(0, 0), (1, 2), (2, 3), (3, 4), (4, 5)] [] (by (try simp only [g1603]) <;> simp only [push_cast, seval]) (by (try simp only [g1603]) <;> simp only [push_cast, seval]) rfl rfl rfl)
    · refine rs 2 [] [] (by kernel_rfl) allP_nil ?_
      obtain ⟨r1604, hr1604, h⟩ := bind_sx h
      refine run_call 10 [.agg (Enc.cells d)] (some 43) (by kernel_rfl) ?_
      refine callE_0 (taskmillref_DescFault_spec d r1604 hr1604) (by simp only [push_cast, seval]) (by simp only [push_cast, seval]) ?_
      refine back_t ?_
      refine rs 2 [] [] (by kernel_rfl) allP_nil ?_
      refine rt [(1, iS way), (2, iS task), (3, iS now), (4, .ptr 0 0), (10, .ptr 2 0), (11, iS r1588.2.1), (12, .ptr 3 0), (13, .ptr 4 0), (14, iS r1590.2.1), (15, .ptr 5 0), (45, bS (!((r1586.Code == r1604.Code) && ((r1586.At == r1604.At) && true))))] [(0, .row 25 (Enc.cells d)), (1, .row 27 (Enc.cells r1586)), (2, .row 25 (Enc.cells r1588.1)), (3, .row 27 (Enc.cells r1588.2.2)), (4, .row 25 (Enc.cells r1590.1)), (5, .row 27 (Enc.cells r1590.2.2))] 14 follows (by kernel_rfl) ?_
      exact hK1601 (r1588.2.1, r1590.2.1, (!((r1586.Code == r1604.Code) && ((r1586.At == r1604.At) && true))), r1588.1, r1588.2.2, r1590.1, r1590.2.2) _ _ _ h (leSt_m [(0, 0), (1, 2), (2, 3), (3, 4), (4, 5)] [] (by (try simp only [g1603]) <;> simp only [push_cast, seval]) (by (try simp only [g1603]) <;> simp only [push_cast, seval]) rfl rfl rfl)
  · rintro ⟨k2, t2, t45q2, c1q2, c2q3, c3q2, c4q2⟩ h
    try dsimp only at h ⊢
    unfold taskmilllaw_PollWaits_j6 at h
    refine cond_sx h (by kernel_rfl) (fun g1783 h => ?_) (fun g1783 h => ?_)
    · refine seq_np ?_
      refine reg_f ?_
      refine rs 1 [] [] (by kernel_rfl) allP_nil ?_
      refine rf [(8, bS false)] [(0, .row 25 (Enc.cells d)), (1, .row 25 (Enc.cells c1q2)), (2, .row 27 (Enc.cells c2q3)), (3, .row 25 (Enc.cells c3q2)), (4, .row 27 (Enc.cells c4q2))] 5 (by kernel_rfl) ?_
      refine wk_id ?_
      obtain rfl := Option.some.inj h
      refine ret_at (bS false) (by kernel_rfl) ?_
      exact ret_e [] [] (by simp only [push_cast, seval]) (by simp only [push_cast, seval]) rfl rfl rfl
    · refine wk_id ?_
      refine seq_np ?_
      refine reg_f ?_
      refine rs 2 [] [] (by kernel_rfl) allP_nil ?_
      obtain ⟨r1606, hr1606, h⟩ := bind_sx h
      refine run_call 11 [.agg (Enc.cells d), iS way] (some 48) (by kernel_rfl) ?_
      refine call_0 (taskmilllaw_wayFault_spec d way r1606 hr1606) (by simp only [push_cast, seval]) (by simp only [push_cast, seval]) ?_
      refine back_f ?_
      refine rs 2 [] [] (by kernel_rfl) allP_nil ?_
      refine rf [(1, iS way), (2, iS task), (3, iS now), (4, .ptr 0 0), (10, .ptr 1 0), (11, iS k2), (12, .ptr 2 0), (13, .ptr 3 0), (14, iS t2), (15, .ptr 4 0), (16, .ptr 5 0)] [(0, .row 25 (Enc.cells d)), (1, .row 25 (Enc.cells c1q2)), (2, .row 27 (Enc.cells c2q3)), (3, .row 25 (Enc.cells c3q2)), (4, .row 27 (Enc.cells c4q2)), (5, .row 27 (Enc.cells r1606))] 6 (by kernel_rfl) ?_
      refine wk_id ?_
      refine seq_np ?_
      refine reg_f ?_
      refine rs 3 [] [] (by kernel_rfl) allP_nil ?_
      refine rf [(1, iS way), (2, iS task), (3, iS now), (4, .ptr 0 0), (10, .ptr 1 0), (11, iS k2), (12, .ptr 2 0), (13, .ptr 3 0), (14, iS t2), (15, .ptr 4 0), (16, .ptr 5 0), (17, .ptr 6 0)] [(0, .row 25 (Enc.cells d)), (1, .row 25 (Enc.cells c1q2)), (2, .row 27 (Enc.cells c2q3)), (3, .row 25 (Enc.cells c3q2)), (4, .row 27 (Enc.cells c4q2)), (5, .row 27 (Enc.cells r1606)), (6, .row 27 (Enc.cells r1606))] 7 (by kernel_rfl) ?_
      refine wk_id ?_
      refine seq_cut (A := Fault × Fault) (fun a => ([(1, iS way), (2, iS task), (3, iS now), (4, .ptr 0 0), (10, .ptr 1 0), (11, iS k2), (12, .ptr 2 0), (13, .ptr 3 0), (14, iS t2), (15, .ptr 4 0), (16, .ptr 5 0), (17, .ptr 6 0)], [(0, .row 25 (Enc.cells d)), (1, .row 25 (Enc.cells c1q2)), (2, .row 27 (Enc.cells c2q3)), (3, .row 25 (Enc.cells c3q2)), (4, .row 27 (Enc.cells c4q2)), (5, .row 27 (Enc.cells a.1)), (6, .row 27 (Enc.cells a.2))], 7)) (fun a => (taskmilllaw_PollWaits_j5 d way task now k2 t2 c1q2 c2q3 c3q2 c4q2 a.1 a.2) = some r) (fun K1613 hK1613 => ?_) ?_
      · refine seq_cut (A := Unit) (fun _ => ([(1, iS way), (2, iS task), (3, iS now), (4, .ptr 0 0), (10, .ptr 1 0), (11, iS k2), (12, .ptr 2 0), (13, .ptr 3 0), (14, iS t2), (15, .ptr 4 0), (16, .ptr 5 0), (17, .ptr 6 0), (64, bS ((r1606.Code == 0) && ((decide (task < 1)) || ((decide (now < 0)) || (decide ((1000000000 : Int) < now))))))], [(0, .row 25 (Enc.cells d)), (1, .row 25 (Enc.cells c1q2)), (2, .row 27 (Enc.cells c2q3)), (3, .row 25 (Enc.cells c3q2)), (4, .row 27 (Enc.cells c4q2)), (5, .row 27 (Enc.cells r1606)), (6, .row 27 (Enc.cells r1606))], 7)) (fun _ => True) (fun K1617 hK1617 => ?_) (fun _ _ => ?_)
        · refine reg_f ?_
          refine rs 4 [] [] (by kernel_rfl) allP_nil ?_
          refine run_split 53 (r1606.Code == 0) (.inl (by kernel_rfl)) (fun g1618 => ?_) (fun g1618 => ?_)
          · refine rs 3 [] [] (by kernel_rfl) allP_nil ?_
            refine run_split 56 (decide (task < 1)) (.inr (by kernel_rfl)) (fun g1619 => ?_) (fun g1619 => ?_)
            · refine rs 8 [] [] (by kernel_rfl) allP_nil ?_
              refine rf [(1, iS way), (2, iS task), (3, iS now), (4, .ptr 0 0), (10, .ptr 1 0), (11, iS k2), (12, .ptr 2 0), (13, .ptr 3 0), (14, iS t2), (15, .ptr 4 0), (16, .ptr 5 0), (17, .ptr 6 0), (64, bS true)] [(0, .row 25 (Enc.cells d)), (1, .row 25 (Enc.cells c1q2)), (2, .row 27 (Enc.cells c2q3)), (3, .row 25 (Enc.cells c3q2)), (4, .row 27 (Enc.cells c4q2)), (5, .row 27 (Enc.cells r1606)), (6, .row 27 (Enc.cells r1606))] 7 (by kernel_rfl) ?_
              exact hK1617 () _ _ _ trivial (leSt_m [(0, 0), (1, 1), (2, 2), (3, 3), (4, 4), (5, 5), (6, 6)] [] (by first | ((try simp only [g1618, g1619]) <;> simp only [push_cast, seval]; done) | ((try simp only [g1618]); (try simp only [g1619]); simp only [push_cast, seval]; done) | (exfalso; clear h; simp_all; done)) (by first | ((try simp only [g1618, g1619]) <;> simp only [push_cast, seval]; done) | ((try simp only [g1618]); (try simp only [g1619]); simp only [push_cast, seval]; done) | (exfalso; clear h; simp_all; done)) rfl rfl rfl)
            · refine rs 4 [] [] (by kernel_rfl) allP_nil ?_
              refine run_split 60 (decide (now < 0)) (.inr (by kernel_rfl)) (fun g1620 => ?_) (fun g1620 => ?_)
              · refine rn 11 [(1, iS way), (2, iS task), (3, iS now), (4, .ptr 0 0), (10, .ptr 1 0), (11, iS k2), (12, .ptr 2 0), (13, .ptr 3 0), (14, iS t2), (15, .ptr 4 0), (16, .ptr 5 0), (17, .ptr 6 0), (53, bS true), (60, .gd true (bS true))] [(0, .row 25 (Enc.cells d)), (1, .row 25 (Enc.cells c1q2)), (2, .row 27 (Enc.cells c2q3)), (3, .row 25 (Enc.cells c3q2)), (4, .row 27 (Enc.cells c4q2)), (5, .row 27 (Enc.cells r1606)), (6, .row 27 (Enc.cells r1606))] 7 (by kernel_rfl) ?_
                refine rs 4 [] [] (by kernel_rfl) allP_nil ?_
                refine rf [(1, iS way), (2, iS task), (3, iS now), (4, .ptr 0 0), (10, .ptr 1 0), (11, iS k2), (12, .ptr 2 0), (13, .ptr 3 0), (14, iS t2), (15, .ptr 4 0), (16, .ptr 5 0), (17, .ptr 6 0), (64, bS true)] [(0, .row 25 (Enc.cells d)), (1, .row 25 (Enc.cells c1q2)), (2, .row 27 (Enc.cells c2q3)), (3, .row 25 (Enc.cells c3q2)), (4, .row 27 (Enc.cells c4q2)), (5, .row 27 (Enc.cells r1606)), (6, .row 27 (Enc.cells r1606))] 7 (by kernel_rfl) ?_
                exact hK1617 () _ _ _ trivial (leSt_m [(0, 0), (1, 1), (2, 2), (3, 3), (4, 4), (5, 5), (6, 6)] [] (by first | ((try simp only [g1618, g1619, g1620]) <;> simp only [push_cast, seval]; done) | ((try simp only [g1618]); (try simp only [g1619]); (try simp only [g1620]); simp only [push_cast, seval]; done) | (exfalso; clear h; simp_all; done)) (by first | ((try simp only [g1618, g1619, g1620]) <;> simp only [push_cast, seval]; done) | ((try simp only [g1618]); (try simp only [g1619]); (try simp only [g1620]); simp only [push_cast, seval]; done) | (exfalso; clear h; simp_all; done)) rfl rfl rfl)
              · refine rn 11 [(1, iS way), (2, iS task), (3, iS now), (4, .ptr 0 0), (10, .ptr 1 0), (11, iS k2), (12, .ptr 2 0), (13, .ptr 3 0), (14, iS t2), (15, .ptr 4 0), (16, .ptr 5 0), (17, .ptr 6 0), (53, bS true), (60, .gd true (bS false))] [(0, .row 25 (Enc.cells d)), (1, .row 25 (Enc.cells c1q2)), (2, .row 27 (Enc.cells c2q3)), (3, .row 25 (Enc.cells c3q2)), (4, .row 27 (Enc.cells c4q2)), (5, .row 27 (Enc.cells r1606)), (6, .row 27 (Enc.cells r1606))] 7 (by kernel_rfl) ?_
                refine rs 4 [] [] (by kernel_rfl) allP_nil ?_
                refine rf [(1, iS way), (2, iS task), (3, iS now), (4, .ptr 0 0), (10, .ptr 1 0), (11, iS k2), (12, .ptr 2 0), (13, .ptr 3 0), (14, iS t2), (15, .ptr 4 0), (16, .ptr 5 0), (17, .ptr 6 0), (64, bS (decide ((1000000000 : Int) < now)))] [(0, .row 25 (Enc.cells d)), (1, .row 25 (Enc.cells c1q2)), (2, .row 27 (Enc.cells c2q3)), (3, .row 25 (Enc.cells c3q2)), (4, .row 27 (Enc.cells c4q2)), (5, .row 27 (Enc.cells r1606)), (6, .row 27 (Enc.cells r1606))] 7 (by kernel_rfl) ?_
                exact hK1617 () _ _ _ trivial (leSt_m [(0, 0), (1, 1), (2, 2), (3, 3), (4, 4), (5, 5), (6, 6)] [] (by first | ((try simp only [g1618, g1619, g1620]) <;> simp only [push_cast, seval]; done) | ((try simp only [g1618]); (try simp only [g1619]); (try simp only [g1620]); simp only [push_cast, seval]; done) | (exfalso; clear h; simp_all; done)) (by first | ((try simp only [g1618, g1619, g1620]) <;> simp only [push_cast, seval]; done) | ((try simp only [g1618]); (try simp only [g1619]); (try simp only [g1620]); simp only [push_cast, seval]; done) | (exfalso; clear h; simp_all; done)) rfl rfl rfl)
          · refine rs 11 [] [] (by kernel_rfl) allP_nil ?_
            refine rf [(1, iS way), (2, iS task), (3, iS now), (4, .ptr 0 0), (10, .ptr 1 0), (11, iS k2), (12, .ptr 2 0), (13, .ptr 3 0), (14, iS t2), (15, .ptr 4 0), (16, .ptr 5 0), (17, .ptr 6 0), (64, bS false)] [(0, .row 25 (Enc.cells d)), (1, .row 25 (Enc.cells c1q2)), (2, .row 27 (Enc.cells c2q3)), (3, .row 25 (Enc.cells c3q2)), (4, .row 27 (Enc.cells c4q2)), (5, .row 27 (Enc.cells r1606)), (6, .row 27 (Enc.cells r1606))] 7 (by kernel_rfl) ?_
            exact hK1617 () _ _ _ trivial (leSt_m [(0, 0), (1, 1), (2, 2), (3, 3), (4, 4), (5, 5), (6, 6)] [] (by (try simp only [g1618]) <;> simp only [push_cast, seval]) (by (try simp only [g1618]) <;> simp only [push_cast, seval]) rfl rfl rfl)
        · dsimp only
          refine cond_sx h (by kernel_rfl) (fun g1623 h => ?_) (fun g1623 h => ?_)
          · refine reg_f ?_
            obtain ⟨r1622, hr1622, h⟩ := bind_sx h
            refine run_call 12 [iS 3, iS (-1)] (some 65) (by kernel_rfl) ?_
            refine call_0 (taskmillref_F_spec 3 (-1) r1622 hr1622) (by simp only [push_cast, seval]) (by simp only [push_cast, seval]) ?_
            refine back_f ?_
            refine rs 1 [] [] (by kernel_rfl) allP_nil ?_
            refine rf [(1, iS way), (2, iS task), (3, iS now), (4, .ptr 0 0), (10, .ptr 1 0), (11, iS k2), (12, .ptr 2 0), (13, .ptr 3 0), (14, iS t2), (15, .ptr 4 0), (16, .ptr 5 0), (17, .ptr 6 0)] [(0, .row 25 (Enc.cells d)), (1, .row 25 (Enc.cells c1q2)), (2, .row 27 (Enc.cells c2q3)), (3, .row 25 (Enc.cells c3q2)), (4, .row 27 (Enc.cells c4q2)), (5, .row 27 (Enc.cells r1606)), (6, .row 27 (Enc.cells r1622))] 7 (by kernel_rfl) ?_
            exact hK1613 (r1606, r1622) _ _ _ h (leSt_m [(0, 0), (1, 1), (2, 2), (3, 3), (4, 4), (5, 5), (6, 6)] [] (by simp only [push_cast, seval]) (by simp only [push_cast, seval]) rfl rfl rfl)
          · exact hK1613 (r1606, r1606) _ _ _ h (leSt_m [(0, 0), (1, 1), (2, 2), (3, 3), (4, 4), (5, 5), (6, 6)] [] (by simp only [push_cast, seval]) (by simp only [push_cast, seval]) rfl rfl rfl)
      · rintro ⟨c5q2, c6q3⟩ h
        try dsimp only at h ⊢
        unfold taskmilllaw_PollWaits_j5 at h
        refine seq_cut (A := Fault) (fun a => ([(1, iS way), (2, iS task), (3, iS now), (4, .ptr 0 0), (10, .ptr 1 0), (11, iS k2), (12, .ptr 2 0), (13, .ptr 3 0), (14, iS t2), (15, .ptr 4 0), (16, .ptr 5 0), (17, .ptr 6 0)], [(0, .row 25 (Enc.cells d)), (1, .row 25 (Enc.cells c1q2)), (2, .row 27 (Enc.cells c2q3)), (3, .row 25 (Enc.cells c3q2)), (4, .row 27 (Enc.cells c4q2)), (5, .row 27 (Enc.cells c5q2)), (6, .row 27 (Enc.cells a))], 7)) (fun a => (taskmilllaw_PollWaits_j4 d way task now k2 t2 c1q2 c2q3 c3q2 c4q2 c5q2 a) = some r) (fun K1639 hK1639 => ?_) ?_
        · refine split_s h (fun g1641 h => ?_) (fun g1642 h => ?_)
          · refine seq_cut (A := Unit) (fun _ => ([(1, iS way), (2, iS task), (3, iS now), (4, .ptr 0 0), (10, .ptr 1 0), (11, iS k2), (12, .ptr 2 0), (13, .ptr 3 0), (14, iS t2), (15, .ptr 4 0), (16, .ptr 5 0), (17, .ptr 6 0), (75, bS ((c6q3.Code == 0) && (d.Task_e0 != 0)))], [(0, .row 25 (Enc.cells d)), (1, .row 25 (Enc.cells c1q2)), (2, .row 27 (Enc.cells c2q3)), (3, .row 25 (Enc.cells c3q2)), (4, .row 27 (Enc.cells c4q2)), (5, .row 27 (Enc.cells c5q2)), (6, .row 27 (Enc.cells c6q3))], 7)) (fun _ => True) (fun K1644 hK1644 => ?_) (fun _ _ => ?_)
            · refine reg_f ?_
              refine rs 4 [] [] (by kernel_rfl) allP_nil ?_
              refine run_split 69 (c6q3.Code == 0) (.inl (by kernel_rfl)) (fun g1645 => ?_) (fun g1645 => ?_)
              · refine rs 2 [] [] (by kernel_rfl) allP_nil ?_
                refine run_at_g 70 .i64 way 0 g1641 (by kernel_rfl) ?_
                refine rs 4 [] [] (by kernel_rfl) allP_nil ?_
                refine rf [(1, iS way), (2, iS task), (3, iS now), (4, .ptr 0 0), (10, .ptr 1 0), (11, iS k2), (12, .ptr 2 0), (13, .ptr 3 0), (14, iS t2), (15, .ptr 4 0), (16, .ptr 5 0), (17, .ptr 6 0), (75, bS (d.Task_e0 != 0))] [(0, .row 25 (Enc.cells d)), (1, .row 25 (Enc.cells c1q2)), (2, .row 27 (Enc.cells c2q3)), (3, .row 25 (Enc.cells c3q2)), (4, .row 27 (Enc.cells c4q2)), (5, .row 27 (Enc.cells c5q2)), (6, .row 27 (Enc.cells c6q3))] 7 (by kernel_rfl) ?_
                exact hK1644 () _ _ _ trivial (leSt_m [(0, 0), (1, 1), (2, 2), (3, 3), (4, 4), (5, 5), (6, 6)] [] (by (try simp only [g1645]) <;> simp only [push_cast, seval]) (by (try simp only [g1645]) <;> simp only [push_cast, seval]) rfl rfl rfl)
              · refine rs 6 [] [] (by kernel_rfl) allP_nil ?_
                refine rf [(1, iS way), (2, iS task), (3, iS now), (4, .ptr 0 0), (10, .ptr 1 0), (11, iS k2), (12, .ptr 2 0), (13, .ptr 3 0), (14, iS t2), (15, .ptr 4 0), (16, .ptr 5 0), (17, .ptr 6 0), (75, bS false)] [(0, .row 25 (Enc.cells d)), (1, .row 25 (Enc.cells c1q2)), (2, .row 27 (Enc.cells c2q3)), (3, .row 25 (Enc.cells c3q2)), (4, .row 27 (Enc.cells c4q2)), (5, .row 27 (Enc.cells c5q2)), (6, .row 27 (Enc.cells c6q3))] 7 (by kernel_rfl) ?_
                exact hK1644 () _ _ _ trivial (leSt_m [(0, 0), (1, 1), (2, 2), (3, 3), (4, 4), (5, 5), (6, 6)] [] (by (try simp only [g1645]) <;> simp only [push_cast, seval]) (by (try simp only [g1645]) <;> simp only [push_cast, seval]) rfl rfl rfl)
            · dsimp only
              refine cond_sx h (by kernel_rfl) (fun g1648 h => ?_) (fun g1648 h => ?_)
              · refine reg_f ?_
                obtain ⟨r1647, hr1647, h⟩ := bind_sx h
                refine run_call 12 [iS 11, iS (-1)] (some 76) (by kernel_rfl) ?_
                refine call_0 (taskmillref_F_spec 11 (-1) r1647 hr1647) (by simp only [push_cast, seval]) (by simp only [push_cast, seval]) ?_
                refine back_f ?_
                refine rs 1 [] [] (by kernel_rfl) allP_nil ?_
                refine rf [(1, iS way), (2, iS task), (3, iS now), (4, .ptr 0 0), (10, .ptr 1 0), (11, iS k2), (12, .ptr 2 0), (13, .ptr 3 0), (14, iS t2), (15, .ptr 4 0), (16, .ptr 5 0), (17, .ptr 6 0)] [(0, .row 25 (Enc.cells d)), (1, .row 25 (Enc.cells c1q2)), (2, .row 27 (Enc.cells c2q3)), (3, .row 25 (Enc.cells c3q2)), (4, .row 27 (Enc.cells c4q2)), (5, .row 27 (Enc.cells c5q2)), (6, .row 27 (Enc.cells r1647))] 7 (by kernel_rfl) ?_
                exact hK1639 (r1647) _ _ _ h (leSt_m [(0, 0), (1, 1), (2, 2), (3, 3), (4, 4), (5, 5), (6, 6)] [] (by simp only [push_cast, seval]) (by simp only [push_cast, seval]) rfl rfl rfl)
              · exact hK1639 (c6q3) _ _ _ h (leSt_m [(0, 0), (1, 1), (2, 2), (3, 3), (4, 4), (5, 5), (6, 6)] [] (by simp only [push_cast, seval]) (by simp only [push_cast, seval]) rfl rfl rfl)
          refine split_s h (fun g1649 h => ?_) (fun g1650 h => ?_)
          · refine seq_cut (A := Unit) (fun _ => ([(1, iS way), (2, iS task), (3, iS now), (4, .ptr 0 0), (10, .ptr 1 0), (11, iS k2), (12, .ptr 2 0), (13, .ptr 3 0), (14, iS t2), (15, .ptr 4 0), (16, .ptr 5 0), (17, .ptr 6 0), (75, bS ((c6q3.Code == 0) && (d.Task_e1 != 0)))], [(0, .row 25 (Enc.cells d)), (1, .row 25 (Enc.cells c1q2)), (2, .row 27 (Enc.cells c2q3)), (3, .row 25 (Enc.cells c3q2)), (4, .row 27 (Enc.cells c4q2)), (5, .row 27 (Enc.cells c5q2)), (6, .row 27 (Enc.cells c6q3))], 7)) (fun _ => True) (fun K1652 hK1652 => ?_) (fun _ _ => ?_)
            · refine reg_f ?_
              refine rs 4 [] [] (by kernel_rfl) allP_nil ?_
              refine run_split 69 (c6q3.Code == 0) (.inl (by kernel_rfl)) (fun g1653 => ?_) (fun g1653 => ?_)
              · refine rs 2 [] [] (by kernel_rfl) allP_nil ?_
                refine run_at_g 70 .i64 way 1 g1649 (by kernel_rfl) ?_
                refine rs 4 [] [] (by kernel_rfl) allP_nil ?_
                refine rf [(1, iS way), (2, iS task), (3, iS now), (4, .ptr 0 0), (10, .ptr 1 0), (11, iS k2), (12, .ptr 2 0), (13, .ptr 3 0), (14, iS t2), (15, .ptr 4 0), (16, .ptr 5 0), (17, .ptr 6 0), (75, bS (d.Task_e1 != 0))] [(0, .row 25 (Enc.cells d)), (1, .row 25 (Enc.cells c1q2)), (2, .row 27 (Enc.cells c2q3)), (3, .row 25 (Enc.cells c3q2)), (4, .row 27 (Enc.cells c4q2)), (5, .row 27 (Enc.cells c5q2)), (6, .row 27 (Enc.cells c6q3))] 7 (by kernel_rfl) ?_
                exact hK1652 () _ _ _ trivial (leSt_m [(0, 0), (1, 1), (2, 2), (3, 3), (4, 4), (5, 5), (6, 6)] [] (by (try simp only [g1653]) <;> simp only [push_cast, seval]) (by (try simp only [g1653]) <;> simp only [push_cast, seval]) rfl rfl rfl)
              · refine rs 6 [] [] (by kernel_rfl) allP_nil ?_
                refine rf [(1, iS way), (2, iS task), (3, iS now), (4, .ptr 0 0), (10, .ptr 1 0), (11, iS k2), (12, .ptr 2 0), (13, .ptr 3 0), (14, iS t2), (15, .ptr 4 0), (16, .ptr 5 0), (17, .ptr 6 0), (75, bS false)] [(0, .row 25 (Enc.cells d)), (1, .row 25 (Enc.cells c1q2)), (2, .row 27 (Enc.cells c2q3)), (3, .row 25 (Enc.cells c3q2)), (4, .row 27 (Enc.cells c4q2)), (5, .row 27 (Enc.cells c5q2)), (6, .row 27 (Enc.cells c6q3))] 7 (by kernel_rfl) ?_
                exact hK1652 () _ _ _ trivial (leSt_m [(0, 0), (1, 1), (2, 2), (3, 3), (4, 4), (5, 5), (6, 6)] [] (by (try simp only [g1653]) <;> simp only [push_cast, seval]) (by (try simp only [g1653]) <;> simp only [push_cast, seval]) rfl rfl rfl)
            · dsimp only
              refine cond_sx h (by kernel_rfl) (fun g1656 h => ?_) (fun g1656 h => ?_)
              · refine reg_f ?_
                obtain ⟨r1655, hr1655, h⟩ := bind_sx h
                refine run_call 12 [iS 11, iS (-1)] (some 76) (by kernel_rfl) ?_
                refine call_0 (taskmillref_F_spec 11 (-1) r1655 hr1655) (by simp only [push_cast, seval]) (by simp only [push_cast, seval]) ?_
                refine back_f ?_
                refine rs 1 [] [] (by kernel_rfl) allP_nil ?_
                refine rf [(1, iS way), (2, iS task), (3, iS now), (4, .ptr 0 0), (10, .ptr 1 0), (11, iS k2), (12, .ptr 2 0), (13, .ptr 3 0), (14, iS t2), (15, .ptr 4 0), (16, .ptr 5 0), (17, .ptr 6 0)] [(0, .row 25 (Enc.cells d)), (1, .row 25 (Enc.cells c1q2)), (2, .row 27 (Enc.cells c2q3)), (3, .row 25 (Enc.cells c3q2)), (4, .row 27 (Enc.cells c4q2)), (5, .row 27 (Enc.cells c5q2)), (6, .row 27 (Enc.cells r1655))] 7 (by kernel_rfl) ?_
                exact hK1639 (r1655) _ _ _ h (leSt_m [(0, 0), (1, 1), (2, 2), (3, 3), (4, 4), (5, 5), (6, 6)] [] (by simp only [push_cast, seval]) (by simp only [push_cast, seval]) rfl rfl rfl)
              · exact hK1639 (c6q3) _ _ _ h (leSt_m [(0, 0), (1, 1), (2, 2), (3, 3), (4, 4), (5, 5), (6, 6)] [] (by simp only [push_cast, seval]) (by simp only [push_cast, seval]) rfl rfl rfl)
          refine seq_np ?_
          refine reg_f ?_
          refine rs 4 [] [] (by kernel_rfl) allP_nil ?_
          refine run_br h 69 (.inl (by kernel_rfl)) (fun g1660 h => ?_) (fun g1660 h => ?_)
          · refine chk_sx h (fun g1662 h => ?_)
            have k1661 : 0 ≤ way ∧ way < 2 := by first | simpa only [Bool.and_eq_true, decide_eq_true_eq, bne_iff_ne, ne_eq] using g1662 | (simp at g1662 ⊢; omega)
            exfalso
            omega
          · refine rs 6 [] [] (by kernel_rfl) allP_nil ?_
            refine rf [(1, iS way), (2, iS task), (3, iS now), (4, .ptr 0 0), (10, .ptr 1 0), (11, iS k2), (12, .ptr 2 0), (13, .ptr 3 0), (14, iS t2), (15, .ptr 4 0), (16, .ptr 5 0), (17, .ptr 6 0), (75, bS false)] [(0, .row 25 (Enc.cells d)), (1, .row 25 (Enc.cells c1q2)), (2, .row 27 (Enc.cells c2q3)), (3, .row 25 (Enc.cells c3q2)), (4, .row 27 (Enc.cells c4q2)), (5, .row 27 (Enc.cells c5q2)), (6, .row 27 (Enc.cells c6q3))] 7 (by kernel_rfl) ?_
            refine wk_id ?_
            refine cond_f (by kernel_rfl) ?_
            exact hK1639 (c6q3) _ _ _ h (leSt_m [(0, 0), (1, 1), (2, 2), (3, 3), (4, 4), (5, 5), (6, 6)] [] (by (try simp only [g1660]) <;> simp only [push_cast, seval]) (by (try simp only [g1660]) <;> simp only [push_cast, seval]) rfl rfl rfl)
        · rintro c6q4 h
          try dsimp only at h ⊢
          unfold taskmilllaw_PollWaits_j4 at h
          refine seq_cut (A := Fault) (fun a => ([(1, iS way), (2, iS task), (3, iS now), (4, .ptr 0 0), (10, .ptr 1 0), (11, iS k2), (12, .ptr 2 0), (13, .ptr 3 0), (14, iS t2), (15, .ptr 4 0), (16, .ptr 5 0), (17, .ptr 6 0)], [(0, .row 25 (Enc.cells d)), (1, .row 25 (Enc.cells c1q2)), (2, .row 27 (Enc.cells c2q3)), (3, .row 25 (Enc.cells c3q2)), (4, .row 27 (Enc.cells c4q2)), (5, .row 27 (Enc.cells c5q2)), (6, .row 27 (Enc.cells a))], 7)) (fun a => (taskmilllaw_PollWaits_j3 d way task now k2 t2 c1q2 c2q3 c3q2 c4q2 c5q2 a) = some r) (fun K1678 hK1678 => ?_) ?_
          · refine split_s h (fun g1680 h => ?_) (fun g1681 h => ?_)
            · refine seq_cut (A := Unit) (fun _ => ([(1, iS way), (2, iS task), (3, iS now), (4, .ptr 0 0), (10, .ptr 1 0), (11, iS k2), (12, .ptr 2 0), (13, .ptr 3 0), (14, iS t2), (15, .ptr 4 0), (16, .ptr 5 0), (17, .ptr 6 0), (88, bS ((c6q4.Code == 0) && (d.Task_e0 == task)))], [(0, .row 25 (Enc.cells d)), (1, .row 25 (Enc.cells c1q2)), (2, .row 27 (Enc.cells c2q3)), (3, .row 25 (Enc.cells c3q2)), (4, .row 27 (Enc.cells c4q2)), (5, .row 27 (Enc.cells c5q2)), (6, .row 27 (Enc.cells c6q4))], 7)) (fun _ => True) (fun K1683 hK1683 => ?_) (fun _ _ => ?_)
              · refine reg_f ?_
                refine rs 4 [] [] (by kernel_rfl) allP_nil ?_
                refine run_split 80 (c6q4.Code == 0) (.inl (by kernel_rfl)) (fun g1684 => ?_) (fun g1684 => ?_)
                · refine rs 3 [] [] (by kernel_rfl) allP_nil ?_
                  refine run_at_g 82 .i64 (IntKind.i64.wrap ((1 : Int) - way)) 0 g1680 (by kernel_rfl) ?_
                  refine rs 5 [] [] (by kernel_rfl) allP_nil ?_
                  refine rf [(1, iS way), (2, iS task), (3, iS now), (4, .ptr 0 0), (10, .ptr 1 0), (11, iS k2), (12, .ptr 2 0), (13, .ptr 3 0), (14, iS t2), (15, .ptr 4 0), (16, .ptr 5 0), (17, .ptr 6 0), (88, bS (d.Task_e0 == task))] [(0, .row 25 (Enc.cells d)), (1, .row 25 (Enc.cells c1q2)), (2, .row 27 (Enc.cells c2q3)), (3, .row 25 (Enc.cells c3q2)), (4, .row 27 (Enc.cells c4q2)), (5, .row 27 (Enc.cells c5q2)), (6, .row 27 (Enc.cells c6q4))] 7 (by kernel_rfl) ?_
                  exact hK1683 () _ _ _ trivial (leSt_m [(0, 0), (1, 1), (2, 2), (3, 3), (4, 4), (5, 5), (6, 6)] [] (by (try simp only [g1684]) <;> simp only [push_cast, seval]) (by (try simp only [g1684]) <;> simp only [push_cast, seval]) rfl rfl rfl)
                · refine rs 8 [] [] (by kernel_rfl) allP_nil ?_
                  refine rf [(1, iS way), (2, iS task), (3, iS now), (4, .ptr 0 0), (10, .ptr 1 0), (11, iS k2), (12, .ptr 2 0), (13, .ptr 3 0), (14, iS t2), (15, .ptr 4 0), (16, .ptr 5 0), (17, .ptr 6 0), (88, bS false)] [(0, .row 25 (Enc.cells d)), (1, .row 25 (Enc.cells c1q2)), (2, .row 27 (Enc.cells c2q3)), (3, .row 25 (Enc.cells c3q2)), (4, .row 27 (Enc.cells c4q2)), (5, .row 27 (Enc.cells c5q2)), (6, .row 27 (Enc.cells c6q4))] 7 (by kernel_rfl) ?_
                  exact hK1683 () _ _ _ trivial (leSt_m [(0, 0), (1, 1), (2, 2), (3, 3), (4, 4), (5, 5), (6, 6)] [] (by (try simp only [g1684]) <;> simp only [push_cast, seval]) (by (try simp only [g1684]) <;> simp only [push_cast, seval]) rfl rfl rfl)
              · dsimp only
                refine cond_sx h (by kernel_rfl) (fun g1687 h => ?_) (fun g1687 h => ?_)
                · refine reg_f ?_
                  obtain ⟨r1686, hr1686, h⟩ := bind_sx h
                  refine run_call 12 [iS 10, iS (-1)] (some 89) (by kernel_rfl) ?_
                  refine call_0 (taskmillref_F_spec 10 (-1) r1686 hr1686) (by simp only [push_cast, seval]) (by simp only [push_cast, seval]) ?_
                  refine back_f ?_
                  refine rs 1 [] [] (by kernel_rfl) allP_nil ?_
                  refine rf [(1, iS way), (2, iS task), (3, iS now), (4, .ptr 0 0), (10, .ptr 1 0), (11, iS k2), (12, .ptr 2 0), (13, .ptr 3 0), (14, iS t2), (15, .ptr 4 0), (16, .ptr 5 0), (17, .ptr 6 0)] [(0, .row 25 (Enc.cells d)), (1, .row 25 (Enc.cells c1q2)), (2, .row 27 (Enc.cells c2q3)), (3, .row 25 (Enc.cells c3q2)), (4, .row 27 (Enc.cells c4q2)), (5, .row 27 (Enc.cells c5q2)), (6, .row 27 (Enc.cells r1686))] 7 (by kernel_rfl) ?_
                  exact hK1678 (r1686) _ _ _ h (leSt_m [(0, 0), (1, 1), (2, 2), (3, 3), (4, 4), (5, 5), (6, 6)] [] (by simp only [push_cast, seval]) (by simp only [push_cast, seval]) rfl rfl rfl)
                · exact hK1678 (c6q4) _ _ _ h (leSt_m [(0, 0), (1, 1), (2, 2), (3, 3), (4, 4), (5, 5), (6, 6)] [] (by simp only [push_cast, seval]) (by simp only [push_cast, seval]) rfl rfl rfl)
            refine split_s h (fun g1688 h => ?_) (fun g1689 h => ?_)
            · refine seq_cut (A := Unit) (fun _ => ([(1, iS way), (2, iS task), (3, iS now), (4, .ptr 0 0), (10, .ptr 1 0), (11, iS k2), (12, .ptr 2 0), (13, .ptr 3 0), (14, iS t2), (15, .ptr 4 0), (16, .ptr 5 0), (17, .ptr 6 0), (88, bS ((c6q4.Code == 0) && (d.Task_e1 == task)))], [(0, .row 25 (Enc.cells d)), (1, .row 25 (Enc.cells c1q2)), (2, .row 27 (Enc.cells c2q3)), (3, .row 25 (Enc.cells c3q2)), (4, .row 27 (Enc.cells c4q2)), (5, .row 27 (Enc.cells c5q2)), (6, .row 27 (Enc.cells c6q4))], 7)) (fun _ => True) (fun K1691 hK1691 => ?_) (fun _ _ => ?_)
              · refine reg_f ?_
                refine rs 4 [] [] (by kernel_rfl) allP_nil ?_
                refine run_split 80 (c6q4.Code == 0) (.inl (by kernel_rfl)) (fun g1692 => ?_) (fun g1692 => ?_)
                · refine rs 3 [] [] (by kernel_rfl) allP_nil ?_
                  refine run_at_g 82 .i64 (IntKind.i64.wrap ((1 : Int) - way)) 1 g1688 (by kernel_rfl) ?_
                  refine rs 5 [] [] (by kernel_rfl) allP_nil ?_
                  refine rf [(1, iS way), (2, iS task), (3, iS now), (4, .ptr 0 0), (10, .ptr 1 0), (11, iS k2), (12, .ptr 2 0), (13, .ptr 3 0), (14, iS t2), (15, .ptr 4 0), (16, .ptr 5 0), (17, .ptr 6 0), (88, bS (d.Task_e1 == task))] [(0, .row 25 (Enc.cells d)), (1, .row 25 (Enc.cells c1q2)), (2, .row 27 (Enc.cells c2q3)), (3, .row 25 (Enc.cells c3q2)), (4, .row 27 (Enc.cells c4q2)), (5, .row 27 (Enc.cells c5q2)), (6, .row 27 (Enc.cells c6q4))] 7 (by kernel_rfl) ?_
                  exact hK1691 () _ _ _ trivial (leSt_m [(0, 0), (1, 1), (2, 2), (3, 3), (4, 4), (5, 5), (6, 6)] [] (by (try simp only [g1692]) <;> simp only [push_cast, seval]) (by (try simp only [g1692]) <;> simp only [push_cast, seval]) rfl rfl rfl)
                · refine rs 8 [] [] (by kernel_rfl) allP_nil ?_
                  refine rf [(1, iS way), (2, iS task), (3, iS now), (4, .ptr 0 0), (10, .ptr 1 0), (11, iS k2), (12, .ptr 2 0), (13, .ptr 3 0), (14, iS t2), (15, .ptr 4 0), (16, .ptr 5 0), (17, .ptr 6 0), (88, bS false)] [(0, .row 25 (Enc.cells d)), (1, .row 25 (Enc.cells c1q2)), (2, .row 27 (Enc.cells c2q3)), (3, .row 25 (Enc.cells c3q2)), (4, .row 27 (Enc.cells c4q2)), (5, .row 27 (Enc.cells c5q2)), (6, .row 27 (Enc.cells c6q4))] 7 (by kernel_rfl) ?_
                  exact hK1691 () _ _ _ trivial (leSt_m [(0, 0), (1, 1), (2, 2), (3, 3), (4, 4), (5, 5), (6, 6)] [] (by (try simp only [g1692]) <;> simp only [push_cast, seval]) (by (try simp only [g1692]) <;> simp only [push_cast, seval]) rfl rfl rfl)
              · dsimp only
                refine cond_sx h (by kernel_rfl) (fun g1695 h => ?_) (fun g1695 h => ?_)
                · refine reg_f ?_
                  obtain ⟨r1694, hr1694, h⟩ := bind_sx h
                  refine run_call 12 [iS 10, iS (-1)] (some 89) (by kernel_rfl) ?_
                  refine call_0 (taskmillref_F_spec 10 (-1) r1694 hr1694) (by simp only [push_cast, seval]) (by simp only [push_cast, seval]) ?_
                  refine back_f ?_
                  refine rs 1 [] [] (by kernel_rfl) allP_nil ?_
                  refine rf [(1, iS way), (2, iS task), (3, iS now), (4, .ptr 0 0), (10, .ptr 1 0), (11, iS k2), (12, .ptr 2 0), (13, .ptr 3 0), (14, iS t2), (15, .ptr 4 0), (16, .ptr 5 0), (17, .ptr 6 0)] [(0, .row 25 (Enc.cells d)), (1, .row 25 (Enc.cells c1q2)), (2, .row 27 (Enc.cells c2q3)), (3, .row 25 (Enc.cells c3q2)), (4, .row 27 (Enc.cells c4q2)), (5, .row 27 (Enc.cells c5q2)), (6, .row 27 (Enc.cells r1694))] 7 (by kernel_rfl) ?_
                  exact hK1678 (r1694) _ _ _ h (leSt_m [(0, 0), (1, 1), (2, 2), (3, 3), (4, 4), (5, 5), (6, 6)] [] (by simp only [push_cast, seval]) (by simp only [push_cast, seval]) rfl rfl rfl)
                · exact hK1678 (c6q4) _ _ _ h (leSt_m [(0, 0), (1, 1), (2, 2), (3, 3), (4, 4), (5, 5), (6, 6)] [] (by simp only [push_cast, seval]) (by simp only [push_cast, seval]) rfl rfl rfl)
            refine seq_np ?_
            refine reg_f ?_
            refine rs 4 [] [] (by kernel_rfl) allP_nil ?_
            refine run_br h 80 (.inl (by kernel_rfl)) (fun g1699 h => ?_) (fun g1699 h => ?_)
            · refine chk_sx h (fun g1701 h => ?_)
              have k1700 : 0 ≤ (IntKind.i64.wrap ((1 : Int) - way)) ∧ (IntKind.i64.wrap ((1 : Int) - way)) < 2 := by first | simpa only [Bool.and_eq_true, decide_eq_true_eq, bne_iff_ne, ne_eq] using g1701 | (simp at g1701 ⊢; omega)
              exfalso
              omega
            · refine rs 8 [] [] (by kernel_rfl) allP_nil ?_
              refine rf [(1, iS way), (2, iS task), (3, iS now), (4, .ptr 0 0), (10, .ptr 1 0), (11, iS k2), (12, .ptr 2 0), (13, .ptr 3 0), (14, iS t2), (15, .ptr 4 0), (16, .ptr 5 0), (17, .ptr 6 0), (88, bS false)] [(0, .row 25 (Enc.cells d)), (1, .row 25 (Enc.cells c1q2)), (2, .row 27 (Enc.cells c2q3)), (3, .row 25 (Enc.cells c3q2)), (4, .row 27 (Enc.cells c4q2)), (5, .row 27 (Enc.cells c5q2)), (6, .row 27 (Enc.cells c6q4))] 7 (by kernel_rfl) ?_
              refine wk_id ?_
              refine cond_f (by kernel_rfl) ?_
              exact hK1678 (c6q4) _ _ _ h (leSt_m [(0, 0), (1, 1), (2, 2), (3, 3), (4, 4), (5, 5), (6, 6)] [] (by (try simp only [g1699]) <;> simp only [push_cast, seval]) (by (try simp only [g1699]) <;> simp only [push_cast, seval]) rfl rfl rfl)
          · rintro c6q5 h
            try dsimp only at h ⊢
            unfold taskmilllaw_PollWaits_j3 at h
            refine seq_np ?_
            refine seq_np ?_
            refine reg_f ?_
            refine rs 3 [] [] (by kernel_rfl) allP_nil ?_
            refine rf [(1, iS way), (2, iS task), (3, iS now), (4, .ptr 0 0), (10, .ptr 1 0), (11, iS k2), (13, .ptr 3 0), (14, iS t2), (15, .ptr 4 0), (16, .ptr 5 0), (17, .ptr 6 0), (92, bS (!((c2q3.Code == c6q5.Code) && ((c2q3.At == c6q5.At) && true))))] [(0, .row 25 (Enc.cells d)), (1, .row 25 (Enc.cells c1q2)), (2, .row 27 (Enc.cells c2q3)), (3, .row 25 (Enc.cells c3q2)), (4, .row 27 (Enc.cells c4q2)), (5, .row 27 (Enc.cells c5q2)), (6, .row 27 (Enc.cells c6q5))] 7 (by kernel_rfl) ?_
            refine wk_id ?_
            refine cond_sx h (by kernel_rfl) (fun g1782 h => ?_) (fun g1782 h => ?_)
            · refine seq_np ?_
              refine reg_f ?_
              refine rs 1 [] [] (by kernel_rfl) allP_nil ?_
              refine rf [(8, bS false)] [(0, .row 25 (Enc.cells d)), (1, .row 25 (Enc.cells c1q2)), (2, .row 27 (Enc.cells c2q3)), (3, .row 25 (Enc.cells c3q2)), (4, .row 27 (Enc.cells c4q2)), (5, .row 27 (Enc.cells c5q2)), (6, .row 27 (Enc.cells c6q5))] 7 (by kernel_rfl) ?_
              refine wk_id ?_
              obtain rfl := Option.some.inj h
              refine ret_at (bS false) (by kernel_rfl) ?_
              exact ret_e [] [] (by simp only [push_cast, seval]) (by simp only [push_cast, seval]) rfl rfl rfl
            · refine wk_id ?_
              refine seq_np ?_
              refine reg_f ?_
              refine rs 3 [] [] (by kernel_rfl) allP_nil ?_
              refine rf [(1, iS way), (2, iS task), (3, iS now), (4, .ptr 0 0), (10, .ptr 1 0), (11, iS k2), (13, .ptr 3 0), (14, iS t2), (15, .ptr 4 0), (16, .ptr 5 0), (17, .ptr 6 0), (18, .ptr 7 0)] [(0, .row 25 (Enc.cells d)), (1, .row 25 (Enc.cells c1q2)), (2, .row 27 (Enc.cells c2q3)), (3, .row 25 (Enc.cells c3q2)), (4, .row 27 (Enc.cells c4q2)), (5, .row 27 (Enc.cells c5q2)), (6, .row 27 (Enc.cells c6q5)), (7, .row 25 (Enc.cells d))] 8 (by kernel_rfl) ?_
              refine wk_id ?_
              refine seq_np ?_
              refine reg_f ?_
              refine rs 1 [] [] (by kernel_rfl) allP_nil ?_
              refine rf [(1, iS way), (2, iS task), (3, iS now), (4, .ptr 0 0), (10, .ptr 1 0), (11, iS k2), (13, .ptr 3 0), (14, iS t2), (15, .ptr 4 0), (16, .ptr 5 0), (17, .ptr 6 0), (18, .ptr 7 0), (19, iS 0)] [(0, .row 25 (Enc.cells d)), (1, .row 25 (Enc.cells c1q2)), (2, .row 27 (Enc.cells c2q3)), (3, .row 25 (Enc.cells c3q2)), (4, .row 27 (Enc.cells c4q2)), (5, .row 27 (Enc.cells c5q2)), (6, .row 27 (Enc.cells c6q5)), (7, .row 25 (Enc.cells d))] 8 (by kernel_rfl) ?_
              refine wk_id ?_
              refine seq_cut (A := Int × Desc) (fun a => ([(1, iS way), (4, .ptr 0 0), (10, .ptr 1 0), (11, iS k2), (13, .ptr 2 0), (14, iS t2), (15, .ptr 3 0), (16, .ptr 4 0), (18, .ptr 5 0), (19, iS a.1)], [(0, .row 25 (Enc.cells d)), (1, .row 25 (Enc.cells c1q2)), (2, .row 25 (Enc.cells c3q2)), (3, .row 27 (Enc.cells c4q2)), (4, .row 27 (Enc.cells c5q2)), (5, .row 25 (Enc.cells a.2))], 6)) (fun a => (taskmilllaw_PollWaits_j2 d way k2 t2 c1q2 c3q2 c4q2 c5q2 a.1 a.2) = some r) (fun K1716 hK1716 => ?_) ?_
              · refine seq_np ?_
                refine reg_f ?_
                refine rs 3 [] [] (by kernel_rfl) allP_nil ?_
                refine rf [(1, iS way), (2, iS task), (3, iS now), (4, .ptr 0 0), (10, .ptr 1 0), (11, iS k2), (13, .ptr 3 0), (14, iS t2), (15, .ptr 4 0), (16, .ptr 5 0), (18, .ptr 7 0), (19, iS 0), (96, bS (c6q5.Code != 0))] [(0, .row 25 (Enc.cells d)), (1, .row 25 (Enc.cells c1q2)), (2, .row 27 (Enc.cells c2q3)), (3, .row 25 (Enc.cells c3q2)), (4, .row 27 (Enc.cells c4q2)), (5, .row 27 (Enc.cells c5q2)), (6, .row 27 (Enc.cells c6q5)), (7, .row 25 (Enc.cells d))] 8 (by kernel_rfl) ?_
                refine wk_id ?_
                refine cond_sx h (by kernel_rfl) (fun g1731 h => ?_) (fun g1731 h => ?_)
                · refine reg_f ?_
                  refine rs 2 [] [] (by kernel_rfl) allP_nil ?_
                  refine rf [(1, iS way), (4, .ptr 0 0), (10, .ptr 1 0), (11, iS k2), (13, .ptr 3 0), (14, iS t2), (15, .ptr 4 0), (16, .ptr 5 0), (18, .ptr 7 0), (19, iS 0)] [(0, .row 25 (Enc.cells d)), (1, .row 25 (Enc.cells c1q2)), (2, .row 27 (Enc.cells c2q3)), (3, .row 25 (Enc.cells c3q2)), (4, .row 27 (Enc.cells c4q2)), (5, .row 27 (Enc.cells c5q2)), (6, .row 27 (Enc.cells c6q5)), (7, .row 25 [bS false, bS false, bS false, iS 0, iS 0, iS 0, iS 0])] 8 (by kernel_rfl) ?_
                  exact hK1716 (0, (Desc.mk false false false 0 0 0 0)) _ _ _ h (leSt_m [(0, 0), (1, 1), (2, 3), (3, 4), (4, 5), (5, 7)] [] (by simp only [push_cast, seval]) (by simp only [push_cast, seval]) rfl rfl rfl)
                · refine seq_np ?_
                  refine reg_f ?_
                  refine rs 2 [] [] (by kernel_rfl) allP_nil ?_
                  refine rf [(1, iS way), (2, iS task), (3, iS now), (4, .ptr 0 0), (10, .ptr 1 0), (11, iS k2), (13, .ptr 3 0), (14, iS t2), (15, .ptr 4 0), (16, .ptr 5 0), (18, .ptr 7 0), (19, iS 0), (99, bS d.Closed)] [(0, .row 25 (Enc.cells d)), (1, .row 25 (Enc.cells c1q2)), (2, .row 27 (Enc.cells c2q3)), (3, .row 25 (Enc.cells c3q2)), (4, .row 27 (Enc.cells c4q2)), (5, .row 27 (Enc.cells c5q2)), (6, .row 27 (Enc.cells c6q5)), (7, .row 25 (Enc.cells d))] 8 (by kernel_rfl) ?_
                  refine wk_id ?_
                  refine cond_sx h (by kernel_rfl) (fun g1730 h => ?_) (fun g1730 h => ?_)
                  · refine reg_f ?_
                    refine rs 1 [] [] (by kernel_rfl) allP_nil ?_
                    refine rf [(1, iS way), (4, .ptr 0 0), (10, .ptr 1 0), (11, iS k2), (13, .ptr 3 0), (14, iS t2), (15, .ptr 4 0), (16, .ptr 5 0), (18, .ptr 7 0), (19, iS 3)] [(0, .row 25 (Enc.cells d)), (1, .row 25 (Enc.cells c1q2)), (2, .row 27 (Enc.cells c2q3)), (3, .row 25 (Enc.cells c3q2)), (4, .row 27 (Enc.cells c4q2)), (5, .row 27 (Enc.cells c5q2)), (6, .row 27 (Enc.cells c6q5)), (7, .row 25 (Enc.cells d))] 8 (by kernel_rfl) ?_
                    exact hK1716 (3, d) _ _ _ h (leSt_m [(0, 0), (1, 1), (2, 3), (3, 4), (4, 5), (5, 7)] [] (by simp only [push_cast, seval]) (by simp only [push_cast, seval]) rfl rfl rfl)
                  · refine seq_np ?_
                    refine reg_f ?_
                    refine rs 3 [] [] (by kernel_rfl) allP_nil ?_
                    obtain ⟨r1718, hr1718, h⟩ := bind_sx h
                    refine run_call 13 [.agg (Enc.cells d), iS way, iS now] (some 103) (by kernel_rfl) ?_
                    refine call_0 (taskmilllaw_isLate_spec d way now r1718 hr1718) (by simp only [push_cast, seval]) (by simp only [push_cast, seval]) ?_
                    refine back_f ?_
                    refine rf [(1, iS way), (2, iS task), (4, .ptr 0 0), (10, .ptr 1 0), (11, iS k2), (13, .ptr 3 0), (14, iS t2), (15, .ptr 4 0), (16, .ptr 5 0), (18, .ptr 7 0), (19, iS 0), (103, bS r1718)] [(0, .row 25 (Enc.cells d)), (1, .row 25 (Enc.cells c1q2)), (2, .row 27 (Enc.cells c2q3)), (3, .row 25 (Enc.cells c3q2)), (4, .row 27 (Enc.cells c4q2)), (5, .row 27 (Enc.cells c5q2)), (6, .row 27 (Enc.cells c6q5)), (7, .row 25 (Enc.cells d))] 8 (by kernel_rfl) ?_
                    refine wk_id ?_
                    refine cond_sx h (by kernel_rfl) (fun g1729 h => ?_) (fun g1729 h => ?_)
                    · refine reg_f ?_
                      refine rs 1 [] [] (by kernel_rfl) allP_nil ?_
                      refine rf [(1, iS way), (4, .ptr 0 0), (10, .ptr 1 0), (11, iS k2), (13, .ptr 3 0), (14, iS t2), (15, .ptr 4 0), (16, .ptr 5 0), (18, .ptr 7 0), (19, iS 2)] [(0, .row 25 (Enc.cells d)), (1, .row 25 (Enc.cells c1q2)), (2, .row 27 (Enc.cells c2q3)), (3, .row 25 (Enc.cells c3q2)), (4, .row 27 (Enc.cells c4q2)), (5, .row 27 (Enc.cells c5q2)), (6, .row 27 (Enc.cells c6q5)), (7, .row 25 (Enc.cells d))] 8 (by kernel_rfl) ?_
                      exact hK1716 (2, d) _ _ _ h (leSt_m [(0, 0), (1, 1), (2, 3), (3, 4), (4, 5), (5, 7)] [] (by simp only [push_cast, seval]) (by simp only [push_cast, seval]) rfl rfl rfl)
                    · refine split_s h (fun g1719 h => ?_) (fun g1720 h => ?_)
                      · refine seq_np ?_
                        refine reg_f ?_
                        refine rs 2 [] [] (by kernel_rfl) allP_nil ?_
                        refine run_at 104 .i64 way 0 g1719 (by kernel_rfl) ?_
                        refine rs 2 [] [] (by kernel_rfl) allP_nil ?_
                        refine rf [(1, iS way), (2, iS task), (4, .ptr 0 0), (10, .ptr 1 0), (11, iS k2), (13, .ptr 3 0), (14, iS t2), (15, .ptr 4 0), (16, .ptr 5 0), (18, .ptr 7 0), (19, iS 0), (107, bS d.Ready_e0)] [(0, .row 25 (Enc.cells d)), (1, .row 25 (Enc.cells c1q2)), (2, .row 27 (Enc.cells c2q3)), (3, .row 25 (Enc.cells c3q2)), (4, .row 27 (Enc.cells c4q2)), (5, .row 27 (Enc.cells c5q2)), (6, .row 27 (Enc.cells c6q5)), (7, .row 25 (Enc.cells d))] 8 (by kernel_rfl) ?_
                        refine wk_id ?_
                        refine cond_sx h (by kernel_rfl) (fun g1721 h => ?_) (fun g1721 h => ?_)
                        · refine seq_np ?_
                          refine reg_f ?_
                          refine rs 1 [] [] (by kernel_rfl) allP_nil ?_
                          refine rf [(1, iS way), (4, .ptr 0 0), (10, .ptr 1 0), (11, iS k2), (13, .ptr 3 0), (14, iS t2), (15, .ptr 4 0), (16, .ptr 5 0), (18, .ptr 7 0), (19, iS 1)] [(0, .row 25 (Enc.cells d)), (1, .row 25 (Enc.cells c1q2)), (2, .row 27 (Enc.cells c2q3)), (3, .row 25 (Enc.cells c3q2)), (4, .row 27 (Enc.cells c4q2)), (5, .row 27 (Enc.cells c5q2)), (6, .row 27 (Enc.cells c6q5)), (7, .row 25 (Enc.cells d))] 8 (by kernel_rfl) ?_
                          refine wk_id ?_
                          refine reg_f ?_
                          refine rs 2 [] [] (by kernel_rfl) allP_nil ?_
                          refine run_at 108 .i64 way 0 g1719 (by kernel_rfl) ?_
                          refine rs 2 [] [] (by kernel_rfl) allP_nil ?_
                          refine rf [(1, iS way), (4, .ptr 0 0), (10, .ptr 1 0), (11, iS k2), (13, .ptr 3 0), (14, iS t2), (15, .ptr 4 0), (16, .ptr 5 0), (18, .ptr 7 0), (19, iS 1)] [(0, .row 25 (Enc.cells d)), (1, .row 25 (Enc.cells c1q2)), (2, .row 27 (Enc.cells c2q3)), (3, .row 25 (Enc.cells c3q2)), (4, .row 27 (Enc.cells c4q2)), (5, .row 27 (Enc.cells c5q2)), (6, .row 27 (Enc.cells c6q5)), (7, .row 25 [bS d.Closed, bS false, bS d.Ready_e1, iS d.Task_e0, iS d.Task_e1, iS d.Until_e0, iS d.Until_e1])] 8 (by kernel_rfl) ?_
                          exact hK1716 (1, (Desc.mk d.Closed false d.Ready_e1 d.Task_e0 d.Task_e1 d.Until_e0 d.Until_e1)) _ _ _ h (leSt_m [(0, 0), (1, 1), (2, 3), (3, 4), (4, 5), (5, 7)] [] (by simp only [push_cast, seval]) (by simp only [push_cast, seval]) rfl rfl rfl)
                        · refine reg_f ?_
                          refine rs 3 [] [] (by kernel_rfl) allP_nil ?_
                          refine run_at 111 .i64 way 0 g1719 (by kernel_rfl) ?_
                          refine rs 2 [] [] (by kernel_rfl) allP_nil ?_
                          refine rf [(1, iS way), (4, .ptr 0 0), (10, .ptr 1 0), (11, iS k2), (13, .ptr 3 0), (14, iS t2), (15, .ptr 4 0), (16, .ptr 5 0), (18, .ptr 7 0), (19, iS 0)] [(0, .row 25 (Enc.cells d)), (1, .row 25 (Enc.cells c1q2)), (2, .row 27 (Enc.cells c2q3)), (3, .row 25 (Enc.cells c3q2)), (4, .row 27 (Enc.cells c4q2)), (5, .row 27 (Enc.cells c5q2)), (6, .row 27 (Enc.cells c6q5)), (7, .row 25 [bS d.Closed, bS d.Ready_e0, bS d.Ready_e1, iS task, iS d.Task_e1, iS d.Until_e0, iS d.Until_e1])] 8 (by kernel_rfl) ?_
                          exact hK1716 (0, (Desc.mk d.Closed d.Ready_e0 d.Ready_e1 task d.Task_e1 d.Until_e0 d.Until_e1)) _ _ _ h (leSt_m [(0, 0), (1, 1), (2, 3), (3, 4), (4, 5), (5, 7)] [] (by simp only [push_cast, seval]) (by simp only [push_cast, seval]) rfl rfl rfl)
                      refine split_s h (fun g1722 h => ?_) (fun g1723 h => ?_)
                      · refine seq_np ?_
                        refine reg_f ?_
                        refine rs 2 [] [] (by kernel_rfl) allP_nil ?_
                        refine run_at 104 .i64 way 1 g1722 (by kernel_rfl) ?_
                        refine rs 2 [] [] (by kernel_rfl) allP_nil ?_
                        refine rf [(1, iS way), (2, iS task), (4, .ptr 0 0), (10, .ptr 1 0), (11, iS k2), (13, .ptr 3 0), (14, iS t2), (15, .ptr 4 0), (16, .ptr 5 0), (18, .ptr 7 0), (19, iS 0), (107, bS d.Ready_e1)] [(0, .row 25 (Enc.cells d)), (1, .row 25 (Enc.cells c1q2)), (2, .row 27 (Enc.cells c2q3)), (3, .row 25 (Enc.cells c3q2)), (4, .row 27 (Enc.cells c4q2)), (5, .row 27 (Enc.cells c5q2)), (6, .row 27 (Enc.cells c6q5)), (7, .row 25 (Enc.cells d))] 8 (by kernel_rfl) ?_
                        refine wk_id ?_
                        refine cond_sx h (by kernel_rfl) (fun g1724 h => ?_) (fun g1724 h => ?_)
                        · refine seq_np ?_
                          refine reg_f ?_
                          refine rs 1 [] [] (by kernel_rfl) allP_nil ?_
                          refine rf [(1, iS way), (4, .ptr 0 0), (10, .ptr 1 0), (11, iS k2), (13, .ptr 3 0), (14, iS t2), (15, .ptr 4 0), (16, .ptr 5 0), (18, .ptr 7 0), (19, iS 1)] [(0, .row 25 (Enc.cells d)), (1, .row 25 (Enc.cells c1q2)), (2, .row 27 (Enc.cells c2q3)), (3, .row 25 (Enc.cells c3q2)), (4, .row 27 (Enc.cells c4q2)), (5, .row 27 (Enc.cells c5q2)), (6, .row 27 (Enc.cells c6q5)), (7, .row 25 (Enc.cells d))] 8 (by kernel_rfl) ?_
                          refine wk_id ?_
                          refine reg_f ?_
                          refine rs 2 [] [] (by kernel_rfl) allP_nil ?_
                          refine run_at 108 .i64 way 1 g1722 (by kernel_rfl) ?_
                          refine rs 2 [] [] (by kernel_rfl) allP_nil ?_
                          refine rf [(1, iS way), (4, .ptr 0 0), (10, .ptr 1 0), (11, iS k2), (13, .ptr 3 0), (14, iS t2), (15, .ptr 4 0), (16, .ptr 5 0), (18, .ptr 7 0), (19, iS 1)] [(0, .row 25 (Enc.cells d)), (1, .row 25 (Enc.cells c1q2)), (2, .row 27 (Enc.cells c2q3)), (3, .row 25 (Enc.cells c3q2)), (4, .row 27 (Enc.cells c4q2)), (5, .row 27 (Enc.cells c5q2)), (6, .row 27 (Enc.cells c6q5)), (7, .row 25 [bS d.Closed, bS d.Ready_e0, bS false, iS d.Task_e0, iS d.Task_e1, iS d.Until_e0, iS d.Until_e1])] 8 (by kernel_rfl) ?_
                          exact hK1716 (1, (Desc.mk d.Closed d.Ready_e0 false d.Task_e0 d.Task_e1 d.Until_e0 d.Until_e1)) _ _ _ h (leSt_m [(0, 0), (1, 1), (2, 3), (3, 4), (4, 5), (5, 7)] [] (by simp only [push_cast, seval]) (by simp only [push_cast, seval]) rfl rfl rfl)
                        · refine reg_f ?_
                          refine rs 3 [] [] (by kernel_rfl) allP_nil ?_
                          refine run_at 111 .i64 way 1 g1722 (by kernel_rfl) ?_
                          refine rs 2 [] [] (by kernel_rfl) allP_nil ?_
                          refine rf [(1, iS way), (4, .ptr 0 0), (10, .ptr 1 0), (11, iS k2), (13, .ptr 3 0), (14, iS t2), (15, .ptr 4 0), (16, .ptr 5 0), (18, .ptr 7 0), (19, iS 0)] [(0, .row 25 (Enc.cells d)), (1, .row 25 (Enc.cells c1q2)), (2, .row 27 (Enc.cells c2q3)), (3, .row 25 (Enc.cells c3q2)), (4, .row 27 (Enc.cells c4q2)), (5, .row 27 (Enc.cells c5q2)), (6, .row 27 (Enc.cells c6q5)), (7, .row 25 [bS d.Closed, bS d.Ready_e0, bS d.Ready_e1, iS d.Task_e0, iS task, iS d.Until_e0, iS d.Until_e1])] 8 (by kernel_rfl) ?_
                          exact hK1716 (0, (Desc.mk d.Closed d.Ready_e0 d.Ready_e1 d.Task_e0 task d.Until_e0 d.Until_e1)) _ _ _ h (leSt_m [(0, 0), (1, 1), (2, 3), (3, 4), (4, 5), (5, 7)] [] (by simp only [push_cast, seval]) (by simp only [push_cast, seval]) rfl rfl rfl)
                      refine chk_sx h (fun g1728 h => ?_)
                      refine seq_np ?_
                      refine reg_f ?_
                      have k1727 : 0 ≤ way ∧ way < 2 := by first | simpa only [Bool.and_eq_true, decide_eq_true_eq, bne_iff_ne, ne_eq] using g1728 | (simp at g1728 ⊢; omega)
                      exfalso
                      omega
              · rintro ⟨told1, c5q3⟩ h
                try dsimp only at h ⊢
                unfold taskmilllaw_PollWaits_j2 at h
                refine seq_np ?_
                refine seq_cut (A := Unit) (fun _ => ([(1, iS way), (4, .ptr 0 0), (13, .ptr 2 0), (14, iS t2), (16, .ptr 4 0), (18, .ptr 5 0), (127, bS ((!((c1q2.Closed == c5q3.Closed) && ((c1q2.Ready_e0 == c5q3.Ready_e0) && ((c1q2.Ready_e1 == c5q3.Ready_e1) && ((c1q2.Task_e0 == c5q3.Task_e0) && ((c1q2.Task_e1 == c5q3.Task_e1) && ((c1q2.Until_e0 == c5q3.Until_e0) && ((c1q2.Until_e1 == c5q3.Until_e1) && true)))))))) || ((k2 != told1) || (!((c4q2.Code == c5q2.Code) && ((c4q2.At == c5q2.At) && true))))))], [(0, .row 25 (Enc.cells d)), (1, .row 25 (Enc.cells c1q2)), (2, .row 25 (Enc.cells c3q2)), (3, .row 27 (Enc.cells c4q2)), (4, .row 27 (Enc.cells c5q2)), (5, .row 25 (Enc.cells c5q3))], 6)) (fun _ => True) (fun K1737 hK1737 => ?_) (fun _ _ => ?_)
                · refine reg_f ?_
                  refine rs 4 [] [] (by kernel_rfl) allP_nil ?_
                  refine run_split 118 (!((c1q2.Closed == c5q3.Closed) && ((c1q2.Ready_e0 == c5q3.Ready_e0) && ((c1q2.Ready_e1 == c5q3.Ready_e1) && ((c1q2.Task_e0 == c5q3.Task_e0) && ((c1q2.Task_e1 == c5q3.Task_e1) && ((c1q2.Until_e0 == c5q3.Until_e0) && ((c1q2.Until_e1 == c5q3.Until_e1) && true)))))))) (.inl (by kernel_rfl)) (fun g1738 => ?_) (fun g1738 => ?_)
                  · refine rs 9 [] [] (by kernel_rfl) allP_nil ?_
                    refine rf [(1, iS way), (4, .ptr 0 0), (13, .ptr 2 0), (14, iS t2), (16, .ptr 4 0), (18, .ptr 5 0), (127, bS true)] [(0, .row 25 (Enc.cells d)), (1, .row 25 (Enc.cells c1q2)), (2, .row 25 (Enc.cells c3q2)), (3, .row 27 (Enc.cells c4q2)), (4, .row 27 (Enc.cells c5q2)), (5, .row 25 (Enc.cells c5q3))] 6 (by kernel_rfl) ?_
                    exact hK1737 () _ _ _ trivial (leSt_m [(0, 0), (1, 1), (2, 2), (3, 3), (4, 4), (5, 5)] [] (by (try simp only [g1738]) <;> simp only [push_cast, seval]) (by (try simp only [g1738]) <;> simp only [push_cast, seval]) rfl rfl rfl)
                  · refine rs 5 [] [] (by kernel_rfl) allP_nil ?_
                    refine run_split 123 (k2 != told1) (.inl (by kernel_rfl)) (fun g1739 => ?_) (fun g1739 => ?_)
                    · refine rs 4 [] [] (by kernel_rfl) allP_nil ?_
                      refine rf [(1, iS way), (4, .ptr 0 0), (13, .ptr 2 0), (14, iS t2), (16, .ptr 4 0), (18, .ptr 5 0), (127, bS true)] [(0, .row 25 (Enc.cells d)), (1, .row 25 (Enc.cells c1q2)), (2, .row 25 (Enc.cells c3q2)), (3, .row 27 (Enc.cells c4q2)), (4, .row 27 (Enc.cells c5q2)), (5, .row 25 (Enc.cells c5q3))] 6 (by kernel_rfl) ?_
                      exact hK1737 () _ _ _ trivial (leSt_m [(0, 0), (1, 1), (2, 2), (3, 3), (4, 4), (5, 5)] [] (by first | ((try simp only [g1738, g1739]) <;> simp only [push_cast, seval]; done) | ((try simp only [g1738]); (try simp only [g1739]); simp only [push_cast, seval]; done) | (exfalso; clear h; simp_all; done)) (by first | ((try simp only [g1738, g1739]) <;> simp only [push_cast, seval]; done) | ((try simp only [g1738]); (try simp only [g1739]); simp only [push_cast, seval]; done) | (exfalso; clear h; simp_all; done)) rfl rfl rfl)
                    · refine rs 4 [] [] (by kernel_rfl) allP_nil ?_
                      refine rf [(1, iS way), (4, .ptr 0 0), (13, .ptr 2 0), (14, iS t2), (16, .ptr 4 0), (18, .ptr 5 0), (127, bS (!((c4q2.Code == c5q2.Code) && ((c4q2.At == c5q2.At) && true))))] [(0, .row 25 (Enc.cells d)), (1, .row 25 (Enc.cells c1q2)), (2, .row 25 (Enc.cells c3q2)), (3, .row 27 (Enc.cells c4q2)), (4, .row 27 (Enc.cells c5q2)), (5, .row 25 (Enc.cells c5q3))] 6 (by kernel_rfl) ?_
                      exact hK1737 () _ _ _ trivial (leSt_m [(0, 0), (1, 1), (2, 2), (3, 3), (4, 4), (5, 5)] [] (by first | ((try simp only [g1738, g1739]) <;> simp only [push_cast, seval]; done) | ((try simp only [g1738]); (try simp only [g1739]); simp only [push_cast, seval]; done) | (exfalso; clear h; simp_all; done)) (by first | ((try simp only [g1738, g1739]) <;> simp only [push_cast, seval]; done) | ((try simp only [g1738]); (try simp only [g1739]); simp only [push_cast, seval]; done) | (exfalso; clear h; simp_all; done)) rfl rfl rfl)
                · dsimp only
                  refine cond_sx h (by kernel_rfl) (fun g1781 h => ?_) (fun g1781 h => ?_)
                  · refine seq_np ?_
                    refine reg_f ?_
                    refine rs 1 [] [] (by kernel_rfl) allP_nil ?_
                    refine rf [(8, bS false)] [(0, .row 25 (Enc.cells d)), (1, .row 25 (Enc.cells c1q2)), (2, .row 25 (Enc.cells c3q2)), (3, .row 27 (Enc.cells c4q2)), (4, .row 27 (Enc.cells c5q2)), (5, .row 25 (Enc.cells c5q3))] 6 (by kernel_rfl) ?_
                    refine wk_id ?_
                    obtain rfl := Option.some.inj h
                    refine ret_at (bS false) (by kernel_rfl) ?_
                    exact ret_e [] [] (by simp only [push_cast, seval]) (by simp only [push_cast, seval]) rfl rfl rfl
                  · refine wk_id ?_
                    refine seq_np ?_
                    refine seq_np ?_
                    refine reg_f ?_
                    refine rs 3 [] [] (by kernel_rfl) allP_nil ?_
                    refine rf [(1, iS way), (4, .ptr 0 0), (13, .ptr 2 0), (14, iS t2), (18, .ptr 5 0), (130, bS (c5q2.Code != 0))] [(0, .row 25 (Enc.cells d)), (1, .row 25 (Enc.cells c1q2)), (2, .row 25 (Enc.cells c3q2)), (3, .row 27 (Enc.cells c4q2)), (4, .row 27 (Enc.cells c5q2)), (5, .row 25 (Enc.cells c5q3))] 6 (by kernel_rfl) ?_
                    refine wk_id ?_
                    refine cond_sx h (by kernel_rfl) (fun g1780 h => ?_) (fun g1780 h => ?_)
                    · refine seq_cut (A := Unit) (fun _ => ([(8, bS (((c3q2.Closed == false) && ((c3q2.Ready_e0 == false) && ((c3q2.Ready_e1 == false) && ((c3q2.Task_e0 == 0) && ((c3q2.Task_e1 == 0) && ((c3q2.Until_e0 == 0) && ((c3q2.Until_e1 == 0) && true))))))) && (t2 == 0)))], [(0, .row 25 (Enc.cells d)), (1, .row 25 (Enc.cells c1q2)), (2, .row 25 (Enc.cells c3q2)), (3, .row 27 (Enc.cells c4q2)), (4, .row 27 (Enc.cells c5q2)), (5, .row 25 (Enc.cells c5q3))], 6)) (fun _ => True) (fun K1743 hK1743 => ?_) (fun _ _ => ?_)
                      · refine reg_f ?_
                        refine rs 4 [] [] (by kernel_rfl) allP_nil ?_
                        refine run_split 134 ((c3q2.Closed == false) && ((c3q2.Ready_e0 == false) && ((c3q2.Ready_e1 == false) && ((c3q2.Task_e0 == 0) && ((c3q2.Task_e1 == 0) && ((c3q2.Until_e0 == 0) && ((c3q2.Until_e1 == 0) && true))))))) (.inl (by kernel_rfl)) (fun g1744 => ?_) (fun g1744 => ?_)
                        · refine rs 4 [] [] (by kernel_rfl) allP_nil ?_
                          refine rf [(8, bS (t2 == 0))] [(0, .row 25 (Enc.cells d)), (1, .row 25 (Enc.cells c1q2)), (2, .row 25 (Enc.cells c3q2)), (3, .row 27 (Enc.cells c4q2)), (4, .row 27 (Enc.cells c5q2)), (5, .row 25 (Enc.cells c5q3))] 6 (by kernel_rfl) ?_
                          exact hK1743 () _ _ _ trivial (leSt_m [(0, 0), (1, 1), (2, 2), (3, 3), (4, 4), (5, 5)] [] (by (try simp only [g1744]) <;> simp only [push_cast, seval]) (by (try simp only [g1744]) <;> simp only [push_cast, seval]) rfl rfl rfl)
                        · refine rs 4 [] [] (by kernel_rfl) allP_nil ?_
                          refine rf [(8, bS false)] [(0, .row 25 (Enc.cells d)), (1, .row 25 (Enc.cells c1q2)), (2, .row 25 (Enc.cells c3q2)), (3, .row 27 (Enc.cells c4q2)), (4, .row 27 (Enc.cells c5q2)), (5, .row 25 (Enc.cells c5q3))] 6 (by kernel_rfl) ?_
                          exact hK1743 () _ _ _ trivial (leSt_m [(0, 0), (1, 1), (2, 2), (3, 3), (4, 4), (5, 5)] [] (by (try simp only [g1744]) <;> simp only [push_cast, seval]) (by (try simp only [g1744]) <;> simp only [push_cast, seval]) rfl rfl rfl)
                      · dsimp only
                        obtain rfl := Option.some.inj h
                        refine ret_at (bS (((c3q2.Closed == false) && ((c3q2.Ready_e0 == false) && ((c3q2.Ready_e1 == false) && ((c3q2.Task_e0 == 0) && ((c3q2.Task_e1 == 0) && ((c3q2.Until_e0 == 0) && ((c3q2.Until_e1 == 0) && true))))))) && (t2 == 0))) (by kernel_rfl) ?_
                        exact ret_e [] [] (by simp only [push_cast, seval]) (by simp only [push_cast, seval]) rfl rfl rfl
                    · refine wk_id ?_
                      refine seq_np ?_
                      refine reg_f ?_
                      refine rs 2 [] [] (by kernel_rfl) allP_nil ?_
                      refine rf [(1, iS way), (4, .ptr 0 0), (13, .ptr 2 0), (14, iS t2), (18, .ptr 5 0)] [(0, .row 25 (Enc.cells d)), (1, .row 25 (Enc.cells c1q2)), (2, .row 25 (Enc.cells c3q2)), (3, .row 27 (Enc.cells c4q2)), (4, .row 27 (Enc.cells c5q2)), (5, .row 25 (Enc.cells d))] 6 (by kernel_rfl) ?_
                      refine wk_id ?_
                      refine seq_cut (A := Desc) (fun a => ([(1, iS way), (4, .ptr 0 0), (13, .ptr 1 0), (14, iS t2), (18, .ptr 2 0)], [(0, .row 25 (Enc.cells d)), (1, .row 25 (Enc.cells c3q2)), (2, .row 25 (Enc.cells a))], 3)) (fun a => (taskmilllaw_PollWaits_j1 d way t2 c3q2 a) = some r) (fun K1753 hK1753 => ?_) ?_
                      · refine seq_np ?_
                        refine reg_f ?_
                        refine rs 3 [] [] (by kernel_rfl) allP_nil ?_
                        refine rf [(1, iS way), (4, .ptr 0 0), (13, .ptr 2 0), (14, iS t2), (18, .ptr 5 0), (141, bS (!d.Closed))] [(0, .row 25 (Enc.cells d)), (1, .row 25 (Enc.cells c1q2)), (2, .row 25 (Enc.cells c3q2)), (3, .row 27 (Enc.cells c4q2)), (4, .row 27 (Enc.cells c5q2)), (5, .row 25 (Enc.cells d))] 6 (by kernel_rfl) ?_
                        refine wk_id ?_
                        refine cond_sx h (by kernel_rfl) (fun g1762 h => ?_) (fun g1762 h => ?_)
                        · refine split_s h (fun g1754 h => ?_) (fun g1755 h => ?_)
                          · refine seq_np ?_
                            refine reg_f ?_
                            refine rs 3 [] [] (by kernel_rfl) allP_nil ?_
                            refine run_at 143 .i64 way 0 g1754 (by kernel_rfl) ?_
                            refine rs 4 [] [] (by kernel_rfl) allP_nil ?_
                            refine run_at 142 .i64 way 0 g1754 (by kernel_rfl) ?_
                            refine rs 2 [] [] (by kernel_rfl) allP_nil ?_
                            refine rf [(1, iS way), (4, .ptr 0 0), (13, .ptr 2 0), (14, iS t2), (18, .ptr 5 0)] [(0, .row 25 (Enc.cells d)), (1, .row 25 (Enc.cells c1q2)), (2, .row 25 (Enc.cells c3q2)), (3, .row 27 (Enc.cells c4q2)), (4, .row 27 (Enc.cells c5q2)), (5, .row 25 [bS d.Closed, bS (d.Task_e0 == 0), bS d.Ready_e1, iS d.Task_e0, iS d.Task_e1, iS d.Until_e0, iS d.Until_e1])] 6 (by kernel_rfl) ?_
                            refine wk_id ?_
                            refine reg_f ?_
                            refine rs 2 [] [] (by kernel_rfl) allP_nil ?_
                            refine run_at 150 .i64 way 0 g1754 (by kernel_rfl) ?_
                            refine rs 2 [] [] (by kernel_rfl) allP_nil ?_
                            refine rf [(1, iS way), (4, .ptr 0 0), (13, .ptr 2 0), (14, iS t2), (18, .ptr 5 0)] [(0, .row 25 (Enc.cells d)), (1, .row 25 (Enc.cells c1q2)), (2, .row 25 (Enc.cells c3q2)), (3, .row 27 (Enc.cells c4q2)), (4, .row 27 (Enc.cells c5q2)), (5, .row 25 [bS d.Closed, bS (d.Task_e0 == 0), bS d.Ready_e1, iS 0, iS d.Task_e1, iS d.Until_e0, iS d.Until_e1])] 6 (by kernel_rfl) ?_
                            exact hK1753 ((Desc.mk d.Closed (d.Task_e0 == 0) d.Ready_e1 0 d.Task_e1 d.Until_e0 d.Until_e1)) _ _ _ h (leSt_m [(0, 0), (1, 2), (2, 5)] [] (by simp only [push_cast, seval]) (by simp only [push_cast, seval]) rfl rfl rfl)
                          refine split_s h (fun g1756 h => ?_) (fun g1757 h => ?_)
                          · refine seq_np ?_
                            refine reg_f ?_
                            refine rs 3 [] [] (by kernel_rfl) allP_nil ?_
                            refine run_at 143 .i64 way 1 g1756 (by kernel_rfl) ?_
                            refine rs 4 [] [] (by kernel_rfl) allP_nil ?_
                            refine run_at 142 .i64 way 1 g1756 (by kernel_rfl) ?_
                            refine rs 2 [] [] (by kernel_rfl) allP_nil ?_
                            refine rf [(1, iS way), (4, .ptr 0 0), (13, .ptr 2 0), (14, iS t2), (18, .ptr 5 0)] [(0, .row 25 (Enc.cells d)), (1, .row 25 (Enc.cells c1q2)), (2, .row 25 (Enc.cells c3q2)), (3, .row 27 (Enc.cells c4q2)), (4, .row 27 (Enc.cells c5q2)), (5, .row 25 [bS d.Closed, bS d.Ready_e0, bS (d.Task_e1 == 0), iS d.Task_e0, iS d.Task_e1, iS d.Until_e0, iS d.Until_e1])] 6 (by kernel_rfl) ?_
                            refine wk_id ?_
                            refine reg_f ?_
                            refine rs 2 [] [] (by kernel_rfl) allP_nil ?_
                            refine run_at 150 .i64 way 1 g1756 (by kernel_rfl) ?_
                            refine rs 2 [] [] (by kernel_rfl) allP_nil ?_
                            refine rf [(1, iS way), (4, .ptr 0 0), (13, .ptr 2 0), (14, iS t2), (18, .ptr 5 0)] [(0, .row 25 (Enc.cells d)), (1, .row 25 (Enc.cells c1q2)), (2, .row 25 (Enc.cells c3q2)), (3, .row 27 (Enc.cells c4q2)), (4, .row 27 (Enc.cells c5q2)), (5, .row 25 [bS d.Closed, bS d.Ready_e0, bS (d.Task_e1 == 0), iS d.Task_e0, iS 0, iS d.Until_e0, iS d.Until_e1])] 6 (by kernel_rfl) ?_
                            exact hK1753 ((Desc.mk d.Closed d.Ready_e0 (d.Task_e1 == 0) d.Task_e0 0 d.Until_e0 d.Until_e1)) _ _ _ h (leSt_m [(0, 0), (1, 2), (2, 5)] [] (by simp only [push_cast, seval]) (by simp only [push_cast, seval]) rfl rfl rfl)
                          refine chk_sx h (fun g1761 h => ?_)
                          refine seq_np ?_
                          refine reg_f ?_
                          have k1760 : 0 ≤ way ∧ way < 2 := by first | simpa only [Bool.and_eq_true, decide_eq_true_eq, bne_iff_ne, ne_eq] using g1761 | (simp at g1761 ⊢; omega)
                          exfalso
                          omega
                        · exact hK1753 (d) _ _ _ h (leSt_m [(0, 0), (1, 2), (2, 5)] [] (by simp only [push_cast, seval]) (by simp only [push_cast, seval]) rfl rfl rfl)
                      · rintro c2q4 h
                        try dsimp only at h ⊢
                        unfold taskmilllaw_PollWaits_j1 at h
                        refine split_s h (fun g1764 h => ?_) (fun g1765 h => ?_)
                        · refine seq_cut (A := Unit) (fun _ => ([(8, bS (((c3q2.Closed == c2q4.Closed) && ((c3q2.Ready_e0 == c2q4.Ready_e0) && ((c3q2.Ready_e1 == c2q4.Ready_e1) && ((c3q2.Task_e0 == c2q4.Task_e0) && ((c3q2.Task_e1 == c2q4.Task_e1) && ((c3q2.Until_e0 == c2q4.Until_e0) && ((c3q2.Until_e1 == c2q4.Until_e1) && true))))))) && (t2 == d.Task_e0)))], [(0, .row 25 (Enc.cells d)), (1, .row 25 (Enc.cells c3q2)), (2, .row 25 (Enc.cells c2q4))], 3)) (fun _ => True) (fun K1767 hK1767 => ?_) (fun _ _ => ?_)
                          · refine reg_f ?_
                            refine rs 4 [] [] (by kernel_rfl) allP_nil ?_
                            refine run_split 156 ((c3q2.Closed == c2q4.Closed) && ((c3q2.Ready_e0 == c2q4.Ready_e0) && ((c3q2.Ready_e1 == c2q4.Ready_e1) && ((c3q2.Task_e0 == c2q4.Task_e0) && ((c3q2.Task_e1 == c2q4.Task_e1) && ((c3q2.Until_e0 == c2q4.Until_e0) && ((c3q2.Until_e1 == c2q4.Until_e1) && true))))))) (.inl (by kernel_rfl)) (fun g1768 => ?_) (fun g1768 => ?_)
                            · refine rs 3 [] [] (by kernel_rfl) allP_nil ?_
                              refine run_at_g 158 .i64 way 0 g1764 (by kernel_rfl) ?_
                              refine rs 5 [] [] (by kernel_rfl) allP_nil ?_
                              refine rf [(8, bS (t2 == d.Task_e0))] [(0, .row 25 (Enc.cells d)), (1, .row 25 (Enc.cells c3q2)), (2, .row 25 (Enc.cells c2q4))] 3 (by kernel_rfl) ?_
                              exact hK1767 () _ _ _ trivial (leSt_m [(0, 0), (1, 1), (2, 2)] [] (by (try simp only [g1768]) <;> simp only [push_cast, seval]) (by (try simp only [g1768]) <;> simp only [push_cast, seval]) rfl rfl rfl)
                            · refine rs 8 [] [] (by kernel_rfl) allP_nil ?_
                              refine rf [(8, bS false)] [(0, .row 25 (Enc.cells d)), (1, .row 25 (Enc.cells c3q2)), (2, .row 25 (Enc.cells c2q4))] 3 (by kernel_rfl) ?_
                              exact hK1767 () _ _ _ trivial (leSt_m [(0, 0), (1, 1), (2, 2)] [] (by (try simp only [g1768]) <;> simp only [push_cast, seval]) (by (try simp only [g1768]) <;> simp only [push_cast, seval]) rfl rfl rfl)
                          · dsimp only
                            obtain rfl := Option.some.inj h
                            refine ret_at (bS (((c3q2.Closed == c2q4.Closed) && ((c3q2.Ready_e0 == c2q4.Ready_e0) && ((c3q2.Ready_e1 == c2q4.Ready_e1) && ((c3q2.Task_e0 == c2q4.Task_e0) && ((c3q2.Task_e1 == c2q4.Task_e1) && ((c3q2.Until_e0 == c2q4.Until_e0) && ((c3q2.Until_e1 == c2q4.Until_e1) && true))))))) && (t2 == d.Task_e0))) (by kernel_rfl) ?_
                            exact ret_e [] [] (by simp only [push_cast, seval]) (by simp only [push_cast, seval]) rfl rfl rfl
                        refine split_s h (fun g1769 h => ?_) (fun g1770 h => ?_)
                        · refine seq_cut (A := Unit) (fun _ => ([(8, bS (((c3q2.Closed == c2q4.Closed) && ((c3q2.Ready_e0 == c2q4.Ready_e0) && ((c3q2.Ready_e1 == c2q4.Ready_e1) && ((c3q2.Task_e0 == c2q4.Task_e0) && ((c3q2.Task_e1 == c2q4.Task_e1) && ((c3q2.Until_e0 == c2q4.Until_e0) && ((c3q2.Until_e1 == c2q4.Until_e1) && true))))))) && (t2 == d.Task_e1)))], [(0, .row 25 (Enc.cells d)), (1, .row 25 (Enc.cells c3q2)), (2, .row 25 (Enc.cells c2q4))], 3)) (fun _ => True) (fun K1772 hK1772 => ?_) (fun _ _ => ?_)
                          · refine reg_f ?_
                            refine rs 4 [] [] (by kernel_rfl) allP_nil ?_
                            refine run_split 156 ((c3q2.Closed == c2q4.Closed) && ((c3q2.Ready_e0 == c2q4.Ready_e0) && ((c3q2.Ready_e1 == c2q4.Ready_e1) && ((c3q2.Task_e0 == c2q4.Task_e0) && ((c3q2.Task_e1 == c2q4.Task_e1) && ((c3q2.Until_e0 == c2q4.Until_e0) && ((c3q2.Until_e1 == c2q4.Until_e1) && true))))))) (.inl (by kernel_rfl)) (fun g1773 => ?_) (fun g1773 => ?_)
                            · refine rs 3 [] [] (by kernel_rfl) allP_nil ?_
                              refine run_at_g 158 .i64 way 1 g1769 (by kernel_rfl) ?_
                              refine rs 5 [] [] (by kernel_rfl) allP_nil ?_
                              refine rf [(8, bS (t2 == d.Task_e1))] [(0, .row 25 (Enc.cells d)), (1, .row 25 (Enc.cells c3q2)), (2, .row 25 (Enc.cells c2q4))] 3 (by kernel_rfl) ?_
                              exact hK1772 () _ _ _ trivial (leSt_m [(0, 0), (1, 1), (2, 2)] [] (by (try simp only [g1773]) <;> simp only [push_cast, seval]) (by (try simp only [g1773]) <;> simp only [push_cast, seval]) rfl rfl rfl)
                            · refine rs 8 [] [] (by kernel_rfl) allP_nil ?_
                              refine rf [(8, bS false)] [(0, .row 25 (Enc.cells d)), (1, .row 25 (Enc.cells c3q2)), (2, .row 25 (Enc.cells c2q4))] 3 (by kernel_rfl) ?_
                              exact hK1772 () _ _ _ trivial (leSt_m [(0, 0), (1, 1), (2, 2)] [] (by (try simp only [g1773]) <;> simp only [push_cast, seval]) (by (try simp only [g1773]) <;> simp only [push_cast, seval]) rfl rfl rfl)
                          · dsimp only
                            obtain rfl := Option.some.inj h
                            refine ret_at (bS (((c3q2.Closed == c2q4.Closed) && ((c3q2.Ready_e0 == c2q4.Ready_e0) && ((c3q2.Ready_e1 == c2q4.Ready_e1) && ((c3q2.Task_e0 == c2q4.Task_e0) && ((c3q2.Task_e1 == c2q4.Task_e1) && ((c3q2.Until_e0 == c2q4.Until_e0) && ((c3q2.Until_e1 == c2q4.Until_e1) && true))))))) && (t2 == d.Task_e1))) (by kernel_rfl) ?_
                            exact ret_e [] [] (by simp only [push_cast, seval]) (by simp only [push_cast, seval]) rfl rfl rfl
                        refine seq_np ?_
                        refine reg_f ?_
                        refine rs 4 [] [] (by kernel_rfl) allP_nil ?_
                        refine run_br h 156 (.inl (by kernel_rfl)) (fun g1777 h => ?_) (fun g1777 h => ?_)
                        · refine chk_sx h (fun g1779 h => ?_)
                          have k1778 : 0 ≤ way ∧ way < 2 := by first | simpa only [Bool.and_eq_true, decide_eq_true_eq, bne_iff_ne, ne_eq] using g1779 | (simp at g1779 ⊢; omega)
                          exfalso
                          omega
                        · refine rs 8 [] [] (by kernel_rfl) allP_nil ?_
                          refine rf [(8, bS false)] [(0, .row 25 (Enc.cells d)), (1, .row 25 (Enc.cells c3q2)), (2, .row 25 (Enc.cells c2q4))] 3 (by kernel_rfl) ?_
                          refine wk_id ?_
                          obtain rfl := Option.some.inj h
                          refine ret_at (bS false) (by kernel_rfl) ?_
                          exact ret_e [] [] (by (try simp only [g1777]) <;> simp only [push_cast, seval]) (by (try simp only [g1777]) <;> simp only [push_cast, seval]) rfl rfl rfl

set_option maxRecDepth 100000 in
set_option maxHeartbeats 10000000 in
theorem poll_pop_spec (way : Int) (now : Int) (c0 : Desc) (r : Int × Desc) (h : poll_pop way now c0 = some r) : SpecW Try.prog 21 [.ptr 0 0, iS way, iS now] [(0, .row 25 (Enc.cells c0))] 1 (fun x h n => x = iS r.1 ∧ h = [(0, .row 25 (Enc.cells r.2))] ∧ n = 1) := by
  unfold poll_pop at h
  refine spec_of (draw_ok _) Try.func21 rfl (by decide) rfl (by kernel_rfl) ?_
  refine seq_np ?_
  refine reg_f ?_
  refine rs 1 [] [] (by kernel_rfl) allP_nil ?_
  refine rf [(0, .ptr 0 0), (1, iS way), (2, iS now)] [(0, .row 25 (Enc.cells c0))] 1 (by kernel_rfl) ?_
  refine wk_id ?_
  refine split_s h (fun g1821 h => ?_) (fun g1822 h => ?_)
  · refine seq_np ?_
    refine reg_f ?_
    refine rs 4 [] [] (by kernel_rfl) allP_nil ?_
    refine run_at 9 .i64 way 0 g1821 (by kernel_rfl) ?_
    refine rs 3 [] [] (by kernel_rfl) allP_nil ?_
    refine rf [(0, .ptr 0 0), (1, iS way), (2, iS now), (7, iS c0.Task_e0)] [(0, .row 25 (Enc.cells c0))] 1 (by kernel_rfl) ?_
    refine wk_id ?_
    refine seq_np ?_
    refine seq_cut (A := Bool) (fun a => ([(0, .ptr 0 0), (1, iS way), (7, iS c0.Task_e0), (24, bS a)], [(0, .row 25 (Enc.cells c0))], 1)) (fun a => (poll_pop_j2 way c0 a) = some r) (fun K1831 hK1831 => ?_) ?_
    · refine reg_f ?_
      refine rs 3 [] [] (by kernel_rfl) allP_nil ?_
      refine run_br h 16 (.inl (by kernel_rfl)) (fun g1832 h => ?_) (fun g1832 h => ?_)
      · refine rs 8 [] [] (by kernel_rfl) allP_nil ?_
        refine rf [(0, .ptr 0 0), (1, iS way), (7, iS c0.Task_e0), (24, bS true)] [(0, .row 25 (Enc.cells c0))] 1 (by kernel_rfl) ?_
        exact hK1831 (true) _ _ _ h (leSt_m [(0, 0)] [] (by (try simp only [g1832]) <;> simp only [push_cast, seval]) (by (try simp only [g1832]) <;> simp only [push_cast, seval]) rfl rfl rfl)
      · refine rs 5 [] [] (by kernel_rfl) allP_nil ?_
        obtain ⟨r1833, hr1833, h⟩ := bind_sx h
        refine run_call 20 [.agg (Enc.cells c0), iS way, iS now] (some 22) (by kernel_rfl) ?_
        refine call_0 (poll_late_spec c0 way now r1833 hr1833) (by simp only [push_cast, seval]) (by simp only [push_cast, seval]) ?_
        refine back_f ?_
        refine rs 2 [] [] (by kernel_rfl) allP_nil ?_
        refine rf [(0, .ptr 0 0), (1, iS way), (7, iS c0.Task_e0), (24, bS (!r1833))] [(0, .row 25 (Enc.cells c0))] 1 (by kernel_rfl) ?_
        exact hK1831 ((!r1833)) _ _ _ h (leSt_m [(0, 0)] [] (by (try simp only [g1832]) <;> simp only [push_cast, seval]) (by (try simp only [g1832]) <;> simp only [push_cast, seval]) rfl rfl rfl)
    · rintro t24q3 h
      try dsimp only at h ⊢
      unfold poll_pop_j2 at h
      refine cond_sx h (by kernel_rfl) (fun g1842 h => ?_) (fun g1842 h => ?_)
      · refine seq_np ?_
        refine reg_f ?_
        refine rs 1 [] [] (by kernel_rfl) allP_nil ?_
        refine rf [(6, iS 0)] [(0, .row 25 (Enc.cells c0))] 1 (by kernel_rfl) ?_
        refine wk_id ?_
        obtain rfl := Option.some.inj h
        refine ret_at (iS 0) (by kernel_rfl) ?_
        exact ret_e [(0, 0)] [] (by simp only [push_cast, seval]) (by simp only [push_cast, seval]) rfl rfl rfl
      · refine wk_id ?_
        refine split_s h (fun g1834 h => ?_) (fun g1835 h => ?_)
        · refine seq_np ?_
          refine reg_f ?_
          refine rs 4 [] [] (by kernel_rfl) allP_nil ?_
          refine run_at 26 .i64 way 0 g1834 (by kernel_rfl) ?_
          refine rs 2 [] [] (by kernel_rfl) allP_nil ?_
          refine rf [(7, iS c0.Task_e0)] [(0, .row 25 [bS c0.Closed, bS c0.Ready_e0, bS c0.Ready_e1, iS 0, iS c0.Task_e1, iS c0.Until_e0, iS c0.Until_e1])] 1 (by kernel_rfl) ?_
          refine wk_id ?_
          refine seq_np ?_
          refine reg_f ?_
          refine rs 2 [] [] (by kernel_rfl) allP_nil ?_
          refine rf [(6, iS c0.Task_e0)] [(0, .row 25 [bS c0.Closed, bS c0.Ready_e0, bS c0.Ready_e1, iS 0, iS c0.Task_e1, iS c0.Until_e0, iS c0.Until_e1])] 1 (by kernel_rfl) ?_
          refine wk_id ?_
          obtain rfl := Option.some.inj h
          refine ret_at (iS c0.Task_e0) (by kernel_rfl) ?_
          exact ret_e [(0, 0)] [] (by simp only [push_cast, seval]) (by simp only [push_cast, seval]) rfl rfl rfl
        refine split_s h (fun g1836 h => ?_) (fun g1837 h => ?_)
        · refine seq_np ?_
          refine reg_f ?_
          refine rs 4 [] [] (by kernel_rfl) allP_nil ?_
          refine run_at 26 .i64 way 1 g1836 (by kernel_rfl) ?_
          refine rs 2 [] [] (by kernel_rfl) allP_nil ?_
          refine rf [(7, iS c0.Task_e0)] [(0, .row 25 [bS c0.Closed, bS c0.Ready_e0, bS c0.Ready_e1, iS c0.Task_e0, iS 0, iS c0.Until_e0, iS c0.Until_e1])] 1 (by kernel_rfl) ?_
          refine wk_id ?_
          refine seq_np ?_
          refine reg_f ?_
          refine rs 2 [] [] (by kernel_rfl) allP_nil ?_
          refine rf [(6, iS c0.Task_e0)] [(0, .row 25 [bS c0.Closed, bS c0.Ready_e0, bS c0.Ready_e1, iS c0.Task_e0, iS 0, iS c0.Until_e0, iS c0.Until_e1])] 1 (by kernel_rfl) ?_
          refine wk_id ?_
          obtain rfl := Option.some.inj h
          refine ret_at (iS c0.Task_e0) (by kernel_rfl) ?_
          exact ret_e [(0, 0)] [] (by simp only [push_cast, seval]) (by simp only [push_cast, seval]) rfl rfl rfl
        refine chk_sx h (fun g1841 h => ?_)
        refine seq_np ?_
        refine reg_f ?_
        have k1840 : 0 ≤ way ∧ way < 2 := by first | simpa only [Bool.and_eq_true, decide_eq_true_eq, bne_iff_ne, ne_eq] using g1841 | (simp at g1841 ⊢; omega)
        exfalso
        omega
  refine split_s h (fun g1843 h => ?_) (fun g1844 h => ?_)
  · refine seq_np ?_
    refine reg_f ?_
    refine rs 4 [] [] (by kernel_rfl) allP_nil ?_
    refine run_at 9 .i64 way 1 g1843 (by kernel_rfl) ?_
    refine rs 3 [] [] (by kernel_rfl) allP_nil ?_
    refine rf [(0, .ptr 0 0), (1, iS way), (2, iS now), (7, iS c0.Task_e1)] [(0, .row 25 (Enc.cells c0))] 1 (by kernel_rfl) ?_
    refine wk_id ?_
    refine seq_np ?_
    refine seq_cut (A := Bool) (fun a => ([(0, .ptr 0 0), (1, iS way), (7, iS c0.Task_e1), (24, bS a)], [(0, .row 25 (Enc.cells c0))], 1)) (fun a => (poll_pop_j1 way c0 a) = some r) (fun K1853 hK1853 => ?_) ?_
    · refine reg_f ?_
      refine rs 3 [] [] (by kernel_rfl) allP_nil ?_
      refine run_br h 16 (.inl (by kernel_rfl)) (fun g1854 h => ?_) (fun g1854 h => ?_)
      · refine rs 8 [] [] (by kernel_rfl) allP_nil ?_
        refine rf [(0, .ptr 0 0), (1, iS way), (7, iS c0.Task_e1), (24, bS true)] [(0, .row 25 (Enc.cells c0))] 1 (by kernel_rfl) ?_
        exact hK1853 (true) _ _ _ h (leSt_m [(0, 0)] [] (by (try simp only [g1854]) <;> simp only [push_cast, seval]) (by (try simp only [g1854]) <;> simp only [push_cast, seval]) rfl rfl rfl)
      · refine rs 5 [] [] (by kernel_rfl) allP_nil ?_
        obtain ⟨r1855, hr1855, h⟩ := bind_sx h
        refine run_call 20 [.agg (Enc.cells c0), iS way, iS now] (some 22) (by kernel_rfl) ?_
        refine call_0 (poll_late_spec c0 way now r1855 hr1855) (by simp only [push_cast, seval]) (by simp only [push_cast, seval]) ?_
        refine back_f ?_
        refine rs 2 [] [] (by kernel_rfl) allP_nil ?_
        refine rf [(0, .ptr 0 0), (1, iS way), (7, iS c0.Task_e1), (24, bS (!r1855))] [(0, .row 25 (Enc.cells c0))] 1 (by kernel_rfl) ?_
        exact hK1853 ((!r1855)) _ _ _ h (leSt_m [(0, 0)] [] (by (try simp only [g1854]) <;> simp only [push_cast, seval]) (by (try simp only [g1854]) <;> simp only [push_cast, seval]) rfl rfl rfl)
    · rintro t24q5 h
      try dsimp only at h ⊢
      unfold poll_pop_j1 at h
      refine cond_sx h (by kernel_rfl) (fun g1864 h => ?_) (fun g1864 h => ?_)
      · refine seq_np ?_
        refine reg_f ?_
        refine rs 1 [] [] (by kernel_rfl) allP_nil ?_
        refine rf [(6, iS 0)] [(0, .row 25 (Enc.cells c0))] 1 (by kernel_rfl) ?_
        refine wk_id ?_
        obtain rfl := Option.some.inj h
        refine ret_at (iS 0) (by kernel_rfl) ?_
        exact ret_e [(0, 0)] [] (by simp only [push_cast, seval]) (by simp only [push_cast, seval]) rfl rfl rfl
      · refine wk_id ?_
        refine split_s h (fun g1856 h => ?_) (fun g1857 h => ?_)
        · refine seq_np ?_
          refine reg_f ?_
          refine rs 4 [] [] (by kernel_rfl) allP_nil ?_
          refine run_at 26 .i64 way 0 g1856 (by kernel_rfl) ?_
          refine rs 2 [] [] (by kernel_rfl) allP_nil ?_
          refine rf [(7, iS c0.Task_e1)] [(0, .row 25 [bS c0.Closed, bS c0.Ready_e0, bS c0.Ready_e1, iS 0, iS c0.Task_e1, iS c0.Until_e0, iS c0.Until_e1])] 1 (by kernel_rfl) ?_
          refine wk_id ?_
          refine seq_np ?_
          refine reg_f ?_
          refine rs 2 [] [] (by kernel_rfl) allP_nil ?_
          refine rf [(6, iS c0.Task_e1)] [(0, .row 25 [bS c0.Closed, bS c0.Ready_e0, bS c0.Ready_e1, iS 0, iS c0.Task_e1, iS c0.Until_e0, iS c0.Until_e1])] 1 (by kernel_rfl) ?_
          refine wk_id ?_
          obtain rfl := Option.some.inj h
          refine ret_at (iS c0.Task_e1) (by kernel_rfl) ?_
          exact ret_e [(0, 0)] [] (by simp only [push_cast, seval]) (by simp only [push_cast, seval]) rfl rfl rfl
        refine split_s h (fun g1858 h => ?_) (fun g1859 h => ?_)
        · refine seq_np ?_
          refine reg_f ?_
          refine rs 4 [] [] (by kernel_rfl) allP_nil ?_
          refine run_at 26 .i64 way 1 g1858 (by kernel_rfl) ?_
          refine rs 2 [] [] (by kernel_rfl) allP_nil ?_
          refine rf [(7, iS c0.Task_e1)] [(0, .row 25 [bS c0.Closed, bS c0.Ready_e0, bS c0.Ready_e1, iS c0.Task_e0, iS 0, iS c0.Until_e0, iS c0.Until_e1])] 1 (by kernel_rfl) ?_
          refine wk_id ?_
          refine seq_np ?_
          refine reg_f ?_
          refine rs 2 [] [] (by kernel_rfl) allP_nil ?_
          refine rf [(6, iS c0.Task_e1)] [(0, .row 25 [bS c0.Closed, bS c0.Ready_e0, bS c0.Ready_e1, iS c0.Task_e0, iS 0, iS c0.Until_e0, iS c0.Until_e1])] 1 (by kernel_rfl) ?_
          refine wk_id ?_
          obtain rfl := Option.some.inj h
          refine ret_at (iS c0.Task_e1) (by kernel_rfl) ?_
          exact ret_e [(0, 0)] [] (by simp only [push_cast, seval]) (by simp only [push_cast, seval]) rfl rfl rfl
        refine chk_sx h (fun g1863 h => ?_)
        refine seq_np ?_
        refine reg_f ?_
        have k1862 : 0 ≤ way ∧ way < 2 := by first | simpa only [Bool.and_eq_true, decide_eq_true_eq, bne_iff_ne, ne_eq] using g1863 | (simp at g1863 ⊢; omega)
        exfalso
        omega
  refine chk_sx h (fun g1868 h => ?_)
  refine seq_np ?_
  refine reg_f ?_
  have k1867 : 0 ≤ way ∧ way < 2 := by first | simpa only [Bool.and_eq_true, decide_eq_true_eq, bne_iff_ne, ne_eq] using g1868 | (simp at g1868 ⊢; omega)
  exfalso
  omega

end Go.Proofs.Ytbglmhcpfjmadaa
