/-
  What laws of the chapter ring compute, and lemmas on it.
  No conditions.
-/
import Derived.Test.YtgmklpakhdladaaringW1
set_option linter.unusedSimpArgs false
set_option linter.unusedVariables false
namespace Go.Proofs.Ytgmklpakhdladaa
open Go Go.Sx
attribute [local irreducible] Wk RunAt
set_option maxRecDepth 100000 in
set_option maxHeartbeats 10000000 in
theorem taskmilllaw_RingRefills_spec (q : Ring) (global : (List Int)) (procs : Int) (r : Bool) (h : taskmilllaw_RingRefills q global procs = some r) : SpecW Try.prog 7 [.agg (Enc.cells q), .sl global.length (fl global), iS procs] [] 0 (fun x h n => x = bS r ∧ h = [] ∧ n = 0) := by
  unfold taskmilllaw_RingRefills at h
  refine spec_of (draw_ok _) Try.func7 rfl (by decide) rfl (by kernel_rfl) ?_
  refine seq_np ?_
  refine reg_f ?_
  refine rs 2 [] [] (by kernel_rfl) allP_nil ?_
  refine rf [(1, .sl global.length (fl global)), (2, iS procs), (3, .ptr 0 0)] [(0, .row 24 (Enc.cells q))] 1 (by kernel_rfl) ?_
  refine wk_id ?_
  refine seq_np ?_
  refine seq_np ?_
  refine reg_f ?_
  obtain ⟨r1798, hr1798, h⟩ := bind_sx h
  refine run_call 11 [] (some 14) (by kernel_rfl) ?_
  refine call_0 (taskmilllaw_ringBegun_spec r1798 hr1798) (by simp only [push_cast, seval]) (by simp only [push_cast, seval]) ?_
  refine back_f ?_
  refine rs 1 [] [] (by kernel_rfl) allP_nil ?_
  refine rf [(1, .sl global.length (fl global)), (2, iS procs), (3, .ptr 0 0), (15, bS (!r1798))] [(0, .row 24 (Enc.cells q))] 1 (by kernel_rfl) ?_
  refine wk_id ?_
  refine cond_sx h (by kernel_rfl) (fun g2194 h => ?_) (fun g2194 h => ?_)
  · refine seq_np ?_
    refine reg_f ?_
    refine rs 1 [] [] (by kernel_rfl) allP_nil ?_
    refine rf [(6, bS false)] [(0, .row 24 (Enc.cells q))] 1 (by kernel_rfl) ?_
    refine wk_id ?_
    obtain rfl := Option.some.inj h
    refine ret_at (bS false) (by kernel_rfl) ?_
    exact ret_e [] [] (by simp only [push_cast, seval]) (by simp only [push_cast, seval]) rfl rfl rfl
  · refine wk_id ?_
    refine seq_np ?_
    refine seq_cut (A := Unit) (fun _ => ([(1, .sl global.length (fl global)), (2, iS procs), (3, .ptr 0 0), (24, bS ((decide ((2000 : Int) < ((q.List.length : Nat) : Int))) || (decide ((6000 : Int) < ((global.length : Nat) : Int)))))], [(0, .row 24 (Enc.cells q))], 1)) (fun _ => True) (fun K1802 hK1802 => ?_) (fun _ _ => ?_)
    · refine reg_f ?_
      refine rs 5 [] [] (by kernel_rfl) allP_nil ?_
      refine run_split 20 (decide ((2000 : Int) < ((q.List.length : Nat) : Int))) (.inl (by kernel_rfl)) (fun g1803 => ?_) (fun g1803 => ?_)
      · refine rs 4 [] [] (by kernel_rfl) allP_nil ?_
        refine rf [(1, .sl global.length (fl global)), (2, iS procs), (3, .ptr 0 0), (24, bS true)] [(0, .row 24 (Enc.cells q))] 1 (by kernel_rfl) ?_
        exact hK1802 () _ _ _ trivial (leSt_m [(0, 0)] [] (by (try simp only [g1803]) <;> simp only [push_cast, seval]) (by (try simp only [g1803]) <;> simp only [push_cast, seval]) rfl rfl rfl)
      · refine rs 4 [] [] (by kernel_rfl) allP_nil ?_
        refine rf [(1, .sl global.length (fl global)), (2, iS procs), (3, .ptr 0 0), (24, bS (decide ((6000 : Int) < ((global.length : Nat) : Int))))] [(0, .row 24 (Enc.cells q))] 1 (by kernel_rfl) ?_
        exact hK1802 () _ _ _ trivial (leSt_m [(0, 0)] [] (by (try simp only [g1803]) <;> simp only [push_cast, seval]) (by (try simp only [g1803]) <;> simp only [push_cast, seval]) rfl rfl rfl)
    · dsimp only
      refine cond_sx h (by kernel_rfl) (fun g2193 h => ?_) (fun g2193 h => ?_)
      · refine seq_np ?_
        refine reg_f ?_
        refine rs 1 [] [] (by kernel_rfl) allP_nil ?_
        refine rf [(6, bS true)] [(0, .row 24 (Enc.cells q))] 1 (by kernel_rfl) ?_
        refine wk_id ?_
        obtain rfl := Option.some.inj h
        refine ret_at (bS true) (by kernel_rfl) ?_
        exact ret_e [] [] (by simp only [push_cast, seval]) (by simp only [push_cast, seval]) rfl rfl rfl
      · refine wk_id ?_
        refine seq_np ?_
        refine reg_f ?_
        refine rs 1 [] [] (by kernel_rfl) allP_nil ?_
        obtain ⟨r1807, hr1807, h⟩ := bind_sx h
        refine call_x (taskmilllaw_ownRing_spec q r1807 hr1807) (args := [.agg (Enc.cells q)]) (dst := (some 27)) (by kernel_rfl) [(0, .row 24 (Enc.cells q))] 1 (by kernel_rfl) [] [] (.agg [iS r1807.1, .own 1 0 r1807.2.length]) [(1, .row 3 (fl r1807.2))] (by simp only [push_cast, seval]) (by simp only [push_cast, seval]) (by kernel_rfl) (.inl rfl) (by simp only [push_cast, seval]) (by simp only [push_cast, seval]) ?_
        refine rs 1 [] [] (by kernel_rfl) allP_nil ?_
        obtain ⟨r1808, hr1808, h⟩ := bind_sx h
        refine call_x (taskmilllaw_own_spec global r1808 hr1808) (args := [.sl global.length (fl global)]) (dst := (some 29)) (by kernel_rfl) [(0, .row 24 (Enc.cells q)), (1, .row 3 (fl r1807.2))] 2 (by kernel_rfl) [] [] (.own 2 0 r1808.length) [(2, .row 3 (fl r1808))] (by simp only [push_cast, seval]) (by simp only [push_cast, seval]) (by kernel_rfl) (.inl rfl) (by simp only [push_cast, seval]) (by simp only [push_cast, seval]) ?_
        refine rs 1 [] [] (by kernel_rfl) allP_nil ?_
        obtain ⟨r1809, hr1809, h⟩ := bind_sx h
        refine call_x (ring_Refill_spec (Ring.mk r1807.1 r1807.2) r1808 procs r1809 hr1809) (args := [.agg [iS r1807.1, .own 1 0 r1807.2.length], .own 2 0 r1808.length, iS procs]) (dst := (some 31)) (by kernel_rfl) [(0, .row 24 (Enc.cells q)), (1, .row 3 (fl r1807.2)), (2, .row 3 (fl r1808))] 3 (by kernel_rfl) [] [1, 2] (.tup [.agg [iS r1809.1, .own 3 0 r1809.2.2.1.length], .own 4 0 r1809.2.2.2.length, .agg (Enc.cells r1809.2.1)]) [(3, .row 3 (fl r1809.2.2.1)), (4, .row 3 (fl r1809.2.2.2))] (by simp only [push_cast, seval]) (by simp only [push_cast, seval]) (by kernel_rfl) (.inr ⟨by simp only [push_cast, seval], by simp only [push_cast, seval]⟩) (by simp only [push_cast, seval]) (by simp only [push_cast, seval]) ?_
        refine rs 9 [] [] (by kernel_rfl) allP_nil ?_
        refine rf [(1, .sl global.length (fl global)), (2, iS procs), (3, .ptr 0 0), (7, .ptr 5 0), (8, .own 4 0 r1809.2.2.2.length), (9, .ptr 6 0)] [(0, .row 24 (Enc.cells q)), (1, .row 3 (fl r1807.2)), (2, .row 3 (fl r1808)), (3, .row 3 (fl r1809.2.2.1)), (4, .row 3 (fl r1809.2.2.2)), (5, .row 24 [iS r1809.1, .own 3 0 r1809.2.2.1.length]), (6, .row 28 (Enc.cells r1809.2.1))] 7 (by kernel_rfl) ?_
        refine wk_id ?_
        refine seq_np ?_
        refine reg_f ?_
        refine rs 1 [] [] (by kernel_rfl) allP_nil ?_
        obtain ⟨r1811, hr1811, h⟩ := bind_sx h
        refine run_call 15 [.agg (Enc.cells q)] (some 36) (by kernel_rfl) ?_
        refine call_0 (taskmillref_RingFault_spec q r1811 hr1811) (by simp only [push_cast, seval]) (by simp only [push_cast, seval]) ?_
        refine back_f ?_
        refine rs 2 [] [] (by kernel_rfl) allP_nil ?_
        refine rf [(1, .sl global.length (fl global)), (2, iS procs), (3, .ptr 0 0), (7, .ptr 5 0), (8, .own 4 0 r1809.2.2.2.length), (9, .ptr 6 0), (10, .ptr 7 0)] [(0, .row 24 (Enc.cells q)), (1, .row 3 (fl r1807.2)), (2, .row 3 (fl r1808)), (3, .row 3 (fl r1809.2.2.1)), (4, .row 3 (fl r1809.2.2.2)), (5, .row 24 [iS r1809.1, .own 3 0 r1809.2.2.1.length]), (6, .row 28 (Enc.cells r1809.2.1)), (7, .row 28 (Enc.cells r1811))] 8 (by kernel_rfl) ?_
        refine wk_id ?_
        refine seq_cut (A := Int × (List Int) × Fault × Fault × (List Int)) (fun a => ([(1, .sl global.length (fl global)), (2, iS procs), (3, .ptr 0 0), (7, .ptr 1 0), (8, .own 2 0 a.2.1.length), (9, .ptr 3 0), (10, .ptr 4 0)], [(0, .row 24 (Enc.cells q)), (1, .row 24 [iS a.1, .own 5 0 a.2.2.2.2.length]), (2, .row 3 (fl a.2.1)), (3, .row 28 (Enc.cells a.2.2.1)), (4, .row 28 (Enc.cells a.2.2.2.1)), (5, .row 3 (fl a.2.2.2.2))], 6)) (fun a => (taskmilllaw_RingRefills_j10 q global procs a.1 a.2.1 a.2.2.1 a.2.2.2.1 a.2.2.2.2) = some r) (fun K1816 hK1816 => ?_) ?_
        · refine seq_cut (A := Unit) (fun _ => ([(1, .sl global.length (fl global)), (2, iS procs), (3, .ptr 0 0), (7, .ptr 5 0), (8, .own 4 0 r1809.2.2.2.length), (9, .ptr 6 0), (10, .ptr 7 0), (44, bS ((r1811.Code == 0) && (decide ((5000 : Int) < ((global.length : Nat) : Int)))))], [(0, .row 24 (Enc.cells q)), (1, .row 3 (fl r1807.2)), (2, .row 3 (fl r1808)), (3, .row 3 (fl r1809.2.2.1)), (4, .row 3 (fl r1809.2.2.2)), (5, .row 24 [iS r1809.1, .own 3 0 r1809.2.2.1.length]), (6, .row 28 (Enc.cells r1809.2.1)), (7, .row 28 (Enc.cells r1811))], 8)) (fun _ => True) (fun K1818 hK1818 => ?_) (fun _ _ => ?_)
          · refine reg_f ?_
            refine rs 4 [] [] (by kernel_rfl) allP_nil ?_
            refine run_split 40 (r1811.Code == 0) (.inl (by kernel_rfl)) (fun g1819 => ?_) (fun g1819 => ?_)
            · refine rs 4 [] [] (by kernel_rfl) allP_nil ?_
              refine rf [(1, .sl global.length (fl global)), (2, iS procs), (3, .ptr 0 0), (7, .ptr 5 0), (8, .own 4 0 r1809.2.2.2.length), (9, .ptr 6 0), (10, .ptr 7 0), (44, bS (decide ((5000 : Int) < ((global.length : Nat) : Int))))] [(0, .row 24 (Enc.cells q)), (1, .row 3 (fl r1807.2)), (2, .row 3 (fl r1808)), (3, .row 3 (fl r1809.2.2.1)), (4, .row 3 (fl r1809.2.2.2)), (5, .row 24 [iS r1809.1, .own 3 0 r1809.2.2.1.length]), (6, .row 28 (Enc.cells r1809.2.1)), (7, .row 28 (Enc.cells r1811))] 8 (by kernel_rfl) ?_
              exact hK1818 () _ _ _ trivial (leSt_m [(0, 0), (1, 1), (2, 2), (3, 3), (4, 4), (5, 5), (6, 6), (7, 7)] [] (by (try simp only [g1819]) <;> simp only [push_cast, seval]) (by (try simp only [g1819]) <;> simp only [push_cast, seval]) rfl rfl rfl)
            · refine rs 4 [] [] (by kernel_rfl) allP_nil ?_
              refine rf [(1, .sl global.length (fl global)), (2, iS procs), (3, .ptr 0 0), (7, .ptr 5 0), (8, .own 4 0 r1809.2.2.2.length), (9, .ptr 6 0), (10, .ptr 7 0), (44, bS false)] [(0, .row 24 (Enc.cells q)), (1, .row 3 (fl r1807.2)), (2, .row 3 (fl r1808)), (3, .row 3 (fl r1809.2.2.1)), (4, .row 3 (fl r1809.2.2.2)), (5, .row 24 [iS r1809.1, .own 3 0 r1809.2.2.1.length]), (6, .row 28 (Enc.cells r1809.2.1)), (7, .row 28 (Enc.cells r1811))] 8 (by kernel_rfl) ?_
              exact hK1818 () _ _ _ trivial (leSt_m [(0, 0), (1, 1), (2, 2), (3, 3), (4, 4), (5, 5), (6, 6), (7, 7)] [] (by (try simp only [g1819]) <;> simp only [push_cast, seval]) (by (try simp only [g1819]) <;> simp only [push_cast, seval]) rfl rfl rfl)
          · dsimp only
            refine cond_sx h (by kernel_rfl) (fun g1822 h => ?_) (fun g1822 h => ?_)
            · refine reg_f ?_
              obtain ⟨r1821, hr1821, h⟩ := bind_sx h
              refine run_call 17 [iS 2, iS (-1)] (some 45) (by kernel_rfl) ?_
              refine call_0 (taskmillref_F_spec 2 (-1) r1821 hr1821) (by simp only [push_cast, seval]) (by simp only [push_cast, seval]) ?_
              refine back_f ?_
              refine rs 1 [] [] (by kernel_rfl) allP_nil ?_
              refine rf [(1, .sl global.length (fl global)), (2, iS procs), (3, .ptr 0 0), (7, .ptr 5 0), (8, .own 4 0 r1809.2.2.2.length), (9, .ptr 6 0), (10, .ptr 7 0)] [(0, .row 24 (Enc.cells q)), (1, .row 3 (fl r1807.2)), (2, .row 3 (fl r1808)), (3, .row 3 (fl r1809.2.2.1)), (4, .row 3 (fl r1809.2.2.2)), (5, .row 24 [iS r1809.1, .own 3 0 r1809.2.2.1.length]), (6, .row 28 (Enc.cells r1809.2.1)), (7, .row 28 (Enc.cells r1821))] 8 (by kernel_rfl) ?_
              exact hK1816 (r1809.1, r1809.2.2.2, r1809.2.1, r1821, r1809.2.2.1) _ _ _ h (leSt_m [(0, 0), (1, 5), (2, 4), (3, 6), (4, 7), (5, 3)] [] (by simp only [push_cast, seval]) (by simp only [push_cast, seval]) rfl rfl rfl)
            · exact hK1816 (r1809.1, r1809.2.2.2, r1809.2.1, r1811, r1809.2.2.1) _ _ _ h (leSt_m [(0, 0), (1, 5), (2, 4), (3, 6), (4, 7), (5, 3)] [] (by simp only [push_cast, seval]) (by simp only [push_cast, seval]) rfl rfl rfl)
        · rintro ⟨c1_Next1, c2q1, c3q1, c4q12, c5q1⟩ h
          try dsimp only at h ⊢
          unfold taskmilllaw_RingRefills_j10 at h
          refine seq_np ?_
          refine seq_np ?_
          refine reg_f ?_
          refine rs 1 [] [] (by kernel_rfl) allP_nil ?_
          refine rf [(1, .sl global.length (fl global)), (2, iS procs), (3, .ptr 0 0), (7, .ptr 1 0), (8, .own 2 0 c2q1.length), (9, .ptr 3 0), (10, .ptr 4 0), (11, iS 0)] [(0, .row 24 (Enc.cells q)), (1, .row 24 [iS c1_Next1, .own 5 0 c5q1.length]), (2, .row 3 (fl c2q1)), (3, .row 28 (Enc.cells c3q1)), (4, .row 28 (Enc.cells c4q12)), (5, .row 3 (fl c5q1))] 6 (by kernel_rfl) ?_
          refine wk_id ?_
          refine block_np ?_
          refine loop_sx (S := Int × Fault) (fun a => ([(1, .sl global.length (fl global)), (2, iS procs), (3, .ptr 0 0), (7, .ptr 1 0), (8, .own 2 0 c2q1.length), (9, .ptr 3 0), (10, .ptr 4 0), (11, iS a.1)], [(0, .row 24 (Enc.cells q)), (1, .row 24 [iS c1_Next1, .own 5 0 c5q1.length]), (2, .row 3 (fl c2q1)), (3, .row 28 (Enc.cells c3q1)), (4, .row 28 (Enc.cells a.2)), (5, .row 3 (fl c5q1))], 6)) h (leSt_m [(0, 0), (1, 1), (2, 2), (3, 3), (4, 4), (5, 5)] [] (by simp only [push_cast, seval]) (by simp only [push_cast, seval]) rfl rfl rfl) ?_
          rintro ⟨i9, c4q26⟩ o3 R3 h hr3 hn3 hx3 ht3
          try dsimp only at h hn3 ⊢
          unfold taskmilllaw_RingRefills_l2 at h
          try dsimp only at h
          refine seq_np ?_
          refine seq_cut (A := Unit) (fun _ => ([(1, .sl global.length (fl global)), (2, iS procs), (3, .ptr 0 0), (7, .ptr 1 0), (8, .own 2 0 c2q1.length), (9, .ptr 3 0), (10, .ptr 4 0), (11, iS i9), (54, bS ((decide (i9 < ((global.length : Nat) : Int))) && (c4q26.Code == 0)))], [(0, .row 24 (Enc.cells q)), (1, .row 24 [iS c1_Next1, .own 5 0 c5q1.length]), (2, .row 3 (fl c2q1)), (3, .row 28 (Enc.cells c3q1)), (4, .row 28 (Enc.cells c4q26)), (5, .row 3 (fl c5q1))], 6)) (fun _ => True) (fun K1893 hK1893 => ?_) (fun _ _ => ?_)
          · refine reg_f ?_
            refine rs 5 [] [] (by kernel_rfl) allP_nil ?_
            refine run_split 50 (decide (i9 < ((global.length : Nat) : Int))) (.inl (by kernel_rfl)) (fun g1894 => ?_) (fun g1894 => ?_)
            · refine rs 4 [] [] (by kernel_rfl) allP_nil ?_
              refine rf [(1, .sl global.length (fl global)), (2, iS procs), (3, .ptr 0 0), (7, .ptr 1 0), (8, .own 2 0 c2q1.length), (9, .ptr 3 0), (10, .ptr 4 0), (11, iS i9), (54, bS (c4q26.Code == 0))] [(0, .row 24 (Enc.cells q)), (1, .row 24 [iS c1_Next1, .own 5 0 c5q1.length]), (2, .row 3 (fl c2q1)), (3, .row 28 (Enc.cells c3q1)), (4, .row 28 (Enc.cells c4q26)), (5, .row 3 (fl c5q1))] 6 (by kernel_rfl) ?_
              exact hK1893 () _ _ _ trivial (leSt_m [(0, 0), (1, 1), (2, 2), (3, 3), (4, 4), (5, 5)] [] (by (try simp only [g1894]) <;> simp only [push_cast, seval]) (by (try simp only [g1894]) <;> simp only [push_cast, seval]) rfl rfl rfl)
            · refine rs 4 [] [] (by kernel_rfl) allP_nil ?_
              refine rf [(1, .sl global.length (fl global)), (2, iS procs), (3, .ptr 0 0), (7, .ptr 1 0), (8, .own 2 0 c2q1.length), (9, .ptr 3 0), (10, .ptr 4 0), (11, iS i9), (54, bS false)] [(0, .row 24 (Enc.cells q)), (1, .row 24 [iS c1_Next1, .own 5 0 c5q1.length]), (2, .row 3 (fl c2q1)), (3, .row 28 (Enc.cells c3q1)), (4, .row 28 (Enc.cells c4q26)), (5, .row 3 (fl c5q1))] 6 (by kernel_rfl) ?_
              exact hK1893 () _ _ _ trivial (leSt_m [(0, 0), (1, 1), (2, 2), (3, 3), (4, 4), (5, 5)] [] (by (try simp only [g1894]) <;> simp only [push_cast, seval]) (by (try simp only [g1894]) <;> simp only [push_cast, seval]) rfl rfl rfl)
          · dsimp only
            refine cond_sx h (by kernel_rfl) (fun g2192 h => ?_) (fun g2192 h => ?_)
            · refine wk_id ?_
              refine seq_np ?_
              refine block_cut (A := Fault) (fun a => ([(1, .sl global.length (fl global)), (2, iS procs), (3, .ptr 0 0), (7, .ptr 1 0), (8, .own 2 0 c2q1.length), (9, .ptr 3 0), (10, .ptr 4 0), (11, iS i9)], [(0, .row 24 (Enc.cells q)), (1, .row 24 [iS c1_Next1, .own 5 0 c5q1.length]), (2, .row 3 (fl c2q1)), (3, .row 28 (Enc.cells c3q1)), (4, .row 28 (Enc.cells a)), (5, .row 3 (fl c5q1))], 6)) (fun a => (taskmilllaw_RingRefills_j1 q global procs c1_Next1 c2q1 c3q1 c5q1 i9 a) = some o3) (fun K1906 hK1906 => ?_) ?_
              · refine chk_sx h (fun g1910 h => ?_)
                refine seq_np ?_
                refine reg_f ?_
                have k1909 : 0 ≤ i9 ∧ i9 < ((global.length : Nat) : Int) := by first | simpa only [Bool.and_eq_true, decide_eq_true_eq, bne_iff_ne, ne_eq] using g1910 | (simp at g1910 ⊢; omega)
                refine rs 5 [none, none, some ⟨.iptr (fl global) ((i9).toNat * 1), [], 6, []⟩, some ⟨iS (ix global i9), [], 6, []⟩] _ (by kernel_rfl) (allP_cons (ob_ld global i9 1 0 ((i9).toNat * 1) k1909 rfl (by decide) (by first | rfl | omega) (dflS Try.prog 3) (iS (ix global i9)) rfl 6 []) (allP_cons (ob_ix_l global 1 6 i9 k1909) allP_nil)) ?_
                refine rf [(1, .sl global.length (fl global)), (2, iS procs), (3, .ptr 0 0), (7, .ptr 1 0), (8, .own 2 0 c2q1.length), (9, .ptr 3 0), (10, .ptr 4 0), (11, iS i9), (61, bS (decide ((ix global i9) < 1)))] [(0, .row 24 (Enc.cells q)), (1, .row 24 [iS c1_Next1, .own 5 0 c5q1.length]), (2, .row 3 (fl c2q1)), (3, .row 28 (Enc.cells c3q1)), (4, .row 28 (Enc.cells c4q26)), (5, .row 3 (fl c5q1))] 6 (by kernel_rfl) ?_
                refine wk_id ?_
                refine cond_sx h (by kernel_rfl) (fun g1913 h => ?_) (fun g1913 h => ?_)
                · refine reg_f ?_
                  refine rs 1 [] [] (by kernel_rfl) allP_nil ?_
                  obtain ⟨r1912, hr1912, h⟩ := bind_sx h
                  refine run_call 17 [iS 5, iS i9] (some 63) (by kernel_rfl) ?_
                  refine call_0 (taskmillref_F_spec 5 i9 r1912 hr1912) (by simp only [push_cast, seval]) (by simp only [push_cast, seval]) ?_
                  refine back_f ?_
                  refine rs 1 [] [] (by kernel_rfl) allP_nil ?_
                  refine rf [(1, .sl global.length (fl global)), (2, iS procs), (3, .ptr 0 0), (7, .ptr 1 0), (8, .own 2 0 c2q1.length), (9, .ptr 3 0), (10, .ptr 4 0), (11, iS i9)] [(0, .row 24 (Enc.cells q)), (1, .row 24 [iS c1_Next1, .own 5 0 c5q1.length]), (2, .row 3 (fl c2q1)), (3, .row 28 (Enc.cells c3q1)), (4, .row 28 (Enc.cells r1912)), (5, .row 3 (fl c5q1))] 6 (by kernel_rfl) ?_
                  exact hK1906 (r1912) _ _ _ h (leSt_m [(0, 0), (1, 1), (2, 2), (3, 3), (4, 4), (5, 5)] [] (by simp only [push_cast, seval]) (by simp only [push_cast, seval]) rfl rfl rfl)
                · exact hK1906 (c4q26) _ _ _ h (leSt_m [(0, 0), (1, 1), (2, 2), (3, 3), (4, 4), (5, 5)] [] (by simp only [push_cast, seval]) (by simp only [push_cast, seval]) rfl rfl rfl)
              · rintro c4q28 h
                try dsimp only at h ⊢
                unfold taskmilllaw_RingRefills_j1 at h
                refine wk_id ?_
                refine reg_f ?_
                refine rs 3 [] [] (by kernel_rfl) allP_nil ?_
                refine rf [(1, .sl global.length (fl global)), (2, iS procs), (3, .ptr 0 0), (7, .ptr 1 0), (8, .own 2 0 c2q1.length), (9, .ptr 3 0), (10, .ptr 4 0), (11, iS (IntKind.i64.wrap (i9 + 1)))] [(0, .row 24 (Enc.cells q)), (1, .row 24 [iS c1_Next1, .own 5 0 c5q1.length]), (2, .row 3 (fl c2q1)), (3, .row 28 (Enc.cells c3q1)), (4, .row 28 (Enc.cells c4q28)), (5, .row 3 (fl c5q1))] 6 (by kernel_rfl) ?_
                exact hn3 ((IntKind.i64.wrap (i9 + 1)), c4q28) _ _ _ (Option.some.inj h).symm (leSt_m [(0, 0), (1, 1), (2, 2), (3, 3), (4, 4), (5, 5)] [] (by simp only [push_cast, seval]) (by simp only [push_cast, seval]) rfl rfl rfl)
            · refine ex_cast hx3 (id := 0) ?_
              obtain ⟨r0, h, e0⟩ := map_sx h
              have e1 := hr3 r0 e0.symm
              subst r0
              refine wk_id ?_
              refine wk_id ?_
              refine seq_np ?_
              refine seq_np ?_
              refine reg_f ?_
              refine rs 1 [] [] (by kernel_rfl) allP_nil ?_
              refine rf [(1, .sl global.length (fl global)), (2, iS procs), (3, .ptr 0 0), (7, .ptr 1 0), (8, .own 2 0 c2q1.length), (9, .ptr 3 0), (10, .ptr 4 0), (12, iS 0)] [(0, .row 24 (Enc.cells q)), (1, .row 24 [iS c1_Next1, .own 5 0 c5q1.length]), (2, .row 3 (fl c2q1)), (3, .row 28 (Enc.cells c3q1)), (4, .row 28 (Enc.cells c4q26)), (5, .row 3 (fl c5q1))] 6 (by kernel_rfl) ?_
              refine wk_id ?_
              refine block_np ?_
              refine loop_sx (S := Int × Fault) (fun a => ([(1, .sl global.length (fl global)), (2, iS procs), (3, .ptr 0 0), (7, .ptr 1 0), (8, .own 2 0 c2q1.length), (9, .ptr 3 0), (10, .ptr 4 0), (12, iS a.1)], [(0, .row 24 (Enc.cells q)), (1, .row 24 [iS c1_Next1, .own 5 0 c5q1.length]), (2, .row 3 (fl c2q1)), (3, .row 28 (Enc.cells c3q1)), (4, .row 28 (Enc.cells a.2)), (5, .row 3 (fl c5q1))], 6)) h (leSt_m [(0, 0), (1, 1), (2, 2), (3, 3), (4, 4), (5, 5)] [] (by simp only [push_cast, seval]) (by simp only [push_cast, seval]) rfl rfl rfl) ?_
              rintro ⟨i15, c4q42⟩ o4 R4 h hr4 hn4 hx4 ht4
              try dsimp only at h hn4 ⊢
              unfold taskmilllaw_RingRefills_l1 at h
              try dsimp only at h
              refine seq_np ?_
              refine seq_cut (A := Unit) (fun _ => ([(1, .sl global.length (fl global)), (2, iS procs), (3, .ptr 0 0), (7, .ptr 1 0), (8, .own 2 0 c2q1.length), (9, .ptr 3 0), (10, .ptr 4 0), (12, iS i15), (72, bS ((decide (i15 < ((global.length : Nat) : Int))) && (c4q42.Code == 0)))], [(0, .row 24 (Enc.cells q)), (1, .row 24 [iS c1_Next1, .own 5 0 c5q1.length]), (2, .row 3 (fl c2q1)), (3, .row 28 (Enc.cells c3q1)), (4, .row 28 (Enc.cells c4q42)), (5, .row 3 (fl c5q1))], 6)) (fun _ => True) (fun K2064 hK2064 => ?_) (fun _ _ => ?_)
              · refine reg_f ?_
                refine rs 5 [] [] (by kernel_rfl) allP_nil ?_
                refine run_split 68 (decide (i15 < ((global.length : Nat) : Int))) (.inl (by kernel_rfl)) (fun g2065 => ?_) (fun g2065 => ?_)
                · refine rs 4 [] [] (by kernel_rfl) allP_nil ?_
                  refine rf [(1, .sl global.length (fl global)), (2, iS procs), (3, .ptr 0 0), (7, .ptr 1 0), (8, .own 2 0 c2q1.length), (9, .ptr 3 0), (10, .ptr 4 0), (12, iS i15), (72, bS (c4q42.Code == 0))] [(0, .row 24 (Enc.cells q)), (1, .row 24 [iS c1_Next1, .own 5 0 c5q1.length]), (2, .row 3 (fl c2q1)), (3, .row 28 (Enc.cells c3q1)), (4, .row 28 (Enc.cells c4q42)), (5, .row 3 (fl c5q1))] 6 (by kernel_rfl) ?_
                  exact hK2064 () _ _ _ trivial (leSt_m [(0, 0), (1, 1), (2, 2), (3, 3), (4, 4), (5, 5)] [] (by (try simp only [g2065]) <;> simp only [push_cast, seval]) (by (try simp only [g2065]) <;> simp only [push_cast, seval]) rfl rfl rfl)
                · refine rs 4 [] [] (by kernel_rfl) allP_nil ?_
                  refine rf [(1, .sl global.length (fl global)), (2, iS procs), (3, .ptr 0 0), (7, .ptr 1 0), (8, .own 2 0 c2q1.length), (9, .ptr 3 0), (10, .ptr 4 0), (12, iS i15), (72, bS false)] [(0, .row 24 (Enc.cells q)), (1, .row 24 [iS c1_Next1, .own 5 0 c5q1.length]), (2, .row 3 (fl c2q1)), (3, .row 28 (Enc.cells c3q1)), (4, .row 28 (Enc.cells c4q42)), (5, .row 3 (fl c5q1))] 6 (by kernel_rfl) ?_
                  exact hK2064 () _ _ _ trivial (leSt_m [(0, 0), (1, 1), (2, 2), (3, 3), (4, 4), (5, 5)] [] (by (try simp only [g2065]) <;> simp only [push_cast, seval]) (by (try simp only [g2065]) <;> simp only [push_cast, seval]) rfl rfl rfl)
              · dsimp only
                refine cond_sx h (by kernel_rfl) (fun g2191 h => ?_) (fun g2191 h => ?_)
                · refine wk_id ?_
                  refine seq_np ?_
                  refine block_cut (A := Fault) (fun a => ([(1, .sl global.length (fl global)), (2, iS procs), (3, .ptr 0 0), (7, .ptr 1 0), (8, .own 2 0 c2q1.length), (9, .ptr 3 0), (10, .ptr 4 0), (12, iS i15)], [(0, .row 24 (Enc.cells q)), (1, .row 24 [iS c1_Next1, .own 5 0 c5q1.length]), (2, .row 3 (fl c2q1)), (3, .row 28 (Enc.cells c3q1)), (4, .row 28 (Enc.cells a)), (5, .row 3 (fl c5q1))], 6)) (fun a => (taskmilllaw_RingRefills_j2 q global procs c1_Next1 c2q1 c3q1 c5q1 i15 a) = some o4) (fun K2097 hK2097 => ?_) ?_
                  · refine seq_cut (A := Bool) (fun a => ([(1, .sl global.length (fl global)), (2, iS procs), (3, .ptr 0 0), (7, .ptr 1 0), (8, .own 2 0 c2q1.length), (9, .ptr 3 0), (10, .ptr 4 0), (12, iS i15), (91, bS a)], [(0, .row 24 (Enc.cells q)), (1, .row 24 [iS c1_Next1, .own 5 0 c5q1.length]), (2, .row 3 (fl c2q1)), (3, .row 28 (Enc.cells c3q1)), (4, .row 28 (Enc.cells c4q42)), (5, .row 3 (fl c5q1))], 6)) (fun a => (taskmilllaw_RingRefills_j3 q global procs c1_Next1 c2q1 c3q1 c5q1 i15 c4q42 a) = some o4) (fun K2109 hK2109 => ?_) ?_
                    · refine reg_t ?_
                      refine rs 1 [] [] (by kernel_rfl) allP_nil ?_
                      obtain ⟨r2110, hr2110, h⟩ := bind_sx h
                      refine call_x (taskmillref_Line_spec q r2110 hr2110) (args := [.agg (Enc.cells q)]) (dst := (some 76)) (by kernel_rfl) [(0, .row 24 (Enc.cells q)), (1, .row 24 [iS c1_Next1, .own 5 0 c5q1.length]), (2, .row 3 (fl c2q1)), (3, .row 28 (Enc.cells c3q1)), (4, .row 28 (Enc.cells c4q42)), (5, .row 3 (fl c5q1))] 7 (by kernel_rfl) [] [] (.own 7 0 r2110.length) [(7, .row 3 (fl r2110))] (by simp only [push_cast, seval]) (by simp only [push_cast, seval]) (by kernel_rfl) (.inl rfl) (by simp only [push_cast, seval]) (by simp only [push_cast, seval]) ?_
                      refine chk_sx h (fun g2112 h => ?_)
                      have k2111 : 0 ≤ i15 ∧ i15 < ((global.length : Nat) : Int) := by first | simpa only [Bool.and_eq_true, decide_eq_true_eq, bne_iff_ne, ne_eq] using g2112 | (simp at g2112 ⊢; omega)
                      refine rs 4 [none, none, some ⟨.iptr (fl global) ((i15).toNat * 1), [], 11, []⟩, some ⟨iS (ix global i15), [], 12, []⟩] _ (by kernel_rfl) (allP_cons (ob_ld global i15 1 0 ((i15).toNat * 1) k2111 rfl (by decide) (by first | rfl | omega) (dflS Try.prog 3) (iS (ix global i15)) rfl 12 []) (allP_cons (ob_ix_l global 1 11 i15 k2111) allP_nil)) ?_
                      obtain ⟨r2113, hr2113, h⟩ := bind_sx h
                      refine call_x (taskmillref_Has_spec r2110 (ix global i15) r2113 hr2113) (args := [.own 7 0 r2110.length, iS (ix global i15)]) (dst := (some 81)) (by kernel_rfl) [(0, .row 24 (Enc.cells q)), (1, .row 24 [iS c1_Next1, .own 5 0 c5q1.length]), (2, .row 3 (fl c2q1)), (3, .row 28 (Enc.cells c3q1)), (4, .row 28 (Enc.cells c4q42)), (5, .row 3 (fl c5q1)), (7, .row 3 (fl r2110))] 13 (by kernel_rfl) [] [7] (bS r2113) [] (by simp only [push_cast, seval]) (by simp only [push_cast, seval]) (by kernel_rfl) (.inr ⟨by simp only [push_cast, seval], by simp only [push_cast, seval]⟩) (by simp only [push_cast, seval]) (by simp only [push_cast, seval]) ?_
                      refine rs 1 [] [] (by kernel_rfl) allP_nil ?_
                      refine run_br h 82 (.inl (by kernel_rfl)) (fun g2114 h => ?_) (fun g2114 h => ?_)
                      · refine rs 9 [] [] (by kernel_rfl) allP_nil ?_
                        refine rt [(1, .sl global.length (fl global)), (2, iS procs), (3, .ptr 0 0), (7, .ptr 1 0), (8, .own 2 0 c2q1.length), (9, .ptr 3 0), (10, .ptr 4 0), (12, iS i15), (91, bS true)] [(0, .row 24 (Enc.cells q)), (1, .row 24 [iS c1_Next1, .own 5 0 c5q1.length]), (2, .row 3 (fl c2q1)), (3, .row 28 (Enc.cells c3q1)), (4, .row 28 (Enc.cells c4q42)), (5, .row 3 (fl c5q1)), (7, .row 3 (fl r2110))] 24 follows (by kernel_rfl) ?_
                        exact hK2109 (true) _ _ _ h (leSt_m [(0, 0), (1, 1), (2, 2), (3, 3), (4, 4), (5, 5)] [] (by (try simp only [g2114]) <;> simp only [push_cast, seval]) (by (try simp only [g2114]) <;> simp only [push_cast, seval]) rfl rfl rfl)
                      · refine chk_sx h (fun g2116 h => ?_)
                        have k2115 : 0 ≤ (0 : Int) ∧ (0 : Int) ≤ i15 ∧ i15 ≤ ((global.length : Nat) : Int) := by first | simpa only [Bool.and_eq_true, decide_eq_true_eq, bne_iff_ne, ne_eq] using g2116 | (simp at g2116 ⊢; omega)
                        refine chk_sx h (fun g2118 h => ?_)
                        have k2117 : 0 ≤ i15 ∧ i15 < ((global.length : Nat) : Int) := by first | simpa only [Bool.and_eq_true, decide_eq_true_eq, bne_iff_ne, ne_eq] using g2118 | (simp at g2118 ⊢; omega)
                        refine rs 7 [none, none, some ⟨.sl (cut global (0 : Int) i15).length (fl (cut global (0 : Int) i15)), [], 17, []⟩, none, none, some ⟨.iptr (fl global) ((i15).toNat * 1), [], 20, []⟩, some ⟨iS (ix global i15), [], 21, []⟩] _ (by kernel_rfl) (allP_cons (ob_ld global i15 1 0 ((i15).toNat * 1) k2117 rfl (by decide) (by first | rfl | omega) (dflS Try.prog 3) (iS (ix global i15)) rfl 21 []) (allP_cons (ob_ix_l global 1 20 i15 k2117) (allP_cons (ob_cut global (0 : Int) i15 1 17 rfl k2115) allP_nil))) ?_
                        obtain ⟨r2119, hr2119, h⟩ := bind_sx h
                        refine run_call 18 [.sl (cut global (0 : Int) i15).length (fl (cut global (0 : Int) i15)), iS (ix global i15)] (some 90) (by kernel_rfl) ?_
                        refine callE_0 (taskmillref_Has_spec (cut global (0 : Int) i15) (ix global i15) r2119 hr2119) (by simp only [push_cast, seval]) (by simp only [push_cast, seval]) ?_
                        refine back_t ?_
                        refine rs 1 [] [] (by kernel_rfl) allP_nil ?_
                        refine rt [(1, .sl global.length (fl global)), (2, iS procs), (3, .ptr 0 0), (7, .ptr 1 0), (8, .own 2 0 c2q1.length), (9, .ptr 3 0), (10, .ptr 4 0), (12, iS i15), (91, bS r2119)] [(0, .row 24 (Enc.cells q)), (1, .row 24 [iS c1_Next1, .own 5 0 c5q1.length]), (2, .row 3 (fl c2q1)), (3, .row 28 (Enc.cells c3q1)), (4, .row 28 (Enc.cells c4q42)), (5, .row 3 (fl c5q1)), (7, .row 3 (fl r2110))] 24 follows (by kernel_rfl) ?_
                        exact hK2109 (r2119) _ _ _ h (leSt_m [(0, 0), (1, 1), (2, 2), (3, 3), (4, 4), (5, 5)] [] (by (try simp only [g2114]) <;> simp only [push_cast, seval]) (by (try simp only [g2114]) <;> simp only [push_cast, seval]) rfl rfl rfl)
                    · rintro t91q13 h
                      try dsimp only at h ⊢
                      unfold taskmilllaw_RingRefills_j3 at h
                      refine cond_sx h (by kernel_rfl) (fun g2122 h => ?_) (fun g2122 h => ?_)
                      · refine reg_f ?_
                        refine rs 1 [] [] (by kernel_rfl) allP_nil ?_
                        obtain ⟨r2121, hr2121, h⟩ := bind_sx h
                        refine run_call 17 [iS 8, iS i15] (some 93) (by kernel_rfl) ?_
                        refine call_0 (taskmillref_F_spec 8 i15 r2121 hr2121) (by simp only [push_cast, seval]) (by simp only [push_cast, seval]) ?_
                        refine back_f ?_
                        refine rs 1 [] [] (by kernel_rfl) allP_nil ?_
                        refine rf [(1, .sl global.length (fl global)), (2, iS procs), (3, .ptr 0 0), (7, .ptr 1 0), (8, .own 2 0 c2q1.length), (9, .ptr 3 0), (10, .ptr 4 0), (12, iS i15)] [(0, .row 24 (Enc.cells q)), (1, .row 24 [iS c1_Next1, .own 5 0 c5q1.length]), (2, .row 3 (fl c2q1)), (3, .row 28 (Enc.cells c3q1)), (4, .row 28 (Enc.cells r2121)), (5, .row 3 (fl c5q1))] 6 (by kernel_rfl) ?_
                        exact hK2097 (r2121) _ _ _ h (leSt_m [(0, 0), (1, 1), (2, 2), (3, 3), (4, 4), (5, 5)] [] (by simp only [push_cast, seval]) (by simp only [push_cast, seval]) rfl rfl rfl)
                      · exact hK2097 (c4q42) _ _ _ h (leSt_m [(0, 0), (1, 1), (2, 2), (3, 3), (4, 4), (5, 5)] [] (by simp only [push_cast, seval]) (by simp only [push_cast, seval]) rfl rfl rfl)
                  · rintro c4q44 h
                    try dsimp only at h ⊢
                    unfold taskmilllaw_RingRefills_j2 at h
                    refine wk_id ?_
                    refine reg_f ?_
                    refine rs 3 [] [] (by kernel_rfl) allP_nil ?_
                    refine rf [(1, .sl global.length (fl global)), (2, iS procs), (3, .ptr 0 0), (7, .ptr 1 0), (8, .own 2 0 c2q1.length), (9, .ptr 3 0), (10, .ptr 4 0), (12, iS (IntKind.i64.wrap (i15 + 1)))] [(0, .row 24 (Enc.cells q)), (1, .row 24 [iS c1_Next1, .own 5 0 c5q1.length]), (2, .row 3 (fl c2q1)), (3, .row 28 (Enc.cells c3q1)), (4, .row 28 (Enc.cells c4q44)), (5, .row 3 (fl c5q1))] 6 (by kernel_rfl) ?_
                    exact hn4 ((IntKind.i64.wrap (i15 + 1)), c4q44) _ _ _ (Option.some.inj h).symm (leSt_m [(0, 0), (1, 1), (2, 2), (3, 3), (4, 4), (5, 5)] [] (by simp only [push_cast, seval]) (by simp only [push_cast, seval]) rfl rfl rfl)
                · refine ex_cast hx4 (id := 2) ?_
                  obtain ⟨r0, h, e0⟩ := map_sx h
                  have e1 := hr4 r0 e0.symm
                  subst r0
                  refine wk_id ?_
                  refine wk_id ?_
                  refine seq_cut (A := Fault) (fun a => ([(1, .sl global.length (fl global)), (2, iS procs), (3, .ptr 0 0), (7, .ptr 1 0), (8, .own 2 0 c2q1.length), (9, .ptr 3 0), (10, .ptr 4 0)], [(0, .row 24 (Enc.cells q)), (1, .row 24 [iS c1_Next1, .own 5 0 c5q1.length]), (2, .row 3 (fl c2q1)), (3, .row 28 (Enc.cells c3q1)), (4, .row 28 (Enc.cells a)), (5, .row 3 (fl c5q1))], 6)) (fun a => (taskmilllaw_RingRefills_j9 q global procs c1_Next1 c2q1 c3q1 c5q1 a) = some r) (fun K2128 hK2128 => ?_) ?_
                  · refine seq_cut (A := Unit) (fun _ => ([(1, .sl global.length (fl global)), (2, iS procs), (3, .ptr 0 0), (7, .ptr 1 0), (8, .own 2 0 c2q1.length), (9, .ptr 3 0), (10, .ptr 4 0), (104, bS ((c4q42.Code == 0) && ((decide (procs < 1)) || (decide ((64 : Int) < procs)))))], [(0, .row 24 (Enc.cells q)), (1, .row 24 [iS c1_Next1, .own 5 0 c5q1.length]), (2, .row 3 (fl c2q1)), (3, .row 28 (Enc.cells c3q1)), (4, .row 28 (Enc.cells c4q42)), (5, .row 3 (fl c5q1))], 6)) (fun _ => True) (fun K2131 hK2131 => ?_) (fun _ _ => ?_)
                    · refine reg_f ?_
                      refine rs 4 [] [] (by kernel_rfl) allP_nil ?_
                      refine run_split 97 (c4q42.Code == 0) (.inl (by kernel_rfl)) (fun g2132 => ?_) (fun g2132 => ?_)
                      · refine rs 3 [] [] (by kernel_rfl) allP_nil ?_
                        refine run_split 100 (decide (procs < 1)) (.inr (by kernel_rfl)) (fun g2133 => ?_) (fun g2133 => ?_)
                        · refine rs 4 [] [] (by kernel_rfl) allP_nil ?_
                          refine rf [(1, .sl global.length (fl global)), (2, iS procs), (3, .ptr 0 0), (7, .ptr 1 0), (8, .own 2 0 c2q1.length), (9, .ptr 3 0), (10, .ptr 4 0), (104, bS true)] [(0, .row 24 (Enc.cells q)), (1, .row 24 [iS c1_Next1, .own 5 0 c5q1.length]), (2, .row 3 (fl c2q1)), (3, .row 28 (Enc.cells c3q1)), (4, .row 28 (Enc.cells c4q42)), (5, .row 3 (fl c5q1))] 6 (by kernel_rfl) ?_
                          exact hK2131 () _ _ _ trivial (leSt_m [(0, 0), (1, 1), (2, 2), (3, 3), (4, 4), (5, 5)] [] (by (try simp only [g2132, g2133]) <;> simp only [push_cast, seval]) (by (try simp only [g2132, g2133]) <;> simp only [push_cast, seval]) rfl rfl rfl)
                        · refine rs 4 [] [] (by kernel_rfl) allP_nil ?_
                          refine rf [(1, .sl global.length (fl global)), (2, iS procs), (3, .ptr 0 0), (7, .ptr 1 0), (8, .own 2 0 c2q1.length), (9, .ptr 3 0), (10, .ptr 4 0), (104, bS (decide ((64 : Int) < procs)))] [(0, .row 24 (Enc.cells q)), (1, .row 24 [iS c1_Next1, .own 5 0 c5q1.length]), (2, .row 3 (fl c2q1)), (3, .row 28 (Enc.cells c3q1)), (4, .row 28 (Enc.cells c4q42)), (5, .row 3 (fl c5q1))] 6 (by kernel_rfl) ?_
                          exact hK2131 () _ _ _ trivial (leSt_m [(0, 0), (1, 1), (2, 2), (3, 3), (4, 4), (5, 5)] [] (by (try simp only [g2132, g2133]) <;> simp only [push_cast, seval]) (by (try simp only [g2132, g2133]) <;> simp only [push_cast, seval]) rfl rfl rfl)
                      · refine rs 7 [] [] (by kernel_rfl) allP_nil ?_
                        refine rf [(1, .sl global.length (fl global)), (2, iS procs), (3, .ptr 0 0), (7, .ptr 1 0), (8, .own 2 0 c2q1.length), (9, .ptr 3 0), (10, .ptr 4 0), (104, bS false)] [(0, .row 24 (Enc.cells q)), (1, .row 24 [iS c1_Next1, .own 5 0 c5q1.length]), (2, .row 3 (fl c2q1)), (3, .row 28 (Enc.cells c3q1)), (4, .row 28 (Enc.cells c4q42)), (5, .row 3 (fl c5q1))] 6 (by kernel_rfl) ?_
                        exact hK2131 () _ _ _ trivial (leSt_m [(0, 0), (1, 1), (2, 2), (3, 3), (4, 4), (5, 5)] [] (by (try simp only [g2132]) <;> simp only [push_cast, seval]) (by (try simp only [g2132]) <;> simp only [push_cast, seval]) rfl rfl rfl)
                    · dsimp only
                      refine cond_sx h (by kernel_rfl) (fun g2136 h => ?_) (fun g2136 h => ?_)
                      · refine reg_f ?_
                        obtain ⟨r2135, hr2135, h⟩ := bind_sx h
                        refine run_call 17 [iS 3, iS (-1)] (some 105) (by kernel_rfl) ?_
                        refine call_0 (taskmillref_F_spec 3 (-1) r2135 hr2135) (by simp only [push_cast, seval]) (by simp only [push_cast, seval]) ?_
                        refine back_f ?_
                        refine rs 1 [] [] (by kernel_rfl) allP_nil ?_
                        refine rf [(1, .sl global.length (fl global)), (2, iS procs), (3, .ptr 0 0), (7, .ptr 1 0), (8, .own 2 0 c2q1.length), (9, .ptr 3 0), (10, .ptr 4 0)] [(0, .row 24 (Enc.cells q)), (1, .row 24 [iS c1_Next1, .own 5 0 c5q1.length]), (2, .row 3 (fl c2q1)), (3, .row 28 (Enc.cells c3q1)), (4, .row 28 (Enc.cells r2135)), (5, .row 3 (fl c5q1))] 6 (by kernel_rfl) ?_
                        exact hK2128 (r2135) _ _ _ h (leSt_m [(0, 0), (1, 1), (2, 2), (3, 3), (4, 4), (5, 5)] [] (by simp only [push_cast, seval]) (by simp only [push_cast, seval]) rfl rfl rfl)
                      · exact hK2128 (c4q42) _ _ _ h (leSt_m [(0, 0), (1, 1), (2, 2), (3, 3), (4, 4), (5, 5)] [] (by simp only [push_cast, seval]) (by simp only [push_cast, seval]) rfl rfl rfl)
                  · rintro c4q45 h
                    try dsimp only at h ⊢
                    unfold taskmilllaw_RingRefills_j9 at h
                    refine seq_np ?_
                    refine seq_np ?_
                    refine reg_f ?_
                    refine rs 3 [] [] (by kernel_rfl) allP_nil ?_
                    refine rf [(1, .sl global.length (fl global)), (2, iS procs), (3, .ptr 0 0), (7, .ptr 1 0), (8, .own 2 0 c2q1.length), (10, .ptr 4 0), (108, bS (!((c3q1.Code == c4q45.Code) && ((c3q1.At == c4q45.At) && true))))] [(0, .row 24 (Enc.cells q)), (1, .row 24 [iS c1_Next1, .own 5 0 c5q1.length]), (2, .row 3 (fl c2q1)), (3, .row 28 (Enc.cells c3q1)), (4, .row 28 (Enc.cells c4q45)), (5, .row 3 (fl c5q1))] 6 (by kernel_rfl) ?_
                    refine wk_id ?_
                    refine cond_sx h (by kernel_rfl) (fun g2190 h => ?_) (fun g2190 h => ?_)
                    · refine seq_np ?_
                      refine reg_f ?_
                      refine rs 1 [] [] (by kernel_rfl) allP_nil ?_
                      refine rf [(6, bS false)] [(0, .row 24 (Enc.cells q)), (1, .row 24 [iS c1_Next1, .own 5 0 c5q1.length]), (2, .row 3 (fl c2q1)), (3, .row 28 (Enc.cells c3q1)), (4, .row 28 (Enc.cells c4q45)), (5, .row 3 (fl c5q1))] 6 (by kernel_rfl) ?_
                      refine wk_id ?_
                      obtain rfl := Option.some.inj h
                      refine ret_at (bS false) (by kernel_rfl) ?_
                      exact ret_e [] [] (by simp only [push_cast, seval]) (by simp only [push_cast, seval]) rfl rfl rfl
                    · refine wk_id ?_
                      refine seq_np ?_
                      refine seq_np ?_
                      refine reg_f ?_
                      refine rs 3 [] [] (by kernel_rfl) allP_nil ?_
                      refine rf [(1, .sl global.length (fl global)), (2, iS procs), (3, .ptr 0 0), (7, .ptr 1 0), (8, .own 2 0 c2q1.length), (111, bS (c4q45.Code != 0))] [(0, .row 24 (Enc.cells q)), (1, .row 24 [iS c1_Next1, .own 5 0 c5q1.length]), (2, .row 3 (fl c2q1)), (3, .row 28 (Enc.cells c3q1)), (4, .row 28 (Enc.cells c4q45)), (5, .row 3 (fl c5q1))] 6 (by kernel_rfl) ?_
                      refine wk_id ?_
                      refine cond_sx h (by kernel_rfl) (fun g2189 h => ?_) (fun g2189 h => ?_)
                      · refine seq_cut (A := Bool) (fun a => ([(6, bS a)], [], 0)) (fun a => (taskmilllaw_RingRefills_j4 a) = some r) (fun K2146 hK2146 => ?_) ?_
                        · refine reg_f ?_
                          refine rs 1 [] [] (by kernel_rfl) allP_nil ?_
                          obtain ⟨r2147, hr2147, h⟩ := bind_sx h
                          refine call_x (taskmilllaw_noRing_spec (Ring.mk c1_Next1 c5q1) r2147 hr2147) (args := [.agg [iS c1_Next1, .own 5 0 c5q1.length]]) (dst := (some 113)) (by kernel_rfl) [(0, .row 24 (Enc.cells q)), (1, .row 24 [iS c1_Next1, .own 5 0 c5q1.length]), (2, .row 3 (fl c2q1)), (3, .row 28 (Enc.cells c3q1)), (4, .row 28 (Enc.cells c4q45)), (5, .row 3 (fl c5q1))] 6 (by kernel_rfl) [] [5] (bS r2147) [] (by simp only [push_cast, seval]) (by simp only [push_cast, seval]) (by kernel_rfl) (.inr ⟨by simp only [push_cast, seval], by simp only [push_cast, seval]⟩) (by simp only [push_cast, seval]) (by simp only [push_cast, seval]) ?_
                          refine rs 1 [] [] (by kernel_rfl) allP_nil ?_
                          refine run_br h 114 (.inl (by kernel_rfl)) (fun g2148 h => ?_) (fun g2148 h => ?_)
                          · refine rs 5 [] [] (by kernel_rfl) allP_nil ?_
                            refine rf [(6, bS (((c2q1.length : Nat) : Int) == 0))] [(0, .row 24 (Enc.cells q)), (1, .row 24 [iS c1_Next1, .own 5 0 c5q1.length]), (2, .row 3 (fl c2q1)), (3, .row 28 (Enc.cells c3q1)), (4, .row 28 (Enc.cells c4q45)), (5, .row 3 (fl c5q1))] 6 (by kernel_rfl) ?_
                            exact hK2146 ((((c2q1.length : Nat) : Int) == 0)) _ _ _ h (leSt_m [] [] (by (try simp only [g2148]) <;> simp only [push_cast, seval]) (by (try simp only [g2148]) <;> simp only [push_cast, seval]) rfl rfl rfl)
                          · refine rs 5 [] [] (by kernel_rfl) allP_nil ?_
                            refine rf [(6, bS false)] [(0, .row 24 (Enc.cells q)), (1, .row 24 [iS c1_Next1, .own 5 0 c5q1.length]), (2, .row 3 (fl c2q1)), (3, .row 28 (Enc.cells c3q1)), (4, .row 28 (Enc.cells c4q45)), (5, .row 3 (fl c5q1))] 6 (by kernel_rfl) ?_
                            exact hK2146 (false) _ _ _ h (leSt_m [] [] (by (try simp only [g2148]) <;> simp only [push_cast, seval]) (by (try simp only [g2148]) <;> simp only [push_cast, seval]) rfl rfl rfl)
                        · rintro t6q3 h
                          try dsimp only at h ⊢
                          unfold taskmilllaw_RingRefills_j4 at h
                          obtain rfl := Option.some.inj h
                          refine ret_at (bS t6q3) (by kernel_rfl) ?_
                          exact ret_e [] [] (by simp only [push_cast, seval]) (by simp only [push_cast, seval]) rfl rfl rfl
                      · refine wk_id ?_
                        refine chk_sx h (fun g2152 h => ?_)
                        refine seq_np ?_
                        refine reg_f ?_
                        have k2151 : procs ≠ 0 := by first | simpa only [Bool.and_eq_true, decide_eq_true_eq, bne_iff_ne, ne_eq] using g2152 | (simp at g2152 ⊢; omega)
                        refine rs 6 [none, none, none, some ⟨iS (IntKind.i64.wrap (Int.tdiv ((global.length : Nat) : Int) procs)), [], 6, []⟩] _ (by kernel_rfl) (allP_cons (ob_p (v := iS (IntKind.i64.wrap (Int.tdiv ((global.length : Nat) : Int) procs))) (nx := 6) (r := []) k2151) allP_nil) ?_
                        refine rf [(1, .sl global.length (fl global)), (3, .ptr 0 0), (7, .ptr 1 0), (8, .own 2 0 c2q1.length), (13, iS (IntKind.i64.wrap ((IntKind.i64.wrap (Int.tdiv ((global.length : Nat) : Int) procs)) + 1)))] [(0, .row 24 (Enc.cells q)), (1, .row 24 [iS c1_Next1, .own 5 0 c5q1.length]), (2, .row 3 (fl c2q1)), (3, .row 28 (Enc.cells c3q1)), (4, .row 28 (Enc.cells c4q45)), (5, .row 3 (fl c5q1))] 6 (by kernel_rfl) ?_
                        refine wk_id ?_
                        refine seq_cut (A := Int) (fun a => ([(1, .sl global.length (fl global)), (3, .ptr 0 0), (7, .ptr 1 0), (8, .own 2 0 c2q1.length), (13, iS a)], [(0, .row 24 (Enc.cells q)), (1, .row 24 [iS c1_Next1, .own 3 0 c5q1.length]), (2, .row 3 (fl c2q1)), (3, .row 3 (fl c5q1))], 4)) (fun a => (taskmilllaw_RingRefills_j8 q global c1_Next1 c2q1 c5q1 a) = some r) (fun K2155 hK2155 => ?_) ?_
                        · refine seq_np ?_
                          refine reg_f ?_
                          refine rs 4 [] [] (by kernel_rfl) allP_nil ?_
                          refine rf [(1, .sl global.length (fl global)), (3, .ptr 0 0), (7, .ptr 1 0), (8, .own 2 0 c2q1.length), (13, iS (IntKind.i64.wrap ((IntKind.i64.wrap (Int.tdiv ((global.length : Nat) : Int) procs)) + 1))), (127, bS (decide (((global.length : Nat) : Int) < (IntKind.i64.wrap ((IntKind.i64.wrap (Int.tdiv ((global.length : Nat) : Int) procs)) + 1)))))] [(0, .row 24 (Enc.cells q)), (1, .row 24 [iS c1_Next1, .own 5 0 c5q1.length]), (2, .row 3 (fl c2q1)), (3, .row 28 (Enc.cells c3q1)), (4, .row 28 (Enc.cells c4q45)), (5, .row 3 (fl c5q1))] 6 (by kernel_rfl) ?_
                          refine wk_id ?_
                          refine cond_sx h (by kernel_rfl) (fun g2156 h => ?_) (fun g2156 h => ?_)
                          · refine reg_f ?_
                            refine rs 3 [] [] (by kernel_rfl) allP_nil ?_
                            refine rf [(1, .sl global.length (fl global)), (3, .ptr 0 0), (7, .ptr 1 0), (8, .own 2 0 c2q1.length), (13, iS ((global.length : Nat) : Int))] [(0, .row 24 (Enc.cells q)), (1, .row 24 [iS c1_Next1, .own 5 0 c5q1.length]), (2, .row 3 (fl c2q1)), (3, .row 28 (Enc.cells c3q1)), (4, .row 28 (Enc.cells c4q45)), (5, .row 3 (fl c5q1))] 6 (by kernel_rfl) ?_
                            exact hK2155 (((global.length : Nat) : Int)) _ _ _ h (leSt_m [(0, 0), (1, 1), (2, 2), (3, 5)] [] (by simp only [push_cast, seval]) (by simp only [push_cast, seval]) rfl rfl rfl)
                          · exact hK2155 ((IntKind.i64.wrap ((IntKind.i64.wrap (Int.tdiv ((global.length : Nat) : Int) procs)) + 1))) _ _ _ h (leSt_m [(0, 0), (1, 1), (2, 2), (3, 5)] [] (by simp only [push_cast, seval]) (by simp only [push_cast, seval]) rfl rfl rfl)
                        · rintro n3 h
                          try dsimp only at h ⊢
                          unfold taskmilllaw_RingRefills_j8 at h
                          refine seq_cut (A := Int) (fun a => ([(1, .sl global.length (fl global)), (3, .ptr 0 0), (7, .ptr 1 0), (8, .own 2 0 c2q1.length), (13, iS a)], [(0, .row 24 (Enc.cells q)), (1, .row 24 [iS c1_Next1, .own 3 0 c5q1.length]), (2, .row 3 (fl c2q1)), (3, .row 3 (fl c5q1))], 4)) (fun a => (taskmilllaw_RingRefills_j7 q global c1_Next1 c2q1 c5q1 a) = some r) (fun K2159 hK2159 => ?_) ?_
                          · refine seq_np ?_
                            refine reg_f ?_
                            refine rs 2 [] [] (by kernel_rfl) allP_nil ?_
                            refine rf [(1, .sl global.length (fl global)), (3, .ptr 0 0), (7, .ptr 1 0), (8, .own 2 0 c2q1.length), (13, iS n3), (131, bS (decide ((128 : Int) < n3)))] [(0, .row 24 (Enc.cells q)), (1, .row 24 [iS c1_Next1, .own 3 0 c5q1.length]), (2, .row 3 (fl c2q1)), (3, .row 3 (fl c5q1))] 4 (by kernel_rfl) ?_
                            refine wk_id ?_
                            refine cond_sx h (by kernel_rfl) (fun g2160 h => ?_) (fun g2160 h => ?_)
                            · refine reg_f ?_
                              refine rs 1 [] [] (by kernel_rfl) allP_nil ?_
                              refine rf [(1, .sl global.length (fl global)), (3, .ptr 0 0), (7, .ptr 1 0), (8, .own 2 0 c2q1.length), (13, iS 128)] [(0, .row 24 (Enc.cells q)), (1, .row 24 [iS c1_Next1, .own 3 0 c5q1.length]), (2, .row 3 (fl c2q1)), (3, .row 3 (fl c5q1))] 4 (by kernel_rfl) ?_
                              exact hK2159 (128) _ _ _ h (leSt_m [(0, 0), (1, 1), (2, 2), (3, 3)] [] (by simp only [push_cast, seval]) (by simp only [push_cast, seval]) rfl rfl rfl)
                            · exact hK2159 (n3) _ _ _ h (leSt_m [(0, 0), (1, 1), (2, 2), (3, 3)] [] (by simp only [push_cast, seval]) (by simp only [push_cast, seval]) rfl rfl rfl)
                          · rintro n4 h
                            try dsimp only at h ⊢
                            unfold taskmilllaw_RingRefills_j7 at h
                            refine seq_cut (A := Int) (fun a => ([(1, .sl global.length (fl global)), (3, .ptr 0 0), (7, .ptr 1 0), (8, .own 2 0 c2q1.length), (13, iS a)], [(0, .row 24 (Enc.cells q)), (1, .row 24 [iS c1_Next1, .own 3 0 c5q1.length]), (2, .row 3 (fl c2q1)), (3, .row 3 (fl c5q1))], 4)) (fun a => (taskmilllaw_RingRefills_j6 q global c1_Next1 c2q1 c5q1 a) = some r) (fun K2163 hK2163 => ?_) ?_
                            · refine seq_np ?_
                              refine reg_f ?_
                              refine rs 6 [] [] (by kernel_rfl) allP_nil ?_
                              refine rf [(1, .sl global.length (fl global)), (3, .ptr 0 0), (7, .ptr 1 0), (8, .own 2 0 c2q1.length), (13, iS n4), (137, bS (decide ((IntKind.i64.wrap ((256 : Int) - ((q.List.length : Nat) : Int))) < n4)))] [(0, .row 24 (Enc.cells q)), (1, .row 24 [iS c1_Next1, .own 3 0 c5q1.length]), (2, .row 3 (fl c2q1)), (3, .row 3 (fl c5q1))] 4 (by kernel_rfl) ?_
                              refine wk_id ?_
                              refine cond_sx h (by kernel_rfl) (fun g2164 h => ?_) (fun g2164 h => ?_)
                              · refine reg_f ?_
                                refine rs 5 [] [] (by kernel_rfl) allP_nil ?_
                                refine rf [(1, .sl global.length (fl global)), (3, .ptr 0 0), (7, .ptr 1 0), (8, .own 2 0 c2q1.length), (13, iS (IntKind.i64.wrap ((256 : Int) - ((q.List.length : Nat) : Int))))] [(0, .row 24 (Enc.cells q)), (1, .row 24 [iS c1_Next1, .own 3 0 c5q1.length]), (2, .row 3 (fl c2q1)), (3, .row 3 (fl c5q1))] 4 (by kernel_rfl) ?_
                                exact hK2163 ((IntKind.i64.wrap ((256 : Int) - ((q.List.length : Nat) : Int)))) _ _ _ h (leSt_m [(0, 0), (1, 1), (2, 2), (3, 3)] [] (by simp only [push_cast, seval]) (by simp only [push_cast, seval]) rfl rfl rfl)
                              · exact hK2163 (n4) _ _ _ h (leSt_m [(0, 0), (1, 1), (2, 2), (3, 3)] [] (by simp only [push_cast, seval]) (by simp only [push_cast, seval]) rfl rfl rfl)
                            · rintro n5 h
                              try dsimp only at h ⊢
                              unfold taskmilllaw_RingRefills_j6 at h
                              refine seq_cut (A := Bool) (fun a => ([(6, bS a)], [], 0)) (fun a => (taskmilllaw_RingRefills_j5 a) = some r) (fun K2177 hK2177 => ?_) ?_
                              · refine reg_t ?_
                                refine rs 6 [] [] (by kernel_rfl) allP_nil ?_
                                refine run_br h 147 (.inl (by kernel_rfl)) (fun g2178 h => ?_) (fun g2178 h => ?_)
                                · refine rs 4 [] [] (by kernel_rfl) allP_nil ?_
                                  obtain ⟨r2179, hr2179, h⟩ := bind_sx h
                                  refine call_x (taskmilllaw_own_spec q.List r2179 hr2179) (args := [.sl q.List.length (fl q.List)]) (dst := (some 152)) (by kernel_rfl) [(0, .row 24 (Enc.cells q)), (1, .row 24 [iS c1_Next1, .own 3 0 c5q1.length]), (2, .row 3 (fl c2q1)), (3, .row 3 (fl c5q1))] 14 (by kernel_rfl) [] [] (.own 14 0 r2179.length) [(14, .row 3 (fl r2179))] (by simp only [push_cast, seval]) (by simp only [push_cast, seval]) (by kernel_rfl) (.inl rfl) (by simp only [push_cast, seval]) (by simp only [push_cast, seval]) ?_
                                  refine chk_sx h (fun g2181 h => ?_)
                                  have k2180 : 0 ≤ (0 : Int) ∧ (0 : Int) ≤ n5 ∧ n5 ≤ ((global.length : Nat) : Int) := by first | simpa only [Bool.and_eq_true, decide_eq_true_eq, bne_iff_ne, ne_eq] using g2181 | (simp at g2181 ⊢; omega)
                                  refine chk_sx h (fun g2183 h => ?_)
                                  have k2182 : (r2179 ++ (cut global (0 : Int) n5)).length * 8 ≤ 140737488355328 := by first | simpa only [Bool.and_eq_true, decide_eq_true_eq, bne_iff_ne, ne_eq] using g2183 | (simp at g2183 ⊢; omega)
                                  refine rs 4 [none, none, some ⟨.sl (cut global (0 : Int) n5).length (fl (cut global (0 : Int) n5)), [], 18, []⟩, some ⟨.own 19 0 (r2179 ++ (cut global (0 : Int) n5)).length, [(19, .row 3 (fl (r2179 ++ (cut global (0 : Int) n5)))), (14, .dead)], 20, [14]⟩] _ (by kernel_rfl) (allP_cons (ob_app (P := Try.prog) r2179 (cut global (0 : Int) n5) 1 8 rfl (fl (cut global (0 : Int) n5)) (cut global (0 : Int) n5).length rfl rfl ((fl (cut global (0 : Int) n5)).length = (cut global (0 : Int) n5).length * 1) (app_sl (cut global (0 : Int) n5) 1 rfl) 3 (by kernel_rfl) (by decide) k2182 14 19 []) (allP_cons (ob_cut global (0 : Int) n5 1 18 rfl k2180) allP_nil)) ?_
                                  obtain ⟨r2184, hr2184, h⟩ := bind_sx h
                                  refine call_x (taskmillref_Ints_spec c5q1 (r2179 ++ (cut global (0 : Int) n5)) r2184 hr2184) (args := [.own 3 0 c5q1.length, .own 19 0 (r2179 ++ (cut global (0 : Int) n5)).length]) (dst := (some 157)) (by kernel_rfl) [(0, .row 24 (Enc.cells q)), (1, .row 24 [iS c1_Next1, .own 3 0 c5q1.length]), (2, .row 3 (fl c2q1)), (3, .row 3 (fl c5q1)), (14, .dead), (19, .row 3 (fl (r2179 ++ (cut global (0 : Int) n5))))] 21 (by kernel_rfl) [] [3, 19] (bS r2184) [] (by simp only [push_cast, seval]) (by simp only [push_cast, seval]) (by kernel_rfl) (.inr ⟨by simp only [push_cast, seval], by simp only [push_cast, seval]⟩) (by simp only [push_cast, seval]) (by simp only [push_cast, seval]) ?_
                                  refine rs 2 [] [] (by kernel_rfl) allP_nil ?_
                                  refine run_br h 159 (.inl (by kernel_rfl)) (fun g2185 h => ?_) (fun g2185 h => ?_)
                                  · refine chk_sx h (fun g2187 h => ?_)
                                    have k2186 : 0 ≤ n5 ∧ n5 ≤ ((global.length : Nat) : Int) ∧ ((global.length : Nat) : Int) ≤ ((global.length : Nat) : Int) := by first | simpa only [Bool.and_eq_true, decide_eq_true_eq, bne_iff_ne, ne_eq] using g2187 | (simp at g2187 ⊢; omega)
                                    refine rs 4 [none, none, none, some ⟨.sl (cut global n5 ((global.length : Nat) : Int)).length (fl (cut global n5 ((global.length : Nat) : Int))), [], 27, []⟩] _ (by kernel_rfl) (allP_cons (ob_cut global n5 ((global.length : Nat) : Int) 1 27 rfl k2186) allP_nil) ?_
                                    obtain ⟨r2188, hr2188, h⟩ := bind_sx h
                                    refine call_x (taskmillref_Ints_spec c2q1 (cut global n5 ((global.length : Nat) : Int)) r2188 hr2188) (args := [.own 2 0 c2q1.length, .sl (cut global n5 ((global.length : Nat) : Int)).length (fl (cut global n5 ((global.length : Nat) : Int)))]) (dst := (some 164)) (by kernel_rfl) [(0, .row 24 (Enc.cells q)), (1, .row 24 [iS c1_Next1, .own 3 0 c5q1.length]), (2, .row 3 (fl c2q1)), (3, .row 3 (fl c5q1)), (14, .dead), (19, .row 3 (fl (r2179 ++ (cut global (0 : Int) n5))))] 28 (by kernel_rfl) [] [2] (bS r2188) [] (by simp only [push_cast, seval]) (by simp only [push_cast, seval]) (by kernel_rfl) (.inr ⟨by simp only [push_cast, seval], by simp only [push_cast, seval]⟩) (by simp only [push_cast, seval]) (by simp only [push_cast, seval]) ?_
                                    refine rs 2 [] [] (by kernel_rfl) allP_nil ?_
                                    refine rt [(6, bS r2188)] [(0, .row 24 (Enc.cells q)), (1, .row 24 [iS c1_Next1, .own 3 0 c5q1.length]), (2, .row 3 (fl c2q1)), (3, .row 3 (fl c5q1)), (14, .dead), (19, .row 3 (fl (r2179 ++ (cut global (0 : Int) n5))))] 31 follows (by kernel_rfl) ?_
                                    exact hK2177 (r2188) _ _ _ h (leSt_m [] [] (by (try simp only [g2178, g2185]) <;> simp only [push_cast, seval]) (by (try simp only [g2178, g2185]) <;> simp only [push_cast, seval]) rfl rfl rfl)
                                  · refine rs 7 [] [] (by kernel_rfl) allP_nil ?_
                                    refine rt [(6, bS false)] [(0, .row 24 (Enc.cells q)), (1, .row 24 [iS c1_Next1, .own 3 0 c5q1.length]), (2, .row 3 (fl c2q1)), (3, .row 3 (fl c5q1)), (14, .dead), (19, .row 3 (fl (r2179 ++ (cut global (0 : Int) n5))))] 31 follows (by kernel_rfl) ?_
                                    exact hK2177 (false) _ _ _ h (leSt_m [] [] (by (try simp only [g2178, g2185]) <;> simp only [push_cast, seval]) (by (try simp only [g2178, g2185]) <;> simp only [push_cast, seval]) rfl rfl rfl)
                                · refine rs 19 [] [] (by kernel_rfl) allP_nil ?_
                                  refine rt [(6, bS false)] [(0, .row 24 (Enc.cells q)), (1, .row 24 [iS c1_Next1, .own 3 0 c5q1.length]), (2, .row 3 (fl c2q1)), (3, .row 3 (fl c5q1))] 29 follows (by kernel_rfl) ?_
                                  exact hK2177 (false) _ _ _ h (leSt_m [] [] (by (try simp only [g2178]) <;> simp only [push_cast, seval]) (by (try simp only [g2178]) <;> simp only [push_cast, seval]) rfl rfl rfl)
                              · rintro t6q4 h
                                try dsimp only at h ⊢
                                unfold taskmilllaw_RingRefills_j5 at h
                                obtain rfl := Option.some.inj h
                                refine ret_at (bS t6q4) (by kernel_rfl) ?_
                                exact ret_e [] [] (by simp only [push_cast, seval]) (by simp only [push_cast, seval]) rfl rfl rfl

set_option maxRecDepth 100000 in
set_option maxHeartbeats 10000000 in
theorem ring_Steal_spec (xfrom : Ring) (to : Ring) (xnext : Bool) (r : Int × Int × Int × Fault × (List Int) × (List Int)) (h : ring_Steal xfrom to xnext = some r) : SpecW Try.prog 26 [.agg (Enc.cells xfrom), .agg (Enc.cells to), bS xnext] [] 0 (fun x h n => x = .tup [.agg [iS r.1, .own 0 0 r.2.2.2.2.1.length], .agg [iS r.2.1, .own 1 0 r.2.2.2.2.2.length], iS r.2.2.1, .agg (Enc.cells r.2.2.2.1)] ∧ h = [(0, .row 3 (fl r.2.2.2.2.1)), (1, .row 3 (fl r.2.2.2.2.2))] ∧ n = 2) := by
  unfold ring_Steal at h
  refine spec_of (draw_ok _) Try.func26 rfl (by decide) rfl (by kernel_rfl) ?_
  refine seq_np ?_
  refine reg_f ?_
  refine rs 6 [] [] (by kernel_rfl) allP_nil ?_
  refine rf [(2, bS xnext), (3, .ptr 0 0), (4, .ptr 1 0), (6, .ptr 2 0), (7, .ptr 3 0), (9, .ptr 4 0)] [(0, .row 24 (Enc.cells xfrom)), (1, .row 24 (Enc.cells to)), (2, .row 24 [iS 0, .v (.slice none 0 0)]), (3, .row 24 [iS 0, .v (.slice none 0 0)]), (4, .row 28 [iS 0, iS 0])] 5 (by kernel_rfl) ?_
  refine wk_id ?_
  refine seq_np ?_
  refine seq_np ?_
  refine reg_f ?_
  refine rs 5 [] [] (by kernel_rfl) allP_nil ?_
  refine rf [(2, bS xnext), (3, .ptr 0 0), (4, .ptr 1 0), (6, .ptr 2 0), (7, .ptr 3 0), (9, .ptr 4 0), (18, .own 5 0 ([xfrom, to] : List Ring).length), (19, iS ((([xfrom, to] : List Ring).length : Nat) : Int)), (20, iS 0)] [(0, .row 24 (Enc.cells xfrom)), (1, .row 24 (Enc.cells to)), (2, .row 24 [iS 0, .v (.slice none 0 0)]), (3, .row 24 [iS 0, .v (.slice none 0 0)]), (4, .row 28 [iS 0, iS 0]), (5, .row 24 (fl ([xfrom, to] : List Ring)))] 6 (by kernel_rfl) ?_
  refine wk_id ?_
  refine block_np ?_
  refine loop_sx (S := Int) (fun a => ([(2, bS xnext), (3, .ptr 0 0), (4, .ptr 1 0), (6, .ptr 2 0), (7, .ptr 3 0), (9, .ptr 4 0), (18, .own 5 0 ([xfrom, to] : List Ring).length), (19, iS ((([xfrom, to] : List Ring).length : Nat) : Int)), (20, iS a)], [(0, .row 24 (Enc.cells xfrom)), (1, .row 24 (Enc.cells to)), (2, .row 24 [iS 0, .v (.slice none 0 0)]), (3, .row 24 [iS 0, .v (.slice none 0 0)]), (4, .row 28 [iS 0, iS 0]), (5, .row 24 (fl ([xfrom, to] : List Ring)))], 6)) h (leSt_m [(0, 0), (1, 1), (2, 2), (3, 3), (4, 4), (5, 5)] [] (by simp only [push_cast, seval]) (by simp only [push_cast, seval]) rfl rfl rfl) ?_
  rintro t20q7 o2 R2 h hr2 hn2 hx2 ht2
  try dsimp only at h hn2 ⊢
  unfold ring_Steal_l1 at h
  try dsimp only at h
  refine seq_np ?_
  refine reg_f ?_
  refine rs 1 [] [] (by kernel_rfl) allP_nil ?_
  refine rf [(2, bS xnext), (3, .ptr 0 0), (4, .ptr 1 0), (6, .ptr 2 0), (7, .ptr 3 0), (9, .ptr 4 0), (18, .own 5 0 ([xfrom, to] : List Ring).length), (19, iS ((([xfrom, to] : List Ring).length : Nat) : Int)), (20, iS t20q7), (21, bS (decide (t20q7 < ((([xfrom, to] : List Ring).length : Nat) : Int))))] [(0, .row 24 (Enc.cells xfrom)), (1, .row 24 (Enc.cells to)), (2, .row 24 [iS 0, .v (.slice none 0 0)]), (3, .row 24 [iS 0, .v (.slice none 0 0)]), (4, .row 28 [iS 0, iS 0]), (5, .row 24 (fl ([xfrom, to] : List Ring)))] 6 (by kernel_rfl) ?_
  refine wk_id ?_
  refine seq_np ?_
  refine cond_sx h (by kernel_rfl) (fun g2348 h => ?_) (fun g2348 h => ?_)
  · refine wk_id ?_
    refine seq_np ?_
    refine block_np ?_
    refine chk_sx h (fun g2292 h => ?_)
    refine seq_np ?_
    refine reg_f ?_
    have k2291 : 0 ≤ t20q7 ∧ t20q7 < ((([xfrom, to] : List Ring).length : Nat) : Int) := by first | simpa only [Bool.and_eq_true, decide_eq_true_eq, bne_iff_ne, ne_eq] using g2292 | (simp at g2292 ⊢; omega)
    refine rs 4 [some ⟨.ptr 5 (0 + (t20q7).toNat * 2), [], 6, [5]⟩, some ⟨.agg (Enc.cells (ix ([xfrom, to] : List Ring) t20q7)), [], 6, [5]⟩] _ (by kernel_rfl) (allP_cons (ob_ldw ([xfrom, to] : List Ring) t20q7 2 (0 + (t20q7).toNat * 2) k2291 rfl (by first | rfl | omega) [iS (ix ([xfrom, to] : List Ring) t20q7).Next, .sl (ix ([xfrom, to] : List Ring) t20q7).List.length (fl (ix ([xfrom, to] : List Ring) t20q7).List)] rfl 6 [5]) (allP_cons (ob_ix_o 5 ([xfrom, to] : List Ring).length 0 2 6 t20q7 k2291) allP_nil)) ?_
    refine rf [(2, bS xnext), (3, .ptr 0 0), (4, .ptr 1 0), (6, .ptr 2 0), (7, .ptr 3 0), (9, .ptr 4 0), (11, .ptr 6 0), (18, .own 5 0 ([xfrom, to] : List Ring).length), (19, iS ((([xfrom, to] : List Ring).length : Nat) : Int)), (20, iS t20q7)] [(0, .row 24 (Enc.cells xfrom)), (1, .row 24 (Enc.cells to)), (2, .row 24 [iS 0, .v (.slice none 0 0)]), (3, .row 24 [iS 0, .v (.slice none 0 0)]), (4, .row 28 [iS 0, iS 0]), (5, .row 24 (fl ([xfrom, to] : List Ring))), (6, .row 24 (Enc.cells (ix ([xfrom, to] : List Ring) t20q7)))] 7 (by kernel_rfl) ?_
    refine wk_id ?_
    refine seq_np ?_
    refine reg_f ?_
    refine rs 1 [] [] (by kernel_rfl) allP_nil ?_
    obtain ⟨r2294, hr2294, h⟩ := bind_sx h
    refine run_call 13 [.agg (Enc.cells (ix ([xfrom, to] : List Ring) t20q7))] (some 25) (by kernel_rfl) ?_
    refine call_0 (ring_Check_spec (ix ([xfrom, to] : List Ring) t20q7) r2294 hr2294) (by simp only [push_cast, seval]) (by simp only [push_cast, seval]) ?_
    refine back_f ?_
    refine rs 2 [] [] (by kernel_rfl) allP_nil ?_
    refine rf [(2, bS xnext), (3, .ptr 0 0), (4, .ptr 1 0), (6, .ptr 2 0), (7, .ptr 3 0), (9, .ptr 4 0), (12, .ptr 7 0), (18, .own 5 0 ([xfrom, to] : List Ring).length), (19, iS ((([xfrom, to] : List Ring).length : Nat) : Int)), (20, iS t20q7)] [(0, .row 24 (Enc.cells xfrom)), (1, .row 24 (Enc.cells to)), (2, .row 24 [iS 0, .v (.slice none 0 0)]), (3, .row 24 [iS 0, .v (.slice none 0 0)]), (4, .row 28 [iS 0, iS 0]), (5, .row 24 (fl ([xfrom, to] : List Ring))), (6, .row 24 (Enc.cells (ix ([xfrom, to] : List Ring) t20q7))), (7, .row 28 (Enc.cells r2294))] 8 (by kernel_rfl) ?_
    refine wk_id ?_
    refine seq_np ?_
    refine reg_f ?_
    refine rs 3 [] [] (by kernel_rfl) allP_nil ?_
    refine rf [(2, bS xnext), (3, .ptr 0 0), (4, .ptr 1 0), (6, .ptr 2 0), (7, .ptr 3 0), (9, .ptr 4 0), (12, .ptr 7 0), (18, .own 5 0 ([xfrom, to] : List Ring).length), (19, iS ((([xfrom, to] : List Ring).length : Nat) : Int)), (20, iS t20q7), (28, bS (r2294.Code != 0))] [(0, .row 24 (Enc.cells xfrom)), (1, .row 24 (Enc.cells to)), (2, .row 24 [iS 0, .v (.slice none 0 0)]), (3, .row 24 [iS 0, .v (.slice none 0 0)]), (4, .row 28 [iS 0, iS 0]), (5, .row 24 (fl ([xfrom, to] : List Ring))), (6, .row 24 (Enc.cells (ix ([xfrom, to] : List Ring) t20q7))), (7, .row 28 (Enc.cells r2294))] 8 (by kernel_rfl) ?_
    refine wk_id ?_
    refine cond_sx h (by kernel_rfl) (fun g2295 h => ?_) (fun g2295 h => ?_)
    · refine seq_np ?_
      refine reg_t ?_
      refine rs 7 [] [] (by kernel_rfl) allP_nil ?_
      refine rt [(6, .ptr 2 0), (7, .ptr 3 0), (8, iS 0), (9, .ptr 4 0)] [(0, .row 24 (Enc.cells xfrom)), (1, .row 24 (Enc.cells to)), (2, .row 24 [iS 0, .v (.slice none 0 0)]), (3, .row 24 [iS 0, .v (.slice none 0 0)]), (4, .row 28 (Enc.cells r2294)), (5, .row 24 (fl ([xfrom, to] : List Ring))), (6, .row 24 (Enc.cells (ix ([xfrom, to] : List Ring) t20q7))), (7, .row 28 (Enc.cells r2294))] 15 follows (by kernel_rfl) ?_
      refine wk_id ?_
      refine rt_cast ht2 ?_
      obtain ⟨r0, h, e0⟩ := map_sx h
      have e1 := hr2 r0 e0.symm
      subst r0
      obtain rfl := Option.some.inj h
      refine ret_at (.tup [.agg [iS 0, .v (.slice none 0 0)], .agg [iS 0, .v (.slice none 0 0)], iS 0, .agg (Enc.cells r2294)]) (by kernel_rfl) ?_
      exact ret_e [] [] (by simp only [push_cast, seval]) (by simp only [push_cast, seval]) rfl rfl rfl
    · refine wk_id ?_
      refine wk_id ?_
      refine reg_f ?_
      refine rs 2 [] [] (by kernel_rfl) allP_nil ?_
      refine rf [(2, bS xnext), (3, .ptr 0 0), (4, .ptr 1 0), (6, .ptr 2 0), (7, .ptr 3 0), (9, .ptr 4 0), (18, .own 5 0 ([xfrom, to] : List Ring).length), (19, iS ((([xfrom, to] : List Ring).length : Nat) : Int)), (20, iS (IntKind.i64.wrap (t20q7 + 1)))] [(0, .row 24 (Enc.cells xfrom)), (1, .row 24 (Enc.cells to)), (2, .row 24 [iS 0, .v (.slice none 0 0)]), (3, .row 24 [iS 0, .v (.slice none 0 0)]), (4, .row 28 [iS 0, iS 0]), (5, .row 24 (fl ([xfrom, to] : List Ring))), (6, .row 24 (Enc.cells (ix ([xfrom, to] : List Ring) t20q7))), (7, .row 28 (Enc.cells r2294))] 8 (by kernel_rfl) ?_
      exact hn2 ((IntKind.i64.wrap (t20q7 + 1))) _ _ _ (Option.some.inj h).symm (leSt_m [(0, 0), (1, 1), (2, 2), (3, 3), (4, 4), (5, 5)] [] (by simp only [push_cast, seval]) (by simp only [push_cast, seval]) rfl rfl rfl)
  · refine ex_cast hx2 (id := 0) ?_
    obtain ⟨r0, h, e0⟩ := map_sx h
    have e1 := hr2 r0 e0.symm
    subst r0
    refine wk_id ?_
    refine wk_id ?_
    refine seq_np ?_
    refine seq_np ?_
    refine reg_t ?_
    refine rs 1 [] [] (by kernel_rfl) allP_nil ?_
    obtain ⟨r2304, hr2304, h⟩ := bind_sx h
    refine call_x (ring_All_spec xfrom r2304 hr2304) (args := [.agg (Enc.cells xfrom)]) (dst := (some 34)) (by kernel_rfl) [(0, .row 24 (Enc.cells xfrom)), (1, .row 24 (Enc.cells to)), (2, .row 24 [iS 0, .v (.slice none 0 0)]), (3, .row 24 [iS 0, .v (.slice none 0 0)]), (4, .row 28 [iS 0, iS 0]), (5, .row 24 (fl ([xfrom, to] : List Ring)))] 7 (by kernel_rfl) [] [] (.own 7 0 r2304.length) [(7, .row 3 (fl r2304))] (by simp only [push_cast, seval]) (by simp only [push_cast, seval]) (by kernel_rfl) (.inl rfl) (by simp only [push_cast, seval]) (by simp only [push_cast, seval]) ?_
    refine rs 1 [] [] (by kernel_rfl) allP_nil ?_
    obtain ⟨r2305, hr2305, h⟩ := bind_sx h
    refine call_x (ring_All_spec to r2305 hr2305) (args := [.agg (Enc.cells to)]) (dst := (some 36)) (by kernel_rfl) [(0, .row 24 (Enc.cells xfrom)), (1, .row 24 (Enc.cells to)), (2, .row 24 [iS 0, .v (.slice none 0 0)]), (3, .row 24 [iS 0, .v (.slice none 0 0)]), (4, .row 28 [iS 0, iS 0]), (5, .row 24 (fl ([xfrom, to] : List Ring))), (7, .row 3 (fl r2304))] 10 (by kernel_rfl) [] [] (.own 10 0 r2305.length) [(10, .row 3 (fl r2305))] (by simp only [push_cast, seval]) (by simp only [push_cast, seval]) (by kernel_rfl) (.inl rfl) (by simp only [push_cast, seval]) (by simp only [push_cast, seval]) ?_
    obtain ⟨r2306, hr2306, h⟩ := bind_sx h
    refine call_x (ring_disjoint_spec r2304 r2305 r2306 hr2306) (args := [.own 7 0 r2304.length, .own 10 0 r2305.length]) (dst := (some 37)) (by kernel_rfl) [(0, .row 24 (Enc.cells xfrom)), (1, .row 24 (Enc.cells to)), (2, .row 24 [iS 0, .v (.slice none 0 0)]), (3, .row 24 [iS 0, .v (.slice none 0 0)]), (4, .row 28 [iS 0, iS 0]), (5, .row 24 (fl ([xfrom, to] : List Ring))), (7, .row 3 (fl r2304)), (10, .row 3 (fl r2305))] 12 (by kernel_rfl) [] [7, 10] (iS r2306) [] (by simp only [push_cast, seval]) (by simp only [push_cast, seval]) (by kernel_rfl) (.inr ⟨by simp only [push_cast, seval], by simp only [push_cast, seval]⟩) (by simp only [push_cast, seval]) (by simp only [push_cast, seval]) ?_
    refine rs 1 [] [] (by kernel_rfl) allP_nil ?_
    refine rt [(2, bS xnext), (3, .ptr 0 0), (4, .ptr 1 0), (6, .ptr 2 0), (7, .ptr 3 0), (9, .ptr 4 0), (13, iS r2306)] [(0, .row 24 (Enc.cells xfrom)), (1, .row 24 (Enc.cells to)), (2, .row 24 [iS 0, .v (.slice none 0 0)]), (3, .row 24 [iS 0, .v (.slice none 0 0)]), (4, .row 28 [iS 0, iS 0]), (5, .row 24 (fl ([xfrom, to] : List Ring))), (7, .row 3 (fl r2304)), (10, .row 3 (fl r2305))] 14 follows (by kernel_rfl) ?_
    refine wk_id ?_
    refine seq_np ?_
    refine reg_f ?_
    refine rs 2 [] [] (by kernel_rfl) allP_nil ?_
    refine rf [(2, bS xnext), (3, .ptr 0 0), (4, .ptr 1 0), (6, .ptr 2 0), (7, .ptr 3 0), (9, .ptr 4 0), (39, bS (decide ((0 : Int) ≤ r2306)))] [(0, .row 24 (Enc.cells xfrom)), (1, .row 24 (Enc.cells to)), (2, .row 24 [iS 0, .v (.slice none 0 0)]), (3, .row 24 [iS 0, .v (.slice none 0 0)]), (4, .row 28 [iS 0, iS 0]), (5, .row 24 (fl ([xfrom, to] : List Ring))), (7, .row 3 (fl r2304)), (10, .row 3 (fl r2305))] 14 (by kernel_rfl) ?_
    refine wk_id ?_
    refine cond_sx h (by kernel_rfl) (fun g2347 h => ?_) (fun g2347 h => ?_)
    · refine seq_np ?_
      refine reg_f ?_
      refine rs 2 [] [] (by kernel_rfl) allP_nil ?_
      obtain ⟨r2308, hr2308, h⟩ := bind_sx h
      refine run_call 27 [iS 8, iS 0] (some 42) (by kernel_rfl) ?_
      refine call_0 (ring_fault_spec 8 0 r2308 hr2308) (by simp only [push_cast, seval]) (by simp only [push_cast, seval]) ?_
      refine back_f ?_
      refine rs 4 [] [] (by kernel_rfl) allP_nil ?_
      refine rf [(6, .ptr 2 0), (7, .ptr 3 0), (8, iS 0), (9, .ptr 4 0)] [(0, .row 24 (Enc.cells xfrom)), (1, .row 24 (Enc.cells to)), (2, .row 24 [iS 0, .v (.slice none 0 0)]), (3, .row 24 [iS 0, .v (.slice none 0 0)]), (4, .row 28 (Enc.cells r2308)), (5, .row 24 (fl ([xfrom, to] : List Ring))), (7, .row 3 (fl r2304)), (10, .row 3 (fl r2305))] 14 (by kernel_rfl) ?_
      refine wk_id ?_
      obtain rfl := Option.some.inj h
      refine ret_at (.tup [.agg [iS 0, .v (.slice none 0 0)], .agg [iS 0, .v (.slice none 0 0)], iS 0, .agg (Enc.cells r2308)]) (by kernel_rfl) ?_
      exact ret_e [] [] (by simp only [push_cast, seval]) (by simp only [push_cast, seval]) rfl rfl rfl
    · refine wk_id ?_
      refine seq_np ?_
      refine reg_t ?_
      refine rs 1 [] [] (by kernel_rfl) allP_nil ?_
      obtain ⟨r2311, hr2311, h⟩ := bind_sx h
      refine call_x (ring_copied_spec xfrom r2311 hr2311) (args := [.agg (Enc.cells xfrom)]) (dst := (some 44)) (by kernel_rfl) [(0, .row 24 (Enc.cells xfrom)), (1, .row 24 (Enc.cells to)), (2, .row 24 [iS 0, .v (.slice none 0 0)]), (3, .row 24 [iS 0, .v (.slice none 0 0)]), (4, .row 28 [iS 0, iS 0]), (5, .row 24 (fl ([xfrom, to] : List Ring))), (7, .row 3 (fl r2304)), (10, .row 3 (fl r2305))] 15 (by kernel_rfl) [] [] (.agg [iS r2311.1, .own 15 0 r2311.2.length]) [(15, .row 3 (fl r2311.2))] (by simp only [push_cast, seval]) (by simp only [push_cast, seval]) (by kernel_rfl) (.inl rfl) (by simp only [push_cast, seval]) (by simp only [push_cast, seval]) ?_
      refine rs 1 [] [] (by kernel_rfl) allP_nil ?_
      obtain ⟨r2312, hr2312, h⟩ := bind_sx h
      refine call_x (ring_copied_spec to r2312 hr2312) (args := [.agg (Enc.cells to)]) (dst := (some 46)) (by kernel_rfl) [(0, .row 24 (Enc.cells xfrom)), (1, .row 24 (Enc.cells to)), (2, .row 24 [iS 0, .v (.slice none 0 0)]), (3, .row 24 [iS 0, .v (.slice none 0 0)]), (4, .row 28 [iS 0, iS 0]), (5, .row 24 (fl ([xfrom, to] : List Ring))), (7, .row 3 (fl r2304)), (10, .row 3 (fl r2305)), (15, .row 3 (fl r2311.2))] 18 (by kernel_rfl) [] [] (.agg [iS r2312.1, .own 18 0 r2312.2.length]) [(18, .row 3 (fl r2312.2))] (by simp only [push_cast, seval]) (by simp only [push_cast, seval]) (by kernel_rfl) (.inl rfl) (by simp only [push_cast, seval]) (by simp only [push_cast, seval]) ?_
      refine rs 2 [] [] (by kernel_rfl) allP_nil ?_
      refine rt [(2, bS xnext), (3, .ptr 0 0), (4, .ptr 1 0), (6, .ptr 2 0), (7, .ptr 3 0), (9, .ptr 4 0)] [(0, .row 24 [iS r2311.1, .own 15 0 r2311.2.length]), (1, .row 24 [iS r2312.1, .own 18 0 r2312.2.length]), (2, .row 24 [iS 0, .v (.slice none 0 0)]), (3, .row 24 [iS 0, .v (.slice none 0 0)]), (4, .row 28 [iS 0, iS 0]), (5, .row 24 (fl ([xfrom, to] : List Ring))), (7, .row 3 (fl r2304)), (10, .row 3 (fl r2305)), (15, .row 3 (fl r2311.2)), (18, .row 3 (fl r2312.2))] 22 follows (by kernel_rfl) ?_
      refine wk_id ?_
      refine seq_np ?_
      refine reg_f ?_
      refine rs 5 [] [] (by kernel_rfl) allP_nil ?_
      refine rf [(2, bS xnext), (3, .ptr 0 0), (4, .ptr 1 0), (6, .ptr 2 0), (7, .ptr 3 0), (9, .ptr 4 0), (14, iS (IntKind.i64.wrap ((256 : Int) - ((r2312.2.length : Nat) : Int))))] [(0, .row 24 [iS r2311.1, .own 15 0 r2311.2.length]), (1, .row 24 [iS r2312.1, .own 18 0 r2312.2.length]), (2, .row 24 [iS 0, .v (.slice none 0 0)]), (3, .row 24 [iS 0, .v (.slice none 0 0)]), (4, .row 28 [iS 0, iS 0]), (5, .row 24 (fl ([xfrom, to] : List Ring))), (7, .row 3 (fl r2304)), (10, .row 3 (fl r2305)), (15, .row 3 (fl r2311.2)), (18, .row 3 (fl r2312.2))] 22 (by kernel_rfl) ?_
      refine wk_id ?_
      refine seq_np ?_
      refine seq_np ?_
      refine reg_f ?_
      refine rs 4 [] [] (by kernel_rfl) allP_nil ?_
      refine rf [(2, bS xnext), (3, .ptr 0 0), (4, .ptr 1 0), (6, .ptr 2 0), (7, .ptr 3 0), (9, .ptr 4 0), (14, iS (IntKind.i64.wrap ((256 : Int) - ((r2312.2.length : Nat) : Int)))), (54, bS (((r2311.2.length : Nat) : Int) == 0))] [(0, .row 24 [iS r2311.1, .own 15 0 r2311.2.length]), (1, .row 24 [iS r2312.1, .own 18 0 r2312.2.length]), (2, .row 24 [iS 0, .v (.slice none 0 0)]), (3, .row 24 [iS 0, .v (.slice none 0 0)]), (4, .row 28 [iS 0, iS 0]), (5, .row 24 (fl ([xfrom, to] : List Ring))), (7, .row 3 (fl r2304)), (10, .row 3 (fl r2305)), (15, .row 3 (fl r2311.2)), (18, .row 3 (fl r2312.2))] 22 (by kernel_rfl) ?_
      refine wk_id ?_
      refine cond_sx h (by kernel_rfl) (fun g2346 h => ?_) (fun g2346 h => ?_)
      · refine seq_np ?_
        refine seq_cut (A := Unit) (fun _ => ([(3, .ptr 0 0), (4, .ptr 1 0), (6, .ptr 2 0), (7, .ptr 3 0), (9, .ptr 4 0), (65, bS ((!xnext) || ((r2311.1 == 0) || ((IntKind.i64.wrap ((256 : Int) - ((r2312.2.length : Nat) : Int))) == 0))))], [(0, .row 24 [iS r2311.1, .own 15 0 r2311.2.length]), (1, .row 24 [iS r2312.1, .own 18 0 r2312.2.length]), (2, .row 24 [iS 0, .v (.slice none 0 0)]), (3, .row 24 [iS 0, .v (.slice none 0 0)]), (4, .row 28 [iS 0, iS 0]), (5, .row 24 (fl ([xfrom, to] : List Ring))), (7, .row 3 (fl r2304)), (10, .row 3 (fl r2305)), (15, .row 3 (fl r2311.2)), (18, .row 3 (fl r2312.2))], 22)) (fun _ => True) (fun K2324 hK2324 => ?_) (fun _ _ => ?_)
        · refine reg_f ?_
          refine rs 3 [] [] (by kernel_rfl) allP_nil ?_
          refine run_split 57 (!xnext) (.inl (by kernel_rfl)) (fun g2325 => ?_) (fun g2325 => ?_)
          · refine rs 8 [] [] (by kernel_rfl) allP_nil ?_
            refine rf [(3, .ptr 0 0), (4, .ptr 1 0), (6, .ptr 2 0), (7, .ptr 3 0), (9, .ptr 4 0), (65, bS true)] [(0, .row 24 [iS r2311.1, .own 15 0 r2311.2.length]), (1, .row 24 [iS r2312.1, .own 18 0 r2312.2.length]), (2, .row 24 [iS 0, .v (.slice none 0 0)]), (3, .row 24 [iS 0, .v (.slice none 0 0)]), (4, .row 28 [iS 0, iS 0]), (5, .row 24 (fl ([xfrom, to] : List Ring))), (7, .row 3 (fl r2304)), (10, .row 3 (fl r2305)), (15, .row 3 (fl r2311.2)), (18, .row 3 (fl r2312.2))] 22 (by kernel_rfl) ?_
            exact hK2324 () _ _ _ trivial (leSt_m [(0, 0), (1, 1), (2, 2), (3, 3), (4, 4), (5, 5), (7, 7), (10, 10), (15, 15), (18, 18)] [] (by (try simp only [g2325]) <;> simp only [push_cast, seval]) (by (try simp only [g2325]) <;> simp only [push_cast, seval]) rfl rfl rfl)
          · refine rs 5 [] [] (by kernel_rfl) allP_nil ?_
            refine run_split 62 (r2311.1 == 0) (.inl (by kernel_rfl)) (fun g2326 => ?_) (fun g2326 => ?_)
            · refine rs 3 [] [] (by kernel_rfl) allP_nil ?_
              refine rf [(3, .ptr 0 0), (4, .ptr 1 0), (6, .ptr 2 0), (7, .ptr 3 0), (9, .ptr 4 0), (65, bS true)] [(0, .row 24 [iS r2311.1, .own 15 0 r2311.2.length]), (1, .row 24 [iS r2312.1, .own 18 0 r2312.2.length]), (2, .row 24 [iS 0, .v (.slice none 0 0)]), (3, .row 24 [iS 0, .v (.slice none 0 0)]), (4, .row 28 [iS 0, iS 0]), (5, .row 24 (fl ([xfrom, to] : List Ring))), (7, .row 3 (fl r2304)), (10, .row 3 (fl r2305)), (15, .row 3 (fl r2311.2)), (18, .row 3 (fl r2312.2))] 22 (by kernel_rfl) ?_
              exact hK2324 () _ _ _ trivial (leSt_m [(0, 0), (1, 1), (2, 2), (3, 3), (4, 4), (5, 5), (7, 7), (10, 10), (15, 15), (18, 18)] [] (by (try simp only [g2325, g2326]) <;> simp only [push_cast, seval]) (by (try simp only [g2325, g2326]) <;> simp only [push_cast, seval]) rfl rfl rfl)
            · refine rs 3 [] [] (by kernel_rfl) allP_nil ?_
              refine rf [(3, .ptr 0 0), (4, .ptr 1 0), (6, .ptr 2 0), (7, .ptr 3 0), (9, .ptr 4 0), (65, bS ((IntKind.i64.wrap ((256 : Int) - ((r2312.2.length : Nat) : Int))) == 0))] [(0, .row 24 [iS r2311.1, .own 15 0 r2311.2.length]), (1, .row 24 [iS r2312.1, .own 18 0 r2312.2.length]), (2, .row 24 [iS 0, .v (.slice none 0 0)]), (3, .row 24 [iS 0, .v (.slice none 0 0)]), (4, .row 28 [iS 0, iS 0]), (5, .row 24 (fl ([xfrom, to] : List Ring))), (7, .row 3 (fl r2304)), (10, .row 3 (fl r2305)), (15, .row 3 (fl r2311.2)), (18, .row 3 (fl r2312.2))] 22 (by kernel_rfl) ?_
              exact hK2324 () _ _ _ trivial (leSt_m [(0, 0), (1, 1), (2, 2), (3, 3), (4, 4), (5, 5), (7, 7), (10, 10), (15, 15), (18, 18)] [] (by (try simp only [g2325, g2326]) <;> simp only [push_cast, seval]) (by (try simp only [g2325, g2326]) <;> simp only [push_cast, seval]) rfl rfl rfl)
        · dsimp only
          refine cond_sx h (by kernel_rfl) (fun g2331 h => ?_) (fun g2331 h => ?_)
          · refine seq_np ?_
            refine reg_t ?_
            refine rs 7 [] [] (by kernel_rfl) allP_nil ?_
            refine rt [(6, .ptr 2 0), (7, .ptr 3 0), (8, iS 0), (9, .ptr 4 0)] [(0, .row 24 [iS r2311.1, .own 15 0 r2311.2.length]), (1, .row 24 [iS r2312.1, .own 18 0 r2312.2.length]), (2, .row 24 [iS r2311.1, .own 15 0 r2311.2.length]), (3, .row 24 [iS r2312.1, .own 18 0 r2312.2.length]), (4, .row 28 [iS 0, iS 0]), (5, .row 24 (fl ([xfrom, to] : List Ring))), (7, .row 3 (fl r2304)), (10, .row 3 (fl r2305)), (15, .row 3 (fl r2311.2)), (18, .row 3 (fl r2312.2))] 29 follows (by kernel_rfl) ?_
            refine wk_id ?_
            obtain rfl := Option.some.inj h
            refine ret_at (.tup [.agg [iS r2311.1, .own 15 0 r2311.2.length], .agg [iS r2312.1, .own 18 0 r2312.2.length], iS 0, .agg [iS 0, iS 0]]) (by kernel_rfl) ?_
            exact ret_e [(0, 15), (1, 18)] [] (by simp only [push_cast, seval]) (by simp only [push_cast, seval]) rfl rfl rfl
          · refine wk_id ?_
            refine chk_sx h (fun g2330 h => ?_)
            refine seq_np ?_
            refine reg_f ?_
            have k2329 : (r2312.2 ++ ([r2311.1] : List Int)).length * 8 ≤ 140737488355328 := by first | simpa only [Bool.and_eq_true, decide_eq_true_eq, bne_iff_ne, ne_eq] using g2330 | (simp at g2330 ⊢; omega)
            refine rs 8 [none, none, none, none, none, some ⟨.own 23 0 (r2312.2 ++ ([r2311.1] : List Int)).length, [(23, .row 3 (fl (r2312.2 ++ ([r2311.1] : List Int)))), (18, .dead)], 24, [18, 22]⟩] _ (by kernel_rfl) (allP_cons (ob_app (P := Try.prog) r2312.2 ([r2311.1] : List Int) 1 8 rfl (appCells (fl ([r2311.1] : List Int)) 0 (([r2311.1] : List Int).length * 1)) ([r2311.1] : List Int).length (app_own ([r2311.1] : List Int) 1 rfl) rfl (0 + ([r2311.1] : List Int).length * 1 ≤ (fl ([r2311.1] : List Int)).length) (app_own_le ([r2311.1] : List Int) 1 rfl) 3 (by kernel_rfl) (by decide) k2329 18 23 [22]) allP_nil) ?_
            refine rf [(3, .ptr 0 0), (4, .ptr 1 0), (6, .ptr 2 0), (7, .ptr 3 0), (9, .ptr 4 0)] [(0, .row 24 [iS r2311.1, .own 15 0 r2311.2.length]), (1, .row 24 [iS r2312.1, .own 23 0 (r2312.2 ++ ([r2311.1] : List Int)).length]), (2, .row 24 [iS 0, .v (.slice none 0 0)]), (3, .row 24 [iS 0, .v (.slice none 0 0)]), (4, .row 28 [iS 0, iS 0]), (5, .row 24 (fl ([xfrom, to] : List Ring))), (7, .row 3 (fl r2304)), (10, .row 3 (fl r2305)), (15, .row 3 (fl r2311.2)), (18, .dead), (22, .row 3 (fl ([r2311.1] : List Int))), (23, .row 3 (fl (r2312.2 ++ ([r2311.1] : List Int))))] 24 (by kernel_rfl) ?_
            refine wk_id ?_
            refine seq_np ?_
            refine reg_f ?_
            refine rs 2 [] [] (by kernel_rfl) allP_nil ?_
            refine rf [(3, .ptr 0 0), (4, .ptr 1 0), (6, .ptr 2 0), (7, .ptr 3 0), (9, .ptr 4 0)] [(0, .row 24 [iS 0, .own 15 0 r2311.2.length]), (1, .row 24 [iS r2312.1, .own 23 0 (r2312.2 ++ ([r2311.1] : List Int)).length]), (2, .row 24 [iS 0, .v (.slice none 0 0)]), (3, .row 24 [iS 0, .v (.slice none 0 0)]), (4, .row 28 [iS 0, iS 0]), (5, .row 24 (fl ([xfrom, to] : List Ring))), (7, .row 3 (fl r2304)), (10, .row 3 (fl r2305)), (15, .row 3 (fl r2311.2)), (18, .dead), (22, .row 3 (fl ([r2311.1] : List Int))), (23, .row 3 (fl (r2312.2 ++ ([r2311.1] : List Int))))] 24 (by kernel_rfl) ?_
            refine wk_id ?_
            refine seq_np ?_
            refine reg_t ?_
            refine rs 7 [] [] (by kernel_rfl) allP_nil ?_
            refine rt [(6, .ptr 2 0), (7, .ptr 3 0), (8, iS 1), (9, .ptr 4 0)] [(0, .row 24 [iS 0, .own 15 0 r2311.2.length]), (1, .row 24 [iS r2312.1, .own 23 0 (r2312.2 ++ ([r2311.1] : List Int)).length]), (2, .row 24 [iS 0, .own 15 0 r2311.2.length]), (3, .row 24 [iS r2312.1, .own 23 0 (r2312.2 ++ ([r2311.1] : List Int)).length]), (4, .row 28 [iS 0, iS 0]), (5, .row 24 (fl ([xfrom, to] : List Ring))), (7, .row 3 (fl r2304)), (10, .row 3 (fl r2305)), (15, .row 3 (fl r2311.2)), (18, .dead), (22, .row 3 (fl ([r2311.1] : List Int))), (23, .row 3 (fl (r2312.2 ++ ([r2311.1] : List Int))))] 31 follows (by kernel_rfl) ?_
            refine wk_id ?_
            obtain rfl := Option.some.inj h
            refine ret_at (.tup [.agg [iS 0, .own 15 0 r2311.2.length], .agg [iS r2312.1, .own 23 0 (r2312.2 ++ ([r2311.1] : List Int)).length], iS 1, .agg [iS 0, iS 0]]) (by kernel_rfl) ?_
            exact ret_e [(0, 15), (1, 23)] [] (by simp only [push_cast, seval]) (by simp only [push_cast, seval]) rfl rfl rfl
      · refine wk_id ?_
        refine seq_np ?_
        refine reg_f ?_
        refine rs 11 [] [] (by kernel_rfl) allP_nil ?_
        refine rf [(3, .ptr 0 0), (4, .ptr 1 0), (6, .ptr 2 0), (7, .ptr 3 0), (9, .ptr 4 0), (15, iS (min (IntKind.i64.wrap (((r2311.2.length : Nat) : Int) - (IntKind.i64.wrap (Int.tdiv ((r2311.2.length : Nat) : Int) 2)))) (IntKind.i64.wrap ((256 : Int) - ((r2312.2.length : Nat) : Int)))))] [(0, .row 24 [iS r2311.1, .own 15 0 r2311.2.length]), (1, .row 24 [iS r2312.1, .own 18 0 r2312.2.length]), (2, .row 24 [iS 0, .v (.slice none 0 0)]), (3, .row 24 [iS 0, .v (.slice none 0 0)]), (4, .row 28 [iS 0, iS 0]), (5, .row 24 (fl ([xfrom, to] : List Ring))), (7, .row 3 (fl r2304)), (10, .row 3 (fl r2305)), (15, .row 3 (fl r2311.2)), (18, .row 3 (fl r2312.2))] 22 (by kernel_rfl) ?_
        refine wk_id ?_
        refine chk_sx h (fun g2337 h => ?_)
        refine chk_sx h (fun g2339 h => ?_)
        refine seq_np ?_
        refine reg_t ?_
        have k2336 : 0 ≤ (0 : Int) ∧ (0 : Int) ≤ (min (IntKind.i64.wrap (((r2311.2.length : Nat) : Int) - (IntKind.i64.wrap (Int.tdiv ((r2311.2.length : Nat) : Int) 2)))) (IntKind.i64.wrap ((256 : Int) - ((r2312.2.length : Nat) : Int)))) ∧ (min (IntKind.i64.wrap (((r2311.2.length : Nat) : Int) - (IntKind.i64.wrap (Int.tdiv ((r2311.2.length : Nat) : Int) 2)))) (IntKind.i64.wrap ((256 : Int) - ((r2312.2.length : Nat) : Int)))) ≤ ((r2311.2.length : Nat) : Int) := by first | simpa only [Bool.and_eq_true, decide_eq_true_eq, bne_iff_ne, ne_eq] using g2337 | (simp at g2337 ⊢; omega)
        have k2338 : (r2312.2 ++ (cut r2311.2 (0 : Int) (min (IntKind.i64.wrap (((r2311.2.length : Nat) : Int) - (IntKind.i64.wrap (Int.tdiv ((r2311.2.length : Nat) : Int) 2)))) (IntKind.i64.wrap ((256 : Int) - ((r2312.2.length : Nat) : Int)))))).length * 8 ≤ 140737488355328 := by first | simpa only [Bool.and_eq_true, decide_eq_true_eq, bne_iff_ne, ne_eq] using g2339 | (simp at g2339 ⊢; omega)
        refine rs 9 [none, none, none, none, none, some ⟨.own 15 (((0 : Int)).toNat * 1) (cut r2311.2 (0 : Int) (min (IntKind.i64.wrap (((r2311.2.length : Nat) : Int) - (IntKind.i64.wrap (Int.tdiv ((r2311.2.length : Nat) : Int) 2)))) (IntKind.i64.wrap ((256 : Int) - ((r2312.2.length : Nat) : Int))))).length, [], 27, [15]⟩, some ⟨.own 28 0 (r2312.2 ++ (cut r2311.2 (0 : Int) (min (IntKind.i64.wrap (((r2311.2.length : Nat) : Int) - (IntKind.i64.wrap (Int.tdiv ((r2311.2.length : Nat) : Int) 2)))) (IntKind.i64.wrap ((256 : Int) - ((r2312.2.length : Nat) : Int)))))).length, [(28, .row 3 (fl (r2312.2 ++ (cut r2311.2 (0 : Int) (min (IntKind.i64.wrap (((r2311.2.length : Nat) : Int) - (IntKind.i64.wrap (Int.tdiv ((r2311.2.length : Nat) : Int) 2)))) (IntKind.i64.wrap ((256 : Int) - ((r2312.2.length : Nat) : Int)))))))), (18, .dead)], 29, [18, 15]⟩] _ (by kernel_rfl) (allP_cons (ob_app (P := Try.prog) r2312.2 (cut r2311.2 (0 : Int) (min (IntKind.i64.wrap (((r2311.2.length : Nat) : Int) - (IntKind.i64.wrap (Int.tdiv ((r2311.2.length : Nat) : Int) 2)))) (IntKind.i64.wrap ((256 : Int) - ((r2312.2.length : Nat) : Int))))) 1 8 rfl (appCells (fl r2311.2) (((0 : Int)).toNat * 1) ((cut r2311.2 (0 : Int) (min (IntKind.i64.wrap (((r2311.2.length : Nat) : Int) - (IntKind.i64.wrap (Int.tdiv ((r2311.2.length : Nat) : Int) 2)))) (IntKind.i64.wrap ((256 : Int) - ((r2312.2.length : Nat) : Int))))).length * 1)) (cut r2311.2 (0 : Int) (min (IntKind.i64.wrap (((r2311.2.length : Nat) : Int) - (IntKind.i64.wrap (Int.tdiv ((r2311.2.length : Nat) : Int) 2)))) (IntKind.i64.wrap ((256 : Int) - ((r2312.2.length : Nat) : Int))))).length (app_cut r2311.2 (0 : Int) (min (IntKind.i64.wrap (((r2311.2.length : Nat) : Int) - (IntKind.i64.wrap (Int.tdiv ((r2311.2.length : Nat) : Int) 2)))) (IntKind.i64.wrap ((256 : Int) - ((r2312.2.length : Nat) : Int)))) 1 rfl) rfl ((((0 : Int)).toNat * 1) + (cut r2311.2 (0 : Int) (min (IntKind.i64.wrap (((r2311.2.length : Nat) : Int) - (IntKind.i64.wrap (Int.tdiv ((r2311.2.length : Nat) : Int) 2)))) (IntKind.i64.wrap ((256 : Int) - ((r2312.2.length : Nat) : Int))))).length * 1 ≤ (fl r2311.2).length) (app_cut_le r2311.2 (0 : Int) (min (IntKind.i64.wrap (((r2311.2.length : Nat) : Int) - (IntKind.i64.wrap (Int.tdiv ((r2311.2.length : Nat) : Int) 2)))) (IntKind.i64.wrap ((256 : Int) - ((r2312.2.length : Nat) : Int)))) 1 rfl k2336) 3 (by kernel_rfl) (by decide) k2338 18 28 [15]) (allP_cons (ob_cutP (P := Try.prog) r2311.2 (0 : Int) (min (IntKind.i64.wrap (((r2311.2.length : Nat) : Int) - (IntKind.i64.wrap (Int.tdiv ((r2311.2.length : Nat) : Int) 2)))) (IntKind.i64.wrap ((256 : Int) - ((r2312.2.length : Nat) : Int)))) 1 27 15 3 (by kernel_rfl) k2336) allP_nil)) ?_
        refine rt [(3, .ptr 0 0), (4, .ptr 1 0), (6, .ptr 2 0), (7, .ptr 3 0), (9, .ptr 4 0), (15, iS (min (IntKind.i64.wrap (((r2311.2.length : Nat) : Int) - (IntKind.i64.wrap (Int.tdiv ((r2311.2.length : Nat) : Int) 2)))) (IntKind.i64.wrap ((256 : Int) - ((r2312.2.length : Nat) : Int)))))] [(0, .row 24 [iS r2311.1, .own 15 0 r2311.2.length]), (1, .row 24 [iS r2312.1, .own 28 0 (r2312.2 ++ (cut r2311.2 (0 : Int) (min (IntKind.i64.wrap (((r2311.2.length : Nat) : Int) - (IntKind.i64.wrap (Int.tdiv ((r2311.2.length : Nat) : Int) 2)))) (IntKind.i64.wrap ((256 : Int) - ((r2312.2.length : Nat) : Int)))))).length]), (2, .row 24 [iS 0, .v (.slice none 0 0)]), (3, .row 24 [iS 0, .v (.slice none 0 0)]), (4, .row 28 [iS 0, iS 0]), (5, .row 24 (fl ([xfrom, to] : List Ring))), (7, .row 3 (fl r2304)), (10, .row 3 (fl r2305)), (15, .row 3 (fl r2311.2)), (18, .dead), (28, .row 3 (fl (r2312.2 ++ (cut r2311.2 (0 : Int) (min (IntKind.i64.wrap (((r2311.2.length : Nat) : Int) - (IntKind.i64.wrap (Int.tdiv ((r2311.2.length : Nat) : Int) 2)))) (IntKind.i64.wrap ((256 : Int) - ((r2312.2.length : Nat) : Int))))))))] 32 follows (by kernel_rfl) ?_
        refine wk_id ?_
        refine chk_sx h (fun g2344 h => ?_)
        refine seq_np ?_
        refine reg_f ?_
        have k2343 : 0 ≤ (min (IntKind.i64.wrap (((r2311.2.length : Nat) : Int) - (IntKind.i64.wrap (Int.tdiv ((r2311.2.length : Nat) : Int) 2)))) (IntKind.i64.wrap ((256 : Int) - ((r2312.2.length : Nat) : Int)))) ∧ (min (IntKind.i64.wrap (((r2311.2.length : Nat) : Int) - (IntKind.i64.wrap (Int.tdiv ((r2311.2.length : Nat) : Int) 2)))) (IntKind.i64.wrap ((256 : Int) - ((r2312.2.length : Nat) : Int)))) ≤ ((r2311.2.length : Nat) : Int) ∧ ((r2311.2.length : Nat) : Int) ≤ ((r2311.2.length : Nat) : Int) := by first | simpa only [Bool.and_eq_true, decide_eq_true_eq, bne_iff_ne, ne_eq] using g2344 | (simp at g2344 ⊢; omega)
        refine rs 4 [none, none, none, some ⟨.own 15 (((min (IntKind.i64.wrap (((r2311.2.length : Nat) : Int) - (IntKind.i64.wrap (Int.tdiv ((r2311.2.length : Nat) : Int) 2)))) (IntKind.i64.wrap ((256 : Int) - ((r2312.2.length : Nat) : Int))))).toNat * 1) (cut r2311.2 (min (IntKind.i64.wrap (((r2311.2.length : Nat) : Int) - (IntKind.i64.wrap (Int.tdiv ((r2311.2.length : Nat) : Int) 2)))) (IntKind.i64.wrap ((256 : Int) - ((r2312.2.length : Nat) : Int)))) ((r2311.2.length : Nat) : Int)).length, [], 32, [15]⟩] _ (by kernel_rfl) (allP_cons (ob_cutP (P := Try.prog) r2311.2 (min (IntKind.i64.wrap (((r2311.2.length : Nat) : Int) - (IntKind.i64.wrap (Int.tdiv ((r2311.2.length : Nat) : Int) 2)))) (IntKind.i64.wrap ((256 : Int) - ((r2312.2.length : Nat) : Int)))) ((r2311.2.length : Nat) : Int) 1 32 15 3 (by kernel_rfl) k2343) allP_nil) ?_
        obtain ⟨r2345, hr2345, h⟩ := bind_sx h
        refine call_x (slices_Clone_spec (cut r2311.2 (min (IntKind.i64.wrap (((r2311.2.length : Nat) : Int) - (IntKind.i64.wrap (Int.tdiv ((r2311.2.length : Nat) : Int) 2)))) (IntKind.i64.wrap ((256 : Int) - ((r2312.2.length : Nat) : Int)))) ((r2311.2.length : Nat) : Int)) r2345 hr2345) (args := [.own 15 (((min (IntKind.i64.wrap (((r2311.2.length : Nat) : Int) - (IntKind.i64.wrap (Int.tdiv ((r2311.2.length : Nat) : Int) 2)))) (IntKind.i64.wrap ((256 : Int) - ((r2312.2.length : Nat) : Int))))).toNat * 1) (cut r2311.2 (min (IntKind.i64.wrap (((r2311.2.length : Nat) : Int) - (IntKind.i64.wrap (Int.tdiv ((r2311.2.length : Nat) : Int) 2)))) (IntKind.i64.wrap ((256 : Int) - ((r2312.2.length : Nat) : Int)))) ((r2311.2.length : Nat) : Int)).length]) (dst := (some 102)) (by kernel_rfl) [(0, .row 24 [iS r2311.1, .own 15 0 r2311.2.length]), (1, .row 24 [iS r2312.1, .own 28 0 (r2312.2 ++ (cut r2311.2 (0 : Int) (min (IntKind.i64.wrap (((r2311.2.length : Nat) : Int) - (IntKind.i64.wrap (Int.tdiv ((r2311.2.length : Nat) : Int) 2)))) (IntKind.i64.wrap ((256 : Int) - ((r2312.2.length : Nat) : Int)))))).length]), (2, .row 24 [iS 0, .v (.slice none 0 0)]), (3, .row 24 [iS 0, .v (.slice none 0 0)]), (4, .row 28 [iS 0, iS 0]), (5, .row 24 (fl ([xfrom, to] : List Ring))), (7, .row 3 (fl r2304)), (10, .row 3 (fl r2305)), (15, .row 3 (fl r2311.2)), (18, .dead), (28, .row 3 (fl (r2312.2 ++ (cut r2311.2 (0 : Int) (min (IntKind.i64.wrap (((r2311.2.length : Nat) : Int) - (IntKind.i64.wrap (Int.tdiv ((r2311.2.length : Nat) : Int) 2)))) (IntKind.i64.wrap ((256 : Int) - ((r2312.2.length : Nat) : Int))))))))] 32 (by kernel_rfl) [] [15] (.own 32 0 r2345.length) [(32, .row 3 (fl r2345))] (by simp only [push_cast, seval]) (by simp only [push_cast, seval]) (by kernel_rfl) (.inr ⟨by simp only [push_cast, seval], by simp only [push_cast, seval]⟩) (by simp only [push_cast, seval]) (by simp only [push_cast, seval]) ?_
        refine rs 2 [] [] (by kernel_rfl) allP_nil ?_
        refine rf [(3, .ptr 0 0), (4, .ptr 1 0), (6, .ptr 2 0), (7, .ptr 3 0), (9, .ptr 4 0), (15, iS (min (IntKind.i64.wrap (((r2311.2.length : Nat) : Int) - (IntKind.i64.wrap (Int.tdiv ((r2311.2.length : Nat) : Int) 2)))) (IntKind.i64.wrap ((256 : Int) - ((r2312.2.length : Nat) : Int)))))] [(0, .row 24 [iS r2311.1, .own 32 0 r2345.length]), (1, .row 24 [iS r2312.1, .own 28 0 (r2312.2 ++ (cut r2311.2 (0 : Int) (min (IntKind.i64.wrap (((r2311.2.length : Nat) : Int) - (IntKind.i64.wrap (Int.tdiv ((r2311.2.length : Nat) : Int) 2)))) (IntKind.i64.wrap ((256 : Int) - ((r2312.2.length : Nat) : Int)))))).length]), (2, .row 24 [iS 0, .v (.slice none 0 0)]), (3, .row 24 [iS 0, .v (.slice none 0 0)]), (4, .row 28 [iS 0, iS 0]), (5, .row 24 (fl ([xfrom, to] : List Ring))), (7, .row 3 (fl r2304)), (10, .row 3 (fl r2305)), (15, .row 3 (fl r2311.2)), (18, .dead), (28, .row 3 (fl (r2312.2 ++ (cut r2311.2 (0 : Int) (min (IntKind.i64.wrap (((r2311.2.length : Nat) : Int) - (IntKind.i64.wrap (Int.tdiv ((r2311.2.length : Nat) : Int) 2)))) (IntKind.i64.wrap ((256 : Int) - ((r2312.2.length : Nat) : Int)))))))), (32, .row 3 (fl r2345))] 33 (by kernel_rfl) ?_
        refine wk_id ?_
        refine seq_np ?_
        refine reg_t ?_
        refine rs 8 [] [] (by kernel_rfl) allP_nil ?_
        refine rt [(6, .ptr 2 0), (7, .ptr 3 0), (8, iS (min (IntKind.i64.wrap (((r2311.2.length : Nat) : Int) - (IntKind.i64.wrap (Int.tdiv ((r2311.2.length : Nat) : Int) 2)))) (IntKind.i64.wrap ((256 : Int) - ((r2312.2.length : Nat) : Int))))), (9, .ptr 4 0)] [(0, .row 24 [iS r2311.1, .own 32 0 r2345.length]), (1, .row 24 [iS r2312.1, .own 28 0 (r2312.2 ++ (cut r2311.2 (0 : Int) (min (IntKind.i64.wrap (((r2311.2.length : Nat) : Int) - (IntKind.i64.wrap (Int.tdiv ((r2311.2.length : Nat) : Int) 2)))) (IntKind.i64.wrap ((256 : Int) - ((r2312.2.length : Nat) : Int)))))).length]), (2, .row 24 [iS r2311.1, .own 32 0 r2345.length]), (3, .row 24 [iS r2312.1, .own 28 0 (r2312.2 ++ (cut r2311.2 (0 : Int) (min (IntKind.i64.wrap (((r2311.2.length : Nat) : Int) - (IntKind.i64.wrap (Int.tdiv ((r2311.2.length : Nat) : Int) 2)))) (IntKind.i64.wrap ((256 : Int) - ((r2312.2.length : Nat) : Int)))))).length]), (4, .row 28 [iS 0, iS 0]), (5, .row 24 (fl ([xfrom, to] : List Ring))), (7, .row 3 (fl r2304)), (10, .row 3 (fl r2305)), (15, .row 3 (fl r2311.2)), (18, .dead), (28, .row 3 (fl (r2312.2 ++ (cut r2311.2 (0 : Int) (min (IntKind.i64.wrap (((r2311.2.length : Nat) : Int) - (IntKind.i64.wrap (Int.tdiv ((r2311.2.length : Nat) : Int) 2)))) (IntKind.i64.wrap ((256 : Int) - ((r2312.2.length : Nat) : Int)))))))), (32, .row 3 (fl r2345))] 41 follows (by kernel_rfl) ?_
        refine wk_id ?_
        obtain rfl := Option.some.inj h
        refine ret_at (.tup [.agg [iS r2311.1, .own 32 0 r2345.length], .agg [iS r2312.1, .own 28 0 (r2312.2 ++ (cut r2311.2 (0 : Int) (min (IntKind.i64.wrap (((r2311.2.length : Nat) : Int) - (IntKind.i64.wrap (Int.tdiv ((r2311.2.length : Nat) : Int) 2)))) (IntKind.i64.wrap ((256 : Int) - ((r2312.2.length : Nat) : Int)))))).length], iS (min (IntKind.i64.wrap (((r2311.2.length : Nat) : Int) - (IntKind.i64.wrap (Int.tdiv ((r2311.2.length : Nat) : Int) 2)))) (IntKind.i64.wrap ((256 : Int) - ((r2312.2.length : Nat) : Int)))), .agg [iS 0, iS 0]]) (by kernel_rfl) ?_
        exact ret_e [(0, 32), (1, 28)] [] (by simp only [push_cast, seval]) (by simp only [push_cast, seval]) rfl rfl rfl

set_option maxRecDepth 100000 in
set_option maxHeartbeats 10000000 in
theorem taskmilllaw_RingSteals_spec (xa : Ring) (b : Ring) (xnext : Bool) (r : Bool) (h : taskmilllaw_RingSteals xa b xnext = some r) : SpecW Try.prog 8 [.agg (Enc.cells xa), .agg (Enc.cells b), bS xnext] [] 0 (fun x h n => x = bS r ∧ h = [] ∧ n = 0) := by
  unfold taskmilllaw_RingSteals at h
  refine spec_of (draw_ok _) Try.func8 rfl (by decide) rfl (by kernel_rfl) ?_
  refine seq_np ?_
  refine reg_f ?_
  refine rs 3 [] [] (by kernel_rfl) allP_nil ?_
  refine rf [(2, bS xnext), (3, .ptr 0 0), (4, .ptr 1 0)] [(0, .row 24 (Enc.cells xa)), (1, .row 24 (Enc.cells b))] 2 (by kernel_rfl) ?_
  refine wk_id ?_
  refine seq_np ?_
  refine seq_np ?_
  refine reg_f ?_
  obtain ⟨r2436, hr2436, h⟩ := bind_sx h
  refine run_call 11 [] (some 16) (by kernel_rfl) ?_
  refine call_0 (taskmilllaw_ringBegun_spec r2436 hr2436) (by simp only [push_cast, seval]) (by simp only [push_cast, seval]) ?_
  refine back_f ?_
  refine rs 1 [] [] (by kernel_rfl) allP_nil ?_
  refine rf [(2, bS xnext), (3, .ptr 0 0), (4, .ptr 1 0), (17, bS (!r2436))] [(0, .row 24 (Enc.cells xa)), (1, .row 24 (Enc.cells b))] 2 (by kernel_rfl) ?_
  refine wk_id ?_
  refine cond_sx h (by kernel_rfl) (fun g2696 h => ?_) (fun g2696 h => ?_)
  · refine seq_np ?_
    refine reg_f ?_
    refine rs 1 [] [] (by kernel_rfl) allP_nil ?_
    refine rf [(6, bS false)] [(0, .row 24 (Enc.cells xa)), (1, .row 24 (Enc.cells b))] 2 (by kernel_rfl) ?_
    refine wk_id ?_
    obtain rfl := Option.some.inj h
    refine ret_at (bS false) (by kernel_rfl) ?_
    exact ret_e [] [] (by simp only [push_cast, seval]) (by simp only [push_cast, seval]) rfl rfl rfl
  · refine wk_id ?_
    refine seq_np ?_
    refine seq_cut (A := Unit) (fun _ => ([(2, bS xnext), (3, .ptr 0 0), (4, .ptr 1 0), (27, bS ((decide ((2000 : Int) < ((xa.List.length : Nat) : Int))) || (decide ((2000 : Int) < ((b.List.length : Nat) : Int)))))], [(0, .row 24 (Enc.cells xa)), (1, .row 24 (Enc.cells b))], 2)) (fun _ => True) (fun K2440 hK2440 => ?_) (fun _ _ => ?_)
    · refine reg_f ?_
      refine rs 5 [] [] (by kernel_rfl) allP_nil ?_
      refine run_split 22 (decide ((2000 : Int) < ((xa.List.length : Nat) : Int))) (.inl (by kernel_rfl)) (fun g2441 => ?_) (fun g2441 => ?_)
      · refine rs 5 [] [] (by kernel_rfl) allP_nil ?_
        refine rf [(2, bS xnext), (3, .ptr 0 0), (4, .ptr 1 0), (27, bS true)] [(0, .row 24 (Enc.cells xa)), (1, .row 24 (Enc.cells b))] 2 (by kernel_rfl) ?_
        exact hK2440 () _ _ _ trivial (leSt_m [(0, 0), (1, 1)] [] (by (try simp only [g2441]) <;> simp only [push_cast, seval]) (by (try simp only [g2441]) <;> simp only [push_cast, seval]) rfl rfl rfl)
      · refine rs 5 [] [] (by kernel_rfl) allP_nil ?_
        refine rf [(2, bS xnext), (3, .ptr 0 0), (4, .ptr 1 0), (27, bS (decide ((2000 : Int) < ((b.List.length : Nat) : Int))))] [(0, .row 24 (Enc.cells xa)), (1, .row 24 (Enc.cells b))] 2 (by kernel_rfl) ?_
        exact hK2440 () _ _ _ trivial (leSt_m [(0, 0), (1, 1)] [] (by (try simp only [g2441]) <;> simp only [push_cast, seval]) (by (try simp only [g2441]) <;> simp only [push_cast, seval]) rfl rfl rfl)
    · dsimp only
      refine cond_sx h (by kernel_rfl) (fun g2695 h => ?_) (fun g2695 h => ?_)
      · refine seq_np ?_
        refine reg_f ?_
        refine rs 1 [] [] (by kernel_rfl) allP_nil ?_
        refine rf [(6, bS true)] [(0, .row 24 (Enc.cells xa)), (1, .row 24 (Enc.cells b))] 2 (by kernel_rfl) ?_
        refine wk_id ?_
        obtain rfl := Option.some.inj h
        refine ret_at (bS true) (by kernel_rfl) ?_
        exact ret_e [] [] (by simp only [push_cast, seval]) (by simp only [push_cast, seval]) rfl rfl rfl
      · refine wk_id ?_
        refine seq_np ?_
        refine reg_t ?_
        refine rs 1 [] [] (by kernel_rfl) allP_nil ?_
        obtain ⟨r2445, hr2445, h⟩ := bind_sx h
        refine call_x (taskmilllaw_ownRing_spec xa r2445 hr2445) (args := [.agg (Enc.cells xa)]) (dst := (some 30)) (by kernel_rfl) [(0, .row 24 (Enc.cells xa)), (1, .row 24 (Enc.cells b))] 3 (by kernel_rfl) [] [] (.agg [iS r2445.1, .own 3 0 r2445.2.length]) [(3, .row 3 (fl r2445.2))] (by simp only [push_cast, seval]) (by simp only [push_cast, seval]) (by kernel_rfl) (.inl rfl) (by simp only [push_cast, seval]) (by simp only [push_cast, seval]) ?_
        refine rs 1 [] [] (by kernel_rfl) allP_nil ?_
        obtain ⟨r2446, hr2446, h⟩ := bind_sx h
        refine call_x (taskmilllaw_ownRing_spec b r2446 hr2446) (args := [.agg (Enc.cells b)]) (dst := (some 32)) (by kernel_rfl) [(0, .row 24 (Enc.cells xa)), (1, .row 24 (Enc.cells b)), (3, .row 3 (fl r2445.2))] 6 (by kernel_rfl) [] [] (.agg [iS r2446.1, .own 6 0 r2446.2.length]) [(6, .row 3 (fl r2446.2))] (by simp only [push_cast, seval]) (by simp only [push_cast, seval]) (by kernel_rfl) (.inl rfl) (by simp only [push_cast, seval]) (by simp only [push_cast, seval]) ?_
        refine rs 1 [] [] (by kernel_rfl) allP_nil ?_
        obtain ⟨r2447, hr2447, h⟩ := bind_sx h
        refine call_x (ring_Steal_spec (Ring.mk r2445.1 r2445.2) (Ring.mk r2446.1 r2446.2) xnext r2447 hr2447) (args := [.agg [iS r2445.1, .own 3 0 r2445.2.length], .agg [iS r2446.1, .own 6 0 r2446.2.length], bS xnext]) (dst := (some 34)) (by kernel_rfl) [(0, .row 24 (Enc.cells xa)), (1, .row 24 (Enc.cells b)), (3, .row 3 (fl r2445.2)), (6, .row 3 (fl r2446.2))] 9 (by kernel_rfl) [] [3, 6] (.tup [.agg [iS r2447.1, .own 9 0 r2447.2.2.2.2.1.length], .agg [iS r2447.2.1, .own 10 0 r2447.2.2.2.2.2.length], iS r2447.2.2.1, .agg (Enc.cells r2447.2.2.2.1)]) [(9, .row 3 (fl r2447.2.2.2.2.1)), (10, .row 3 (fl r2447.2.2.2.2.2))] (by simp only [push_cast, seval]) (by simp only [push_cast, seval]) (by kernel_rfl) (.inr ⟨by simp only [push_cast, seval], by simp only [push_cast, seval]⟩) (by simp only [push_cast, seval]) (by simp only [push_cast, seval]) ?_
        refine rs 12 [] [] (by kernel_rfl) allP_nil ?_
        refine rt [(2, bS xnext), (3, .ptr 0 0), (4, .ptr 1 0), (7, .ptr 17 0), (8, .ptr 19 0), (9, iS r2447.2.2.1), (10, .ptr 21 0)] [(0, .row 24 (Enc.cells xa)), (1, .row 24 (Enc.cells b)), (3, .row 3 (fl r2445.2)), (6, .row 3 (fl r2446.2)), (9, .row 3 (fl r2447.2.2.2.2.1)), (10, .row 3 (fl r2447.2.2.2.2.2)), (17, .row 24 [iS r2447.1, .own 9 0 r2447.2.2.2.2.1.length]), (19, .row 24 [iS r2447.2.1, .own 10 0 r2447.2.2.2.2.2.length]), (21, .row 28 (Enc.cells r2447.2.2.2.1))] 27 follows (by kernel_rfl) ?_
        refine wk_id ?_
        refine seq_np ?_
        refine reg_f ?_
        refine rs 1 [] [] (by kernel_rfl) allP_nil ?_
        obtain ⟨r2449, hr2449, h⟩ := bind_sx h
        refine run_call 15 [.agg (Enc.cells xa)] (some 40) (by kernel_rfl) ?_
        refine call_0 (taskmillref_RingFault_spec xa r2449 hr2449) (by simp only [push_cast, seval]) (by simp only [push_cast, seval]) ?_
        refine back_f ?_
        refine rs 2 [] [] (by kernel_rfl) allP_nil ?_
        refine rf [(2, bS xnext), (3, .ptr 0 0), (4, .ptr 1 0), (7, .ptr 17 0), (8, .ptr 19 0), (9, iS r2447.2.2.1), (10, .ptr 21 0), (11, .ptr 27 0)] [(0, .row 24 (Enc.cells xa)), (1, .row 24 (Enc.cells b)), (3, .row 3 (fl r2445.2)), (6, .row 3 (fl r2446.2)), (9, .row 3 (fl r2447.2.2.2.2.1)), (10, .row 3 (fl r2447.2.2.2.2.2)), (17, .row 24 [iS r2447.1, .own 9 0 r2447.2.2.2.2.1.length]), (19, .row 24 [iS r2447.2.1, .own 10 0 r2447.2.2.2.2.2.length]), (21, .row 28 (Enc.cells r2447.2.2.2.1)), (27, .row 28 (Enc.cells r2449))] 28 (by kernel_rfl) ?_
        refine wk_id ?_
        refine seq_cut (A := Int × Int × Int × Fault × Fault × (List Int) × (List Int)) (fun a => ([(2, bS xnext), (3, .ptr 0 0), (4, .ptr 1 0), (7, .ptr 2 0), (8, .ptr 3 0), (9, iS a.1), (10, .ptr 4 0), (11, .ptr 5 0)], [(0, .row 24 (Enc.cells xa)), (1, .row 24 (Enc.cells b)), (2, .row 24 [iS a.2.1, .own 6 0 a.2.2.2.2.2.1.length]), (3, .row 24 [iS a.2.2.1, .own 7 0 a.2.2.2.2.2.2.length]), (4, .row 28 (Enc.cells a.2.2.2.1)), (5, .row 28 (Enc.cells a.2.2.2.2.1)), (6, .row 3 (fl a.2.2.2.2.2.1)), (7, .row 3 (fl a.2.2.2.2.2.2))], 8)) (fun a => (taskmilllaw_RingSteals_j7 xa b xnext a.1 a.2.1 a.2.2.1 a.2.2.2.1 a.2.2.2.2.1 a.2.2.2.2.2.1 a.2.2.2.2.2.2) = some r) (fun K2453 hK2453 => ?_) ?_
        · refine seq_np ?_
          refine reg_f ?_
          refine rs 3 [] [] (by kernel_rfl) allP_nil ?_
          refine rf [(2, bS xnext), (3, .ptr 0 0), (4, .ptr 1 0), (7, .ptr 17 0), (8, .ptr 19 0), (9, iS r2447.2.2.1), (10, .ptr 21 0), (11, .ptr 27 0), (43, bS (r2449.Code == 0))] [(0, .row 24 (Enc.cells xa)), (1, .row 24 (Enc.cells b)), (3, .row 3 (fl r2445.2)), (6, .row 3 (fl r2446.2)), (9, .row 3 (fl r2447.2.2.2.2.1)), (10, .row 3 (fl r2447.2.2.2.2.2)), (17, .row 24 [iS r2447.1, .own 9 0 r2447.2.2.2.2.1.length]), (19, .row 24 [iS r2447.2.1, .own 10 0 r2447.2.2.2.2.2.length]), (21, .row 28 (Enc.cells r2447.2.2.2.1)), (27, .row 28 (Enc.cells r2449))] 28 (by kernel_rfl) ?_
          refine wk_id ?_
          refine cond_sx h (by kernel_rfl) (fun g2456 h => ?_) (fun g2456 h => ?_)
          · refine reg_f ?_
            refine rs 1 [] [] (by kernel_rfl) allP_nil ?_
            obtain ⟨r2455, hr2455, h⟩ := bind_sx h
            refine run_call 15 [.agg (Enc.cells b)] (some 45) (by kernel_rfl) ?_
            refine call_0 (taskmillref_RingFault_spec b r2455 hr2455) (by simp only [push_cast, seval]) (by simp only [push_cast, seval]) ?_
            refine back_f ?_
            refine rs 1 [] [] (by kernel_rfl) allP_nil ?_
            refine rf [(2, bS xnext), (3, .ptr 0 0), (4, .ptr 1 0), (7, .ptr 17 0), (8, .ptr 19 0), (9, iS r2447.2.2.1), (10, .ptr 21 0), (11, .ptr 27 0)] [(0, .row 24 (Enc.cells xa)), (1, .row 24 (Enc.cells b)), (3, .row 3 (fl r2445.2)), (6, .row 3 (fl r2446.2)), (9, .row 3 (fl r2447.2.2.2.2.1)), (10, .row 3 (fl r2447.2.2.2.2.2)), (17, .row 24 [iS r2447.1, .own 9 0 r2447.2.2.2.2.1.length]), (19, .row 24 [iS r2447.2.1, .own 10 0 r2447.2.2.2.2.2.length]), (21, .row 28 (Enc.cells r2447.2.2.2.1)), (27, .row 28 (Enc.cells r2455))] 28 (by kernel_rfl) ?_
            exact hK2453 (r2447.2.2.1, r2447.1, r2447.2.1, r2447.2.2.2.1, r2455, r2447.2.2.2.2.1, r2447.2.2.2.2.2) _ _ _ h (leSt_m [(0, 0), (1, 1), (2, 17), (3, 19), (4, 21), (5, 27), (6, 9), (7, 10)] [] (by simp only [push_cast, seval]) (by simp only [push_cast, seval]) rfl rfl rfl)
          · exact hK2453 (r2447.2.2.1, r2447.1, r2447.2.1, r2447.2.2.2.1, r2449, r2447.2.2.2.2.1, r2447.2.2.2.2.2) _ _ _ h (leSt_m [(0, 0), (1, 1), (2, 17), (3, 19), (4, 21), (5, 27), (6, 9), (7, 10)] [] (by simp only [push_cast, seval]) (by simp only [push_cast, seval]) rfl rfl rfl)
        · rintro ⟨n1, c2_Next1, c3_Next1, c4q1, c5q6, c6q4, c7q1⟩ h
          try dsimp only at h ⊢
          unfold taskmilllaw_RingSteals_j7 at h
          refine seq_np ?_
          refine reg_f ?_
          refine rs 1 [] [] (by kernel_rfl) allP_nil ?_
          obtain ⟨r2458, hr2458, h⟩ := bind_sx h
          refine call_x (taskmillref_Line_spec xa r2458 hr2458) (args := [.agg (Enc.cells xa)]) (dst := (some 47)) (by kernel_rfl) [(0, .row 24 (Enc.cells xa)), (1, .row 24 (Enc.cells b)), (2, .row 24 [iS c2_Next1, .own 6 0 c6q4.length]), (3, .row 24 [iS c3_Next1, .own 7 0 c7q1.length]), (4, .row 28 (Enc.cells c4q1)), (5, .row 28 (Enc.cells c5q6)), (6, .row 3 (fl c6q4)), (7, .row 3 (fl c7q1))] 8 (by kernel_rfl) [] [] (.own 8 0 r2458.length) [(8, .row 3 (fl r2458))] (by simp only [push_cast, seval]) (by simp only [push_cast, seval]) (by kernel_rfl) (.inl rfl) (by simp only [push_cast, seval]) (by simp only [push_cast, seval]) ?_
          refine rs 1 [] [] (by kernel_rfl) allP_nil ?_
          refine rf [(2, bS xnext), (3, .ptr 0 0), (4, .ptr 1 0), (7, .ptr 2 0), (8, .ptr 3 0), (9, iS n1), (10, .ptr 4 0), (11, .ptr 5 0), (12, .own 8 0 r2458.length)] [(0, .row 24 (Enc.cells xa)), (1, .row 24 (Enc.cells b)), (2, .row 24 [iS c2_Next1, .own 6 0 c6q4.length]), (3, .row 24 [iS c3_Next1, .own 7 0 c7q1.length]), (4, .row 28 (Enc.cells c4q1)), (5, .row 28 (Enc.cells c5q6)), (6, .row 3 (fl c6q4)), (7, .row 3 (fl c7q1)), (8, .row 3 (fl r2458))] 9 (by kernel_rfl) ?_
          refine wk_id ?_
          refine seq_np ?_
          refine seq_np ?_
          refine reg_f ?_
          refine rs 1 [] [] (by kernel_rfl) allP_nil ?_
          refine rf [(2, bS xnext), (3, .ptr 0 0), (4, .ptr 1 0), (7, .ptr 2 0), (8, .ptr 3 0), (9, iS n1), (10, .ptr 4 0), (11, .ptr 5 0), (12, .own 8 0 r2458.length), (13, iS 0)] [(0, .row 24 (Enc.cells xa)), (1, .row 24 (Enc.cells b)), (2, .row 24 [iS c2_Next1, .own 6 0 c6q4.length]), (3, .row 24 [iS c3_Next1, .own 7 0 c7q1.length]), (4, .row 28 (Enc.cells c4q1)), (5, .row 28 (Enc.cells c5q6)), (6, .row 3 (fl c6q4)), (7, .row 3 (fl c7q1)), (8, .row 3 (fl r2458))] 9 (by kernel_rfl) ?_
          refine wk_id ?_
          refine block_np ?_
          refine loop_sx (S := Int × Fault × (List Int)) (fun a => ([(2, bS xnext), (3, .ptr 0 0), (4, .ptr 1 0), (7, .ptr 2 0), (8, .ptr 3 0), (9, iS n1), (10, .ptr 4 0), (11, .ptr 5 0), (12, .own 6 0 a.2.2.length), (13, iS a.1)], [(0, .row 24 (Enc.cells xa)), (1, .row 24 (Enc.cells b)), (2, .row 24 [iS c2_Next1, .own 7 0 c6q4.length]), (3, .row 24 [iS c3_Next1, .own 8 0 c7q1.length]), (4, .row 28 (Enc.cells c4q1)), (5, .row 28 (Enc.cells a.2.1)), (6, .row 3 (fl a.2.2)), (7, .row 3 (fl c6q4)), (8, .row 3 (fl c7q1))], 9)) h (leSt_m [(0, 0), (1, 1), (2, 2), (3, 3), (4, 4), (5, 5), (6, 8), (7, 6), (8, 7)] [] (by simp only [push_cast, seval]) (by simp only [push_cast, seval]) rfl rfl rfl) ?_
          rintro ⟨i7, c5q20, c6q13⟩ o2 R2 h hr2 hn2 hx2 ht2
          try dsimp only at h hn2 ⊢
          unfold taskmilllaw_RingSteals_l1 at h
          try dsimp only at h
          refine seq_np ?_
          refine seq_cut (A := Unit) (fun _ => ([(2, bS xnext), (3, .ptr 0 0), (4, .ptr 1 0), (7, .ptr 2 0), (8, .ptr 3 0), (9, iS n1), (10, .ptr 4 0), (11, .ptr 5 0), (12, .own 6 0 c6q13.length), (13, iS i7), (56, bS ((decide (i7 < ((c6q13.length : Nat) : Int))) && (c5q20.Code == 0)))], [(0, .row 24 (Enc.cells xa)), (1, .row 24 (Enc.cells b)), (2, .row 24 [iS c2_Next1, .own 7 0 c6q4.length]), (3, .row 24 [iS c3_Next1, .own 8 0 c7q1.length]), (4, .row 28 (Enc.cells c4q1)), (5, .row 28 (Enc.cells c5q20)), (6, .row 3 (fl c6q13)), (7, .row 3 (fl c6q4)), (8, .row 3 (fl c7q1))], 9)) (fun _ => True) (fun K2545 hK2545 => ?_) (fun _ _ => ?_)
          · refine reg_f ?_
            refine rs 5 [] [] (by kernel_rfl) allP_nil ?_
            refine run_split 52 (decide (i7 < ((c6q13.length : Nat) : Int))) (.inl (by kernel_rfl)) (fun g2546 => ?_) (fun g2546 => ?_)
            · refine rs 4 [] [] (by kernel_rfl) allP_nil ?_
              refine rf [(2, bS xnext), (3, .ptr 0 0), (4, .ptr 1 0), (7, .ptr 2 0), (8, .ptr 3 0), (9, iS n1), (10, .ptr 4 0), (11, .ptr 5 0), (12, .own 6 0 c6q13.length), (13, iS i7), (56, bS (c5q20.Code == 0))] [(0, .row 24 (Enc.cells xa)), (1, .row 24 (Enc.cells b)), (2, .row 24 [iS c2_Next1, .own 7 0 c6q4.length]), (3, .row 24 [iS c3_Next1, .own 8 0 c7q1.length]), (4, .row 28 (Enc.cells c4q1)), (5, .row 28 (Enc.cells c5q20)), (6, .row 3 (fl c6q13)), (7, .row 3 (fl c6q4)), (8, .row 3 (fl c7q1))] 9 (by kernel_rfl) ?_
              exact hK2545 () _ _ _ trivial (leSt_m [(0, 0), (1, 1), (2, 2), (3, 3), (4, 4), (5, 5), (6, 6), (7, 7), (8, 8)] [] (by (try simp only [g2546]) <;> simp only [push_cast, seval]) (by (try simp only [g2546]) <;> simp only [push_cast, seval]) rfl rfl rfl)
            · refine rs 4 [] [] (by kernel_rfl) allP_nil ?_
              refine rf [(2, bS xnext), (3, .ptr 0 0), (4, .ptr 1 0), (7, .ptr 2 0), (8, .ptr 3 0), (9, iS n1), (10, .ptr 4 0), (11, .ptr 5 0), (12, .own 6 0 c6q13.length), (13, iS i7), (56, bS false)] [(0, .row 24 (Enc.cells xa)), (1, .row 24 (Enc.cells b)), (2, .row 24 [iS c2_Next1, .own 7 0 c6q4.length]), (3, .row 24 [iS c3_Next1, .own 8 0 c7q1.length]), (4, .row 28 (Enc.cells c4q1)), (5, .row 28 (Enc.cells c5q20)), (6, .row 3 (fl c6q13)), (7, .row 3 (fl c6q4)), (8, .row 3 (fl c7q1))] 9 (by kernel_rfl) ?_
              exact hK2545 () _ _ _ trivial (leSt_m [(0, 0), (1, 1), (2, 2), (3, 3), (4, 4), (5, 5), (6, 6), (7, 7), (8, 8)] [] (by (try simp only [g2546]) <;> simp only [push_cast, seval]) (by (try simp only [g2546]) <;> simp only [push_cast, seval]) rfl rfl rfl)
          · dsimp only
            refine cond_sx h (by kernel_rfl) (fun g2694 h => ?_) (fun g2694 h => ?_)
            · refine wk_id ?_
              refine seq_np ?_
              refine block_cut (A := Fault) (fun a => ([(2, bS xnext), (3, .ptr 0 0), (4, .ptr 1 0), (7, .ptr 2 0), (8, .ptr 3 0), (9, iS n1), (10, .ptr 4 0), (11, .ptr 5 0), (12, .own 6 0 c6q13.length), (13, iS i7)], [(0, .row 24 (Enc.cells xa)), (1, .row 24 (Enc.cells b)), (2, .row 24 [iS c2_Next1, .own 7 0 c6q4.length]), (3, .row 24 [iS c3_Next1, .own 8 0 c7q1.length]), (4, .row 28 (Enc.cells c4q1)), (5, .row 28 (Enc.cells a)), (6, .row 3 (fl c6q13)), (7, .row 3 (fl c6q4)), (8, .row 3 (fl c7q1))], 9)) (fun a => (taskmilllaw_RingSteals_j1 xa b xnext n1 c2_Next1 c3_Next1 c4q1 c6q4 c7q1 i7 c6q13 a) = some o2) (fun K2562 hK2562 => ?_) ?_
              · refine seq_np ?_
                refine reg_t ?_
                refine rs 1 [] [] (by kernel_rfl) allP_nil ?_
                obtain ⟨r2567, hr2567, h⟩ := bind_sx h
                refine call_x (taskmillref_Line_spec b r2567 hr2567) (args := [.agg (Enc.cells b)]) (dst := (some 60)) (by kernel_rfl) [(0, .row 24 (Enc.cells xa)), (1, .row 24 (Enc.cells b)), (2, .row 24 [iS c2_Next1, .own 7 0 c6q4.length]), (3, .row 24 [iS c3_Next1, .own 8 0 c7q1.length]), (4, .row 28 (Enc.cells c4q1)), (5, .row 28 (Enc.cells c5q20)), (6, .row 3 (fl c6q13)), (7, .row 3 (fl c6q4)), (8, .row 3 (fl c7q1))] 10 (by kernel_rfl) [] [] (.own 10 0 r2567.length) [(10, .row 3 (fl r2567))] (by simp only [push_cast, seval]) (by simp only [push_cast, seval]) (by kernel_rfl) (.inl rfl) (by simp only [push_cast, seval]) (by simp only [push_cast, seval]) ?_
                refine chk_sx h (fun g2569 h => ?_)
                have k2568 : 0 ≤ i7 ∧ i7 < ((c6q13.length : Nat) : Int) := by first | simpa only [Bool.and_eq_true, decide_eq_true_eq, bne_iff_ne, ne_eq] using g2569 | (simp at g2569 ⊢; omega)
                refine rs 4 [none, none, some ⟨.ptr 6 (0 + (i7).toNat * 1), [], 14, [6]⟩, some ⟨iS (ix c6q13 i7), [], 15, [6]⟩] _ (by kernel_rfl) (allP_cons (ob_ld c6q13 i7 1 0 (0 + (i7).toNat * 1) k2568 rfl (by decide) (by first | rfl | omega) (dflS Try.prog 3) (iS (ix c6q13 i7)) rfl 15 [6]) (allP_cons (ob_ix_o 6 c6q13.length 0 1 14 i7 k2568) allP_nil)) ?_
                obtain ⟨r2570, hr2570, h⟩ := bind_sx h
                refine call_x (taskmillref_Has_spec r2567 (ix c6q13 i7) r2570 hr2570) (args := [.own 10 0 r2567.length, iS (ix c6q13 i7)]) (dst := (some 65)) (by kernel_rfl) [(0, .row 24 (Enc.cells xa)), (1, .row 24 (Enc.cells b)), (2, .row 24 [iS c2_Next1, .own 7 0 c6q4.length]), (3, .row 24 [iS c3_Next1, .own 8 0 c7q1.length]), (4, .row 28 (Enc.cells c4q1)), (5, .row 28 (Enc.cells c5q20)), (6, .row 3 (fl c6q13)), (7, .row 3 (fl c6q4)), (8, .row 3 (fl c7q1)), (10, .row 3 (fl r2567))] 16 (by kernel_rfl) [] [10] (bS r2570) [] (by simp only [push_cast, seval]) (by simp only [push_cast, seval]) (by kernel_rfl) (.inr ⟨by simp only [push_cast, seval], by simp only [push_cast, seval]⟩) (by simp only [push_cast, seval]) (by simp only [push_cast, seval]) ?_
                refine rt [(2, bS xnext), (3, .ptr 0 0), (4, .ptr 1 0), (7, .ptr 2 0), (8, .ptr 3 0), (9, iS n1), (10, .ptr 4 0), (11, .ptr 5 0), (12, .own 6 0 c6q13.length), (13, iS i7), (65, bS r2570)] [(0, .row 24 (Enc.cells xa)), (1, .row 24 (Enc.cells b)), (2, .row 24 [iS c2_Next1, .own 7 0 c6q4.length]), (3, .row 24 [iS c3_Next1, .own 8 0 c7q1.length]), (4, .row 28 (Enc.cells c4q1)), (5, .row 28 (Enc.cells c5q20)), (6, .row 3 (fl c6q13)), (7, .row 3 (fl c6q4)), (8, .row 3 (fl c7q1)), (10, .row 3 (fl r2567))] 17 follows (by kernel_rfl) ?_
                refine wk_id ?_
                refine cond_sx h (by kernel_rfl) (fun g2573 h => ?_) (fun g2573 h => ?_)
                · refine reg_f ?_
                  obtain ⟨r2572, hr2572, h⟩ := bind_sx h
                  refine run_call 17 [iS 8, iS 0] (some 66) (by kernel_rfl) ?_
                  refine call_0 (taskmillref_F_spec 8 0 r2572 hr2572) (by simp only [push_cast, seval]) (by simp only [push_cast, seval]) ?_
                  refine back_f ?_
                  refine rs 1 [] [] (by kernel_rfl) allP_nil ?_
                  refine rf [(2, bS xnext), (3, .ptr 0 0), (4, .ptr 1 0), (7, .ptr 2 0), (8, .ptr 3 0), (9, iS n1), (10, .ptr 4 0), (11, .ptr 5 0), (12, .own 6 0 c6q13.length), (13, iS i7)] [(0, .row 24 (Enc.cells xa)), (1, .row 24 (Enc.cells b)), (2, .row 24 [iS c2_Next1, .own 7 0 c6q4.length]), (3, .row 24 [iS c3_Next1, .own 8 0 c7q1.length]), (4, .row 28 (Enc.cells c4q1)), (5, .row 28 (Enc.cells r2572)), (6, .row 3 (fl c6q13)), (7, .row 3 (fl c6q4)), (8, .row 3 (fl c7q1)), (10, .row 3 (fl r2567))] 17 (by kernel_rfl) ?_
                  exact hK2562 (r2572) _ _ _ h (leSt_m [(0, 0), (1, 1), (2, 2), (3, 3), (4, 4), (5, 5), (6, 6), (7, 7), (8, 8)] [] (by simp only [push_cast, seval]) (by simp only [push_cast, seval]) rfl rfl rfl)
                · exact hK2562 (c5q20) _ _ _ h (leSt_m [(0, 0), (1, 1), (2, 2), (3, 3), (4, 4), (5, 5), (6, 6), (7, 7), (8, 8)] [] (by simp only [push_cast, seval]) (by simp only [push_cast, seval]) rfl rfl rfl)
              · rintro c5q22 h
                try dsimp only at h ⊢
                unfold taskmilllaw_RingSteals_j1 at h
                refine wk_id ?_
                refine reg_f ?_
                refine rs 3 [] [] (by kernel_rfl) allP_nil ?_
                refine rf [(2, bS xnext), (3, .ptr 0 0), (4, .ptr 1 0), (7, .ptr 2 0), (8, .ptr 3 0), (9, iS n1), (10, .ptr 4 0), (11, .ptr 5 0), (12, .own 6 0 c6q13.length), (13, iS (IntKind.i64.wrap (i7 + 1)))] [(0, .row 24 (Enc.cells xa)), (1, .row 24 (Enc.cells b)), (2, .row 24 [iS c2_Next1, .own 7 0 c6q4.length]), (3, .row 24 [iS c3_Next1, .own 8 0 c7q1.length]), (4, .row 28 (Enc.cells c4q1)), (5, .row 28 (Enc.cells c5q22)), (6, .row 3 (fl c6q13)), (7, .row 3 (fl c6q4)), (8, .row 3 (fl c7q1))] 9 (by kernel_rfl) ?_
                exact hn2 ((IntKind.i64.wrap (i7 + 1)), c5q22, c6q13) _ _ _ (Option.some.inj h).symm (leSt_m [(0, 0), (1, 1), (2, 2), (3, 3), (4, 4), (5, 5), (6, 6), (7, 7), (8, 8)] [] (by simp only [push_cast, seval]) (by simp only [push_cast, seval]) rfl rfl rfl)
            · refine ex_cast hx2 (id := 0) ?_
              obtain ⟨r0, h, e0⟩ := map_sx h
              have e1 := hr2 r0 e0.symm
              subst r0
              refine wk_id ?_
              refine wk_id ?_
              refine seq_np ?_
              refine seq_np ?_
              refine reg_f ?_
              refine rs 3 [] [] (by kernel_rfl) allP_nil ?_
              refine rf [(2, bS xnext), (3, .ptr 0 0), (4, .ptr 1 0), (7, .ptr 2 0), (8, .ptr 3 0), (9, iS n1), (11, .ptr 5 0), (69, bS (!((c4q1.Code == c5q20.Code) && ((c4q1.At == c5q20.At) && true))))] [(0, .row 24 (Enc.cells xa)), (1, .row 24 (Enc.cells b)), (2, .row 24 [iS c2_Next1, .own 7 0 c6q4.length]), (3, .row 24 [iS c3_Next1, .own 8 0 c7q1.length]), (4, .row 28 (Enc.cells c4q1)), (5, .row 28 (Enc.cells c5q20)), (6, .row 3 (fl c6q13)), (7, .row 3 (fl c6q4)), (8, .row 3 (fl c7q1))] 9 (by kernel_rfl) ?_
              refine wk_id ?_
              refine cond_sx h (by kernel_rfl) (fun g2693 h => ?_) (fun g2693 h => ?_)
              · refine seq_np ?_
                refine reg_f ?_
                refine rs 1 [] [] (by kernel_rfl) allP_nil ?_
                refine rf [(6, bS false)] [(0, .row 24 (Enc.cells xa)), (1, .row 24 (Enc.cells b)), (2, .row 24 [iS c2_Next1, .own 7 0 c6q4.length]), (3, .row 24 [iS c3_Next1, .own 8 0 c7q1.length]), (4, .row 28 (Enc.cells c4q1)), (5, .row 28 (Enc.cells c5q20)), (6, .row 3 (fl c6q13)), (7, .row 3 (fl c6q4)), (8, .row 3 (fl c7q1))] 9 (by kernel_rfl) ?_
                refine wk_id ?_
                obtain rfl := Option.some.inj h
                refine ret_at (bS false) (by kernel_rfl) ?_
                exact ret_e [] [] (by simp only [push_cast, seval]) (by simp only [push_cast, seval]) rfl rfl rfl
              · refine wk_id ?_
                refine seq_np ?_
                refine seq_np ?_
                refine reg_f ?_
                refine rs 3 [] [] (by kernel_rfl) allP_nil ?_
                refine rf [(2, bS xnext), (3, .ptr 0 0), (4, .ptr 1 0), (7, .ptr 2 0), (8, .ptr 3 0), (9, iS n1), (72, bS (c5q20.Code != 0))] [(0, .row 24 (Enc.cells xa)), (1, .row 24 (Enc.cells b)), (2, .row 24 [iS c2_Next1, .own 7 0 c6q4.length]), (3, .row 24 [iS c3_Next1, .own 8 0 c7q1.length]), (4, .row 28 (Enc.cells c4q1)), (5, .row 28 (Enc.cells c5q20)), (6, .row 3 (fl c6q13)), (7, .row 3 (fl c6q4)), (8, .row 3 (fl c7q1))] 9 (by kernel_rfl) ?_
                refine wk_id ?_
                refine cond_sx h (by kernel_rfl) (fun g2692 h => ?_) (fun g2692 h => ?_)
                · refine seq_cut (A := Bool) (fun a => ([(6, bS a)], [], 0)) (fun a => (taskmilllaw_RingSteals_j2 a) = some r) (fun K2587 hK2587 => ?_) ?_
                  · refine reg_f ?_
                    refine rs 1 [] [] (by kernel_rfl) allP_nil ?_
                    obtain ⟨r2588, hr2588, h⟩ := bind_sx h
                    refine call_x (taskmilllaw_noRing_spec (Ring.mk c2_Next1 c6q4) r2588 hr2588) (args := [.agg [iS c2_Next1, .own 7 0 c6q4.length]]) (dst := (some 74)) (by kernel_rfl) [(0, .row 24 (Enc.cells xa)), (1, .row 24 (Enc.cells b)), (2, .row 24 [iS c2_Next1, .own 7 0 c6q4.length]), (3, .row 24 [iS c3_Next1, .own 8 0 c7q1.length]), (4, .row 28 (Enc.cells c4q1)), (5, .row 28 (Enc.cells c5q20)), (6, .row 3 (fl c6q13)), (7, .row 3 (fl c6q4)), (8, .row 3 (fl c7q1))] 9 (by kernel_rfl) [] [7] (bS r2588) [] (by simp only [push_cast, seval]) (by simp only [push_cast, seval]) (by kernel_rfl) (.inr ⟨by simp only [push_cast, seval], by simp only [push_cast, seval]⟩) (by simp only [push_cast, seval]) (by simp only [push_cast, seval]) ?_
                    refine rs 1 [] [] (by kernel_rfl) allP_nil ?_
                    refine run_br h 75 (.inl (by kernel_rfl)) (fun g2589 h => ?_) (fun g2589 h => ?_)
                    · refine rs 1 [] [] (by kernel_rfl) allP_nil ?_
                      obtain ⟨r2590, hr2590, h⟩ := bind_sx h
                      refine call_x (taskmilllaw_noRing_spec (Ring.mk c3_Next1 c7q1) r2590 hr2590) (args := [.agg [iS c3_Next1, .own 8 0 c7q1.length]]) (dst := (some 77)) (by kernel_rfl) [(0, .row 24 (Enc.cells xa)), (1, .row 24 (Enc.cells b)), (2, .row 24 [iS c2_Next1, .own 7 0 c6q4.length]), (3, .row 24 [iS c3_Next1, .own 8 0 c7q1.length]), (4, .row 28 (Enc.cells c4q1)), (5, .row 28 (Enc.cells c5q20)), (6, .row 3 (fl c6q13)), (7, .row 3 (fl c6q4)), (8, .row 3 (fl c7q1))] 9 (by kernel_rfl) [] [8] (bS r2590) [] (by simp only [push_cast, seval]) (by simp only [push_cast, seval]) (by kernel_rfl) (.inr ⟨by simp only [push_cast, seval], by simp only [push_cast, seval]⟩) (by simp only [push_cast, seval]) (by simp only [push_cast, seval]) ?_
                      refine rs 2 [] [] (by kernel_rfl) allP_nil ?_
                      refine run_br h 79 (.inl (by kernel_rfl)) (fun g2591 h => ?_) (fun g2591 h => ?_)
                      · refine rs 4 [] [] (by kernel_rfl) allP_nil ?_
                        refine rf [(6, bS (n1 == 0))] [(0, .row 24 (Enc.cells xa)), (1, .row 24 (Enc.cells b)), (2, .row 24 [iS c2_Next1, .own 7 0 c6q4.length]), (3, .row 24 [iS c3_Next1, .own 8 0 c7q1.length]), (4, .row 28 (Enc.cells c4q1)), (5, .row 28 (Enc.cells c5q20)), (6, .row 3 (fl c6q13)), (7, .row 3 (fl c6q4)), (8, .row 3 (fl c7q1))] 9 (by kernel_rfl) ?_
                        exact hK2587 ((n1 == 0)) _ _ _ h (leSt_m [] [] (by (try simp only [g2589, g2591]) <;> simp only [push_cast, seval]) (by (try simp only [g2589, g2591]) <;> simp only [push_cast, seval]) rfl rfl rfl)
                      · refine rs 4 [] [] (by kernel_rfl) allP_nil ?_
                        refine rf [(6, bS false)] [(0, .row 24 (Enc.cells xa)), (1, .row 24 (Enc.cells b)), (2, .row 24 [iS c2_Next1, .own 7 0 c6q4.length]), (3, .row 24 [iS c3_Next1, .own 8 0 c7q1.length]), (4, .row 28 (Enc.cells c4q1)), (5, .row 28 (Enc.cells c5q20)), (6, .row 3 (fl c6q13)), (7, .row 3 (fl c6q4)), (8, .row 3 (fl c7q1))] 9 (by kernel_rfl) ?_
                        exact hK2587 (false) _ _ _ h (leSt_m [] [] (by (try simp only [g2589, g2591]) <;> simp only [push_cast, seval]) (by (try simp only [g2589, g2591]) <;> simp only [push_cast, seval]) rfl rfl rfl)
                    · refine rs 8 [] [] (by kernel_rfl) allP_nil ?_
                      refine rf [(6, bS false)] [(0, .row 24 (Enc.cells xa)), (1, .row 24 (Enc.cells b)), (2, .row 24 [iS c2_Next1, .own 7 0 c6q4.length]), (3, .row 24 [iS c3_Next1, .own 8 0 c7q1.length]), (4, .row 28 (Enc.cells c4q1)), (5, .row 28 (Enc.cells c5q20)), (6, .row 3 (fl c6q13)), (7, .row 3 (fl c6q4)), (8, .row 3 (fl c7q1))] 9 (by kernel_rfl) ?_
                      exact hK2587 (false) _ _ _ h (leSt_m [] [] (by (try simp only [g2589]) <;> simp only [push_cast, seval]) (by (try simp only [g2589]) <;> simp only [push_cast, seval]) rfl rfl rfl)
                  · rintro t6q5 h
                    try dsimp only at h ⊢
                    unfold taskmilllaw_RingSteals_j2 at h
                    obtain rfl := Option.some.inj h
                    refine ret_at (bS t6q5) (by kernel_rfl) ?_
                    exact ret_e [] [] (by simp only [push_cast, seval]) (by simp only [push_cast, seval]) rfl rfl rfl
                · refine wk_id ?_
                  refine seq_np ?_
                  refine reg_f ?_
                  refine rs 5 [] [] (by kernel_rfl) allP_nil ?_
                  refine rf [(2, bS xnext), (3, .ptr 0 0), (4, .ptr 1 0), (7, .ptr 2 0), (8, .ptr 3 0), (9, iS n1), (14, iS (IntKind.i64.wrap ((256 : Int) - ((b.List.length : Nat) : Int))))] [(0, .row 24 (Enc.cells xa)), (1, .row 24 (Enc.cells b)), (2, .row 24 [iS c2_Next1, .own 7 0 c6q4.length]), (3, .row 24 [iS c3_Next1, .own 8 0 c7q1.length]), (4, .row 28 (Enc.cells c4q1)), (5, .row 28 (Enc.cells c5q20)), (6, .row 3 (fl c6q13)), (7, .row 3 (fl c6q4)), (8, .row 3 (fl c7q1))] 9 (by kernel_rfl) ?_
                  refine wk_id ?_
                  refine seq_np ?_
                  refine seq_np ?_
                  refine reg_f ?_
                  refine rs 4 [] [] (by kernel_rfl) allP_nil ?_
                  refine rf [(2, bS xnext), (3, .ptr 0 0), (4, .ptr 1 0), (7, .ptr 2 0), (8, .ptr 3 0), (9, iS n1), (14, iS (IntKind.i64.wrap ((256 : Int) - ((b.List.length : Nat) : Int)))), (90, bS (((xa.List.length : Nat) : Int) == 0))] [(0, .row 24 (Enc.cells xa)), (1, .row 24 (Enc.cells b)), (2, .row 24 [iS c2_Next1, .own 7 0 c6q4.length]), (3, .row 24 [iS c3_Next1, .own 8 0 c7q1.length]), (4, .row 28 (Enc.cells c4q1)), (5, .row 28 (Enc.cells c5q20)), (6, .row 3 (fl c6q13)), (7, .row 3 (fl c6q4)), (8, .row 3 (fl c7q1))] 9 (by kernel_rfl) ?_
                  refine wk_id ?_
                  refine cond_sx h (by kernel_rfl) (fun g2691 h => ?_) (fun g2691 h => ?_)
                  · refine seq_np ?_
                    refine seq_cut (A := Unit) (fun _ => ([(3, .ptr 0 0), (4, .ptr 1 0), (7, .ptr 2 0), (8, .ptr 3 0), (9, iS n1), (100, bS (xnext && ((decide ((0 : Int) < xa.Next)) && (decide ((0 : Int) < (IntKind.i64.wrap ((256 : Int) - ((b.List.length : Nat) : Int))))))))], [(0, .row 24 (Enc.cells xa)), (1, .row 24 (Enc.cells b)), (2, .row 24 [iS c2_Next1, .own 7 0 c6q4.length]), (3, .row 24 [iS c3_Next1, .own 8 0 c7q1.length]), (4, .row 28 (Enc.cells c4q1)), (5, .row 28 (Enc.cells c5q20)), (6, .row 3 (fl c6q13)), (7, .row 3 (fl c6q4)), (8, .row 3 (fl c7q1))], 9)) (fun _ => True) (fun K2627 hK2627 => ?_) (fun _ _ => ?_)
                    · refine reg_f ?_
                      refine rs 2 [] [] (by kernel_rfl) allP_nil ?_
                      refine run_split 92 xnext (.inl (by kernel_rfl)) (fun g2628 => ?_) (fun g2628 => ?_)
                      · refine rs 5 [] [] (by kernel_rfl) allP_nil ?_
                        refine run_split 97 (decide ((0 : Int) < xa.Next)) (.inl (by kernel_rfl)) (fun g2629 => ?_) (fun g2629 => ?_)
                        · refine rs 3 [] [] (by kernel_rfl) allP_nil ?_
                          refine rf [(3, .ptr 0 0), (4, .ptr 1 0), (7, .ptr 2 0), (8, .ptr 3 0), (9, iS n1), (100, bS (decide ((0 : Int) < (IntKind.i64.wrap ((256 : Int) - ((b.List.length : Nat) : Int))))))] [(0, .row 24 (Enc.cells xa)), (1, .row 24 (Enc.cells b)), (2, .row 24 [iS c2_Next1, .own 7 0 c6q4.length]), (3, .row 24 [iS c3_Next1, .own 8 0 c7q1.length]), (4, .row 28 (Enc.cells c4q1)), (5, .row 28 (Enc.cells c5q20)), (6, .row 3 (fl c6q13)), (7, .row 3 (fl c6q4)), (8, .row 3 (fl c7q1))] 9 (by kernel_rfl) ?_
                          exact hK2627 () _ _ _ trivial (leSt_m [(0, 0), (1, 1), (2, 2), (3, 3), (4, 4), (5, 5), (6, 6), (7, 7), (8, 8)] [] (by (try simp only [g2628, g2629]) <;> simp only [push_cast, seval]) (by (try simp only [g2628, g2629]) <;> simp only [push_cast, seval]) rfl rfl rfl)
                        · refine rs 3 [] [] (by kernel_rfl) allP_nil ?_
                          refine rf [(3, .ptr 0 0), (4, .ptr 1 0), (7, .ptr 2 0), (8, .ptr 3 0), (9, iS n1), (100, bS false)] [(0, .row 24 (Enc.cells xa)), (1, .row 24 (Enc.cells b)), (2, .row 24 [iS c2_Next1, .own 7 0 c6q4.length]), (3, .row 24 [iS c3_Next1, .own 8 0 c7q1.length]), (4, .row 28 (Enc.cells c4q1)), (5, .row 28 (Enc.cells c5q20)), (6, .row 3 (fl c6q13)), (7, .row 3 (fl c6q4)), (8, .row 3 (fl c7q1))] 9 (by kernel_rfl) ?_
                          exact hK2627 () _ _ _ trivial (leSt_m [(0, 0), (1, 1), (2, 2), (3, 3), (4, 4), (5, 5), (6, 6), (7, 7), (8, 8)] [] (by (try simp only [g2628, g2629]) <;> simp only [push_cast, seval]) (by (try simp only [g2628, g2629]) <;> simp only [push_cast, seval]) rfl rfl rfl)
                      · refine rs 8 [] [] (by kernel_rfl) allP_nil ?_
                        refine rf [(3, .ptr 0 0), (4, .ptr 1 0), (7, .ptr 2 0), (8, .ptr 3 0), (9, iS n1), (100, bS false)] [(0, .row 24 (Enc.cells xa)), (1, .row 24 (Enc.cells b)), (2, .row 24 [iS c2_Next1, .own 7 0 c6q4.length]), (3, .row 24 [iS c3_Next1, .own 8 0 c7q1.length]), (4, .row 28 (Enc.cells c4q1)), (5, .row 28 (Enc.cells c5q20)), (6, .row 3 (fl c6q13)), (7, .row 3 (fl c6q4)), (8, .row 3 (fl c7q1))] 9 (by kernel_rfl) ?_
                        exact hK2627 () _ _ _ trivial (leSt_m [(0, 0), (1, 1), (2, 2), (3, 3), (4, 4), (5, 5), (6, 6), (7, 7), (8, 8)] [] (by (try simp only [g2628]) <;> simp only [push_cast, seval]) (by (try simp only [g2628]) <;> simp only [push_cast, seval]) rfl rfl rfl)
                    · dsimp only
                      refine cond_sx h (by kernel_rfl) (fun g2658 h => ?_) (fun g2658 h => ?_)
                      · refine seq_cut (A := Bool) (fun a => ([(6, bS a)], [], 0)) (fun a => (taskmilllaw_RingSteals_j3 a) = some r) (fun K2639 hK2639 => ?_) ?_
                        · refine reg_t ?_
                          refine rs 3 [] [] (by kernel_rfl) allP_nil ?_
                          refine run_br h 103 (.inl (by kernel_rfl)) (fun g2640 h => ?_) (fun g2640 h => ?_)
                          · refine rs 1 [] [] (by kernel_rfl) allP_nil ?_
                            obtain ⟨r2641, hr2641, h⟩ := bind_sx h
                            refine call_x (taskmilllaw_noRing_spec (Ring.mk c2_Next1 c6q4) r2641 hr2641) (args := [.agg [iS c2_Next1, .own 7 0 c6q4.length]]) (dst := (some 105)) (by kernel_rfl) [(0, .row 24 (Enc.cells xa)), (1, .row 24 (Enc.cells b)), (2, .row 24 [iS c2_Next1, .own 7 0 c6q4.length]), (3, .row 24 [iS c3_Next1, .own 8 0 c7q1.length]), (4, .row 28 (Enc.cells c4q1)), (5, .row 28 (Enc.cells c5q20)), (6, .row 3 (fl c6q13)), (7, .row 3 (fl c6q4)), (8, .row 3 (fl c7q1))] 13 (by kernel_rfl) [] [7] (bS r2641) [] (by simp only [push_cast, seval]) (by simp only [push_cast, seval]) (by kernel_rfl) (.inr ⟨by simp only [push_cast, seval], by simp only [push_cast, seval]⟩) (by simp only [push_cast, seval]) (by simp only [push_cast, seval]) ?_
                            refine rs 2 [] [] (by kernel_rfl) allP_nil ?_
                            refine run_br h 107 (.inl (by kernel_rfl)) (fun g2642 h => ?_) (fun g2642 h => ?_)
                            · refine rs 7 [] [] (by kernel_rfl) allP_nil ?_
                              refine run_br h 114 (.inl (by kernel_rfl)) (fun g2643 h => ?_) (fun g2643 h => ?_)
                              · refine rs 4 [] [] (by kernel_rfl) allP_nil ?_
                                obtain ⟨r2644, hr2644, h⟩ := bind_sx h
                                refine call_x (taskmilllaw_own_spec b.List r2644 hr2644) (args := [.sl b.List.length (fl b.List)]) (dst := (some 119)) (by kernel_rfl) [(0, .row 24 (Enc.cells xa)), (1, .row 24 (Enc.cells b)), (2, .row 24 [iS c2_Next1, .own 7 0 c6q4.length]), (3, .row 24 [iS c3_Next1, .own 8 0 c7q1.length]), (4, .row 28 (Enc.cells c4q1)), (5, .row 28 (Enc.cells c5q20)), (6, .row 3 (fl c6q13)), (7, .row 3 (fl c6q4)), (8, .row 3 (fl c7q1))] 27 (by kernel_rfl) [] [] (.own 27 0 r2644.length) [(27, .row 3 (fl r2644))] (by simp only [push_cast, seval]) (by simp only [push_cast, seval]) (by kernel_rfl) (.inl rfl) (by simp only [push_cast, seval]) (by simp only [push_cast, seval]) ?_
                                refine chk_sx h (fun g2646 h => ?_)
                                have k2645 : (r2644 ++ ([xa.Next] : List Int)).length * 8 ≤ 140737488355328 := by first | simpa only [Bool.and_eq_true, decide_eq_true_eq, bne_iff_ne, ne_eq] using g2646 | (simp at g2646 ⊢; omega)
                                refine rs 4 [none, none, none, some ⟨.own 33 0 (r2644 ++ ([xa.Next] : List Int)).length, [(33, .row 3 (fl (r2644 ++ ([xa.Next] : List Int)))), (27, .dead)], 34, [27, 31]⟩] _ (by kernel_rfl) (allP_cons (ob_app (P := Try.prog) r2644 ([xa.Next] : List Int) 1 8 rfl (appCells (fl ([xa.Next] : List Int)) 0 (([xa.Next] : List Int).length * 1)) ([xa.Next] : List Int).length (app_own ([xa.Next] : List Int) 1 rfl) rfl (0 + ([xa.Next] : List Int).length * 1 ≤ (fl ([xa.Next] : List Int)).length) (app_own_le ([xa.Next] : List Int) 1 rfl) 3 (by kernel_rfl) (by decide) k2645 27 33 [31]) allP_nil) ?_
                                obtain ⟨r2647, hr2647, h⟩ := bind_sx h
                                refine call_x (taskmillref_Ints_spec c7q1 (r2644 ++ ([xa.Next] : List Int)) r2647 hr2647) (args := [.own 8 0 c7q1.length, .own 33 0 (r2644 ++ ([xa.Next] : List Int)).length]) (dst := (some 124)) (by kernel_rfl) [(0, .row 24 (Enc.cells xa)), (1, .row 24 (Enc.cells b)), (2, .row 24 [iS c2_Next1, .own 7 0 c6q4.length]), (3, .row 24 [iS c3_Next1, .own 8 0 c7q1.length]), (4, .row 28 (Enc.cells c4q1)), (5, .row 28 (Enc.cells c5q20)), (6, .row 3 (fl c6q13)), (7, .row 3 (fl c6q4)), (8, .row 3 (fl c7q1)), (27, .dead), (31, .row 3 (fl ([xa.Next] : List Int))), (33, .row 3 (fl (r2644 ++ ([xa.Next] : List Int))))] 35 (by kernel_rfl) [] [8, 33] (bS r2647) [] (by simp only [push_cast, seval]) (by simp only [push_cast, seval]) (by kernel_rfl) (.inr ⟨by simp only [push_cast, seval], by simp only [push_cast, seval]⟩) (by simp only [push_cast, seval]) (by simp only [push_cast, seval]) ?_
                                refine rs 2 [] [] (by kernel_rfl) allP_nil ?_
                                refine rt [(6, bS r2647)] [(0, .row 24 (Enc.cells xa)), (1, .row 24 (Enc.cells b)), (2, .row 24 [iS c2_Next1, .own 7 0 c6q4.length]), (3, .row 24 [iS c3_Next1, .own 8 0 c7q1.length]), (4, .row 28 (Enc.cells c4q1)), (5, .row 28 (Enc.cells c5q20)), (6, .row 3 (fl c6q13)), (7, .row 3 (fl c6q4)), (8, .row 3 (fl c7q1)), (27, .dead), (31, .row 3 (fl ([xa.Next] : List Int))), (33, .row 3 (fl (r2644 ++ ([xa.Next] : List Int))))] 38 follows (by kernel_rfl) ?_
                                exact hK2639 (r2647) _ _ _ h (leSt_m [] [] (by (try simp only [g2640, g2642, g2643]) <;> simp only [push_cast, seval]) (by (try simp only [g2640, g2642, g2643]) <;> simp only [push_cast, seval]) rfl rfl rfl)
                              · refine rs 12 [] [] (by kernel_rfl) allP_nil ?_
                                refine rt [(6, bS false)] [(0, .row 24 (Enc.cells xa)), (1, .row 24 (Enc.cells b)), (2, .row 24 [iS c2_Next1, .own 7 0 c6q4.length]), (3, .row 24 [iS c3_Next1, .own 8 0 c7q1.length]), (4, .row 28 (Enc.cells c4q1)), (5, .row 28 (Enc.cells c5q20)), (6, .row 3 (fl c6q13)), (7, .row 3 (fl c6q4)), (8, .row 3 (fl c7q1))] 35 follows (by kernel_rfl) ?_
                                exact hK2639 (false) _ _ _ h (leSt_m [] [] (by (try simp only [g2640, g2642, g2643]) <;> simp only [push_cast, seval]) (by (try simp only [g2640, g2642, g2643]) <;> simp only [push_cast, seval]) rfl rfl rfl)
                            · refine rs 19 [] [] (by kernel_rfl) allP_nil ?_
                              refine rt [(6, bS false)] [(0, .row 24 (Enc.cells xa)), (1, .row 24 (Enc.cells b)), (2, .row 24 [iS c2_Next1, .own 7 0 c6q4.length]), (3, .row 24 [iS c3_Next1, .own 8 0 c7q1.length]), (4, .row 28 (Enc.cells c4q1)), (5, .row 28 (Enc.cells c5q20)), (6, .row 3 (fl c6q13)), (7, .row 3 (fl c6q4)), (8, .row 3 (fl c7q1))] 35 follows (by kernel_rfl) ?_
                              exact hK2639 (false) _ _ _ h (leSt_m [] [] (by (try simp only [g2640, g2642]) <;> simp only [push_cast, seval]) (by (try simp only [g2640, g2642]) <;> simp only [push_cast, seval]) rfl rfl rfl)
                          · refine rs 23 [] [] (by kernel_rfl) allP_nil ?_
                            refine rt [(6, bS false)] [(0, .row 24 (Enc.cells xa)), (1, .row 24 (Enc.cells b)), (2, .row 24 [iS c2_Next1, .own 7 0 c6q4.length]), (3, .row 24 [iS c3_Next1, .own 8 0 c7q1.length]), (4, .row 28 (Enc.cells c4q1)), (5, .row 28 (Enc.cells c5q20)), (6, .row 3 (fl c6q13)), (7, .row 3 (fl c6q4)), (8, .row 3 (fl c7q1))] 35 follows (by kernel_rfl) ?_
                            exact hK2639 (false) _ _ _ h (leSt_m [] [] (by (try simp only [g2640]) <;> simp only [push_cast, seval]) (by (try simp only [g2640]) <;> simp only [push_cast, seval]) rfl rfl rfl)
                        · rintro t6q9 h
                          try dsimp only at h ⊢
                          unfold taskmilllaw_RingSteals_j3 at h
                          obtain rfl := Option.some.inj h
                          refine ret_at (bS t6q9) (by kernel_rfl) ?_
                          exact ret_e [] [] (by simp only [push_cast, seval]) (by simp only [push_cast, seval]) rfl rfl rfl
                      · refine wk_id ?_
                        refine seq_cut (A := Bool) (fun a => ([(6, bS a)], [], 0)) (fun a => (taskmilllaw_RingSteals_j4 a) = some r) (fun K2653 hK2653 => ?_) ?_
                        · refine reg_f ?_
                          refine rs 3 [] [] (by kernel_rfl) allP_nil ?_
                          refine run_br h 128 (.inl (by kernel_rfl)) (fun g2654 h => ?_) (fun g2654 h => ?_)
                          · refine rs 2 [] [] (by kernel_rfl) allP_nil ?_
                            obtain ⟨r2655, hr2655, h⟩ := bind_sx h
                            refine call_x (taskmillref_SameRing_spec (Ring.mk c2_Next1 c6q4) xa r2655 hr2655) (args := [.agg [iS c2_Next1, .own 7 0 c6q4.length], .agg (Enc.cells xa)]) (dst := (some 131)) (by kernel_rfl) [(0, .row 24 (Enc.cells xa)), (1, .row 24 (Enc.cells b)), (2, .row 24 [iS c2_Next1, .own 7 0 c6q4.length]), (3, .row 24 [iS c3_Next1, .own 8 0 c7q1.length]), (4, .row 28 (Enc.cells c4q1)), (5, .row 28 (Enc.cells c5q20)), (6, .row 3 (fl c6q13)), (7, .row 3 (fl c6q4)), (8, .row 3 (fl c7q1))] 9 (by kernel_rfl) [] [7] (bS r2655) [] (by simp only [push_cast, seval]) (by simp only [push_cast, seval]) (by kernel_rfl) (.inr ⟨by simp only [push_cast, seval], by simp only [push_cast, seval]⟩) (by simp only [push_cast, seval]) (by simp only [push_cast, seval]) ?_
                            refine rs 2 [] [] (by kernel_rfl) allP_nil ?_
                            refine run_br h 133 (.inl (by kernel_rfl)) (fun g2656 h => ?_) (fun g2656 h => ?_)
                            · refine rs 2 [] [] (by kernel_rfl) allP_nil ?_
                              obtain ⟨r2657, hr2657, h⟩ := bind_sx h
                              refine call_x (taskmillref_SameRing_spec (Ring.mk c3_Next1 c7q1) b r2657 hr2657) (args := [.agg [iS c3_Next1, .own 8 0 c7q1.length], .agg (Enc.cells b)]) (dst := (some 136)) (by kernel_rfl) [(0, .row 24 (Enc.cells xa)), (1, .row 24 (Enc.cells b)), (2, .row 24 [iS c2_Next1, .own 7 0 c6q4.length]), (3, .row 24 [iS c3_Next1, .own 8 0 c7q1.length]), (4, .row 28 (Enc.cells c4q1)), (5, .row 28 (Enc.cells c5q20)), (6, .row 3 (fl c6q13)), (7, .row 3 (fl c6q4)), (8, .row 3 (fl c7q1))] 9 (by kernel_rfl) [] [8] (bS r2657) [] (by simp only [push_cast, seval]) (by simp only [push_cast, seval]) (by kernel_rfl) (.inr ⟨by simp only [push_cast, seval], by simp only [push_cast, seval]⟩) (by simp only [push_cast, seval]) (by simp only [push_cast, seval]) ?_
                              refine rs 2 [] [] (by kernel_rfl) allP_nil ?_
                              refine rf [(6, bS r2657)] [(0, .row 24 (Enc.cells xa)), (1, .row 24 (Enc.cells b)), (2, .row 24 [iS c2_Next1, .own 7 0 c6q4.length]), (3, .row 24 [iS c3_Next1, .own 8 0 c7q1.length]), (4, .row 28 (Enc.cells c4q1)), (5, .row 28 (Enc.cells c5q20)), (6, .row 3 (fl c6q13)), (7, .row 3 (fl c6q4)), (8, .row 3 (fl c7q1))] 9 (by kernel_rfl) ?_
                              exact hK2653 (r2657) _ _ _ h (leSt_m [] [] (by (try simp only [g2654, g2656]) <;> simp only [push_cast, seval]) (by (try simp only [g2654, g2656]) <;> simp only [push_cast, seval]) rfl rfl rfl)
                            · refine rs 5 [] [] (by kernel_rfl) allP_nil ?_
                              refine rf [(6, bS false)] [(0, .row 24 (Enc.cells xa)), (1, .row 24 (Enc.cells b)), (2, .row 24 [iS c2_Next1, .own 7 0 c6q4.length]), (3, .row 24 [iS c3_Next1, .own 8 0 c7q1.length]), (4, .row 28 (Enc.cells c4q1)), (5, .row 28 (Enc.cells c5q20)), (6, .row 3 (fl c6q13)), (7, .row 3 (fl c6q4)), (8, .row 3 (fl c7q1))] 9 (by kernel_rfl) ?_
                              exact hK2653 (false) _ _ _ h (leSt_m [] [] (by (try simp only [g2654, g2656]) <;> simp only [push_cast, seval]) (by (try simp only [g2654, g2656]) <;> simp only [push_cast, seval]) rfl rfl rfl)
                          · refine rs 10 [] [] (by kernel_rfl) allP_nil ?_
                            refine rf [(6, bS false)] [(0, .row 24 (Enc.cells xa)), (1, .row 24 (Enc.cells b)), (2, .row 24 [iS c2_Next1, .own 7 0 c6q4.length]), (3, .row 24 [iS c3_Next1, .own 8 0 c7q1.length]), (4, .row 28 (Enc.cells c4q1)), (5, .row 28 (Enc.cells c5q20)), (6, .row 3 (fl c6q13)), (7, .row 3 (fl c6q4)), (8, .row 3 (fl c7q1))] 9 (by kernel_rfl) ?_
                            exact hK2653 (false) _ _ _ h (leSt_m [] [] (by (try simp only [g2654]) <;> simp only [push_cast, seval]) (by (try simp only [g2654]) <;> simp only [push_cast, seval]) rfl rfl rfl)
                        · rintro t6q10 h
                          try dsimp only at h ⊢
                          unfold taskmilllaw_RingSteals_j4 at h
                          obtain rfl := Option.some.inj h
                          refine ret_at (bS t6q10) (by kernel_rfl) ?_
                          exact ret_e [] [] (by simp only [push_cast, seval]) (by simp only [push_cast, seval]) rfl rfl rfl
                  · refine wk_id ?_
                    refine seq_np ?_
                    refine reg_f ?_
                    refine rs 6 [] [] (by kernel_rfl) allP_nil ?_
                    refine rf [(3, .ptr 0 0), (4, .ptr 1 0), (7, .ptr 2 0), (8, .ptr 3 0), (9, iS n1), (14, iS (IntKind.i64.wrap ((256 : Int) - ((b.List.length : Nat) : Int)))), (15, iS (IntKind.i64.wrap (Int.tdiv (IntKind.i64.wrap (((xa.List.length : Nat) : Int) + 1)) 2)))] [(0, .row 24 (Enc.cells xa)), (1, .row 24 (Enc.cells b)), (2, .row 24 [iS c2_Next1, .own 7 0 c6q4.length]), (3, .row 24 [iS c3_Next1, .own 8 0 c7q1.length]), (4, .row 28 (Enc.cells c4q1)), (5, .row 28 (Enc.cells c5q20)), (6, .row 3 (fl c6q13)), (7, .row 3 (fl c6q4)), (8, .row 3 (fl c7q1))] 9 (by kernel_rfl) ?_
                    refine wk_id ?_
                    refine seq_cut (A := Int) (fun a => ([(3, .ptr 0 0), (4, .ptr 1 0), (7, .ptr 2 0), (8, .ptr 3 0), (9, iS n1), (15, iS a)], [(0, .row 24 (Enc.cells xa)), (1, .row 24 (Enc.cells b)), (2, .row 24 [iS c2_Next1, .own 4 0 c6q4.length]), (3, .row 24 [iS c3_Next1, .own 5 0 c7q1.length]), (4, .row 3 (fl c6q4)), (5, .row 3 (fl c7q1))], 6)) (fun a => (taskmilllaw_RingSteals_j6 xa b n1 c2_Next1 c3_Next1 c6q4 c7q1 a) = some r) (fun K2661 hK2661 => ?_) ?_
                    · refine seq_np ?_
                      refine reg_f ?_
                      refine rs 3 [] [] (by kernel_rfl) allP_nil ?_
                      refine rf [(3, .ptr 0 0), (4, .ptr 1 0), (7, .ptr 2 0), (8, .ptr 3 0), (9, iS n1), (14, iS (IntKind.i64.wrap ((256 : Int) - ((b.List.length : Nat) : Int)))), (15, iS (IntKind.i64.wrap (Int.tdiv (IntKind.i64.wrap (((xa.List.length : Nat) : Int) + 1)) 2))), (145, bS (decide ((IntKind.i64.wrap ((256 : Int) - ((b.List.length : Nat) : Int))) < (IntKind.i64.wrap (Int.tdiv (IntKind.i64.wrap (((xa.List.length : Nat) : Int) + 1)) 2)))))] [(0, .row 24 (Enc.cells xa)), (1, .row 24 (Enc.cells b)), (2, .row 24 [iS c2_Next1, .own 7 0 c6q4.length]), (3, .row 24 [iS c3_Next1, .own 8 0 c7q1.length]), (4, .row 28 (Enc.cells c4q1)), (5, .row 28 (Enc.cells c5q20)), (6, .row 3 (fl c6q13)), (7, .row 3 (fl c6q4)), (8, .row 3 (fl c7q1))] 9 (by kernel_rfl) ?_
                      refine wk_id ?_
                      refine cond_sx h (by kernel_rfl) (fun g2662 h => ?_) (fun g2662 h => ?_)
                      · refine reg_f ?_
                        refine rs 2 [] [] (by kernel_rfl) allP_nil ?_
                        refine rf [(3, .ptr 0 0), (4, .ptr 1 0), (7, .ptr 2 0), (8, .ptr 3 0), (9, iS n1), (15, iS (IntKind.i64.wrap ((256 : Int) - ((b.List.length : Nat) : Int))))] [(0, .row 24 (Enc.cells xa)), (1, .row 24 (Enc.cells b)), (2, .row 24 [iS c2_Next1, .own 7 0 c6q4.length]), (3, .row 24 [iS c3_Next1, .own 8 0 c7q1.length]), (4, .row 28 (Enc.cells c4q1)), (5, .row 28 (Enc.cells c5q20)), (6, .row 3 (fl c6q13)), (7, .row 3 (fl c6q4)), (8, .row 3 (fl c7q1))] 9 (by kernel_rfl) ?_
                        exact hK2661 ((IntKind.i64.wrap ((256 : Int) - ((b.List.length : Nat) : Int)))) _ _ _ h (leSt_m [(0, 0), (1, 1), (2, 2), (3, 3), (4, 7), (5, 8)] [] (by simp only [push_cast, seval]) (by simp only [push_cast, seval]) rfl rfl rfl)
                      · exact hK2661 ((IntKind.i64.wrap (Int.tdiv (IntKind.i64.wrap (((xa.List.length : Nat) : Int) + 1)) 2))) _ _ _ h (leSt_m [(0, 0), (1, 1), (2, 2), (3, 3), (4, 7), (5, 8)] [] (by simp only [push_cast, seval]) (by simp only [push_cast, seval]) rfl rfl rfl)
                    · rintro k1 h
                      try dsimp only at h ⊢
                      unfold taskmilllaw_RingSteals_j6 at h
                      refine seq_cut (A := Bool) (fun a => ([(6, bS a)], [], 0)) (fun a => (taskmilllaw_RingSteals_j5 a) = some r) (fun K2677 hK2677 => ?_) ?_
                      · refine reg_t ?_
                        refine rs 4 [] [] (by kernel_rfl) allP_nil ?_
                        refine run_br h 150 (.inl (by kernel_rfl)) (fun g2678 h => ?_) (fun g2678 h => ?_)
                        · refine rs 7 [] [] (by kernel_rfl) allP_nil ?_
                          refine run_br h 157 (.inl (by kernel_rfl)) (fun g2679 h => ?_) (fun g2679 h => ?_)
                          · refine rs 7 [] [] (by kernel_rfl) allP_nil ?_
                            refine run_br h 164 (.inl (by kernel_rfl)) (fun g2680 h => ?_) (fun g2680 h => ?_)
                            · refine chk_sx h (fun g2682 h => ?_)
                              have k2681 : 0 ≤ k1 ∧ k1 ≤ ((xa.List.length : Nat) : Int) ∧ ((xa.List.length : Nat) : Int) ≤ ((xa.List.length : Nat) : Int) := by first | simpa only [Bool.and_eq_true, decide_eq_true_eq, bne_iff_ne, ne_eq] using g2682 | (simp at g2682 ⊢; omega)
                              refine rs 6 [none, none, none, none, none, some ⟨.sl (cut xa.List k1 ((xa.List.length : Nat) : Int)).length (fl (cut xa.List k1 ((xa.List.length : Nat) : Int))), [], 29, []⟩] _ (by kernel_rfl) (allP_cons (ob_cut xa.List k1 ((xa.List.length : Nat) : Int) 1 29 rfl k2681) allP_nil) ?_
                              obtain ⟨r2683, hr2683, h⟩ := bind_sx h
                              refine call_x (taskmillref_Ints_spec c6q4 (cut xa.List k1 ((xa.List.length : Nat) : Int)) r2683 hr2683) (args := [.own 4 0 c6q4.length, .sl (cut xa.List k1 ((xa.List.length : Nat) : Int)).length (fl (cut xa.List k1 ((xa.List.length : Nat) : Int)))]) (dst := (some 171)) (by kernel_rfl) [(0, .row 24 (Enc.cells xa)), (1, .row 24 (Enc.cells b)), (2, .row 24 [iS c2_Next1, .own 4 0 c6q4.length]), (3, .row 24 [iS c3_Next1, .own 5 0 c7q1.length]), (4, .row 3 (fl c6q4)), (5, .row 3 (fl c7q1))] 30 (by kernel_rfl) [] [4] (bS r2683) [] (by simp only [push_cast, seval]) (by simp only [push_cast, seval]) (by kernel_rfl) (.inr ⟨by simp only [push_cast, seval], by simp only [push_cast, seval]⟩) (by simp only [push_cast, seval]) (by simp only [push_cast, seval]) ?_
                              refine rs 2 [] [] (by kernel_rfl) allP_nil ?_
                              refine run_br h 173 (.inl (by kernel_rfl)) (fun g2684 h => ?_) (fun g2684 h => ?_)
                              · refine rs 4 [] [] (by kernel_rfl) allP_nil ?_
                                obtain ⟨r2685, hr2685, h⟩ := bind_sx h
                                refine call_x (taskmilllaw_own_spec b.List r2685 hr2685) (args := [.sl b.List.length (fl b.List)]) (dst := (some 178)) (by kernel_rfl) [(0, .row 24 (Enc.cells xa)), (1, .row 24 (Enc.cells b)), (2, .row 24 [iS c2_Next1, .own 4 0 c6q4.length]), (3, .row 24 [iS c3_Next1, .own 5 0 c7q1.length]), (4, .row 3 (fl c6q4)), (5, .row 3 (fl c7q1))] 37 (by kernel_rfl) [] [] (.own 37 0 r2685.length) [(37, .row 3 (fl r2685))] (by simp only [push_cast, seval]) (by simp only [push_cast, seval]) (by kernel_rfl) (.inl rfl) (by simp only [push_cast, seval]) (by simp only [push_cast, seval]) ?_
                                refine chk_sx h (fun g2687 h => ?_)
                                have k2686 : 0 ≤ (0 : Int) ∧ (0 : Int) ≤ k1 ∧ k1 ≤ ((xa.List.length : Nat) : Int) := by first | simpa only [Bool.and_eq_true, decide_eq_true_eq, bne_iff_ne, ne_eq] using g2687 | (simp at g2687 ⊢; omega)
                                refine chk_sx h (fun g2689 h => ?_)
                                have k2688 : (r2685 ++ (cut xa.List (0 : Int) k1)).length * 8 ≤ 140737488355328 := by first | simpa only [Bool.and_eq_true, decide_eq_true_eq, bne_iff_ne, ne_eq] using g2689 | (simp at g2689 ⊢; omega)
                                refine rs 5 [none, none, none, some ⟨.sl (cut xa.List (0 : Int) k1).length (fl (cut xa.List (0 : Int) k1)), [], 42, []⟩, some ⟨.own 43 0 (r2685 ++ (cut xa.List (0 : Int) k1)).length, [(43, .row 3 (fl (r2685 ++ (cut xa.List (0 : Int) k1)))), (37, .dead)], 44, [37]⟩] _ (by kernel_rfl) (allP_cons (ob_app (P := Try.prog) r2685 (cut xa.List (0 : Int) k1) 1 8 rfl (fl (cut xa.List (0 : Int) k1)) (cut xa.List (0 : Int) k1).length rfl rfl ((fl (cut xa.List (0 : Int) k1)).length = (cut xa.List (0 : Int) k1).length * 1) (app_sl (cut xa.List (0 : Int) k1) 1 rfl) 3 (by kernel_rfl) (by decide) k2688 37 43 []) (allP_cons (ob_cut xa.List (0 : Int) k1 1 42 rfl k2686) allP_nil)) ?_
                                obtain ⟨r2690, hr2690, h⟩ := bind_sx h
                                refine call_x (taskmillref_Ints_spec c7q1 (r2685 ++ (cut xa.List (0 : Int) k1)) r2690 hr2690) (args := [.own 5 0 c7q1.length, .own 43 0 (r2685 ++ (cut xa.List (0 : Int) k1)).length]) (dst := (some 184)) (by kernel_rfl) [(0, .row 24 (Enc.cells xa)), (1, .row 24 (Enc.cells b)), (2, .row 24 [iS c2_Next1, .own 4 0 c6q4.length]), (3, .row 24 [iS c3_Next1, .own 5 0 c7q1.length]), (4, .row 3 (fl c6q4)), (5, .row 3 (fl c7q1)), (37, .dead), (43, .row 3 (fl (r2685 ++ (cut xa.List (0 : Int) k1))))] 45 (by kernel_rfl) [] [5, 43] (bS r2690) [] (by simp only [push_cast, seval]) (by simp only [push_cast, seval]) (by kernel_rfl) (.inr ⟨by simp only [push_cast, seval], by simp only [push_cast, seval]⟩) (by simp only [push_cast, seval]) (by simp only [push_cast, seval]) ?_
                                refine rs 2 [] [] (by kernel_rfl) allP_nil ?_
                                refine rt [(6, bS r2690)] [(0, .row 24 (Enc.cells xa)), (1, .row 24 (Enc.cells b)), (2, .row 24 [iS c2_Next1, .own 4 0 c6q4.length]), (3, .row 24 [iS c3_Next1, .own 5 0 c7q1.length]), (4, .row 3 (fl c6q4)), (5, .row 3 (fl c7q1)), (37, .dead), (43, .row 3 (fl (r2685 ++ (cut xa.List (0 : Int) k1))))] 48 follows (by kernel_rfl) ?_
                                exact hK2677 (r2690) _ _ _ h (leSt_m [] [] (by (try simp only [g2678, g2679, g2680, g2684]) <;> simp only [push_cast, seval]) (by (try simp only [g2678, g2679, g2680, g2684]) <;> simp only [push_cast, seval]) rfl rfl rfl)
                              · refine rs 13 [] [] (by kernel_rfl) allP_nil ?_
                                refine rt [(6, bS false)] [(0, .row 24 (Enc.cells xa)), (1, .row 24 (Enc.cells b)), (2, .row 24 [iS c2_Next1, .own 4 0 c6q4.length]), (3, .row 24 [iS c3_Next1, .own 5 0 c7q1.length]), (4, .row 3 (fl c6q4)), (5, .row 3 (fl c7q1))] 46 follows (by kernel_rfl) ?_
                                exact hK2677 (false) _ _ _ h (leSt_m [] [] (by (try simp only [g2678, g2679, g2680, g2684]) <;> simp only [push_cast, seval]) (by (try simp only [g2678, g2679, g2680, g2684]) <;> simp only [push_cast, seval]) rfl rfl rfl)
                            · refine rs 22 [] [] (by kernel_rfl) allP_nil ?_
                              refine rt [(6, bS false)] [(0, .row 24 (Enc.cells xa)), (1, .row 24 (Enc.cells b)), (2, .row 24 [iS c2_Next1, .own 4 0 c6q4.length]), (3, .row 24 [iS c3_Next1, .own 5 0 c7q1.length]), (4, .row 3 (fl c6q4)), (5, .row 3 (fl c7q1))] 46 follows (by kernel_rfl) ?_
                              exact hK2677 (false) _ _ _ h (leSt_m [] [] (by (try simp only [g2678, g2679, g2680]) <;> simp only [push_cast, seval]) (by (try simp only [g2678, g2679, g2680]) <;> simp only [push_cast, seval]) rfl rfl rfl)
                          · refine rs 29 [] [] (by kernel_rfl) allP_nil ?_
                            refine rt [(6, bS false)] [(0, .row 24 (Enc.cells xa)), (1, .row 24 (Enc.cells b)), (2, .row 24 [iS c2_Next1, .own 4 0 c6q4.length]), (3, .row 24 [iS c3_Next1, .own 5 0 c7q1.length]), (4, .row 3 (fl c6q4)), (5, .row 3 (fl c7q1))] 46 follows (by kernel_rfl) ?_
                            exact hK2677 (false) _ _ _ h (leSt_m [] [] (by (try simp only [g2678, g2679]) <;> simp only [push_cast, seval]) (by (try simp only [g2678, g2679]) <;> simp only [push_cast, seval]) rfl rfl rfl)
                        · refine rs 36 [] [] (by kernel_rfl) allP_nil ?_
                          refine rt [(6, bS false)] [(0, .row 24 (Enc.cells xa)), (1, .row 24 (Enc.cells b)), (2, .row 24 [iS c2_Next1, .own 4 0 c6q4.length]), (3, .row 24 [iS c3_Next1, .own 5 0 c7q1.length]), (4, .row 3 (fl c6q4)), (5, .row 3 (fl c7q1))] 46 follows (by kernel_rfl) ?_
                          exact hK2677 (false) _ _ _ h (leSt_m [] [] (by (try simp only [g2678]) <;> simp only [push_cast, seval]) (by (try simp only [g2678]) <;> simp only [push_cast, seval]) rfl rfl rfl)
                      · rintro t6q11 h
                        try dsimp only at h ⊢
                        unfold taskmilllaw_RingSteals_j5 at h
                        obtain rfl := Option.some.inj h
                        refine ret_at (bS t6q11) (by kernel_rfl) ?_
                        exact ret_e [] [] (by simp only [push_cast, seval]) (by simp only [push_cast, seval]) rfl rfl rfl

set_option maxRecDepth 100000 in
set_option maxHeartbeats 10000000 in
theorem taskmilllaw_RingDrains_spec (n : Int) (procs : Int) (r : Bool) (h : taskmilllaw_RingDrains n procs = some r) : SpecW Try.prog 9 [iS n, iS procs] [] 0 (fun x h n => x = bS r ∧ h = [] ∧ n = 0) := by
  unfold taskmilllaw_RingDrains at h
  refine spec_of (draw_ok _) Try.func9 rfl (by decide) rfl (by kernel_rfl) ?_
  refine seq_np ?_
  refine reg_f ?_
  refine rs 1 [] [] (by kernel_rfl) allP_nil ?_
  refine rf [(0, iS n), (1, iS procs)] [] 0 (by kernel_rfl) ?_
  refine wk_id ?_
  refine seq_np ?_
  refine seq_np ?_
  refine reg_f ?_
  obtain ⟨r2771, hr2771, h⟩ := bind_sx h
  refine run_call 11 [] (some 15) (by kernel_rfl) ?_
  refine call_0 (taskmilllaw_ringBegun_spec r2771 hr2771) (by simp only [push_cast, seval]) (by simp only [push_cast, seval]) ?_
  refine back_f ?_
  refine rs 1 [] [] (by kernel_rfl) allP_nil ?_
  refine rf [(0, iS n), (1, iS procs), (16, bS (!r2771))] [] 0 (by kernel_rfl) ?_
  refine wk_id ?_
  refine cond_sx h (by kernel_rfl) (fun g3025 h => ?_) (fun g3025 h => ?_)
  · refine seq_np ?_
    refine reg_f ?_
    refine rs 1 [] [] (by kernel_rfl) allP_nil ?_
    refine rf [(4, bS false)] [] 0 (by kernel_rfl) ?_
    refine wk_id ?_
    obtain rfl := Option.some.inj h
    refine ret_at (bS false) (by kernel_rfl) ?_
    exact ret_e [] [] (by simp only [push_cast, seval]) (by simp only [push_cast, seval]) rfl rfl rfl
  · refine wk_id ?_
    refine seq_np ?_
    refine seq_cut (A := Unit) (fun _ => ([(0, iS n), (1, iS procs), (30, bS ((decide (n < 0)) || ((decide ((300 : Int) < n)) || ((decide (procs < 1)) || (decide ((8 : Int) < procs))))))], [], 0)) (fun _ => True) (fun K2779 hK2779 => ?_) (fun _ _ => ?_)
    · refine reg_f ?_
      refine rs 3 [] [] (by kernel_rfl) allP_nil ?_
      refine run_split 19 (decide (n < 0)) (.inl (by kernel_rfl)) (fun g2780 => ?_) (fun g2780 => ?_)
      · refine rs 11 [] [] (by kernel_rfl) allP_nil ?_
        refine rf [(0, iS n), (1, iS procs), (30, bS true)] [] 0 (by kernel_rfl) ?_
        exact hK2779 () _ _ _ trivial (leSt_m [] [] (by (try simp only [g2780]) <;> simp only [push_cast, seval]) (by (try simp only [g2780]) <;> simp only [push_cast, seval]) rfl rfl rfl)
      · refine rs 4 [] [] (by kernel_rfl) allP_nil ?_
        refine run_split 23 (decide ((300 : Int) < n)) (.inl (by kernel_rfl)) (fun g2781 => ?_) (fun g2781 => ?_)
        · refine rs 7 [] [] (by kernel_rfl) allP_nil ?_
          refine rf [(0, iS n), (1, iS procs), (30, bS true)] [] 0 (by kernel_rfl) ?_
          exact hK2779 () _ _ _ trivial (leSt_m [] [] (by (try simp only [g2780, g2781]) <;> simp only [push_cast, seval]) (by (try simp only [g2780, g2781]) <;> simp only [push_cast, seval]) rfl rfl rfl)
        · refine rs 4 [] [] (by kernel_rfl) allP_nil ?_
          refine run_split 27 (decide (procs < 1)) (.inl (by kernel_rfl)) (fun g2782 => ?_) (fun g2782 => ?_)
          · refine rs 3 [] [] (by kernel_rfl) allP_nil ?_
            refine rf [(0, iS n), (1, iS procs), (30, bS true)] [] 0 (by kernel_rfl) ?_
            exact hK2779 () _ _ _ trivial (leSt_m [] [] (by (try simp only [g2780, g2781, g2782]) <;> simp only [push_cast, seval]) (by (try simp only [g2780, g2781, g2782]) <;> simp only [push_cast, seval]) rfl rfl rfl)
          · refine rs 3 [] [] (by kernel_rfl) allP_nil ?_
            refine rf [(0, iS n), (1, iS procs), (30, bS (decide ((8 : Int) < procs)))] [] 0 (by kernel_rfl) ?_
            exact hK2779 () _ _ _ trivial (leSt_m [] [] (by (try simp only [g2780, g2781, g2782]) <;> simp only [push_cast, seval]) (by (try simp only [g2780, g2781, g2782]) <;> simp only [push_cast, seval]) rfl rfl rfl)
    · dsimp only
      refine cond_sx h (by kernel_rfl) (fun g3024 h => ?_) (fun g3024 h => ?_)
      · refine seq_np ?_
        refine reg_f ?_
        refine rs 1 [] [] (by kernel_rfl) allP_nil ?_
        refine rf [(4, bS true)] [] 0 (by kernel_rfl) ?_
        refine wk_id ?_
        obtain rfl := Option.some.inj h
        refine ret_at (bS true) (by kernel_rfl) ?_
        exact ret_e [] [] (by simp only [push_cast, seval]) (by simp only [push_cast, seval]) rfl rfl rfl
      · refine wk_id ?_
        refine seq_np ?_
        refine reg_f ?_
        refine rs 1 [] [] (by kernel_rfl) allP_nil ?_
        refine rf [(0, iS n), (1, iS procs), (5, .v (.slice none 0 0))] [] 0 (by kernel_rfl) ?_
        refine wk_id ?_
        refine seq_np ?_
        refine seq_np ?_
        refine reg_f ?_
        refine rs 1 [] [] (by kernel_rfl) allP_nil ?_
        refine rf [(0, iS n), (1, iS procs), (5, .v (.slice none 0 0)), (6, iS 1)] [] 0 (by kernel_rfl) ?_
        refine wk_id ?_
        refine block_np ?_
        refine loop_sx (S := Int × (List Int)) (fun a => ([(0, iS n), (1, iS procs), (5, .own 0 0 a.2.length), (6, iS a.1)], [(0, .row 3 (fl a.2))], 1)) h (leSt_m [] [] (by simp only [push_cast, seval]) (by simp only [push_cast, seval]) rfl rfl rfl) ?_
        rintro ⟨t7, c0q9⟩ o4 R4 h hr4 hn4 hx4 ht4
        try dsimp only at h hn4 ⊢
        unfold taskmilllaw_RingDrains_l3 at h
        try dsimp only at h
        refine seq_np ?_
        refine seq_np ?_
        refine reg_f ?_
        refine rs 3 [] [] (by kernel_rfl) allP_nil ?_
        refine rf [(0, iS n), (1, iS procs), (5, .own 0 0 c0q9.length), (6, iS t7), (33, bS (decide (t7 ≤ n)))] [(0, .row 3 (fl c0q9))] 1 (by kernel_rfl) ?_
        refine wk_id ?_
        refine cond_sx h (by kernel_rfl) (fun g3023 h => ?_) (fun g3023 h => ?_)
        · refine wk_id ?_
          refine seq_np ?_
          refine block_np ?_
          refine chk_sx h (fun g2818 h => ?_)
          refine reg_f ?_
          have k2817 : (c0q9 ++ ([t7] : List Int)).length * 8 ≤ 140737488355328 := by first | simpa only [Bool.and_eq_true, decide_eq_true_eq, bne_iff_ne, ne_eq] using g2818 | (simp at g2818 ⊢; omega)
          refine rs 5 [none, none, none, some ⟨.own 2 0 (c0q9 ++ ([t7] : List Int)).length, [(2, .row 3 (fl (c0q9 ++ ([t7] : List Int)))), (0, .dead)], 3, [0, 1]⟩] _ (by kernel_rfl) (allP_cons (ob_app (P := Try.prog) c0q9 ([t7] : List Int) 1 8 rfl (appCells (fl ([t7] : List Int)) 0 (([t7] : List Int).length * 1)) ([t7] : List Int).length (app_own ([t7] : List Int) 1 rfl) rfl (0 + ([t7] : List Int).length * 1 ≤ (fl ([t7] : List Int)).length) (app_own_le ([t7] : List Int) 1 rfl) 3 (by kernel_rfl) (by decide) k2817 0 2 [1]) allP_nil) ?_
          refine rf [(0, iS n), (1, iS procs), (5, .own 2 0 (c0q9 ++ ([t7] : List Int)).length), (6, iS t7)] [(0, .dead), (1, .row 3 (fl ([t7] : List Int))), (2, .row 3 (fl (c0q9 ++ ([t7] : List Int))))] 3 (by kernel_rfl) ?_
          refine wk_id ?_
          refine wk_id ?_
          refine reg_f ?_
          refine rs 3 [] [] (by kernel_rfl) allP_nil ?_
          refine rf [(0, iS n), (1, iS procs), (5, .own 2 0 (c0q9 ++ ([t7] : List Int)).length), (6, iS (IntKind.i64.wrap (t7 + 1)))] [(0, .dead), (1, .row 3 (fl ([t7] : List Int))), (2, .row 3 (fl (c0q9 ++ ([t7] : List Int))))] 3 (by kernel_rfl) ?_
          exact hn4 ((IntKind.i64.wrap (t7 + 1)), (c0q9 ++ ([t7] : List Int))) _ _ _ (Option.some.inj h).symm (leSt_m [(0, 2)] [] (by simp only [push_cast, seval]) (by simp only [push_cast, seval]) rfl rfl rfl)
        · refine ex_cast hx4 (id := 0) ?_
          obtain ⟨r0, h, e0⟩ := map_sx h
          have e1 := hr4 r0 e0.symm
          subst r0
          refine wk_id ?_
          refine wk_id ?_
          refine seq_np ?_
          refine reg_f ?_
          refine rs 1 [] [] (by kernel_rfl) allP_nil ?_
          refine rf [(0, iS n), (1, iS procs), (5, .own 0 0 c0q9.length), (7, iS 0)] [(0, .row 3 (fl c0q9))] 1 (by kernel_rfl) ?_
          refine wk_id ?_
          refine seq_np ?_
          refine reg_f ?_
          refine rs 1 [] [] (by kernel_rfl) allP_nil ?_
          refine rf [(0, iS n), (1, iS procs), (5, .own 0 0 c0q9.length), (7, iS 0), (8, iS 1)] [(0, .row 3 (fl c0q9))] 1 (by kernel_rfl) ?_
          refine wk_id ?_
          refine seq_np ?_
          refine block_np ?_
          refine loop_sx (S := Int × Int × (List Int)) (fun a => ([(0, iS n), (1, iS procs), (5, .own 0 0 a.2.2.length), (7, iS a.1), (8, iS a.2.1)], [(0, .row 3 (fl a.2.2))], 1)) h (leSt_m [(0, 0)] [] (by simp only [push_cast, seval]) (by simp only [push_cast, seval]) rfl rfl rfl) ?_
          rintro ⟨rounds7, xnext29, c0q15⟩ o5 R5 h hr5 hn5 hx5 ht5
          try dsimp only at h hn5 ⊢
          unfold taskmilllaw_RingDrains_l2 at h
          try dsimp only at h
          refine seq_np ?_
          refine seq_np ?_
          refine reg_f ?_
          refine rs 3 [] [] (by kernel_rfl) allP_nil ?_
          refine rf [(0, iS n), (1, iS procs), (5, .own 0 0 c0q15.length), (7, iS rounds7), (8, iS xnext29), (42, bS (decide ((0 : Int) < ((c0q15.length : Nat) : Int))))] [(0, .row 3 (fl c0q15))] 1 (by kernel_rfl) ?_
          refine wk_id ?_
          refine cond_sx h (by kernel_rfl) (fun g3022 h => ?_) (fun g3022 h => ?_)
          · refine wk_id ?_
            refine block_np ?_
            refine seq_np ?_
            refine reg_f ?_
            refine rs 3 [] [] (by kernel_rfl) allP_nil ?_
            refine rf [(0, iS n), (1, iS procs), (5, .own 0 0 c0q15.length), (7, iS (IntKind.i64.wrap (rounds7 + 1))), (8, iS xnext29)] [(0, .row 3 (fl c0q15))] 1 (by kernel_rfl) ?_
            refine wk_id ?_
            refine seq_np ?_
            refine seq_np ?_
            refine reg_f ?_
            refine rs 5 [] [] (by kernel_rfl) allP_nil ?_
            refine rf [(0, iS n), (1, iS procs), (5, .own 0 0 c0q15.length), (7, iS (IntKind.i64.wrap (rounds7 + 1))), (8, iS xnext29), (49, bS (decide ((IntKind.i64.wrap ((IntKind.i64.wrap ((10 : Int) * procs)) + 20)) < (IntKind.i64.wrap (rounds7 + 1)))))] [(0, .row 3 (fl c0q15))] 1 (by kernel_rfl) ?_
            refine wk_id ?_
            refine cond_sx h (by kernel_rfl) (fun g3021 h => ?_) (fun g3021 h => ?_)
            · refine seq_np ?_
              refine reg_f ?_
              refine rs 1 [] [] (by kernel_rfl) allP_nil ?_
              refine rf [(4, bS false)] [(0, .row 3 (fl c0q15))] 1 (by kernel_rfl) ?_
              refine wk_id ?_
              refine rt_cast ht5 ?_
              obtain ⟨r0, h, e0⟩ := map_sx h
              have e1 := hr5 r0 e0.symm
              subst r0
              obtain rfl := Option.some.inj h
              refine ret_at (bS false) (by kernel_rfl) ?_
              exact ret_e [] [] (by simp only [push_cast, seval]) (by simp only [push_cast, seval]) rfl rfl rfl
            · refine wk_id ?_
              refine seq_np ?_
              refine reg_f ?_
              refine rs 3 [] [] (by kernel_rfl) allP_nil ?_
              obtain ⟨r2969, hr2969, h⟩ := bind_sx h
              refine call_x (ring_Refill_spec (Ring.mk 0 []) c0q15 procs r2969 hr2969) (args := [.agg [iS 0, .v (.slice none 0 0)], .own 0 0 c0q15.length, iS procs]) (dst := (some 54)) (by kernel_rfl) [(0, .row 3 (fl c0q15))] 1 (by kernel_rfl) [] [0] (.tup [.agg [iS r2969.1, .own 1 0 r2969.2.2.1.length], .own 2 0 r2969.2.2.2.length, .agg (Enc.cells r2969.2.1)]) [(1, .row 3 (fl r2969.2.2.1)), (2, .row 3 (fl r2969.2.2.2))] (by simp only [push_cast, seval]) (by simp only [push_cast, seval]) (by kernel_rfl) (.inr ⟨by simp only [push_cast, seval], by simp only [push_cast, seval]⟩) (by simp only [push_cast, seval]) (by simp only [push_cast, seval]) ?_
              refine rs 9 [] [] (by kernel_rfl) allP_nil ?_
              refine rf [(0, iS n), (1, iS procs), (5, .own 0 0 c0q15.length), (7, iS (IntKind.i64.wrap (rounds7 + 1))), (8, iS xnext29), (9, .ptr 3 0), (10, .own 2 0 r2969.2.2.2.length), (11, .ptr 4 0)] [(0, .row 3 (fl c0q15)), (1, .row 3 (fl r2969.2.2.1)), (2, .row 3 (fl r2969.2.2.2)), (3, .row 24 [iS r2969.1, .own 1 0 r2969.2.2.1.length]), (4, .row 28 (Enc.cells r2969.2.1))] 5 (by kernel_rfl) ?_
              refine wk_id ?_
              refine seq_np ?_
              refine seq_cut (A := Unit) (fun _ => ([(0, iS n), (1, iS procs), (7, iS (IntKind.i64.wrap (rounds7 + 1))), (8, iS xnext29), (9, .ptr 3 0), (10, .own 2 0 r2969.2.2.2.length), (67, bS ((r2969.2.1.Code != 0) || (decide (((c0q15.length : Nat) : Int) ≤ ((r2969.2.2.2.length : Nat) : Int)))))], [(0, .row 3 (fl c0q15)), (1, .row 3 (fl r2969.2.2.1)), (2, .row 3 (fl r2969.2.2.2)), (3, .row 24 [iS r2969.1, .own 1 0 r2969.2.2.1.length]), (4, .row 28 (Enc.cells r2969.2.1))], 5)) (fun _ => True) (fun K2973 hK2973 => ?_) (fun _ _ => ?_)
              · refine reg_f ?_
                refine rs 4 [] [] (by kernel_rfl) allP_nil ?_
                refine run_split 61 (r2969.2.1.Code != 0) (.inl (by kernel_rfl)) (fun g2974 => ?_) (fun g2974 => ?_)
                · refine rs 6 [] [] (by kernel_rfl) allP_nil ?_
                  refine rf [(0, iS n), (1, iS procs), (7, iS (IntKind.i64.wrap (rounds7 + 1))), (8, iS xnext29), (9, .ptr 3 0), (10, .own 2 0 r2969.2.2.2.length), (67, bS true)] [(0, .row 3 (fl c0q15)), (1, .row 3 (fl r2969.2.2.1)), (2, .row 3 (fl r2969.2.2.2)), (3, .row 24 [iS r2969.1, .own 1 0 r2969.2.2.1.length]), (4, .row 28 (Enc.cells r2969.2.1))] 5 (by kernel_rfl) ?_
                  exact hK2973 () _ _ _ trivial (leSt_m [(0, 0), (1, 1), (2, 2), (3, 3), (4, 4)] [] (by (try simp only [g2974]) <;> simp only [push_cast, seval]) (by (try simp only [g2974]) <;> simp only [push_cast, seval]) rfl rfl rfl)
                · refine rs 6 [] [] (by kernel_rfl) allP_nil ?_
                  refine rf [(0, iS n), (1, iS procs), (7, iS (IntKind.i64.wrap (rounds7 + 1))), (8, iS xnext29), (9, .ptr 3 0), (10, .own 2 0 r2969.2.2.2.length), (67, bS (decide (((c0q15.length : Nat) : Int) ≤ ((r2969.2.2.2.length : Nat) : Int))))] [(0, .row 3 (fl c0q15)), (1, .row 3 (fl r2969.2.2.1)), (2, .row 3 (fl r2969.2.2.2)), (3, .row 24 [iS r2969.1, .own 1 0 r2969.2.2.1.length]), (4, .row 28 (Enc.cells r2969.2.1))] 5 (by kernel_rfl) ?_
                  exact hK2973 () _ _ _ trivial (leSt_m [(0, 0), (1, 1), (2, 2), (3, 3), (4, 4)] [] (by (try simp only [g2974]) <;> simp only [push_cast, seval]) (by (try simp only [g2974]) <;> simp only [push_cast, seval]) rfl rfl rfl)
              · dsimp only
                refine cond_sx h (by kernel_rfl) (fun g3020 h => ?_) (fun g3020 h => ?_)
                · refine seq_np ?_
                  refine reg_f ?_
                  refine rs 1 [] [] (by kernel_rfl) allP_nil ?_
                  refine rf [(4, bS false)] [(0, .row 3 (fl c0q15)), (1, .row 3 (fl r2969.2.2.1)), (2, .row 3 (fl r2969.2.2.2)), (3, .row 24 [iS r2969.1, .own 1 0 r2969.2.2.1.length]), (4, .row 28 (Enc.cells r2969.2.1))] 5 (by kernel_rfl) ?_
                  refine wk_id ?_
                  refine rt_cast ht5 ?_
                  obtain ⟨r0, h, e0⟩ := map_sx h
                  have e1 := hr5 r0 e0.symm
                  subst r0
                  obtain rfl := Option.some.inj h
                  refine ret_at (bS false) (by kernel_rfl) ?_
                  exact ret_e [] [] (by simp only [push_cast, seval]) (by simp only [push_cast, seval]) rfl rfl rfl
                · refine wk_id ?_
                  refine seq_np ?_
                  refine block_np ?_
                  refine loop_sx (S := Int × Int × (List Int) × (List Int)) (fun a => ([(0, iS n), (1, iS procs), (7, iS (IntKind.i64.wrap (rounds7 + 1))), (8, iS a.1), (9, .ptr 0 0), (10, .own 1 0 a.2.2.1.length)], [(0, .row 24 [iS a.2.1, .own 2 0 a.2.2.2.length]), (1, .row 3 (fl a.2.2.1)), (2, .row 3 (fl a.2.2.2))], 3)) h (leSt_m [(0, 3), (1, 2), (2, 1)] [] (by simp only [push_cast, seval]) (by simp only [push_cast, seval]) rfl rfl rfl) ?_
                  rintro ⟨xnext35, c0_Next41, c1q41, c2q41⟩ o6 R6 h hr6 hn6 hx6 ht6
                  try dsimp only at h hn6 ⊢
                  unfold taskmilllaw_RingDrains_l1 at h
                  try dsimp only at h
                  refine seq_np ?_
                  refine seq_np ?_
                  refine reg_f ?_
                  refine rs 4 [] [] (by kernel_rfl) allP_nil ?_
                  refine rf [(0, iS n), (1, iS procs), (7, iS (IntKind.i64.wrap (rounds7 + 1))), (8, iS xnext35), (9, .ptr 0 0), (10, .own 1 0 c1q41.length), (71, bS (decide ((0 : Int) < ((c2q41.length : Nat) : Int))))] [(0, .row 24 [iS c0_Next41, .own 2 0 c2q41.length]), (1, .row 3 (fl c1q41)), (2, .row 3 (fl c2q41))] 3 (by kernel_rfl) ?_
                  refine wk_id ?_
                  refine cond_sx h (by kernel_rfl) (fun g3019 h => ?_) (fun g3019 h => ?_)
                  · refine wk_id ?_
                    refine block_np ?_
                    refine seq_np ?_
                    refine reg_f ?_
                    refine rs 1 [] [] (by kernel_rfl) allP_nil ?_
                    obtain ⟨r3012, hr3012, h⟩ := bind_sx h
                    refine call_x (ring_Take_spec (Ring.mk c0_Next41 c2q41) r3012 hr3012) (args := [.agg [iS c0_Next41, .own 2 0 c2q41.length]]) (dst := (some 74)) (by kernel_rfl) [(0, .row 24 [iS c0_Next41, .own 2 0 c2q41.length]), (1, .row 3 (fl c1q41)), (2, .row 3 (fl c2q41))] 3 (by kernel_rfl) [] [2] (.tup [.agg [iS r3012.1, .own 3 0 r3012.2.2.2.length], iS r3012.2.1, .agg (Enc.cells r3012.2.2.1)]) [(3, .row 3 (fl r3012.2.2.2))] (by simp only [push_cast, seval]) (by simp only [push_cast, seval]) (by kernel_rfl) (.inr ⟨by simp only [push_cast, seval], by simp only [push_cast, seval]⟩) (by simp only [push_cast, seval]) (by simp only [push_cast, seval]) ?_
                    refine rs 9 [] [] (by kernel_rfl) allP_nil ?_
                    refine rf [(0, iS n), (1, iS procs), (7, iS (IntKind.i64.wrap (rounds7 + 1))), (8, iS xnext35), (9, .ptr 0 0), (10, .own 1 0 c1q41.length), (12, .ptr 4 0), (13, iS r3012.2.1), (14, .ptr 5 0)] [(0, .row 24 [iS c0_Next41, .own 2 0 c2q41.length]), (1, .row 3 (fl c1q41)), (2, .row 3 (fl c2q41)), (3, .row 3 (fl r3012.2.2.2)), (4, .row 24 [iS r3012.1, .own 3 0 r3012.2.2.2.length]), (5, .row 28 (Enc.cells r3012.2.2.1))] 6 (by kernel_rfl) ?_
                    refine wk_id ?_
                    refine seq_np ?_
                    refine seq_cut (A := Unit) (fun _ => ([(0, iS n), (1, iS procs), (7, iS (IntKind.i64.wrap (rounds7 + 1))), (8, iS xnext35), (9, .ptr 0 0), (10, .own 1 0 c1q41.length), (12, .ptr 4 0), (85, bS ((r3012.2.2.1.Code != 0) || (r3012.2.1 != xnext35)))], [(0, .row 24 [iS c0_Next41, .own 2 0 c2q41.length]), (1, .row 3 (fl c1q41)), (2, .row 3 (fl c2q41)), (3, .row 3 (fl r3012.2.2.2)), (4, .row 24 [iS r3012.1, .own 3 0 r3012.2.2.2.length]), (5, .row 28 (Enc.cells r3012.2.2.1))], 6)) (fun _ => True) (fun K3016 hK3016 => ?_) (fun _ _ => ?_)
                    · refine reg_f ?_
                      refine rs 4 [] [] (by kernel_rfl) allP_nil ?_
                      refine run_split 81 (r3012.2.2.1.Code != 0) (.inl (by kernel_rfl)) (fun g3017 => ?_) (fun g3017 => ?_)
                      · refine rs 4 [] [] (by kernel_rfl) allP_nil ?_
                        refine rf [(0, iS n), (1, iS procs), (7, iS (IntKind.i64.wrap (rounds7 + 1))), (8, iS xnext35), (9, .ptr 0 0), (10, .own 1 0 c1q41.length), (12, .ptr 4 0), (85, bS true)] [(0, .row 24 [iS c0_Next41, .own 2 0 c2q41.length]), (1, .row 3 (fl c1q41)), (2, .row 3 (fl c2q41)), (3, .row 3 (fl r3012.2.2.2)), (4, .row 24 [iS r3012.1, .own 3 0 r3012.2.2.2.length]), (5, .row 28 (Enc.cells r3012.2.2.1))] 6 (by kernel_rfl) ?_
                        exact hK3016 () _ _ _ trivial (leSt_m [(0, 0), (1, 1), (2, 2), (3, 3), (4, 4), (5, 5)] [] (by (try simp only [g3017]) <;> simp only [push_cast, seval]) (by (try simp only [g3017]) <;> simp only [push_cast, seval]) rfl rfl rfl)
                      · refine rs 4 [] [] (by kernel_rfl) allP_nil ?_
                        refine rf [(0, iS n), (1, iS procs), (7, iS (IntKind.i64.wrap (rounds7 + 1))), (8, iS xnext35), (9, .ptr 0 0), (10, .own 1 0 c1q41.length), (12, .ptr 4 0), (85, bS (r3012.2.1 != xnext35))] [(0, .row 24 [iS c0_Next41, .own 2 0 c2q41.length]), (1, .row 3 (fl c1q41)), (2, .row 3 (fl c2q41)), (3, .row 3 (fl r3012.2.2.2)), (4, .row 24 [iS r3012.1, .own 3 0 r3012.2.2.2.length]), (5, .row 28 (Enc.cells r3012.2.2.1))] 6 (by kernel_rfl) ?_
                        exact hK3016 () _ _ _ trivial (leSt_m [(0, 0), (1, 1), (2, 2), (3, 3), (4, 4), (5, 5)] [] (by (try simp only [g3017]) <;> simp only [push_cast, seval]) (by (try simp only [g3017]) <;> simp only [push_cast, seval]) rfl rfl rfl)
                    · dsimp only
                      refine cond_sx h (by kernel_rfl) (fun g3018 h => ?_) (fun g3018 h => ?_)
                      · refine seq_np ?_
                        refine reg_f ?_
                        refine rs 1 [] [] (by kernel_rfl) allP_nil ?_
                        refine rf [(4, bS false)] [(0, .row 24 [iS c0_Next41, .own 2 0 c2q41.length]), (1, .row 3 (fl c1q41)), (2, .row 3 (fl c2q41)), (3, .row 3 (fl r3012.2.2.2)), (4, .row 24 [iS r3012.1, .own 3 0 r3012.2.2.2.length]), (5, .row 28 (Enc.cells r3012.2.2.1))] 6 (by kernel_rfl) ?_
                        refine wk_id ?_
                        refine rt_cast ht6 ?_
                        obtain ⟨r0, h, e0⟩ := map_sx h
                        have e1 := hr6 r0 e0.symm
                        subst r0
                        refine rt_cast ht5 ?_
                        obtain ⟨r0, h, e0⟩ := map_sx h
                        have e1 := hr5 r0 e0.symm
                        subst r0
                        obtain rfl := Option.some.inj h
                        refine ret_at (bS false) (by kernel_rfl) ?_
                        exact ret_e [] [] (by simp only [push_cast, seval]) (by simp only [push_cast, seval]) rfl rfl rfl
                      · refine wk_id ?_
                        refine seq_np ?_
                        refine reg_f ?_
                        refine rs 3 [] [] (by kernel_rfl) allP_nil ?_
                        refine rf [(0, iS n), (1, iS procs), (7, iS (IntKind.i64.wrap (rounds7 + 1))), (8, iS (IntKind.i64.wrap (xnext35 + 1))), (9, .ptr 0 0), (10, .own 1 0 c1q41.length), (12, .ptr 4 0)] [(0, .row 24 [iS c0_Next41, .own 2 0 c2q41.length]), (1, .row 3 (fl c1q41)), (2, .row 3 (fl c2q41)), (3, .row 3 (fl r3012.2.2.2)), (4, .row 24 [iS r3012.1, .own 3 0 r3012.2.2.2.length]), (5, .row 28 (Enc.cells r3012.2.2.1))] 6 (by kernel_rfl) ?_
                        refine wk_id ?_
                        refine reg_f ?_
                        refine rs 2 [] [] (by kernel_rfl) allP_nil ?_
                        refine rf [(0, iS n), (1, iS procs), (7, iS (IntKind.i64.wrap (rounds7 + 1))), (8, iS (IntKind.i64.wrap (xnext35 + 1))), (9, .ptr 0 0), (10, .own 1 0 c1q41.length)] [(0, .row 24 [iS r3012.1, .own 3 0 r3012.2.2.2.length]), (1, .row 3 (fl c1q41)), (2, .row 3 (fl c2q41)), (3, .row 3 (fl r3012.2.2.2)), (4, .row 24 [iS r3012.1, .own 3 0 r3012.2.2.2.length]), (5, .row 28 (Enc.cells r3012.2.2.1))] 6 (by kernel_rfl) ?_
                        refine wk_id ?_
                        exact hn6 ((IntKind.i64.wrap (xnext35 + 1)), r3012.1, c1q41, r3012.2.2.2) _ _ _ (Option.some.inj h).symm (leSt_m [(0, 0), (1, 1), (2, 3)] [] (by simp only [push_cast, seval]) (by simp only [push_cast, seval]) rfl rfl rfl)
                  · refine ex_cast hx6 (id := 4) ?_
                    obtain ⟨r0, h, e0⟩ := map_sx h
                    have e1 := hr6 r0 e0.symm
                    subst r0
                    refine wk_id ?_
                    refine wk_id ?_
                    refine reg_f ?_
                    refine rs 2 [] [] (by kernel_rfl) allP_nil ?_
                    refine rf [(0, iS n), (1, iS procs), (5, .own 1 0 c1q41.length), (7, iS (IntKind.i64.wrap (rounds7 + 1))), (8, iS xnext35)] [(0, .row 24 [iS c0_Next41, .own 2 0 c2q41.length]), (1, .row 3 (fl c1q41)), (2, .row 3 (fl c2q41))] 3 (by kernel_rfl) ?_
                    refine wk_id ?_
                    exact hn5 ((IntKind.i64.wrap (rounds7 + 1)), xnext35, c1q41) _ _ _ (Option.some.inj h).symm (leSt_m [(0, 1)] [] (by simp only [push_cast, seval]) (by simp only [push_cast, seval]) rfl rfl rfl)
          · refine ex_cast hx5 (id := 2) ?_
            obtain ⟨r0, h, e0⟩ := map_sx h
            have e1 := hr5 r0 e0.symm
            subst r0
            refine wk_id ?_
            refine wk_id ?_
            refine seq_np ?_
            refine reg_f ?_
            refine rs 5 [] [] (by kernel_rfl) allP_nil ?_
            refine rf [(4, bS (xnext29 == (IntKind.i64.wrap (n + 1))))] [(0, .row 3 (fl c0q15))] 1 (by kernel_rfl) ?_
            refine wk_id ?_
            obtain rfl := Option.some.inj h
            refine ret_at (bS (xnext29 == (IntKind.i64.wrap (n + 1)))) (by kernel_rfl) ?_
            exact ret_e [] [] (by simp only [push_cast, seval]) (by simp only [push_cast, seval]) rfl rfl rfl

end Go.Proofs.Ytgmklpakhdladaa
