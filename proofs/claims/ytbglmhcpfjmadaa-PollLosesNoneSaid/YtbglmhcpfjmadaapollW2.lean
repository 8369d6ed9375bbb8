/-
  What laws of the chapter poll compute, and lemmas on it.
  No conditions.
-/
import Derived.Test.YtbglmhcpfjmadaapollW1
set_option linter.unusedSimpArgs false
set_option linter.unusedVariables false
namespace Go.Proofs.Ytbglmhcpfjmadaa
open Go Go.Sx
attribute [local irreducible] Wk RunAt
set_option maxRecDepth 100000 in
set_option maxHeartbeats 10000000 in
theorem poll_Until_spec (d : Desc) (way : Int) (when : Int) (now : Int) (r : Desc × Int × Fault) (h : poll_Until d way when now = some r) : SpecW Try.prog 14 [.agg (Enc.cells d), iS way, iS when, iS now] [] 0 (fun x h n => x = .tup [.agg (Enc.cells r.1), iS r.2.1, .agg (Enc.cells r.2.2)] ∧ h = [] ∧ n = 0) := by
  unfold poll_Until at h
  refine spec_of (draw_ok _) Try.func14 rfl (by decide) rfl (by kernel_rfl) ?_
  refine seq_np ?_
  refine reg_f ?_
  refine rs 4 [] [] (by kernel_rfl) allP_nil ?_
  refine rf [(1, iS way), (2, iS when), (3, iS now), (4, .ptr 0 0), (8, .ptr 1 0), (10, .ptr 2 0)] [(0, .row 25 (Enc.cells d)), (1, .row 25 [bS false, bS false, bS false, iS 0, iS 0, iS 0, iS 0]), (2, .row 27 [iS 0, iS 0])] 3 (by kernel_rfl) ?_
  refine wk_id ?_
  refine seq_np ?_
  refine seq_np ?_
  refine reg_f ?_
  refine rs 2 [] [] (by kernel_rfl) allP_nil ?_
  obtain ⟨r1878, hr1878, h⟩ := bind_sx h
  refine run_call 19 [.agg (Enc.cells d), iS way] (some 15) (by kernel_rfl) ?_
  refine call_0 (poll_side_spec d way r1878 hr1878) (by simp only [push_cast, seval]) (by simp only [push_cast, seval]) ?_
  refine back_f ?_
  refine rs 2 [] [] (by kernel_rfl) allP_nil ?_
  refine rf [(1, iS way), (2, iS when), (3, iS now), (4, .ptr 0 0), (8, .ptr 1 0), (10, .ptr 2 0), (11, .ptr 3 0)] [(0, .row 25 (Enc.cells d)), (1, .row 25 [bS false, bS false, bS false, iS 0, iS 0, iS 0, iS 0]), (2, .row 27 [iS 0, iS 0]), (3, .row 27 (Enc.cells r1878))] 4 (by kernel_rfl) ?_
  refine wk_id ?_
  refine seq_np ?_
  refine reg_f ?_
  refine rs 3 [] [] (by kernel_rfl) allP_nil ?_
  refine rf [(1, iS way), (2, iS when), (3, iS now), (4, .ptr 0 0), (8, .ptr 1 0), (10, .ptr 2 0), (11, .ptr 3 0), (18, bS (r1878.Code != 0))] [(0, .row 25 (Enc.cells d)), (1, .row 25 [bS false, bS false, bS false, iS 0, iS 0, iS 0, iS 0]), (2, .row 27 [iS 0, iS 0]), (3, .row 27 (Enc.cells r1878))] 4 (by kernel_rfl) ?_
  refine wk_id ?_
  refine cond_sx h (by kernel_rfl) (fun g1905 h => ?_) (fun g1905 h => ?_)
  · refine seq_np ?_
    refine reg_t ?_
    refine rs 5 [] [] (by kernel_rfl) allP_nil ?_
    refine rt [(8, .ptr 1 0), (9, iS 0), (10, .ptr 2 0)] [(0, .row 25 (Enc.cells d)), (1, .row 25 [bS false, bS false, bS false, iS 0, iS 0, iS 0, iS 0]), (2, .row 27 (Enc.cells r1878)), (3, .row 27 (Enc.cells r1878))] 9 follows (by kernel_rfl) ?_
    refine wk_id ?_
    obtain rfl := Option.some.inj h
    refine ret_at (.tup [.agg [bS false, bS false, bS false, iS 0, iS 0, iS 0, iS 0], iS 0, .agg (Enc.cells r1878)]) (by kernel_rfl) ?_
    exact ret_e [] [] (by simp only [push_cast, seval]) (by simp only [push_cast, seval]) rfl rfl rfl
  · refine wk_id ?_
    refine seq_np ?_
    refine seq_cut (A := Unit) (fun _ => ([(1, iS way), (2, iS when), (3, iS now), (4, .ptr 0 0), (8, .ptr 1 0), (10, .ptr 2 0), (30, bS ((decide ((min when now) < 0)) || (decide ((1000000000 : Int) < (max when now)))))], [(0, .row 25 (Enc.cells d)), (1, .row 25 [bS false, bS false, bS false, iS 0, iS 0, iS 0, iS 0]), (2, .row 27 [iS 0, iS 0]), (3, .row 27 (Enc.cells r1878))], 4)) (fun _ => True) (fun K1883 hK1883 => ?_) (fun _ _ => ?_)
    · refine reg_f ?_
      refine rs 5 [] [] (by kernel_rfl) allP_nil ?_
      refine run_split 25 (decide ((min when now) < 0)) (.inl (by kernel_rfl)) (fun g1884 => ?_) (fun g1884 => ?_)
      · refine rs 5 [] [] (by kernel_rfl) allP_nil ?_
        refine rf [(1, iS way), (2, iS when), (3, iS now), (4, .ptr 0 0), (8, .ptr 1 0), (10, .ptr 2 0), (30, bS true)] [(0, .row 25 (Enc.cells d)), (1, .row 25 [bS false, bS false, bS false, iS 0, iS 0, iS 0, iS 0]), (2, .row 27 [iS 0, iS 0]), (3, .row 27 (Enc.cells r1878))] 4 (by kernel_rfl) ?_
        exact hK1883 () _ _ _ trivial (leSt_m [(0, 0), (1, 1), (2, 2), (3, 3)] [] (by (try simp only [g1884]) <;> simp only [push_cast, seval]) (by (try simp only [g1884]) <;> simp only [push_cast, seval]) rfl rfl rfl)
      · refine rs 5 [] [] (by kernel_rfl) allP_nil ?_
        refine rf [(1, iS way), (2, iS when), (3, iS now), (4, .ptr 0 0), (8, .ptr 1 0), (10, .ptr 2 0), (30, bS (decide ((1000000000 : Int) < (max when now))))] [(0, .row 25 (Enc.cells d)), (1, .row 25 [bS false, bS false, bS false, iS 0, iS 0, iS 0, iS 0]), (2, .row 27 [iS 0, iS 0]), (3, .row 27 (Enc.cells r1878))] 4 (by kernel_rfl) ?_
        exact hK1883 () _ _ _ trivial (leSt_m [(0, 0), (1, 1), (2, 2), (3, 3)] [] (by (try simp only [g1884]) <;> simp only [push_cast, seval]) (by (try simp only [g1884]) <;> simp only [push_cast, seval]) rfl rfl rfl)
    · dsimp only
      refine cond_sx h (by kernel_rfl) (fun g1904 h => ?_) (fun g1904 h => ?_)
      · refine seq_np ?_
        refine reg_f ?_
        refine rs 1 [] [] (by kernel_rfl) allP_nil ?_
        obtain ⟨r1886, hr1886, h⟩ := bind_sx h
        refine run_call 18 [iS 3, iS (-1)] (some 32) (by kernel_rfl) ?_
        refine call_0 (poll_fault_spec 3 (-1) r1886 hr1886) (by simp only [push_cast, seval]) (by simp only [push_cast, seval]) ?_
        refine back_f ?_
        refine rs 3 [] [] (by kernel_rfl) allP_nil ?_
        refine rf [(8, .ptr 1 0), (9, iS 0), (10, .ptr 2 0)] [(0, .row 25 (Enc.cells d)), (1, .row 25 [bS false, bS false, bS false, iS 0, iS 0, iS 0, iS 0]), (2, .row 27 (Enc.cells r1886)), (3, .row 27 (Enc.cells r1878))] 4 (by kernel_rfl) ?_
        refine wk_id ?_
        obtain rfl := Option.some.inj h
        refine ret_at (.tup [.agg [bS false, bS false, bS false, iS 0, iS 0, iS 0, iS 0], iS 0, .agg (Enc.cells r1886)]) (by kernel_rfl) ?_
        exact ret_e [] [] (by simp only [push_cast, seval]) (by simp only [push_cast, seval]) rfl rfl rfl
      · refine wk_id ?_
        refine seq_np ?_
        refine seq_np ?_
        refine reg_f ?_
        refine rs 2 [] [] (by kernel_rfl) allP_nil ?_
        refine rf [(1, iS way), (2, iS when), (3, iS now), (4, .ptr 0 0), (8, .ptr 1 0), (10, .ptr 2 0), (34, bS d.Closed)] [(0, .row 25 (Enc.cells d)), (1, .row 25 [bS false, bS false, bS false, iS 0, iS 0, iS 0, iS 0]), (2, .row 27 [iS 0, iS 0]), (3, .row 27 (Enc.cells r1878))] 4 (by kernel_rfl) ?_
        refine wk_id ?_
        refine cond_sx h (by kernel_rfl) (fun g1903 h => ?_) (fun g1903 h => ?_)
        · refine seq_np ?_
          refine reg_f ?_
          refine rs 1 [] [] (by kernel_rfl) allP_nil ?_
          obtain ⟨r1890, hr1890, h⟩ := bind_sx h
          refine run_call 18 [iS 11, iS (-1)] (some 36) (by kernel_rfl) ?_
          refine call_0 (poll_fault_spec 11 (-1) r1890 hr1890) (by simp only [push_cast, seval]) (by simp only [push_cast, seval]) ?_
          refine back_f ?_
          refine rs 3 [] [] (by kernel_rfl) allP_nil ?_
          refine rf [(8, .ptr 1 0), (9, iS 0), (10, .ptr 2 0)] [(0, .row 25 (Enc.cells d)), (1, .row 25 [bS false, bS false, bS false, iS 0, iS 0, iS 0, iS 0]), (2, .row 27 (Enc.cells r1890)), (3, .row 27 (Enc.cells r1878))] 4 (by kernel_rfl) ?_
          refine wk_id ?_
          obtain rfl := Option.some.inj h
          refine ret_at (.tup [.agg [bS false, bS false, bS false, iS 0, iS 0, iS 0, iS 0], iS 0, .agg (Enc.cells r1890)]) (by kernel_rfl) ?_
          exact ret_e [] [] (by simp only [push_cast, seval]) (by simp only [push_cast, seval]) rfl rfl rfl
        · refine wk_id ?_
          refine split_s h (fun g1891 h => ?_) (fun g1892 h => ?_)
          · refine seq_np ?_
            refine reg_f ?_
            refine rs 3 [] [] (by kernel_rfl) allP_nil ?_
            refine run_at 37 .i64 way 0 g1891 (by kernel_rfl) ?_
            refine rs 2 [] [] (by kernel_rfl) allP_nil ?_
            refine rf [(1, iS way), (3, iS now), (4, .ptr 0 0), (8, .ptr 1 0), (10, .ptr 2 0)] [(0, .row 25 [bS d.Closed, bS d.Ready_e0, bS d.Ready_e1, iS d.Task_e0, iS d.Task_e1, iS when, iS d.Until_e1]), (1, .row 25 [bS false, bS false, bS false, iS 0, iS 0, iS 0, iS 0]), (2, .row 27 [iS 0, iS 0]), (3, .row 27 (Enc.cells r1878))] 4 (by kernel_rfl) ?_
            refine wk_id ?_
            refine seq_np ?_
            refine reg_f ?_
            refine rs 2 [] [] (by kernel_rfl) allP_nil ?_
            obtain ⟨r1894, hr1894, h⟩ := bind_sx h
            refine call_x (poll_pop_spec way now (Desc.mk d.Closed d.Ready_e0 d.Ready_e1 d.Task_e0 d.Task_e1 when d.Until_e1) r1894 hr1894) (args := [.ptr 0 0, iS way, iS now]) (dst := (some 43)) (by kernel_rfl) [(0, .row 25 [bS d.Closed, bS d.Ready_e0, bS d.Ready_e1, iS d.Task_e0, iS d.Task_e1, iS when, iS d.Until_e1]), (1, .row 25 [bS false, bS false, bS false, iS 0, iS 0, iS 0, iS 0]), (2, .row 27 [iS 0, iS 0]), (3, .row 27 (Enc.cells r1878))] 4 (by kernel_rfl) [(0, 0)] [] (iS r1894.1) [(0, .row 25 (Enc.cells r1894.2)), (0, .dead)] (by simp only [push_cast, seval]) (by simp only [push_cast, seval]) (by kernel_rfl) (.inl rfl) (by simp only [push_cast, seval]) (by simp only [push_cast, seval]) ?_
            refine rs 1 [] [] (by kernel_rfl) allP_nil ?_
            refine rf [(4, .ptr 0 0), (8, .ptr 1 0), (10, .ptr 2 0), (12, iS r1894.1)] [(0, .row 25 (Enc.cells r1894.2)), (1, .row 25 [bS false, bS false, bS false, iS 0, iS 0, iS 0, iS 0]), (2, .row 27 [iS 0, iS 0]), (3, .row 27 (Enc.cells r1878))] 5 (by kernel_rfl) ?_
            refine wk_id ?_
            refine seq_np ?_
            refine reg_f ?_
            refine rs 6 [] [] (by kernel_rfl) allP_nil ?_
            refine rf [(8, .ptr 1 0), (9, iS r1894.1), (10, .ptr 2 0)] [(0, .row 25 (Enc.cells r1894.2)), (1, .row 25 (Enc.cells r1894.2)), (2, .row 27 [iS 0, iS 0]), (3, .row 27 (Enc.cells r1878))] 5 (by kernel_rfl) ?_
            refine wk_id ?_
            obtain rfl := Option.some.inj h
            refine ret_at (.tup [.agg (Enc.cells r1894.2), iS r1894.1, .agg [iS 0, iS 0]]) (by kernel_rfl) ?_
            exact ret_e [] [] (by simp only [push_cast, seval]) (by simp only [push_cast, seval]) rfl rfl rfl
          refine split_s h (fun g1895 h => ?_) (fun g1896 h => ?_)
          · refine seq_np ?_
            refine reg_f ?_
            refine rs 3 [] [] (by kernel_rfl) allP_nil ?_
            refine run_at 37 .i64 way 1 g1895 (by kernel_rfl) ?_
            refine rs 2 [] [] (by kernel_rfl) allP_nil ?_
            refine rf [(1, iS way), (3, iS now), (4, .ptr 0 0), (8, .ptr 1 0), (10, .ptr 2 0)] [(0, .row 25 [bS d.Closed, bS d.Ready_e0, bS d.Ready_e1, iS d.Task_e0, iS d.Task_e1, iS d.Until_e0, iS when]), (1, .row 25 [bS false, bS false, bS false, iS 0, iS 0, iS 0, iS 0]), (2, .row 27 [iS 0, iS 0]), (3, .row 27 (Enc.cells r1878))] 4 (by kernel_rfl) ?_
            refine wk_id ?_
            refine seq_np ?_
            refine reg_f ?_
            refine rs 2 [] [] (by kernel_rfl) allP_nil ?_
            obtain ⟨r1898, hr1898, h⟩ := bind_sx h
            refine call_x (poll_pop_spec way now (Desc.mk d.Closed d.Ready_e0 d.Ready_e1 d.Task_e0 d.Task_e1 d.Until_e0 when) r1898 hr1898) (args := [.ptr 0 0, iS way, iS now]) (dst := (some 43)) (by kernel_rfl) [(0, .row 25 [bS d.Closed, bS d.Ready_e0, bS d.Ready_e1, iS d.Task_e0, iS d.Task_e1, iS d.Until_e0, iS when]), (1, .row 25 [bS false, bS false, bS false, iS 0, iS 0, iS 0, iS 0]), (2, .row 27 [iS 0, iS 0]), (3, .row 27 (Enc.cells r1878))] 4 (by kernel_rfl) [(0, 0)] [] (iS r1898.1) [(0, .row 25 (Enc.cells r1898.2)), (0, .dead)] (by simp only [push_cast, seval]) (by simp only [push_cast, seval]) (by kernel_rfl) (.inl rfl) (by simp only [push_cast, seval]) (by simp only [push_cast, seval]) ?_
            refine rs 1 [] [] (by kernel_rfl) allP_nil ?_
            refine rf [(4, .ptr 0 0), (8, .ptr 1 0), (10, .ptr 2 0), (12, iS r1898.1)] [(0, .row 25 (Enc.cells r1898.2)), (1, .row 25 [bS false, bS false, bS false, iS 0, iS 0, iS 0, iS 0]), (2, .row 27 [iS 0, iS 0]), (3, .row 27 (Enc.cells r1878))] 5 (by kernel_rfl) ?_
            refine wk_id ?_
            refine seq_np ?_
            refine reg_f ?_
            refine rs 6 [] [] (by kernel_rfl) allP_nil ?_
            refine rf [(8, .ptr 1 0), (9, iS r1898.1), (10, .ptr 2 0)] [(0, .row 25 (Enc.cells r1898.2)), (1, .row 25 (Enc.cells r1898.2)), (2, .row 27 [iS 0, iS 0]), (3, .row 27 (Enc.cells r1878))] 5 (by kernel_rfl) ?_
            refine wk_id ?_
            obtain rfl := Option.some.inj h
            refine ret_at (.tup [.agg (Enc.cells r1898.2), iS r1898.1, .agg [iS 0, iS 0]]) (by kernel_rfl) ?_
            exact ret_e [] [] (by simp only [push_cast, seval]) (by simp only [push_cast, seval]) rfl rfl rfl
          refine chk_sx h (fun g1902 h => ?_)
          refine seq_np ?_
          refine reg_f ?_
          have k1901 : 0 ≤ way ∧ way < 2 := by first | simpa only [Bool.and_eq_true, decide_eq_true_eq, bne_iff_ne, ne_eq] using g1902 | (simp at g1902 ⊢; omega)
          exfalso
          omega

set_option maxRecDepth 100000 in
set_option maxHeartbeats 10000000 in
theorem poll_Tick_spec (d : Desc) (now : Int) (r : Desc × Fault × (List Int)) (h : poll_Tick d now = some r) : SpecW Try.prog 15 [.agg (Enc.cells d), iS now] [] 0 (fun x h n => x = .tup [.agg (Enc.cells r.1), .own 0 0 r.2.2.length, .agg (Enc.cells r.2.1)] ∧ h = [(0, .row 3 (fl r.2.2))] ∧ n = 1) := by
  unfold poll_Tick at h
  refine spec_of (draw_ok _) Try.func15 rfl (by decide) rfl (by kernel_rfl) ?_
  refine seq_np ?_
  refine reg_f ?_
  refine rs 4 [] [] (by kernel_rfl) allP_nil ?_
  refine rf [(1, iS now), (2, .ptr 0 0), (4, .ptr 1 0), (6, .ptr 2 0)] [(0, .row 25 (Enc.cells d)), (1, .row 25 [bS false, bS false, bS false, iS 0, iS 0, iS 0, iS 0]), (2, .row 27 [iS 0, iS 0])] 3 (by kernel_rfl) ?_
  refine wk_id ?_
  refine seq_np ?_
  refine seq_np ?_
  refine reg_f ?_
  refine rs 1 [] [] (by kernel_rfl) allP_nil ?_
  obtain ⟨r1936, hr1936, h⟩ := bind_sx h
  refine run_call 6 [.agg (Enc.cells d)] (some 12) (by kernel_rfl) ?_
  refine call_0 (poll_Check_spec d r1936 hr1936) (by simp only [push_cast, seval]) (by simp only [push_cast, seval]) ?_
  refine back_f ?_
  refine rs 2 [] [] (by kernel_rfl) allP_nil ?_
  refine rf [(1, iS now), (2, .ptr 0 0), (4, .ptr 1 0), (6, .ptr 2 0), (7, .ptr 3 0)] [(0, .row 25 (Enc.cells d)), (1, .row 25 [bS false, bS false, bS false, iS 0, iS 0, iS 0, iS 0]), (2, .row 27 [iS 0, iS 0]), (3, .row 27 (Enc.cells r1936))] 4 (by kernel_rfl) ?_
  refine wk_id ?_
  refine seq_np ?_
  refine reg_f ?_
  refine rs 3 [] [] (by kernel_rfl) allP_nil ?_
  refine rf [(1, iS now), (2, .ptr 0 0), (4, .ptr 1 0), (6, .ptr 2 0), (7, .ptr 3 0), (15, bS (r1936.Code != 0))] [(0, .row 25 (Enc.cells d)), (1, .row 25 [bS false, bS false, bS false, iS 0, iS 0, iS 0, iS 0]), (2, .row 27 [iS 0, iS 0]), (3, .row 27 (Enc.cells r1936))] 4 (by kernel_rfl) ?_
  refine wk_id ?_
  refine cond_sx h (by kernel_rfl) (fun g2023 h => ?_) (fun g2023 h => ?_)
  · refine seq_np ?_
    refine reg_t ?_
    refine rs 5 [] [] (by kernel_rfl) allP_nil ?_
    refine rt [(4, .ptr 1 0), (5, .v (.slice none 0 0)), (6, .ptr 2 0)] [(0, .row 25 (Enc.cells d)), (1, .row 25 [bS false, bS false, bS false, iS 0, iS 0, iS 0, iS 0]), (2, .row 27 (Enc.cells r1936)), (3, .row 27 (Enc.cells r1936))] 9 follows (by kernel_rfl) ?_
    refine wk_id ?_
    obtain rfl := Option.some.inj h
    refine ret_at (.tup [.agg [bS false, bS false, bS false, iS 0, iS 0, iS 0, iS 0], .v (.slice none 0 0), .agg (Enc.cells r1936)]) (by kernel_rfl) ?_
    exact ret_e [] [] (by simp only [push_cast, seval]) (by simp only [push_cast, seval]) rfl rfl rfl
  · refine wk_id ?_
    refine seq_np ?_
    refine seq_cut (A := Unit) (fun _ => ([(1, iS now), (2, .ptr 0 0), (4, .ptr 1 0), (6, .ptr 2 0), (23, bS ((decide (now < 0)) || (decide ((1000000000 : Int) < now))))], [(0, .row 25 (Enc.cells d)), (1, .row 25 [bS false, bS false, bS false, iS 0, iS 0, iS 0, iS 0]), (2, .row 27 [iS 0, iS 0]), (3, .row 27 (Enc.cells r1936))], 4)) (fun _ => True) (fun K1941 hK1941 => ?_) (fun _ _ => ?_)
    · refine reg_f ?_
      refine rs 3 [] [] (by kernel_rfl) allP_nil ?_
      refine run_split 20 (decide (now < 0)) (.inl (by kernel_rfl)) (fun g1942 => ?_) (fun g1942 => ?_)
      · refine rs 3 [] [] (by kernel_rfl) allP_nil ?_
        refine rf [(1, iS now), (2, .ptr 0 0), (4, .ptr 1 0), (6, .ptr 2 0), (23, bS true)] [(0, .row 25 (Enc.cells d)), (1, .row 25 [bS false, bS false, bS false, iS 0, iS 0, iS 0, iS 0]), (2, .row 27 [iS 0, iS 0]), (3, .row 27 (Enc.cells r1936))] 4 (by kernel_rfl) ?_
        exact hK1941 () _ _ _ trivial (leSt_m [(0, 0), (1, 1), (2, 2), (3, 3)] [] (by (try simp only [g1942]) <;> simp only [push_cast, seval]) (by (try simp only [g1942]) <;> simp only [push_cast, seval]) rfl rfl rfl)
      · refine rs 3 [] [] (by kernel_rfl) allP_nil ?_
        refine rf [(1, iS now), (2, .ptr 0 0), (4, .ptr 1 0), (6, .ptr 2 0), (23, bS (decide ((1000000000 : Int) < now)))] [(0, .row 25 (Enc.cells d)), (1, .row 25 [bS false, bS false, bS false, iS 0, iS 0, iS 0, iS 0]), (2, .row 27 [iS 0, iS 0]), (3, .row 27 (Enc.cells r1936))] 4 (by kernel_rfl) ?_
        exact hK1941 () _ _ _ trivial (leSt_m [(0, 0), (1, 1), (2, 2), (3, 3)] [] (by (try simp only [g1942]) <;> simp only [push_cast, seval]) (by (try simp only [g1942]) <;> simp only [push_cast, seval]) rfl rfl rfl)
    · dsimp only
      refine cond_sx h (by kernel_rfl) (fun g2022 h => ?_) (fun g2022 h => ?_)
      · refine seq_np ?_
        refine reg_f ?_
        refine rs 1 [] [] (by kernel_rfl) allP_nil ?_
        obtain ⟨r1944, hr1944, h⟩ := bind_sx h
        refine run_call 18 [iS 3, iS (-1)] (some 25) (by kernel_rfl) ?_
        refine call_0 (poll_fault_spec 3 (-1) r1944 hr1944) (by simp only [push_cast, seval]) (by simp only [push_cast, seval]) ?_
        refine back_f ?_
        refine rs 3 [] [] (by kernel_rfl) allP_nil ?_
        refine rf [(4, .ptr 1 0), (5, .v (.slice none 0 0)), (6, .ptr 2 0)] [(0, .row 25 (Enc.cells d)), (1, .row 25 [bS false, bS false, bS false, iS 0, iS 0, iS 0, iS 0]), (2, .row 27 (Enc.cells r1944)), (3, .row 27 (Enc.cells r1936))] 4 (by kernel_rfl) ?_
        refine wk_id ?_
        obtain rfl := Option.some.inj h
        refine ret_at (.tup [.agg [bS false, bS false, bS false, iS 0, iS 0, iS 0, iS 0], .v (.slice none 0 0), .agg (Enc.cells r1944)]) (by kernel_rfl) ?_
        exact ret_e [] [] (by simp only [push_cast, seval]) (by simp only [push_cast, seval]) rfl rfl rfl
      · refine wk_id ?_
        refine seq_np ?_
        refine reg_f ?_
        refine rs 1 [] [] (by kernel_rfl) allP_nil ?_
        refine rf [(1, iS now), (2, .ptr 0 0), (4, .ptr 1 0), (6, .ptr 2 0), (8, .v (.slice none 0 0))] [(0, .row 25 (Enc.cells d)), (1, .row 25 [bS false, bS false, bS false, iS 0, iS 0, iS 0, iS 0]), (2, .row 27 [iS 0, iS 0]), (3, .row 27 (Enc.cells r1936))] 4 (by kernel_rfl) ?_
        refine wk_id ?_
        refine seq_np ?_
        refine seq_np ?_
        refine reg_f ?_
        refine rs 1 [] [] (by kernel_rfl) allP_nil ?_
        refine rf [(1, iS now), (2, .ptr 0 0), (4, .ptr 1 0), (6, .ptr 2 0), (8, .v (.slice none 0 0)), (26, iS 0)] [(0, .row 25 (Enc.cells d)), (1, .row 25 [bS false, bS false, bS false, iS 0, iS 0, iS 0, iS 0]), (2, .row 27 [iS 0, iS 0]), (3, .row 27 (Enc.cells r1936))] 4 (by kernel_rfl) ?_
        refine wk_id ?_
        refine block_np ?_
        refine loop_sx (S := Int × Desc × (List Int)) (fun a => ([(1, iS now), (2, .ptr 0 0), (4, .ptr 1 0), (6, .ptr 2 0), (8, .own 3 0 a.2.2.length), (26, iS a.1)], [(0, .row 25 (Enc.cells a.2.1)), (1, .row 25 [bS false, bS false, bS false, iS 0, iS 0, iS 0, iS 0]), (2, .row 27 [iS 0, iS 0]), (3, .row 3 (fl a.2.2))], 4)) h (leSt_m [(0, 0), (1, 1), (2, 2)] [] (by simp only [push_cast, seval]) (by simp only [push_cast, seval]) rfl rfl rfl) ?_
        rintro ⟨t26q7, c0q19, c3q18⟩ o2 R2 h hr2 hn2 hx2 ht2
        try dsimp only at h hn2 ⊢
        unfold poll_Tick_l1 at h
        try dsimp only at h
        refine seq_np ?_
        refine reg_f ?_
        refine rs 1 [] [] (by kernel_rfl) allP_nil ?_
        refine rf [(1, iS now), (2, .ptr 0 0), (4, .ptr 1 0), (6, .ptr 2 0), (8, .own 3 0 c3q18.length), (26, iS t26q7), (27, bS (decide (t26q7 < 2)))] [(0, .row 25 (Enc.cells c0q19)), (1, .row 25 [bS false, bS false, bS false, iS 0, iS 0, iS 0, iS 0]), (2, .row 27 [iS 0, iS 0]), (3, .row 3 (fl c3q18))] 4 (by kernel_rfl) ?_
        refine wk_id ?_
        refine seq_np ?_
        refine cond_sx h (by kernel_rfl) (fun g2021 h => ?_) (fun g2021 h => ?_)
        · refine wk_id ?_
          refine seq_np ?_
          refine block_cut (A := Desc × (List Int)) (fun a => ([(1, iS now), (2, .ptr 0 0), (4, .ptr 1 0), (6, .ptr 2 0), (8, .own 3 0 a.2.length), (26, iS t26q7)], [(0, .row 25 (Enc.cells a.1)), (1, .row 25 [bS false, bS false, bS false, iS 0, iS 0, iS 0, iS 0]), (2, .row 27 [iS 0, iS 0]), (3, .row 3 (fl a.2))], 4)) (fun a => (poll_Tick_j1 now t26q7 a.1 a.2) = some o2) (fun K2013 hK2013 => ?_) ?_
          · refine seq_np ?_
            refine reg_f ?_
            refine rs 2 [] [] (by kernel_rfl) allP_nil ?_
            refine rf [(1, iS now), (2, .ptr 0 0), (4, .ptr 1 0), (6, .ptr 2 0), (8, .own 3 0 c3q18.length), (9, iS t26q7), (26, iS t26q7)] [(0, .row 25 (Enc.cells c0q19)), (1, .row 25 [bS false, bS false, bS false, iS 0, iS 0, iS 0, iS 0]), (2, .row 27 [iS 0, iS 0]), (3, .row 3 (fl c3q18))] 4 (by kernel_rfl) ?_
            refine wk_id ?_
            refine seq_np ?_
            refine reg_f ?_
            refine rs 2 [] [] (by kernel_rfl) allP_nil ?_
            obtain ⟨r2015, hr2015, h⟩ := bind_sx h
            refine call_x (poll_pop_spec t26q7 now c0q19 r2015 hr2015) (args := [.ptr 0 0, iS t26q7, iS now]) (dst := (some 31)) (by kernel_rfl) [(0, .row 25 (Enc.cells c0q19)), (1, .row 25 [bS false, bS false, bS false, iS 0, iS 0, iS 0, iS 0]), (2, .row 27 [iS 0, iS 0]), (3, .row 3 (fl c3q18))] 4 (by kernel_rfl) [(0, 0)] [] (iS r2015.1) [(0, .row 25 (Enc.cells r2015.2)), (0, .dead)] (by simp only [push_cast, seval]) (by simp only [push_cast, seval]) (by kernel_rfl) (.inl rfl) (by simp only [push_cast, seval]) (by simp only [push_cast, seval]) ?_
            refine rs 1 [] [] (by kernel_rfl) allP_nil ?_
            refine rf [(1, iS now), (2, .ptr 0 0), (4, .ptr 1 0), (6, .ptr 2 0), (8, .own 3 0 c3q18.length), (10, iS r2015.1), (26, iS t26q7)] [(0, .row 25 (Enc.cells r2015.2)), (1, .row 25 [bS false, bS false, bS false, iS 0, iS 0, iS 0, iS 0]), (2, .row 27 [iS 0, iS 0]), (3, .row 3 (fl c3q18))] 5 (by kernel_rfl) ?_
            refine wk_id ?_
            refine seq_np ?_
            refine reg_f ?_
            refine rs 2 [] [] (by kernel_rfl) allP_nil ?_
            refine rf [(1, iS now), (2, .ptr 0 0), (4, .ptr 1 0), (6, .ptr 2 0), (8, .own 3 0 c3q18.length), (10, iS r2015.1), (26, iS t26q7), (33, bS (decide ((0 : Int) < r2015.1)))] [(0, .row 25 (Enc.cells r2015.2)), (1, .row 25 [bS false, bS false, bS false, iS 0, iS 0, iS 0, iS 0]), (2, .row 27 [iS 0, iS 0]), (3, .row 3 (fl c3q18))] 5 (by kernel_rfl) ?_
            refine wk_id ?_
            refine cond_sx h (by kernel_rfl) (fun g2020 h => ?_) (fun g2020 h => ?_)
            · refine chk_sx h (fun g2019 h => ?_)
              refine reg_f ?_
              have k2018 : (c3q18 ++ ([r2015.1] : List Int)).length * 8 ≤ 140737488355328 := by first | simpa only [Bool.and_eq_true, decide_eq_true_eq, bne_iff_ne, ne_eq] using g2019 | (simp at g2019 ⊢; omega)
              refine rs 5 [none, none, none, some ⟨.own 6 0 (c3q18 ++ ([r2015.1] : List Int)).length, [(6, .row 3 (fl (c3q18 ++ ([r2015.1] : List Int)))), (3, .dead)], 7, [3, 5]⟩] _ (by kernel_rfl) (allP_cons (ob_app (P := Try.prog) c3q18 ([r2015.1] : List Int) 1 8 rfl (appCells (fl ([r2015.1] : List Int)) 0 (([r2015.1] : List Int).length * 1)) ([r2015.1] : List Int).length (app_own ([r2015.1] : List Int) 1 rfl) rfl (0 + ([r2015.1] : List Int).length * 1 ≤ (fl ([r2015.1] : List Int)).length) (app_own_le ([r2015.1] : List Int) 1 rfl) 3 (by kernel_rfl) (by decide) k2018 3 6 [5]) allP_nil) ?_
              refine rf [(1, iS now), (2, .ptr 0 0), (4, .ptr 1 0), (6, .ptr 2 0), (8, .own 6 0 (c3q18 ++ ([r2015.1] : List Int)).length), (26, iS t26q7)] [(0, .row 25 (Enc.cells r2015.2)), (1, .row 25 [bS false, bS false, bS false, iS 0, iS 0, iS 0, iS 0]), (2, .row 27 [iS 0, iS 0]), (3, .dead), (5, .row 3 (fl ([r2015.1] : List Int))), (6, .row 3 (fl (c3q18 ++ ([r2015.1] : List Int))))] 7 (by kernel_rfl) ?_
              exact hK2013 (r2015.2, (c3q18 ++ ([r2015.1] : List Int))) _ _ _ h (leSt_m [(0, 0), (1, 1), (2, 2), (3, 6)] [] (by simp only [push_cast, seval]) (by simp only [push_cast, seval]) rfl rfl rfl)
            · exact hK2013 (r2015.2, c3q18) _ _ _ h (leSt_m [(0, 0), (1, 1), (2, 2), (3, 3)] [] (by simp only [push_cast, seval]) (by simp only [push_cast, seval]) rfl rfl rfl)
          · rintro ⟨c0q21, c3q20⟩ h
            try dsimp only at h ⊢
            unfold poll_Tick_j1 at h
            refine wk_id ?_
            refine reg_f ?_
            refine rs 2 [] [] (by kernel_rfl) allP_nil ?_
            refine rf [(1, iS now), (2, .ptr 0 0), (4, .ptr 1 0), (6, .ptr 2 0), (8, .own 3 0 c3q20.length), (26, iS (IntKind.i64.wrap (t26q7 + 1)))] [(0, .row 25 (Enc.cells c0q21)), (1, .row 25 [bS false, bS false, bS false, iS 0, iS 0, iS 0, iS 0]), (2, .row 27 [iS 0, iS 0]), (3, .row 3 (fl c3q20))] 4 (by kernel_rfl) ?_
            exact hn2 ((IntKind.i64.wrap (t26q7 + 1)), c0q21, c3q20) _ _ _ (Option.some.inj h).symm (leSt_m [(0, 0), (1, 1), (2, 2), (3, 3)] [] (by simp only [push_cast, seval]) (by simp only [push_cast, seval]) rfl rfl rfl)
        · change R2 (.exit 0) _ _ _
          refine ex_cast hx2 (id := 0) ?_
          obtain ⟨r0, h, e0⟩ := map_sx h
          have e1 := hr2 r0 e0.symm
          subst r0
          refine wk_id ?_
          refine wk_id ?_
          refine seq_np ?_
          refine reg_f ?_
          refine rs 6 [] [] (by kernel_rfl) allP_nil ?_
          refine rf [(4, .ptr 1 0), (5, .own 3 0 c3q18.length), (6, .ptr 2 0)] [(0, .row 25 (Enc.cells c0q19)), (1, .row 25 (Enc.cells c0q19)), (2, .row 27 [iS 0, iS 0]), (3, .row 3 (fl c3q18))] 4 (by kernel_rfl) ?_
          refine wk_id ?_
          obtain rfl := Option.some.inj h
          refine ret_at (.tup [.agg (Enc.cells c0q19), .own 3 0 c3q18.length, .agg [iS 0, iS 0]]) (by kernel_rfl) ?_
          exact ret_e [(0, 3)] [] (by simp only [push_cast, seval]) (by simp only [push_cast, seval]) rfl rfl rfl

set_option maxRecDepth 100000 in
set_option maxHeartbeats 10000000 in
theorem poll_Close_spec (d : Desc) (r : Desc × Bool × Fault × (List Int)) (h : poll_Close d = some r) : SpecW Try.prog 16 [.agg (Enc.cells d)] [] 0 (fun x h n => x = .tup [.agg (Enc.cells r.1), .own 0 0 r.2.2.2.length, bS r.2.1, .agg (Enc.cells r.2.2.1)] ∧ h = [(0, .row 3 (fl r.2.2.2))] ∧ n = 1) := by
  unfold poll_Close at h
  refine spec_of (draw_ok _) Try.func16 rfl (by decide) rfl (by kernel_rfl) ?_
  refine seq_np ?_
  refine reg_f ?_
  refine rs 5 [] [] (by kernel_rfl) allP_nil ?_
  refine rf [(1, .ptr 0 0), (2, .ptr 1 0), (5, .ptr 2 0)] [(0, .row 25 (Enc.cells d)), (1, .row 25 [bS false, bS false, bS false, iS 0, iS 0, iS 0, iS 0]), (2, .row 27 [iS 0, iS 0])] 3 (by kernel_rfl) ?_
  refine wk_id ?_
  refine seq_np ?_
  refine seq_np ?_
  refine reg_f ?_
  refine rs 1 [] [] (by kernel_rfl) allP_nil ?_
  obtain ⟨r2067, hr2067, h⟩ := bind_sx h
  refine run_call 6 [.agg (Enc.cells d)] (some 11) (by kernel_rfl) ?_
  refine call_0 (poll_Check_spec d r2067 hr2067) (by simp only [push_cast, seval]) (by simp only [push_cast, seval]) ?_
  refine back_f ?_
  refine rs 2 [] [] (by kernel_rfl) allP_nil ?_
  refine rf [(1, .ptr 0 0), (2, .ptr 1 0), (5, .ptr 2 0), (6, .ptr 3 0)] [(0, .row 25 (Enc.cells d)), (1, .row 25 [bS false, bS false, bS false, iS 0, iS 0, iS 0, iS 0]), (2, .row 27 [iS 0, iS 0]), (3, .row 27 (Enc.cells r2067))] 4 (by kernel_rfl) ?_
  refine wk_id ?_
  refine seq_np ?_
  refine reg_f ?_
  refine rs 3 [] [] (by kernel_rfl) allP_nil ?_
  refine rf [(1, .ptr 0 0), (2, .ptr 1 0), (5, .ptr 2 0), (6, .ptr 3 0), (14, bS (r2067.Code != 0))] [(0, .row 25 (Enc.cells d)), (1, .row 25 [bS false, bS false, bS false, iS 0, iS 0, iS 0, iS 0]), (2, .row 27 [iS 0, iS 0]), (3, .row 27 (Enc.cells r2067))] 4 (by kernel_rfl) ?_
  refine wk_id ?_
  refine cond_sx h (by kernel_rfl) (fun g2211 h => ?_) (fun g2211 h => ?_)
  · refine seq_np ?_
    refine reg_t ?_
    refine rs 6 [] [] (by kernel_rfl) allP_nil ?_
    refine rt [(2, .ptr 1 0), (3, .v (.slice none 0 0)), (4, bS false), (5, .ptr 2 0)] [(0, .row 25 (Enc.cells d)), (1, .row 25 [bS false, bS false, bS false, iS 0, iS 0, iS 0, iS 0]), (2, .row 27 (Enc.cells r2067)), (3, .row 27 (Enc.cells r2067))] 10 follows (by kernel_rfl) ?_
    refine wk_id ?_
    obtain rfl := Option.some.inj h
    refine ret_at (.tup [.agg [bS false, bS false, bS false, iS 0, iS 0, iS 0, iS 0], .v (.slice none 0 0), bS false, .agg (Enc.cells r2067)]) (by kernel_rfl) ?_
    exact ret_e [] [] (by simp only [push_cast, seval]) (by simp only [push_cast, seval]) rfl rfl rfl
  · refine wk_id ?_
    refine seq_np ?_
    refine seq_np ?_
    refine reg_f ?_
    refine rs 2 [] [] (by kernel_rfl) allP_nil ?_
    refine rf [(1, .ptr 0 0), (2, .ptr 1 0), (5, .ptr 2 0), (18, bS d.Closed)] [(0, .row 25 (Enc.cells d)), (1, .row 25 [bS false, bS false, bS false, iS 0, iS 0, iS 0, iS 0]), (2, .row 27 [iS 0, iS 0]), (3, .row 27 (Enc.cells r2067))] 4 (by kernel_rfl) ?_
    refine wk_id ?_
    refine cond_sx h (by kernel_rfl) (fun g2210 h => ?_) (fun g2210 h => ?_)
    · refine seq_np ?_
      refine reg_f ?_
      refine rs 6 [] [] (by kernel_rfl) allP_nil ?_
      refine rf [(2, .ptr 1 0), (3, .v (.slice none 0 0)), (4, bS true), (5, .ptr 2 0)] [(0, .row 25 (Enc.cells d)), (1, .row 25 (Enc.cells d)), (2, .row 27 [iS 0, iS 0]), (3, .row 27 (Enc.cells r2067))] 4 (by kernel_rfl) ?_
      refine wk_id ?_
      obtain rfl := Option.some.inj h
      refine ret_at (.tup [.agg (Enc.cells d), .v (.slice none 0 0), bS true, .agg [iS 0, iS 0]]) (by kernel_rfl) ?_
      exact ret_e [] [] (by simp only [push_cast, seval]) (by simp only [push_cast, seval]) rfl rfl rfl
    · refine wk_id ?_
      refine seq_np ?_
      refine reg_f ?_
      refine rs 1 [] [] (by kernel_rfl) allP_nil ?_
      refine rf [(1, .ptr 0 0), (2, .ptr 1 0), (5, .ptr 2 0), (7, .v (.slice none 0 0))] [(0, .row 25 (Enc.cells d)), (1, .row 25 [bS false, bS false, bS false, iS 0, iS 0, iS 0, iS 0]), (2, .row 27 [iS 0, iS 0]), (3, .row 27 (Enc.cells r2067))] 4 (by kernel_rfl) ?_
      refine wk_id ?_
      refine seq_np ?_
      refine seq_np ?_
      refine reg_f ?_
      refine rs 3 [] [] (by kernel_rfl) allP_nil ?_
      refine rf [(2, .ptr 1 0), (5, .ptr 2 0), (7, .v (.slice none 0 0)), (22, .agg [iS d.Task_e0, iS d.Task_e1]), (23, iS 0)] [(0, .row 25 (Enc.cells d)), (1, .row 25 [bS false, bS false, bS false, iS 0, iS 0, iS 0, iS 0]), (2, .row 27 [iS 0, iS 0]), (3, .row 27 (Enc.cells r2067))] 4 (by kernel_rfl) ?_
      refine wk_id ?_
      refine block_np ?_
      refine loop_sx (S := Int × (List Int)) (fun a => ([(2, .ptr 0 0), (5, .ptr 1 0), (7, .own 2 0 a.2.length), (22, .agg [iS d.Task_e0, iS d.Task_e1]), (23, iS a.1)], [(0, .row 25 [bS false, bS false, bS false, iS 0, iS 0, iS 0, iS 0]), (1, .row 27 [iS 0, iS 0]), (2, .row 3 (fl a.2))], 3)) h (leSt_m [(0, 1), (1, 2)] [] (by simp only [push_cast, seval]) (by simp only [push_cast, seval]) rfl rfl rfl) ?_
      rintro ⟨t23q14, c2q18⟩ o2 R2 h hr2 hn2 hx2 ht2
      try dsimp only at h hn2 ⊢
      unfold poll_Close_l1 at h
      try dsimp only at h
      refine seq_np ?_
      refine reg_f ?_
      refine rs 1 [] [] (by kernel_rfl) allP_nil ?_
      refine rf [(2, .ptr 0 0), (5, .ptr 1 0), (7, .own 2 0 c2q18.length), (22, .agg [iS d.Task_e0, iS d.Task_e1]), (23, iS t23q14), (24, bS (decide (t23q14 < 2)))] [(0, .row 25 [bS false, bS false, bS false, iS 0, iS 0, iS 0, iS 0]), (1, .row 27 [iS 0, iS 0]), (2, .row 3 (fl c2q18))] 3 (by kernel_rfl) ?_
      refine wk_id ?_
      refine seq_np ?_
      refine cond_sx h (by kernel_rfl) (fun g2209 h => ?_) (fun g2209 h => ?_)
      · refine wk_id ?_
        refine seq_np ?_
        refine block_cut (A := Int × (List Int)) (fun a => ([(2, .ptr 0 0), (5, .ptr 1 0), (7, .own 2 0 a.2.length), (22, .agg [iS d.Task_e0, iS d.Task_e1]), (23, iS a.1)], [(0, .row 25 [bS false, bS false, bS false, iS 0, iS 0, iS 0, iS 0]), (1, .row 27 [iS 0, iS 0]), (2, .row 3 (fl a.2))], 3)) (fun a => (poll_Close_j1 d a.1 a.2) = some o2) (fun K2190 hK2190 => ?_) ?_
        · refine split_s h (fun g2191 h => ?_) (fun g2192 h => ?_)
          · refine seq_np ?_
            refine reg_f ?_
            refine run_at 23 .i64 t23q14 0 g2191 (by kernel_rfl) ?_
            refine rs 2 [] [] (by kernel_rfl) allP_nil ?_
            refine rf [(2, .ptr 0 0), (5, .ptr 1 0), (7, .own 2 0 c2q18.length), (9, iS d.Task_e0), (22, .agg [iS d.Task_e0, iS d.Task_e1]), (23, iS 0)] [(0, .row 25 [bS false, bS false, bS false, iS 0, iS 0, iS 0, iS 0]), (1, .row 27 [iS 0, iS 0]), (2, .row 3 (fl c2q18))] 3 (by kernel_rfl) ?_
            refine wk_id ?_
            refine seq_np ?_
            refine reg_f ?_
            refine rs 2 [] [] (by kernel_rfl) allP_nil ?_
            refine rf [(2, .ptr 0 0), (5, .ptr 1 0), (7, .own 2 0 c2q18.length), (9, iS d.Task_e0), (22, .agg [iS d.Task_e0, iS d.Task_e1]), (23, iS 0), (27, bS (decide ((0 : Int) < d.Task_e0)))] [(0, .row 25 [bS false, bS false, bS false, iS 0, iS 0, iS 0, iS 0]), (1, .row 27 [iS 0, iS 0]), (2, .row 3 (fl c2q18))] 3 (by kernel_rfl) ?_
            refine wk_id ?_
            refine cond_sx h (by kernel_rfl) (fun g2197 h => ?_) (fun g2197 h => ?_)
            · refine chk_sx h (fun g2196 h => ?_)
              refine reg_f ?_
              have k2195 : (c2q18 ++ ([d.Task_e0] : List Int)).length * 8 ≤ 140737488355328 := by first | simpa only [Bool.and_eq_true, decide_eq_true_eq, bne_iff_ne, ne_eq] using g2196 | (simp at g2196 ⊢; omega)
              refine rs 5 [none, none, none, some ⟨.own 4 0 (c2q18 ++ ([d.Task_e0] : List Int)).length, [(4, .row 3 (fl (c2q18 ++ ([d.Task_e0] : List Int)))), (2, .dead)], 5, [2, 3]⟩] _ (by kernel_rfl) (allP_cons (ob_app (P := Try.prog) c2q18 ([d.Task_e0] : List Int) 1 8 rfl (appCells (fl ([d.Task_e0] : List Int)) 0 (([d.Task_e0] : List Int).length * 1)) ([d.Task_e0] : List Int).length (app_own ([d.Task_e0] : List Int) 1 rfl) rfl (0 + ([d.Task_e0] : List Int).length * 1 ≤ (fl ([d.Task_e0] : List Int)).length) (app_own_le ([d.Task_e0] : List Int) 1 rfl) 3 (by kernel_rfl) (by decide) k2195 2 4 [3]) allP_nil) ?_
              refine rf [(2, .ptr 0 0), (5, .ptr 1 0), (7, .own 4 0 (c2q18 ++ ([d.Task_e0] : List Int)).length), (22, .agg [iS d.Task_e0, iS d.Task_e1]), (23, iS 0)] [(0, .row 25 [bS false, bS false, bS false, iS 0, iS 0, iS 0, iS 0]), (1, .row 27 [iS 0, iS 0]), (2, .dead), (3, .row 3 (fl ([d.Task_e0] : List Int))), (4, .row 3 (fl (c2q18 ++ ([d.Task_e0] : List Int))))] 5 (by kernel_rfl) ?_
              exact hK2190 (0, (c2q18 ++ ([d.Task_e0] : List Int))) _ _ _ h (leSt_m [(0, 0), (1, 1), (2, 4)] [] (by simp only [push_cast, seval]) (by simp only [push_cast, seval]) rfl rfl rfl)
            · exact hK2190 (0, c2q18) _ _ _ h (leSt_m [(0, 0), (1, 1), (2, 2)] [] (by simp only [push_cast, seval]) (by simp only [push_cast, seval]) rfl rfl rfl)
          refine split_s h (fun g2198 h => ?_) (fun g2199 h => ?_)
          · refine seq_np ?_
            refine reg_f ?_
            refine run_at 23 .i64 t23q14 1 g2198 (by kernel_rfl) ?_
            refine rs 2 [] [] (by kernel_rfl) allP_nil ?_
            refine rf [(2, .ptr 0 0), (5, .ptr 1 0), (7, .own 2 0 c2q18.length), (9, iS d.Task_e1), (22, .agg [iS d.Task_e0, iS d.Task_e1]), (23, iS 1)] [(0, .row 25 [bS false, bS false, bS false, iS 0, iS 0, iS 0, iS 0]), (1, .row 27 [iS 0, iS 0]), (2, .row 3 (fl c2q18))] 3 (by kernel_rfl) ?_
            refine wk_id ?_
            refine seq_np ?_
            refine reg_f ?_
            refine rs 2 [] [] (by kernel_rfl) allP_nil ?_
            refine rf [(2, .ptr 0 0), (5, .ptr 1 0), (7, .own 2 0 c2q18.length), (9, iS d.Task_e1), (22, .agg [iS d.Task_e0, iS d.Task_e1]), (23, iS 1), (27, bS (decide ((0 : Int) < d.Task_e1)))] [(0, .row 25 [bS false, bS false, bS false, iS 0, iS 0, iS 0, iS 0]), (1, .row 27 [iS 0, iS 0]), (2, .row 3 (fl c2q18))] 3 (by kernel_rfl) ?_
            refine wk_id ?_
            refine cond_sx h (by kernel_rfl) (fun g2204 h => ?_) (fun g2204 h => ?_)
            · refine chk_sx h (fun g2203 h => ?_)
              refine reg_f ?_
              have k2202 : (c2q18 ++ ([d.Task_e1] : List Int)).length * 8 ≤ 140737488355328 := by first | simpa only [Bool.and_eq_true, decide_eq_true_eq, bne_iff_ne, ne_eq] using g2203 | (simp at g2203 ⊢; omega)
              refine rs 5 [none, none, none, some ⟨.own 4 0 (c2q18 ++ ([d.Task_e1] : List Int)).length, [(4, .row 3 (fl (c2q18 ++ ([d.Task_e1] : List Int)))), (2, .dead)], 5, [2, 3]⟩] _ (by kernel_rfl) (allP_cons (ob_app (P := Try.prog) c2q18 ([d.Task_e1] : List Int) 1 8 rfl (appCells (fl ([d.Task_e1] : List Int)) 0 (([d.Task_e1] : List Int).length * 1)) ([d.Task_e1] : List Int).length (app_own ([d.Task_e1] : List Int) 1 rfl) rfl (0 + ([d.Task_e1] : List Int).length * 1 ≤ (fl ([d.Task_e1] : List Int)).length) (app_own_le ([d.Task_e1] : List Int) 1 rfl) 3 (by kernel_rfl) (by decide) k2202 2 4 [3]) allP_nil) ?_
              refine rf [(2, .ptr 0 0), (5, .ptr 1 0), (7, .own 4 0 (c2q18 ++ ([d.Task_e1] : List Int)).length), (22, .agg [iS d.Task_e0, iS d.Task_e1]), (23, iS 1)] [(0, .row 25 [bS false, bS false, bS false, iS 0, iS 0, iS 0, iS 0]), (1, .row 27 [iS 0, iS 0]), (2, .dead), (3, .row 3 (fl ([d.Task_e1] : List Int))), (4, .row 3 (fl (c2q18 ++ ([d.Task_e1] : List Int))))] 5 (by kernel_rfl) ?_
              exact hK2190 (1, (c2q18 ++ ([d.Task_e1] : List Int))) _ _ _ h (leSt_m [(0, 0), (1, 1), (2, 4)] [] (by simp only [push_cast, seval]) (by simp only [push_cast, seval]) rfl rfl rfl)
            · exact hK2190 (1, c2q18) _ _ _ h (leSt_m [(0, 0), (1, 1), (2, 2)] [] (by simp only [push_cast, seval]) (by simp only [push_cast, seval]) rfl rfl rfl)
          refine chk_sx h (fun g2208 h => ?_)
          refine seq_np ?_
          refine reg_f ?_
          have k2207 : 0 ≤ t23q14 ∧ t23q14 < 2 := by first | simpa only [Bool.and_eq_true, decide_eq_true_eq, bne_iff_ne, ne_eq] using g2208 | (simp at g2208 ⊢; omega)
          exfalso
          omega
        · rintro ⟨t23q16, c2q20⟩ h
          try dsimp only at h ⊢
          unfold poll_Close_j1 at h
          refine wk_id ?_
          refine reg_f ?_
          refine rs 2 [] [] (by kernel_rfl) allP_nil ?_
          refine rf [(2, .ptr 0 0), (5, .ptr 1 0), (7, .own 2 0 c2q20.length), (22, .agg [iS d.Task_e0, iS d.Task_e1]), (23, iS (IntKind.i64.wrap (t23q16 + 1)))] [(0, .row 25 [bS false, bS false, bS false, iS 0, iS 0, iS 0, iS 0]), (1, .row 27 [iS 0, iS 0]), (2, .row 3 (fl c2q20))] 3 (by kernel_rfl) ?_
          exact hn2 ((IntKind.i64.wrap (t23q16 + 1)), c2q20) _ _ _ (Option.some.inj h).symm (leSt_m [(0, 0), (1, 1), (2, 2)] [] (by simp only [push_cast, seval]) (by simp only [push_cast, seval]) rfl rfl rfl)
      · change R2 (.exit 0) _ _ _
        refine ex_cast hx2 (id := 0) ?_
        obtain ⟨r0, h, e0⟩ := map_sx h
        have e1 := hr2 r0 e0.symm
        subst r0
        refine wk_id ?_
        refine wk_id ?_
        refine seq_np ?_
        refine reg_f ?_
        refine rs 7 [] [] (by kernel_rfl) allP_nil ?_
        refine rf [(2, .ptr 0 0), (3, .own 2 0 c2q18.length), (4, bS false), (5, .ptr 1 0)] [(0, .row 25 [bS true, bS false, bS false, iS 0, iS 0, iS 0, iS 0]), (1, .row 27 [iS 0, iS 0]), (2, .row 3 (fl c2q18))] 3 (by kernel_rfl) ?_
        refine wk_id ?_
        obtain rfl := Option.some.inj h
        refine ret_at (.tup [.agg [bS true, bS false, bS false, iS 0, iS 0, iS 0, iS 0], .own 2 0 c2q18.length, bS false, .agg [iS 0, iS 0]]) (by kernel_rfl) ?_
        exact ret_e [(0, 2)] [] (by simp only [push_cast, seval]) (by simp only [push_cast, seval]) rfl rfl rfl

set_option maxRecDepth 100000 in
set_option maxHeartbeats 10000000 in
theorem taskmillref_Ints_spec (xa : (List Int)) (b : (List Int)) (r : Bool) (h : taskmillref_Ints xa b = some r) : SpecW Try.prog 17 [.sl xa.length (fl xa), .sl b.length (fl b)] [] 0 (fun x h n => x = bS r ∧ h = [] ∧ n = 0) := by
  unfold taskmillref_Ints at h
  refine spec_of (draw_ok _) Try.func17 rfl (by decide) rfl (by kernel_rfl) ?_
  refine seq_np ?_
  refine reg_f ?_
  refine rs 1 [] [] (by kernel_rfl) allP_nil ?_
  refine rf [(0, .sl xa.length (fl xa)), (1, .sl b.length (fl b))] [] 0 (by kernel_rfl) ?_
  refine wk_id ?_
  refine seq_np ?_
  refine seq_np ?_
  refine reg_f ?_
  refine rs 5 [] [] (by kernel_rfl) allP_nil ?_
  refine rf [(0, .sl xa.length (fl xa)), (1, .sl b.length (fl b)), (10, bS (((xa.length : Nat) : Int) != ((b.length : Nat) : Int)))] [] 0 (by kernel_rfl) ?_
  refine wk_id ?_
  refine cond_sx h (by kernel_rfl) (fun g2485 h => ?_) (fun g2485 h => ?_)
  · refine seq_np ?_
    refine reg_f ?_
    refine rs 1 [] [] (by kernel_rfl) allP_nil ?_
    refine rf [(4, bS false)] [] 0 (by kernel_rfl) ?_
    refine wk_id ?_
    obtain rfl := Option.some.inj h
    refine ret_at (bS false) (by kernel_rfl) ?_
    exact ret_e [] [] (by simp only [push_cast, seval]) (by simp only [push_cast, seval]) rfl rfl rfl
  · refine wk_id ?_
    refine seq_np ?_
    refine seq_np ?_
    refine reg_f ?_
    refine rs 1 [] [] (by kernel_rfl) allP_nil ?_
    refine rf [(0, .sl xa.length (fl xa)), (1, .sl b.length (fl b)), (5, iS 0)] [] 0 (by kernel_rfl) ?_
    refine wk_id ?_
    refine block_np ?_
    refine loop_sx (S := Int) (fun a => ([(0, .sl xa.length (fl xa)), (1, .sl b.length (fl b)), (5, iS a)], [], 0)) h (leSt_m [] [] (by simp only [push_cast, seval]) (by simp only [push_cast, seval]) rfl rfl rfl) ?_
    rintro i7 o2 R2 h hr2 hn2 hx2 ht2
    try dsimp only at h hn2 ⊢
    unfold taskmillref_Ints_l1 at h
    try dsimp only at h
    refine seq_np ?_
    refine seq_np ?_
    refine reg_f ?_
    refine rs 4 [] [] (by kernel_rfl) allP_nil ?_
    refine rf [(0, .sl xa.length (fl xa)), (1, .sl b.length (fl b)), (5, iS i7), (14, bS (decide (i7 < ((xa.length : Nat) : Int))))] [] 0 (by kernel_rfl) ?_
    refine wk_id ?_
    refine cond_sx h (by kernel_rfl) (fun g2484 h => ?_) (fun g2484 h => ?_)
    · refine wk_id ?_
      refine seq_np ?_
      refine block_np ?_
      refine chk_sx h (fun g2480 h => ?_)
      refine chk_sx h (fun g2482 h => ?_)
      refine seq_np ?_
      refine reg_t ?_
      have k2479 : 0 ≤ i7 ∧ i7 < ((xa.length : Nat) : Int) := by first | simpa only [Bool.and_eq_true, decide_eq_true_eq, bne_iff_ne, ne_eq] using g2480 | (simp at g2480 ⊢; omega)
      have k2481 : 0 ≤ i7 ∧ i7 < ((b.length : Nat) : Int) := by first | simpa only [Bool.and_eq_true, decide_eq_true_eq, bne_iff_ne, ne_eq] using g2482 | (simp at g2482 ⊢; omega)
      refine rs 9 [none, none, some ⟨.iptr (fl xa) ((i7).toNat * 1), [], 2, []⟩, some ⟨iS (ix xa i7), [], 3, []⟩, none, none, some ⟨.iptr (fl b) ((i7).toNat * 1), [], 6, []⟩, some ⟨iS (ix b i7), [], 7, []⟩] _ (by kernel_rfl) (allP_cons (ob_ld b i7 1 0 ((i7).toNat * 1) k2481 rfl (by decide) (by first | rfl | omega) (dflS Try.prog 3) (iS (ix b i7)) rfl 7 []) (allP_cons (ob_ix_l b 1 6 i7 k2481) (allP_cons (ob_ld xa i7 1 0 ((i7).toNat * 1) k2479 rfl (by decide) (by first | rfl | omega) (dflS Try.prog 3) (iS (ix xa i7)) rfl 3 []) (allP_cons (ob_ix_l xa 1 2 i7 k2479) allP_nil)))) ?_
      refine rt [(0, .sl xa.length (fl xa)), (1, .sl b.length (fl b)), (5, iS i7), (25, bS ((ix xa i7) != (ix b i7)))] [] 9 follows (by kernel_rfl) ?_
      refine wk_id ?_
      refine cond_sx h (by kernel_rfl) (fun g2483 h => ?_) (fun g2483 h => ?_)
      · refine seq_np ?_
        refine reg_f ?_
        refine rs 1 [] [] (by kernel_rfl) allP_nil ?_
        refine rf [(4, bS false)] [] 9 (by kernel_rfl) ?_
        refine wk_id ?_
        refine rt_cast ht2 ?_
        obtain ⟨r0, h, e0⟩ := map_sx h
        have e1 := hr2 r0 e0.symm
        subst r0
        obtain rfl := Option.some.inj h
        refine ret_at (bS false) (by kernel_rfl) ?_
        exact ret_e [] [] (by simp only [push_cast, seval]) (by simp only [push_cast, seval]) rfl rfl rfl
      · refine wk_id ?_
        refine wk_id ?_
        refine reg_f ?_
        refine rs 3 [] [] (by kernel_rfl) allP_nil ?_
        refine rf [(0, .sl xa.length (fl xa)), (1, .sl b.length (fl b)), (5, iS (IntKind.i64.wrap (i7 + 1)))] [] 9 (by kernel_rfl) ?_
        exact hn2 ((IntKind.i64.wrap (i7 + 1))) _ _ _ (Option.some.inj h).symm (leSt_m [] [] (by simp only [push_cast, seval]) (by simp only [push_cast, seval]) rfl rfl rfl)
    · change R2 (.exit 0) _ _ _
      refine ex_cast hx2 (id := 0) ?_
      obtain ⟨r0, h, e0⟩ := map_sx h
      have e1 := hr2 r0 e0.symm
      subst r0
      refine wk_id ?_
      refine wk_id ?_
      refine seq_np ?_
      refine reg_f ?_
      refine rs 1 [] [] (by kernel_rfl) allP_nil ?_
      refine rf [(4, bS true)] [] 0 (by kernel_rfl) ?_
      refine wk_id ?_
      obtain rfl := Option.some.inj h
      refine ret_at (bS true) (by kernel_rfl) ?_
      exact ret_e [] [] (by simp only [push_cast, seval]) (by simp only [push_cast, seval]) rfl rfl rfl

set_option maxRecDepth 100000 in
set_option maxHeartbeats 10000000 in
theorem taskmilllaw_PollTimes_spec (d : Desc) (way : Int) (when : Int) (now : Int) (r : Bool) (h : taskmilllaw_PollTimes d way when now = some r) : SpecW Try.prog 4 [.agg (Enc.cells d), iS way, iS when, iS now] [] 0 (fun x h n => x = bS r ∧ h = [] ∧ n = 0) := by
  unfold taskmilllaw_PollTimes at h
  refine spec_of (draw_ok _) Try.func4 rfl (by decide) rfl (by kernel_rfl) ?_
  refine seq_np ?_
  refine reg_f ?_
  refine rs 2 [] [] (by kernel_rfl) allP_nil ?_
  refine rf [(1, iS way), (2, iS when), (3, iS now), (4, .ptr 0 0)] [(0, .row 25 (Enc.cells d))] 1 (by kernel_rfl) ?_
  refine wk_id ?_
  refine seq_np ?_
  refine reg_f ?_
  refine rs 4 [] [] (by kernel_rfl) allP_nil ?_
  obtain ⟨r2541, hr2541, h⟩ := bind_sx h
  refine run_call 14 [.agg (Enc.cells d), iS way, iS when, iS now] (some 33) (by kernel_rfl) ?_
  refine call_0 (poll_Until_spec d way when now r2541 hr2541) (by simp only [push_cast, seval]) (by simp only [push_cast, seval]) ?_
  refine back_f ?_
  refine rs 9 [] [] (by kernel_rfl) allP_nil ?_
  refine rf [(1, iS way), (2, iS when), (3, iS now), (4, .ptr 0 0), (9, .ptr 1 0), (10, iS r2541.2.1), (11, .ptr 2 0)] [(0, .row 25 (Enc.cells d)), (1, .row 25 (Enc.cells r2541.1)), (2, .row 27 (Enc.cells r2541.2.2))] 3 (by kernel_rfl) ?_
  refine wk_id ?_
  refine seq_np ?_
  refine reg_f ?_
  refine rs 2 [] [] (by kernel_rfl) allP_nil ?_
  obtain ⟨r2543, hr2543, h⟩ := bind_sx h
  refine call_x (poll_Tick_spec d now r2543 hr2543) (args := [.agg (Enc.cells d), iS now]) (dst := (some 40)) (by kernel_rfl) [(0, .row 25 (Enc.cells d)), (1, .row 25 (Enc.cells r2541.1)), (2, .row 27 (Enc.cells r2541.2.2))] 3 (by kernel_rfl) [] [] (.tup [.agg (Enc.cells r2543.1), .own 3 0 r2543.2.2.length, .agg (Enc.cells r2543.2.1)]) [(3, .row 3 (fl r2543.2.2))] (by simp only [push_cast, seval]) (by simp only [push_cast, seval]) (by kernel_rfl) (.inl rfl) (by simp only [push_cast, seval]) (by simp only [push_cast, seval]) ?_
  refine rs 9 [] [] (by kernel_rfl) allP_nil ?_
  refine rf [(1, iS way), (2, iS when), (3, iS now), (4, .ptr 0 0), (9, .ptr 1 0), (10, iS r2541.2.1), (11, .ptr 2 0), (12, .ptr 4 0), (13, .own 3 0 r2543.2.2.length), (14, .ptr 5 0)] [(0, .row 25 (Enc.cells d)), (1, .row 25 (Enc.cells r2541.1)), (2, .row 27 (Enc.cells r2541.2.2)), (3, .row 3 (fl r2543.2.2)), (4, .row 25 (Enc.cells r2543.1)), (5, .row 27 (Enc.cells r2543.2.1))] 6 (by kernel_rfl) ?_
  refine wk_id ?_
  refine seq_np ?_
  refine reg_f ?_
  refine rs 1 [] [] (by kernel_rfl) allP_nil ?_
  obtain ⟨r2545, hr2545, h⟩ := bind_sx h
  refine call_x (poll_Close_spec d r2545 hr2545) (args := [.agg (Enc.cells d)]) (dst := (some 46)) (by kernel_rfl) [(0, .row 25 (Enc.cells d)), (1, .row 25 (Enc.cells r2541.1)), (2, .row 27 (Enc.cells r2541.2.2)), (3, .row 3 (fl r2543.2.2)), (4, .row 25 (Enc.cells r2543.1)), (5, .row 27 (Enc.cells r2543.2.1))] 6 (by kernel_rfl) [] [] (.tup [.agg (Enc.cells r2545.1), .own 6 0 r2545.2.2.2.length, bS r2545.2.1, .agg (Enc.cells r2545.2.2.1)]) [(6, .row 3 (fl r2545.2.2.2))] (by simp only [push_cast, seval]) (by simp only [push_cast, seval]) (by kernel_rfl) (.inl rfl) (by simp only [push_cast, seval]) (by simp only [push_cast, seval]) ?_
  refine rs 11 [] [] (by kernel_rfl) allP_nil ?_
  refine rf [(1, iS way), (2, iS when), (3, iS now), (4, .ptr 0 0), (9, .ptr 1 0), (10, iS r2541.2.1), (11, .ptr 2 0), (12, .ptr 4 0), (13, .own 3 0 r2543.2.2.length), (14, .ptr 5 0), (15, .ptr 7 0), (16, .own 6 0 r2545.2.2.2.length), (17, bS r2545.2.1), (18, .ptr 8 0)] [(0, .row 25 (Enc.cells d)), (1, .row 25 (Enc.cells r2541.1)), (2, .row 27 (Enc.cells r2541.2.2)), (3, .row 3 (fl r2543.2.2)), (4, .row 25 (Enc.cells r2543.1)), (5, .row 27 (Enc.cells r2543.2.1)), (6, .row 3 (fl r2545.2.2.2)), (7, .row 25 (Enc.cells r2545.1)), (8, .row 27 (Enc.cells r2545.2.2.1))] 9 (by kernel_rfl) ?_
  refine wk_id ?_
  refine seq_np ?_
  refine seq_np ?_
  refine reg_f ?_
  obtain ⟨r2549, hr2549, h⟩ := bind_sx h
  refine run_call 9 [] (some 51) (by kernel_rfl) ?_
  refine call_0 (taskmilllaw_pollBegun_spec r2549 hr2549) (by simp only [push_cast, seval]) (by simp only [push_cast, seval]) ?_
  refine back_f ?_
  refine rs 1 [] [] (by kernel_rfl) allP_nil ?_
  refine rf [(1, iS way), (2, iS when), (3, iS now), (4, .ptr 0 0), (9, .ptr 1 0), (10, iS r2541.2.1), (11, .ptr 2 0), (12, .ptr 4 0), (13, .own 3 0 r2543.2.2.length), (14, .ptr 5 0), (15, .ptr 7 0), (16, .own 6 0 r2545.2.2.2.length), (17, bS r2545.2.1), (18, .ptr 8 0), (52, bS (!r2549))] [(0, .row 25 (Enc.cells d)), (1, .row 25 (Enc.cells r2541.1)), (2, .row 27 (Enc.cells r2541.2.2)), (3, .row 3 (fl r2543.2.2)), (4, .row 25 (Enc.cells r2543.1)), (5, .row 27 (Enc.cells r2543.2.1)), (6, .row 3 (fl r2545.2.2.2)), (7, .row 25 (Enc.cells r2545.1)), (8, .row 27 (Enc.cells r2545.2.2.1))] 9 (by kernel_rfl) ?_
  refine wk_id ?_
  refine cond_sx h (by kernel_rfl) (fun g3455 h => ?_) (fun g3455 h => ?_)
  · refine seq_np ?_
    refine reg_f ?_
    refine rs 1 [] [] (by kernel_rfl) allP_nil ?_
    refine rf [(8, bS false)] [(0, .row 25 (Enc.cells d)), (1, .row 25 (Enc.cells r2541.1)), (2, .row 27 (Enc.cells r2541.2.2)), (3, .row 3 (fl r2543.2.2)), (4, .row 25 (Enc.cells r2543.1)), (5, .row 27 (Enc.cells r2543.2.1)), (6, .row 3 (fl r2545.2.2.2)), (7, .row 25 (Enc.cells r2545.1)), (8, .row 27 (Enc.cells r2545.2.2.1))] 9 (by kernel_rfl) ?_
    refine wk_id ?_
    obtain rfl := Option.some.inj h
    refine ret_at (bS false) (by kernel_rfl) ?_
    exact ret_e [] [] (by simp only [push_cast, seval]) (by simp only [push_cast, seval]) rfl rfl rfl
  · refine wk_id ?_
    refine seq_np ?_
    refine reg_f ?_
    refine rs 2 [] [] (by kernel_rfl) allP_nil ?_
    obtain ⟨r2551, hr2551, h⟩ := bind_sx h
    refine run_call 11 [.agg (Enc.cells d), iS way] (some 55) (by kernel_rfl) ?_
    refine call_0 (taskmilllaw_wayFault_spec d way r2551 hr2551) (by simp only [push_cast, seval]) (by simp only [push_cast, seval]) ?_
    refine back_f ?_
    refine rs 2 [] [] (by kernel_rfl) allP_nil ?_
    refine rf [(1, iS way), (2, iS when), (3, iS now), (4, .ptr 0 0), (9, .ptr 1 0), (10, iS r2541.2.1), (11, .ptr 2 0), (12, .ptr 4 0), (13, .own 3 0 r2543.2.2.length), (14, .ptr 5 0), (15, .ptr 7 0), (16, .own 6 0 r2545.2.2.2.length), (17, bS r2545.2.1), (18, .ptr 8 0), (19, .ptr 9 0)] [(0, .row 25 (Enc.cells d)), (1, .row 25 (Enc.cells r2541.1)), (2, .row 27 (Enc.cells r2541.2.2)), (3, .row 3 (fl r2543.2.2)), (4, .row 25 (Enc.cells r2543.1)), (5, .row 27 (Enc.cells r2543.2.1)), (6, .row 3 (fl r2545.2.2.2)), (7, .row 25 (Enc.cells r2545.1)), (8, .row 27 (Enc.cells r2545.2.2.1)), (9, .row 27 (Enc.cells r2551))] 10 (by kernel_rfl) ?_
    refine wk_id ?_
    refine seq_cut (A := Int × Bool × Desc × Fault × Desc × (List Int) × Fault × Desc × (List Int) × Fault × Fault) (fun a => ([(1, iS way), (2, iS when), (3, iS now), (4, .ptr 0 0), (9, .ptr 1 0), (10, iS a.1), (11, .ptr 2 0), (12, .ptr 3 0), (13, .own 4 0 a.2.2.2.2.2.1.length), (14, .ptr 5 0), (15, .ptr 6 0), (16, .own 7 0 a.2.2.2.2.2.2.2.2.1.length), (17, bS a.2.1), (18, .ptr 8 0), (19, .ptr 9 0)], [(0, .row 25 (Enc.cells d)), (1, .row 25 (Enc.cells a.2.2.1)), (2, .row 27 (Enc.cells a.2.2.2.1)), (3, .row 25 (Enc.cells a.2.2.2.2.1)), (4, .row 3 (fl a.2.2.2.2.2.1)), (5, .row 27 (Enc.cells a.2.2.2.2.2.2.1)), (6, .row 25 (Enc.cells a.2.2.2.2.2.2.2.1)), (7, .row 3 (fl a.2.2.2.2.2.2.2.2.1)), (8, .row 27 (Enc.cells a.2.2.2.2.2.2.2.2.2.1)), (9, .row 27 (Enc.cells a.2.2.2.2.2.2.2.2.2.2))], 10)) (fun a => (taskmilllaw_PollTimes_j13 d way when now a.1 a.2.1 a.2.2.1 a.2.2.2.1 a.2.2.2.2.1 a.2.2.2.2.2.1 a.2.2.2.2.2.2.1 a.2.2.2.2.2.2.2.1 a.2.2.2.2.2.2.2.2.1 a.2.2.2.2.2.2.2.2.2.1 a.2.2.2.2.2.2.2.2.2.2) = some r) (fun K2559 hK2559 => ?_) ?_
    · refine seq_cut (A := Unit) (fun _ => ([(1, iS way), (2, iS when), (3, iS now), (4, .ptr 0 0), (9, .ptr 1 0), (10, iS r2541.2.1), (11, .ptr 2 0), (12, .ptr 4 0), (13, .own 3 0 r2543.2.2.length), (14, .ptr 5 0), (15, .ptr 7 0), (16, .own 6 0 r2545.2.2.2.length), (17, bS r2545.2.1), (18, .ptr 8 0), (19, .ptr 9 0), (74, bS ((r2551.Code == 0) && ((decide (when < 0)) || ((decide ((1000000000 : Int) < when)) || ((decide (now < 0)) || (decide ((1000000000 : Int) < now)))))))], [(0, .row 25 (Enc.cells d)), (1, .row 25 (Enc.cells r2541.1)), (2, .row 27 (Enc.cells r2541.2.2)), (3, .row 3 (fl r2543.2.2)), (4, .row 25 (Enc.cells r2543.1)), (5, .row 27 (Enc.cells r2543.2.1)), (6, .row 3 (fl r2545.2.2.2)), (7, .row 25 (Enc.cells r2545.1)), (8, .row 27 (Enc.cells r2545.2.2.1)), (9, .row 27 (Enc.cells r2551))], 10)) (fun _ => True) (fun K2564 hK2564 => ?_) (fun _ _ => ?_)
      · refine reg_f ?_
        refine rs 4 [] [] (by kernel_rfl) allP_nil ?_
        refine run_split 59 (r2551.Code == 0) (.inl (by kernel_rfl)) (fun g2565 => ?_) (fun g2565 => ?_)
        · refine rs 3 [] [] (by kernel_rfl) allP_nil ?_
          refine run_split 62 (decide (when < 0)) (.inr (by kernel_rfl)) (fun g2566 => ?_) (fun g2566 => ?_)
          · refine rs 12 [] [] (by kernel_rfl) allP_nil ?_
            refine rf [(1, iS way), (2, iS when), (3, iS now), (4, .ptr 0 0), (9, .ptr 1 0), (10, iS r2541.2.1), (11, .ptr 2 0), (12, .ptr 4 0), (13, .own 3 0 r2543.2.2.length), (14, .ptr 5 0), (15, .ptr 7 0), (16, .own 6 0 r2545.2.2.2.length), (17, bS r2545.2.1), (18, .ptr 8 0), (19, .ptr 9 0), (74, bS true)] [(0, .row 25 (Enc.cells d)), (1, .row 25 (Enc.cells r2541.1)), (2, .row 27 (Enc.cells r2541.2.2)), (3, .row 3 (fl r2543.2.2)), (4, .row 25 (Enc.cells r2543.1)), (5, .row 27 (Enc.cells r2543.2.1)), (6, .row 3 (fl r2545.2.2.2)), (7, .row 25 (Enc.cells r2545.1)), (8, .row 27 (Enc.cells r2545.2.2.1)), (9, .row 27 (Enc.cells r2551))] 10 (by kernel_rfl) ?_
            exact hK2564 () _ _ _ trivial (leSt_m [(0, 0), (1, 1), (2, 2), (3, 3), (4, 4), (5, 5), (6, 6), (7, 7), (8, 8), (9, 9)] [] (by first | ((try simp only [g2565, g2566]) <;> simp only [push_cast, seval]; done) | ((try simp only [g2565]); (try simp only [g2566]); simp only [push_cast, seval]; done) | (exfalso; clear h; simp_all; done)) (by first | ((try simp only [g2565, g2566]) <;> simp only [push_cast, seval]; done) | ((try simp only [g2565]); (try simp only [g2566]); simp only [push_cast, seval]; done) | (exfalso; clear h; simp_all; done)) rfl rfl rfl)
          · refine rs 4 [] [] (by kernel_rfl) allP_nil ?_
            refine run_split 66 (decide ((1000000000 : Int) < when)) (.inr (by kernel_rfl)) (fun g2567 => ?_) (fun g2567 => ?_)
            · refine rn 11 [(1, iS way), (2, iS when), (3, iS now), (4, .ptr 0 0), (9, .ptr 1 0), (10, iS r2541.2.1), (11, .ptr 2 0), (12, .ptr 4 0), (13, .own 3 0 r2543.2.2.length), (14, .ptr 5 0), (15, .ptr 7 0), (16, .own 6 0 r2545.2.2.2.length), (17, bS r2545.2.1), (18, .ptr 8 0), (19, .ptr 9 0), (59, bS true), (66, .gd true (bS true))] [(0, .row 25 (Enc.cells d)), (1, .row 25 (Enc.cells r2541.1)), (2, .row 27 (Enc.cells r2541.2.2)), (3, .row 3 (fl r2543.2.2)), (4, .row 25 (Enc.cells r2543.1)), (5, .row 27 (Enc.cells r2543.2.1)), (6, .row 3 (fl r2545.2.2.2)), (7, .row 25 (Enc.cells r2545.1)), (8, .row 27 (Enc.cells r2545.2.2.1)), (9, .row 27 (Enc.cells r2551))] 10 (by kernel_rfl) ?_
              refine rs 8 [] [] (by kernel_rfl) allP_nil ?_
              refine rf [(1, iS way), (2, iS when), (3, iS now), (4, .ptr 0 0), (9, .ptr 1 0), (10, iS r2541.2.1), (11, .ptr 2 0), (12, .ptr 4 0), (13, .own 3 0 r2543.2.2.length), (14, .ptr 5 0), (15, .ptr 7 0), (16, .own 6 0 r2545.2.2.2.length), (17, bS r2545.2.1), (18, .ptr 8 0), (19, .ptr 9 0), (74, bS true)] [(0, .row 25 (Enc.cells d)), (1, .row 25 (Enc.cells r2541.1)), (2, .row 27 (Enc.cells r2541.2.2)), (3, .row 3 (fl r2543.2.2)), (4, .row 25 (Enc.cells r2543.1)), (5, .row 27 (Enc.cells r2543.2.1)), (6, .row 3 (fl r2545.2.2.2)), (7, .row 25 (Enc.cells r2545.1)), (8, .row 27 (Enc.cells r2545.2.2.1)), (9, .row 27 (Enc.cells r2551))] 10 (by kernel_rfl) ?_
              exact hK2564 () _ _ _ trivial (leSt_m [(0, 0), (1, 1), (2, 2), (3, 3), (4, 4), (5, 5), (6, 6), (7, 7), (8, 8), (9, 9)] [] (by first | ((try simp only [g2565, g2566, g2567]) <;> simp only [push_cast, seval]; done) | ((try simp only [g2565]); (try simp only [g2566]); (try simp only [g2567]); simp only [push_cast, seval]; done) | (exfalso; clear h; simp_all; done)) (by first | ((try simp only [g2565, g2566, g2567]) <;> simp only [push_cast, seval]; done) | ((try simp only [g2565]); (try simp only [g2566]); (try simp only [g2567]); simp only [push_cast, seval]; done) | (exfalso; clear h; simp_all; done)) rfl rfl rfl)
            · refine rn 11 [(1, iS way), (2, iS when), (3, iS now), (4, .ptr 0 0), (9, .ptr 1 0), (10, iS r2541.2.1), (11, .ptr 2 0), (12, .ptr 4 0), (13, .own 3 0 r2543.2.2.length), (14, .ptr 5 0), (15, .ptr 7 0), (16, .own 6 0 r2545.2.2.2.length), (17, bS r2545.2.1), (18, .ptr 8 0), (19, .ptr 9 0), (59, bS true), (66, .gd true (bS false))] [(0, .row 25 (Enc.cells d)), (1, .row 25 (Enc.cells r2541.1)), (2, .row 27 (Enc.cells r2541.2.2)), (3, .row 3 (fl r2543.2.2)), (4, .row 25 (Enc.cells r2543.1)), (5, .row 27 (Enc.cells r2543.2.1)), (6, .row 3 (fl r2545.2.2.2)), (7, .row 25 (Enc.cells r2545.1)), (8, .row 27 (Enc.cells r2545.2.2.1)), (9, .row 27 (Enc.cells r2551))] 10 (by kernel_rfl) ?_
              refine rs 4 [] [] (by kernel_rfl) allP_nil ?_
              refine run_split 70 (decide (now < 0)) (.inr (by kernel_rfl)) (fun g2568 => ?_) (fun g2568 => ?_)
              · refine rs 4 [] [] (by kernel_rfl) allP_nil ?_
                refine rf [(1, iS way), (2, iS when), (3, iS now), (4, .ptr 0 0), (9, .ptr 1 0), (10, iS r2541.2.1), (11, .ptr 2 0), (12, .ptr 4 0), (13, .own 3 0 r2543.2.2.length), (14, .ptr 5 0), (15, .ptr 7 0), (16, .own 6 0 r2545.2.2.2.length), (17, bS r2545.2.1), (18, .ptr 8 0), (19, .ptr 9 0), (74, bS true)] [(0, .row 25 (Enc.cells d)), (1, .row 25 (Enc.cells r2541.1)), (2, .row 27 (Enc.cells r2541.2.2)), (3, .row 3 (fl r2543.2.2)), (4, .row 25 (Enc.cells r2543.1)), (5, .row 27 (Enc.cells r2543.2.1)), (6, .row 3 (fl r2545.2.2.2)), (7, .row 25 (Enc.cells r2545.1)), (8, .row 27 (Enc.cells r2545.2.2.1)), (9, .row 27 (Enc.cells r2551))] 10 (by kernel_rfl) ?_
                exact hK2564 () _ _ _ trivial (leSt_m [(0, 0), (1, 1), (2, 2), (3, 3), (4, 4), (5, 5), (6, 6), (7, 7), (8, 8), (9, 9)] [] (by first | ((try simp only [g2565, g2566, g2567, g2568]) <;> simp only [push_cast, seval]; done) | ((try simp only [g2565]); (try simp only [g2566]); (try simp only [g2567]); (try simp only [g2568]); simp only [push_cast, seval]; done) | (exfalso; clear h; simp_all; done)) (by first | ((try simp only [g2565, g2566, g2567, g2568]) <;> simp only [push_cast, seval]; done) | ((try simp only [g2565]); (try simp only [g2566]); (try simp only [g2567]); (try simp only [g2568]); simp only [push_cast, seval]; done) | (exfalso; clear h; simp_all; done)) rfl rfl rfl)
              · refine rs 4 [] [] (by kernel_rfl) allP_nil ?_
                refine rf [(1, iS way), (2, iS when), (3, iS now), (4, .ptr 0 0), (9, .ptr 1 0), (10, iS r2541.2.1), (11, .ptr 2 0), (12, .ptr 4 0), (13, .own 3 0 r2543.2.2.length), (14, .ptr 5 0), (15, .ptr 7 0), (16, .own 6 0 r2545.2.2.2.length), (17, bS r2545.2.1), (18, .ptr 8 0), (19, .ptr 9 0), (74, bS (decide ((1000000000 : Int) < now)))] [(0, .row 25 (Enc.cells d)), (1, .row 25 (Enc.cells r2541.1)), (2, .row 27 (Enc.cells r2541.2.2)), (3, .row 3 (fl r2543.2.2)), (4, .row 25 (Enc.cells r2543.1)), (5, .row 27 (Enc.cells r2543.2.1)), (6, .row 3 (fl r2545.2.2.2)), (7, .row 25 (Enc.cells r2545.1)), (8, .row 27 (Enc.cells r2545.2.2.1)), (9, .row 27 (Enc.cells r2551))] 10 (by kernel_rfl) ?_
                exact hK2564 () _ _ _ trivial (leSt_m [(0, 0), (1, 1), (2, 2), (3, 3), (4, 4), (5, 5), (6, 6), (7, 7), (8, 8), (9, 9)] [] (by first | ((try simp only [g2565, g2566, g2567, g2568]) <;> simp only [push_cast, seval]; done) | ((try simp only [g2565]); (try simp only [g2566]); (try simp only [g2567]); (try simp only [g2568]); simp only [push_cast, seval]; done) | (exfalso; clear h; simp_all; done)) (by first | ((try simp only [g2565, g2566, g2567, g2568]) <;> simp only [push_cast, seval]; done) | ((try simp only [g2565]); (try simp only [g2566]); (try simp only [g2567]); (try simp only [g2568]); simp only [push_cast, seval]; done) | (exfalso; clear h; simp_all; done)) rfl rfl rfl)
        · refine rs 15 [] [] (by kernel_rfl) allP_nil ?_
          refine rf [(1, iS way), (2, iS when), (3, iS now), (4, .ptr 0 0), (9, .ptr 1 0), (10, iS r2541.2.1), (11, .ptr 2 0), (12, .ptr 4 0), (13, .own 3 0 r2543.2.2.length), (14, .ptr 5 0), (15, .ptr 7 0), (16, .own 6 0 r2545.2.2.2.length), (17, bS r2545.2.1), (18, .ptr 8 0), (19, .ptr 9 0), (74, bS false)] [(0, .row 25 (Enc.cells d)), (1, .row 25 (Enc.cells r2541.1)), (2, .row 27 (Enc.cells r2541.2.2)), (3, .row 3 (fl r2543.2.2)), (4, .row 25 (Enc.cells r2543.1)), (5, .row 27 (Enc.cells r2543.2.1)), (6, .row 3 (fl r2545.2.2.2)), (7, .row 25 (Enc.cells r2545.1)), (8, .row 27 (Enc.cells r2545.2.2.1)), (9, .row 27 (Enc.cells r2551))] 10 (by kernel_rfl) ?_
          exact hK2564 () _ _ _ trivial (leSt_m [(0, 0), (1, 1), (2, 2), (3, 3), (4, 4), (5, 5), (6, 6), (7, 7), (8, 8), (9, 9)] [] (by (try simp only [g2565]) <;> simp only [push_cast, seval]) (by (try simp only [g2565]) <;> simp only [push_cast, seval]) rfl rfl rfl)
      · dsimp only
        refine cond_sx h (by kernel_rfl) (fun g2571 h => ?_) (fun g2571 h => ?_)
        · refine reg_f ?_
          obtain ⟨r2570, hr2570, h⟩ := bind_sx h
          refine run_call 12 [iS 3, iS (-1)] (some 75) (by kernel_rfl) ?_
          refine call_0 (taskmillref_F_spec 3 (-1) r2570 hr2570) (by simp only [push_cast, seval]) (by simp only [push_cast, seval]) ?_
          refine back_f ?_
          refine rs 1 [] [] (by kernel_rfl) allP_nil ?_
          refine rf [(1, iS way), (2, iS when), (3, iS now), (4, .ptr 0 0), (9, .ptr 1 0), (10, iS r2541.2.1), (11, .ptr 2 0), (12, .ptr 4 0), (13, .own 3 0 r2543.2.2.length), (14, .ptr 5 0), (15, .ptr 7 0), (16, .own 6 0 r2545.2.2.2.length), (17, bS r2545.2.1), (18, .ptr 8 0), (19, .ptr 9 0)] [(0, .row 25 (Enc.cells d)), (1, .row 25 (Enc.cells r2541.1)), (2, .row 27 (Enc.cells r2541.2.2)), (3, .row 3 (fl r2543.2.2)), (4, .row 25 (Enc.cells r2543.1)), (5, .row 27 (Enc.cells r2543.2.1)), (6, .row 3 (fl r2545.2.2.2)), (7, .row 25 (Enc.cells r2545.1)), (8, .row 27 (Enc.cells r2545.2.2.1)), (9, .row 27 (Enc.cells r2570))] 10 (by kernel_rfl) ?_
          exact hK2559 (r2541.2.1, r2545.2.1, r2541.1, r2541.2.2, r2543.1, r2543.2.2, r2543.2.1, r2545.1, r2545.2.2.2, r2545.2.2.1, r2570) _ _ _ h (leSt_m [(0, 0), (1, 1), (2, 2), (3, 4), (4, 3), (5, 5), (6, 7), (7, 6), (8, 8), (9, 9)] [] (by simp only [push_cast, seval]) (by simp only [push_cast, seval]) rfl rfl rfl)
        · exact hK2559 (r2541.2.1, r2545.2.1, r2541.1, r2541.2.2, r2543.1, r2543.2.2, r2543.2.1, r2545.1, r2545.2.2.2, r2545.2.2.1, r2551) _ _ _ h (leSt_m [(0, 0), (1, 1), (2, 2), (3, 4), (4, 3), (5, 5), (6, 7), (7, 6), (8, 8), (9, 9)] [] (by simp only [push_cast, seval]) (by simp only [push_cast, seval]) rfl rfl rfl)
    · rintro ⟨tq, p1, c1q1, c2q1, c3q6, c4q1, c5q1, c6q6, c7q9, c8q2, c9q2⟩ h
      try dsimp only at h ⊢
      unfold taskmilllaw_PollTimes_j13 at h
      refine seq_cut (A := Fault) (fun a => ([(1, iS way), (2, iS when), (3, iS now), (4, .ptr 0 0), (9, .ptr 1 0), (10, iS tq), (11, .ptr 2 0), (12, .ptr 3 0), (13, .own 4 0 c4q1.length), (14, .ptr 5 0), (15, .ptr 6 0), (16, .own 7 0 c7q9.length), (17, bS p1), (18, .ptr 8 0), (19, .ptr 9 0)], [(0, .row 25 (Enc.cells d)), (1, .row 25 (Enc.cells c1q1)), (2, .row 27 (Enc.cells c2q1)), (3, .row 25 (Enc.cells c3q6)), (4, .row 3 (fl c4q1)), (5, .row 27 (Enc.cells c5q1)), (6, .row 25 (Enc.cells c6q6)), (7, .row 3 (fl c7q9)), (8, .row 27 (Enc.cells c8q2)), (9, .row 27 (Enc.cells a))], 10)) (fun a => (taskmilllaw_PollTimes_j12 d way when now tq p1 c1q1 c2q1 c3q6 c4q1 c5q1 c6q6 c7q9 c8q2 a) = some r) (fun K2576 hK2576 => ?_) ?_
      · refine seq_cut (A := Unit) (fun _ => ([(1, iS way), (2, iS when), (3, iS now), (4, .ptr 0 0), (9, .ptr 1 0), (10, iS tq), (11, .ptr 2 0), (12, .ptr 3 0), (13, .own 4 0 c4q1.length), (14, .ptr 5 0), (15, .ptr 6 0), (16, .own 7 0 c7q9.length), (17, bS p1), (18, .ptr 8 0), (19, .ptr 9 0), (82, bS ((c9q2.Code == 0) && d.Closed))], [(0, .row 25 (Enc.cells d)), (1, .row 25 (Enc.cells c1q1)), (2, .row 27 (Enc.cells c2q1)), (3, .row 25 (Enc.cells c3q6)), (4, .row 3 (fl c4q1)), (5, .row 27 (Enc.cells c5q1)), (6, .row 25 (Enc.cells c6q6)), (7, .row 3 (fl c7q9)), (8, .row 27 (Enc.cells c8q2)), (9, .row 27 (Enc.cells c9q2))], 10)) (fun _ => True) (fun K2578 hK2578 => ?_) (fun _ _ => ?_)
        · refine reg_f ?_
          refine rs 4 [] [] (by kernel_rfl) allP_nil ?_
          refine run_split 79 (c9q2.Code == 0) (.inl (by kernel_rfl)) (fun g2579 => ?_) (fun g2579 => ?_)
          · refine rs 3 [] [] (by kernel_rfl) allP_nil ?_
            refine rf [(1, iS way), (2, iS when), (3, iS now), (4, .ptr 0 0), (9, .ptr 1 0), (10, iS tq), (11, .ptr 2 0), (12, .ptr 3 0), (13, .own 4 0 c4q1.length), (14, .ptr 5 0), (15, .ptr 6 0), (16, .own 7 0 c7q9.length), (17, bS p1), (18, .ptr 8 0), (19, .ptr 9 0), (82, bS d.Closed)] [(0, .row 25 (Enc.cells d)), (1, .row 25 (Enc.cells c1q1)), (2, .row 27 (Enc.cells c2q1)), (3, .row 25 (Enc.cells c3q6)), (4, .row 3 (fl c4q1)), (5, .row 27 (Enc.cells c5q1)), (6, .row 25 (Enc.cells c6q6)), (7, .row 3 (fl c7q9)), (8, .row 27 (Enc.cells c8q2)), (9, .row 27 (Enc.cells c9q2))] 10 (by kernel_rfl) ?_
            exact hK2578 () _ _ _ trivial (leSt_m [(0, 0), (1, 1), (2, 2), (3, 3), (4, 4), (5, 5), (6, 6), (7, 7), (8, 8), (9, 9)] [] (by (try simp only [g2579]) <;> simp only [push_cast, seval]) (by (try simp only [g2579]) <;> simp only [push_cast, seval]) rfl rfl rfl)
          · refine rs 3 [] [] (by kernel_rfl) allP_nil ?_
            refine rf [(1, iS way), (2, iS when), (3, iS now), (4, .ptr 0 0), (9, .ptr 1 0), (10, iS tq), (11, .ptr 2 0), (12, .ptr 3 0), (13, .own 4 0 c4q1.length), (14, .ptr 5 0), (15, .ptr 6 0), (16, .own 7 0 c7q9.length), (17, bS p1), (18, .ptr 8 0), (19, .ptr 9 0), (82, bS false)] [(0, .row 25 (Enc.cells d)), (1, .row 25 (Enc.cells c1q1)), (2, .row 27 (Enc.cells c2q1)), (3, .row 25 (Enc.cells c3q6)), (4, .row 3 (fl c4q1)), (5, .row 27 (Enc.cells c5q1)), (6, .row 25 (Enc.cells c6q6)), (7, .row 3 (fl c7q9)), (8, .row 27 (Enc.cells c8q2)), (9, .row 27 (Enc.cells c9q2))] 10 (by kernel_rfl) ?_
            exact hK2578 () _ _ _ trivial (leSt_m [(0, 0), (1, 1), (2, 2), (3, 3), (4, 4), (5, 5), (6, 6), (7, 7), (8, 8), (9, 9)] [] (by (try simp only [g2579]) <;> simp only [push_cast, seval]) (by (try simp only [g2579]) <;> simp only [push_cast, seval]) rfl rfl rfl)
        · dsimp only
          refine cond_sx h (by kernel_rfl) (fun g2582 h => ?_) (fun g2582 h => ?_)
          · refine reg_f ?_
            obtain ⟨r2581, hr2581, h⟩ := bind_sx h
            refine run_call 12 [iS 11, iS (-1)] (some 83) (by kernel_rfl) ?_
            refine call_0 (taskmillref_F_spec 11 (-1) r2581 hr2581) (by simp only [push_cast, seval]) (by simp only [push_cast, seval]) ?_
            refine back_f ?_
            refine rs 1 [] [] (by kernel_rfl) allP_nil ?_
            refine rf [(1, iS way), (2, iS when), (3, iS now), (4, .ptr 0 0), (9, .ptr 1 0), (10, iS tq), (11, .ptr 2 0), (12, .ptr 3 0), (13, .own 4 0 c4q1.length), (14, .ptr 5 0), (15, .ptr 6 0), (16, .own 7 0 c7q9.length), (17, bS p1), (18, .ptr 8 0), (19, .ptr 9 0)] [(0, .row 25 (Enc.cells d)), (1, .row 25 (Enc.cells c1q1)), (2, .row 27 (Enc.cells c2q1)), (3, .row 25 (Enc.cells c3q6)), (4, .row 3 (fl c4q1)), (5, .row 27 (Enc.cells c5q1)), (6, .row 25 (Enc.cells c6q6)), (7, .row 3 (fl c7q9)), (8, .row 27 (Enc.cells c8q2)), (9, .row 27 (Enc.cells r2581))] 10 (by kernel_rfl) ?_
            exact hK2576 (r2581) _ _ _ h (leSt_m [(0, 0), (1, 1), (2, 2), (3, 3), (4, 4), (5, 5), (6, 6), (7, 7), (8, 8), (9, 9)] [] (by simp only [push_cast, seval]) (by simp only [push_cast, seval]) rfl rfl rfl)
          · exact hK2576 (c9q2) _ _ _ h (leSt_m [(0, 0), (1, 1), (2, 2), (3, 3), (4, 4), (5, 5), (6, 6), (7, 7), (8, 8), (9, 9)] [] (by simp only [push_cast, seval]) (by simp only [push_cast, seval]) rfl rfl rfl)
      · rintro c9q3 h
        try dsimp only at h ⊢
        unfold taskmilllaw_PollTimes_j12 at h
        refine seq_np ?_
        refine seq_np ?_
        refine reg_f ?_
        refine rs 3 [] [] (by kernel_rfl) allP_nil ?_
        refine rf [(1, iS way), (2, iS when), (3, iS now), (4, .ptr 0 0), (9, .ptr 1 0), (10, iS tq), (12, .ptr 3 0), (13, .own 4 0 c4q1.length), (14, .ptr 5 0), (15, .ptr 6 0), (16, .own 7 0 c7q9.length), (17, bS p1), (18, .ptr 8 0), (19, .ptr 9 0), (86, bS (!((c2q1.Code == c9q3.Code) && ((c2q1.At == c9q3.At) && true))))] [(0, .row 25 (Enc.cells d)), (1, .row 25 (Enc.cells c1q1)), (2, .row 27 (Enc.cells c2q1)), (3, .row 25 (Enc.cells c3q6)), (4, .row 3 (fl c4q1)), (5, .row 27 (Enc.cells c5q1)), (6, .row 25 (Enc.cells c6q6)), (7, .row 3 (fl c7q9)), (8, .row 27 (Enc.cells c8q2)), (9, .row 27 (Enc.cells c9q3))] 10 (by kernel_rfl) ?_
        refine wk_id ?_
        refine cond_sx h (by kernel_rfl) (fun g3454 h => ?_) (fun g3454 h => ?_)
        · refine seq_np ?_
          refine reg_f ?_
          refine rs 1 [] [] (by kernel_rfl) allP_nil ?_
          refine rf [(8, bS false)] [(0, .row 25 (Enc.cells d)), (1, .row 25 (Enc.cells c1q1)), (2, .row 27 (Enc.cells c2q1)), (3, .row 25 (Enc.cells c3q6)), (4, .row 3 (fl c4q1)), (5, .row 27 (Enc.cells c5q1)), (6, .row 25 (Enc.cells c6q6)), (7, .row 3 (fl c7q9)), (8, .row 27 (Enc.cells c8q2)), (9, .row 27 (Enc.cells c9q3))] 10 (by kernel_rfl) ?_
          refine wk_id ?_
          obtain rfl := Option.some.inj h
          refine ret_at (bS false) (by kernel_rfl) ?_
          exact ret_e [] [] (by simp only [push_cast, seval]) (by simp only [push_cast, seval]) rfl rfl rfl
        · refine wk_id ?_
          refine seq_cut (A := Unit) (fun a => ([(3, iS now), (4, .ptr 0 0), (12, .ptr 1 0), (13, .own 2 0 c4q1.length), (14, .ptr 3 0), (15, .ptr 4 0), (16, .own 5 0 c7q9.length), (17, bS p1), (18, .ptr 6 0), (19, .ptr 7 0)], [(0, .row 25 (Enc.cells d)), (1, .row 25 (Enc.cells c3q6)), (2, .row 3 (fl c4q1)), (3, .row 27 (Enc.cells c5q1)), (4, .row 25 (Enc.cells c6q6)), (5, .row 3 (fl c7q9)), (6, .row 27 (Enc.cells c8q2)), (7, .row 27 (Enc.cells c9q3))], 8)) (fun a => (taskmilllaw_PollTimes_j9 d now p1 c3q6 c4q1 c5q1 c6q6 c7q9 c8q2 c9q3) = some r) (fun K2606 hK2606 => ?_) ?_
          · refine seq_np ?_
            refine reg_f ?_
            refine rs 3 [] [] (by kernel_rfl) allP_nil ?_
            refine rf [(1, iS way), (2, iS when), (3, iS now), (4, .ptr 0 0), (9, .ptr 1 0), (10, iS tq), (12, .ptr 3 0), (13, .own 4 0 c4q1.length), (14, .ptr 5 0), (15, .ptr 6 0), (16, .own 7 0 c7q9.length), (17, bS p1), (18, .ptr 8 0), (19, .ptr 9 0), (89, bS (c9q3.Code != 0))] [(0, .row 25 (Enc.cells d)), (1, .row 25 (Enc.cells c1q1)), (2, .row 27 (Enc.cells c2q1)), (3, .row 25 (Enc.cells c3q6)), (4, .row 3 (fl c4q1)), (5, .row 27 (Enc.cells c5q1)), (6, .row 25 (Enc.cells c6q6)), (7, .row 3 (fl c7q9)), (8, .row 27 (Enc.cells c8q2)), (9, .row 27 (Enc.cells c9q3))] 10 (by kernel_rfl) ?_
            refine wk_id ?_
            refine cond_sx h (by kernel_rfl) (fun g2641 h => ?_) (fun g2641 h => ?_)
            · refine seq_cut (A := Unit) (fun _ => ([(3, iS now), (4, .ptr 0 0), (12, .ptr 3 0), (13, .own 4 0 c4q1.length), (14, .ptr 5 0), (15, .ptr 6 0), (16, .own 7 0 c7q9.length), (17, bS p1), (18, .ptr 8 0), (19, .ptr 9 0), (96, bS ((!((c1q1.Closed == false) && ((c1q1.Ready_e0 == false) && ((c1q1.Ready_e1 == false) && ((c1q1.Task_e0 == 0) && ((c1q1.Task_e1 == 0) && ((c1q1.Until_e0 == 0) && ((c1q1.Until_e1 == 0) && true)))))))) || (tq != 0)))], [(0, .row 25 (Enc.cells d)), (1, .row 25 (Enc.cells c1q1)), (2, .row 27 (Enc.cells c2q1)), (3, .row 25 (Enc.cells c3q6)), (4, .row 3 (fl c4q1)), (5, .row 27 (Enc.cells c5q1)), (6, .row 25 (Enc.cells c6q6)), (7, .row 3 (fl c7q9)), (8, .row 27 (Enc.cells c8q2)), (9, .row 27 (Enc.cells c9q3))], 10)) (fun _ => True) (fun K2608 hK2608 => ?_) (fun _ _ => ?_)
              · refine reg_f ?_
                refine rs 4 [] [] (by kernel_rfl) allP_nil ?_
                refine run_split 93 (!((c1q1.Closed == false) && ((c1q1.Ready_e0 == false) && ((c1q1.Ready_e1 == false) && ((c1q1.Task_e0 == 0) && ((c1q1.Task_e1 == 0) && ((c1q1.Until_e0 == 0) && ((c1q1.Until_e1 == 0) && true)))))))) (.inl (by kernel_rfl)) (fun g2609 => ?_) (fun g2609 => ?_)
                · refine rs 3 [] [] (by kernel_rfl) allP_nil ?_
                  refine rf [(3, iS now), (4, .ptr 0 0), (12, .ptr 3 0), (13, .own 4 0 c4q1.length), (14, .ptr 5 0), (15, .ptr 6 0), (16, .own 7 0 c7q9.length), (17, bS p1), (18, .ptr 8 0), (19, .ptr 9 0), (96, bS true)] [(0, .row 25 (Enc.cells d)), (1, .row 25 (Enc.cells c1q1)), (2, .row 27 (Enc.cells c2q1)), (3, .row 25 (Enc.cells c3q6)), (4, .row 3 (fl c4q1)), (5, .row 27 (Enc.cells c5q1)), (6, .row 25 (Enc.cells c6q6)), (7, .row 3 (fl c7q9)), (8, .row 27 (Enc.cells c8q2)), (9, .row 27 (Enc.cells c9q3))] 10 (by kernel_rfl) ?_
                  exact hK2608 () _ _ _ trivial (leSt_m [(0, 0), (1, 1), (2, 2), (3, 3), (4, 4), (5, 5), (6, 6), (7, 7), (8, 8), (9, 9)] [] (by (try simp only [g2609]) <;> simp only [push_cast, seval]) (by (try simp only [g2609]) <;> simp only [push_cast, seval]) rfl rfl rfl)
                · refine rs 3 [] [] (by kernel_rfl) allP_nil ?_
                  refine rf [(3, iS now), (4, .ptr 0 0), (12, .ptr 3 0), (13, .own 4 0 c4q1.length), (14, .ptr 5 0), (15, .ptr 6 0), (16, .own 7 0 c7q9.length), (17, bS p1), (18, .ptr 8 0), (19, .ptr 9 0), (96, bS (tq != 0))] [(0, .row 25 (Enc.cells d)), (1, .row 25 (Enc.cells c1q1)), (2, .row 27 (Enc.cells c2q1)), (3, .row 25 (Enc.cells c3q6)), (4, .row 3 (fl c4q1)), (5, .row 27 (Enc.cells c5q1)), (6, .row 25 (Enc.cells c6q6)), (7, .row 3 (fl c7q9)), (8, .row 27 (Enc.cells c8q2)), (9, .row 27 (Enc.cells c9q3))] 10 (by kernel_rfl) ?_
                  exact hK2608 () _ _ _ trivial (leSt_m [(0, 0), (1, 1), (2, 2), (3, 3), (4, 4), (5, 5), (6, 6), (7, 7), (8, 8), (9, 9)] [] (by (try simp only [g2609]) <;> simp only [push_cast, seval]) (by (try simp only [g2609]) <;> simp only [push_cast, seval]) rfl rfl rfl)
              · dsimp only
                refine cond_sx h (by kernel_rfl) (fun g2610 h => ?_) (fun g2610 h => ?_)
                · refine seq_np ?_
                  refine reg_f ?_
                  refine rs 1 [] [] (by kernel_rfl) allP_nil ?_
                  refine rf [(8, bS false)] [(0, .row 25 (Enc.cells d)), (1, .row 25 (Enc.cells c1q1)), (2, .row 27 (Enc.cells c2q1)), (3, .row 25 (Enc.cells c3q6)), (4, .row 3 (fl c4q1)), (5, .row 27 (Enc.cells c5q1)), (6, .row 25 (Enc.cells c6q6)), (7, .row 3 (fl c7q9)), (8, .row 27 (Enc.cells c8q2)), (9, .row 27 (Enc.cells c9q3))] 10 (by kernel_rfl) ?_
                  refine wk_id ?_
                  obtain rfl := Option.some.inj h
                  refine ret_at (bS false) (by kernel_rfl) ?_
                  exact ret_e [] [] (by simp only [push_cast, seval]) (by simp only [push_cast, seval]) rfl rfl rfl
                · exact hK2606 () _ _ _ h (leSt_m [(0, 0), (1, 3), (2, 4), (3, 5), (4, 6), (5, 7), (6, 8), (7, 9)] [] (by simp only [push_cast, seval]) (by simp only [push_cast, seval]) rfl rfl rfl)
            · refine seq_np ?_
              refine reg_f ?_
              refine rs 3 [] [] (by kernel_rfl) allP_nil ?_
              refine rf [(1, iS way), (2, iS when), (3, iS now), (4, .ptr 0 0), (9, .ptr 1 0), (10, iS tq), (12, .ptr 3 0), (13, .own 4 0 c4q1.length), (14, .ptr 5 0), (15, .ptr 6 0), (16, .own 7 0 c7q9.length), (17, bS p1), (18, .ptr 8 0), (19, .ptr 9 0), (20, .ptr 10 0)] [(0, .row 25 (Enc.cells d)), (1, .row 25 (Enc.cells c1q1)), (2, .row 27 (Enc.cells c2q1)), (3, .row 25 (Enc.cells c3q6)), (4, .row 3 (fl c4q1)), (5, .row 27 (Enc.cells c5q1)), (6, .row 25 (Enc.cells c6q6)), (7, .row 3 (fl c7q9)), (8, .row 27 (Enc.cells c8q2)), (9, .row 27 (Enc.cells c9q3)), (10, .row 25 (Enc.cells d))] 11 (by kernel_rfl) ?_
              refine wk_id ?_
              refine split_s h (fun g2611 h => ?_) (fun g2612 h => ?_)
              · refine seq_np ?_
                refine reg_f ?_
                refine rs 3 [] [] (by kernel_rfl) allP_nil ?_
                refine run_at 98 .i64 way 0 g2611 (by kernel_rfl) ?_
                refine rs 2 [] [] (by kernel_rfl) allP_nil ?_
                refine rf [(1, iS way), (3, iS now), (4, .ptr 0 0), (9, .ptr 1 0), (10, iS tq), (12, .ptr 3 0), (13, .own 4 0 c4q1.length), (14, .ptr 5 0), (15, .ptr 6 0), (16, .own 7 0 c7q9.length), (17, bS p1), (18, .ptr 8 0), (19, .ptr 9 0), (20, .ptr 10 0)] [(0, .row 25 (Enc.cells d)), (1, .row 25 (Enc.cells c1q1)), (2, .row 27 (Enc.cells c2q1)), (3, .row 25 (Enc.cells c3q6)), (4, .row 3 (fl c4q1)), (5, .row 27 (Enc.cells c5q1)), (6, .row 25 (Enc.cells c6q6)), (7, .row 3 (fl c7q9)), (8, .row 27 (Enc.cells c8q2)), (9, .row 27 (Enc.cells c9q3)), (10, .row 25 [bS d.Closed, bS d.Ready_e0, bS d.Ready_e1, iS d.Task_e0, iS d.Task_e1, iS when, iS d.Until_e1])] 11 (by kernel_rfl) ?_
                refine wk_id ?_
                refine seq_np ?_
                refine reg_f ?_
                refine rs 1 [] [] (by kernel_rfl) allP_nil ?_
                refine rf [(1, iS way), (3, iS now), (4, .ptr 0 0), (9, .ptr 1 0), (10, iS tq), (12, .ptr 3 0), (13, .own 4 0 c4q1.length), (14, .ptr 5 0), (15, .ptr 6 0), (16, .own 7 0 c7q9.length), (17, bS p1), (18, .ptr 8 0), (19, .ptr 9 0), (20, .ptr 10 0), (21, iS 0)] [(0, .row 25 (Enc.cells d)), (1, .row 25 (Enc.cells c1q1)), (2, .row 27 (Enc.cells c2q1)), (3, .row 25 (Enc.cells c3q6)), (4, .row 3 (fl c4q1)), (5, .row 27 (Enc.cells c5q1)), (6, .row 25 (Enc.cells c6q6)), (7, .row 3 (fl c7q9)), (8, .row 27 (Enc.cells c8q2)), (9, .row 27 (Enc.cells c9q3)), (10, .row 25 [bS d.Closed, bS d.Ready_e0, bS d.Ready_e1, iS d.Task_e0, iS d.Task_e1, iS when, iS d.Until_e1])] 11 (by kernel_rfl) ?_
                refine wk_id ?_
                refine seq_cut (A := Int × Int) (fun a => ([(3, iS now), (4, .ptr 0 0), (9, .ptr 1 0), (10, iS tq), (12, .ptr 2 0), (13, .own 3 0 c4q1.length), (14, .ptr 4 0), (15, .ptr 5 0), (16, .own 6 0 c7q9.length), (17, bS p1), (18, .ptr 7 0), (19, .ptr 8 0), (20, .ptr 9 0), (21, iS a.1)], [(0, .row 25 (Enc.cells d)), (1, .row 25 (Enc.cells c1q1)), (2, .row 25 (Enc.cells c3q6)), (3, .row 3 (fl c4q1)), (4, .row 27 (Enc.cells c5q1)), (5, .row 25 (Enc.cells c6q6)), (6, .row 3 (fl c7q9)), (7, .row 27 (Enc.cells c8q2)), (8, .row 27 (Enc.cells c9q3)), (9, .row 25 [bS d.Closed, bS d.Ready_e0, bS d.Ready_e1, iS a.2, iS d.Task_e1, iS when, iS d.Until_e1])], 10)) (fun a => (taskmilllaw_PollTimes_j11 d when now tq p1 c1q1 c3q6 c4q1 c5q1 c6q6 c7q9 c8q2 c9q3 a.1 a.2) = some r) (fun K2616 hK2616 => ?_) ?_
                · refine seq_np ?_
                  refine reg_f ?_
                  refine rs 3 [] [] (by kernel_rfl) allP_nil ?_
                  obtain ⟨r2618, hr2618, h⟩ := bind_sx h
                  refine run_call 13 [.agg [bS d.Closed, bS d.Ready_e0, bS d.Ready_e1, iS d.Task_e0, iS d.Task_e1, iS when, iS d.Until_e1], iS way, iS now] (some 105) (by kernel_rfl) ?_
                  refine call_0 (taskmilllaw_isLate_spec (Desc.mk d.Closed d.Ready_e0 d.Ready_e1 d.Task_e0 d.Task_e1 when d.Until_e1) way now r2618 hr2618) (by simp only [push_cast, seval]) (by simp only [push_cast, seval]) ?_
                  refine back_f ?_
                  refine rf [(1, iS way), (3, iS now), (4, .ptr 0 0), (9, .ptr 1 0), (10, iS tq), (12, .ptr 3 0), (13, .own 4 0 c4q1.length), (14, .ptr 5 0), (15, .ptr 6 0), (16, .own 7 0 c7q9.length), (17, bS p1), (18, .ptr 8 0), (19, .ptr 9 0), (20, .ptr 10 0), (21, iS 0), (105, bS r2618)] [(0, .row 25 (Enc.cells d)), (1, .row 25 (Enc.cells c1q1)), (2, .row 27 (Enc.cells c2q1)), (3, .row 25 (Enc.cells c3q6)), (4, .row 3 (fl c4q1)), (5, .row 27 (Enc.cells c5q1)), (6, .row 25 (Enc.cells c6q6)), (7, .row 3 (fl c7q9)), (8, .row 27 (Enc.cells c8q2)), (9, .row 27 (Enc.cells c9q3)), (10, .row 25 [bS d.Closed, bS d.Ready_e0, bS d.Ready_e1, iS d.Task_e0, iS d.Task_e1, iS when, iS d.Until_e1])] 11 (by kernel_rfl) ?_
                  refine wk_id ?_
                  refine cond_sx h (by kernel_rfl) (fun g2619 h => ?_) (fun g2619 h => ?_)
                  · refine seq_np ?_
                    refine reg_f ?_
                    refine rs 2 [] [] (by kernel_rfl) allP_nil ?_
                    refine run_at 106 .i64 way 0 g2611 (by kernel_rfl) ?_
                    refine rs 3 [] [] (by kernel_rfl) allP_nil ?_
                    refine rf [(1, iS way), (3, iS now), (4, .ptr 0 0), (9, .ptr 1 0), (10, iS tq), (12, .ptr 3 0), (13, .own 4 0 c4q1.length), (14, .ptr 5 0), (15, .ptr 6 0), (16, .own 7 0 c7q9.length), (17, bS p1), (18, .ptr 8 0), (19, .ptr 9 0), (20, .ptr 10 0), (21, iS d.Task_e0)] [(0, .row 25 (Enc.cells d)), (1, .row 25 (Enc.cells c1q1)), (2, .row 27 (Enc.cells c2q1)), (3, .row 25 (Enc.cells c3q6)), (4, .row 3 (fl c4q1)), (5, .row 27 (Enc.cells c5q1)), (6, .row 25 (Enc.cells c6q6)), (7, .row 3 (fl c7q9)), (8, .row 27 (Enc.cells c8q2)), (9, .row 27 (Enc.cells c9q3)), (10, .row 25 [bS d.Closed, bS d.Ready_e0, bS d.Ready_e1, iS d.Task_e0, iS d.Task_e1, iS when, iS d.Until_e1])] 11 (by kernel_rfl) ?_
                    refine wk_id ?_
                    refine reg_f ?_
                    refine rs 2 [] [] (by kernel_rfl) allP_nil ?_
                    refine run_at 110 .i64 way 0 g2611 (by kernel_rfl) ?_
                    refine rs 2 [] [] (by kernel_rfl) allP_nil ?_
                    refine rf [(3, iS now), (4, .ptr 0 0), (9, .ptr 1 0), (10, iS tq), (12, .ptr 3 0), (13, .own 4 0 c4q1.length), (14, .ptr 5 0), (15, .ptr 6 0), (16, .own 7 0 c7q9.length), (17, bS p1), (18, .ptr 8 0), (19, .ptr 9 0), (20, .ptr 10 0), (21, iS d.Task_e0)] [(0, .row 25 (Enc.cells d)), (1, .row 25 (Enc.cells c1q1)), (2, .row 27 (Enc.cells c2q1)), (3, .row 25 (Enc.cells c3q6)), (4, .row 3 (fl c4q1)), (5, .row 27 (Enc.cells c5q1)), (6, .row 25 (Enc.cells c6q6)), (7, .row 3 (fl c7q9)), (8, .row 27 (Enc.cells c8q2)), (9, .row 27 (Enc.cells c9q3)), (10, .row 25 [bS d.Closed, bS d.Ready_e0, bS d.Ready_e1, iS 0, iS d.Task_e1, iS when, iS d.Until_e1])] 11 (by kernel_rfl) ?_
                    exact hK2616 (d.Task_e0, 0) _ _ _ h (leSt_m [(0, 0), (1, 1), (2, 3), (3, 4), (4, 5), (5, 6), (6, 7), (7, 8), (8, 9), (9, 10)] [] (by simp only [push_cast, seval]) (by simp only [push_cast, seval]) rfl rfl rfl)
                  · exact hK2616 (0, d.Task_e0) _ _ _ h (leSt_m [(0, 0), (1, 1), (2, 3), (3, 4), (4, 5), (5, 6), (6, 7), (7, 8), (8, 9), (9, 10)] [] (by simp only [push_cast, seval]) (by simp only [push_cast, seval]) rfl rfl rfl)
                · rintro ⟨who4, c9_Task_e0q2⟩ h
                  try dsimp only at h ⊢
                  unfold taskmilllaw_PollTimes_j11 at h
                  refine seq_cut (A := Unit) (fun _ => ([(3, iS now), (4, .ptr 0 0), (12, .ptr 2 0), (13, .own 3 0 c4q1.length), (14, .ptr 4 0), (15, .ptr 5 0), (16, .own 6 0 c7q9.length), (17, bS p1), (18, .ptr 7 0), (19, .ptr 8 0), (120, bS ((!((c1q1.Closed == d.Closed) && ((c1q1.Ready_e0 == d.Ready_e0) && ((c1q1.Ready_e1 == d.Ready_e1) && ((c1q1.Task_e0 == c9_Task_e0q2) && ((c1q1.Task_e1 == d.Task_e1) && ((c1q1.Until_e0 == when) && ((c1q1.Until_e1 == d.Until_e1) && true)))))))) || (tq != who4)))], [(0, .row 25 (Enc.cells d)), (1, .row 25 (Enc.cells c1q1)), (2, .row 25 (Enc.cells c3q6)), (3, .row 3 (fl c4q1)), (4, .row 27 (Enc.cells c5q1)), (5, .row 25 (Enc.cells c6q6)), (6, .row 3 (fl c7q9)), (7, .row 27 (Enc.cells c8q2)), (8, .row 27 (Enc.cells c9q3)), (9, .row 25 [bS d.Closed, bS d.Ready_e0, bS d.Ready_e1, iS c9_Task_e0q2, iS d.Task_e1, iS when, iS d.Until_e1])], 10)) (fun _ => True) (fun K2621 hK2621 => ?_) (fun _ _ => ?_)
                  · refine reg_f ?_
                    refine rs 4 [] [] (by kernel_rfl) allP_nil ?_
                    refine run_split 116 (!((c1q1.Closed == d.Closed) && ((c1q1.Ready_e0 == d.Ready_e0) && ((c1q1.Ready_e1 == d.Ready_e1) && ((c1q1.Task_e0 == c9_Task_e0q2) && ((c1q1.Task_e1 == d.Task_e1) && ((c1q1.Until_e0 == when) && ((c1q1.Until_e1 == d.Until_e1) && true)))))))) (.inl (by kernel_rfl)) (fun g2622 => ?_) (fun g2622 => ?_)
                    · refine rs 4 [] [] (by kernel_rfl) allP_nil ?_
                      refine rf [(3, iS now), (4, .ptr 0 0), (12, .ptr 2 0), (13, .own 3 0 c4q1.length), (14, .ptr 4 0), (15, .ptr 5 0), (16, .own 6 0 c7q9.length), (17, bS p1), (18, .ptr 7 0), (19, .ptr 8 0), (120, bS true)] [(0, .row 25 (Enc.cells d)), (1, .row 25 (Enc.cells c1q1)), (2, .row 25 (Enc.cells c3q6)), (3, .row 3 (fl c4q1)), (4, .row 27 (Enc.cells c5q1)), (5, .row 25 (Enc.cells c6q6)), (6, .row 3 (fl c7q9)), (7, .row 27 (Enc.cells c8q2)), (8, .row 27 (Enc.cells c9q3)), (9, .row 25 [bS d.Closed, bS d.Ready_e0, bS d.Ready_e1, iS c9_Task_e0q2, iS d.Task_e1, iS when, iS d.Until_e1])] 10 (by kernel_rfl) ?_
                      exact hK2621 () _ _ _ trivial (leSt_m [(0, 0), (1, 1), (2, 2), (3, 3), (4, 4), (5, 5), (6, 6), (7, 7), (8, 8), (9, 9)] [] (by (try simp only [g2622]) <;> simp only [push_cast, seval]) (by (try simp only [g2622]) <;> simp only [push_cast, seval]) rfl rfl rfl)
                    · refine rs 4 [] [] (by kernel_rfl) allP_nil ?_
                      refine rf [(3, iS now), (4, .ptr 0 0), (12, .ptr 2 0), (13, .own 3 0 c4q1.length), (14, .ptr 4 0), (15, .ptr 5 0), (16, .own 6 0 c7q9.length), (17, bS p1), (18, .ptr 7 0), (19, .ptr 8 0), (120, bS (tq != who4))] [(0, .row 25 (Enc.cells d)), (1, .row 25 (Enc.cells c1q1)), (2, .row 25 (Enc.cells c3q6)), (3, .row 3 (fl c4q1)), (4, .row 27 (Enc.cells c5q1)), (5, .row 25 (Enc.cells c6q6)), (6, .row 3 (fl c7q9)), (7, .row 27 (Enc.cells c8q2)), (8, .row 27 (Enc.cells c9q3)), (9, .row 25 [bS d.Closed, bS d.Ready_e0, bS d.Ready_e1, iS c9_Task_e0q2, iS d.Task_e1, iS when, iS d.Until_e1])] 10 (by kernel_rfl) ?_
                      exact hK2621 () _ _ _ trivial (leSt_m [(0, 0), (1, 1), (2, 2), (3, 3), (4, 4), (5, 5), (6, 6), (7, 7), (8, 8), (9, 9)] [] (by (try simp only [g2622]) <;> simp only [push_cast, seval]) (by (try simp only [g2622]) <;> simp only [push_cast, seval]) rfl rfl rfl)
                  · dsimp only
                    refine cond_sx h (by kernel_rfl) (fun g2623 h => ?_) (fun g2623 h => ?_)
                    · refine seq_np ?_
                      refine reg_f ?_
                      refine rs 1 [] [] (by kernel_rfl) allP_nil ?_
                      refine rf [(8, bS false)] [(0, .row 25 (Enc.cells d)), (1, .row 25 (Enc.cells c1q1)), (2, .row 25 (Enc.cells c3q6)), (3, .row 3 (fl c4q1)), (4, .row 27 (Enc.cells c5q1)), (5, .row 25 (Enc.cells c6q6)), (6, .row 3 (fl c7q9)), (7, .row 27 (Enc.cells c8q2)), (8, .row 27 (Enc.cells c9q3)), (9, .row 25 [bS d.Closed, bS d.Ready_e0, bS d.Ready_e1, iS c9_Task_e0q2, iS d.Task_e1, iS when, iS d.Until_e1])] 10 (by kernel_rfl) ?_
                      refine wk_id ?_
                      obtain rfl := Option.some.inj h
                      refine ret_at (bS false) (by kernel_rfl) ?_
                      exact ret_e [] [] (by simp only [push_cast, seval]) (by simp only [push_cast, seval]) rfl rfl rfl
                    · exact hK2606 () _ _ _ h (leSt_m [(0, 0), (1, 2), (2, 3), (3, 4), (4, 5), (5, 6), (6, 7), (7, 8)] [] (by simp only [push_cast, seval]) (by simp only [push_cast, seval]) rfl rfl rfl)
              refine split_s h (fun g2624 h => ?_) (fun g2625 h => ?_)
              · refine seq_np ?_
                refine reg_f ?_
                refine rs 3 [] [] (by kernel_rfl) allP_nil ?_
                refine run_at 98 .i64 way 1 g2624 (by kernel_rfl) ?_
                refine rs 2 [] [] (by kernel_rfl) allP_nil ?_
                refine rf [(1, iS way), (3, iS now), (4, .ptr 0 0), (9, .ptr 1 0), (10, iS tq), (12, .ptr 3 0), (13, .own 4 0 c4q1.length), (14, .ptr 5 0), (15, .ptr 6 0), (16, .own 7 0 c7q9.length), (17, bS p1), (18, .ptr 8 0), (19, .ptr 9 0), (20, .ptr 10 0)] [(0, .row 25 (Enc.cells d)), (1, .row 25 (Enc.cells c1q1)), (2, .row 27 (Enc.cells c2q1)), (3, .row 25 (Enc.cells c3q6)), (4, .row 3 (fl c4q1)), (5, .row 27 (Enc.cells c5q1)), (6, .row 25 (Enc.cells c6q6)), (7, .row 3 (fl c7q9)), (8, .row 27 (Enc.cells c8q2)), (9, .row 27 (Enc.cells c9q3)), (10, .row 25 [bS d.Closed, bS d.Ready_e0, bS d.Ready_e1, iS d.Task_e0, iS d.Task_e1, iS d.Until_e0, iS when])] 11 (by kernel_rfl) ?_
                refine wk_id ?_
                refine seq_np ?_
                refine reg_f ?_
                refine rs 1 [] [] (by kernel_rfl) allP_nil ?_
                refine rf [(1, iS way), (3, iS now), (4, .ptr 0 0), (9, .ptr 1 0), (10, iS tq), (12, .ptr 3 0), (13, .own 4 0 c4q1.length), (14, .ptr 5 0), (15, .ptr 6 0), (16, .own 7 0 c7q9.length), (17, bS p1), (18, .ptr 8 0), (19, .ptr 9 0), (20, .ptr 10 0), (21, iS 0)] [(0, .row 25 (Enc.cells d)), (1, .row 25 (Enc.cells c1q1)), (2, .row 27 (Enc.cells c2q1)), (3, .row 25 (Enc.cells c3q6)), (4, .row 3 (fl c4q1)), (5, .row 27 (Enc.cells c5q1)), (6, .row 25 (Enc.cells c6q6)), (7, .row 3 (fl c7q9)), (8, .row 27 (Enc.cells c8q2)), (9, .row 27 (Enc.cells c9q3)), (10, .row 25 [bS d.Closed, bS d.Ready_e0, bS d.Ready_e1, iS d.Task_e0, iS d.Task_e1, iS d.Until_e0, iS when])] 11 (by kernel_rfl) ?_
                refine wk_id ?_
                refine seq_cut (A := Int × Int) (fun a => ([(3, iS now), (4, .ptr 0 0), (9, .ptr 1 0), (10, iS tq), (12, .ptr 2 0), (13, .own 3 0 c4q1.length), (14, .ptr 4 0), (15, .ptr 5 0), (16, .own 6 0 c7q9.length), (17, bS p1), (18, .ptr 7 0), (19, .ptr 8 0), (20, .ptr 9 0), (21, iS a.1)], [(0, .row 25 (Enc.cells d)), (1, .row 25 (Enc.cells c1q1)), (2, .row 25 (Enc.cells c3q6)), (3, .row 3 (fl c4q1)), (4, .row 27 (Enc.cells c5q1)), (5, .row 25 (Enc.cells c6q6)), (6, .row 3 (fl c7q9)), (7, .row 27 (Enc.cells c8q2)), (8, .row 27 (Enc.cells c9q3)), (9, .row 25 [bS d.Closed, bS d.Ready_e0, bS d.Ready_e1, iS d.Task_e0, iS a.2, iS d.Until_e0, iS when])], 10)) (fun a => (taskmilllaw_PollTimes_j10 d when now tq p1 c1q1 c3q6 c4q1 c5q1 c6q6 c7q9 c8q2 c9q3 a.1 a.2) = some r) (fun K2629 hK2629 => ?_) ?_
                · refine seq_np ?_
                  refine reg_f ?_
                  refine rs 3 [] [] (by kernel_rfl) allP_nil ?_
                  obtain ⟨r2631, hr2631, h⟩ := bind_sx h
                  refine run_call 13 [.agg [bS d.Closed, bS d.Ready_e0, bS d.Ready_e1, iS d.Task_e0, iS d.Task_e1, iS d.Until_e0, iS when], iS way, iS now] (some 105) (by kernel_rfl) ?_
                  refine call_0 (taskmilllaw_isLate_spec (Desc.mk d.Closed d.Ready_e0 d.Ready_e1 d.Task_e0 d.Task_e1 d.Until_e0 when) way now r2631 hr2631) (by simp only [push_cast, seval]) (by simp only [push_cast, seval]) ?_
                  refine back_f ?_
                  refine rf [(1, iS way), (3, iS now), (4, .ptr 0 0), (9, .ptr 1 0), (10, iS tq), (12, .ptr 3 0), (13, .own 4 0 c4q1.length), (14, .ptr 5 0), (15, .ptr 6 0), (16, .own 7 0 c7q9.length), (17, bS p1), (18, .ptr 8 0), (19, .ptr 9 0), (20, .ptr 10 0), (21, iS 0), (105, bS r2631)] [(0, .row 25 (Enc.cells d)), (1, .row 25 (Enc.cells c1q1)), (2, .row 27 (Enc.cells c2q1)), (3, .row 25 (Enc.cells c3q6)), (4, .row 3 (fl c4q1)), (5, .row 27 (Enc.cells c5q1)), (6, .row 25 (Enc.cells c6q6)), (7, .row 3 (fl c7q9)), (8, .row 27 (Enc.cells c8q2)), (9, .row 27 (Enc.cells c9q3)), (10, .row 25 [bS d.Closed, bS d.Ready_e0, bS d.Ready_e1, iS d.Task_e0, iS d.Task_e1, iS d.Until_e0, iS when])] 11 (by kernel_rfl) ?_
                  refine wk_id ?_
                  refine cond_sx h (by kernel_rfl) (fun g2632 h => ?_) (fun g2632 h => ?_)
                  · refine seq_np ?_
                    refine reg_f ?_
                    refine rs 2 [] [] (by kernel_rfl) allP_nil ?_
                    refine run_at 106 .i64 way 1 g2624 (by kernel_rfl) ?_
                    refine rs 3 [] [] (by kernel_rfl) allP_nil ?_
                    refine rf [(1, iS way), (3, iS now), (4, .ptr 0 0), (9, .ptr 1 0), (10, iS tq), (12, .ptr 3 0), (13, .own 4 0 c4q1.length), (14, .ptr 5 0), (15, .ptr 6 0), (16, .own 7 0 c7q9.length), (17, bS p1), (18, .ptr 8 0), (19, .ptr 9 0), (20, .ptr 10 0), (21, iS d.Task_e1)] [(0, .row 25 (Enc.cells d)), (1, .row 25 (Enc.cells c1q1)), (2, .row 27 (Enc.cells c2q1)), (3, .row 25 (Enc.cells c3q6)), (4, .row 3 (fl c4q1)), (5, .row 27 (Enc.cells c5q1)), (6, .row 25 (Enc.cells c6q6)), (7, .row 3 (fl c7q9)), (8, .row 27 (Enc.cells c8q2)), (9, .row 27 (Enc.cells c9q3)), (10, .row 25 [bS d.Closed, bS d.Ready_e0, bS d.Ready_e1, iS d.Task_e0, iS d.Task_e1, iS d.Until_e0, iS when])] 11 (by kernel_rfl) ?_
                    refine wk_id ?_
                    refine reg_f ?_
                    refine rs 2 [] [] (by kernel_rfl) allP_nil ?_
                    refine run_at 110 .i64 way 1 g2624 (by kernel_rfl) ?_
                    refine rs 2 [] [] (by kernel_rfl) allP_nil ?_
                    refine rf [(3, iS now), (4, .ptr 0 0), (9, .ptr 1 0), (10, iS tq), (12, .ptr 3 0), (13, .own 4 0 c4q1.length), (14, .ptr 5 0), (15, .ptr 6 0), (16, .own 7 0 c7q9.length), (17, bS p1), (18, .ptr 8 0), (19, .ptr 9 0), (20, .ptr 10 0), (21, iS d.Task_e1)] [(0, .row 25 (Enc.cells d)), (1, .row 25 (Enc.cells c1q1)), (2, .row 27 (Enc.cells c2q1)), (3, .row 25 (Enc.cells c3q6)), (4, .row 3 (fl c4q1)), (5, .row 27 (Enc.cells c5q1)), (6, .row 25 (Enc.cells c6q6)), (7, .row 3 (fl c7q9)), (8, .row 27 (Enc.cells c8q2)), (9, .row 27 (Enc.cells c9q3)), (10, .row 25 [bS d.Closed, bS d.Ready_e0, bS d.Ready_e1, iS d.Task_e0, iS 0, iS d.Until_e0, iS when])] 11 (by kernel_rfl) ?_
                    exact hK2629 (d.Task_e1, 0) _ _ _ h (leSt_m [(0, 0), (1, 1), (2, 3), (3, 4), (4, 5), (5, 6), (6, 7), (7, 8), (8, 9), (9, 10)] [] (by simp only [push_cast, seval]) (by simp only [push_cast, seval]) rfl rfl rfl)
                  · exact hK2629 (0, d.Task_e1) _ _ _ h (leSt_m [(0, 0), (1, 1), (2, 3), (3, 4), (4, 5), (5, 6), (6, 7), (7, 8), (8, 9), (9, 10)] [] (by simp only [push_cast, seval]) (by simp only [push_cast, seval]) rfl rfl rfl)
                · rintro ⟨who5, c9_Task_e1q2⟩ h
                  try dsimp only at h ⊢
                  unfold taskmilllaw_PollTimes_j10 at h
                  refine seq_cut (A := Unit) (fun _ => ([(3, iS now), (4, .ptr 0 0), (12, .ptr 2 0), (13, .own 3 0 c4q1.length), (14, .ptr 4 0), (15, .ptr 5 0), (16, .own 6 0 c7q9.length), (17, bS p1), (18, .ptr 7 0), (19, .ptr 8 0), (120, bS ((!((c1q1.Closed == d.Closed) && ((c1q1.Ready_e0 == d.Ready_e0) && ((c1q1.Ready_e1 == d.Ready_e1) && ((c1q1.Task_e0 == d.Task_e0) && ((c1q1.Task_e1 == c9_Task_e1q2) && ((c1q1.Until_e0 == d.Until_e0) && ((c1q1.Until_e1 == when) && true)))))))) || (tq != who5)))], [(0, .row 25 (Enc.cells d)), (1, .row 25 (Enc.cells c1q1)), (2, .row 25 (Enc.cells c3q6)), (3, .row 3 (fl c4q1)), (4, .row 27 (Enc.cells c5q1)), (5, .row 25 (Enc.cells c6q6)), (6, .row 3 (fl c7q9)), (7, .row 27 (Enc.cells c8q2)), (8, .row 27 (Enc.cells c9q3)), (9, .row 25 [bS d.Closed, bS d.Ready_e0, bS d.Ready_e1, iS d.Task_e0, iS c9_Task_e1q2, iS d.Until_e0, iS when])], 10)) (fun _ => True) (fun K2634 hK2634 => ?_) (fun _ _ => ?_)
                  · refine reg_f ?_
                    refine rs 4 [] [] (by kernel_rfl) allP_nil ?_
                    refine run_split 116 (!((c1q1.Closed == d.Closed) && ((c1q1.Ready_e0 == d.Ready_e0) && ((c1q1.Ready_e1 == d.Ready_e1) && ((c1q1.Task_e0 == d.Task_e0) && ((c1q1.Task_e1 == c9_Task_e1q2) && ((c1q1.Until_e0 == d.Until_e0) && ((c1q1.Until_e1 == when) && true)))))))) (.inl (by kernel_rfl)) (fun g2635 => ?_) (fun g2635 => ?_)
                    · refine rs 4 [] [] (by kernel_rfl) allP_nil ?_
                      refine rf [(3, iS now), (4, .ptr 0 0), (12, .ptr 2 0), (13, .own 3 0 c4q1.length), (14, .ptr 4 0), (15, .ptr 5 0), (16, .own 6 0 c7q9.length), (17, bS p1), (18, .ptr 7 0), (19, .ptr 8 0), (120, bS true)] [(0, .row 25 (Enc.cells d)), (1, .row 25 (Enc.cells c1q1)), (2, .row 25 (Enc.cells c3q6)), (3, .row 3 (fl c4q1)), (4, .row 27 (Enc.cells c5q1)), (5, .row 25 (Enc.cells c6q6)), (6, .row 3 (fl c7q9)), (7, .row 27 (Enc.cells c8q2)), (8, .row 27 (Enc.cells c9q3)), (9, .row 25 [bS d.Closed, bS d.Ready_e0, bS d.Ready_e1, iS d.Task_e0, iS c9_Task_e1q2, iS d.Until_e0, iS when])] 10 (by kernel_rfl) ?_
                      exact hK2634 () _ _ _ trivial (leSt_m [(0, 0), (1, 1), (2, 2), (3, 3), (4, 4), (5, 5), (6, 6), (7, 7), (8, 8), (9, 9)] [] (by (try simp only [g2635]) <;> simp only [push_cast, seval]) (by (try simp only [g2635]) <;> simp only [push_cast, seval]) rfl rfl rfl)
                    · refine rs 4 [] [] (by kernel_rfl) allP_nil ?_
                      refine rf [(3, iS now), (4, .ptr 0 0), (12, .ptr 2 0), (13, .own 3 0 c4q1.length), (14, .ptr 4 0), (15, .ptr 5 0), (16, .own 6 0 c7q9.length), (17, bS p1), (18, .ptr 7 0), (19, .ptr 8 0), (120, bS (tq != who5))] [(0, .row 25 (Enc.cells d)), (1, .row 25 (Enc.cells c1q1)), (2, .row 25 (Enc.cells c3q6)), (3, .row 3 (fl c4q1)), (4, .row 27 (Enc.cells c5q1)), (5, .row 25 (Enc.cells c6q6)), (6, .row 3 (fl c7q9)), (7, .row 27 (Enc.cells c8q2)), (8, .row 27 (Enc.cells c9q3)), (9, .row 25 [bS d.Closed, bS d.Ready_e0, bS d.Ready_e1, iS d.Task_e0, iS c9_Task_e1q2, iS d.Until_e0, iS when])] 10 (by kernel_rfl) ?_
                      exact hK2634 () _ _ _ trivial (leSt_m [(0, 0), (1, 1), (2, 2), (3, 3), (4, 4), (5, 5), (6, 6), (7, 7), (8, 8), (9, 9)] [] (by (try simp only [g2635]) <;> simp only [push_cast, seval]) (by (try simp only [g2635]) <;> simp only [push_cast, seval]) rfl rfl rfl)
                  · dsimp only
                    refine cond_sx h (by kernel_rfl) (fun g2636 h => ?_) (fun g2636 h => ?_)
                    · refine seq_np ?_
                      refine reg_f ?_
                      refine rs 1 [] [] (by kernel_rfl) allP_nil ?_
                      refine rf [(8, bS false)] [(0, .row 25 (Enc.cells d)), (1, .row 25 (Enc.cells c1q1)), (2, .row 25 (Enc.cells c3q6)), (3, .row 3 (fl c4q1)), (4, .row 27 (Enc.cells c5q1)), (5, .row 25 (Enc.cells c6q6)), (6, .row 3 (fl c7q9)), (7, .row 27 (Enc.cells c8q2)), (8, .row 27 (Enc.cells c9q3)), (9, .row 25 [bS d.Closed, bS d.Ready_e0, bS d.Ready_e1, iS d.Task_e0, iS c9_Task_e1q2, iS d.Until_e0, iS when])] 10 (by kernel_rfl) ?_
                      refine wk_id ?_
                      obtain rfl := Option.some.inj h
                      refine ret_at (bS false) (by kernel_rfl) ?_
                      exact ret_e [] [] (by simp only [push_cast, seval]) (by simp only [push_cast, seval]) rfl rfl rfl
                    · exact hK2606 () _ _ _ h (leSt_m [(0, 0), (1, 2), (2, 3), (3, 4), (4, 5), (5, 6), (6, 7), (7, 8)] [] (by simp only [push_cast, seval]) (by simp only [push_cast, seval]) rfl rfl rfl)
              refine chk_sx h (fun g2640 h => ?_)
              refine seq_np ?_
              refine reg_f ?_
              have k2639 : 0 ≤ way ∧ way < 2 := by first | simpa only [Bool.and_eq_true, decide_eq_true_eq, bne_iff_ne, ne_eq] using g2640 | (simp at g2640 ⊢; omega)
              exfalso
              omega
          · rintro _ h
            try dsimp only at h ⊢
            unfold taskmilllaw_PollTimes_j9 at h
            refine seq_np ?_
            refine reg_f ?_
            refine rs 1 [] [] (by kernel_rfl) allP_nil ?_
            obtain ⟨r2643, hr2643, h⟩ := bind_sx h
            refine run_call 10 [.agg (Enc.cells d)] (some 122) (by kernel_rfl) ?_
            refine call_0 (taskmillref_DescFault_spec d r2643 hr2643) (by simp only [push_cast, seval]) (by simp only [push_cast, seval]) ?_
            refine back_f ?_
            refine rs 1 [] [] (by kernel_rfl) allP_nil ?_
            refine rf [(3, iS now), (4, .ptr 0 0), (12, .ptr 1 0), (13, .own 2 0 c4q1.length), (14, .ptr 3 0), (15, .ptr 4 0), (16, .own 5 0 c7q9.length), (17, bS p1), (18, .ptr 6 0), (19, .ptr 7 0)] [(0, .row 25 (Enc.cells d)), (1, .row 25 (Enc.cells c3q6)), (2, .row 3 (fl c4q1)), (3, .row 27 (Enc.cells c5q1)), (4, .row 25 (Enc.cells c6q6)), (5, .row 3 (fl c7q9)), (6, .row 27 (Enc.cells c8q2)), (7, .row 27 (Enc.cells r2643))] 8 (by kernel_rfl) ?_
            refine wk_id ?_
            refine seq_np ?_
            refine reg_f ?_
            refine rs 3 [] [] (by kernel_rfl) allP_nil ?_
            refine rf [(3, iS now), (4, .ptr 0 0), (12, .ptr 1 0), (13, .own 2 0 c4q1.length), (14, .ptr 3 0), (15, .ptr 4 0), (16, .own 5 0 c7q9.length), (17, bS p1), (18, .ptr 6 0), (19, .ptr 7 0), (22, .ptr 8 0)] [(0, .row 25 (Enc.cells d)), (1, .row 25 (Enc.cells c3q6)), (2, .row 3 (fl c4q1)), (3, .row 27 (Enc.cells c5q1)), (4, .row 25 (Enc.cells c6q6)), (5, .row 3 (fl c7q9)), (6, .row 27 (Enc.cells c8q2)), (7, .row 27 (Enc.cells r2643)), (8, .row 27 (Enc.cells r2643))] 9 (by kernel_rfl) ?_
            refine wk_id ?_
            refine seq_cut (A := Fault × Fault) (fun a => ([(3, iS now), (4, .ptr 0 0), (12, .ptr 1 0), (13, .own 2 0 c4q1.length), (14, .ptr 3 0), (15, .ptr 4 0), (16, .own 5 0 c7q9.length), (17, bS p1), (18, .ptr 6 0), (19, .ptr 7 0), (22, .ptr 8 0)], [(0, .row 25 (Enc.cells d)), (1, .row 25 (Enc.cells c3q6)), (2, .row 3 (fl c4q1)), (3, .row 27 (Enc.cells c5q1)), (4, .row 25 (Enc.cells c6q6)), (5, .row 3 (fl c7q9)), (6, .row 27 (Enc.cells c8q2)), (7, .row 27 (Enc.cells a.1)), (8, .row 27 (Enc.cells a.2))], 9)) (fun a => (taskmilllaw_PollTimes_j8 d now p1 c3q6 c4q1 c5q1 c6q6 c7q9 c8q2 a.1 a.2) = some r) (fun K2649 hK2649 => ?_) ?_
            · refine seq_cut (A := Unit) (fun _ => ([(3, iS now), (4, .ptr 0 0), (12, .ptr 1 0), (13, .own 2 0 c4q1.length), (14, .ptr 3 0), (15, .ptr 4 0), (16, .own 5 0 c7q9.length), (17, bS p1), (18, .ptr 6 0), (19, .ptr 7 0), (22, .ptr 8 0), (134, bS ((r2643.Code == 0) && ((decide (now < 0)) || (decide ((1000000000 : Int) < now)))))], [(0, .row 25 (Enc.cells d)), (1, .row 25 (Enc.cells c3q6)), (2, .row 3 (fl c4q1)), (3, .row 27 (Enc.cells c5q1)), (4, .row 25 (Enc.cells c6q6)), (5, .row 3 (fl c7q9)), (6, .row 27 (Enc.cells c8q2)), (7, .row 27 (Enc.cells r2643)), (8, .row 27 (Enc.cells r2643))], 9)) (fun _ => True) (fun K2652 hK2652 => ?_) (fun _ _ => ?_)
              · refine reg_f ?_
                refine rs 4 [] [] (by kernel_rfl) allP_nil ?_
                refine run_split 127 (r2643.Code == 0) (.inl (by kernel_rfl)) (fun g2653 => ?_) (fun g2653 => ?_)
                · refine rs 3 [] [] (by kernel_rfl) allP_nil ?_
                  refine run_split 130 (decide (now < 0)) (.inr (by kernel_rfl)) (fun g2654 => ?_) (fun g2654 => ?_)
                  · refine rs 4 [] [] (by kernel_rfl) allP_nil ?_
                    refine rf [(3, iS now), (4, .ptr 0 0), (12, .ptr 1 0), (13, .own 2 0 c4q1.length), (14, .ptr 3 0), (15, .ptr 4 0), (16, .own 5 0 c7q9.length), (17, bS p1), (18, .ptr 6 0), (19, .ptr 7 0), (22, .ptr 8 0), (134, bS true)] [(0, .row 25 (Enc.cells d)), (1, .row 25 (Enc.cells c3q6)), (2, .row 3 (fl c4q1)), (3, .row 27 (Enc.cells c5q1)), (4, .row 25 (Enc.cells c6q6)), (5, .row 3 (fl c7q9)), (6, .row 27 (Enc.cells c8q2)), (7, .row 27 (Enc.cells r2643)), (8, .row 27 (Enc.cells r2643))] 9 (by kernel_rfl) ?_
                    exact hK2652 () _ _ _ trivial (leSt_m [(0, 0), (1, 1), (2, 2), (3, 3), (4, 4), (5, 5), (6, 6), (7, 7), (8, 8)] [] (by first | ((try simp only [g2653, g2654]) <;> simp only [push_cast, seval]; done) | ((try simp only [g2653]); (try simp only [g2654]); simp only [push_cast, seval]; done) | (exfalso; clear h; simp_all; done)) (by first | ((try simp only [g2653, g2654]) <;> simp only [push_cast, seval]; done) | ((try simp only [g2653]); (try simp only [g2654]); simp only [push_cast, seval]; done) | (exfalso; clear h; simp_all; done)) rfl rfl rfl)
                  · refine rs 4 [] [] (by kernel_rfl) allP_nil ?_
                    refine rf [(3, iS now), (4, .ptr 0 0), (12, .ptr 1 0), (13, .own 2 0 c4q1.length), (14, .ptr 3 0), (15, .ptr 4 0), (16, .own 5 0 c7q9.length), (17, bS p1), (18, .ptr 6 0), (19, .ptr 7 0), (22, .ptr 8 0), (134, bS (decide ((1000000000 : Int) < now)))] [(0, .row 25 (Enc.cells d)), (1, .row 25 (Enc.cells c3q6)), (2, .row 3 (fl c4q1)), (3, .row 27 (Enc.cells c5q1)), (4, .row 25 (Enc.cells c6q6)), (5, .row 3 (fl c7q9)), (6, .row 27 (Enc.cells c8q2)), (7, .row 27 (Enc.cells r2643)), (8, .row 27 (Enc.cells r2643))] 9 (by kernel_rfl) ?_
                    exact hK2652 () _ _ _ trivial (leSt_m [(0, 0), (1, 1), (2, 2), (3, 3), (4, 4), (5, 5), (6, 6), (7, 7), (8, 8)] [] (by first | ((try simp only [g2653, g2654]) <;> simp only [push_cast, seval]; done) | ((try simp only [g2653]); (try simp only [g2654]); simp only [push_cast, seval]; done) | (exfalso; clear h; simp_all; done)) (by first | ((try simp only [g2653, g2654]) <;> simp only [push_cast, seval]; done) | ((try simp only [g2653]); (try simp only [g2654]); simp only [push_cast, seval]; done) | (exfalso; clear h; simp_all; done)) rfl rfl rfl)
                · refine rs 7 [] [] (by kernel_rfl) allP_nil ?_
                  refine rf [(3, iS now), (4, .ptr 0 0), (12, .ptr 1 0), (13, .own 2 0 c4q1.length), (14, .ptr 3 0), (15, .ptr 4 0), (16, .own 5 0 c7q9.length), (17, bS p1), (18, .ptr 6 0), (19, .ptr 7 0), (22, .ptr 8 0), (134, bS false)] [(0, .row 25 (Enc.cells d)), (1, .row 25 (Enc.cells c3q6)), (2, .row 3 (fl c4q1)), (3, .row 27 (Enc.cells c5q1)), (4, .row 25 (Enc.cells c6q6)), (5, .row 3 (fl c7q9)), (6, .row 27 (Enc.cells c8q2)), (7, .row 27 (Enc.cells r2643)), (8, .row 27 (Enc.cells r2643))] 9 (by kernel_rfl) ?_
                  exact hK2652 () _ _ _ trivial (leSt_m [(0, 0), (1, 1), (2, 2), (3, 3), (4, 4), (5, 5), (6, 6), (7, 7), (8, 8)] [] (by (try simp only [g2653]) <;> simp only [push_cast, seval]) (by (try simp only [g2653]) <;> simp only [push_cast, seval]) rfl rfl rfl)
              · dsimp only
                refine cond_sx h (by kernel_rfl) (fun g2657 h => ?_) (fun g2657 h => ?_)
                · refine reg_f ?_
                  obtain ⟨r2656, hr2656, h⟩ := bind_sx h
                  refine run_call 12 [iS 3, iS (-1)] (some 135) (by kernel_rfl) ?_
                  refine call_0 (taskmillref_F_spec 3 (-1) r2656 hr2656) (by simp only [push_cast, seval]) (by simp only [push_cast, seval]) ?_
                  refine back_f ?_
                  refine rs 1 [] [] (by kernel_rfl) allP_nil ?_
                  refine rf [(3, iS now), (4, .ptr 0 0), (12, .ptr 1 0), (13, .own 2 0 c4q1.length), (14, .ptr 3 0), (15, .ptr 4 0), (16, .own 5 0 c7q9.length), (17, bS p1), (18, .ptr 6 0), (19, .ptr 7 0), (22, .ptr 8 0)] [(0, .row 25 (Enc.cells d)), (1, .row 25 (Enc.cells c3q6)), (2, .row 3 (fl c4q1)), (3, .row 27 (Enc.cells c5q1)), (4, .row 25 (Enc.cells c6q6)), (5, .row 3 (fl c7q9)), (6, .row 27 (Enc.cells c8q2)), (7, .row 27 (Enc.cells r2643)), (8, .row 27 (Enc.cells r2656))] 9 (by kernel_rfl) ?_
                  exact hK2649 (r2643, r2656) _ _ _ h (leSt_m [(0, 0), (1, 1), (2, 2), (3, 3), (4, 4), (5, 5), (6, 6), (7, 7), (8, 8)] [] (by simp only [push_cast, seval]) (by simp only [push_cast, seval]) rfl rfl rfl)
                · exact hK2649 (r2643, r2643) _ _ _ h (leSt_m [(0, 0), (1, 1), (2, 2), (3, 3), (4, 4), (5, 5), (6, 6), (7, 7), (8, 8)] [] (by simp only [push_cast, seval]) (by simp only [push_cast, seval]) rfl rfl rfl)
            · rintro ⟨c7q10, c8q3⟩ h
              try dsimp only at h ⊢
              unfold taskmilllaw_PollTimes_j8 at h
              refine seq_np ?_
              refine seq_cut (A := Unit) (fun _ => ([(3, iS now), (4, .ptr 0 0), (12, .ptr 1 0), (13, .own 2 0 c4q1.length), (15, .ptr 4 0), (16, .own 5 0 c7q9.length), (17, bS p1), (19, .ptr 7 0), (22, .ptr 8 0), (143, bS ((!((c5q1.Code == c8q3.Code) && ((c5q1.At == c8q3.At) && true))) || (!((c8q2.Code == c7q10.Code) && ((c8q2.At == c7q10.At) && true)))))], [(0, .row 25 (Enc.cells d)), (1, .row 25 (Enc.cells c3q6)), (2, .row 3 (fl c4q1)), (3, .row 27 (Enc.cells c5q1)), (4, .row 25 (Enc.cells c6q6)), (5, .row 3 (fl c7q9)), (6, .row 27 (Enc.cells c8q2)), (7, .row 27 (Enc.cells c7q10)), (8, .row 27 (Enc.cells c8q3))], 9)) (fun _ => True) (fun K2661 hK2661 => ?_) (fun _ _ => ?_)
              · refine reg_f ?_
                refine rs 4 [] [] (by kernel_rfl) allP_nil ?_
                refine run_split 139 (!((c5q1.Code == c8q3.Code) && ((c5q1.At == c8q3.At) && true))) (.inl (by kernel_rfl)) (fun g2662 => ?_) (fun g2662 => ?_)
                · refine rs 4 [] [] (by kernel_rfl) allP_nil ?_
                  refine rf [(3, iS now), (4, .ptr 0 0), (12, .ptr 1 0), (13, .own 2 0 c4q1.length), (15, .ptr 4 0), (16, .own 5 0 c7q9.length), (17, bS p1), (19, .ptr 7 0), (22, .ptr 8 0), (143, bS true)] [(0, .row 25 (Enc.cells d)), (1, .row 25 (Enc.cells c3q6)), (2, .row 3 (fl c4q1)), (3, .row 27 (Enc.cells c5q1)), (4, .row 25 (Enc.cells c6q6)), (5, .row 3 (fl c7q9)), (6, .row 27 (Enc.cells c8q2)), (7, .row 27 (Enc.cells c7q10)), (8, .row 27 (Enc.cells c8q3))] 9 (by kernel_rfl) ?_
                  exact hK2661 () _ _ _ trivial (leSt_m [(0, 0), (1, 1), (2, 2), (3, 3), (4, 4), (5, 5), (6, 6), (7, 7), (8, 8)] [] (by (try simp only [g2662]) <;> simp only [push_cast, seval]) (by (try simp only [g2662]) <;> simp only [push_cast, seval]) rfl rfl rfl)
                · refine rs 4 [] [] (by kernel_rfl) allP_nil ?_
                  refine rf [(3, iS now), (4, .ptr 0 0), (12, .ptr 1 0), (13, .own 2 0 c4q1.length), (15, .ptr 4 0), (16, .own 5 0 c7q9.length), (17, bS p1), (19, .ptr 7 0), (22, .ptr 8 0), (143, bS (!((c8q2.Code == c7q10.Code) && ((c8q2.At == c7q10.At) && true))))] [(0, .row 25 (Enc.cells d)), (1, .row 25 (Enc.cells c3q6)), (2, .row 3 (fl c4q1)), (3, .row 27 (Enc.cells c5q1)), (4, .row 25 (Enc.cells c6q6)), (5, .row 3 (fl c7q9)), (6, .row 27 (Enc.cells c8q2)), (7, .row 27 (Enc.cells c7q10)), (8, .row 27 (Enc.cells c8q3))] 9 (by kernel_rfl) ?_
                  exact hK2661 () _ _ _ trivial (leSt_m [(0, 0), (1, 1), (2, 2), (3, 3), (4, 4), (5, 5), (6, 6), (7, 7), (8, 8)] [] (by (try simp only [g2662]) <;> simp only [push_cast, seval]) (by (try simp only [g2662]) <;> simp only [push_cast, seval]) rfl rfl rfl)
              · dsimp only
                refine cond_sx h (by kernel_rfl) (fun g3453 h => ?_) (fun g3453 h => ?_)
                · refine seq_np ?_
                  refine reg_f ?_
                  refine rs 1 [] [] (by kernel_rfl) allP_nil ?_
                  refine rf [(8, bS false)] [(0, .row 25 (Enc.cells d)), (1, .row 25 (Enc.cells c3q6)), (2, .row 3 (fl c4q1)), (3, .row 27 (Enc.cells c5q1)), (4, .row 25 (Enc.cells c6q6)), (5, .row 3 (fl c7q9)), (6, .row 27 (Enc.cells c8q2)), (7, .row 27 (Enc.cells c7q10)), (8, .row 27 (Enc.cells c8q3))] 9 (by kernel_rfl) ?_
                  refine wk_id ?_
                  obtain rfl := Option.some.inj h
                  refine ret_at (bS false) (by kernel_rfl) ?_
                  exact ret_e [] [] (by simp only [push_cast, seval]) (by simp only [push_cast, seval]) rfl rfl rfl
                · refine wk_id ?_
                  refine seq_cut (A := Unit) (fun a => ([(4, .ptr 0 0), (15, .ptr 1 0), (16, .own 2 0 c7q9.length), (17, bS p1), (19, .ptr 3 0)], [(0, .row 25 (Enc.cells d)), (1, .row 25 (Enc.cells c6q6)), (2, .row 3 (fl c7q9)), (3, .row 27 (Enc.cells c7q10))], 4)) (fun a => (taskmilllaw_PollTimes_j3 d p1 c6q6 c7q9 c7q10) = some r) (fun K2799 hK2799 => ?_) ?_
                  · refine seq_np ?_
                    refine reg_f ?_
                    refine rs 3 [] [] (by kernel_rfl) allP_nil ?_
                    refine rf [(3, iS now), (4, .ptr 0 0), (12, .ptr 1 0), (13, .own 2 0 c4q1.length), (15, .ptr 4 0), (16, .own 5 0 c7q9.length), (17, bS p1), (19, .ptr 7 0), (146, bS (c8q3.Code != 0))] [(0, .row 25 (Enc.cells d)), (1, .row 25 (Enc.cells c3q6)), (2, .row 3 (fl c4q1)), (3, .row 27 (Enc.cells c5q1)), (4, .row 25 (Enc.cells c6q6)), (5, .row 3 (fl c7q9)), (6, .row 27 (Enc.cells c8q2)), (7, .row 27 (Enc.cells c7q10)), (8, .row 27 (Enc.cells c8q3))] 9 (by kernel_rfl) ?_
                    refine wk_id ?_
                    refine cond_sx h (by kernel_rfl) (fun g3285 h => ?_) (fun g3285 h => ?_)
                    · refine seq_cut (A := Unit) (fun _ => ([(4, .ptr 0 0), (15, .ptr 4 0), (16, .own 5 0 c7q9.length), (17, bS p1), (19, .ptr 7 0), (154, bS ((!((c3q6.Closed == false) && ((c3q6.Ready_e0 == false) && ((c3q6.Ready_e1 == false) && ((c3q6.Task_e0 == 0) && ((c3q6.Task_e1 == 0) && ((c3q6.Until_e0 == 0) && ((c3q6.Until_e1 == 0) && true)))))))) || (decide ((0 : Int) < ((c4q1.length : Nat) : Int)))))], [(0, .row 25 (Enc.cells d)), (1, .row 25 (Enc.cells c3q6)), (2, .row 3 (fl c4q1)), (3, .row 27 (Enc.cells c5q1)), (4, .row 25 (Enc.cells c6q6)), (5, .row 3 (fl c7q9)), (6, .row 27 (Enc.cells c8q2)), (7, .row 27 (Enc.cells c7q10)), (8, .row 27 (Enc.cells c8q3))], 9)) (fun _ => True) (fun K2801 hK2801 => ?_) (fun _ _ => ?_)
                      · refine reg_f ?_
                        refine rs 4 [] [] (by kernel_rfl) allP_nil ?_
                        refine run_split 150 (!((c3q6.Closed == false) && ((c3q6.Ready_e0 == false) && ((c3q6.Ready_e1 == false) && ((c3q6.Task_e0 == 0) && ((c3q6.Task_e1 == 0) && ((c3q6.Until_e0 == 0) && ((c3q6.Until_e1 == 0) && true)))))))) (.inl (by kernel_rfl)) (fun g2802 => ?_) (fun g2802 => ?_)
                        · refine rs 4 [] [] (by kernel_rfl) allP_nil ?_
                          refine rf [(4, .ptr 0 0), (15, .ptr 4 0), (16, .own 5 0 c7q9.length), (17, bS p1), (19, .ptr 7 0), (154, bS true)] [(0, .row 25 (Enc.cells d)), (1, .row 25 (Enc.cells c3q6)), (2, .row 3 (fl c4q1)), (3, .row 27 (Enc.cells c5q1)), (4, .row 25 (Enc.cells c6q6)), (5, .row 3 (fl c7q9)), (6, .row 27 (Enc.cells c8q2)), (7, .row 27 (Enc.cells c7q10)), (8, .row 27 (Enc.cells c8q3))] 9 (by kernel_rfl) ?_
                          exact hK2801 () _ _ _ trivial (leSt_m [(0, 0), (1, 1), (2, 2), (3, 3), (4, 4), (5, 5), (6, 6), (7, 7), (8, 8)] [] (by (try simp only [g2802]) <;> simp only [push_cast, seval]) (by (try simp only [g2802]) <;> simp only [push_cast, seval]) rfl rfl rfl)
                        · refine rs 4 [] [] (by kernel_rfl) allP_nil ?_
                          refine rf [(4, .ptr 0 0), (15, .ptr 4 0), (16, .own 5 0 c7q9.length), (17, bS p1), (19, .ptr 7 0), (154, bS (decide ((0 : Int) < ((c4q1.length : Nat) : Int))))] [(0, .row 25 (Enc.cells d)), (1, .row 25 (Enc.cells c3q6)), (2, .row 3 (fl c4q1)), (3, .row 27 (Enc.cells c5q1)), (4, .row 25 (Enc.cells c6q6)), (5, .row 3 (fl c7q9)), (6, .row 27 (Enc.cells c8q2)), (7, .row 27 (Enc.cells c7q10)), (8, .row 27 (Enc.cells c8q3))] 9 (by kernel_rfl) ?_
                          exact hK2801 () _ _ _ trivial (leSt_m [(0, 0), (1, 1), (2, 2), (3, 3), (4, 4), (5, 5), (6, 6), (7, 7), (8, 8)] [] (by (try simp only [g2802]) <;> simp only [push_cast, seval]) (by (try simp only [g2802]) <;> simp only [push_cast, seval]) rfl rfl rfl)
                      · dsimp only
                        refine cond_sx h (by kernel_rfl) (fun g2803 h => ?_) (fun g2803 h => ?_)
                        · refine seq_np ?_
                          refine reg_f ?_
                          refine rs 1 [] [] (by kernel_rfl) allP_nil ?_
                          refine rf [(8, bS false)] [(0, .row 25 (Enc.cells d)), (1, .row 25 (Enc.cells c3q6)), (2, .row 3 (fl c4q1)), (3, .row 27 (Enc.cells c5q1)), (4, .row 25 (Enc.cells c6q6)), (5, .row 3 (fl c7q9)), (6, .row 27 (Enc.cells c8q2)), (7, .row 27 (Enc.cells c7q10)), (8, .row 27 (Enc.cells c8q3))] 9 (by kernel_rfl) ?_
                          refine wk_id ?_
                          obtain rfl := Option.some.inj h
                          refine ret_at (bS false) (by kernel_rfl) ?_
                          exact ret_e [] [] (by simp only [push_cast, seval]) (by simp only [push_cast, seval]) rfl rfl rfl
                        · exact hK2799 () _ _ _ h (leSt_m [(0, 0), (1, 4), (2, 5), (3, 7)] [] (by simp only [push_cast, seval]) (by simp only [push_cast, seval]) rfl rfl rfl)
                    · refine seq_np ?_
                      refine reg_f ?_
                      refine rs 3 [] [] (by kernel_rfl) allP_nil ?_
                      refine rf [(3, iS now), (4, .ptr 0 0), (12, .ptr 1 0), (13, .own 2 0 c4q1.length), (15, .ptr 4 0), (16, .own 5 0 c7q9.length), (17, bS p1), (19, .ptr 7 0), (23, .ptr 9 0)] [(0, .row 25 (Enc.cells d)), (1, .row 25 (Enc.cells c3q6)), (2, .row 3 (fl c4q1)), (3, .row 27 (Enc.cells c5q1)), (4, .row 25 (Enc.cells c6q6)), (5, .row 3 (fl c7q9)), (6, .row 27 (Enc.cells c8q2)), (7, .row 27 (Enc.cells c7q10)), (8, .row 27 (Enc.cells c8q3)), (9, .row 25 (Enc.cells d))] 10 (by kernel_rfl) ?_
                      refine wk_id ?_
                      refine seq_np ?_
                      refine reg_f ?_
                      refine rs 1 [] [] (by kernel_rfl) allP_nil ?_
                      refine rf [(3, iS now), (4, .ptr 0 0), (12, .ptr 1 0), (13, .own 2 0 c4q1.length), (15, .ptr 4 0), (16, .own 5 0 c7q9.length), (17, bS p1), (19, .ptr 7 0), (23, .ptr 9 0), (24, .v (.slice none 0 0))] [(0, .row 25 (Enc.cells d)), (1, .row 25 (Enc.cells c3q6)), (2, .row 3 (fl c4q1)), (3, .row 27 (Enc.cells c5q1)), (4, .row 25 (Enc.cells c6q6)), (5, .row 3 (fl c7q9)), (6, .row 27 (Enc.cells c8q2)), (7, .row 27 (Enc.cells c7q10)), (8, .row 27 (Enc.cells c8q3)), (9, .row 25 (Enc.cells d))] 10 (by kernel_rfl) ?_
                      refine wk_id ?_
                      refine seq_np ?_
                      refine seq_np ?_
                      refine reg_f ?_
                      refine rs 1 [] [] (by kernel_rfl) allP_nil ?_
                      refine rf [(3, iS now), (4, .ptr 0 0), (12, .ptr 1 0), (13, .own 2 0 c4q1.length), (15, .ptr 4 0), (16, .own 5 0 c7q9.length), (17, bS p1), (19, .ptr 7 0), (23, .ptr 9 0), (24, .v (.slice none 0 0)), (25, iS 0)] [(0, .row 25 (Enc.cells d)), (1, .row 25 (Enc.cells c3q6)), (2, .row 3 (fl c4q1)), (3, .row 27 (Enc.cells c5q1)), (4, .row 25 (Enc.cells c6q6)), (5, .row 3 (fl c7q9)), (6, .row 27 (Enc.cells c8q2)), (7, .row 27 (Enc.cells c7q10)), (8, .row 27 (Enc.cells c8q3)), (9, .row 25 (Enc.cells d))] 10 (by kernel_rfl) ?_
                      refine wk_id ?_
                      refine block_np ?_
                      refine loop_sx (S := Int × Desc × (List Int)) (fun a => ([(3, iS now), (4, .ptr 0 0), (12, .ptr 1 0), (13, .own 2 0 c4q1.length), (15, .ptr 3 0), (16, .own 4 0 c7q9.length), (17, bS p1), (19, .ptr 5 0), (23, .ptr 6 0), (24, .own 7 0 a.2.2.length), (25, iS a.1)], [(0, .row 25 (Enc.cells d)), (1, .row 25 (Enc.cells c3q6)), (2, .row 3 (fl c4q1)), (3, .row 25 (Enc.cells c6q6)), (4, .row 3 (fl c7q9)), (5, .row 27 (Enc.cells c7q10)), (6, .row 25 (Enc.cells a.2.1)), (7, .row 3 (fl a.2.2))], 8)) h (leSt_m [(0, 0), (1, 1), (2, 2), (3, 4), (4, 5), (5, 7), (6, 9)] [] (by simp only [push_cast, seval]) (by simp only [push_cast, seval]) rfl rfl rfl) ?_
                      rintro ⟨i16, c6q25, c7q37⟩ o3 R3 h hr3 hn3 hx3 ht3
                      try dsimp only at h hn3 ⊢
                      unfold taskmilllaw_PollTimes_l2 at h
                      try dsimp only at h
                      refine seq_np ?_
                      refine seq_np ?_
                      refine reg_f ?_
                      refine rs 2 [] [] (by kernel_rfl) allP_nil ?_
                      refine rf [(3, iS now), (4, .ptr 0 0), (12, .ptr 1 0), (13, .own 2 0 c4q1.length), (15, .ptr 3 0), (16, .own 4 0 c7q9.length), (17, bS p1), (19, .ptr 5 0), (23, .ptr 6 0), (24, .own 7 0 c7q37.length), (25, iS i16), (157, bS (decide (i16 < 2)))] [(0, .row 25 (Enc.cells d)), (1, .row 25 (Enc.cells c3q6)), (2, .row 3 (fl c4q1)), (3, .row 25 (Enc.cells c6q6)), (4, .row 3 (fl c7q9)), (5, .row 27 (Enc.cells c7q10)), (6, .row 25 (Enc.cells c6q25)), (7, .row 3 (fl c7q37))] 8 (by kernel_rfl) ?_
                      refine wk_id ?_
                      refine cond_sx h (by kernel_rfl) (fun g3284 h => ?_) (fun g3284 h => ?_)
                      · refine wk_id ?_
                        refine seq_np ?_
                        refine block_cut (A := Desc × (List Int)) (fun a => ([(3, iS now), (4, .ptr 0 0), (12, .ptr 1 0), (13, .own 2 0 c4q1.length), (15, .ptr 3 0), (16, .own 4 0 c7q9.length), (17, bS p1), (19, .ptr 5 0), (23, .ptr 6 0), (24, .own 7 0 a.2.length), (25, iS i16)], [(0, .row 25 (Enc.cells d)), (1, .row 25 (Enc.cells c3q6)), (2, .row 3 (fl c4q1)), (3, .row 25 (Enc.cells c6q6)), (4, .row 3 (fl c7q9)), (5, .row 27 (Enc.cells c7q10)), (6, .row 25 (Enc.cells a.1)), (7, .row 3 (fl a.2))], 8)) (fun a => (taskmilllaw_PollTimes_j4 d now p1 c3q6 c4q1 c6q6 c7q9 c7q10 i16 a.1 a.2) = some o3) (fun K3222 hK3222 => ?_) ?_
                        · refine split_s h (fun g3223 h => ?_) (fun g3224 h => ?_)
                          · refine seq_cut (A := Bool) (fun a => ([(3, iS now), (4, .ptr 0 0), (12, .ptr 1 0), (13, .own 2 0 c4q1.length), (15, .ptr 3 0), (16, .own 4 0 c7q9.length), (17, bS p1), (19, .ptr 5 0), (23, .ptr 6 0), (24, .own 7 0 c7q37.length), (25, iS i16), (170, bS a)], [(0, .row 25 (Enc.cells d)), (1, .row 25 (Enc.cells c3q6)), (2, .row 3 (fl c4q1)), (3, .row 25 (Enc.cells c6q6)), (4, .row 3 (fl c7q9)), (5, .row 27 (Enc.cells c7q10)), (6, .row 25 (Enc.cells c6q25)), (7, .row 3 (fl c7q37))], 8)) (fun a => (taskmilllaw_PollTimes_j6 d now p1 c3q6 c4q1 c6q6 c7q9 c7q10 i16 c6q25 c7q37 a) = some o3) (fun K3228 hK3228 => ?_) ?_
                            · refine reg_f ?_
                              refine rs 2 [] [] (by kernel_rfl) allP_nil ?_
                              refine run_at 160 .i64 i16 0 g3223 (by kernel_rfl) ?_
                              refine rs 4 [] [] (by kernel_rfl) allP_nil ?_
                              refine run_br h 165 (.inl (by kernel_rfl)) (fun g3229 h => ?_) (fun g3229 h => ?_)
                              · refine rs 3 [] [] (by kernel_rfl) allP_nil ?_
                                obtain ⟨r3230, hr3230, h⟩ := bind_sx h
                                refine run_call 13 [.agg (Enc.cells d), iS i16, iS now] (some 169) (by kernel_rfl) ?_
                                refine call_0 (taskmilllaw_isLate_spec d i16 now r3230 hr3230) (by simp only [push_cast, seval]) (by simp only [push_cast, seval]) ?_
                                refine back_f ?_
                                refine rs 1 [] [] (by kernel_rfl) allP_nil ?_
                                refine rf [(3, iS now), (4, .ptr 0 0), (12, .ptr 1 0), (13, .own 2 0 c4q1.length), (15, .ptr 3 0), (16, .own 4 0 c7q9.length), (17, bS p1), (19, .ptr 5 0), (23, .ptr 6 0), (24, .own 7 0 c7q37.length), (25, iS i16), (170, bS r3230)] [(0, .row 25 (Enc.cells d)), (1, .row 25 (Enc.cells c3q6)), (2, .row 3 (fl c4q1)), (3, .row 25 (Enc.cells c6q6)), (4, .row 3 (fl c7q9)), (5, .row 27 (Enc.cells c7q10)), (6, .row 25 (Enc.cells c6q25)), (7, .row 3 (fl c7q37))] 8 (by kernel_rfl) ?_
                                exact hK3228 (r3230) _ _ _ h (leSt_m [(0, 0), (1, 1), (2, 2), (3, 3), (4, 4), (5, 5), (6, 6), (7, 7)] [] (by (try simp only [g3229]) <;> simp only [push_cast, seval]) (by (try simp only [g3229]) <;> simp only [push_cast, seval]) rfl rfl rfl)
                              · refine rs 5 [] [] (by kernel_rfl) allP_nil ?_
                                refine rf [(3, iS now), (4, .ptr 0 0), (12, .ptr 1 0), (13, .own 2 0 c4q1.length), (15, .ptr 3 0), (16, .own 4 0 c7q9.length), (17, bS p1), (19, .ptr 5 0), (23, .ptr 6 0), (24, .own 7 0 c7q37.length), (25, iS i16), (170, bS false)] [(0, .row 25 (Enc.cells d)), (1, .row 25 (Enc.cells c3q6)), (2, .row 3 (fl c4q1)), (3, .row 25 (Enc.cells c6q6)), (4, .row 3 (fl c7q9)), (5, .row 27 (Enc.cells c7q10)), (6, .row 25 (Enc.cells c6q25)), (7, .row 3 (fl c7q37))] 8 (by kernel_rfl) ?_
                                exact hK3228 (false) _ _ _ h (leSt_m [(0, 0), (1, 1), (2, 2), (3, 3), (4, 4), (5, 5), (6, 6), (7, 7)] [] (by (try simp only [g3229]) <;> simp only [push_cast, seval]) (by (try simp only [g3229]) <;> simp only [push_cast, seval]) rfl rfl rfl)
                            · rintro t170q37 h
                              try dsimp only at h ⊢
                              unfold taskmilllaw_PollTimes_j6 at h
                              refine cond_sx h (by kernel_rfl) (fun g3247 h => ?_) (fun g3247 h => ?_)
                              · refine split_s h (fun g3231 h => ?_) (fun g3232 h => ?_)
                                · refine chk_sx h (fun g3236 h => ?_)
                                  refine seq_np ?_
                                  refine reg_f ?_
                                  refine rs 3 [] [] (by kernel_rfl) allP_nil ?_
                                  refine run_at 172 .i64 i16 0 g3231 (by kernel_rfl) ?_
                                  have k3235 : (c7q37 ++ ([d.Task_e0] : List Int)).length * 8 ≤ 140737488355328 := by first | simpa only [Bool.and_eq_true, decide_eq_true_eq, bne_iff_ne, ne_eq] using g3236 | (simp at g3236 ⊢; omega)
                                  refine rs 5 [none, none, none, some ⟨.own 9 0 (c7q37 ++ ([d.Task_e0] : List Int)).length, [(9, .row 3 (fl (c7q37 ++ ([d.Task_e0] : List Int)))), (7, .dead)], 10, [7, 8]⟩] _ (by kernel_rfl) (allP_cons (ob_app (P := Try.prog) c7q37 ([d.Task_e0] : List Int) 1 8 rfl (appCells (fl ([d.Task_e0] : List Int)) 0 (([d.Task_e0] : List Int).length * 1)) ([d.Task_e0] : List Int).length (app_own ([d.Task_e0] : List Int) 1 rfl) rfl (0 + ([d.Task_e0] : List Int).length * 1 ≤ (fl ([d.Task_e0] : List Int)).length) (app_own_le ([d.Task_e0] : List Int) 1 rfl) 3 (by kernel_rfl) (by decide) k3235 7 9 [8]) allP_nil) ?_
                                  refine rf [(3, iS now), (4, .ptr 0 0), (12, .ptr 1 0), (13, .own 2 0 c4q1.length), (15, .ptr 3 0), (16, .own 4 0 c7q9.length), (17, bS p1), (19, .ptr 5 0), (23, .ptr 6 0), (24, .own 9 0 (c7q37 ++ ([d.Task_e0] : List Int)).length), (25, iS i16)] [(0, .row 25 (Enc.cells d)), (1, .row 25 (Enc.cells c3q6)), (2, .row 3 (fl c4q1)), (3, .row 25 (Enc.cells c6q6)), (4, .row 3 (fl c7q9)), (5, .row 27 (Enc.cells c7q10)), (6, .row 25 (Enc.cells c6q25)), (7, .dead), (8, .row 3 (fl ([d.Task_e0] : List Int))), (9, .row 3 (fl (c7q37 ++ ([d.Task_e0] : List Int))))] 10 (by kernel_rfl) ?_
                                  refine wk_id ?_
                                  refine reg_f ?_
                                  refine rs 2 [] [] (by kernel_rfl) allP_nil ?_
                                  refine run_at 178 .i64 i16 0 g3231 (by kernel_rfl) ?_
                                  refine rs 2 [] [] (by kernel_rfl) allP_nil ?_
                                  refine rf [(3, iS now), (4, .ptr 0 0), (12, .ptr 1 0), (13, .own 2 0 c4q1.length), (15, .ptr 3 0), (16, .own 4 0 c7q9.length), (17, bS p1), (19, .ptr 5 0), (23, .ptr 6 0), (24, .own 9 0 (c7q37 ++ ([d.Task_e0] : List Int)).length), (25, iS i16)] [(0, .row 25 (Enc.cells d)), (1, .row 25 (Enc.cells c3q6)), (2, .row 3 (fl c4q1)), (3, .row 25 (Enc.cells c6q6)), (4, .row 3 (fl c7q9)), (5, .row 27 (Enc.cells c7q10)), (6, .row 25 [bS c6q25.Closed, bS c6q25.Ready_e0, bS c6q25.Ready_e1, iS 0, iS c6q25.Task_e1, iS c6q25.Until_e0, iS c6q25.Until_e1]), (7, .dead), (8, .row 3 (fl ([d.Task_e0] : List Int))), (9, .row 3 (fl (c7q37 ++ ([d.Task_e0] : List Int))))] 10 (by kernel_rfl) ?_
                                  exact hK3222 ((Desc.mk c6q25.Closed c6q25.Ready_e0 c6q25.Ready_e1 0 c6q25.Task_e1 c6q25.Until_e0 c6q25.Until_e1), (c7q37 ++ ([d.Task_e0] : List Int))) _ _ _ h (leSt_m [(0, 0), (1, 1), (2, 2), (3, 3), (4, 4), (5, 5), (6, 6), (7, 9)] [] (by simp only [push_cast, seval]) (by simp only [push_cast, seval]) rfl rfl rfl)
                                refine split_s h (fun g3237 h => ?_) (fun g3238 h => ?_)
                                · refine chk_sx h (fun g3242 h => ?_)
                                  refine seq_np ?_
                                  refine reg_f ?_
                                  refine rs 3 [] [] (by kernel_rfl) allP_nil ?_
                                  refine run_at 172 .i64 i16 1 g3237 (by kernel_rfl) ?_
                                  have k3241 : (c7q37 ++ ([d.Task_e1] : List Int)).length * 8 ≤ 140737488355328 := by first | simpa only [Bool.and_eq_true, decide_eq_true_eq, bne_iff_ne, ne_eq] using g3242 | (simp at g3242 ⊢; omega)
                                  refine rs 5 [none, none, none, some ⟨.own 9 0 (c7q37 ++ ([d.Task_e1] : List Int)).length, [(9, .row 3 (fl (c7q37 ++ ([d.Task_e1] : List Int)))), (7, .dead)], 10, [7, 8]⟩] _ (by kernel_rfl) (allP_cons (ob_app (P := Try.prog) c7q37 ([d.Task_e1] : List Int) 1 8 rfl (appCells (fl ([d.Task_e1] : List Int)) 0 (([d.Task_e1] : List Int).length * 1)) ([d.Task_e1] : List Int).length (app_own ([d.Task_e1] : List Int) 1 rfl) rfl (0 + ([d.Task_e1] : List Int).length * 1 ≤ (fl ([d.Task_e1] : List Int)).length) (app_own_le ([d.Task_e1] : List Int) 1 rfl) 3 (by kernel_rfl) (by decide) k3241 7 9 [8]) allP_nil) ?_
                                  refine rf [(3, iS now), (4, .ptr 0 0), (12, .ptr 1 0), (13, .own 2 0 c4q1.length), (15, .ptr 3 0), (16, .own 4 0 c7q9.length), (17, bS p1), (19, .ptr 5 0), (23, .ptr 6 0), (24, .own 9 0 (c7q37 ++ ([d.Task_e1] : List Int)).length), (25, iS i16)] [(0, .row 25 (Enc.cells d)), (1, .row 25 (Enc.cells c3q6)), (2, .row 3 (fl c4q1)), (3, .row 25 (Enc.cells c6q6)), (4, .row 3 (fl c7q9)), (5, .row 27 (Enc.cells c7q10)), (6, .row 25 (Enc.cells c6q25)), (7, .dead), (8, .row 3 (fl ([d.Task_e1] : List Int))), (9, .row 3 (fl (c7q37 ++ ([d.Task_e1] : List Int))))] 10 (by kernel_rfl) ?_
                                  refine wk_id ?_
                                  refine reg_f ?_
                                  refine rs 2 [] [] (by kernel_rfl) allP_nil ?_
                                  refine run_at 178 .i64 i16 1 g3237 (by kernel_rfl) ?_
                                  refine rs 2 [] [] (by kernel_rfl) allP_nil ?_
                                  refine rf [(3, iS now), (4, .ptr 0 0), (12, .ptr 1 0), (13, .own 2 0 c4q1.length), (15, .ptr 3 0), (16, .own 4 0 c7q9.length), (17, bS p1), (19, .ptr 5 0), (23, .ptr 6 0), (24, .own 9 0 (c7q37 ++ ([d.Task_e1] : List Int)).length), (25, iS i16)] [(0, .row 25 (Enc.cells d)), (1, .row 25 (Enc.cells c3q6)), (2, .row 3 (fl c4q1)), (3, .row 25 (Enc.cells c6q6)), (4, .row 3 (fl c7q9)), (5, .row 27 (Enc.cells c7q10)), (6, .row 25 [bS c6q25.Closed, bS c6q25.Ready_e0, bS c6q25.Ready_e1, iS c6q25.Task_e0, iS 0, iS c6q25.Until_e0, iS c6q25.Until_e1]), (7, .dead), (8, .row 3 (fl ([d.Task_e1] : List Int))), (9, .row 3 (fl (c7q37 ++ ([d.Task_e1] : List Int))))] 10 (by kernel_rfl) ?_
                                  exact hK3222 ((Desc.mk c6q25.Closed c6q25.Ready_e0 c6q25.Ready_e1 c6q25.Task_e0 0 c6q25.Until_e0 c6q25.Until_e1), (c7q37 ++ ([d.Task_e1] : List Int))) _ _ _ h (leSt_m [(0, 0), (1, 1), (2, 2), (3, 3), (4, 4), (5, 5), (6, 6), (7, 9)] [] (by simp only [push_cast, seval]) (by simp only [push_cast, seval]) rfl rfl rfl)
                                refine chk_sx h (fun g3246 h => ?_)
                                refine seq_np ?_
                                refine reg_f ?_
                                have k3245 : 0 ≤ i16 ∧ i16 < 2 := by first | simpa only [Bool.and_eq_true, decide_eq_true_eq, bne_iff_ne, ne_eq] using g3246 | (simp at g3246 ⊢; omega)
                                exfalso
                                omega
                              · exact hK3222 (c6q25, c7q37) _ _ _ h (leSt_m [(0, 0), (1, 1), (2, 2), (3, 3), (4, 4), (5, 5), (6, 6), (7, 7)] [] (by simp only [push_cast, seval]) (by simp only [push_cast, seval]) rfl rfl rfl)
                          refine split_s h (fun g3248 h => ?_) (fun g3249 h => ?_)
                          · refine seq_cut (A := Bool) (fun a => ([(3, iS now), (4, .ptr 0 0), (12, .ptr 1 0), (13, .own 2 0 c4q1.length), (15, .ptr 3 0), (16, .own 4 0 c7q9.length), (17, bS p1), (19, .ptr 5 0), (23, .ptr 6 0), (24, .own 7 0 c7q37.length), (25, iS i16), (170, bS a)], [(0, .row 25 (Enc.cells d)), (1, .row 25 (Enc.cells c3q6)), (2, .row 3 (fl c4q1)), (3, .row 25 (Enc.cells c6q6)), (4, .row 3 (fl c7q9)), (5, .row 27 (Enc.cells c7q10)), (6, .row 25 (Enc.cells c6q25)), (7, .row 3 (fl c7q37))], 8)) (fun a => (taskmilllaw_PollTimes_j5 d now p1 c3q6 c4q1 c6q6 c7q9 c7q10 i16 c6q25 c7q37 a) = some o3) (fun K3253 hK3253 => ?_) ?_
                            · refine reg_f ?_
                              refine rs 2 [] [] (by kernel_rfl) allP_nil ?_
                              refine run_at 160 .i64 i16 1 g3248 (by kernel_rfl) ?_
                              refine rs 4 [] [] (by kernel_rfl) allP_nil ?_
                              refine run_br h 165 (.inl (by kernel_rfl)) (fun g3254 h => ?_) (fun g3254 h => ?_)
                              · refine rs 3 [] [] (by kernel_rfl) allP_nil ?_
                                obtain ⟨r3255, hr3255, h⟩ := bind_sx h
                                refine run_call 13 [.agg (Enc.cells d), iS i16, iS now] (some 169) (by kernel_rfl) ?_
                                refine call_0 (taskmilllaw_isLate_spec d i16 now r3255 hr3255) (by simp only [push_cast, seval]) (by simp only [push_cast, seval]) ?_
                                refine back_f ?_
                                refine rs 1 [] [] (by kernel_rfl) allP_nil ?_
                                refine rf [(3, iS now), (4, .ptr 0 0), (12, .ptr 1 0), (13, .own 2 0 c4q1.length), (15, .ptr 3 0), (16, .own 4 0 c7q9.length), (17, bS p1), (19, .ptr 5 0), (23, .ptr 6 0), (24, .own 7 0 c7q37.length), (25, iS i16), (170, bS r3255)] [(0, .row 25 (Enc.cells d)), (1, .row 25 (Enc.cells c3q6)), (2, .row 3 (fl c4q1)), (3, .row 25 (Enc.cells c6q6)), (4, .row 3 (fl c7q9)), (5, .row 27 (Enc.cells c7q10)), (6, .row 25 (Enc.cells c6q25)), (7, .row 3 (fl c7q37))] 8 (by kernel_rfl) ?_
                                exact hK3253 (r3255) _ _ _ h (leSt_m [(0, 0), (1, 1), (2, 2), (3, 3), (4, 4), (5, 5), (6, 6), (7, 7)] [] (by (try simp only [g3254]) <;> simp only [push_cast, seval]) (by (try simp only [g3254]) <;> simp only [push_cast, seval]) rfl rfl rfl)
                              · refine rs 5 [] [] (by kernel_rfl) allP_nil ?_
                                refine rf [(3, iS now), (4, .ptr 0 0), (12, .ptr 1 0), (13, .own 2 0 c4q1.length), (15, .ptr 3 0), (16, .own 4 0 c7q9.length), (17, bS p1), (19, .ptr 5 0), (23, .ptr 6 0), (24, .own 7 0 c7q37.length), (25, iS i16), (170, bS false)] [(0, .row 25 (Enc.cells d)), (1, .row 25 (Enc.cells c3q6)), (2, .row 3 (fl c4q1)), (3, .row 25 (Enc.cells c6q6)), (4, .row 3 (fl c7q9)), (5, .row 27 (Enc.cells c7q10)), (6, .row 25 (Enc.cells c6q25)), (7, .row 3 (fl c7q37))] 8 (by kernel_rfl) ?_
                                exact hK3253 (false) _ _ _ h (leSt_m [(0, 0), (1, 1), (2, 2), (3, 3), (4, 4), (5, 5), (6, 6), (7, 7)] [] (by (try simp only [g3254]) <;> simp only [push_cast, seval]) (by (try simp only [g3254]) <;> simp only [push_cast, seval]) rfl rfl rfl)
                            · rintro t170q38 h
                              try dsimp only at h ⊢
                              unfold taskmilllaw_PollTimes_j5 at h
                              refine cond_sx h (by kernel_rfl) (fun g3272 h => ?_) (fun g3272 h => ?_)
                              · refine split_s h (fun g3256 h => ?_) (fun g3257 h => ?_)
                                · refine chk_sx h (fun g3261 h => ?_)
                                  refine seq_np ?_
                                  refine reg_f ?_
                                  refine rs 3 [] [] (by kernel_rfl) allP_nil ?_
                                  refine run_at 172 .i64 i16 0 g3256 (by kernel_rfl) ?_
                                  have k3260 : (c7q37 ++ ([d.Task_e0] : List Int)).length * 8 ≤ 140737488355328 := by first | simpa only [Bool.and_eq_true, decide_eq_true_eq, bne_iff_ne, ne_eq] using g3261 | (simp at g3261 ⊢; omega)
                                  refine rs 5 [none, none, none, some ⟨.own 9 0 (c7q37 ++ ([d.Task_e0] : List Int)).length, [(9, .row 3 (fl (c7q37 ++ ([d.Task_e0] : List Int)))), (7, .dead)], 10, [7, 8]⟩] _ (by kernel_rfl) (allP_cons (ob_app (P := Try.prog) c7q37 ([d.Task_e0] : List Int) 1 8 rfl (appCells (fl ([d.Task_e0] : List Int)) 0 (([d.Task_e0] : List Int).length * 1)) ([d.Task_e0] : List Int).length (app_own ([d.Task_e0] : List Int) 1 rfl) rfl (0 + ([d.Task_e0] : List Int).length * 1 ≤ (fl ([d.Task_e0] : List Int)).length) (app_own_le ([d.Task_e0] : List Int) 1 rfl) 3 (by kernel_rfl) (by decide) k3260 7 9 [8]) allP_nil) ?_
                                  refine rf [(3, iS now), (4, .ptr 0 0), (12, .ptr 1 0), (13, .own 2 0 c4q1.length), (15, .ptr 3 0), (16, .own 4 0 c7q9.length), (17, bS p1), (19, .ptr 5 0), (23, .ptr 6 0), (24, .own 9 0 (c7q37 ++ ([d.Task_e0] : List Int)).length), (25, iS i16)] [(0, .row 25 (Enc.cells d)), (1, .row 25 (Enc.cells c3q6)), (2, .row 3 (fl c4q1)), (3, .row 25 (Enc.cells c6q6)), (4, .row 3 (fl c7q9)), (5, .row 27 (Enc.cells c7q10)), (6, .row 25 (Enc.cells c6q25)), (7, .dead), (8, .row 3 (fl ([d.Task_e0] : List Int))), (9, .row 3 (fl (c7q37 ++ ([d.Task_e0] : List Int))))] 10 (by kernel_rfl) ?_
                                  refine wk_id ?_
                                  refine reg_f ?_
                                  refine rs 2 [] [] (by kernel_rfl) allP_nil ?_
                                  refine run_at 178 .i64 i16 0 g3256 (by kernel_rfl) ?_
                                  refine rs 2 [] [] (by kernel_rfl) allP_nil ?_
                                  refine rf [(3, iS now), (4, .ptr 0 0), (12, .ptr 1 0), (13, .own 2 0 c4q1.length), (15, .ptr 3 0), (16, .own 4 0 c7q9.length), (17, bS p1), (19, .ptr 5 0), (23, .ptr 6 0), (24, .own 9 0 (c7q37 ++ ([d.Task_e0] : List Int)).length), (25, iS i16)] [(0, .row 25 (Enc.cells d)), (1, .row 25 (Enc.cells c3q6)), (2, .row 3 (fl c4q1)), (3, .row 25 (Enc.cells c6q6)), (4, .row 3 (fl c7q9)), (5, .row 27 (Enc.cells c7q10)), (6, .row 25 [bS c6q25.Closed, bS c6q25.Ready_e0, bS c6q25.Ready_e1, iS 0, iS c6q25.Task_e1, iS c6q25.Until_e0, iS c6q25.Until_e1]), (7, .dead), (8, .row 3 (fl ([d.Task_e0] : List Int))), (9, .row 3 (fl (c7q37 ++ ([d.Task_e0] : List Int))))] 10 (by kernel_rfl) ?_
                                  exact hK3222 ((Desc.mk c6q25.Closed c6q25.Ready_e0 c6q25.Ready_e1 0 c6q25.Task_e1 c6q25.Until_e0 c6q25.Until_e1), (c7q37 ++ ([d.Task_e0] : List Int))) _ _ _ h (leSt_m [(0, 0), (1, 1), (2, 2), (3, 3), (4, 4), (5, 5), (6, 6), (7, 9)] [] (by simp only [push_cast, seval]) (by simp only [push_cast, seval]) rfl rfl rfl)
                                refine split_s h (fun g3262 h => ?_) (fun g3263 h => ?_)
                                · refine chk_sx h (fun g3267 h => ?_)
                                  refine seq_np ?_
                                  refine reg_f ?_
                                  refine rs 3 [] [] (by kernel_rfl) allP_nil ?_
                                  refine run_at 172 .i64 i16 1 g3262 (by kernel_rfl) ?_
                                  have k3266 : (c7q37 ++ ([d.Task_e1] : List Int)).length * 8 ≤ 140737488355328 := by first | simpa only [Bool.and_eq_true, decide_eq_true_eq, bne_iff_ne, ne_eq] using g3267 | (simp at g3267 ⊢; omega)
                                  refine rs 5 [none, none, none, some ⟨.own 9 0 (c7q37 ++ ([d.Task_e1] : List Int)).length, [(9, .row 3 (fl (c7q37 ++ ([d.Task_e1] : List Int)))), (7, .dead)], 10, [7, 8]⟩] _ (by kernel_rfl) (allP_cons (ob_app (P := Try.prog) c7q37 ([d.Task_e1] : List Int) 1 8 rfl (appCells (fl ([d.Task_e1] : List Int)) 0 (([d.Task_e1] : List Int).length * 1)) ([d.Task_e1] : List Int).length (app_own ([d.Task_e1] : List Int) 1 rfl) rfl (0 + ([d.Task_e1] : List Int).length * 1 ≤ (fl ([d.Task_e1] : List Int)).length) (app_own_le ([d.Task_e1] : List Int) 1 rfl) 3 (by kernel_rfl) (by decide) k3266 7 9 [8]) allP_nil) ?_
                                  refine rf [(3, iS now), (4, .ptr 0 0), (12, .ptr 1 0), (13, .own 2 0 c4q1.length), (15, .ptr 3 0), (16, .own 4 0 c7q9.length), (17, bS p1), (19, .ptr 5 0), (23, .ptr 6 0), (24, .own 9 0 (c7q37 ++ ([d.Task_e1] : List Int)).length), (25, iS i16)] [(0, .row 25 (Enc.cells d)), (1, .row 25 (Enc.cells c3q6)), (2, .row 3 (fl c4q1)), (3, .row 25 (Enc.cells c6q6)), (4, .row 3 (fl c7q9)), (5, .row 27 (Enc.cells c7q10)), (6, .row 25 (Enc.cells c6q25)), (7, .dead), (8, .row 3 (fl ([d.Task_e1] : List Int))), (9, .row 3 (fl (c7q37 ++ ([d.Task_e1] : List Int))))] 10 (by kernel_rfl) ?_
                                  refine wk_id ?_
                                  refine reg_f ?_
                                  refine rs 2 [] [] (by kernel_rfl) allP_nil ?_
                                  refine run_at 178 .i64 i16 1 g3262 (by kernel_rfl) ?_
                                  refine rs 2 [] [] (by kernel_rfl) allP_nil ?_
                                  refine rf [(3, iS now), (4, .ptr 0 0), (12, .ptr 1 0), (13, .own 2 0 c4q1.length), (15, .ptr 3 0), (16, .own 4 0 c7q9.length), (17, bS p1), (19, .ptr 5 0), (23, .ptr 6 0), (24, .own 9 0 (c7q37 ++ ([d.Task_e1] : List Int)).length), (25, iS i16)] [(0, .row 25 (Enc.cells d)), (1, .row 25 (Enc.cells c3q6)), (2, .row 3 (fl c4q1)), (3, .row 25 (Enc.cells c6q6)), (4, .row 3 (fl c7q9)), (5, .row 27 (Enc.cells c7q10)), (6, .row 25 [bS c6q25.Closed, bS c6q25.Ready_e0, bS c6q25.Ready_e1, iS c6q25.Task_e0, iS 0, iS c6q25.Until_e0, iS c6q25.Until_e1]), (7, .dead), (8, .row 3 (fl ([d.Task_e1] : List Int))), (9, .row 3 (fl (c7q37 ++ ([d.Task_e1] : List Int))))] 10 (by kernel_rfl) ?_
                                  exact hK3222 ((Desc.mk c6q25.Closed c6q25.Ready_e0 c6q25.Ready_e1 c6q25.Task_e0 0 c6q25.Until_e0 c6q25.Until_e1), (c7q37 ++ ([d.Task_e1] : List Int))) _ _ _ h (leSt_m [(0, 0), (1, 1), (2, 2), (3, 3), (4, 4), (5, 5), (6, 6), (7, 9)] [] (by simp only [push_cast, seval]) (by simp only [push_cast, seval]) rfl rfl rfl)
                                refine chk_sx h (fun g3271 h => ?_)
                                refine seq_np ?_
                                refine reg_f ?_
                                have k3270 : 0 ≤ i16 ∧ i16 < 2 := by first | simpa only [Bool.and_eq_true, decide_eq_true_eq, bne_iff_ne, ne_eq] using g3271 | (simp at g3271 ⊢; omega)
                                exfalso
                                omega
                              · exact hK3222 (c6q25, c7q37) _ _ _ h (leSt_m [(0, 0), (1, 1), (2, 2), (3, 3), (4, 4), (5, 5), (6, 6), (7, 7)] [] (by simp only [push_cast, seval]) (by simp only [push_cast, seval]) rfl rfl rfl)
                          refine chk_sx h (fun g3276 h => ?_)
                          refine seq_np ?_
                          refine reg_f ?_
                          have k3275 : 0 ≤ i16 ∧ i16 < 2 := by first | simpa only [Bool.and_eq_true, decide_eq_true_eq, bne_iff_ne, ne_eq] using g3276 | (simp at g3276 ⊢; omega)
                          exfalso
                          omega
                        · rintro ⟨c6q27, c7q39⟩ h
                          try dsimp only at h ⊢
                          unfold taskmilllaw_PollTimes_j4 at h
                          refine wk_id ?_
                          refine reg_f ?_
                          refine rs 3 [] [] (by kernel_rfl) allP_nil ?_
                          refine rf [(3, iS now), (4, .ptr 0 0), (12, .ptr 1 0), (13, .own 2 0 c4q1.length), (15, .ptr 3 0), (16, .own 4 0 c7q9.length), (17, bS p1), (19, .ptr 5 0), (23, .ptr 6 0), (24, .own 7 0 c7q39.length), (25, iS (IntKind.i64.wrap (i16 + 1)))] [(0, .row 25 (Enc.cells d)), (1, .row 25 (Enc.cells c3q6)), (2, .row 3 (fl c4q1)), (3, .row 25 (Enc.cells c6q6)), (4, .row 3 (fl c7q9)), (5, .row 27 (Enc.cells c7q10)), (6, .row 25 (Enc.cells c6q27)), (7, .row 3 (fl c7q39))] 8 (by kernel_rfl) ?_
                          exact hn3 ((IntKind.i64.wrap (i16 + 1)), c6q27, c7q39) _ _ _ (Option.some.inj h).symm (leSt_m [(0, 0), (1, 1), (2, 2), (3, 3), (4, 4), (5, 5), (6, 6), (7, 7)] [] (by simp only [push_cast, seval]) (by simp only [push_cast, seval]) rfl rfl rfl)
                      · change R3 (.exit 0) _ _ _
                        refine ex_cast hx3 (id := 0) ?_
                        obtain ⟨r0, h, e0⟩ := map_sx h
                        have e1 := hr3 r0 e0.symm
                        subst r0
                        refine wk_id ?_
                        refine wk_id ?_
                        refine seq_cut (A := Bool) (fun a => ([(4, .ptr 0 0), (15, .ptr 1 0), (16, .own 2 0 c7q9.length), (17, bS p1), (19, .ptr 3 0), (189, bS a)], [(0, .row 25 (Enc.cells d)), (1, .row 25 (Enc.cells c6q6)), (2, .row 3 (fl c7q9)), (3, .row 27 (Enc.cells c7q10))], 4)) (fun a => (taskmilllaw_PollTimes_j7 d p1 c6q6 c7q9 c7q10 a) = some r) (fun K3280 hK3280 => ?_) ?_
                        · refine reg_f ?_
                          refine rs 4 [] [] (by kernel_rfl) allP_nil ?_
                          refine run_br h 184 (.inl (by kernel_rfl)) (fun g3281 h => ?_) (fun g3281 h => ?_)
                          · refine rs 5 [] [] (by kernel_rfl) allP_nil ?_
                            refine rf [(4, .ptr 0 0), (15, .ptr 3 0), (16, .own 4 0 c7q9.length), (17, bS p1), (19, .ptr 5 0), (189, bS true)] [(0, .row 25 (Enc.cells d)), (1, .row 25 (Enc.cells c3q6)), (2, .row 3 (fl c4q1)), (3, .row 25 (Enc.cells c6q6)), (4, .row 3 (fl c7q9)), (5, .row 27 (Enc.cells c7q10)), (6, .row 25 (Enc.cells c6q25)), (7, .row 3 (fl c7q37))] 8 (by kernel_rfl) ?_
                            exact hK3280 (true) _ _ _ h (leSt_m [(0, 0), (1, 3), (2, 4), (3, 5)] [] (by (try simp only [g3281]) <;> simp only [push_cast, seval]) (by (try simp only [g3281]) <;> simp only [push_cast, seval]) rfl rfl rfl)
                          · refine rs 2 [] [] (by kernel_rfl) allP_nil ?_
                            obtain ⟨r3282, hr3282, h⟩ := bind_sx h
                            refine call_x (taskmillref_Ints_spec c4q1 c7q37 r3282 hr3282) (args := [.own 2 0 c4q1.length, .own 7 0 c7q37.length]) (dst := (some 187)) (by kernel_rfl) [(0, .row 25 (Enc.cells d)), (1, .row 25 (Enc.cells c3q6)), (2, .row 3 (fl c4q1)), (3, .row 25 (Enc.cells c6q6)), (4, .row 3 (fl c7q9)), (5, .row 27 (Enc.cells c7q10)), (6, .row 25 (Enc.cells c6q25)), (7, .row 3 (fl c7q37))] 8 (by kernel_rfl) [] [2, 7] (bS r3282) [] (by simp only [push_cast, seval]) (by simp only [push_cast, seval]) (by kernel_rfl) (.inr ⟨by simp only [push_cast, seval], by simp only [push_cast, seval]⟩) (by simp only [push_cast, seval]) (by simp only [push_cast, seval]) ?_
                            refine rs 2 [] [] (by kernel_rfl) allP_nil ?_
                            refine rf [(4, .ptr 0 0), (15, .ptr 3 0), (16, .own 4 0 c7q9.length), (17, bS p1), (19, .ptr 5 0), (189, bS (!r3282))] [(0, .row 25 (Enc.cells d)), (1, .row 25 (Enc.cells c3q6)), (2, .row 3 (fl c4q1)), (3, .row 25 (Enc.cells c6q6)), (4, .row 3 (fl c7q9)), (5, .row 27 (Enc.cells c7q10)), (6, .row 25 (Enc.cells c6q25)), (7, .row 3 (fl c7q37))] 8 (by kernel_rfl) ?_
                            exact hK3280 ((!r3282)) _ _ _ h (leSt_m [(0, 0), (1, 3), (2, 4), (3, 5)] [] (by (try simp only [g3281]) <;> simp only [push_cast, seval]) (by (try simp only [g3281]) <;> simp only [push_cast, seval]) rfl rfl rfl)
                        · rintro t189q2 h
                          try dsimp only at h ⊢
                          unfold taskmilllaw_PollTimes_j7 at h
                          refine cond_sx h (by kernel_rfl) (fun g3283 h => ?_) (fun g3283 h => ?_)
                          · refine seq_np ?_
                            refine reg_f ?_
                            refine rs 1 [] [] (by kernel_rfl) allP_nil ?_
                            refine rf [(8, bS false)] [(0, .row 25 (Enc.cells d)), (1, .row 25 (Enc.cells c6q6)), (2, .row 3 (fl c7q9)), (3, .row 27 (Enc.cells c7q10))] 4 (by kernel_rfl) ?_
                            refine wk_id ?_
                            obtain rfl := Option.some.inj h
                            refine ret_at (bS false) (by kernel_rfl) ?_
                            exact ret_e [] [] (by simp only [push_cast, seval]) (by simp only [push_cast, seval]) rfl rfl rfl
                          · exact hK2799 () _ _ _ h (leSt_m [(0, 0), (1, 1), (2, 2), (3, 3)] [] (by simp only [push_cast, seval]) (by simp only [push_cast, seval]) rfl rfl rfl)
                  · rintro _ h
                    try dsimp only at h ⊢
                    unfold taskmilllaw_PollTimes_j3 at h
                    refine seq_np ?_
                    refine seq_np ?_
                    refine reg_f ?_
                    refine rs 3 [] [] (by kernel_rfl) allP_nil ?_
                    refine rf [(4, .ptr 0 0), (15, .ptr 1 0), (16, .own 2 0 c7q9.length), (17, bS p1), (192, bS (c7q10.Code != 0))] [(0, .row 25 (Enc.cells d)), (1, .row 25 (Enc.cells c6q6)), (2, .row 3 (fl c7q9)), (3, .row 27 (Enc.cells c7q10))] 4 (by kernel_rfl) ?_
                    refine wk_id ?_
                    refine cond_sx h (by kernel_rfl) (fun g3452 h => ?_) (fun g3452 h => ?_)
                    · refine seq_cut (A := Unit) (fun _ => ([(8, bS (((c6q6.Closed == false) && ((c6q6.Ready_e0 == false) && ((c6q6.Ready_e1 == false) && ((c6q6.Task_e0 == 0) && ((c6q6.Task_e1 == 0) && ((c6q6.Until_e0 == 0) && ((c6q6.Until_e1 == 0) && true))))))) && ((((c7q9.length : Nat) : Int) == 0) && (!p1))))], [(0, .row 25 (Enc.cells d)), (1, .row 25 (Enc.cells c6q6)), (2, .row 3 (fl c7q9)), (3, .row 27 (Enc.cells c7q10))], 4)) (fun _ => True) (fun K3291 hK3291 => ?_) (fun _ _ => ?_)
                      · refine reg_f ?_
                        refine rs 4 [] [] (by kernel_rfl) allP_nil ?_
                        refine run_split 196 ((c6q6.Closed == false) && ((c6q6.Ready_e0 == false) && ((c6q6.Ready_e1 == false) && ((c6q6.Task_e0 == 0) && ((c6q6.Task_e1 == 0) && ((c6q6.Until_e0 == 0) && ((c6q6.Until_e1 == 0) && true))))))) (.inl (by kernel_rfl)) (fun g3292 => ?_) (fun g3292 => ?_)
                        · refine rs 5 [] [] (by kernel_rfl) allP_nil ?_
                          refine run_split 201 (((c7q9.length : Nat) : Int) == 0) (.inl (by kernel_rfl)) (fun g3293 => ?_) (fun g3293 => ?_)
                          · refine rs 4 [] [] (by kernel_rfl) allP_nil ?_
                            refine rf [(8, bS (!p1))] [(0, .row 25 (Enc.cells d)), (1, .row 25 (Enc.cells c6q6)), (2, .row 3 (fl c7q9)), (3, .row 27 (Enc.cells c7q10))] 4 (by kernel_rfl) ?_
                            exact hK3291 () _ _ _ trivial (leSt_m [(0, 0), (1, 1), (2, 2), (3, 3)] [] (by first | ((try simp only [g3292, g3293]) <;> simp only [push_cast, seval]; done) | ((try simp only [g3292]); (try simp only [g3293]); simp only [push_cast, seval]; done) | (exfalso; clear h; simp_all; done)) (by first | ((try simp only [g3292, g3293]) <;> simp only [push_cast, seval]; done) | ((try simp only [g3292]); (try simp only [g3293]); simp only [push_cast, seval]; done) | (exfalso; clear h; simp_all; done)) rfl rfl rfl)
                          · refine rs 4 [] [] (by kernel_rfl) allP_nil ?_
                            refine rf [(8, bS false)] [(0, .row 25 (Enc.cells d)), (1, .row 25 (Enc.cells c6q6)), (2, .row 3 (fl c7q9)), (3, .row 27 (Enc.cells c7q10))] 4 (by kernel_rfl) ?_
                            exact hK3291 () _ _ _ trivial (leSt_m [(0, 0), (1, 1), (2, 2), (3, 3)] [] (by first | ((try simp only [g3292, g3293]) <;> simp only [push_cast, seval]; done) | ((try simp only [g3292]); (try simp only [g3293]); simp only [push_cast, seval]; done) | (exfalso; clear h; simp_all; done)) (by first | ((try simp only [g3292, g3293]) <;> simp only [push_cast, seval]; done) | ((try simp only [g3292]); (try simp only [g3293]); simp only [push_cast, seval]; done) | (exfalso; clear h; simp_all; done)) rfl rfl rfl)
                        · refine rs 9 [] [] (by kernel_rfl) allP_nil ?_
                          refine rf [(8, bS false)] [(0, .row 25 (Enc.cells d)), (1, .row 25 (Enc.cells c6q6)), (2, .row 3 (fl c7q9)), (3, .row 27 (Enc.cells c7q10))] 4 (by kernel_rfl) ?_
                          exact hK3291 () _ _ _ trivial (leSt_m [(0, 0), (1, 1), (2, 2), (3, 3)] [] (by (try simp only [g3292]) <;> simp only [push_cast, seval]) (by (try simp only [g3292]) <;> simp only [push_cast, seval]) rfl rfl rfl)
                      · dsimp only
                        obtain rfl := Option.some.inj h
                        refine ret_at (bS (((c6q6.Closed == false) && ((c6q6.Ready_e0 == false) && ((c6q6.Ready_e1 == false) && ((c6q6.Task_e0 == 0) && ((c6q6.Task_e1 == 0) && ((c6q6.Until_e0 == 0) && ((c6q6.Until_e1 == 0) && true))))))) && ((((c7q9.length : Nat) : Int) == 0) && (!p1)))) (by kernel_rfl) ?_
                        exact ret_e [] [] (by simp only [push_cast, seval]) (by simp only [push_cast, seval]) rfl rfl rfl
                    · refine wk_id ?_
                      refine seq_np ?_
                      refine seq_np ?_
                      refine reg_f ?_
                      refine rs 2 [] [] (by kernel_rfl) allP_nil ?_
                      refine rf [(4, .ptr 0 0), (15, .ptr 1 0), (16, .own 2 0 c7q9.length), (17, bS p1), (206, bS d.Closed)] [(0, .row 25 (Enc.cells d)), (1, .row 25 (Enc.cells c6q6)), (2, .row 3 (fl c7q9)), (3, .row 27 (Enc.cells c7q10))] 4 (by kernel_rfl) ?_
                      refine wk_id ?_
                      refine cond_sx h (by kernel_rfl) (fun g3451 h => ?_) (fun g3451 h => ?_)
                      · refine seq_cut (A := Unit) (fun _ => ([(8, bS (((c6q6.Closed == d.Closed) && ((c6q6.Ready_e0 == d.Ready_e0) && ((c6q6.Ready_e1 == d.Ready_e1) && ((c6q6.Task_e0 == d.Task_e0) && ((c6q6.Task_e1 == d.Task_e1) && ((c6q6.Until_e0 == d.Until_e0) && ((c6q6.Until_e1 == d.Until_e1) && true))))))) && ((((c7q9.length : Nat) : Int) == 0) && p1)))], [(0, .row 25 (Enc.cells d)), (1, .row 25 (Enc.cells c6q6)), (2, .row 3 (fl c7q9)), (3, .row 27 (Enc.cells c7q10))], 4)) (fun _ => True) (fun K3299 hK3299 => ?_) (fun _ _ => ?_)
                        · refine reg_f ?_
                          refine rs 4 [] [] (by kernel_rfl) allP_nil ?_
                          refine run_split 210 ((c6q6.Closed == d.Closed) && ((c6q6.Ready_e0 == d.Ready_e0) && ((c6q6.Ready_e1 == d.Ready_e1) && ((c6q6.Task_e0 == d.Task_e0) && ((c6q6.Task_e1 == d.Task_e1) && ((c6q6.Until_e0 == d.Until_e0) && ((c6q6.Until_e1 == d.Until_e1) && true))))))) (.inl (by kernel_rfl)) (fun g3300 => ?_) (fun g3300 => ?_)
                          · refine rs 5 [] [] (by kernel_rfl) allP_nil ?_
                            refine run_split 215 (((c7q9.length : Nat) : Int) == 0) (.inl (by kernel_rfl)) (fun g3301 => ?_) (fun g3301 => ?_)
                            · refine rs 3 [] [] (by kernel_rfl) allP_nil ?_
                              refine rf [(8, bS p1)] [(0, .row 25 (Enc.cells d)), (1, .row 25 (Enc.cells c6q6)), (2, .row 3 (fl c7q9)), (3, .row 27 (Enc.cells c7q10))] 4 (by kernel_rfl) ?_
                              exact hK3299 () _ _ _ trivial (leSt_m [(0, 0), (1, 1), (2, 2), (3, 3)] [] (by first | ((try simp only [g3300, g3301]) <;> simp only [push_cast, seval]; done) | ((try simp only [g3300]); (try simp only [g3301]); simp only [push_cast, seval]; done) | (exfalso; clear h; simp_all; done)) (by first | ((try simp only [g3300, g3301]) <;> simp only [push_cast, seval]; done) | ((try simp only [g3300]); (try simp only [g3301]); simp only [push_cast, seval]; done) | (exfalso; clear h; simp_all; done)) rfl rfl rfl)
                            · refine rs 3 [] [] (by kernel_rfl) allP_nil ?_
                              refine rf [(8, bS false)] [(0, .row 25 (Enc.cells d)), (1, .row 25 (Enc.cells c6q6)), (2, .row 3 (fl c7q9)), (3, .row 27 (Enc.cells c7q10))] 4 (by kernel_rfl) ?_
                              exact hK3299 () _ _ _ trivial (leSt_m [(0, 0), (1, 1), (2, 2), (3, 3)] [] (by first | ((try simp only [g3300, g3301]) <;> simp only [push_cast, seval]; done) | ((try simp only [g3300]); (try simp only [g3301]); simp only [push_cast, seval]; done) | (exfalso; clear h; simp_all; done)) (by first | ((try simp only [g3300, g3301]) <;> simp only [push_cast, seval]; done) | ((try simp only [g3300]); (try simp only [g3301]); simp only [push_cast, seval]; done) | (exfalso; clear h; simp_all; done)) rfl rfl rfl)
                          · refine rs 8 [] [] (by kernel_rfl) allP_nil ?_
                            refine rf [(8, bS false)] [(0, .row 25 (Enc.cells d)), (1, .row 25 (Enc.cells c6q6)), (2, .row 3 (fl c7q9)), (3, .row 27 (Enc.cells c7q10))] 4 (by kernel_rfl) ?_
                            exact hK3299 () _ _ _ trivial (leSt_m [(0, 0), (1, 1), (2, 2), (3, 3)] [] (by (try simp only [g3300]) <;> simp only [push_cast, seval]) (by (try simp only [g3300]) <;> simp only [push_cast, seval]) rfl rfl rfl)
                        · dsimp only
                          obtain rfl := Option.some.inj h
                          refine ret_at (bS (((c6q6.Closed == d.Closed) && ((c6q6.Ready_e0 == d.Ready_e0) && ((c6q6.Ready_e1 == d.Ready_e1) && ((c6q6.Task_e0 == d.Task_e0) && ((c6q6.Task_e1 == d.Task_e1) && ((c6q6.Until_e0 == d.Until_e0) && ((c6q6.Until_e1 == d.Until_e1) && true))))))) && ((((c7q9.length : Nat) : Int) == 0) && p1))) (by kernel_rfl) ?_
                          exact ret_e [] [] (by simp only [push_cast, seval]) (by simp only [push_cast, seval]) rfl rfl rfl
                      · refine wk_id ?_
                        refine seq_np ?_
                        refine reg_f ?_
                        refine rs 1 [] [] (by kernel_rfl) allP_nil ?_
                        refine rf [(4, .ptr 0 0), (15, .ptr 1 0), (16, .own 2 0 c7q9.length), (17, bS p1), (26, .v (.slice none 0 0))] [(0, .row 25 (Enc.cells d)), (1, .row 25 (Enc.cells c6q6)), (2, .row 3 (fl c7q9)), (3, .row 27 (Enc.cells c7q10))] 4 (by kernel_rfl) ?_
                        refine wk_id ?_
                        refine seq_np ?_
                        refine seq_np ?_
                        refine reg_f ?_
                        refine rs 1 [] [] (by kernel_rfl) allP_nil ?_
                        refine rf [(4, .ptr 0 0), (15, .ptr 1 0), (16, .own 2 0 c7q9.length), (17, bS p1), (26, .v (.slice none 0 0)), (27, iS 0)] [(0, .row 25 (Enc.cells d)), (1, .row 25 (Enc.cells c6q6)), (2, .row 3 (fl c7q9)), (3, .row 27 (Enc.cells c7q10))] 4 (by kernel_rfl) ?_
                        refine wk_id ?_
                        refine block_np ?_
                        refine loop_sx (S := Int × (List Int)) (fun a => ([(4, .ptr 0 0), (15, .ptr 1 0), (16, .own 2 0 c7q9.length), (17, bS p1), (26, .own 3 0 a.2.length), (27, iS a.1)], [(0, .row 25 (Enc.cells d)), (1, .row 25 (Enc.cells c6q6)), (2, .row 3 (fl c7q9)), (3, .row 3 (fl a.2))], 4)) h (leSt_m [(0, 0), (1, 1), (2, 2)] [] (by simp only [push_cast, seval]) (by simp only [push_cast, seval]) rfl rfl rfl) ?_
                        rintro ⟨i22, c3q20⟩ o4 R4 h hr4 hn4 hx4 ht4
                        try dsimp only at h hn4 ⊢
                        unfold taskmilllaw_PollTimes_l1 at h
                        try dsimp only at h
                        refine seq_np ?_
                        refine seq_np ?_
                        refine reg_f ?_
                        refine rs 2 [] [] (by kernel_rfl) allP_nil ?_
                        refine rf [(4, .ptr 0 0), (15, .ptr 1 0), (16, .own 2 0 c7q9.length), (17, bS p1), (26, .own 3 0 c3q20.length), (27, iS i22), (219, bS (decide (i22 < 2)))] [(0, .row 25 (Enc.cells d)), (1, .row 25 (Enc.cells c6q6)), (2, .row 3 (fl c7q9)), (3, .row 3 (fl c3q20))] 4 (by kernel_rfl) ?_
                        refine wk_id ?_
                        refine cond_sx h (by kernel_rfl) (fun g3450 h => ?_) (fun g3450 h => ?_)
                        · refine wk_id ?_
                          refine seq_np ?_
                          refine block_cut (A := (List Int)) (fun a => ([(4, .ptr 0 0), (15, .ptr 1 0), (16, .own 2 0 c7q9.length), (17, bS p1), (26, .own 3 0 a.length), (27, iS i22)], [(0, .row 25 (Enc.cells d)), (1, .row 25 (Enc.cells c6q6)), (2, .row 3 (fl c7q9)), (3, .row 3 (fl a))], 4)) (fun a => (taskmilllaw_PollTimes_j1 d p1 c6q6 c7q9 i22 a) = some o4) (fun K3423 hK3423 => ?_) ?_
                          · refine split_s h (fun g3424 h => ?_) (fun g3425 h => ?_)
                            · refine seq_np ?_
                              refine reg_f ?_
                              refine rs 2 [] [] (by kernel_rfl) allP_nil ?_
                              refine run_at 222 .i64 i22 0 g3424 (by kernel_rfl) ?_
                              refine rs 3 [] [] (by kernel_rfl) allP_nil ?_
                              refine rf [(4, .ptr 0 0), (15, .ptr 1 0), (16, .own 2 0 c7q9.length), (17, bS p1), (26, .own 3 0 c3q20.length), (27, iS i22), (226, bS (decide ((0 : Int) < d.Task_e0)))] [(0, .row 25 (Enc.cells d)), (1, .row 25 (Enc.cells c6q6)), (2, .row 3 (fl c7q9)), (3, .row 3 (fl c3q20))] 4 (by kernel_rfl) ?_
                              refine wk_id ?_
                              refine cond_sx h (by kernel_rfl) (fun g3430 h => ?_) (fun g3430 h => ?_)
                              · refine chk_sx h (fun g3429 h => ?_)
                                refine reg_f ?_
                                refine rs 3 [] [] (by kernel_rfl) allP_nil ?_
                                refine run_at 228 .i64 i22 0 g3424 (by kernel_rfl) ?_
                                have k3428 : (c3q20 ++ ([d.Task_e0] : List Int)).length * 8 ≤ 140737488355328 := by first | simpa only [Bool.and_eq_true, decide_eq_true_eq, bne_iff_ne, ne_eq] using g3429 | (simp at g3429 ⊢; omega)
                                refine rs 5 [none, none, none, some ⟨.own 5 0 (c3q20 ++ ([d.Task_e0] : List Int)).length, [(5, .row 3 (fl (c3q20 ++ ([d.Task_e0] : List Int)))), (3, .dead)], 6, [3, 4]⟩] _ (by kernel_rfl) (allP_cons (ob_app (P := Try.prog) c3q20 ([d.Task_e0] : List Int) 1 8 rfl (appCells (fl ([d.Task_e0] : List Int)) 0 (([d.Task_e0] : List Int).length * 1)) ([d.Task_e0] : List Int).length (app_own ([d.Task_e0] : List Int) 1 rfl) rfl (0 + ([d.Task_e0] : List Int).length * 1 ≤ (fl ([d.Task_e0] : List Int)).length) (app_own_le ([d.Task_e0] : List Int) 1 rfl) 3 (by kernel_rfl) (by decide) k3428 3 5 [4]) allP_nil) ?_
                                refine rf [(4, .ptr 0 0), (15, .ptr 1 0), (16, .own 2 0 c7q9.length), (17, bS p1), (26, .own 5 0 (c3q20 ++ ([d.Task_e0] : List Int)).length), (27, iS i22)] [(0, .row 25 (Enc.cells d)), (1, .row 25 (Enc.cells c6q6)), (2, .row 3 (fl c7q9)), (3, .dead), (4, .row 3 (fl ([d.Task_e0] : List Int))), (5, .row 3 (fl (c3q20 ++ ([d.Task_e0] : List Int))))] 6 (by kernel_rfl) ?_
                                exact hK3423 ((c3q20 ++ ([d.Task_e0] : List Int))) _ _ _ h (leSt_m [(0, 0), (1, 1), (2, 2), (3, 5)] [] (by simp only [push_cast, seval]) (by simp only [push_cast, seval]) rfl rfl rfl)
                              · exact hK3423 (c3q20) _ _ _ h (leSt_m [(0, 0), (1, 1), (2, 2), (3, 3)] [] (by simp only [push_cast, seval]) (by simp only [push_cast, seval]) rfl rfl rfl)
                            refine split_s h (fun g3431 h => ?_) (fun g3432 h => ?_)
                            · refine seq_np ?_
                              refine reg_f ?_
                              refine rs 2 [] [] (by kernel_rfl) allP_nil ?_
                              refine run_at 222 .i64 i22 1 g3431 (by kernel_rfl) ?_
                              refine rs 3 [] [] (by kernel_rfl) allP_nil ?_
                              refine rf [(4, .ptr 0 0), (15, .ptr 1 0), (16, .own 2 0 c7q9.length), (17, bS p1), (26, .own 3 0 c3q20.length), (27, iS i22), (226, bS (decide ((0 : Int) < d.Task_e1)))] [(0, .row 25 (Enc.cells d)), (1, .row 25 (Enc.cells c6q6)), (2, .row 3 (fl c7q9)), (3, .row 3 (fl c3q20))] 4 (by kernel_rfl) ?_
                              refine wk_id ?_
                              refine cond_sx h (by kernel_rfl) (fun g3437 h => ?_) (fun g3437 h => ?_)
                              · refine chk_sx h (fun g3436 h => ?_)
                                refine reg_f ?_
                                refine rs 3 [] [] (by kernel_rfl) allP_nil ?_
                                refine run_at 228 .i64 i22 1 g3431 (by kernel_rfl) ?_
                                have k3435 : (c3q20 ++ ([d.Task_e1] : List Int)).length * 8 ≤ 140737488355328 := by first | simpa only [Bool.and_eq_true, decide_eq_true_eq, bne_iff_ne, ne_eq] using g3436 | (simp at g3436 ⊢; omega)
                                refine rs 5 [none, none, none, some ⟨.own 5 0 (c3q20 ++ ([d.Task_e1] : List Int)).length, [(5, .row 3 (fl (c3q20 ++ ([d.Task_e1] : List Int)))), (3, .dead)], 6, [3, 4]⟩] _ (by kernel_rfl) (allP_cons (ob_app (P := Try.prog) c3q20 ([d.Task_e1] : List Int) 1 8 rfl (appCells (fl ([d.Task_e1] : List Int)) 0 (([d.Task_e1] : List Int).length * 1)) ([d.Task_e1] : List Int).length (app_own ([d.Task_e1] : List Int) 1 rfl) rfl (0 + ([d.Task_e1] : List Int).length * 1 ≤ (fl ([d.Task_e1] : List Int)).length) (app_own_le ([d.Task_e1] : List Int) 1 rfl) 3 (by kernel_rfl) (by decide) k3435 3 5 [4]) allP_nil) ?_
                                refine rf [(4, .ptr 0 0), (15, .ptr 1 0), (16, .own 2 0 c7q9.length), (17, bS p1), (26, .own 5 0 (c3q20 ++ ([d.Task_e1] : List Int)).length), (27, iS i22)] [(0, .row 25 (Enc.cells d)), (1, .row 25 (Enc.cells c6q6)), (2, .row 3 (fl c7q9)), (3, .dead), (4, .row 3 (fl ([d.Task_e1] : List Int))), (5, .row 3 (fl (c3q20 ++ ([d.Task_e1] : List Int))))] 6 (by kernel_rfl) ?_
                                exact hK3423 ((c3q20 ++ ([d.Task_e1] : List Int))) _ _ _ h (leSt_m [(0, 0), (1, 1), (2, 2), (3, 5)] [] (by simp only [push_cast, seval]) (by simp only [push_cast, seval]) rfl rfl rfl)
                              · exact hK3423 (c3q20) _ _ _ h (leSt_m [(0, 0), (1, 1), (2, 2), (3, 3)] [] (by simp only [push_cast, seval]) (by simp only [push_cast, seval]) rfl rfl rfl)
                            refine chk_sx h (fun g3441 h => ?_)
                            refine seq_np ?_
                            refine reg_f ?_
                            have k3440 : 0 ≤ i22 ∧ i22 < 2 := by first | simpa only [Bool.and_eq_true, decide_eq_true_eq, bne_iff_ne, ne_eq] using g3441 | (simp at g3441 ⊢; omega)
                            exfalso
                            omega
                          · rintro c3q22 h
                            try dsimp only at h ⊢
                            unfold taskmilllaw_PollTimes_j1 at h
                            refine wk_id ?_
                            refine reg_f ?_
                            refine rs 3 [] [] (by kernel_rfl) allP_nil ?_
                            refine rf [(4, .ptr 0 0), (15, .ptr 1 0), (16, .own 2 0 c7q9.length), (17, bS p1), (26, .own 3 0 c3q22.length), (27, iS (IntKind.i64.wrap (i22 + 1)))] [(0, .row 25 (Enc.cells d)), (1, .row 25 (Enc.cells c6q6)), (2, .row 3 (fl c7q9)), (3, .row 3 (fl c3q22))] 4 (by kernel_rfl) ?_
                            exact hn4 ((IntKind.i64.wrap (i22 + 1)), c3q22) _ _ _ (Option.some.inj h).symm (leSt_m [(0, 0), (1, 1), (2, 2), (3, 3)] [] (by simp only [push_cast, seval]) (by simp only [push_cast, seval]) rfl rfl rfl)
                        · change R4 (.exit 2) _ _ _
                          refine ex_cast hx4 (id := 2) ?_
                          obtain ⟨r0, h, e0⟩ := map_sx h
                          have e1 := hr4 r0 e0.symm
                          subst r0
                          refine wk_id ?_
                          refine wk_id ?_
                          refine seq_cut (A := Bool) (fun a => ([(8, bS a)], [], 0)) (fun a => (taskmilllaw_PollTimes_j2 a) = some r) (fun K3446 hK3446 => ?_) ?_
                          · refine reg_f ?_
                            refine rs 4 [] [] (by kernel_rfl) allP_nil ?_
                            refine run_br h 237 (.inl (by kernel_rfl)) (fun g3447 h => ?_) (fun g3447 h => ?_)
                            · refine rs 2 [] [] (by kernel_rfl) allP_nil ?_
                              obtain ⟨r3448, hr3448, h⟩ := bind_sx h
                              refine call_x (taskmillref_Ints_spec c7q9 c3q20 r3448 hr3448) (args := [.own 2 0 c7q9.length, .own 3 0 c3q20.length]) (dst := (some 240)) (by kernel_rfl) [(0, .row 25 (Enc.cells d)), (1, .row 25 (Enc.cells c6q6)), (2, .row 3 (fl c7q9)), (3, .row 3 (fl c3q20))] 4 (by kernel_rfl) [] [2, 3] (bS r3448) [] (by simp only [push_cast, seval]) (by simp only [push_cast, seval]) (by kernel_rfl) (.inr ⟨by simp only [push_cast, seval], by simp only [push_cast, seval]⟩) (by simp only [push_cast, seval]) (by simp only [push_cast, seval]) ?_
                              refine rs 2 [] [] (by kernel_rfl) allP_nil ?_
                              refine run_br h 242 (.inl (by kernel_rfl)) (fun g3449 h => ?_) (fun g3449 h => ?_)
                              · refine rn 9 [(17, bS p1), (242, bS true)] [(0, .row 25 (Enc.cells d)), (1, .row 25 (Enc.cells c6q6)), (2, .row 3 (fl c7q9)), (3, .row 3 (fl c3q20))] 4 (by kernel_rfl) ?_
                                refine rs 4 [] [] (by kernel_rfl) allP_nil ?_
                                refine rf [(8, bS (!p1))] [(0, .row 25 (Enc.cells d)), (1, .row 25 (Enc.cells c6q6)), (2, .row 3 (fl c7q9)), (3, .row 3 (fl c3q20))] 4 (by kernel_rfl) ?_
                                exact hK3446 ((!p1)) _ _ _ h (leSt_m [] [] (by first | ((try simp only [g3447, g3449]) <;> simp only [push_cast, seval]; done) | ((try simp only [g3447]); (try simp only [g3449]); simp only [push_cast, seval]; done) | (exfalso; clear h; simp_all; done)) (by first | ((try simp only [g3447, g3449]) <;> simp only [push_cast, seval]; done) | ((try simp only [g3447]); (try simp only [g3449]); simp only [push_cast, seval]; done) | (exfalso; clear h; simp_all; done)) rfl rfl rfl)
                              · refine rn 9 [(17, bS p1), (242, bS false)] [(0, .row 25 (Enc.cells d)), (1, .row 25 (Enc.cells c6q6)), (2, .row 3 (fl c7q9)), (3, .row 3 (fl c3q20))] 4 (by kernel_rfl) ?_
                                refine rs 4 [] [] (by kernel_rfl) allP_nil ?_
                                refine rf [(8, bS false)] [(0, .row 25 (Enc.cells d)), (1, .row 25 (Enc.cells c6q6)), (2, .row 3 (fl c7q9)), (3, .row 3 (fl c3q20))] 4 (by kernel_rfl) ?_
                                exact hK3446 (false) _ _ _ h (leSt_m [] [] (by first | ((try simp only [g3447, g3449]) <;> simp only [push_cast, seval]; done) | ((try simp only [g3447]); (try simp only [g3449]); simp only [push_cast, seval]; done) | (exfalso; clear h; simp_all; done)) (by first | ((try simp only [g3447, g3449]) <;> simp only [push_cast, seval]; done) | ((try simp only [g3447]); (try simp only [g3449]); simp only [push_cast, seval]; done) | (exfalso; clear h; simp_all; done)) rfl rfl rfl)
                            · refine rs 9 [] [] (by kernel_rfl) allP_nil ?_
                              refine rf [(8, bS false)] [(0, .row 25 (Enc.cells d)), (1, .row 25 (Enc.cells c6q6)), (2, .row 3 (fl c7q9)), (3, .row 3 (fl c3q20))] 4 (by kernel_rfl) ?_
                              exact hK3446 (false) _ _ _ h (leSt_m [] [] (by (try simp only [g3447]) <;> simp only [push_cast, seval]) (by (try simp only [g3447]) <;> simp only [push_cast, seval]) rfl rfl rfl)
                          · rintro t8q1 h
                            try dsimp only at h ⊢
                            unfold taskmilllaw_PollTimes_j2 at h
                            obtain rfl := Option.some.inj h
                            refine ret_at (bS t8q1) (by kernel_rfl) ?_
                            exact ret_e [] [] (by simp only [push_cast, seval]) (by simp only [push_cast, seval]) rfl rfl rfl

end Go.Proofs.Ytbglmhcpfjmadaa
