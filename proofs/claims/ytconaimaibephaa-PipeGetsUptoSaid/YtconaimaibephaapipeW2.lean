/-
  What laws of the chapter pipe compute, and lemmas on it.
  No conditions.
-/
import Derived.Test.YtconaimaibephaapipeW1
set_option linter.unusedSimpArgs false
set_option linter.unusedVariables false
namespace Go.Proofs.Ytconaimaibephaa
open Go Go.Sx
attribute [local irreducible] Wk RunAt
set_option maxRecDepth 100000 in
set_option maxHeartbeats 10000000 in
theorem taskmillref_SameAnswer_spec (xa : Answer) (b : Answer) (r : Bool) (h : taskmillref_SameAnswer xa b = some r) : SpecW Try.prog 27 [.agg (Enc.cells xa), .agg (Enc.cells b)] [] 0 (fun x h n => x = bS r ∧ h = [] ∧ n = 0) := by
  unfold taskmillref_SameAnswer at h
  refine spec_of (draw_ok _) Try.func27 rfl (by decide) rfl (by kernel_rfl) ?_
  refine seq_np ?_
  refine reg_f ?_
  refine rs 3 [] [] (by kernel_rfl) allP_nil ?_
  refine rf [(2, .ptr 0 0), (3, .ptr 1 0)] [(0, .row 34 (Enc.cells xa)), (1, .row 34 (Enc.cells b))] 2 (by kernel_rfl) ?_
  refine wk_id ?_
  refine seq_cut (A := Bool) (fun a => ([(4, bS a)], [], 0)) (fun a => (taskmillref_SameAnswer_j1 a) = some r) (fun K1779 hK1779 => ?_) ?_
  · refine reg_f ?_
    refine rs 6 [] [] (by kernel_rfl) allP_nil ?_
    refine run_br h 10 (.inl (by kernel_rfl)) (fun g1780 h => ?_) (fun g1780 h => ?_)
    · refine rs 7 [] [] (by kernel_rfl) allP_nil ?_
      refine run_br h 17 (.inl (by kernel_rfl)) (fun g1781 h => ?_) (fun g1781 h => ?_)
      · refine rs 7 [] [] (by kernel_rfl) allP_nil ?_
        refine run_br h 24 (.inl (by kernel_rfl)) (fun g1782 h => ?_) (fun g1782 h => ?_)
        · refine rn 20 [(2, .ptr 0 0), (3, .ptr 1 0), (24, bS true)] [(0, .row 34 (Enc.cells xa)), (1, .row 34 (Enc.cells b))] 2 (by kernel_rfl) ?_
          refine rs 7 [] [] (by kernel_rfl) allP_nil ?_
          refine run_br h 31 (.inl (by kernel_rfl)) (fun g1783 h => ?_) (fun g1783 h => ?_)
          · refine rs 7 [] [] (by kernel_rfl) allP_nil ?_
            refine run_br h 38 (.inl (by kernel_rfl)) (fun g1784 h => ?_) (fun g1784 h => ?_)
            · refine rs 4 [] [] (by kernel_rfl) allP_nil ?_
              obtain ⟨r1785, hr1785, h⟩ := bind_sx h
              refine run_call 33 [.sl xa.Wakes.length (fl xa.Wakes), .sl b.Wakes.length (fl b.Wakes)] (some 43) (by kernel_rfl) ?_
              refine call_0 (taskmillref_SameWakes_spec xa.Wakes b.Wakes r1785 hr1785) (by simp only [push_cast, seval]) (by simp only [push_cast, seval]) ?_
              refine back_f ?_
              refine rs 2 [] [] (by kernel_rfl) allP_nil ?_
              refine rf [(4, bS r1785)] [(0, .row 34 (Enc.cells xa)), (1, .row 34 (Enc.cells b))] 2 (by kernel_rfl) ?_
              exact hK1779 (r1785) _ _ _ h (leSt_m [] [] (by first | ((try simp only [g1780, g1781, g1782, g1783, g1784]) <;> simp only [push_cast, seval]; done) | ((try simp only [g1780]); (try simp only [g1781]); (try simp only [g1782]); (try simp only [g1783]); (try simp only [g1784]); simp only [push_cast, seval]; done) | (exfalso; clear h; simp_all; done)) (by first | ((try simp only [g1780, g1781, g1782, g1783, g1784]) <;> simp only [push_cast, seval]; done) | ((try simp only [g1780]); (try simp only [g1781]); (try simp only [g1782]); (try simp only [g1783]); (try simp only [g1784]); simp only [push_cast, seval]; done) | (exfalso; clear h; simp_all; done)) rfl rfl rfl)
            · refine rs 7 [] [] (by kernel_rfl) allP_nil ?_
              refine rf [(4, bS false)] [(0, .row 34 (Enc.cells xa)), (1, .row 34 (Enc.cells b))] 2 (by kernel_rfl) ?_
              exact hK1779 (false) _ _ _ h (leSt_m [] [] (by first | ((try simp only [g1780, g1781, g1782, g1783, g1784]) <;> simp only [push_cast, seval]; done) | ((try simp only [g1780]); (try simp only [g1781]); (try simp only [g1782]); (try simp only [g1783]); (try simp only [g1784]); simp only [push_cast, seval]; done) | (exfalso; clear h; simp_all; done)) (by first | ((try simp only [g1780, g1781, g1782, g1783, g1784]) <;> simp only [push_cast, seval]; done) | ((try simp only [g1780]); (try simp only [g1781]); (try simp only [g1782]); (try simp only [g1783]); (try simp only [g1784]); simp only [push_cast, seval]; done) | (exfalso; clear h; simp_all; done)) rfl rfl rfl)
          · refine rs 14 [] [] (by kernel_rfl) allP_nil ?_
            refine rf [(4, bS false)] [(0, .row 34 (Enc.cells xa)), (1, .row 34 (Enc.cells b))] 2 (by kernel_rfl) ?_
            exact hK1779 (false) _ _ _ h (leSt_m [] [] (by first | ((try simp only [g1780, g1781, g1782, g1783]) <;> simp only [push_cast, seval]; done) | ((try simp only [g1780]); (try simp only [g1781]); (try simp only [g1782]); (try simp only [g1783]); simp only [push_cast, seval]; done) | (exfalso; clear h; simp_all; done)) (by first | ((try simp only [g1780, g1781, g1782, g1783]) <;> simp only [push_cast, seval]; done) | ((try simp only [g1780]); (try simp only [g1781]); (try simp only [g1782]); (try simp only [g1783]); simp only [push_cast, seval]; done) | (exfalso; clear h; simp_all; done)) rfl rfl rfl)
        · refine rn 20 [(2, .ptr 0 0), (3, .ptr 1 0), (24, bS false)] [(0, .row 34 (Enc.cells xa)), (1, .row 34 (Enc.cells b))] 2 (by kernel_rfl) ?_
          refine rs 21 [] [] (by kernel_rfl) allP_nil ?_
          refine rf [(4, bS false)] [(0, .row 34 (Enc.cells xa)), (1, .row 34 (Enc.cells b))] 2 (by kernel_rfl) ?_
          exact hK1779 (false) _ _ _ h (leSt_m [] [] (by first | ((try simp only [g1780, g1781, g1782]) <;> simp only [push_cast, seval]; done) | ((try simp only [g1780]); (try simp only [g1781]); (try simp only [g1782]); simp only [push_cast, seval]; done) | (exfalso; clear h; simp_all; done)) (by first | ((try simp only [g1780, g1781, g1782]) <;> simp only [push_cast, seval]; done) | ((try simp only [g1780]); (try simp only [g1781]); (try simp only [g1782]); simp only [push_cast, seval]; done) | (exfalso; clear h; simp_all; done)) rfl rfl rfl)
      · refine rs 28 [] [] (by kernel_rfl) allP_nil ?_
        refine rf [(4, bS false)] [(0, .row 34 (Enc.cells xa)), (1, .row 34 (Enc.cells b))] 2 (by kernel_rfl) ?_
        exact hK1779 (false) _ _ _ h (leSt_m [] [] (by first | ((try simp only [g1780, g1781]) <;> simp only [push_cast, seval]; done) | ((try simp only [g1780]); (try simp only [g1781]); simp only [push_cast, seval]; done) | (exfalso; clear h; simp_all; done)) (by first | ((try simp only [g1780, g1781]) <;> simp only [push_cast, seval]; done) | ((try simp only [g1780]); (try simp only [g1781]); simp only [push_cast, seval]; done) | (exfalso; clear h; simp_all; done)) rfl rfl rfl)
    · refine rs 35 [] [] (by kernel_rfl) allP_nil ?_
      refine rf [(4, bS false)] [(0, .row 34 (Enc.cells xa)), (1, .row 34 (Enc.cells b))] 2 (by kernel_rfl) ?_
      exact hK1779 (false) _ _ _ h (leSt_m [] [] (by (try simp only [g1780]) <;> simp only [push_cast, seval]) (by (try simp only [g1780]) <;> simp only [push_cast, seval]) rfl rfl rfl)
  · rintro t4q1 h
    try dsimp only at h ⊢
    unfold taskmillref_SameAnswer_j1 at h
    obtain rfl := Option.some.inj h
    refine ret_at (bS t4q1) (by kernel_rfl) ?_
    exact ret_e [] [] (by simp only [push_cast, seval]) (by simp only [push_cast, seval]) rfl rfl rfl

set_option maxRecDepth 100000 in
set_option maxHeartbeats 10000000 in
theorem taskmilllaw_pipeAs_spec (p : Pipe) (xa : Answer) (f : Fault) (w : Fault) (q : Pipe) (b : Answer) (r : Bool) (h : taskmilllaw_pipeAs p xa f w q b = some r) : SpecW Try.prog 19 [.agg (Enc.cells p), .agg (Enc.cells xa), .agg (Enc.cells f), .agg (Enc.cells w), .agg (Enc.cells q), .agg (Enc.cells b)] [] 0 (fun x h n => x = bS r ∧ h = [] ∧ n = 0) := by
  unfold taskmilllaw_pipeAs at h
  refine spec_of (draw_ok _) Try.func19 rfl (by decide) rfl (by kernel_rfl) ?_
  refine seq_np ?_
  refine reg_f ?_
  refine rs 7 [] [] (by kernel_rfl) allP_nil ?_
  refine rf [(6, .ptr 0 0), (7, .ptr 1 0), (8, .ptr 2 0), (9, .ptr 3 0), (10, .ptr 4 0), (11, .ptr 5 0)] [(0, .row 25 (Enc.cells p)), (1, .row 34 (Enc.cells xa)), (2, .row 30 (Enc.cells f)), (3, .row 30 (Enc.cells w)), (4, .row 25 (Enc.cells q)), (5, .row 34 (Enc.cells b))] 6 (by kernel_rfl) ?_
  refine wk_id ?_
  refine seq_np ?_
  refine seq_np ?_
  refine reg_f ?_
  refine rs 3 [] [] (by kernel_rfl) allP_nil ?_
  refine rf [(6, .ptr 0 0), (7, .ptr 1 0), (9, .ptr 3 0), (10, .ptr 4 0), (11, .ptr 5 0), (15, bS (!((f.Code == w.Code) && ((f.At == w.At) && true))))] [(0, .row 25 (Enc.cells p)), (1, .row 34 (Enc.cells xa)), (2, .row 30 (Enc.cells f)), (3, .row 30 (Enc.cells w)), (4, .row 25 (Enc.cells q)), (5, .row 34 (Enc.cells b))] 6 (by kernel_rfl) ?_
  refine wk_id ?_
  refine cond_sx h (by kernel_rfl) (fun g1819 h => ?_) (fun g1819 h => ?_)
  · refine seq_np ?_
    refine reg_f ?_
    refine rs 1 [] [] (by kernel_rfl) allP_nil ?_
    refine rf [(12, bS false)] [(0, .row 25 (Enc.cells p)), (1, .row 34 (Enc.cells xa)), (2, .row 30 (Enc.cells f)), (3, .row 30 (Enc.cells w)), (4, .row 25 (Enc.cells q)), (5, .row 34 (Enc.cells b))] 6 (by kernel_rfl) ?_
    refine wk_id ?_
    obtain rfl := Option.some.inj h
    refine ret_at (bS false) (by kernel_rfl) ?_
    exact ret_e [] [] (by simp only [push_cast, seval]) (by simp only [push_cast, seval]) rfl rfl rfl
  · refine wk_id ?_
    refine seq_np ?_
    refine seq_np ?_
    refine reg_f ?_
    refine rs 3 [] [] (by kernel_rfl) allP_nil ?_
    refine rf [(6, .ptr 0 0), (7, .ptr 1 0), (10, .ptr 4 0), (11, .ptr 5 0), (18, bS (w.Code != 0))] [(0, .row 25 (Enc.cells p)), (1, .row 34 (Enc.cells xa)), (2, .row 30 (Enc.cells f)), (3, .row 30 (Enc.cells w)), (4, .row 25 (Enc.cells q)), (5, .row 34 (Enc.cells b))] 6 (by kernel_rfl) ?_
    refine wk_id ?_
    refine cond_sx h (by kernel_rfl) (fun g1818 h => ?_) (fun g1818 h => ?_)
    · refine seq_cut (A := Bool) (fun a => ([(12, bS a)], [], 0)) (fun a => (taskmilllaw_pipeAs_j1 a) = some r) (fun K1806 hK1806 => ?_) ?_
      · refine reg_f ?_
        refine rs 2 [] [] (by kernel_rfl) allP_nil ?_
        obtain ⟨r1807, hr1807, h⟩ := bind_sx h
        refine call_x (taskmillref_SamePipe_spec p (Pipe.mk 0 [] false [] []) r1807 hr1807) (args := [.agg (Enc.cells p), .agg [iS 0, .v (.slice none 0 0), bS false, .v (.slice none 0 0), .v (.slice none 0 0)]]) (dst := (some 21)) (by kernel_rfl) [(0, .row 25 (Enc.cells p)), (1, .row 34 (Enc.cells xa)), (2, .row 30 (Enc.cells f)), (3, .row 30 (Enc.cells w)), (4, .row 25 (Enc.cells q)), (5, .row 34 (Enc.cells b))] 6 (by kernel_rfl) [] [] (bS r1807) [] (by simp only [push_cast, seval]) (by simp only [push_cast, seval]) (by kernel_rfl) (.inl rfl) (by simp only [push_cast, seval]) (by simp only [push_cast, seval]) ?_
        refine rs 1 [] [] (by kernel_rfl) allP_nil ?_
        refine run_br h 22 (.inl (by kernel_rfl)) (fun g1808 h => ?_) (fun g1808 h => ?_)
        · refine rs 2 [] [] (by kernel_rfl) allP_nil ?_
          obtain ⟨r1809, hr1809, h⟩ := bind_sx h
          refine call_x (taskmillref_SameAnswer_spec xa (Answer.mk false false false 0 0 []) r1809 hr1809) (args := [.agg (Enc.cells xa), .agg [bS false, bS false, bS false, iS 0, iS 0, .v (.slice none 0 0)]]) (dst := (some 25)) (by kernel_rfl) [(0, .row 25 (Enc.cells p)), (1, .row 34 (Enc.cells xa)), (2, .row 30 (Enc.cells f)), (3, .row 30 (Enc.cells w)), (4, .row 25 (Enc.cells q)), (5, .row 34 (Enc.cells b))] 6 (by kernel_rfl) [] [] (bS r1809) [] (by simp only [push_cast, seval]) (by simp only [push_cast, seval]) (by kernel_rfl) (.inl rfl) (by simp only [push_cast, seval]) (by simp only [push_cast, seval]) ?_
          refine rs 2 [] [] (by kernel_rfl) allP_nil ?_
          refine rf [(12, bS r1809)] [(0, .row 25 (Enc.cells p)), (1, .row 34 (Enc.cells xa)), (2, .row 30 (Enc.cells f)), (3, .row 30 (Enc.cells w)), (4, .row 25 (Enc.cells q)), (5, .row 34 (Enc.cells b))] 6 (by kernel_rfl) ?_
          exact hK1806 (r1809) _ _ _ h (leSt_m [] [] (by (try simp only [g1808]) <;> simp only [push_cast, seval]) (by (try simp only [g1808]) <;> simp only [push_cast, seval]) rfl rfl rfl)
        · refine rs 5 [] [] (by kernel_rfl) allP_nil ?_
          refine rf [(12, bS false)] [(0, .row 25 (Enc.cells p)), (1, .row 34 (Enc.cells xa)), (2, .row 30 (Enc.cells f)), (3, .row 30 (Enc.cells w)), (4, .row 25 (Enc.cells q)), (5, .row 34 (Enc.cells b))] 6 (by kernel_rfl) ?_
          exact hK1806 (false) _ _ _ h (leSt_m [] [] (by (try simp only [g1808]) <;> simp only [push_cast, seval]) (by (try simp only [g1808]) <;> simp only [push_cast, seval]) rfl rfl rfl)
      · rintro t12q3 h
        try dsimp only at h ⊢
        unfold taskmilllaw_pipeAs_j1 at h
        obtain rfl := Option.some.inj h
        refine ret_at (bS t12q3) (by kernel_rfl) ?_
        exact ret_e [] [] (by simp only [push_cast, seval]) (by simp only [push_cast, seval]) rfl rfl rfl
    · refine wk_id ?_
      refine seq_cut (A := Bool) (fun a => ([(12, bS a)], [], 0)) (fun a => (taskmilllaw_pipeAs_j2 a) = some r) (fun K1814 hK1814 => ?_) ?_
      · refine reg_f ?_
        refine rs 2 [] [] (by kernel_rfl) allP_nil ?_
        obtain ⟨r1815, hr1815, h⟩ := bind_sx h
        refine run_call 16 [.agg (Enc.cells p), .agg (Enc.cells q)] (some 29) (by kernel_rfl) ?_
        refine call_0 (taskmillref_SamePipe_spec p q r1815 hr1815) (by simp only [push_cast, seval]) (by simp only [push_cast, seval]) ?_
        refine back_f ?_
        refine rs 1 [] [] (by kernel_rfl) allP_nil ?_
        refine run_br h 30 (.inl (by kernel_rfl)) (fun g1816 h => ?_) (fun g1816 h => ?_)
        · refine rs 2 [] [] (by kernel_rfl) allP_nil ?_
          obtain ⟨r1817, hr1817, h⟩ := bind_sx h
          refine run_call 27 [.agg (Enc.cells xa), .agg (Enc.cells b)] (some 33) (by kernel_rfl) ?_
          refine call_0 (taskmillref_SameAnswer_spec xa b r1817 hr1817) (by simp only [push_cast, seval]) (by simp only [push_cast, seval]) ?_
          refine back_f ?_
          refine rs 2 [] [] (by kernel_rfl) allP_nil ?_
          refine rf [(12, bS r1817)] [(0, .row 25 (Enc.cells p)), (1, .row 34 (Enc.cells xa)), (2, .row 30 (Enc.cells f)), (3, .row 30 (Enc.cells w)), (4, .row 25 (Enc.cells q)), (5, .row 34 (Enc.cells b))] 6 (by kernel_rfl) ?_
          exact hK1814 (r1817) _ _ _ h (leSt_m [] [] (by (try simp only [g1816]) <;> simp only [push_cast, seval]) (by (try simp only [g1816]) <;> simp only [push_cast, seval]) rfl rfl rfl)
        · refine rs 5 [] [] (by kernel_rfl) allP_nil ?_
          refine rf [(12, bS false)] [(0, .row 25 (Enc.cells p)), (1, .row 34 (Enc.cells xa)), (2, .row 30 (Enc.cells f)), (3, .row 30 (Enc.cells w)), (4, .row 25 (Enc.cells q)), (5, .row 34 (Enc.cells b))] 6 (by kernel_rfl) ?_
          exact hK1814 (false) _ _ _ h (leSt_m [] [] (by (try simp only [g1816]) <;> simp only [push_cast, seval]) (by (try simp only [g1816]) <;> simp only [push_cast, seval]) rfl rfl rfl)
      · rintro t12q4 h
        try dsimp only at h ⊢
        unfold taskmilllaw_pipeAs_j2 at h
        obtain rfl := Option.some.inj h
        refine ret_at (bS t12q4) (by kernel_rfl) ?_
        exact ret_e [] [] (by simp only [push_cast, seval]) (by simp only [push_cast, seval]) rfl rfl rfl

set_option maxRecDepth 100000 in
set_option maxHeartbeats 10000000 in
theorem taskmilllaw_PipeSends_spec (p : Pipe) (task : Int) (value : Int) (xtry : Bool) (r : Bool) (h : taskmilllaw_PipeSends p task value xtry = some r) : SpecW Try.prog 3 [.agg (Enc.cells p), iS task, iS value, bS xtry] [] 0 (fun x h n => x = bS r ∧ h = [] ∧ n = 0) := by
  unfold taskmilllaw_PipeSends at h
  refine spec_of (draw_ok _) Try.func3 rfl (by decide) rfl (by kernel_rfl) ?_
  refine seq_np ?_
  refine reg_f ?_
  refine rs 2 [] [] (by kernel_rfl) allP_nil ?_
  refine rf [(1, iS task), (2, iS value), (3, bS xtry), (4, .ptr 0 0)] [(0, .row 25 (Enc.cells p))] 1 (by kernel_rfl) ?_
  refine wk_id ?_
  refine seq_np ?_
  refine seq_np ?_
  refine reg_f ?_
  obtain ⟨r1824, hr1824, h⟩ := bind_sx h
  refine run_call 10 [] (some 17) (by kernel_rfl) ?_
  refine call_0 (taskmilllaw_pipeBegun_spec r1824 hr1824) (by simp only [push_cast, seval]) (by simp only [push_cast, seval]) ?_
  refine back_f ?_
  refine rs 1 [] [] (by kernel_rfl) allP_nil ?_
  refine rf [(1, iS task), (2, iS value), (3, bS xtry), (4, .ptr 0 0), (18, bS (!r1824))] [(0, .row 25 (Enc.cells p))] 1 (by kernel_rfl) ?_
  refine wk_id ?_
  refine cond_sx h (by kernel_rfl) (fun g1874 h => ?_) (fun g1874 h => ?_)
  · refine seq_np ?_
    refine reg_f ?_
    refine rs 1 [] [] (by kernel_rfl) allP_nil ?_
    refine rf [(8, bS false)] [(0, .row 25 (Enc.cells p))] 1 (by kernel_rfl) ?_
    refine wk_id ?_
    obtain rfl := Option.some.inj h
    refine ret_at (bS false) (by kernel_rfl) ?_
    exact ret_e [] [] (by simp only [push_cast, seval]) (by simp only [push_cast, seval]) rfl rfl rfl
  · refine wk_id ?_
    refine seq_np ?_
    refine seq_np ?_
    refine reg_f ?_
    refine rs 1 [] [] (by kernel_rfl) allP_nil ?_
    obtain ⟨r1828, hr1828, h⟩ := bind_sx h
    refine run_call 11 [.agg (Enc.cells p)] (some 20) (by kernel_rfl) ?_
    refine call_0 (taskmilllaw_vastPipe_spec p r1828 hr1828) (by simp only [push_cast, seval]) (by simp only [push_cast, seval]) ?_
    refine back_f ?_
    refine rf [(1, iS task), (2, iS value), (3, bS xtry), (4, .ptr 0 0), (20, bS r1828)] [(0, .row 25 (Enc.cells p))] 1 (by kernel_rfl) ?_
    refine wk_id ?_
    refine cond_sx h (by kernel_rfl) (fun g1873 h => ?_) (fun g1873 h => ?_)
    · refine seq_np ?_
      refine reg_f ?_
      refine rs 1 [] [] (by kernel_rfl) allP_nil ?_
      refine rf [(8, bS true)] [(0, .row 25 (Enc.cells p))] 1 (by kernel_rfl) ?_
      refine wk_id ?_
      obtain rfl := Option.some.inj h
      refine ret_at (bS true) (by kernel_rfl) ?_
      exact ret_e [] [] (by simp only [push_cast, seval]) (by simp only [push_cast, seval]) rfl rfl rfl
    · refine wk_id ?_
      refine seq_np ?_
      refine reg_f ?_
      refine rs 1 [] [] (by kernel_rfl) allP_nil ?_
      obtain ⟨r1830, hr1830, h⟩ := bind_sx h
      refine call_x (taskmilllaw_ownPipe_spec p r1830 hr1830) (args := [.agg (Enc.cells p)]) (dst := (some 22)) (by kernel_rfl) [(0, .row 25 (Enc.cells p))] 1 (by kernel_rfl) [] [] (.agg [iS r1830.1, .own 1 0 r1830.2.2.1.length, bS r1830.2.1, .own 2 0 r1830.2.2.2.1.length, .own 3 0 r1830.2.2.2.2.length]) [(1, .row 3 (fl r1830.2.2.1)), (2, .row 39 (fl r1830.2.2.2.1)), (3, .row 39 (fl r1830.2.2.2.2))] (by simp only [push_cast, seval]) (by simp only [push_cast, seval]) (by kernel_rfl) (.inl rfl) (by simp only [push_cast, seval]) (by simp only [push_cast, seval]) ?_
      refine rs 2 [] [] (by kernel_rfl) allP_nil ?_
      refine rf [(1, iS task), (2, iS value), (3, bS xtry), (4, .ptr 0 0), (9, .ptr 4 0)] [(0, .row 25 (Enc.cells p)), (1, .row 3 (fl r1830.2.2.1)), (2, .row 39 (fl r1830.2.2.2.1)), (3, .row 39 (fl r1830.2.2.2.2)), (4, .row 25 [iS r1830.1, .own 1 0 r1830.2.2.1.length, bS r1830.2.1, .own 2 0 r1830.2.2.2.1.length, .own 3 0 r1830.2.2.2.2.length])] 5 (by kernel_rfl) ?_
      refine wk_id ?_
      refine seq_np ?_
      refine reg_f ?_
      refine rs 1 [] [] (by kernel_rfl) allP_nil ?_
      obtain ⟨r1832, hr1832, h⟩ := bind_sx h
      refine call_x (pipe_Check_spec (Pipe.mk r1830.1 r1830.2.2.1 r1830.2.1 r1830.2.2.2.1 r1830.2.2.2.2) r1832 hr1832) (args := [.agg [iS r1830.1, .own 1 0 r1830.2.2.1.length, bS r1830.2.1, .own 2 0 r1830.2.2.2.1.length, .own 3 0 r1830.2.2.2.2.length]]) (dst := (some 24)) (by kernel_rfl) [(0, .row 25 (Enc.cells p)), (1, .row 3 (fl r1830.2.2.1)), (2, .row 39 (fl r1830.2.2.2.1)), (3, .row 39 (fl r1830.2.2.2.2)), (4, .row 25 [iS r1830.1, .own 1 0 r1830.2.2.1.length, bS r1830.2.1, .own 2 0 r1830.2.2.2.1.length, .own 3 0 r1830.2.2.2.2.length])] 5 (by kernel_rfl) [] [1, 2, 3] (.agg (Enc.cells r1832)) [] (by simp only [push_cast, seval]) (by simp only [push_cast, seval]) (by kernel_rfl) (.inr ⟨by simp only [push_cast, seval], by simp only [push_cast, seval]⟩) (by simp only [push_cast, seval]) (by simp only [push_cast, seval]) ?_
      refine rs 2 [] [] (by kernel_rfl) allP_nil ?_
      refine rf [(1, iS task), (2, iS value), (3, bS xtry), (4, .ptr 0 0), (9, .ptr 4 0), (10, .ptr 5 0)] [(0, .row 25 (Enc.cells p)), (1, .row 3 (fl r1830.2.2.1)), (2, .row 39 (fl r1830.2.2.2.1)), (3, .row 39 (fl r1830.2.2.2.2)), (4, .row 25 [iS r1830.1, .own 1 0 r1830.2.2.1.length, bS r1830.2.1, .own 2 0 r1830.2.2.2.1.length, .own 3 0 r1830.2.2.2.2.length]), (5, .row 30 (Enc.cells r1832))] 6 (by kernel_rfl) ?_
      refine wk_id ?_
      refine seq_np ?_
      refine reg_f ?_
      refine rs 4 [] [] (by kernel_rfl) allP_nil ?_
      obtain ⟨r1834, hr1834, h⟩ := bind_sx h
      refine call_x (pipe_Send_spec (Pipe.mk r1830.1 r1830.2.2.1 r1830.2.1 r1830.2.2.2.1 r1830.2.2.2.2) task value xtry r1834 hr1834) (args := [.agg [iS r1830.1, .own 1 0 r1830.2.2.1.length, bS r1830.2.1, .own 2 0 r1830.2.2.2.1.length, .own 3 0 r1830.2.2.2.2.length], iS task, iS value, bS xtry]) (dst := (some 30)) (by kernel_rfl) [(0, .row 25 (Enc.cells p)), (1, .row 3 (fl r1830.2.2.1)), (2, .row 39 (fl r1830.2.2.2.1)), (3, .row 39 (fl r1830.2.2.2.2)), (4, .row 25 [iS r1830.1, .own 1 0 r1830.2.2.1.length, bS r1830.2.1, .own 2 0 r1830.2.2.2.1.length, .own 3 0 r1830.2.2.2.2.length]), (5, .row 30 (Enc.cells r1832))] 6 (by kernel_rfl) [] [1, 2, 3] (.tup [.agg [iS r1834.1, .own 6 0 r1834.2.2.2.2.2.2.2.2.1.length, bS r1834.2.1, .own 7 0 r1834.2.2.2.2.2.2.2.2.2.1.length, .own 8 0 r1834.2.2.2.2.2.2.2.2.2.2.1.length], .agg [bS r1834.2.2.1, bS r1834.2.2.2.1, bS r1834.2.2.2.2.1, iS r1834.2.2.2.2.2.1, iS r1834.2.2.2.2.2.2.1, .own 9 0 r1834.2.2.2.2.2.2.2.2.2.2.2.length], .agg (Enc.cells r1834.2.2.2.2.2.2.2.1)]) [(6, .row 3 (fl r1834.2.2.2.2.2.2.2.2.1)), (7, .row 39 (fl r1834.2.2.2.2.2.2.2.2.2.1)), (8, .row 39 (fl r1834.2.2.2.2.2.2.2.2.2.2.1)), (9, .row 64 (fl r1834.2.2.2.2.2.2.2.2.2.2.2))] (by simp only [push_cast, seval]) (by simp only [push_cast, seval]) (by kernel_rfl) (.inr ⟨by simp only [push_cast, seval], by simp only [push_cast, seval]⟩) (by simp only [push_cast, seval]) (by simp only [push_cast, seval]) ?_
      refine rs 10 [] [] (by kernel_rfl) allP_nil ?_
      refine rf [(1, iS task), (2, iS value), (3, bS xtry), (4, .ptr 0 0), (9, .ptr 4 0), (10, .ptr 5 0), (11, .ptr 10 0), (12, .ptr 11 0), (13, .ptr 12 0)] [(0, .row 25 (Enc.cells p)), (1, .row 3 (fl r1830.2.2.1)), (2, .row 39 (fl r1830.2.2.2.1)), (3, .row 39 (fl r1830.2.2.2.2)), (4, .row 25 [iS r1830.1, .own 1 0 r1830.2.2.1.length, bS r1830.2.1, .own 2 0 r1830.2.2.2.1.length, .own 3 0 r1830.2.2.2.2.length]), (5, .row 30 (Enc.cells r1832)), (6, .row 3 (fl r1834.2.2.2.2.2.2.2.2.1)), (7, .row 39 (fl r1834.2.2.2.2.2.2.2.2.2.1)), (8, .row 39 (fl r1834.2.2.2.2.2.2.2.2.2.2.1)), (9, .row 64 (fl r1834.2.2.2.2.2.2.2.2.2.2.2)), (10, .row 25 [iS r1834.1, .own 6 0 r1834.2.2.2.2.2.2.2.2.1.length, bS r1834.2.1, .own 7 0 r1834.2.2.2.2.2.2.2.2.2.1.length, .own 8 0 r1834.2.2.2.2.2.2.2.2.2.2.1.length]), (11, .row 34 [bS r1834.2.2.1, bS r1834.2.2.2.1, bS r1834.2.2.2.2.1, iS r1834.2.2.2.2.2.1, iS r1834.2.2.2.2.2.2.1, .own 9 0 r1834.2.2.2.2.2.2.2.2.2.2.2.length]), (12, .row 30 (Enc.cells r1834.2.2.2.2.2.2.2.1))] 13 (by kernel_rfl) ?_
      refine wk_id ?_
      refine seq_np ?_
      refine seq_cut (A := Bool × Int × Bool × Bool × Bool × Bool × Int × Int × Fault × (List Int) × (List GPost) × (List GPost) × (List GWake)) (fun a => ([(1, iS task), (2, iS value), (3, bS xtry), (4, .ptr 0 0), (11, .ptr 1 0), (12, .ptr 2 0), (13, .ptr 3 0), (43, bS a.1)], [(0, .row 25 (Enc.cells p)), (1, .row 25 [iS a.2.1, .own 4 0 a.2.2.2.2.2.2.2.2.2.1.length, bS a.2.2.1, .own 5 0 a.2.2.2.2.2.2.2.2.2.2.1.length, .own 6 0 a.2.2.2.2.2.2.2.2.2.2.2.1.length]), (2, .row 34 [bS a.2.2.2.1, bS a.2.2.2.2.1, bS a.2.2.2.2.2.1, iS a.2.2.2.2.2.2.1, iS a.2.2.2.2.2.2.2.1, .own 7 0 a.2.2.2.2.2.2.2.2.2.2.2.2.length]), (3, .row 30 (Enc.cells a.2.2.2.2.2.2.2.2.1)), (4, .row 3 (fl a.2.2.2.2.2.2.2.2.2.1)), (5, .row 39 (fl a.2.2.2.2.2.2.2.2.2.2.1)), (6, .row 39 (fl a.2.2.2.2.2.2.2.2.2.2.2.1)), (7, .row 64 (fl a.2.2.2.2.2.2.2.2.2.2.2.2))], 8)) (fun a => (taskmilllaw_PipeSends_j2 p task value xtry a.1 a.2.1 a.2.2.1 a.2.2.2.1 a.2.2.2.2.1 a.2.2.2.2.2.1 a.2.2.2.2.2.2.1 a.2.2.2.2.2.2.2.1 a.2.2.2.2.2.2.2.2.1 a.2.2.2.2.2.2.2.2.2.1 a.2.2.2.2.2.2.2.2.2.2.1 a.2.2.2.2.2.2.2.2.2.2.2.1 a.2.2.2.2.2.2.2.2.2.2.2.2) = some r) (fun K1845 hK1845 => ?_) ?_
      · refine reg_t ?_
        refine rs 2 [] [] (by kernel_rfl) allP_nil ?_
        obtain ⟨r1846, hr1846, h⟩ := bind_sx h
        refine run_call 15 [.agg (Enc.cells p)] (some 36) (by kernel_rfl) ?_
        refine callE_0 (taskmillref_PipeFault_spec p r1846 hr1846) (by simp only [push_cast, seval]) (by simp only [push_cast, seval]) ?_
        refine back_t ?_
        refine rs 2 [] [] (by kernel_rfl) allP_nil ?_
        refine run_br h 38 (.inl (by kernel_rfl)) (fun g1847 h => ?_) (fun g1847 h => ?_)
        · refine rs 5 [] [] (by kernel_rfl) allP_nil ?_
          refine rt [(1, iS task), (2, iS value), (3, bS xtry), (4, .ptr 0 0), (11, .ptr 10 0), (12, .ptr 11 0), (13, .ptr 12 0), (43, bS true)] [(0, .row 25 (Enc.cells p)), (1, .row 3 (fl r1830.2.2.1)), (2, .row 39 (fl r1830.2.2.2.1)), (3, .row 39 (fl r1830.2.2.2.2)), (4, .row 25 [iS r1830.1, .own 1 0 r1830.2.2.1.length, bS r1830.2.1, .own 2 0 r1830.2.2.2.1.length, .own 3 0 r1830.2.2.2.2.length]), (5, .row 30 (Enc.cells r1832)), (6, .row 3 (fl r1834.2.2.2.2.2.2.2.2.1)), (7, .row 39 (fl r1834.2.2.2.2.2.2.2.2.2.1)), (8, .row 39 (fl r1834.2.2.2.2.2.2.2.2.2.2.1)), (9, .row 64 (fl r1834.2.2.2.2.2.2.2.2.2.2.2)), (10, .row 25 [iS r1834.1, .own 6 0 r1834.2.2.2.2.2.2.2.2.1.length, bS r1834.2.1, .own 7 0 r1834.2.2.2.2.2.2.2.2.2.1.length, .own 8 0 r1834.2.2.2.2.2.2.2.2.2.2.1.length]), (11, .row 34 [bS r1834.2.2.1, bS r1834.2.2.2.1, bS r1834.2.2.2.2.1, iS r1834.2.2.2.2.2.1, iS r1834.2.2.2.2.2.2.1, .own 9 0 r1834.2.2.2.2.2.2.2.2.2.2.2.length]), (12, .row 30 (Enc.cells r1834.2.2.2.2.2.2.2.1))] 23 follows (by kernel_rfl) ?_
          exact hK1845 (true, r1834.1, r1834.2.1, r1834.2.2.1, r1834.2.2.2.1, r1834.2.2.2.2.1, r1834.2.2.2.2.2.1, r1834.2.2.2.2.2.2.1, r1834.2.2.2.2.2.2.2.1, r1834.2.2.2.2.2.2.2.2.1, r1834.2.2.2.2.2.2.2.2.2.1, r1834.2.2.2.2.2.2.2.2.2.2.1, r1834.2.2.2.2.2.2.2.2.2.2.2) _ _ _ h (leSt_m [(0, 0), (1, 10), (2, 11), (3, 12), (4, 6), (5, 7), (6, 8), (7, 9)] [] (by (try simp only [g1847]) <;> simp only [push_cast, seval]) (by (try simp only [g1847]) <;> simp only [push_cast, seval]) rfl rfl rfl)
        · refine rs 2 [] [] (by kernel_rfl) allP_nil ?_
          obtain ⟨r1848, hr1848, h⟩ := bind_sx h
          refine call_x (taskmillref_SamePipe_spec (Pipe.mk r1830.1 r1830.2.2.1 r1830.2.1 r1830.2.2.2.1 r1830.2.2.2.2) p r1848 hr1848) (args := [.agg [iS r1830.1, .own 1 0 r1830.2.2.1.length, bS r1830.2.1, .own 2 0 r1830.2.2.2.1.length, .own 3 0 r1830.2.2.2.2.length], .agg (Enc.cells p)]) (dst := (some 41)) (by kernel_rfl) [(0, .row 25 (Enc.cells p)), (1, .row 3 (fl r1830.2.2.1)), (2, .row 39 (fl r1830.2.2.2.1)), (3, .row 39 (fl r1830.2.2.2.2)), (4, .row 25 [iS r1830.1, .own 1 0 r1830.2.2.1.length, bS r1830.2.1, .own 2 0 r1830.2.2.2.1.length, .own 3 0 r1830.2.2.2.2.length]), (5, .row 30 (Enc.cells r1832)), (6, .row 3 (fl r1834.2.2.2.2.2.2.2.2.1)), (7, .row 39 (fl r1834.2.2.2.2.2.2.2.2.2.1)), (8, .row 39 (fl r1834.2.2.2.2.2.2.2.2.2.2.1)), (9, .row 64 (fl r1834.2.2.2.2.2.2.2.2.2.2.2)), (10, .row 25 [iS r1834.1, .own 6 0 r1834.2.2.2.2.2.2.2.2.1.length, bS r1834.2.1, .own 7 0 r1834.2.2.2.2.2.2.2.2.2.1.length, .own 8 0 r1834.2.2.2.2.2.2.2.2.2.2.1.length]), (11, .row 34 [bS r1834.2.2.1, bS r1834.2.2.2.1, bS r1834.2.2.2.2.1, iS r1834.2.2.2.2.2.1, iS r1834.2.2.2.2.2.2.1, .own 9 0 r1834.2.2.2.2.2.2.2.2.2.2.2.length]), (12, .row 30 (Enc.cells r1834.2.2.2.2.2.2.2.1))] 20 (by kernel_rfl) [] [1, 2, 3] (bS r1848) [] (by simp only [push_cast, seval]) (by simp only [push_cast, seval]) (by kernel_rfl) (.inr ⟨by simp only [push_cast, seval], by simp only [push_cast, seval]⟩) (by simp only [push_cast, seval]) (by simp only [push_cast, seval]) ?_
          refine rs 2 [] [] (by kernel_rfl) allP_nil ?_
          refine rt [(1, iS task), (2, iS value), (3, bS xtry), (4, .ptr 0 0), (11, .ptr 10 0), (12, .ptr 11 0), (13, .ptr 12 0), (43, bS (!r1848))] [(0, .row 25 (Enc.cells p)), (1, .row 3 (fl r1830.2.2.1)), (2, .row 39 (fl r1830.2.2.2.1)), (3, .row 39 (fl r1830.2.2.2.2)), (4, .row 25 [iS r1830.1, .own 1 0 r1830.2.2.1.length, bS r1830.2.1, .own 2 0 r1830.2.2.2.1.length, .own 3 0 r1830.2.2.2.2.length]), (5, .row 30 (Enc.cells r1832)), (6, .row 3 (fl r1834.2.2.2.2.2.2.2.2.1)), (7, .row 39 (fl r1834.2.2.2.2.2.2.2.2.2.1)), (8, .row 39 (fl r1834.2.2.2.2.2.2.2.2.2.2.1)), (9, .row 64 (fl r1834.2.2.2.2.2.2.2.2.2.2.2)), (10, .row 25 [iS r1834.1, .own 6 0 r1834.2.2.2.2.2.2.2.2.1.length, bS r1834.2.1, .own 7 0 r1834.2.2.2.2.2.2.2.2.2.1.length, .own 8 0 r1834.2.2.2.2.2.2.2.2.2.2.1.length]), (11, .row 34 [bS r1834.2.2.1, bS r1834.2.2.2.1, bS r1834.2.2.2.2.1, iS r1834.2.2.2.2.2.1, iS r1834.2.2.2.2.2.2.1, .own 9 0 r1834.2.2.2.2.2.2.2.2.2.2.2.length]), (12, .row 30 (Enc.cells r1834.2.2.2.2.2.2.2.1))] 23 follows (by kernel_rfl) ?_
          exact hK1845 ((!r1848), r1834.1, r1834.2.1, r1834.2.2.1, r1834.2.2.2.1, r1834.2.2.2.2.1, r1834.2.2.2.2.2.1, r1834.2.2.2.2.2.2.1, r1834.2.2.2.2.2.2.2.1, r1834.2.2.2.2.2.2.2.2.1, r1834.2.2.2.2.2.2.2.2.2.1, r1834.2.2.2.2.2.2.2.2.2.2.1, r1834.2.2.2.2.2.2.2.2.2.2.2) _ _ _ h (leSt_m [(0, 0), (1, 10), (2, 11), (3, 12), (4, 6), (5, 7), (6, 8), (7, 9)] [] (by (try simp only [g1847]) <;> simp only [push_cast, seval]) (by (try simp only [g1847]) <;> simp only [push_cast, seval]) rfl rfl rfl)
      · rintro ⟨t43q2, c1_Cap2, c1_Closed2, c2_Done2, c2_Panic2, c2_Ok2, c2_Value2, c2_Case2, c3q2, c4q2, c5q2, c6q2, c7q2⟩ h
        try dsimp only at h ⊢
        unfold taskmilllaw_PipeSends_j2 at h
        refine cond_sx h (by kernel_rfl) (fun g1872 h => ?_) (fun g1872 h => ?_)
        · refine seq_np ?_
          refine reg_f ?_
          refine rs 1 [] [] (by kernel_rfl) allP_nil ?_
          refine rf [(8, bS false)] [(0, .row 25 (Enc.cells p)), (1, .row 25 [iS c1_Cap2, .own 4 0 c4q2.length, bS c1_Closed2, .own 5 0 c5q2.length, .own 6 0 c6q2.length]), (2, .row 34 [bS c2_Done2, bS c2_Panic2, bS c2_Ok2, iS c2_Value2, iS c2_Case2, .own 7 0 c7q2.length]), (3, .row 30 (Enc.cells c3q2)), (4, .row 3 (fl c4q2)), (5, .row 39 (fl c5q2)), (6, .row 39 (fl c6q2)), (7, .row 64 (fl c7q2))] 8 (by kernel_rfl) ?_
          refine wk_id ?_
          obtain rfl := Option.some.inj h
          refine ret_at (bS false) (by kernel_rfl) ?_
          exact ret_e [] [] (by simp only [push_cast, seval]) (by simp only [push_cast, seval]) rfl rfl rfl
        · refine wk_id ?_
          refine seq_np ?_
          refine reg_f ?_
          refine rs 5 [] [] (by kernel_rfl) allP_nil ?_
          refine rf [(1, iS task), (3, bS xtry), (4, .ptr 0 0), (11, .ptr 1 0), (12, .ptr 2 0), (13, .ptr 3 0), (14, .ptr 8 0)] [(0, .row 25 (Enc.cells p)), (1, .row 25 [iS c1_Cap2, .own 4 0 c4q2.length, bS c1_Closed2, .own 5 0 c5q2.length, .own 6 0 c6q2.length]), (2, .row 34 [bS c2_Done2, bS c2_Panic2, bS c2_Ok2, iS c2_Value2, iS c2_Case2, .own 7 0 c7q2.length]), (3, .row 30 (Enc.cells c3q2)), (4, .row 3 (fl c4q2)), (5, .row 39 (fl c5q2)), (6, .row 39 (fl c6q2)), (7, .row 64 (fl c7q2)), (8, .row 39 [iS task, iS 0, iS value])] 9 (by kernel_rfl) ?_
          refine wk_id ?_
          refine seq_np ?_
          refine reg_f ?_
          refine rs 2 [] [] (by kernel_rfl) allP_nil ?_
          obtain ⟨r1850, hr1850, h⟩ := bind_sx h
          refine call_x (taskmillref_Sent_spec p (GPost.mk task 0 value) r1850 hr1850) (args := [.agg (Enc.cells p), .agg [iS task, iS 0, iS value]]) (dst := (some 50)) (by kernel_rfl) [(0, .row 25 (Enc.cells p)), (1, .row 25 [iS c1_Cap2, .own 4 0 c4q2.length, bS c1_Closed2, .own 5 0 c5q2.length, .own 6 0 c6q2.length]), (2, .row 34 [bS c2_Done2, bS c2_Panic2, bS c2_Ok2, iS c2_Value2, iS c2_Case2, .own 7 0 c7q2.length]), (3, .row 30 (Enc.cells c3q2)), (4, .row 3 (fl c4q2)), (5, .row 39 (fl c5q2)), (6, .row 39 (fl c6q2)), (7, .row 64 (fl c7q2)), (8, .row 39 [iS task, iS 0, iS value])] 9 (by kernel_rfl) [] [] (.tup [.agg [iS r1850.1, .sl r1850.2.1.length (fl r1850.2.1), bS r1850.2.2.1, .sl r1850.2.2.2.1.length (fl r1850.2.2.2.1), .sl r1850.2.2.2.2.1.length (fl r1850.2.2.2.2.1)], .agg [bS r1850.2.2.2.2.2.1, bS r1850.2.2.2.2.2.2.1, bS r1850.2.2.2.2.2.2.2.1, iS r1850.2.2.2.2.2.2.2.2.1, iS r1850.2.2.2.2.2.2.2.2.2.1, .own 9 0 r1850.2.2.2.2.2.2.2.2.2.2.length]]) [(9, .row 64 (fl r1850.2.2.2.2.2.2.2.2.2.2))] (by simp only [push_cast, seval]) (by simp only [push_cast, seval]) (by kernel_rfl) (.inl rfl) (by simp only [push_cast, seval]) (by simp only [push_cast, seval]) ?_
          refine rs 7 [] [] (by kernel_rfl) allP_nil ?_
          refine rf [(1, iS task), (3, bS xtry), (4, .ptr 0 0), (11, .ptr 1 0), (12, .ptr 2 0), (13, .ptr 3 0), (14, .ptr 8 0), (15, .ptr 10 0), (16, .ptr 11 0)] [(0, .row 25 (Enc.cells p)), (1, .row 25 [iS c1_Cap2, .own 4 0 c4q2.length, bS c1_Closed2, .own 5 0 c5q2.length, .own 6 0 c6q2.length]), (2, .row 34 [bS c2_Done2, bS c2_Panic2, bS c2_Ok2, iS c2_Value2, iS c2_Case2, .own 7 0 c7q2.length]), (3, .row 30 (Enc.cells c3q2)), (4, .row 3 (fl c4q2)), (5, .row 39 (fl c5q2)), (6, .row 39 (fl c6q2)), (7, .row 64 (fl c7q2)), (8, .row 39 [iS task, iS 0, iS value]), (9, .row 64 (fl r1850.2.2.2.2.2.2.2.2.2.2)), (10, .row 25 [iS r1850.1, .sl r1850.2.1.length (fl r1850.2.1), bS r1850.2.2.1, .sl r1850.2.2.2.1.length (fl r1850.2.2.2.1), .sl r1850.2.2.2.2.1.length (fl r1850.2.2.2.2.1)]), (11, .row 34 [bS r1850.2.2.2.2.2.1, bS r1850.2.2.2.2.2.2.1, bS r1850.2.2.2.2.2.2.2.1, iS r1850.2.2.2.2.2.2.2.2.1, iS r1850.2.2.2.2.2.2.2.2.2.1, .own 9 0 r1850.2.2.2.2.2.2.2.2.2.2.length])] 12 (by kernel_rfl) ?_
          refine wk_id ?_
          refine seq_cut (A := Int × (List Int) × Bool × (List GPost) × (List GPost) × Bool × Bool × Bool × Int × Int × (List GWake)) (fun a => ([(1, iS task), (4, .ptr 0 0), (11, .ptr 1 0), (12, .ptr 2 0), (13, .ptr 3 0), (15, .ptr 4 0), (16, .ptr 5 0)], [(0, .row 25 (Enc.cells p)), (1, .row 25 [iS c1_Cap2, .own 6 0 c4q2.length, bS c1_Closed2, .own 7 0 c5q2.length, .own 8 0 c6q2.length]), (2, .row 34 [bS c2_Done2, bS c2_Panic2, bS c2_Ok2, iS c2_Value2, iS c2_Case2, .own 9 0 c7q2.length]), (3, .row 30 (Enc.cells c3q2)), (4, .row 25 [iS a.1, .sl a.2.1.length (fl a.2.1), bS a.2.2.1, .sl a.2.2.2.1.length (fl a.2.2.2.1), .sl a.2.2.2.2.1.length (fl a.2.2.2.2.1)]), (5, .row 34 [bS a.2.2.2.2.2.1, bS a.2.2.2.2.2.2.1, bS a.2.2.2.2.2.2.2.1, iS a.2.2.2.2.2.2.2.2.1, iS a.2.2.2.2.2.2.2.2.2.1, .own 10 0 a.2.2.2.2.2.2.2.2.2.2.length]), (6, .row 3 (fl c4q2)), (7, .row 39 (fl c5q2)), (8, .row 39 (fl c6q2)), (9, .row 64 (fl c7q2)), (10, .row 64 (fl a.2.2.2.2.2.2.2.2.2.2))], 11)) (fun a => (taskmilllaw_PipeSends_j1 p task c1_Cap2 c1_Closed2 c2_Done2 c2_Panic2 c2_Ok2 c2_Value2 c2_Case2 c3q2 c4q2 c5q2 c6q2 c7q2 a.1 a.2.1 a.2.2.1 a.2.2.2.1 a.2.2.2.2.1 a.2.2.2.2.2.1 a.2.2.2.2.2.2.1 a.2.2.2.2.2.2.2.1 a.2.2.2.2.2.2.2.2.1 a.2.2.2.2.2.2.2.2.2.1 a.2.2.2.2.2.2.2.2.2.2) = some r) (fun K1857 hK1857 => ?_) ?_
          · refine seq_cut (A := Unit) (fun _ => ([(1, iS task), (4, .ptr 0 0), (11, .ptr 1 0), (12, .ptr 2 0), (13, .ptr 3 0), (14, .ptr 8 0), (15, .ptr 10 0), (16, .ptr 11 0), (59, bS ((!r1850.2.2.2.2.2.1) && (!xtry)))], [(0, .row 25 (Enc.cells p)), (1, .row 25 [iS c1_Cap2, .own 4 0 c4q2.length, bS c1_Closed2, .own 5 0 c5q2.length, .own 6 0 c6q2.length]), (2, .row 34 [bS c2_Done2, bS c2_Panic2, bS c2_Ok2, iS c2_Value2, iS c2_Case2, .own 7 0 c7q2.length]), (3, .row 30 (Enc.cells c3q2)), (4, .row 3 (fl c4q2)), (5, .row 39 (fl c5q2)), (6, .row 39 (fl c6q2)), (7, .row 64 (fl c7q2)), (8, .row 39 [iS task, iS 0, iS value]), (9, .row 64 (fl r1850.2.2.2.2.2.2.2.2.2.2)), (10, .row 25 [iS r1850.1, .sl r1850.2.1.length (fl r1850.2.1), bS r1850.2.2.1, .sl r1850.2.2.2.1.length (fl r1850.2.2.2.1), .sl r1850.2.2.2.2.1.length (fl r1850.2.2.2.2.1)]), (11, .row 34 [bS r1850.2.2.2.2.2.1, bS r1850.2.2.2.2.2.2.1, bS r1850.2.2.2.2.2.2.2.1, iS r1850.2.2.2.2.2.2.2.2.1, iS r1850.2.2.2.2.2.2.2.2.2.1, .own 9 0 r1850.2.2.2.2.2.2.2.2.2.2.length])], 12)) (fun _ => True) (fun K1859 hK1859 => ?_) (fun _ _ => ?_)
            · refine reg_f ?_
              refine rs 4 [] [] (by kernel_rfl) allP_nil ?_
              refine run_split 56 (!r1850.2.2.2.2.2.1) (.inl (by kernel_rfl)) (fun g1860 => ?_) (fun g1860 => ?_)
              · refine rs 3 [] [] (by kernel_rfl) allP_nil ?_
                refine rf [(1, iS task), (4, .ptr 0 0), (11, .ptr 1 0), (12, .ptr 2 0), (13, .ptr 3 0), (14, .ptr 8 0), (15, .ptr 10 0), (16, .ptr 11 0), (59, bS (!xtry))] [(0, .row 25 (Enc.cells p)), (1, .row 25 [iS c1_Cap2, .own 4 0 c4q2.length, bS c1_Closed2, .own 5 0 c5q2.length, .own 6 0 c6q2.length]), (2, .row 34 [bS c2_Done2, bS c2_Panic2, bS c2_Ok2, iS c2_Value2, iS c2_Case2, .own 7 0 c7q2.length]), (3, .row 30 (Enc.cells c3q2)), (4, .row 3 (fl c4q2)), (5, .row 39 (fl c5q2)), (6, .row 39 (fl c6q2)), (7, .row 64 (fl c7q2)), (8, .row 39 [iS task, iS 0, iS value]), (9, .row 64 (fl r1850.2.2.2.2.2.2.2.2.2.2)), (10, .row 25 [iS r1850.1, .sl r1850.2.1.length (fl r1850.2.1), bS r1850.2.2.1, .sl r1850.2.2.2.1.length (fl r1850.2.2.2.1), .sl r1850.2.2.2.2.1.length (fl r1850.2.2.2.2.1)]), (11, .row 34 [bS r1850.2.2.2.2.2.1, bS r1850.2.2.2.2.2.2.1, bS r1850.2.2.2.2.2.2.2.1, iS r1850.2.2.2.2.2.2.2.2.1, iS r1850.2.2.2.2.2.2.2.2.2.1, .own 9 0 r1850.2.2.2.2.2.2.2.2.2.2.length])] 12 (by kernel_rfl) ?_
                exact hK1859 () _ _ _ trivial (leSt_m [(0, 0), (1, 1), (2, 2), (3, 3), (4, 4), (5, 5), (6, 6), (7, 7), (8, 8), (9, 9), (10, 10), (11, 11)] [] (by (try simp only [g1860]) <;> simp only [push_cast, seval]) (by (try simp only [g1860]) <;> simp only [push_cast, seval]) rfl rfl rfl)
              · refine rs 3 [] [] (by kernel_rfl) allP_nil ?_
                refine rf [(1, iS task), (4, .ptr 0 0), (11, .ptr 1 0), (12, .ptr 2 0), (13, .ptr 3 0), (14, .ptr 8 0), (15, .ptr 10 0), (16, .ptr 11 0), (59, bS false)] [(0, .row 25 (Enc.cells p)), (1, .row 25 [iS c1_Cap2, .own 4 0 c4q2.length, bS c1_Closed2, .own 5 0 c5q2.length, .own 6 0 c6q2.length]), (2, .row 34 [bS c2_Done2, bS c2_Panic2, bS c2_Ok2, iS c2_Value2, iS c2_Case2, .own 7 0 c7q2.length]), (3, .row 30 (Enc.cells c3q2)), (4, .row 3 (fl c4q2)), (5, .row 39 (fl c5q2)), (6, .row 39 (fl c6q2)), (7, .row 64 (fl c7q2)), (8, .row 39 [iS task, iS 0, iS value]), (9, .row 64 (fl r1850.2.2.2.2.2.2.2.2.2.2)), (10, .row 25 [iS r1850.1, .sl r1850.2.1.length (fl r1850.2.1), bS r1850.2.2.1, .sl r1850.2.2.2.1.length (fl r1850.2.2.2.1), .sl r1850.2.2.2.2.1.length (fl r1850.2.2.2.2.1)]), (11, .row 34 [bS r1850.2.2.2.2.2.1, bS r1850.2.2.2.2.2.2.1, bS r1850.2.2.2.2.2.2.2.1, iS r1850.2.2.2.2.2.2.2.2.1, iS r1850.2.2.2.2.2.2.2.2.2.1, .own 9 0 r1850.2.2.2.2.2.2.2.2.2.2.length])] 12 (by kernel_rfl) ?_
                exact hK1859 () _ _ _ trivial (leSt_m [(0, 0), (1, 1), (2, 2), (3, 3), (4, 4), (5, 5), (6, 6), (7, 7), (8, 8), (9, 9), (10, 10), (11, 11)] [] (by (try simp only [g1860]) <;> simp only [push_cast, seval]) (by (try simp only [g1860]) <;> simp only [push_cast, seval]) rfl rfl rfl)
            · dsimp only
              refine cond_sx h (by kernel_rfl) (fun g1867 h => ?_) (fun g1867 h => ?_)
              · refine reg_t ?_
                refine rs 2 [] [] (by kernel_rfl) allP_nil ?_
                obtain ⟨r1864, hr1864, h⟩ := bind_sx h
                refine call_x (taskmilllaw_ownPosts_spec r1850.2.2.2.1 r1864 hr1864) (args := [.sl r1850.2.2.2.1.length (fl r1850.2.2.2.1)]) (dst := (some 62)) (by kernel_rfl) [(0, .row 25 (Enc.cells p)), (1, .row 25 [iS c1_Cap2, .own 4 0 c4q2.length, bS c1_Closed2, .own 5 0 c5q2.length, .own 6 0 c6q2.length]), (2, .row 34 [bS c2_Done2, bS c2_Panic2, bS c2_Ok2, iS c2_Value2, iS c2_Case2, .own 7 0 c7q2.length]), (3, .row 30 (Enc.cells c3q2)), (4, .row 3 (fl c4q2)), (5, .row 39 (fl c5q2)), (6, .row 39 (fl c6q2)), (7, .row 64 (fl c7q2)), (8, .row 39 [iS task, iS 0, iS value]), (9, .row 64 (fl r1850.2.2.2.2.2.2.2.2.2.2)), (10, .row 25 [iS r1850.1, .sl r1850.2.1.length (fl r1850.2.1), bS r1850.2.2.1, .sl r1850.2.2.2.1.length (fl r1850.2.2.2.1), .sl r1850.2.2.2.2.1.length (fl r1850.2.2.2.2.1)]), (11, .row 34 [bS r1850.2.2.2.2.2.1, bS r1850.2.2.2.2.2.2.1, bS r1850.2.2.2.2.2.2.2.1, iS r1850.2.2.2.2.2.2.2.2.1, iS r1850.2.2.2.2.2.2.2.2.2.1, .own 9 0 r1850.2.2.2.2.2.2.2.2.2.2.length])] 14 (by kernel_rfl) [] [] (.own 14 0 r1864.length) [(14, .row 39 (fl r1864))] (by simp only [push_cast, seval]) (by simp only [push_cast, seval]) (by kernel_rfl) (.inl rfl) (by simp only [push_cast, seval]) (by simp only [push_cast, seval]) ?_
                refine chk_sx h (fun g1866 h => ?_)
                have k1865 : (r1864 ++ ([(GPost.mk task 0 value)] : List GPost)).length * 24 ≤ 140737488355328 := by first | simpa only [Bool.and_eq_true, decide_eq_true_eq, bne_iff_ne, ne_eq] using g1866 | (simp at g1866 ⊢; omega)
                refine rs 5 [none, none, some ⟨.own 19 0 (r1864 ++ ([(GPost.mk task 0 value)] : List GPost)).length, [(19, .row 39 (fl (r1864 ++ ([(GPost.mk task 0 value)] : List GPost)))), (14, .dead)], 20, [14, 17]⟩] _ (by kernel_rfl) (allP_cons (ob_app (P := Try.prog) r1864 ([(GPost.mk task 0 value)] : List GPost) 3 24 rfl (appCells (fl ([(GPost.mk task 0 value)] : List GPost)) 0 (([(GPost.mk task 0 value)] : List GPost).length * 3)) ([(GPost.mk task 0 value)] : List GPost).length (app_own ([(GPost.mk task 0 value)] : List GPost) 3 rfl) rfl (0 + ([(GPost.mk task 0 value)] : List GPost).length * 3 ≤ (fl ([(GPost.mk task 0 value)] : List GPost)).length) (app_own_le ([(GPost.mk task 0 value)] : List GPost) 3 rfl) 39 (by kernel_rfl) (by decide) k1865 14 19 [17]) allP_nil) ?_
                refine rt [(1, iS task), (4, .ptr 0 0), (11, .ptr 1 0), (12, .ptr 2 0), (13, .ptr 3 0), (15, .ptr 10 0), (16, .ptr 11 0)] [(0, .row 25 (Enc.cells p)), (1, .row 25 [iS c1_Cap2, .own 4 0 c4q2.length, bS c1_Closed2, .own 5 0 c5q2.length, .own 6 0 c6q2.length]), (2, .row 34 [bS c2_Done2, bS c2_Panic2, bS c2_Ok2, iS c2_Value2, iS c2_Case2, .own 7 0 c7q2.length]), (3, .row 30 (Enc.cells c3q2)), (4, .row 3 (fl c4q2)), (5, .row 39 (fl c5q2)), (6, .row 39 (fl c6q2)), (7, .row 64 (fl c7q2)), (8, .row 39 [iS task, iS 0, iS value]), (9, .row 64 (fl r1850.2.2.2.2.2.2.2.2.2.2)), (10, .row 25 [iS r1850.1, .sl r1850.2.1.length (fl r1850.2.1), bS r1850.2.2.1, .own 19 0 (r1864 ++ ([(GPost.mk task 0 value)] : List GPost)).length, .sl r1850.2.2.2.2.1.length (fl r1850.2.2.2.2.1)]), (11, .row 34 [bS r1850.2.2.2.2.2.1, bS r1850.2.2.2.2.2.2.1, bS r1850.2.2.2.2.2.2.2.1, iS r1850.2.2.2.2.2.2.2.2.1, iS r1850.2.2.2.2.2.2.2.2.2.1, .own 9 0 r1850.2.2.2.2.2.2.2.2.2.2.length]), (14, .dead), (17, .row 39 (fl ([(GPost.mk task 0 value)] : List GPost))), (19, .row 39 (fl (r1864 ++ ([(GPost.mk task 0 value)] : List GPost))))] 23 follows (by kernel_rfl) ?_
                exact hK1857 (r1850.1, r1850.2.1, r1850.2.2.1, (r1864 ++ ([(GPost.mk task 0 value)] : List GPost)), r1850.2.2.2.2.1, r1850.2.2.2.2.2.1, r1850.2.2.2.2.2.2.1, r1850.2.2.2.2.2.2.2.1, r1850.2.2.2.2.2.2.2.2.1, r1850.2.2.2.2.2.2.2.2.2.1, r1850.2.2.2.2.2.2.2.2.2.2) _ _ _ h (leSt_m [(0, 0), (1, 1), (2, 2), (3, 3), (4, 10), (5, 11), (6, 4), (7, 5), (8, 6), (9, 7), (10, 9)] [19] (by simp only [push_cast, seval]) (by simp only [push_cast, seval]) rfl rfl rfl)
              · exact hK1857 (r1850.1, r1850.2.1, r1850.2.2.1, r1850.2.2.2.1, r1850.2.2.2.2.1, r1850.2.2.2.2.2.1, r1850.2.2.2.2.2.2.1, r1850.2.2.2.2.2.2.2.1, r1850.2.2.2.2.2.2.2.2.1, r1850.2.2.2.2.2.2.2.2.2.1, r1850.2.2.2.2.2.2.2.2.2.2) _ _ _ h (leSt_m [(0, 0), (1, 1), (2, 2), (3, 3), (4, 10), (5, 11), (6, 4), (7, 5), (8, 6), (9, 7), (10, 9)] [] (by simp only [push_cast, seval]) (by simp only [push_cast, seval]) rfl rfl rfl)
          · rintro ⟨c4_Cap1, c4_Items1, c4_Closed1, c4_Senders1, c4_Getters1, c5_Done1, c5_Panic1, c5_Ok1, c5_Value1, c5_Case1, c10q1⟩ h
            try dsimp only at h ⊢
            unfold taskmilllaw_PipeSends_j1 at h
            refine seq_np ?_
            refine reg_t ?_
            refine rs 5 [] [] (by kernel_rfl) allP_nil ?_
            obtain ⟨r1870, hr1870, h⟩ := bind_sx h
            refine run_call 20 [.agg (Enc.cells p), iS task] (some 72) (by kernel_rfl) ?_
            refine callE_0 (taskmilllaw_taskFault_spec p task r1870 hr1870) (by simp only [push_cast, seval]) (by simp only [push_cast, seval]) ?_
            refine back_t ?_
            refine rs 2 [] [] (by kernel_rfl) allP_nil ?_
            obtain ⟨r1871, hr1871, h⟩ := bind_sx h
            refine call_x (taskmilllaw_pipeAs_spec (Pipe.mk c1_Cap2 c4q2 c1_Closed2 c5q2 c6q2) (Answer.mk c2_Done2 c2_Panic2 c2_Ok2 c2_Value2 c2_Case2 c7q2) c3q2 r1870 (Pipe.mk c4_Cap1 c4_Items1 c4_Closed1 c4_Senders1 c4_Getters1) (Answer.mk c5_Done1 c5_Panic1 c5_Ok1 c5_Value1 c5_Case1 c10q1) r1871 hr1871) (args := [.agg [iS c1_Cap2, .own 6 0 c4q2.length, bS c1_Closed2, .own 7 0 c5q2.length, .own 8 0 c6q2.length], .agg [bS c2_Done2, bS c2_Panic2, bS c2_Ok2, iS c2_Value2, iS c2_Case2, .own 9 0 c7q2.length], .agg (Enc.cells c3q2), .agg (Enc.cells r1870), .agg [iS c4_Cap1, .sl c4_Items1.length (fl c4_Items1), bS c4_Closed1, .sl c4_Senders1.length (fl c4_Senders1), .sl c4_Getters1.length (fl c4_Getters1)], .agg [bS c5_Done1, bS c5_Panic1, bS c5_Ok1, iS c5_Value1, iS c5_Case1, .own 10 0 c10q1.length]]) (dst := (some 75)) (by kernel_rfl) [(0, .row 25 (Enc.cells p)), (1, .row 25 [iS c1_Cap2, .own 6 0 c4q2.length, bS c1_Closed2, .own 7 0 c5q2.length, .own 8 0 c6q2.length]), (2, .row 34 [bS c2_Done2, bS c2_Panic2, bS c2_Ok2, iS c2_Value2, iS c2_Case2, .own 9 0 c7q2.length]), (3, .row 30 (Enc.cells c3q2)), (4, .row 25 [iS c4_Cap1, .sl c4_Items1.length (fl c4_Items1), bS c4_Closed1, .sl c4_Senders1.length (fl c4_Senders1), .sl c4_Getters1.length (fl c4_Getters1)]), (5, .row 34 [bS c5_Done1, bS c5_Panic1, bS c5_Ok1, iS c5_Value1, iS c5_Case1, .own 10 0 c10q1.length]), (6, .row 3 (fl c4q2)), (7, .row 39 (fl c5q2)), (8, .row 39 (fl c6q2)), (9, .row 64 (fl c7q2)), (10, .row 64 (fl c10q1))] 19 (by kernel_rfl) [] [6, 7, 8, 9, 10] (bS r1871) [] (by simp only [push_cast, seval]) (by simp only [push_cast, seval]) (by kernel_rfl) (.inr ⟨by simp only [push_cast, seval], by simp only [push_cast, seval]⟩) (by simp only [push_cast, seval]) (by simp only [push_cast, seval]) ?_
            refine rs 1 [] [] (by kernel_rfl) allP_nil ?_
            refine rt [(8, bS r1871)] [(0, .row 25 (Enc.cells p)), (1, .row 25 [iS c1_Cap2, .own 6 0 c4q2.length, bS c1_Closed2, .own 7 0 c5q2.length, .own 8 0 c6q2.length]), (2, .row 34 [bS c2_Done2, bS c2_Panic2, bS c2_Ok2, iS c2_Value2, iS c2_Case2, .own 9 0 c7q2.length]), (3, .row 30 (Enc.cells c3q2)), (4, .row 25 [iS c4_Cap1, .sl c4_Items1.length (fl c4_Items1), bS c4_Closed1, .sl c4_Senders1.length (fl c4_Senders1), .sl c4_Getters1.length (fl c4_Getters1)]), (5, .row 34 [bS c5_Done1, bS c5_Panic1, bS c5_Ok1, iS c5_Value1, iS c5_Case1, .own 10 0 c10q1.length]), (6, .row 3 (fl c4q2)), (7, .row 39 (fl c5q2)), (8, .row 39 (fl c6q2)), (9, .row 64 (fl c7q2)), (10, .row 64 (fl c10q1))] 21 follows (by kernel_rfl) ?_
            refine wk_id ?_
            obtain rfl := Option.some.inj h
            refine ret_at (bS r1871) (by kernel_rfl) ?_
            exact ret_e [] [] (by simp only [push_cast, seval]) (by simp only [push_cast, seval]) rfl rfl rfl

set_option maxRecDepth 100000 in
set_option maxHeartbeats 10000000 in
theorem taskmillref_Taken_spec (p : Pipe) (x : GPost) (r : Int × (List Int) × Bool × (List GPost) × (List GPost) × Bool × Bool × Bool × Int × Int × (List GWake)) (h : taskmillref_Taken p x = some r) : SpecW Try.prog 22 [.agg (Enc.cells p), .agg (Enc.cells x)] [] 0 (fun x h n => x = .tup [.agg [iS r.1, .sl r.2.1.length (fl r.2.1), bS r.2.2.1, .sl r.2.2.2.1.length (fl r.2.2.2.1), .sl r.2.2.2.2.1.length (fl r.2.2.2.2.1)], .agg [bS r.2.2.2.2.2.1, bS r.2.2.2.2.2.2.1, bS r.2.2.2.2.2.2.2.1, iS r.2.2.2.2.2.2.2.2.1, iS r.2.2.2.2.2.2.2.2.2.1, .own 0 0 r.2.2.2.2.2.2.2.2.2.2.length]] ∧ h = [(0, .row 64 (fl r.2.2.2.2.2.2.2.2.2.2))] ∧ n = 1) := by
  unfold taskmillref_Taken at h
  refine spec_of (draw_ok _) Try.func22 rfl (by decide) rfl (by kernel_rfl) ?_
  refine seq_np ?_
  refine reg_f ?_
  refine rs 4 [] [] (by kernel_rfl) allP_nil ?_
  refine rf [(2, .ptr 0 0), (3, .ptr 1 0), (4, .ptr 2 0), (5, .ptr 3 0)] [(0, .row 25 (Enc.cells p)), (1, .row 39 (Enc.cells x)), (2, .row 25 [iS 0, .v (.slice none 0 0), bS false, .v (.slice none 0 0), .v (.slice none 0 0)]), (3, .row 34 [bS false, bS false, bS false, iS 0, iS 0, .v (.slice none 0 0)])] 4 (by kernel_rfl) ?_
  refine wk_id ?_
  refine seq_np ?_
  refine reg_f ?_
  refine rs 5 [] [] (by kernel_rfl) allP_nil ?_
  refine rf [(2, .ptr 0 0), (4, .ptr 2 0), (5, .ptr 3 0), (6, .ptr 4 0)] [(0, .row 25 (Enc.cells p)), (1, .row 39 (Enc.cells x)), (2, .row 25 [iS 0, .v (.slice none 0 0), bS false, .v (.slice none 0 0), .v (.slice none 0 0)]), (3, .row 34 [bS false, bS false, bS false, iS 0, iS 0, .v (.slice none 0 0)]), (4, .row 34 [bS true, bS false, bS false, iS 0, iS x.Case, .v (.slice none 0 0)])] 5 (by kernel_rfl) ?_
  refine wk_id ?_
  refine chk_sx h (fun g1901 h => ?_)
  refine seq_np ?_
  refine reg_f ?_
  have k1900 : p.Items.length * 8 ≤ 140737488355328 := by first | simpa only [Bool.and_eq_true, decide_eq_true_eq, bne_iff_ne, ne_eq] using g1901 | (simp at g1901 ⊢; omega)
  refine rs 4 [none, none, some ⟨.own 5 0 p.Items.length, [(5, .row 3 (fl p.Items))], 6, []⟩] _ (by kernel_rfl) (allP_cons (ob_app0 (P := Try.prog) p.Items 1 8 rfl (fl p.Items) p.Items.length rfl rfl ((fl p.Items).length = p.Items.length * 1) (app_sl p.Items 1 rfl) 3 (by kernel_rfl) (by decide) k1900 5 []) allP_nil) ?_
  refine rf [(2, .ptr 0 0), (4, .ptr 2 0), (5, .ptr 3 0), (6, .ptr 4 0), (7, .own 5 0 p.Items.length)] [(0, .row 25 (Enc.cells p)), (1, .row 39 (Enc.cells x)), (2, .row 25 [iS 0, .v (.slice none 0 0), bS false, .v (.slice none 0 0), .v (.slice none 0 0)]), (3, .row 34 [bS false, bS false, bS false, iS 0, iS 0, .v (.slice none 0 0)]), (4, .row 34 [bS true, bS false, bS false, iS 0, iS x.Case, .v (.slice none 0 0)]), (5, .row 3 (fl p.Items))] 6 (by kernel_rfl) ?_
  refine wk_id ?_
  refine seq_cut (A := (List GPost) × (List Int) × (List GWake)) (fun a => ([(2, .ptr 0 0), (4, .ptr 1 0), (5, .ptr 2 0), (6, .ptr 3 0), (7, .own 4 0 a.2.1.length)], [(0, .row 25 [iS p.Cap, .sl p.Items.length (fl p.Items), bS p.Closed, .sl a.1.length (fl a.1), .sl p.Getters.length (fl p.Getters)]), (1, .row 25 [iS 0, .v (.slice none 0 0), bS false, .v (.slice none 0 0), .v (.slice none 0 0)]), (2, .row 34 [bS false, bS false, bS false, iS 0, iS 0, .v (.slice none 0 0)]), (3, .row 34 [bS true, bS false, bS false, iS 0, iS x.Case, .own 5 0 a.2.2.length]), (4, .row 3 (fl a.2.1)), (5, .row 64 (fl a.2.2))], 6)) (fun a => (taskmillref_Taken_j1 p x a.1 a.2.1 a.2.2) = some r) (fun K1910 hK1910 => ?_) ?_
  · refine seq_np ?_
    refine reg_f ?_
    refine rs 4 [] [] (by kernel_rfl) allP_nil ?_
    refine rf [(2, .ptr 0 0), (4, .ptr 2 0), (5, .ptr 3 0), (6, .ptr 4 0), (7, .own 5 0 p.Items.length), (18, bS (decide ((0 : Int) < ((p.Senders.length : Nat) : Int))))] [(0, .row 25 (Enc.cells p)), (1, .row 39 (Enc.cells x)), (2, .row 25 [iS 0, .v (.slice none 0 0), bS false, .v (.slice none 0 0), .v (.slice none 0 0)]), (3, .row 34 [bS false, bS false, bS false, iS 0, iS 0, .v (.slice none 0 0)]), (4, .row 34 [bS true, bS false, bS false, iS 0, iS x.Case, .v (.slice none 0 0)]), (5, .row 3 (fl p.Items))] 6 (by kernel_rfl) ?_
    refine wk_id ?_
    refine cond_sx h (by kernel_rfl) (fun g1923 h => ?_) (fun g1923 h => ?_)
    · refine chk_sx h (fun g1914 h => ?_)
      refine seq_np ?_
      refine reg_f ?_
      have k1913 : 0 ≤ (0 : Int) ∧ (0 : Int) < ((p.Senders.length : Nat) : Int) := by first | simpa only [Bool.and_eq_true, decide_eq_true_eq, bne_iff_ne, ne_eq] using g1914 | (simp at g1914 ⊢; omega)
      refine rs 6 [none, none, some ⟨.iptr (fl p.Senders) (((0 : Int)).toNat * 3), [], 6, []⟩, some ⟨.agg (Enc.cells (ix p.Senders (0 : Int))), [], 6, []⟩] _ (by kernel_rfl) (allP_cons (ob_ldw p.Senders (0 : Int) 3 (((0 : Int)).toNat * 3) k1913 rfl (by first | rfl | omega) [iS (ix p.Senders (0 : Int)).Task, iS (ix p.Senders (0 : Int)).Case, iS (ix p.Senders (0 : Int)).Value] rfl 6 []) (allP_cons (ob_ix_l p.Senders 3 6 0 k1913) allP_nil)) ?_
      refine rf [(2, .ptr 0 0), (4, .ptr 2 0), (5, .ptr 3 0), (6, .ptr 4 0), (7, .own 5 0 p.Items.length), (8, .ptr 6 0)] [(0, .row 25 (Enc.cells p)), (1, .row 39 (Enc.cells x)), (2, .row 25 [iS 0, .v (.slice none 0 0), bS false, .v (.slice none 0 0), .v (.slice none 0 0)]), (3, .row 34 [bS false, bS false, bS false, iS 0, iS 0, .v (.slice none 0 0)]), (4, .row 34 [bS true, bS false, bS false, iS 0, iS x.Case, .v (.slice none 0 0)]), (5, .row 3 (fl p.Items)), (6, .row 39 (Enc.cells (ix p.Senders (0 : Int))))] 7 (by kernel_rfl) ?_
      refine wk_id ?_
      refine chk_sx h (fun g1918 h => ?_)
      refine seq_np ?_
      refine reg_f ?_
      have k1917 : (p.Items ++ ([(ix p.Senders (0 : Int)).Value] : List Int)).length * 8 ≤ 140737488355328 := by first | simpa only [Bool.and_eq_true, decide_eq_true_eq, bne_iff_ne, ne_eq] using g1918 | (simp at g1918 ⊢; omega)
      refine rs 6 [none, none, none, none, some ⟨.own 8 0 (p.Items ++ ([(ix p.Senders (0 : Int)).Value] : List Int)).length, [(8, .row 3 (fl (p.Items ++ ([(ix p.Senders (0 : Int)).Value] : List Int)))), (5, .dead)], 9, [5, 7]⟩] _ (by kernel_rfl) (allP_cons (ob_app (P := Try.prog) p.Items ([(ix p.Senders (0 : Int)).Value] : List Int) 1 8 rfl (appCells (fl ([(ix p.Senders (0 : Int)).Value] : List Int)) 0 (([(ix p.Senders (0 : Int)).Value] : List Int).length * 1)) ([(ix p.Senders (0 : Int)).Value] : List Int).length (app_own ([(ix p.Senders (0 : Int)).Value] : List Int) 1 rfl) rfl (0 + ([(ix p.Senders (0 : Int)).Value] : List Int).length * 1 ≤ (fl ([(ix p.Senders (0 : Int)).Value] : List Int)).length) (app_own_le ([(ix p.Senders (0 : Int)).Value] : List Int) 1 rfl) 3 (by kernel_rfl) (by decide) k1917 5 8 [7]) allP_nil) ?_
      refine rf [(2, .ptr 0 0), (4, .ptr 2 0), (5, .ptr 3 0), (6, .ptr 4 0), (7, .own 8 0 (p.Items ++ ([(ix p.Senders (0 : Int)).Value] : List Int)).length), (8, .ptr 6 0)] [(0, .row 25 (Enc.cells p)), (1, .row 39 (Enc.cells x)), (2, .row 25 [iS 0, .v (.slice none 0 0), bS false, .v (.slice none 0 0), .v (.slice none 0 0)]), (3, .row 34 [bS false, bS false, bS false, iS 0, iS 0, .v (.slice none 0 0)]), (4, .row 34 [bS true, bS false, bS false, iS 0, iS x.Case, .v (.slice none 0 0)]), (5, .dead), (6, .row 39 (Enc.cells (ix p.Senders (0 : Int)))), (7, .row 3 (fl ([(ix p.Senders (0 : Int)).Value] : List Int))), (8, .row 3 (fl (p.Items ++ ([(ix p.Senders (0 : Int)).Value] : List Int))))] 9 (by kernel_rfl) ?_
      refine wk_id ?_
      refine chk_sx h (fun g1922 h => ?_)
      refine seq_np ?_
      refine reg_f ?_
      have k1921 : 0 ≤ (1 : Int) ∧ (1 : Int) ≤ ((p.Senders.length : Nat) : Int) ∧ ((p.Senders.length : Nat) : Int) ≤ ((p.Senders.length : Nat) : Int) := by first | simpa only [Bool.and_eq_true, decide_eq_true_eq, bne_iff_ne, ne_eq] using g1922 | (simp at g1922 ⊢; omega)
      refine rs 5 [none, none, some ⟨.sl (cut p.Senders (1 : Int) ((p.Senders.length : Nat) : Int)).length (fl (cut p.Senders (1 : Int) ((p.Senders.length : Nat) : Int))), [], 9, []⟩] _ (by kernel_rfl) (allP_cons (ob_cut p.Senders (1 : Int) ((p.Senders.length : Nat) : Int) 3 9 rfl k1921) allP_nil) ?_
      refine rf [(2, .ptr 0 0), (4, .ptr 2 0), (5, .ptr 3 0), (6, .ptr 4 0), (7, .own 8 0 (p.Items ++ ([(ix p.Senders (0 : Int)).Value] : List Int)).length), (8, .ptr 6 0)] [(0, .row 25 [iS p.Cap, .sl p.Items.length (fl p.Items), bS p.Closed, .sl (cut p.Senders (1 : Int) ((p.Senders.length : Nat) : Int)).length (fl (cut p.Senders (1 : Int) ((p.Senders.length : Nat) : Int))), .sl p.Getters.length (fl p.Getters)]), (1, .row 39 (Enc.cells x)), (2, .row 25 [iS 0, .v (.slice none 0 0), bS false, .v (.slice none 0 0), .v (.slice none 0 0)]), (3, .row 34 [bS false, bS false, bS false, iS 0, iS 0, .v (.slice none 0 0)]), (4, .row 34 [bS true, bS false, bS false, iS 0, iS x.Case, .v (.slice none 0 0)]), (5, .dead), (6, .row 39 (Enc.cells (ix p.Senders (0 : Int)))), (7, .row 3 (fl ([(ix p.Senders (0 : Int)).Value] : List Int))), (8, .row 3 (fl (p.Items ++ ([(ix p.Senders (0 : Int)).Value] : List Int))))] 9 (by kernel_rfl) ?_
      refine wk_id ?_
      refine reg_f ?_
      refine rs 8 [] [] (by kernel_rfl) allP_nil ?_
      refine rf [(2, .ptr 0 0), (4, .ptr 2 0), (5, .ptr 3 0), (6, .ptr 4 0), (7, .own 8 0 (p.Items ++ ([(ix p.Senders (0 : Int)).Value] : List Int)).length)] [(0, .row 25 [iS p.Cap, .sl p.Items.length (fl p.Items), bS p.Closed, .sl (cut p.Senders (1 : Int) ((p.Senders.length : Nat) : Int)).length (fl (cut p.Senders (1 : Int) ((p.Senders.length : Nat) : Int))), .sl p.Getters.length (fl p.Getters)]), (1, .row 39 (Enc.cells x)), (2, .row 25 [iS 0, .v (.slice none 0 0), bS false, .v (.slice none 0 0), .v (.slice none 0 0)]), (3, .row 34 [bS false, bS false, bS false, iS 0, iS 0, .v (.slice none 0 0)]), (4, .row 34 [bS true, bS false, bS false, iS 0, iS x.Case, .own 9 0 ([(GWake.mk (ix p.Senders (0 : Int)).Task (ix p.Senders (0 : Int)).Case 0 false false)] : List GWake).length]), (5, .dead), (6, .row 39 (Enc.cells (ix p.Senders (0 : Int)))), (7, .row 3 (fl ([(ix p.Senders (0 : Int)).Value] : List Int))), (8, .row 3 (fl (p.Items ++ ([(ix p.Senders (0 : Int)).Value] : List Int)))), (9, .row 64 (fl ([(GWake.mk (ix p.Senders (0 : Int)).Task (ix p.Senders (0 : Int)).Case 0 false false)] : List GWake)))] 10 (by kernel_rfl) ?_
      exact hK1910 ((cut p.Senders (1 : Int) ((p.Senders.length : Nat) : Int)), (p.Items ++ ([(ix p.Senders (0 : Int)).Value] : List Int)), ([(GWake.mk (ix p.Senders (0 : Int)).Task (ix p.Senders (0 : Int)).Case 0 false false)] : List GWake)) _ _ _ h (leSt_m [(0, 0), (1, 2), (2, 3), (3, 4), (4, 8), (5, 9)] [] (by simp only [push_cast, seval]) (by simp only [push_cast, seval]) rfl rfl rfl)
    · exact hK1910 (p.Senders, p.Items, []) _ _ _ h (leSt_m [(0, 0), (1, 2), (2, 3), (3, 4), (4, 5)] [] (by simp only [push_cast, seval]) (by simp only [push_cast, seval]) rfl rfl rfl)
  · rintro ⟨c0_Senders1, c4q1, c5q1⟩ h
    try dsimp only at h ⊢
    unfold taskmillref_Taken_j1 at h
    refine seq_np ?_
    refine seq_np ?_
    refine reg_f ?_
    refine rs 3 [] [] (by kernel_rfl) allP_nil ?_
    refine rf [(2, .ptr 0 0), (4, .ptr 1 0), (5, .ptr 2 0), (6, .ptr 3 0), (7, .own 4 0 c4q1.length), (41, bS (decide ((0 : Int) < ((c4q1.length : Nat) : Int))))] [(0, .row 25 [iS p.Cap, .sl p.Items.length (fl p.Items), bS p.Closed, .sl c0_Senders1.length (fl c0_Senders1), .sl p.Getters.length (fl p.Getters)]), (1, .row 25 [iS 0, .v (.slice none 0 0), bS false, .v (.slice none 0 0), .v (.slice none 0 0)]), (2, .row 34 [bS false, bS false, bS false, iS 0, iS 0, .v (.slice none 0 0)]), (3, .row 34 [bS true, bS false, bS false, iS 0, iS x.Case, .own 5 0 c5q1.length]), (4, .row 3 (fl c4q1)), (5, .row 64 (fl c5q1))] 6 (by kernel_rfl) ?_
    refine wk_id ?_
    refine cond_sx h (by kernel_rfl) (fun g1939 h => ?_) (fun g1939 h => ?_)
    · refine chk_sx h (fun g1932 h => ?_)
      refine seq_np ?_
      refine reg_f ?_
      have k1931 : 0 ≤ (0 : Int) ∧ (0 : Int) < ((c4q1.length : Nat) : Int) := by first | simpa only [Bool.and_eq_true, decide_eq_true_eq, bne_iff_ne, ne_eq] using g1932 | (simp at g1932 ⊢; omega)
      refine rs 5 [none, some ⟨.ptr 4 (0 + ((0 : Int)).toNat * 1), [], 6, [4]⟩, some ⟨iS (ix c4q1 (0 : Int)), [], 6, [4]⟩] _ (by kernel_rfl) (allP_cons (ob_ld c4q1 (0 : Int) 1 0 (0 + ((0 : Int)).toNat * 1) k1931 rfl (by decide) (by first | rfl | omega) (dflS Try.prog 3) (iS (ix c4q1 (0 : Int))) rfl 6 [4]) (allP_cons (ob_ix_o 4 c4q1.length 0 1 6 0 k1931) allP_nil)) ?_
      refine rf [(2, .ptr 0 0), (4, .ptr 1 0), (5, .ptr 2 0), (6, .ptr 3 0), (7, .own 4 0 c4q1.length)] [(0, .row 25 [iS p.Cap, .sl p.Items.length (fl p.Items), bS p.Closed, .sl c0_Senders1.length (fl c0_Senders1), .sl p.Getters.length (fl p.Getters)]), (1, .row 25 [iS 0, .v (.slice none 0 0), bS false, .v (.slice none 0 0), .v (.slice none 0 0)]), (2, .row 34 [bS false, bS false, bS false, iS 0, iS 0, .v (.slice none 0 0)]), (3, .row 34 [bS true, bS false, bS false, iS (ix c4q1 (0 : Int)), iS x.Case, .own 5 0 c5q1.length]), (4, .row 3 (fl c4q1)), (5, .row 64 (fl c5q1))] 6 (by kernel_rfl) ?_
      refine wk_id ?_
      refine seq_np ?_
      refine reg_f ?_
      refine rs 2 [] [] (by kernel_rfl) allP_nil ?_
      refine rf [(2, .ptr 0 0), (4, .ptr 1 0), (5, .ptr 2 0), (6, .ptr 3 0), (7, .own 4 0 c4q1.length)] [(0, .row 25 [iS p.Cap, .sl p.Items.length (fl p.Items), bS p.Closed, .sl c0_Senders1.length (fl c0_Senders1), .sl p.Getters.length (fl p.Getters)]), (1, .row 25 [iS 0, .v (.slice none 0 0), bS false, .v (.slice none 0 0), .v (.slice none 0 0)]), (2, .row 34 [bS false, bS false, bS false, iS 0, iS 0, .v (.slice none 0 0)]), (3, .row 34 [bS true, bS false, bS true, iS (ix c4q1 (0 : Int)), iS x.Case, .own 5 0 c5q1.length]), (4, .row 3 (fl c4q1)), (5, .row 64 (fl c5q1))] 6 (by kernel_rfl) ?_
      refine wk_id ?_
      refine chk_sx h (fun g1936 h => ?_)
      refine seq_np ?_
      refine reg_f ?_
      have k1935 : 0 ≤ (1 : Int) ∧ (1 : Int) ≤ ((c4q1.length : Nat) : Int) ∧ ((c4q1.length : Nat) : Int) ≤ ((c4q1.length : Nat) : Int) := by first | simpa only [Bool.and_eq_true, decide_eq_true_eq, bne_iff_ne, ne_eq] using g1936 | (simp at g1936 ⊢; omega)
      refine rs 1 [] [] (by kernel_rfl) allP_nil ?_
      refine run_cutO c4q1 (some 48) 4 1 3 (1 : Int) ((c4q1.length : Nat) : Int) (by kernel_rfl) rfl k1935 ?_
      refine rs 2 [] [] (by kernel_rfl) allP_nil ?_
      refine rf [(2, .ptr 0 0), (4, .ptr 1 0), (5, .ptr 2 0), (6, .ptr 3 0)] [(0, .row 25 [iS p.Cap, .own 6 0 (cut c4q1 (1 : Int) ((c4q1.length : Nat) : Int)).length, bS p.Closed, .sl c0_Senders1.length (fl c0_Senders1), .sl p.Getters.length (fl p.Getters)]), (1, .row 25 [iS 0, .v (.slice none 0 0), bS false, .v (.slice none 0 0), .v (.slice none 0 0)]), (2, .row 34 [bS false, bS false, bS false, iS 0, iS 0, .v (.slice none 0 0)]), (3, .row 34 [bS true, bS false, bS true, iS (ix c4q1 (0 : Int)), iS x.Case, .own 5 0 c5q1.length]), (4, .dead), (5, .row 64 (fl c5q1)), (6, .row 3 (fl (cut c4q1 (1 : Int) ((c4q1.length : Nat) : Int))))] 7 (by kernel_rfl) ?_
      refine wk_id ?_
      refine seq_np ?_
      refine reg_t ?_
      refine rs 4 [] [] (by kernel_rfl) allP_nil ?_
      refine rt [(4, .ptr 1 0), (5, .ptr 2 0)] [(0, .row 25 [iS p.Cap, .own 6 0 (cut c4q1 (1 : Int) ((c4q1.length : Nat) : Int)).length, bS p.Closed, .sl c0_Senders1.length (fl c0_Senders1), .sl p.Getters.length (fl p.Getters)]), (1, .row 25 [iS p.Cap, .own 6 0 (cut c4q1 (1 : Int) ((c4q1.length : Nat) : Int)).length, bS p.Closed, .sl c0_Senders1.length (fl c0_Senders1), .sl p.Getters.length (fl p.Getters)]), (2, .row 34 [bS true, bS false, bS true, iS (ix c4q1 (0 : Int)), iS x.Case, .own 5 0 c5q1.length]), (3, .row 34 [bS true, bS false, bS true, iS (ix c4q1 (0 : Int)), iS x.Case, .own 5 0 c5q1.length]), (4, .dead), (5, .row 64 (fl c5q1)), (6, .row 3 (fl (cut c4q1 (1 : Int) ((c4q1.length : Nat) : Int))))] 11 follows (by kernel_rfl) ?_
      refine wk_id ?_
      obtain rfl := Option.some.inj h
      refine ret_at (.tup [.agg [iS p.Cap, .own 6 0 (cut c4q1 (1 : Int) ((c4q1.length : Nat) : Int)).length, bS p.Closed, .sl c0_Senders1.length (fl c0_Senders1), .sl p.Getters.length (fl p.Getters)], .agg [bS true, bS false, bS true, iS (ix c4q1 (0 : Int)), iS x.Case, .own 5 0 c5q1.length]]) (by kernel_rfl) ?_
      exact ret_e [(0, 5)] [6] (by simp only [push_cast, seval]) (by simp only [push_cast, seval]) rfl rfl rfl
    · refine wk_id ?_
      refine seq_np ?_
      refine seq_np ?_
      refine reg_f ?_
      refine rs 2 [] [] (by kernel_rfl) allP_nil ?_
      refine rf [(2, .ptr 0 0), (4, .ptr 1 0), (5, .ptr 2 0), (6, .ptr 3 0), (53, bS p.Closed)] [(0, .row 25 [iS p.Cap, .sl p.Items.length (fl p.Items), bS p.Closed, .sl c0_Senders1.length (fl c0_Senders1), .sl p.Getters.length (fl p.Getters)]), (1, .row 25 [iS 0, .v (.slice none 0 0), bS false, .v (.slice none 0 0), .v (.slice none 0 0)]), (2, .row 34 [bS false, bS false, bS false, iS 0, iS 0, .v (.slice none 0 0)]), (3, .row 34 [bS true, bS false, bS false, iS 0, iS x.Case, .own 5 0 c5q1.length]), (4, .row 3 (fl c4q1)), (5, .row 64 (fl c5q1))] 6 (by kernel_rfl) ?_
      refine wk_id ?_
      refine cond_sx h (by kernel_rfl) (fun g1938 h => ?_) (fun g1938 h => ?_)
      · refine seq_np ?_
        refine reg_t ?_
        refine rs 4 [] [] (by kernel_rfl) allP_nil ?_
        refine rt [(4, .ptr 1 0), (5, .ptr 2 0)] [(0, .row 25 [iS p.Cap, .sl p.Items.length (fl p.Items), bS p.Closed, .sl c0_Senders1.length (fl c0_Senders1), .sl p.Getters.length (fl p.Getters)]), (1, .row 25 [iS p.Cap, .sl p.Items.length (fl p.Items), bS p.Closed, .sl c0_Senders1.length (fl c0_Senders1), .sl p.Getters.length (fl p.Getters)]), (2, .row 34 [bS true, bS false, bS false, iS 0, iS x.Case, .own 5 0 c5q1.length]), (3, .row 34 [bS true, bS false, bS false, iS 0, iS x.Case, .own 5 0 c5q1.length]), (4, .row 3 (fl c4q1)), (5, .row 64 (fl c5q1))] 10 follows (by kernel_rfl) ?_
        refine wk_id ?_
        obtain rfl := Option.some.inj h
        refine ret_at (.tup [.agg [iS p.Cap, .sl p.Items.length (fl p.Items), bS p.Closed, .sl c0_Senders1.length (fl c0_Senders1), .sl p.Getters.length (fl p.Getters)], .agg [bS true, bS false, bS false, iS 0, iS x.Case, .own 5 0 c5q1.length]]) (by kernel_rfl) ?_
        exact ret_e [(0, 5)] [] (by simp only [push_cast, seval]) (by simp only [push_cast, seval]) rfl rfl rfl
      · refine wk_id ?_
        refine seq_np ?_
        refine reg_f ?_
        refine rs 4 [] [] (by kernel_rfl) allP_nil ?_
        refine rf [(4, .ptr 1 0), (5, .ptr 2 0)] [(0, .row 25 [iS p.Cap, .sl p.Items.length (fl p.Items), bS p.Closed, .sl c0_Senders1.length (fl c0_Senders1), .sl p.Getters.length (fl p.Getters)]), (1, .row 25 [iS p.Cap, .sl p.Items.length (fl p.Items), bS p.Closed, .sl c0_Senders1.length (fl c0_Senders1), .sl p.Getters.length (fl p.Getters)]), (2, .row 34 [bS false, bS false, bS false, iS 0, iS 0, .v (.slice none 0 0)]), (3, .row 34 [bS true, bS false, bS false, iS 0, iS x.Case, .own 5 0 c5q1.length]), (4, .row 3 (fl c4q1)), (5, .row 64 (fl c5q1))] 6 (by kernel_rfl) ?_
        refine wk_id ?_
        obtain rfl := Option.some.inj h
        refine ret_at (.tup [.agg [iS p.Cap, .sl p.Items.length (fl p.Items), bS p.Closed, .sl c0_Senders1.length (fl c0_Senders1), .sl p.Getters.length (fl p.Getters)], .agg [bS false, bS false, bS false, iS 0, iS 0, .v (.slice none 0 0)]]) (by kernel_rfl) ?_
        exact ret_e [] [] (by simp only [push_cast, seval]) (by simp only [push_cast, seval]) rfl rfl rfl

set_option maxRecDepth 100000 in
set_option maxHeartbeats 10000000 in
theorem taskmilllaw_PipeGets_spec (p : Pipe) (task : Int) (xtry : Bool) (r : Bool) (h : taskmilllaw_PipeGets p task xtry = some r) : SpecW Try.prog 4 [.agg (Enc.cells p), iS task, bS xtry] [] 0 (fun x h n => x = bS r ∧ h = [] ∧ n = 0) := by
  unfold taskmilllaw_PipeGets at h
  refine spec_of (draw_ok _) Try.func4 rfl (by decide) rfl (by kernel_rfl) ?_
  refine seq_np ?_
  refine reg_f ?_
  refine rs 2 [] [] (by kernel_rfl) allP_nil ?_
  refine rf [(1, iS task), (2, bS xtry), (3, .ptr 0 0)] [(0, .row 25 (Enc.cells p))] 1 (by kernel_rfl) ?_
  refine wk_id ?_
  refine seq_np ?_
  refine seq_np ?_
  refine reg_f ?_
  obtain ⟨r1953, hr1953, h⟩ := bind_sx h
  refine run_call 10 [] (some 13) (by kernel_rfl) ?_
  refine call_0 (taskmilllaw_pipeBegun_spec r1953 hr1953) (by simp only [push_cast, seval]) (by simp only [push_cast, seval]) ?_
  refine back_f ?_
  refine rs 1 [] [] (by kernel_rfl) allP_nil ?_
  refine rf [(1, iS task), (2, bS xtry), (3, .ptr 0 0), (14, bS (!r1953))] [(0, .row 25 (Enc.cells p))] 1 (by kernel_rfl) ?_
  refine wk_id ?_
  refine cond_sx h (by kernel_rfl) (fun g1986 h => ?_) (fun g1986 h => ?_)
  · refine seq_np ?_
    refine reg_f ?_
    refine rs 1 [] [] (by kernel_rfl) allP_nil ?_
    refine rf [(6, bS false)] [(0, .row 25 (Enc.cells p))] 1 (by kernel_rfl) ?_
    refine wk_id ?_
    obtain rfl := Option.some.inj h
    refine ret_at (bS false) (by kernel_rfl) ?_
    exact ret_e [] [] (by simp only [push_cast, seval]) (by simp only [push_cast, seval]) rfl rfl rfl
  · refine wk_id ?_
    refine seq_np ?_
    refine seq_np ?_
    refine reg_f ?_
    refine rs 1 [] [] (by kernel_rfl) allP_nil ?_
    obtain ⟨r1957, hr1957, h⟩ := bind_sx h
    refine run_call 11 [.agg (Enc.cells p)] (some 16) (by kernel_rfl) ?_
    refine call_0 (taskmilllaw_vastPipe_spec p r1957 hr1957) (by simp only [push_cast, seval]) (by simp only [push_cast, seval]) ?_
    refine back_f ?_
    refine rf [(1, iS task), (2, bS xtry), (3, .ptr 0 0), (16, bS r1957)] [(0, .row 25 (Enc.cells p))] 1 (by kernel_rfl) ?_
    refine wk_id ?_
    refine cond_sx h (by kernel_rfl) (fun g1985 h => ?_) (fun g1985 h => ?_)
    · refine seq_np ?_
      refine reg_f ?_
      refine rs 1 [] [] (by kernel_rfl) allP_nil ?_
      refine rf [(6, bS true)] [(0, .row 25 (Enc.cells p))] 1 (by kernel_rfl) ?_
      refine wk_id ?_
      obtain rfl := Option.some.inj h
      refine ret_at (bS true) (by kernel_rfl) ?_
      exact ret_e [] [] (by simp only [push_cast, seval]) (by simp only [push_cast, seval]) rfl rfl rfl
    · refine wk_id ?_
      refine seq_np ?_
      refine reg_f ?_
      refine rs 1 [] [] (by kernel_rfl) allP_nil ?_
      obtain ⟨r1960, hr1960, h⟩ := bind_sx h
      refine call_x (taskmilllaw_ownPipe_spec p r1960 hr1960) (args := [.agg (Enc.cells p)]) (dst := (some 19)) (by kernel_rfl) [(0, .row 25 (Enc.cells p))] 1 (by kernel_rfl) [] [] (.agg [iS r1960.1, .own 1 0 r1960.2.2.1.length, bS r1960.2.1, .own 2 0 r1960.2.2.2.1.length, .own 3 0 r1960.2.2.2.2.length]) [(1, .row 3 (fl r1960.2.2.1)), (2, .row 39 (fl r1960.2.2.2.1)), (3, .row 39 (fl r1960.2.2.2.2))] (by simp only [push_cast, seval]) (by simp only [push_cast, seval]) (by kernel_rfl) (.inl rfl) (by simp only [push_cast, seval]) (by simp only [push_cast, seval]) ?_
      refine rs 2 [] [] (by kernel_rfl) allP_nil ?_
      obtain ⟨r1961, hr1961, h⟩ := bind_sx h
      refine call_x (pipe_Get_spec (Pipe.mk r1960.1 r1960.2.2.1 r1960.2.1 r1960.2.2.2.1 r1960.2.2.2.2) task xtry r1961 hr1961) (args := [.agg [iS r1960.1, .own 1 0 r1960.2.2.1.length, bS r1960.2.1, .own 2 0 r1960.2.2.2.1.length, .own 3 0 r1960.2.2.2.2.length], iS task, bS xtry]) (dst := (some 22)) (by kernel_rfl) [(0, .row 25 (Enc.cells p)), (1, .row 3 (fl r1960.2.2.1)), (2, .row 39 (fl r1960.2.2.2.1)), (3, .row 39 (fl r1960.2.2.2.2))] 4 (by kernel_rfl) [] [1, 2, 3] (.tup [.agg [iS r1961.1, .own 4 0 r1961.2.2.2.2.2.2.2.2.1.length, bS r1961.2.1, .own 5 0 r1961.2.2.2.2.2.2.2.2.2.1.length, .own 6 0 r1961.2.2.2.2.2.2.2.2.2.2.1.length], .agg [bS r1961.2.2.1, bS r1961.2.2.2.1, bS r1961.2.2.2.2.1, iS r1961.2.2.2.2.2.1, iS r1961.2.2.2.2.2.2.1, .own 7 0 r1961.2.2.2.2.2.2.2.2.2.2.2.length], .agg (Enc.cells r1961.2.2.2.2.2.2.2.1)]) [(4, .row 3 (fl r1961.2.2.2.2.2.2.2.2.1)), (5, .row 39 (fl r1961.2.2.2.2.2.2.2.2.2.1)), (6, .row 39 (fl r1961.2.2.2.2.2.2.2.2.2.2.1)), (7, .row 64 (fl r1961.2.2.2.2.2.2.2.2.2.2.2))] (by simp only [push_cast, seval]) (by simp only [push_cast, seval]) (by kernel_rfl) (.inr ⟨by simp only [push_cast, seval], by simp only [push_cast, seval]⟩) (by simp only [push_cast, seval]) (by simp only [push_cast, seval]) ?_
      refine rs 10 [] [] (by kernel_rfl) allP_nil ?_
      refine rf [(1, iS task), (2, bS xtry), (3, .ptr 0 0), (7, .ptr 8 0), (8, .ptr 9 0), (9, .ptr 10 0)] [(0, .row 25 (Enc.cells p)), (1, .row 3 (fl r1960.2.2.1)), (2, .row 39 (fl r1960.2.2.2.1)), (3, .row 39 (fl r1960.2.2.2.2)), (4, .row 3 (fl r1961.2.2.2.2.2.2.2.2.1)), (5, .row 39 (fl r1961.2.2.2.2.2.2.2.2.2.1)), (6, .row 39 (fl r1961.2.2.2.2.2.2.2.2.2.2.1)), (7, .row 64 (fl r1961.2.2.2.2.2.2.2.2.2.2.2)), (8, .row 25 [iS r1961.1, .own 4 0 r1961.2.2.2.2.2.2.2.2.1.length, bS r1961.2.1, .own 5 0 r1961.2.2.2.2.2.2.2.2.2.1.length, .own 6 0 r1961.2.2.2.2.2.2.2.2.2.2.1.length]), (9, .row 34 [bS r1961.2.2.1, bS r1961.2.2.2.1, bS r1961.2.2.2.2.1, iS r1961.2.2.2.2.2.1, iS r1961.2.2.2.2.2.2.1, .own 7 0 r1961.2.2.2.2.2.2.2.2.2.2.2.length]), (10, .row 30 (Enc.cells r1961.2.2.2.2.2.2.2.1))] 11 (by kernel_rfl) ?_
      refine wk_id ?_
      refine seq_np ?_
      refine reg_f ?_
      refine rs 4 [] [] (by kernel_rfl) allP_nil ?_
      refine rf [(1, iS task), (2, bS xtry), (3, .ptr 0 0), (7, .ptr 8 0), (8, .ptr 9 0), (9, .ptr 10 0), (10, .ptr 11 0)] [(0, .row 25 (Enc.cells p)), (1, .row 3 (fl r1960.2.2.1)), (2, .row 39 (fl r1960.2.2.2.1)), (3, .row 39 (fl r1960.2.2.2.2)), (4, .row 3 (fl r1961.2.2.2.2.2.2.2.2.1)), (5, .row 39 (fl r1961.2.2.2.2.2.2.2.2.2.1)), (6, .row 39 (fl r1961.2.2.2.2.2.2.2.2.2.2.1)), (7, .row 64 (fl r1961.2.2.2.2.2.2.2.2.2.2.2)), (8, .row 25 [iS r1961.1, .own 4 0 r1961.2.2.2.2.2.2.2.2.1.length, bS r1961.2.1, .own 5 0 r1961.2.2.2.2.2.2.2.2.2.1.length, .own 6 0 r1961.2.2.2.2.2.2.2.2.2.2.1.length]), (9, .row 34 [bS r1961.2.2.1, bS r1961.2.2.2.1, bS r1961.2.2.2.2.1, iS r1961.2.2.2.2.2.1, iS r1961.2.2.2.2.2.2.1, .own 7 0 r1961.2.2.2.2.2.2.2.2.2.2.2.length]), (10, .row 30 (Enc.cells r1961.2.2.2.2.2.2.2.1)), (11, .row 39 [iS task, iS 0, iS 0])] 12 (by kernel_rfl) ?_
      refine wk_id ?_
      refine seq_np ?_
      refine reg_f ?_
      refine rs 2 [] [] (by kernel_rfl) allP_nil ?_
      obtain ⟨r1963, hr1963, h⟩ := bind_sx h
      refine call_x (taskmillref_Taken_spec p (GPost.mk task 0 0) r1963 hr1963) (args := [.agg (Enc.cells p), .agg [iS task, iS 0, iS 0]]) (dst := (some 31)) (by kernel_rfl) [(0, .row 25 (Enc.cells p)), (1, .row 3 (fl r1960.2.2.1)), (2, .row 39 (fl r1960.2.2.2.1)), (3, .row 39 (fl r1960.2.2.2.2)), (4, .row 3 (fl r1961.2.2.2.2.2.2.2.2.1)), (5, .row 39 (fl r1961.2.2.2.2.2.2.2.2.2.1)), (6, .row 39 (fl r1961.2.2.2.2.2.2.2.2.2.2.1)), (7, .row 64 (fl r1961.2.2.2.2.2.2.2.2.2.2.2)), (8, .row 25 [iS r1961.1, .own 4 0 r1961.2.2.2.2.2.2.2.2.1.length, bS r1961.2.1, .own 5 0 r1961.2.2.2.2.2.2.2.2.2.1.length, .own 6 0 r1961.2.2.2.2.2.2.2.2.2.2.1.length]), (9, .row 34 [bS r1961.2.2.1, bS r1961.2.2.2.1, bS r1961.2.2.2.2.1, iS r1961.2.2.2.2.2.1, iS r1961.2.2.2.2.2.2.1, .own 7 0 r1961.2.2.2.2.2.2.2.2.2.2.2.length]), (10, .row 30 (Enc.cells r1961.2.2.2.2.2.2.2.1)), (11, .row 39 [iS task, iS 0, iS 0])] 12 (by kernel_rfl) [] [] (.tup [.agg [iS r1963.1, .sl r1963.2.1.length (fl r1963.2.1), bS r1963.2.2.1, .sl r1963.2.2.2.1.length (fl r1963.2.2.2.1), .sl r1963.2.2.2.2.1.length (fl r1963.2.2.2.2.1)], .agg [bS r1963.2.2.2.2.2.1, bS r1963.2.2.2.2.2.2.1, bS r1963.2.2.2.2.2.2.2.1, iS r1963.2.2.2.2.2.2.2.2.1, iS r1963.2.2.2.2.2.2.2.2.2.1, .own 12 0 r1963.2.2.2.2.2.2.2.2.2.2.length]]) [(12, .row 64 (fl r1963.2.2.2.2.2.2.2.2.2.2))] (by simp only [push_cast, seval]) (by simp only [push_cast, seval]) (by kernel_rfl) (.inl rfl) (by simp only [push_cast, seval]) (by simp only [push_cast, seval]) ?_
      refine rs 7 [] [] (by kernel_rfl) allP_nil ?_
      refine rf [(1, iS task), (2, bS xtry), (3, .ptr 0 0), (7, .ptr 8 0), (8, .ptr 9 0), (9, .ptr 10 0), (10, .ptr 11 0), (11, .ptr 13 0), (12, .ptr 14 0)] [(0, .row 25 (Enc.cells p)), (1, .row 3 (fl r1960.2.2.1)), (2, .row 39 (fl r1960.2.2.2.1)), (3, .row 39 (fl r1960.2.2.2.2)), (4, .row 3 (fl r1961.2.2.2.2.2.2.2.2.1)), (5, .row 39 (fl r1961.2.2.2.2.2.2.2.2.2.1)), (6, .row 39 (fl r1961.2.2.2.2.2.2.2.2.2.2.1)), (7, .row 64 (fl r1961.2.2.2.2.2.2.2.2.2.2.2)), (8, .row 25 [iS r1961.1, .own 4 0 r1961.2.2.2.2.2.2.2.2.1.length, bS r1961.2.1, .own 5 0 r1961.2.2.2.2.2.2.2.2.2.1.length, .own 6 0 r1961.2.2.2.2.2.2.2.2.2.2.1.length]), (9, .row 34 [bS r1961.2.2.1, bS r1961.2.2.2.1, bS r1961.2.2.2.2.1, iS r1961.2.2.2.2.2.1, iS r1961.2.2.2.2.2.2.1, .own 7 0 r1961.2.2.2.2.2.2.2.2.2.2.2.length]), (10, .row 30 (Enc.cells r1961.2.2.2.2.2.2.2.1)), (11, .row 39 [iS task, iS 0, iS 0]), (12, .row 64 (fl r1963.2.2.2.2.2.2.2.2.2.2)), (13, .row 25 [iS r1963.1, .sl r1963.2.1.length (fl r1963.2.1), bS r1963.2.2.1, .sl r1963.2.2.2.1.length (fl r1963.2.2.2.1), .sl r1963.2.2.2.2.1.length (fl r1963.2.2.2.2.1)]), (14, .row 34 [bS r1963.2.2.2.2.2.1, bS r1963.2.2.2.2.2.2.1, bS r1963.2.2.2.2.2.2.2.1, iS r1963.2.2.2.2.2.2.2.2.1, iS r1963.2.2.2.2.2.2.2.2.2.1, .own 12 0 r1963.2.2.2.2.2.2.2.2.2.2.length])] 15 (by kernel_rfl) ?_
      refine wk_id ?_
      refine seq_cut (A := Int × Bool × Bool × Bool × Bool × Int × Int × Fault × Int × (List Int) × Bool × (List GPost) × (List GPost) × Bool × Bool × Bool × Int × Int × (List Int) × (List GPost) × (List GPost) × (List GWake) × (List GWake)) (fun a => ([(1, iS task), (3, .ptr 0 0), (7, .ptr 1 0), (8, .ptr 2 0), (9, .ptr 3 0), (11, .ptr 4 0), (12, .ptr 5 0)], [(0, .row 25 (Enc.cells p)), (1, .row 25 [iS a.1, .own 6 0 a.2.2.2.2.2.2.2.2.2.2.2.2.2.2.2.2.2.2.1.length, bS a.2.1, .own 7 0 a.2.2.2.2.2.2.2.2.2.2.2.2.2.2.2.2.2.2.2.1.length, .own 8 0 a.2.2.2.2.2.2.2.2.2.2.2.2.2.2.2.2.2.2.2.2.1.length]), (2, .row 34 [bS a.2.2.1, bS a.2.2.2.1, bS a.2.2.2.2.1, iS a.2.2.2.2.2.1, iS a.2.2.2.2.2.2.1, .own 9 0 a.2.2.2.2.2.2.2.2.2.2.2.2.2.2.2.2.2.2.2.2.2.1.length]), (3, .row 30 (Enc.cells a.2.2.2.2.2.2.2.1)), (4, .row 25 [iS a.2.2.2.2.2.2.2.2.1, .sl a.2.2.2.2.2.2.2.2.2.1.length (fl a.2.2.2.2.2.2.2.2.2.1), bS a.2.2.2.2.2.2.2.2.2.2.1, .sl a.2.2.2.2.2.2.2.2.2.2.2.1.length (fl a.2.2.2.2.2.2.2.2.2.2.2.1), .sl a.2.2.2.2.2.2.2.2.2.2.2.2.1.length (fl a.2.2.2.2.2.2.2.2.2.2.2.2.1)]), (5, .row 34 [bS a.2.2.2.2.2.2.2.2.2.2.2.2.2.1, bS a.2.2.2.2.2.2.2.2.2.2.2.2.2.2.1, bS a.2.2.2.2.2.2.2.2.2.2.2.2.2.2.2.1, iS a.2.2.2.2.2.2.2.2.2.2.2.2.2.2.2.2.1, iS a.2.2.2.2.2.2.2.2.2.2.2.2.2.2.2.2.2.1, .own 10 0 a.2.2.2.2.2.2.2.2.2.2.2.2.2.2.2.2.2.2.2.2.2.2.length]), (6, .row 3 (fl a.2.2.2.2.2.2.2.2.2.2.2.2.2.2.2.2.2.2.1)), (7, .row 39 (fl a.2.2.2.2.2.2.2.2.2.2.2.2.2.2.2.2.2.2.2.1)), (8, .row 39 (fl a.2.2.2.2.2.2.2.2.2.2.2.2.2.2.2.2.2.2.2.2.1)), (9, .row 64 (fl a.2.2.2.2.2.2.2.2.2.2.2.2.2.2.2.2.2.2.2.2.2.1)), (10, .row 64 (fl a.2.2.2.2.2.2.2.2.2.2.2.2.2.2.2.2.2.2.2.2.2.2))], 11)) (fun a => (taskmilllaw_PipeGets_j1 p task a.1 a.2.1 a.2.2.1 a.2.2.2.1 a.2.2.2.2.1 a.2.2.2.2.2.1 a.2.2.2.2.2.2.1 a.2.2.2.2.2.2.2.1 a.2.2.2.2.2.2.2.2.1 a.2.2.2.2.2.2.2.2.2.1 a.2.2.2.2.2.2.2.2.2.2.1 a.2.2.2.2.2.2.2.2.2.2.2.1 a.2.2.2.2.2.2.2.2.2.2.2.2.1 a.2.2.2.2.2.2.2.2.2.2.2.2.2.1 a.2.2.2.2.2.2.2.2.2.2.2.2.2.2.1 a.2.2.2.2.2.2.2.2.2.2.2.2.2.2.2.1 a.2.2.2.2.2.2.2.2.2.2.2.2.2.2.2.2.1 a.2.2.2.2.2.2.2.2.2.2.2.2.2.2.2.2.2.1 a.2.2.2.2.2.2.2.2.2.2.2.2.2.2.2.2.2.2.1 a.2.2.2.2.2.2.2.2.2.2.2.2.2.2.2.2.2.2.2.1 a.2.2.2.2.2.2.2.2.2.2.2.2.2.2.2.2.2.2.2.2.1 a.2.2.2.2.2.2.2.2.2.2.2.2.2.2.2.2.2.2.2.2.2.1 a.2.2.2.2.2.2.2.2.2.2.2.2.2.2.2.2.2.2.2.2.2.2) = some r) (fun K1970 hK1970 => ?_) ?_
      · refine seq_cut (A := Unit) (fun _ => ([(1, iS task), (3, .ptr 0 0), (7, .ptr 8 0), (8, .ptr 9 0), (9, .ptr 10 0), (10, .ptr 11 0), (11, .ptr 13 0), (12, .ptr 14 0), (40, bS ((!r1963.2.2.2.2.2.1) && (!xtry)))], [(0, .row 25 (Enc.cells p)), (1, .row 3 (fl r1960.2.2.1)), (2, .row 39 (fl r1960.2.2.2.1)), (3, .row 39 (fl r1960.2.2.2.2)), (4, .row 3 (fl r1961.2.2.2.2.2.2.2.2.1)), (5, .row 39 (fl r1961.2.2.2.2.2.2.2.2.2.1)), (6, .row 39 (fl r1961.2.2.2.2.2.2.2.2.2.2.1)), (7, .row 64 (fl r1961.2.2.2.2.2.2.2.2.2.2.2)), (8, .row 25 [iS r1961.1, .own 4 0 r1961.2.2.2.2.2.2.2.2.1.length, bS r1961.2.1, .own 5 0 r1961.2.2.2.2.2.2.2.2.2.1.length, .own 6 0 r1961.2.2.2.2.2.2.2.2.2.2.1.length]), (9, .row 34 [bS r1961.2.2.1, bS r1961.2.2.2.1, bS r1961.2.2.2.2.1, iS r1961.2.2.2.2.2.1, iS r1961.2.2.2.2.2.2.1, .own 7 0 r1961.2.2.2.2.2.2.2.2.2.2.2.length]), (10, .row 30 (Enc.cells r1961.2.2.2.2.2.2.2.1)), (11, .row 39 [iS task, iS 0, iS 0]), (12, .row 64 (fl r1963.2.2.2.2.2.2.2.2.2.2)), (13, .row 25 [iS r1963.1, .sl r1963.2.1.length (fl r1963.2.1), bS r1963.2.2.1, .sl r1963.2.2.2.1.length (fl r1963.2.2.2.1), .sl r1963.2.2.2.2.1.length (fl r1963.2.2.2.2.1)]), (14, .row 34 [bS r1963.2.2.2.2.2.1, bS r1963.2.2.2.2.2.2.1, bS r1963.2.2.2.2.2.2.2.1, iS r1963.2.2.2.2.2.2.2.2.1, iS r1963.2.2.2.2.2.2.2.2.2.1, .own 12 0 r1963.2.2.2.2.2.2.2.2.2.2.length])], 15)) (fun _ => True) (fun K1972 hK1972 => ?_) (fun _ _ => ?_)
        · refine reg_f ?_
          refine rs 4 [] [] (by kernel_rfl) allP_nil ?_
          refine run_split 37 (!r1963.2.2.2.2.2.1) (.inl (by kernel_rfl)) (fun g1973 => ?_) (fun g1973 => ?_)
          · refine rs 3 [] [] (by kernel_rfl) allP_nil ?_
            refine rf [(1, iS task), (3, .ptr 0 0), (7, .ptr 8 0), (8, .ptr 9 0), (9, .ptr 10 0), (10, .ptr 11 0), (11, .ptr 13 0), (12, .ptr 14 0), (40, bS (!xtry))] [(0, .row 25 (Enc.cells p)), (1, .row 3 (fl r1960.2.2.1)), (2, .row 39 (fl r1960.2.2.2.1)), (3, .row 39 (fl r1960.2.2.2.2)), (4, .row 3 (fl r1961.2.2.2.2.2.2.2.2.1)), (5, .row 39 (fl r1961.2.2.2.2.2.2.2.2.2.1)), (6, .row 39 (fl r1961.2.2.2.2.2.2.2.2.2.2.1)), (7, .row 64 (fl r1961.2.2.2.2.2.2.2.2.2.2.2)), (8, .row 25 [iS r1961.1, .own 4 0 r1961.2.2.2.2.2.2.2.2.1.length, bS r1961.2.1, .own 5 0 r1961.2.2.2.2.2.2.2.2.2.1.length, .own 6 0 r1961.2.2.2.2.2.2.2.2.2.2.1.length]), (9, .row 34 [bS r1961.2.2.1, bS r1961.2.2.2.1, bS r1961.2.2.2.2.1, iS r1961.2.2.2.2.2.1, iS r1961.2.2.2.2.2.2.1, .own 7 0 r1961.2.2.2.2.2.2.2.2.2.2.2.length]), (10, .row 30 (Enc.cells r1961.2.2.2.2.2.2.2.1)), (11, .row 39 [iS task, iS 0, iS 0]), (12, .row 64 (fl r1963.2.2.2.2.2.2.2.2.2.2)), (13, .row 25 [iS r1963.1, .sl r1963.2.1.length (fl r1963.2.1), bS r1963.2.2.1, .sl r1963.2.2.2.1.length (fl r1963.2.2.2.1), .sl r1963.2.2.2.2.1.length (fl r1963.2.2.2.2.1)]), (14, .row 34 [bS r1963.2.2.2.2.2.1, bS r1963.2.2.2.2.2.2.1, bS r1963.2.2.2.2.2.2.2.1, iS r1963.2.2.2.2.2.2.2.2.1, iS r1963.2.2.2.2.2.2.2.2.2.1, .own 12 0 r1963.2.2.2.2.2.2.2.2.2.2.length])] 15 (by kernel_rfl) ?_
            exact hK1972 () _ _ _ trivial (leSt_m [(0, 0), (1, 1), (2, 2), (3, 3), (4, 4), (5, 5), (6, 6), (7, 7), (8, 8), (9, 9), (10, 10), (11, 11), (12, 12), (13, 13), (14, 14)] [] (by (try simp only [g1973]) <;> simp only [push_cast, seval]) (by (try simp only [g1973]) <;> simp only [push_cast, seval]) rfl rfl rfl)
          · refine rs 3 [] [] (by kernel_rfl) allP_nil ?_
            refine rf [(1, iS task), (3, .ptr 0 0), (7, .ptr 8 0), (8, .ptr 9 0), (9, .ptr 10 0), (10, .ptr 11 0), (11, .ptr 13 0), (12, .ptr 14 0), (40, bS false)] [(0, .row 25 (Enc.cells p)), (1, .row 3 (fl r1960.2.2.1)), (2, .row 39 (fl r1960.2.2.2.1)), (3, .row 39 (fl r1960.2.2.2.2)), (4, .row 3 (fl r1961.2.2.2.2.2.2.2.2.1)), (5, .row 39 (fl r1961.2.2.2.2.2.2.2.2.2.1)), (6, .row 39 (fl r1961.2.2.2.2.2.2.2.2.2.2.1)), (7, .row 64 (fl r1961.2.2.2.2.2.2.2.2.2.2.2)), (8, .row 25 [iS r1961.1, .own 4 0 r1961.2.2.2.2.2.2.2.2.1.length, bS r1961.2.1, .own 5 0 r1961.2.2.2.2.2.2.2.2.2.1.length, .own 6 0 r1961.2.2.2.2.2.2.2.2.2.2.1.length]), (9, .row 34 [bS r1961.2.2.1, bS r1961.2.2.2.1, bS r1961.2.2.2.2.1, iS r1961.2.2.2.2.2.1, iS r1961.2.2.2.2.2.2.1, .own 7 0 r1961.2.2.2.2.2.2.2.2.2.2.2.length]), (10, .row 30 (Enc.cells r1961.2.2.2.2.2.2.2.1)), (11, .row 39 [iS task, iS 0, iS 0]), (12, .row 64 (fl r1963.2.2.2.2.2.2.2.2.2.2)), (13, .row 25 [iS r1963.1, .sl r1963.2.1.length (fl r1963.2.1), bS r1963.2.2.1, .sl r1963.2.2.2.1.length (fl r1963.2.2.2.1), .sl r1963.2.2.2.2.1.length (fl r1963.2.2.2.2.1)]), (14, .row 34 [bS r1963.2.2.2.2.2.1, bS r1963.2.2.2.2.2.2.1, bS r1963.2.2.2.2.2.2.2.1, iS r1963.2.2.2.2.2.2.2.2.1, iS r1963.2.2.2.2.2.2.2.2.2.1, .own 12 0 r1963.2.2.2.2.2.2.2.2.2.2.length])] 15 (by kernel_rfl) ?_
            exact hK1972 () _ _ _ trivial (leSt_m [(0, 0), (1, 1), (2, 2), (3, 3), (4, 4), (5, 5), (6, 6), (7, 7), (8, 8), (9, 9), (10, 10), (11, 11), (12, 12), (13, 13), (14, 14)] [] (by (try simp only [g1973]) <;> simp only [push_cast, seval]) (by (try simp only [g1973]) <;> simp only [push_cast, seval]) rfl rfl rfl)
        · dsimp only
          refine cond_sx h (by kernel_rfl) (fun g1980 h => ?_) (fun g1980 h => ?_)
          · refine reg_t ?_
            refine rs 2 [] [] (by kernel_rfl) allP_nil ?_
            obtain ⟨r1977, hr1977, h⟩ := bind_sx h
            refine call_x (taskmilllaw_ownPosts_spec r1963.2.2.2.2.1 r1977 hr1977) (args := [.sl r1963.2.2.2.2.1.length (fl r1963.2.2.2.2.1)]) (dst := (some 43)) (by kernel_rfl) [(0, .row 25 (Enc.cells p)), (1, .row 3 (fl r1960.2.2.1)), (2, .row 39 (fl r1960.2.2.2.1)), (3, .row 39 (fl r1960.2.2.2.2)), (4, .row 3 (fl r1961.2.2.2.2.2.2.2.2.1)), (5, .row 39 (fl r1961.2.2.2.2.2.2.2.2.2.1)), (6, .row 39 (fl r1961.2.2.2.2.2.2.2.2.2.2.1)), (7, .row 64 (fl r1961.2.2.2.2.2.2.2.2.2.2.2)), (8, .row 25 [iS r1961.1, .own 4 0 r1961.2.2.2.2.2.2.2.2.1.length, bS r1961.2.1, .own 5 0 r1961.2.2.2.2.2.2.2.2.2.1.length, .own 6 0 r1961.2.2.2.2.2.2.2.2.2.2.1.length]), (9, .row 34 [bS r1961.2.2.1, bS r1961.2.2.2.1, bS r1961.2.2.2.2.1, iS r1961.2.2.2.2.2.1, iS r1961.2.2.2.2.2.2.1, .own 7 0 r1961.2.2.2.2.2.2.2.2.2.2.2.length]), (10, .row 30 (Enc.cells r1961.2.2.2.2.2.2.2.1)), (11, .row 39 [iS task, iS 0, iS 0]), (12, .row 64 (fl r1963.2.2.2.2.2.2.2.2.2.2)), (13, .row 25 [iS r1963.1, .sl r1963.2.1.length (fl r1963.2.1), bS r1963.2.2.1, .sl r1963.2.2.2.1.length (fl r1963.2.2.2.1), .sl r1963.2.2.2.2.1.length (fl r1963.2.2.2.2.1)]), (14, .row 34 [bS r1963.2.2.2.2.2.1, bS r1963.2.2.2.2.2.2.1, bS r1963.2.2.2.2.2.2.2.1, iS r1963.2.2.2.2.2.2.2.2.1, iS r1963.2.2.2.2.2.2.2.2.2.1, .own 12 0 r1963.2.2.2.2.2.2.2.2.2.2.length])] 17 (by kernel_rfl) [] [] (.own 17 0 r1977.length) [(17, .row 39 (fl r1977))] (by simp only [push_cast, seval]) (by simp only [push_cast, seval]) (by kernel_rfl) (.inl rfl) (by simp only [push_cast, seval]) (by simp only [push_cast, seval]) ?_
            refine chk_sx h (fun g1979 h => ?_)
            have k1978 : (r1977 ++ ([(GPost.mk task 0 0)] : List GPost)).length * 24 ≤ 140737488355328 := by first | simpa only [Bool.and_eq_true, decide_eq_true_eq, bne_iff_ne, ne_eq] using g1979 | (simp at g1979 ⊢; omega)
            refine rs 5 [none, none, some ⟨.own 22 0 (r1977 ++ ([(GPost.mk task 0 0)] : List GPost)).length, [(22, .row 39 (fl (r1977 ++ ([(GPost.mk task 0 0)] : List GPost)))), (17, .dead)], 23, [17, 20]⟩] _ (by kernel_rfl) (allP_cons (ob_app (P := Try.prog) r1977 ([(GPost.mk task 0 0)] : List GPost) 3 24 rfl (appCells (fl ([(GPost.mk task 0 0)] : List GPost)) 0 (([(GPost.mk task 0 0)] : List GPost).length * 3)) ([(GPost.mk task 0 0)] : List GPost).length (app_own ([(GPost.mk task 0 0)] : List GPost) 3 rfl) rfl (0 + ([(GPost.mk task 0 0)] : List GPost).length * 3 ≤ (fl ([(GPost.mk task 0 0)] : List GPost)).length) (app_own_le ([(GPost.mk task 0 0)] : List GPost) 3 rfl) 39 (by kernel_rfl) (by decide) k1978 17 22 [20]) allP_nil) ?_
            refine rt [(1, iS task), (3, .ptr 0 0), (7, .ptr 8 0), (8, .ptr 9 0), (9, .ptr 10 0), (11, .ptr 13 0), (12, .ptr 14 0)] [(0, .row 25 (Enc.cells p)), (1, .row 3 (fl r1960.2.2.1)), (2, .row 39 (fl r1960.2.2.2.1)), (3, .row 39 (fl r1960.2.2.2.2)), (4, .row 3 (fl r1961.2.2.2.2.2.2.2.2.1)), (5, .row 39 (fl r1961.2.2.2.2.2.2.2.2.2.1)), (6, .row 39 (fl r1961.2.2.2.2.2.2.2.2.2.2.1)), (7, .row 64 (fl r1961.2.2.2.2.2.2.2.2.2.2.2)), (8, .row 25 [iS r1961.1, .own 4 0 r1961.2.2.2.2.2.2.2.2.1.length, bS r1961.2.1, .own 5 0 r1961.2.2.2.2.2.2.2.2.2.1.length, .own 6 0 r1961.2.2.2.2.2.2.2.2.2.2.1.length]), (9, .row 34 [bS r1961.2.2.1, bS r1961.2.2.2.1, bS r1961.2.2.2.2.1, iS r1961.2.2.2.2.2.1, iS r1961.2.2.2.2.2.2.1, .own 7 0 r1961.2.2.2.2.2.2.2.2.2.2.2.length]), (10, .row 30 (Enc.cells r1961.2.2.2.2.2.2.2.1)), (11, .row 39 [iS task, iS 0, iS 0]), (12, .row 64 (fl r1963.2.2.2.2.2.2.2.2.2.2)), (13, .row 25 [iS r1963.1, .sl r1963.2.1.length (fl r1963.2.1), bS r1963.2.2.1, .sl r1963.2.2.2.1.length (fl r1963.2.2.2.1), .own 22 0 (r1977 ++ ([(GPost.mk task 0 0)] : List GPost)).length]), (14, .row 34 [bS r1963.2.2.2.2.2.1, bS r1963.2.2.2.2.2.2.1, bS r1963.2.2.2.2.2.2.2.1, iS r1963.2.2.2.2.2.2.2.2.1, iS r1963.2.2.2.2.2.2.2.2.2.1, .own 12 0 r1963.2.2.2.2.2.2.2.2.2.2.length]), (17, .dead), (20, .row 39 (fl ([(GPost.mk task 0 0)] : List GPost))), (22, .row 39 (fl (r1977 ++ ([(GPost.mk task 0 0)] : List GPost))))] 26 follows (by kernel_rfl) ?_
            exact hK1970 (r1961.1, r1961.2.1, r1961.2.2.1, r1961.2.2.2.1, r1961.2.2.2.2.1, r1961.2.2.2.2.2.1, r1961.2.2.2.2.2.2.1, r1961.2.2.2.2.2.2.2.1, r1963.1, r1963.2.1, r1963.2.2.1, r1963.2.2.2.1, (r1977 ++ ([(GPost.mk task 0 0)] : List GPost)), r1963.2.2.2.2.2.1, r1963.2.2.2.2.2.2.1, r1963.2.2.2.2.2.2.2.1, r1963.2.2.2.2.2.2.2.2.1, r1963.2.2.2.2.2.2.2.2.2.1, r1961.2.2.2.2.2.2.2.2.1, r1961.2.2.2.2.2.2.2.2.2.1, r1961.2.2.2.2.2.2.2.2.2.2.1, r1961.2.2.2.2.2.2.2.2.2.2.2, r1963.2.2.2.2.2.2.2.2.2.2) _ _ _ h (leSt_m [(0, 0), (1, 8), (2, 9), (3, 10), (4, 13), (5, 14), (6, 4), (7, 5), (8, 6), (9, 7), (10, 12)] [22] (by simp only [push_cast, seval]) (by simp only [push_cast, seval]) rfl rfl rfl)
          · exact hK1970 (r1961.1, r1961.2.1, r1961.2.2.1, r1961.2.2.2.1, r1961.2.2.2.2.1, r1961.2.2.2.2.2.1, r1961.2.2.2.2.2.2.1, r1961.2.2.2.2.2.2.2.1, r1963.1, r1963.2.1, r1963.2.2.1, r1963.2.2.2.1, r1963.2.2.2.2.1, r1963.2.2.2.2.2.1, r1963.2.2.2.2.2.2.1, r1963.2.2.2.2.2.2.2.1, r1963.2.2.2.2.2.2.2.2.1, r1963.2.2.2.2.2.2.2.2.2.1, r1961.2.2.2.2.2.2.2.2.1, r1961.2.2.2.2.2.2.2.2.2.1, r1961.2.2.2.2.2.2.2.2.2.2.1, r1961.2.2.2.2.2.2.2.2.2.2.2, r1963.2.2.2.2.2.2.2.2.2.2) _ _ _ h (leSt_m [(0, 0), (1, 8), (2, 9), (3, 10), (4, 13), (5, 14), (6, 4), (7, 5), (8, 6), (9, 7), (10, 12)] [] (by simp only [push_cast, seval]) (by simp only [push_cast, seval]) rfl rfl rfl)
      · rintro ⟨c1_Cap1, c1_Closed1, c2_Done1, c2_Panic1, c2_Ok1, c2_Value1, c2_Case1, c3q1, c4_Cap1, c4_Items1, c4_Closed1, c4_Senders1, c4_Getters1, c5_Done1, c5_Panic1, c5_Ok1, c5_Value1, c5_Case1, c6q1, c7q1, c8q1, c9q1, c10q1⟩ h
        try dsimp only at h ⊢
        unfold taskmilllaw_PipeGets_j1 at h
        refine seq_np ?_
        refine reg_t ?_
        refine rs 5 [] [] (by kernel_rfl) allP_nil ?_
        obtain ⟨r1983, hr1983, h⟩ := bind_sx h
        refine run_call 20 [.agg (Enc.cells p), iS task] (some 53) (by kernel_rfl) ?_
        refine callE_0 (taskmilllaw_taskFault_spec p task r1983 hr1983) (by simp only [push_cast, seval]) (by simp only [push_cast, seval]) ?_
        refine back_t ?_
        refine rs 2 [] [] (by kernel_rfl) allP_nil ?_
        obtain ⟨r1984, hr1984, h⟩ := bind_sx h
        refine call_x (taskmilllaw_pipeAs_spec (Pipe.mk c1_Cap1 c6q1 c1_Closed1 c7q1 c8q1) (Answer.mk c2_Done1 c2_Panic1 c2_Ok1 c2_Value1 c2_Case1 c9q1) c3q1 r1983 (Pipe.mk c4_Cap1 c4_Items1 c4_Closed1 c4_Senders1 c4_Getters1) (Answer.mk c5_Done1 c5_Panic1 c5_Ok1 c5_Value1 c5_Case1 c10q1) r1984 hr1984) (args := [.agg [iS c1_Cap1, .own 6 0 c6q1.length, bS c1_Closed1, .own 7 0 c7q1.length, .own 8 0 c8q1.length], .agg [bS c2_Done1, bS c2_Panic1, bS c2_Ok1, iS c2_Value1, iS c2_Case1, .own 9 0 c9q1.length], .agg (Enc.cells c3q1), .agg (Enc.cells r1983), .agg [iS c4_Cap1, .sl c4_Items1.length (fl c4_Items1), bS c4_Closed1, .sl c4_Senders1.length (fl c4_Senders1), .sl c4_Getters1.length (fl c4_Getters1)], .agg [bS c5_Done1, bS c5_Panic1, bS c5_Ok1, iS c5_Value1, iS c5_Case1, .own 10 0 c10q1.length]]) (dst := (some 56)) (by kernel_rfl) [(0, .row 25 (Enc.cells p)), (1, .row 25 [iS c1_Cap1, .own 6 0 c6q1.length, bS c1_Closed1, .own 7 0 c7q1.length, .own 8 0 c8q1.length]), (2, .row 34 [bS c2_Done1, bS c2_Panic1, bS c2_Ok1, iS c2_Value1, iS c2_Case1, .own 9 0 c9q1.length]), (3, .row 30 (Enc.cells c3q1)), (4, .row 25 [iS c4_Cap1, .sl c4_Items1.length (fl c4_Items1), bS c4_Closed1, .sl c4_Senders1.length (fl c4_Senders1), .sl c4_Getters1.length (fl c4_Getters1)]), (5, .row 34 [bS c5_Done1, bS c5_Panic1, bS c5_Ok1, iS c5_Value1, iS c5_Case1, .own 10 0 c10q1.length]), (6, .row 3 (fl c6q1)), (7, .row 39 (fl c7q1)), (8, .row 39 (fl c8q1)), (9, .row 64 (fl c9q1)), (10, .row 64 (fl c10q1))] 19 (by kernel_rfl) [] [6, 7, 8, 9, 10] (bS r1984) [] (by simp only [push_cast, seval]) (by simp only [push_cast, seval]) (by kernel_rfl) (.inr ⟨by simp only [push_cast, seval], by simp only [push_cast, seval]⟩) (by simp only [push_cast, seval]) (by simp only [push_cast, seval]) ?_
        refine rs 1 [] [] (by kernel_rfl) allP_nil ?_
        refine rt [(6, bS r1984)] [(0, .row 25 (Enc.cells p)), (1, .row 25 [iS c1_Cap1, .own 6 0 c6q1.length, bS c1_Closed1, .own 7 0 c7q1.length, .own 8 0 c8q1.length]), (2, .row 34 [bS c2_Done1, bS c2_Panic1, bS c2_Ok1, iS c2_Value1, iS c2_Case1, .own 9 0 c9q1.length]), (3, .row 30 (Enc.cells c3q1)), (4, .row 25 [iS c4_Cap1, .sl c4_Items1.length (fl c4_Items1), bS c4_Closed1, .sl c4_Senders1.length (fl c4_Senders1), .sl c4_Getters1.length (fl c4_Getters1)]), (5, .row 34 [bS c5_Done1, bS c5_Panic1, bS c5_Ok1, iS c5_Value1, iS c5_Case1, .own 10 0 c10q1.length]), (6, .row 3 (fl c6q1)), (7, .row 39 (fl c7q1)), (8, .row 39 (fl c8q1)), (9, .row 64 (fl c9q1)), (10, .row 64 (fl c10q1))] 21 follows (by kernel_rfl) ?_
        refine wk_id ?_
        obtain rfl := Option.some.inj h
        refine ret_at (bS r1984) (by kernel_rfl) ?_
        exact ret_e [] [] (by simp only [push_cast, seval]) (by simp only [push_cast, seval]) rfl rfl rfl

set_option maxRecDepth 100000 in
set_option maxHeartbeats 10000000 in
theorem pipe_Down_spec (c0_Cap : Int) (c0_Closed : Bool) (c1 : (List Int)) (c2 : (List GPost)) (c3 : (List GPost)) (r : Bool × Bool × Bool × Int × Int × (List GWake) × Int × Bool × (List GPost) × (List GPost) × (List Int)) (h : pipe_Down c0_Cap c0_Closed c1 c2 c3 = some r) : SpecW Try.prog 42 [.ptr 0 0] [(0, .row 25 [iS c0_Cap, .own 1 0 c1.length, bS c0_Closed, .own 2 0 c2.length, .own 3 0 c3.length]), (1, .row 3 (fl c1)), (2, .row 39 (fl c2)), (3, .row 39 (fl c3))] 4 (fun x h n => x = .agg [bS r.1, bS r.2.1, bS r.2.2.1, iS r.2.2.2.1, iS r.2.2.2.2.1, .own 4 0 r.2.2.2.2.2.1.length] ∧ h = [(0, .row 25 [iS r.2.2.2.2.2.2.1, .own 1 0 r.2.2.2.2.2.2.2.2.2.2.length, bS r.2.2.2.2.2.2.2.1, .own 5 0 r.2.2.2.2.2.2.2.2.1.length, .own 6 0 r.2.2.2.2.2.2.2.2.2.1.length]), (1, .row 3 (fl r.2.2.2.2.2.2.2.2.2.2)), (2, .dead), (3, .dead), (4, .row 64 (fl r.2.2.2.2.2.1)), (5, .row 39 (fl r.2.2.2.2.2.2.2.2.1)), (6, .row 39 (fl r.2.2.2.2.2.2.2.2.2.1))] ∧ n = 7) := by
  unfold pipe_Down at h
  refine spec_of (draw_ok _) Try.func42 rfl (by decide) rfl (by kernel_rfl) ?_
  refine seq_np ?_
  refine reg_f ?_
  refine rs 1 [] [] (by kernel_rfl) allP_nil ?_
  refine rf [(0, .ptr 0 0), (2, .ptr 4 0)] [(0, .row 25 [iS c0_Cap, .own 1 0 c1.length, bS c0_Closed, .own 2 0 c2.length, .own 3 0 c3.length]), (1, .row 3 (fl c1)), (2, .row 39 (fl c2)), (3, .row 39 (fl c3)), (4, .row 34 [bS false, bS false, bS false, iS 0, iS 0, .v (.slice none 0 0)])] 5 (by kernel_rfl) ?_
  refine wk_id ?_
  refine seq_np ?_
  refine seq_np ?_
  refine reg_f ?_
  refine rs 4 [] [] (by kernel_rfl) allP_nil ?_
  refine rf [(0, .ptr 0 0), (2, .ptr 4 0), (11, bS c0_Closed)] [(0, .row 25 [iS c0_Cap, .own 1 0 c1.length, bS c0_Closed, .own 2 0 c2.length, .own 3 0 c3.length]), (1, .row 3 (fl c1)), (2, .row 39 (fl c2)), (3, .row 39 (fl c3)), (4, .row 34 [bS false, bS false, bS false, iS 0, iS 0, .v (.slice none 0 0)])] 5 (by kernel_rfl) ?_
  refine wk_id ?_
  refine cond_sx h (by kernel_rfl) (fun g2174 h => ?_) (fun g2174 h => ?_)
  · refine seq_np ?_
    refine reg_f ?_
    refine rs 2 [] [] (by kernel_rfl) allP_nil ?_
    refine rf [(2, .ptr 4 0)] [(0, .row 25 [iS c0_Cap, .own 1 0 c1.length, bS c0_Closed, .own 2 0 c2.length, .own 3 0 c3.length]), (1, .row 3 (fl c1)), (2, .row 39 (fl c2)), (3, .row 39 (fl c3)), (4, .row 34 [bS true, bS true, bS false, iS 0, iS 0, .v (.slice none 0 0)])] 5 (by kernel_rfl) ?_
    refine wk_id ?_
    obtain rfl := Option.some.inj h
    refine ret_at (.agg [bS true, bS true, bS false, iS 0, iS 0, .v (.slice none 0 0)]) (by kernel_rfl) ?_
    exact ret_e [(0, 0), (1, 1), (5, 2), (6, 3)] [] (by simp only [push_cast, seval]) (by simp only [push_cast, seval]) rfl rfl rfl
  · refine wk_id ?_
    refine seq_np ?_
    refine reg_f ?_
    refine rs 3 [] [] (by kernel_rfl) allP_nil ?_
    refine rf [(0, .ptr 0 0), (2, .ptr 4 0), (3, .ptr 5 0)] [(0, .row 25 [iS c0_Cap, .own 1 0 c1.length, bS c0_Closed, .own 2 0 c2.length, .own 3 0 c3.length]), (1, .row 3 (fl c1)), (2, .row 39 (fl c2)), (3, .row 39 (fl c3)), (4, .row 34 [bS false, bS false, bS false, iS 0, iS 0, .v (.slice none 0 0)]), (5, .row 34 [bS true, bS false, bS false, iS 0, iS 0, .v (.slice none 0 0)])] 6 (by kernel_rfl) ?_
    refine wk_id ?_
    refine seq_np ?_
    refine seq_np ?_
    refine reg_f ?_
    refine rs 6 [] [] (by kernel_rfl) allP_nil ?_
    refine rf [(0, .ptr 0 0), (2, .ptr 4 0), (3, .ptr 5 0), (17, .own 3 0 c3.length), (18, iS ((c3.length : Nat) : Int)), (19, iS 0)] [(0, .row 25 [iS c0_Cap, .own 1 0 c1.length, bS c0_Closed, .own 2 0 c2.length, .own 3 0 c3.length]), (1, .row 3 (fl c1)), (2, .row 39 (fl c2)), (3, .row 39 (fl c3)), (4, .row 34 [bS false, bS false, bS false, iS 0, iS 0, .v (.slice none 0 0)]), (5, .row 34 [bS true, bS false, bS false, iS 0, iS 0, .v (.slice none 0 0)])] 6 (by kernel_rfl) ?_
    refine wk_id ?_
    refine block_np ?_
    refine loop_sx (S := Int × (List GWake)) (fun a => ([(0, .ptr 0 0), (2, .ptr 4 0), (3, .ptr 5 0), (17, .own 3 0 c3.length), (18, iS ((c3.length : Nat) : Int)), (19, iS a.1)], [(0, .row 25 [iS c0_Cap, .own 1 0 c1.length, bS c0_Closed, .own 2 0 c2.length, .own 3 0 c3.length]), (1, .row 3 (fl c1)), (2, .row 39 (fl c2)), (3, .row 39 (fl c3)), (4, .row 34 [bS false, bS false, bS false, iS 0, iS 0, .v (.slice none 0 0)]), (5, .row 34 [bS true, bS false, bS false, iS 0, iS 0, .own 6 0 a.2.length]), (6, .row 64 (fl a.2))], 7)) h (leSt_m [(0, 0), (1, 1), (2, 2), (3, 3), (4, 4), (5, 5)] [] (by simp only [push_cast, seval]) (by simp only [push_cast, seval]) rfl rfl rfl) ?_
    rintro ⟨t19q7, c6q10⟩ o3 R3 h hr3 hn3 hx3 ht3
    try dsimp only at h hn3 ⊢
    unfold pipe_Down_l2 at h
    try dsimp only at h
    refine seq_np ?_
    refine reg_f ?_
    refine rs 1 [] [] (by kernel_rfl) allP_nil ?_
    refine rf [(0, .ptr 0 0), (2, .ptr 4 0), (3, .ptr 5 0), (17, .own 3 0 c3.length), (18, iS ((c3.length : Nat) : Int)), (19, iS t19q7), (20, bS (decide (t19q7 < ((c3.length : Nat) : Int))))] [(0, .row 25 [iS c0_Cap, .own 1 0 c1.length, bS c0_Closed, .own 2 0 c2.length, .own 3 0 c3.length]), (1, .row 3 (fl c1)), (2, .row 39 (fl c2)), (3, .row 39 (fl c3)), (4, .row 34 [bS false, bS false, bS false, iS 0, iS 0, .v (.slice none 0 0)]), (5, .row 34 [bS true, bS false, bS false, iS 0, iS 0, .own 6 0 c6q10.length]), (6, .row 64 (fl c6q10))] 7 (by kernel_rfl) ?_
    refine wk_id ?_
    refine seq_np ?_
    refine cond_sx h (by kernel_rfl) (fun g2173 h => ?_) (fun g2173 h => ?_)
    · refine wk_id ?_
      refine seq_np ?_
      refine block_np ?_
      refine chk_sx h (fun g2107 h => ?_)
      refine seq_np ?_
      refine reg_f ?_
      have k2106 : 0 ≤ t19q7 ∧ t19q7 < ((c3.length : Nat) : Int) := by first | simpa only [Bool.and_eq_true, decide_eq_true_eq, bne_iff_ne, ne_eq] using g2107 | (simp at g2107 ⊢; omega)
      refine rs 4 [some ⟨.ptr 3 (0 + (t19q7).toNat * 3), [], 7, [3]⟩, some ⟨.agg (Enc.cells (ix c3 t19q7)), [], 7, [3]⟩] _ (by kernel_rfl) (allP_cons (ob_ldw c3 t19q7 3 (0 + (t19q7).toNat * 3) k2106 rfl (by first | rfl | omega) [iS (ix c3 t19q7).Task, iS (ix c3 t19q7).Case, iS (ix c3 t19q7).Value] rfl 7 [3]) (allP_cons (ob_ix_o 3 c3.length 0 3 7 t19q7 k2106) allP_nil)) ?_
      refine rf [(0, .ptr 0 0), (2, .ptr 4 0), (3, .ptr 5 0), (5, .ptr 7 0), (17, .own 3 0 c3.length), (18, iS ((c3.length : Nat) : Int)), (19, iS t19q7)] [(0, .row 25 [iS c0_Cap, .own 1 0 c1.length, bS c0_Closed, .own 2 0 c2.length, .own 3 0 c3.length]), (1, .row 3 (fl c1)), (2, .row 39 (fl c2)), (3, .row 39 (fl c3)), (4, .row 34 [bS false, bS false, bS false, iS 0, iS 0, .v (.slice none 0 0)]), (5, .row 34 [bS true, bS false, bS false, iS 0, iS 0, .own 6 0 c6q10.length]), (6, .row 64 (fl c6q10)), (7, .row 39 (Enc.cells (ix c3 t19q7)))] 8 (by kernel_rfl) ?_
      refine wk_id ?_
      refine chk_sx h (fun g2111 h => ?_)
      refine reg_f ?_
      have k2110 : (c6q10 ++ ([(GWake.mk (ix c3 t19q7).Task (ix c3 t19q7).Case 0 false false)] : List GWake)).length * 32 ≤ 140737488355328 := by first | simpa only [Bool.and_eq_true, decide_eq_true_eq, bne_iff_ne, ne_eq] using g2111 | (simp at g2111 ⊢; omega)
      refine rs 11 [none, none, none, none, none, none, none, none, some ⟨.own 9 0 (c6q10 ++ ([(GWake.mk (ix c3 t19q7).Task (ix c3 t19q7).Case 0 false false)] : List GWake)).length, [(9, .row 64 (fl (c6q10 ++ ([(GWake.mk (ix c3 t19q7).Task (ix c3 t19q7).Case 0 false false)] : List GWake)))), (6, .dead)], 10, [6, 8]⟩] _ (by kernel_rfl) (allP_cons (ob_app (P := Try.prog) c6q10 ([(GWake.mk (ix c3 t19q7).Task (ix c3 t19q7).Case 0 false false)] : List GWake) 5 32 rfl (appCells (fl ([(GWake.mk (ix c3 t19q7).Task (ix c3 t19q7).Case 0 false false)] : List GWake)) 0 (([(GWake.mk (ix c3 t19q7).Task (ix c3 t19q7).Case 0 false false)] : List GWake).length * 5)) ([(GWake.mk (ix c3 t19q7).Task (ix c3 t19q7).Case 0 false false)] : List GWake).length (app_own ([(GWake.mk (ix c3 t19q7).Task (ix c3 t19q7).Case 0 false false)] : List GWake) 5 rfl) rfl (0 + ([(GWake.mk (ix c3 t19q7).Task (ix c3 t19q7).Case 0 false false)] : List GWake).length * 5 ≤ (fl ([(GWake.mk (ix c3 t19q7).Task (ix c3 t19q7).Case 0 false false)] : List GWake)).length) (app_own_le ([(GWake.mk (ix c3 t19q7).Task (ix c3 t19q7).Case 0 false false)] : List GWake) 5 rfl) 64 (by kernel_rfl) (by decide) k2110 6 9 [8]) allP_nil) ?_
      refine rf [(0, .ptr 0 0), (2, .ptr 4 0), (3, .ptr 5 0), (17, .own 3 0 c3.length), (18, iS ((c3.length : Nat) : Int)), (19, iS t19q7)] [(0, .row 25 [iS c0_Cap, .own 1 0 c1.length, bS c0_Closed, .own 2 0 c2.length, .own 3 0 c3.length]), (1, .row 3 (fl c1)), (2, .row 39 (fl c2)), (3, .row 39 (fl c3)), (4, .row 34 [bS false, bS false, bS false, iS 0, iS 0, .v (.slice none 0 0)]), (5, .row 34 [bS true, bS false, bS false, iS 0, iS 0, .own 9 0 (c6q10 ++ ([(GWake.mk (ix c3 t19q7).Task (ix c3 t19q7).Case 0 false false)] : List GWake)).length]), (6, .dead), (7, .row 39 (Enc.cells (ix c3 t19q7))), (8, .row 64 (fl ([(GWake.mk (ix c3 t19q7).Task (ix c3 t19q7).Case 0 false false)] : List GWake))), (9, .row 64 (fl (c6q10 ++ ([(GWake.mk (ix c3 t19q7).Task (ix c3 t19q7).Case 0 false false)] : List GWake))))] 10 (by kernel_rfl) ?_
      refine wk_id ?_
      refine wk_id ?_
      refine reg_f ?_
      refine rs 2 [] [] (by kernel_rfl) allP_nil ?_
      refine rf [(0, .ptr 0 0), (2, .ptr 4 0), (3, .ptr 5 0), (17, .own 3 0 c3.length), (18, iS ((c3.length : Nat) : Int)), (19, iS (IntKind.i64.wrap (t19q7 + 1)))] [(0, .row 25 [iS c0_Cap, .own 1 0 c1.length, bS c0_Closed, .own 2 0 c2.length, .own 3 0 c3.length]), (1, .row 3 (fl c1)), (2, .row 39 (fl c2)), (3, .row 39 (fl c3)), (4, .row 34 [bS false, bS false, bS false, iS 0, iS 0, .v (.slice none 0 0)]), (5, .row 34 [bS true, bS false, bS false, iS 0, iS 0, .own 9 0 (c6q10 ++ ([(GWake.mk (ix c3 t19q7).Task (ix c3 t19q7).Case 0 false false)] : List GWake)).length]), (6, .dead), (7, .row 39 (Enc.cells (ix c3 t19q7))), (8, .row 64 (fl ([(GWake.mk (ix c3 t19q7).Task (ix c3 t19q7).Case 0 false false)] : List GWake))), (9, .row 64 (fl (c6q10 ++ ([(GWake.mk (ix c3 t19q7).Task (ix c3 t19q7).Case 0 false false)] : List GWake))))] 10 (by kernel_rfl) ?_
      exact hn3 ((IntKind.i64.wrap (t19q7 + 1)), (c6q10 ++ ([(GWake.mk (ix c3 t19q7).Task (ix c3 t19q7).Case 0 false false)] : List GWake))) _ _ _ (Option.some.inj h).symm (leSt_m [(0, 0), (1, 1), (2, 2), (3, 3), (4, 4), (5, 5), (6, 9)] [] (by simp only [push_cast, seval]) (by simp only [push_cast, seval]) rfl rfl rfl)
    · change R3 (.exit 0) _ _ _
      refine ex_cast hx3 (id := 0) ?_
      obtain ⟨r0, h, e0⟩ := map_sx h
      have e1 := hr3 r0 e0.symm
      subst r0
      refine wk_id ?_
      refine wk_id ?_
      refine seq_np ?_
      refine seq_np ?_
      refine reg_f ?_
      refine rs 6 [] [] (by kernel_rfl) allP_nil ?_
      refine rf [(0, .ptr 0 0), (2, .ptr 4 0), (3, .ptr 5 0), (37, .own 2 0 c2.length), (38, iS ((c2.length : Nat) : Int)), (39, iS 0)] [(0, .row 25 [iS c0_Cap, .own 1 0 c1.length, bS c0_Closed, .own 2 0 c2.length, .own 3 0 c3.length]), (1, .row 3 (fl c1)), (2, .row 39 (fl c2)), (3, .row 39 (fl c3)), (4, .row 34 [bS false, bS false, bS false, iS 0, iS 0, .v (.slice none 0 0)]), (5, .row 34 [bS true, bS false, bS false, iS 0, iS 0, .own 6 0 c6q10.length]), (6, .row 64 (fl c6q10))] 7 (by kernel_rfl) ?_
      refine wk_id ?_
      refine block_np ?_
      refine loop_sx (S := Int × (List GWake)) (fun a => ([(0, .ptr 0 0), (2, .ptr 4 0), (3, .ptr 5 0), (37, .own 2 0 c2.length), (38, iS ((c2.length : Nat) : Int)), (39, iS a.1)], [(0, .row 25 [iS c0_Cap, .own 1 0 c1.length, bS c0_Closed, .own 2 0 c2.length, .own 3 0 c3.length]), (1, .row 3 (fl c1)), (2, .row 39 (fl c2)), (3, .row 39 (fl c3)), (4, .row 34 [bS false, bS false, bS false, iS 0, iS 0, .v (.slice none 0 0)]), (5, .row 34 [bS true, bS false, bS false, iS 0, iS 0, .own 6 0 a.2.length]), (6, .row 64 (fl a.2))], 7)) h (leSt_m [(0, 0), (1, 1), (2, 2), (3, 3), (4, 4), (5, 5), (6, 6)] [] (by simp only [push_cast, seval]) (by simp only [push_cast, seval]) rfl rfl rfl) ?_
      rintro ⟨t39q7, c6q16⟩ o4 R4 h hr4 hn4 hx4 ht4
      try dsimp only at h hn4 ⊢
      unfold pipe_Down_l1 at h
      try dsimp only at h
      refine seq_np ?_
      refine reg_f ?_
      refine rs 1 [] [] (by kernel_rfl) allP_nil ?_
      refine rf [(0, .ptr 0 0), (2, .ptr 4 0), (3, .ptr 5 0), (37, .own 2 0 c2.length), (38, iS ((c2.length : Nat) : Int)), (39, iS t39q7), (40, bS (decide (t39q7 < ((c2.length : Nat) : Int))))] [(0, .row 25 [iS c0_Cap, .own 1 0 c1.length, bS c0_Closed, .own 2 0 c2.length, .own 3 0 c3.length]), (1, .row 3 (fl c1)), (2, .row 39 (fl c2)), (3, .row 39 (fl c3)), (4, .row 34 [bS false, bS false, bS false, iS 0, iS 0, .v (.slice none 0 0)]), (5, .row 34 [bS true, bS false, bS false, iS 0, iS 0, .own 6 0 c6q16.length]), (6, .row 64 (fl c6q16))] 7 (by kernel_rfl) ?_
      refine wk_id ?_
      refine seq_np ?_
      refine cond_sx h (by kernel_rfl) (fun g2172 h => ?_) (fun g2172 h => ?_)
      · refine wk_id ?_
        refine seq_np ?_
        refine block_np ?_
        refine chk_sx h (fun g2167 h => ?_)
        refine seq_np ?_
        refine reg_f ?_
        have k2166 : 0 ≤ t39q7 ∧ t39q7 < ((c2.length : Nat) : Int) := by first | simpa only [Bool.and_eq_true, decide_eq_true_eq, bne_iff_ne, ne_eq] using g2167 | (simp at g2167 ⊢; omega)
        refine rs 4 [some ⟨.ptr 2 (0 + (t39q7).toNat * 3), [], 7, [2]⟩, some ⟨.agg (Enc.cells (ix c2 t39q7)), [], 7, [2]⟩] _ (by kernel_rfl) (allP_cons (ob_ldw c2 t39q7 3 (0 + (t39q7).toNat * 3) k2166 rfl (by first | rfl | omega) [iS (ix c2 t39q7).Task, iS (ix c2 t39q7).Case, iS (ix c2 t39q7).Value] rfl 7 [2]) (allP_cons (ob_ix_o 2 c2.length 0 3 7 t39q7 k2166) allP_nil)) ?_
        refine rf [(0, .ptr 0 0), (2, .ptr 4 0), (3, .ptr 5 0), (7, .ptr 7 0), (37, .own 2 0 c2.length), (38, iS ((c2.length : Nat) : Int)), (39, iS t39q7)] [(0, .row 25 [iS c0_Cap, .own 1 0 c1.length, bS c0_Closed, .own 2 0 c2.length, .own 3 0 c3.length]), (1, .row 3 (fl c1)), (2, .row 39 (fl c2)), (3, .row 39 (fl c3)), (4, .row 34 [bS false, bS false, bS false, iS 0, iS 0, .v (.slice none 0 0)]), (5, .row 34 [bS true, bS false, bS false, iS 0, iS 0, .own 6 0 c6q16.length]), (6, .row 64 (fl c6q16)), (7, .row 39 (Enc.cells (ix c2 t39q7)))] 8 (by kernel_rfl) ?_
        refine wk_id ?_
        refine chk_sx h (fun g2171 h => ?_)
        refine reg_f ?_
        have k2170 : (c6q16 ++ ([(GWake.mk (ix c2 t39q7).Task (ix c2 t39q7).Case 0 false true)] : List GWake)).length * 32 ≤ 140737488355328 := by first | simpa only [Bool.and_eq_true, decide_eq_true_eq, bne_iff_ne, ne_eq] using g2171 | (simp at g2171 ⊢; omega)
        refine rs 11 [none, none, none, none, none, none, none, none, some ⟨.own 9 0 (c6q16 ++ ([(GWake.mk (ix c2 t39q7).Task (ix c2 t39q7).Case 0 false true)] : List GWake)).length, [(9, .row 64 (fl (c6q16 ++ ([(GWake.mk (ix c2 t39q7).Task (ix c2 t39q7).Case 0 false true)] : List GWake)))), (6, .dead)], 10, [6, 8]⟩] _ (by kernel_rfl) (allP_cons (ob_app (P := Try.prog) c6q16 ([(GWake.mk (ix c2 t39q7).Task (ix c2 t39q7).Case 0 false true)] : List GWake) 5 32 rfl (appCells (fl ([(GWake.mk (ix c2 t39q7).Task (ix c2 t39q7).Case 0 false true)] : List GWake)) 0 (([(GWake.mk (ix c2 t39q7).Task (ix c2 t39q7).Case 0 false true)] : List GWake).length * 5)) ([(GWake.mk (ix c2 t39q7).Task (ix c2 t39q7).Case 0 false true)] : List GWake).length (app_own ([(GWake.mk (ix c2 t39q7).Task (ix c2 t39q7).Case 0 false true)] : List GWake) 5 rfl) rfl (0 + ([(GWake.mk (ix c2 t39q7).Task (ix c2 t39q7).Case 0 false true)] : List GWake).length * 5 ≤ (fl ([(GWake.mk (ix c2 t39q7).Task (ix c2 t39q7).Case 0 false true)] : List GWake)).length) (app_own_le ([(GWake.mk (ix c2 t39q7).Task (ix c2 t39q7).Case 0 false true)] : List GWake) 5 rfl) 64 (by kernel_rfl) (by decide) k2170 6 9 [8]) allP_nil) ?_
        refine rf [(0, .ptr 0 0), (2, .ptr 4 0), (3, .ptr 5 0), (37, .own 2 0 c2.length), (38, iS ((c2.length : Nat) : Int)), (39, iS t39q7)] [(0, .row 25 [iS c0_Cap, .own 1 0 c1.length, bS c0_Closed, .own 2 0 c2.length, .own 3 0 c3.length]), (1, .row 3 (fl c1)), (2, .row 39 (fl c2)), (3, .row 39 (fl c3)), (4, .row 34 [bS false, bS false, bS false, iS 0, iS 0, .v (.slice none 0 0)]), (5, .row 34 [bS true, bS false, bS false, iS 0, iS 0, .own 9 0 (c6q16 ++ ([(GWake.mk (ix c2 t39q7).Task (ix c2 t39q7).Case 0 false true)] : List GWake)).length]), (6, .dead), (7, .row 39 (Enc.cells (ix c2 t39q7))), (8, .row 64 (fl ([(GWake.mk (ix c2 t39q7).Task (ix c2 t39q7).Case 0 false true)] : List GWake))), (9, .row 64 (fl (c6q16 ++ ([(GWake.mk (ix c2 t39q7).Task (ix c2 t39q7).Case 0 false true)] : List GWake))))] 10 (by kernel_rfl) ?_
        refine wk_id ?_
        refine wk_id ?_
        refine reg_f ?_
        refine rs 2 [] [] (by kernel_rfl) allP_nil ?_
        refine rf [(0, .ptr 0 0), (2, .ptr 4 0), (3, .ptr 5 0), (37, .own 2 0 c2.length), (38, iS ((c2.length : Nat) : Int)), (39, iS (IntKind.i64.wrap (t39q7 + 1)))] [(0, .row 25 [iS c0_Cap, .own 1 0 c1.length, bS c0_Closed, .own 2 0 c2.length, .own 3 0 c3.length]), (1, .row 3 (fl c1)), (2, .row 39 (fl c2)), (3, .row 39 (fl c3)), (4, .row 34 [bS false, bS false, bS false, iS 0, iS 0, .v (.slice none 0 0)]), (5, .row 34 [bS true, bS false, bS false, iS 0, iS 0, .own 9 0 (c6q16 ++ ([(GWake.mk (ix c2 t39q7).Task (ix c2 t39q7).Case 0 false true)] : List GWake)).length]), (6, .dead), (7, .row 39 (Enc.cells (ix c2 t39q7))), (8, .row 64 (fl ([(GWake.mk (ix c2 t39q7).Task (ix c2 t39q7).Case 0 false true)] : List GWake))), (9, .row 64 (fl (c6q16 ++ ([(GWake.mk (ix c2 t39q7).Task (ix c2 t39q7).Case 0 false true)] : List GWake))))] 10 (by kernel_rfl) ?_
        exact hn4 ((IntKind.i64.wrap (t39q7 + 1)), (c6q16 ++ ([(GWake.mk (ix c2 t39q7).Task (ix c2 t39q7).Case 0 false true)] : List GWake))) _ _ _ (Option.some.inj h).symm (leSt_m [(0, 0), (1, 1), (2, 2), (3, 3), (4, 4), (5, 5), (6, 9)] [] (by simp only [push_cast, seval]) (by simp only [push_cast, seval]) rfl rfl rfl)
      · change R4 (.exit 2) _ _ _
        refine ex_cast hx4 (id := 2) ?_
        obtain ⟨r0, h, e0⟩ := map_sx h
        have e1 := hr4 r0 e0.symm
        subst r0
        refine wk_id ?_
        refine wk_id ?_
        refine seq_np ?_
        refine reg_f ?_
        refine rs 12 [] [] (by kernel_rfl) allP_nil ?_
        refine rf [(2, .ptr 4 0), (3, .ptr 5 0)] [(0, .row 25 [iS c0_Cap, .own 1 0 c1.length, bS true, .v (.slice none 0 0), .v (.slice none 0 0)]), (1, .row 3 (fl c1)), (2, .row 39 (fl c2)), (3, .row 39 (fl c3)), (4, .row 34 [bS false, bS false, bS false, iS 0, iS 0, .v (.slice none 0 0)]), (5, .row 34 [bS true, bS false, bS false, iS 0, iS 0, .own 6 0 c6q16.length]), (6, .row 64 (fl c6q16))] 7 (by kernel_rfl) ?_
        refine wk_id ?_
        refine seq_np ?_
        refine reg_f ?_
        refine rs 2 [] [] (by kernel_rfl) allP_nil ?_
        refine rf [(2, .ptr 4 0)] [(0, .row 25 [iS c0_Cap, .own 1 0 c1.length, bS true, .v (.slice none 0 0), .v (.slice none 0 0)]), (1, .row 3 (fl c1)), (2, .row 39 (fl c2)), (3, .row 39 (fl c3)), (4, .row 34 [bS true, bS false, bS false, iS 0, iS 0, .own 6 0 c6q16.length]), (5, .row 34 [bS true, bS false, bS false, iS 0, iS 0, .own 6 0 c6q16.length]), (6, .row 64 (fl c6q16))] 7 (by kernel_rfl) ?_
        refine wk_id ?_
        obtain rfl := Option.some.inj h
        refine ret_at (.agg [bS true, bS false, bS false, iS 0, iS 0, .own 6 0 c6q16.length]) (by kernel_rfl) ?_
        exact ret_e [(0, 0), (1, 1), (4, 6)] [] (by simp only [push_cast, seval]) (by simp only [push_cast, seval]) rfl rfl rfl

set_option maxRecDepth 100000 in
set_option maxHeartbeats 10000000 in
theorem pipe_Shut_spec (p : Pipe) (r : Int × Bool × Bool × Bool × Bool × Int × Int × Fault × (List Int) × (List GPost) × (List GPost) × (List GWake)) (h : pipe_Shut p = some r) : SpecW Try.prog 26 [.agg (Enc.cells p)] [] 0 (fun x h n => x = .tup [.agg [iS r.1, .own 0 0 r.2.2.2.2.2.2.2.2.1.length, bS r.2.1, .own 1 0 r.2.2.2.2.2.2.2.2.2.1.length, .own 2 0 r.2.2.2.2.2.2.2.2.2.2.1.length], .agg [bS r.2.2.1, bS r.2.2.2.1, bS r.2.2.2.2.1, iS r.2.2.2.2.2.1, iS r.2.2.2.2.2.2.1, .own 3 0 r.2.2.2.2.2.2.2.2.2.2.2.length], .agg (Enc.cells r.2.2.2.2.2.2.2.1)] ∧ h = [(0, .row 3 (fl r.2.2.2.2.2.2.2.2.1)), (1, .row 39 (fl r.2.2.2.2.2.2.2.2.2.1)), (2, .row 39 (fl r.2.2.2.2.2.2.2.2.2.2.1)), (3, .row 64 (fl r.2.2.2.2.2.2.2.2.2.2.2))] ∧ n = 4) := by
  unfold pipe_Shut at h
  refine spec_of (draw_ok _) Try.func26 rfl (by decide) rfl (by kernel_rfl) ?_
  refine seq_np ?_
  refine reg_f ?_
  refine rs 4 [] [] (by kernel_rfl) allP_nil ?_
  refine rf [(1, .ptr 0 0), (2, .ptr 1 0), (3, .ptr 2 0), (4, .ptr 3 0)] [(0, .row 25 (Enc.cells p)), (1, .row 25 [iS 0, .v (.slice none 0 0), bS false, .v (.slice none 0 0), .v (.slice none 0 0)]), (2, .row 34 [bS false, bS false, bS false, iS 0, iS 0, .v (.slice none 0 0)]), (3, .row 30 [iS 0, iS 0])] 4 (by kernel_rfl) ?_
  refine wk_id ?_
  refine seq_np ?_
  refine seq_np ?_
  refine reg_f ?_
  refine rs 1 [] [] (by kernel_rfl) allP_nil ?_
  obtain ⟨r2179, hr2179, h⟩ := bind_sx h
  refine run_call 13 [.agg (Enc.cells p)] (some 9) (by kernel_rfl) ?_
  refine call_0 (pipe_Check_spec p r2179 hr2179) (by simp only [push_cast, seval]) (by simp only [push_cast, seval]) ?_
  refine back_f ?_
  refine rs 2 [] [] (by kernel_rfl) allP_nil ?_
  refine rf [(1, .ptr 0 0), (2, .ptr 1 0), (3, .ptr 2 0), (4, .ptr 3 0), (5, .ptr 4 0)] [(0, .row 25 (Enc.cells p)), (1, .row 25 [iS 0, .v (.slice none 0 0), bS false, .v (.slice none 0 0), .v (.slice none 0 0)]), (2, .row 34 [bS false, bS false, bS false, iS 0, iS 0, .v (.slice none 0 0)]), (3, .row 30 [iS 0, iS 0]), (4, .row 30 (Enc.cells r2179))] 5 (by kernel_rfl) ?_
  refine wk_id ?_
  refine seq_np ?_
  refine reg_f ?_
  refine rs 3 [] [] (by kernel_rfl) allP_nil ?_
  refine rf [(1, .ptr 0 0), (2, .ptr 1 0), (3, .ptr 2 0), (4, .ptr 3 0), (5, .ptr 4 0), (12, bS (r2179.Code != 0))] [(0, .row 25 (Enc.cells p)), (1, .row 25 [iS 0, .v (.slice none 0 0), bS false, .v (.slice none 0 0), .v (.slice none 0 0)]), (2, .row 34 [bS false, bS false, bS false, iS 0, iS 0, .v (.slice none 0 0)]), (3, .row 30 [iS 0, iS 0]), (4, .row 30 (Enc.cells r2179))] 5 (by kernel_rfl) ?_
  refine wk_id ?_
  refine cond_sx h (by kernel_rfl) (fun g2184 h => ?_) (fun g2184 h => ?_)
  · refine seq_np ?_
    refine reg_t ?_
    refine rs 6 [] [] (by kernel_rfl) allP_nil ?_
    refine rt [(2, .ptr 1 0), (3, .ptr 2 0), (4, .ptr 3 0)] [(0, .row 25 (Enc.cells p)), (1, .row 25 [iS 0, .v (.slice none 0 0), bS false, .v (.slice none 0 0), .v (.slice none 0 0)]), (2, .row 34 [bS false, bS false, bS false, iS 0, iS 0, .v (.slice none 0 0)]), (3, .row 30 (Enc.cells r2179)), (4, .row 30 (Enc.cells r2179))] 11 follows (by kernel_rfl) ?_
    refine wk_id ?_
    obtain rfl := Option.some.inj h
    refine ret_at (.tup [.agg [iS 0, .v (.slice none 0 0), bS false, .v (.slice none 0 0), .v (.slice none 0 0)], .agg [bS false, bS false, bS false, iS 0, iS 0, .v (.slice none 0 0)], .agg (Enc.cells r2179)]) (by kernel_rfl) ?_
    exact ret_e [] [] (by simp only [push_cast, seval]) (by simp only [push_cast, seval]) rfl rfl rfl
  · refine wk_id ?_
    refine seq_np ?_
    refine reg_f ?_
    refine rs 1 [] [] (by kernel_rfl) allP_nil ?_
    obtain ⟨r2181, hr2181, h⟩ := bind_sx h
    refine call_x (pipe_Copy_spec p r2181 hr2181) (args := [.agg (Enc.cells p)]) (dst := (some 17)) (by kernel_rfl) [(0, .row 25 (Enc.cells p)), (1, .row 25 [iS 0, .v (.slice none 0 0), bS false, .v (.slice none 0 0), .v (.slice none 0 0)]), (2, .row 34 [bS false, bS false, bS false, iS 0, iS 0, .v (.slice none 0 0)]), (3, .row 30 [iS 0, iS 0]), (4, .row 30 (Enc.cells r2179))] 5 (by kernel_rfl) [] [] (.agg [iS r2181.1, .own 5 0 r2181.2.2.1.length, bS r2181.2.1, .own 6 0 r2181.2.2.2.1.length, .own 7 0 r2181.2.2.2.2.length]) [(5, .row 3 (fl r2181.2.2.1)), (6, .row 39 (fl r2181.2.2.2.1)), (7, .row 39 (fl r2181.2.2.2.2))] (by simp only [push_cast, seval]) (by simp only [push_cast, seval]) (by kernel_rfl) (.inl rfl) (by simp only [push_cast, seval]) (by simp only [push_cast, seval]) ?_
    refine rs 2 [] [] (by kernel_rfl) allP_nil ?_
    refine rf [(2, .ptr 1 0), (3, .ptr 2 0), (4, .ptr 3 0), (6, .ptr 8 0)] [(0, .row 25 (Enc.cells p)), (1, .row 25 [iS 0, .v (.slice none 0 0), bS false, .v (.slice none 0 0), .v (.slice none 0 0)]), (2, .row 34 [bS false, bS false, bS false, iS 0, iS 0, .v (.slice none 0 0)]), (3, .row 30 [iS 0, iS 0]), (4, .row 30 (Enc.cells r2179)), (5, .row 3 (fl r2181.2.2.1)), (6, .row 39 (fl r2181.2.2.2.1)), (7, .row 39 (fl r2181.2.2.2.2)), (8, .row 25 [iS r2181.1, .own 5 0 r2181.2.2.1.length, bS r2181.2.1, .own 6 0 r2181.2.2.2.1.length, .own 7 0 r2181.2.2.2.2.length])] 9 (by kernel_rfl) ?_
    refine wk_id ?_
    refine seq_np ?_
    refine reg_f ?_
    obtain ⟨r2183, hr2183, h⟩ := bind_sx h
    refine call_x (pipe_Down_spec r2181.1 r2181.2.1 r2181.2.2.1 r2181.2.2.2.1 r2181.2.2.2.2 r2183 hr2183) (args := [.ptr 8 0]) (dst := (some 18)) (by kernel_rfl) [(0, .row 25 (Enc.cells p)), (1, .row 25 [iS 0, .v (.slice none 0 0), bS false, .v (.slice none 0 0), .v (.slice none 0 0)]), (2, .row 34 [bS false, bS false, bS false, iS 0, iS 0, .v (.slice none 0 0)]), (3, .row 30 [iS 0, iS 0]), (4, .row 30 (Enc.cells r2179)), (5, .row 3 (fl r2181.2.2.1)), (6, .row 39 (fl r2181.2.2.2.1)), (7, .row 39 (fl r2181.2.2.2.2)), (8, .row 25 [iS r2181.1, .own 5 0 r2181.2.2.1.length, bS r2181.2.1, .own 6 0 r2181.2.2.2.1.length, .own 7 0 r2181.2.2.2.2.length])] 9 (by kernel_rfl) [(0, 8), (1, 5), (2, 6), (3, 7)] [] (.agg [bS r2183.1, bS r2183.2.1, bS r2183.2.2.1, iS r2183.2.2.2.1, iS r2183.2.2.2.2.1, .own 13 0 r2183.2.2.2.2.2.1.length]) [(8, .row 25 [iS r2183.2.2.2.2.2.2.1, .own 5 0 r2183.2.2.2.2.2.2.2.2.2.2.length, bS r2183.2.2.2.2.2.2.2.1, .own 14 0 r2183.2.2.2.2.2.2.2.2.1.length, .own 15 0 r2183.2.2.2.2.2.2.2.2.2.1.length]), (5, .row 3 (fl r2183.2.2.2.2.2.2.2.2.2.2)), (6, .dead), (7, .dead), (13, .row 64 (fl r2183.2.2.2.2.2.1)), (14, .row 39 (fl r2183.2.2.2.2.2.2.2.2.1)), (15, .row 39 (fl r2183.2.2.2.2.2.2.2.2.2.1)), (8, .dead), (5, .dead), (6, .dead), (7, .dead)] (by simp only [push_cast, seval]) (by simp only [push_cast, seval]) (by kernel_rfl) (.inl rfl) (by simp only [push_cast, seval]) (by simp only [push_cast, seval]) ?_
    refine rs 2 [] [] (by kernel_rfl) allP_nil ?_
    refine rf [(2, .ptr 1 0), (3, .ptr 2 0), (4, .ptr 3 0), (6, .ptr 8 0), (7, .ptr 16 0)] [(0, .row 25 (Enc.cells p)), (1, .row 25 [iS 0, .v (.slice none 0 0), bS false, .v (.slice none 0 0), .v (.slice none 0 0)]), (2, .row 34 [bS false, bS false, bS false, iS 0, iS 0, .v (.slice none 0 0)]), (3, .row 30 [iS 0, iS 0]), (4, .row 30 (Enc.cells r2179)), (5, .row 3 (fl r2183.2.2.2.2.2.2.2.2.2.2)), (6, .dead), (7, .dead), (8, .row 25 [iS r2183.2.2.2.2.2.2.1, .own 5 0 r2183.2.2.2.2.2.2.2.2.2.2.length, bS r2183.2.2.2.2.2.2.2.1, .own 14 0 r2183.2.2.2.2.2.2.2.2.1.length, .own 15 0 r2183.2.2.2.2.2.2.2.2.2.1.length]), (13, .row 64 (fl r2183.2.2.2.2.2.1)), (14, .row 39 (fl r2183.2.2.2.2.2.2.2.2.1)), (15, .row 39 (fl r2183.2.2.2.2.2.2.2.2.2.1)), (16, .row 34 [bS r2183.1, bS r2183.2.1, bS r2183.2.2.1, iS r2183.2.2.2.1, iS r2183.2.2.2.2.1, .own 13 0 r2183.2.2.2.2.2.1.length])] 17 (by kernel_rfl) ?_
    refine wk_id ?_
    refine seq_np ?_
    refine reg_t ?_
    refine rs 6 [] [] (by kernel_rfl) allP_nil ?_
    refine rt [(2, .ptr 1 0), (3, .ptr 2 0), (4, .ptr 3 0)] [(0, .row 25 (Enc.cells p)), (1, .row 25 [iS r2183.2.2.2.2.2.2.1, .own 5 0 r2183.2.2.2.2.2.2.2.2.2.2.length, bS r2183.2.2.2.2.2.2.2.1, .own 14 0 r2183.2.2.2.2.2.2.2.2.1.length, .own 15 0 r2183.2.2.2.2.2.2.2.2.2.1.length]), (2, .row 34 [bS r2183.1, bS r2183.2.1, bS r2183.2.2.1, iS r2183.2.2.2.1, iS r2183.2.2.2.2.1, .own 13 0 r2183.2.2.2.2.2.1.length]), (3, .row 30 [iS 0, iS 0]), (4, .row 30 (Enc.cells r2179)), (5, .row 3 (fl r2183.2.2.2.2.2.2.2.2.2.2)), (6, .dead), (7, .dead), (8, .row 25 [iS r2183.2.2.2.2.2.2.1, .own 5 0 r2183.2.2.2.2.2.2.2.2.2.2.length, bS r2183.2.2.2.2.2.2.2.1, .own 14 0 r2183.2.2.2.2.2.2.2.2.1.length, .own 15 0 r2183.2.2.2.2.2.2.2.2.2.1.length]), (13, .row 64 (fl r2183.2.2.2.2.2.1)), (14, .row 39 (fl r2183.2.2.2.2.2.2.2.2.1)), (15, .row 39 (fl r2183.2.2.2.2.2.2.2.2.2.1)), (16, .row 34 [bS r2183.1, bS r2183.2.1, bS r2183.2.2.1, iS r2183.2.2.2.1, iS r2183.2.2.2.2.1, .own 13 0 r2183.2.2.2.2.2.1.length])] 23 follows (by kernel_rfl) ?_
    refine wk_id ?_
    obtain rfl := Option.some.inj h
    refine ret_at (.tup [.agg [iS r2183.2.2.2.2.2.2.1, .own 5 0 r2183.2.2.2.2.2.2.2.2.2.2.length, bS r2183.2.2.2.2.2.2.2.1, .own 14 0 r2183.2.2.2.2.2.2.2.2.1.length, .own 15 0 r2183.2.2.2.2.2.2.2.2.2.1.length], .agg [bS r2183.1, bS r2183.2.1, bS r2183.2.2.1, iS r2183.2.2.2.1, iS r2183.2.2.2.2.1, .own 13 0 r2183.2.2.2.2.2.1.length], .agg [iS 0, iS 0]]) (by kernel_rfl) ?_
    exact ret_e [(0, 5), (1, 14), (2, 15), (3, 13)] [] (by simp only [push_cast, seval]) (by simp only [push_cast, seval]) rfl rfl rfl

set_option maxRecDepth 100000 in
set_option maxHeartbeats 10000000 in
theorem taskmilllaw_played_spec (capacity : Int) (moves : (List Int)) (r : Int × Bool × Bool × (List Int) × (List Int) × (List Int) × (List GPost) × (List GPost)) (h : taskmilllaw_played capacity moves = some r) : SpecW Try.prog 23 [iS capacity, .sl moves.length (fl moves)] [] 0 (fun x h n => x = .tup [.own 0 0 r.2.2.2.1.length, .own 1 0 r.2.2.2.2.1.length, .agg [iS r.1, .own 2 0 r.2.2.2.2.2.1.length, bS r.2.1, .own 3 0 r.2.2.2.2.2.2.1.length, .own 4 0 r.2.2.2.2.2.2.2.length], bS r.2.2.1] ∧ h = [(0, .row 3 (fl r.2.2.2.1)), (1, .row 3 (fl r.2.2.2.2.1)), (2, .row 3 (fl r.2.2.2.2.2.1)), (3, .row 39 (fl r.2.2.2.2.2.2.1)), (4, .row 39 (fl r.2.2.2.2.2.2.2))] ∧ n = 5) := by
  unfold taskmilllaw_played at h
  refine spec_of (draw_ok _) Try.func23 rfl (by decide) rfl (by kernel_rfl) ?_
  refine seq_np ?_
  refine reg_f ?_
  refine rs 4 [] [] (by kernel_rfl) allP_nil ?_
  refine rf [(0, iS capacity), (1, .sl moves.length (fl moves)), (4, .v (.slice none 0 0)), (5, .v (.slice none 0 0)), (6, .ptr 0 0)] [(0, .row 25 [iS 0, .v (.slice none 0 0), bS false, .v (.slice none 0 0), .v (.slice none 0 0)])] 1 (by kernel_rfl) ?_
  refine wk_id ?_
  refine seq_np ?_
  refine reg_f ?_
  refine rs 3 [] [] (by kernel_rfl) allP_nil ?_
  refine rf [(1, .sl moves.length (fl moves)), (4, .v (.slice none 0 0)), (5, .v (.slice none 0 0)), (6, .ptr 0 0)] [(0, .row 25 [iS capacity, .v (.slice none 0 0), bS false, .v (.slice none 0 0), .v (.slice none 0 0)])] 1 (by kernel_rfl) ?_
  refine wk_id ?_
  refine seq_np ?_
  refine seq_np ?_
  refine reg_f ?_
  refine rs 1 [] [] (by kernel_rfl) allP_nil ?_
  refine rf [(1, .sl moves.length (fl moves)), (4, .v (.slice none 0 0)), (5, .v (.slice none 0 0)), (6, .ptr 0 0), (8, iS 0)] [(0, .row 25 [iS capacity, .v (.slice none 0 0), bS false, .v (.slice none 0 0), .v (.slice none 0 0)])] 1 (by kernel_rfl) ?_
  refine wk_id ?_
  refine block_np ?_
  refine loop_sx (S := Int × (List Int) × (List Int) × Int × Bool × (List Int) × (List GPost) × (List GPost)) (fun a => ([(1, .sl moves.length (fl moves)), (4, .own 0 0 a.2.1.length), (5, .own 1 0 a.2.2.1.length), (6, .ptr 2 0), (8, iS a.1)], [(0, .row 3 (fl a.2.1)), (1, .row 3 (fl a.2.2.1)), (2, .row 25 [iS a.2.2.2.1, .own 3 0 a.2.2.2.2.2.1.length, bS a.2.2.2.2.1, .own 4 0 a.2.2.2.2.2.2.1.length, .own 5 0 a.2.2.2.2.2.2.2.length]), (3, .row 3 (fl a.2.2.2.2.2.1)), (4, .row 39 (fl a.2.2.2.2.2.2.1)), (5, .row 39 (fl a.2.2.2.2.2.2.2))], 6)) h (leSt_m [(2, 0)] [] (by simp only [push_cast, seval]) (by simp only [push_cast, seval]) rfl rfl rfl) ?_
  rintro ⟨i7, c0q85, c1q85, c2_Cap18, c2_Closed18, c3q19, c4q19, c5q29⟩ o3 R3 h hr3 hn3 hx3 ht3
  try dsimp only at h hn3 ⊢
  unfold taskmilllaw_played_l2 at h
  try dsimp only at h
  refine seq_np ?_
  refine seq_np ?_
  refine reg_f ?_
  refine rs 4 [] [] (by kernel_rfl) allP_nil ?_
  refine rf [(1, .sl moves.length (fl moves)), (4, .own 0 0 c0q85.length), (5, .own 1 0 c1q85.length), (6, .ptr 2 0), (8, iS i7), (20, bS (decide (i7 < ((moves.length : Nat) : Int))))] [(0, .row 3 (fl c0q85)), (1, .row 3 (fl c1q85)), (2, .row 25 [iS c2_Cap18, .own 3 0 c3q19.length, bS c2_Closed18, .own 4 0 c4q19.length, .own 5 0 c5q29.length]), (3, .row 3 (fl c3q19)), (4, .row 39 (fl c4q19)), (5, .row 39 (fl c5q29))] 6 (by kernel_rfl) ?_
  refine wk_id ?_
  refine cond_sx h (by kernel_rfl) (fun g3569 h => ?_) (fun g3569 h => ?_)
  · refine wk_id ?_
    refine seq_np ?_
    refine block_cut (A := (List Int) × (List Int) × Int × Bool × (List Int) × (List GPost) × (List GPost)) (fun a => ([(1, .sl moves.length (fl moves)), (4, .own 0 0 a.1.length), (5, .own 1 0 a.2.1.length), (6, .ptr 2 0), (8, iS i7)], [(0, .row 3 (fl a.1)), (1, .row 3 (fl a.2.1)), (2, .row 25 [iS a.2.2.1, .own 3 0 a.2.2.2.2.1.length, bS a.2.2.2.1, .own 4 0 a.2.2.2.2.2.1.length, .own 5 0 a.2.2.2.2.2.2.length]), (3, .row 3 (fl a.2.2.2.2.1)), (4, .row 39 (fl a.2.2.2.2.2.1)), (5, .row 39 (fl a.2.2.2.2.2.2))], 6)) (fun a => (taskmilllaw_played_j1 moves i7 a.1 a.2.1 a.2.2.1 a.2.2.2.1 a.2.2.2.2.1 a.2.2.2.2.2.1 a.2.2.2.2.2.2) = some o3) (fun K3269 hK3269 => ?_) ?_
    · refine seq_np ?_
      refine reg_f ?_
      refine rs 3 [] [] (by kernel_rfl) allP_nil ?_
      refine rf [(1, .sl moves.length (fl moves)), (4, .own 0 0 c0q85.length), (5, .own 1 0 c1q85.length), (6, .ptr 2 0), (8, iS i7), (9, iS (IntKind.i64.wrap (i7 + 1)))] [(0, .row 3 (fl c0q85)), (1, .row 3 (fl c1q85)), (2, .row 25 [iS c2_Cap18, .own 3 0 c3q19.length, bS c2_Closed18, .own 4 0 c4q19.length, .own 5 0 c5q29.length]), (3, .row 3 (fl c3q19)), (4, .row 39 (fl c4q19)), (5, .row 39 (fl c5q29))] 6 (by kernel_rfl) ?_
      refine wk_id ?_
      refine seq_np ?_
      refine reg_f ?_
      refine rs 3 [] [] (by kernel_rfl) allP_nil ?_
      refine rf [(1, .sl moves.length (fl moves)), (4, .own 0 0 c0q85.length), (5, .own 1 0 c1q85.length), (6, .ptr 2 0), (8, iS i7), (9, iS (IntKind.i64.wrap (i7 + 1))), (10, .ptr 6 0)] [(0, .row 3 (fl c0q85)), (1, .row 3 (fl c1q85)), (2, .row 25 [iS c2_Cap18, .own 3 0 c3q19.length, bS c2_Closed18, .own 4 0 c4q19.length, .own 5 0 c5q29.length]), (3, .row 3 (fl c3q19)), (4, .row 39 (fl c4q19)), (5, .row 39 (fl c5q29)), (6, .row 25 [iS c2_Cap18, .own 3 0 c3q19.length, bS c2_Closed18, .own 4 0 c4q19.length, .own 5 0 c5q29.length])] 7 (by kernel_rfl) ?_
      refine wk_id ?_
      refine seq_np ?_
      refine reg_f ?_
      refine rs 3 [] [] (by kernel_rfl) allP_nil ?_
      refine rf [(1, .sl moves.length (fl moves)), (4, .own 0 0 c0q85.length), (5, .own 1 0 c1q85.length), (6, .ptr 2 0), (8, iS i7), (9, iS (IntKind.i64.wrap (i7 + 1))), (10, .ptr 6 0), (11, .ptr 7 0)] [(0, .row 3 (fl c0q85)), (1, .row 3 (fl c1q85)), (2, .row 25 [iS c2_Cap18, .own 3 0 c3q19.length, bS c2_Closed18, .own 4 0 c4q19.length, .own 5 0 c5q29.length]), (3, .row 3 (fl c3q19)), (4, .row 39 (fl c4q19)), (5, .row 39 (fl c5q29)), (6, .row 25 [iS c2_Cap18, .own 3 0 c3q19.length, bS c2_Closed18, .own 4 0 c4q19.length, .own 5 0 c5q29.length]), (7, .row 34 [bS false, bS false, bS false, iS 0, iS 0, .v (.slice none 0 0)])] 8 (by kernel_rfl) ?_
      refine wk_id ?_
      refine seq_np ?_
      refine reg_f ?_
      refine rs 3 [] [] (by kernel_rfl) allP_nil ?_
      refine rf [(1, .sl moves.length (fl moves)), (4, .own 0 0 c0q85.length), (5, .own 1 0 c1q85.length), (6, .ptr 2 0), (8, iS i7), (9, iS (IntKind.i64.wrap (i7 + 1))), (10, .ptr 6 0), (11, .ptr 7 0), (12, .ptr 8 0)] [(0, .row 3 (fl c0q85)), (1, .row 3 (fl c1q85)), (2, .row 25 [iS c2_Cap18, .own 3 0 c3q19.length, bS c2_Closed18, .own 4 0 c4q19.length, .own 5 0 c5q29.length]), (3, .row 3 (fl c3q19)), (4, .row 39 (fl c4q19)), (5, .row 39 (fl c5q29)), (6, .row 25 [iS c2_Cap18, .own 3 0 c3q19.length, bS c2_Closed18, .own 4 0 c4q19.length, .own 5 0 c5q29.length]), (7, .row 34 [bS false, bS false, bS false, iS 0, iS 0, .v (.slice none 0 0)]), (8, .row 30 [iS 0, iS 0])] 9 (by kernel_rfl) ?_
      refine wk_id ?_
      refine seq_np ?_
      refine chk_sx h (fun g3301 h => ?_)
      refine seq_np ?_
      refine reg_f ?_
      have k3300 : 0 ≤ i7 ∧ i7 < ((moves.length : Nat) : Int) := by first | simpa only [Bool.and_eq_true, decide_eq_true_eq, bne_iff_ne, ne_eq] using g3301 | (simp at g3301 ⊢; omega)
      refine rs 4 [none, none, some ⟨.iptr (fl moves) ((i7).toNat * 1), [], 9, []⟩, some ⟨iS (ix moves i7), [], 9, []⟩] _ (by kernel_rfl) (allP_cons (ob_ld moves i7 1 0 ((i7).toNat * 1) k3300 rfl (by decide) (by first | rfl | omega) (dflS Try.prog 3) (iS (ix moves i7)) rfl 9 []) (allP_cons (ob_ix_l moves 1 9 i7 k3300) allP_nil)) ?_
      refine rf [(1, .sl moves.length (fl moves)), (4, .own 0 0 c0q85.length), (5, .own 1 0 c1q85.length), (6, .ptr 2 0), (8, iS i7), (9, iS (IntKind.i64.wrap (i7 + 1))), (10, .ptr 6 0), (11, .ptr 7 0), (12, .ptr 8 0), (31, iS (ix moves i7))] [(0, .row 3 (fl c0q85)), (1, .row 3 (fl c1q85)), (2, .row 25 [iS c2_Cap18, .own 3 0 c3q19.length, bS c2_Closed18, .own 4 0 c4q19.length, .own 5 0 c5q29.length]), (3, .row 3 (fl c3q19)), (4, .row 39 (fl c4q19)), (5, .row 39 (fl c5q29)), (6, .row 25 [iS c2_Cap18, .own 3 0 c3q19.length, bS c2_Closed18, .own 4 0 c4q19.length, .own 5 0 c5q29.length]), (7, .row 34 [bS false, bS false, bS false, iS 0, iS 0, .v (.slice none 0 0)]), (8, .row 30 [iS 0, iS 0])] 9 (by kernel_rfl) ?_
      refine wk_id ?_
      refine block_cut (A := (List Int) × (List Int) × Int × Bool × Bool × Bool × Bool × Int × Int × Fault × (List Int) × (List GPost) × (List GPost) × (List GWake)) (fun a => ([(1, .sl moves.length (fl moves)), (4, .own 0 0 a.1.length), (5, .own 1 0 a.2.1.length), (6, .ptr 2 0), (8, iS i7), (10, .ptr 3 0), (11, .ptr 4 0), (12, .ptr 5 0)], [(0, .row 3 (fl a.1)), (1, .row 3 (fl a.2.1)), (2, .row 25 [iS c2_Cap18, .own 6 0 c3q19.length, bS c2_Closed18, .own 7 0 c4q19.length, .own 8 0 c5q29.length]), (3, .row 25 [iS a.2.2.1, .own 9 0 a.2.2.2.2.2.2.2.2.2.2.1.length, bS a.2.2.2.1, .own 10 0 a.2.2.2.2.2.2.2.2.2.2.2.1.length, .own 11 0 a.2.2.2.2.2.2.2.2.2.2.2.2.1.length]), (4, .row 34 [bS a.2.2.2.2.1, bS a.2.2.2.2.2.1, bS a.2.2.2.2.2.2.1, iS a.2.2.2.2.2.2.2.1, iS a.2.2.2.2.2.2.2.2.1, .own 12 0 a.2.2.2.2.2.2.2.2.2.2.2.2.2.length]), (5, .row 30 (Enc.cells a.2.2.2.2.2.2.2.2.2.1)), (6, .row 3 (fl c3q19)), (7, .row 39 (fl c4q19)), (8, .row 39 (fl c5q29)), (9, .row 3 (fl a.2.2.2.2.2.2.2.2.2.2.1)), (10, .row 39 (fl a.2.2.2.2.2.2.2.2.2.2.2.1)), (11, .row 39 (fl a.2.2.2.2.2.2.2.2.2.2.2.2.1)), (12, .row 64 (fl a.2.2.2.2.2.2.2.2.2.2.2.2.2))], 13)) (fun a => (taskmilllaw_played_j4 moves i7 c2_Cap18 c2_Closed18 c3q19 c4q19 c5q29 a.1 a.2.1 a.2.2.1 a.2.2.2.1 a.2.2.2.2.1 a.2.2.2.2.2.1 a.2.2.2.2.2.2.1 a.2.2.2.2.2.2.2.1 a.2.2.2.2.2.2.2.2.1 a.2.2.2.2.2.2.2.2.2.1 a.2.2.2.2.2.2.2.2.2.2.1 a.2.2.2.2.2.2.2.2.2.2.2.1 a.2.2.2.2.2.2.2.2.2.2.2.2.1 a.2.2.2.2.2.2.2.2.2.2.2.2.2) = some o3) (fun K3327 hK3327 => ?_) ?_
      · refine seq_cut (A := Bool) (fun a => ([(1, .sl moves.length (fl moves)), (4, .own 0 0 c0q85.length), (5, .own 1 0 c1q85.length), (6, .ptr 2 0), (8, iS i7), (9, iS (IntKind.i64.wrap (i7 + 1))), (10, .ptr 3 0), (11, .ptr 4 0), (12, .ptr 5 0), (31, iS (ix moves i7)), (32, bS a)], [(0, .row 3 (fl c0q85)), (1, .row 3 (fl c1q85)), (2, .row 25 [iS c2_Cap18, .own 6 0 c3q19.length, bS c2_Closed18, .own 7 0 c4q19.length, .own 8 0 c5q29.length]), (3, .row 25 [iS c2_Cap18, .own 6 0 c3q19.length, bS c2_Closed18, .own 7 0 c4q19.length, .own 8 0 c5q29.length]), (4, .row 34 [bS false, bS false, bS false, iS 0, iS 0, .v (.slice none 0 0)]), (5, .row 30 [iS 0, iS 0]), (6, .row 3 (fl c3q19)), (7, .row 39 (fl c4q19)), (8, .row 39 (fl c5q29))], 9)) (fun a => (taskmilllaw_played_j6 moves i7 c0q85 c1q85 c2_Cap18 c2_Closed18 c3q19 c4q19 c5q29 a) = some o3) (fun K3330 hK3330 => ?_) ?_
        · refine seq_np ?_
          refine reg_f ?_
          refine rs 2 [] [] (by kernel_rfl) allP_nil ?_
          refine rf [(1, .sl moves.length (fl moves)), (4, .own 0 0 c0q85.length), (5, .own 1 0 c1q85.length), (6, .ptr 2 0), (8, iS i7), (9, iS (IntKind.i64.wrap (i7 + 1))), (10, .ptr 6 0), (11, .ptr 7 0), (12, .ptr 8 0), (31, iS (ix moves i7)), (32, bS ((ix moves i7) == 0))] [(0, .row 3 (fl c0q85)), (1, .row 3 (fl c1q85)), (2, .row 25 [iS c2_Cap18, .own 3 0 c3q19.length, bS c2_Closed18, .own 4 0 c4q19.length, .own 5 0 c5q29.length]), (3, .row 3 (fl c3q19)), (4, .row 39 (fl c4q19)), (5, .row 39 (fl c5q29)), (6, .row 25 [iS c2_Cap18, .own 3 0 c3q19.length, bS c2_Closed18, .own 4 0 c4q19.length, .own 5 0 c5q29.length]), (7, .row 34 [bS false, bS false, bS false, iS 0, iS 0, .v (.slice none 0 0)]), (8, .row 30 [iS 0, iS 0])] 9 (by kernel_rfl) ?_
          refine wk_id ?_
          refine cond_sx h (by kernel_rfl) (fun g3331 h => ?_) (fun g3331 h => ?_)
          · exact hK3330 (((ix moves i7) == 0)) _ _ _ h (leSt_m [(0, 0), (1, 1), (2, 2), (3, 6), (4, 7), (5, 8), (6, 3), (7, 4), (8, 5)] [] (by simp only [push_cast, seval]) (by simp only [push_cast, seval]) rfl rfl rfl)
          · refine reg_f ?_
            refine rs 2 [] [] (by kernel_rfl) allP_nil ?_
            refine rf [(1, .sl moves.length (fl moves)), (4, .own 0 0 c0q85.length), (5, .own 1 0 c1q85.length), (6, .ptr 2 0), (8, iS i7), (9, iS (IntKind.i64.wrap (i7 + 1))), (10, .ptr 6 0), (11, .ptr 7 0), (12, .ptr 8 0), (31, iS (ix moves i7)), (32, bS ((ix moves i7) == 1))] [(0, .row 3 (fl c0q85)), (1, .row 3 (fl c1q85)), (2, .row 25 [iS c2_Cap18, .own 3 0 c3q19.length, bS c2_Closed18, .own 4 0 c4q19.length, .own 5 0 c5q29.length]), (3, .row 3 (fl c3q19)), (4, .row 39 (fl c4q19)), (5, .row 39 (fl c5q29)), (6, .row 25 [iS c2_Cap18, .own 3 0 c3q19.length, bS c2_Closed18, .own 4 0 c4q19.length, .own 5 0 c5q29.length]), (7, .row 34 [bS false, bS false, bS false, iS 0, iS 0, .v (.slice none 0 0)]), (8, .row 30 [iS 0, iS 0])] 9 (by kernel_rfl) ?_
            exact hK3330 (((ix moves i7) == 1)) _ _ _ h (leSt_m [(0, 0), (1, 1), (2, 2), (3, 6), (4, 7), (5, 8), (6, 3), (7, 4), (8, 5)] [] (by simp only [push_cast, seval]) (by simp only [push_cast, seval]) rfl rfl rfl)
        · rintro t32q15 h
          try dsimp only at h ⊢
          unfold taskmilllaw_played_j6 at h
          refine cond_sx h (by kernel_rfl) (fun g3368 h => ?_) (fun g3368 h => ?_)
          · refine chk_sx h (fun g3336 h => ?_)
            refine seq_np ?_
            refine reg_t ?_
            have k3335 : 0 ≤ i7 ∧ i7 < ((moves.length : Nat) : Int) := by first | simpa only [Bool.and_eq_true, decide_eq_true_eq, bne_iff_ne, ne_eq] using g3336 | (simp at g3336 ⊢; omega)
            refine rs 8 [none, none, none, none, none, some ⟨.iptr (fl moves) ((i7).toNat * 1), [], 14, []⟩, some ⟨iS (ix moves i7), [], 15, []⟩] _ (by kernel_rfl) (allP_cons (ob_ld moves i7 1 0 ((i7).toNat * 1) k3335 rfl (by decide) (by first | rfl | omega) (dflS Try.prog 3) (iS (ix moves i7)) rfl 15 []) (allP_cons (ob_ix_l moves 1 14 i7 k3335) allP_nil)) ?_
            obtain ⟨r3337, hr3337, h⟩ := bind_sx h
            refine call_x (pipe_Send_spec (Pipe.mk c2_Cap18 c3q19 c2_Closed18 c4q19 c5q29) (IntKind.i64.wrap (i7 + 1)) i7 ((ix moves i7) == 1) r3337 hr3337) (args := [.agg [iS c2_Cap18, .own 6 0 c3q19.length, bS c2_Closed18, .own 7 0 c4q19.length, .own 8 0 c5q29.length], iS (IntKind.i64.wrap (i7 + 1)), iS i7, bS ((ix moves i7) == 1)]) (dst := (some 44)) (by kernel_rfl) [(0, .row 3 (fl c0q85)), (1, .row 3 (fl c1q85)), (2, .row 25 [iS c2_Cap18, .own 6 0 c3q19.length, bS c2_Closed18, .own 7 0 c4q19.length, .own 8 0 c5q29.length]), (3, .row 25 [iS c2_Cap18, .own 6 0 c3q19.length, bS c2_Closed18, .own 7 0 c4q19.length, .own 8 0 c5q29.length]), (4, .row 34 [bS false, bS false, bS false, iS 0, iS 0, .v (.slice none 0 0)]), (5, .row 30 [iS 0, iS 0]), (6, .row 3 (fl c3q19)), (7, .row 39 (fl c4q19)), (8, .row 39 (fl c5q29))] 17 (by kernel_rfl) [] [6, 7, 8] (.tup [.agg [iS r3337.1, .own 17 0 r3337.2.2.2.2.2.2.2.2.1.length, bS r3337.2.1, .own 18 0 r3337.2.2.2.2.2.2.2.2.2.1.length, .own 19 0 r3337.2.2.2.2.2.2.2.2.2.2.1.length], .agg [bS r3337.2.2.1, bS r3337.2.2.2.1, bS r3337.2.2.2.2.1, iS r3337.2.2.2.2.2.1, iS r3337.2.2.2.2.2.2.1, .own 20 0 r3337.2.2.2.2.2.2.2.2.2.2.2.length], .agg (Enc.cells r3337.2.2.2.2.2.2.2.1)]) [(17, .row 3 (fl r3337.2.2.2.2.2.2.2.2.1)), (18, .row 39 (fl r3337.2.2.2.2.2.2.2.2.2.1)), (19, .row 39 (fl r3337.2.2.2.2.2.2.2.2.2.2.1)), (20, .row 64 (fl r3337.2.2.2.2.2.2.2.2.2.2.2))] (by simp only [push_cast, seval]) (by simp only [push_cast, seval]) (by kernel_rfl) (.inr ⟨by simp only [push_cast, seval], by simp only [push_cast, seval]⟩) (by simp only [push_cast, seval]) (by simp only [push_cast, seval]) ?_
            refine rs 7 [] [] (by kernel_rfl) allP_nil ?_
            refine rt [(1, .sl moves.length (fl moves)), (4, .own 0 0 c0q85.length), (5, .own 1 0 c1q85.length), (6, .ptr 2 0), (8, iS i7), (10, .ptr 3 0), (11, .ptr 4 0), (12, .ptr 5 0)] [(0, .row 3 (fl c0q85)), (1, .row 3 (fl c1q85)), (2, .row 25 [iS c2_Cap18, .own 6 0 c3q19.length, bS c2_Closed18, .own 7 0 c4q19.length, .own 8 0 c5q29.length]), (3, .row 25 [iS r3337.1, .own 17 0 r3337.2.2.2.2.2.2.2.2.1.length, bS r3337.2.1, .own 18 0 r3337.2.2.2.2.2.2.2.2.2.1.length, .own 19 0 r3337.2.2.2.2.2.2.2.2.2.2.1.length]), (4, .row 34 [bS r3337.2.2.1, bS r3337.2.2.2.1, bS r3337.2.2.2.2.1, iS r3337.2.2.2.2.2.1, iS r3337.2.2.2.2.2.2.1, .own 20 0 r3337.2.2.2.2.2.2.2.2.2.2.2.length]), (5, .row 30 (Enc.cells r3337.2.2.2.2.2.2.2.1)), (6, .row 3 (fl c3q19)), (7, .row 39 (fl c4q19)), (8, .row 39 (fl c5q29)), (17, .row 3 (fl r3337.2.2.2.2.2.2.2.2.1)), (18, .row 39 (fl r3337.2.2.2.2.2.2.2.2.2.1)), (19, .row 39 (fl r3337.2.2.2.2.2.2.2.2.2.2.1)), (20, .row 64 (fl r3337.2.2.2.2.2.2.2.2.2.2.2))] 29 follows (by kernel_rfl) ?_
            refine wk_id ?_
            refine seq_cut (A := Unit) (fun _ => ([(1, .sl moves.length (fl moves)), (4, .own 0 0 c0q85.length), (5, .own 1 0 c1q85.length), (6, .ptr 2 0), (8, iS i7), (10, .ptr 3 0), (11, .ptr 4 0), (12, .ptr 5 0), (54, bS (r3337.2.2.1 && (!r3337.2.2.2.1)))], [(0, .row 3 (fl c0q85)), (1, .row 3 (fl c1q85)), (2, .row 25 [iS c2_Cap18, .own 6 0 c3q19.length, bS c2_Closed18, .own 7 0 c4q19.length, .own 8 0 c5q29.length]), (3, .row 25 [iS r3337.1, .own 17 0 r3337.2.2.2.2.2.2.2.2.1.length, bS r3337.2.1, .own 18 0 r3337.2.2.2.2.2.2.2.2.2.1.length, .own 19 0 r3337.2.2.2.2.2.2.2.2.2.2.1.length]), (4, .row 34 [bS r3337.2.2.1, bS r3337.2.2.2.1, bS r3337.2.2.2.2.1, iS r3337.2.2.2.2.2.1, iS r3337.2.2.2.2.2.2.1, .own 20 0 r3337.2.2.2.2.2.2.2.2.2.2.2.length]), (5, .row 30 (Enc.cells r3337.2.2.2.2.2.2.2.1)), (6, .row 3 (fl c3q19)), (7, .row 39 (fl c4q19)), (8, .row 39 (fl c5q29)), (17, .row 3 (fl r3337.2.2.2.2.2.2.2.2.1)), (18, .row 39 (fl r3337.2.2.2.2.2.2.2.2.2.1)), (19, .row 39 (fl r3337.2.2.2.2.2.2.2.2.2.2.1)), (20, .row 64 (fl r3337.2.2.2.2.2.2.2.2.2.2.2))], 29)) (fun _ => True) (fun K3339 hK3339 => ?_) (fun _ _ => ?_)
            · refine reg_f ?_
              refine rs 3 [] [] (by kernel_rfl) allP_nil ?_
              refine run_split 50 r3337.2.2.1 (.inl (by kernel_rfl)) (fun g3340 => ?_) (fun g3340 => ?_)
              · refine rs 4 [] [] (by kernel_rfl) allP_nil ?_
                refine rf [(1, .sl moves.length (fl moves)), (4, .own 0 0 c0q85.length), (5, .own 1 0 c1q85.length), (6, .ptr 2 0), (8, iS i7), (10, .ptr 3 0), (11, .ptr 4 0), (12, .ptr 5 0), (54, bS (!r3337.2.2.2.1))] [(0, .row 3 (fl c0q85)), (1, .row 3 (fl c1q85)), (2, .row 25 [iS c2_Cap18, .own 6 0 c3q19.length, bS c2_Closed18, .own 7 0 c4q19.length, .own 8 0 c5q29.length]), (3, .row 25 [iS r3337.1, .own 17 0 r3337.2.2.2.2.2.2.2.2.1.length, bS r3337.2.1, .own 18 0 r3337.2.2.2.2.2.2.2.2.2.1.length, .own 19 0 r3337.2.2.2.2.2.2.2.2.2.2.1.length]), (4, .row 34 [bS r3337.2.2.1, bS r3337.2.2.2.1, bS r3337.2.2.2.2.1, iS r3337.2.2.2.2.2.1, iS r3337.2.2.2.2.2.2.1, .own 20 0 r3337.2.2.2.2.2.2.2.2.2.2.2.length]), (5, .row 30 (Enc.cells r3337.2.2.2.2.2.2.2.1)), (6, .row 3 (fl c3q19)), (7, .row 39 (fl c4q19)), (8, .row 39 (fl c5q29)), (17, .row 3 (fl r3337.2.2.2.2.2.2.2.2.1)), (18, .row 39 (fl r3337.2.2.2.2.2.2.2.2.2.1)), (19, .row 39 (fl r3337.2.2.2.2.2.2.2.2.2.2.1)), (20, .row 64 (fl r3337.2.2.2.2.2.2.2.2.2.2.2))] 29 (by kernel_rfl) ?_
                exact hK3339 () _ _ _ trivial (leSt_m [(0, 0), (1, 1), (2, 2), (3, 3), (4, 4), (5, 5), (6, 6), (7, 7), (8, 8), (17, 17), (18, 18), (19, 19), (20, 20)] [] (by (try simp only [g3340]) <;> simp only [push_cast, seval]) (by (try simp only [g3340]) <;> simp only [push_cast, seval]) rfl rfl rfl)
              · refine rs 4 [] [] (by kernel_rfl) allP_nil ?_
                refine rf [(1, .sl moves.length (fl moves)), (4, .own 0 0 c0q85.length), (5, .own 1 0 c1q85.length), (6, .ptr 2 0), (8, iS i7), (10, .ptr 3 0), (11, .ptr 4 0), (12, .ptr 5 0), (54, bS false)] [(0, .row 3 (fl c0q85)), (1, .row 3 (fl c1q85)), (2, .row 25 [iS c2_Cap18, .own 6 0 c3q19.length, bS c2_Closed18, .own 7 0 c4q19.length, .own 8 0 c5q29.length]), (3, .row 25 [iS r3337.1, .own 17 0 r3337.2.2.2.2.2.2.2.2.1.length, bS r3337.2.1, .own 18 0 r3337.2.2.2.2.2.2.2.2.2.1.length, .own 19 0 r3337.2.2.2.2.2.2.2.2.2.2.1.length]), (4, .row 34 [bS r3337.2.2.1, bS r3337.2.2.2.1, bS r3337.2.2.2.2.1, iS r3337.2.2.2.2.2.1, iS r3337.2.2.2.2.2.2.1, .own 20 0 r3337.2.2.2.2.2.2.2.2.2.2.2.length]), (5, .row 30 (Enc.cells r3337.2.2.2.2.2.2.2.1)), (6, .row 3 (fl c3q19)), (7, .row 39 (fl c4q19)), (8, .row 39 (fl c5q29)), (17, .row 3 (fl r3337.2.2.2.2.2.2.2.2.1)), (18, .row 39 (fl r3337.2.2.2.2.2.2.2.2.2.1)), (19, .row 39 (fl r3337.2.2.2.2.2.2.2.2.2.2.1)), (20, .row 64 (fl r3337.2.2.2.2.2.2.2.2.2.2.2))] 29 (by kernel_rfl) ?_
                exact hK3339 () _ _ _ trivial (leSt_m [(0, 0), (1, 1), (2, 2), (3, 3), (4, 4), (5, 5), (6, 6), (7, 7), (8, 8), (17, 17), (18, 18), (19, 19), (20, 20)] [] (by (try simp only [g3340]) <;> simp only [push_cast, seval]) (by (try simp only [g3340]) <;> simp only [push_cast, seval]) rfl rfl rfl)
            · dsimp only
              refine cond_sx h (by kernel_rfl) (fun g3345 h => ?_) (fun g3345 h => ?_)
              · refine chk_sx h (fun g3344 h => ?_)
                refine reg_f ?_
                have k3343 : (c0q85 ++ ([i7] : List Int)).length * 8 ≤ 140737488355328 := by first | simpa only [Bool.and_eq_true, decide_eq_true_eq, bne_iff_ne, ne_eq] using g3344 | (simp at g3344 ⊢; omega)
                refine rs 5 [none, none, none, some ⟨.own 30 0 (c0q85 ++ ([i7] : List Int)).length, [(30, .row 3 (fl (c0q85 ++ ([i7] : List Int)))), (0, .dead)], 31, [0, 29]⟩] _ (by kernel_rfl) (allP_cons (ob_app (P := Try.prog) c0q85 ([i7] : List Int) 1 8 rfl (appCells (fl ([i7] : List Int)) 0 (([i7] : List Int).length * 1)) ([i7] : List Int).length (app_own ([i7] : List Int) 1 rfl) rfl (0 + ([i7] : List Int).length * 1 ≤ (fl ([i7] : List Int)).length) (app_own_le ([i7] : List Int) 1 rfl) 3 (by kernel_rfl) (by decide) k3343 0 30 [29]) allP_nil) ?_
                refine rf [(1, .sl moves.length (fl moves)), (4, .own 30 0 (c0q85 ++ ([i7] : List Int)).length), (5, .own 1 0 c1q85.length), (6, .ptr 2 0), (8, iS i7), (10, .ptr 3 0), (11, .ptr 4 0), (12, .ptr 5 0)] [(0, .dead), (1, .row 3 (fl c1q85)), (2, .row 25 [iS c2_Cap18, .own 6 0 c3q19.length, bS c2_Closed18, .own 7 0 c4q19.length, .own 8 0 c5q29.length]), (3, .row 25 [iS r3337.1, .own 17 0 r3337.2.2.2.2.2.2.2.2.1.length, bS r3337.2.1, .own 18 0 r3337.2.2.2.2.2.2.2.2.2.1.length, .own 19 0 r3337.2.2.2.2.2.2.2.2.2.2.1.length]), (4, .row 34 [bS r3337.2.2.1, bS r3337.2.2.2.1, bS r3337.2.2.2.2.1, iS r3337.2.2.2.2.2.1, iS r3337.2.2.2.2.2.2.1, .own 20 0 r3337.2.2.2.2.2.2.2.2.2.2.2.length]), (5, .row 30 (Enc.cells r3337.2.2.2.2.2.2.2.1)), (6, .row 3 (fl c3q19)), (7, .row 39 (fl c4q19)), (8, .row 39 (fl c5q29)), (17, .row 3 (fl r3337.2.2.2.2.2.2.2.2.1)), (18, .row 39 (fl r3337.2.2.2.2.2.2.2.2.2.1)), (19, .row 39 (fl r3337.2.2.2.2.2.2.2.2.2.2.1)), (20, .row 64 (fl r3337.2.2.2.2.2.2.2.2.2.2.2)), (29, .row 3 (fl ([i7] : List Int))), (30, .row 3 (fl (c0q85 ++ ([i7] : List Int))))] 31 (by kernel_rfl) ?_
                exact hK3327 ((c0q85 ++ ([i7] : List Int)), c1q85, r3337.1, r3337.2.1, r3337.2.2.1, r3337.2.2.2.1, r3337.2.2.2.2.1, r3337.2.2.2.2.2.1, r3337.2.2.2.2.2.2.1, r3337.2.2.2.2.2.2.2.1, r3337.2.2.2.2.2.2.2.2.1, r3337.2.2.2.2.2.2.2.2.2.1, r3337.2.2.2.2.2.2.2.2.2.2.1, r3337.2.2.2.2.2.2.2.2.2.2.2) _ _ _ h (leSt_m [(0, 30), (1, 1), (2, 2), (3, 3), (4, 4), (5, 5), (6, 6), (7, 7), (8, 8), (9, 17), (10, 18), (11, 19), (12, 20)] [] (by simp only [push_cast, seval]) (by simp only [push_cast, seval]) rfl rfl rfl)
              · exact hK3327 (c0q85, c1q85, r3337.1, r3337.2.1, r3337.2.2.1, r3337.2.2.2.1, r3337.2.2.2.2.1, r3337.2.2.2.2.2.1, r3337.2.2.2.2.2.2.1, r3337.2.2.2.2.2.2.2.1, r3337.2.2.2.2.2.2.2.2.1, r3337.2.2.2.2.2.2.2.2.2.1, r3337.2.2.2.2.2.2.2.2.2.2.1, r3337.2.2.2.2.2.2.2.2.2.2.2) _ _ _ h (leSt_m [(0, 0), (1, 1), (2, 2), (3, 3), (4, 4), (5, 5), (6, 6), (7, 7), (8, 8), (9, 17), (10, 18), (11, 19), (12, 20)] [] (by simp only [push_cast, seval]) (by simp only [push_cast, seval]) rfl rfl rfl)
          · refine seq_cut (A := Bool) (fun a => ([(1, .sl moves.length (fl moves)), (4, .own 0 0 c0q85.length), (5, .own 1 0 c1q85.length), (6, .ptr 2 0), (8, iS i7), (9, iS (IntKind.i64.wrap (i7 + 1))), (10, .ptr 3 0), (11, .ptr 4 0), (12, .ptr 5 0), (31, iS (ix moves i7)), (59, bS a)], [(0, .row 3 (fl c0q85)), (1, .row 3 (fl c1q85)), (2, .row 25 [iS c2_Cap18, .own 6 0 c3q19.length, bS c2_Closed18, .own 7 0 c4q19.length, .own 8 0 c5q29.length]), (3, .row 25 [iS c2_Cap18, .own 6 0 c3q19.length, bS c2_Closed18, .own 7 0 c4q19.length, .own 8 0 c5q29.length]), (4, .row 34 [bS false, bS false, bS false, iS 0, iS 0, .v (.slice none 0 0)]), (5, .row 30 [iS 0, iS 0]), (6, .row 3 (fl c3q19)), (7, .row 39 (fl c4q19)), (8, .row 39 (fl c5q29))], 9)) (fun a => (taskmilllaw_played_j5 moves i7 c0q85 c1q85 c2_Cap18 c2_Closed18 c3q19 c4q19 c5q29 a) = some o3) (fun K3348 hK3348 => ?_) ?_
            · refine seq_np ?_
              refine reg_f ?_
              refine rs 2 [] [] (by kernel_rfl) allP_nil ?_
              refine rf [(1, .sl moves.length (fl moves)), (4, .own 0 0 c0q85.length), (5, .own 1 0 c1q85.length), (6, .ptr 2 0), (8, iS i7), (9, iS (IntKind.i64.wrap (i7 + 1))), (10, .ptr 3 0), (11, .ptr 4 0), (12, .ptr 5 0), (31, iS (ix moves i7)), (59, bS ((ix moves i7) == 2))] [(0, .row 3 (fl c0q85)), (1, .row 3 (fl c1q85)), (2, .row 25 [iS c2_Cap18, .own 6 0 c3q19.length, bS c2_Closed18, .own 7 0 c4q19.length, .own 8 0 c5q29.length]), (3, .row 25 [iS c2_Cap18, .own 6 0 c3q19.length, bS c2_Closed18, .own 7 0 c4q19.length, .own 8 0 c5q29.length]), (4, .row 34 [bS false, bS false, bS false, iS 0, iS 0, .v (.slice none 0 0)]), (5, .row 30 [iS 0, iS 0]), (6, .row 3 (fl c3q19)), (7, .row 39 (fl c4q19)), (8, .row 39 (fl c5q29))] 9 (by kernel_rfl) ?_
              refine wk_id ?_
              refine cond_sx h (by kernel_rfl) (fun g3349 h => ?_) (fun g3349 h => ?_)
              · exact hK3348 (((ix moves i7) == 2)) _ _ _ h (leSt_m [(0, 0), (1, 1), (2, 2), (3, 3), (4, 4), (5, 5), (6, 6), (7, 7), (8, 8)] [] (by simp only [push_cast, seval]) (by simp only [push_cast, seval]) rfl rfl rfl)
              · refine reg_f ?_
                refine rs 2 [] [] (by kernel_rfl) allP_nil ?_
                refine rf [(1, .sl moves.length (fl moves)), (4, .own 0 0 c0q85.length), (5, .own 1 0 c1q85.length), (6, .ptr 2 0), (8, iS i7), (9, iS (IntKind.i64.wrap (i7 + 1))), (10, .ptr 3 0), (11, .ptr 4 0), (12, .ptr 5 0), (31, iS (ix moves i7)), (59, bS ((ix moves i7) == 3))] [(0, .row 3 (fl c0q85)), (1, .row 3 (fl c1q85)), (2, .row 25 [iS c2_Cap18, .own 6 0 c3q19.length, bS c2_Closed18, .own 7 0 c4q19.length, .own 8 0 c5q29.length]), (3, .row 25 [iS c2_Cap18, .own 6 0 c3q19.length, bS c2_Closed18, .own 7 0 c4q19.length, .own 8 0 c5q29.length]), (4, .row 34 [bS false, bS false, bS false, iS 0, iS 0, .v (.slice none 0 0)]), (5, .row 30 [iS 0, iS 0]), (6, .row 3 (fl c3q19)), (7, .row 39 (fl c4q19)), (8, .row 39 (fl c5q29))] 9 (by kernel_rfl) ?_
                exact hK3348 (((ix moves i7) == 3)) _ _ _ h (leSt_m [(0, 0), (1, 1), (2, 2), (3, 3), (4, 4), (5, 5), (6, 6), (7, 7), (8, 8)] [] (by simp only [push_cast, seval]) (by simp only [push_cast, seval]) rfl rfl rfl)
            · rintro t59q15 h
              try dsimp only at h ⊢
              unfold taskmilllaw_played_j5 at h
              refine cond_sx h (by kernel_rfl) (fun g3367 h => ?_) (fun g3367 h => ?_)
              · refine chk_sx h (fun g3354 h => ?_)
                refine seq_np ?_
                refine reg_t ?_
                have k3353 : 0 ≤ i7 ∧ i7 < ((moves.length : Nat) : Int) := by first | simpa only [Bool.and_eq_true, decide_eq_true_eq, bne_iff_ne, ne_eq] using g3354 | (simp at g3354 ⊢; omega)
                refine rs 7 [none, none, none, none, some ⟨.iptr (fl moves) ((i7).toNat * 1), [], 13, []⟩, some ⟨iS (ix moves i7), [], 14, []⟩] _ (by kernel_rfl) (allP_cons (ob_ld moves i7 1 0 ((i7).toNat * 1) k3353 rfl (by decide) (by first | rfl | omega) (dflS Try.prog 3) (iS (ix moves i7)) rfl 14 []) (allP_cons (ob_ix_l moves 1 13 i7 k3353) allP_nil)) ?_
                obtain ⟨r3355, hr3355, h⟩ := bind_sx h
                refine call_x (pipe_Get_spec (Pipe.mk c2_Cap18 c3q19 c2_Closed18 c4q19 c5q29) (IntKind.i64.wrap (i7 + 1)) ((ix moves i7) == 3) r3355 hr3355) (args := [.agg [iS c2_Cap18, .own 6 0 c3q19.length, bS c2_Closed18, .own 7 0 c4q19.length, .own 8 0 c5q29.length], iS (IntKind.i64.wrap (i7 + 1)), bS ((ix moves i7) == 3)]) (dst := (some 70)) (by kernel_rfl) [(0, .row 3 (fl c0q85)), (1, .row 3 (fl c1q85)), (2, .row 25 [iS c2_Cap18, .own 6 0 c3q19.length, bS c2_Closed18, .own 7 0 c4q19.length, .own 8 0 c5q29.length]), (3, .row 25 [iS c2_Cap18, .own 6 0 c3q19.length, bS c2_Closed18, .own 7 0 c4q19.length, .own 8 0 c5q29.length]), (4, .row 34 [bS false, bS false, bS false, iS 0, iS 0, .v (.slice none 0 0)]), (5, .row 30 [iS 0, iS 0]), (6, .row 3 (fl c3q19)), (7, .row 39 (fl c4q19)), (8, .row 39 (fl c5q29))] 16 (by kernel_rfl) [] [6, 7, 8] (.tup [.agg [iS r3355.1, .own 16 0 r3355.2.2.2.2.2.2.2.2.1.length, bS r3355.2.1, .own 17 0 r3355.2.2.2.2.2.2.2.2.2.1.length, .own 18 0 r3355.2.2.2.2.2.2.2.2.2.2.1.length], .agg [bS r3355.2.2.1, bS r3355.2.2.2.1, bS r3355.2.2.2.2.1, iS r3355.2.2.2.2.2.1, iS r3355.2.2.2.2.2.2.1, .own 19 0 r3355.2.2.2.2.2.2.2.2.2.2.2.length], .agg (Enc.cells r3355.2.2.2.2.2.2.2.1)]) [(16, .row 3 (fl r3355.2.2.2.2.2.2.2.2.1)), (17, .row 39 (fl r3355.2.2.2.2.2.2.2.2.2.1)), (18, .row 39 (fl r3355.2.2.2.2.2.2.2.2.2.2.1)), (19, .row 64 (fl r3355.2.2.2.2.2.2.2.2.2.2.2))] (by simp only [push_cast, seval]) (by simp only [push_cast, seval]) (by kernel_rfl) (.inr ⟨by simp only [push_cast, seval], by simp only [push_cast, seval]⟩) (by simp only [push_cast, seval]) (by simp only [push_cast, seval]) ?_
                refine rs 7 [] [] (by kernel_rfl) allP_nil ?_
                refine rt [(1, .sl moves.length (fl moves)), (4, .own 0 0 c0q85.length), (5, .own 1 0 c1q85.length), (6, .ptr 2 0), (8, iS i7), (10, .ptr 3 0), (11, .ptr 4 0), (12, .ptr 5 0)] [(0, .row 3 (fl c0q85)), (1, .row 3 (fl c1q85)), (2, .row 25 [iS c2_Cap18, .own 6 0 c3q19.length, bS c2_Closed18, .own 7 0 c4q19.length, .own 8 0 c5q29.length]), (3, .row 25 [iS r3355.1, .own 16 0 r3355.2.2.2.2.2.2.2.2.1.length, bS r3355.2.1, .own 17 0 r3355.2.2.2.2.2.2.2.2.2.1.length, .own 18 0 r3355.2.2.2.2.2.2.2.2.2.2.1.length]), (4, .row 34 [bS r3355.2.2.1, bS r3355.2.2.2.1, bS r3355.2.2.2.2.1, iS r3355.2.2.2.2.2.1, iS r3355.2.2.2.2.2.2.1, .own 19 0 r3355.2.2.2.2.2.2.2.2.2.2.2.length]), (5, .row 30 (Enc.cells r3355.2.2.2.2.2.2.2.1)), (6, .row 3 (fl c3q19)), (7, .row 39 (fl c4q19)), (8, .row 39 (fl c5q29)), (16, .row 3 (fl r3355.2.2.2.2.2.2.2.2.1)), (17, .row 39 (fl r3355.2.2.2.2.2.2.2.2.2.1)), (18, .row 39 (fl r3355.2.2.2.2.2.2.2.2.2.2.1)), (19, .row 64 (fl r3355.2.2.2.2.2.2.2.2.2.2.2))] 28 follows (by kernel_rfl) ?_
                refine wk_id ?_
                refine seq_cut (A := Unit) (fun _ => ([(1, .sl moves.length (fl moves)), (4, .own 0 0 c0q85.length), (5, .own 1 0 c1q85.length), (6, .ptr 2 0), (8, iS i7), (10, .ptr 3 0), (11, .ptr 4 0), (12, .ptr 5 0), (79, bS (r3355.2.2.1 && r3355.2.2.2.2.1))], [(0, .row 3 (fl c0q85)), (1, .row 3 (fl c1q85)), (2, .row 25 [iS c2_Cap18, .own 6 0 c3q19.length, bS c2_Closed18, .own 7 0 c4q19.length, .own 8 0 c5q29.length]), (3, .row 25 [iS r3355.1, .own 16 0 r3355.2.2.2.2.2.2.2.2.1.length, bS r3355.2.1, .own 17 0 r3355.2.2.2.2.2.2.2.2.2.1.length, .own 18 0 r3355.2.2.2.2.2.2.2.2.2.2.1.length]), (4, .row 34 [bS r3355.2.2.1, bS r3355.2.2.2.1, bS r3355.2.2.2.2.1, iS r3355.2.2.2.2.2.1, iS r3355.2.2.2.2.2.2.1, .own 19 0 r3355.2.2.2.2.2.2.2.2.2.2.2.length]), (5, .row 30 (Enc.cells r3355.2.2.2.2.2.2.2.1)), (6, .row 3 (fl c3q19)), (7, .row 39 (fl c4q19)), (8, .row 39 (fl c5q29)), (16, .row 3 (fl r3355.2.2.2.2.2.2.2.2.1)), (17, .row 39 (fl r3355.2.2.2.2.2.2.2.2.2.1)), (18, .row 39 (fl r3355.2.2.2.2.2.2.2.2.2.2.1)), (19, .row 64 (fl r3355.2.2.2.2.2.2.2.2.2.2.2))], 28)) (fun _ => True) (fun K3357 hK3357 => ?_) (fun _ _ => ?_)
                · refine reg_f ?_
                  refine rs 3 [] [] (by kernel_rfl) allP_nil ?_
                  refine run_split 76 r3355.2.2.1 (.inl (by kernel_rfl)) (fun g3358 => ?_) (fun g3358 => ?_)
                  · refine rs 3 [] [] (by kernel_rfl) allP_nil ?_
                    refine rf [(1, .sl moves.length (fl moves)), (4, .own 0 0 c0q85.length), (5, .own 1 0 c1q85.length), (6, .ptr 2 0), (8, iS i7), (10, .ptr 3 0), (11, .ptr 4 0), (12, .ptr 5 0), (79, bS r3355.2.2.2.2.1)] [(0, .row 3 (fl c0q85)), (1, .row 3 (fl c1q85)), (2, .row 25 [iS c2_Cap18, .own 6 0 c3q19.length, bS c2_Closed18, .own 7 0 c4q19.length, .own 8 0 c5q29.length]), (3, .row 25 [iS r3355.1, .own 16 0 r3355.2.2.2.2.2.2.2.2.1.length, bS r3355.2.1, .own 17 0 r3355.2.2.2.2.2.2.2.2.2.1.length, .own 18 0 r3355.2.2.2.2.2.2.2.2.2.2.1.length]), (4, .row 34 [bS r3355.2.2.1, bS r3355.2.2.2.1, bS r3355.2.2.2.2.1, iS r3355.2.2.2.2.2.1, iS r3355.2.2.2.2.2.2.1, .own 19 0 r3355.2.2.2.2.2.2.2.2.2.2.2.length]), (5, .row 30 (Enc.cells r3355.2.2.2.2.2.2.2.1)), (6, .row 3 (fl c3q19)), (7, .row 39 (fl c4q19)), (8, .row 39 (fl c5q29)), (16, .row 3 (fl r3355.2.2.2.2.2.2.2.2.1)), (17, .row 39 (fl r3355.2.2.2.2.2.2.2.2.2.1)), (18, .row 39 (fl r3355.2.2.2.2.2.2.2.2.2.2.1)), (19, .row 64 (fl r3355.2.2.2.2.2.2.2.2.2.2.2))] 28 (by kernel_rfl) ?_
                    exact hK3357 () _ _ _ trivial (leSt_m [(0, 0), (1, 1), (2, 2), (3, 3), (4, 4), (5, 5), (6, 6), (7, 7), (8, 8), (16, 16), (17, 17), (18, 18), (19, 19)] [] (by (try simp only [g3358]) <;> simp only [push_cast, seval]) (by (try simp only [g3358]) <;> simp only [push_cast, seval]) rfl rfl rfl)
                  · refine rs 3 [] [] (by kernel_rfl) allP_nil ?_
                    refine rf [(1, .sl moves.length (fl moves)), (4, .own 0 0 c0q85.length), (5, .own 1 0 c1q85.length), (6, .ptr 2 0), (8, iS i7), (10, .ptr 3 0), (11, .ptr 4 0), (12, .ptr 5 0), (79, bS false)] [(0, .row 3 (fl c0q85)), (1, .row 3 (fl c1q85)), (2, .row 25 [iS c2_Cap18, .own 6 0 c3q19.length, bS c2_Closed18, .own 7 0 c4q19.length, .own 8 0 c5q29.length]), (3, .row 25 [iS r3355.1, .own 16 0 r3355.2.2.2.2.2.2.2.2.1.length, bS r3355.2.1, .own 17 0 r3355.2.2.2.2.2.2.2.2.2.1.length, .own 18 0 r3355.2.2.2.2.2.2.2.2.2.2.1.length]), (4, .row 34 [bS r3355.2.2.1, bS r3355.2.2.2.1, bS r3355.2.2.2.2.1, iS r3355.2.2.2.2.2.1, iS r3355.2.2.2.2.2.2.1, .own 19 0 r3355.2.2.2.2.2.2.2.2.2.2.2.length]), (5, .row 30 (Enc.cells r3355.2.2.2.2.2.2.2.1)), (6, .row 3 (fl c3q19)), (7, .row 39 (fl c4q19)), (8, .row 39 (fl c5q29)), (16, .row 3 (fl r3355.2.2.2.2.2.2.2.2.1)), (17, .row 39 (fl r3355.2.2.2.2.2.2.2.2.2.1)), (18, .row 39 (fl r3355.2.2.2.2.2.2.2.2.2.2.1)), (19, .row 64 (fl r3355.2.2.2.2.2.2.2.2.2.2.2))] 28 (by kernel_rfl) ?_
                    exact hK3357 () _ _ _ trivial (leSt_m [(0, 0), (1, 1), (2, 2), (3, 3), (4, 4), (5, 5), (6, 6), (7, 7), (8, 8), (16, 16), (17, 17), (18, 18), (19, 19)] [] (by (try simp only [g3358]) <;> simp only [push_cast, seval]) (by (try simp only [g3358]) <;> simp only [push_cast, seval]) rfl rfl rfl)
                · dsimp only
                  refine cond_sx h (by kernel_rfl) (fun g3363 h => ?_) (fun g3363 h => ?_)
                  · refine chk_sx h (fun g3362 h => ?_)
                    refine reg_f ?_
                    have k3361 : (c1q85 ++ ([r3355.2.2.2.2.2.1] : List Int)).length * 8 ≤ 140737488355328 := by first | simpa only [Bool.and_eq_true, decide_eq_true_eq, bne_iff_ne, ne_eq] using g3362 | (simp at g3362 ⊢; omega)
                    refine rs 6 [none, none, none, none, some ⟨.own 29 0 (c1q85 ++ ([r3355.2.2.2.2.2.1] : List Int)).length, [(29, .row 3 (fl (c1q85 ++ ([r3355.2.2.2.2.2.1] : List Int)))), (1, .dead)], 30, [1, 28]⟩] _ (by kernel_rfl) (allP_cons (ob_app (P := Try.prog) c1q85 ([r3355.2.2.2.2.2.1] : List Int) 1 8 rfl (appCells (fl ([r3355.2.2.2.2.2.1] : List Int)) 0 (([r3355.2.2.2.2.2.1] : List Int).length * 1)) ([r3355.2.2.2.2.2.1] : List Int).length (app_own ([r3355.2.2.2.2.2.1] : List Int) 1 rfl) rfl (0 + ([r3355.2.2.2.2.2.1] : List Int).length * 1 ≤ (fl ([r3355.2.2.2.2.2.1] : List Int)).length) (app_own_le ([r3355.2.2.2.2.2.1] : List Int) 1 rfl) 3 (by kernel_rfl) (by decide) k3361 1 29 [28]) allP_nil) ?_
                    refine rf [(1, .sl moves.length (fl moves)), (4, .own 0 0 c0q85.length), (5, .own 29 0 (c1q85 ++ ([r3355.2.2.2.2.2.1] : List Int)).length), (6, .ptr 2 0), (8, iS i7), (10, .ptr 3 0), (11, .ptr 4 0), (12, .ptr 5 0)] [(0, .row 3 (fl c0q85)), (1, .dead), (2, .row 25 [iS c2_Cap18, .own 6 0 c3q19.length, bS c2_Closed18, .own 7 0 c4q19.length, .own 8 0 c5q29.length]), (3, .row 25 [iS r3355.1, .own 16 0 r3355.2.2.2.2.2.2.2.2.1.length, bS r3355.2.1, .own 17 0 r3355.2.2.2.2.2.2.2.2.2.1.length, .own 18 0 r3355.2.2.2.2.2.2.2.2.2.2.1.length]), (4, .row 34 [bS r3355.2.2.1, bS r3355.2.2.2.1, bS r3355.2.2.2.2.1, iS r3355.2.2.2.2.2.1, iS r3355.2.2.2.2.2.2.1, .own 19 0 r3355.2.2.2.2.2.2.2.2.2.2.2.length]), (5, .row 30 (Enc.cells r3355.2.2.2.2.2.2.2.1)), (6, .row 3 (fl c3q19)), (7, .row 39 (fl c4q19)), (8, .row 39 (fl c5q29)), (16, .row 3 (fl r3355.2.2.2.2.2.2.2.2.1)), (17, .row 39 (fl r3355.2.2.2.2.2.2.2.2.2.1)), (18, .row 39 (fl r3355.2.2.2.2.2.2.2.2.2.2.1)), (19, .row 64 (fl r3355.2.2.2.2.2.2.2.2.2.2.2)), (28, .row 3 (fl ([r3355.2.2.2.2.2.1] : List Int))), (29, .row 3 (fl (c1q85 ++ ([r3355.2.2.2.2.2.1] : List Int))))] 30 (by kernel_rfl) ?_
                    exact hK3327 (c0q85, (c1q85 ++ ([r3355.2.2.2.2.2.1] : List Int)), r3355.1, r3355.2.1, r3355.2.2.1, r3355.2.2.2.1, r3355.2.2.2.2.1, r3355.2.2.2.2.2.1, r3355.2.2.2.2.2.2.1, r3355.2.2.2.2.2.2.2.1, r3355.2.2.2.2.2.2.2.2.1, r3355.2.2.2.2.2.2.2.2.2.1, r3355.2.2.2.2.2.2.2.2.2.2.1, r3355.2.2.2.2.2.2.2.2.2.2.2) _ _ _ h (leSt_m [(0, 0), (1, 29), (2, 2), (3, 3), (4, 4), (5, 5), (6, 6), (7, 7), (8, 8), (9, 16), (10, 17), (11, 18), (12, 19)] [] (by simp only [push_cast, seval]) (by simp only [push_cast, seval]) rfl rfl rfl)
                  · exact hK3327 (c0q85, c1q85, r3355.1, r3355.2.1, r3355.2.2.1, r3355.2.2.2.1, r3355.2.2.2.2.1, r3355.2.2.2.2.2.1, r3355.2.2.2.2.2.2.1, r3355.2.2.2.2.2.2.2.1, r3355.2.2.2.2.2.2.2.2.1, r3355.2.2.2.2.2.2.2.2.2.1, r3355.2.2.2.2.2.2.2.2.2.2.1, r3355.2.2.2.2.2.2.2.2.2.2.2) _ _ _ h (leSt_m [(0, 0), (1, 1), (2, 2), (3, 3), (4, 4), (5, 5), (6, 6), (7, 7), (8, 8), (9, 16), (10, 17), (11, 18), (12, 19)] [] (by simp only [push_cast, seval]) (by simp only [push_cast, seval]) rfl rfl rfl)
              · refine seq_np ?_
                refine reg_f ?_
                refine rs 2 [] [] (by kernel_rfl) allP_nil ?_
                refine rf [(1, .sl moves.length (fl moves)), (4, .own 0 0 c0q85.length), (5, .own 1 0 c1q85.length), (6, .ptr 2 0), (8, iS i7), (10, .ptr 3 0), (11, .ptr 4 0), (12, .ptr 5 0), (85, bS ((ix moves i7) == 4))] [(0, .row 3 (fl c0q85)), (1, .row 3 (fl c1q85)), (2, .row 25 [iS c2_Cap18, .own 6 0 c3q19.length, bS c2_Closed18, .own 7 0 c4q19.length, .own 8 0 c5q29.length]), (3, .row 25 [iS c2_Cap18, .own 6 0 c3q19.length, bS c2_Closed18, .own 7 0 c4q19.length, .own 8 0 c5q29.length]), (4, .row 34 [bS false, bS false, bS false, iS 0, iS 0, .v (.slice none 0 0)]), (5, .row 30 [iS 0, iS 0]), (6, .row 3 (fl c3q19)), (7, .row 39 (fl c4q19)), (8, .row 39 (fl c5q29))] 9 (by kernel_rfl) ?_
                refine wk_id ?_
                refine cond_sx h (by kernel_rfl) (fun g3366 h => ?_) (fun g3366 h => ?_)
                · refine reg_f ?_
                  refine rs 1 [] [] (by kernel_rfl) allP_nil ?_
                  obtain ⟨r3365, hr3365, h⟩ := bind_sx h
                  refine call_x (pipe_Shut_spec (Pipe.mk c2_Cap18 c3q19 c2_Closed18 c4q19 c5q29) r3365 hr3365) (args := [.agg [iS c2_Cap18, .own 6 0 c3q19.length, bS c2_Closed18, .own 7 0 c4q19.length, .own 8 0 c5q29.length]]) (dst := (some 89)) (by kernel_rfl) [(0, .row 3 (fl c0q85)), (1, .row 3 (fl c1q85)), (2, .row 25 [iS c2_Cap18, .own 6 0 c3q19.length, bS c2_Closed18, .own 7 0 c4q19.length, .own 8 0 c5q29.length]), (3, .row 25 [iS c2_Cap18, .own 6 0 c3q19.length, bS c2_Closed18, .own 7 0 c4q19.length, .own 8 0 c5q29.length]), (4, .row 34 [bS false, bS false, bS false, iS 0, iS 0, .v (.slice none 0 0)]), (5, .row 30 [iS 0, iS 0]), (6, .row 3 (fl c3q19)), (7, .row 39 (fl c4q19)), (8, .row 39 (fl c5q29))] 9 (by kernel_rfl) [] [6, 7, 8] (.tup [.agg [iS r3365.1, .own 9 0 r3365.2.2.2.2.2.2.2.2.1.length, bS r3365.2.1, .own 10 0 r3365.2.2.2.2.2.2.2.2.2.1.length, .own 11 0 r3365.2.2.2.2.2.2.2.2.2.2.1.length], .agg [bS r3365.2.2.1, bS r3365.2.2.2.1, bS r3365.2.2.2.2.1, iS r3365.2.2.2.2.2.1, iS r3365.2.2.2.2.2.2.1, .own 12 0 r3365.2.2.2.2.2.2.2.2.2.2.2.length], .agg (Enc.cells r3365.2.2.2.2.2.2.2.1)]) [(9, .row 3 (fl r3365.2.2.2.2.2.2.2.2.1)), (10, .row 39 (fl r3365.2.2.2.2.2.2.2.2.2.1)), (11, .row 39 (fl r3365.2.2.2.2.2.2.2.2.2.2.1)), (12, .row 64 (fl r3365.2.2.2.2.2.2.2.2.2.2.2))] (by simp only [push_cast, seval]) (by simp only [push_cast, seval]) (by kernel_rfl) (.inr ⟨by simp only [push_cast, seval], by simp only [push_cast, seval]⟩) (by simp only [push_cast, seval]) (by simp only [push_cast, seval]) ?_
                  refine rs 7 [] [] (by kernel_rfl) allP_nil ?_
                  refine rf [(1, .sl moves.length (fl moves)), (4, .own 0 0 c0q85.length), (5, .own 1 0 c1q85.length), (6, .ptr 2 0), (8, iS i7), (10, .ptr 3 0), (11, .ptr 4 0), (12, .ptr 5 0)] [(0, .row 3 (fl c0q85)), (1, .row 3 (fl c1q85)), (2, .row 25 [iS c2_Cap18, .own 6 0 c3q19.length, bS c2_Closed18, .own 7 0 c4q19.length, .own 8 0 c5q29.length]), (3, .row 25 [iS r3365.1, .own 9 0 r3365.2.2.2.2.2.2.2.2.1.length, bS r3365.2.1, .own 10 0 r3365.2.2.2.2.2.2.2.2.2.1.length, .own 11 0 r3365.2.2.2.2.2.2.2.2.2.2.1.length]), (4, .row 34 [bS r3365.2.2.1, bS r3365.2.2.2.1, bS r3365.2.2.2.2.1, iS r3365.2.2.2.2.2.1, iS r3365.2.2.2.2.2.2.1, .own 12 0 r3365.2.2.2.2.2.2.2.2.2.2.2.length]), (5, .row 30 (Enc.cells r3365.2.2.2.2.2.2.2.1)), (6, .row 3 (fl c3q19)), (7, .row 39 (fl c4q19)), (8, .row 39 (fl c5q29)), (9, .row 3 (fl r3365.2.2.2.2.2.2.2.2.1)), (10, .row 39 (fl r3365.2.2.2.2.2.2.2.2.2.1)), (11, .row 39 (fl r3365.2.2.2.2.2.2.2.2.2.2.1)), (12, .row 64 (fl r3365.2.2.2.2.2.2.2.2.2.2.2))] 13 (by kernel_rfl) ?_
                  exact hK3327 (c0q85, c1q85, r3365.1, r3365.2.1, r3365.2.2.1, r3365.2.2.2.1, r3365.2.2.2.2.1, r3365.2.2.2.2.2.1, r3365.2.2.2.2.2.2.1, r3365.2.2.2.2.2.2.2.1, r3365.2.2.2.2.2.2.2.2.1, r3365.2.2.2.2.2.2.2.2.2.1, r3365.2.2.2.2.2.2.2.2.2.2.1, r3365.2.2.2.2.2.2.2.2.2.2.2) _ _ _ h (leSt_m [(0, 0), (1, 1), (2, 2), (3, 3), (4, 4), (5, 5), (6, 6), (7, 7), (8, 8), (9, 9), (10, 10), (11, 11), (12, 12)] [] (by simp only [push_cast, seval]) (by simp only [push_cast, seval]) rfl rfl rfl)
                · exact hK3269 (c0q85, c1q85, c2_Cap18, c2_Closed18, c3q19, c4q19, c5q29) _ _ _ h (leSt_m [(0, 0), (1, 1), (2, 2), (3, 6), (4, 7), (5, 8)] [] (by simp only [push_cast, seval]) (by simp only [push_cast, seval]) rfl rfl rfl)
      · rintro ⟨c0q101, c1q101, c3_Cap14, c3_Closed14, c4_Done14, c4_Panic14, c4_Ok14, c4_Value14, c4_Case14, c5q35, c9q14, c10q10, c11q10, c12q10⟩ h
        try dsimp only at h ⊢
        unfold taskmilllaw_played_j4 at h
        refine wk_id ?_
        refine seq_np ?_
        refine seq_cut (A := Bool) (fun a => ([(1, .sl moves.length (fl moves)), (4, .own 0 0 c0q101.length), (5, .own 1 0 c1q101.length), (6, .ptr 2 0), (8, iS i7), (10, .ptr 3 0), (11, .ptr 4 0), (101, bS a)], [(0, .row 3 (fl c0q101)), (1, .row 3 (fl c1q101)), (2, .row 25 [iS c2_Cap18, .own 5 0 c3q19.length, bS c2_Closed18, .own 6 0 c4q19.length, .own 7 0 c5q29.length]), (3, .row 25 [iS c3_Cap14, .own 8 0 c9q14.length, bS c3_Closed14, .own 9 0 c10q10.length, .own 10 0 c11q10.length]), (4, .row 34 [bS c4_Done14, bS c4_Panic14, bS c4_Ok14, iS c4_Value14, iS c4_Case14, .own 11 0 c12q10.length]), (5, .row 3 (fl c3q19)), (6, .row 39 (fl c4q19)), (7, .row 39 (fl c5q29)), (8, .row 3 (fl c9q14)), (9, .row 39 (fl c10q10)), (10, .row 39 (fl c11q10)), (11, .row 64 (fl c12q10))], 12)) (fun a => (taskmilllaw_played_j3 moves i7 c2_Cap18 c2_Closed18 c3q19 c4q19 c5q29 c0q101 c1q101 c3_Cap14 c3_Closed14 c4_Done14 c4_Panic14 c4_Ok14 c4_Value14 c4_Case14 c9q14 c10q10 c11q10 c12q10 a) = some o3) (fun K3377 hK3377 => ?_) ?_
        · refine reg_f ?_
          refine rs 4 [] [] (by kernel_rfl) allP_nil ?_
          refine run_br h 96 (.inl (by kernel_rfl)) (fun g3378 h => ?_) (fun g3378 h => ?_)
          · refine rs 5 [] [] (by kernel_rfl) allP_nil ?_
            refine rf [(1, .sl moves.length (fl moves)), (4, .own 0 0 c0q101.length), (5, .own 1 0 c1q101.length), (6, .ptr 2 0), (8, iS i7), (10, .ptr 3 0), (11, .ptr 4 0), (101, bS true)] [(0, .row 3 (fl c0q101)), (1, .row 3 (fl c1q101)), (2, .row 25 [iS c2_Cap18, .own 6 0 c3q19.length, bS c2_Closed18, .own 7 0 c4q19.length, .own 8 0 c5q29.length]), (3, .row 25 [iS c3_Cap14, .own 9 0 c9q14.length, bS c3_Closed14, .own 10 0 c10q10.length, .own 11 0 c11q10.length]), (4, .row 34 [bS c4_Done14, bS c4_Panic14, bS c4_Ok14, iS c4_Value14, iS c4_Case14, .own 12 0 c12q10.length]), (5, .row 30 (Enc.cells c5q35)), (6, .row 3 (fl c3q19)), (7, .row 39 (fl c4q19)), (8, .row 39 (fl c5q29)), (9, .row 3 (fl c9q14)), (10, .row 39 (fl c10q10)), (11, .row 39 (fl c11q10)), (12, .row 64 (fl c12q10))] 13 (by kernel_rfl) ?_
            exact hK3377 (true) _ _ _ h (leSt_m [(0, 0), (1, 1), (2, 2), (3, 3), (4, 4), (5, 6), (6, 7), (7, 8), (8, 9), (9, 10), (10, 11), (11, 12)] [] (by (try simp only [g3378]) <;> simp only [push_cast, seval]) (by (try simp only [g3378]) <;> simp only [push_cast, seval]) rfl rfl rfl)
          · refine rs 1 [] [] (by kernel_rfl) allP_nil ?_
            obtain ⟨r3379, hr3379, h⟩ := bind_sx h
            refine call_x (pipe_Check_spec (Pipe.mk c3_Cap14 c9q14 c3_Closed14 c10q10 c11q10) r3379 hr3379) (args := [.agg [iS c3_Cap14, .own 9 0 c9q14.length, bS c3_Closed14, .own 10 0 c10q10.length, .own 11 0 c11q10.length]]) (dst := (some 98)) (by kernel_rfl) [(0, .row 3 (fl c0q101)), (1, .row 3 (fl c1q101)), (2, .row 25 [iS c2_Cap18, .own 6 0 c3q19.length, bS c2_Closed18, .own 7 0 c4q19.length, .own 8 0 c5q29.length]), (3, .row 25 [iS c3_Cap14, .own 9 0 c9q14.length, bS c3_Closed14, .own 10 0 c10q10.length, .own 11 0 c11q10.length]), (4, .row 34 [bS c4_Done14, bS c4_Panic14, bS c4_Ok14, iS c4_Value14, iS c4_Case14, .own 12 0 c12q10.length]), (5, .row 30 (Enc.cells c5q35)), (6, .row 3 (fl c3q19)), (7, .row 39 (fl c4q19)), (8, .row 39 (fl c5q29)), (9, .row 3 (fl c9q14)), (10, .row 39 (fl c10q10)), (11, .row 39 (fl c11q10)), (12, .row 64 (fl c12q10))] 13 (by kernel_rfl) [] [9, 10, 11] (.agg (Enc.cells r3379)) [] (by simp only [push_cast, seval]) (by simp only [push_cast, seval]) (by kernel_rfl) (.inr ⟨by simp only [push_cast, seval], by simp only [push_cast, seval]⟩) (by simp only [push_cast, seval]) (by simp only [push_cast, seval]) ?_
            refine rs 3 [] [] (by kernel_rfl) allP_nil ?_
            refine rf [(1, .sl moves.length (fl moves)), (4, .own 0 0 c0q101.length), (5, .own 1 0 c1q101.length), (6, .ptr 2 0), (8, iS i7), (10, .ptr 3 0), (11, .ptr 4 0), (101, bS (r3379.Code != 0))] [(0, .row 3 (fl c0q101)), (1, .row 3 (fl c1q101)), (2, .row 25 [iS c2_Cap18, .own 6 0 c3q19.length, bS c2_Closed18, .own 7 0 c4q19.length, .own 8 0 c5q29.length]), (3, .row 25 [iS c3_Cap14, .own 9 0 c9q14.length, bS c3_Closed14, .own 10 0 c10q10.length, .own 11 0 c11q10.length]), (4, .row 34 [bS c4_Done14, bS c4_Panic14, bS c4_Ok14, iS c4_Value14, iS c4_Case14, .own 12 0 c12q10.length]), (5, .row 30 (Enc.cells c5q35)), (6, .row 3 (fl c3q19)), (7, .row 39 (fl c4q19)), (8, .row 39 (fl c5q29)), (9, .row 3 (fl c9q14)), (10, .row 39 (fl c10q10)), (11, .row 39 (fl c11q10)), (12, .row 64 (fl c12q10))] 13 (by kernel_rfl) ?_
            exact hK3377 ((r3379.Code != 0)) _ _ _ h (leSt_m [(0, 0), (1, 1), (2, 2), (3, 3), (4, 4), (5, 6), (6, 7), (7, 8), (8, 9), (9, 10), (10, 11), (11, 12)] [] (by (try simp only [g3378]) <;> simp only [push_cast, seval]) (by (try simp only [g3378]) <;> simp only [push_cast, seval]) rfl rfl rfl)
        · rintro t101q14 h
          try dsimp only at h ⊢
          unfold taskmilllaw_played_j3 at h
          refine cond_sx h (by kernel_rfl) (fun g3568 h => ?_) (fun g3568 h => ?_)
          · refine seq_np ?_
            refine reg_t ?_
            refine rs 5 [] [] (by kernel_rfl) allP_nil ?_
            refine rt [(4, .v (.slice none 0 0)), (5, .v (.slice none 0 0)), (6, .ptr 2 0), (7, bS false)] [(0, .row 3 (fl c0q101)), (1, .row 3 (fl c1q101)), (2, .row 25 [iS c2_Cap18, .own 5 0 c3q19.length, bS c2_Closed18, .own 6 0 c4q19.length, .own 7 0 c5q29.length]), (3, .row 25 [iS c3_Cap14, .own 8 0 c9q14.length, bS c3_Closed14, .own 9 0 c10q10.length, .own 10 0 c11q10.length]), (4, .row 34 [bS c4_Done14, bS c4_Panic14, bS c4_Ok14, iS c4_Value14, iS c4_Case14, .own 11 0 c12q10.length]), (5, .row 3 (fl c3q19)), (6, .row 39 (fl c4q19)), (7, .row 39 (fl c5q29)), (8, .row 3 (fl c9q14)), (9, .row 39 (fl c10q10)), (10, .row 39 (fl c11q10)), (11, .row 64 (fl c12q10))] 17 follows (by kernel_rfl) ?_
            refine wk_id ?_
            refine rt_cast ht3 ?_
            obtain ⟨r0, h, e0⟩ := map_sx h
            have e1 := hr3 r0 e0.symm
            subst r0
            obtain rfl := Option.some.inj h
            refine ret_at (.tup [.v (.slice none 0 0), .v (.slice none 0 0), .agg [iS c2_Cap18, .own 5 0 c3q19.length, bS c2_Closed18, .own 6 0 c4q19.length, .own 7 0 c5q29.length], bS false]) (by kernel_rfl) ?_
            exact ret_e [(2, 5), (3, 6), (4, 7)] [] (by simp only [push_cast, seval]) (by simp only [push_cast, seval]) rfl rfl rfl
          · refine wk_id ?_
            refine seq_np ?_
            refine seq_np ?_
            refine reg_f ?_
            refine rs 1 [] [] (by kernel_rfl) allP_nil ?_
            refine rf [(1, .sl moves.length (fl moves)), (4, .own 0 0 c0q101.length), (5, .own 1 0 c1q101.length), (6, .ptr 2 0), (8, iS i7), (10, .ptr 3 0), (11, .ptr 4 0), (13, iS 0)] [(0, .row 3 (fl c0q101)), (1, .row 3 (fl c1q101)), (2, .row 25 [iS c2_Cap18, .own 5 0 c3q19.length, bS c2_Closed18, .own 6 0 c4q19.length, .own 7 0 c5q29.length]), (3, .row 25 [iS c3_Cap14, .own 8 0 c9q14.length, bS c3_Closed14, .own 9 0 c10q10.length, .own 10 0 c11q10.length]), (4, .row 34 [bS c4_Done14, bS c4_Panic14, bS c4_Ok14, iS c4_Value14, iS c4_Case14, .own 11 0 c12q10.length]), (5, .row 3 (fl c3q19)), (6, .row 39 (fl c4q19)), (7, .row 39 (fl c5q29)), (8, .row 3 (fl c9q14)), (9, .row 39 (fl c10q10)), (10, .row 39 (fl c11q10)), (11, .row 64 (fl c12q10))] 12 (by kernel_rfl) ?_
            refine wk_id ?_
            refine block_np ?_
            refine loop_sx (S := Int × (List Int) × (List Int)) (fun a => ([(1, .sl moves.length (fl moves)), (4, .own 0 0 a.2.1.length), (5, .own 1 0 a.2.2.length), (6, .ptr 2 0), (8, iS i7), (10, .ptr 3 0), (11, .ptr 4 0), (13, iS a.1)], [(0, .row 3 (fl a.2.1)), (1, .row 3 (fl a.2.2)), (2, .row 25 [iS c2_Cap18, .own 5 0 c3q19.length, bS c2_Closed18, .own 6 0 c4q19.length, .own 7 0 c5q29.length]), (3, .row 25 [iS c3_Cap14, .own 8 0 c9q14.length, bS c3_Closed14, .own 9 0 c10q10.length, .own 10 0 c11q10.length]), (4, .row 34 [bS c4_Done14, bS c4_Panic14, bS c4_Ok14, iS c4_Value14, iS c4_Case14, .own 11 0 c12q10.length]), (5, .row 3 (fl c3q19)), (6, .row 39 (fl c4q19)), (7, .row 39 (fl c5q29)), (8, .row 3 (fl c9q14)), (9, .row 39 (fl c10q10)), (10, .row 39 (fl c11q10)), (11, .row 64 (fl c12q10))], 12)) h (leSt_m [(0, 0), (1, 1), (2, 2), (3, 3), (4, 4), (5, 5), (6, 6), (7, 7), (8, 8), (9, 9), (10, 10), (11, 11)] [] (by simp only [push_cast, seval]) (by simp only [push_cast, seval]) rfl rfl rfl) ?_
            rintro ⟨k31, c0q115, c1q115⟩ o4 R4 h hr4 hn4 hx4 ht4
            try dsimp only at h hn4 ⊢
            unfold taskmilllaw_played_l1 at h
            try dsimp only at h
            refine seq_np ?_
            refine seq_np ?_
            refine reg_f ?_
            refine rs 5 [] [] (by kernel_rfl) allP_nil ?_
            refine rf [(1, .sl moves.length (fl moves)), (4, .own 0 0 c0q115.length), (5, .own 1 0 c1q115.length), (6, .ptr 2 0), (8, iS i7), (10, .ptr 3 0), (11, .ptr 4 0), (13, iS k31), (107, bS (decide (k31 < ((c12q10.length : Nat) : Int))))] [(0, .row 3 (fl c0q115)), (1, .row 3 (fl c1q115)), (2, .row 25 [iS c2_Cap18, .own 5 0 c3q19.length, bS c2_Closed18, .own 6 0 c4q19.length, .own 7 0 c5q29.length]), (3, .row 25 [iS c3_Cap14, .own 8 0 c9q14.length, bS c3_Closed14, .own 9 0 c10q10.length, .own 10 0 c11q10.length]), (4, .row 34 [bS c4_Done14, bS c4_Panic14, bS c4_Ok14, iS c4_Value14, iS c4_Case14, .own 11 0 c12q10.length]), (5, .row 3 (fl c3q19)), (6, .row 39 (fl c4q19)), (7, .row 39 (fl c5q29)), (8, .row 3 (fl c9q14)), (9, .row 39 (fl c10q10)), (10, .row 39 (fl c11q10)), (11, .row 64 (fl c12q10))] 12 (by kernel_rfl) ?_
            refine wk_id ?_
            refine cond_sx h (by kernel_rfl) (fun g3567 h => ?_) (fun g3567 h => ?_)
            · refine wk_id ?_
              refine seq_np ?_
              refine block_cut (A := (List Int) × (List Int)) (fun a => ([(1, .sl moves.length (fl moves)), (4, .own 0 0 a.1.length), (5, .own 1 0 a.2.length), (6, .ptr 2 0), (8, iS i7), (10, .ptr 3 0), (11, .ptr 4 0), (13, iS k31)], [(0, .row 3 (fl a.1)), (1, .row 3 (fl a.2)), (2, .row 25 [iS c2_Cap18, .own 5 0 c3q19.length, bS c2_Closed18, .own 6 0 c4q19.length, .own 7 0 c5q29.length]), (3, .row 25 [iS c3_Cap14, .own 8 0 c9q14.length, bS c3_Closed14, .own 9 0 c10q10.length, .own 10 0 c11q10.length]), (4, .row 34 [bS c4_Done14, bS c4_Panic14, bS c4_Ok14, iS c4_Value14, iS c4_Case14, .own 11 0 c12q10.length]), (5, .row 3 (fl c3q19)), (6, .row 39 (fl c4q19)), (7, .row 39 (fl c5q29)), (8, .row 3 (fl c9q14)), (9, .row 39 (fl c10q10)), (10, .row 39 (fl c11q10)), (11, .row 64 (fl c12q10))], 12)) (fun a => (taskmilllaw_played_j2 moves i7 c2_Cap18 c2_Closed18 c3q19 c4q19 c5q29 c3_Cap14 c3_Closed14 c4_Done14 c4_Panic14 c4_Ok14 c4_Value14 c4_Case14 c9q14 c10q10 c11q10 c12q10 k31 a.1 a.2) = some o4) (fun K3541 hK3541 => ?_) ?_
              · refine chk_sx h (fun g3545 h => ?_)
                refine seq_np ?_
                refine reg_f ?_
                have k3544 : 0 ≤ k31 ∧ k31 < ((c12q10.length : Nat) : Int) := by first | simpa only [Bool.and_eq_true, decide_eq_true_eq, bne_iff_ne, ne_eq] using g3545 | (simp at g3545 ⊢; omega)
                refine rs 7 [none, none, none, some ⟨.ptr 11 (0 + (k31).toNat * 5), [], 12, [11]⟩, some ⟨.agg (Enc.cells (ix c12q10 k31)), [], 12, [11]⟩] _ (by kernel_rfl) (allP_cons (ob_ldw c12q10 k31 5 (0 + (k31).toNat * 5) k3544 rfl (by first | rfl | omega) [iS (ix c12q10 k31).Task, iS (ix c12q10 k31).Case, iS (ix c12q10 k31).Value, bS (ix c12q10 k31).Ok, bS (ix c12q10 k31).Panic] rfl 12 [11]) (allP_cons (ob_ix_o 11 c12q10.length 0 5 12 k31 k3544) allP_nil)) ?_
                refine rf [(1, .sl moves.length (fl moves)), (4, .own 0 0 c0q115.length), (5, .own 1 0 c1q115.length), (6, .ptr 2 0), (8, iS i7), (10, .ptr 3 0), (11, .ptr 4 0), (13, iS k31), (14, .ptr 12 0)] [(0, .row 3 (fl c0q115)), (1, .row 3 (fl c1q115)), (2, .row 25 [iS c2_Cap18, .own 5 0 c3q19.length, bS c2_Closed18, .own 6 0 c4q19.length, .own 7 0 c5q29.length]), (3, .row 25 [iS c3_Cap14, .own 8 0 c9q14.length, bS c3_Closed14, .own 9 0 c10q10.length, .own 10 0 c11q10.length]), (4, .row 34 [bS c4_Done14, bS c4_Panic14, bS c4_Ok14, iS c4_Value14, iS c4_Case14, .own 11 0 c12q10.length]), (5, .row 3 (fl c3q19)), (6, .row 39 (fl c4q19)), (7, .row 39 (fl c5q29)), (8, .row 3 (fl c9q14)), (9, .row 39 (fl c10q10)), (10, .row 39 (fl c11q10)), (11, .row 64 (fl c12q10)), (12, .row 64 (Enc.cells (ix c12q10 k31)))] 13 (by kernel_rfl) ?_
                refine wk_id ?_
                refine seq_np ?_
                refine reg_f ?_
                refine rs 2 [] [] (by kernel_rfl) allP_nil ?_
                refine rf [(1, .sl moves.length (fl moves)), (4, .own 0 0 c0q115.length), (5, .own 1 0 c1q115.length), (6, .ptr 2 0), (8, iS i7), (10, .ptr 3 0), (11, .ptr 4 0), (13, iS k31), (14, .ptr 12 0), (116, bS (ix c12q10 k31).Ok)] [(0, .row 3 (fl c0q115)), (1, .row 3 (fl c1q115)), (2, .row 25 [iS c2_Cap18, .own 5 0 c3q19.length, bS c2_Closed18, .own 6 0 c4q19.length, .own 7 0 c5q29.length]), (3, .row 25 [iS c3_Cap14, .own 8 0 c9q14.length, bS c3_Closed14, .own 9 0 c10q10.length, .own 10 0 c11q10.length]), (4, .row 34 [bS c4_Done14, bS c4_Panic14, bS c4_Ok14, iS c4_Value14, iS c4_Case14, .own 11 0 c12q10.length]), (5, .row 3 (fl c3q19)), (6, .row 39 (fl c4q19)), (7, .row 39 (fl c5q29)), (8, .row 3 (fl c9q14)), (9, .row 39 (fl c10q10)), (10, .row 39 (fl c11q10)), (11, .row 64 (fl c12q10)), (12, .row 64 (Enc.cells (ix c12q10 k31)))] 13 (by kernel_rfl) ?_
                refine wk_id ?_
                refine cond_sx h (by kernel_rfl) (fun g3566 h => ?_) (fun g3566 h => ?_)
                · refine chk_sx h (fun g3549 h => ?_)
                  refine reg_f ?_
                  have k3548 : (c1q115 ++ ([(ix c12q10 k31).Value] : List Int)).length * 8 ≤ 140737488355328 := by first | simpa only [Bool.and_eq_true, decide_eq_true_eq, bne_iff_ne, ne_eq] using g3549 | (simp at g3549 ⊢; omega)
                  refine rs 6 [none, none, none, none, some ⟨.own 14 0 (c1q115 ++ ([(ix c12q10 k31).Value] : List Int)).length, [(14, .row 3 (fl (c1q115 ++ ([(ix c12q10 k31).Value] : List Int)))), (1, .dead)], 15, [1, 13]⟩] _ (by kernel_rfl) (allP_cons (ob_app (P := Try.prog) c1q115 ([(ix c12q10 k31).Value] : List Int) 1 8 rfl (appCells (fl ([(ix c12q10 k31).Value] : List Int)) 0 (([(ix c12q10 k31).Value] : List Int).length * 1)) ([(ix c12q10 k31).Value] : List Int).length (app_own ([(ix c12q10 k31).Value] : List Int) 1 rfl) rfl (0 + ([(ix c12q10 k31).Value] : List Int).length * 1 ≤ (fl ([(ix c12q10 k31).Value] : List Int)).length) (app_own_le ([(ix c12q10 k31).Value] : List Int) 1 rfl) 3 (by kernel_rfl) (by decide) k3548 1 14 [13]) allP_nil) ?_
                  refine rf [(1, .sl moves.length (fl moves)), (4, .own 0 0 c0q115.length), (5, .own 14 0 (c1q115 ++ ([(ix c12q10 k31).Value] : List Int)).length), (6, .ptr 2 0), (8, iS i7), (10, .ptr 3 0), (11, .ptr 4 0), (13, iS k31)] [(0, .row 3 (fl c0q115)), (1, .dead), (2, .row 25 [iS c2_Cap18, .own 5 0 c3q19.length, bS c2_Closed18, .own 6 0 c4q19.length, .own 7 0 c5q29.length]), (3, .row 25 [iS c3_Cap14, .own 8 0 c9q14.length, bS c3_Closed14, .own 9 0 c10q10.length, .own 10 0 c11q10.length]), (4, .row 34 [bS c4_Done14, bS c4_Panic14, bS c4_Ok14, iS c4_Value14, iS c4_Case14, .own 11 0 c12q10.length]), (5, .row 3 (fl c3q19)), (6, .row 39 (fl c4q19)), (7, .row 39 (fl c5q29)), (8, .row 3 (fl c9q14)), (9, .row 39 (fl c10q10)), (10, .row 39 (fl c11q10)), (11, .row 64 (fl c12q10)), (12, .row 64 (Enc.cells (ix c12q10 k31))), (13, .row 3 (fl ([(ix c12q10 k31).Value] : List Int))), (14, .row 3 (fl (c1q115 ++ ([(ix c12q10 k31).Value] : List Int))))] 15 (by kernel_rfl) ?_
                  exact hK3541 (c0q115, (c1q115 ++ ([(ix c12q10 k31).Value] : List Int))) _ _ _ h (leSt_m [(0, 0), (1, 14), (2, 2), (3, 3), (4, 4), (5, 5), (6, 6), (7, 7), (8, 8), (9, 9), (10, 10), (11, 11)] [] (by simp only [push_cast, seval]) (by simp only [push_cast, seval]) rfl rfl rfl)
                · refine chk_sx h (fun g3557 h => ?_)
                  refine chk_sx h (fun g3560 h => ?_)
                  refine seq_cut (A := Unit) (fun _ => ([(1, .sl moves.length (fl moves)), (4, .own 0 0 c0q115.length), (5, .own 1 0 c1q115.length), (6, .ptr 2 0), (8, iS i7), (10, .ptr 3 0), (11, .ptr 4 0), (13, iS k31), (14, .ptr 12 0), (133, bS (((ix moves i7) == 2) || ((ix moves i7) == 3)))], [(0, .row 3 (fl c0q115)), (1, .row 3 (fl c1q115)), (2, .row 25 [iS c2_Cap18, .own 5 0 c3q19.length, bS c2_Closed18, .own 6 0 c4q19.length, .own 7 0 c5q29.length]), (3, .row 25 [iS c3_Cap14, .own 8 0 c9q14.length, bS c3_Closed14, .own 9 0 c10q10.length, .own 10 0 c11q10.length]), (4, .row 34 [bS c4_Done14, bS c4_Panic14, bS c4_Ok14, iS c4_Value14, iS c4_Case14, .own 11 0 c12q10.length]), (5, .row 3 (fl c3q19)), (6, .row 39 (fl c4q19)), (7, .row 39 (fl c5q29)), (8, .row 3 (fl c9q14)), (9, .row 39 (fl c10q10)), (10, .row 39 (fl c11q10)), (11, .row 64 (fl c12q10)), (12, .row 64 (Enc.cells (ix c12q10 k31)))], 13)) (fun _ => True) (fun K3555 hK3555 => ?_) (fun _ _ => ?_)
                  · refine reg_f ?_
                    have k3556 : 0 ≤ i7 ∧ i7 < ((moves.length : Nat) : Int) := by first | simpa only [Bool.and_eq_true, decide_eq_true_eq, bne_iff_ne, ne_eq] using g3557 | (simp at g3557 ⊢; omega)
                    refine rs 6 [none, none, some ⟨.iptr (fl moves) ((i7).toNat * 1), [], 13, []⟩, some ⟨iS (ix moves i7), [], 13, []⟩] _ (by kernel_rfl) (allP_cons (ob_ld moves i7 1 0 ((i7).toNat * 1) k3556 rfl (by decide) (by first | rfl | omega) (dflS Try.prog 3) (iS (ix moves i7)) rfl 13 []) (allP_cons (ob_ix_l moves 1 13 i7 k3556) allP_nil)) ?_
                    refine run_split 127 ((ix moves i7) == 2) (.inl (by kernel_rfl)) (fun g3558 => ?_) (fun g3558 => ?_)
                    · refine rs 6 [] [] (by kernel_rfl) allP_nil ?_
                      refine rf [(1, .sl moves.length (fl moves)), (4, .own 0 0 c0q115.length), (5, .own 1 0 c1q115.length), (6, .ptr 2 0), (8, iS i7), (10, .ptr 3 0), (11, .ptr 4 0), (13, iS k31), (14, .ptr 12 0), (133, bS true)] [(0, .row 3 (fl c0q115)), (1, .row 3 (fl c1q115)), (2, .row 25 [iS c2_Cap18, .own 5 0 c3q19.length, bS c2_Closed18, .own 6 0 c4q19.length, .own 7 0 c5q29.length]), (3, .row 25 [iS c3_Cap14, .own 8 0 c9q14.length, bS c3_Closed14, .own 9 0 c10q10.length, .own 10 0 c11q10.length]), (4, .row 34 [bS c4_Done14, bS c4_Panic14, bS c4_Ok14, iS c4_Value14, iS c4_Case14, .own 11 0 c12q10.length]), (5, .row 3 (fl c3q19)), (6, .row 39 (fl c4q19)), (7, .row 39 (fl c5q29)), (8, .row 3 (fl c9q14)), (9, .row 39 (fl c10q10)), (10, .row 39 (fl c11q10)), (11, .row 64 (fl c12q10)), (12, .row 64 (Enc.cells (ix c12q10 k31)))] 13 (by kernel_rfl) ?_
                      exact hK3555 () _ _ _ trivial (leSt_m [(0, 0), (1, 1), (2, 2), (3, 3), (4, 4), (5, 5), (6, 6), (7, 7), (8, 8), (9, 9), (10, 10), (11, 11), (12, 12)] [] (by (try simp only [g3558]) <;> simp only [push_cast, seval]) (by (try simp only [g3558]) <;> simp only [push_cast, seval]) rfl rfl rfl)
                    · have k3559 : 0 ≤ i7 ∧ i7 < ((moves.length : Nat) : Int) := by have e := or_use g3560 (by first | ((try simp only [g3558]) <;> rfl) | ((try simp only [g3558]); rfl) | (exfalso; clear h; simp_all; done)); first | simpa only [Bool.and_eq_true, decide_eq_true_eq, bne_iff_ne, ne_eq] using e | (simp at e ⊢; omega)
                      refine rs 6 [none, none, some ⟨.iptr (fl moves) ((i7).toNat * 1), [], 13, []⟩, some ⟨iS (ix moves i7), [], 13, []⟩] _ (by kernel_rfl) (allP_cons (ob_ld moves i7 1 0 ((i7).toNat * 1) k3559 rfl (by decide) (by first | rfl | omega) (dflS Try.prog 3) (iS (ix moves i7)) rfl 13 []) (allP_cons (ob_ix_l moves 1 13 i7 k3559) allP_nil)) ?_
                      refine rf [(1, .sl moves.length (fl moves)), (4, .own 0 0 c0q115.length), (5, .own 1 0 c1q115.length), (6, .ptr 2 0), (8, iS i7), (10, .ptr 3 0), (11, .ptr 4 0), (13, iS k31), (14, .ptr 12 0), (133, bS ((ix moves i7) == 3))] [(0, .row 3 (fl c0q115)), (1, .row 3 (fl c1q115)), (2, .row 25 [iS c2_Cap18, .own 5 0 c3q19.length, bS c2_Closed18, .own 6 0 c4q19.length, .own 7 0 c5q29.length]), (3, .row 25 [iS c3_Cap14, .own 8 0 c9q14.length, bS c3_Closed14, .own 9 0 c10q10.length, .own 10 0 c11q10.length]), (4, .row 34 [bS c4_Done14, bS c4_Panic14, bS c4_Ok14, iS c4_Value14, iS c4_Case14, .own 11 0 c12q10.length]), (5, .row 3 (fl c3q19)), (6, .row 39 (fl c4q19)), (7, .row 39 (fl c5q29)), (8, .row 3 (fl c9q14)), (9, .row 39 (fl c10q10)), (10, .row 39 (fl c11q10)), (11, .row 64 (fl c12q10)), (12, .row 64 (Enc.cells (ix c12q10 k31)))] 13 (by kernel_rfl) ?_
                      exact hK3555 () _ _ _ trivial (leSt_m [(0, 0), (1, 1), (2, 2), (3, 3), (4, 4), (5, 5), (6, 6), (7, 7), (8, 8), (9, 9), (10, 10), (11, 11), (12, 12)] [] (by (try simp only [g3558]) <;> simp only [push_cast, seval]) (by (try simp only [g3558]) <;> simp only [push_cast, seval]) rfl rfl rfl)
                  · dsimp only
                    refine cond_sx h (by kernel_rfl) (fun g3565 h => ?_) (fun g3565 h => ?_)
                    · refine chk_sx h (fun g3564 h => ?_)
                      refine reg_f ?_
                      have k3563 : (c0q115 ++ ([(IntKind.i64.wrap ((ix c12q10 k31).Task - 1))] : List Int)).length * 8 ≤ 140737488355328 := by first | simpa only [Bool.and_eq_true, decide_eq_true_eq, bne_iff_ne, ne_eq] using g3564 | (simp at g3564 ⊢; omega)
                      refine rs 7 [none, none, none, none, none, some ⟨.own 14 0 (c0q115 ++ ([(IntKind.i64.wrap ((ix c12q10 k31).Task - 1))] : List Int)).length, [(14, .row 3 (fl (c0q115 ++ ([(IntKind.i64.wrap ((ix c12q10 k31).Task - 1))] : List Int)))), (0, .dead)], 15, [0, 13]⟩] _ (by kernel_rfl) (allP_cons (ob_app (P := Try.prog) c0q115 ([(IntKind.i64.wrap ((ix c12q10 k31).Task - 1))] : List Int) 1 8 rfl (appCells (fl ([(IntKind.i64.wrap ((ix c12q10 k31).Task - 1))] : List Int)) 0 (([(IntKind.i64.wrap ((ix c12q10 k31).Task - 1))] : List Int).length * 1)) ([(IntKind.i64.wrap ((ix c12q10 k31).Task - 1))] : List Int).length (app_own ([(IntKind.i64.wrap ((ix c12q10 k31).Task - 1))] : List Int) 1 rfl) rfl (0 + ([(IntKind.i64.wrap ((ix c12q10 k31).Task - 1))] : List Int).length * 1 ≤ (fl ([(IntKind.i64.wrap ((ix c12q10 k31).Task - 1))] : List Int)).length) (app_own_le ([(IntKind.i64.wrap ((ix c12q10 k31).Task - 1))] : List Int) 1 rfl) 3 (by kernel_rfl) (by decide) k3563 0 14 [13]) allP_nil) ?_
                      refine rf [(1, .sl moves.length (fl moves)), (4, .own 14 0 (c0q115 ++ ([(IntKind.i64.wrap ((ix c12q10 k31).Task - 1))] : List Int)).length), (5, .own 1 0 c1q115.length), (6, .ptr 2 0), (8, iS i7), (10, .ptr 3 0), (11, .ptr 4 0), (13, iS k31)] [(0, .dead), (1, .row 3 (fl c1q115)), (2, .row 25 [iS c2_Cap18, .own 5 0 c3q19.length, bS c2_Closed18, .own 6 0 c4q19.length, .own 7 0 c5q29.length]), (3, .row 25 [iS c3_Cap14, .own 8 0 c9q14.length, bS c3_Closed14, .own 9 0 c10q10.length, .own 10 0 c11q10.length]), (4, .row 34 [bS c4_Done14, bS c4_Panic14, bS c4_Ok14, iS c4_Value14, iS c4_Case14, .own 11 0 c12q10.length]), (5, .row 3 (fl c3q19)), (6, .row 39 (fl c4q19)), (7, .row 39 (fl c5q29)), (8, .row 3 (fl c9q14)), (9, .row 39 (fl c10q10)), (10, .row 39 (fl c11q10)), (11, .row 64 (fl c12q10)), (12, .row 64 (Enc.cells (ix c12q10 k31))), (13, .row 3 (fl ([(IntKind.i64.wrap ((ix c12q10 k31).Task - 1))] : List Int))), (14, .row 3 (fl (c0q115 ++ ([(IntKind.i64.wrap ((ix c12q10 k31).Task - 1))] : List Int))))] 15 (by kernel_rfl) ?_
                      exact hK3541 ((c0q115 ++ ([(IntKind.i64.wrap ((ix c12q10 k31).Task - 1))] : List Int)), c1q115) _ _ _ h (leSt_m [(0, 14), (1, 1), (2, 2), (3, 3), (4, 4), (5, 5), (6, 6), (7, 7), (8, 8), (9, 9), (10, 10), (11, 11)] [] (by simp only [push_cast, seval]) (by simp only [push_cast, seval]) rfl rfl rfl)
                    · exact hK3541 (c0q115, c1q115) _ _ _ h (leSt_m [(0, 0), (1, 1), (2, 2), (3, 3), (4, 4), (5, 5), (6, 6), (7, 7), (8, 8), (9, 9), (10, 10), (11, 11)] [] (by simp only [push_cast, seval]) (by simp only [push_cast, seval]) rfl rfl rfl)
              · rintro ⟨c0q117, c1q117⟩ h
                try dsimp only at h ⊢
                unfold taskmilllaw_played_j2 at h
                refine wk_id ?_
                refine reg_f ?_
                refine rs 3 [] [] (by kernel_rfl) allP_nil ?_
                refine rf [(1, .sl moves.length (fl moves)), (4, .own 0 0 c0q117.length), (5, .own 1 0 c1q117.length), (6, .ptr 2 0), (8, iS i7), (10, .ptr 3 0), (11, .ptr 4 0), (13, iS (IntKind.i64.wrap (k31 + 1)))] [(0, .row 3 (fl c0q117)), (1, .row 3 (fl c1q117)), (2, .row 25 [iS c2_Cap18, .own 5 0 c3q19.length, bS c2_Closed18, .own 6 0 c4q19.length, .own 7 0 c5q29.length]), (3, .row 25 [iS c3_Cap14, .own 8 0 c9q14.length, bS c3_Closed14, .own 9 0 c10q10.length, .own 10 0 c11q10.length]), (4, .row 34 [bS c4_Done14, bS c4_Panic14, bS c4_Ok14, iS c4_Value14, iS c4_Case14, .own 11 0 c12q10.length]), (5, .row 3 (fl c3q19)), (6, .row 39 (fl c4q19)), (7, .row 39 (fl c5q29)), (8, .row 3 (fl c9q14)), (9, .row 39 (fl c10q10)), (10, .row 39 (fl c11q10)), (11, .row 64 (fl c12q10))] 12 (by kernel_rfl) ?_
                exact hn4 ((IntKind.i64.wrap (k31 + 1)), c0q117, c1q117) _ _ _ (Option.some.inj h).symm (leSt_m [(0, 0), (1, 1), (2, 2), (3, 3), (4, 4), (5, 5), (6, 6), (7, 7), (8, 8), (9, 9), (10, 10), (11, 11)] [] (by simp only [push_cast, seval]) (by simp only [push_cast, seval]) rfl rfl rfl)
            · change R4 (.exit 3) _ _ _
              refine ex_cast hx4 (id := 3) ?_
              obtain ⟨r0, h, e0⟩ := map_sx h
              have e1 := hr4 r0 e0.symm
              subst r0
              refine wk_id ?_
              refine wk_id ?_
              refine reg_f ?_
              refine rs 2 [] [] (by kernel_rfl) allP_nil ?_
              refine rf [(1, .sl moves.length (fl moves)), (4, .own 0 0 c0q115.length), (5, .own 1 0 c1q115.length), (6, .ptr 2 0), (8, iS i7)] [(0, .row 3 (fl c0q115)), (1, .row 3 (fl c1q115)), (2, .row 25 [iS c3_Cap14, .own 8 0 c9q14.length, bS c3_Closed14, .own 9 0 c10q10.length, .own 10 0 c11q10.length]), (3, .row 25 [iS c3_Cap14, .own 8 0 c9q14.length, bS c3_Closed14, .own 9 0 c10q10.length, .own 10 0 c11q10.length]), (4, .row 34 [bS c4_Done14, bS c4_Panic14, bS c4_Ok14, iS c4_Value14, iS c4_Case14, .own 11 0 c12q10.length]), (5, .row 3 (fl c3q19)), (6, .row 39 (fl c4q19)), (7, .row 39 (fl c5q29)), (8, .row 3 (fl c9q14)), (9, .row 39 (fl c10q10)), (10, .row 39 (fl c11q10)), (11, .row 64 (fl c12q10))] 12 (by kernel_rfl) ?_
              exact hK3269 (c0q115, c1q115, c3_Cap14, c3_Closed14, c9q14, c10q10, c11q10) _ _ _ h (leSt_m [(0, 0), (1, 1), (2, 2), (3, 8), (4, 9), (5, 10)] [] (by simp only [push_cast, seval]) (by simp only [push_cast, seval]) rfl rfl rfl)
    · rintro ⟨c0q99, c1q99, c2_Cap20, c2_Closed20, c3q21, c4q21, c5q33⟩ h
      try dsimp only at h ⊢
      unfold taskmilllaw_played_j1 at h
      refine wk_id ?_
      refine reg_f ?_
      refine rs 3 [] [] (by kernel_rfl) allP_nil ?_
      refine rf [(1, .sl moves.length (fl moves)), (4, .own 0 0 c0q99.length), (5, .own 1 0 c1q99.length), (6, .ptr 2 0), (8, iS (IntKind.i64.wrap (i7 + 1)))] [(0, .row 3 (fl c0q99)), (1, .row 3 (fl c1q99)), (2, .row 25 [iS c2_Cap20, .own 3 0 c3q21.length, bS c2_Closed20, .own 4 0 c4q21.length, .own 5 0 c5q33.length]), (3, .row 3 (fl c3q21)), (4, .row 39 (fl c4q21)), (5, .row 39 (fl c5q33))] 6 (by kernel_rfl) ?_
      exact hn3 ((IntKind.i64.wrap (i7 + 1)), c0q99, c1q99, c2_Cap20, c2_Closed20, c3q21, c4q21, c5q33) _ _ _ (Option.some.inj h).symm (leSt_m [(0, 0), (1, 1), (2, 2), (3, 3), (4, 4), (5, 5)] [] (by simp only [push_cast, seval]) (by simp only [push_cast, seval]) rfl rfl rfl)
  · change R3 (.exit 0) _ _ _
    refine ex_cast hx3 (id := 0) ?_
    obtain ⟨r0, h, e0⟩ := map_sx h
    have e1 := hr3 r0 e0.symm
    subst r0
    refine wk_id ?_
    refine wk_id ?_
    refine seq_np ?_
    refine reg_t ?_
    refine rs 7 [] [] (by kernel_rfl) allP_nil ?_
    refine rt [(4, .own 0 0 c0q85.length), (5, .own 1 0 c1q85.length), (6, .ptr 2 0), (7, bS true)] [(0, .row 3 (fl c0q85)), (1, .row 3 (fl c1q85)), (2, .row 25 [iS c2_Cap18, .own 3 0 c3q19.length, bS c2_Closed18, .own 4 0 c4q19.length, .own 5 0 c5q29.length]), (3, .row 3 (fl c3q19)), (4, .row 39 (fl c4q19)), (5, .row 39 (fl c5q29))] 13 follows (by kernel_rfl) ?_
    refine wk_id ?_
    obtain rfl := Option.some.inj h
    refine ret_at (.tup [.own 0 0 c0q85.length, .own 1 0 c1q85.length, .agg [iS c2_Cap18, .own 3 0 c3q19.length, bS c2_Closed18, .own 4 0 c4q19.length, .own 5 0 c5q29.length], bS true]) (by kernel_rfl) ?_
    exact ret_e [(0, 0), (1, 1), (2, 3), (3, 4), (4, 5)] [] (by simp only [push_cast, seval]) (by simp only [push_cast, seval]) rfl rfl rfl

set_option maxRecDepth 100000 in
set_option maxHeartbeats 10000000 in
theorem taskmillref_Has_spec (l : (List Int)) (n : Int) (r : Bool) (h : taskmillref_Has l n = some r) : SpecW Try.prog 25 [.sl l.length (fl l), iS n] [] 0 (fun x h n => x = bS r ∧ h = [] ∧ n = 0) := by
  unfold taskmillref_Has at h
  refine spec_of (draw_ok _) Try.func25 rfl (by decide) rfl (by kernel_rfl) ?_
  refine seq_np ?_
  refine reg_f ?_
  refine rs 1 [] [] (by kernel_rfl) allP_nil ?_
  refine rf [(0, .sl l.length (fl l)), (1, iS n)] [] 0 (by kernel_rfl) ?_
  refine wk_id ?_
  refine seq_np ?_
  refine seq_np ?_
  refine reg_f ?_
  refine rs 1 [] [] (by kernel_rfl) allP_nil ?_
  refine rf [(0, .sl l.length (fl l)), (1, iS n), (5, iS 0)] [] 0 (by kernel_rfl) ?_
  refine wk_id ?_
  refine block_np ?_
  refine loop_sx (S := Int) (fun a => ([(0, .sl l.length (fl l)), (1, iS n), (5, iS a)], [], 0)) h (leSt_m [] [] (by simp only [push_cast, seval]) (by simp only [push_cast, seval]) rfl rfl rfl) ?_
  rintro i7 o2 R2 h hr2 hn2 hx2 ht2
  try dsimp only at h hn2 ⊢
  unfold taskmillref_Has_l1 at h
  try dsimp only at h
  refine seq_np ?_
  refine seq_np ?_
  refine reg_f ?_
  refine rs 4 [] [] (by kernel_rfl) allP_nil ?_
  refine rf [(0, .sl l.length (fl l)), (1, iS n), (5, iS i7), (9, bS (decide (i7 < ((l.length : Nat) : Int))))] [] 0 (by kernel_rfl) ?_
  refine wk_id ?_
  refine cond_sx h (by kernel_rfl) (fun g3639 h => ?_) (fun g3639 h => ?_)
  · refine wk_id ?_
    refine seq_np ?_
    refine block_np ?_
    refine chk_sx h (fun g3637 h => ?_)
    refine seq_np ?_
    refine reg_f ?_
    have k3636 : 0 ≤ i7 ∧ i7 < ((l.length : Nat) : Int) := by first | simpa only [Bool.and_eq_true, decide_eq_true_eq, bne_iff_ne, ne_eq] using g3637 | (simp at g3637 ⊢; omega)
    refine rs 6 [none, none, some ⟨.iptr (fl l) ((i7).toNat * 1), [], 0, []⟩, some ⟨iS (ix l i7), [], 0, []⟩] _ (by kernel_rfl) (allP_cons (ob_ld l i7 1 0 ((i7).toNat * 1) k3636 rfl (by decide) (by first | rfl | omega) (dflS Try.prog 3) (iS (ix l i7)) rfl 0 []) (allP_cons (ob_ix_l l 1 0 i7 k3636) allP_nil)) ?_
    refine rf [(0, .sl l.length (fl l)), (1, iS n), (5, iS i7), (17, bS ((ix l i7) == n))] [] 0 (by kernel_rfl) ?_
    refine wk_id ?_
    refine cond_sx h (by kernel_rfl) (fun g3638 h => ?_) (fun g3638 h => ?_)
    · refine seq_np ?_
      refine reg_f ?_
      refine rs 1 [] [] (by kernel_rfl) allP_nil ?_
      refine rf [(4, bS true)] [] 0 (by kernel_rfl) ?_
      refine wk_id ?_
      refine rt_cast ht2 ?_
      obtain ⟨r0, h, e0⟩ := map_sx h
      have e1 := hr2 r0 e0.symm
      subst r0
      obtain rfl := Option.some.inj h
      refine ret_at (bS true) (by kernel_rfl) ?_
      exact ret_e [] [] (by simp only [push_cast, seval]) (by simp only [push_cast, seval]) rfl rfl rfl
    · refine wk_id ?_
      refine wk_id ?_
      refine reg_f ?_
      refine rs 3 [] [] (by kernel_rfl) allP_nil ?_
      refine rf [(0, .sl l.length (fl l)), (1, iS n), (5, iS (IntKind.i64.wrap (i7 + 1)))] [] 0 (by kernel_rfl) ?_
      exact hn2 ((IntKind.i64.wrap (i7 + 1))) _ _ _ (Option.some.inj h).symm (leSt_m [] [] (by simp only [push_cast, seval]) (by simp only [push_cast, seval]) rfl rfl rfl)
  · change R2 (.exit 0) _ _ _
    refine ex_cast hx2 (id := 0) ?_
    obtain ⟨r0, h, e0⟩ := map_sx h
    have e1 := hr2 r0 e0.symm
    subst r0
    refine wk_id ?_
    refine wk_id ?_
    refine seq_np ?_
    refine reg_f ?_
    refine rs 1 [] [] (by kernel_rfl) allP_nil ?_
    refine rf [(4, bS false)] [] 0 (by kernel_rfl) ?_
    refine wk_id ?_
    obtain rfl := Option.some.inj h
    refine ret_at (bS false) (by kernel_rfl) ?_
    exact ret_e [] [] (by simp only [push_cast, seval]) (by simp only [push_cast, seval]) rfl rfl rfl

set_option maxRecDepth 100000 in
set_option maxHeartbeats 10000000 in
theorem taskmilllaw_PipeOrder_spec (capacity : Int) (moves : (List Int)) (r : Bool) (h : taskmilllaw_PipeOrder capacity moves = some r) : SpecW Try.prog 5 [iS capacity, .sl moves.length (fl moves)] [] 0 (fun x h n => x = bS r ∧ h = [] ∧ n = 0) := by
  unfold taskmilllaw_PipeOrder at h
  refine spec_of (draw_ok _) Try.func5 rfl (by decide) rfl (by kernel_rfl) ?_
  refine seq_np ?_
  refine reg_f ?_
  refine rs 1 [] [] (by kernel_rfl) allP_nil ?_
  refine rf [(0, iS capacity), (1, .sl moves.length (fl moves))] [] 0 (by kernel_rfl) ?_
  refine wk_id ?_
  refine seq_np ?_
  refine seq_np ?_
  refine reg_f ?_
  obtain ⟨r3668, hr3668, h⟩ := bind_sx h
  refine run_call 10 [] (some 11) (by kernel_rfl) ?_
  refine call_0 (taskmilllaw_pipeBegun_spec r3668 hr3668) (by simp only [push_cast, seval]) (by simp only [push_cast, seval]) ?_
  refine back_f ?_
  refine rs 1 [] [] (by kernel_rfl) allP_nil ?_
  refine rf [(0, iS capacity), (1, .sl moves.length (fl moves)), (12, bS (!r3668))] [] 0 (by kernel_rfl) ?_
  refine wk_id ?_
  refine cond_sx h (by kernel_rfl) (fun g3810 h => ?_) (fun g3810 h => ?_)
  · refine seq_np ?_
    refine reg_f ?_
    refine rs 1 [] [] (by kernel_rfl) allP_nil ?_
    refine rf [(4, bS false)] [] 0 (by kernel_rfl) ?_
    refine wk_id ?_
    obtain rfl := Option.some.inj h
    refine ret_at (bS false) (by kernel_rfl) ?_
    exact ret_e [] [] (by simp only [push_cast, seval]) (by simp only [push_cast, seval]) rfl rfl rfl
  · refine wk_id ?_
    refine seq_np ?_
    refine seq_cut (A := Unit) (fun _ => ([(0, iS capacity), (1, .sl moves.length (fl moves)), (23, bS ((decide (capacity < 0)) || ((decide ((50 : Int) < capacity)) || (decide ((300 : Int) < ((moves.length : Nat) : Int))))))], [], 0)) (fun _ => True) (fun K3674 hK3674 => ?_) (fun _ _ => ?_)
    · refine reg_f ?_
      refine rs 3 [] [] (by kernel_rfl) allP_nil ?_
      refine run_split 15 (decide (capacity < 0)) (.inl (by kernel_rfl)) (fun g3675 => ?_) (fun g3675 => ?_)
      · refine rs 8 [] [] (by kernel_rfl) allP_nil ?_
        refine rf [(0, iS capacity), (1, .sl moves.length (fl moves)), (23, bS true)] [] 0 (by kernel_rfl) ?_
        exact hK3674 () _ _ _ trivial (leSt_m [] [] (by (try simp only [g3675]) <;> simp only [push_cast, seval]) (by (try simp only [g3675]) <;> simp only [push_cast, seval]) rfl rfl rfl)
      · refine rs 4 [] [] (by kernel_rfl) allP_nil ?_
        refine run_split 19 (decide ((50 : Int) < capacity)) (.inl (by kernel_rfl)) (fun g3676 => ?_) (fun g3676 => ?_)
        · refine rs 4 [] [] (by kernel_rfl) allP_nil ?_
          refine rf [(0, iS capacity), (1, .sl moves.length (fl moves)), (23, bS true)] [] 0 (by kernel_rfl) ?_
          exact hK3674 () _ _ _ trivial (leSt_m [] [] (by first | ((try simp only [g3675, g3676]) <;> simp only [push_cast, seval]; done) | ((try simp only [g3675]); (try simp only [g3676]); simp only [push_cast, seval]; done) | (exfalso; clear h; simp_all; done)) (by first | ((try simp only [g3675, g3676]) <;> simp only [push_cast, seval]; done) | ((try simp only [g3675]); (try simp only [g3676]); simp only [push_cast, seval]; done) | (exfalso; clear h; simp_all; done)) rfl rfl rfl)
        · refine rs 4 [] [] (by kernel_rfl) allP_nil ?_
          refine rf [(0, iS capacity), (1, .sl moves.length (fl moves)), (23, bS (decide ((300 : Int) < ((moves.length : Nat) : Int))))] [] 0 (by kernel_rfl) ?_
          exact hK3674 () _ _ _ trivial (leSt_m [] [] (by first | ((try simp only [g3675, g3676]) <;> simp only [push_cast, seval]; done) | ((try simp only [g3675]); (try simp only [g3676]); simp only [push_cast, seval]; done) | (exfalso; clear h; simp_all; done)) (by first | ((try simp only [g3675, g3676]) <;> simp only [push_cast, seval]; done) | ((try simp only [g3675]); (try simp only [g3676]); simp only [push_cast, seval]; done) | (exfalso; clear h; simp_all; done)) rfl rfl rfl)
    · dsimp only
      refine cond_sx h (by kernel_rfl) (fun g3809 h => ?_) (fun g3809 h => ?_)
      · refine seq_np ?_
        refine reg_f ?_
        refine rs 1 [] [] (by kernel_rfl) allP_nil ?_
        refine rf [(4, bS true)] [] 0 (by kernel_rfl) ?_
        refine wk_id ?_
        obtain rfl := Option.some.inj h
        refine ret_at (bS true) (by kernel_rfl) ?_
        exact ret_e [] [] (by simp only [push_cast, seval]) (by simp only [push_cast, seval]) rfl rfl rfl
      · refine wk_id ?_
        refine seq_np ?_
        refine reg_f ?_
        refine rs 2 [] [] (by kernel_rfl) allP_nil ?_
        obtain ⟨r3678, hr3678, h⟩ := bind_sx h
        refine call_x (taskmilllaw_played_spec capacity moves r3678 hr3678) (args := [iS capacity, .sl moves.length (fl moves)]) (dst := (some 27)) (by kernel_rfl) [] 0 (by kernel_rfl) [] [] (.tup [.own 0 0 r3678.2.2.2.1.length, .own 1 0 r3678.2.2.2.2.1.length, .agg [iS r3678.1, .own 2 0 r3678.2.2.2.2.2.1.length, bS r3678.2.1, .own 3 0 r3678.2.2.2.2.2.2.1.length, .own 4 0 r3678.2.2.2.2.2.2.2.length], bS r3678.2.2.1]) [(0, .row 3 (fl r3678.2.2.2.1)), (1, .row 3 (fl r3678.2.2.2.2.1)), (2, .row 3 (fl r3678.2.2.2.2.2.1)), (3, .row 39 (fl r3678.2.2.2.2.2.2.1)), (4, .row 39 (fl r3678.2.2.2.2.2.2.2))] (by simp only [push_cast, seval]) (by simp only [push_cast, seval]) (by kernel_rfl) (.inl rfl) (by simp only [push_cast, seval]) (by simp only [push_cast, seval]) ?_
        refine rs 10 [] [] (by kernel_rfl) allP_nil ?_
        refine rf [(5, .own 0 0 r3678.2.2.2.1.length), (6, .own 1 0 r3678.2.2.2.2.1.length), (7, .ptr 5 0), (8, bS r3678.2.2.1)] [(0, .row 3 (fl r3678.2.2.2.1)), (1, .row 3 (fl r3678.2.2.2.2.1)), (2, .row 3 (fl r3678.2.2.2.2.2.1)), (3, .row 39 (fl r3678.2.2.2.2.2.2.1)), (4, .row 39 (fl r3678.2.2.2.2.2.2.2)), (5, .row 25 [iS r3678.1, .own 2 0 r3678.2.2.2.2.2.1.length, bS r3678.2.1, .own 3 0 r3678.2.2.2.2.2.2.1.length, .own 4 0 r3678.2.2.2.2.2.2.2.length])] 6 (by kernel_rfl) ?_
        refine wk_id ?_
        refine seq_np ?_
        refine seq_np ?_
        refine reg_f ?_
        refine rs 2 [] [] (by kernel_rfl) allP_nil ?_
        refine rf [(5, .own 0 0 r3678.2.2.2.1.length), (6, .own 1 0 r3678.2.2.2.2.1.length), (7, .ptr 5 0), (33, bS (!r3678.2.2.1))] [(0, .row 3 (fl r3678.2.2.2.1)), (1, .row 3 (fl r3678.2.2.2.2.1)), (2, .row 3 (fl r3678.2.2.2.2.2.1)), (3, .row 39 (fl r3678.2.2.2.2.2.2.1)), (4, .row 39 (fl r3678.2.2.2.2.2.2.2)), (5, .row 25 [iS r3678.1, .own 2 0 r3678.2.2.2.2.2.1.length, bS r3678.2.1, .own 3 0 r3678.2.2.2.2.2.2.1.length, .own 4 0 r3678.2.2.2.2.2.2.2.length])] 6 (by kernel_rfl) ?_
        refine wk_id ?_
        refine cond_sx h (by kernel_rfl) (fun g3808 h => ?_) (fun g3808 h => ?_)
        · refine seq_np ?_
          refine reg_f ?_
          refine rs 1 [] [] (by kernel_rfl) allP_nil ?_
          refine rf [(4, bS false)] [(0, .row 3 (fl r3678.2.2.2.1)), (1, .row 3 (fl r3678.2.2.2.2.1)), (2, .row 3 (fl r3678.2.2.2.2.2.1)), (3, .row 39 (fl r3678.2.2.2.2.2.2.1)), (4, .row 39 (fl r3678.2.2.2.2.2.2.2)), (5, .row 25 [iS r3678.1, .own 2 0 r3678.2.2.2.2.2.1.length, bS r3678.2.1, .own 3 0 r3678.2.2.2.2.2.2.1.length, .own 4 0 r3678.2.2.2.2.2.2.2.length])] 6 (by kernel_rfl) ?_
          refine wk_id ?_
          obtain rfl := Option.some.inj h
          refine ret_at (bS false) (by kernel_rfl) ?_
          exact ret_e [] [] (by simp only [push_cast, seval]) (by simp only [push_cast, seval]) rfl rfl rfl
        · refine wk_id ?_
          refine seq_np ?_
          refine seq_np ?_
          refine reg_f ?_
          refine rs 9 [] [] (by kernel_rfl) allP_nil ?_
          refine rf [(5, .own 0 0 r3678.2.2.2.1.length), (6, .own 1 0 r3678.2.2.2.2.1.length), (7, .ptr 5 0), (42, bS (((r3678.2.2.2.1.length : Nat) : Int) != (IntKind.i64.wrap (((r3678.2.2.2.2.1.length : Nat) : Int) + ((r3678.2.2.2.2.2.1.length : Nat) : Int)))))] [(0, .row 3 (fl r3678.2.2.2.1)), (1, .row 3 (fl r3678.2.2.2.2.1)), (2, .row 3 (fl r3678.2.2.2.2.2.1)), (3, .row 39 (fl r3678.2.2.2.2.2.2.1)), (4, .row 39 (fl r3678.2.2.2.2.2.2.2)), (5, .row 25 [iS r3678.1, .own 2 0 r3678.2.2.2.2.2.1.length, bS r3678.2.1, .own 3 0 r3678.2.2.2.2.2.2.1.length, .own 4 0 r3678.2.2.2.2.2.2.2.length])] 6 (by kernel_rfl) ?_
          refine wk_id ?_
          refine cond_sx h (by kernel_rfl) (fun g3807 h => ?_) (fun g3807 h => ?_)
          · refine seq_np ?_
            refine reg_f ?_
            refine rs 1 [] [] (by kernel_rfl) allP_nil ?_
            refine rf [(4, bS false)] [(0, .row 3 (fl r3678.2.2.2.1)), (1, .row 3 (fl r3678.2.2.2.2.1)), (2, .row 3 (fl r3678.2.2.2.2.2.1)), (3, .row 39 (fl r3678.2.2.2.2.2.2.1)), (4, .row 39 (fl r3678.2.2.2.2.2.2.2)), (5, .row 25 [iS r3678.1, .own 2 0 r3678.2.2.2.2.2.1.length, bS r3678.2.1, .own 3 0 r3678.2.2.2.2.2.2.1.length, .own 4 0 r3678.2.2.2.2.2.2.2.length])] 6 (by kernel_rfl) ?_
            refine wk_id ?_
            obtain rfl := Option.some.inj h
            refine ret_at (bS false) (by kernel_rfl) ?_
            exact ret_e [] [] (by simp only [push_cast, seval]) (by simp only [push_cast, seval]) rfl rfl rfl
          · refine wk_id ?_
            refine seq_np ?_
            refine reg_t ?_
            refine rs 1 [] [] (by kernel_rfl) allP_nil ?_
            obtain ⟨r3684, hr3684, h⟩ := bind_sx h
            refine call_x (taskmilllaw_own_spec r3678.2.2.2.2.1 r3684 hr3684) (args := [.own 1 0 r3678.2.2.2.2.1.length]) (dst := (some 44)) (by kernel_rfl) [(0, .row 3 (fl r3678.2.2.2.1)), (1, .row 3 (fl r3678.2.2.2.2.1)), (2, .row 3 (fl r3678.2.2.2.2.2.1)), (3, .row 39 (fl r3678.2.2.2.2.2.2.1)), (4, .row 39 (fl r3678.2.2.2.2.2.2.2)), (5, .row 25 [iS r3678.1, .own 2 0 r3678.2.2.2.2.2.1.length, bS r3678.2.1, .own 3 0 r3678.2.2.2.2.2.2.1.length, .own 4 0 r3678.2.2.2.2.2.2.2.length])] 7 (by kernel_rfl) [] [1] (.own 7 0 r3684.length) [(7, .row 3 (fl r3684))] (by simp only [push_cast, seval]) (by simp only [push_cast, seval]) (by kernel_rfl) (.inr ⟨by simp only [push_cast, seval], by simp only [push_cast, seval]⟩) (by simp only [push_cast, seval]) (by simp only [push_cast, seval]) ?_
            refine chk_sx h (fun g3686 h => ?_)
            have k3685 : (r3684 ++ r3678.2.2.2.2.2.1).length * 8 ≤ 140737488355328 := by first | simpa only [Bool.and_eq_true, decide_eq_true_eq, bne_iff_ne, ne_eq] using g3686 | (simp at g3686 ⊢; omega)
            refine rs 4 [none, none, some ⟨.own 11 0 (r3684 ++ r3678.2.2.2.2.2.1).length, [(11, .row 3 (fl (r3684 ++ r3678.2.2.2.2.2.1))), (7, .dead)], 12, [7, 2]⟩] _ (by kernel_rfl) (allP_cons (ob_app (P := Try.prog) r3684 r3678.2.2.2.2.2.1 1 8 rfl (appCells (fl r3678.2.2.2.2.2.1) 0 (r3678.2.2.2.2.2.1.length * 1)) r3678.2.2.2.2.2.1.length (app_own r3678.2.2.2.2.2.1 1 rfl) rfl (0 + r3678.2.2.2.2.2.1.length * 1 ≤ (fl r3678.2.2.2.2.2.1).length) (app_own_le r3678.2.2.2.2.2.1 1 rfl) 3 (by kernel_rfl) (by decide) k3685 7 11 [2]) allP_nil) ?_
            refine rt [(5, .own 0 0 r3678.2.2.2.1.length), (9, .own 11 0 (r3684 ++ r3678.2.2.2.2.2.1).length)] [(0, .row 3 (fl r3678.2.2.2.1)), (1, .row 3 (fl r3678.2.2.2.2.1)), (2, .row 3 (fl r3678.2.2.2.2.2.1)), (3, .row 39 (fl r3678.2.2.2.2.2.2.1)), (4, .row 39 (fl r3678.2.2.2.2.2.2.2)), (5, .row 25 [iS r3678.1, .own 2 0 r3678.2.2.2.2.2.1.length, bS r3678.2.1, .own 3 0 r3678.2.2.2.2.2.2.1.length, .own 4 0 r3678.2.2.2.2.2.2.2.length]), (7, .dead), (11, .row 3 (fl (r3684 ++ r3678.2.2.2.2.2.1)))] 14 follows (by kernel_rfl) ?_
            refine wk_id ?_
            refine seq_np ?_
            refine seq_np ?_
            refine reg_f ?_
            refine rs 1 [] [] (by kernel_rfl) allP_nil ?_
            refine rf [(5, .own 0 0 r3678.2.2.2.1.length), (9, .own 11 0 (r3684 ++ r3678.2.2.2.2.2.1).length), (10, iS 0)] [(0, .row 3 (fl r3678.2.2.2.1)), (1, .row 3 (fl r3678.2.2.2.2.1)), (2, .row 3 (fl r3678.2.2.2.2.2.1)), (3, .row 39 (fl r3678.2.2.2.2.2.2.1)), (4, .row 39 (fl r3678.2.2.2.2.2.2.2)), (5, .row 25 [iS r3678.1, .own 2 0 r3678.2.2.2.2.2.1.length, bS r3678.2.1, .own 3 0 r3678.2.2.2.2.2.2.1.length, .own 4 0 r3678.2.2.2.2.2.2.2.length]), (7, .dead), (11, .row 3 (fl (r3684 ++ r3678.2.2.2.2.2.1)))] 14 (by kernel_rfl) ?_
            refine wk_id ?_
            refine block_np ?_
            refine loop_sx (S := Int × (List Int) × (List Int)) (fun a => ([(5, .own 0 0 a.2.1.length), (9, .own 1 0 a.2.2.length), (10, iS a.1)], [(0, .row 3 (fl a.2.1)), (1, .row 3 (fl a.2.2))], 2)) h (leSt_m [(0, 0), (1, 11)] [] (by simp only [push_cast, seval]) (by simp only [push_cast, seval]) rfl rfl rfl) ?_
            rintro ⟨i7, c0q11, c1q11⟩ o2 R2 h hr2 hn2 hx2 ht2
            try dsimp only at h hn2 ⊢
            unfold taskmilllaw_PipeOrder_l1 at h
            try dsimp only at h
            refine seq_np ?_
            refine seq_np ?_
            refine reg_f ?_
            refine rs 4 [] [] (by kernel_rfl) allP_nil ?_
            refine rf [(5, .own 0 0 c0q11.length), (9, .own 1 0 c1q11.length), (10, iS i7), (51, bS (decide (i7 < ((c1q11.length : Nat) : Int))))] [(0, .row 3 (fl c0q11)), (1, .row 3 (fl c1q11))] 2 (by kernel_rfl) ?_
            refine wk_id ?_
            refine cond_sx h (by kernel_rfl) (fun g3806 h => ?_) (fun g3806 h => ?_)
            · refine wk_id ?_
              refine seq_np ?_
              refine block_np ?_
              refine seq_np ?_
              refine chk_sx h (fun g3795 h => ?_)
              refine chk_sx h (fun g3797 h => ?_)
              refine seq_cut (A := Unit) (fun _ => ([(5, .own 0 0 c0q11.length), (9, .own 1 0 c1q11.length), (10, iS i7), (67, bS ((decide ((0 : Int) < i7)) && (decide ((ix c1q11 i7) ≤ (ix c1q11 (IntKind.i64.wrap (i7 - 1)))))))], [(0, .row 3 (fl c0q11)), (1, .row 3 (fl c1q11))], 16)) (fun _ => True) (fun K3792 hK3792 => ?_) (fun _ _ => ?_)
              · refine reg_t ?_
                refine rs 3 [] [] (by kernel_rfl) allP_nil ?_
                refine run_split 56 (decide ((0 : Int) < i7)) (.inl (by kernel_rfl)) (fun g3793 => ?_) (fun g3793 => ?_)
                · have k3794 : 0 ≤ (IntKind.i64.wrap (i7 - 1)) ∧ (IntKind.i64.wrap (i7 - 1)) < ((c1q11.length : Nat) : Int) := by have e := or_use g3795 (by first | ((try simp only [g3793]) <;> rfl) | ((try simp only [g3793]); rfl) | (exfalso; clear h; simp_all; done)); first | simpa only [Bool.and_eq_true, decide_eq_true_eq, bne_iff_ne, ne_eq] using e | (simp at e ⊢; omega)
                  have k3796 : 0 ≤ i7 ∧ i7 < ((c1q11.length : Nat) : Int) := by have e := or_use g3797 (by first | ((try simp only [g3793]) <;> rfl) | ((try simp only [g3793]); rfl) | (exfalso; clear h; simp_all; done)); first | simpa only [Bool.and_eq_true, decide_eq_true_eq, bne_iff_ne, ne_eq] using e | (simp at e ⊢; omega)
                  refine rs 11 [none, none, none, some ⟨.ptr 1 (0 + ((IntKind.i64.wrap (i7 - 1))).toNat * 1), [], 8, [1]⟩, some ⟨iS (ix c1q11 (IntKind.i64.wrap (i7 - 1))), [], 9, [1]⟩, none, none, some ⟨.ptr 1 (0 + (i7).toNat * 1), [], 12, [1]⟩, some ⟨iS (ix c1q11 i7), [], 13, [1]⟩] _ (by kernel_rfl) (allP_cons (ob_ld c1q11 i7 1 0 (0 + (i7).toNat * 1) k3796 rfl (by decide) (by first | rfl | omega) (dflS Try.prog 3) (iS (ix c1q11 i7)) rfl 13 [1]) (allP_cons (ob_ix_o 1 c1q11.length 0 1 12 i7 k3796) (allP_cons (ob_ld c1q11 (IntKind.i64.wrap (i7 - 1)) 1 0 (0 + ((IntKind.i64.wrap (i7 - 1))).toNat * 1) k3794 rfl (by decide) (by first | rfl | omega) (dflS Try.prog 3) (iS (ix c1q11 (IntKind.i64.wrap (i7 - 1)))) rfl 9 [1]) (allP_cons (ob_ix_o 1 c1q11.length 0 1 8 (IntKind.i64.wrap (i7 - 1)) k3794) allP_nil)))) ?_
                  refine rt [(5, .own 0 0 c0q11.length), (9, .own 1 0 c1q11.length), (10, iS i7), (67, bS (decide ((ix c1q11 i7) ≤ (ix c1q11 (IntKind.i64.wrap (i7 - 1))))))] [(0, .row 3 (fl c0q11)), (1, .row 3 (fl c1q11))] 16 follows (by kernel_rfl) ?_
                  exact hK3792 () _ _ _ trivial (leSt_m [(0, 0), (1, 1)] [] (by (try simp only [g3793]) <;> simp only [push_cast, seval]) (by (try simp only [g3793]) <;> simp only [push_cast, seval]) rfl rfl rfl)
                · refine rs 11 [] [] (by kernel_rfl) allP_nil ?_
                  refine rt [(5, .own 0 0 c0q11.length), (9, .own 1 0 c1q11.length), (10, iS i7), (67, bS false)] [(0, .row 3 (fl c0q11)), (1, .row 3 (fl c1q11))] 16 follows (by kernel_rfl) ?_
                  exact hK3792 () _ _ _ trivial (leSt_m [(0, 0), (1, 1)] [] (by (try simp only [g3793]) <;> simp only [push_cast, seval]) (by (try simp only [g3793]) <;> simp only [push_cast, seval]) rfl rfl rfl)
              · dsimp only
                refine cond_sx h (by kernel_rfl) (fun g3805 h => ?_) (fun g3805 h => ?_)
                · refine seq_np ?_
                  refine reg_f ?_
                  refine rs 1 [] [] (by kernel_rfl) allP_nil ?_
                  refine rf [(4, bS false)] [(0, .row 3 (fl c0q11)), (1, .row 3 (fl c1q11))] 16 (by kernel_rfl) ?_
                  refine wk_id ?_
                  refine rt_cast ht2 ?_
                  obtain ⟨r0, h, e0⟩ := map_sx h
                  have e1 := hr2 r0 e0.symm
                  subst r0
                  obtain rfl := Option.some.inj h
                  refine ret_at (bS false) (by kernel_rfl) ?_
                  exact ret_e [] [] (by simp only [push_cast, seval]) (by simp only [push_cast, seval]) rfl rfl rfl
                · refine wk_id ?_
                  refine chk_sx h (fun g3802 h => ?_)
                  refine seq_np ?_
                  refine reg_f ?_
                  have k3801 : 0 ≤ i7 ∧ i7 < ((c1q11.length : Nat) : Int) := by first | simpa only [Bool.and_eq_true, decide_eq_true_eq, bne_iff_ne, ne_eq] using g3802 | (simp at g3802 ⊢; omega)
                  refine rs 5 [none, none, none, some ⟨.ptr 1 (0 + (i7).toNat * 1), [], 16, [1]⟩, some ⟨iS (ix c1q11 i7), [], 16, [1]⟩] _ (by kernel_rfl) (allP_cons (ob_ld c1q11 i7 1 0 (0 + (i7).toNat * 1) k3801 rfl (by decide) (by first | rfl | omega) (dflS Try.prog 3) (iS (ix c1q11 i7)) rfl 16 [1]) (allP_cons (ob_ix_o 1 c1q11.length 0 1 16 i7 k3801) allP_nil)) ?_
                  obtain ⟨r3803, hr3803, h⟩ := bind_sx h
                  refine call_x (taskmillref_Has_spec c0q11 (ix c1q11 i7) r3803 hr3803) (args := [.own 0 0 c0q11.length, iS (ix c1q11 i7)]) (dst := (some 73)) (by kernel_rfl) [(0, .row 3 (fl c0q11)), (1, .row 3 (fl c1q11))] 16 (by kernel_rfl) [] [0] (bS r3803) [] (by simp only [push_cast, seval]) (by simp only [push_cast, seval]) (by kernel_rfl) (.inr ⟨by simp only [push_cast, seval], by simp only [push_cast, seval]⟩) (by simp only [push_cast, seval]) (by simp only [push_cast, seval]) ?_
                  refine rs 1 [] [] (by kernel_rfl) allP_nil ?_
                  refine rf [(5, .own 0 0 c0q11.length), (9, .own 1 0 c1q11.length), (10, iS i7), (74, bS (!r3803))] [(0, .row 3 (fl c0q11)), (1, .row 3 (fl c1q11))] 16 (by kernel_rfl) ?_
                  refine wk_id ?_
                  refine cond_sx h (by kernel_rfl) (fun g3804 h => ?_) (fun g3804 h => ?_)
                  · refine seq_np ?_
                    refine reg_f ?_
                    refine rs 1 [] [] (by kernel_rfl) allP_nil ?_
                    refine rf [(4, bS false)] [(0, .row 3 (fl c0q11)), (1, .row 3 (fl c1q11))] 16 (by kernel_rfl) ?_
                    refine wk_id ?_
                    refine rt_cast ht2 ?_
                    obtain ⟨r0, h, e0⟩ := map_sx h
                    have e1 := hr2 r0 e0.symm
                    subst r0
                    obtain rfl := Option.some.inj h
                    refine ret_at (bS false) (by kernel_rfl) ?_
                    exact ret_e [] [] (by simp only [push_cast, seval]) (by simp only [push_cast, seval]) rfl rfl rfl
                  · refine wk_id ?_
                    refine wk_id ?_
                    refine reg_f ?_
                    refine rs 3 [] [] (by kernel_rfl) allP_nil ?_
                    refine rf [(5, .own 0 0 c0q11.length), (9, .own 1 0 c1q11.length), (10, iS (IntKind.i64.wrap (i7 + 1)))] [(0, .row 3 (fl c0q11)), (1, .row 3 (fl c1q11))] 16 (by kernel_rfl) ?_
                    exact hn2 ((IntKind.i64.wrap (i7 + 1)), c0q11, c1q11) _ _ _ (Option.some.inj h).symm (leSt_m [(0, 0), (1, 1)] [] (by simp only [push_cast, seval]) (by simp only [push_cast, seval]) rfl rfl rfl)
            · change R2 (.exit 0) _ _ _
              refine ex_cast hx2 (id := 0) ?_
              obtain ⟨r0, h, e0⟩ := map_sx h
              have e1 := hr2 r0 e0.symm
              subst r0
              refine wk_id ?_
              refine wk_id ?_
              refine seq_np ?_
              refine reg_f ?_
              refine rs 1 [] [] (by kernel_rfl) allP_nil ?_
              refine rf [(4, bS true)] [(0, .row 3 (fl c0q11)), (1, .row 3 (fl c1q11))] 2 (by kernel_rfl) ?_
              refine wk_id ?_
              obtain rfl := Option.some.inj h
              refine ret_at (bS true) (by kernel_rfl) ?_
              exact ret_e [] [] (by simp only [push_cast, seval]) (by simp only [push_cast, seval]) rfl rfl rfl

set_option maxRecDepth 100000 in
set_option maxHeartbeats 10000000 in
theorem taskmilllaw_PipeNobody_spec (capacity : Int) (moves : (List Int)) (r : Bool) (h : taskmilllaw_PipeNobody capacity moves = some r) : SpecW Try.prog 6 [iS capacity, .sl moves.length (fl moves)] [] 0 (fun x h n => x = bS r ∧ h = [] ∧ n = 0) := by
  unfold taskmilllaw_PipeNobody at h
  refine spec_of (draw_ok _) Try.func6 rfl (by decide) rfl (by kernel_rfl) ?_
  refine seq_np ?_
  refine reg_f ?_
  refine rs 1 [] [] (by kernel_rfl) allP_nil ?_
  refine rf [(0, iS capacity), (1, .sl moves.length (fl moves))] [] 0 (by kernel_rfl) ?_
  refine wk_id ?_
  refine seq_np ?_
  refine seq_np ?_
  refine reg_f ?_
  obtain ⟨r3828, hr3828, h⟩ := bind_sx h
  refine run_call 10 [] (some 9) (by kernel_rfl) ?_
  refine call_0 (taskmilllaw_pipeBegun_spec r3828 hr3828) (by simp only [push_cast, seval]) (by simp only [push_cast, seval]) ?_
  refine back_f ?_
  refine rs 1 [] [] (by kernel_rfl) allP_nil ?_
  refine rf [(0, iS capacity), (1, .sl moves.length (fl moves)), (10, bS (!r3828))] [] 0 (by kernel_rfl) ?_
  refine wk_id ?_
  refine cond_sx h (by kernel_rfl) (fun g3859 h => ?_) (fun g3859 h => ?_)
  · refine seq_np ?_
    refine reg_f ?_
    refine rs 1 [] [] (by kernel_rfl) allP_nil ?_
    refine rf [(4, bS false)] [] 0 (by kernel_rfl) ?_
    refine wk_id ?_
    obtain rfl := Option.some.inj h
    refine ret_at (bS false) (by kernel_rfl) ?_
    exact ret_e [] [] (by simp only [push_cast, seval]) (by simp only [push_cast, seval]) rfl rfl rfl
  · refine wk_id ?_
    refine seq_np ?_
    refine seq_cut (A := Unit) (fun _ => ([(0, iS capacity), (1, .sl moves.length (fl moves)), (21, bS ((decide (capacity < 0)) || ((decide ((50 : Int) < capacity)) || (decide ((300 : Int) < ((moves.length : Nat) : Int))))))], [], 0)) (fun _ => True) (fun K3834 hK3834 => ?_) (fun _ _ => ?_)
    · refine reg_f ?_
      refine rs 3 [] [] (by kernel_rfl) allP_nil ?_
      refine run_split 13 (decide (capacity < 0)) (.inl (by kernel_rfl)) (fun g3835 => ?_) (fun g3835 => ?_)
      · refine rs 8 [] [] (by kernel_rfl) allP_nil ?_
        refine rf [(0, iS capacity), (1, .sl moves.length (fl moves)), (21, bS true)] [] 0 (by kernel_rfl) ?_
        exact hK3834 () _ _ _ trivial (leSt_m [] [] (by (try simp only [g3835]) <;> simp only [push_cast, seval]) (by (try simp only [g3835]) <;> simp only [push_cast, seval]) rfl rfl rfl)
      · refine rs 4 [] [] (by kernel_rfl) allP_nil ?_
        refine run_split 17 (decide ((50 : Int) < capacity)) (.inl (by kernel_rfl)) (fun g3836 => ?_) (fun g3836 => ?_)
        · refine rs 4 [] [] (by kernel_rfl) allP_nil ?_
          refine rf [(0, iS capacity), (1, .sl moves.length (fl moves)), (21, bS true)] [] 0 (by kernel_rfl) ?_
          exact hK3834 () _ _ _ trivial (leSt_m [] [] (by first | ((try simp only [g3835, g3836]) <;> simp only [push_cast, seval]; done) | ((try simp only [g3835]); (try simp only [g3836]); simp only [push_cast, seval]; done) | (exfalso; clear h; simp_all; done)) (by first | ((try simp only [g3835, g3836]) <;> simp only [push_cast, seval]; done) | ((try simp only [g3835]); (try simp only [g3836]); simp only [push_cast, seval]; done) | (exfalso; clear h; simp_all; done)) rfl rfl rfl)
        · refine rs 4 [] [] (by kernel_rfl) allP_nil ?_
          refine rf [(0, iS capacity), (1, .sl moves.length (fl moves)), (21, bS (decide ((300 : Int) < ((moves.length : Nat) : Int))))] [] 0 (by kernel_rfl) ?_
          exact hK3834 () _ _ _ trivial (leSt_m [] [] (by first | ((try simp only [g3835, g3836]) <;> simp only [push_cast, seval]; done) | ((try simp only [g3835]); (try simp only [g3836]); simp only [push_cast, seval]; done) | (exfalso; clear h; simp_all; done)) (by first | ((try simp only [g3835, g3836]) <;> simp only [push_cast, seval]; done) | ((try simp only [g3835]); (try simp only [g3836]); simp only [push_cast, seval]; done) | (exfalso; clear h; simp_all; done)) rfl rfl rfl)
    · dsimp only
      refine cond_sx h (by kernel_rfl) (fun g3858 h => ?_) (fun g3858 h => ?_)
      · refine seq_np ?_
        refine reg_f ?_
        refine rs 1 [] [] (by kernel_rfl) allP_nil ?_
        refine rf [(4, bS true)] [] 0 (by kernel_rfl) ?_
        refine wk_id ?_
        obtain rfl := Option.some.inj h
        refine ret_at (bS true) (by kernel_rfl) ?_
        exact ret_e [] [] (by simp only [push_cast, seval]) (by simp only [push_cast, seval]) rfl rfl rfl
      · refine wk_id ?_
        refine seq_np ?_
        refine reg_f ?_
        refine rs 2 [] [] (by kernel_rfl) allP_nil ?_
        obtain ⟨r3838, hr3838, h⟩ := bind_sx h
        refine call_x (taskmilllaw_played_spec capacity moves r3838 hr3838) (args := [iS capacity, .sl moves.length (fl moves)]) (dst := (some 25)) (by kernel_rfl) [] 0 (by kernel_rfl) [] [] (.tup [.own 0 0 r3838.2.2.2.1.length, .own 1 0 r3838.2.2.2.2.1.length, .agg [iS r3838.1, .own 2 0 r3838.2.2.2.2.2.1.length, bS r3838.2.1, .own 3 0 r3838.2.2.2.2.2.2.1.length, .own 4 0 r3838.2.2.2.2.2.2.2.length], bS r3838.2.2.1]) [(0, .row 3 (fl r3838.2.2.2.1)), (1, .row 3 (fl r3838.2.2.2.2.1)), (2, .row 3 (fl r3838.2.2.2.2.2.1)), (3, .row 39 (fl r3838.2.2.2.2.2.2.1)), (4, .row 39 (fl r3838.2.2.2.2.2.2.2))] (by simp only [push_cast, seval]) (by simp only [push_cast, seval]) (by kernel_rfl) (.inl rfl) (by simp only [push_cast, seval]) (by simp only [push_cast, seval]) ?_
        refine rs 10 [] [] (by kernel_rfl) allP_nil ?_
        refine rf [(0, iS capacity), (7, .ptr 5 0), (8, bS r3838.2.2.1)] [(0, .row 3 (fl r3838.2.2.2.1)), (1, .row 3 (fl r3838.2.2.2.2.1)), (2, .row 3 (fl r3838.2.2.2.2.2.1)), (3, .row 39 (fl r3838.2.2.2.2.2.2.1)), (4, .row 39 (fl r3838.2.2.2.2.2.2.2)), (5, .row 25 [iS r3838.1, .own 2 0 r3838.2.2.2.2.2.1.length, bS r3838.2.1, .own 3 0 r3838.2.2.2.2.2.2.1.length, .own 4 0 r3838.2.2.2.2.2.2.2.length])] 6 (by kernel_rfl) ?_
        refine wk_id ?_
        refine seq_np ?_
        refine seq_np ?_
        refine reg_f ?_
        refine rs 2 [] [] (by kernel_rfl) allP_nil ?_
        refine rf [(0, iS capacity), (7, .ptr 5 0), (31, bS (!r3838.2.2.1))] [(0, .row 3 (fl r3838.2.2.2.1)), (1, .row 3 (fl r3838.2.2.2.2.1)), (2, .row 3 (fl r3838.2.2.2.2.2.1)), (3, .row 39 (fl r3838.2.2.2.2.2.2.1)), (4, .row 39 (fl r3838.2.2.2.2.2.2.2)), (5, .row 25 [iS r3838.1, .own 2 0 r3838.2.2.2.2.2.1.length, bS r3838.2.1, .own 3 0 r3838.2.2.2.2.2.2.1.length, .own 4 0 r3838.2.2.2.2.2.2.2.length])] 6 (by kernel_rfl) ?_
        refine wk_id ?_
        refine cond_sx h (by kernel_rfl) (fun g3857 h => ?_) (fun g3857 h => ?_)
        · refine seq_np ?_
          refine reg_f ?_
          refine rs 1 [] [] (by kernel_rfl) allP_nil ?_
          refine rf [(4, bS false)] [(0, .row 3 (fl r3838.2.2.2.1)), (1, .row 3 (fl r3838.2.2.2.2.1)), (2, .row 3 (fl r3838.2.2.2.2.2.1)), (3, .row 39 (fl r3838.2.2.2.2.2.2.1)), (4, .row 39 (fl r3838.2.2.2.2.2.2.2)), (5, .row 25 [iS r3838.1, .own 2 0 r3838.2.2.2.2.2.1.length, bS r3838.2.1, .own 3 0 r3838.2.2.2.2.2.2.1.length, .own 4 0 r3838.2.2.2.2.2.2.2.length])] 6 (by kernel_rfl) ?_
          refine wk_id ?_
          obtain rfl := Option.some.inj h
          refine ret_at (bS false) (by kernel_rfl) ?_
          exact ret_e [] [] (by simp only [push_cast, seval]) (by simp only [push_cast, seval]) rfl rfl rfl
        · refine wk_id ?_
          refine seq_np ?_
          refine seq_cut (A := Unit) (fun _ => ([(0, iS capacity), (7, .ptr 5 0), (43, bS (r3838.2.1 && (decide ((0 : Int) < (IntKind.i64.wrap (((r3838.2.2.2.2.2.2.1.length : Nat) : Int) + ((r3838.2.2.2.2.2.2.2.length : Nat) : Int)))))))], [(0, .row 3 (fl r3838.2.2.2.1)), (1, .row 3 (fl r3838.2.2.2.2.1)), (2, .row 3 (fl r3838.2.2.2.2.2.1)), (3, .row 39 (fl r3838.2.2.2.2.2.2.1)), (4, .row 39 (fl r3838.2.2.2.2.2.2.2)), (5, .row 25 [iS r3838.1, .own 2 0 r3838.2.2.2.2.2.1.length, bS r3838.2.1, .own 3 0 r3838.2.2.2.2.2.2.1.length, .own 4 0 r3838.2.2.2.2.2.2.2.length])], 6)) (fun _ => True) (fun K3843 hK3843 => ?_) (fun _ _ => ?_)
          · refine reg_f ?_
            refine rs 3 [] [] (by kernel_rfl) allP_nil ?_
            refine run_split 34 r3838.2.1 (.inl (by kernel_rfl)) (fun g3844 => ?_) (fun g3844 => ?_)
            · refine rs 9 [] [] (by kernel_rfl) allP_nil ?_
              refine rf [(0, iS capacity), (7, .ptr 5 0), (43, bS (decide ((0 : Int) < (IntKind.i64.wrap (((r3838.2.2.2.2.2.2.1.length : Nat) : Int) + ((r3838.2.2.2.2.2.2.2.length : Nat) : Int))))))] [(0, .row 3 (fl r3838.2.2.2.1)), (1, .row 3 (fl r3838.2.2.2.2.1)), (2, .row 3 (fl r3838.2.2.2.2.2.1)), (3, .row 39 (fl r3838.2.2.2.2.2.2.1)), (4, .row 39 (fl r3838.2.2.2.2.2.2.2)), (5, .row 25 [iS r3838.1, .own 2 0 r3838.2.2.2.2.2.1.length, bS r3838.2.1, .own 3 0 r3838.2.2.2.2.2.2.1.length, .own 4 0 r3838.2.2.2.2.2.2.2.length])] 6 (by kernel_rfl) ?_
              exact hK3843 () _ _ _ trivial (leSt_m [(0, 0), (1, 1), (2, 2), (3, 3), (4, 4), (5, 5)] [] (by (try simp only [g3844]) <;> simp only [push_cast, seval]) (by (try simp only [g3844]) <;> simp only [push_cast, seval]) rfl rfl rfl)
            · refine rs 9 [] [] (by kernel_rfl) allP_nil ?_
              refine rf [(0, iS capacity), (7, .ptr 5 0), (43, bS false)] [(0, .row 3 (fl r3838.2.2.2.1)), (1, .row 3 (fl r3838.2.2.2.2.1)), (2, .row 3 (fl r3838.2.2.2.2.2.1)), (3, .row 39 (fl r3838.2.2.2.2.2.2.1)), (4, .row 39 (fl r3838.2.2.2.2.2.2.2)), (5, .row 25 [iS r3838.1, .own 2 0 r3838.2.2.2.2.2.1.length, bS r3838.2.1, .own 3 0 r3838.2.2.2.2.2.2.1.length, .own 4 0 r3838.2.2.2.2.2.2.2.length])] 6 (by kernel_rfl) ?_
              exact hK3843 () _ _ _ trivial (leSt_m [(0, 0), (1, 1), (2, 2), (3, 3), (4, 4), (5, 5)] [] (by (try simp only [g3844]) <;> simp only [push_cast, seval]) (by (try simp only [g3844]) <;> simp only [push_cast, seval]) rfl rfl rfl)
          · dsimp only
            refine cond_sx h (by kernel_rfl) (fun g3856 h => ?_) (fun g3856 h => ?_)
            · refine seq_np ?_
              refine reg_f ?_
              refine rs 1 [] [] (by kernel_rfl) allP_nil ?_
              refine rf [(4, bS false)] [(0, .row 3 (fl r3838.2.2.2.1)), (1, .row 3 (fl r3838.2.2.2.2.1)), (2, .row 3 (fl r3838.2.2.2.2.2.1)), (3, .row 39 (fl r3838.2.2.2.2.2.2.1)), (4, .row 39 (fl r3838.2.2.2.2.2.2.2)), (5, .row 25 [iS r3838.1, .own 2 0 r3838.2.2.2.2.2.1.length, bS r3838.2.1, .own 3 0 r3838.2.2.2.2.2.2.1.length, .own 4 0 r3838.2.2.2.2.2.2.2.length])] 6 (by kernel_rfl) ?_
              refine wk_id ?_
              obtain rfl := Option.some.inj h
              refine ret_at (bS false) (by kernel_rfl) ?_
              exact ret_e [] [] (by simp only [push_cast, seval]) (by simp only [push_cast, seval]) rfl rfl rfl
            · refine wk_id ?_
              refine seq_cut (A := Unit) (fun _ => ([(4, bS (bif (((r3838.2.2.2.2.2.2.1.length : Nat) : Int) == 0) then ((((r3838.2.2.2.2.2.2.2.length : Nat) : Int) == 0) || (((r3838.2.2.2.2.2.1.length : Nat) : Int) == 0)) else ((((r3838.2.2.2.2.2.1.length : Nat) : Int) == capacity) && ((((r3838.2.2.2.2.2.2.2.length : Nat) : Int) == 0) && ((((r3838.2.2.2.2.2.2.2.length : Nat) : Int) == 0) || (((r3838.2.2.2.2.2.1.length : Nat) : Int) == 0))))))], [(0, .row 3 (fl r3838.2.2.2.1)), (1, .row 3 (fl r3838.2.2.2.2.1)), (2, .row 3 (fl r3838.2.2.2.2.2.1)), (3, .row 39 (fl r3838.2.2.2.2.2.2.1)), (4, .row 39 (fl r3838.2.2.2.2.2.2.2)), (5, .row 25 [iS r3838.1, .own 2 0 r3838.2.2.2.2.2.1.length, bS r3838.2.1, .own 3 0 r3838.2.2.2.2.2.2.1.length, .own 4 0 r3838.2.2.2.2.2.2.2.length])], 6)) (fun _ => True) (fun K3850 hK3850 => ?_) (fun _ _ => ?_)
              · refine reg_f ?_
                refine rs 5 [] [] (by kernel_rfl) allP_nil ?_
                refine run_split 48 (((r3838.2.2.2.2.2.2.1.length : Nat) : Int) == 0) (.inl (by kernel_rfl)) (fun g3851 => ?_) (fun g3851 => ?_)
                · refine rs 18 [] [] (by kernel_rfl) allP_nil ?_
                  refine run_split 66 (((r3838.2.2.2.2.2.2.2.length : Nat) : Int) == 0) (.inr (by kernel_rfl)) (fun g3852 => ?_) (fun g3852 => ?_)
                  · refine rs 7 [] [] (by kernel_rfl) allP_nil ?_
                    refine rf [(4, bS true)] [(0, .row 3 (fl r3838.2.2.2.1)), (1, .row 3 (fl r3838.2.2.2.2.1)), (2, .row 3 (fl r3838.2.2.2.2.2.1)), (3, .row 39 (fl r3838.2.2.2.2.2.2.1)), (4, .row 39 (fl r3838.2.2.2.2.2.2.2)), (5, .row 25 [iS r3838.1, .own 2 0 r3838.2.2.2.2.2.1.length, bS r3838.2.1, .own 3 0 r3838.2.2.2.2.2.2.1.length, .own 4 0 r3838.2.2.2.2.2.2.2.length])] 6 (by kernel_rfl) ?_
                    exact hK3850 () _ _ _ trivial (leSt_m [(0, 0), (1, 1), (2, 2), (3, 3), (4, 4), (5, 5)] [] (by first | ((try simp only [g3851, g3852]) <;> simp only [push_cast, seval]; done) | ((try simp only [g3851]); (try simp only [g3852]); simp only [push_cast, seval]; done) | (exfalso; clear h; simp_all; done)) (by first | ((try simp only [g3851, g3852]) <;> simp only [push_cast, seval]; done) | ((try simp only [g3851]); (try simp only [g3852]); simp only [push_cast, seval]; done) | (exfalso; clear h; simp_all; done)) rfl rfl rfl)
                  · refine rs 7 [] [] (by kernel_rfl) allP_nil ?_
                    refine rf [(4, bS (((r3838.2.2.2.2.2.1.length : Nat) : Int) == 0))] [(0, .row 3 (fl r3838.2.2.2.1)), (1, .row 3 (fl r3838.2.2.2.2.1)), (2, .row 3 (fl r3838.2.2.2.2.2.1)), (3, .row 39 (fl r3838.2.2.2.2.2.2.1)), (4, .row 39 (fl r3838.2.2.2.2.2.2.2)), (5, .row 25 [iS r3838.1, .own 2 0 r3838.2.2.2.2.2.1.length, bS r3838.2.1, .own 3 0 r3838.2.2.2.2.2.2.1.length, .own 4 0 r3838.2.2.2.2.2.2.2.length])] 6 (by kernel_rfl) ?_
                    exact hK3850 () _ _ _ trivial (leSt_m [(0, 0), (1, 1), (2, 2), (3, 3), (4, 4), (5, 5)] [] (by first | ((try simp only [g3851, g3852]) <;> simp only [push_cast, seval]; done) | ((try simp only [g3851]); (try simp only [g3852]); simp only [push_cast, seval]; done) | (exfalso; clear h; simp_all; done)) (by first | ((try simp only [g3851, g3852]) <;> simp only [push_cast, seval]; done) | ((try simp only [g3851]); (try simp only [g3852]); simp only [push_cast, seval]; done) | (exfalso; clear h; simp_all; done)) rfl rfl rfl)
                · refine rs 6 [] [] (by kernel_rfl) allP_nil ?_
                  refine run_split 54 (((r3838.2.2.2.2.2.1.length : Nat) : Int) == capacity) (.inr (by kernel_rfl)) (fun g3853 => ?_) (fun g3853 => ?_)
                  · refine rs 7 [] [] (by kernel_rfl) allP_nil ?_
                    refine run_split 61 (((r3838.2.2.2.2.2.2.2.length : Nat) : Int) == 0) (.inl (by kernel_rfl)) (fun g3854 => ?_) (fun g3854 => ?_)
                    · refine rn 18 [(7, .ptr 5 0), (61, bS true)] [(0, .row 3 (fl r3838.2.2.2.1)), (1, .row 3 (fl r3838.2.2.2.2.1)), (2, .row 3 (fl r3838.2.2.2.2.2.1)), (3, .row 39 (fl r3838.2.2.2.2.2.2.1)), (4, .row 39 (fl r3838.2.2.2.2.2.2.2)), (5, .row 25 [iS r3838.1, .own 2 0 r3838.2.2.2.2.2.1.length, bS r3838.2.1, .own 3 0 r3838.2.2.2.2.2.2.1.length, .own 4 0 r3838.2.2.2.2.2.2.2.length])] 6 (by kernel_rfl) ?_
                      refine rs 5 [] [] (by kernel_rfl) allP_nil ?_
                      refine run_split 66 (((r3838.2.2.2.2.2.2.2.length : Nat) : Int) == 0) (.inr (by kernel_rfl)) (fun g3855 => ?_) (fun g3855 => ?_)
                      · refine rs 7 [] [] (by kernel_rfl) allP_nil ?_
                        refine rf [(4, bS true)] [(0, .row 3 (fl r3838.2.2.2.1)), (1, .row 3 (fl r3838.2.2.2.2.1)), (2, .row 3 (fl r3838.2.2.2.2.2.1)), (3, .row 39 (fl r3838.2.2.2.2.2.2.1)), (4, .row 39 (fl r3838.2.2.2.2.2.2.2)), (5, .row 25 [iS r3838.1, .own 2 0 r3838.2.2.2.2.2.1.length, bS r3838.2.1, .own 3 0 r3838.2.2.2.2.2.2.1.length, .own 4 0 r3838.2.2.2.2.2.2.2.length])] 6 (by kernel_rfl) ?_
                        exact hK3850 () _ _ _ trivial (leSt_m [(0, 0), (1, 1), (2, 2), (3, 3), (4, 4), (5, 5)] [] (by first | ((try simp only [g3851, g3853, g3854, g3855]) <;> simp only [push_cast, seval]; done) | ((try simp only [g3851]); (try simp only [g3853]); (try simp only [g3854]); (try simp only [g3855]); simp only [push_cast, seval]; done) | (exfalso; clear h; simp_all; done)) (by first | ((try simp only [g3851, g3853, g3854, g3855]) <;> simp only [push_cast, seval]; done) | ((try simp only [g3851]); (try simp only [g3853]); (try simp only [g3854]); (try simp only [g3855]); simp only [push_cast, seval]; done) | (exfalso; clear h; simp_all; done)) rfl rfl rfl)
                      · refine rs 7 [] [] (by kernel_rfl) allP_nil ?_
                        refine rf [(4, bS (((r3838.2.2.2.2.2.1.length : Nat) : Int) == 0))] [(0, .row 3 (fl r3838.2.2.2.1)), (1, .row 3 (fl r3838.2.2.2.2.1)), (2, .row 3 (fl r3838.2.2.2.2.2.1)), (3, .row 39 (fl r3838.2.2.2.2.2.2.1)), (4, .row 39 (fl r3838.2.2.2.2.2.2.2)), (5, .row 25 [iS r3838.1, .own 2 0 r3838.2.2.2.2.2.1.length, bS r3838.2.1, .own 3 0 r3838.2.2.2.2.2.2.1.length, .own 4 0 r3838.2.2.2.2.2.2.2.length])] 6 (by kernel_rfl) ?_
                        exact hK3850 () _ _ _ trivial (leSt_m [(0, 0), (1, 1), (2, 2), (3, 3), (4, 4), (5, 5)] [] (by first | ((try simp only [g3851, g3853, g3854, g3855]) <;> simp only [push_cast, seval]; done) | ((try simp only [g3851]); (try simp only [g3853]); (try simp only [g3854]); (try simp only [g3855]); simp only [push_cast, seval]; done) | (exfalso; clear h; simp_all; done)) (by first | ((try simp only [g3851, g3853, g3854, g3855]) <;> simp only [push_cast, seval]; done) | ((try simp only [g3851]); (try simp only [g3853]); (try simp only [g3854]); (try simp only [g3855]); simp only [push_cast, seval]; done) | (exfalso; clear h; simp_all; done)) rfl rfl rfl)
                    · refine rn 18 [(7, .ptr 5 0), (61, bS false)] [(0, .row 3 (fl r3838.2.2.2.1)), (1, .row 3 (fl r3838.2.2.2.2.1)), (2, .row 3 (fl r3838.2.2.2.2.2.1)), (3, .row 39 (fl r3838.2.2.2.2.2.2.1)), (4, .row 39 (fl r3838.2.2.2.2.2.2.2)), (5, .row 25 [iS r3838.1, .own 2 0 r3838.2.2.2.2.2.1.length, bS r3838.2.1, .own 3 0 r3838.2.2.2.2.2.2.1.length, .own 4 0 r3838.2.2.2.2.2.2.2.length])] 6 (by kernel_rfl) ?_
                      refine rs 12 [] [] (by kernel_rfl) allP_nil ?_
                      refine rf [(4, bS false)] [(0, .row 3 (fl r3838.2.2.2.1)), (1, .row 3 (fl r3838.2.2.2.2.1)), (2, .row 3 (fl r3838.2.2.2.2.2.1)), (3, .row 39 (fl r3838.2.2.2.2.2.2.1)), (4, .row 39 (fl r3838.2.2.2.2.2.2.2)), (5, .row 25 [iS r3838.1, .own 2 0 r3838.2.2.2.2.2.1.length, bS r3838.2.1, .own 3 0 r3838.2.2.2.2.2.2.1.length, .own 4 0 r3838.2.2.2.2.2.2.2.length])] 6 (by kernel_rfl) ?_
                      exact hK3850 () _ _ _ trivial (leSt_m [(0, 0), (1, 1), (2, 2), (3, 3), (4, 4), (5, 5)] [] (by first | ((try simp only [g3851, g3853, g3854]) <;> simp only [push_cast, seval]; done) | ((try simp only [g3851]); (try simp only [g3853]); (try simp only [g3854]); simp only [push_cast, seval]; done) | (exfalso; clear h; simp_all; done)) (by first | ((try simp only [g3851, g3853, g3854]) <;> simp only [push_cast, seval]; done) | ((try simp only [g3851]); (try simp only [g3853]); (try simp only [g3854]); simp only [push_cast, seval]; done) | (exfalso; clear h; simp_all; done)) rfl rfl rfl)
                  · refine rs 19 [] [] (by kernel_rfl) allP_nil ?_
                    refine rf [(4, bS false)] [(0, .row 3 (fl r3838.2.2.2.1)), (1, .row 3 (fl r3838.2.2.2.2.1)), (2, .row 3 (fl r3838.2.2.2.2.2.1)), (3, .row 39 (fl r3838.2.2.2.2.2.2.1)), (4, .row 39 (fl r3838.2.2.2.2.2.2.2)), (5, .row 25 [iS r3838.1, .own 2 0 r3838.2.2.2.2.2.1.length, bS r3838.2.1, .own 3 0 r3838.2.2.2.2.2.2.1.length, .own 4 0 r3838.2.2.2.2.2.2.2.length])] 6 (by kernel_rfl) ?_
                    exact hK3850 () _ _ _ trivial (leSt_m [(0, 0), (1, 1), (2, 2), (3, 3), (4, 4), (5, 5)] [] (by first | ((try simp only [g3851, g3853]) <;> simp only [push_cast, seval]; done) | ((try simp only [g3851]); (try simp only [g3853]); simp only [push_cast, seval]; done) | (exfalso; clear h; simp_all; done)) (by first | ((try simp only [g3851, g3853]) <;> simp only [push_cast, seval]; done) | ((try simp only [g3851]); (try simp only [g3853]); simp only [push_cast, seval]; done) | (exfalso; clear h; simp_all; done)) rfl rfl rfl)
              · dsimp only
                obtain rfl := Option.some.inj h
                refine ret_at (bS (bif (((r3838.2.2.2.2.2.2.1.length : Nat) : Int) == 0) then ((((r3838.2.2.2.2.2.2.2.length : Nat) : Int) == 0) || (((r3838.2.2.2.2.2.1.length : Nat) : Int) == 0)) else ((((r3838.2.2.2.2.2.1.length : Nat) : Int) == capacity) && ((((r3838.2.2.2.2.2.2.2.length : Nat) : Int) == 0) && ((((r3838.2.2.2.2.2.2.2.length : Nat) : Int) == 0) || (((r3838.2.2.2.2.2.1.length : Nat) : Int) == 0)))))) (by kernel_rfl) ?_
                exact ret_e [] [] (by simp only [push_cast, seval]) (by simp only [push_cast, seval]) rfl rfl rfl

end Go.Proofs.Ytconaimaibephaa
