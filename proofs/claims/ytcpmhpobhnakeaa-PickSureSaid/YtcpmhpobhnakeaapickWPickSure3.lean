/-
 What laws of the chapter pick compute, and lemmas on it.
 No conditions.
-/
import Derived.Test.YtcpmhpobhnakeaapickWPickSure2
set_option linter.unusedSimpArgs false
set_option linter.unusedVariables false
namespace Go.Proofs.Ytcpmhpobhnakeaa
open Go Go.Sx
attribute [local irreducible] Wk RunAt
set_option maxRecDepth 100000 in
set_option maxHeartbeats 200000000 in
theorem taskmilllaw_PickSure_spec (l : (List Pipe)) (task : Int) (cases : (List GCase)) (xa : (List Int)) (b : (List Int)) (r : Bool) (h : taskmilllaw_PickSure l task cases xa b = some r) : SpecW Try.prog 5 [.sl l.length (fl l), iS task, .sl cases.length (fl cases), .sl xa.length (fl xa), .sl b.length (fl b)] [] 0 (fun x h n => x = bS r ∧ h = [] ∧ n = 0) := by
 unfold taskmilllaw_PickSure at h
 refine spec_of (draw_ok _) Try.func5 rfl (by decide) rfl (by kernel_rfl) ?_
 refine seq_np ?_
 refine reg_f ?_
 refine rs 1 [] [] (by kernel_rfl) allP_nil ?_
 refine rf [(0, .sl l.length (fl l)), (1, iS task), (2, .sl cases.length (fl cases)), (3, .sl xa.length (fl xa)), (4, .sl b.length (fl b))] [] 0 (by kernel_rfl) ?_
 refine wk_id ?_
 refine seq_np ?_
 refine seq_np ?_
 refine reg_f ?_
 obtain ⟨r6857, hr6857, h⟩ := bind_sx h
 refine run_call 9 [] (some 19) (by kernel_rfl) ?_
 refine call_0 (taskmilllaw_pickBegun_spec r6857 hr6857) (by simp only [push_cast, leL_flD, renL_flD, seval]) (by simp only [push_cast, leL_flD, renL_flD, seval]) ?_
 refine back_f ?_
 refine rs 1 [] [] (by kernel_rfl) allP_nil ?_
 refine rf [(0, .sl l.length (fl l)), (1, iS task), (2, .sl cases.length (fl cases)), (3, .sl xa.length (fl xa)), (4, .sl b.length (fl b)), (20, bS (!r6857))] [] 0 (by kernel_rfl) ?_
 refine wk_id ?_
 refine cond_sx h (by kernel_rfl) (fun g6910 h => ?_) (fun g6910 h => ?_)
 ·refine seq_np ?_
  refine reg_f ?_
  refine rs 1 [] [] (by kernel_rfl) allP_nil ?_
  refine rf [(10, bS false)] [] 0 (by kernel_rfl) ?_
  refine wk_id ?_
  obtain rfl := Option.some.inj h
  refine ret_at (bS false) (by kernel_rfl) ?_
  exact ret_e [] [] (by simp only [push_cast, leL_flD, renL_flD, seval]) (by simp only [push_cast, leL_flD, renL_flD, seval]) rfl rfl rfl
 ·refine wk_id ?_
  refine seq_np ?_
  refine seq_cut (A := Bool) (fun a => ([(0, .sl l.length (fl l)), (1, iS task), (2, .sl cases.length (fl cases)), (3, .sl xa.length (fl xa)), (4, .sl b.length (fl b)), (55, bS a)], [], 0)) (fun a => (taskmilllaw_PickSure_j2 l task cases xa b a) = some r) (fun K6878 hK6878 => ?_) ?_
  ·refine reg_f ?_
   refine rs 1 [] [] (by kernel_rfl) allP_nil ?_
   obtain ⟨r6879, hr6879, h⟩ := bind_sx h
   refine run_call 10 [.sl l.length (fl l)] (some 22) (by kernel_rfl) ?_
   refine call_0 (taskmilllaw_vastHub_spec l r6879 hr6879) (by simp only [push_cast, leL_flD, renL_flD, seval]) (by simp only [push_cast, leL_flD, renL_flD, seval]) ?_
   refine back_f ?_
   refine rs 1 [] [] (by kernel_rfl) allP_nil ?_
   refine run_br h 23 (.inl (by kernel_rfl)) (fun g6880 h => ?_) (fun g6880 h => ?_)
   ·refine rs 32 [] [] (by kernel_rfl) allP_nil ?_
    refine rf [(0, .sl l.length (fl l)), (1, iS task), (2, .sl cases.length (fl cases)), (3, .sl xa.length (fl xa)), (4, .sl b.length (fl b)), (55, bS true)] [] 0 (by kernel_rfl) ?_
    exact hK6878 (true) _ _ _ h (leSt_m [] [] (by (try simp only [g6880]) <;> simp only [push_cast, leL_flD, renL_flD, seval]) (by (try simp only [g6880]) <;> simp only [push_cast, leL_flD, renL_flD, seval]) rfl rfl rfl)
   ·refine rs 5 [] [] (by kernel_rfl) allP_nil ?_
    refine run_br h 28 (.inl (by kernel_rfl)) (fun g6881 h => ?_) (fun g6881 h => ?_)
    ·refine rn 8 [(0, .sl l.length (fl l)), (1, iS task), (2, .sl cases.length (fl cases)), (3, .sl xa.length (fl xa)), (4, .sl b.length (fl b)), (28, bS true)] [] 0 (by kernel_rfl) ?_
     refine rs 27 [] [] (by kernel_rfl) allP_nil ?_
     refine rf [(0, .sl l.length (fl l)), (1, iS task), (2, .sl cases.length (fl cases)), (3, .sl xa.length (fl xa)), (4, .sl b.length (fl b)), (55, bS true)] [] 0 (by kernel_rfl) ?_
     exact hK6878 (true) _ _ _ h (leSt_m [] [] (by first | ((try simp only [g6880, g6881]) <;> simp only [push_cast, leL_flD, renL_flD, seval]; done) | ((try simp only [g6880]); (try simp only [g6881]); simp only [push_cast, leL_flD, renL_flD, seval]; done) | (exfalso; clear h; simp_all; done)) (by first | ((try simp only [g6880, g6881]) <;> simp only [push_cast, leL_flD, renL_flD, seval]; done) | ((try simp only [g6880]); (try simp only [g6881]); simp only [push_cast, leL_flD, renL_flD, seval]; done) | (exfalso; clear h; simp_all; done)) rfl rfl rfl)
    ·refine rn 8 [(0, .sl l.length (fl l)), (1, iS task), (2, .sl cases.length (fl cases)), (3, .sl xa.length (fl xa)), (4, .sl b.length (fl b)), (28, bS false)] [] 0 (by kernel_rfl) ?_
     refine rs 5 [] [] (by kernel_rfl) allP_nil ?_
     refine run_br h 33 (.inl (by kernel_rfl)) (fun g6882 h => ?_) (fun g6882 h => ?_)
     ·refine rs 22 [] [] (by kernel_rfl) allP_nil ?_
      refine rf [(0, .sl l.length (fl l)), (1, iS task), (2, .sl cases.length (fl cases)), (3, .sl xa.length (fl xa)), (4, .sl b.length (fl b)), (55, bS true)] [] 0 (by kernel_rfl) ?_
      exact hK6878 (true) _ _ _ h (leSt_m [] [] (by first | ((try simp only [g6880, g6881, g6882]) <;> simp only [push_cast, leL_flD, renL_flD, seval]; done) | ((try simp only [g6880]); (try simp only [g6881]); (try simp only [g6882]); simp only [push_cast, leL_flD, renL_flD, seval]; done) | (exfalso; clear h; simp_all; done)) (by first | ((try simp only [g6880, g6881, g6882]) <;> simp only [push_cast, leL_flD, renL_flD, seval]; done) | ((try simp only [g6880]); (try simp only [g6881]); (try simp only [g6882]); simp only [push_cast, leL_flD, renL_flD, seval]; done) | (exfalso; clear h; simp_all; done)) rfl rfl rfl)
     ·refine rs 5 [] [] (by kernel_rfl) allP_nil ?_
      refine run_br h 38 (.inl (by kernel_rfl)) (fun g6883 h => ?_) (fun g6883 h => ?_)
      ·refine rs 17 [] [] (by kernel_rfl) allP_nil ?_
       refine rf [(0, .sl l.length (fl l)), (1, iS task), (2, .sl cases.length (fl cases)), (3, .sl xa.length (fl xa)), (4, .sl b.length (fl b)), (55, bS true)] [] 0 (by kernel_rfl) ?_
       exact hK6878 (true) _ _ _ h (leSt_m [] [] (by first | ((try simp only [g6880, g6881, g6882, g6883]) <;> simp only [push_cast, leL_flD, renL_flD, seval]; done) | ((try simp only [g6880]); (try simp only [g6881]); (try simp only [g6882]); (try simp only [g6883]); simp only [push_cast, leL_flD, renL_flD, seval]; done) | (exfalso; clear h; simp_all; done)) (by first | ((try simp only [g6880, g6881, g6882, g6883]) <;> simp only [push_cast, leL_flD, renL_flD, seval]; done) | ((try simp only [g6880]); (try simp only [g6881]); (try simp only [g6882]); (try simp only [g6883]); simp only [push_cast, leL_flD, renL_flD, seval]; done) | (exfalso; clear h; simp_all; done)) rfl rfl rfl)
      ·refine rs 4 [] [] (by kernel_rfl) allP_nil ?_
       obtain ⟨r6884, hr6884, h⟩ := bind_sx h
       refine run_call 19 [.sl l.length (fl l), iS task, .sl cases.length (fl cases), .sl xa.length (fl xa)] (some 43) (by kernel_rfl) ?_
       refine call_0 (taskmillref_CasesFault_spec l task cases xa r6884 hr6884) (by simp only [push_cast, leL_flD, renL_flD, seval]) (by simp only [push_cast, leL_flD, renL_flD, seval]) ?_
       refine back_f ?_
       refine rn 23 [(0, .sl l.length (fl l)), (1, iS task), (2, .sl cases.length (fl cases)), (3, .sl xa.length (fl xa)), (4, .sl b.length (fl b)), (38, bS false), (43, .agg (Enc.cells r6884))] [] 0 (by kernel_rfl) ?_
       refine rs 4 [] [] (by kernel_rfl) allP_nil ?_
       refine run_br h 47 (.inl (by kernel_rfl)) (fun g6885 h => ?_) (fun g6885 h => ?_)
       ·refine rs 8 [] [] (by kernel_rfl) allP_nil ?_
        refine rf [(0, .sl l.length (fl l)), (1, iS task), (2, .sl cases.length (fl cases)), (3, .sl xa.length (fl xa)), (4, .sl b.length (fl b)), (55, bS true)] [] 0 (by kernel_rfl) ?_
        exact hK6878 (true) _ _ _ h (leSt_m [] [] (by first | ((try simp only [g6880, g6881, g6882, g6883, g6885]) <;> simp only [push_cast, leL_flD, renL_flD, seval]; done) | ((try simp only [g6880]); (try simp only [g6881]); (try simp only [g6882]); (try simp only [g6883]); (try simp only [g6885]); simp only [push_cast, leL_flD, renL_flD, seval]; done) | (exfalso; clear h; simp_all; done)) (by first | ((try simp only [g6880, g6881, g6882, g6883, g6885]) <;> simp only [push_cast, leL_flD, renL_flD, seval]; done) | ((try simp only [g6880]); (try simp only [g6881]); (try simp only [g6882]); (try simp only [g6883]); (try simp only [g6885]); simp only [push_cast, leL_flD, renL_flD, seval]; done) | (exfalso; clear h; simp_all; done)) rfl rfl rfl)
       ·refine rs 4 [] [] (by kernel_rfl) allP_nil ?_
        obtain ⟨r6886, hr6886, h⟩ := bind_sx h
        refine run_call 19 [.sl l.length (fl l), iS task, .sl cases.length (fl cases), .sl b.length (fl b)] (some 52) (by kernel_rfl) ?_
        refine call_0 (taskmillref_CasesFault_spec l task cases b r6886 hr6886) (by simp only [push_cast, leL_flD, renL_flD, seval]) (by simp only [push_cast, leL_flD, renL_flD, seval]) ?_
        refine back_f ?_
        refine rs 3 [] [] (by kernel_rfl) allP_nil ?_
        refine rf [(0, .sl l.length (fl l)), (1, iS task), (2, .sl cases.length (fl cases)), (3, .sl xa.length (fl xa)), (4, .sl b.length (fl b)), (55, bS (r6886.Code != 0))] [] 0 (by kernel_rfl) ?_
        exact hK6878 ((r6886.Code != 0)) _ _ _ h (leSt_m [] [] (by first | ((try simp only [g6880, g6881, g6882, g6883, g6885]) <;> simp only [push_cast, leL_flD, renL_flD, seval]; done) | ((try simp only [g6880]); (try simp only [g6881]); (try simp only [g6882]); (try simp only [g6883]); (try simp only [g6885]); simp only [push_cast, leL_flD, renL_flD, seval]; done) | (exfalso; clear h; simp_all; done)) (by first | ((try simp only [g6880, g6881, g6882, g6883, g6885]) <;> simp only [push_cast, leL_flD, renL_flD, seval]; done) | ((try simp only [g6880]); (try simp only [g6881]); (try simp only [g6882]); (try simp only [g6883]); (try simp only [g6885]); simp only [push_cast, leL_flD, renL_flD, seval]; done) | (exfalso; clear h; simp_all; done)) rfl rfl rfl)
  ·rintro t55q2 h
   try dsimp only at h ⊢
   unfold taskmilllaw_PickSure_j2 at h
   refine cond_sx h (by kernel_rfl) (fun g6909 h => ?_) (fun g6909 h => ?_)
   ·refine seq_np ?_
    refine reg_f ?_
    refine rs 1 [] [] (by kernel_rfl) allP_nil ?_
    refine rf [(10, bS true)] [] 0 (by kernel_rfl) ?_
    refine wk_id ?_
    obtain rfl := Option.some.inj h
    refine ret_at (bS true) (by kernel_rfl) ?_
    exact ret_e [] [] (by simp only [push_cast, leL_flD, renL_flD, seval]) (by simp only [push_cast, leL_flD, renL_flD, seval]) rfl rfl rfl
   ·refine wk_id ?_
    refine seq_np ?_
    refine reg_f ?_
    refine rs 3 [] [] (by kernel_rfl) allP_nil ?_
    obtain ⟨r6888, hr6888, h⟩ := bind_sx h
    refine call_x (pick_Ready_spec l task cases r6888 hr6888) (args := [.sl l.length (fl l), iS task, .sl cases.length (fl cases)]) (dst := (some 60)) (by kernel_rfl) [] 0 (by kernel_rfl) [] [] (.tup [.own 0 0 r6888.2.length, .agg (Enc.cells r6888.1)]) [(0, .row 3 (fl r6888.2))] (by simp only [push_cast, leL_flD, renL_flD, seval]) (by simp only [push_cast, leL_flD, renL_flD, seval]) (by kernel_rfl) (.inl rfl) (by simp only [push_cast, leL_flD, renL_flD, seval]) (by simp only [push_cast, leL_flD, renL_flD, seval]) ?_
    refine rs 6 [] [] (by kernel_rfl) allP_nil ?_
    refine rf [(0, .sl l.length (fl l)), (1, iS task), (2, .sl cases.length (fl cases)), (3, .sl xa.length (fl xa)), (4, .sl b.length (fl b)), (11, .own 0 0 r6888.2.length), (12, .ptr 1 0)] [(0, .row 3 (fl r6888.2)), (1, .row 29 (Enc.cells r6888.1))] 2 (by kernel_rfl) ?_
    refine wk_id ?_
    refine seq_np ?_
    refine seq_np ?_
    refine reg_f ?_
    refine rs 3 [] [] (by kernel_rfl) allP_nil ?_
    refine rf [(0, .sl l.length (fl l)), (1, iS task), (2, .sl cases.length (fl cases)), (3, .sl xa.length (fl xa)), (4, .sl b.length (fl b)), (11, .own 0 0 r6888.2.length), (65, bS (r6888.1.Code != 0))] [(0, .row 3 (fl r6888.2)), (1, .row 29 (Enc.cells r6888.1))] 2 (by kernel_rfl) ?_
    refine wk_id ?_
    refine cond_sx h (by kernel_rfl) (fun g6908 h => ?_) (fun g6908 h => ?_)
    ·refine seq_np ?_
     refine reg_f ?_
     refine rs 1 [] [] (by kernel_rfl) allP_nil ?_
     refine rf [(10, bS false)] [(0, .row 3 (fl r6888.2)), (1, .row 29 (Enc.cells r6888.1))] 2 (by kernel_rfl) ?_
     refine wk_id ?_
     obtain rfl := Option.some.inj h
     refine ret_at (bS false) (by kernel_rfl) ?_
     exact ret_e [] [] (by simp only [push_cast, leL_flD, renL_flD, seval]) (by simp only [push_cast, leL_flD, renL_flD, seval]) rfl rfl rfl
    ·refine wk_id ?_
     refine seq_np ?_
     refine seq_np ?_
     refine reg_f ?_
     refine rs 3 [] [] (by kernel_rfl) allP_nil ?_
     refine rf [(0, .sl l.length (fl l)), (1, iS task), (2, .sl cases.length (fl cases)), (3, .sl xa.length (fl xa)), (4, .sl b.length (fl b)), (68, bS (decide ((1 : Int) < ((r6888.2.length : Nat) : Int))))] [(0, .row 3 (fl r6888.2)), (1, .row 29 (Enc.cells r6888.1))] 2 (by kernel_rfl) ?_
     refine wk_id ?_
     refine cond_sx h (by kernel_rfl) (fun g6907 h => ?_) (fun g6907 h => ?_)
     ·refine seq_np ?_
      refine reg_f ?_
      refine rs 1 [] [] (by kernel_rfl) allP_nil ?_
      refine rf [(10, bS true)] [(0, .row 3 (fl r6888.2)), (1, .row 29 (Enc.cells r6888.1))] 2 (by kernel_rfl) ?_
      refine wk_id ?_
      obtain rfl := Option.some.inj h
      refine ret_at (bS true) (by kernel_rfl) ?_
      exact ret_e [] [] (by simp only [push_cast, leL_flD, renL_flD, seval]) (by simp only [push_cast, leL_flD, renL_flD, seval]) rfl rfl rfl
     ·refine wk_id ?_
      refine seq_np ?_
      refine reg_f ?_
      refine rs 4 [] [] (by kernel_rfl) allP_nil ?_
      obtain ⟨r6892, hr6892, h⟩ := bind_sx h
      refine call_x (pick_Pick_spec l task cases xa false r6892 hr6892) (args := [.sl l.length (fl l), iS task, .sl cases.length (fl cases), .sl xa.length (fl xa), bS false]) (dst := (some 74)) (by kernel_rfl) [(0, .row 3 (fl r6888.2)), (1, .row 29 (Enc.cells r6888.1))] 2 (by kernel_rfl) [] [] (.tup [.own 2 0 r6892.2.2.2.2.2.2.1.length, .agg [bS r6892.1, bS r6892.2.1, bS r6892.2.2.1, iS r6892.2.2.2.1, iS r6892.2.2.2.2.1, .own 3 0 r6892.2.2.2.2.2.2.2.length], .agg (Enc.cells r6892.2.2.2.2.2.1)]) [(2, .row 57 (flD dPipe [4, 5, 6] r6892.2.2.2.2.2.2.1)), (3, .row 64 (fl r6892.2.2.2.2.2.2.2)), ((.s 4 0), .fam (famD dPipe 0 r6892.2.2.2.2.2.2.1)), ((.s 5 0), .fam (famD dPipe 1 r6892.2.2.2.2.2.2.1)), ((.s 6 0), .fam (famD dPipe 2 r6892.2.2.2.2.2.2.1))] (by simp only [push_cast, leL_flD, renL_flD, seval]) (by simp only [push_cast, leL_flD, renL_flD, seval]) (by kernel_rfl) (.inl rfl) (by first | (simp only [push_cast, leL_flD, renL_flD, seval]; done) | (simp only [push_cast, leL_flD, renL_flD, seval]; kernel_rfl) | kernel_rfl) (by first | (simp only [push_cast, leL_flD, renL_flD, seval]; done) | (simp only [push_cast, leL_flD, renL_flD, seval]; kernel_rfl) | kernel_rfl) ?_
      refine rs 9 [] [] (by kernel_rfl) allP_nil ?_
      refine rf [(0, .sl l.length (fl l)), (1, iS task), (2, .sl cases.length (fl cases)), (4, .sl b.length (fl b)), (13, .own 2 0 r6892.2.2.2.2.2.2.1.length), (14, .ptr 7 0), (15, .ptr 8 0)] [(0, .row 3 (fl r6888.2)), (1, .row 29 (Enc.cells r6888.1)), (2, .row 57 (flD dPipe [4, 5, 6] r6892.2.2.2.2.2.2.1)), (3, .row 64 (fl r6892.2.2.2.2.2.2.2)), ((.s 4 0), .fam (famD dPipe 0 r6892.2.2.2.2.2.2.1)), ((.s 5 0), .fam (famD dPipe 1 r6892.2.2.2.2.2.2.1)), ((.s 6 0), .fam (famD dPipe 2 r6892.2.2.2.2.2.2.1)), (7, .row 33 [bS r6892.1, bS r6892.2.1, bS r6892.2.2.1, iS r6892.2.2.2.1, iS r6892.2.2.2.2.1, .own 3 0 r6892.2.2.2.2.2.2.2.length]), (8, .row 29 (Enc.cells r6892.2.2.2.2.2.1))] 9 (by kernel_rfl) ?_
      refine wk_id ?_
      refine seq_np ?_
      refine reg_f ?_
      refine rs 4 [] [] (by kernel_rfl) allP_nil ?_
      obtain ⟨r6894, hr6894, h⟩ := bind_sx h
      refine call_x (pick_Pick_spec l task cases b false r6894 hr6894) (args := [.sl l.length (fl l), iS task, .sl cases.length (fl cases), .sl b.length (fl b), bS false]) (dst := (some 83)) (by kernel_rfl) [(0, .row 3 (fl r6888.2)), (1, .row 29 (Enc.cells r6888.1)), (2, .row 57 (flD dPipe [4, 5, 6] r6892.2.2.2.2.2.2.1)), (3, .row 64 (fl r6892.2.2.2.2.2.2.2)), ((.s 4 0), .fam (famD dPipe 0 r6892.2.2.2.2.2.2.1)), ((.s 5 0), .fam (famD dPipe 1 r6892.2.2.2.2.2.2.1)), ((.s 6 0), .fam (famD dPipe 2 r6892.2.2.2.2.2.2.1)), (7, .row 33 [bS r6892.1, bS r6892.2.1, bS r6892.2.2.1, iS r6892.2.2.2.1, iS r6892.2.2.2.2.1, .own 3 0 r6892.2.2.2.2.2.2.2.length]), (8, .row 29 (Enc.cells r6892.2.2.2.2.2.1))] 9 (by kernel_rfl) [] [] (.tup [.own 9 0 r6894.2.2.2.2.2.2.1.length, .agg [bS r6894.1, bS r6894.2.1, bS r6894.2.2.1, iS r6894.2.2.2.1, iS r6894.2.2.2.2.1, .own 10 0 r6894.2.2.2.2.2.2.2.length], .agg (Enc.cells r6894.2.2.2.2.2.1)]) [(9, .row 57 (flD dPipe [11, 12, 13] r6894.2.2.2.2.2.2.1)), (10, .row 64 (fl r6894.2.2.2.2.2.2.2)), ((.s 11 0), .fam (famD dPipe 0 r6894.2.2.2.2.2.2.1)), ((.s 12 0), .fam (famD dPipe 1 r6894.2.2.2.2.2.2.1)), ((.s 13 0), .fam (famD dPipe 2 r6894.2.2.2.2.2.2.1))] (by simp only [push_cast, leL_flD, renL_flD, seval]) (by simp only [push_cast, leL_flD, renL_flD, seval]) (by kernel_rfl) (.inl rfl) (by first | (simp only [push_cast, leL_flD, renL_flD, seval]; done) | (simp only [push_cast, leL_flD, renL_flD, seval]; kernel_rfl) | kernel_rfl) (by first | (simp only [push_cast, leL_flD, renL_flD, seval]; done) | (simp only [push_cast, leL_flD, renL_flD, seval]; kernel_rfl) | kernel_rfl) ?_
      refine rs 9 [] [] (by kernel_rfl) allP_nil ?_
      refine rf [(13, .own 2 0 r6892.2.2.2.2.2.2.1.length), (14, .ptr 7 0), (15, .ptr 8 0), (16, .own 9 0 r6894.2.2.2.2.2.2.1.length), (17, .ptr 14 0), (18, .ptr 15 0)] [(0, .row 3 (fl r6888.2)), (1, .row 29 (Enc.cells r6888.1)), (2, .row 57 (flD dPipe [4, 5, 6] r6892.2.2.2.2.2.2.1)), (3, .row 64 (fl r6892.2.2.2.2.2.2.2)), ((.s 4 0), .fam (famD dPipe 0 r6892.2.2.2.2.2.2.1)), ((.s 5 0), .fam (famD dPipe 1 r6892.2.2.2.2.2.2.1)), ((.s 6 0), .fam (famD dPipe 2 r6892.2.2.2.2.2.2.1)), (7, .row 33 [bS r6892.1, bS r6892.2.1, bS r6892.2.2.1, iS r6892.2.2.2.1, iS r6892.2.2.2.2.1, .own 3 0 r6892.2.2.2.2.2.2.2.length]), (8, .row 29 (Enc.cells r6892.2.2.2.2.2.1)), (9, .row 57 (flD dPipe [11, 12, 13] r6894.2.2.2.2.2.2.1)), (10, .row 64 (fl r6894.2.2.2.2.2.2.2)), ((.s 11 0), .fam (famD dPipe 0 r6894.2.2.2.2.2.2.1)), ((.s 12 0), .fam (famD dPipe 1 r6894.2.2.2.2.2.2.1)), ((.s 13 0), .fam (famD dPipe 2 r6894.2.2.2.2.2.2.1)), (14, .row 33 [bS r6894.1, bS r6894.2.1, bS r6894.2.2.1, iS r6894.2.2.2.1, iS r6894.2.2.2.2.1, .own 10 0 r6894.2.2.2.2.2.2.2.length]), (15, .row 29 (Enc.cells r6894.2.2.2.2.2.1))] 16 (by kernel_rfl) ?_
      refine wk_id ?_
      refine seq_cut (A := Bool) (fun a => ([(10, bS a)], [], 0)) (fun a => (taskmilllaw_PickSure_j1 a) = some r) (fun K6901 hK6901 => ?_) ?_
      ·refine reg_f ?_
       refine rs 4 [] [] (by kernel_rfl) allP_nil ?_
       refine run_br h 90 (.inl (by kernel_rfl)) (fun g6902 h => ?_) (fun g6902 h => ?_)
       ·refine rs 5 [] [] (by kernel_rfl) allP_nil ?_
        refine run_br h 95 (.inl (by kernel_rfl)) (fun g6903 h => ?_) (fun g6903 h => ?_)
        ·refine rs 2 [] [] (by kernel_rfl) allP_nil ?_
         obtain ⟨r6904, hr6904, h⟩ := bind_sx h
         refine call_x (taskmillref_SameHub_spec r6892.2.2.2.2.2.2.1 r6894.2.2.2.2.2.2.1 r6904 hr6904) (args := [.own 2 0 r6892.2.2.2.2.2.2.1.length, .own 9 0 r6894.2.2.2.2.2.2.1.length]) (dst := (some 98)) (by kernel_rfl) [(0, .row 3 (fl r6888.2)), (1, .row 29 (Enc.cells r6888.1)), (2, .row 57 (flD dPipe [4, 5, 6] r6892.2.2.2.2.2.2.1)), (3, .row 64 (fl r6892.2.2.2.2.2.2.2)), ((.s 4 0), .fam (famD dPipe 0 r6892.2.2.2.2.2.2.1)), ((.s 5 0), .fam (famD dPipe 1 r6892.2.2.2.2.2.2.1)), ((.s 6 0), .fam (famD dPipe 2 r6892.2.2.2.2.2.2.1)), (7, .row 33 [bS r6892.1, bS r6892.2.1, bS r6892.2.2.1, iS r6892.2.2.2.1, iS r6892.2.2.2.2.1, .own 3 0 r6892.2.2.2.2.2.2.2.length]), (8, .row 29 (Enc.cells r6892.2.2.2.2.2.1)), (9, .row 57 (flD dPipe [11, 12, 13] r6894.2.2.2.2.2.2.1)), (10, .row 64 (fl r6894.2.2.2.2.2.2.2)), ((.s 11 0), .fam (famD dPipe 0 r6894.2.2.2.2.2.2.1)), ((.s 12 0), .fam (famD dPipe 1 r6894.2.2.2.2.2.2.1)), ((.s 13 0), .fam (famD dPipe 2 r6894.2.2.2.2.2.2.1)), (14, .row 33 [bS r6894.1, bS r6894.2.1, bS r6894.2.2.1, iS r6894.2.2.2.1, iS r6894.2.2.2.2.1, .own 10 0 r6894.2.2.2.2.2.2.2.length]), (15, .row 29 (Enc.cells r6894.2.2.2.2.2.1))] 16 (by kernel_rfl) [] [2, (.s 4 0), (.s 5 0), (.s 6 0), 9, (.s 11 0), (.s 12 0), (.s 13 0)] (bS r6904) [] (by simp only [↓leS_frzD dPipe [4, 5, 6] r6892.2.2.2.2.2.2.1, ↓leS_frzD dPipe [11, 12, 13] r6894.2.2.2.2.2.2.1, leS_frz, leL_flD, renL_flD, push_cast, seval]) (by simp only [↓leS_frzD dPipe [4, 5, 6] r6892.2.2.2.2.2.2.1, ↓leS_frzD dPipe [11, 12, 13] r6894.2.2.2.2.2.2.1, leS_frz, leL_flD, renL_flD, push_cast, seval]) (by kernel_rfl) (.inr ⟨by simp only [push_cast, leL_flD, renL_flD, seval], by simp only [push_cast, leL_flD, renL_flD, seval]⟩) (by simp only [push_cast, leL_flD, renL_flD, seval]) (by simp only [push_cast, leL_flD, renL_flD, seval]) ?_
         refine rn 12 [(14, .ptr 7 0), (17, .ptr 14 0), (95, bS true), (98, bS r6904)] [(0, .row 3 (fl r6888.2)), (1, .row 29 (Enc.cells r6888.1)), (2, .row 57 (flD dPipe [4, 5, 6] r6892.2.2.2.2.2.2.1)), (3, .row 64 (fl r6892.2.2.2.2.2.2.2)), ((.s 4 0), .fam (famD dPipe 0 r6892.2.2.2.2.2.2.1)), ((.s 5 0), .fam (famD dPipe 1 r6892.2.2.2.2.2.2.1)), ((.s 6 0), .fam (famD dPipe 2 r6892.2.2.2.2.2.2.1)), (7, .row 33 [bS r6892.1, bS r6892.2.1, bS r6892.2.2.1, iS r6892.2.2.2.1, iS r6892.2.2.2.2.1, .own 3 0 r6892.2.2.2.2.2.2.2.length]), (8, .row 29 (Enc.cells r6892.2.2.2.2.2.1)), (9, .row 57 (flD dPipe [11, 12, 13] r6894.2.2.2.2.2.2.1)), (10, .row 64 (fl r6894.2.2.2.2.2.2.2)), ((.s 11 0), .fam (famD dPipe 0 r6894.2.2.2.2.2.2.1)), ((.s 12 0), .fam (famD dPipe 1 r6894.2.2.2.2.2.2.1)), ((.s 13 0), .fam (famD dPipe 2 r6894.2.2.2.2.2.2.1)), (14, .row 33 [bS r6894.1, bS r6894.2.1, bS r6894.2.2.1, iS r6894.2.2.2.1, iS r6894.2.2.2.2.1, .own 10 0 r6894.2.2.2.2.2.2.2.length]), (15, .row 29 (Enc.cells r6894.2.2.2.2.2.1))] 16 (by kernel_rfl) ?_
         refine rs 2 [] [] (by kernel_rfl) allP_nil ?_
         refine run_br h 100 (.inl (by kernel_rfl)) (fun g6905 h => ?_) (fun g6905 h => ?_)
         ·refine rs 2 [] [] (by kernel_rfl) allP_nil ?_
          obtain ⟨r6906, hr6906, h⟩ := bind_sx h
          refine call_x (taskmillref_SameAnswer_spec (Answer.mk r6892.1 r6892.2.1 r6892.2.2.1 r6892.2.2.2.1 r6892.2.2.2.2.1 r6892.2.2.2.2.2.2.2) (Answer.mk r6894.1 r6894.2.1 r6894.2.2.1 r6894.2.2.2.1 r6894.2.2.2.2.1 r6894.2.2.2.2.2.2.2) r6906 hr6906) (args := [.agg [bS r6892.1, bS r6892.2.1, bS r6892.2.2.1, iS r6892.2.2.2.1, iS r6892.2.2.2.2.1, .own 3 0 r6892.2.2.2.2.2.2.2.length], .agg [bS r6894.1, bS r6894.2.1, bS r6894.2.2.1, iS r6894.2.2.2.1, iS r6894.2.2.2.2.1, .own 10 0 r6894.2.2.2.2.2.2.2.length]]) (dst := (some 103)) (by kernel_rfl) [(0, .row 3 (fl r6888.2)), (1, .row 29 (Enc.cells r6888.1)), (2, .row 57 (flD dPipe [4, 5, 6] r6892.2.2.2.2.2.2.1)), (3, .row 64 (fl r6892.2.2.2.2.2.2.2)), ((.s 4 0), .fam (famD dPipe 0 r6892.2.2.2.2.2.2.1)), ((.s 5 0), .fam (famD dPipe 1 r6892.2.2.2.2.2.2.1)), ((.s 6 0), .fam (famD dPipe 2 r6892.2.2.2.2.2.2.1)), (7, .row 33 [bS r6892.1, bS r6892.2.1, bS r6892.2.2.1, iS r6892.2.2.2.1, iS r6892.2.2.2.2.1, .own 3 0 r6892.2.2.2.2.2.2.2.length]), (8, .row 29 (Enc.cells r6892.2.2.2.2.2.1)), (9, .row 57 (flD dPipe [11, 12, 13] r6894.2.2.2.2.2.2.1)), (10, .row 64 (fl r6894.2.2.2.2.2.2.2)), ((.s 11 0), .fam (famD dPipe 0 r6894.2.2.2.2.2.2.1)), ((.s 12 0), .fam (famD dPipe 1 r6894.2.2.2.2.2.2.1)), ((.s 13 0), .fam (famD dPipe 2 r6894.2.2.2.2.2.2.1)), (14, .row 33 [bS r6894.1, bS r6894.2.1, bS r6894.2.2.1, iS r6894.2.2.2.1, iS r6894.2.2.2.2.1, .own 10 0 r6894.2.2.2.2.2.2.2.length]), (15, .row 29 (Enc.cells r6894.2.2.2.2.2.1))] 16 (by kernel_rfl) [] [3, 10] (bS r6906) [] (by simp only [push_cast, leL_flD, renL_flD, seval]) (by simp only [push_cast, leL_flD, renL_flD, seval]) (by kernel_rfl) (.inr ⟨by simp only [push_cast, leL_flD, renL_flD, seval], by simp only [push_cast, leL_flD, renL_flD, seval]⟩) (by simp only [push_cast, leL_flD, renL_flD, seval]) (by simp only [push_cast, leL_flD, renL_flD, seval]) ?_
          refine rs 2 [] [] (by kernel_rfl) allP_nil ?_
          refine rf [(10, bS r6906)] [(0, .row 3 (fl r6888.2)), (1, .row 29 (Enc.cells r6888.1)), (2, .row 57 (flD dPipe [4, 5, 6] r6892.2.2.2.2.2.2.1)), (3, .row 64 (fl r6892.2.2.2.2.2.2.2)), ((.s 4 0), .fam (famD dPipe 0 r6892.2.2.2.2.2.2.1)), ((.s 5 0), .fam (famD dPipe 1 r6892.2.2.2.2.2.2.1)), ((.s 6 0), .fam (famD dPipe 2 r6892.2.2.2.2.2.2.1)), (7, .row 33 [bS r6892.1, bS r6892.2.1, bS r6892.2.2.1, iS r6892.2.2.2.1, iS r6892.2.2.2.2.1, .own 3 0 r6892.2.2.2.2.2.2.2.length]), (8, .row 29 (Enc.cells r6892.2.2.2.2.2.1)), (9, .row 57 (flD dPipe [11, 12, 13] r6894.2.2.2.2.2.2.1)), (10, .row 64 (fl r6894.2.2.2.2.2.2.2)), ((.s 11 0), .fam (famD dPipe 0 r6894.2.2.2.2.2.2.1)), ((.s 12 0), .fam (famD dPipe 1 r6894.2.2.2.2.2.2.1)), ((.s 13 0), .fam (famD dPipe 2 r6894.2.2.2.2.2.2.1)), (14, .row 33 [bS r6894.1, bS r6894.2.1, bS r6894.2.2.1, iS r6894.2.2.2.1, iS r6894.2.2.2.2.1, .own 10 0 r6894.2.2.2.2.2.2.2.length]), (15, .row 29 (Enc.cells r6894.2.2.2.2.2.1))] 16 (by kernel_rfl) ?_
          exact hK6901 (r6906) _ _ _ h (leSt_m [] [] (by first | ((try simp only [g6902, g6903, g6905]) <;> simp only [push_cast, leL_flD, renL_flD, seval]; done) | ((try simp only [g6902]); (try simp only [g6903]); (try simp only [g6905]); simp only [push_cast, leL_flD, renL_flD, seval]; done) | (exfalso; clear h; simp_all; done)) (by first | ((try simp only [g6902, g6903, g6905]) <;> simp only [push_cast, leL_flD, renL_flD, seval]; done) | ((try simp only [g6902]); (try simp only [g6903]); (try simp only [g6905]); simp only [push_cast, leL_flD, renL_flD, seval]; done) | (exfalso; clear h; simp_all; done)) rfl rfl rfl)
         ·refine rs 5 [] [] (by kernel_rfl) allP_nil ?_
          refine rf [(10, bS false)] [(0, .row 3 (fl r6888.2)), (1, .row 29 (Enc.cells r6888.1)), (2, .row 57 (flD dPipe [4, 5, 6] r6892.2.2.2.2.2.2.1)), (3, .row 64 (fl r6892.2.2.2.2.2.2.2)), ((.s 4 0), .fam (famD dPipe 0 r6892.2.2.2.2.2.2.1)), ((.s 5 0), .fam (famD dPipe 1 r6892.2.2.2.2.2.2.1)), ((.s 6 0), .fam (famD dPipe 2 r6892.2.2.2.2.2.2.1)), (7, .row 33 [bS r6892.1, bS r6892.2.1, bS r6892.2.2.1, iS r6892.2.2.2.1, iS r6892.2.2.2.2.1, .own 3 0 r6892.2.2.2.2.2.2.2.length]), (8, .row 29 (Enc.cells r6892.2.2.2.2.2.1)), (9, .row 57 (flD dPipe [11, 12, 13] r6894.2.2.2.2.2.2.1)), (10, .row 64 (fl r6894.2.2.2.2.2.2.2)), ((.s 11 0), .fam (famD dPipe 0 r6894.2.2.2.2.2.2.1)), ((.s 12 0), .fam (famD dPipe 1 r6894.2.2.2.2.2.2.1)), ((.s 13 0), .fam (famD dPipe 2 r6894.2.2.2.2.2.2.1)), (14, .row 33 [bS r6894.1, bS r6894.2.1, bS r6894.2.2.1, iS r6894.2.2.2.1, iS r6894.2.2.2.2.1, .own 10 0 r6894.2.2.2.2.2.2.2.length]), (15, .row 29 (Enc.cells r6894.2.2.2.2.2.1))] 16 (by kernel_rfl) ?_
          exact hK6901 (false) _ _ _ h (leSt_m [] [] (by first | ((try simp only [g6902, g6903, g6905]) <;> simp only [push_cast, leL_flD, renL_flD, seval]; done) | ((try simp only [g6902]); (try simp only [g6903]); (try simp only [g6905]); simp only [push_cast, leL_flD, renL_flD, seval]; done) | (exfalso; clear h; simp_all; done)) (by first | ((try simp only [g6902, g6903, g6905]) <;> simp only [push_cast, leL_flD, renL_flD, seval]; done) | ((try simp only [g6902]); (try simp only [g6903]); (try simp only [g6905]); simp only [push_cast, leL_flD, renL_flD, seval]; done) | (exfalso; clear h; simp_all; done)) rfl rfl rfl)
        ·refine rs 10 [] [] (by kernel_rfl) allP_nil ?_
         refine rf [(10, bS false)] [(0, .row 3 (fl r6888.2)), (1, .row 29 (Enc.cells r6888.1)), (2, .row 57 (flD dPipe [4, 5, 6] r6892.2.2.2.2.2.2.1)), (3, .row 64 (fl r6892.2.2.2.2.2.2.2)), ((.s 4 0), .fam (famD dPipe 0 r6892.2.2.2.2.2.2.1)), ((.s 5 0), .fam (famD dPipe 1 r6892.2.2.2.2.2.2.1)), ((.s 6 0), .fam (famD dPipe 2 r6892.2.2.2.2.2.2.1)), (7, .row 33 [bS r6892.1, bS r6892.2.1, bS r6892.2.2.1, iS r6892.2.2.2.1, iS r6892.2.2.2.2.1, .own 3 0 r6892.2.2.2.2.2.2.2.length]), (8, .row 29 (Enc.cells r6892.2.2.2.2.2.1)), (9, .row 57 (flD dPipe [11, 12, 13] r6894.2.2.2.2.2.2.1)), (10, .row 64 (fl r6894.2.2.2.2.2.2.2)), ((.s 11 0), .fam (famD dPipe 0 r6894.2.2.2.2.2.2.1)), ((.s 12 0), .fam (famD dPipe 1 r6894.2.2.2.2.2.2.1)), ((.s 13 0), .fam (famD dPipe 2 r6894.2.2.2.2.2.2.1)), (14, .row 33 [bS r6894.1, bS r6894.2.1, bS r6894.2.2.1, iS r6894.2.2.2.1, iS r6894.2.2.2.2.1, .own 10 0 r6894.2.2.2.2.2.2.2.length]), (15, .row 29 (Enc.cells r6894.2.2.2.2.2.1))] 16 (by kernel_rfl) ?_
         exact hK6901 (false) _ _ _ h (leSt_m [] [] (by first | ((try simp only [g6902, g6903]) <;> simp only [push_cast, leL_flD, renL_flD, seval]; done) | ((try simp only [g6902]); (try simp only [g6903]); simp only [push_cast, leL_flD, renL_flD, seval]; done) | (exfalso; clear h; simp_all; done)) (by first | ((try simp only [g6902, g6903]) <;> simp only [push_cast, leL_flD, renL_flD, seval]; done) | ((try simp only [g6902]); (try simp only [g6903]); simp only [push_cast, leL_flD, renL_flD, seval]; done) | (exfalso; clear h; simp_all; done)) rfl rfl rfl)
       ·refine rs 15 [] [] (by kernel_rfl) allP_nil ?_
        refine rf [(10, bS false)] [(0, .row 3 (fl r6888.2)), (1, .row 29 (Enc.cells r6888.1)), (2, .row 57 (flD dPipe [4, 5, 6] r6892.2.2.2.2.2.2.1)), (3, .row 64 (fl r6892.2.2.2.2.2.2.2)), ((.s 4 0), .fam (famD dPipe 0 r6892.2.2.2.2.2.2.1)), ((.s 5 0), .fam (famD dPipe 1 r6892.2.2.2.2.2.2.1)), ((.s 6 0), .fam (famD dPipe 2 r6892.2.2.2.2.2.2.1)), (7, .row 33 [bS r6892.1, bS r6892.2.1, bS r6892.2.2.1, iS r6892.2.2.2.1, iS r6892.2.2.2.2.1, .own 3 0 r6892.2.2.2.2.2.2.2.length]), (8, .row 29 (Enc.cells r6892.2.2.2.2.2.1)), (9, .row 57 (flD dPipe [11, 12, 13] r6894.2.2.2.2.2.2.1)), (10, .row 64 (fl r6894.2.2.2.2.2.2.2)), ((.s 11 0), .fam (famD dPipe 0 r6894.2.2.2.2.2.2.1)), ((.s 12 0), .fam (famD dPipe 1 r6894.2.2.2.2.2.2.1)), ((.s 13 0), .fam (famD dPipe 2 r6894.2.2.2.2.2.2.1)), (14, .row 33 [bS r6894.1, bS r6894.2.1, bS r6894.2.2.1, iS r6894.2.2.2.1, iS r6894.2.2.2.2.1, .own 10 0 r6894.2.2.2.2.2.2.2.length]), (15, .row 29 (Enc.cells r6894.2.2.2.2.2.1))] 16 (by kernel_rfl) ?_
        exact hK6901 (false) _ _ _ h (leSt_m [] [] (by (try simp only [g6902]) <;> simp only [push_cast, leL_flD, renL_flD, seval]) (by (try simp only [g6902]) <;> simp only [push_cast, leL_flD, renL_flD, seval]) rfl rfl rfl)
      ·rintro t10q1 h
       try dsimp only at h ⊢
       unfold taskmilllaw_PickSure_j1 at h
       obtain rfl := Option.some.inj h
       refine ret_at (bS t10q1) (by kernel_rfl) ?_
       exact ret_e [] [] (by simp only [push_cast, leL_flD, renL_flD, seval]) (by simp only [push_cast, leL_flD, renL_flD, seval]) rfl rfl rfl

end Go.Proofs.Ytcpmhpobhnakeaa
