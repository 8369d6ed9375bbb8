/-
  What laws of the chapter sweep compute, and lemmas on it.
  No conditions.
-/
import Derived.Test.YtlfcicekappbfaasweepWSweepCycles2
set_option linter.unusedSimpArgs false
set_option linter.unusedVariables false
namespace Go.Proofs.Ytlfcicekappbfaa
open Go Go.Sx
attribute [local irreducible] Wk RunAt
set_option maxRecDepth 100000 in
set_option maxHeartbeats 200000000 in
theorem taskmilllaw_SweepCycles_spec (xh : GHeap) (barrier : Int) (acts : (List GAct)) (r : Bool) (h : taskmilllaw_SweepCycles xh barrier acts = some r) : SpecW Try.prog 4 [.agg (Enc.cells xh), iS barrier, .sl acts.length (fl acts)] [] 0 (fun x h n => x = bS r ∧ h = [] ∧ n = 0) := by
  unfold taskmilllaw_SweepCycles at h
  refine spec_of (draw_ok _) Try.func4 rfl (by decide) rfl (by kernel_rfl) ?_
  refine seq_np ?_
  refine reg_f ?_
  refine rs 2 [] [] (by kernel_rfl) allP_nil ?_
  refine rf [(1, iS barrier), (2, .sl acts.length (fl acts)), (3, .ptr 0 0)] [(0, .row 25 (Enc.cells xh))] 1 (by kernel_rfl) ?_
  refine wk_id ?_
  refine seq_np ?_
  refine seq_np ?_
  refine reg_f ?_
  obtain ⟨r7074, hr7074, h⟩ := bind_sx h
  refine run_call 8 [] (some 14) (by kernel_rfl) ?_
  refine call_0 (taskmilllaw_sweepBegun_spec r7074 hr7074) (by simp only [push_cast, leL_flD, renL_flD, seval]) (by simp only [push_cast, leL_flD, renL_flD, seval]) ?_
  refine back_f ?_
  refine rs 1 [] [] (by kernel_rfl) allP_nil ?_
  refine rf [(1, iS barrier), (2, .sl acts.length (fl acts)), (3, .ptr 0 0), (15, bS (!r7074))] [(0, .row 25 (Enc.cells xh))] 1 (by kernel_rfl) ?_
  refine wk_id ?_
  refine cond_sx h (by kernel_rfl) (fun g7165 h => ?_) (fun g7165 h => ?_)
  · refine seq_np ?_
    refine reg_f ?_
    refine rs 1 [] [] (by kernel_rfl) allP_nil ?_
    refine rf [(6, bS false)] [(0, .row 25 (Enc.cells xh))] 1 (by kernel_rfl) ?_
    refine wk_id ?_
    obtain rfl := Option.some.inj h
    refine ret_at (bS false) (by kernel_rfl) ?_
    exact ret_e [] [] (by simp only [push_cast, leL_flD, renL_flD, seval]) (by simp only [push_cast, leL_flD, renL_flD, seval]) rfl rfl rfl
  · refine wk_id ?_
    refine seq_np ?_
    refine seq_cut (A := Bool) (fun a => ([(1, iS barrier), (2, .sl acts.length (fl acts)), (3, .ptr 0 0), (22, bS a)], [(0, .row 25 (Enc.cells xh))], 1)) (fun a => (taskmilllaw_SweepCycles_j7 xh barrier acts a) = some r) (fun K7083 hK7083 => ?_) ?_
    · refine reg_f ?_
      refine rs 1 [] [] (by kernel_rfl) allP_nil ?_
      obtain ⟨r7084, hr7084, h⟩ := bind_sx h
      refine run_call 9 [.agg (Enc.cells xh)] (some 17) (by kernel_rfl) ?_
      refine call_0 (taskmilllaw_vastHeap_spec xh r7084 hr7084) (by simp only [push_cast, leL_flD, renL_flD, seval]) (by simp only [push_cast, leL_flD, renL_flD, seval]) ?_
      refine back_f ?_
      refine rs 1 [] [] (by kernel_rfl) allP_nil ?_
      refine run_br h 18 (.inl (by kernel_rfl)) (fun g7085 h => ?_) (fun g7085 h => ?_)
      · refine rs 4 [] [] (by kernel_rfl) allP_nil ?_
        refine rf [(1, iS barrier), (2, .sl acts.length (fl acts)), (3, .ptr 0 0), (22, bS true)] [(0, .row 25 (Enc.cells xh))] 1 (by kernel_rfl) ?_
        exact hK7083 (true) _ _ _ h (leSt_m [(0, 0)] [] (by (try simp only [g7085]) <;> simp only [push_cast, leL_flD, renL_flD, seval]) (by (try simp only [g7085]) <;> simp only [push_cast, leL_flD, renL_flD, seval]) rfl rfl rfl)
      · refine rs 4 [] [] (by kernel_rfl) allP_nil ?_
        refine rf [(1, iS barrier), (2, .sl acts.length (fl acts)), (3, .ptr 0 0), (22, bS (decide ((6000 : Int) < ((acts.length : Nat) : Int))))] [(0, .row 25 (Enc.cells xh))] 1 (by kernel_rfl) ?_
        exact hK7083 ((decide ((6000 : Int) < ((acts.length : Nat) : Int)))) _ _ _ h (leSt_m [(0, 0)] [] (by (try simp only [g7085]) <;> simp only [push_cast, leL_flD, renL_flD, seval]) (by (try simp only [g7085]) <;> simp only [push_cast, leL_flD, renL_flD, seval]) rfl rfl rfl)
    · rintro t22q2 h
      try dsimp only at h ⊢
      unfold taskmilllaw_SweepCycles_j7 at h
      refine cond_sx h (by kernel_rfl) (fun g7164 h => ?_) (fun g7164 h => ?_)
      · refine seq_np ?_
        refine reg_f ?_
        refine rs 1 [] [] (by kernel_rfl) allP_nil ?_
        refine rf [(6, bS true)] [(0, .row 25 (Enc.cells xh))] 1 (by kernel_rfl) ?_
        refine wk_id ?_
        obtain rfl := Option.some.inj h
        refine ret_at (bS true) (by kernel_rfl) ?_
        exact ret_e [] [] (by simp only [push_cast, leL_flD, renL_flD, seval]) (by simp only [push_cast, leL_flD, renL_flD, seval]) rfl rfl rfl
      · refine wk_id ?_
        refine seq_np ?_
        refine reg_f ?_
        refine rs 1 [] [] (by kernel_rfl) allP_nil ?_
        obtain ⟨r7087, hr7087, h⟩ := bind_sx h
        refine call_x (taskmilllaw_ownHeap_spec xh r7087 hr7087) (args := [.agg (Enc.cells xh)]) (dst := (some 24)) (by kernel_rfl) [(0, .row 25 (Enc.cells xh))] 1 (by kernel_rfl) [] [] (.agg [.own 1 0 r7087.1.length, .own 2 0 r7087.2.length]) [(1, .row 23 (fl r7087.1)), (2, .row 3 (fl r7087.2))] (by simp only [push_cast, leL_flD, renL_flD, seval]) (by simp only [push_cast, leL_flD, renL_flD, seval]) (by kernel_rfl) (.inl rfl) (by simp only [push_cast, leL_flD, renL_flD, seval]) (by simp only [push_cast, leL_flD, renL_flD, seval]) ?_
        refine rs 2 [] [] (by kernel_rfl) allP_nil ?_
        refine rf [(1, iS barrier), (2, .sl acts.length (fl acts)), (3, .ptr 0 0), (7, .ptr 3 0)] [(0, .row 25 (Enc.cells xh)), (1, .row 23 (fl r7087.1)), (2, .row 3 (fl r7087.2)), (3, .row 25 [.own 1 0 r7087.1.length, .own 2 0 r7087.2.length])] 4 (by kernel_rfl) ?_
        refine wk_mk [(1, iS barrier), (2, .sl acts.length (fl acts)), (3, .ptr 0 0), (7, .ptr 3 0)] [(0, .row 25 (Enc.cells xh)), (3, .row 25 [.sl r7087.1.length (fl r7087.1), .sl r7087.2.length (fl r7087.2)])] 4 (leSt_m [(0, 0), (3, 3)] [1, 2] (by simp only [leS_frz, leS_cut, leL_flD, renL_flD, push_cast, seval]) (by simp only [leS_frz, leS_cut, leL_flD, renL_flD, push_cast, seval]) rfl rfl rfl) ?_
        refine chk_sx h (fun g7096 h => ?_)
        refine seq_np ?_
        refine reg_t ?_
        have k7095 : acts.length * 32 ≤ 140737488355328 := by first | simpa only [Bool.and_eq_true, decide_eq_true_eq, bne_iff_ne, ne_eq] using g7096 | (simp at g7096 ⊢; omega)
        refine rs 4 [none, none, none, some ⟨.own 7 0 acts.length, [(7, .row 47 (fl acts))], 8, []⟩] _ (by kernel_rfl) (allP_cons (ob_app0 (P := Try.prog) acts 4 32 rfl (fl acts) acts.length rfl rfl ((fl acts).length = acts.length * 4) (app_sl acts 4 rfl) 47 (by kernel_rfl) (by decide) k7095 7 []) allP_nil) ?_
        obtain ⟨r7097, hr7097, h⟩ := bind_sx h
        refine call_x (SpecW.give (sweep_Cycle_spec (GHeap.mk r7087.1 r7087.2) barrier acts r7097 hr7097) [(0, .row 47 (fl acts))] [.agg [.sl r7087.1.length (fl r7087.1), .sl r7087.2.length (fl r7087.2)], iS barrier, .own 0 0 acts.length] [] (.tup [.agg [.own 1 0 r7097.2.1.length, .own 2 0 r7097.2.2.1.length], .own 3 0 r7097.2.2.2.length, .agg (Enc.cells r7097.1)]) [(1, .row 23 (flD dLListInt [4] r7097.2.1)), (2, .row 3 (fl r7097.2.2.1)), (3, .row 3 (fl r7097.2.2.2)), ((.s 4 0), .fam (famD dLListInt 0 r7097.2.1))] (by first | simp only [push_cast, leL_flD, renL_flD, seval] | simp only [push_cast, List.mem_singleton, true_and, and_true, leL_flD, renL_flD, seval]) (by simp only [push_cast, leL_flD, renL_flD, seval]) (by simp only [push_cast, leL_flD, renL_flD, seval]) (by simp only [push_cast, leL_flD, renL_flD, seval]) rfl (by first | (simp only [push_cast, leL_flD, renL_flD, seval]; done) | (simp only [push_cast, leL_flD, renL_flD, seval]; kernel_rfl) | kernel_rfl) (by first | (simp only [push_cast, leL_flD, renL_flD, seval]; done) | (simp only [push_cast, leL_flD, renL_flD, seval]; kernel_rfl) | kernel_rfl) rfl) (args := [.agg [.sl r7087.1.length (fl r7087.1), .sl r7087.2.length (fl r7087.2)], iS barrier, .own 7 0 acts.length]) (dst := (some 30)) (by kernel_rfl) [(0, .row 25 (Enc.cells xh)), (3, .row 25 [.sl r7087.1.length (fl r7087.1), .sl r7087.2.length (fl r7087.2)]), (7, .row 47 (fl acts))] 9 (by kernel_rfl) [(0, 7)] [] (.tup [.agg [.own 10 0 r7097.2.1.length, .own 11 0 r7097.2.2.1.length], .own 12 0 r7097.2.2.2.length, .agg (Enc.cells r7097.1)]) [(10, .row 23 (flD dLListInt [13] r7097.2.1)), (11, .row 3 (fl r7097.2.2.1)), (12, .row 3 (fl r7097.2.2.2)), ((.s 13 0), .fam (famD dLListInt 0 r7097.2.1)), (7, .dead)] (by simp only [push_cast, leL_flD, renL_flD, seval]) (by simp only [push_cast, leL_flD, renL_flD, seval]) (by kernel_rfl) (.inl rfl) (by first | (simp only [push_cast, leL_flD, renL_flD, seval]; done) | (simp only [push_cast, leL_flD, renL_flD, seval]; kernel_rfl) | kernel_rfl) (by first | (simp only [push_cast, leL_flD, renL_flD, seval]; done) | (simp only [push_cast, leL_flD, renL_flD, seval]; kernel_rfl) | kernel_rfl) ?_
        refine rs 9 [] [] (by kernel_rfl) allP_nil ?_
        refine rt [(1, iS barrier), (2, .sl acts.length (fl acts)), (3, .ptr 0 0), (7, .ptr 3 0), (8, .ptr 19 0), (9, .own 12 0 r7097.2.2.2.length), (10, .ptr 21 0)] [(0, .row 25 (Enc.cells xh)), (3, .row 25 [.sl r7087.1.length (fl r7087.1), .sl r7087.2.length (fl r7087.2)]), (7, .dead), (10, .row 23 (flD dLListInt [13] r7097.2.1)), (11, .row 3 (fl r7097.2.2.1)), (12, .row 3 (fl r7097.2.2.2)), ((.s 13 0), .fam (famD dLListInt 0 r7097.2.1)), (19, .row 25 [.own 10 0 r7097.2.1.length, .own 11 0 r7097.2.2.1.length]), (21, .row 30 (Enc.cells r7097.1))] 26 follows (by kernel_rfl) ?_
        refine wk_id ?_
        refine seq_np ?_
        refine reg_f ?_
        refine rs 1 [] [] (by kernel_rfl) allP_nil ?_
        obtain ⟨r7099, hr7099, h⟩ := bind_sx h
        refine run_call 13 [.agg (Enc.cells xh)] (some 35) (by kernel_rfl) ?_
        refine call_0 (taskmillref_HeapsFault_spec xh r7099 hr7099) (by simp only [push_cast, leL_flD, renL_flD, seval]) (by simp only [push_cast, leL_flD, renL_flD, seval]) ?_
        refine back_f ?_
        refine rs 2 [] [] (by kernel_rfl) allP_nil ?_
        refine rf [(1, iS barrier), (2, .sl acts.length (fl acts)), (3, .ptr 0 0), (7, .ptr 3 0), (8, .ptr 19 0), (9, .own 12 0 r7097.2.2.2.length), (10, .ptr 21 0), (11, .ptr 26 0)] [(0, .row 25 (Enc.cells xh)), (3, .row 25 [.sl r7087.1.length (fl r7087.1), .sl r7087.2.length (fl r7087.2)]), (7, .dead), (10, .row 23 (flD dLListInt [13] r7097.2.1)), (11, .row 3 (fl r7097.2.2.1)), (12, .row 3 (fl r7097.2.2.2)), ((.s 13 0), .fam (famD dLListInt 0 r7097.2.1)), (19, .row 25 [.own 10 0 r7097.2.1.length, .own 11 0 r7097.2.2.1.length]), (21, .row 30 (Enc.cells r7097.1)), (26, .row 30 (Enc.cells r7099))] 27 (by kernel_rfl) ?_
        refine wk_id ?_
        refine seq_cut (A := GHeap × (List Int) × Fault × Fault × (List (List Int)) × (List Int)) (fun a => ([(1, iS barrier), (2, .sl acts.length (fl acts)), (3, .ptr 0 0), (7, .ptr 1 0), (8, .ptr 2 0), (9, .own 3 0 a.2.1.length), (10, .ptr 4 0), (11, .ptr 5 0)], [(0, .row 25 (Enc.cells xh)), (1, .row 25 (Enc.cells a.1)), (2, .row 25 [.own 6 0 a.2.2.2.2.1.length, .own 7 0 a.2.2.2.2.2.length]), (3, .row 3 (fl a.2.1)), (4, .row 30 (Enc.cells a.2.2.1)), (5, .row 30 (Enc.cells a.2.2.2.1)), (6, .row 23 (flD dLListInt [8] a.2.2.2.2.1)), (7, .row 3 (fl a.2.2.2.2.2)), ((.s 8 0), .fam (famD dLListInt 0 a.2.2.2.2.1))], 9)) (fun a => (taskmilllaw_SweepCycles_j6 xh barrier acts a.1 a.2.1 a.2.2.1 a.2.2.2.1 a.2.2.2.2.1 a.2.2.2.2.2) = some r) (fun K7105 hK7105 => ?_) ?_
        · refine seq_cut (A := Unit) (fun _ => ([(1, iS barrier), (2, .sl acts.length (fl acts)), (3, .ptr 0 0), (7, .ptr 3 0), (8, .ptr 19 0), (9, .own 12 0 r7097.2.2.2.length), (10, .ptr 21 0), (11, .ptr 26 0), (46, bS ((r7099.Code == 0) && ((decide (barrier < 0)) || (decide ((3 : Int) < barrier)))))], [(0, .row 25 (Enc.cells xh)), (3, .row 25 [.sl r7087.1.length (fl r7087.1), .sl r7087.2.length (fl r7087.2)]), (10, .row 23 (flD dLListInt [13] r7097.2.1)), (11, .row 3 (fl r7097.2.2.1)), (12, .row 3 (fl r7097.2.2.2)), ((.s 13 0), .fam (famD dLListInt 0 r7097.2.1)), (19, .row 25 [.own 10 0 r7097.2.1.length, .own 11 0 r7097.2.2.1.length]), (21, .row 30 (Enc.cells r7097.1)), (26, .row 30 (Enc.cells r7099))], 27)) (fun _ => True) (fun K7108 hK7108 => ?_) (fun _ _ => ?_)
          · refine reg_f ?_
            refine rs 4 [] [] (by kernel_rfl) allP_nil ?_
            refine run_split 39 (r7099.Code == 0) (.inl (by kernel_rfl)) (fun g7109 => ?_) (fun g7109 => ?_)
            · refine rs 3 [] [] (by kernel_rfl) allP_nil ?_
              refine run_split 42 (decide (barrier < 0)) (.inr (by kernel_rfl)) (fun g7110 => ?_) (fun g7110 => ?_)
              · refine rs 4 [] [] (by kernel_rfl) allP_nil ?_
                refine rf [(1, iS barrier), (2, .sl acts.length (fl acts)), (3, .ptr 0 0), (7, .ptr 3 0), (8, .ptr 19 0), (9, .own 12 0 r7097.2.2.2.length), (10, .ptr 21 0), (11, .ptr 26 0), (46, bS true)] [(0, .row 25 (Enc.cells xh)), (3, .row 25 [.sl r7087.1.length (fl r7087.1), .sl r7087.2.length (fl r7087.2)]), (7, .dead), (10, .row 23 (flD dLListInt [13] r7097.2.1)), (11, .row 3 (fl r7097.2.2.1)), (12, .row 3 (fl r7097.2.2.2)), ((.s 13 0), .fam (famD dLListInt 0 r7097.2.1)), (19, .row 25 [.own 10 0 r7097.2.1.length, .own 11 0 r7097.2.2.1.length]), (21, .row 30 (Enc.cells r7097.1)), (26, .row 30 (Enc.cells r7099))] 27 (by kernel_rfl) ?_
                exact hK7108 () _ _ _ trivial (leSt_m [(0, 0), (3, 3), (10, 10), (11, 11), (12, 12), ((.s 13 0), (.s 13 0)), (19, 19), (21, 21), (26, 26)] [] (by first | ((try simp only [g7109, g7110]) <;> simp only [push_cast, leL_flD, renL_flD, seval]; done) | ((try simp only [g7109]); (try simp only [g7110]); simp only [push_cast, leL_flD, renL_flD, seval]; done) | (exfalso; clear h; simp_all; done)) (by first | ((try simp only [g7109, g7110]) <;> simp only [push_cast, leL_flD, renL_flD, seval]; done) | ((try simp only [g7109]); (try simp only [g7110]); simp only [push_cast, leL_flD, renL_flD, seval]; done) | (exfalso; clear h; simp_all; done)) rfl rfl rfl)
              · refine rs 4 [] [] (by kernel_rfl) allP_nil ?_
                refine rf [(1, iS barrier), (2, .sl acts.length (fl acts)), (3, .ptr 0 0), (7, .ptr 3 0), (8, .ptr 19 0), (9, .own 12 0 r7097.2.2.2.length), (10, .ptr 21 0), (11, .ptr 26 0), (46, bS (decide ((3 : Int) < barrier)))] [(0, .row 25 (Enc.cells xh)), (3, .row 25 [.sl r7087.1.length (fl r7087.1), .sl r7087.2.length (fl r7087.2)]), (7, .dead), (10, .row 23 (flD dLListInt [13] r7097.2.1)), (11, .row 3 (fl r7097.2.2.1)), (12, .row 3 (fl r7097.2.2.2)), ((.s 13 0), .fam (famD dLListInt 0 r7097.2.1)), (19, .row 25 [.own 10 0 r7097.2.1.length, .own 11 0 r7097.2.2.1.length]), (21, .row 30 (Enc.cells r7097.1)), (26, .row 30 (Enc.cells r7099))] 27 (by kernel_rfl) ?_
                exact hK7108 () _ _ _ trivial (leSt_m [(0, 0), (3, 3), (10, 10), (11, 11), (12, 12), ((.s 13 0), (.s 13 0)), (19, 19), (21, 21), (26, 26)] [] (by first | ((try simp only [g7109, g7110]) <;> simp only [push_cast, leL_flD, renL_flD, seval]; done) | ((try simp only [g7109]); (try simp only [g7110]); simp only [push_cast, leL_flD, renL_flD, seval]; done) | (exfalso; clear h; simp_all; done)) (by first | ((try simp only [g7109, g7110]) <;> simp only [push_cast, leL_flD, renL_flD, seval]; done) | ((try simp only [g7109]); (try simp only [g7110]); simp only [push_cast, leL_flD, renL_flD, seval]; done) | (exfalso; clear h; simp_all; done)) rfl rfl rfl)
            · refine rs 7 [] [] (by kernel_rfl) allP_nil ?_
              refine rf [(1, iS barrier), (2, .sl acts.length (fl acts)), (3, .ptr 0 0), (7, .ptr 3 0), (8, .ptr 19 0), (9, .own 12 0 r7097.2.2.2.length), (10, .ptr 21 0), (11, .ptr 26 0), (46, bS false)] [(0, .row 25 (Enc.cells xh)), (3, .row 25 [.sl r7087.1.length (fl r7087.1), .sl r7087.2.length (fl r7087.2)]), (7, .dead), (10, .row 23 (flD dLListInt [13] r7097.2.1)), (11, .row 3 (fl r7097.2.2.1)), (12, .row 3 (fl r7097.2.2.2)), ((.s 13 0), .fam (famD dLListInt 0 r7097.2.1)), (19, .row 25 [.own 10 0 r7097.2.1.length, .own 11 0 r7097.2.2.1.length]), (21, .row 30 (Enc.cells r7097.1)), (26, .row 30 (Enc.cells r7099))] 27 (by kernel_rfl) ?_
              exact hK7108 () _ _ _ trivial (leSt_m [(0, 0), (3, 3), (10, 10), (11, 11), (12, 12), ((.s 13 0), (.s 13 0)), (19, 19), (21, 21), (26, 26)] [] (by (try simp only [g7109]) <;> simp only [push_cast, leL_flD, renL_flD, seval]) (by (try simp only [g7109]) <;> simp only [push_cast, leL_flD, renL_flD, seval]) rfl rfl rfl)
          · dsimp only
            refine cond_sx h (by kernel_rfl) (fun g7113 h => ?_) (fun g7113 h => ?_)
            · refine reg_f ?_
              obtain ⟨r7112, hr7112, h⟩ := bind_sx h
              refine run_call 20 [iS 4, iS (-1)] (some 47) (by kernel_rfl) ?_
              refine call_0 (taskmillref_F_spec 4 (-1) r7112 hr7112) (by simp only [push_cast, leL_flD, renL_flD, seval]) (by simp only [push_cast, leL_flD, renL_flD, seval]) ?_
              refine back_f ?_
              refine rs 1 [] [] (by kernel_rfl) allP_nil ?_
              refine rf [(1, iS barrier), (2, .sl acts.length (fl acts)), (3, .ptr 0 0), (7, .ptr 3 0), (8, .ptr 19 0), (9, .own 12 0 r7097.2.2.2.length), (10, .ptr 21 0), (11, .ptr 26 0)] [(0, .row 25 (Enc.cells xh)), (3, .row 25 [.sl r7087.1.length (fl r7087.1), .sl r7087.2.length (fl r7087.2)]), (10, .row 23 (flD dLListInt [13] r7097.2.1)), (11, .row 3 (fl r7097.2.2.1)), (12, .row 3 (fl r7097.2.2.2)), ((.s 13 0), .fam (famD dLListInt 0 r7097.2.1)), (19, .row 25 [.own 10 0 r7097.2.1.length, .own 11 0 r7097.2.2.1.length]), (21, .row 30 (Enc.cells r7097.1)), (26, .row 30 (Enc.cells r7112))] 27 (by kernel_rfl) ?_
              exact hK7105 ((GHeap.mk r7087.1 r7087.2), r7097.2.2.2, r7097.1, r7112, r7097.2.1, r7097.2.2.1) _ _ _ h (leSt_m [(0, 0), (1, 3), (2, 19), (3, 12), (4, 21), (5, 26), (6, 10), (7, 11), ((.s 8 0), (.s 13 0))] [] (by simp only [push_cast, leL_flD, renL_flD, seval]) (by simp only [push_cast, leL_flD, renL_flD, seval]) rfl rfl rfl)
            · exact hK7105 ((GHeap.mk r7087.1 r7087.2), r7097.2.2.2, r7097.1, r7099, r7097.2.1, r7097.2.2.1) _ _ _ h (leSt_m [(0, 0), (1, 3), (2, 19), (3, 12), (4, 21), (5, 26), (6, 10), (7, 11), ((.s 8 0), (.s 13 0))] [] (by simp only [push_cast, leL_flD, renL_flD, seval]) (by simp only [push_cast, leL_flD, renL_flD, seval]) rfl rfl rfl)
        · rintro ⟨c1q1, c3q1, c4q1, c5q3, c6q1, c7q2⟩ h
          try dsimp only at h ⊢
          unfold taskmilllaw_SweepCycles_j6 at h
          refine seq_cut (A := Fault) (fun a => ([(1, iS barrier), (2, .sl acts.length (fl acts)), (3, .ptr 0 0), (7, .ptr 1 0), (8, .ptr 2 0), (9, .own 3 0 c3q1.length), (10, .ptr 4 0), (11, .ptr 5 0)], [(0, .row 25 (Enc.cells xh)), (1, .row 25 (Enc.cells c1q1)), (2, .row 25 [.own 6 0 c6q1.length, .own 7 0 c7q2.length]), (3, .row 3 (fl c3q1)), (4, .row 30 (Enc.cells c4q1)), (5, .row 30 (Enc.cells a)), (6, .row 23 (flD dLListInt [8] c6q1)), (7, .row 3 (fl c7q2)), ((.s 8 0), .fam (famD dLListInt 0 c6q1))], 9)) (fun a => (taskmilllaw_SweepCycles_j5 xh barrier acts c1q1 c3q1 c4q1 c6q1 c7q2 a) = some r) (fun K7118 hK7118 => ?_) ?_
          · refine seq_cut (A := Unit) (fun _ => ([(1, iS barrier), (2, .sl acts.length (fl acts)), (3, .ptr 0 0), (7, .ptr 1 0), (8, .ptr 2 0), (9, .own 3 0 c3q1.length), (10, .ptr 4 0), (11, .ptr 5 0), (55, bS ((c5q3.Code == 0) && (decide ((5000 : Int) < ((acts.length : Nat) : Int)))))], [(0, .row 25 (Enc.cells xh)), (1, .row 25 (Enc.cells c1q1)), (2, .row 25 [.own 6 0 c6q1.length, .own 7 0 c7q2.length]), (3, .row 3 (fl c3q1)), (4, .row 30 (Enc.cells c4q1)), (5, .row 30 (Enc.cells c5q3)), (6, .row 23 (flD dLListInt [8] c6q1)), (7, .row 3 (fl c7q2)), ((.s 8 0), .fam (famD dLListInt 0 c6q1))], 9)) (fun _ => True) (fun K7120 hK7120 => ?_) (fun _ _ => ?_)
            · refine reg_f ?_
              refine rs 4 [] [] (by kernel_rfl) allP_nil ?_
              refine run_split 51 (c5q3.Code == 0) (.inl (by kernel_rfl)) (fun g7121 => ?_) (fun g7121 => ?_)
              · refine rs 4 [] [] (by kernel_rfl) allP_nil ?_
                refine rf [(1, iS barrier), (2, .sl acts.length (fl acts)), (3, .ptr 0 0), (7, .ptr 1 0), (8, .ptr 2 0), (9, .own 3 0 c3q1.length), (10, .ptr 4 0), (11, .ptr 5 0), (55, bS (decide ((5000 : Int) < ((acts.length : Nat) : Int))))] [(0, .row 25 (Enc.cells xh)), (1, .row 25 (Enc.cells c1q1)), (2, .row 25 [.own 6 0 c6q1.length, .own 7 0 c7q2.length]), (3, .row 3 (fl c3q1)), (4, .row 30 (Enc.cells c4q1)), (5, .row 30 (Enc.cells c5q3)), (6, .row 23 (flD dLListInt [8] c6q1)), (7, .row 3 (fl c7q2)), ((.s 8 0), .fam (famD dLListInt 0 c6q1))] 9 (by kernel_rfl) ?_
                exact hK7120 () _ _ _ trivial (leSt_m [(0, 0), (1, 1), (2, 2), (3, 3), (4, 4), (5, 5), (6, 6), (7, 7), ((.s 8 0), (.s 8 0))] [] (by (try simp only [g7121]) <;> simp only [push_cast, leL_flD, renL_flD, seval]) (by (try simp only [g7121]) <;> simp only [push_cast, leL_flD, renL_flD, seval]) rfl rfl rfl)
              · refine rs 4 [] [] (by kernel_rfl) allP_nil ?_
                refine rf [(1, iS barrier), (2, .sl acts.length (fl acts)), (3, .ptr 0 0), (7, .ptr 1 0), (8, .ptr 2 0), (9, .own 3 0 c3q1.length), (10, .ptr 4 0), (11, .ptr 5 0), (55, bS false)] [(0, .row 25 (Enc.cells xh)), (1, .row 25 (Enc.cells c1q1)), (2, .row 25 [.own 6 0 c6q1.length, .own 7 0 c7q2.length]), (3, .row 3 (fl c3q1)), (4, .row 30 (Enc.cells c4q1)), (5, .row 30 (Enc.cells c5q3)), (6, .row 23 (flD dLListInt [8] c6q1)), (7, .row 3 (fl c7q2)), ((.s 8 0), .fam (famD dLListInt 0 c6q1))] 9 (by kernel_rfl) ?_
                exact hK7120 () _ _ _ trivial (leSt_m [(0, 0), (1, 1), (2, 2), (3, 3), (4, 4), (5, 5), (6, 6), (7, 7), ((.s 8 0), (.s 8 0))] [] (by (try simp only [g7121]) <;> simp only [push_cast, leL_flD, renL_flD, seval]) (by (try simp only [g7121]) <;> simp only [push_cast, leL_flD, renL_flD, seval]) rfl rfl rfl)
            · dsimp only
              refine cond_sx h (by kernel_rfl) (fun g7124 h => ?_) (fun g7124 h => ?_)
              · refine reg_f ?_
                obtain ⟨r7123, hr7123, h⟩ := bind_sx h
                refine run_call 20 [iS 2, iS (-1)] (some 56) (by kernel_rfl) ?_
                refine call_0 (taskmillref_F_spec 2 (-1) r7123 hr7123) (by simp only [push_cast, leL_flD, renL_flD, seval]) (by simp only [push_cast, leL_flD, renL_flD, seval]) ?_
                refine back_f ?_
                refine rs 1 [] [] (by kernel_rfl) allP_nil ?_
                refine rf [(1, iS barrier), (2, .sl acts.length (fl acts)), (3, .ptr 0 0), (7, .ptr 1 0), (8, .ptr 2 0), (9, .own 3 0 c3q1.length), (10, .ptr 4 0), (11, .ptr 5 0)] [(0, .row 25 (Enc.cells xh)), (1, .row 25 (Enc.cells c1q1)), (2, .row 25 [.own 6 0 c6q1.length, .own 7 0 c7q2.length]), (3, .row 3 (fl c3q1)), (4, .row 30 (Enc.cells c4q1)), (5, .row 30 (Enc.cells r7123)), (6, .row 23 (flD dLListInt [8] c6q1)), (7, .row 3 (fl c7q2)), ((.s 8 0), .fam (famD dLListInt 0 c6q1))] 9 (by kernel_rfl) ?_
                exact hK7118 (r7123) _ _ _ h (leSt_m [(0, 0), (1, 1), (2, 2), (3, 3), (4, 4), (5, 5), (6, 6), (7, 7), ((.s 8 0), (.s 8 0))] [] (by simp only [push_cast, leL_flD, renL_flD, seval]) (by simp only [push_cast, leL_flD, renL_flD, seval]) rfl rfl rfl)
              · exact hK7118 (c5q3) _ _ _ h (leSt_m [(0, 0), (1, 1), (2, 2), (3, 3), (4, 4), (5, 5), (6, 6), (7, 7), ((.s 8 0), (.s 8 0))] [] (by simp only [push_cast, leL_flD, renL_flD, seval]) (by simp only [push_cast, leL_flD, renL_flD, seval]) rfl rfl rfl)
          · rintro c5q4 h
            try dsimp only at h ⊢
            unfold taskmilllaw_SweepCycles_j5 at h
            refine seq_np ?_
            refine reg_f ?_
            refine rs 1 [] [] (by kernel_rfl) allP_nil ?_
            refine rf [(1, iS barrier), (2, .sl acts.length (fl acts)), (3, .ptr 0 0), (7, .ptr 1 0), (8, .ptr 2 0), (9, .own 3 0 c3q1.length), (10, .ptr 4 0), (11, .ptr 5 0), (12, .ptr 9 0)] [(0, .row 25 (Enc.cells xh)), (1, .row 25 (Enc.cells c1q1)), (2, .row 25 [.own 6 0 c6q1.length, .own 7 0 c7q2.length]), (3, .row 3 (fl c3q1)), (4, .row 30 (Enc.cells c4q1)), (5, .row 30 (Enc.cells c5q4)), (6, .row 23 (flD dLListInt [8] c6q1)), (7, .row 3 (fl c7q2)), ((.s 8 0), .fam (famD dLListInt 0 c6q1)), (9, .row 25 [.v (.slice none 0 0), .v (.slice none 0 0)])] 10 (by kernel_rfl) ?_
            refine wk_id ?_
            refine seq_np ?_
            refine reg_f ?_
            refine rs 1 [] [] (by kernel_rfl) allP_nil ?_
            refine rf [(1, iS barrier), (2, .sl acts.length (fl acts)), (3, .ptr 0 0), (7, .ptr 1 0), (8, .ptr 2 0), (9, .own 3 0 c3q1.length), (10, .ptr 4 0), (11, .ptr 5 0), (12, .ptr 9 0), (13, .v (.slice none 0 0))] [(0, .row 25 (Enc.cells xh)), (1, .row 25 (Enc.cells c1q1)), (2, .row 25 [.own 6 0 c6q1.length, .own 7 0 c7q2.length]), (3, .row 3 (fl c3q1)), (4, .row 30 (Enc.cells c4q1)), (5, .row 30 (Enc.cells c5q4)), (6, .row 23 (flD dLListInt [8] c6q1)), (7, .row 3 (fl c7q2)), ((.s 8 0), .fam (famD dLListInt 0 c6q1)), (9, .row 25 [.v (.slice none 0 0), .v (.slice none 0 0)])] 10 (by kernel_rfl) ?_
            refine wk_id ?_
            refine seq_cut (A := Fault × (List Int) × (List (List Int)) × (List Int)) (fun a => ([(3, .ptr 0 0), (7, .ptr 1 0), (8, .ptr 2 0), (9, .own 3 0 c3q1.length), (10, .ptr 4 0), (11, .ptr 5 0), (12, .ptr 6 0), (13, .own 7 0 a.2.1.length)], [(0, .row 25 (Enc.cells xh)), (1, .row 25 (Enc.cells c1q1)), (2, .row 25 [.own 8 0 c6q1.length, .own 9 0 c7q2.length]), (3, .row 3 (fl c3q1)), (4, .row 30 (Enc.cells c4q1)), (5, .row 30 (Enc.cells a.1)), (6, .row 25 [.own 10 0 a.2.2.1.length, .own 11 0 a.2.2.2.length]), (7, .row 3 (fl a.2.1)), (8, .row 23 (flD dLListInt [12] c6q1)), (9, .row 3 (fl c7q2)), (10, .row 23 (flD dLListInt [13] a.2.2.1)), (11, .row 3 (fl a.2.2.2)), ((.s 12 0), .fam (famD dLListInt 0 c6q1)), ((.s 13 0), .fam (famD dLListInt 0 a.2.2.1))], 14)) (fun a => (taskmilllaw_SweepCycles_j4 xh c1q1 c3q1 c4q1 c6q1 c7q2 a.1 a.2.1 a.2.2.1 a.2.2.2) = some r) (fun K7128 hK7128 => ?_) ?_
            · refine seq_np ?_
              refine reg_f ?_
              refine rs 3 [] [] (by kernel_rfl) allP_nil ?_
              refine rf [(1, iS barrier), (2, .sl acts.length (fl acts)), (3, .ptr 0 0), (7, .ptr 1 0), (8, .ptr 2 0), (9, .own 3 0 c3q1.length), (10, .ptr 4 0), (11, .ptr 5 0), (12, .ptr 9 0), (13, .v (.slice none 0 0)), (59, bS (c5q4.Code == 0))] [(0, .row 25 (Enc.cells xh)), (1, .row 25 (Enc.cells c1q1)), (2, .row 25 [.own 6 0 c6q1.length, .own 7 0 c7q2.length]), (3, .row 3 (fl c3q1)), (4, .row 30 (Enc.cells c4q1)), (5, .row 30 (Enc.cells c5q4)), (6, .row 23 (flD dLListInt [8] c6q1)), (7, .row 3 (fl c7q2)), ((.s 8 0), .fam (famD dLListInt 0 c6q1)), (9, .row 25 [.v (.slice none 0 0), .v (.slice none 0 0)])] 10 (by kernel_rfl) ?_
              refine wk_id ?_
              refine cond_sx h (by kernel_rfl) (fun g7131 h => ?_) (fun g7131 h => ?_)
              · refine reg_f ?_
                refine rs 3 [] [] (by kernel_rfl) allP_nil ?_
                obtain ⟨r7130, hr7130, h⟩ := bind_sx h
                refine call_x (taskmillref_Cycled_spec xh barrier acts r7130 hr7130) (args := [.agg (Enc.cells xh), iS barrier, .sl acts.length (fl acts)]) (dst := (some 64)) (by kernel_rfl) [(0, .row 25 (Enc.cells xh)), (1, .row 25 (Enc.cells c1q1)), (2, .row 25 [.own 6 0 c6q1.length, .own 7 0 c7q2.length]), (3, .row 3 (fl c3q1)), (4, .row 30 (Enc.cells c4q1)), (5, .row 30 (Enc.cells c5q4)), (6, .row 23 (flD dLListInt [8] c6q1)), (7, .row 3 (fl c7q2)), ((.s 8 0), .fam (famD dLListInt 0 c6q1)), (9, .row 25 [.v (.slice none 0 0), .v (.slice none 0 0)])] 10 (by kernel_rfl) [] [] (.tup [.agg [.own 10 0 r7130.2.1.length, .own 11 0 r7130.2.2.1.length], .own 12 0 r7130.2.2.2.length, .agg (Enc.cells r7130.1)]) [(10, .row 23 (flD dLListInt [13] r7130.2.1)), (11, .row 3 (fl r7130.2.2.1)), (12, .row 3 (fl r7130.2.2.2)), ((.s 13 0), .fam (famD dLListInt 0 r7130.2.1))] (by simp only [push_cast, leL_flD, renL_flD, seval]) (by simp only [push_cast, leL_flD, renL_flD, seval]) (by kernel_rfl) (.inl rfl) (by first | (simp only [push_cast, leL_flD, renL_flD, seval]; done) | (simp only [push_cast, leL_flD, renL_flD, seval]; kernel_rfl) | kernel_rfl) (by first | (simp only [push_cast, leL_flD, renL_flD, seval]; done) | (simp only [push_cast, leL_flD, renL_flD, seval]; kernel_rfl) | kernel_rfl) ?_
                refine rs 7 [] [] (by kernel_rfl) allP_nil ?_
                refine rf [(3, .ptr 0 0), (7, .ptr 1 0), (8, .ptr 2 0), (9, .own 3 0 c3q1.length), (10, .ptr 4 0), (11, .ptr 5 0), (12, .ptr 9 0), (13, .own 12 0 r7130.2.2.2.length)] [(0, .row 25 (Enc.cells xh)), (1, .row 25 (Enc.cells c1q1)), (2, .row 25 [.own 6 0 c6q1.length, .own 7 0 c7q2.length]), (3, .row 3 (fl c3q1)), (4, .row 30 (Enc.cells c4q1)), (5, .row 30 (Enc.cells r7130.1)), (6, .row 23 (flD dLListInt [8] c6q1)), (7, .row 3 (fl c7q2)), ((.s 8 0), .fam (famD dLListInt 0 c6q1)), (9, .row 25 [.own 10 0 r7130.2.1.length, .own 11 0 r7130.2.2.1.length]), (10, .row 23 (flD dLListInt [13] r7130.2.1)), (11, .row 3 (fl r7130.2.2.1)), (12, .row 3 (fl r7130.2.2.2)), ((.s 13 0), .fam (famD dLListInt 0 r7130.2.1))] 14 (by kernel_rfl) ?_
                exact hK7128 (r7130.1, r7130.2.2.2, r7130.2.1, r7130.2.2.1) _ _ _ h (leSt_m [(0, 0), (1, 1), (2, 2), (3, 3), (4, 4), (5, 5), (6, 9), (7, 12), (8, 6), (9, 7), (10, 10), (11, 11), ((.s 12 0), (.s 8 0)), ((.s 13 0), (.s 13 0))] [] (by simp only [push_cast, leL_flD, renL_flD, seval]) (by simp only [push_cast, leL_flD, renL_flD, seval]) rfl rfl rfl)
              · exact hK7128 (c5q4, [], [], []) _ _ _ h (leSt_m [(0, 0), (1, 1), (2, 2), (3, 3), (4, 4), (5, 5), (6, 9), (8, 6), (9, 7), ((.s 12 0), (.s 8 0))] [] (by simp only [push_cast, leL_flD, renL_flD, seval]) (by simp only [push_cast, leL_flD, renL_flD, seval]) rfl rfl rfl)
            · rintro ⟨c5q5, c7q3, c10q1, c11q1⟩ h
              try dsimp only at h ⊢
              unfold taskmilllaw_SweepCycles_j4 at h
              refine seq_np ?_
              refine seq_cut (A := Bool) (fun a => ([(8, .ptr 0 0), (9, .own 1 0 c3q1.length), (11, .ptr 2 0), (12, .ptr 3 0), (13, .own 4 0 c7q3.length), (76, bS a)], [(0, .row 25 [.own 5 0 c6q1.length, .own 6 0 c7q2.length]), (1, .row 3 (fl c3q1)), (2, .row 30 (Enc.cells c5q5)), (3, .row 25 [.own 7 0 c10q1.length, .own 8 0 c11q1.length]), (4, .row 3 (fl c7q3)), (5, .row 23 (flD dLListInt [9] c6q1)), (6, .row 3 (fl c7q2)), (7, .row 23 (flD dLListInt [10] c10q1)), (8, .row 3 (fl c11q1)), ((.s 9 0), .fam (famD dLListInt 0 c6q1)), ((.s 10 0), .fam (famD dLListInt 0 c10q1))], 11)) (fun a => (taskmilllaw_SweepCycles_j3 c3q1 c6q1 c7q2 c5q5 c7q3 c10q1 c11q1 a) = some r) (fun K7140 hK7140 => ?_) ?_
              · refine reg_f ?_
                refine rs 4 [] [] (by kernel_rfl) allP_nil ?_
                refine run_br h 71 (.inl (by kernel_rfl)) (fun g7141 h => ?_) (fun g7141 h => ?_)
                · refine rs 5 [] [] (by kernel_rfl) allP_nil ?_
                  refine rf [(8, .ptr 2 0), (9, .own 3 0 c3q1.length), (11, .ptr 5 0), (12, .ptr 6 0), (13, .own 7 0 c7q3.length), (76, bS true)] [(0, .row 25 (Enc.cells xh)), (1, .row 25 (Enc.cells c1q1)), (2, .row 25 [.own 8 0 c6q1.length, .own 9 0 c7q2.length]), (3, .row 3 (fl c3q1)), (4, .row 30 (Enc.cells c4q1)), (5, .row 30 (Enc.cells c5q5)), (6, .row 25 [.own 10 0 c10q1.length, .own 11 0 c11q1.length]), (7, .row 3 (fl c7q3)), (8, .row 23 (flD dLListInt [12] c6q1)), (9, .row 3 (fl c7q2)), (10, .row 23 (flD dLListInt [13] c10q1)), (11, .row 3 (fl c11q1)), ((.s 12 0), .fam (famD dLListInt 0 c6q1)), ((.s 13 0), .fam (famD dLListInt 0 c10q1))] 14 (by kernel_rfl) ?_
                  exact hK7140 (true) _ _ _ h (leSt_m [(0, 2), (1, 3), (2, 5), (3, 6), (4, 7), (5, 8), (6, 9), (7, 10), (8, 11), ((.s 9 0), (.s 12 0)), ((.s 10 0), (.s 13 0))] [] (by (try simp only [g7141]) <;> simp only [push_cast, leL_flD, renL_flD, seval]) (by (try simp only [g7141]) <;> simp only [push_cast, leL_flD, renL_flD, seval]) rfl rfl rfl)
                · refine rs 2 [] [] (by kernel_rfl) allP_nil ?_
                  obtain ⟨r7142, hr7142, h⟩ := bind_sx h
                  refine run_call 14 [.agg (Enc.cells c1q1), .agg (Enc.cells xh)] (some 74) (by kernel_rfl) ?_
                  refine call_0 (taskmillref_SameHeap_spec c1q1 xh r7142 hr7142) (by simp only [push_cast, leL_flD, renL_flD, seval]) (by simp only [push_cast, leL_flD, renL_flD, seval]) ?_
                  refine back_f ?_
                  refine rs 2 [] [] (by kernel_rfl) allP_nil ?_
                  refine rf [(8, .ptr 2 0), (9, .own 3 0 c3q1.length), (11, .ptr 5 0), (12, .ptr 6 0), (13, .own 7 0 c7q3.length), (76, bS (!r7142))] [(0, .row 25 (Enc.cells xh)), (1, .row 25 (Enc.cells c1q1)), (2, .row 25 [.own 8 0 c6q1.length, .own 9 0 c7q2.length]), (3, .row 3 (fl c3q1)), (4, .row 30 (Enc.cells c4q1)), (5, .row 30 (Enc.cells c5q5)), (6, .row 25 [.own 10 0 c10q1.length, .own 11 0 c11q1.length]), (7, .row 3 (fl c7q3)), (8, .row 23 (flD dLListInt [12] c6q1)), (9, .row 3 (fl c7q2)), (10, .row 23 (flD dLListInt [13] c10q1)), (11, .row 3 (fl c11q1)), ((.s 12 0), .fam (famD dLListInt 0 c6q1)), ((.s 13 0), .fam (famD dLListInt 0 c10q1))] 14 (by kernel_rfl) ?_
                  exact hK7140 ((!r7142)) _ _ _ h (leSt_m [(0, 2), (1, 3), (2, 5), (3, 6), (4, 7), (5, 8), (6, 9), (7, 10), (8, 11), ((.s 9 0), (.s 12 0)), ((.s 10 0), (.s 13 0))] [] (by (try simp only [g7141]) <;> simp only [push_cast, leL_flD, renL_flD, seval]) (by (try simp only [g7141]) <;> simp only [push_cast, leL_flD, renL_flD, seval]) rfl rfl rfl)
              · rintro t76q2 h
                try dsimp only at h ⊢
                unfold taskmilllaw_SweepCycles_j3 at h
                refine cond_sx h (by kernel_rfl) (fun g7163 h => ?_) (fun g7163 h => ?_)
                · refine seq_np ?_
                  refine reg_f ?_
                  refine rs 1 [] [] (by kernel_rfl) allP_nil ?_
                  refine rf [(6, bS false)] [(0, .row 25 [.own 5 0 c6q1.length, .own 6 0 c7q2.length]), (1, .row 3 (fl c3q1)), (2, .row 30 (Enc.cells c5q5)), (3, .row 25 [.own 7 0 c10q1.length, .own 8 0 c11q1.length]), (4, .row 3 (fl c7q3)), (5, .row 23 (flD dLListInt [9] c6q1)), (6, .row 3 (fl c7q2)), (7, .row 23 (flD dLListInt [10] c10q1)), (8, .row 3 (fl c11q1)), ((.s 9 0), .fam (famD dLListInt 0 c6q1)), ((.s 10 0), .fam (famD dLListInt 0 c10q1))] 11 (by kernel_rfl) ?_
                  refine wk_id ?_
                  obtain rfl := Option.some.inj h
                  refine ret_at (bS false) (by kernel_rfl) ?_
                  exact ret_e [] [] (by simp only [push_cast, leL_flD, renL_flD, seval]) (by simp only [push_cast, leL_flD, renL_flD, seval]) rfl rfl rfl
                · refine wk_id ?_
                  refine seq_np ?_
                  refine seq_np ?_
                  refine reg_f ?_
                  refine rs 3 [] [] (by kernel_rfl) allP_nil ?_
                  refine rf [(8, .ptr 0 0), (9, .own 1 0 c3q1.length), (12, .ptr 3 0), (13, .own 4 0 c7q3.length), (79, bS (c5q5.Code != 0))] [(0, .row 25 [.own 5 0 c6q1.length, .own 6 0 c7q2.length]), (1, .row 3 (fl c3q1)), (2, .row 30 (Enc.cells c5q5)), (3, .row 25 [.own 7 0 c10q1.length, .own 8 0 c11q1.length]), (4, .row 3 (fl c7q3)), (5, .row 23 (flD dLListInt [9] c6q1)), (6, .row 3 (fl c7q2)), (7, .row 23 (flD dLListInt [10] c10q1)), (8, .row 3 (fl c11q1)), ((.s 9 0), .fam (famD dLListInt 0 c6q1)), ((.s 10 0), .fam (famD dLListInt 0 c10q1))] 11 (by kernel_rfl) ?_
                  refine wk_id ?_
                  refine cond_sx h (by kernel_rfl) (fun g7162 h => ?_) (fun g7162 h => ?_)
                  · refine seq_cut (A := Bool) (fun a => ([(6, bS a)], [], 0)) (fun a => (taskmilllaw_SweepCycles_j1 a) = some r) (fun K7151 hK7151 => ?_) ?_
                    · refine reg_f ?_
                      refine rs 2 [] [] (by kernel_rfl) allP_nil ?_
                      obtain ⟨r7152, hr7152, h⟩ := bind_sx h
                      refine call_x (taskmillref_SameHeap_spec (GHeap.mk c6q1 c7q2) (GHeap.mk [] []) r7152 hr7152) (args := [.agg [.own 5 0 c6q1.length, .own 6 0 c7q2.length], .agg [.v (.slice none 0 0), .v (.slice none 0 0)]]) (dst := (some 82)) (by kernel_rfl) [(0, .row 25 [.own 5 0 c6q1.length, .own 6 0 c7q2.length]), (1, .row 3 (fl c3q1)), (2, .row 30 (Enc.cells c5q5)), (3, .row 25 [.own 7 0 c10q1.length, .own 8 0 c11q1.length]), (4, .row 3 (fl c7q3)), (5, .row 23 (flD dLListInt [9] c6q1)), (6, .row 3 (fl c7q2)), (7, .row 23 (flD dLListInt [10] c10q1)), (8, .row 3 (fl c11q1)), ((.s 9 0), .fam (famD dLListInt 0 c6q1)), ((.s 10 0), .fam (famD dLListInt 0 c10q1))] 11 (by kernel_rfl) [] [5, (.s 9 0), 6] (bS r7152) [] (by simp only [↓leS_frzD dLListInt [9] c6q1, leS_frz, leL_flD, renL_flD, push_cast, seval]) (by simp only [↓leS_frzD dLListInt [9] c6q1, leS_frz, leL_flD, renL_flD, push_cast, seval]) (by kernel_rfl) (.inr ⟨by simp only [push_cast, leL_flD, renL_flD, seval], by simp only [push_cast, leL_flD, renL_flD, seval]⟩) (by simp only [push_cast, leL_flD, renL_flD, seval]) (by simp only [push_cast, leL_flD, renL_flD, seval]) ?_
                      refine rs 1 [] [] (by kernel_rfl) allP_nil ?_
                      refine run_br h 83 (.inl (by kernel_rfl)) (fun g7153 h => ?_) (fun g7153 h => ?_)
                      · refine rs 5 [] [] (by kernel_rfl) allP_nil ?_
                        refine rf [(6, bS (((c3q1.length : Nat) : Int) == 0))] [(0, .row 25 [.own 5 0 c6q1.length, .own 6 0 c7q2.length]), (1, .row 3 (fl c3q1)), (2, .row 30 (Enc.cells c5q5)), (3, .row 25 [.own 7 0 c10q1.length, .own 8 0 c11q1.length]), (4, .row 3 (fl c7q3)), (5, .row 23 (flD dLListInt [9] c6q1)), (6, .row 3 (fl c7q2)), (7, .row 23 (flD dLListInt [10] c10q1)), (8, .row 3 (fl c11q1)), ((.s 9 0), .fam (famD dLListInt 0 c6q1)), ((.s 10 0), .fam (famD dLListInt 0 c10q1))] 11 (by kernel_rfl) ?_
                        exact hK7151 ((((c3q1.length : Nat) : Int) == 0)) _ _ _ h (leSt_m [] [] (by (try simp only [g7153]) <;> simp only [push_cast, leL_flD, renL_flD, seval]) (by (try simp only [g7153]) <;> simp only [push_cast, leL_flD, renL_flD, seval]) rfl rfl rfl)
                      · refine rs 5 [] [] (by kernel_rfl) allP_nil ?_
                        refine rf [(6, bS false)] [(0, .row 25 [.own 5 0 c6q1.length, .own 6 0 c7q2.length]), (1, .row 3 (fl c3q1)), (2, .row 30 (Enc.cells c5q5)), (3, .row 25 [.own 7 0 c10q1.length, .own 8 0 c11q1.length]), (4, .row 3 (fl c7q3)), (5, .row 23 (flD dLListInt [9] c6q1)), (6, .row 3 (fl c7q2)), (7, .row 23 (flD dLListInt [10] c10q1)), (8, .row 3 (fl c11q1)), ((.s 9 0), .fam (famD dLListInt 0 c6q1)), ((.s 10 0), .fam (famD dLListInt 0 c10q1))] 11 (by kernel_rfl) ?_
                        exact hK7151 (false) _ _ _ h (leSt_m [] [] (by (try simp only [g7153]) <;> simp only [push_cast, leL_flD, renL_flD, seval]) (by (try simp only [g7153]) <;> simp only [push_cast, leL_flD, renL_flD, seval]) rfl rfl rfl)
                    · rintro t6q3 h
                      try dsimp only at h ⊢
                      unfold taskmilllaw_SweepCycles_j1 at h
                      obtain rfl := Option.some.inj h
                      refine ret_at (bS t6q3) (by kernel_rfl) ?_
                      exact ret_e [] [] (by simp only [push_cast, leL_flD, renL_flD, seval]) (by simp only [push_cast, leL_flD, renL_flD, seval]) rfl rfl rfl
                  · refine wk_id ?_
                    refine seq_cut (A := Bool) (fun a => ([(6, bS a)], [], 0)) (fun a => (taskmilllaw_SweepCycles_j2 a) = some r) (fun K7158 hK7158 => ?_) ?_
                    · refine reg_f ?_
                      refine rs 2 [] [] (by kernel_rfl) allP_nil ?_
                      obtain ⟨r7159, hr7159, h⟩ := bind_sx h
                      refine call_x (taskmillref_SameHeap_spec (GHeap.mk c6q1 c7q2) (GHeap.mk c10q1 c11q1) r7159 hr7159) (args := [.agg [.own 5 0 c6q1.length, .own 6 0 c7q2.length], .agg [.own 7 0 c10q1.length, .own 8 0 c11q1.length]]) (dst := (some 90)) (by kernel_rfl) [(0, .row 25 [.own 5 0 c6q1.length, .own 6 0 c7q2.length]), (1, .row 3 (fl c3q1)), (2, .row 30 (Enc.cells c5q5)), (3, .row 25 [.own 7 0 c10q1.length, .own 8 0 c11q1.length]), (4, .row 3 (fl c7q3)), (5, .row 23 (flD dLListInt [9] c6q1)), (6, .row 3 (fl c7q2)), (7, .row 23 (flD dLListInt [10] c10q1)), (8, .row 3 (fl c11q1)), ((.s 9 0), .fam (famD dLListInt 0 c6q1)), ((.s 10 0), .fam (famD dLListInt 0 c10q1))] 11 (by kernel_rfl) [] [5, (.s 9 0), 6, 7, (.s 10 0), 8] (bS r7159) [] (by simp only [↓leS_frzD dLListInt [9] c6q1, ↓leS_frzD dLListInt [10] c10q1, leS_frz, leL_flD, renL_flD, push_cast, seval]) (by simp only [↓leS_frzD dLListInt [9] c6q1, ↓leS_frzD dLListInt [10] c10q1, leS_frz, leL_flD, renL_flD, push_cast, seval]) (by kernel_rfl) (.inr ⟨by simp only [push_cast, leL_flD, renL_flD, seval], by simp only [push_cast, leL_flD, renL_flD, seval]⟩) (by simp only [push_cast, leL_flD, renL_flD, seval]) (by simp only [push_cast, leL_flD, renL_flD, seval]) ?_
                      refine rs 1 [] [] (by kernel_rfl) allP_nil ?_
                      refine run_br h 91 (.inl (by kernel_rfl)) (fun g7160 h => ?_) (fun g7160 h => ?_)
                      · refine rs 2 [] [] (by kernel_rfl) allP_nil ?_
                        obtain ⟨r7161, hr7161, h⟩ := bind_sx h
                        refine call_x (taskmillref_Ints_spec c3q1 c7q3 r7161 hr7161) (args := [.own 1 0 c3q1.length, .own 4 0 c7q3.length]) (dst := (some 94)) (by kernel_rfl) [(0, .row 25 [.own 5 0 c6q1.length, .own 6 0 c7q2.length]), (1, .row 3 (fl c3q1)), (2, .row 30 (Enc.cells c5q5)), (3, .row 25 [.own 7 0 c10q1.length, .own 8 0 c11q1.length]), (4, .row 3 (fl c7q3)), (5, .row 23 (flD dLListInt [9] c6q1)), (6, .row 3 (fl c7q2)), (7, .row 23 (flD dLListInt [10] c10q1)), (8, .row 3 (fl c11q1)), ((.s 9 0), .fam (famD dLListInt 0 c6q1)), ((.s 10 0), .fam (famD dLListInt 0 c10q1))] 11 (by kernel_rfl) [] [1, 4] (bS r7161) [] (by simp only [push_cast, leL_flD, renL_flD, seval]) (by simp only [push_cast, leL_flD, renL_flD, seval]) (by kernel_rfl) (.inr ⟨by simp only [push_cast, leL_flD, renL_flD, seval], by simp only [push_cast, leL_flD, renL_flD, seval]⟩) (by simp only [push_cast, leL_flD, renL_flD, seval]) (by simp only [push_cast, leL_flD, renL_flD, seval]) ?_
                        refine rs 2 [] [] (by kernel_rfl) allP_nil ?_
                        refine rf [(6, bS r7161)] [(0, .row 25 [.own 5 0 c6q1.length, .own 6 0 c7q2.length]), (1, .row 3 (fl c3q1)), (2, .row 30 (Enc.cells c5q5)), (3, .row 25 [.own 7 0 c10q1.length, .own 8 0 c11q1.length]), (4, .row 3 (fl c7q3)), (5, .row 23 (flD dLListInt [9] c6q1)), (6, .row 3 (fl c7q2)), (7, .row 23 (flD dLListInt [10] c10q1)), (8, .row 3 (fl c11q1)), ((.s 9 0), .fam (famD dLListInt 0 c6q1)), ((.s 10 0), .fam (famD dLListInt 0 c10q1))] 11 (by kernel_rfl) ?_
                        exact hK7158 (r7161) _ _ _ h (leSt_m [] [] (by (try simp only [g7160]) <;> simp only [push_cast, leL_flD, renL_flD, seval]) (by (try simp only [g7160]) <;> simp only [push_cast, leL_flD, renL_flD, seval]) rfl rfl rfl)
                      · refine rs 5 [] [] (by kernel_rfl) allP_nil ?_
                        refine rf [(6, bS false)] [(0, .row 25 [.own 5 0 c6q1.length, .own 6 0 c7q2.length]), (1, .row 3 (fl c3q1)), (2, .row 30 (Enc.cells c5q5)), (3, .row 25 [.own 7 0 c10q1.length, .own 8 0 c11q1.length]), (4, .row 3 (fl c7q3)), (5, .row 23 (flD dLListInt [9] c6q1)), (6, .row 3 (fl c7q2)), (7, .row 23 (flD dLListInt [10] c10q1)), (8, .row 3 (fl c11q1)), ((.s 9 0), .fam (famD dLListInt 0 c6q1)), ((.s 10 0), .fam (famD dLListInt 0 c10q1))] 11 (by kernel_rfl) ?_
                        exact hK7158 (false) _ _ _ h (leSt_m [] [] (by (try simp only [g7160]) <;> simp only [push_cast, leL_flD, renL_flD, seval]) (by (try simp only [g7160]) <;> simp only [push_cast, leL_flD, renL_flD, seval]) rfl rfl rfl)
                    · rintro t6q4 h
                      try dsimp only at h ⊢
                      unfold taskmilllaw_SweepCycles_j2 at h
                      obtain rfl := Option.some.inj h
                      refine ret_at (bS t6q4) (by kernel_rfl) ?_
                      exact ret_e [] [] (by simp only [push_cast, leL_flD, renL_flD, seval]) (by simp only [push_cast, leL_flD, renL_flD, seval]) rfl rfl rfl

end Go.Proofs.Ytlfcicekappbfaa
