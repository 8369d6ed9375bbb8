/-
  What laws of the chapter ring compute, and lemmas on it.
  No conditions.
-/
import Derived.Test.YtgmklpakhdladaaringW2
set_option linter.unusedSimpArgs false
set_option linter.unusedVariables false
namespace Go.Proofs.Ytgmklpakhdladaa
open Go Go.Sx
attribute [local irreducible] Wk RunAt
set_option maxRecDepth 100000 in
set_option maxHeartbeats 10000000 in
theorem taskmilllaw_RingKeeps_spec (moves : (List Int)) (r : Bool) (h : taskmilllaw_RingKeeps moves = some r) : SpecW Try.prog 10 [.sl moves.length (fl moves)] [] 0 (fun x h n => x = bS r ∧ h = [] ∧ n = 0) := by
  unfold taskmilllaw_RingKeeps at h
  refine spec_of (draw_ok _) Try.func10 rfl (by decide) rfl (by kernel_rfl) ?_
  refine seq_np ?_
  refine reg_f ?_
  refine rs 1 [] [] (by kernel_rfl) allP_nil ?_
  refine rf [(0, .sl moves.length (fl moves))] [] 0 (by kernel_rfl) ?_
  refine wk_id ?_
  refine seq_np ?_
  refine seq_np ?_
  refine reg_f ?_
  obtain ⟨r3308, hr3308, h⟩ := bind_sx h
  refine run_call 11 [] (some 23) (by kernel_rfl) ?_
  refine call_0 (taskmilllaw_ringBegun_spec r3308 hr3308) (by simp only [push_cast, seval]) (by simp only [push_cast, seval]) ?_
  refine back_f ?_
  refine rs 1 [] [] (by kernel_rfl) allP_nil ?_
  refine rf [(0, .sl moves.length (fl moves)), (24, bS (!r3308))] [] 0 (by kernel_rfl) ?_
  refine wk_id ?_
  refine cond_sx h (by kernel_rfl) (fun g4428 h => ?_) (fun g4428 h => ?_)
  · refine seq_np ?_
    refine reg_f ?_
    refine rs 1 [] [] (by kernel_rfl) allP_nil ?_
    refine rf [(2, bS false)] [] 0 (by kernel_rfl) ?_
    refine wk_id ?_
    obtain rfl := Option.some.inj h
    refine ret_at (bS false) (by kernel_rfl) ?_
    exact ret_e [] [] (by simp only [push_cast, seval]) (by simp only [push_cast, seval]) rfl rfl rfl
  · refine wk_id ?_
    refine seq_np ?_
    refine seq_np ?_
    refine reg_f ?_
    refine rs 3 [] [] (by kernel_rfl) allP_nil ?_
    refine rf [(0, .sl moves.length (fl moves)), (27, bS (decide ((1500 : Int) < ((moves.length : Nat) : Int))))] [] 0 (by kernel_rfl) ?_
    refine wk_id ?_
    refine cond_sx h (by kernel_rfl) (fun g4427 h => ?_) (fun g4427 h => ?_)
    · refine seq_np ?_
      refine reg_f ?_
      refine rs 1 [] [] (by kernel_rfl) allP_nil ?_
      refine rf [(2, bS true)] [] 0 (by kernel_rfl) ?_
      refine wk_id ?_
      obtain rfl := Option.some.inj h
      refine ret_at (bS true) (by kernel_rfl) ?_
      exact ret_e [] [] (by simp only [push_cast, seval]) (by simp only [push_cast, seval]) rfl rfl rfl
    · refine wk_id ?_
      refine seq_np ?_
      refine reg_f ?_
      refine rs 1 [] [] (by kernel_rfl) allP_nil ?_
      refine rf [(0, .sl moves.length (fl moves)), (3, .ptr 0 0)] [(0, .row 52 [iS 0, .v (.slice none 0 0), iS 0, .v (.slice none 0 0)])] 1 (by kernel_rfl) ?_
      refine wk_id ?_
      refine seq_np ?_
      refine reg_f ?_
      refine rs 1 [] [] (by kernel_rfl) allP_nil ?_
      refine rf [(0, .sl moves.length (fl moves)), (3, .ptr 0 0), (4, .v (.slice none 0 0))] [(0, .row 52 [iS 0, .v (.slice none 0 0), iS 0, .v (.slice none 0 0)])] 1 (by kernel_rfl) ?_
      refine wk_id ?_
      refine seq_np ?_
      refine reg_f ?_
      refine run_mk0 Int (some 28) 3 (by kernel_rfl) ?_
      refine rs 1 [] [] (by kernel_rfl) allP_nil ?_
      refine rf [(0, .sl moves.length (fl moves)), (3, .ptr 0 0), (4, .v (.slice none 0 0)), (5, .own 1 0 ([] : List Int).length)] [(0, .row 52 [iS 0, .v (.slice none 0 0), iS 0, .v (.slice none 0 0)]), (1, .row 3 (fl ([] : List Int)))] 2 (by kernel_rfl) ?_
      refine wk_id ?_
      refine seq_np ?_
      refine reg_f ?_
      refine rs 1 [] [] (by kernel_rfl) allP_nil ?_
      refine rf [(0, .sl moves.length (fl moves)), (3, .ptr 0 0), (4, .v (.slice none 0 0)), (5, .own 1 0 ([] : List Int).length), (6, iS 0)] [(0, .row 52 [iS 0, .v (.slice none 0 0), iS 0, .v (.slice none 0 0)]), (1, .row 3 (fl ([] : List Int)))] 2 (by kernel_rfl) ?_
      refine wk_id ?_
      refine seq_np ?_
      refine seq_np ?_
      refine reg_f ?_
      refine rs 1 [] [] (by kernel_rfl) allP_nil ?_
      refine rf [(0, .sl moves.length (fl moves)), (3, .ptr 0 0), (4, .v (.slice none 0 0)), (5, .own 1 0 ([] : List Int).length), (6, iS 0), (7, iS 0)] [(0, .row 52 [iS 0, .v (.slice none 0 0), iS 0, .v (.slice none 0 0)]), (1, .row 3 (fl ([] : List Int)))] 2 (by kernel_rfl) ?_
      refine wk_id ?_
      refine block_np ?_
      refine loop_sx (S := Int × Int × Int × Int × (List Int) × (List Int) × (List Int) × (List Int)) (fun a => ([(0, .sl moves.length (fl moves)), (3, .ptr 0 0), (4, .own 1 0 a.2.2.2.2.1.length), (5, .own 2 0 a.2.2.2.2.2.1.length), (6, iS a.1), (7, iS a.2.1)], [(0, .row 52 [iS a.2.2.1, .own 3 0 a.2.2.2.2.2.2.1.length, iS a.2.2.2.1, .own 4 0 a.2.2.2.2.2.2.2.length]), (1, .row 3 (fl a.2.2.2.2.1)), (2, .row 3 (fl a.2.2.2.2.2.1)), (3, .row 3 (fl a.2.2.2.2.2.2.1)), (4, .row 3 (fl a.2.2.2.2.2.2.2))], 5)) h (leSt_m [(0, 0), (2, 1)] [] (by simp only [push_cast, seval]) (by simp only [push_cast, seval]) rfl rfl rfl) ?_
      rintro ⟨task18, i9, c0_e0_Next18, c0_e1_Next18, c1q20, c2q18, c3q18, c4q18⟩ o3 R3 h hr3 hn3 hx3 ht3
      try dsimp only at h hn3 ⊢
      unfold taskmilllaw_RingKeeps_l2 at h
      try dsimp only at h
      refine seq_np ?_
      refine seq_np ?_
      refine reg_f ?_
      refine rs 4 [] [] (by kernel_rfl) allP_nil ?_
      refine rf [(0, .sl moves.length (fl moves)), (3, .ptr 0 0), (4, .own 1 0 c1q20.length), (5, .own 2 0 c2q18.length), (6, iS task18), (7, iS i9), (32, bS (decide (i9 < ((moves.length : Nat) : Int))))] [(0, .row 52 [iS c0_e0_Next18, .own 3 0 c3q18.length, iS c0_e1_Next18, .own 4 0 c4q18.length]), (1, .row 3 (fl c1q20)), (2, .row 3 (fl c2q18)), (3, .row 3 (fl c3q18)), (4, .row 3 (fl c4q18))] 5 (by kernel_rfl) ?_
      refine wk_id ?_
      refine cond_sx h (by kernel_rfl) (fun g4426 h => ?_) (fun g4426 h => ?_)
      · refine wk_id ?_
        refine seq_np ?_
        refine block_np ?_
        refine chk_sx h (fun g4025 h => ?_)
        refine seq_np ?_
        refine reg_f ?_
        have k4024 : 0 ≤ i9 ∧ i9 < ((moves.length : Nat) : Int) := by first | simpa only [Bool.and_eq_true, decide_eq_true_eq, bne_iff_ne, ne_eq] using g4025 | (simp at g4025 ⊢; omega)
        refine rs 5 [none, none, some ⟨.iptr (fl moves) ((i9).toNat * 1), [], 5, []⟩, some ⟨iS (ix moves i9), [], 5, []⟩] _ (by kernel_rfl) (allP_cons (ob_ld moves i9 1 0 ((i9).toNat * 1) k4024 rfl (by decide) (by first | rfl | omega) (dflS Try.prog 3) (iS (ix moves i9)) rfl 5 []) (allP_cons (ob_ix_l moves 1 5 i9 k4024) allP_nil)) ?_
        refine rf [(0, .sl moves.length (fl moves)), (3, .ptr 0 0), (4, .own 1 0 c1q20.length), (5, .own 2 0 c2q18.length), (6, iS task18), (7, iS i9), (8, iS (ix moves i9))] [(0, .row 52 [iS c0_e0_Next18, .own 3 0 c3q18.length, iS c0_e1_Next18, .own 4 0 c4q18.length]), (1, .row 3 (fl c1q20)), (2, .row 3 (fl c2q18)), (3, .row 3 (fl c3q18)), (4, .row 3 (fl c4q18))] 5 (by kernel_rfl) ?_
        refine wk_id ?_
        refine seq_np ?_
        refine seq_np ?_
        refine reg_f ?_
        refine rs 2 [] [] (by kernel_rfl) allP_nil ?_
        refine rf [(0, .sl moves.length (fl moves)), (3, .ptr 0 0), (4, .own 1 0 c1q20.length), (5, .own 2 0 c2q18.length), (6, iS task18), (7, iS i9), (8, iS (ix moves i9)), (40, bS (decide ((ix moves i9) < 0)))] [(0, .row 52 [iS c0_e0_Next18, .own 3 0 c3q18.length, iS c0_e1_Next18, .own 4 0 c4q18.length]), (1, .row 3 (fl c1q20)), (2, .row 3 (fl c2q18)), (3, .row 3 (fl c3q18)), (4, .row 3 (fl c4q18))] 5 (by kernel_rfl) ?_
        refine wk_id ?_
        refine cond_sx h (by kernel_rfl) (fun g4195 h => ?_) (fun g4195 h => ?_)
        · refine seq_np ?_
          refine reg_f ?_
          refine rs 1 [] [] (by kernel_rfl) allP_nil ?_
          refine rf [(2, bS true)] [(0, .row 52 [iS c0_e0_Next18, .own 3 0 c3q18.length, iS c0_e1_Next18, .own 4 0 c4q18.length]), (1, .row 3 (fl c1q20)), (2, .row 3 (fl c2q18)), (3, .row 3 (fl c3q18)), (4, .row 3 (fl c4q18))] 5 (by kernel_rfl) ?_
          refine wk_id ?_
          refine rt_cast ht3 ?_
          obtain ⟨r0, h, e0⟩ := map_sx h
          have e1 := hr3 r0 e0.symm
          subst r0
          obtain rfl := Option.some.inj h
          refine ret_at (bS true) (by kernel_rfl) ?_
          exact ret_e [] [] (by simp only [push_cast, seval]) (by simp only [push_cast, seval]) rfl rfl rfl
        · refine wk_id ?_
          refine seq_np ?_
          refine reg_f ?_
          refine rs 3 [] [] (by kernel_rfl) allP_nil ?_
          refine rf [(0, .sl moves.length (fl moves)), (3, .ptr 0 0), (4, .own 1 0 c1q20.length), (5, .own 2 0 c2q18.length), (6, iS task18), (7, iS i9), (8, iS (ix moves i9)), (9, iS (Int.tmod (ix moves i9) 2))] [(0, .row 52 [iS c0_e0_Next18, .own 3 0 c3q18.length, iS c0_e1_Next18, .own 4 0 c4q18.length]), (1, .row 3 (fl c1q20)), (2, .row 3 (fl c2q18)), (3, .row 3 (fl c3q18)), (4, .row 3 (fl c4q18))] 5 (by kernel_rfl) ?_
          refine wk_id ?_
          refine seq_np ?_
          refine reg_f ?_
          refine rs 3 [] [] (by kernel_rfl) allP_nil ?_
          refine rf [(0, .sl moves.length (fl moves)), (3, .ptr 0 0), (4, .own 1 0 c1q20.length), (5, .own 2 0 c2q18.length), (6, iS task18), (7, iS i9), (8, iS (ix moves i9)), (9, iS (Int.tmod (ix moves i9) 2)), (45, iS (Int.tmod (IntKind.i64.wrap (Int.tdiv (ix moves i9) 2)) 5))] [(0, .row 52 [iS c0_e0_Next18, .own 3 0 c3q18.length, iS c0_e1_Next18, .own 4 0 c4q18.length]), (1, .row 3 (fl c1q20)), (2, .row 3 (fl c2q18)), (3, .row 3 (fl c3q18)), (4, .row 3 (fl c4q18))] 5 (by kernel_rfl) ?_
          refine wk_id ?_
          refine block_cut (A := Int × Int × Int × (List Int) × (List Int) × (List Int) × (List Int)) (fun a => ([(0, .sl moves.length (fl moves)), (3, .ptr 0 0), (4, .own 1 0 a.2.2.2.1.length), (5, .own 2 0 a.2.2.2.2.1.length), (6, iS a.1), (7, iS i9)], [(0, .row 52 [iS a.2.1, .own 3 0 a.2.2.2.2.2.1.length, iS a.2.2.1, .own 4 0 a.2.2.2.2.2.2.length]), (1, .row 3 (fl a.2.2.2.1)), (2, .row 3 (fl a.2.2.2.2.1)), (3, .row 3 (fl a.2.2.2.2.2.1)), (4, .row 3 (fl a.2.2.2.2.2.2))], 5)) (fun a => (taskmilllaw_RingKeeps_j1 moves i9 a.1 a.2.1 a.2.2.1 a.2.2.2.1 a.2.2.2.2.1 a.2.2.2.2.2.1 a.2.2.2.2.2.2) = some o3) (fun K4093 hK4093 => ?_) ?_
          · refine seq_cut (A := Bool) (fun a => ([(0, .sl moves.length (fl moves)), (3, .ptr 0 0), (4, .own 1 0 c1q20.length), (5, .own 2 0 c2q18.length), (6, iS task18), (7, iS i9), (8, iS (ix moves i9)), (9, iS (Int.tmod (ix moves i9) 2)), (45, iS (Int.tmod (IntKind.i64.wrap (Int.tdiv (ix moves i9) 2)) 5)), (46, bS a)], [(0, .row 52 [iS c0_e0_Next18, .own 3 0 c3q18.length, iS c0_e1_Next18, .own 4 0 c4q18.length]), (1, .row 3 (fl c1q20)), (2, .row 3 (fl c2q18)), (3, .row 3 (fl c3q18)), (4, .row 3 (fl c4q18))], 5)) (fun a => (taskmilllaw_RingKeeps_j2 moves task18 i9 c0_e0_Next18 c0_e1_Next18 c1q20 c2q18 c3q18 c4q18 a) = some o3) (fun K4097 hK4097 => ?_) ?_
            · refine seq_np ?_
              refine reg_f ?_
              refine rs 2 [] [] (by kernel_rfl) allP_nil ?_
              refine rf [(0, .sl moves.length (fl moves)), (3, .ptr 0 0), (4, .own 1 0 c1q20.length), (5, .own 2 0 c2q18.length), (6, iS task18), (7, iS i9), (8, iS (ix moves i9)), (9, iS (Int.tmod (ix moves i9) 2)), (45, iS (Int.tmod (IntKind.i64.wrap (Int.tdiv (ix moves i9) 2)) 5)), (46, bS ((Int.tmod (IntKind.i64.wrap (Int.tdiv (ix moves i9) 2)) 5) == 0))] [(0, .row 52 [iS c0_e0_Next18, .own 3 0 c3q18.length, iS c0_e1_Next18, .own 4 0 c4q18.length]), (1, .row 3 (fl c1q20)), (2, .row 3 (fl c2q18)), (3, .row 3 (fl c3q18)), (4, .row 3 (fl c4q18))] 5 (by kernel_rfl) ?_
              refine wk_id ?_
              refine cond_sx h (by kernel_rfl) (fun g4099 h => ?_) (fun g4099 h => ?_)
              · exact hK4097 (((Int.tmod (IntKind.i64.wrap (Int.tdiv (ix moves i9) 2)) 5) == 0)) _ _ _ h (leSt_m [(0, 0), (1, 1), (2, 2), (3, 3), (4, 4)] [] (by simp only [push_cast, seval]) (by simp only [push_cast, seval]) rfl rfl rfl)
              · refine seq_np ?_
                refine reg_f ?_
                refine rs 2 [] [] (by kernel_rfl) allP_nil ?_
                refine rf [(0, .sl moves.length (fl moves)), (3, .ptr 0 0), (4, .own 1 0 c1q20.length), (5, .own 2 0 c2q18.length), (6, iS task18), (7, iS i9), (8, iS (ix moves i9)), (9, iS (Int.tmod (ix moves i9) 2)), (45, iS (Int.tmod (IntKind.i64.wrap (Int.tdiv (ix moves i9) 2)) 5)), (46, bS ((Int.tmod (IntKind.i64.wrap (Int.tdiv (ix moves i9) 2)) 5) == 1))] [(0, .row 52 [iS c0_e0_Next18, .own 3 0 c3q18.length, iS c0_e1_Next18, .own 4 0 c4q18.length]), (1, .row 3 (fl c1q20)), (2, .row 3 (fl c2q18)), (3, .row 3 (fl c3q18)), (4, .row 3 (fl c4q18))] 5 (by kernel_rfl) ?_
                refine wk_id ?_
                refine cond_sx h (by kernel_rfl) (fun g4098 h => ?_) (fun g4098 h => ?_)
                · exact hK4097 (((Int.tmod (IntKind.i64.wrap (Int.tdiv (ix moves i9) 2)) 5) == 1)) _ _ _ h (leSt_m [(0, 0), (1, 1), (2, 2), (3, 3), (4, 4)] [] (by simp only [push_cast, seval]) (by simp only [push_cast, seval]) rfl rfl rfl)
                · refine reg_f ?_
                  refine rs 2 [] [] (by kernel_rfl) allP_nil ?_
                  refine rf [(0, .sl moves.length (fl moves)), (3, .ptr 0 0), (4, .own 1 0 c1q20.length), (5, .own 2 0 c2q18.length), (6, iS task18), (7, iS i9), (8, iS (ix moves i9)), (9, iS (Int.tmod (ix moves i9) 2)), (45, iS (Int.tmod (IntKind.i64.wrap (Int.tdiv (ix moves i9) 2)) 5)), (46, bS ((Int.tmod (IntKind.i64.wrap (Int.tdiv (ix moves i9) 2)) 5) == 2))] [(0, .row 52 [iS c0_e0_Next18, .own 3 0 c3q18.length, iS c0_e1_Next18, .own 4 0 c4q18.length]), (1, .row 3 (fl c1q20)), (2, .row 3 (fl c2q18)), (3, .row 3 (fl c3q18)), (4, .row 3 (fl c4q18))] 5 (by kernel_rfl) ?_
                  exact hK4097 (((Int.tmod (IntKind.i64.wrap (Int.tdiv (ix moves i9) 2)) 5) == 2)) _ _ _ h (leSt_m [(0, 0), (1, 1), (2, 2), (3, 3), (4, 4)] [] (by simp only [push_cast, seval]) (by simp only [push_cast, seval]) rfl rfl rfl)
            · rintro t46q14 h
              try dsimp only at h ⊢
              unfold taskmilllaw_RingKeeps_j2 at h
              refine cond_sx h (by kernel_rfl) (fun g4194 h => ?_) (fun g4194 h => ?_)
              · refine seq_np ?_
                refine reg_f ?_
                refine rs 3 [] [] (by kernel_rfl) allP_nil ?_
                refine rf [(0, .sl moves.length (fl moves)), (3, .ptr 0 0), (4, .own 1 0 c1q20.length), (5, .own 2 0 c2q18.length), (6, iS (IntKind.i64.wrap (task18 + 1))), (7, iS i9), (8, iS (ix moves i9)), (9, iS (Int.tmod (ix moves i9) 2))] [(0, .row 52 [iS c0_e0_Next18, .own 3 0 c3q18.length, iS c0_e1_Next18, .own 4 0 c4q18.length]), (1, .row 3 (fl c1q20)), (2, .row 3 (fl c2q18)), (3, .row 3 (fl c3q18)), (4, .row 3 (fl c4q18))] 5 (by kernel_rfl) ?_
                refine wk_id ?_
                refine split_s h (fun g4100 h => ?_) (fun g4101 h => ?_)
                · refine seq_np ?_
                  refine reg_f ?_
                  refine rs 1 [] [] (by kernel_rfl) allP_nil ?_
                  refine run_at 53 .i64 (Int.tmod (ix moves i9) 2) 0 g4100 (by kernel_rfl) ?_
                  refine rs 7 [] [] (by kernel_rfl) allP_nil ?_
                  obtain ⟨r4103, hr4103, h⟩ := bind_sx h
                  refine call_x (ring_Put_spec (Ring.mk c0_e0_Next18 c3q18) (IntKind.i64.wrap (task18 + 1)) ((Int.tmod (IntKind.i64.wrap (Int.tdiv (ix moves i9) 2)) 5) == 2) r4103 hr4103) (args := [.agg [iS c0_e0_Next18, .own 3 0 c3q18.length], iS (IntKind.i64.wrap (task18 + 1)), bS ((Int.tmod (IntKind.i64.wrap (Int.tdiv (ix moves i9) 2)) 5) == 2)]) (dst := (some 61)) (by kernel_rfl) [(0, .row 52 [iS c0_e0_Next18, .own 3 0 c3q18.length, iS c0_e1_Next18, .own 4 0 c4q18.length]), (1, .row 3 (fl c1q20)), (2, .row 3 (fl c2q18)), (3, .row 3 (fl c3q18)), (4, .row 3 (fl c4q18))] 5 (by kernel_rfl) [] [3] (.tup [.agg [iS r4103.1, .own 5 0 r4103.2.2.1.length], .own 6 0 r4103.2.2.2.length, .agg (Enc.cells r4103.2.1)]) [(5, .row 3 (fl r4103.2.2.1)), (6, .row 3 (fl r4103.2.2.2))] (by simp only [push_cast, seval]) (by simp only [push_cast, seval]) (by kernel_rfl) (.inr ⟨by simp only [push_cast, seval], by simp only [push_cast, seval]⟩) (by simp only [push_cast, seval]) (by simp only [push_cast, seval]) ?_
                  refine rs 9 [] [] (by kernel_rfl) allP_nil ?_
                  refine rf [(0, .sl moves.length (fl moves)), (3, .ptr 0 0), (4, .own 1 0 c1q20.length), (5, .own 2 0 c2q18.length), (6, iS (IntKind.i64.wrap (task18 + 1))), (7, iS i9), (9, iS (Int.tmod (ix moves i9) 2)), (10, .ptr 7 0), (11, .own 6 0 r4103.2.2.2.length), (12, .ptr 8 0)] [(0, .row 52 [iS c0_e0_Next18, .own 3 0 c3q18.length, iS c0_e1_Next18, .own 4 0 c4q18.length]), (1, .row 3 (fl c1q20)), (2, .row 3 (fl c2q18)), (3, .row 3 (fl c3q18)), (4, .row 3 (fl c4q18)), (5, .row 3 (fl r4103.2.2.1)), (6, .row 3 (fl r4103.2.2.2)), (7, .row 24 [iS r4103.1, .own 5 0 r4103.2.2.1.length]), (8, .row 28 (Enc.cells r4103.2.1))] 9 (by kernel_rfl) ?_
                  refine wk_id ?_
                  refine seq_np ?_
                  refine seq_np ?_
                  refine reg_f ?_
                  refine rs 3 [] [] (by kernel_rfl) allP_nil ?_
                  refine rf [(0, .sl moves.length (fl moves)), (3, .ptr 0 0), (4, .own 1 0 c1q20.length), (5, .own 2 0 c2q18.length), (6, iS (IntKind.i64.wrap (task18 + 1))), (7, iS i9), (9, iS (Int.tmod (ix moves i9) 2)), (10, .ptr 7 0), (11, .own 6 0 r4103.2.2.2.length), (67, bS (r4103.2.1.Code != 0))] [(0, .row 52 [iS c0_e0_Next18, .own 3 0 c3q18.length, iS c0_e1_Next18, .own 4 0 c4q18.length]), (1, .row 3 (fl c1q20)), (2, .row 3 (fl c2q18)), (3, .row 3 (fl c3q18)), (4, .row 3 (fl c4q18)), (5, .row 3 (fl r4103.2.2.1)), (6, .row 3 (fl r4103.2.2.2)), (7, .row 24 [iS r4103.1, .own 5 0 r4103.2.2.1.length]), (8, .row 28 (Enc.cells r4103.2.1))] 9 (by kernel_rfl) ?_
                  refine wk_id ?_
                  refine cond_sx h (by kernel_rfl) (fun g4109 h => ?_) (fun g4109 h => ?_)
                  · refine seq_np ?_
                    refine reg_f ?_
                    refine rs 1 [] [] (by kernel_rfl) allP_nil ?_
                    refine rf [(2, bS false)] [(0, .row 52 [iS c0_e0_Next18, .own 3 0 c3q18.length, iS c0_e1_Next18, .own 4 0 c4q18.length]), (1, .row 3 (fl c1q20)), (2, .row 3 (fl c2q18)), (3, .row 3 (fl c3q18)), (4, .row 3 (fl c4q18)), (5, .row 3 (fl r4103.2.2.1)), (6, .row 3 (fl r4103.2.2.2)), (7, .row 24 [iS r4103.1, .own 5 0 r4103.2.2.1.length]), (8, .row 28 (Enc.cells r4103.2.1))] 9 (by kernel_rfl) ?_
                    refine wk_id ?_
                    refine rt_cast ht3 ?_
                    obtain ⟨r0, h, e0⟩ := map_sx h
                    have e1 := hr3 r0 e0.symm
                    subst r0
                    obtain rfl := Option.some.inj h
                    refine ret_at (bS false) (by kernel_rfl) ?_
                    exact ret_e [] [] (by simp only [push_cast, seval]) (by simp only [push_cast, seval]) rfl rfl rfl
                  · refine wk_id ?_
                    refine seq_np ?_
                    refine reg_f ?_
                    refine rs 2 [] [] (by kernel_rfl) allP_nil ?_
                    refine run_at 68 .i64 (Int.tmod (ix moves i9) 2) 0 g4100 (by kernel_rfl) ?_
                    refine rs 2 [] [] (by kernel_rfl) allP_nil ?_
                    refine rf [(0, .sl moves.length (fl moves)), (3, .ptr 0 0), (4, .own 1 0 c1q20.length), (5, .own 2 0 c2q18.length), (6, iS (IntKind.i64.wrap (task18 + 1))), (7, iS i9), (11, .own 6 0 r4103.2.2.2.length)] [(0, .row 52 [iS r4103.1, .own 5 0 r4103.2.2.1.length, iS c0_e1_Next18, .own 4 0 c4q18.length]), (1, .row 3 (fl c1q20)), (2, .row 3 (fl c2q18)), (3, .row 3 (fl c3q18)), (4, .row 3 (fl c4q18)), (5, .row 3 (fl r4103.2.2.1)), (6, .row 3 (fl r4103.2.2.2)), (7, .row 24 [iS r4103.1, .own 5 0 r4103.2.2.1.length]), (8, .row 28 (Enc.cells r4103.2.1))] 9 (by kernel_rfl) ?_
                    refine wk_id ?_
                    refine chk_sx h (fun g4108 h => ?_)
                    refine reg_f ?_
                    have k4107 : (c1q20 ++ r4103.2.2.2).length * 8 ≤ 140737488355328 := by first | simpa only [Bool.and_eq_true, decide_eq_true_eq, bne_iff_ne, ne_eq] using g4108 | (simp at g4108 ⊢; omega)
                    refine rs 4 [none, none, some ⟨.own 9 0 (c1q20 ++ r4103.2.2.2).length, [(9, .row 3 (fl (c1q20 ++ r4103.2.2.2))), (1, .dead)], 10, [1, 6]⟩] _ (by kernel_rfl) (allP_cons (ob_app (P := Try.prog) c1q20 r4103.2.2.2 1 8 rfl (appCells (fl r4103.2.2.2) 0 (r4103.2.2.2.length * 1)) r4103.2.2.2.length (app_own r4103.2.2.2 1 rfl) rfl (0 + r4103.2.2.2.length * 1 ≤ (fl r4103.2.2.2).length) (app_own_le r4103.2.2.2 1 rfl) 3 (by kernel_rfl) (by decide) k4107 1 9 [6]) allP_nil) ?_
                    refine rf [(0, .sl moves.length (fl moves)), (3, .ptr 0 0), (4, .own 9 0 (c1q20 ++ r4103.2.2.2).length), (5, .own 2 0 c2q18.length), (6, iS (IntKind.i64.wrap (task18 + 1))), (7, iS i9)] [(0, .row 52 [iS r4103.1, .own 5 0 r4103.2.2.1.length, iS c0_e1_Next18, .own 4 0 c4q18.length]), (1, .dead), (2, .row 3 (fl c2q18)), (3, .row 3 (fl c3q18)), (4, .row 3 (fl c4q18)), (5, .row 3 (fl r4103.2.2.1)), (6, .row 3 (fl r4103.2.2.2)), (7, .row 24 [iS r4103.1, .own 5 0 r4103.2.2.1.length]), (8, .row 28 (Enc.cells r4103.2.1)), (9, .row 3 (fl (c1q20 ++ r4103.2.2.2)))] 10 (by kernel_rfl) ?_
                    exact hK4093 ((IntKind.i64.wrap (task18 + 1)), r4103.1, c0_e1_Next18, (c1q20 ++ r4103.2.2.2), c2q18, r4103.2.2.1, c4q18) _ _ _ h (leSt_m [(0, 0), (1, 9), (2, 2), (3, 5), (4, 4)] [] (by simp only [push_cast, seval]) (by simp only [push_cast, seval]) rfl rfl rfl)
                refine split_s h (fun g4110 h => ?_) (fun g4111 h => ?_)
                · refine seq_np ?_
                  refine reg_f ?_
                  refine rs 1 [] [] (by kernel_rfl) allP_nil ?_
                  refine run_at 53 .i64 (Int.tmod (ix moves i9) 2) 1 g4110 (by kernel_rfl) ?_
                  refine rs 7 [] [] (by kernel_rfl) allP_nil ?_
                  obtain ⟨r4113, hr4113, h⟩ := bind_sx h
                  refine call_x (ring_Put_spec (Ring.mk c0_e1_Next18 c4q18) (IntKind.i64.wrap (task18 + 1)) ((Int.tmod (IntKind.i64.wrap (Int.tdiv (ix moves i9) 2)) 5) == 2) r4113 hr4113) (args := [.agg [iS c0_e1_Next18, .own 4 0 c4q18.length], iS (IntKind.i64.wrap (task18 + 1)), bS ((Int.tmod (IntKind.i64.wrap (Int.tdiv (ix moves i9) 2)) 5) == 2)]) (dst := (some 61)) (by kernel_rfl) [(0, .row 52 [iS c0_e0_Next18, .own 3 0 c3q18.length, iS c0_e1_Next18, .own 4 0 c4q18.length]), (1, .row 3 (fl c1q20)), (2, .row 3 (fl c2q18)), (3, .row 3 (fl c3q18)), (4, .row 3 (fl c4q18))] 5 (by kernel_rfl) [] [4] (.tup [.agg [iS r4113.1, .own 5 0 r4113.2.2.1.length], .own 6 0 r4113.2.2.2.length, .agg (Enc.cells r4113.2.1)]) [(5, .row 3 (fl r4113.2.2.1)), (6, .row 3 (fl r4113.2.2.2))] (by simp only [push_cast, seval]) (by simp only [push_cast, seval]) (by kernel_rfl) (.inr ⟨by simp only [push_cast, seval], by simp only [push_cast, seval]⟩) (by simp only [push_cast, seval]) (by simp only [push_cast, seval]) ?_
                  refine rs 9 [] [] (by kernel_rfl) allP_nil ?_
                  refine rf [(0, .sl moves.length (fl moves)), (3, .ptr 0 0), (4, .own 1 0 c1q20.length), (5, .own 2 0 c2q18.length), (6, iS (IntKind.i64.wrap (task18 + 1))), (7, iS i9), (9, iS (Int.tmod (ix moves i9) 2)), (10, .ptr 7 0), (11, .own 6 0 r4113.2.2.2.length), (12, .ptr 8 0)] [(0, .row 52 [iS c0_e0_Next18, .own 3 0 c3q18.length, iS c0_e1_Next18, .own 4 0 c4q18.length]), (1, .row 3 (fl c1q20)), (2, .row 3 (fl c2q18)), (3, .row 3 (fl c3q18)), (4, .row 3 (fl c4q18)), (5, .row 3 (fl r4113.2.2.1)), (6, .row 3 (fl r4113.2.2.2)), (7, .row 24 [iS r4113.1, .own 5 0 r4113.2.2.1.length]), (8, .row 28 (Enc.cells r4113.2.1))] 9 (by kernel_rfl) ?_
                  refine wk_id ?_
                  refine seq_np ?_
                  refine seq_np ?_
                  refine reg_f ?_
                  refine rs 3 [] [] (by kernel_rfl) allP_nil ?_
                  refine rf [(0, .sl moves.length (fl moves)), (3, .ptr 0 0), (4, .own 1 0 c1q20.length), (5, .own 2 0 c2q18.length), (6, iS (IntKind.i64.wrap (task18 + 1))), (7, iS i9), (9, iS (Int.tmod (ix moves i9) 2)), (10, .ptr 7 0), (11, .own 6 0 r4113.2.2.2.length), (67, bS (r4113.2.1.Code != 0))] [(0, .row 52 [iS c0_e0_Next18, .own 3 0 c3q18.length, iS c0_e1_Next18, .own 4 0 c4q18.length]), (1, .row 3 (fl c1q20)), (2, .row 3 (fl c2q18)), (3, .row 3 (fl c3q18)), (4, .row 3 (fl c4q18)), (5, .row 3 (fl r4113.2.2.1)), (6, .row 3 (fl r4113.2.2.2)), (7, .row 24 [iS r4113.1, .own 5 0 r4113.2.2.1.length]), (8, .row 28 (Enc.cells r4113.2.1))] 9 (by kernel_rfl) ?_
                  refine wk_id ?_
                  refine cond_sx h (by kernel_rfl) (fun g4119 h => ?_) (fun g4119 h => ?_)
                  · refine seq_np ?_
                    refine reg_f ?_
                    refine rs 1 [] [] (by kernel_rfl) allP_nil ?_
                    refine rf [(2, bS false)] [(0, .row 52 [iS c0_e0_Next18, .own 3 0 c3q18.length, iS c0_e1_Next18, .own 4 0 c4q18.length]), (1, .row 3 (fl c1q20)), (2, .row 3 (fl c2q18)), (3, .row 3 (fl c3q18)), (4, .row 3 (fl c4q18)), (5, .row 3 (fl r4113.2.2.1)), (6, .row 3 (fl r4113.2.2.2)), (7, .row 24 [iS r4113.1, .own 5 0 r4113.2.2.1.length]), (8, .row 28 (Enc.cells r4113.2.1))] 9 (by kernel_rfl) ?_
                    refine wk_id ?_
                    refine rt_cast ht3 ?_
                    obtain ⟨r0, h, e0⟩ := map_sx h
                    have e1 := hr3 r0 e0.symm
                    subst r0
                    obtain rfl := Option.some.inj h
                    refine ret_at (bS false) (by kernel_rfl) ?_
                    exact ret_e [] [] (by simp only [push_cast, seval]) (by simp only [push_cast, seval]) rfl rfl rfl
                  · refine wk_id ?_
                    refine seq_np ?_
                    refine reg_f ?_
                    refine rs 2 [] [] (by kernel_rfl) allP_nil ?_
                    refine run_at 68 .i64 (Int.tmod (ix moves i9) 2) 1 g4110 (by kernel_rfl) ?_
                    refine rs 2 [] [] (by kernel_rfl) allP_nil ?_
                    refine rf [(0, .sl moves.length (fl moves)), (3, .ptr 0 0), (4, .own 1 0 c1q20.length), (5, .own 2 0 c2q18.length), (6, iS (IntKind.i64.wrap (task18 + 1))), (7, iS i9), (11, .own 6 0 r4113.2.2.2.length)] [(0, .row 52 [iS c0_e0_Next18, .own 3 0 c3q18.length, iS r4113.1, .own 5 0 r4113.2.2.1.length]), (1, .row 3 (fl c1q20)), (2, .row 3 (fl c2q18)), (3, .row 3 (fl c3q18)), (4, .row 3 (fl c4q18)), (5, .row 3 (fl r4113.2.2.1)), (6, .row 3 (fl r4113.2.2.2)), (7, .row 24 [iS r4113.1, .own 5 0 r4113.2.2.1.length]), (8, .row 28 (Enc.cells r4113.2.1))] 9 (by kernel_rfl) ?_
                    refine wk_id ?_
                    refine chk_sx h (fun g4118 h => ?_)
                    refine reg_f ?_
                    have k4117 : (c1q20 ++ r4113.2.2.2).length * 8 ≤ 140737488355328 := by first | simpa only [Bool.and_eq_true, decide_eq_true_eq, bne_iff_ne, ne_eq] using g4118 | (simp at g4118 ⊢; omega)
                    refine rs 4 [none, none, some ⟨.own 9 0 (c1q20 ++ r4113.2.2.2).length, [(9, .row 3 (fl (c1q20 ++ r4113.2.2.2))), (1, .dead)], 10, [1, 6]⟩] _ (by kernel_rfl) (allP_cons (ob_app (P := Try.prog) c1q20 r4113.2.2.2 1 8 rfl (appCells (fl r4113.2.2.2) 0 (r4113.2.2.2.length * 1)) r4113.2.2.2.length (app_own r4113.2.2.2 1 rfl) rfl (0 + r4113.2.2.2.length * 1 ≤ (fl r4113.2.2.2).length) (app_own_le r4113.2.2.2 1 rfl) 3 (by kernel_rfl) (by decide) k4117 1 9 [6]) allP_nil) ?_
                    refine rf [(0, .sl moves.length (fl moves)), (3, .ptr 0 0), (4, .own 9 0 (c1q20 ++ r4113.2.2.2).length), (5, .own 2 0 c2q18.length), (6, iS (IntKind.i64.wrap (task18 + 1))), (7, iS i9)] [(0, .row 52 [iS c0_e0_Next18, .own 3 0 c3q18.length, iS r4113.1, .own 5 0 r4113.2.2.1.length]), (1, .dead), (2, .row 3 (fl c2q18)), (3, .row 3 (fl c3q18)), (4, .row 3 (fl c4q18)), (5, .row 3 (fl r4113.2.2.1)), (6, .row 3 (fl r4113.2.2.2)), (7, .row 24 [iS r4113.1, .own 5 0 r4113.2.2.1.length]), (8, .row 28 (Enc.cells r4113.2.1)), (9, .row 3 (fl (c1q20 ++ r4113.2.2.2)))] 10 (by kernel_rfl) ?_
                    exact hK4093 ((IntKind.i64.wrap (task18 + 1)), c0_e0_Next18, r4113.1, (c1q20 ++ r4113.2.2.2), c2q18, c3q18, r4113.2.2.1) _ _ _ h (leSt_m [(0, 0), (1, 9), (2, 2), (3, 3), (4, 5)] [] (by simp only [push_cast, seval]) (by simp only [push_cast, seval]) rfl rfl rfl)
                refine chk_sx h (fun g4123 h => ?_)
                refine seq_np ?_
                refine reg_f ?_
                have k4122 : 0 ≤ (Int.tmod (ix moves i9) 2) ∧ (Int.tmod (ix moves i9) 2) < 2 := by first | simpa only [Bool.and_eq_true, decide_eq_true_eq, bne_iff_ne, ne_eq] using g4123 | (simp at g4123 ⊢; omega)
                exfalso
                omega
              · refine seq_np ?_
                refine reg_f ?_
                refine rs 2 [] [] (by kernel_rfl) allP_nil ?_
                refine rf [(0, .sl moves.length (fl moves)), (3, .ptr 0 0), (4, .own 1 0 c1q20.length), (5, .own 2 0 c2q18.length), (6, iS task18), (7, iS i9), (8, iS (ix moves i9)), (9, iS (Int.tmod (ix moves i9) 2)), (45, iS (Int.tmod (IntKind.i64.wrap (Int.tdiv (ix moves i9) 2)) 5)), (74, bS ((Int.tmod (IntKind.i64.wrap (Int.tdiv (ix moves i9) 2)) 5) == 3))] [(0, .row 52 [iS c0_e0_Next18, .own 3 0 c3q18.length, iS c0_e1_Next18, .own 4 0 c4q18.length]), (1, .row 3 (fl c1q20)), (2, .row 3 (fl c2q18)), (3, .row 3 (fl c3q18)), (4, .row 3 (fl c4q18))] 5 (by kernel_rfl) ?_
                refine wk_id ?_
                refine cond_sx h (by kernel_rfl) (fun g4193 h => ?_) (fun g4193 h => ?_)
                · refine split_s h (fun g4124 h => ?_) (fun g4125 h => ?_)
                  · refine seq_np ?_
                    refine reg_f ?_
                    refine rs 1 [] [] (by kernel_rfl) allP_nil ?_
                    refine run_at 77 .i64 (Int.tmod (ix moves i9) 2) 0 g4124 (by kernel_rfl) ?_
                    refine rs 2 [] [] (by kernel_rfl) allP_nil ?_
                    obtain ⟨r4127, hr4127, h⟩ := bind_sx h
                    refine call_x (ring_Take_spec (Ring.mk c0_e0_Next18 c3q18) r4127 hr4127) (args := [.agg [iS c0_e0_Next18, .own 3 0 c3q18.length]]) (dst := (some 80)) (by kernel_rfl) [(0, .row 52 [iS c0_e0_Next18, .own 3 0 c3q18.length, iS c0_e1_Next18, .own 4 0 c4q18.length]), (1, .row 3 (fl c1q20)), (2, .row 3 (fl c2q18)), (3, .row 3 (fl c3q18)), (4, .row 3 (fl c4q18))] 5 (by kernel_rfl) [] [3] (.tup [.agg [iS r4127.1, .own 5 0 r4127.2.2.2.length], iS r4127.2.1, .agg (Enc.cells r4127.2.2.1)]) [(5, .row 3 (fl r4127.2.2.2))] (by simp only [push_cast, seval]) (by simp only [push_cast, seval]) (by kernel_rfl) (.inr ⟨by simp only [push_cast, seval], by simp only [push_cast, seval]⟩) (by simp only [push_cast, seval]) (by simp only [push_cast, seval]) ?_
                    refine rs 9 [] [] (by kernel_rfl) allP_nil ?_
                    refine rf [(0, .sl moves.length (fl moves)), (3, .ptr 0 0), (4, .own 1 0 c1q20.length), (5, .own 2 0 c2q18.length), (6, iS task18), (7, iS i9), (9, iS (Int.tmod (ix moves i9) 2)), (13, .ptr 6 0), (14, iS r4127.2.1), (15, .ptr 7 0)] [(0, .row 52 [iS c0_e0_Next18, .own 3 0 c3q18.length, iS c0_e1_Next18, .own 4 0 c4q18.length]), (1, .row 3 (fl c1q20)), (2, .row 3 (fl c2q18)), (3, .row 3 (fl c3q18)), (4, .row 3 (fl c4q18)), (5, .row 3 (fl r4127.2.2.2)), (6, .row 24 [iS r4127.1, .own 5 0 r4127.2.2.2.length]), (7, .row 28 (Enc.cells r4127.2.2.1))] 8 (by kernel_rfl) ?_
                    refine wk_id ?_
                    refine seq_np ?_
                    refine reg_f ?_
                    refine rs 3 [] [] (by kernel_rfl) allP_nil ?_
                    refine rf [(0, .sl moves.length (fl moves)), (3, .ptr 0 0), (4, .own 1 0 c1q20.length), (5, .own 2 0 c2q18.length), (6, iS task18), (7, iS i9), (9, iS (Int.tmod (ix moves i9) 2)), (13, .ptr 6 0), (14, iS r4127.2.1), (86, bS (r4127.2.2.1.Code == 0))] [(0, .row 52 [iS c0_e0_Next18, .own 3 0 c3q18.length, iS c0_e1_Next18, .own 4 0 c4q18.length]), (1, .row 3 (fl c1q20)), (2, .row 3 (fl c2q18)), (3, .row 3 (fl c3q18)), (4, .row 3 (fl c4q18)), (5, .row 3 (fl r4127.2.2.2)), (6, .row 24 [iS r4127.1, .own 5 0 r4127.2.2.2.length]), (7, .row 28 (Enc.cells r4127.2.2.1))] 8 (by kernel_rfl) ?_
                    refine wk_id ?_
                    refine cond_sx h (by kernel_rfl) (fun g4135 h => ?_) (fun g4135 h => ?_)
                    · refine seq_np ?_
                      refine reg_f ?_
                      refine rs 2 [] [] (by kernel_rfl) allP_nil ?_
                      refine run_at 87 .i64 (Int.tmod (ix moves i9) 2) 0 g4124 (by kernel_rfl) ?_
                      refine rs 2 [] [] (by kernel_rfl) allP_nil ?_
                      refine rf [(0, .sl moves.length (fl moves)), (3, .ptr 0 0), (4, .own 1 0 c1q20.length), (5, .own 2 0 c2q18.length), (6, iS task18), (7, iS i9), (14, iS r4127.2.1)] [(0, .row 52 [iS r4127.1, .own 5 0 r4127.2.2.2.length, iS c0_e1_Next18, .own 4 0 c4q18.length]), (1, .row 3 (fl c1q20)), (2, .row 3 (fl c2q18)), (3, .row 3 (fl c3q18)), (4, .row 3 (fl c4q18)), (5, .row 3 (fl r4127.2.2.2)), (6, .row 24 [iS r4127.1, .own 5 0 r4127.2.2.2.length]), (7, .row 28 (Enc.cells r4127.2.2.1))] 8 (by kernel_rfl) ?_
                      refine wk_id ?_
                      refine chk_sx h (fun g4131 h => ?_)
                      refine reg_f ?_
                      have k4130 : (c2q18 ++ ([r4127.2.1] : List Int)).length * 8 ≤ 140737488355328 := by first | simpa only [Bool.and_eq_true, decide_eq_true_eq, bne_iff_ne, ne_eq] using g4131 | (simp at g4131 ⊢; omega)
                      refine rs 5 [none, none, none, some ⟨.own 9 0 (c2q18 ++ ([r4127.2.1] : List Int)).length, [(9, .row 3 (fl (c2q18 ++ ([r4127.2.1] : List Int)))), (2, .dead)], 10, [2, 8]⟩] _ (by kernel_rfl) (allP_cons (ob_app (P := Try.prog) c2q18 ([r4127.2.1] : List Int) 1 8 rfl (appCells (fl ([r4127.2.1] : List Int)) 0 (([r4127.2.1] : List Int).length * 1)) ([r4127.2.1] : List Int).length (app_own ([r4127.2.1] : List Int) 1 rfl) rfl (0 + ([r4127.2.1] : List Int).length * 1 ≤ (fl ([r4127.2.1] : List Int)).length) (app_own_le ([r4127.2.1] : List Int) 1 rfl) 3 (by kernel_rfl) (by decide) k4130 2 9 [8]) allP_nil) ?_
                      refine rf [(0, .sl moves.length (fl moves)), (3, .ptr 0 0), (4, .own 1 0 c1q20.length), (5, .own 9 0 (c2q18 ++ ([r4127.2.1] : List Int)).length), (6, iS task18), (7, iS i9)] [(0, .row 52 [iS r4127.1, .own 5 0 r4127.2.2.2.length, iS c0_e1_Next18, .own 4 0 c4q18.length]), (1, .row 3 (fl c1q20)), (2, .dead), (3, .row 3 (fl c3q18)), (4, .row 3 (fl c4q18)), (5, .row 3 (fl r4127.2.2.2)), (6, .row 24 [iS r4127.1, .own 5 0 r4127.2.2.2.length]), (7, .row 28 (Enc.cells r4127.2.2.1)), (8, .row 3 (fl ([r4127.2.1] : List Int))), (9, .row 3 (fl (c2q18 ++ ([r4127.2.1] : List Int))))] 10 (by kernel_rfl) ?_
                      exact hK4093 (task18, r4127.1, c0_e1_Next18, c1q20, (c2q18 ++ ([r4127.2.1] : List Int)), r4127.2.2.2, c4q18) _ _ _ h (leSt_m [(0, 0), (1, 1), (2, 9), (3, 5), (4, 4)] [] (by simp only [push_cast, seval]) (by simp only [push_cast, seval]) rfl rfl rfl)
                    · refine seq_np ?_
                      refine reg_f ?_
                      refine rs 1 [] [] (by kernel_rfl) allP_nil ?_
                      refine run_at 94 .i64 (Int.tmod (ix moves i9) 2) 0 g4124 (by kernel_rfl) ?_
                      refine rs 2 [] [] (by kernel_rfl) allP_nil ?_
                      obtain ⟨r4133, hr4133, h⟩ := bind_sx h
                      refine call_x (taskmillref_Line_spec (Ring.mk c0_e0_Next18 c3q18) r4133 hr4133) (args := [.agg [iS c0_e0_Next18, .own 3 0 c3q18.length]]) (dst := (some 97)) (by kernel_rfl) [(0, .row 52 [iS c0_e0_Next18, .own 3 0 c3q18.length, iS c0_e1_Next18, .own 4 0 c4q18.length]), (1, .row 3 (fl c1q20)), (2, .row 3 (fl c2q18)), (3, .row 3 (fl c3q18)), (4, .row 3 (fl c4q18)), (5, .row 3 (fl r4127.2.2.2)), (6, .row 24 [iS r4127.1, .own 5 0 r4127.2.2.2.length]), (7, .row 28 (Enc.cells r4127.2.2.1))] 8 (by kernel_rfl) [] [3] (.own 8 0 r4133.length) [(8, .row 3 (fl r4133))] (by simp only [push_cast, seval]) (by simp only [push_cast, seval]) (by kernel_rfl) (.inr ⟨by simp only [push_cast, seval], by simp only [push_cast, seval]⟩) (by simp only [push_cast, seval]) (by simp only [push_cast, seval]) ?_
                      refine rs 2 [] [] (by kernel_rfl) allP_nil ?_
                      refine rf [(0, .sl moves.length (fl moves)), (3, .ptr 0 0), (4, .own 1 0 c1q20.length), (5, .own 2 0 c2q18.length), (6, iS task18), (7, iS i9), (99, bS (decide ((0 : Int) < ((r4133.length : Nat) : Int))))] [(0, .row 52 [iS c0_e0_Next18, .own 3 0 c3q18.length, iS c0_e1_Next18, .own 4 0 c4q18.length]), (1, .row 3 (fl c1q20)), (2, .row 3 (fl c2q18)), (3, .row 3 (fl c3q18)), (4, .row 3 (fl c4q18)), (5, .row 3 (fl r4127.2.2.2)), (6, .row 24 [iS r4127.1, .own 5 0 r4127.2.2.2.length]), (7, .row 28 (Enc.cells r4127.2.2.1)), (8, .row 3 (fl r4133))] 9 (by kernel_rfl) ?_
                      refine wk_id ?_
                      refine cond_sx h (by kernel_rfl) (fun g4134 h => ?_) (fun g4134 h => ?_)
                      · refine seq_np ?_
                        refine reg_f ?_
                        refine rs 1 [] [] (by kernel_rfl) allP_nil ?_
                        refine rf [(2, bS false)] [(0, .row 52 [iS c0_e0_Next18, .own 3 0 c3q18.length, iS c0_e1_Next18, .own 4 0 c4q18.length]), (1, .row 3 (fl c1q20)), (2, .row 3 (fl c2q18)), (3, .row 3 (fl c3q18)), (4, .row 3 (fl c4q18)), (5, .row 3 (fl r4127.2.2.2)), (6, .row 24 [iS r4127.1, .own 5 0 r4127.2.2.2.length]), (7, .row 28 (Enc.cells r4127.2.2.1)), (8, .row 3 (fl r4133))] 9 (by kernel_rfl) ?_
                        refine wk_id ?_
                        refine rt_cast ht3 ?_
                        obtain ⟨r0, h, e0⟩ := map_sx h
                        have e1 := hr3 r0 e0.symm
                        subst r0
                        obtain rfl := Option.some.inj h
                        refine ret_at (bS false) (by kernel_rfl) ?_
                        exact ret_e [] [] (by simp only [push_cast, seval]) (by simp only [push_cast, seval]) rfl rfl rfl
                      · exact hK4093 (task18, c0_e0_Next18, c0_e1_Next18, c1q20, c2q18, c3q18, c4q18) _ _ _ h (leSt_m [(0, 0), (1, 1), (2, 2), (3, 3), (4, 4)] [] (by simp only [push_cast, seval]) (by simp only [push_cast, seval]) rfl rfl rfl)
                  refine split_s h (fun g4136 h => ?_) (fun g4137 h => ?_)
                  · refine seq_np ?_
                    refine reg_f ?_
                    refine rs 1 [] [] (by kernel_rfl) allP_nil ?_
                    refine run_at 77 .i64 (Int.tmod (ix moves i9) 2) 1 g4136 (by kernel_rfl) ?_
                    refine rs 2 [] [] (by kernel_rfl) allP_nil ?_
                    obtain ⟨r4139, hr4139, h⟩ := bind_sx h
                    refine call_x (ring_Take_spec (Ring.mk c0_e1_Next18 c4q18) r4139 hr4139) (args := [.agg [iS c0_e1_Next18, .own 4 0 c4q18.length]]) (dst := (some 80)) (by kernel_rfl) [(0, .row 52 [iS c0_e0_Next18, .own 3 0 c3q18.length, iS c0_e1_Next18, .own 4 0 c4q18.length]), (1, .row 3 (fl c1q20)), (2, .row 3 (fl c2q18)), (3, .row 3 (fl c3q18)), (4, .row 3 (fl c4q18))] 5 (by kernel_rfl) [] [4] (.tup [.agg [iS r4139.1, .own 5 0 r4139.2.2.2.length], iS r4139.2.1, .agg (Enc.cells r4139.2.2.1)]) [(5, .row 3 (fl r4139.2.2.2))] (by simp only [push_cast, seval]) (by simp only [push_cast, seval]) (by kernel_rfl) (.inr ⟨by simp only [push_cast, seval], by simp only [push_cast, seval]⟩) (by simp only [push_cast, seval]) (by simp only [push_cast, seval]) ?_
                    refine rs 9 [] [] (by kernel_rfl) allP_nil ?_
                    refine rf [(0, .sl moves.length (fl moves)), (3, .ptr 0 0), (4, .own 1 0 c1q20.length), (5, .own 2 0 c2q18.length), (6, iS task18), (7, iS i9), (9, iS (Int.tmod (ix moves i9) 2)), (13, .ptr 6 0), (14, iS r4139.2.1), (15, .ptr 7 0)] [(0, .row 52 [iS c0_e0_Next18, .own 3 0 c3q18.length, iS c0_e1_Next18, .own 4 0 c4q18.length]), (1, .row 3 (fl c1q20)), (2, .row 3 (fl c2q18)), (3, .row 3 (fl c3q18)), (4, .row 3 (fl c4q18)), (5, .row 3 (fl r4139.2.2.2)), (6, .row 24 [iS r4139.1, .own 5 0 r4139.2.2.2.length]), (7, .row 28 (Enc.cells r4139.2.2.1))] 8 (by kernel_rfl) ?_
                    refine wk_id ?_
                    refine seq_np ?_
                    refine reg_f ?_
                    refine rs 3 [] [] (by kernel_rfl) allP_nil ?_
                    refine rf [(0, .sl moves.length (fl moves)), (3, .ptr 0 0), (4, .own 1 0 c1q20.length), (5, .own 2 0 c2q18.length), (6, iS task18), (7, iS i9), (9, iS (Int.tmod (ix moves i9) 2)), (13, .ptr 6 0), (14, iS r4139.2.1), (86, bS (r4139.2.2.1.Code == 0))] [(0, .row 52 [iS c0_e0_Next18, .own 3 0 c3q18.length, iS c0_e1_Next18, .own 4 0 c4q18.length]), (1, .row 3 (fl c1q20)), (2, .row 3 (fl c2q18)), (3, .row 3 (fl c3q18)), (4, .row 3 (fl c4q18)), (5, .row 3 (fl r4139.2.2.2)), (6, .row 24 [iS r4139.1, .own 5 0 r4139.2.2.2.length]), (7, .row 28 (Enc.cells r4139.2.2.1))] 8 (by kernel_rfl) ?_
                    refine wk_id ?_
                    refine cond_sx h (by kernel_rfl) (fun g4147 h => ?_) (fun g4147 h => ?_)
                    · refine seq_np ?_
                      refine reg_f ?_
                      refine rs 2 [] [] (by kernel_rfl) allP_nil ?_
                      refine run_at 87 .i64 (Int.tmod (ix moves i9) 2) 1 g4136 (by kernel_rfl) ?_
                      refine rs 2 [] [] (by kernel_rfl) allP_nil ?_
                      refine rf [(0, .sl moves.length (fl moves)), (3, .ptr 0 0), (4, .own 1 0 c1q20.length), (5, .own 2 0 c2q18.length), (6, iS task18), (7, iS i9), (14, iS r4139.2.1)] [(0, .row 52 [iS c0_e0_Next18, .own 3 0 c3q18.length, iS r4139.1, .own 5 0 r4139.2.2.2.length]), (1, .row 3 (fl c1q20)), (2, .row 3 (fl c2q18)), (3, .row 3 (fl c3q18)), (4, .row 3 (fl c4q18)), (5, .row 3 (fl r4139.2.2.2)), (6, .row 24 [iS r4139.1, .own 5 0 r4139.2.2.2.length]), (7, .row 28 (Enc.cells r4139.2.2.1))] 8 (by kernel_rfl) ?_
                      refine wk_id ?_
                      refine chk_sx h (fun g4143 h => ?_)
                      refine reg_f ?_
                      have k4142 : (c2q18 ++ ([r4139.2.1] : List Int)).length * 8 ≤ 140737488355328 := by first | simpa only [Bool.and_eq_true, decide_eq_true_eq, bne_iff_ne, ne_eq] using g4143 | (simp at g4143 ⊢; omega)
                      refine rs 5 [none, none, none, some ⟨.own 9 0 (c2q18 ++ ([r4139.2.1] : List Int)).length, [(9, .row 3 (fl (c2q18 ++ ([r4139.2.1] : List Int)))), (2, .dead)], 10, [2, 8]⟩] _ (by kernel_rfl) (allP_cons (ob_app (P := Try.prog) c2q18 ([r4139.2.1] : List Int) 1 8 rfl (appCells (fl ([r4139.2.1] : List Int)) 0 (([r4139.2.1] : List Int).length * 1)) ([r4139.2.1] : List Int).length (app_own ([r4139.2.1] : List Int) 1 rfl) rfl (0 + ([r4139.2.1] : List Int).length * 1 ≤ (fl ([r4139.2.1] : List Int)).length) (app_own_le ([r4139.2.1] : List Int) 1 rfl) 3 (by kernel_rfl) (by decide) k4142 2 9 [8]) allP_nil) ?_
                      refine rf [(0, .sl moves.length (fl moves)), (3, .ptr 0 0), (4, .own 1 0 c1q20.length), (5, .own 9 0 (c2q18 ++ ([r4139.2.1] : List Int)).length), (6, iS task18), (7, iS i9)] [(0, .row 52 [iS c0_e0_Next18, .own 3 0 c3q18.length, iS r4139.1, .own 5 0 r4139.2.2.2.length]), (1, .row 3 (fl c1q20)), (2, .dead), (3, .row 3 (fl c3q18)), (4, .row 3 (fl c4q18)), (5, .row 3 (fl r4139.2.2.2)), (6, .row 24 [iS r4139.1, .own 5 0 r4139.2.2.2.length]), (7, .row 28 (Enc.cells r4139.2.2.1)), (8, .row 3 (fl ([r4139.2.1] : List Int))), (9, .row 3 (fl (c2q18 ++ ([r4139.2.1] : List Int))))] 10 (by kernel_rfl) ?_
                      exact hK4093 (task18, c0_e0_Next18, r4139.1, c1q20, (c2q18 ++ ([r4139.2.1] : List Int)), c3q18, r4139.2.2.2) _ _ _ h (leSt_m [(0, 0), (1, 1), (2, 9), (3, 3), (4, 5)] [] (by simp only [push_cast, seval]) (by simp only [push_cast, seval]) rfl rfl rfl)
                    · refine seq_np ?_
                      refine reg_f ?_
                      refine rs 1 [] [] (by kernel_rfl) allP_nil ?_
                      refine run_at 94 .i64 (Int.tmod (ix moves i9) 2) 1 g4136 (by kernel_rfl) ?_
                      refine rs 2 [] [] (by kernel_rfl) allP_nil ?_
                      obtain ⟨r4145, hr4145, h⟩ := bind_sx h
                      refine call_x (taskmillref_Line_spec (Ring.mk c0_e1_Next18 c4q18) r4145 hr4145) (args := [.agg [iS c0_e1_Next18, .own 4 0 c4q18.length]]) (dst := (some 97)) (by kernel_rfl) [(0, .row 52 [iS c0_e0_Next18, .own 3 0 c3q18.length, iS c0_e1_Next18, .own 4 0 c4q18.length]), (1, .row 3 (fl c1q20)), (2, .row 3 (fl c2q18)), (3, .row 3 (fl c3q18)), (4, .row 3 (fl c4q18)), (5, .row 3 (fl r4139.2.2.2)), (6, .row 24 [iS r4139.1, .own 5 0 r4139.2.2.2.length]), (7, .row 28 (Enc.cells r4139.2.2.1))] 8 (by kernel_rfl) [] [4] (.own 8 0 r4145.length) [(8, .row 3 (fl r4145))] (by simp only [push_cast, seval]) (by simp only [push_cast, seval]) (by kernel_rfl) (.inr ⟨by simp only [push_cast, seval], by simp only [push_cast, seval]⟩) (by simp only [push_cast, seval]) (by simp only [push_cast, seval]) ?_
                      refine rs 2 [] [] (by kernel_rfl) allP_nil ?_
                      refine rf [(0, .sl moves.length (fl moves)), (3, .ptr 0 0), (4, .own 1 0 c1q20.length), (5, .own 2 0 c2q18.length), (6, iS task18), (7, iS i9), (99, bS (decide ((0 : Int) < ((r4145.length : Nat) : Int))))] [(0, .row 52 [iS c0_e0_Next18, .own 3 0 c3q18.length, iS c0_e1_Next18, .own 4 0 c4q18.length]), (1, .row 3 (fl c1q20)), (2, .row 3 (fl c2q18)), (3, .row 3 (fl c3q18)), (4, .row 3 (fl c4q18)), (5, .row 3 (fl r4139.2.2.2)), (6, .row 24 [iS r4139.1, .own 5 0 r4139.2.2.2.length]), (7, .row 28 (Enc.cells r4139.2.2.1)), (8, .row 3 (fl r4145))] 9 (by kernel_rfl) ?_
                      refine wk_id ?_
                      refine cond_sx h (by kernel_rfl) (fun g4146 h => ?_) (fun g4146 h => ?_)
                      · refine seq_np ?_
                        refine reg_f ?_
                        refine rs 1 [] [] (by kernel_rfl) allP_nil ?_
                        refine rf [(2, bS false)] [(0, .row 52 [iS c0_e0_Next18, .own 3 0 c3q18.length, iS c0_e1_Next18, .own 4 0 c4q18.length]), (1, .row 3 (fl c1q20)), (2, .row 3 (fl c2q18)), (3, .row 3 (fl c3q18)), (4, .row 3 (fl c4q18)), (5, .row 3 (fl r4139.2.2.2)), (6, .row 24 [iS r4139.1, .own 5 0 r4139.2.2.2.length]), (7, .row 28 (Enc.cells r4139.2.2.1)), (8, .row 3 (fl r4145))] 9 (by kernel_rfl) ?_
                        refine wk_id ?_
                        refine rt_cast ht3 ?_
                        obtain ⟨r0, h, e0⟩ := map_sx h
                        have e1 := hr3 r0 e0.symm
                        subst r0
                        obtain rfl := Option.some.inj h
                        refine ret_at (bS false) (by kernel_rfl) ?_
                        exact ret_e [] [] (by simp only [push_cast, seval]) (by simp only [push_cast, seval]) rfl rfl rfl
                      · exact hK4093 (task18, c0_e0_Next18, c0_e1_Next18, c1q20, c2q18, c3q18, c4q18) _ _ _ h (leSt_m [(0, 0), (1, 1), (2, 2), (3, 3), (4, 4)] [] (by simp only [push_cast, seval]) (by simp only [push_cast, seval]) rfl rfl rfl)
                  refine chk_sx h (fun g4151 h => ?_)
                  refine seq_np ?_
                  refine reg_f ?_
                  have k4150 : 0 ≤ (Int.tmod (ix moves i9) 2) ∧ (Int.tmod (ix moves i9) 2) < 2 := by first | simpa only [Bool.and_eq_true, decide_eq_true_eq, bne_iff_ne, ne_eq] using g4151 | (simp at g4151 ⊢; omega)
                  exfalso
                  omega
                · refine seq_np ?_
                  refine reg_f ?_
                  refine rs 2 [] [] (by kernel_rfl) allP_nil ?_
                  refine rf [(0, .sl moves.length (fl moves)), (3, .ptr 0 0), (4, .own 1 0 c1q20.length), (5, .own 2 0 c2q18.length), (6, iS task18), (7, iS i9), (8, iS (ix moves i9)), (9, iS (Int.tmod (ix moves i9) 2)), (100, bS ((Int.tmod (IntKind.i64.wrap (Int.tdiv (ix moves i9) 2)) 5) == 4))] [(0, .row 52 [iS c0_e0_Next18, .own 3 0 c3q18.length, iS c0_e1_Next18, .own 4 0 c4q18.length]), (1, .row 3 (fl c1q20)), (2, .row 3 (fl c2q18)), (3, .row 3 (fl c3q18)), (4, .row 3 (fl c4q18))] 5 (by kernel_rfl) ?_
                  refine wk_id ?_
                  refine cond_sx h (by kernel_rfl) (fun g4192 h => ?_) (fun g4192 h => ?_)
                  · refine split_s h (fun g4152 h => ?_) (fun g4153 h => ?_)
                    · refine split_s h (fun g4154 h => ?_) (fun g4155 h => ?_)
                      · refine seq_np ?_
                        refine reg_t ?_
                        refine rs 1 [] [] (by kernel_rfl) allP_nil ?_
                        refine run_at 103 .i64 (Int.tmod (ix moves i9) 2) 0 g4152 (by kernel_rfl) ?_
                        refine rs 4 [] [] (by kernel_rfl) allP_nil ?_
                        refine run_at 107 .i64 (IntKind.i64.wrap ((1 : Int) - (Int.tmod (ix moves i9) 2))) 0 g4154 (by kernel_rfl) ?_
                        refine rs 6 [] [] (by kernel_rfl) allP_nil ?_
                        obtain ⟨r4157, hr4157, h⟩ := bind_sx h
                        refine call_x (ring_Steal_spec (Ring.mk c0_e0_Next18 c3q18) (Ring.mk c0_e0_Next18 c3q18) ((Int.tmod (IntKind.i64.wrap (Int.tdiv (ix moves i9) 10)) 2) == 1) r4157 hr4157) (args := [.agg [iS c0_e0_Next18, .own 3 0 c3q18.length], .agg [iS c0_e0_Next18, .own 3 0 c3q18.length], bS ((Int.tmod (IntKind.i64.wrap (Int.tdiv (ix moves i9) 10)) 2) == 1)]) (dst := (some 114)) (by kernel_rfl) [(0, .row 52 [iS c0_e0_Next18, .own 3 0 c3q18.length, iS c0_e1_Next18, .own 4 0 c4q18.length]), (1, .row 3 (fl c1q20)), (2, .row 3 (fl c2q18)), (3, .row 3 (fl c3q18)), (4, .row 3 (fl c4q18))] 16 (by kernel_rfl) [] [3] (.tup [.agg [iS r4157.1, .own 16 0 r4157.2.2.2.2.1.length], .agg [iS r4157.2.1, .own 17 0 r4157.2.2.2.2.2.length], iS r4157.2.2.1, .agg (Enc.cells r4157.2.2.2.1)]) [(16, .row 3 (fl r4157.2.2.2.2.1)), (17, .row 3 (fl r4157.2.2.2.2.2))] (by simp only [push_cast, seval]) (by simp only [push_cast, seval]) (by kernel_rfl) (.inr ⟨by simp only [push_cast, seval], by simp only [push_cast, seval]⟩) (by simp only [push_cast, seval]) (by simp only [push_cast, seval]) ?_
                        refine rs 12 [] [] (by kernel_rfl) allP_nil ?_
                        refine rt [(0, .sl moves.length (fl moves)), (3, .ptr 0 0), (4, .own 1 0 c1q20.length), (5, .own 2 0 c2q18.length), (6, iS task18), (7, iS i9), (9, iS (Int.tmod (ix moves i9) 2)), (16, .ptr 24 0), (17, .ptr 26 0), (19, .ptr 28 0)] [(0, .row 52 [iS c0_e0_Next18, .own 3 0 c3q18.length, iS c0_e1_Next18, .own 4 0 c4q18.length]), (1, .row 3 (fl c1q20)), (2, .row 3 (fl c2q18)), (3, .row 3 (fl c3q18)), (4, .row 3 (fl c4q18)), (16, .row 3 (fl r4157.2.2.2.2.1)), (17, .row 3 (fl r4157.2.2.2.2.2)), (24, .row 24 [iS r4157.1, .own 16 0 r4157.2.2.2.2.1.length]), (26, .row 24 [iS r4157.2.1, .own 17 0 r4157.2.2.2.2.2.length]), (28, .row 28 (Enc.cells r4157.2.2.2.1))] 34 follows (by kernel_rfl) ?_
                        refine wk_id ?_
                        refine seq_np ?_
                        refine seq_np ?_
                        refine reg_f ?_
                        refine rs 3 [] [] (by kernel_rfl) allP_nil ?_
                        refine rf [(0, .sl moves.length (fl moves)), (3, .ptr 0 0), (4, .own 1 0 c1q20.length), (5, .own 2 0 c2q18.length), (6, iS task18), (7, iS i9), (9, iS (Int.tmod (ix moves i9) 2)), (16, .ptr 24 0), (17, .ptr 26 0), (121, bS (r4157.2.2.2.1.Code != 0))] [(0, .row 52 [iS c0_e0_Next18, .own 3 0 c3q18.length, iS c0_e1_Next18, .own 4 0 c4q18.length]), (1, .row 3 (fl c1q20)), (2, .row 3 (fl c2q18)), (3, .row 3 (fl c3q18)), (4, .row 3 (fl c4q18)), (16, .row 3 (fl r4157.2.2.2.2.1)), (17, .row 3 (fl r4157.2.2.2.2.2)), (24, .row 24 [iS r4157.1, .own 16 0 r4157.2.2.2.2.1.length]), (26, .row 24 [iS r4157.2.1, .own 17 0 r4157.2.2.2.2.2.length]), (28, .row 28 (Enc.cells r4157.2.2.2.1))] 34 (by kernel_rfl) ?_
                        refine wk_id ?_
                        refine cond_sx h (by kernel_rfl) (fun g4159 h => ?_) (fun g4159 h => ?_)
                        · refine seq_np ?_
                          refine reg_f ?_
                          refine rs 1 [] [] (by kernel_rfl) allP_nil ?_
                          refine rf [(2, bS false)] [(0, .row 52 [iS c0_e0_Next18, .own 3 0 c3q18.length, iS c0_e1_Next18, .own 4 0 c4q18.length]), (1, .row 3 (fl c1q20)), (2, .row 3 (fl c2q18)), (3, .row 3 (fl c3q18)), (4, .row 3 (fl c4q18)), (16, .row 3 (fl r4157.2.2.2.2.1)), (17, .row 3 (fl r4157.2.2.2.2.2)), (24, .row 24 [iS r4157.1, .own 16 0 r4157.2.2.2.2.1.length]), (26, .row 24 [iS r4157.2.1, .own 17 0 r4157.2.2.2.2.2.length]), (28, .row 28 (Enc.cells r4157.2.2.2.1))] 34 (by kernel_rfl) ?_
                          refine wk_id ?_
                          refine rt_cast ht3 ?_
                          obtain ⟨r0, h, e0⟩ := map_sx h
                          have e1 := hr3 r0 e0.symm
                          subst r0
                          obtain rfl := Option.some.inj h
                          refine ret_at (bS false) (by kernel_rfl) ?_
                          exact ret_e [] [] (by simp only [push_cast, seval]) (by simp only [push_cast, seval]) rfl rfl rfl
                        · refine wk_id ?_
                          refine seq_np ?_
                          refine reg_f ?_
                          refine rs 2 [] [] (by kernel_rfl) allP_nil ?_
                          refine run_at 122 .i64 (Int.tmod (ix moves i9) 2) 0 g4152 (by kernel_rfl) ?_
                          refine rs 2 [] [] (by kernel_rfl) allP_nil ?_
                          refine rf [(0, .sl moves.length (fl moves)), (3, .ptr 0 0), (4, .own 1 0 c1q20.length), (5, .own 2 0 c2q18.length), (6, iS task18), (7, iS i9), (9, iS (Int.tmod (ix moves i9) 2)), (17, .ptr 26 0)] [(0, .row 52 [iS r4157.1, .own 16 0 r4157.2.2.2.2.1.length, iS c0_e1_Next18, .own 4 0 c4q18.length]), (1, .row 3 (fl c1q20)), (2, .row 3 (fl c2q18)), (3, .row 3 (fl c3q18)), (4, .row 3 (fl c4q18)), (16, .row 3 (fl r4157.2.2.2.2.1)), (17, .row 3 (fl r4157.2.2.2.2.2)), (24, .row 24 [iS r4157.1, .own 16 0 r4157.2.2.2.2.1.length]), (26, .row 24 [iS r4157.2.1, .own 17 0 r4157.2.2.2.2.2.length]), (28, .row 28 (Enc.cells r4157.2.2.2.1))] 34 (by kernel_rfl) ?_
                          refine wk_id ?_
                          refine reg_f ?_
                          refine rs 3 [] [] (by kernel_rfl) allP_nil ?_
                          refine run_at 126 .i64 (IntKind.i64.wrap ((1 : Int) - (Int.tmod (ix moves i9) 2))) 0 g4154 (by kernel_rfl) ?_
                          refine rs 2 [] [] (by kernel_rfl) allP_nil ?_
                          refine rf [(0, .sl moves.length (fl moves)), (3, .ptr 0 0), (4, .own 1 0 c1q20.length), (5, .own 2 0 c2q18.length), (6, iS task18), (7, iS i9)] [(0, .row 52 [iS r4157.2.1, .own 17 0 r4157.2.2.2.2.2.length, iS c0_e1_Next18, .own 4 0 c4q18.length]), (1, .row 3 (fl c1q20)), (2, .row 3 (fl c2q18)), (3, .row 3 (fl c3q18)), (4, .row 3 (fl c4q18)), (16, .row 3 (fl r4157.2.2.2.2.1)), (17, .row 3 (fl r4157.2.2.2.2.2)), (24, .row 24 [iS r4157.1, .own 16 0 r4157.2.2.2.2.1.length]), (26, .row 24 [iS r4157.2.1, .own 17 0 r4157.2.2.2.2.2.length]), (28, .row 28 (Enc.cells r4157.2.2.2.1))] 34 (by kernel_rfl) ?_
                          exact hK4093 (task18, r4157.2.1, c0_e1_Next18, c1q20, c2q18, r4157.2.2.2.2.2, c4q18) _ _ _ h (leSt_m [(0, 0), (1, 1), (2, 2), (3, 17), (4, 4)] [] (by simp only [push_cast, seval]) (by simp only [push_cast, seval]) rfl rfl rfl)
                      refine split_s h (fun g4160 h => ?_) (fun g4161 h => ?_)
                      · refine seq_np ?_
                        refine reg_t ?_
                        refine rs 1 [] [] (by kernel_rfl) allP_nil ?_
                        refine run_at 103 .i64 (Int.tmod (ix moves i9) 2) 0 g4152 (by kernel_rfl) ?_
                        refine rs 4 [] [] (by kernel_rfl) allP_nil ?_
                        refine run_at 107 .i64 (IntKind.i64.wrap ((1 : Int) - (Int.tmod (ix moves i9) 2))) 1 g4160 (by kernel_rfl) ?_
                        refine rs 6 [] [] (by kernel_rfl) allP_nil ?_
                        obtain ⟨r4163, hr4163, h⟩ := bind_sx h
                        refine call_x (ring_Steal_spec (Ring.mk c0_e0_Next18 c3q18) (Ring.mk c0_e1_Next18 c4q18) ((Int.tmod (IntKind.i64.wrap (Int.tdiv (ix moves i9) 10)) 2) == 1) r4163 hr4163) (args := [.agg [iS c0_e0_Next18, .own 3 0 c3q18.length], .agg [iS c0_e1_Next18, .own 4 0 c4q18.length], bS ((Int.tmod (IntKind.i64.wrap (Int.tdiv (ix moves i9) 10)) 2) == 1)]) (dst := (some 114)) (by kernel_rfl) [(0, .row 52 [iS c0_e0_Next18, .own 3 0 c3q18.length, iS c0_e1_Next18, .own 4 0 c4q18.length]), (1, .row 3 (fl c1q20)), (2, .row 3 (fl c2q18)), (3, .row 3 (fl c3q18)), (4, .row 3 (fl c4q18))] 16 (by kernel_rfl) [] [3, 4] (.tup [.agg [iS r4163.1, .own 16 0 r4163.2.2.2.2.1.length], .agg [iS r4163.2.1, .own 17 0 r4163.2.2.2.2.2.length], iS r4163.2.2.1, .agg (Enc.cells r4163.2.2.2.1)]) [(16, .row 3 (fl r4163.2.2.2.2.1)), (17, .row 3 (fl r4163.2.2.2.2.2))] (by simp only [push_cast, seval]) (by simp only [push_cast, seval]) (by kernel_rfl) (.inr ⟨by simp only [push_cast, seval], by simp only [push_cast, seval]⟩) (by simp only [push_cast, seval]) (by simp only [push_cast, seval]) ?_
                        refine rs 12 [] [] (by kernel_rfl) allP_nil ?_
                        refine rt [(0, .sl moves.length (fl moves)), (3, .ptr 0 0), (4, .own 1 0 c1q20.length), (5, .own 2 0 c2q18.length), (6, iS task18), (7, iS i9), (9, iS (Int.tmod (ix moves i9) 2)), (16, .ptr 24 0), (17, .ptr 26 0), (19, .ptr 28 0)] [(0, .row 52 [iS c0_e0_Next18, .own 3 0 c3q18.length, iS c0_e1_Next18, .own 4 0 c4q18.length]), (1, .row 3 (fl c1q20)), (2, .row 3 (fl c2q18)), (3, .row 3 (fl c3q18)), (4, .row 3 (fl c4q18)), (16, .row 3 (fl r4163.2.2.2.2.1)), (17, .row 3 (fl r4163.2.2.2.2.2)), (24, .row 24 [iS r4163.1, .own 16 0 r4163.2.2.2.2.1.length]), (26, .row 24 [iS r4163.2.1, .own 17 0 r4163.2.2.2.2.2.length]), (28, .row 28 (Enc.cells r4163.2.2.2.1))] 34 follows (by kernel_rfl) ?_
                        refine wk_id ?_
                        refine seq_np ?_
                        refine seq_np ?_
                        refine reg_f ?_
                        refine rs 3 [] [] (by kernel_rfl) allP_nil ?_
                        refine rf [(0, .sl moves.length (fl moves)), (3, .ptr 0 0), (4, .own 1 0 c1q20.length), (5, .own 2 0 c2q18.length), (6, iS task18), (7, iS i9), (9, iS (Int.tmod (ix moves i9) 2)), (16, .ptr 24 0), (17, .ptr 26 0), (121, bS (r4163.2.2.2.1.Code != 0))] [(0, .row 52 [iS c0_e0_Next18, .own 3 0 c3q18.length, iS c0_e1_Next18, .own 4 0 c4q18.length]), (1, .row 3 (fl c1q20)), (2, .row 3 (fl c2q18)), (3, .row 3 (fl c3q18)), (4, .row 3 (fl c4q18)), (16, .row 3 (fl r4163.2.2.2.2.1)), (17, .row 3 (fl r4163.2.2.2.2.2)), (24, .row 24 [iS r4163.1, .own 16 0 r4163.2.2.2.2.1.length]), (26, .row 24 [iS r4163.2.1, .own 17 0 r4163.2.2.2.2.2.length]), (28, .row 28 (Enc.cells r4163.2.2.2.1))] 34 (by kernel_rfl) ?_
                        refine wk_id ?_
                        refine cond_sx h (by kernel_rfl) (fun g4165 h => ?_) (fun g4165 h => ?_)
                        · refine seq_np ?_
                          refine reg_f ?_
                          refine rs 1 [] [] (by kernel_rfl) allP_nil ?_
                          refine rf [(2, bS false)] [(0, .row 52 [iS c0_e0_Next18, .own 3 0 c3q18.length, iS c0_e1_Next18, .own 4 0 c4q18.length]), (1, .row 3 (fl c1q20)), (2, .row 3 (fl c2q18)), (3, .row 3 (fl c3q18)), (4, .row 3 (fl c4q18)), (16, .row 3 (fl r4163.2.2.2.2.1)), (17, .row 3 (fl r4163.2.2.2.2.2)), (24, .row 24 [iS r4163.1, .own 16 0 r4163.2.2.2.2.1.length]), (26, .row 24 [iS r4163.2.1, .own 17 0 r4163.2.2.2.2.2.length]), (28, .row 28 (Enc.cells r4163.2.2.2.1))] 34 (by kernel_rfl) ?_
                          refine wk_id ?_
                          refine rt_cast ht3 ?_
                          obtain ⟨r0, h, e0⟩ := map_sx h
                          have e1 := hr3 r0 e0.symm
                          subst r0
                          obtain rfl := Option.some.inj h
                          refine ret_at (bS false) (by kernel_rfl) ?_
                          exact ret_e [] [] (by simp only [push_cast, seval]) (by simp only [push_cast, seval]) rfl rfl rfl
                        · refine wk_id ?_
                          refine seq_np ?_
                          refine reg_f ?_
                          refine rs 2 [] [] (by kernel_rfl) allP_nil ?_
                          refine run_at 122 .i64 (Int.tmod (ix moves i9) 2) 0 g4152 (by kernel_rfl) ?_
                          refine rs 2 [] [] (by kernel_rfl) allP_nil ?_
                          refine rf [(0, .sl moves.length (fl moves)), (3, .ptr 0 0), (4, .own 1 0 c1q20.length), (5, .own 2 0 c2q18.length), (6, iS task18), (7, iS i9), (9, iS (Int.tmod (ix moves i9) 2)), (17, .ptr 26 0)] [(0, .row 52 [iS r4163.1, .own 16 0 r4163.2.2.2.2.1.length, iS c0_e1_Next18, .own 4 0 c4q18.length]), (1, .row 3 (fl c1q20)), (2, .row 3 (fl c2q18)), (3, .row 3 (fl c3q18)), (4, .row 3 (fl c4q18)), (16, .row 3 (fl r4163.2.2.2.2.1)), (17, .row 3 (fl r4163.2.2.2.2.2)), (24, .row 24 [iS r4163.1, .own 16 0 r4163.2.2.2.2.1.length]), (26, .row 24 [iS r4163.2.1, .own 17 0 r4163.2.2.2.2.2.length]), (28, .row 28 (Enc.cells r4163.2.2.2.1))] 34 (by kernel_rfl) ?_
                          refine wk_id ?_
                          refine reg_f ?_
                          refine rs 3 [] [] (by kernel_rfl) allP_nil ?_
                          refine run_at 126 .i64 (IntKind.i64.wrap ((1 : Int) - (Int.tmod (ix moves i9) 2))) 1 g4160 (by kernel_rfl) ?_
                          refine rs 2 [] [] (by kernel_rfl) allP_nil ?_
                          refine rf [(0, .sl moves.length (fl moves)), (3, .ptr 0 0), (4, .own 1 0 c1q20.length), (5, .own 2 0 c2q18.length), (6, iS task18), (7, iS i9)] [(0, .row 52 [iS r4163.1, .own 16 0 r4163.2.2.2.2.1.length, iS r4163.2.1, .own 17 0 r4163.2.2.2.2.2.length]), (1, .row 3 (fl c1q20)), (2, .row 3 (fl c2q18)), (3, .row 3 (fl c3q18)), (4, .row 3 (fl c4q18)), (16, .row 3 (fl r4163.2.2.2.2.1)), (17, .row 3 (fl r4163.2.2.2.2.2)), (24, .row 24 [iS r4163.1, .own 16 0 r4163.2.2.2.2.1.length]), (26, .row 24 [iS r4163.2.1, .own 17 0 r4163.2.2.2.2.2.length]), (28, .row 28 (Enc.cells r4163.2.2.2.1))] 34 (by kernel_rfl) ?_
                          exact hK4093 (task18, r4163.1, r4163.2.1, c1q20, c2q18, r4163.2.2.2.2.1, r4163.2.2.2.2.2) _ _ _ h (leSt_m [(0, 0), (1, 1), (2, 2), (3, 16), (4, 17)] [] (by simp only [push_cast, seval]) (by simp only [push_cast, seval]) rfl rfl rfl)
                      refine chk_sx h (fun g4169 h => ?_)
                      refine seq_np ?_
                      refine reg_t ?_
                      refine rs 1 [] [] (by kernel_rfl) allP_nil ?_
                      refine run_at 103 .i64 (Int.tmod (ix moves i9) 2) 0 g4152 (by kernel_rfl) ?_
                      have k4168 : 0 ≤ (IntKind.i64.wrap ((1 : Int) - (Int.tmod (ix moves i9) 2))) ∧ (IntKind.i64.wrap ((1 : Int) - (Int.tmod (ix moves i9) 2))) < 2 := by first | simpa only [Bool.and_eq_true, decide_eq_true_eq, bne_iff_ne, ne_eq] using g4169 | (simp at g4169 ⊢; omega)
                      exfalso
                      omega
                    refine split_s h (fun g4170 h => ?_) (fun g4171 h => ?_)
                    · refine split_s h (fun g4172 h => ?_) (fun g4173 h => ?_)
                      · refine seq_np ?_
                        refine reg_t ?_
                        refine rs 1 [] [] (by kernel_rfl) allP_nil ?_
                        refine run_at 103 .i64 (Int.tmod (ix moves i9) 2) 1 g4170 (by kernel_rfl) ?_
                        refine rs 4 [] [] (by kernel_rfl) allP_nil ?_
                        refine run_at 107 .i64 (IntKind.i64.wrap ((1 : Int) - (Int.tmod (ix moves i9) 2))) 0 g4172 (by kernel_rfl) ?_
                        refine rs 6 [] [] (by kernel_rfl) allP_nil ?_
                        obtain ⟨r4175, hr4175, h⟩ := bind_sx h
                        refine call_x (ring_Steal_spec (Ring.mk c0_e1_Next18 c4q18) (Ring.mk c0_e0_Next18 c3q18) ((Int.tmod (IntKind.i64.wrap (Int.tdiv (ix moves i9) 10)) 2) == 1) r4175 hr4175) (args := [.agg [iS c0_e1_Next18, .own 4 0 c4q18.length], .agg [iS c0_e0_Next18, .own 3 0 c3q18.length], bS ((Int.tmod (IntKind.i64.wrap (Int.tdiv (ix moves i9) 10)) 2) == 1)]) (dst := (some 114)) (by kernel_rfl) [(0, .row 52 [iS c0_e0_Next18, .own 3 0 c3q18.length, iS c0_e1_Next18, .own 4 0 c4q18.length]), (1, .row 3 (fl c1q20)), (2, .row 3 (fl c2q18)), (3, .row 3 (fl c3q18)), (4, .row 3 (fl c4q18))] 16 (by kernel_rfl) [] [3, 4] (.tup [.agg [iS r4175.1, .own 16 0 r4175.2.2.2.2.1.length], .agg [iS r4175.2.1, .own 17 0 r4175.2.2.2.2.2.length], iS r4175.2.2.1, .agg (Enc.cells r4175.2.2.2.1)]) [(16, .row 3 (fl r4175.2.2.2.2.1)), (17, .row 3 (fl r4175.2.2.2.2.2))] (by simp only [push_cast, seval]) (by simp only [push_cast, seval]) (by kernel_rfl) (.inr ⟨by simp only [push_cast, seval], by simp only [push_cast, seval]⟩) (by simp only [push_cast, seval]) (by simp only [push_cast, seval]) ?_
                        refine rs 12 [] [] (by kernel_rfl) allP_nil ?_
                        refine rt [(0, .sl moves.length (fl moves)), (3, .ptr 0 0), (4, .own 1 0 c1q20.length), (5, .own 2 0 c2q18.length), (6, iS task18), (7, iS i9), (9, iS (Int.tmod (ix moves i9) 2)), (16, .ptr 24 0), (17, .ptr 26 0), (19, .ptr 28 0)] [(0, .row 52 [iS c0_e0_Next18, .own 3 0 c3q18.length, iS c0_e1_Next18, .own 4 0 c4q18.length]), (1, .row 3 (fl c1q20)), (2, .row 3 (fl c2q18)), (3, .row 3 (fl c3q18)), (4, .row 3 (fl c4q18)), (16, .row 3 (fl r4175.2.2.2.2.1)), (17, .row 3 (fl r4175.2.2.2.2.2)), (24, .row 24 [iS r4175.1, .own 16 0 r4175.2.2.2.2.1.length]), (26, .row 24 [iS r4175.2.1, .own 17 0 r4175.2.2.2.2.2.length]), (28, .row 28 (Enc.cells r4175.2.2.2.1))] 34 follows (by kernel_rfl) ?_
                        refine wk_id ?_
                        refine seq_np ?_
                        refine seq_np ?_
                        refine reg_f ?_
                        refine rs 3 [] [] (by kernel_rfl) allP_nil ?_
                        refine rf [(0, .sl moves.length (fl moves)), (3, .ptr 0 0), (4, .own 1 0 c1q20.length), (5, .own 2 0 c2q18.length), (6, iS task18), (7, iS i9), (9, iS (Int.tmod (ix moves i9) 2)), (16, .ptr 24 0), (17, .ptr 26 0), (121, bS (r4175.2.2.2.1.Code != 0))] [(0, .row 52 [iS c0_e0_Next18, .own 3 0 c3q18.length, iS c0_e1_Next18, .own 4 0 c4q18.length]), (1, .row 3 (fl c1q20)), (2, .row 3 (fl c2q18)), (3, .row 3 (fl c3q18)), (4, .row 3 (fl c4q18)), (16, .row 3 (fl r4175.2.2.2.2.1)), (17, .row 3 (fl r4175.2.2.2.2.2)), (24, .row 24 [iS r4175.1, .own 16 0 r4175.2.2.2.2.1.length]), (26, .row 24 [iS r4175.2.1, .own 17 0 r4175.2.2.2.2.2.length]), (28, .row 28 (Enc.cells r4175.2.2.2.1))] 34 (by kernel_rfl) ?_
                        refine wk_id ?_
                        refine cond_sx h (by kernel_rfl) (fun g4177 h => ?_) (fun g4177 h => ?_)
                        · refine seq_np ?_
                          refine reg_f ?_
                          refine rs 1 [] [] (by kernel_rfl) allP_nil ?_
                          refine rf [(2, bS false)] [(0, .row 52 [iS c0_e0_Next18, .own 3 0 c3q18.length, iS c0_e1_Next18, .own 4 0 c4q18.length]), (1, .row 3 (fl c1q20)), (2, .row 3 (fl c2q18)), (3, .row 3 (fl c3q18)), (4, .row 3 (fl c4q18)), (16, .row 3 (fl r4175.2.2.2.2.1)), (17, .row 3 (fl r4175.2.2.2.2.2)), (24, .row 24 [iS r4175.1, .own 16 0 r4175.2.2.2.2.1.length]), (26, .row 24 [iS r4175.2.1, .own 17 0 r4175.2.2.2.2.2.length]), (28, .row 28 (Enc.cells r4175.2.2.2.1))] 34 (by kernel_rfl) ?_
                          refine wk_id ?_
                          refine rt_cast ht3 ?_
                          obtain ⟨r0, h, e0⟩ := map_sx h
                          have e1 := hr3 r0 e0.symm
                          subst r0
                          obtain rfl := Option.some.inj h
                          refine ret_at (bS false) (by kernel_rfl) ?_
                          exact ret_e [] [] (by simp only [push_cast, seval]) (by simp only [push_cast, seval]) rfl rfl rfl
                        · refine wk_id ?_
                          refine seq_np ?_
                          refine reg_f ?_
                          refine rs 2 [] [] (by kernel_rfl) allP_nil ?_
                          refine run_at 122 .i64 (Int.tmod (ix moves i9) 2) 1 g4170 (by kernel_rfl) ?_
                          refine rs 2 [] [] (by kernel_rfl) allP_nil ?_
                          refine rf [(0, .sl moves.length (fl moves)), (3, .ptr 0 0), (4, .own 1 0 c1q20.length), (5, .own 2 0 c2q18.length), (6, iS task18), (7, iS i9), (9, iS (Int.tmod (ix moves i9) 2)), (17, .ptr 26 0)] [(0, .row 52 [iS c0_e0_Next18, .own 3 0 c3q18.length, iS r4175.1, .own 16 0 r4175.2.2.2.2.1.length]), (1, .row 3 (fl c1q20)), (2, .row 3 (fl c2q18)), (3, .row 3 (fl c3q18)), (4, .row 3 (fl c4q18)), (16, .row 3 (fl r4175.2.2.2.2.1)), (17, .row 3 (fl r4175.2.2.2.2.2)), (24, .row 24 [iS r4175.1, .own 16 0 r4175.2.2.2.2.1.length]), (26, .row 24 [iS r4175.2.1, .own 17 0 r4175.2.2.2.2.2.length]), (28, .row 28 (Enc.cells r4175.2.2.2.1))] 34 (by kernel_rfl) ?_
                          refine wk_id ?_
                          refine reg_f ?_
                          refine rs 3 [] [] (by kernel_rfl) allP_nil ?_
                          refine run_at 126 .i64 (IntKind.i64.wrap ((1 : Int) - (Int.tmod (ix moves i9) 2))) 0 g4172 (by kernel_rfl) ?_
                          refine rs 2 [] [] (by kernel_rfl) allP_nil ?_
                          refine rf [(0, .sl moves.length (fl moves)), (3, .ptr 0 0), (4, .own 1 0 c1q20.length), (5, .own 2 0 c2q18.length), (6, iS task18), (7, iS i9)] [(0, .row 52 [iS r4175.2.1, .own 17 0 r4175.2.2.2.2.2.length, iS r4175.1, .own 16 0 r4175.2.2.2.2.1.length]), (1, .row 3 (fl c1q20)), (2, .row 3 (fl c2q18)), (3, .row 3 (fl c3q18)), (4, .row 3 (fl c4q18)), (16, .row 3 (fl r4175.2.2.2.2.1)), (17, .row 3 (fl r4175.2.2.2.2.2)), (24, .row 24 [iS r4175.1, .own 16 0 r4175.2.2.2.2.1.length]), (26, .row 24 [iS r4175.2.1, .own 17 0 r4175.2.2.2.2.2.length]), (28, .row 28 (Enc.cells r4175.2.2.2.1))] 34 (by kernel_rfl) ?_
                          exact hK4093 (task18, r4175.2.1, r4175.1, c1q20, c2q18, r4175.2.2.2.2.2, r4175.2.2.2.2.1) _ _ _ h (leSt_m [(0, 0), (1, 1), (2, 2), (3, 17), (4, 16)] [] (by simp only [push_cast, seval]) (by simp only [push_cast, seval]) rfl rfl rfl)
                      refine split_s h (fun g4178 h => ?_) (fun g4179 h => ?_)
                      · refine seq_np ?_
                        refine reg_t ?_
                        refine rs 1 [] [] (by kernel_rfl) allP_nil ?_
                        refine run_at 103 .i64 (Int.tmod (ix moves i9) 2) 1 g4170 (by kernel_rfl) ?_
                        refine rs 4 [] [] (by kernel_rfl) allP_nil ?_
                        refine run_at 107 .i64 (IntKind.i64.wrap ((1 : Int) - (Int.tmod (ix moves i9) 2))) 1 g4178 (by kernel_rfl) ?_
                        refine rs 6 [] [] (by kernel_rfl) allP_nil ?_
                        obtain ⟨r4181, hr4181, h⟩ := bind_sx h
                        refine call_x (ring_Steal_spec (Ring.mk c0_e1_Next18 c4q18) (Ring.mk c0_e1_Next18 c4q18) ((Int.tmod (IntKind.i64.wrap (Int.tdiv (ix moves i9) 10)) 2) == 1) r4181 hr4181) (args := [.agg [iS c0_e1_Next18, .own 4 0 c4q18.length], .agg [iS c0_e1_Next18, .own 4 0 c4q18.length], bS ((Int.tmod (IntKind.i64.wrap (Int.tdiv (ix moves i9) 10)) 2) == 1)]) (dst := (some 114)) (by kernel_rfl) [(0, .row 52 [iS c0_e0_Next18, .own 3 0 c3q18.length, iS c0_e1_Next18, .own 4 0 c4q18.length]), (1, .row 3 (fl c1q20)), (2, .row 3 (fl c2q18)), (3, .row 3 (fl c3q18)), (4, .row 3 (fl c4q18))] 16 (by kernel_rfl) [] [4] (.tup [.agg [iS r4181.1, .own 16 0 r4181.2.2.2.2.1.length], .agg [iS r4181.2.1, .own 17 0 r4181.2.2.2.2.2.length], iS r4181.2.2.1, .agg (Enc.cells r4181.2.2.2.1)]) [(16, .row 3 (fl r4181.2.2.2.2.1)), (17, .row 3 (fl r4181.2.2.2.2.2))] (by simp only [push_cast, seval]) (by simp only [push_cast, seval]) (by kernel_rfl) (.inr ⟨by simp only [push_cast, seval], by simp only [push_cast, seval]⟩) (by simp only [push_cast, seval]) (by simp only [push_cast, seval]) ?_
                        refine rs 12 [] [] (by kernel_rfl) allP_nil ?_
                        refine rt [(0, .sl moves.length (fl moves)), (3, .ptr 0 0), (4, .own 1 0 c1q20.length), (5, .own 2 0 c2q18.length), (6, iS task18), (7, iS i9), (9, iS (Int.tmod (ix moves i9) 2)), (16, .ptr 24 0), (17, .ptr 26 0), (19, .ptr 28 0)] [(0, .row 52 [iS c0_e0_Next18, .own 3 0 c3q18.length, iS c0_e1_Next18, .own 4 0 c4q18.length]), (1, .row 3 (fl c1q20)), (2, .row 3 (fl c2q18)), (3, .row 3 (fl c3q18)), (4, .row 3 (fl c4q18)), (16, .row 3 (fl r4181.2.2.2.2.1)), (17, .row 3 (fl r4181.2.2.2.2.2)), (24, .row 24 [iS r4181.1, .own 16 0 r4181.2.2.2.2.1.length]), (26, .row 24 [iS r4181.2.1, .own 17 0 r4181.2.2.2.2.2.length]), (28, .row 28 (Enc.cells r4181.2.2.2.1))] 34 follows (by kernel_rfl) ?_
                        refine wk_id ?_
                        refine seq_np ?_
                        refine seq_np ?_
                        refine reg_f ?_
                        refine rs 3 [] [] (by kernel_rfl) allP_nil ?_
                        refine rf [(0, .sl moves.length (fl moves)), (3, .ptr 0 0), (4, .own 1 0 c1q20.length), (5, .own 2 0 c2q18.length), (6, iS task18), (7, iS i9), (9, iS (Int.tmod (ix moves i9) 2)), (16, .ptr 24 0), (17, .ptr 26 0), (121, bS (r4181.2.2.2.1.Code != 0))] [(0, .row 52 [iS c0_e0_Next18, .own 3 0 c3q18.length, iS c0_e1_Next18, .own 4 0 c4q18.length]), (1, .row 3 (fl c1q20)), (2, .row 3 (fl c2q18)), (3, .row 3 (fl c3q18)), (4, .row 3 (fl c4q18)), (16, .row 3 (fl r4181.2.2.2.2.1)), (17, .row 3 (fl r4181.2.2.2.2.2)), (24, .row 24 [iS r4181.1, .own 16 0 r4181.2.2.2.2.1.length]), (26, .row 24 [iS r4181.2.1, .own 17 0 r4181.2.2.2.2.2.length]), (28, .row 28 (Enc.cells r4181.2.2.2.1))] 34 (by kernel_rfl) ?_
                        refine wk_id ?_
                        refine cond_sx h (by kernel_rfl) (fun g4183 h => ?_) (fun g4183 h => ?_)
                        · refine seq_np ?_
                          refine reg_f ?_
                          refine rs 1 [] [] (by kernel_rfl) allP_nil ?_
                          refine rf [(2, bS false)] [(0, .row 52 [iS c0_e0_Next18, .own 3 0 c3q18.length, iS c0_e1_Next18, .own 4 0 c4q18.length]), (1, .row 3 (fl c1q20)), (2, .row 3 (fl c2q18)), (3, .row 3 (fl c3q18)), (4, .row 3 (fl c4q18)), (16, .row 3 (fl r4181.2.2.2.2.1)), (17, .row 3 (fl r4181.2.2.2.2.2)), (24, .row 24 [iS r4181.1, .own 16 0 r4181.2.2.2.2.1.length]), (26, .row 24 [iS r4181.2.1, .own 17 0 r4181.2.2.2.2.2.length]), (28, .row 28 (Enc.cells r4181.2.2.2.1))] 34 (by kernel_rfl) ?_
                          refine wk_id ?_
                          refine rt_cast ht3 ?_
                          obtain ⟨r0, h, e0⟩ := map_sx h
                          have e1 := hr3 r0 e0.symm
                          subst r0
                          obtain rfl := Option.some.inj h
                          refine ret_at (bS false) (by kernel_rfl) ?_
                          exact ret_e [] [] (by simp only [push_cast, seval]) (by simp only [push_cast, seval]) rfl rfl rfl
                        · refine wk_id ?_
                          refine seq_np ?_
                          refine reg_f ?_
                          refine rs 2 [] [] (by kernel_rfl) allP_nil ?_
                          refine run_at 122 .i64 (Int.tmod (ix moves i9) 2) 1 g4170 (by kernel_rfl) ?_
                          refine rs 2 [] [] (by kernel_rfl) allP_nil ?_
                          refine rf [(0, .sl moves.length (fl moves)), (3, .ptr 0 0), (4, .own 1 0 c1q20.length), (5, .own 2 0 c2q18.length), (6, iS task18), (7, iS i9), (9, iS (Int.tmod (ix moves i9) 2)), (17, .ptr 26 0)] [(0, .row 52 [iS c0_e0_Next18, .own 3 0 c3q18.length, iS r4181.1, .own 16 0 r4181.2.2.2.2.1.length]), (1, .row 3 (fl c1q20)), (2, .row 3 (fl c2q18)), (3, .row 3 (fl c3q18)), (4, .row 3 (fl c4q18)), (16, .row 3 (fl r4181.2.2.2.2.1)), (17, .row 3 (fl r4181.2.2.2.2.2)), (24, .row 24 [iS r4181.1, .own 16 0 r4181.2.2.2.2.1.length]), (26, .row 24 [iS r4181.2.1, .own 17 0 r4181.2.2.2.2.2.length]), (28, .row 28 (Enc.cells r4181.2.2.2.1))] 34 (by kernel_rfl) ?_
                          refine wk_id ?_
                          refine reg_f ?_
                          refine rs 3 [] [] (by kernel_rfl) allP_nil ?_
                          refine run_at 126 .i64 (IntKind.i64.wrap ((1 : Int) - (Int.tmod (ix moves i9) 2))) 1 g4178 (by kernel_rfl) ?_
                          refine rs 2 [] [] (by kernel_rfl) allP_nil ?_
                          refine rf [(0, .sl moves.length (fl moves)), (3, .ptr 0 0), (4, .own 1 0 c1q20.length), (5, .own 2 0 c2q18.length), (6, iS task18), (7, iS i9)] [(0, .row 52 [iS c0_e0_Next18, .own 3 0 c3q18.length, iS r4181.2.1, .own 17 0 r4181.2.2.2.2.2.length]), (1, .row 3 (fl c1q20)), (2, .row 3 (fl c2q18)), (3, .row 3 (fl c3q18)), (4, .row 3 (fl c4q18)), (16, .row 3 (fl r4181.2.2.2.2.1)), (17, .row 3 (fl r4181.2.2.2.2.2)), (24, .row 24 [iS r4181.1, .own 16 0 r4181.2.2.2.2.1.length]), (26, .row 24 [iS r4181.2.1, .own 17 0 r4181.2.2.2.2.2.length]), (28, .row 28 (Enc.cells r4181.2.2.2.1))] 34 (by kernel_rfl) ?_
                          exact hK4093 (task18, c0_e0_Next18, r4181.2.1, c1q20, c2q18, c3q18, r4181.2.2.2.2.2) _ _ _ h (leSt_m [(0, 0), (1, 1), (2, 2), (3, 3), (4, 17)] [] (by simp only [push_cast, seval]) (by simp only [push_cast, seval]) rfl rfl rfl)
                      refine chk_sx h (fun g4187 h => ?_)
                      refine seq_np ?_
                      refine reg_t ?_
                      refine rs 1 [] [] (by kernel_rfl) allP_nil ?_
                      refine run_at 103 .i64 (Int.tmod (ix moves i9) 2) 1 g4170 (by kernel_rfl) ?_
                      have k4186 : 0 ≤ (IntKind.i64.wrap ((1 : Int) - (Int.tmod (ix moves i9) 2))) ∧ (IntKind.i64.wrap ((1 : Int) - (Int.tmod (ix moves i9) 2))) < 2 := by first | simpa only [Bool.and_eq_true, decide_eq_true_eq, bne_iff_ne, ne_eq] using g4187 | (simp at g4187 ⊢; omega)
                      exfalso
                      omega
                    refine chk_sx h (fun g4191 h => ?_)
                    refine seq_np ?_
                    refine reg_t ?_
                    have k4190 : 0 ≤ (Int.tmod (ix moves i9) 2) ∧ (Int.tmod (ix moves i9) 2) < 2 := by first | simpa only [Bool.and_eq_true, decide_eq_true_eq, bne_iff_ne, ne_eq] using g4191 | (simp at g4191 ⊢; omega)
                    exfalso
                    omega
                  · exact hK4093 (task18, c0_e0_Next18, c0_e1_Next18, c1q20, c2q18, c3q18, c4q18) _ _ _ h (leSt_m [(0, 0), (1, 1), (2, 2), (3, 3), (4, 4)] [] (by simp only [push_cast, seval]) (by simp only [push_cast, seval]) rfl rfl rfl)
          · rintro ⟨task21, c0_e0_Next21, c0_e1_Next21, c1q23, c2q21, c3q21, c4q21⟩ h
            try dsimp only at h ⊢
            unfold taskmilllaw_RingKeeps_j1 at h
            refine wk_id ?_
            refine wk_id ?_
            refine reg_f ?_
            refine rs 3 [] [] (by kernel_rfl) allP_nil ?_
            refine rf [(0, .sl moves.length (fl moves)), (3, .ptr 0 0), (4, .own 1 0 c1q23.length), (5, .own 2 0 c2q21.length), (6, iS task21), (7, iS (IntKind.i64.wrap (i9 + 1)))] [(0, .row 52 [iS c0_e0_Next21, .own 3 0 c3q21.length, iS c0_e1_Next21, .own 4 0 c4q21.length]), (1, .row 3 (fl c1q23)), (2, .row 3 (fl c2q21)), (3, .row 3 (fl c3q21)), (4, .row 3 (fl c4q21))] 5 (by kernel_rfl) ?_
            exact hn3 (task21, (IntKind.i64.wrap (i9 + 1)), c0_e0_Next21, c0_e1_Next21, c1q23, c2q21, c3q21, c4q21) _ _ _ (Option.some.inj h).symm (leSt_m [(0, 0), (1, 1), (2, 2), (3, 3), (4, 4)] [] (by simp only [push_cast, seval]) (by simp only [push_cast, seval]) rfl rfl rfl)
      · refine ex_cast hx3 (id := 0) ?_
        obtain ⟨r0, h, e0⟩ := map_sx h
        have e1 := hr3 r0 e0.symm
        subst r0
        refine wk_id ?_
        refine wk_id ?_
        refine chk_sx h (fun g4207 h => ?_)
        refine chk_sx h (fun g4209 h => ?_)
        refine seq_np ?_
        refine reg_t ?_
        have k4206 : c2q18.length * 8 ≤ 140737488355328 := by first | simpa only [Bool.and_eq_true, decide_eq_true_eq, bne_iff_ne, ne_eq] using g4207 | (simp at g4207 ⊢; omega)
        have k4208 : (c2q18 ++ c1q20).length * 8 ≤ 140737488355328 := by first | simpa only [Bool.and_eq_true, decide_eq_true_eq, bne_iff_ne, ne_eq] using g4209 | (simp at g4209 ⊢; omega)
        refine rs 6 [none, some ⟨.own 6 0 c2q18.length, [(6, .row 3 (fl c2q18))], 7, [2]⟩, none, some ⟨.own 9 0 (c2q18 ++ c1q20).length, [(9, .row 3 (fl (c2q18 ++ c1q20))), (6, .dead)], 10, [6, 1]⟩] _ (by kernel_rfl) (allP_cons (ob_app (P := Try.prog) c2q18 c1q20 1 8 rfl (appCells (fl c1q20) 0 (c1q20.length * 1)) c1q20.length (app_own c1q20 1 rfl) rfl (0 + c1q20.length * 1 ≤ (fl c1q20).length) (app_own_le c1q20 1 rfl) 3 (by kernel_rfl) (by decide) k4208 6 9 [1]) (allP_cons (ob_app0 (P := Try.prog) c2q18 1 8 rfl (appCells (fl c2q18) 0 (c2q18.length * 1)) c2q18.length (app_own c2q18 1 rfl) rfl (0 + c2q18.length * 1 ≤ (fl c2q18).length) (app_own_le c2q18 1 rfl) 3 (by kernel_rfl) (by decide) k4206 6 [2]) allP_nil)) ?_
        obtain ⟨r4210, hr4210, h⟩ := bind_sx h
        refine call_x (taskmillref_Line_spec (Ring.mk c0_e0_Next18 c3q18) r4210 hr4210) (args := [.agg [iS c0_e0_Next18, .own 3 0 c3q18.length]]) (dst := (some 135)) (by kernel_rfl) [(0, .row 52 [iS c0_e0_Next18, .own 3 0 c3q18.length, iS c0_e1_Next18, .own 4 0 c4q18.length]), (1, .row 3 (fl c1q20)), (2, .row 3 (fl c2q18)), (3, .row 3 (fl c3q18)), (4, .row 3 (fl c4q18)), (6, .dead), (9, .row 3 (fl (c2q18 ++ c1q20)))] 13 (by kernel_rfl) [] [3] (.own 13 0 r4210.length) [(13, .row 3 (fl r4210))] (by simp only [push_cast, seval]) (by simp only [push_cast, seval]) (by kernel_rfl) (.inr ⟨by simp only [push_cast, seval], by simp only [push_cast, seval]⟩) (by simp only [push_cast, seval]) (by simp only [push_cast, seval]) ?_
        refine chk_sx h (fun g4212 h => ?_)
        have k4211 : ((c2q18 ++ c1q20) ++ r4210).length * 8 ≤ 140737488355328 := by first | simpa only [Bool.and_eq_true, decide_eq_true_eq, bne_iff_ne, ne_eq] using g4212 | (simp at g4212 ⊢; omega)
        refine rs 3 [some ⟨.own 15 0 ((c2q18 ++ c1q20) ++ r4210).length, [(15, .row 3 (fl ((c2q18 ++ c1q20) ++ r4210))), (9, .dead)], 16, [9, 13]⟩] _ (by kernel_rfl) (allP_cons (ob_app (P := Try.prog) (c2q18 ++ c1q20) r4210 1 8 rfl (appCells (fl r4210) 0 (r4210.length * 1)) r4210.length (app_own r4210 1 rfl) rfl (0 + r4210.length * 1 ≤ (fl r4210).length) (app_own_le r4210 1 rfl) 3 (by kernel_rfl) (by decide) k4211 9 15 [13]) allP_nil) ?_
        obtain ⟨r4213, hr4213, h⟩ := bind_sx h
        refine call_x (taskmillref_Line_spec (Ring.mk c0_e1_Next18 c4q18) r4213 hr4213) (args := [.agg [iS c0_e1_Next18, .own 4 0 c4q18.length]]) (dst := (some 139)) (by kernel_rfl) [(0, .row 52 [iS c0_e0_Next18, .own 3 0 c3q18.length, iS c0_e1_Next18, .own 4 0 c4q18.length]), (1, .row 3 (fl c1q20)), (2, .row 3 (fl c2q18)), (3, .row 3 (fl c3q18)), (4, .row 3 (fl c4q18)), (6, .dead), (9, .dead), (13, .row 3 (fl r4210)), (15, .row 3 (fl ((c2q18 ++ c1q20) ++ r4210)))] 19 (by kernel_rfl) [] [4] (.own 19 0 r4213.length) [(19, .row 3 (fl r4213))] (by simp only [push_cast, seval]) (by simp only [push_cast, seval]) (by kernel_rfl) (.inr ⟨by simp only [push_cast, seval], by simp only [push_cast, seval]⟩) (by simp only [push_cast, seval]) (by simp only [push_cast, seval]) ?_
        refine chk_sx h (fun g4215 h => ?_)
        have k4214 : (((c2q18 ++ c1q20) ++ r4210) ++ r4213).length * 8 ≤ 140737488355328 := by first | simpa only [Bool.and_eq_true, decide_eq_true_eq, bne_iff_ne, ne_eq] using g4215 | (simp at g4215 ⊢; omega)
        refine rs 2 [some ⟨.own 21 0 (((c2q18 ++ c1q20) ++ r4210) ++ r4213).length, [(21, .row 3 (fl (((c2q18 ++ c1q20) ++ r4210) ++ r4213))), (15, .dead)], 22, [15, 19]⟩] _ (by kernel_rfl) (allP_cons (ob_app (P := Try.prog) ((c2q18 ++ c1q20) ++ r4210) r4213 1 8 rfl (appCells (fl r4213) 0 (r4213.length * 1)) r4213.length (app_own r4213 1 rfl) rfl (0 + r4213.length * 1 ≤ (fl r4213).length) (app_own_le r4213 1 rfl) 3 (by kernel_rfl) (by decide) k4214 15 21 [19]) allP_nil) ?_
        refine rt [(6, iS task18), (20, .own 21 0 (((c2q18 ++ c1q20) ++ r4210) ++ r4213).length)] [(0, .row 52 [iS c0_e0_Next18, .own 3 0 c3q18.length, iS c0_e1_Next18, .own 4 0 c4q18.length]), (1, .row 3 (fl c1q20)), (2, .row 3 (fl c2q18)), (3, .row 3 (fl c3q18)), (4, .row 3 (fl c4q18)), (6, .dead), (9, .dead), (13, .row 3 (fl r4210)), (15, .dead), (19, .row 3 (fl r4213)), (21, .row 3 (fl (((c2q18 ++ c1q20) ++ r4210) ++ r4213)))] 24 follows (by kernel_rfl) ?_
        refine wk_id ?_
        refine seq_np ?_
        refine seq_np ?_
        refine reg_f ?_
        refine rs 4 [] [] (by kernel_rfl) allP_nil ?_
        refine rf [(6, iS task18), (20, .own 21 0 (((c2q18 ++ c1q20) ++ r4210) ++ r4213).length), (144, bS ((((((c2q18 ++ c1q20) ++ r4210) ++ r4213).length : Nat) : Int) != task18))] [(0, .row 52 [iS c0_e0_Next18, .own 3 0 c3q18.length, iS c0_e1_Next18, .own 4 0 c4q18.length]), (1, .row 3 (fl c1q20)), (2, .row 3 (fl c2q18)), (3, .row 3 (fl c3q18)), (4, .row 3 (fl c4q18)), (6, .dead), (9, .dead), (13, .row 3 (fl r4210)), (15, .dead), (19, .row 3 (fl r4213)), (21, .row 3 (fl (((c2q18 ++ c1q20) ++ r4210) ++ r4213)))] 24 (by kernel_rfl) ?_
        refine wk_id ?_
        refine cond_sx h (by kernel_rfl) (fun g4425 h => ?_) (fun g4425 h => ?_)
        · refine seq_np ?_
          refine reg_f ?_
          refine rs 1 [] [] (by kernel_rfl) allP_nil ?_
          refine rf [(2, bS false)] [(0, .row 52 [iS c0_e0_Next18, .own 3 0 c3q18.length, iS c0_e1_Next18, .own 4 0 c4q18.length]), (1, .row 3 (fl c1q20)), (2, .row 3 (fl c2q18)), (3, .row 3 (fl c3q18)), (4, .row 3 (fl c4q18)), (6, .dead), (9, .dead), (13, .row 3 (fl r4210)), (15, .dead), (19, .row 3 (fl r4213)), (21, .row 3 (fl (((c2q18 ++ c1q20) ++ r4210) ++ r4213)))] 24 (by kernel_rfl) ?_
          refine wk_id ?_
          obtain rfl := Option.some.inj h
          refine ret_at (bS false) (by kernel_rfl) ?_
          exact ret_e [] [] (by simp only [push_cast, seval]) (by simp only [push_cast, seval]) rfl rfl rfl
        · refine wk_id ?_
          refine chk_sx h (fun g4220 h => ?_)
          refine seq_np ?_
          refine reg_f ?_
          have k4219 : 0 ≤ (IntKind.i64.wrap (task18 + 1)) ∧ (IntKind.i64.wrap (task18 + 1)) ≤ 4611686018427387904 ∧ (1 : Int) * (IntKind.i64.wrap (task18 + 1)) ≤ 140737488355328 := by first | simpa only [Bool.and_eq_true, decide_eq_true_eq, bne_iff_ne, ne_eq] using g4220 | (simp at g4220 ⊢; omega)
          refine rs 4 [none, none, some ⟨.own 24 0 (List.replicate ((IntKind.i64.wrap (task18 + 1))).toNat (default : Bool)).length, [(24, .row 4 (fl (List.replicate ((IntKind.i64.wrap (task18 + 1))).toNat (default : Bool))))], 25, []⟩] _ (by kernel_rfl) (allP_cons (ob_mk (P := Try.prog) (α := Bool) (IntKind.i64.wrap (task18 + 1)) 4 1 (by kernel_rfl) [bS false] rfl 1 rfl (by decide) k4219 24) allP_nil) ?_
          refine rf [(6, iS task18), (20, .own 21 0 (((c2q18 ++ c1q20) ++ r4210) ++ r4213).length), (21, .own 24 0 (List.replicate ((IntKind.i64.wrap (task18 + 1))).toNat (default : Bool)).length)] [(0, .row 52 [iS c0_e0_Next18, .own 3 0 c3q18.length, iS c0_e1_Next18, .own 4 0 c4q18.length]), (1, .row 3 (fl c1q20)), (2, .row 3 (fl c2q18)), (3, .row 3 (fl c3q18)), (4, .row 3 (fl c4q18)), (6, .dead), (9, .dead), (13, .row 3 (fl r4210)), (15, .dead), (19, .row 3 (fl r4213)), (21, .row 3 (fl (((c2q18 ++ c1q20) ++ r4210) ++ r4213))), (24, .row 4 (fl (List.replicate ((IntKind.i64.wrap (task18 + 1))).toNat (default : Bool))))] 25 (by kernel_rfl) ?_
          refine wk_id ?_
          refine seq_np ?_
          refine seq_np ?_
          refine reg_f ?_
          refine rs 1 [] [] (by kernel_rfl) allP_nil ?_
          refine rf [(6, iS task18), (20, .own 21 0 (((c2q18 ++ c1q20) ++ r4210) ++ r4213).length), (21, .own 24 0 (List.replicate ((IntKind.i64.wrap (task18 + 1))).toNat (default : Bool)).length), (22, iS 0)] [(0, .row 52 [iS c0_e0_Next18, .own 3 0 c3q18.length, iS c0_e1_Next18, .own 4 0 c4q18.length]), (1, .row 3 (fl c1q20)), (2, .row 3 (fl c2q18)), (3, .row 3 (fl c3q18)), (4, .row 3 (fl c4q18)), (6, .dead), (9, .dead), (13, .row 3 (fl r4210)), (15, .dead), (19, .row 3 (fl r4213)), (21, .row 3 (fl (((c2q18 ++ c1q20) ++ r4210) ++ r4213))), (24, .row 4 (fl (List.replicate ((IntKind.i64.wrap (task18 + 1))).toNat (default : Bool))))] 25 (by kernel_rfl) ?_
          refine wk_id ?_
          refine block_np ?_
          refine loop_sx (S := Int × (List Int) × (List Bool)) (fun a => ([(6, iS task18), (20, .own 0 0 a.2.1.length), (21, .own 1 0 a.2.2.length), (22, iS a.1)], [(0, .row 3 (fl a.2.1)), (1, .row 4 (fl a.2.2))], 2)) h (leSt_m [(0, 21), (1, 24)] [] (by simp only [push_cast, seval]) (by simp only [push_cast, seval]) rfl rfl rfl) ?_
          rintro ⟨i15, c0q11, c1q29⟩ o4 R4 h hr4 hn4 hx4 ht4
          try dsimp only at h hn4 ⊢
          unfold taskmilllaw_RingKeeps_l1 at h
          try dsimp only at h
          refine seq_np ?_
          refine seq_np ?_
          refine reg_f ?_
          refine rs 4 [] [] (by kernel_rfl) allP_nil ?_
          refine rf [(6, iS task18), (20, .own 0 0 c0q11.length), (21, .own 1 0 c1q29.length), (22, iS i15), (151, bS (decide (i15 < ((c0q11.length : Nat) : Int))))] [(0, .row 3 (fl c0q11)), (1, .row 4 (fl c1q29))] 2 (by kernel_rfl) ?_
          refine wk_id ?_
          refine cond_sx h (by kernel_rfl) (fun g4424 h => ?_) (fun g4424 h => ?_)
          · refine wk_id ?_
            refine seq_np ?_
            refine block_np ?_
            refine seq_np ?_
            refine chk_sx h (fun g4406 h => ?_)
            refine chk_sx h (fun g4409 h => ?_)
            refine chk_sx h (fun g4412 h => ?_)
            refine chk_sx h (fun g4414 h => ?_)
            refine seq_cut (A := Unit) (fun _ => ([(6, iS task18), (20, .own 0 0 c0q11.length), (21, .own 1 0 c1q29.length), (22, iS i15), (175, bS ((decide ((ix c0q11 i15) < 1)) || ((decide (task18 < (ix c0q11 i15))) || (ix c1q29 (ix c0q11 i15)))))], [(0, .row 3 (fl c0q11)), (1, .row 4 (fl c1q29))], 2)) (fun _ => True) (fun K4404 hK4404 => ?_) (fun _ _ => ?_)
            · refine reg_f ?_
              have k4405 : 0 ≤ i15 ∧ i15 < ((c0q11.length : Nat) : Int) := by first | simpa only [Bool.and_eq_true, decide_eq_true_eq, bne_iff_ne, ne_eq] using g4406 | (simp at g4406 ⊢; omega)
              refine rs 6 [none, none, some ⟨.ptr 0 (0 + (i15).toNat * 1), [], 2, [0]⟩, some ⟨iS (ix c0q11 i15), [], 2, [0]⟩] _ (by kernel_rfl) (allP_cons (ob_ld c0q11 i15 1 0 (0 + (i15).toNat * 1) k4405 rfl (by decide) (by first | rfl | omega) (dflS Try.prog 3) (iS (ix c0q11 i15)) rfl 2 [0]) (allP_cons (ob_ix_o 0 c0q11.length 0 1 2 i15 k4405) allP_nil)) ?_
              refine run_split 159 (decide ((ix c0q11 i15) < 1)) (.inl (by kernel_rfl)) (fun g4407 => ?_) (fun g4407 => ?_)
              · refine rs 16 [] [] (by kernel_rfl) allP_nil ?_
                refine rf [(6, iS task18), (20, .own 0 0 c0q11.length), (21, .own 1 0 c1q29.length), (22, iS i15), (175, bS true)] [(0, .row 3 (fl c0q11)), (1, .row 4 (fl c1q29))] 2 (by kernel_rfl) ?_
                exact hK4404 () _ _ _ trivial (leSt_m [(0, 0), (1, 1)] [] (by (try simp only [g4407]) <;> simp only [push_cast, seval]) (by (try simp only [g4407]) <;> simp only [push_cast, seval]) rfl rfl rfl)
              · have k4408 : 0 ≤ i15 ∧ i15 < ((c0q11.length : Nat) : Int) := by have e := or_use g4409 (by (try simp only [g4407]) <;> rfl); first | simpa only [Bool.and_eq_true, decide_eq_true_eq, bne_iff_ne, ne_eq] using e | (simp at e ⊢; omega)
                refine rs 8 [none, none, some ⟨.ptr 0 (0 + (i15).toNat * 1), [], 2, [0]⟩, some ⟨iS (ix c0q11 i15), [], 2, [0]⟩] _ (by kernel_rfl) (allP_cons (ob_ld c0q11 i15 1 0 (0 + (i15).toNat * 1) k4408 rfl (by decide) (by first | rfl | omega) (dflS Try.prog 3) (iS (ix c0q11 i15)) rfl 2 [0]) (allP_cons (ob_ix_o 0 c0q11.length 0 1 2 i15 k4408) allP_nil)) ?_
                refine run_split 167 (decide (task18 < (ix c0q11 i15))) (.inl (by kernel_rfl)) (fun g4410 => ?_) (fun g4410 => ?_)
                · refine rs 8 [] [] (by kernel_rfl) allP_nil ?_
                  refine rf [(6, iS task18), (20, .own 0 0 c0q11.length), (21, .own 1 0 c1q29.length), (22, iS i15), (175, bS true)] [(0, .row 3 (fl c0q11)), (1, .row 4 (fl c1q29))] 2 (by kernel_rfl) ?_
                  exact hK4404 () _ _ _ trivial (leSt_m [(0, 0), (1, 1)] [] (by (try simp only [g4407, g4410]) <;> simp only [push_cast, seval]) (by (try simp only [g4407, g4410]) <;> simp only [push_cast, seval]) rfl rfl rfl)
                · have k4411 : 0 ≤ i15 ∧ i15 < ((c0q11.length : Nat) : Int) := by have e := or_use g4412 (by (try simp only [g4407, g4410]) <;> rfl); first | simpa only [Bool.and_eq_true, decide_eq_true_eq, bne_iff_ne, ne_eq] using e | (simp at e ⊢; omega)
                  have k4413 : 0 ≤ (ix c0q11 i15) ∧ (ix c0q11 i15) < ((c1q29.length : Nat) : Int) := by have e := or_use g4414 (by (try simp only [g4407, g4410]) <;> rfl); first | simpa only [Bool.and_eq_true, decide_eq_true_eq, bne_iff_ne, ne_eq] using e | (simp at e ⊢; omega)
                  refine rs 8 [none, none, none, some ⟨.ptr 0 (0 + (i15).toNat * 1), [], 2, [0]⟩, some ⟨iS (ix c0q11 i15), [], 2, [0]⟩, some ⟨.ptr 1 (0 + ((ix c0q11 i15)).toNat * 1), [], 2, [1]⟩, some ⟨bS (ix c1q29 (ix c0q11 i15)), [], 2, [1]⟩] _ (by kernel_rfl) (allP_cons (ob_ld c1q29 (ix c0q11 i15) 1 0 (0 + ((ix c0q11 i15)).toNat * 1) k4413 rfl (by decide) (by first | rfl | omega) (dflS Try.prog 4) (bS (ix c1q29 (ix c0q11 i15))) rfl 2 [1]) (allP_cons (ob_ix_o 1 c1q29.length 0 1 2 (ix c0q11 i15) k4413) (allP_cons (ob_ld c0q11 i15 1 0 (0 + (i15).toNat * 1) k4411 rfl (by decide) (by first | rfl | omega) (dflS Try.prog 3) (iS (ix c0q11 i15)) rfl 2 [0]) (allP_cons (ob_ix_o 0 c0q11.length 0 1 2 i15 k4411) allP_nil)))) ?_
                  refine rf [(6, iS task18), (20, .own 0 0 c0q11.length), (21, .own 1 0 c1q29.length), (22, iS i15), (175, bS (ix c1q29 (ix c0q11 i15)))] [(0, .row 3 (fl c0q11)), (1, .row 4 (fl c1q29))] 2 (by kernel_rfl) ?_
                  exact hK4404 () _ _ _ trivial (leSt_m [(0, 0), (1, 1)] [] (by (try simp only [g4407, g4410]) <;> simp only [push_cast, seval]) (by (try simp only [g4407, g4410]) <;> simp only [push_cast, seval]) rfl rfl rfl)
            · dsimp only
              refine cond_sx h (by kernel_rfl) (fun g4423 h => ?_) (fun g4423 h => ?_)
              · refine seq_np ?_
                refine reg_f ?_
                refine rs 1 [] [] (by kernel_rfl) allP_nil ?_
                refine rf [(2, bS false)] [(0, .row 3 (fl c0q11)), (1, .row 4 (fl c1q29))] 2 (by kernel_rfl) ?_
                refine wk_id ?_
                refine rt_cast ht4 ?_
                obtain ⟨r0, h, e0⟩ := map_sx h
                have e1 := hr4 r0 e0.symm
                subst r0
                obtain rfl := Option.some.inj h
                refine ret_at (bS false) (by kernel_rfl) ?_
                exact ret_e [] [] (by simp only [push_cast, seval]) (by simp only [push_cast, seval]) rfl rfl rfl
              · refine wk_id ?_
                refine chk_sx h (fun g4420 h => ?_)
                refine chk_sx h (fun g4422 h => ?_)
                refine reg_f ?_
                have k4419 : 0 ≤ i15 ∧ i15 < ((c0q11.length : Nat) : Int) := by first | simpa only [Bool.and_eq_true, decide_eq_true_eq, bne_iff_ne, ne_eq] using g4420 | (simp at g4420 ⊢; omega)
                have k4421 : 0 ≤ (ix c0q11 i15) ∧ (ix c0q11 i15) < ((c1q29.length : Nat) : Int) := by first | simpa only [Bool.and_eq_true, decide_eq_true_eq, bne_iff_ne, ne_eq] using g4422 | (simp at g4422 ⊢; omega)
                refine rs 7 [none, none, none, some ⟨.ptr 0 (0 + (i15).toNat * 1), [], 2, [0]⟩, some ⟨iS (ix c0q11 i15), [], 2, [0]⟩, some ⟨.ptr 1 (0 + ((ix c0q11 i15)).toNat * 1), [], 2, [1]⟩, some ⟨.any, [(1, .row 4 (fl (c1q29.set (ix c0q11 i15).toNat true)))], 2, [1]⟩] _ (by kernel_rfl) (allP_cons (ob_st (P := Try.prog) c1q29 (ix c0q11 i15) 1 0 (0 + ((ix c0q11 i15)).toNat * 1) k4421 rfl [bS true] true (by decide) (by first | rfl | omega) rfl 1 2 4 4 (by kernel_rfl) rfl) (allP_cons (ob_ix_o 1 c1q29.length 0 1 2 (ix c0q11 i15) k4421) (allP_cons (ob_ld c0q11 i15 1 0 (0 + (i15).toNat * 1) k4419 rfl (by decide) (by first | rfl | omega) (dflS Try.prog 3) (iS (ix c0q11 i15)) rfl 2 [0]) (allP_cons (ob_ix_o 0 c0q11.length 0 1 2 i15 k4419) allP_nil)))) ?_
                refine rf [(6, iS task18), (20, .own 0 0 c0q11.length), (21, .own 1 0 c1q29.length), (22, iS i15)] [(0, .row 3 (fl c0q11)), (1, .row 4 (fl (c1q29.set (ix c0q11 i15).toNat true)))] 2 (by kernel_rfl) ?_
                refine wk_id ?_
                refine wk_id ?_
                refine reg_f ?_
                refine rs 3 [] [] (by kernel_rfl) allP_nil ?_
                refine rf [(6, iS task18), (20, .own 0 0 c0q11.length), (21, .own 1 0 c1q29.length), (22, iS (IntKind.i64.wrap (i15 + 1)))] [(0, .row 3 (fl c0q11)), (1, .row 4 (fl (c1q29.set (ix c0q11 i15).toNat true)))] 2 (by kernel_rfl) ?_
                exact hn4 ((IntKind.i64.wrap (i15 + 1)), c0q11, (c1q29.set (ix c0q11 i15).toNat true)) _ _ _ (Option.some.inj h).symm (leSt_m [(0, 0), (1, 1)] [] (by simp only [push_cast, seval]) (by simp only [push_cast, seval]) rfl rfl rfl)
          · refine ex_cast hx4 (id := 3) ?_
            obtain ⟨r0, h, e0⟩ := map_sx h
            have e1 := hr4 r0 e0.symm
            subst r0
            refine wk_id ?_
            refine wk_id ?_
            refine seq_np ?_
            refine reg_f ?_
            refine rs 1 [] [] (by kernel_rfl) allP_nil ?_
            refine rf [(2, bS true)] [(0, .row 3 (fl c0q11)), (1, .row 4 (fl c1q29))] 2 (by kernel_rfl) ?_
            refine wk_id ?_
            obtain rfl := Option.some.inj h
            refine ret_at (bS true) (by kernel_rfl) ?_
            exact ret_e [] [] (by simp only [push_cast, seval]) (by simp only [push_cast, seval]) rfl rfl rfl

end Go.Proofs.Ytgmklpakhdladaa
