/-
  What laws of the chapter wait compute, and lemmas on it.
  No conditions.
-/
import Derived.Test.YtnnpjaoddniifaawaitWWaitDropsUpto1
set_option linter.unusedSimpArgs false
set_option linter.unusedVariables false
namespace Go.Proofs.Ytnnpjaoddniifaa
open Go Go.Sx
attribute [local irreducible] Wk RunAt
set_option maxRecDepth 100000 in
set_option maxHeartbeats 200000000 in
theorem taskmilllaw_WaitDrops_spec (l : (List Line)) (task : Int) (r : Bool) (h : taskmilllaw_WaitDrops l task = some r) : SpecW Try.prog 6 [.sl l.length (fl l), iS task] [] 0 (fun x h n => x = bS r ∧ h = [] ∧ n = 0) := by
  unfold taskmilllaw_WaitDrops at h
  refine spec_of (draw_ok _) Try.func6 rfl (by decide) rfl (by kernel_rfl) ?_
  refine seq_np ?_
  refine reg_f ?_
  refine rs 1 [] [] (by kernel_rfl) allP_nil ?_
  refine rf [(0, .sl l.length (fl l)), (1, iS task)] [] 0 (by kernel_rfl) ?_
  refine wk_id ?_
  refine seq_np ?_
  refine seq_np ?_
  refine reg_f ?_
  obtain ⟨r4676, hr4676, h⟩ := bind_sx h
  refine run_call 8 [] (some 12) (by kernel_rfl) ?_
  refine call_0 (taskmilllaw_waitBegun_spec r4676 hr4676) (by simp only [push_cast, seval]) (by simp only [push_cast, seval]) ?_
  refine back_f ?_
  refine rs 1 [] [] (by kernel_rfl) allP_nil ?_
  refine rf [(0, .sl l.length (fl l)), (1, iS task), (13, bS (!r4676))] [] 0 (by kernel_rfl) ?_
  refine wk_id ?_
  refine cond_sx h (by kernel_rfl) (fun g4844 h => ?_) (fun g4844 h => ?_)
  · refine seq_np ?_
    refine reg_f ?_
    refine rs 1 [] [] (by kernel_rfl) allP_nil ?_
    refine rf [(4, bS false)] [] 0 (by kernel_rfl) ?_
    refine wk_id ?_
    obtain rfl := Option.some.inj h
    refine ret_at (bS false) (by kernel_rfl) ?_
    exact ret_e [] [] (by simp only [push_cast, seval]) (by simp only [push_cast, seval]) rfl rfl rfl
  · refine wk_id ?_
    refine seq_np ?_
    refine seq_np ?_
    refine reg_f ?_
    refine rs 1 [] [] (by kernel_rfl) allP_nil ?_
    obtain ⟨r4680, hr4680, h⟩ := bind_sx h
    refine run_call 9 [.sl l.length (fl l)] (some 15) (by kernel_rfl) ?_
    refine call_0 (taskmilllaw_vastLines_spec l r4680 hr4680) (by simp only [push_cast, seval]) (by simp only [push_cast, seval]) ?_
    refine back_f ?_
    refine rf [(0, .sl l.length (fl l)), (1, iS task), (15, bS r4680)] [] 0 (by kernel_rfl) ?_
    refine wk_id ?_
    refine cond_sx h (by kernel_rfl) (fun g4843 h => ?_) (fun g4843 h => ?_)
    · refine seq_np ?_
      refine reg_f ?_
      refine rs 1 [] [] (by kernel_rfl) allP_nil ?_
      refine rf [(4, bS true)] [] 0 (by kernel_rfl) ?_
      refine wk_id ?_
      obtain rfl := Option.some.inj h
      refine ret_at (bS true) (by kernel_rfl) ?_
      exact ret_e [] [] (by simp only [push_cast, seval]) (by simp only [push_cast, seval]) rfl rfl rfl
    · refine wk_id ?_
      refine seq_np ?_
      refine reg_f ?_
      refine rs 1 [] [] (by kernel_rfl) allP_nil ?_
      obtain ⟨r4683, hr4683, h⟩ := bind_sx h
      refine call_x (taskmilllaw_ownLines_spec l r4683 hr4683) (args := [.sl l.length (fl l)]) (dst := (some 18)) (by kernel_rfl) [] 0 (by kernel_rfl) [] [] (.own 0 0 r4683.length) [(0, .row 55 (fl r4683))] (by simp only [push_cast, seval]) (by simp only [push_cast, seval]) (by kernel_rfl) (.inl rfl) (by simp only [push_cast, seval]) (by simp only [push_cast, seval]) ?_
      refine rs 1 [] [] (by kernel_rfl) allP_nil ?_
      obtain ⟨r4684, hr4684, h⟩ := bind_sx h
      refine call_x (SpecW.give (wait_Drop_spec r4683 task r4684 hr4684) [(0, .row 55 (fl r4683))] [.own 0 0 r4683.length, iS task] [] (.tup [.own 1 0 r4684.2.2.length, iS r4684.1, .agg (Enc.cells r4684.2.1)]) [(1, .row 55 (fl r4684.2.2))] (by first | simp only [push_cast, seval] | simp only [push_cast, List.mem_singleton, true_and, and_true, seval]) (by simp only [push_cast, seval]) (by simp only [push_cast, seval]) (by simp only [push_cast, seval]) rfl (by simp only [push_cast, seval]) (by simp only [push_cast, seval]) rfl) (args := [.own 0 0 r4683.length, iS task]) (dst := (some 20)) (by kernel_rfl) [(0, .row 55 (fl r4683))] 1 (by kernel_rfl) [(0, 0)] [] (.tup [.own 2 0 r4684.2.2.length, iS r4684.1, .agg (Enc.cells r4684.2.1)]) [(2, .row 55 (fl r4684.2.2)), (0, .dead)] (by simp only [push_cast, seval]) (by simp only [push_cast, seval]) (by kernel_rfl) (.inl rfl) (by simp only [push_cast, seval]) (by simp only [push_cast, seval]) ?_
      refine rs 8 [] [] (by kernel_rfl) allP_nil ?_
      refine rf [(0, .sl l.length (fl l)), (1, iS task), (5, .own 2 0 r4684.2.2.length), (6, iS r4684.1), (7, .ptr 3 0)] [(0, .dead), (2, .row 55 (fl r4684.2.2)), (3, .row 27 (Enc.cells r4684.2.1))] 4 (by kernel_rfl) ?_
      refine wk_id ?_
      refine seq_np ?_
      refine reg_f ?_
      refine rs 1 [] [] (by kernel_rfl) allP_nil ?_
      obtain ⟨r4686, hr4686, h⟩ := bind_sx h
      refine run_call 13 [.sl l.length (fl l)] (some 25) (by kernel_rfl) ?_
      refine call_0 (taskmillref_LinesFault_spec l r4686 hr4686) (by simp only [push_cast, seval]) (by simp only [push_cast, seval]) ?_
      refine back_f ?_
      refine rs 2 [] [] (by kernel_rfl) allP_nil ?_
      refine rf [(0, .sl l.length (fl l)), (1, iS task), (5, .own 2 0 r4684.2.2.length), (6, iS r4684.1), (7, .ptr 3 0), (8, .ptr 4 0)] [(0, .dead), (2, .row 55 (fl r4684.2.2)), (3, .row 27 (Enc.cells r4684.2.1)), (4, .row 27 (Enc.cells r4686))] 5 (by kernel_rfl) ?_
      refine wk_id ?_
      refine seq_cut (A := Int × (List Line) × Fault × Fault) (fun a => ([(0, .sl l.length (fl l)), (1, iS task), (5, .own 0 0 a.2.1.length), (6, iS a.1), (7, .ptr 1 0), (8, .ptr 2 0)], [(0, .row 55 (fl a.2.1)), (1, .row 27 (Enc.cells a.2.2.1)), (2, .row 27 (Enc.cells a.2.2.2))], 3)) (fun a => (taskmilllaw_WaitDrops_j3 l task a.1 a.2.1 a.2.2.1 a.2.2.2) = some r) (fun K4695 hK4695 => ?_) ?_
      · refine seq_cut (A := Int × Bool × (List Line) × Fault × Fault) (fun a => ([(0, .sl l.length (fl l)), (1, iS task), (5, .own 0 0 a.2.2.1.length), (6, iS a.1), (7, .ptr 1 0), (8, .ptr 2 0), (35, bS a.2.1)], [(0, .row 55 (fl a.2.2.1)), (1, .row 27 (Enc.cells a.2.2.2.1)), (2, .row 27 (Enc.cells a.2.2.2.2))], 3)) (fun a => (taskmilllaw_WaitDrops_j4 l task a.1 a.2.1 a.2.2.1 a.2.2.2.1 a.2.2.2.2) = some r) (fun K4700 hK4700 => ?_) ?_
        · refine reg_f ?_
          refine rs 4 [] [] (by kernel_rfl) allP_nil ?_
          refine run_br h 29 (.inl (by kernel_rfl)) (fun g4701 h => ?_) (fun g4701 h => ?_)
          · refine rs 1 [] [] (by kernel_rfl) allP_nil ?_
            obtain ⟨r4702, hr4702, h⟩ := bind_sx h
            refine call_x (taskmillref_Waiting_spec l r4702 hr4702) (args := [.sl l.length (fl l)]) (dst := (some 31)) (by kernel_rfl) [(0, .dead), (2, .row 55 (fl r4684.2.2)), (3, .row 27 (Enc.cells r4684.2.1)), (4, .row 27 (Enc.cells r4686))] 5 (by kernel_rfl) [] [] (.own 5 0 r4702.length) [(5, .row 3 (fl r4702))] (by simp only [push_cast, seval]) (by simp only [push_cast, seval]) (by kernel_rfl) (.inl rfl) (by simp only [push_cast, seval]) (by simp only [push_cast, seval]) ?_
            refine rs 1 [] [] (by kernel_rfl) allP_nil ?_
            obtain ⟨r4703, hr4703, h⟩ := bind_sx h
            refine call_x (taskmillref_Has_spec r4702 task r4703 hr4703) (args := [.own 5 0 r4702.length, iS task]) (dst := (some 33)) (by kernel_rfl) [(0, .dead), (2, .row 55 (fl r4684.2.2)), (3, .row 27 (Enc.cells r4684.2.1)), (4, .row 27 (Enc.cells r4686)), (5, .row 3 (fl r4702))] 6 (by kernel_rfl) [] [5] (bS r4703) [] (by simp only [push_cast, seval]) (by simp only [push_cast, seval]) (by kernel_rfl) (.inr ⟨by simp only [push_cast, seval], by simp only [push_cast, seval]⟩) (by simp only [push_cast, seval]) (by simp only [push_cast, seval]) ?_
            refine rs 2 [] [] (by kernel_rfl) allP_nil ?_
            refine rf [(0, .sl l.length (fl l)), (1, iS task), (5, .own 2 0 r4684.2.2.length), (6, iS r4684.1), (7, .ptr 3 0), (8, .ptr 4 0), (35, bS (!r4703))] [(0, .dead), (2, .row 55 (fl r4684.2.2)), (3, .row 27 (Enc.cells r4684.2.1)), (4, .row 27 (Enc.cells r4686)), (5, .row 3 (fl r4702))] 6 (by kernel_rfl) ?_
            exact hK4700 (r4684.1, (!r4703), r4684.2.2, r4684.2.1, r4686) _ _ _ h (leSt_m [(0, 2), (1, 3), (2, 4)] [] (by (try simp only [g4701]) <;> simp only [push_cast, seval]) (by (try simp only [g4701]) <;> simp only [push_cast, seval]) rfl rfl rfl)
          · refine rs 6 [] [] (by kernel_rfl) allP_nil ?_
            refine rf [(0, .sl l.length (fl l)), (1, iS task), (5, .own 2 0 r4684.2.2.length), (6, iS r4684.1), (7, .ptr 3 0), (8, .ptr 4 0), (35, bS false)] [(0, .dead), (2, .row 55 (fl r4684.2.2)), (3, .row 27 (Enc.cells r4684.2.1)), (4, .row 27 (Enc.cells r4686))] 5 (by kernel_rfl) ?_
            exact hK4700 (r4684.1, false, r4684.2.2, r4684.2.1, r4686) _ _ _ h (leSt_m [(0, 2), (1, 3), (2, 4)] [] (by (try simp only [g4701]) <;> simp only [push_cast, seval]) (by (try simp only [g4701]) <;> simp only [push_cast, seval]) rfl rfl rfl)
        · rintro ⟨xat4, t35q2, c0q4, c1q9, c2q4⟩ h
          try dsimp only at h ⊢
          unfold taskmilllaw_WaitDrops_j4 at h
          refine cond_sx h (by kernel_rfl) (fun g4706 h => ?_) (fun g4706 h => ?_)
          · refine reg_f ?_
            obtain ⟨r4705, hr4705, h⟩ := bind_sx h
            refine run_call 15 [iS 6, iS 0] (some 36) (by kernel_rfl) ?_
            refine call_0 (taskmillref_F_spec 6 0 r4705 hr4705) (by simp only [push_cast, seval]) (by simp only [push_cast, seval]) ?_
            refine back_f ?_
            refine rs 1 [] [] (by kernel_rfl) allP_nil ?_
            refine rf [(0, .sl l.length (fl l)), (1, iS task), (5, .own 0 0 c0q4.length), (6, iS xat4), (7, .ptr 1 0), (8, .ptr 2 0)] [(0, .row 55 (fl c0q4)), (1, .row 27 (Enc.cells c1q9)), (2, .row 27 (Enc.cells r4705))] 3 (by kernel_rfl) ?_
            exact hK4695 (xat4, c0q4, c1q9, r4705) _ _ _ h (leSt_m [(0, 0), (1, 1), (2, 2)] [] (by simp only [push_cast, seval]) (by simp only [push_cast, seval]) rfl rfl rfl)
          · exact hK4695 (xat4, c0q4, c1q9, c2q4) _ _ _ h (leSt_m [(0, 0), (1, 1), (2, 2)] [] (by simp only [push_cast, seval]) (by simp only [push_cast, seval]) rfl rfl rfl)
      · rintro ⟨xat3, c0q3, c1q8, c2q3⟩ h
        try dsimp only at h ⊢
        unfold taskmilllaw_WaitDrops_j3 at h
        refine seq_np ?_
        refine seq_np ?_
        refine reg_f ?_
        refine rs 3 [] [] (by kernel_rfl) allP_nil ?_
        refine rf [(0, .sl l.length (fl l)), (1, iS task), (5, .own 0 0 c0q3.length), (6, iS xat3), (8, .ptr 2 0), (39, bS (!((c1q8.Code == c2q3.Code) && ((c1q8.At == c2q3.At) && true))))] [(0, .row 55 (fl c0q3)), (1, .row 27 (Enc.cells c1q8)), (2, .row 27 (Enc.cells c2q3))] 3 (by kernel_rfl) ?_
        refine wk_id ?_
        refine cond_sx h (by kernel_rfl) (fun g4842 h => ?_) (fun g4842 h => ?_)
        · refine seq_np ?_
          refine reg_f ?_
          refine rs 1 [] [] (by kernel_rfl) allP_nil ?_
          refine rf [(4, bS false)] [(0, .row 55 (fl c0q3)), (1, .row 27 (Enc.cells c1q8)), (2, .row 27 (Enc.cells c2q3))] 3 (by kernel_rfl) ?_
          refine wk_id ?_
          obtain rfl := Option.some.inj h
          refine ret_at (bS false) (by kernel_rfl) ?_
          exact ret_e [] [] (by simp only [push_cast, seval]) (by simp only [push_cast, seval]) rfl rfl rfl
        · refine wk_id ?_
          refine seq_np ?_
          refine seq_np ?_
          refine reg_f ?_
          refine rs 3 [] [] (by kernel_rfl) allP_nil ?_
          refine rf [(0, .sl l.length (fl l)), (1, iS task), (5, .own 0 0 c0q3.length), (6, iS xat3), (42, bS (c2q3.Code != 0))] [(0, .row 55 (fl c0q3)), (1, .row 27 (Enc.cells c1q8)), (2, .row 27 (Enc.cells c2q3))] 3 (by kernel_rfl) ?_
          refine wk_id ?_
          refine cond_sx h (by kernel_rfl) (fun g4841 h => ?_) (fun g4841 h => ?_)
          · refine seq_cut (A := Unit) (fun _ => ([(4, bS ((((c0q3.length : Nat) : Int) == 0) && (xat3 == 0)))], [(0, .row 55 (fl c0q3)), (1, .row 27 (Enc.cells c1q8)), (2, .row 27 (Enc.cells c2q3))], 3)) (fun _ => True) (fun K4711 hK4711 => ?_) (fun _ _ => ?_)
            · refine reg_f ?_
              refine rs 4 [] [] (by kernel_rfl) allP_nil ?_
              refine run_split 46 (((c0q3.length : Nat) : Int) == 0) (.inl (by kernel_rfl)) (fun g4712 => ?_) (fun g4712 => ?_)
              · refine rs 4 [] [] (by kernel_rfl) allP_nil ?_
                refine rf [(4, bS (xat3 == 0))] [(0, .row 55 (fl c0q3)), (1, .row 27 (Enc.cells c1q8)), (2, .row 27 (Enc.cells c2q3))] 3 (by kernel_rfl) ?_
                exact hK4711 () _ _ _ trivial (leSt_m [(0, 0), (1, 1), (2, 2)] [] (by (try simp only [g4712]) <;> simp only [push_cast, seval]) (by (try simp only [g4712]) <;> simp only [push_cast, seval]) rfl rfl rfl)
              · refine rs 4 [] [] (by kernel_rfl) allP_nil ?_
                refine rf [(4, bS false)] [(0, .row 55 (fl c0q3)), (1, .row 27 (Enc.cells c1q8)), (2, .row 27 (Enc.cells c2q3))] 3 (by kernel_rfl) ?_
                exact hK4711 () _ _ _ trivial (leSt_m [(0, 0), (1, 1), (2, 2)] [] (by (try simp only [g4712]) <;> simp only [push_cast, seval]) (by (try simp only [g4712]) <;> simp only [push_cast, seval]) rfl rfl rfl)
            · dsimp only
              obtain rfl := Option.some.inj h
              refine ret_at (bS ((((c0q3.length : Nat) : Int) == 0) && (xat3 == 0))) (by kernel_rfl) ?_
              exact ret_e [] [] (by simp only [push_cast, seval]) (by simp only [push_cast, seval]) rfl rfl rfl
          · refine wk_id ?_
            refine seq_np ?_
            refine reg_f ?_
            refine rs 1 [] [] (by kernel_rfl) allP_nil ?_
            refine rf [(0, .sl l.length (fl l)), (1, iS task), (5, .own 0 0 c0q3.length), (6, iS xat3), (9, .v (.slice none 0 0))] [(0, .row 55 (fl c0q3)), (1, .row 27 (Enc.cells c1q8)), (2, .row 27 (Enc.cells c2q3))] 3 (by kernel_rfl) ?_
            refine wk_id ?_
            refine seq_np ?_
            refine reg_f ?_
            refine rs 2 [] [] (by kernel_rfl) allP_nil ?_
            obtain ⟨r4714, hr4714, h⟩ := bind_sx h
            refine run_call 21 [.sl l.length (fl l), iS xat3] (some 52) (by kernel_rfl) ?_
            refine call_0 (taskmillref_AtLine_spec l xat3 r4714 hr4714) (by simp only [push_cast, seval]) (by simp only [push_cast, seval]) ?_
            refine back_f ?_
            refine rs 1 [] [] (by kernel_rfl) allP_nil ?_
            refine rf [(0, .sl l.length (fl l)), (1, iS task), (5, .own 0 0 c0q3.length), (6, iS xat3), (9, .v (.slice none 0 0)), (10, .sl r4714.length (fl r4714))] [(0, .row 55 (fl c0q3)), (1, .row 27 (Enc.cells c1q8)), (2, .row 27 (Enc.cells c2q3))] 3 (by kernel_rfl) ?_
            refine wk_id ?_
            refine seq_np ?_
            refine seq_np ?_
            refine reg_f ?_
            refine rs 1 [] [] (by kernel_rfl) allP_nil ?_
            refine rf [(0, .sl l.length (fl l)), (1, iS task), (5, .own 0 0 c0q3.length), (6, iS xat3), (9, .v (.slice none 0 0)), (10, .sl r4714.length (fl r4714)), (11, iS 0)] [(0, .row 55 (fl c0q3)), (1, .row 27 (Enc.cells c1q8)), (2, .row 27 (Enc.cells c2q3))] 3 (by kernel_rfl) ?_
            refine wk_id ?_
            refine block_np ?_
            refine loop_sx (S := (List Int) × Int × (List Int)) (fun a => ([(0, .sl l.length (fl l)), (1, iS task), (5, .own 0 0 c0q3.length), (6, iS xat3), (9, .own 1 0 a.2.2.length), (10, .sl a.1.length (fl a.1)), (11, iS a.2.1)], [(0, .row 55 (fl c0q3)), (1, .row 3 (fl a.2.2))], 2)) h (leSt_m [(0, 0)] [] (by simp only [push_cast, seval]) (by simp only [push_cast, seval]) rfl rfl rfl) ?_
            rintro ⟨old11, i7, c1q23⟩ o2 R2 h hr2 hn2 hx2 ht2
            try dsimp only at h hn2 ⊢
            unfold taskmilllaw_WaitDrops_l1 at h
            try dsimp only at h
            refine seq_np ?_
            refine seq_np ?_
            refine reg_f ?_
            refine rs 4 [] [] (by kernel_rfl) allP_nil ?_
            refine rf [(0, .sl l.length (fl l)), (1, iS task), (5, .own 0 0 c0q3.length), (6, iS xat3), (9, .own 1 0 c1q23.length), (10, .sl old11.length (fl old11)), (11, iS i7), (56, bS (decide (i7 < ((old11.length : Nat) : Int))))] [(0, .row 55 (fl c0q3)), (1, .row 3 (fl c1q23))] 2 (by kernel_rfl) ?_
            refine wk_id ?_
            refine cond_sx h (by kernel_rfl) (fun g4840 h => ?_) (fun g4840 h => ?_)
            · refine wk_id ?_
              refine seq_np ?_
              refine block_cut (A := (List Int)) (fun a => ([(0, .sl l.length (fl l)), (1, iS task), (5, .own 0 0 c0q3.length), (6, iS xat3), (9, .own 1 0 a.length), (10, .sl old11.length (fl old11)), (11, iS i7)], [(0, .row 55 (fl c0q3)), (1, .row 3 (fl a))], 2)) (fun a => (taskmilllaw_WaitDrops_j1 l task xat3 c0q3 old11 i7 a) = some o2) (fun K4816 hK4816 => ?_) ?_
              · refine chk_sx h (fun g4820 h => ?_)
                refine seq_np ?_
                refine reg_f ?_
                have k4819 : 0 ≤ i7 ∧ i7 < ((old11.length : Nat) : Int) := by first | simpa only [Bool.and_eq_true, decide_eq_true_eq, bne_iff_ne, ne_eq] using g4820 | (simp at g4820 ⊢; omega)
                refine rs 6 [none, none, some ⟨.iptr (fl old11) ((i7).toNat * 1), [], 2, []⟩, some ⟨iS (ix old11 i7), [], 2, []⟩] _ (by kernel_rfl) (allP_cons (ob_ld old11 i7 1 0 ((i7).toNat * 1) k4819 rfl (by decide) (by first | rfl | omega) (dflS Try.prog 3) (iS (ix old11 i7)) rfl 2 []) (allP_cons (ob_ix_l old11 1 2 i7 k4819) allP_nil)) ?_
                refine rf [(0, .sl l.length (fl l)), (1, iS task), (5, .own 0 0 c0q3.length), (6, iS xat3), (9, .own 1 0 c1q23.length), (10, .sl old11.length (fl old11)), (11, iS i7), (64, bS ((ix old11 i7) != task))] [(0, .row 55 (fl c0q3)), (1, .row 3 (fl c1q23))] 2 (by kernel_rfl) ?_
                refine wk_id ?_
                refine cond_sx h (by kernel_rfl) (fun g4829 h => ?_) (fun g4829 h => ?_)
                · refine chk_sx h (fun g4826 h => ?_)
                  refine chk_sx h (fun g4828 h => ?_)
                  refine reg_f ?_
                  have k4825 : 0 ≤ i7 ∧ i7 < ((old11.length : Nat) : Int) := by first | simpa only [Bool.and_eq_true, decide_eq_true_eq, bne_iff_ne, ne_eq] using g4826 | (simp at g4826 ⊢; omega)
                  have k4827 : (c1q23 ++ ([(ix old11 i7)] : List Int)).length * 8 ≤ 140737488355328 := by first | simpa only [Bool.and_eq_true, decide_eq_true_eq, bne_iff_ne, ne_eq] using g4828 | (simp at g4828 ⊢; omega)
                  refine rs 8 [none, none, none, some ⟨.iptr (fl old11) ((i7).toNat * 1), [], 2, []⟩, some ⟨iS (ix old11 i7), [], 2, []⟩, none, some ⟨.own 3 0 (c1q23 ++ ([(ix old11 i7)] : List Int)).length, [(3, .row 3 (fl (c1q23 ++ ([(ix old11 i7)] : List Int)))), (1, .dead)], 4, [1, 2]⟩] _ (by kernel_rfl) (allP_cons (ob_app (P := Try.prog) c1q23 ([(ix old11 i7)] : List Int) 1 8 rfl (appCells (fl ([(ix old11 i7)] : List Int)) 0 (([(ix old11 i7)] : List Int).length * 1)) ([(ix old11 i7)] : List Int).length (app_own ([(ix old11 i7)] : List Int) 1 rfl) rfl (0 + ([(ix old11 i7)] : List Int).length * 1 ≤ (fl ([(ix old11 i7)] : List Int)).length) (app_own_le ([(ix old11 i7)] : List Int) 1 rfl) 3 (by kernel_rfl) (by decide) k4827 1 3 [2]) (allP_cons (ob_ld old11 i7 1 0 ((i7).toNat * 1) k4825 rfl (by decide) (by first | rfl | omega) (dflS Try.prog 3) (iS (ix old11 i7)) rfl 2 []) (allP_cons (ob_ix_l old11 1 2 i7 k4825) allP_nil))) ?_
                  refine rf [(0, .sl l.length (fl l)), (1, iS task), (5, .own 0 0 c0q3.length), (6, iS xat3), (9, .own 3 0 (c1q23 ++ ([(ix old11 i7)] : List Int)).length), (10, .sl old11.length (fl old11)), (11, iS i7)] [(0, .row 55 (fl c0q3)), (1, .dead), (2, .row 3 (fl ([(ix old11 i7)] : List Int))), (3, .row 3 (fl (c1q23 ++ ([(ix old11 i7)] : List Int))))] 4 (by kernel_rfl) ?_
                  exact hK4816 ((c1q23 ++ ([(ix old11 i7)] : List Int))) _ _ _ h (leSt_m [(0, 0), (1, 3)] [] (by simp only [push_cast, seval]) (by simp only [push_cast, seval]) rfl rfl rfl)
                · exact hK4816 (c1q23) _ _ _ h (leSt_m [(0, 0), (1, 1)] [] (by simp only [push_cast, seval]) (by simp only [push_cast, seval]) rfl rfl rfl)
              · rintro c1q25 h
                try dsimp only at h ⊢
                unfold taskmilllaw_WaitDrops_j1 at h
                refine wk_id ?_
                refine reg_f ?_
                refine rs 3 [] [] (by kernel_rfl) allP_nil ?_
                refine rf [(0, .sl l.length (fl l)), (1, iS task), (5, .own 0 0 c0q3.length), (6, iS xat3), (9, .own 1 0 c1q25.length), (10, .sl old11.length (fl old11)), (11, iS (IntKind.i64.wrap (i7 + 1)))] [(0, .row 55 (fl c0q3)), (1, .row 3 (fl c1q25))] 2 (by kernel_rfl) ?_
                exact hn2 (old11, (IntKind.i64.wrap (i7 + 1)), c1q25) _ _ _ (Option.some.inj h).symm (leSt_m [(0, 0), (1, 1)] [] (by simp only [push_cast, seval]) (by simp only [push_cast, seval]) rfl rfl rfl)
            · change R2 (.exit 0) _ _ _
              refine ex_cast hx2 (id := 0) ?_
              obtain ⟨r0, h, e0⟩ := map_sx h
              have e1 := hr2 r0 e0.symm
              subst r0
              refine wk_id ?_
              refine wk_id ?_
              refine seq_cut (A := Bool) (fun a => ([(4, bS a)], [], 0)) (fun a => (taskmilllaw_WaitDrops_j2 a) = some r) (fun K4835 hK4835 => ?_) ?_
              · refine reg_f ?_
                refine rs 2 [] [] (by kernel_rfl) allP_nil ?_
                obtain ⟨r4836, hr4836, h⟩ := bind_sx h
                refine run_call 16 [.sl old11.length (fl old11), iS task] (some 74) (by kernel_rfl) ?_
                refine call_0 (taskmillref_Has_spec old11 task r4836 hr4836) (by simp only [push_cast, seval]) (by simp only [push_cast, seval]) ?_
                refine back_f ?_
                refine rs 1 [] [] (by kernel_rfl) allP_nil ?_
                refine run_br h 75 (.inl (by kernel_rfl)) (fun g4837 h => ?_) (fun g4837 h => ?_)
                · refine rs 4 [] [] (by kernel_rfl) allP_nil ?_
                  obtain ⟨r4838, hr4838, h⟩ := bind_sx h
                  refine call_x (SpecW.give (taskmillref_SetLine_spec l xat3 c1q23 r4838 hr4838) [(0, .row 3 (fl c1q23))] [.sl l.length (fl l), iS xat3, .own 0 0 c1q23.length] [] (.own 1 0 r4838.length) [(1, .row 55 (fl r4838))] (by first | simp only [push_cast, seval] | simp only [push_cast, List.mem_singleton, true_and, and_true, seval]) (by simp only [push_cast, seval]) (by simp only [push_cast, seval]) (by simp only [push_cast, seval]) rfl (by simp only [push_cast, seval]) (by simp only [push_cast, seval]) rfl) (args := [.sl l.length (fl l), iS xat3, .own 1 0 c1q23.length]) (dst := (some 80)) (by kernel_rfl) [(0, .row 55 (fl c0q3)), (1, .row 3 (fl c1q23))] 2 (by kernel_rfl) [(0, 1)] [] (.own 3 0 r4838.length) [(3, .row 55 (fl r4838)), (1, .dead)] (by simp only [push_cast, seval]) (by simp only [push_cast, seval]) (by kernel_rfl) (.inl rfl) (by simp only [push_cast, seval]) (by simp only [push_cast, seval]) ?_
                  refine rn 9 [(75, bS true), (76, .gd true (.own 0 0 c0q3.length)), (80, .own 3 0 r4838.length)] [(0, .row 55 (fl c0q3)), (1, .dead), (3, .row 55 (fl r4838))] 4 (by kernel_rfl) ?_
                  obtain ⟨r4839, hr4839, h⟩ := bind_sx h
                  refine call_x (taskmillref_SameLines_spec c0q3 r4838 r4839 hr4839) (args := [.own 0 0 c0q3.length, .own 3 0 r4838.length]) (dst := (some 81)) (by kernel_rfl) [(0, .row 55 (fl c0q3)), (1, .dead), (3, .row 55 (fl r4838))] 4 (by kernel_rfl) [] [0, 3] (bS r4839) [] (by simp only [push_cast, seval]) (by simp only [push_cast, seval]) (by kernel_rfl) (.inr ⟨by simp only [push_cast, seval], by simp only [push_cast, seval]⟩) (by simp only [push_cast, seval]) (by simp only [push_cast, seval]) ?_
                  refine rs 2 [] [] (by kernel_rfl) allP_nil ?_
                  refine rf [(4, bS r4839)] [(0, .row 55 (fl c0q3)), (1, .dead), (3, .row 55 (fl r4838))] 4 (by kernel_rfl) ?_
                  exact hK4835 (r4839) _ _ _ h (leSt_m [] [] (by (try simp only [g4837]) <;> simp only [push_cast, seval]) (by (try simp only [g4837]) <;> simp only [push_cast, seval]) rfl rfl rfl)
                · refine rs 8 [] [] (by kernel_rfl) allP_nil ?_
                  refine rf [(4, bS false)] [(0, .row 55 (fl c0q3)), (1, .row 3 (fl c1q23))] 2 (by kernel_rfl) ?_
                  exact hK4835 (false) _ _ _ h (leSt_m [] [] (by (try simp only [g4837]) <;> simp only [push_cast, seval]) (by (try simp only [g4837]) <;> simp only [push_cast, seval]) rfl rfl rfl)
              · rintro t4q1 h
                try dsimp only at h ⊢
                unfold taskmilllaw_WaitDrops_j2 at h
                obtain rfl := Option.some.inj h
                refine ret_at (bS t4q1) (by kernel_rfl) ?_
                exact ret_e [] [] (by simp only [push_cast, seval]) (by simp only [push_cast, seval]) rfl rfl rfl

end Go.Proofs.Ytnnpjaoddniifaa
