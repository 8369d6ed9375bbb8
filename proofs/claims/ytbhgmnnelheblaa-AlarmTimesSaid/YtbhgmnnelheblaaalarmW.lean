/-
  What laws of the chapter alarm compute, and lemmas on it.
  No conditions.
-/
import Derived.Test.YtbhgmnnelheblaaalarmW1
set_option linter.unusedSimpArgs false
set_option linter.unusedVariables false
namespace Go.Proofs.Ytbhgmnnelheblaa
open Go Go.Sx
attribute [local irreducible] Wk RunAt
set_option maxRecDepth 100000 in
set_option maxHeartbeats 10000000 in
theorem taskmilllaw_counted_spec (xa : (List Timer)) (b : (List Timer)) (r : Bool) (h : taskmilllaw_counted xa b = some r) : SpecW Try.prog 22 [.sl xa.length (fl xa), .sl b.length (fl b)] [] 0 (fun x h n => x = bS r ∧ h = [] ∧ n = 0) := by
  unfold taskmilllaw_counted at h
  refine spec_of (draw_ok _) Try.func22 rfl (by decide) rfl (by kernel_rfl) ?_
  refine seq_np ?_
  refine reg_f ?_
  refine rs 1 [] [] (by kernel_rfl) allP_nil ?_
  refine rf [(0, .sl xa.length (fl xa)), (1, .sl b.length (fl b))] [] 0 (by kernel_rfl) ?_
  refine wk_id ?_
  refine seq_np ?_
  refine seq_np ?_
  refine reg_f ?_
  refine rs 5 [] [] (by kernel_rfl) allP_nil ?_
  refine rf [(0, .sl xa.length (fl xa)), (1, .sl b.length (fl b)), (13, bS (((xa.length : Nat) : Int) != ((b.length : Nat) : Int)))] [] 0 (by kernel_rfl) ?_
  refine wk_id ?_
  refine cond_sx h (by kernel_rfl) (fun g3444 h => ?_) (fun g3444 h => ?_)
  · refine seq_np ?_
    refine reg_f ?_
    refine rs 1 [] [] (by kernel_rfl) allP_nil ?_
    refine rf [(4, bS false)] [] 0 (by kernel_rfl) ?_
    refine wk_id ?_
    obtain rfl := Option.some.inj h
    refine ret_at (bS false) (by kernel_rfl) ?_
    exact ret_e [] [] (by simp only [push_cast, seval]) (by simp only [push_cast, seval]) rfl rfl rfl
  · refine wk_id ?_
    refine seq_np ?_
    refine seq_np ?_
    refine reg_f ?_
    refine rs 1 [] [] (by kernel_rfl) allP_nil ?_
    refine rf [(0, .sl xa.length (fl xa)), (1, .sl b.length (fl b)), (5, iS 0)] [] 0 (by kernel_rfl) ?_
    refine wk_id ?_
    refine block_np ?_
    refine loop_sx (S := Int) (fun a => ([(0, .sl xa.length (fl xa)), (1, .sl b.length (fl b)), (5, iS a)], [], 0)) h (leSt_m [] [] (by simp only [push_cast, seval]) (by simp only [push_cast, seval]) rfl rfl rfl) ?_
    rintro i7 o3 R3 h hr3 hn3 hx3 ht3
    try dsimp only at h hn3 ⊢
    unfold taskmilllaw_counted_l2 at h
    try dsimp only at h
    refine seq_np ?_
    refine seq_np ?_
    refine reg_f ?_
    refine rs 4 [] [] (by kernel_rfl) allP_nil ?_
    refine rf [(0, .sl xa.length (fl xa)), (1, .sl b.length (fl b)), (5, iS i7), (17, bS (decide (i7 < ((xa.length : Nat) : Int))))] [] 0 (by kernel_rfl) ?_
    refine wk_id ?_
    refine cond_sx h (by kernel_rfl) (fun g3443 h => ?_) (fun g3443 h => ?_)
    · refine wk_id ?_
      refine seq_np ?_
      refine block_np ?_
      refine seq_np ?_
      refine reg_f ?_
      refine rs 2 [] [] (by kernel_rfl) allP_nil ?_
      refine rf [(0, .sl xa.length (fl xa)), (1, .sl b.length (fl b)), (5, iS i7), (6, iS 0), (7, iS 0)] [] 0 (by kernel_rfl) ?_
      refine wk_id ?_
      refine seq_np ?_
      refine seq_np ?_
      refine reg_f ?_
      refine rs 1 [] [] (by kernel_rfl) allP_nil ?_
      refine rf [(0, .sl xa.length (fl xa)), (1, .sl b.length (fl b)), (5, iS i7), (6, iS 0), (7, iS 0), (8, iS 0)] [] 0 (by kernel_rfl) ?_
      refine wk_id ?_
      refine block_np ?_
      refine loop_sx (S := Int × Int × Int) (fun a => ([(0, .sl xa.length (fl xa)), (1, .sl b.length (fl b)), (5, iS i7), (6, iS a.1), (7, iS a.2.1), (8, iS a.2.2)], [], 0)) h (leSt_m [] [] (by simp only [push_cast, seval]) (by simp only [push_cast, seval]) rfl rfl rfl) ?_
      rintro ⟨x125, y78, k31⟩ o4 R4 h hr4 hn4 hx4 ht4
      try dsimp only at h hn4 ⊢
      unfold taskmilllaw_counted_l1 at h
      try dsimp only at h
      refine seq_np ?_
      refine seq_np ?_
      refine reg_f ?_
      refine rs 4 [] [] (by kernel_rfl) allP_nil ?_
      refine rf [(0, .sl xa.length (fl xa)), (1, .sl b.length (fl b)), (5, iS i7), (6, iS x125), (7, iS y78), (8, iS k31), (23, bS (decide (k31 < ((xa.length : Nat) : Int))))] [] 0 (by kernel_rfl) ?_
      refine wk_id ?_
      refine cond_sx h (by kernel_rfl) (fun g3442 h => ?_) (fun g3442 h => ?_)
      · refine wk_id ?_
        refine seq_np ?_
        refine block_cut (A := Int × Int) (fun a => ([(0, .sl xa.length (fl xa)), (1, .sl b.length (fl b)), (5, iS i7), (6, iS a.1), (7, iS a.2), (8, iS k31)], [], 0)) (fun a => (taskmilllaw_counted_j1 xa b i7 k31 a.1 a.2) = some o4) (fun K3415 hK3415 => ?_) ?_
        · refine seq_cut (A := Int) (fun a => ([(0, .sl xa.length (fl xa)), (1, .sl b.length (fl b)), (5, iS i7), (6, iS a), (7, iS y78), (8, iS k31)], [], 0)) (fun a => (taskmilllaw_counted_j2 xa b i7 y78 k31 a) = some o4) (fun K3422 hK3422 => ?_) ?_
          · refine chk_sx h (fun g3428 h => ?_)
            refine chk_sx h (fun g3430 h => ?_)
            refine seq_np ?_
            refine reg_t ?_
            have k3427 : 0 ≤ k31 ∧ k31 < ((xa.length : Nat) : Int) := by first | simpa only [Bool.and_eq_true, decide_eq_true_eq, bne_iff_ne, ne_eq] using g3428 | (simp at g3428 ⊢; omega)
            have k3429 : 0 ≤ i7 ∧ i7 < ((xa.length : Nat) : Int) := by first | simpa only [Bool.and_eq_true, decide_eq_true_eq, bne_iff_ne, ne_eq] using g3430 | (simp at g3430 ⊢; omega)
            refine rs 9 [none, none, some ⟨.iptr (fl xa) ((k31).toNat * 2), [], 2, []⟩, some ⟨.agg (Enc.cells (ix xa k31)), [], 3, []⟩, none, none, some ⟨.iptr (fl xa) ((i7).toNat * 2), [], 6, []⟩, some ⟨.agg (Enc.cells (ix xa i7)), [], 7, []⟩] _ (by kernel_rfl) (allP_cons (ob_ldw xa i7 2 ((i7).toNat * 2) k3429 rfl (by first | rfl | omega) [iS (ix xa i7).When, iS (ix xa i7).Task] rfl 7 []) (allP_cons (ob_ix_l xa 2 6 i7 k3429) (allP_cons (ob_ldw xa k31 2 ((k31).toNat * 2) k3427 rfl (by first | rfl | omega) [iS (ix xa k31).When, iS (ix xa k31).Task] rfl 3 []) (allP_cons (ob_ix_l xa 2 2 k31 k3427) allP_nil)))) ?_
            refine rt [(0, .sl xa.length (fl xa)), (1, .sl b.length (fl b)), (5, iS i7), (6, iS x125), (7, iS y78), (8, iS k31), (34, bS (((ix xa k31).When == (ix xa i7).When) && (((ix xa k31).Task == (ix xa i7).Task) && true)))] [] 9 follows (by kernel_rfl) ?_
            refine wk_id ?_
            refine cond_sx h (by kernel_rfl) (fun g3431 h => ?_) (fun g3431 h => ?_)
            · refine reg_f ?_
              refine rs 3 [] [] (by kernel_rfl) allP_nil ?_
              refine rf [(0, .sl xa.length (fl xa)), (1, .sl b.length (fl b)), (5, iS i7), (6, iS (IntKind.i64.wrap (x125 + 1))), (7, iS y78), (8, iS k31)] [] 9 (by kernel_rfl) ?_
              exact hK3422 ((IntKind.i64.wrap (x125 + 1))) _ _ _ h (leSt_m [] [] (by simp only [push_cast, seval]) (by simp only [push_cast, seval]) rfl rfl rfl)
            · exact hK3422 (x125) _ _ _ h (leSt_m [] [] (by simp only [push_cast, seval]) (by simp only [push_cast, seval]) rfl rfl rfl)
          · rintro x130 h
            try dsimp only at h ⊢
            unfold taskmilllaw_counted_j2 at h
            refine chk_sx h (fun g3437 h => ?_)
            refine chk_sx h (fun g3439 h => ?_)
            refine seq_np ?_
            refine reg_t ?_
            have k3436 : 0 ≤ k31 ∧ k31 < ((b.length : Nat) : Int) := by first | simpa only [Bool.and_eq_true, decide_eq_true_eq, bne_iff_ne, ne_eq] using g3437 | (simp at g3437 ⊢; omega)
            have k3438 : 0 ≤ i7 ∧ i7 < ((xa.length : Nat) : Int) := by first | simpa only [Bool.and_eq_true, decide_eq_true_eq, bne_iff_ne, ne_eq] using g3439 | (simp at g3439 ⊢; omega)
            refine rs 9 [none, none, some ⟨.iptr (fl b) ((k31).toNat * 2), [], 2, []⟩, some ⟨.agg (Enc.cells (ix b k31)), [], 3, []⟩, none, none, some ⟨.iptr (fl xa) ((i7).toNat * 2), [], 6, []⟩, some ⟨.agg (Enc.cells (ix xa i7)), [], 7, []⟩] _ (by kernel_rfl) (allP_cons (ob_ldw xa i7 2 ((i7).toNat * 2) k3438 rfl (by first | rfl | omega) [iS (ix xa i7).When, iS (ix xa i7).Task] rfl 7 []) (allP_cons (ob_ix_l xa 2 6 i7 k3438) (allP_cons (ob_ldw b k31 2 ((k31).toNat * 2) k3436 rfl (by first | rfl | omega) [iS (ix b k31).When, iS (ix b k31).Task] rfl 3 []) (allP_cons (ob_ix_l b 2 2 k31 k3436) allP_nil)))) ?_
            refine rt [(0, .sl xa.length (fl xa)), (1, .sl b.length (fl b)), (5, iS i7), (6, iS x130), (7, iS y78), (8, iS k31), (45, bS (((ix b k31).When == (ix xa i7).When) && (((ix b k31).Task == (ix xa i7).Task) && true)))] [] 9 follows (by kernel_rfl) ?_
            refine wk_id ?_
            refine cond_sx h (by kernel_rfl) (fun g3440 h => ?_) (fun g3440 h => ?_)
            · refine reg_f ?_
              refine rs 3 [] [] (by kernel_rfl) allP_nil ?_
              refine rf [(0, .sl xa.length (fl xa)), (1, .sl b.length (fl b)), (5, iS i7), (6, iS x130), (7, iS (IntKind.i64.wrap (y78 + 1))), (8, iS k31)] [] 9 (by kernel_rfl) ?_
              exact hK3415 (x130, (IntKind.i64.wrap (y78 + 1))) _ _ _ h (leSt_m [] [] (by simp only [push_cast, seval]) (by simp only [push_cast, seval]) rfl rfl rfl)
            · exact hK3415 (x130, y78) _ _ _ h (leSt_m [] [] (by simp only [push_cast, seval]) (by simp only [push_cast, seval]) rfl rfl rfl)
        · rintro ⟨x129, y80⟩ h
          try dsimp only at h ⊢
          unfold taskmilllaw_counted_j1 at h
          refine wk_id ?_
          refine reg_f ?_
          refine rs 3 [] [] (by kernel_rfl) allP_nil ?_
          refine rf [(0, .sl xa.length (fl xa)), (1, .sl b.length (fl b)), (5, iS i7), (6, iS x129), (7, iS y80), (8, iS (IntKind.i64.wrap (k31 + 1)))] [] 0 (by kernel_rfl) ?_
          exact hn4 (x129, y80, (IntKind.i64.wrap (k31 + 1))) _ _ _ (Option.some.inj h).symm (leSt_m [] [] (by simp only [push_cast, seval]) (by simp only [push_cast, seval]) rfl rfl rfl)
      · change R4 (.exit 2) _ _ _
        refine ex_cast hx4 (id := 2) ?_
        obtain ⟨r0, h, e0⟩ := map_sx h
        have e1 := hr4 r0 e0.symm
        subst r0
        refine wk_id ?_
        refine wk_id ?_
        refine seq_np ?_
        refine reg_f ?_
        refine rs 3 [] [] (by kernel_rfl) allP_nil ?_
        refine rf [(0, .sl xa.length (fl xa)), (1, .sl b.length (fl b)), (5, iS i7), (50, bS (x125 != y78))] [] 0 (by kernel_rfl) ?_
        refine wk_id ?_
        refine cond_sx h (by kernel_rfl) (fun g3441 h => ?_) (fun g3441 h => ?_)
        · refine seq_np ?_
          refine reg_f ?_
          refine rs 1 [] [] (by kernel_rfl) allP_nil ?_
          refine rf [(4, bS false)] [] 0 (by kernel_rfl) ?_
          refine wk_id ?_
          refine rt_cast ht3 ?_
          obtain ⟨r0, h, e0⟩ := map_sx h
          have e1 := hr3 r0 e0.symm
          subst r0
          obtain rfl := Option.some.inj h
          refine ret_at (bS false) (by kernel_rfl) ?_
          exact ret_e [] [] (by simp only [push_cast, seval]) (by simp only [push_cast, seval]) rfl rfl rfl
        · refine wk_id ?_
          refine wk_id ?_
          refine reg_f ?_
          refine rs 3 [] [] (by kernel_rfl) allP_nil ?_
          refine rf [(0, .sl xa.length (fl xa)), (1, .sl b.length (fl b)), (5, iS (IntKind.i64.wrap (i7 + 1)))] [] 0 (by kernel_rfl) ?_
          exact hn3 ((IntKind.i64.wrap (i7 + 1))) _ _ _ (Option.some.inj h).symm (leSt_m [] [] (by simp only [push_cast, seval]) (by simp only [push_cast, seval]) rfl rfl rfl)
    · change R3 (.exit 0) _ _ _
      refine ex_cast hx3 (id := 0) ?_
      obtain ⟨r0, h, e0⟩ := map_sx h
      have e1 := hr3 r0 e0.symm
      subst r0
      refine wk_id ?_
      refine wk_id ?_
      refine seq_np ?_
      refine reg_f ?_
      refine rs 1 [] [] (by kernel_rfl) allP_nil ?_
      refine rf [(4, bS true)] [] 0 (by kernel_rfl) ?_
      refine wk_id ?_
      obtain rfl := Option.some.inj h
      refine ret_at (bS true) (by kernel_rfl) ?_
      exact ret_e [] [] (by simp only [push_cast, seval]) (by simp only [push_cast, seval]) rfl rfl rfl

set_option maxRecDepth 100000 in
set_option maxHeartbeats 10000000 in
theorem taskmilllaw_AlarmTimes_spec (xh : (List Timer)) (xa : Int) (b : Int) (r : Bool) (h : taskmilllaw_AlarmTimes xh xa b = some r) : SpecW Try.prog 6 [.sl xh.length (fl xh), iS xa, iS b] [] 0 (fun x h n => x = bS r ∧ h = [] ∧ n = 0) := by
  unfold taskmilllaw_AlarmTimes at h
  refine spec_of (draw_ok _) Try.func6 rfl (by decide) rfl (by kernel_rfl) ?_
  refine seq_np ?_
  refine reg_f ?_
  refine rs 1 [] [] (by kernel_rfl) allP_nil ?_
  refine rf [(0, .sl xh.length (fl xh)), (1, iS xa), (2, iS b)] [] 0 (by kernel_rfl) ?_
  refine wk_id ?_
  refine seq_np ?_
  refine seq_np ?_
  refine reg_f ?_
  obtain ⟨r3449, hr3449, h⟩ := bind_sx h
  refine run_call 8 [] (some 20) (by kernel_rfl) ?_
  refine call_0 (taskmilllaw_alarmBegun_spec r3449 hr3449) (by simp only [push_cast, seval]) (by simp only [push_cast, seval]) ?_
  refine back_f ?_
  refine rs 1 [] [] (by kernel_rfl) allP_nil ?_
  refine rf [(0, .sl xh.length (fl xh)), (1, iS xa), (2, iS b), (21, bS (!r3449))] [] 0 (by kernel_rfl) ?_
  refine wk_id ?_
  refine cond_sx h (by kernel_rfl) (fun g3660 h => ?_) (fun g3660 h => ?_)
  · refine seq_np ?_
    refine reg_f ?_
    refine rs 1 [] [] (by kernel_rfl) allP_nil ?_
    refine rf [(6, bS false)] [] 0 (by kernel_rfl) ?_
    refine wk_id ?_
    obtain rfl := Option.some.inj h
    refine ret_at (bS false) (by kernel_rfl) ?_
    exact ret_e [] [] (by simp only [push_cast, seval]) (by simp only [push_cast, seval]) rfl rfl rfl
  · refine wk_id ?_
    refine seq_np ?_
    refine seq_cut (A := Unit) (fun _ => ([(0, .sl xh.length (fl xh)), (1, iS xa), (2, iS b), (29, bS ((decide ((200 : Int) < ((xh.length : Nat) : Int))) || (decide (b < xa))))], [], 0)) (fun _ => True) (fun K3453 hK3453 => ?_) (fun _ _ => ?_)
    · refine reg_f ?_
      refine rs 4 [] [] (by kernel_rfl) allP_nil ?_
      refine run_split 25 (decide ((200 : Int) < ((xh.length : Nat) : Int))) (.inl (by kernel_rfl)) (fun g3454 => ?_) (fun g3454 => ?_)
      · refine rs 4 [] [] (by kernel_rfl) allP_nil ?_
        refine rf [(0, .sl xh.length (fl xh)), (1, iS xa), (2, iS b), (29, bS true)] [] 0 (by kernel_rfl) ?_
        exact hK3453 () _ _ _ trivial (leSt_m [] [] (by (try simp only [g3454]) <;> simp only [push_cast, seval]) (by (try simp only [g3454]) <;> simp only [push_cast, seval]) rfl rfl rfl)
      · refine rs 4 [] [] (by kernel_rfl) allP_nil ?_
        refine rf [(0, .sl xh.length (fl xh)), (1, iS xa), (2, iS b), (29, bS (decide (b < xa)))] [] 0 (by kernel_rfl) ?_
        exact hK3453 () _ _ _ trivial (leSt_m [] [] (by (try simp only [g3454]) <;> simp only [push_cast, seval]) (by (try simp only [g3454]) <;> simp only [push_cast, seval]) rfl rfl rfl)
    · dsimp only
      refine cond_sx h (by kernel_rfl) (fun g3659 h => ?_) (fun g3659 h => ?_)
      · refine seq_np ?_
        refine reg_f ?_
        refine rs 1 [] [] (by kernel_rfl) allP_nil ?_
        refine rf [(6, bS true)] [] 0 (by kernel_rfl) ?_
        refine wk_id ?_
        obtain rfl := Option.some.inj h
        refine ret_at (bS true) (by kernel_rfl) ?_
        exact ret_e [] [] (by simp only [push_cast, seval]) (by simp only [push_cast, seval]) rfl rfl rfl
      · refine wk_id ?_
        refine seq_np ?_
        refine reg_f ?_
        refine rs 1 [] [] (by kernel_rfl) allP_nil ?_
        obtain ⟨r3456, hr3456, h⟩ := bind_sx h
        refine call_x (alarm_Made_spec xh r3456 hr3456) (args := [.sl xh.length (fl xh)]) (dst := (some 32)) (by kernel_rfl) [] 0 (by kernel_rfl) [] [] (.tup [.own 0 0 r3456.2.length, .agg (Enc.cells r3456.1)]) [(0, .row 24 (fl r3456.2))] (by simp only [push_cast, seval]) (by simp only [push_cast, seval]) (by kernel_rfl) (.inl rfl) (by simp only [push_cast, seval]) (by simp only [push_cast, seval]) ?_
        refine rs 6 [] [] (by kernel_rfl) allP_nil ?_
        refine rf [(0, .sl xh.length (fl xh)), (1, iS xa), (2, iS b), (7, .own 0 0 r3456.2.length), (8, .ptr 1 0)] [(0, .row 24 (fl r3456.2)), (1, .row 28 (Enc.cells r3456.1))] 2 (by kernel_rfl) ?_
        refine wk_id ?_
        refine seq_np ?_
        refine seq_np ?_
        refine reg_f ?_
        refine rs 3 [] [] (by kernel_rfl) allP_nil ?_
        refine rf [(0, .sl xh.length (fl xh)), (1, iS xa), (2, iS b), (7, .own 0 0 r3456.2.length), (37, bS (r3456.1.Code != 0))] [(0, .row 24 (fl r3456.2)), (1, .row 28 (Enc.cells r3456.1))] 2 (by kernel_rfl) ?_
        refine wk_id ?_
        refine cond_sx h (by kernel_rfl) (fun g3658 h => ?_) (fun g3658 h => ?_)
        · refine seq_np ?_
          refine reg_f ?_
          refine rs 1 [] [] (by kernel_rfl) allP_nil ?_
          refine rf [(6, bS true)] [(0, .row 24 (fl r3456.2)), (1, .row 28 (Enc.cells r3456.1))] 2 (by kernel_rfl) ?_
          refine wk_id ?_
          obtain rfl := Option.some.inj h
          refine ret_at (bS true) (by kernel_rfl) ?_
          exact ret_e [] [] (by simp only [push_cast, seval]) (by simp only [push_cast, seval]) rfl rfl rfl
        · refine wk_id ?_
          refine seq_np ?_
          refine reg_f ?_
          refine rs 2 [] [] (by kernel_rfl) allP_nil ?_
          obtain ⟨r3459, hr3459, h⟩ := bind_sx h
          refine call_x (alarm_Due_spec r3456.2 xa r3459 hr3459) (args := [.own 0 0 r3456.2.length, iS xa]) (dst := (some 41)) (by kernel_rfl) [(0, .row 24 (fl r3456.2)), (1, .row 28 (Enc.cells r3456.1))] 2 (by kernel_rfl) [] [0] (.tup [.own 2 0 r3459.2.1.length, .own 3 0 r3459.2.2.length, .agg (Enc.cells r3459.1)]) [(2, .row 24 (fl r3459.2.1)), (3, .row 24 (fl r3459.2.2))] (by simp only [push_cast, seval]) (by simp only [push_cast, seval]) (by kernel_rfl) (.inr ⟨by simp only [push_cast, seval], by simp only [push_cast, seval]⟩) (by simp only [push_cast, seval]) (by simp only [push_cast, seval]) ?_
          refine rs 8 [] [] (by kernel_rfl) allP_nil ?_
          refine rf [(0, .sl xh.length (fl xh)), (2, iS b), (7, .own 0 0 r3456.2.length), (9, .own 2 0 r3459.2.1.length), (10, .own 3 0 r3459.2.2.length), (11, .ptr 4 0)] [(0, .row 24 (fl r3456.2)), (1, .row 28 (Enc.cells r3456.1)), (2, .row 24 (fl r3459.2.1)), (3, .row 24 (fl r3459.2.2)), (4, .row 28 (Enc.cells r3459.1))] 5 (by kernel_rfl) ?_
          refine wk_id ?_
          refine seq_np ?_
          refine seq_np ?_
          refine reg_f ?_
          refine rs 3 [] [] (by kernel_rfl) allP_nil ?_
          refine rf [(0, .sl xh.length (fl xh)), (2, iS b), (7, .own 0 0 r3456.2.length), (9, .own 2 0 r3459.2.1.length), (10, .own 3 0 r3459.2.2.length), (47, bS (r3459.1.Code != 0))] [(0, .row 24 (fl r3456.2)), (1, .row 28 (Enc.cells r3456.1)), (2, .row 24 (fl r3459.2.1)), (3, .row 24 (fl r3459.2.2)), (4, .row 28 (Enc.cells r3459.1))] 5 (by kernel_rfl) ?_
          refine wk_id ?_
          refine cond_sx h (by kernel_rfl) (fun g3657 h => ?_) (fun g3657 h => ?_)
          · refine seq_np ?_
            refine reg_f ?_
            refine rs 1 [] [] (by kernel_rfl) allP_nil ?_
            refine rf [(6, bS false)] [(0, .row 24 (fl r3456.2)), (1, .row 28 (Enc.cells r3456.1)), (2, .row 24 (fl r3459.2.1)), (3, .row 24 (fl r3459.2.2)), (4, .row 28 (Enc.cells r3459.1))] 5 (by kernel_rfl) ?_
            refine wk_id ?_
            obtain rfl := Option.some.inj h
            refine ret_at (bS false) (by kernel_rfl) ?_
            exact ret_e [] [] (by simp only [push_cast, seval]) (by simp only [push_cast, seval]) rfl rfl rfl
          · refine wk_id ?_
            refine seq_np ?_
            refine reg_f ?_
            refine rs 2 [] [] (by kernel_rfl) allP_nil ?_
            obtain ⟨r3462, hr3462, h⟩ := bind_sx h
            refine call_x (alarm_Due_spec r3459.2.1 b r3462 hr3462) (args := [.own 2 0 r3459.2.1.length, iS b]) (dst := (some 51)) (by kernel_rfl) [(0, .row 24 (fl r3456.2)), (1, .row 28 (Enc.cells r3456.1)), (2, .row 24 (fl r3459.2.1)), (3, .row 24 (fl r3459.2.2)), (4, .row 28 (Enc.cells r3459.1))] 5 (by kernel_rfl) [] [2] (.tup [.own 5 0 r3462.2.1.length, .own 6 0 r3462.2.2.length, .agg (Enc.cells r3462.1)]) [(5, .row 24 (fl r3462.2.1)), (6, .row 24 (fl r3462.2.2))] (by simp only [push_cast, seval]) (by simp only [push_cast, seval]) (by kernel_rfl) (.inr ⟨by simp only [push_cast, seval], by simp only [push_cast, seval]⟩) (by simp only [push_cast, seval]) (by simp only [push_cast, seval]) ?_
            refine rs 8 [] [] (by kernel_rfl) allP_nil ?_
            refine rf [(0, .sl xh.length (fl xh)), (2, iS b), (7, .own 0 0 r3456.2.length), (10, .own 3 0 r3459.2.2.length), (12, .own 5 0 r3462.2.1.length), (13, .own 6 0 r3462.2.2.length), (14, .ptr 7 0)] [(0, .row 24 (fl r3456.2)), (1, .row 28 (Enc.cells r3456.1)), (2, .row 24 (fl r3459.2.1)), (3, .row 24 (fl r3459.2.2)), (4, .row 28 (Enc.cells r3459.1)), (5, .row 24 (fl r3462.2.1)), (6, .row 24 (fl r3462.2.2)), (7, .row 28 (Enc.cells r3462.1))] 8 (by kernel_rfl) ?_
            refine wk_id ?_
            refine seq_np ?_
            refine reg_f ?_
            refine rs 2 [] [] (by kernel_rfl) allP_nil ?_
            obtain ⟨r3464, hr3464, h⟩ := bind_sx h
            refine call_x (alarm_Due_spec r3456.2 b r3464 hr3464) (args := [.own 0 0 r3456.2.length, iS b]) (dst := (some 58)) (by kernel_rfl) [(0, .row 24 (fl r3456.2)), (1, .row 28 (Enc.cells r3456.1)), (2, .row 24 (fl r3459.2.1)), (3, .row 24 (fl r3459.2.2)), (4, .row 28 (Enc.cells r3459.1)), (5, .row 24 (fl r3462.2.1)), (6, .row 24 (fl r3462.2.2)), (7, .row 28 (Enc.cells r3462.1))] 8 (by kernel_rfl) [] [0] (.tup [.own 8 0 r3464.2.1.length, .own 9 0 r3464.2.2.length, .agg (Enc.cells r3464.1)]) [(8, .row 24 (fl r3464.2.1)), (9, .row 24 (fl r3464.2.2))] (by simp only [push_cast, seval]) (by simp only [push_cast, seval]) (by kernel_rfl) (.inr ⟨by simp only [push_cast, seval], by simp only [push_cast, seval]⟩) (by simp only [push_cast, seval]) (by simp only [push_cast, seval]) ?_
            refine rs 8 [] [] (by kernel_rfl) allP_nil ?_
            refine rf [(0, .sl xh.length (fl xh)), (2, iS b), (10, .own 3 0 r3459.2.2.length), (12, .own 5 0 r3462.2.1.length), (13, .own 6 0 r3462.2.2.length), (14, .ptr 7 0), (15, .own 8 0 r3464.2.1.length), (16, .own 9 0 r3464.2.2.length), (17, .ptr 10 0)] [(0, .row 24 (fl r3456.2)), (1, .row 28 (Enc.cells r3456.1)), (2, .row 24 (fl r3459.2.1)), (3, .row 24 (fl r3459.2.2)), (4, .row 28 (Enc.cells r3459.1)), (5, .row 24 (fl r3462.2.1)), (6, .row 24 (fl r3462.2.2)), (7, .row 28 (Enc.cells r3462.1)), (8, .row 24 (fl r3464.2.1)), (9, .row 24 (fl r3464.2.2)), (10, .row 28 (Enc.cells r3464.1))] 11 (by kernel_rfl) ?_
            refine wk_id ?_
            refine seq_np ?_
            refine seq_cut (A := Bool × (List Timer) × (List Timer)) (fun a => ([(0, .sl xh.length (fl xh)), (2, iS b), (15, .own 0 0 a.2.1.length), (16, .own 1 0 a.2.2.length), (84, bS a.1)], [(0, .row 24 (fl a.2.1)), (1, .row 24 (fl a.2.2))], 2)) (fun a => (taskmilllaw_AlarmTimes_j1 xh b a.1 a.2.1 a.2.2) = some r) (fun K3485 hK3485 => ?_) ?_
            · refine reg_f ?_
              refine rs 4 [] [] (by kernel_rfl) allP_nil ?_
              refine run_br h 65 (.inl (by kernel_rfl)) (fun g3486 h => ?_) (fun g3486 h => ?_)
              · refine rs 19 [] [] (by kernel_rfl) allP_nil ?_
                refine rf [(0, .sl xh.length (fl xh)), (2, iS b), (15, .own 8 0 r3464.2.1.length), (16, .own 9 0 r3464.2.2.length), (84, bS true)] [(0, .row 24 (fl r3456.2)), (1, .row 28 (Enc.cells r3456.1)), (2, .row 24 (fl r3459.2.1)), (3, .row 24 (fl r3459.2.2)), (4, .row 28 (Enc.cells r3459.1)), (5, .row 24 (fl r3462.2.1)), (6, .row 24 (fl r3462.2.2)), (7, .row 28 (Enc.cells r3462.1)), (8, .row 24 (fl r3464.2.1)), (9, .row 24 (fl r3464.2.2)), (10, .row 28 (Enc.cells r3464.1))] 11 (by kernel_rfl) ?_
                exact hK3485 (true, r3464.2.1, r3464.2.2) _ _ _ h (leSt_m [(0, 8), (1, 9)] [] (by (try simp only [g3486]) <;> simp only [push_cast, seval]) (by (try simp only [g3486]) <;> simp only [push_cast, seval]) rfl rfl rfl)
              · refine rs 5 [] [] (by kernel_rfl) allP_nil ?_
                refine run_br h 70 (.inl (by kernel_rfl)) (fun g3487 h => ?_) (fun g3487 h => ?_)
                · refine rs 14 [] [] (by kernel_rfl) allP_nil ?_
                  refine rf [(0, .sl xh.length (fl xh)), (2, iS b), (15, .own 8 0 r3464.2.1.length), (16, .own 9 0 r3464.2.2.length), (84, bS true)] [(0, .row 24 (fl r3456.2)), (1, .row 28 (Enc.cells r3456.1)), (2, .row 24 (fl r3459.2.1)), (3, .row 24 (fl r3459.2.2)), (4, .row 28 (Enc.cells r3459.1)), (5, .row 24 (fl r3462.2.1)), (6, .row 24 (fl r3462.2.2)), (7, .row 28 (Enc.cells r3462.1)), (8, .row 24 (fl r3464.2.1)), (9, .row 24 (fl r3464.2.2)), (10, .row 28 (Enc.cells r3464.1))] 11 (by kernel_rfl) ?_
                  exact hK3485 (true, r3464.2.1, r3464.2.2) _ _ _ h (leSt_m [(0, 8), (1, 9)] [] (by first | ((try simp only [g3486, g3487]) <;> simp only [push_cast, seval]; done) | ((try simp only [g3486]); (try simp only [g3487]); simp only [push_cast, seval]; done) | (exfalso; clear h; simp_all; done)) (by first | ((try simp only [g3486, g3487]) <;> simp only [push_cast, seval]; done) | ((try simp only [g3486]); (try simp only [g3487]); simp only [push_cast, seval]; done) | (exfalso; clear h; simp_all; done)) rfl rfl rfl)
                · refine rs 2 [] [] (by kernel_rfl) allP_nil ?_
                  obtain ⟨r3488, hr3488, h⟩ := bind_sx h
                  refine call_x (taskmillref_SameTimers_spec r3462.2.1 r3464.2.1 r3488 hr3488) (args := [.own 5 0 r3462.2.1.length, .own 8 0 r3464.2.1.length]) (dst := (some 73)) (by kernel_rfl) [(0, .row 24 (fl r3456.2)), (1, .row 28 (Enc.cells r3456.1)), (2, .row 24 (fl r3459.2.1)), (3, .row 24 (fl r3459.2.2)), (4, .row 28 (Enc.cells r3459.1)), (5, .row 24 (fl r3462.2.1)), (6, .row 24 (fl r3462.2.2)), (7, .row 28 (Enc.cells r3462.1)), (8, .row 24 (fl r3464.2.1)), (9, .row 24 (fl r3464.2.2)), (10, .row 28 (Enc.cells r3464.1))] 11 (by kernel_rfl) [] [5, 8] (bS r3488) [] (by simp only [push_cast, seval]) (by simp only [push_cast, seval]) (by kernel_rfl) (.inr ⟨by simp only [push_cast, seval], by simp only [push_cast, seval]⟩) (by simp only [push_cast, seval]) (by simp only [push_cast, seval]) ?_
                  refine rn 12 [(0, .sl xh.length (fl xh)), (2, iS b), (10, .own 3 0 r3459.2.2.length), (13, .own 6 0 r3462.2.2.length), (15, .own 8 0 r3464.2.1.length), (16, .own 9 0 r3464.2.2.length), (70, bS false), (73, bS r3488)] [(0, .row 24 (fl r3456.2)), (1, .row 28 (Enc.cells r3456.1)), (2, .row 24 (fl r3459.2.1)), (3, .row 24 (fl r3459.2.2)), (4, .row 28 (Enc.cells r3459.1)), (5, .row 24 (fl r3462.2.1)), (6, .row 24 (fl r3462.2.2)), (7, .row 28 (Enc.cells r3462.1)), (8, .row 24 (fl r3464.2.1)), (9, .row 24 (fl r3464.2.2)), (10, .row 28 (Enc.cells r3464.1))] 11 (by kernel_rfl) ?_
                  refine rs 3 [] [] (by kernel_rfl) allP_nil ?_
                  refine run_br h 76 (.inl (by kernel_rfl)) (fun g3489 h => ?_) (fun g3489 h => ?_)
                  · refine rs 8 [] [] (by kernel_rfl) allP_nil ?_
                    refine rf [(0, .sl xh.length (fl xh)), (2, iS b), (15, .own 8 0 r3464.2.1.length), (16, .own 9 0 r3464.2.2.length), (84, bS true)] [(0, .row 24 (fl r3456.2)), (1, .row 28 (Enc.cells r3456.1)), (2, .row 24 (fl r3459.2.1)), (3, .row 24 (fl r3459.2.2)), (4, .row 28 (Enc.cells r3459.1)), (5, .row 24 (fl r3462.2.1)), (6, .row 24 (fl r3462.2.2)), (7, .row 28 (Enc.cells r3462.1)), (8, .row 24 (fl r3464.2.1)), (9, .row 24 (fl r3464.2.2)), (10, .row 28 (Enc.cells r3464.1))] 11 (by kernel_rfl) ?_
                    exact hK3485 (true, r3464.2.1, r3464.2.2) _ _ _ h (leSt_m [(0, 8), (1, 9)] [] (by first | ((try simp only [g3486, g3487, g3489]) <;> simp only [push_cast, seval]; done) | ((try simp only [g3486]); (try simp only [g3487]); (try simp only [g3489]); simp only [push_cast, seval]; done) | (exfalso; clear h; simp_all; done)) (by first | ((try simp only [g3486, g3487, g3489]) <;> simp only [push_cast, seval]; done) | ((try simp only [g3486]); (try simp only [g3487]); (try simp only [g3489]); simp only [push_cast, seval]; done) | (exfalso; clear h; simp_all; done)) rfl rfl rfl)
                  · refine rs 1 [] [] (by kernel_rfl) allP_nil ?_
                    obtain ⟨r3490, hr3490, h⟩ := bind_sx h
                    refine call_x (taskmilllaw_ownTimers_spec r3459.2.2 r3490 hr3490) (args := [.own 3 0 r3459.2.2.length]) (dst := (some 78)) (by kernel_rfl) [(0, .row 24 (fl r3456.2)), (1, .row 28 (Enc.cells r3456.1)), (2, .row 24 (fl r3459.2.1)), (3, .row 24 (fl r3459.2.2)), (4, .row 28 (Enc.cells r3459.1)), (5, .row 24 (fl r3462.2.1)), (6, .row 24 (fl r3462.2.2)), (7, .row 28 (Enc.cells r3462.1)), (8, .row 24 (fl r3464.2.1)), (9, .row 24 (fl r3464.2.2)), (10, .row 28 (Enc.cells r3464.1))] 11 (by kernel_rfl) [] [3] (.own 11 0 r3490.length) [(11, .row 24 (fl r3490))] (by simp only [push_cast, seval]) (by simp only [push_cast, seval]) (by kernel_rfl) (.inr ⟨by simp only [push_cast, seval], by simp only [push_cast, seval]⟩) (by simp only [push_cast, seval]) (by simp only [push_cast, seval]) ?_
                    refine chk_sx h (fun g3492 h => ?_)
                    have k3491 : (r3490 ++ r3462.2.2).length * 16 ≤ 140737488355328 := by first | simpa only [Bool.and_eq_true, decide_eq_true_eq, bne_iff_ne, ne_eq] using g3492 | (simp at g3492 ⊢; omega)
                    refine rs 3 [none, some ⟨.own 12 0 (r3490 ++ r3462.2.2).length, [(12, .row 24 (fl (r3490 ++ r3462.2.2))), (11, .dead)], 13, [11, 6]⟩] _ (by kernel_rfl) (allP_cons (ob_app (P := Try.prog) r3490 r3462.2.2 2 16 rfl (appCells (fl r3462.2.2) 0 (r3462.2.2.length * 2)) r3462.2.2.length (app_own r3462.2.2 2 rfl) rfl (0 + r3462.2.2.length * 2 ≤ (fl r3462.2.2).length) (app_own_le r3462.2.2 2 rfl) 24 (by kernel_rfl) (by decide) k3491 11 12 [6]) allP_nil) ?_
                    obtain ⟨r3493, hr3493, h⟩ := bind_sx h
                    refine call_x (taskmillref_SameTimers_spec (r3490 ++ r3462.2.2) r3464.2.2 r3493 hr3493) (args := [.own 12 0 (r3490 ++ r3462.2.2).length, .own 9 0 r3464.2.2.length]) (dst := (some 82)) (by kernel_rfl) [(0, .row 24 (fl r3456.2)), (1, .row 28 (Enc.cells r3456.1)), (2, .row 24 (fl r3459.2.1)), (3, .row 24 (fl r3459.2.2)), (4, .row 28 (Enc.cells r3459.1)), (5, .row 24 (fl r3462.2.1)), (6, .row 24 (fl r3462.2.2)), (7, .row 28 (Enc.cells r3462.1)), (8, .row 24 (fl r3464.2.1)), (9, .row 24 (fl r3464.2.2)), (10, .row 28 (Enc.cells r3464.1)), (11, .dead), (12, .row 24 (fl (r3490 ++ r3462.2.2)))] 13 (by kernel_rfl) [] [9, 12] (bS r3493) [] (by simp only [push_cast, seval]) (by simp only [push_cast, seval]) (by kernel_rfl) (.inr ⟨by simp only [push_cast, seval], by simp only [push_cast, seval]⟩) (by simp only [push_cast, seval]) (by simp only [push_cast, seval]) ?_
                    refine rs 2 [] [] (by kernel_rfl) allP_nil ?_
                    refine rf [(0, .sl xh.length (fl xh)), (2, iS b), (15, .own 8 0 r3464.2.1.length), (16, .own 9 0 r3464.2.2.length), (84, bS (!r3493))] [(0, .row 24 (fl r3456.2)), (1, .row 28 (Enc.cells r3456.1)), (2, .row 24 (fl r3459.2.1)), (3, .row 24 (fl r3459.2.2)), (4, .row 28 (Enc.cells r3459.1)), (5, .row 24 (fl r3462.2.1)), (6, .row 24 (fl r3462.2.2)), (7, .row 28 (Enc.cells r3462.1)), (8, .row 24 (fl r3464.2.1)), (9, .row 24 (fl r3464.2.2)), (10, .row 28 (Enc.cells r3464.1)), (11, .dead), (12, .row 24 (fl (r3490 ++ r3462.2.2)))] 13 (by kernel_rfl) ?_
                    exact hK3485 ((!r3493), r3464.2.1, r3464.2.2) _ _ _ h (leSt_m [(0, 8), (1, 9)] [] (by first | ((try simp only [g3486, g3487, g3489]) <;> simp only [push_cast, seval]; done) | ((try simp only [g3486]); (try simp only [g3487]); (try simp only [g3489]); simp only [push_cast, seval]; done) | (exfalso; clear h; simp_all; done)) (by first | ((try simp only [g3486, g3487, g3489]) <;> simp only [push_cast, seval]; done) | ((try simp only [g3486]); (try simp only [g3487]); (try simp only [g3489]); simp only [push_cast, seval]; done) | (exfalso; clear h; simp_all; done)) rfl rfl rfl)
            · rintro ⟨t84q2, c0q2, c1q2⟩ h
              try dsimp only at h ⊢
              unfold taskmilllaw_AlarmTimes_j1 at h
              refine cond_sx h (by kernel_rfl) (fun g3656 h => ?_) (fun g3656 h => ?_)
              · refine seq_np ?_
                refine reg_f ?_
                refine rs 1 [] [] (by kernel_rfl) allP_nil ?_
                refine rf [(6, bS false)] [(0, .row 24 (fl c0q2)), (1, .row 24 (fl c1q2))] 2 (by kernel_rfl) ?_
                refine wk_id ?_
                obtain rfl := Option.some.inj h
                refine ret_at (bS false) (by kernel_rfl) ?_
                exact ret_e [] [] (by simp only [push_cast, seval]) (by simp only [push_cast, seval]) rfl rfl rfl
              · refine wk_id ?_
                refine seq_np ?_
                refine seq_np ?_
                refine reg_f ?_
                refine rs 1 [] [] (by kernel_rfl) allP_nil ?_
                refine rf [(0, .sl xh.length (fl xh)), (2, iS b), (15, .own 0 0 c0q2.length), (16, .own 1 0 c1q2.length), (18, iS 0)] [(0, .row 24 (fl c0q2)), (1, .row 24 (fl c1q2))] 2 (by kernel_rfl) ?_
                refine wk_id ?_
                refine block_np ?_
                refine loop_sx (S := Int) (fun a => ([(0, .sl xh.length (fl xh)), (2, iS b), (15, .own 0 0 c0q2.length), (16, .own 1 0 c1q2.length), (18, iS a)], [(0, .row 24 (fl c0q2)), (1, .row 24 (fl c1q2))], 2)) h (leSt_m [(0, 0), (1, 1)] [] (by simp only [push_cast, seval]) (by simp only [push_cast, seval]) rfl rfl rfl) ?_
                rintro i9 o3 R3 h hr3 hn3 hx3 ht3
                try dsimp only at h hn3 ⊢
                unfold taskmilllaw_AlarmTimes_l2 at h
                try dsimp only at h
                refine seq_np ?_
                refine seq_np ?_
                refine reg_f ?_
                refine rs 4 [] [] (by kernel_rfl) allP_nil ?_
                refine rf [(0, .sl xh.length (fl xh)), (2, iS b), (15, .own 0 0 c0q2.length), (16, .own 1 0 c1q2.length), (18, iS i9), (88, bS (decide (i9 < ((c1q2.length : Nat) : Int))))] [(0, .row 24 (fl c0q2)), (1, .row 24 (fl c1q2))] 2 (by kernel_rfl) ?_
                refine wk_id ?_
                refine cond_sx h (by kernel_rfl) (fun g3655 h => ?_) (fun g3655 h => ?_)
                · refine wk_id ?_
                  refine seq_np ?_
                  refine block_np ?_
                  refine chk_sx h (fun g3591 h => ?_)
                  refine chk_sx h (fun g3595 h => ?_)
                  refine chk_sx h (fun g3597 h => ?_)
                  refine seq_cut (A := Unit) (fun _ => ([(0, .sl xh.length (fl xh)), (2, iS b), (15, .own 0 0 c0q2.length), (16, .own 1 0 c1q2.length), (18, iS i9), (115, bS ((decide (b < (ix c1q2 i9).When)) || ((decide ((0 : Int) < i9)) && (decide ((ix c1q2 i9).When < (ix c1q2 (IntKind.i64.wrap (i9 - 1))).When)))))], [(0, .row 24 (fl c0q2)), (1, .row 24 (fl c1q2))], 27)) (fun _ => True) (fun K3589 hK3589 => ?_) (fun _ _ => ?_)
                  · refine reg_t ?_
                    have k3590 : 0 ≤ i9 ∧ i9 < ((c1q2.length : Nat) : Int) := by first | simpa only [Bool.and_eq_true, decide_eq_true_eq, bne_iff_ne, ne_eq] using g3591 | (simp at g3591 ⊢; omega)
                    refine rs 8 [none, none, some ⟨.ptr 1 (0 + (i9).toNat * 2), [], 4, [1]⟩, none, some ⟨iS (ix c1q2 i9).When, [], 6, [1]⟩] _ (by kernel_rfl) (allP_cons (ob_ld c1q2 i9 2 0 ((0 + (i9).toNat * 2) + 0) k3590 rfl (by decide) (by first | rfl | omega) (dflS Try.prog 3) (iS (ix c1q2 i9).When) rfl 6 [1]) (allP_cons (ob_ix_o 1 c1q2.length 0 2 4 i9 k3590) allP_nil)) ?_
                    refine run_split 98 (decide (b < (ix c1q2 i9).When)) (.inl (by kernel_rfl)) (fun g3592 => ?_) (fun g3592 => ?_)
                    · refine rs 17 [] [] (by kernel_rfl) allP_nil ?_
                      refine rt [(0, .sl xh.length (fl xh)), (2, iS b), (15, .own 0 0 c0q2.length), (16, .own 1 0 c1q2.length), (18, iS i9), (115, bS true)] [(0, .row 24 (fl c0q2)), (1, .row 24 (fl c1q2))] 27 follows (by kernel_rfl) ?_
                      exact hK3589 () _ _ _ trivial (leSt_m [(0, 0), (1, 1)] [] (by (try simp only [g3592]) <;> simp only [push_cast, seval]) (by (try simp only [g3592]) <;> simp only [push_cast, seval]) rfl rfl rfl)
                    · refine rs 3 [] [] (by kernel_rfl) allP_nil ?_
                      refine run_split 101 (decide ((0 : Int) < i9)) (.inr (by kernel_rfl)) (fun g3593 => ?_) (fun g3593 => ?_)
                      · have k3594 : 0 ≤ (IntKind.i64.wrap (i9 - 1)) ∧ (IntKind.i64.wrap (i9 - 1)) < ((c1q2.length : Nat) : Int) := by have e := or_use g3595 (by first | ((try simp only [g3592, g3593]) <;> rfl) | ((try simp only [g3592]); (try simp only [g3593]); rfl) | (exfalso; clear h; simp_all; done)); first | simpa only [Bool.and_eq_true, decide_eq_true_eq, bne_iff_ne, ne_eq] using e | (simp at e ⊢; omega)
                        have k3596 : 0 ≤ i9 ∧ i9 < ((c1q2.length : Nat) : Int) := by have e := or_use g3597 (by first | ((try simp only [g3592, g3593]) <;> rfl) | ((try simp only [g3592]); (try simp only [g3593]); rfl) | (exfalso; clear h; simp_all; done)); first | simpa only [Bool.and_eq_true, decide_eq_true_eq, bne_iff_ne, ne_eq] using e | (simp at e ⊢; omega)
                        refine rs 14 [none, none, none, some ⟨.ptr 1 (0 + ((IntKind.i64.wrap (i9 - 1))).toNat * 2), [], 16, [1]⟩, none, some ⟨iS (ix c1q2 (IntKind.i64.wrap (i9 - 1))).When, [], 18, [1]⟩, none, none, some ⟨.ptr 1 (0 + (i9).toNat * 2), [], 21, [1]⟩, none, some ⟨iS (ix c1q2 i9).When, [], 23, [1]⟩] _ (by kernel_rfl) (allP_cons (ob_ld c1q2 i9 2 0 ((0 + (i9).toNat * 2) + 0) k3596 rfl (by decide) (by first | rfl | omega) (dflS Try.prog 3) (iS (ix c1q2 i9).When) rfl 23 [1]) (allP_cons (ob_ix_o 1 c1q2.length 0 2 21 i9 k3596) (allP_cons (ob_ld c1q2 (IntKind.i64.wrap (i9 - 1)) 2 0 ((0 + ((IntKind.i64.wrap (i9 - 1))).toNat * 2) + 0) k3594 rfl (by decide) (by first | rfl | omega) (dflS Try.prog 3) (iS (ix c1q2 (IntKind.i64.wrap (i9 - 1))).When) rfl 18 [1]) (allP_cons (ob_ix_o 1 c1q2.length 0 2 16 (IntKind.i64.wrap (i9 - 1)) k3594) allP_nil)))) ?_
                        refine rt [(0, .sl xh.length (fl xh)), (2, iS b), (15, .own 0 0 c0q2.length), (16, .own 1 0 c1q2.length), (18, iS i9), (115, bS (decide ((ix c1q2 i9).When < (ix c1q2 (IntKind.i64.wrap (i9 - 1))).When)))] [(0, .row 24 (fl c0q2)), (1, .row 24 (fl c1q2))] 27 follows (by kernel_rfl) ?_
                        exact hK3589 () _ _ _ trivial (leSt_m [(0, 0), (1, 1)] [] (by first | ((try simp only [g3592, g3593]) <;> simp only [push_cast, seval]; done) | ((try simp only [g3592]); (try simp only [g3593]); simp only [push_cast, seval]; done) | (exfalso; clear h; simp_all; done)) (by first | ((try simp only [g3592, g3593]) <;> simp only [push_cast, seval]; done) | ((try simp only [g3592]); (try simp only [g3593]); simp only [push_cast, seval]; done) | (exfalso; clear h; simp_all; done)) rfl rfl rfl)
                      · refine rs 14 [] [] (by kernel_rfl) allP_nil ?_
                        refine rt [(0, .sl xh.length (fl xh)), (2, iS b), (15, .own 0 0 c0q2.length), (16, .own 1 0 c1q2.length), (18, iS i9), (115, bS false)] [(0, .row 24 (fl c0q2)), (1, .row 24 (fl c1q2))] 27 follows (by kernel_rfl) ?_
                        exact hK3589 () _ _ _ trivial (leSt_m [(0, 0), (1, 1)] [] (by first | ((try simp only [g3592, g3593]) <;> simp only [push_cast, seval]; done) | ((try simp only [g3592]); (try simp only [g3593]); simp only [push_cast, seval]; done) | (exfalso; clear h; simp_all; done)) (by first | ((try simp only [g3592, g3593]) <;> simp only [push_cast, seval]; done) | ((try simp only [g3592]); (try simp only [g3593]); simp only [push_cast, seval]; done) | (exfalso; clear h; simp_all; done)) rfl rfl rfl)
                  · dsimp only
                    refine cond_sx h (by kernel_rfl) (fun g3598 h => ?_) (fun g3598 h => ?_)
                    · refine seq_np ?_
                      refine reg_f ?_
                      refine rs 1 [] [] (by kernel_rfl) allP_nil ?_
                      refine rf [(6, bS false)] [(0, .row 24 (fl c0q2)), (1, .row 24 (fl c1q2))] 27 (by kernel_rfl) ?_
                      refine wk_id ?_
                      refine rt_cast ht3 ?_
                      obtain ⟨r0, h, e0⟩ := map_sx h
                      have e1 := hr3 r0 e0.symm
                      subst r0
                      obtain rfl := Option.some.inj h
                      refine ret_at (bS false) (by kernel_rfl) ?_
                      exact ret_e [] [] (by simp only [push_cast, seval]) (by simp only [push_cast, seval]) rfl rfl rfl
                    · refine wk_id ?_
                      refine wk_id ?_
                      refine reg_f ?_
                      refine rs 3 [] [] (by kernel_rfl) allP_nil ?_
                      refine rf [(0, .sl xh.length (fl xh)), (2, iS b), (15, .own 0 0 c0q2.length), (16, .own 1 0 c1q2.length), (18, iS (IntKind.i64.wrap (i9 + 1)))] [(0, .row 24 (fl c0q2)), (1, .row 24 (fl c1q2))] 27 (by kernel_rfl) ?_
                      exact hn3 ((IntKind.i64.wrap (i9 + 1))) _ _ _ (Option.some.inj h).symm (leSt_m [(0, 0), (1, 1)] [] (by simp only [push_cast, seval]) (by simp only [push_cast, seval]) rfl rfl rfl)
                · change R3 (.exit 0) _ _ _
                  refine ex_cast hx3 (id := 0) ?_
                  obtain ⟨r0, h, e0⟩ := map_sx h
                  have e1 := hr3 r0 e0.symm
                  subst r0
                  refine wk_id ?_
                  refine wk_id ?_
                  refine seq_np ?_
                  refine seq_np ?_
                  refine reg_f ?_
                  refine rs 1 [] [] (by kernel_rfl) allP_nil ?_
                  refine rf [(0, .sl xh.length (fl xh)), (2, iS b), (15, .own 0 0 c0q2.length), (16, .own 1 0 c1q2.length), (19, iS 0)] [(0, .row 24 (fl c0q2)), (1, .row 24 (fl c1q2))] 2 (by kernel_rfl) ?_
                  refine wk_id ?_
                  refine block_np ?_
                  refine loop_sx (S := Int) (fun a => ([(0, .sl xh.length (fl xh)), (2, iS b), (15, .own 0 0 c0q2.length), (16, .own 1 0 c1q2.length), (19, iS a)], [(0, .row 24 (fl c0q2)), (1, .row 24 (fl c1q2))], 2)) h (leSt_m [(0, 0), (1, 1)] [] (by simp only [push_cast, seval]) (by simp only [push_cast, seval]) rfl rfl rfl) ?_
                  rintro i15 o4 R4 h hr4 hn4 hx4 ht4
                  try dsimp only at h hn4 ⊢
                  unfold taskmilllaw_AlarmTimes_l1 at h
                  try dsimp only at h
                  refine seq_np ?_
                  refine seq_np ?_
                  refine reg_f ?_
                  refine rs 4 [] [] (by kernel_rfl) allP_nil ?_
                  refine rf [(0, .sl xh.length (fl xh)), (2, iS b), (15, .own 0 0 c0q2.length), (16, .own 1 0 c1q2.length), (19, iS i15), (119, bS (decide (i15 < ((c0q2.length : Nat) : Int))))] [(0, .row 24 (fl c0q2)), (1, .row 24 (fl c1q2))] 2 (by kernel_rfl) ?_
                  refine wk_id ?_
                  refine cond_sx h (by kernel_rfl) (fun g3654 h => ?_) (fun g3654 h => ?_)
                  · refine wk_id ?_
                    refine seq_np ?_
                    refine block_np ?_
                    refine chk_sx h (fun g3644 h => ?_)
                    refine seq_np ?_
                    refine reg_f ?_
                    have k3643 : 0 ≤ i15 ∧ i15 < ((c0q2.length : Nat) : Int) := by first | simpa only [Bool.and_eq_true, decide_eq_true_eq, bne_iff_ne, ne_eq] using g3644 | (simp at g3644 ⊢; omega)
                    refine rs 7 [none, none, some ⟨.ptr 0 (0 + (i15).toNat * 2), [], 2, [0]⟩, none, some ⟨iS (ix c0q2 i15).When, [], 2, [0]⟩] _ (by kernel_rfl) (allP_cons (ob_ld c0q2 i15 2 0 ((0 + (i15).toNat * 2) + 0) k3643 rfl (by decide) (by first | rfl | omega) (dflS Try.prog 3) (iS (ix c0q2 i15).When) rfl 2 [0]) (allP_cons (ob_ix_o 0 c0q2.length 0 2 2 i15 k3643) allP_nil)) ?_
                    refine rf [(0, .sl xh.length (fl xh)), (2, iS b), (15, .own 0 0 c0q2.length), (16, .own 1 0 c1q2.length), (19, iS i15), (128, bS (decide ((ix c0q2 i15).When ≤ b)))] [(0, .row 24 (fl c0q2)), (1, .row 24 (fl c1q2))] 2 (by kernel_rfl) ?_
                    refine wk_id ?_
                    refine cond_sx h (by kernel_rfl) (fun g3645 h => ?_) (fun g3645 h => ?_)
                    · refine seq_np ?_
                      refine reg_f ?_
                      refine rs 1 [] [] (by kernel_rfl) allP_nil ?_
                      refine rf [(6, bS false)] [(0, .row 24 (fl c0q2)), (1, .row 24 (fl c1q2))] 2 (by kernel_rfl) ?_
                      refine wk_id ?_
                      refine rt_cast ht4 ?_
                      obtain ⟨r0, h, e0⟩ := map_sx h
                      have e1 := hr4 r0 e0.symm
                      subst r0
                      obtain rfl := Option.some.inj h
                      refine ret_at (bS false) (by kernel_rfl) ?_
                      exact ret_e [] [] (by simp only [push_cast, seval]) (by simp only [push_cast, seval]) rfl rfl rfl
                    · refine wk_id ?_
                      refine wk_id ?_
                      refine reg_f ?_
                      refine rs 3 [] [] (by kernel_rfl) allP_nil ?_
                      refine rf [(0, .sl xh.length (fl xh)), (2, iS b), (15, .own 0 0 c0q2.length), (16, .own 1 0 c1q2.length), (19, iS (IntKind.i64.wrap (i15 + 1)))] [(0, .row 24 (fl c0q2)), (1, .row 24 (fl c1q2))] 2 (by kernel_rfl) ?_
                      exact hn4 ((IntKind.i64.wrap (i15 + 1))) _ _ _ (Option.some.inj h).symm (leSt_m [(0, 0), (1, 1)] [] (by simp only [push_cast, seval]) (by simp only [push_cast, seval]) rfl rfl rfl)
                  · change R4 (.exit 2) _ _ _
                    refine ex_cast hx4 (id := 2) ?_
                    obtain ⟨r0, h, e0⟩ := map_sx h
                    have e1 := hr4 r0 e0.symm
                    subst r0
                    refine wk_id ?_
                    refine wk_id ?_
                    refine seq_np ?_
                    refine reg_f ?_
                    refine rs 1 [] [] (by kernel_rfl) allP_nil ?_
                    obtain ⟨r3650, hr3650, h⟩ := bind_sx h
                    refine call_x (taskmilllaw_ownTimers_spec c1q2 r3650 hr3650) (args := [.own 1 0 c1q2.length]) (dst := (some 130)) (by kernel_rfl) [(0, .row 24 (fl c0q2)), (1, .row 24 (fl c1q2))] 2 (by kernel_rfl) [] [1] (.own 2 0 r3650.length) [(2, .row 24 (fl r3650))] (by simp only [push_cast, seval]) (by simp only [push_cast, seval]) (by kernel_rfl) (.inr ⟨by simp only [push_cast, seval], by simp only [push_cast, seval]⟩) (by simp only [push_cast, seval]) (by simp only [push_cast, seval]) ?_
                    refine chk_sx h (fun g3652 h => ?_)
                    have k3651 : (r3650 ++ c0q2).length * 16 ≤ 140737488355328 := by first | simpa only [Bool.and_eq_true, decide_eq_true_eq, bne_iff_ne, ne_eq] using g3652 | (simp at g3652 ⊢; omega)
                    refine rs 3 [none, some ⟨.own 3 0 (r3650 ++ c0q2).length, [(3, .row 24 (fl (r3650 ++ c0q2))), (2, .dead)], 4, [2, 0]⟩] _ (by kernel_rfl) (allP_cons (ob_app (P := Try.prog) r3650 c0q2 2 16 rfl (appCells (fl c0q2) 0 (c0q2.length * 2)) c0q2.length (app_own c0q2 2 rfl) rfl (0 + c0q2.length * 2 ≤ (fl c0q2).length) (app_own_le c0q2 2 rfl) 24 (by kernel_rfl) (by decide) k3651 2 3 [0]) allP_nil) ?_
                    obtain ⟨r3653, hr3653, h⟩ := bind_sx h
                    refine call_x (taskmilllaw_counted_spec (r3650 ++ c0q2) xh r3653 hr3653) (args := [.own 3 0 (r3650 ++ c0q2).length, .sl xh.length (fl xh)]) (dst := (some 134)) (by kernel_rfl) [(0, .row 24 (fl c0q2)), (1, .row 24 (fl c1q2)), (2, .dead), (3, .row 24 (fl (r3650 ++ c0q2)))] 4 (by kernel_rfl) [] [3] (bS r3653) [] (by simp only [push_cast, seval]) (by simp only [push_cast, seval]) (by kernel_rfl) (.inr ⟨by simp only [push_cast, seval], by simp only [push_cast, seval]⟩) (by simp only [push_cast, seval]) (by simp only [push_cast, seval]) ?_
                    refine rs 1 [] [] (by kernel_rfl) allP_nil ?_
                    refine rf [(6, bS r3653)] [(0, .row 24 (fl c0q2)), (1, .row 24 (fl c1q2)), (2, .dead), (3, .row 24 (fl (r3650 ++ c0q2)))] 4 (by kernel_rfl) ?_
                    refine wk_id ?_
                    obtain rfl := Option.some.inj h
                    refine ret_at (bS r3653) (by kernel_rfl) ?_
                    exact ret_e [] [] (by simp only [push_cast, seval]) (by simp only [push_cast, seval]) rfl rfl rfl

set_option maxRecDepth 100000 in
set_option maxHeartbeats 10000000 in
theorem taskmilllaw_AlarmKeeps_spec (xh : (List Timer)) (t : Timer) (i : Int) (r : Bool) (h : taskmilllaw_AlarmKeeps xh t i = some r) : SpecW Try.prog 7 [.sl xh.length (fl xh), .agg (Enc.cells t), iS i] [] 0 (fun x h n => x = bS r ∧ h = [] ∧ n = 0) := by
  unfold taskmilllaw_AlarmKeeps at h
  refine spec_of (draw_ok _) Try.func7 rfl (by decide) rfl (by kernel_rfl) ?_
  refine seq_np ?_
  refine reg_f ?_
  refine rs 2 [] [] (by kernel_rfl) allP_nil ?_
  refine rf [(0, .sl xh.length (fl xh)), (2, iS i), (4, .ptr 0 0)] [(0, .row 24 (Enc.cells t))] 1 (by kernel_rfl) ?_
  refine wk_id ?_
  refine seq_np ?_
  refine seq_np ?_
  refine reg_f ?_
  obtain ⟨r3706, hr3706, h⟩ := bind_sx h
  refine run_call 8 [] (some 14) (by kernel_rfl) ?_
  refine call_0 (taskmilllaw_alarmBegun_spec r3706 hr3706) (by simp only [push_cast, seval]) (by simp only [push_cast, seval]) ?_
  refine back_f ?_
  refine rs 1 [] [] (by kernel_rfl) allP_nil ?_
  refine rf [(0, .sl xh.length (fl xh)), (2, iS i), (4, .ptr 0 0), (15, bS (!r3706))] [(0, .row 24 (Enc.cells t))] 1 (by kernel_rfl) ?_
  refine wk_id ?_
  refine cond_sx h (by kernel_rfl) (fun g3806 h => ?_) (fun g3806 h => ?_)
  · refine seq_np ?_
    refine reg_f ?_
    refine rs 1 [] [] (by kernel_rfl) allP_nil ?_
    refine rf [(6, bS false)] [(0, .row 24 (Enc.cells t))] 1 (by kernel_rfl) ?_
    refine wk_id ?_
    obtain rfl := Option.some.inj h
    refine ret_at (bS false) (by kernel_rfl) ?_
    exact ret_e [] [] (by simp only [push_cast, seval]) (by simp only [push_cast, seval]) rfl rfl rfl
  · refine wk_id ?_
    refine seq_np ?_
    refine seq_np ?_
    refine reg_f ?_
    refine rs 3 [] [] (by kernel_rfl) allP_nil ?_
    refine rf [(0, .sl xh.length (fl xh)), (2, iS i), (4, .ptr 0 0), (18, bS (decide ((200 : Int) < ((xh.length : Nat) : Int))))] [(0, .row 24 (Enc.cells t))] 1 (by kernel_rfl) ?_
    refine wk_id ?_
    refine cond_sx h (by kernel_rfl) (fun g3805 h => ?_) (fun g3805 h => ?_)
    · refine seq_np ?_
      refine reg_f ?_
      refine rs 1 [] [] (by kernel_rfl) allP_nil ?_
      refine rf [(6, bS true)] [(0, .row 24 (Enc.cells t))] 1 (by kernel_rfl) ?_
      refine wk_id ?_
      obtain rfl := Option.some.inj h
      refine ret_at (bS true) (by kernel_rfl) ?_
      exact ret_e [] [] (by simp only [push_cast, seval]) (by simp only [push_cast, seval]) rfl rfl rfl
    · refine wk_id ?_
      refine seq_np ?_
      refine reg_f ?_
      refine rs 1 [] [] (by kernel_rfl) allP_nil ?_
      obtain ⟨r3709, hr3709, h⟩ := bind_sx h
      refine call_x (alarm_Made_spec xh r3709 hr3709) (args := [.sl xh.length (fl xh)]) (dst := (some 21)) (by kernel_rfl) [(0, .row 24 (Enc.cells t))] 1 (by kernel_rfl) [] [] (.tup [.own 1 0 r3709.2.length, .agg (Enc.cells r3709.1)]) [(1, .row 24 (fl r3709.2))] (by simp only [push_cast, seval]) (by simp only [push_cast, seval]) (by kernel_rfl) (.inl rfl) (by simp only [push_cast, seval]) (by simp only [push_cast, seval]) ?_
      refine rs 6 [] [] (by kernel_rfl) allP_nil ?_
      refine rf [(0, .sl xh.length (fl xh)), (2, iS i), (4, .ptr 0 0), (7, .own 1 0 r3709.2.length), (8, .ptr 2 0)] [(0, .row 24 (Enc.cells t)), (1, .row 24 (fl r3709.2)), (2, .row 28 (Enc.cells r3709.1))] 3 (by kernel_rfl) ?_
      refine wk_id ?_
      refine seq_np ?_
      refine seq_cut (A := Unit) (fun _ => ([(0, .sl xh.length (fl xh)), (2, iS i), (4, .ptr 0 0), (7, .own 1 0 r3709.2.length), (8, .ptr 2 0), (36, bS ((r3709.1.Code != 0) || ((decide (t.Task < 1)) || (decide (t.When < 0)))))], [(0, .row 24 (Enc.cells t)), (1, .row 24 (fl r3709.2)), (2, .row 28 (Enc.cells r3709.1))], 3)) (fun _ => True) (fun K3715 hK3715 => ?_) (fun _ _ => ?_)
      · refine reg_f ?_
        refine rs 4 [] [] (by kernel_rfl) allP_nil ?_
        refine run_split 27 (r3709.1.Code != 0) (.inl (by kernel_rfl)) (fun g3716 => ?_) (fun g3716 => ?_)
        · refine rs 9 [] [] (by kernel_rfl) allP_nil ?_
          refine rf [(0, .sl xh.length (fl xh)), (2, iS i), (4, .ptr 0 0), (7, .own 1 0 r3709.2.length), (8, .ptr 2 0), (36, bS true)] [(0, .row 24 (Enc.cells t)), (1, .row 24 (fl r3709.2)), (2, .row 28 (Enc.cells r3709.1))] 3 (by kernel_rfl) ?_
          exact hK3715 () _ _ _ trivial (leSt_m [(0, 0), (1, 1), (2, 2)] [] (by (try simp only [g3716]) <;> simp only [push_cast, seval]) (by (try simp only [g3716]) <;> simp only [push_cast, seval]) rfl rfl rfl)
        · refine rs 5 [] [] (by kernel_rfl) allP_nil ?_
          refine run_split 32 (decide (t.Task < 1)) (.inl (by kernel_rfl)) (fun g3717 => ?_) (fun g3717 => ?_)
          · refine rs 4 [] [] (by kernel_rfl) allP_nil ?_
            refine rf [(0, .sl xh.length (fl xh)), (2, iS i), (4, .ptr 0 0), (7, .own 1 0 r3709.2.length), (8, .ptr 2 0), (36, bS true)] [(0, .row 24 (Enc.cells t)), (1, .row 24 (fl r3709.2)), (2, .row 28 (Enc.cells r3709.1))] 3 (by kernel_rfl) ?_
            exact hK3715 () _ _ _ trivial (leSt_m [(0, 0), (1, 1), (2, 2)] [] (by first | ((try simp only [g3716, g3717]) <;> simp only [push_cast, seval]; done) | ((try simp only [g3716]); (try simp only [g3717]); simp only [push_cast, seval]; done) | (exfalso; clear h; simp_all; done)) (by first | ((try simp only [g3716, g3717]) <;> simp only [push_cast, seval]; done) | ((try simp only [g3716]); (try simp only [g3717]); simp only [push_cast, seval]; done) | (exfalso; clear h; simp_all; done)) rfl rfl rfl)
          · refine rs 4 [] [] (by kernel_rfl) allP_nil ?_
            refine rf [(0, .sl xh.length (fl xh)), (2, iS i), (4, .ptr 0 0), (7, .own 1 0 r3709.2.length), (8, .ptr 2 0), (36, bS (decide (t.When < 0)))] [(0, .row 24 (Enc.cells t)), (1, .row 24 (fl r3709.2)), (2, .row 28 (Enc.cells r3709.1))] 3 (by kernel_rfl) ?_
            exact hK3715 () _ _ _ trivial (leSt_m [(0, 0), (1, 1), (2, 2)] [] (by first | ((try simp only [g3716, g3717]) <;> simp only [push_cast, seval]; done) | ((try simp only [g3716]); (try simp only [g3717]); simp only [push_cast, seval]; done) | (exfalso; clear h; simp_all; done)) (by first | ((try simp only [g3716, g3717]) <;> simp only [push_cast, seval]; done) | ((try simp only [g3716]); (try simp only [g3717]); simp only [push_cast, seval]; done) | (exfalso; clear h; simp_all; done)) rfl rfl rfl)
      · dsimp only
        refine cond_sx h (by kernel_rfl) (fun g3804 h => ?_) (fun g3804 h => ?_)
        · refine seq_np ?_
          refine reg_f ?_
          refine rs 1 [] [] (by kernel_rfl) allP_nil ?_
          refine rf [(6, bS true)] [(0, .row 24 (Enc.cells t)), (1, .row 24 (fl r3709.2)), (2, .row 28 (Enc.cells r3709.1))] 3 (by kernel_rfl) ?_
          refine wk_id ?_
          obtain rfl := Option.some.inj h
          refine ret_at (bS true) (by kernel_rfl) ?_
          exact ret_e [] [] (by simp only [push_cast, seval]) (by simp only [push_cast, seval]) rfl rfl rfl
        · refine wk_id ?_
          refine seq_np ?_
          refine reg_f ?_
          refine rs 2 [] [] (by kernel_rfl) allP_nil ?_
          obtain ⟨r3719, hr3719, h⟩ := bind_sx h
          refine call_x (alarm_Add_spec r3709.2 t r3719 hr3719) (args := [.own 1 0 r3709.2.length, .agg (Enc.cells t)]) (dst := (some 40)) (by kernel_rfl) [(0, .row 24 (Enc.cells t)), (1, .row 24 (fl r3709.2)), (2, .row 28 (Enc.cells r3709.1))] 3 (by kernel_rfl) [] [1] (.tup [.own 3 0 r3719.2.2.length, iS r3719.1, .agg (Enc.cells r3719.2.1)]) [(3, .row 24 (fl r3719.2.2))] (by simp only [push_cast, seval]) (by simp only [push_cast, seval]) (by kernel_rfl) (.inr ⟨by simp only [push_cast, seval], by simp only [push_cast, seval]⟩) (by simp only [push_cast, seval]) (by simp only [push_cast, seval]) ?_
          refine rs 8 [] [] (by kernel_rfl) allP_nil ?_
          refine rf [(0, .sl xh.length (fl xh)), (2, iS i), (4, .ptr 0 0), (7, .own 1 0 r3709.2.length), (8, .ptr 2 0), (9, .own 3 0 r3719.2.2.length), (10, iS r3719.1), (11, .ptr 4 0)] [(0, .row 24 (Enc.cells t)), (1, .row 24 (fl r3709.2)), (2, .row 28 (Enc.cells r3709.1)), (3, .row 24 (fl r3719.2.2)), (4, .row 28 (Enc.cells r3719.2.1))] 5 (by kernel_rfl) ?_
          refine wk_id ?_
          refine seq_np ?_
          refine seq_cut (A := Bool × Fault × (List Timer)) (fun a => ([(2, iS i), (8, .ptr 0 0), (9, .own 1 0 a.2.2.length), (92, bS a.1)], [(0, .row 28 (Enc.cells a.2.1)), (1, .row 24 (fl a.2.2))], 2)) (fun a => (taskmilllaw_AlarmKeeps_j2 i a.1 a.2.1 a.2.2) = some r) (fun K3756 hK3756 => ?_) ?_
          · refine reg_t ?_
            refine rs 4 [] [] (by kernel_rfl) allP_nil ?_
            refine run_br h 47 (.inl (by kernel_rfl)) (fun g3757 h => ?_) (fun g3757 h => ?_)
            · refine rs 45 [] [] (by kernel_rfl) allP_nil ?_
              refine rt [(2, iS i), (8, .ptr 2 0), (9, .own 3 0 r3719.2.2.length), (92, bS true)] [(0, .row 24 (Enc.cells t)), (1, .row 24 (fl r3709.2)), (2, .row 28 (Enc.cells r3709.1)), (3, .row 24 (fl r3719.2.2)), (4, .row 28 (Enc.cells r3719.2.1))] 54 follows (by kernel_rfl) ?_
              exact hK3756 (true, r3709.1, r3719.2.2) _ _ _ h (leSt_m [(0, 2), (1, 3)] [] (by (try simp only [g3757]) <;> simp only [push_cast, seval]) (by (try simp only [g3757]) <;> simp only [push_cast, seval]) rfl rfl rfl)
            · refine rs 1 [] [] (by kernel_rfl) allP_nil ?_
              obtain ⟨r3758, hr3758, h⟩ := bind_sx h
              refine call_x (alarm_Check_spec r3709.2 r3758 hr3758) (args := [.own 1 0 r3709.2.length]) (dst := (some 49)) (by kernel_rfl) [(0, .row 24 (Enc.cells t)), (1, .row 24 (fl r3709.2)), (2, .row 28 (Enc.cells r3709.1)), (3, .row 24 (fl r3719.2.2)), (4, .row 28 (Enc.cells r3719.2.1))] 10 (by kernel_rfl) [] [1] (.agg (Enc.cells r3758)) [] (by simp only [push_cast, seval]) (by simp only [push_cast, seval]) (by kernel_rfl) (.inr ⟨by simp only [push_cast, seval], by simp only [push_cast, seval]⟩) (by simp only [push_cast, seval]) (by simp only [push_cast, seval]) ?_
              refine rs 4 [] [] (by kernel_rfl) allP_nil ?_
              refine run_br h 53 (.inl (by kernel_rfl)) (fun g3759 h => ?_) (fun g3759 h => ?_)
              · refine rn 10 [(0, .sl xh.length (fl xh)), (2, iS i), (4, .ptr 0 0), (7, .own 1 0 r3709.2.length), (8, .ptr 2 0), (9, .own 3 0 r3719.2.2.length), (10, iS r3719.1), (53, bS true)] [(0, .row 24 (Enc.cells t)), (1, .row 24 (fl r3709.2)), (2, .row 28 (Enc.cells r3709.1)), (3, .row 24 (fl r3719.2.2)), (4, .row 28 (Enc.cells r3719.2.1))] 15 (by kernel_rfl) ?_
                refine rs 39 [] [] (by kernel_rfl) allP_nil ?_
                refine rt [(2, iS i), (8, .ptr 2 0), (9, .own 3 0 r3719.2.2.length), (92, bS true)] [(0, .row 24 (Enc.cells t)), (1, .row 24 (fl r3709.2)), (2, .row 28 (Enc.cells r3709.1)), (3, .row 24 (fl r3719.2.2)), (4, .row 28 (Enc.cells r3719.2.1))] 54 follows (by kernel_rfl) ?_
                exact hK3756 (true, r3709.1, r3719.2.2) _ _ _ h (leSt_m [(0, 2), (1, 3)] [] (by first | ((try simp only [g3757, g3759]) <;> simp only [push_cast, seval]; done) | ((try simp only [g3757]); (try simp only [g3759]); simp only [push_cast, seval]; done) | (exfalso; clear h; simp_all; done)) (by first | ((try simp only [g3757, g3759]) <;> simp only [push_cast, seval]; done) | ((try simp only [g3757]); (try simp only [g3759]); simp only [push_cast, seval]; done) | (exfalso; clear h; simp_all; done)) rfl rfl rfl)
              · refine rn 10 [(0, .sl xh.length (fl xh)), (2, iS i), (4, .ptr 0 0), (7, .own 1 0 r3709.2.length), (8, .ptr 2 0), (9, .own 3 0 r3719.2.2.length), (10, iS r3719.1), (53, bS false)] [(0, .row 24 (Enc.cells t)), (1, .row 24 (fl r3709.2)), (2, .row 28 (Enc.cells r3709.1)), (3, .row 24 (fl r3719.2.2)), (4, .row 28 (Enc.cells r3719.2.1))] 15 (by kernel_rfl) ?_
                refine rs 1 [] [] (by kernel_rfl) allP_nil ?_
                obtain ⟨r3760, hr3760, h⟩ := bind_sx h
                refine call_x (alarm_Check_spec r3719.2.2 r3760 hr3760) (args := [.own 3 0 r3719.2.2.length]) (dst := (some 55)) (by kernel_rfl) [(0, .row 24 (Enc.cells t)), (1, .row 24 (fl r3709.2)), (2, .row 28 (Enc.cells r3709.1)), (3, .row 24 (fl r3719.2.2)), (4, .row 28 (Enc.cells r3719.2.1))] 16 (by kernel_rfl) [] [3] (.agg (Enc.cells r3760)) [] (by simp only [push_cast, seval]) (by simp only [push_cast, seval]) (by kernel_rfl) (.inr ⟨by simp only [push_cast, seval], by simp only [push_cast, seval]⟩) (by simp only [push_cast, seval]) (by simp only [push_cast, seval]) ?_
                refine rs 4 [] [] (by kernel_rfl) allP_nil ?_
                refine run_br h 59 (.inl (by kernel_rfl)) (fun g3761 h => ?_) (fun g3761 h => ?_)
                · refine rs 33 [] [] (by kernel_rfl) allP_nil ?_
                  refine rt [(2, iS i), (8, .ptr 2 0), (9, .own 3 0 r3719.2.2.length), (92, bS true)] [(0, .row 24 (Enc.cells t)), (1, .row 24 (fl r3709.2)), (2, .row 28 (Enc.cells r3709.1)), (3, .row 24 (fl r3719.2.2)), (4, .row 28 (Enc.cells r3719.2.1))] 54 follows (by kernel_rfl) ?_
                  exact hK3756 (true, r3709.1, r3719.2.2) _ _ _ h (leSt_m [(0, 2), (1, 3)] [] (by first | ((try simp only [g3757, g3759, g3761]) <;> simp only [push_cast, seval]; done) | ((try simp only [g3757]); (try simp only [g3759]); (try simp only [g3761]); simp only [push_cast, seval]; done) | (exfalso; clear h; simp_all; done)) (by first | ((try simp only [g3757, g3759, g3761]) <;> simp only [push_cast, seval]; done) | ((try simp only [g3757]); (try simp only [g3759]); (try simp only [g3761]); simp only [push_cast, seval]; done) | (exfalso; clear h; simp_all; done)) rfl rfl rfl)
                · refine rs 2 [] [] (by kernel_rfl) allP_nil ?_
                  obtain ⟨r3762, hr3762, h⟩ := bind_sx h
                  refine call_x (taskmilllaw_counted_spec r3709.2 xh r3762 hr3762) (args := [.own 1 0 r3709.2.length, .sl xh.length (fl xh)]) (dst := (some 62)) (by kernel_rfl) [(0, .row 24 (Enc.cells t)), (1, .row 24 (fl r3709.2)), (2, .row 28 (Enc.cells r3709.1)), (3, .row 24 (fl r3719.2.2)), (4, .row 28 (Enc.cells r3719.2.1))] 23 (by kernel_rfl) [] [1] (bS r3762) [] (by simp only [push_cast, seval]) (by simp only [push_cast, seval]) (by kernel_rfl) (.inr ⟨by simp only [push_cast, seval], by simp only [push_cast, seval]⟩) (by simp only [push_cast, seval]) (by simp only [push_cast, seval]) ?_
                  refine rn 19 [(0, .sl xh.length (fl xh)), (2, iS i), (4, .ptr 0 0), (8, .ptr 2 0), (9, .own 3 0 r3719.2.2.length), (10, iS r3719.1), (59, bS false), (62, bS r3762)] [(0, .row 24 (Enc.cells t)), (1, .row 24 (fl r3709.2)), (2, .row 28 (Enc.cells r3709.1)), (3, .row 24 (fl r3719.2.2)), (4, .row 28 (Enc.cells r3719.2.1))] 24 (by kernel_rfl) ?_
                  refine rs 3 [] [] (by kernel_rfl) allP_nil ?_
                  refine run_br h 65 (.inl (by kernel_rfl)) (fun g3763 h => ?_) (fun g3763 h => ?_)
                  · refine rs 27 [] [] (by kernel_rfl) allP_nil ?_
                    refine rt [(2, iS i), (8, .ptr 2 0), (9, .own 3 0 r3719.2.2.length), (92, bS true)] [(0, .row 24 (Enc.cells t)), (1, .row 24 (fl r3709.2)), (2, .row 28 (Enc.cells r3709.1)), (3, .row 24 (fl r3719.2.2)), (4, .row 28 (Enc.cells r3719.2.1))] 54 follows (by kernel_rfl) ?_
                    exact hK3756 (true, r3709.1, r3719.2.2) _ _ _ h (leSt_m [(0, 2), (1, 3)] [] (by first | ((try simp only [g3757, g3759, g3761, g3763]) <;> simp only [push_cast, seval]; done) | ((try simp only [g3757]); (try simp only [g3759]); (try simp only [g3761]); (try simp only [g3763]); simp only [push_cast, seval]; done) | (exfalso; clear h; simp_all; done)) (by first | ((try simp only [g3757, g3759, g3761, g3763]) <;> simp only [push_cast, seval]; done) | ((try simp only [g3757]); (try simp only [g3759]); (try simp only [g3761]); (try simp only [g3763]); simp only [push_cast, seval]; done) | (exfalso; clear h; simp_all; done)) rfl rfl rfl)
                  · refine rs 2 [] [] (by kernel_rfl) allP_nil ?_
                    obtain ⟨r3764, hr3764, h⟩ := bind_sx h
                    refine call_x (taskmilllaw_ownTimers_spec xh r3764 hr3764) (args := [.sl xh.length (fl xh)]) (dst := (some 68)) (by kernel_rfl) [(0, .row 24 (Enc.cells t)), (1, .row 24 (fl r3709.2)), (2, .row 28 (Enc.cells r3709.1)), (3, .row 24 (fl r3719.2.2)), (4, .row 28 (Enc.cells r3719.2.1))] 29 (by kernel_rfl) [] [] (.own 29 0 r3764.length) [(29, .row 24 (fl r3764))] (by simp only [push_cast, seval]) (by simp only [push_cast, seval]) (by kernel_rfl) (.inl rfl) (by simp only [push_cast, seval]) (by simp only [push_cast, seval]) ?_
                    refine chk_sx h (fun g3766 h => ?_)
                    have k3765 : (r3764 ++ ([t] : List Timer)).length * 16 ≤ 140737488355328 := by first | simpa only [Bool.and_eq_true, decide_eq_true_eq, bne_iff_ne, ne_eq] using g3766 | (simp at g3766 ⊢; omega)
                    refine rs 3 [none, none, some ⟨.own 34 0 (r3764 ++ ([t] : List Timer)).length, [(34, .row 24 (fl (r3764 ++ ([t] : List Timer)))), (29, .dead)], 35, [29, 32]⟩] _ (by kernel_rfl) (allP_cons (ob_app (P := Try.prog) r3764 ([t] : List Timer) 2 16 rfl (appCells (fl ([t] : List Timer)) 0 (([t] : List Timer).length * 2)) ([t] : List Timer).length (app_own ([t] : List Timer) 2 rfl) rfl (0 + ([t] : List Timer).length * 2 ≤ (fl ([t] : List Timer)).length) (app_own_le ([t] : List Timer) 2 rfl) 24 (by kernel_rfl) (by decide) k3765 29 34 [32]) allP_nil) ?_
                    obtain ⟨r3767, hr3767, h⟩ := bind_sx h
                    refine call_x (taskmilllaw_counted_spec r3719.2.2 (r3764 ++ ([t] : List Timer)) r3767 hr3767) (args := [.own 3 0 r3719.2.2.length, .own 34 0 (r3764 ++ ([t] : List Timer)).length]) (dst := (some 72)) (by kernel_rfl) [(0, .row 24 (Enc.cells t)), (1, .row 24 (fl r3709.2)), (2, .row 28 (Enc.cells r3709.1)), (3, .row 24 (fl r3719.2.2)), (4, .row 28 (Enc.cells r3719.2.1)), (29, .dead), (32, .row 24 (fl ([t] : List Timer))), (34, .row 24 (fl (r3764 ++ ([t] : List Timer))))] 36 (by kernel_rfl) [] [3, 34] (bS r3767) [] (by simp only [push_cast, seval]) (by simp only [push_cast, seval]) (by kernel_rfl) (.inr ⟨by simp only [push_cast, seval], by simp only [push_cast, seval]⟩) (by simp only [push_cast, seval]) (by simp only [push_cast, seval]) ?_
                    refine rn 29 [(2, iS i), (4, .ptr 0 0), (8, .ptr 2 0), (9, .own 3 0 r3719.2.2.length), (10, iS r3719.1), (65, bS false), (72, bS r3767)] [(0, .row 24 (Enc.cells t)), (1, .row 24 (fl r3709.2)), (2, .row 28 (Enc.cells r3709.1)), (3, .row 24 (fl r3719.2.2)), (4, .row 28 (Enc.cells r3719.2.1)), (29, .dead), (32, .row 24 (fl ([t] : List Timer))), (34, .row 24 (fl (r3764 ++ ([t] : List Timer))))] 37 (by kernel_rfl) ?_
                    refine rs 3 [] [] (by kernel_rfl) allP_nil ?_
                    refine run_br h 75 (.inl (by kernel_rfl)) (fun g3768 h => ?_) (fun g3768 h => ?_)
                    · refine rs 17 [] [] (by kernel_rfl) allP_nil ?_
                      refine rt [(2, iS i), (8, .ptr 2 0), (9, .own 3 0 r3719.2.2.length), (92, bS true)] [(0, .row 24 (Enc.cells t)), (1, .row 24 (fl r3709.2)), (2, .row 28 (Enc.cells r3709.1)), (3, .row 24 (fl r3719.2.2)), (4, .row 28 (Enc.cells r3719.2.1)), (29, .dead), (32, .row 24 (fl ([t] : List Timer))), (34, .row 24 (fl (r3764 ++ ([t] : List Timer))))] 57 follows (by kernel_rfl) ?_
                      exact hK3756 (true, r3709.1, r3719.2.2) _ _ _ h (leSt_m [(0, 2), (1, 3)] [] (by first | ((try simp only [g3757, g3759, g3761, g3763, g3768]) <;> simp only [push_cast, seval]; done) | ((try simp only [g3757]); (try simp only [g3759]); (try simp only [g3761]); (try simp only [g3763]); (try simp only [g3768]); simp only [push_cast, seval]; done) | (exfalso; clear h; simp_all; done)) (by first | ((try simp only [g3757, g3759, g3761, g3763, g3768]) <;> simp only [push_cast, seval]; done) | ((try simp only [g3757]); (try simp only [g3759]); (try simp only [g3761]); (try simp only [g3763]); (try simp only [g3768]); simp only [push_cast, seval]; done) | (exfalso; clear h; simp_all; done)) rfl rfl rfl)
                    · refine rs 4 [] [] (by kernel_rfl) allP_nil ?_
                      refine run_br h 79 (.inl (by kernel_rfl)) (fun g3769 h => ?_) (fun g3769 h => ?_)
                      · refine rs 13 [] [] (by kernel_rfl) allP_nil ?_
                        refine rt [(2, iS i), (8, .ptr 2 0), (9, .own 3 0 r3719.2.2.length), (92, bS true)] [(0, .row 24 (Enc.cells t)), (1, .row 24 (fl r3709.2)), (2, .row 28 (Enc.cells r3709.1)), (3, .row 24 (fl r3719.2.2)), (4, .row 28 (Enc.cells r3719.2.1)), (29, .dead), (32, .row 24 (fl ([t] : List Timer))), (34, .row 24 (fl (r3764 ++ ([t] : List Timer))))] 57 follows (by kernel_rfl) ?_
                        exact hK3756 (true, r3709.1, r3719.2.2) _ _ _ h (leSt_m [(0, 2), (1, 3)] [] (by first | ((try simp only [g3757, g3759, g3761, g3763, g3768, g3769]) <;> simp only [push_cast, seval]; done) | ((try simp only [g3757]); (try simp only [g3759]); (try simp only [g3761]); (try simp only [g3763]); (try simp only [g3768]); (try simp only [g3769]); simp only [push_cast, seval]; done) | (exfalso; clear h; simp_all; done)) (by first | ((try simp only [g3757, g3759, g3761, g3763, g3768, g3769]) <;> simp only [push_cast, seval]; done) | ((try simp only [g3757]); (try simp only [g3759]); (try simp only [g3761]); (try simp only [g3763]); (try simp only [g3768]); (try simp only [g3769]); simp only [push_cast, seval]; done) | (exfalso; clear h; simp_all; done)) rfl rfl rfl)
                      · refine rs 6 [] [] (by kernel_rfl) allP_nil ?_
                        refine run_br h 85 (.inl (by kernel_rfl)) (fun g3770 h => ?_) (fun g3770 h => ?_)
                        · refine rn 42 [(2, iS i), (4, .ptr 0 0), (8, .ptr 2 0), (9, .own 3 0 r3719.2.2.length), (10, iS r3719.1), (85, bS true)] [(0, .row 24 (Enc.cells t)), (1, .row 24 (fl r3709.2)), (2, .row 28 (Enc.cells r3709.1)), (3, .row 24 (fl r3719.2.2)), (4, .row 28 (Enc.cells r3719.2.1)), (29, .dead), (32, .row 24 (fl ([t] : List Timer))), (34, .row 24 (fl (r3764 ++ ([t] : List Timer))))] 50 (by kernel_rfl) ?_
                          refine rs 7 [] [] (by kernel_rfl) allP_nil ?_
                          refine rt [(2, iS i), (8, .ptr 2 0), (9, .own 3 0 r3719.2.2.length), (92, bS true)] [(0, .row 24 (Enc.cells t)), (1, .row 24 (fl r3709.2)), (2, .row 28 (Enc.cells r3709.1)), (3, .row 24 (fl r3719.2.2)), (4, .row 28 (Enc.cells r3719.2.1)), (29, .dead), (32, .row 24 (fl ([t] : List Timer))), (34, .row 24 (fl (r3764 ++ ([t] : List Timer))))] 57 follows (by kernel_rfl) ?_
                          exact hK3756 (true, r3709.1, r3719.2.2) _ _ _ h (leSt_m [(0, 2), (1, 3)] [] (by first | ((try simp only [g3757, g3759, g3761, g3763, g3768, g3769, g3770]) <;> simp only [push_cast, seval]; done) | ((try simp only [g3757]); (try simp only [g3759]); (try simp only [g3761]); (try simp only [g3763]); (try simp only [g3768]); (try simp only [g3769]); (try simp only [g3770]); simp only [push_cast, seval]; done) | (exfalso; clear h; simp_all; done)) (by first | ((try simp only [g3757, g3759, g3761, g3763, g3768, g3769, g3770]) <;> simp only [push_cast, seval]; done) | ((try simp only [g3757]); (try simp only [g3759]); (try simp only [g3761]); (try simp only [g3763]); (try simp only [g3768]); (try simp only [g3769]); (try simp only [g3770]); simp only [push_cast, seval]; done) | (exfalso; clear h; simp_all; done)) rfl rfl rfl)
                        · refine rn 42 [(2, iS i), (4, .ptr 0 0), (8, .ptr 2 0), (9, .own 3 0 r3719.2.2.length), (10, iS r3719.1), (85, bS false)] [(0, .row 24 (Enc.cells t)), (1, .row 24 (fl r3709.2)), (2, .row 28 (Enc.cells r3709.1)), (3, .row 24 (fl r3719.2.2)), (4, .row 28 (Enc.cells r3719.2.1)), (29, .dead), (32, .row 24 (fl ([t] : List Timer))), (34, .row 24 (fl (r3764 ++ ([t] : List Timer))))] 50 (by kernel_rfl) ?_
                          refine chk_sx h (fun g3772 h => ?_)
                          have k3771 : 0 ≤ r3719.1 ∧ r3719.1 < ((r3719.2.2.length : Nat) : Int) := by first | simpa only [Bool.and_eq_true, decide_eq_true_eq, bne_iff_ne, ne_eq] using g3772 | (simp at g3772 ⊢; omega)
                          refine rs 7 [none, none, some ⟨.ptr 3 (0 + (r3719.1).toNat * 2), [], 52, [3]⟩, some ⟨.agg (Enc.cells (ix r3719.2.2 r3719.1)), [], 53, [3]⟩] _ (by kernel_rfl) (allP_cons (ob_ldw r3719.2.2 r3719.1 2 (0 + (r3719.1).toNat * 2) k3771 rfl (by first | rfl | omega) [iS (ix r3719.2.2 r3719.1).When, iS (ix r3719.2.2 r3719.1).Task] rfl 53 [3]) (allP_cons (ob_ix_o 3 r3719.2.2.length 0 2 52 r3719.1 k3771) allP_nil)) ?_
                          refine rt [(2, iS i), (8, .ptr 2 0), (9, .own 3 0 r3719.2.2.length), (92, bS (!(((ix r3719.2.2 r3719.1).When == t.When) && (((ix r3719.2.2 r3719.1).Task == t.Task) && true))))] [(0, .row 24 (Enc.cells t)), (1, .row 24 (fl r3709.2)), (2, .row 28 (Enc.cells r3709.1)), (3, .row 24 (fl r3719.2.2)), (4, .row 28 (Enc.cells r3719.2.1)), (29, .dead), (32, .row 24 (fl ([t] : List Timer))), (34, .row 24 (fl (r3764 ++ ([t] : List Timer))))] 57 follows (by kernel_rfl) ?_
                          exact hK3756 ((!(((ix r3719.2.2 r3719.1).When == t.When) && (((ix r3719.2.2 r3719.1).Task == t.Task) && true))), r3709.1, r3719.2.2) _ _ _ h (leSt_m [(0, 2), (1, 3)] [] (by first | ((try simp only [g3757, g3759, g3761, g3763, g3768, g3769, g3770]) <;> simp only [push_cast, seval]; done) | ((try simp only [g3757]); (try simp only [g3759]); (try simp only [g3761]); (try simp only [g3763]); (try simp only [g3768]); (try simp only [g3769]); (try simp only [g3770]); simp only [push_cast, seval]; done) | (exfalso; clear h; simp_all; done)) (by first | ((try simp only [g3757, g3759, g3761, g3763, g3768, g3769, g3770]) <;> simp only [push_cast, seval]; done) | ((try simp only [g3757]); (try simp only [g3759]); (try simp only [g3761]); (try simp only [g3763]); (try simp only [g3768]); (try simp only [g3769]); (try simp only [g3770]); simp only [push_cast, seval]; done) | (exfalso; clear h; simp_all; done)) rfl rfl rfl)
          · rintro ⟨t92q2, c0q2, c1q2⟩ h
            try dsimp only at h ⊢
            unfold taskmilllaw_AlarmKeeps_j2 at h
            refine cond_sx h (by kernel_rfl) (fun g3803 h => ?_) (fun g3803 h => ?_)
            · refine seq_np ?_
              refine reg_f ?_
              refine rs 1 [] [] (by kernel_rfl) allP_nil ?_
              refine rf [(6, bS false)] [(0, .row 28 (Enc.cells c0q2)), (1, .row 24 (fl c1q2))] 2 (by kernel_rfl) ?_
              refine wk_id ?_
              obtain rfl := Option.some.inj h
              refine ret_at (bS false) (by kernel_rfl) ?_
              exact ret_e [] [] (by simp only [push_cast, seval]) (by simp only [push_cast, seval]) rfl rfl rfl
            · refine wk_id ?_
              refine seq_np ?_
              refine seq_cut (A := Unit) (fun _ => ([(2, iS i), (8, .ptr 0 0), (9, .own 1 0 c1q2.length), (100, bS ((decide (i < 0)) || (decide (((c1q2.length : Nat) : Int) ≤ i))))], [(0, .row 28 (Enc.cells c0q2)), (1, .row 24 (fl c1q2))], 2)) (fun _ => True) (fun K3776 hK3776 => ?_) (fun _ _ => ?_)
              · refine reg_f ?_
                refine rs 3 [] [] (by kernel_rfl) allP_nil ?_
                refine run_split 95 (decide (i < 0)) (.inl (by kernel_rfl)) (fun g3777 => ?_) (fun g3777 => ?_)
                · refine rs 5 [] [] (by kernel_rfl) allP_nil ?_
                  refine rf [(2, iS i), (8, .ptr 0 0), (9, .own 1 0 c1q2.length), (100, bS true)] [(0, .row 28 (Enc.cells c0q2)), (1, .row 24 (fl c1q2))] 2 (by kernel_rfl) ?_
                  exact hK3776 () _ _ _ trivial (leSt_m [(0, 0), (1, 1)] [] (by (try simp only [g3777]) <;> simp only [push_cast, seval]) (by (try simp only [g3777]) <;> simp only [push_cast, seval]) rfl rfl rfl)
                · refine rs 5 [] [] (by kernel_rfl) allP_nil ?_
                  refine rf [(2, iS i), (8, .ptr 0 0), (9, .own 1 0 c1q2.length), (100, bS (decide (((c1q2.length : Nat) : Int) ≤ i)))] [(0, .row 28 (Enc.cells c0q2)), (1, .row 24 (fl c1q2))] 2 (by kernel_rfl) ?_
                  exact hK3776 () _ _ _ trivial (leSt_m [(0, 0), (1, 1)] [] (by (try simp only [g3777]) <;> simp only [push_cast, seval]) (by (try simp only [g3777]) <;> simp only [push_cast, seval]) rfl rfl rfl)
              · dsimp only
                refine cond_sx h (by kernel_rfl) (fun g3802 h => ?_) (fun g3802 h => ?_)
                · refine seq_np ?_
                  refine reg_f ?_
                  refine rs 1 [] [] (by kernel_rfl) allP_nil ?_
                  refine rf [(6, bS true)] [(0, .row 28 (Enc.cells c0q2)), (1, .row 24 (fl c1q2))] 2 (by kernel_rfl) ?_
                  refine wk_id ?_
                  obtain rfl := Option.some.inj h
                  refine ret_at (bS true) (by kernel_rfl) ?_
                  exact ret_e [] [] (by simp only [push_cast, seval]) (by simp only [push_cast, seval]) rfl rfl rfl
                · refine wk_id ?_
                  refine seq_np ?_
                  refine reg_f ?_
                  refine rs 2 [] [] (by kernel_rfl) allP_nil ?_
                  obtain ⟨r3779, hr3779, h⟩ := bind_sx h
                  refine call_x (alarm_Drop_spec c1q2 i r3779 hr3779) (args := [.own 1 0 c1q2.length, iS i]) (dst := (some 104)) (by kernel_rfl) [(0, .row 28 (Enc.cells c0q2)), (1, .row 24 (fl c1q2))] 2 (by kernel_rfl) [] [1] (.tup [.own 2 0 r3779.2.2.length, .agg (Enc.cells r3779.1), .agg (Enc.cells r3779.2.1)]) [(2, .row 24 (fl r3779.2.2))] (by simp only [push_cast, seval]) (by simp only [push_cast, seval]) (by kernel_rfl) (.inr ⟨by simp only [push_cast, seval], by simp only [push_cast, seval]⟩) (by simp only [push_cast, seval]) (by simp only [push_cast, seval]) ?_
                  refine rs 8 [] [] (by kernel_rfl) allP_nil ?_
                  refine rf [(2, iS i), (8, .ptr 0 0), (9, .own 1 0 c1q2.length), (12, .own 2 0 r3779.2.2.length), (13, .ptr 3 0)] [(0, .row 28 (Enc.cells r3779.2.1)), (1, .row 24 (fl c1q2)), (2, .row 24 (fl r3779.2.2)), (3, .row 24 (Enc.cells r3779.1))] 4 (by kernel_rfl) ?_
                  refine wk_id ?_
                  refine seq_cut (A := Bool) (fun a => ([(6, bS a)], [], 0)) (fun a => (taskmilllaw_AlarmKeeps_j1 a) = some r) (fun K3791 hK3791 => ?_) ?_
                  · refine reg_t ?_
                    refine rs 4 [] [] (by kernel_rfl) allP_nil ?_
                    refine run_br h 111 (.inl (by kernel_rfl)) (fun g3792 h => ?_) (fun g3792 h => ?_)
                    · refine rs 1 [] [] (by kernel_rfl) allP_nil ?_
                      obtain ⟨r3793, hr3793, h⟩ := bind_sx h
                      refine call_x (alarm_Check_spec r3779.2.2 r3793 hr3793) (args := [.own 2 0 r3779.2.2.length]) (dst := (some 113)) (by kernel_rfl) [(0, .row 28 (Enc.cells r3779.2.1)), (1, .row 24 (fl c1q2)), (2, .row 24 (fl r3779.2.2)), (3, .row 24 (Enc.cells r3779.1))] 9 (by kernel_rfl) [] [2] (.agg (Enc.cells r3793)) [] (by simp only [push_cast, seval]) (by simp only [push_cast, seval]) (by kernel_rfl) (.inr ⟨by simp only [push_cast, seval], by simp only [push_cast, seval]⟩) (by simp only [push_cast, seval]) (by simp only [push_cast, seval]) ?_
                      refine rs 4 [] [] (by kernel_rfl) allP_nil ?_
                      refine run_br h 117 (.inl (by kernel_rfl)) (fun g3794 h => ?_) (fun g3794 h => ?_)
                      · refine rn 10 [(2, iS i), (9, .own 1 0 c1q2.length), (12, .own 2 0 r3779.2.2.length), (13, .ptr 3 0), (117, bS true)] [(0, .row 28 (Enc.cells r3779.2.1)), (1, .row 24 (fl c1q2)), (2, .row 24 (fl r3779.2.2)), (3, .row 24 (Enc.cells r3779.1))] 14 (by kernel_rfl) ?_
                        refine chk_sx h (fun g3796 h => ?_)
                        have k3795 : 0 ≤ i ∧ i < ((c1q2.length : Nat) : Int) := by first | simpa only [Bool.and_eq_true, decide_eq_true_eq, bne_iff_ne, ne_eq] using g3796 | (simp at g3796 ⊢; omega)
                        refine rs 8 [none, none, none, some ⟨.ptr 1 (0 + (i).toNat * 2), [], 17, [1]⟩, some ⟨.agg (Enc.cells (ix c1q2 i)), [], 18, [1]⟩] _ (by kernel_rfl) (allP_cons (ob_ldw c1q2 i 2 (0 + (i).toNat * 2) k3795 rfl (by first | rfl | omega) [iS (ix c1q2 i).When, iS (ix c1q2 i).Task] rfl 18 [1]) (allP_cons (ob_ix_o 1 c1q2.length 0 2 17 i k3795) allP_nil)) ?_
                        refine run_br h 125 (.inl (by kernel_rfl)) (fun g3797 h => ?_) (fun g3797 h => ?_)
                        · refine rs 1 [] [] (by kernel_rfl) allP_nil ?_
                          obtain ⟨r3798, hr3798, h⟩ := bind_sx h
                          refine call_x (taskmilllaw_ownTimers_spec r3779.2.2 r3798 hr3798) (args := [.own 2 0 r3779.2.2.length]) (dst := (some 127)) (by kernel_rfl) [(0, .row 28 (Enc.cells r3779.2.1)), (1, .row 24 (fl c1q2)), (2, .row 24 (fl r3779.2.2)), (3, .row 24 (Enc.cells r3779.1))] 23 (by kernel_rfl) [] [2] (.own 23 0 r3798.length) [(23, .row 24 (fl r3798))] (by simp only [push_cast, seval]) (by simp only [push_cast, seval]) (by kernel_rfl) (.inr ⟨by simp only [push_cast, seval], by simp only [push_cast, seval]⟩) (by simp only [push_cast, seval]) (by simp only [push_cast, seval]) ?_
                          refine chk_sx h (fun g3800 h => ?_)
                          have k3799 : (r3798 ++ ([r3779.1] : List Timer)).length * 16 ≤ 140737488355328 := by first | simpa only [Bool.and_eq_true, decide_eq_true_eq, bne_iff_ne, ne_eq] using g3800 | (simp at g3800 ⊢; omega)
                          refine rs 4 [none, none, some ⟨.own 28 0 (r3798 ++ ([r3779.1] : List Timer)).length, [(28, .row 24 (fl (r3798 ++ ([r3779.1] : List Timer)))), (23, .dead)], 29, [23, 26]⟩] _ (by kernel_rfl) (allP_cons (ob_app (P := Try.prog) r3798 ([r3779.1] : List Timer) 2 16 rfl (appCells (fl ([r3779.1] : List Timer)) 0 (([r3779.1] : List Timer).length * 2)) ([r3779.1] : List Timer).length (app_own ([r3779.1] : List Timer) 2 rfl) rfl (0 + ([r3779.1] : List Timer).length * 2 ≤ (fl ([r3779.1] : List Timer)).length) (app_own_le ([r3779.1] : List Timer) 2 rfl) 24 (by kernel_rfl) (by decide) k3799 23 28 [26]) allP_nil) ?_
                          obtain ⟨r3801, hr3801, h⟩ := bind_sx h
                          refine call_x (taskmilllaw_counted_spec (r3798 ++ ([r3779.1] : List Timer)) c1q2 r3801 hr3801) (args := [.own 28 0 (r3798 ++ ([r3779.1] : List Timer)).length, .own 1 0 c1q2.length]) (dst := (some 132)) (by kernel_rfl) [(0, .row 28 (Enc.cells r3779.2.1)), (1, .row 24 (fl c1q2)), (2, .row 24 (fl r3779.2.2)), (3, .row 24 (Enc.cells r3779.1)), (23, .dead), (26, .row 24 (fl ([r3779.1] : List Timer))), (28, .row 24 (fl (r3798 ++ ([r3779.1] : List Timer))))] 31 (by kernel_rfl) [] [1, 28] (bS r3801) [] (by simp only [push_cast, seval]) (by simp only [push_cast, seval]) (by kernel_rfl) (.inr ⟨by simp only [push_cast, seval], by simp only [push_cast, seval]⟩) (by simp only [push_cast, seval]) (by simp only [push_cast, seval]) ?_
                          refine rs 2 [] [] (by kernel_rfl) allP_nil ?_
                          refine rt [(6, bS r3801)] [(0, .row 28 (Enc.cells r3779.2.1)), (1, .row 24 (fl c1q2)), (2, .row 24 (fl r3779.2.2)), (3, .row 24 (Enc.cells r3779.1)), (23, .dead), (26, .row 24 (fl ([r3779.1] : List Timer))), (28, .row 24 (fl (r3798 ++ ([r3779.1] : List Timer))))] 34 follows (by kernel_rfl) ?_
                          exact hK3791 (r3801) _ _ _ h (leSt_m [] [] (by first | ((try simp only [g3792, g3794, g3797]) <;> simp only [push_cast, seval]; done) | ((try simp only [g3792]); (try simp only [g3794]); (try simp only [g3797]); simp only [push_cast, seval]; done) | (exfalso; clear h; simp_all; done)) (by first | ((try simp only [g3792, g3794, g3797]) <;> simp only [push_cast, seval]; done) | ((try simp only [g3792]); (try simp only [g3794]); (try simp only [g3797]); simp only [push_cast, seval]; done) | (exfalso; clear h; simp_all; done)) rfl rfl rfl)
                        · refine rs 9 [] [] (by kernel_rfl) allP_nil ?_
                          refine rt [(6, bS false)] [(0, .row 28 (Enc.cells r3779.2.1)), (1, .row 24 (fl c1q2)), (2, .row 24 (fl r3779.2.2)), (3, .row 24 (Enc.cells r3779.1))] 31 follows (by kernel_rfl) ?_
                          exact hK3791 (false) _ _ _ h (leSt_m [] [] (by first | ((try simp only [g3792, g3794, g3797]) <;> simp only [push_cast, seval]; done) | ((try simp only [g3792]); (try simp only [g3794]); (try simp only [g3797]); simp only [push_cast, seval]; done) | (exfalso; clear h; simp_all; done)) (by first | ((try simp only [g3792, g3794, g3797]) <;> simp only [push_cast, seval]; done) | ((try simp only [g3792]); (try simp only [g3794]); (try simp only [g3797]); simp only [push_cast, seval]; done) | (exfalso; clear h; simp_all; done)) rfl rfl rfl)
                      · refine rn 10 [(2, iS i), (9, .own 1 0 c1q2.length), (12, .own 2 0 r3779.2.2.length), (13, .ptr 3 0), (117, bS false)] [(0, .row 28 (Enc.cells r3779.2.1)), (1, .row 24 (fl c1q2)), (2, .row 24 (fl r3779.2.2)), (3, .row 24 (Enc.cells r3779.1))] 14 (by kernel_rfl) ?_
                        refine rs 17 [] [] (by kernel_rfl) allP_nil ?_
                        refine rt [(6, bS false)] [(0, .row 28 (Enc.cells r3779.2.1)), (1, .row 24 (fl c1q2)), (2, .row 24 (fl r3779.2.2)), (3, .row 24 (Enc.cells r3779.1))] 31 follows (by kernel_rfl) ?_
                        exact hK3791 (false) _ _ _ h (leSt_m [] [] (by first | ((try simp only [g3792, g3794]) <;> simp only [push_cast, seval]; done) | ((try simp only [g3792]); (try simp only [g3794]); simp only [push_cast, seval]; done) | (exfalso; clear h; simp_all; done)) (by first | ((try simp only [g3792, g3794]) <;> simp only [push_cast, seval]; done) | ((try simp only [g3792]); (try simp only [g3794]); simp only [push_cast, seval]; done) | (exfalso; clear h; simp_all; done)) rfl rfl rfl)
                    · refine rs 23 [] [] (by kernel_rfl) allP_nil ?_
                      refine rt [(6, bS false)] [(0, .row 28 (Enc.cells r3779.2.1)), (1, .row 24 (fl c1q2)), (2, .row 24 (fl r3779.2.2)), (3, .row 24 (Enc.cells r3779.1))] 31 follows (by kernel_rfl) ?_
                      exact hK3791 (false) _ _ _ h (leSt_m [] [] (by (try simp only [g3792]) <;> simp only [push_cast, seval]) (by (try simp only [g3792]) <;> simp only [push_cast, seval]) rfl rfl rfl)
                  · rintro t6q1 h
                    try dsimp only at h ⊢
                    unfold taskmilllaw_AlarmKeeps_j1 at h
                    obtain rfl := Option.some.inj h
                    refine ret_at (bS t6q1) (by kernel_rfl) ?_
                    exact ret_e [] [] (by simp only [push_cast, seval]) (by simp only [push_cast, seval]) rfl rfl rfl

end Go.Proofs.Ytbhgmnnelheblaa
