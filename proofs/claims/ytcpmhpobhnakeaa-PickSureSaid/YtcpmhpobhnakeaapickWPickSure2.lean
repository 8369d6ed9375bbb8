/-
 What laws of the chapter pick compute, and lemmas on it.
 No conditions.
-/
import Derived.Test.YtcpmhpobhnakeaapickWPickSure1
set_option linter.unusedSimpArgs false
set_option linter.unusedVariables false
namespace Go.Proofs.Ytcpmhpobhnakeaa
open Go Go.Sx
attribute [local irreducible] Wk RunAt
set_option maxRecDepth 100000 in
set_option maxHeartbeats 200000000 in
theorem pick_Pick_spec (l : (List Pipe)) (task : Int) (cases : (List GCase)) (order : (List Int)) (xdef : Bool) (r : Bool × Bool × Bool × Int × Int × Fault × (List Pipe) × (List GWake)) (h : pick_Pick l task cases order xdef = some r) : SpecW Try.prog 13 [.sl l.length (fl l), iS task, .sl cases.length (fl cases), .sl order.length (fl order), bS xdef] [] 0 (fun x h n => x = .tup [.own 0 0 r.2.2.2.2.2.2.1.length, .agg [bS r.1, bS r.2.1, bS r.2.2.1, iS r.2.2.2.1, iS r.2.2.2.2.1, .own 1 0 r.2.2.2.2.2.2.2.length], .agg (Enc.cells r.2.2.2.2.2.1)] ∧ h = [(0, .row 57 (flD dPipe [2, 3, 4] r.2.2.2.2.2.2.1)), (1, .row 64 (fl r.2.2.2.2.2.2.2)), ((.s 2 0), .fam (famD dPipe 0 r.2.2.2.2.2.2.1)), ((.s 3 0), .fam (famD dPipe 1 r.2.2.2.2.2.2.1)), ((.s 4 0), .fam (famD dPipe 2 r.2.2.2.2.2.2.1))] ∧ n = 5) := by
 unfold pick_Pick at h
 refine spec_of (draw_ok _) Try.func13 rfl (by decide) rfl (by kernel_rfl) ?_
 refine seq_np ?_
 refine reg_f ?_
 refine rs 3 [] [] (by kernel_rfl) allP_nil ?_
 refine rf [(0, .sl l.length (fl l)), (1, iS task), (2, .sl cases.length (fl cases)), (3, .sl order.length (fl order)), (4, bS xdef), (11, .ptr 0 0), (12, .ptr 1 0)] [(0, .row 33 [bS false, bS false, bS false, iS 0, iS 0, .v (.slice none 0 0)]), (1, .row 29 [iS 0, iS 0])] 2 (by kernel_rfl) ?_
 refine wk_id ?_
 refine seq_np ?_
 refine seq_np ?_
 refine reg_f ?_
 refine rs 1 [] [] (by kernel_rfl) allP_nil ?_
 obtain ⟨r1764, hr1764, h⟩ := bind_sx h
 refine run_call 12 [.sl l.length (fl l)] (some 24) (by kernel_rfl) ?_
 refine call_0 (pick_Check_spec l r1764 hr1764) (by simp only [push_cast, leL_flD, renL_flD, seval]) (by simp only [push_cast, leL_flD, renL_flD, seval]) ?_
 refine back_f ?_
 refine rs 2 [] [] (by kernel_rfl) allP_nil ?_
 refine rf [(0, .sl l.length (fl l)), (1, iS task), (2, .sl cases.length (fl cases)), (3, .sl order.length (fl order)), (4, bS xdef), (11, .ptr 0 0), (12, .ptr 1 0), (13, .ptr 2 0)] [(0, .row 33 [bS false, bS false, bS false, iS 0, iS 0, .v (.slice none 0 0)]), (1, .row 29 [iS 0, iS 0]), (2, .row 29 (Enc.cells r1764))] 3 (by kernel_rfl) ?_
 refine wk_id ?_
 refine seq_np ?_
 refine reg_f ?_
 refine rs 3 [] [] (by kernel_rfl) allP_nil ?_
 refine rf [(0, .sl l.length (fl l)), (1, iS task), (2, .sl cases.length (fl cases)), (3, .sl order.length (fl order)), (4, bS xdef), (11, .ptr 0 0), (12, .ptr 1 0), (13, .ptr 2 0), (27, bS (r1764.Code != 0))] [(0, .row 33 [bS false, bS false, bS false, iS 0, iS 0, .v (.slice none 0 0)]), (1, .row 29 [iS 0, iS 0]), (2, .row 29 (Enc.cells r1764))] 3 (by kernel_rfl) ?_
 refine wk_id ?_
 refine cond_sx h (by kernel_rfl) (fun g2094 h => ?_) (fun g2094 h => ?_)
 ·refine seq_np ?_
  refine reg_t ?_
  refine rs 5 [] [] (by kernel_rfl) allP_nil ?_
  refine rt [(10, .v (.slice none 0 0)), (11, .ptr 0 0), (12, .ptr 1 0)] [(0, .row 33 [bS false, bS false, bS false, iS 0, iS 0, .v (.slice none 0 0)]), (1, .row 29 (Enc.cells r1764)), (2, .row 29 (Enc.cells r1764))] 8 follows (by kernel_rfl) ?_
  refine wk_id ?_
  obtain rfl := Option.some.inj h
  refine ret_at (.tup [.v (.slice none 0 0), .agg [bS false, bS false, bS false, iS 0, iS 0, .v (.slice none 0 0)], .agg (Enc.cells r1764)]) (by kernel_rfl) ?_
  exact ret_e [] [] (by simp only [push_cast, leL_flD, renL_flD, seval]) (by simp only [push_cast, leL_flD, renL_flD, seval]) rfl rfl rfl
 ·refine wk_id ?_
  refine seq_np ?_
  refine reg_f ?_
  refine rs 1 [] [] (by kernel_rfl) allP_nil ?_
  obtain ⟨r1766, hr1766, h⟩ := bind_sx h
  refine call_x (pick_copied_spec l r1766 hr1766) (args := [.sl l.length (fl l)]) (dst := (some 31)) (by kernel_rfl) [(0, .row 33 [bS false, bS false, bS false, iS 0, iS 0, .v (.slice none 0 0)]), (1, .row 29 [iS 0, iS 0]), (2, .row 29 (Enc.cells r1764))] 3 (by kernel_rfl) [] [] (.own 3 0 r1766.length) [(3, .row 57 (flD dPipe [4, 5, 6] r1766)), ((.s 4 0), .fam (famD dPipe 0 r1766)), ((.s 5 0), .fam (famD dPipe 1 r1766)), ((.s 6 0), .fam (famD dPipe 2 r1766))] (by simp only [push_cast, leL_flD, renL_flD, seval]) (by simp only [push_cast, leL_flD, renL_flD, seval]) (by kernel_rfl) (.inl rfl) (by first | (simp only [push_cast, leL_flD, renL_flD, seval]; done) | (simp only [push_cast, leL_flD, renL_flD, seval]; kernel_rfl) | kernel_rfl) (by first | (simp only [push_cast, leL_flD, renL_flD, seval]; done) | (simp only [push_cast, leL_flD, renL_flD, seval]; kernel_rfl) | kernel_rfl) ?_
  refine rs 1 [] [] (by kernel_rfl) allP_nil ?_
  refine rf [(1, iS task), (2, .sl cases.length (fl cases)), (3, .sl order.length (fl order)), (4, bS xdef), (11, .ptr 0 0), (12, .ptr 1 0), (14, .own 3 0 r1766.length)] [(0, .row 33 [bS false, bS false, bS false, iS 0, iS 0, .v (.slice none 0 0)]), (1, .row 29 [iS 0, iS 0]), (2, .row 29 (Enc.cells r1764)), (3, .row 57 (flD dPipe [4, 5, 6] r1766)), ((.s 4 0), .fam (famD dPipe 0 r1766)), ((.s 5 0), .fam (famD dPipe 1 r1766)), ((.s 6 0), .fam (famD dPipe 2 r1766))] 7 (by kernel_rfl) ?_
  refine wk_id ?_
  refine seq_np ?_
  refine seq_np ?_
  refine reg_f ?_
  refine rs 4 [] [] (by kernel_rfl) allP_nil ?_
  obtain ⟨r1770, hr1770, h⟩ := bind_sx h
  refine call_x (pick_hub_look_spec r1766 task cases order r1770 hr1770) (args := [.own 3 0 r1766.length, iS task, .sl cases.length (fl cases), .sl order.length (fl order)]) (dst := (some 36)) (by kernel_rfl) [(0, .row 33 [bS false, bS false, bS false, iS 0, iS 0, .v (.slice none 0 0)]), (1, .row 29 [iS 0, iS 0]), (2, .row 29 (Enc.cells r1764)), (3, .row 57 (flD dPipe [4, 5, 6] r1766)), ((.s 4 0), .fam (famD dPipe 0 r1766)), ((.s 5 0), .fam (famD dPipe 1 r1766)), ((.s 6 0), .fam (famD dPipe 2 r1766))] 7 (by kernel_rfl) [] [3, (.s 4 0), (.s 5 0), (.s 6 0)] (.agg (Enc.cells r1770)) [] (by simp only [↓leS_frzD dPipe [4, 5, 6] r1766, leS_frz, leL_flD, renL_flD, push_cast, seval]) (by simp only [↓leS_frzD dPipe [4, 5, 6] r1766, leS_frz, leL_flD, renL_flD, push_cast, seval]) (by kernel_rfl) (.inr ⟨by simp only [push_cast, leL_flD, renL_flD, seval], by simp only [push_cast, leL_flD, renL_flD, seval]⟩) (by simp only [push_cast, leL_flD, renL_flD, seval]) (by simp only [push_cast, leL_flD, renL_flD, seval]) ?_
  refine rs 2 [] [] (by kernel_rfl) allP_nil ?_
  refine rf [(1, iS task), (2, .sl cases.length (fl cases)), (3, .sl order.length (fl order)), (4, bS xdef), (11, .ptr 0 0), (12, .ptr 1 0), (14, .own 3 0 r1766.length), (15, .ptr 7 0)] [(0, .row 33 [bS false, bS false, bS false, iS 0, iS 0, .v (.slice none 0 0)]), (1, .row 29 [iS 0, iS 0]), (2, .row 29 (Enc.cells r1764)), (3, .row 57 (flD dPipe [4, 5, 6] r1766)), ((.s 4 0), .fam (famD dPipe 0 r1766)), ((.s 5 0), .fam (famD dPipe 1 r1766)), ((.s 6 0), .fam (famD dPipe 2 r1766)), (7, .row 29 (Enc.cells r1770))] 8 (by kernel_rfl) ?_
  refine wk_id ?_
  refine seq_np ?_
  refine reg_f ?_
  refine rs 3 [] [] (by kernel_rfl) allP_nil ?_
  refine rf [(1, iS task), (2, .sl cases.length (fl cases)), (3, .sl order.length (fl order)), (4, bS xdef), (11, .ptr 0 0), (12, .ptr 1 0), (14, .own 3 0 r1766.length), (15, .ptr 7 0), (39, bS (r1770.Code != 0))] [(0, .row 33 [bS false, bS false, bS false, iS 0, iS 0, .v (.slice none 0 0)]), (1, .row 29 [iS 0, iS 0]), (2, .row 29 (Enc.cells r1764)), (3, .row 57 (flD dPipe [4, 5, 6] r1766)), ((.s 4 0), .fam (famD dPipe 0 r1766)), ((.s 5 0), .fam (famD dPipe 1 r1766)), ((.s 6 0), .fam (famD dPipe 2 r1766)), (7, .row 29 (Enc.cells r1770))] 8 (by kernel_rfl) ?_
  refine wk_id ?_
  refine cond_sx h (by kernel_rfl) (fun g2093 h => ?_) (fun g2093 h => ?_)
  ·refine seq_np ?_
   refine reg_t ?_
   refine rs 5 [] [] (by kernel_rfl) allP_nil ?_
   refine rt [(10, .v (.slice none 0 0)), (11, .ptr 0 0), (12, .ptr 1 0)] [(0, .row 33 [bS false, bS false, bS false, iS 0, iS 0, .v (.slice none 0 0)]), (1, .row 29 (Enc.cells r1770)), (2, .row 29 (Enc.cells r1764)), (3, .row 57 (flD dPipe [4, 5, 6] r1766)), ((.s 4 0), .fam (famD dPipe 0 r1766)), ((.s 5 0), .fam (famD dPipe 1 r1766)), ((.s 6 0), .fam (famD dPipe 2 r1766)), (7, .row 29 (Enc.cells r1770))] 13 follows (by kernel_rfl) ?_
   refine wk_id ?_
   obtain rfl := Option.some.inj h
   refine ret_at (.tup [.v (.slice none 0 0), .agg [bS false, bS false, bS false, iS 0, iS 0, .v (.slice none 0 0)], .agg (Enc.cells r1770)]) (by kernel_rfl) ?_
   exact ret_e [] [] (by simp only [push_cast, leL_flD, renL_flD, seval]) (by simp only [push_cast, leL_flD, renL_flD, seval]) rfl rfl rfl
  ·refine wk_id ?_
   refine seq_np ?_
   refine seq_np ?_
   refine reg_f ?_
   refine rs 3 [] [] (by kernel_rfl) allP_nil ?_
   refine rf [(1, iS task), (2, .sl cases.length (fl cases)), (4, bS xdef), (11, .ptr 0 0), (12, .ptr 1 0), (14, .own 3 0 r1766.length), (42, .sl order.length (fl order)), (43, iS ((order.length : Nat) : Int)), (44, iS 0)] [(0, .row 33 [bS false, bS false, bS false, iS 0, iS 0, .v (.slice none 0 0)]), (1, .row 29 [iS 0, iS 0]), (2, .row 29 (Enc.cells r1764)), (3, .row 57 (flD dPipe [4, 5, 6] r1766)), ((.s 4 0), .fam (famD dPipe 0 r1766)), ((.s 5 0), .fam (famD dPipe 1 r1766)), ((.s 6 0), .fam (famD dPipe 2 r1766)), (7, .row 29 (Enc.cells r1770))] 8 (by kernel_rfl) ?_
   refine wk_id ?_
   refine block_np ?_
   refine loop_sx (S := Int × (List Pipe)) (fun a => ([(1, iS task), (2, .sl cases.length (fl cases)), (4, bS xdef), (11, .ptr 0 0), (12, .ptr 1 0), (14, .own 2 0 a.2.length), (42, .sl order.length (fl order)), (43, iS ((order.length : Nat) : Int)), (44, iS a.1)], [(0, .row 33 [bS false, bS false, bS false, iS 0, iS 0, .v (.slice none 0 0)]), (1, .row 29 [iS 0, iS 0]), (2, .row 57 (flD dPipe [3, 4, 5] a.2)), ((.s 3 0), .fam (famD dPipe 0 a.2)), ((.s 4 0), .fam (famD dPipe 1 a.2)), ((.s 5 0), .fam (famD dPipe 2 a.2))], 6)) h (leSt_m [(0, 0), (1, 1), (2, 3), ((.s 3 0), (.s 4 0)), ((.s 4 0), (.s 5 0)), ((.s 5 0), (.s 6 0))] [] (by simp only [push_cast, leL_flD, renL_flD, seval]) (by simp only [push_cast, leL_flD, renL_flD, seval]) rfl rfl rfl) ?_
   rintro ⟨t44q7, c2q16⟩ o3 R3 h hr3 hn3 hx3 ht3
   try dsimp only at h hn3 ⊢
   unfold pick_Pick_l2 at h
   try dsimp only at h
   refine seq_np ?_
   refine reg_f ?_
   refine rs 1 [] [] (by kernel_rfl) allP_nil ?_
   refine rf [(1, iS task), (2, .sl cases.length (fl cases)), (4, bS xdef), (11, .ptr 0 0), (12, .ptr 1 0), (14, .own 2 0 c2q16.length), (42, .sl order.length (fl order)), (43, iS ((order.length : Nat) : Int)), (44, iS t44q7), (45, bS (decide (t44q7 < ((order.length : Nat) : Int))))] [(0, .row 33 [bS false, bS false, bS false, iS 0, iS 0, .v (.slice none 0 0)]), (1, .row 29 [iS 0, iS 0]), (2, .row 57 (flD dPipe [3, 4, 5] c2q16)), ((.s 3 0), .fam (famD dPipe 0 c2q16)), ((.s 4 0), .fam (famD dPipe 1 c2q16)), ((.s 5 0), .fam (famD dPipe 2 c2q16))] 6 (by kernel_rfl) ?_
   refine wk_id ?_
   refine seq_np ?_
   refine cond_sx h (by kernel_rfl) (fun g2092 h => ?_) (fun g2092 h => ?_)
   ·refine wk_id ?_
    refine seq_np ?_
    refine block_np ?_
    refine chk_sx h (fun g1916 h => ?_)
    refine seq_np ?_
    refine reg_f ?_
    have k1915 : 0 ≤ t44q7 ∧ t44q7 < ((order.length : Nat) : Int) := by first | simpa only [Bool.and_eq_true, decide_eq_true_eq, bne_iff_ne, ne_eq] using g1916 | (simp at g1916 ⊢; omega)
    refine rs 3 [some ⟨.iptr (fl order) ((t44q7).toNat * 1), [], 6, []⟩, some ⟨iS (ix order t44q7), [], 6, []⟩] _ (by kernel_rfl) (allP_cons (ob_ld order t44q7 1 0 ((t44q7).toNat * 1) k1915 rfl (by decide) (by first | rfl | omega) (dflS Try.prog 3) (iS (ix order t44q7)) rfl 6 []) (allP_cons (ob_ix_l order 1 6 t44q7 k1915) allP_nil)) ?_
    refine rf [(1, iS task), (2, .sl cases.length (fl cases)), (4, bS xdef), (11, .ptr 0 0), (12, .ptr 1 0), (14, .own 2 0 c2q16.length), (17, iS (ix order t44q7)), (42, .sl order.length (fl order)), (43, iS ((order.length : Nat) : Int)), (44, iS t44q7)] [(0, .row 33 [bS false, bS false, bS false, iS 0, iS 0, .v (.slice none 0 0)]), (1, .row 29 [iS 0, iS 0]), (2, .row 57 (flD dPipe [3, 4, 5] c2q16)), ((.s 3 0), .fam (famD dPipe 0 c2q16)), ((.s 4 0), .fam (famD dPipe 1 c2q16)), ((.s 5 0), .fam (famD dPipe 2 c2q16))] 6 (by kernel_rfl) ?_
    refine wk_id ?_
    refine chk_sx h (fun g1923 h => ?_)
    refine seq_np ?_
    refine reg_f ?_
    have k1922 : 0 ≤ (ix order t44q7) ∧ (ix order t44q7) < ((cases.length : Nat) : Int) := by first | simpa only [Bool.and_eq_true, decide_eq_true_eq, bne_iff_ne, ne_eq] using g1923 | (simp at g1923 ⊢; omega)
    refine rs 7 [none, none, none, none, none, some ⟨.iptr (fl cases) (((ix order t44q7)).toNat * 3), [], 6, []⟩, some ⟨.agg (Enc.cells (ix cases (ix order t44q7))), [], 6, []⟩] _ (by kernel_rfl) (allP_cons (ob_ldw cases (ix order t44q7) 3 (((ix order t44q7)).toNat * 3) k1922 rfl (by first | rfl | omega) [iS (ix cases (ix order t44q7)).Pipe, bS (ix cases (ix order t44q7)).Send, iS (ix cases (ix order t44q7)).Value] rfl 6 []) (allP_cons (ob_ix_l cases 3 6 (ix order t44q7) k1922) allP_nil)) ?_
    obtain ⟨r1924, hr1924, h⟩ := bind_sx h
    refine call_x (pick_hub_once_1_spec task (ix order t44q7) (ix cases (ix order t44q7)) c2q16 r1924 hr1924) (args := [.own 2 0 c2q16.length, iS task, iS (ix order t44q7), .agg (Enc.cells (ix cases (ix order t44q7)))]) (dst := (some 55)) (by kernel_rfl) [(0, .row 33 [bS false, bS false, bS false, iS 0, iS 0, .v (.slice none 0 0)]), (1, .row 29 [iS 0, iS 0]), (2, .row 57 (flD dPipe [3, 4, 5] c2q16)), ((.s 3 0), .fam (famD dPipe 0 c2q16)), ((.s 4 0), .fam (famD dPipe 1 c2q16)), ((.s 5 0), .fam (famD dPipe 2 c2q16))] 6 (by kernel_rfl) [(0, 2), ((.s 1 0), (.s 3 0)), ((.s 2 0), (.s 4 0)), ((.s 3 0), (.s 5 0))] [] (.agg [bS r1924.1, bS r1924.2.1, bS r1924.2.2.1, iS r1924.2.2.2.1, iS r1924.2.2.2.2.1, .own 10 0 r1924.2.2.2.2.2.1.length]) [(2, .row 57 (flD dPipe [11, 12, 13] r1924.2.2.2.2.2.2)), ((.s 3 0), .dead), ((.s 4 0), .dead), ((.s 5 0), .dead), (10, .row 64 (fl r1924.2.2.2.2.2.1)), ((.s 11 0), .fam (famD dPipe 0 r1924.2.2.2.2.2.2)), ((.s 12 0), .fam (famD dPipe 1 r1924.2.2.2.2.2.2)), ((.s 13 0), .fam (famD dPipe 2 r1924.2.2.2.2.2.2)), (2, .dead), ((.s 3 0), .dead), ((.s 4 0), .dead), ((.s 5 0), .dead)] (by simp only [push_cast, leL_flD, renL_flD, seval]) (by simp only [push_cast, leL_flD, renL_flD, seval]) (by kernel_rfl) (.inl rfl) (by first | (simp only [push_cast, leL_flD, renL_flD, seval]; done) | (simp only [push_cast, leL_flD, renL_flD, seval]; kernel_rfl) | kernel_rfl) (by first | (simp only [push_cast, leL_flD, renL_flD, seval]; done) | (simp only [push_cast, leL_flD, renL_flD, seval]; kernel_rfl) | kernel_rfl) ?_ (hfam := (And.intro trivial (And.intro (fun _ => Or.inl rfl) (And.intro (fun _ => Or.inl rfl) (And.intro (fun _ => Or.inl rfl) trivial)))))
    refine chk_sx h (fun g1926 h => ?_)
    have e1925 : c2q16.length = r1924.2.2.2.2.2.2.length := (of_decide_eq_true g1926).symm
    refine run_eqF 14 (.own 2 0 c2q16.length) (.own 2 0 r1924.2.2.2.2.2.2.length) (congrArg (fun nq => (.own 2 0 nq : SV)) (show c2q16.length = r1924.2.2.2.2.2.2.length from e1925)) (by kernel_rfl) ?_
    refine rs 2 [] [] (by kernel_rfl) allP_nil ?_
    refine rf [(1, iS task), (2, .sl cases.length (fl cases)), (4, bS xdef), (11, .ptr 0 0), (12, .ptr 1 0), (14, .own 2 0 r1924.2.2.2.2.2.2.length), (18, .ptr 14 0), (42, .sl order.length (fl order)), (43, iS ((order.length : Nat) : Int)), (44, iS t44q7)] [(0, .row 33 [bS false, bS false, bS false, iS 0, iS 0, .v (.slice none 0 0)]), (1, .row 29 [iS 0, iS 0]), (2, .row 57 (flD dPipe [11, 12, 13] r1924.2.2.2.2.2.2)), ((.s 3 0), .dead), ((.s 4 0), .dead), ((.s 5 0), .dead), (10, .row 64 (fl r1924.2.2.2.2.2.1)), ((.s 11 0), .fam (famD dPipe 0 r1924.2.2.2.2.2.2)), ((.s 12 0), .fam (famD dPipe 1 r1924.2.2.2.2.2.2)), ((.s 13 0), .fam (famD dPipe 2 r1924.2.2.2.2.2.2)), (14, .row 33 [bS r1924.1, bS r1924.2.1, bS r1924.2.2.1, iS r1924.2.2.2.1, iS r1924.2.2.2.2.1, .own 10 0 r1924.2.2.2.2.2.1.length])] 15 (by kernel_rfl) ?_
    refine wk_id ?_
    refine seq_np ?_
    refine reg_f ?_
    refine rs 2 [] [] (by kernel_rfl) allP_nil ?_
    refine rf [(1, iS task), (2, .sl cases.length (fl cases)), (4, bS xdef), (11, .ptr 0 0), (12, .ptr 1 0), (14, .own 2 0 r1924.2.2.2.2.2.2.length), (18, .ptr 14 0), (42, .sl order.length (fl order)), (43, iS ((order.length : Nat) : Int)), (44, iS t44q7), (57, bS r1924.1)] [(0, .row 33 [bS false, bS false, bS false, iS 0, iS 0, .v (.slice none 0 0)]), (1, .row 29 [iS 0, iS 0]), (2, .row 57 (flD dPipe [11, 12, 13] r1924.2.2.2.2.2.2)), ((.s 3 0), .dead), ((.s 4 0), .dead), ((.s 5 0), .dead), (10, .row 64 (fl r1924.2.2.2.2.2.1)), ((.s 11 0), .fam (famD dPipe 0 r1924.2.2.2.2.2.2)), ((.s 12 0), .fam (famD dPipe 1 r1924.2.2.2.2.2.2)), ((.s 13 0), .fam (famD dPipe 2 r1924.2.2.2.2.2.2)), (14, .row 33 [bS r1924.1, bS r1924.2.1, bS r1924.2.2.1, iS r1924.2.2.2.1, iS r1924.2.2.2.2.1, .own 10 0 r1924.2.2.2.2.2.1.length])] 15 (by kernel_rfl) ?_
    refine wk_id ?_
    refine cond_sx h (by kernel_rfl) (fun g1937 h => ?_) (fun g1937 h => ?_)
    ·refine seq_np ?_
     refine reg_f ?_
     refine rs 3 [] [] (by kernel_rfl) allP_nil ?_
     obtain ⟨r1932, hr1932, h⟩ := bind_sx h
     refine call_x (pick_hub_wake_1_spec r1924.2.2.2.2.2.2 r1924.2.2.2.2.2.1 r1932 hr1932) (args := [.own 2 0 r1924.2.2.2.2.2.2.length, .own 10 0 r1924.2.2.2.2.2.1.length]) (dst := (some 61)) (by kernel_rfl) [(0, .row 33 [bS false, bS false, bS false, iS 0, iS 0, .v (.slice none 0 0)]), (1, .row 29 [iS 0, iS 0]), (2, .row 57 (flD dPipe [11, 12, 13] r1924.2.2.2.2.2.2)), ((.s 3 0), .dead), ((.s 4 0), .dead), ((.s 5 0), .dead), (10, .row 64 (fl r1924.2.2.2.2.2.1)), ((.s 11 0), .fam (famD dPipe 0 r1924.2.2.2.2.2.2)), ((.s 12 0), .fam (famD dPipe 1 r1924.2.2.2.2.2.2)), ((.s 13 0), .fam (famD dPipe 2 r1924.2.2.2.2.2.2)), (14, .row 33 [bS r1924.1, bS r1924.2.1, bS r1924.2.2.1, iS r1924.2.2.2.1, iS r1924.2.2.2.2.1, .own 10 0 r1924.2.2.2.2.2.1.length])] 15 (by kernel_rfl) [(0, 2), ((.s 1 0), (.s 11 0)), ((.s 2 0), (.s 12 0)), ((.s 3 0), (.s 13 0)), (4, 10)] [] (.tup []) [(2, .row 57 (flD dPipe [11, 20, 21] r1932.1)), ((.s 11 0), .fam (famD dPipe 0 r1932.1)), ((.s 12 0), .dead), ((.s 13 0), .dead), (10, .row 64 (fl r1932.2)), ((.s 20 0), .fam (famD dPipe 1 r1932.1)), ((.s 21 0), .fam (famD dPipe 2 r1932.1)), (2, .dead), ((.s 11 0), .dead), ((.s 12 0), .dead), ((.s 13 0), .dead), (10, .dead)] (by simp only [push_cast, leL_flD, renL_flD, seval]) (by simp only [push_cast, leL_flD, renL_flD, seval]) (by kernel_rfl) (.inl rfl) (by first | (simp only [push_cast, leL_flD, renL_flD, seval]; done) | (simp only [push_cast, leL_flD, renL_flD, seval]; kernel_rfl) | kernel_rfl) (by first | (simp only [push_cast, leL_flD, renL_flD, seval]; done) | (simp only [push_cast, leL_flD, renL_flD, seval]; kernel_rfl) | kernel_rfl) ?_ (hfam := (And.intro trivial (And.intro (fun _ => Or.inl rfl) (And.intro (fun _ => Or.inl rfl) (And.intro (fun _ => Or.inl rfl) (And.intro trivial trivial))))))
     refine chk_sx h (fun g1934 h => ?_)
     have e1933 : r1924.2.2.2.2.2.2.length = r1932.1.length := (of_decide_eq_true g1934).symm
     refine run_eqF 14 (.own 2 0 r1924.2.2.2.2.2.2.length) (.own 2 0 r1932.1.length) (congrArg (fun nq => (.own 2 0 nq : SV)) (show r1924.2.2.2.2.2.2.length = r1932.1.length from e1933)) (by kernel_rfl) ?_
     refine chk_sx h (fun g1936 h => ?_)
     have e1935 : r1924.2.2.2.2.2.1.length = r1932.2.length := (of_decide_eq_true g1936).symm
     refine run_eqH 14 (.row 33 [bS r1924.1, bS r1924.2.1, bS r1924.2.2.1, iS r1924.2.2.2.1, iS r1924.2.2.2.2.1, .own 10 0 r1924.2.2.2.2.2.1.length]) (.row 33 [bS r1924.1, bS r1924.2.1, bS r1924.2.2.1, iS r1924.2.2.2.1, iS r1924.2.2.2.2.1, .own 10 0 r1932.2.length]) (congrArg (fun nq => (.row 33 [bS r1924.1, bS r1924.2.1, bS r1924.2.2.1, iS r1924.2.2.2.1, iS r1924.2.2.2.2.1, .own 10 0 nq] : Chunk)) (show r1924.2.2.2.2.2.1.length = r1932.2.length from e1935)) (by kernel_rfl) ?_
     refine rf [(11, .ptr 0 0), (12, .ptr 1 0), (14, .own 2 0 r1932.1.length), (18, .ptr 14 0)] [(0, .row 33 [bS false, bS false, bS false, iS 0, iS 0, .v (.slice none 0 0)]), (1, .row 29 [iS 0, iS 0]), (2, .row 57 (flD dPipe [11, 20, 21] r1932.1)), ((.s 3 0), .dead), ((.s 4 0), .dead), ((.s 5 0), .dead), (10, .row 64 (fl r1932.2)), ((.s 11 0), .fam (famD dPipe 0 r1932.1)), ((.s 12 0), .dead), ((.s 13 0), .dead), (14, .row 33 [bS r1924.1, bS r1924.2.1, bS r1924.2.2.1, iS r1924.2.2.2.1, iS r1924.2.2.2.2.1, .own 10 0 r1932.2.length]), ((.s 20 0), .fam (famD dPipe 1 r1932.1)), ((.s 21 0), .fam (famD dPipe 2 r1932.1))] 22 (by kernel_rfl) ?_
     refine wk_id ?_
     refine seq_np ?_
     refine reg_t ?_
     refine rs 6 [] [] (by kernel_rfl) allP_nil ?_
     refine rt [(10, .own 2 0 r1932.1.length), (11, .ptr 0 0), (12, .ptr 1 0)] [(0, .row 33 [bS r1924.1, bS r1924.2.1, bS r1924.2.2.1, iS r1924.2.2.2.1, iS r1924.2.2.2.2.1, .own 10 0 r1932.2.length]), (1, .row 29 [iS 0, iS 0]), (2, .row 57 (flD dPipe [11, 20, 21] r1932.1)), ((.s 3 0), .dead), ((.s 4 0), .dead), ((.s 5 0), .dead), (10, .row 64 (fl r1932.2)), ((.s 11 0), .fam (famD dPipe 0 r1932.1)), ((.s 12 0), .dead), ((.s 13 0), .dead), (14, .row 33 [bS r1924.1, bS r1924.2.1, bS r1924.2.2.1, iS r1924.2.2.2.1, iS r1924.2.2.2.2.1, .own 10 0 r1932.2.length]), ((.s 20 0), .fam (famD dPipe 1 r1932.1)), ((.s 21 0), .fam (famD dPipe 2 r1932.1))] 28 follows (by kernel_rfl) ?_
     refine wk_id ?_
     refine rt_cast ht3 ?_
     obtain ⟨r0, h, e0⟩ := map_sx h
     have e1 := hr3 r0 e0.symm
     subst r0
     obtain rfl := Option.some.inj h
     refine ret_at (.tup [.own 2 0 r1932.1.length, .agg [bS r1924.1, bS r1924.2.1, bS r1924.2.2.1, iS r1924.2.2.2.1, iS r1924.2.2.2.2.1, .own 10 0 r1932.2.length], .agg [iS 0, iS 0]]) (by kernel_rfl) ?_
     exact ret_e [(0, 2), (1, 10), ((.s 2 0), (.s 11 0)), ((.s 3 0), (.s 20 0)), ((.s 4 0), (.s 21 0))] [] (by simp only [push_cast, leL_flD, renL_flD, seval]) (by simp only [push_cast, leL_flD, renL_flD, seval]) rfl rfl rfl
    ·refine wk_id ?_
     refine wk_id ?_
     refine reg_f ?_
     refine rs 2 [] [] (by kernel_rfl) allP_nil ?_
     refine rf [(1, iS task), (2, .sl cases.length (fl cases)), (4, bS xdef), (11, .ptr 0 0), (12, .ptr 1 0), (14, .own 2 0 r1924.2.2.2.2.2.2.length), (42, .sl order.length (fl order)), (43, iS ((order.length : Nat) : Int)), (44, iS (IntKind.i64.wrap (t44q7 + 1)))] [(0, .row 33 [bS false, bS false, bS false, iS 0, iS 0, .v (.slice none 0 0)]), (1, .row 29 [iS 0, iS 0]), (2, .row 57 (flD dPipe [11, 12, 13] r1924.2.2.2.2.2.2)), ((.s 3 0), .dead), ((.s 4 0), .dead), ((.s 5 0), .dead), (10, .row 64 (fl r1924.2.2.2.2.2.1)), ((.s 11 0), .fam (famD dPipe 0 r1924.2.2.2.2.2.2)), ((.s 12 0), .fam (famD dPipe 1 r1924.2.2.2.2.2.2)), ((.s 13 0), .fam (famD dPipe 2 r1924.2.2.2.2.2.2)), (14, .row 33 [bS r1924.1, bS r1924.2.1, bS r1924.2.2.1, iS r1924.2.2.2.1, iS r1924.2.2.2.2.1, .own 10 0 r1924.2.2.2.2.2.1.length])] 15 (by kernel_rfl) ?_
     exact hn3 ((IntKind.i64.wrap (t44q7 + 1)), r1924.2.2.2.2.2.2) _ _ _ (Option.some.inj h).symm (leSt_m [(0, 0), (1, 1), (2, 2), ((.s 3 0), (.s 11 0)), ((.s 4 0), (.s 12 0)), ((.s 5 0), (.s 13 0))] [] (by simp only [push_cast, leL_flD, renL_flD, seval]) (by simp only [push_cast, leL_flD, renL_flD, seval]) rfl rfl rfl)
   ·change R3 (.exit 0) _ _ _
    refine ex_cast hx3 (id := 0) ?_
    obtain ⟨r0, h, e0⟩ := map_sx h
    have e1 := hr3 r0 e0.symm
    subst r0
    refine wk_id ?_
    refine wk_id ?_
    refine seq_np ?_
    refine seq_np ?_
    refine reg_f ?_
    refine rs 1 [] [] (by kernel_rfl) allP_nil ?_
    refine rf [(1, iS task), (2, .sl cases.length (fl cases)), (11, .ptr 0 0), (12, .ptr 1 0), (14, .own 2 0 c2q16.length), (66, bS xdef)] [(0, .row 33 [bS false, bS false, bS false, iS 0, iS 0, .v (.slice none 0 0)]), (1, .row 29 [iS 0, iS 0]), (2, .row 57 (flD dPipe [3, 4, 5] c2q16)), ((.s 3 0), .fam (famD dPipe 0 c2q16)), ((.s 4 0), .fam (famD dPipe 1 c2q16)), ((.s 5 0), .fam (famD dPipe 2 c2q16))] 6 (by kernel_rfl) ?_
    refine wk_id ?_
    refine cond_sx h (by kernel_rfl) (fun g2091 h => ?_) (fun g2091 h => ?_)
    ·refine seq_np ?_
     refine reg_f ?_
     refine rs 6 [] [] (by kernel_rfl) allP_nil ?_
     refine rf [(10, .own 2 0 c2q16.length), (11, .ptr 0 0), (12, .ptr 1 0)] [(0, .row 33 [bS true, bS false, bS false, iS 0, iS (-1), .v (.slice none 0 0)]), (1, .row 29 [iS 0, iS 0]), (2, .row 57 (flD dPipe [3, 4, 5] c2q16)), ((.s 3 0), .fam (famD dPipe 0 c2q16)), ((.s 4 0), .fam (famD dPipe 1 c2q16)), ((.s 5 0), .fam (famD dPipe 2 c2q16))] 6 (by kernel_rfl) ?_
     refine wk_id ?_
     obtain rfl := Option.some.inj h
     refine ret_at (.tup [.own 2 0 c2q16.length, .agg [bS true, bS false, bS false, iS 0, iS (-1), .v (.slice none 0 0)], .agg [iS 0, iS 0]]) (by kernel_rfl) ?_
     exact ret_e [(0, 2), ((.s 2 0), (.s 3 0)), ((.s 3 0), (.s 4 0)), ((.s 4 0), (.s 5 0))] [] (by simp only [push_cast, leL_flD, renL_flD, seval]) (by simp only [push_cast, leL_flD, renL_flD, seval]) rfl rfl rfl
    ·refine wk_id ?_
     refine seq_np ?_
     refine seq_np ?_
     refine reg_f ?_
     refine rs 3 [] [] (by kernel_rfl) allP_nil ?_
     refine rf [(1, iS task), (11, .ptr 0 0), (12, .ptr 1 0), (14, .own 2 0 c2q16.length), (70, .sl cases.length (fl cases)), (71, iS ((cases.length : Nat) : Int)), (72, iS 0)] [(0, .row 33 [bS false, bS false, bS false, iS 0, iS 0, .v (.slice none 0 0)]), (1, .row 29 [iS 0, iS 0]), (2, .row 57 (flD dPipe [3, 4, 5] c2q16)), ((.s 3 0), .fam (famD dPipe 0 c2q16)), ((.s 4 0), .fam (famD dPipe 1 c2q16)), ((.s 5 0), .fam (famD dPipe 2 c2q16))] 6 (by kernel_rfl) ?_
     refine wk_id ?_
     refine block_np ?_
     refine loop_sx (S := Int × (List Pipe)) (fun a => ([(1, iS task), (11, .ptr 0 0), (12, .ptr 1 0), (14, .own 2 0 a.2.length), (70, .sl cases.length (fl cases)), (71, iS ((cases.length : Nat) : Int)), (72, iS a.1)], [(0, .row 33 [bS false, bS false, bS false, iS 0, iS 0, .v (.slice none 0 0)]), (1, .row 29 [iS 0, iS 0]), (2, .row 57 (flD dPipe [3, 4, 5] a.2)), ((.s 3 0), .fam (famD dPipe 0 a.2)), ((.s 4 0), .fam (famD dPipe 1 a.2)), ((.s 5 0), .fam (famD dPipe 2 a.2))], 6)) h (leSt_m [(0, 0), (1, 1), (2, 2), ((.s 3 0), (.s 3 0)), ((.s 4 0), (.s 4 0)), ((.s 5 0), (.s 5 0))] [] (by simp only [push_cast, leL_flD, renL_flD, seval]) (by simp only [push_cast, leL_flD, renL_flD, seval]) rfl rfl rfl) ?_
     rintro ⟨t72q7, c2q30⟩ o4 R4 h hr4 hn4 hx4 ht4
     try dsimp only at h hn4 ⊢
     unfold pick_Pick_l1 at h
     try dsimp only at h
     refine seq_np ?_
     refine reg_f ?_
     refine rs 1 [] [] (by kernel_rfl) allP_nil ?_
     refine rf [(1, iS task), (11, .ptr 0 0), (12, .ptr 1 0), (14, .own 2 0 c2q30.length), (70, .sl cases.length (fl cases)), (71, iS ((cases.length : Nat) : Int)), (72, iS t72q7), (73, bS (decide (t72q7 < ((cases.length : Nat) : Int))))] [(0, .row 33 [bS false, bS false, bS false, iS 0, iS 0, .v (.slice none 0 0)]), (1, .row 29 [iS 0, iS 0]), (2, .row 57 (flD dPipe [3, 4, 5] c2q30)), ((.s 3 0), .fam (famD dPipe 0 c2q30)), ((.s 4 0), .fam (famD dPipe 1 c2q30)), ((.s 5 0), .fam (famD dPipe 2 c2q30))] 6 (by kernel_rfl) ?_
     refine wk_id ?_
     refine seq_np ?_
     refine cond_sx h (by kernel_rfl) (fun g2090 h => ?_) (fun g2090 h => ?_)
     ·refine wk_id ?_
      refine seq_np ?_
      refine block_cut (A := (List Pipe)) (fun a => ([(1, iS task), (11, .ptr 0 0), (12, .ptr 1 0), (14, .own 2 0 a.length), (70, .sl cases.length (fl cases)), (71, iS ((cases.length : Nat) : Int)), (72, iS t72q7)], [(0, .row 33 [bS false, bS false, bS false, iS 0, iS 0, .v (.slice none 0 0)]), (1, .row 29 [iS 0, iS 0]), (2, .row 57 (flD dPipe [3, 4, 5] a)), ((.s 3 0), .fam (famD dPipe 0 a)), ((.s 4 0), .fam (famD dPipe 1 a)), ((.s 5 0), .fam (famD dPipe 2 a))], 6)) (fun a => (pick_Pick_j1 task cases t72q7 a) = some o4) (fun K2070 hK2070 => ?_) ?_
      ·refine chk_sx h (fun g2074 h => ?_)
       refine seq_np ?_
       refine reg_f ?_
       have k2073 : 0 ≤ t72q7 ∧ t72q7 < ((cases.length : Nat) : Int) := by first | simpa only [Bool.and_eq_true, decide_eq_true_eq, bne_iff_ne, ne_eq] using g2074 | (simp at g2074 ⊢; omega)
       refine rs 6 [none, some ⟨.iptr (fl cases) ((t72q7).toNat * 3), [], 6, []⟩, some ⟨.agg (Enc.cells (ix cases t72q7)), [], 6, []⟩] _ (by kernel_rfl) (allP_cons (ob_ldw cases t72q7 3 ((t72q7).toNat * 3) k2073 rfl (by first | rfl | omega) [iS (ix cases t72q7).Pipe, bS (ix cases t72q7).Send, iS (ix cases t72q7).Value] rfl 6 []) (allP_cons (ob_ix_l cases 3 6 t72q7 k2073) allP_nil)) ?_
       refine rf [(1, iS task), (11, .ptr 0 0), (12, .ptr 1 0), (14, .own 2 0 c2q30.length), (19, iS t72q7), (20, .ptr 6 0), (70, .sl cases.length (fl cases)), (71, iS ((cases.length : Nat) : Int)), (72, iS t72q7)] [(0, .row 33 [bS false, bS false, bS false, iS 0, iS 0, .v (.slice none 0 0)]), (1, .row 29 [iS 0, iS 0]), (2, .row 57 (flD dPipe [3, 4, 5] c2q30)), ((.s 3 0), .fam (famD dPipe 0 c2q30)), ((.s 4 0), .fam (famD dPipe 1 c2q30)), ((.s 5 0), .fam (famD dPipe 2 c2q30)), (6, .row 49 (Enc.cells (ix cases t72q7)))] 7 (by kernel_rfl) ?_
       refine wk_id ?_
       refine seq_np ?_
       refine seq_np ?_
       refine reg_f ?_
       refine rs 3 [] [] (by kernel_rfl) allP_nil ?_
       refine rf [(1, iS task), (11, .ptr 0 0), (12, .ptr 1 0), (14, .own 2 0 c2q30.length), (19, iS t72q7), (20, .ptr 6 0), (70, .sl cases.length (fl cases)), (71, iS ((cases.length : Nat) : Int)), (72, iS t72q7), (79, bS (decide ((ix cases t72q7).Pipe < 0)))] [(0, .row 33 [bS false, bS false, bS false, iS 0, iS 0, .v (.slice none 0 0)]), (1, .row 29 [iS 0, iS 0]), (2, .row 57 (flD dPipe [3, 4, 5] c2q30)), ((.s 3 0), .fam (famD dPipe 0 c2q30)), ((.s 4 0), .fam (famD dPipe 1 c2q30)), ((.s 5 0), .fam (famD dPipe 2 c2q30)), (6, .row 49 (Enc.cells (ix cases t72q7)))] 7 (by kernel_rfl) ?_
       refine wk_id ?_
       refine cond_sx h (by kernel_rfl) (fun g2089 h => ?_) (fun g2089 h => ?_)
       ·exact hK2070 (c2q30) _ _ _ h (leSt_m [(0, 0), (1, 1), (2, 2), ((.s 3 0), (.s 3 0)), ((.s 4 0), (.s 4 0)), ((.s 5 0), (.s 5 0))] [] (by simp only [push_cast, leL_flD, renL_flD, seval]) (by simp only [push_cast, leL_flD, renL_flD, seval]) rfl rfl rfl)
       ·refine wk_id ?_
        refine chk_sx h (fun g2079 h => ?_)
        refine seq_np ?_
        refine reg_t ?_
        have k2078 : 0 ≤ (ix cases t72q7).Pipe ∧ (ix cases t72q7).Pipe < ((c2q30.length : Nat) : Int) := by first | simpa only [Bool.and_eq_true, decide_eq_true_eq, bne_iff_ne, ne_eq] using g2079 | (simp at g2079 ⊢; omega)
        refine rs 12 [none, none, none, some ⟨.ptr 2 (0 + ((ix cases t72q7).Pipe).toNat * 5), [], 10, [2]⟩] _ (by kernel_rfl) (allP_cons (ob_ix_o 2 c2q30.length 0 5 10 (ix cases t72q7).Pipe k2078) allP_nil) ?_
        refine rt [(1, iS task), (11, .ptr 0 0), (12, .ptr 1 0), (14, .own 2 0 c2q30.length), (20, .ptr 6 0), (21, .ptr 2 (0 + ((ix cases t72q7).Pipe).toNat * 5)), (22, .ptr 16 0), (70, .sl cases.length (fl cases)), (71, iS ((cases.length : Nat) : Int)), (72, iS t72q7)] [(0, .row 33 [bS false, bS false, bS false, iS 0, iS 0, .v (.slice none 0 0)]), (1, .row 29 [iS 0, iS 0]), (2, .row 57 (flD dPipe [3, 4, 5] c2q30)), ((.s 3 0), .fam (famD dPipe 0 c2q30)), ((.s 4 0), .fam (famD dPipe 1 c2q30)), ((.s 5 0), .fam (famD dPipe 2 c2q30)), (6, .row 49 (Enc.cells (ix cases t72q7))), (16, .row 92 [iS task, iS t72q7, iS (ix cases t72q7).Value])] 20 follows (by kernel_rfl) ?_
        refine wk_id ?_
        refine seq_np ?_
        refine reg_f ?_
        refine rs 2 [] [] (by kernel_rfl) allP_nil ?_
        refine rf [(1, iS task), (11, .ptr 0 0), (12, .ptr 1 0), (14, .own 2 0 c2q30.length), (21, .ptr 2 (0 + ((ix cases t72q7).Pipe).toNat * 5)), (22, .ptr 16 0), (70, .sl cases.length (fl cases)), (71, iS ((cases.length : Nat) : Int)), (72, iS t72q7), (90, bS (ix cases t72q7).Send)] [(0, .row 33 [bS false, bS false, bS false, iS 0, iS 0, .v (.slice none 0 0)]), (1, .row 29 [iS 0, iS 0]), (2, .row 57 (flD dPipe [3, 4, 5] c2q30)), ((.s 3 0), .fam (famD dPipe 0 c2q30)), ((.s 4 0), .fam (famD dPipe 1 c2q30)), ((.s 5 0), .fam (famD dPipe 2 c2q30)), (6, .row 49 (Enc.cells (ix cases t72q7))), (16, .row 92 [iS task, iS t72q7, iS (ix cases t72q7).Value])] 20 (by kernel_rfl) ?_
        refine wk_id ?_
        refine cond_sx h (by kernel_rfl) (fun g2088 h => ?_) (fun g2088 h => ?_)
        ·refine chk_sx h (fun g2083 h => ?_)
         refine reg_t ?_
         have k2082 : ((ixD c2q30 (ix cases t72q7).Pipe).Senders ++ ([(GPost.mk task t72q7 (ix cases t72q7).Value)] : List GPost)).length * 24 ≤ 140737488355328 := by first | simpa only [Bool.and_eq_true, decide_eq_true_eq, bne_iff_ne, ne_eq] using g2083 | (simp at g2083 ⊢; omega)
         refine rs 10 [none, none, none, none, some ⟨.own (.s 4 (ix cases t72q7).Pipe) 0 (ixD c2q30 (ix cases t72q7).Pipe).Senders.length, [], 24, [2]⟩, none, none, some ⟨.own 28 0 ((ixD c2q30 (ix cases t72q7).Pipe).Senders ++ ([(GPost.mk task t72q7 (ix cases t72q7).Value)] : List GPost)).length, [(28, .row 92 (fl ((ixD c2q30 (ix cases t72q7).Pipe).Senders ++ ([(GPost.mk task t72q7 (ix cases t72q7).Value)] : List GPost)))), ((.s 4 0), .fam (upI (famD dPipe 1 c2q30) (ix cases t72q7).Pipe (.dead)))], 29, [(.s 4 0), 26]⟩] _ (by kernel_rfl) (allP_cons (ob_appM (P := Try.prog) dPipe 1 c2q30 (ix cases t72q7).Pipe 4 (ixD c2q30 (ix cases t72q7).Pipe).Senders ([(GPost.mk task t72q7 (ix cases t72q7).Value)] : List GPost) 3 24 rfl (appCells (fl ([(GPost.mk task t72q7 (ix cases t72q7).Value)] : List GPost)) 0 (([(GPost.mk task t72q7 (ix cases t72q7).Value)] : List GPost).length * 3)) ([(GPost.mk task t72q7 (ix cases t72q7).Value)] : List GPost).length (app_own ([(GPost.mk task t72q7 (ix cases t72q7).Value)] : List GPost) 3 rfl) rfl (0 + ([(GPost.mk task t72q7 (ix cases t72q7).Value)] : List GPost).length * 3 ≤ (fl ([(GPost.mk task t72q7 (ix cases t72q7).Value)] : List GPost)).length) (app_own_le ([(GPost.mk task t72q7 (ix cases t72q7).Value)] : List GPost) 3 rfl) 92 (by kernel_rfl) (by decide) k2082 28 [26]) (allP_cons (ob_ldD dPipe [3, 4, 5] c2q30 (ix cases t72q7).Pipe 5 3 ((0 + ((ix cases t72q7).Pipe).toNat * 5) + 3) k2078 rfl (by decide) (by first | rfl | omega) (dflS Try.prog 55) (.own (.s 4 (ix cases t72q7).Pipe) 0 (ixD c2q30 (ix cases t72q7).Pipe).Senders.length) rfl 24 [2]) allP_nil)) ?_
         refine run_opGb none _ ⟨.any, [(2, .row 57 (flN dPipe (nA [(some 3), (some 4), (some 5)] [(some (.s 3 (ix cases t72q7).Pipe)), (some (Nm.t 28)), (some (.s 5 (ix cases t72q7).Pipe))] (ix cases t72q7).Pipe) 0 (c2q30.set (ix cases t72q7).Pipe.toNat ({ (ixD c2q30 (ix cases t72q7).Pipe) with Senders := ((ixD c2q30 (ix cases t72q7).Pipe).Senders ++ ([(GPost.mk task t72q7 (ix cases t72q7).Value)] : List GPost)) } : Pipe))))], 32, [2]⟩ [((.s 32 0), .fam (famD dPipe 1 (c2q30.set (ix cases t72q7).Pipe.toNat ({ (ixD c2q30 (ix cases t72q7).Pipe) with Senders := ((ixD c2q30 (ix cases t72q7).Pipe).Senders ++ ([(GPost.mk task t72q7 (ix cases t72q7).Value)] : List GPost)) } : Pipe)))), (2, .row 57 (flD dPipe [3, 32, 5] (c2q30.set (ix cases t72q7).Pipe.toNat ({ (ixD c2q30 (ix cases t72q7).Pipe) with Senders := ((ixD c2q30 (ix cases t72q7).Pipe).Senders ++ ([(GPost.mk task t72q7 (ix cases t72q7).Value)] : List GPost)) } : Pipe)))), ((.s 4 0), .dead), (28, .dead)] 1 [2, (.s 4 0), 28] [(.s 4 0), 28] (by kernel_rfl) (ob_stN (P := Try.prog) dPipe [3, 4, 5] [(some (.s 3 (ix cases t72q7).Pipe)), (some (Nm.t 28)), (some (.s 5 (ix cases t72q7).Pipe))] c2q30 (ix cases t72q7).Pipe 5 3 ((0 + ((ix cases t72q7).Pipe).toNat * 5) + 3) k2078 rfl [.own 28 0 ((ixD c2q30 (ix cases t72q7).Pipe).Senders ++ ([(GPost.mk task t72q7 (ix cases t72q7).Value)] : List GPost)).length] ({ (ixD c2q30 (ix cases t72q7).Pipe) with Senders := ((ixD c2q30 (ix cases t72q7).Pipe).Senders ++ ([(GPost.mk task t72q7 (ix cases t72q7).Value)] : List GPost)) } : Pipe) (Nat.le_of_ble_eq_true rfl) (by first | rfl | omega) rfl rfl 2 32 57 55 (by kernel_rfl) rfl) (ghost_A 32 dPipe (c2q30.set (ix cases t72q7).Pipe.toNat ({ (ixD c2q30 (ix cases t72q7).Pipe) with Senders := ((ixD c2q30 (ix cases t72q7).Pipe).Senders ++ ([(GPost.mk task t72q7 (ix cases t72q7).Value)] : List GPost)) } : Pipe)) 2 57 [(some 3), (some 4), (some 5)] [(some (.s 3 (ix cases t72q7).Pipe)), (some (Nm.t 28)), (some (.s 5 (ix cases t72q7).Pipe))] (ix cases t72q7).Pipe (flD dPipe [3, 32, 5] (c2q30.set (ix cases t72q7).Pipe.toNat ({ (ixD c2q30 (ix cases t72q7).Pipe) with Senders := ((ixD c2q30 (ix cases t72q7).Pipe).Senders ++ ([(GPost.mk task t72q7 (ix cases t72q7).Value)] : List GPost)) } : Pipe))) 1 (some 4) (some 28) (by kernel_rfl) (flN_done dPipe [3, 32, 5] (ix cases t72q7).Pipe (c2q30.set (ix cases t72q7).Pipe.toNat ({ (ixD c2q30 (ix cases t72q7).Pipe) with Senders := ((ixD c2q30 (ix cases t72q7).Pipe).Senders ++ ([(GPost.mk task t72q7 (ix cases t72q7).Value)] : List GPost)) } : Pipe)) rfl) (by kernel_rfl) ⟨_, (by kernel_rfl), (off_hole c2q30 (ix cases t72q7).Pipe ({ (ixD c2q30 (ix cases t72q7).Pipe) with Senders := ((ixD c2q30 (ix cases t72q7).Pipe).Senders ++ ([(GPost.mk task t72q7 (ix cases t72q7).Value)] : List GPost)) } : Pipe) k2078 (.dead))⟩ (S_set (fun a => getH _ (.t 28) = chD dPipe 1 a) k2078 rfl)) (by kernel_rfl) (And.intro (born_fam (upI (famD dPipe 1 c2q30) (ix cases t72q7).Pipe (.dead)) (by kernel_rfl)) (And.intro (by kernel_rfl) trivial)) ?_
         refine run_eqS 3 (famD dPipe 0 c2q30) (famD dPipe 0 (c2q30.set (ix cases t72q7).Pipe.toNat ({ (ixD c2q30 (ix cases t72q7).Pipe) with Senders := ((ixD c2q30 (ix cases t72q7).Pipe).Senders ++ ([(GPost.mk task t72q7 (ix cases t72q7).Value)] : List GPost)) } : Pipe))) (famD_same k2078 ({ (ixD c2q30 (ix cases t72q7).Pipe) with Senders := ((ixD c2q30 (ix cases t72q7).Pipe).Senders ++ ([(GPost.mk task t72q7 (ix cases t72q7).Value)] : List GPost)) } : Pipe) rfl) (by kernel_rfl) ?_
         refine run_eqS 5 (famD dPipe 2 c2q30) (famD dPipe 2 (c2q30.set (ix cases t72q7).Pipe.toNat ({ (ixD c2q30 (ix cases t72q7).Pipe) with Senders := ((ixD c2q30 (ix cases t72q7).Pipe).Senders ++ ([(GPost.mk task t72q7 (ix cases t72q7).Value)] : List GPost)) } : Pipe))) (famD_same k2078 ({ (ixD c2q30 (ix cases t72q7).Pipe) with Senders := ((ixD c2q30 (ix cases t72q7).Pipe).Senders ++ ([(GPost.mk task t72q7 (ix cases t72q7).Value)] : List GPost)) } : Pipe) rfl) (by kernel_rfl) ?_
         refine run_eqF 14 (.own 2 0 c2q30.length) (.own 2 0 (c2q30.set (ix cases t72q7).Pipe.toNat ({ (ixD c2q30 (ix cases t72q7).Pipe) with Senders := ((ixD c2q30 (ix cases t72q7).Pipe).Senders ++ ([(GPost.mk task t72q7 (ix cases t72q7).Value)] : List GPost)) } : Pipe)).length) (congrArg (fun nq => (.own 2 0 nq : SV)) (show c2q30.length = (c2q30.set (ix cases t72q7).Pipe.toNat ({ (ixD c2q30 (ix cases t72q7).Pipe) with Senders := ((ixD c2q30 (ix cases t72q7).Pipe).Senders ++ ([(GPost.mk task t72q7 (ix cases t72q7).Value)] : List GPost)) } : Pipe)).length from (List.length_set ..).symm)) (by kernel_rfl) ?_
         refine rt [(1, iS task), (11, .ptr 0 0), (12, .ptr 1 0), (14, .own 2 0 (c2q30.set (ix cases t72q7).Pipe.toNat ({ (ixD c2q30 (ix cases t72q7).Pipe) with Senders := ((ixD c2q30 (ix cases t72q7).Pipe).Senders ++ ([(GPost.mk task t72q7 (ix cases t72q7).Value)] : List GPost)) } : Pipe)).length), (70, .sl cases.length (fl cases)), (71, iS ((cases.length : Nat) : Int)), (72, iS t72q7)] [(0, .row 33 [bS false, bS false, bS false, iS 0, iS 0, .v (.slice none 0 0)]), (1, .row 29 [iS 0, iS 0]), (2, .row 57 (flD dPipe [3, 32, 5] (c2q30.set (ix cases t72q7).Pipe.toNat ({ (ixD c2q30 (ix cases t72q7).Pipe) with Senders := ((ixD c2q30 (ix cases t72q7).Pipe).Senders ++ ([(GPost.mk task t72q7 (ix cases t72q7).Value)] : List GPost)) } : Pipe)))), ((.s 3 0), .fam (famD dPipe 0 (c2q30.set (ix cases t72q7).Pipe.toNat ({ (ixD c2q30 (ix cases t72q7).Pipe) with Senders := ((ixD c2q30 (ix cases t72q7).Pipe).Senders ++ ([(GPost.mk task t72q7 (ix cases t72q7).Value)] : List GPost)) } : Pipe)))), ((.s 4 0), .dead), ((.s 5 0), .fam (famD dPipe 2 (c2q30.set (ix cases t72q7).Pipe.toNat ({ (ixD c2q30 (ix cases t72q7).Pipe) with Senders := ((ixD c2q30 (ix cases t72q7).Pipe).Senders ++ ([(GPost.mk task t72q7 (ix cases t72q7).Value)] : List GPost)) } : Pipe)))), (6, .row 49 (Enc.cells (ix cases t72q7))), (16, .row 92 [iS task, iS t72q7, iS (ix cases t72q7).Value]), (26, .row 92 (fl ([(GPost.mk task t72q7 (ix cases t72q7).Value)] : List GPost))), (28, .dead), ((.s 32 0), .fam (famD dPipe 1 (c2q30.set (ix cases t72q7).Pipe.toNat ({ (ixD c2q30 (ix cases t72q7).Pipe) with Senders := ((ixD c2q30 (ix cases t72q7).Pipe).Senders ++ ([(GPost.mk task t72q7 (ix cases t72q7).Value)] : List GPost)) } : Pipe))))] 34 follows (by kernel_rfl) ?_
         exact hK2070 ((c2q30.set (ix cases t72q7).Pipe.toNat ({ (ixD c2q30 (ix cases t72q7).Pipe) with Senders := ((ixD c2q30 (ix cases t72q7).Pipe).Senders ++ ([(GPost.mk task t72q7 (ix cases t72q7).Value)] : List GPost)) } : Pipe))) _ _ _ h (leSt_m [(0, 0), (1, 1), (2, 2), ((.s 3 0), (.s 3 0)), ((.s 4 0), (.s 32 0)), ((.s 5 0), (.s 5 0))] [] (by simp only [push_cast, leL_flD, renL_flD, seval]) (by simp only [push_cast, leL_flD, renL_flD, seval]) rfl rfl rfl)
        ·refine chk_sx h (fun g2087 h => ?_)
         refine reg_t ?_
         have k2086 : ((ixD c2q30 (ix cases t72q7).Pipe).Getters ++ ([(GPost.mk task t72q7 (ix cases t72q7).Value)] : List GPost)).length * 24 ≤ 140737488355328 := by first | simpa only [Bool.and_eq_true, decide_eq_true_eq, bne_iff_ne, ne_eq] using g2087 | (simp at g2087 ⊢; omega)
         refine rs 10 [none, none, none, none, some ⟨.own (.s 5 (ix cases t72q7).Pipe) 0 (ixD c2q30 (ix cases t72q7).Pipe).Getters.length, [], 24, [2]⟩, none, none, some ⟨.own 28 0 ((ixD c2q30 (ix cases t72q7).Pipe).Getters ++ ([(GPost.mk task t72q7 (ix cases t72q7).Value)] : List GPost)).length, [(28, .row 92 (fl ((ixD c2q30 (ix cases t72q7).Pipe).Getters ++ ([(GPost.mk task t72q7 (ix cases t72q7).Value)] : List GPost)))), ((.s 5 0), .fam (upI (famD dPipe 2 c2q30) (ix cases t72q7).Pipe (.dead)))], 29, [(.s 5 0), 26]⟩] _ (by kernel_rfl) (allP_cons (ob_appM (P := Try.prog) dPipe 2 c2q30 (ix cases t72q7).Pipe 5 (ixD c2q30 (ix cases t72q7).Pipe).Getters ([(GPost.mk task t72q7 (ix cases t72q7).Value)] : List GPost) 3 24 rfl (appCells (fl ([(GPost.mk task t72q7 (ix cases t72q7).Value)] : List GPost)) 0 (([(GPost.mk task t72q7 (ix cases t72q7).Value)] : List GPost).length * 3)) ([(GPost.mk task t72q7 (ix cases t72q7).Value)] : List GPost).length (app_own ([(GPost.mk task t72q7 (ix cases t72q7).Value)] : List GPost) 3 rfl) rfl (0 + ([(GPost.mk task t72q7 (ix cases t72q7).Value)] : List GPost).length * 3 ≤ (fl ([(GPost.mk task t72q7 (ix cases t72q7).Value)] : List GPost)).length) (app_own_le ([(GPost.mk task t72q7 (ix cases t72q7).Value)] : List GPost) 3 rfl) 92 (by kernel_rfl) (by decide) k2086 28 [26]) (allP_cons (ob_ldD dPipe [3, 4, 5] c2q30 (ix cases t72q7).Pipe 5 4 ((0 + ((ix cases t72q7).Pipe).toNat * 5) + 4) k2078 rfl (by decide) (by first | rfl | omega) (dflS Try.prog 55) (.own (.s 5 (ix cases t72q7).Pipe) 0 (ixD c2q30 (ix cases t72q7).Pipe).Getters.length) rfl 24 [2]) allP_nil)) ?_
         refine run_opGb none _ ⟨.any, [(2, .row 57 (flN dPipe (nA [(some 3), (some 4), (some 5)] [(some (.s 3 (ix cases t72q7).Pipe)), (some (.s 4 (ix cases t72q7).Pipe)), (some (Nm.t 28))] (ix cases t72q7).Pipe) 0 (c2q30.set (ix cases t72q7).Pipe.toNat ({ (ixD c2q30 (ix cases t72q7).Pipe) with Getters := ((ixD c2q30 (ix cases t72q7).Pipe).Getters ++ ([(GPost.mk task t72q7 (ix cases t72q7).Value)] : List GPost)) } : Pipe))))], 32, [2]⟩ [((.s 32 0), .fam (famD dPipe 2 (c2q30.set (ix cases t72q7).Pipe.toNat ({ (ixD c2q30 (ix cases t72q7).Pipe) with Getters := ((ixD c2q30 (ix cases t72q7).Pipe).Getters ++ ([(GPost.mk task t72q7 (ix cases t72q7).Value)] : List GPost)) } : Pipe)))), (2, .row 57 (flD dPipe [3, 4, 32] (c2q30.set (ix cases t72q7).Pipe.toNat ({ (ixD c2q30 (ix cases t72q7).Pipe) with Getters := ((ixD c2q30 (ix cases t72q7).Pipe).Getters ++ ([(GPost.mk task t72q7 (ix cases t72q7).Value)] : List GPost)) } : Pipe)))), ((.s 5 0), .dead), (28, .dead)] 1 [2, (.s 5 0), 28] [(.s 5 0), 28] (by kernel_rfl) (ob_stN (P := Try.prog) dPipe [3, 4, 5] [(some (.s 3 (ix cases t72q7).Pipe)), (some (.s 4 (ix cases t72q7).Pipe)), (some (Nm.t 28))] c2q30 (ix cases t72q7).Pipe 5 4 ((0 + ((ix cases t72q7).Pipe).toNat * 5) + 4) k2078 rfl [.own 28 0 ((ixD c2q30 (ix cases t72q7).Pipe).Getters ++ ([(GPost.mk task t72q7 (ix cases t72q7).Value)] : List GPost)).length] ({ (ixD c2q30 (ix cases t72q7).Pipe) with Getters := ((ixD c2q30 (ix cases t72q7).Pipe).Getters ++ ([(GPost.mk task t72q7 (ix cases t72q7).Value)] : List GPost)) } : Pipe) (Nat.le_of_ble_eq_true rfl) (by first | rfl | omega) rfl rfl 2 32 57 55 (by kernel_rfl) rfl) (ghost_A 32 dPipe (c2q30.set (ix cases t72q7).Pipe.toNat ({ (ixD c2q30 (ix cases t72q7).Pipe) with Getters := ((ixD c2q30 (ix cases t72q7).Pipe).Getters ++ ([(GPost.mk task t72q7 (ix cases t72q7).Value)] : List GPost)) } : Pipe)) 2 57 [(some 3), (some 4), (some 5)] [(some (.s 3 (ix cases t72q7).Pipe)), (some (.s 4 (ix cases t72q7).Pipe)), (some (Nm.t 28))] (ix cases t72q7).Pipe (flD dPipe [3, 4, 32] (c2q30.set (ix cases t72q7).Pipe.toNat ({ (ixD c2q30 (ix cases t72q7).Pipe) with Getters := ((ixD c2q30 (ix cases t72q7).Pipe).Getters ++ ([(GPost.mk task t72q7 (ix cases t72q7).Value)] : List GPost)) } : Pipe))) 2 (some 5) (some 28) (by kernel_rfl) (flN_done dPipe [3, 4, 32] (ix cases t72q7).Pipe (c2q30.set (ix cases t72q7).Pipe.toNat ({ (ixD c2q30 (ix cases t72q7).Pipe) with Getters := ((ixD c2q30 (ix cases t72q7).Pipe).Getters ++ ([(GPost.mk task t72q7 (ix cases t72q7).Value)] : List GPost)) } : Pipe)) rfl) (by kernel_rfl) ⟨_, (by kernel_rfl), (off_hole c2q30 (ix cases t72q7).Pipe ({ (ixD c2q30 (ix cases t72q7).Pipe) with Getters := ((ixD c2q30 (ix cases t72q7).Pipe).Getters ++ ([(GPost.mk task t72q7 (ix cases t72q7).Value)] : List GPost)) } : Pipe) k2078 (.dead))⟩ (S_set (fun a => getH _ (.t 28) = chD dPipe 2 a) k2078 rfl)) (by kernel_rfl) (And.intro (born_fam (upI (famD dPipe 2 c2q30) (ix cases t72q7).Pipe (.dead)) (by kernel_rfl)) (And.intro (by kernel_rfl) trivial)) ?_
         refine run_eqS 3 (famD dPipe 0 c2q30) (famD dPipe 0 (c2q30.set (ix cases t72q7).Pipe.toNat ({ (ixD c2q30 (ix cases t72q7).Pipe) with Getters := ((ixD c2q30 (ix cases t72q7).Pipe).Getters ++ ([(GPost.mk task t72q7 (ix cases t72q7).Value)] : List GPost)) } : Pipe))) (famD_same k2078 ({ (ixD c2q30 (ix cases t72q7).Pipe) with Getters := ((ixD c2q30 (ix cases t72q7).Pipe).Getters ++ ([(GPost.mk task t72q7 (ix cases t72q7).Value)] : List GPost)) } : Pipe) rfl) (by kernel_rfl) ?_
         refine run_eqS 4 (famD dPipe 1 c2q30) (famD dPipe 1 (c2q30.set (ix cases t72q7).Pipe.toNat ({ (ixD c2q30 (ix cases t72q7).Pipe) with Getters := ((ixD c2q30 (ix cases t72q7).Pipe).Getters ++ ([(GPost.mk task t72q7 (ix cases t72q7).Value)] : List GPost)) } : Pipe))) (famD_same k2078 ({ (ixD c2q30 (ix cases t72q7).Pipe) with Getters := ((ixD c2q30 (ix cases t72q7).Pipe).Getters ++ ([(GPost.mk task t72q7 (ix cases t72q7).Value)] : List GPost)) } : Pipe) rfl) (by kernel_rfl) ?_
         refine run_eqF 14 (.own 2 0 c2q30.length) (.own 2 0 (c2q30.set (ix cases t72q7).Pipe.toNat ({ (ixD c2q30 (ix cases t72q7).Pipe) with Getters := ((ixD c2q30 (ix cases t72q7).Pipe).Getters ++ ([(GPost.mk task t72q7 (ix cases t72q7).Value)] : List GPost)) } : Pipe)).length) (congrArg (fun nq => (.own 2 0 nq : SV)) (show c2q30.length = (c2q30.set (ix cases t72q7).Pipe.toNat ({ (ixD c2q30 (ix cases t72q7).Pipe) with Getters := ((ixD c2q30 (ix cases t72q7).Pipe).Getters ++ ([(GPost.mk task t72q7 (ix cases t72q7).Value)] : List GPost)) } : Pipe)).length from (List.length_set ..).symm)) (by kernel_rfl) ?_
         refine rt [(1, iS task), (11, .ptr 0 0), (12, .ptr 1 0), (14, .own 2 0 (c2q30.set (ix cases t72q7).Pipe.toNat ({ (ixD c2q30 (ix cases t72q7).Pipe) with Getters := ((ixD c2q30 (ix cases t72q7).Pipe).Getters ++ ([(GPost.mk task t72q7 (ix cases t72q7).Value)] : List GPost)) } : Pipe)).length), (70, .sl cases.length (fl cases)), (71, iS ((cases.length : Nat) : Int)), (72, iS t72q7)] [(0, .row 33 [bS false, bS false, bS false, iS 0, iS 0, .v (.slice none 0 0)]), (1, .row 29 [iS 0, iS 0]), (2, .row 57 (flD dPipe [3, 4, 32] (c2q30.set (ix cases t72q7).Pipe.toNat ({ (ixD c2q30 (ix cases t72q7).Pipe) with Getters := ((ixD c2q30 (ix cases t72q7).Pipe).Getters ++ ([(GPost.mk task t72q7 (ix cases t72q7).Value)] : List GPost)) } : Pipe)))), ((.s 3 0), .fam (famD dPipe 0 (c2q30.set (ix cases t72q7).Pipe.toNat ({ (ixD c2q30 (ix cases t72q7).Pipe) with Getters := ((ixD c2q30 (ix cases t72q7).Pipe).Getters ++ ([(GPost.mk task t72q7 (ix cases t72q7).Value)] : List GPost)) } : Pipe)))), ((.s 4 0), .fam (famD dPipe 1 (c2q30.set (ix cases t72q7).Pipe.toNat ({ (ixD c2q30 (ix cases t72q7).Pipe) with Getters := ((ixD c2q30 (ix cases t72q7).Pipe).Getters ++ ([(GPost.mk task t72q7 (ix cases t72q7).Value)] : List GPost)) } : Pipe)))), ((.s 5 0), .dead), (6, .row 49 (Enc.cells (ix cases t72q7))), (16, .row 92 [iS task, iS t72q7, iS (ix cases t72q7).Value]), (26, .row 92 (fl ([(GPost.mk task t72q7 (ix cases t72q7).Value)] : List GPost))), (28, .dead), ((.s 32 0), .fam (famD dPipe 2 (c2q30.set (ix cases t72q7).Pipe.toNat ({ (ixD c2q30 (ix cases t72q7).Pipe) with Getters := ((ixD c2q30 (ix cases t72q7).Pipe).Getters ++ ([(GPost.mk task t72q7 (ix cases t72q7).Value)] : List GPost)) } : Pipe))))] 34 follows (by kernel_rfl) ?_
         exact hK2070 ((c2q30.set (ix cases t72q7).Pipe.toNat ({ (ixD c2q30 (ix cases t72q7).Pipe) with Getters := ((ixD c2q30 (ix cases t72q7).Pipe).Getters ++ ([(GPost.mk task t72q7 (ix cases t72q7).Value)] : List GPost)) } : Pipe))) _ _ _ h (leSt_m [(0, 0), (1, 1), (2, 2), ((.s 3 0), (.s 3 0)), ((.s 4 0), (.s 4 0)), ((.s 5 0), (.s 32 0))] [] (by simp only [push_cast, leL_flD, renL_flD, seval]) (by simp only [push_cast, leL_flD, renL_flD, seval]) rfl rfl rfl)
      ·rintro c2q32 h
       try dsimp only at h ⊢
       unfold pick_Pick_j1 at h
       refine wk_id ?_
       refine reg_f ?_
       refine rs 2 [] [] (by kernel_rfl) allP_nil ?_
       refine rf [(1, iS task), (11, .ptr 0 0), (12, .ptr 1 0), (14, .own 2 0 c2q32.length), (70, .sl cases.length (fl cases)), (71, iS ((cases.length : Nat) : Int)), (72, iS (IntKind.i64.wrap (t72q7 + 1)))] [(0, .row 33 [bS false, bS false, bS false, iS 0, iS 0, .v (.slice none 0 0)]), (1, .row 29 [iS 0, iS 0]), (2, .row 57 (flD dPipe [3, 4, 5] c2q32)), ((.s 3 0), .fam (famD dPipe 0 c2q32)), ((.s 4 0), .fam (famD dPipe 1 c2q32)), ((.s 5 0), .fam (famD dPipe 2 c2q32))] 6 (by kernel_rfl) ?_
       exact hn4 ((IntKind.i64.wrap (t72q7 + 1)), c2q32) _ _ _ (Option.some.inj h).symm (leSt_m [(0, 0), (1, 1), (2, 2), ((.s 3 0), (.s 3 0)), ((.s 4 0), (.s 4 0)), ((.s 5 0), (.s 5 0))] [] (by simp only [push_cast, leL_flD, renL_flD, seval]) (by simp only [push_cast, leL_flD, renL_flD, seval]) rfl rfl rfl)
     ·change R4 (.exit 2) _ _ _
      refine ex_cast hx4 (id := 2) ?_
      obtain ⟨r0, h, e0⟩ := map_sx h
      have e1 := hr4 r0 e0.symm
      subst r0
      refine wk_id ?_
      refine wk_id ?_
      refine seq_np ?_
      refine reg_f ?_
      refine rs 6 [] [] (by kernel_rfl) allP_nil ?_
      refine rf [(10, .own 2 0 c2q30.length), (11, .ptr 0 0), (12, .ptr 1 0)] [(0, .row 33 [bS false, bS false, bS false, iS 0, iS 0, .v (.slice none 0 0)]), (1, .row 29 [iS 0, iS 0]), (2, .row 57 (flD dPipe [3, 4, 5] c2q30)), ((.s 3 0), .fam (famD dPipe 0 c2q30)), ((.s 4 0), .fam (famD dPipe 1 c2q30)), ((.s 5 0), .fam (famD dPipe 2 c2q30))] 6 (by kernel_rfl) ?_
      refine wk_id ?_
      obtain rfl := Option.some.inj h
      refine ret_at (.tup [.own 2 0 c2q30.length, .agg [bS false, bS false, bS false, iS 0, iS 0, .v (.slice none 0 0)], .agg [iS 0, iS 0]]) (by kernel_rfl) ?_
      exact ret_e [(0, 2), ((.s 2 0), (.s 3 0)), ((.s 3 0), (.s 4 0)), ((.s 4 0), (.s 5 0))] [] (by simp only [push_cast, leL_flD, renL_flD, seval]) (by simp only [push_cast, leL_flD, renL_flD, seval]) rfl rfl rfl

set_option maxRecDepth 100000 in
set_option maxHeartbeats 200000000 in
theorem taskmillref_Ints_spec (xa : (List Int)) (b : (List Int)) (r : Bool) (h : taskmillref_Ints xa b = some r) : SpecW Try.prog 24 [.sl xa.length (fl xa), .sl b.length (fl b)] [] 0 (fun x h n => x = bS r ∧ h = [] ∧ n = 0) := by
 unfold taskmillref_Ints at h
 refine spec_of (draw_ok _) Try.func24 rfl (by decide) rfl (by kernel_rfl) ?_
 refine seq_np ?_
 refine reg_f ?_
 refine rs 1 [] [] (by kernel_rfl) allP_nil ?_
 refine rf [(0, .sl xa.length (fl xa)), (1, .sl b.length (fl b))] [] 0 (by kernel_rfl) ?_
 refine wk_id ?_
 refine seq_np ?_
 refine seq_np ?_
 refine reg_f ?_
 refine rs 5 [] [] (by kernel_rfl) allP_nil ?_
 refine rf [(0, .sl xa.length (fl xa)), (1, .sl b.length (fl b)), (10, bS (((xa.length : Nat) : Int) != ((b.length : Nat) : Int)))] [] 0 (by kernel_rfl) ?_
 refine wk_id ?_
 refine cond_sx h (by kernel_rfl) (fun g2195 h => ?_) (fun g2195 h => ?_)
 ·refine seq_np ?_
  refine reg_f ?_
  refine rs 1 [] [] (by kernel_rfl) allP_nil ?_
  refine rf [(4, bS false)] [] 0 (by kernel_rfl) ?_
  refine wk_id ?_
  obtain rfl := Option.some.inj h
  refine ret_at (bS false) (by kernel_rfl) ?_
  exact ret_e [] [] (by simp only [push_cast, leL_flD, renL_flD, seval]) (by simp only [push_cast, leL_flD, renL_flD, seval]) rfl rfl rfl
 ·refine wk_id ?_
  refine seq_np ?_
  refine seq_np ?_
  refine reg_f ?_
  refine rs 1 [] [] (by kernel_rfl) allP_nil ?_
  refine rf [(0, .sl xa.length (fl xa)), (1, .sl b.length (fl b)), (5, iS 0)] [] 0 (by kernel_rfl) ?_
  refine wk_id ?_
  refine block_np ?_
  refine loop_sx (S := Int) (fun a => ([(0, .sl xa.length (fl xa)), (1, .sl b.length (fl b)), (5, iS a)], [], 0)) h (leSt_m [] [] (by simp only [push_cast, leL_flD, renL_flD, seval]) (by simp only [push_cast, leL_flD, renL_flD, seval]) rfl rfl rfl) ?_
  rintro i7 o2 R2 h hr2 hn2 hx2 ht2
  try dsimp only at h hn2 ⊢
  unfold taskmillref_Ints_l1 at h
  try dsimp only at h
  refine seq_np ?_
  refine seq_np ?_
  refine reg_f ?_
  refine rs 4 [] [] (by kernel_rfl) allP_nil ?_
  refine rf [(0, .sl xa.length (fl xa)), (1, .sl b.length (fl b)), (5, iS i7), (14, bS (decide (i7 < ((xa.length : Nat) : Int))))] [] 0 (by kernel_rfl) ?_
  refine wk_id ?_
  refine cond_sx h (by kernel_rfl) (fun g2194 h => ?_) (fun g2194 h => ?_)
  ·refine wk_id ?_
   refine seq_np ?_
   refine block_np ?_
   refine chk_sx h (fun g2190 h => ?_)
   refine chk_sx h (fun g2192 h => ?_)
   refine seq_np ?_
   refine reg_t ?_
   have k2189 : 0 ≤ i7 ∧ i7 < ((xa.length : Nat) : Int) := by first | simpa only [Bool.and_eq_true, decide_eq_true_eq, bne_iff_ne, ne_eq] using g2190 | (simp at g2190 ⊢; omega)
   have k2191 : 0 ≤ i7 ∧ i7 < ((b.length : Nat) : Int) := by first | simpa only [Bool.and_eq_true, decide_eq_true_eq, bne_iff_ne, ne_eq] using g2192 | (simp at g2192 ⊢; omega)
   refine rs 9 [none, none, some ⟨.iptr (fl xa) ((i7).toNat * 1), [], 2, []⟩, some ⟨iS (ix xa i7), [], 3, []⟩, none, none, some ⟨.iptr (fl b) ((i7).toNat * 1), [], 6, []⟩, some ⟨iS (ix b i7), [], 7, []⟩] _ (by kernel_rfl) (allP_cons (ob_ld b i7 1 0 ((i7).toNat * 1) k2191 rfl (by decide) (by first | rfl | omega) (dflS Try.prog 3) (iS (ix b i7)) rfl 7 []) (allP_cons (ob_ix_l b 1 6 i7 k2191) (allP_cons (ob_ld xa i7 1 0 ((i7).toNat * 1) k2189 rfl (by decide) (by first | rfl | omega) (dflS Try.prog 3) (iS (ix xa i7)) rfl 3 []) (allP_cons (ob_ix_l xa 1 2 i7 k2189) allP_nil)))) ?_
   refine rt [(0, .sl xa.length (fl xa)), (1, .sl b.length (fl b)), (5, iS i7), (25, bS ((ix xa i7) != (ix b i7)))] [] 9 follows (by kernel_rfl) ?_
   refine wk_id ?_
   refine cond_sx h (by kernel_rfl) (fun g2193 h => ?_) (fun g2193 h => ?_)
   ·refine seq_np ?_
    refine reg_f ?_
    refine rs 1 [] [] (by kernel_rfl) allP_nil ?_
    refine rf [(4, bS false)] [] 9 (by kernel_rfl) ?_
    refine wk_id ?_
    refine rt_cast ht2 ?_
    obtain ⟨r0, h, e0⟩ := map_sx h
    have e1 := hr2 r0 e0.symm
    subst r0
    obtain rfl := Option.some.inj h
    refine ret_at (bS false) (by kernel_rfl) ?_
    exact ret_e [] [] (by simp only [push_cast, leL_flD, renL_flD, seval]) (by simp only [push_cast, leL_flD, renL_flD, seval]) rfl rfl rfl
   ·refine wk_id ?_
    refine wk_id ?_
    refine reg_f ?_
    refine rs 3 [] [] (by kernel_rfl) allP_nil ?_
    refine rf [(0, .sl xa.length (fl xa)), (1, .sl b.length (fl b)), (5, iS (IntKind.i64.wrap (i7 + 1)))] [] 9 (by kernel_rfl) ?_
    exact hn2 ((IntKind.i64.wrap (i7 + 1))) _ _ _ (Option.some.inj h).symm (leSt_m [] [] (by simp only [push_cast, leL_flD, renL_flD, seval]) (by simp only [push_cast, leL_flD, renL_flD, seval]) rfl rfl rfl)
  ·change R2 (.exit 0) _ _ _
   refine ex_cast hx2 (id := 0) ?_
   obtain ⟨r0, h, e0⟩ := map_sx h
   have e1 := hr2 r0 e0.symm
   subst r0
   refine wk_id ?_
   refine wk_id ?_
   refine seq_np ?_
   refine reg_f ?_
   refine rs 1 [] [] (by kernel_rfl) allP_nil ?_
   refine rf [(4, bS true)] [] 0 (by kernel_rfl) ?_
   refine wk_id ?_
   obtain rfl := Option.some.inj h
   refine ret_at (bS true) (by kernel_rfl) ?_
   exact ret_e [] [] (by simp only [push_cast, leL_flD, renL_flD, seval]) (by simp only [push_cast, leL_flD, renL_flD, seval]) rfl rfl rfl

set_option maxRecDepth 100000 in
set_option maxHeartbeats 200000000 in
theorem taskmilllaw_pickBegun_spec (r : Bool) (h : taskmilllaw_pickBegun = some r) : SpecW Try.prog 9 [] [] 0 (fun x h n => x = bS r ∧ h = [] ∧ n = 0) := by
 unfold taskmilllaw_pickBegun at h
 refine spec_of (draw_ok _) Try.func9 rfl (by decide) rfl (by kernel_rfl) ?_
 refine seq_np ?_
 refine reg_f ?_
 refine rs 1 [] [] (by kernel_rfl) allP_nil ?_
 refine rf [] [] 0 (by kernel_rfl) ?_
 refine wk_id ?_
 refine seq_np ?_
 refine reg_f ?_
 refine rs 2 [] [] (by kernel_rfl) allP_nil ?_
 refine run_nilF (some 7) 2 57 [iS 1, .v (.slice none 0 0), bS false, .v (.slice none 0 0), .v (.slice none 0 0), iS 1, .v (.slice none 0 0), bS false, .v (.slice none 0 0), .v (.slice none 0 0)] (fl ([(Pipe.mk 1 [] false [] []), (Pipe.mk 1 [] false [] [])] : List Pipe)) (by kernel_rfl) rfl rfl ?_
 refine rs 1 [] [] (by kernel_rfl) allP_nil ?_
 refine rf [(1, .own 0 0 ([(Pipe.mk 1 [] false [] []), (Pipe.mk 1 [] false [] [])] : List Pipe).length)] [(0, .row 57 (fl ([(Pipe.mk 1 [] false [] []), (Pipe.mk 1 [] false [] [])] : List Pipe)))] 1 (by kernel_rfl) ?_
 refine wk_id ?_
 refine seq_np ?_
 refine reg_f ?_
 refine rs 5 [] [] (by kernel_rfl) allP_nil ?_
 obtain ⟨r2200, hr2200, h⟩ := bind_sx h
 refine call_x (SpecW.give (SpecW.give (SpecW.give (pick_Pick_spec ([(Pipe.mk 1 [] false [] []), (Pipe.mk 1 [] false [] [])] : List Pipe) 1 ([(GCase.mk 0 false 0), (GCase.mk 1 true 5)] : List GCase) ([0, 1] : List Int) false r2200 hr2200) [(0, .row 57 (fl ([(Pipe.mk 1 [] false [] []), (Pipe.mk 1 [] false [] [])] : List Pipe)))] [.own 0 0 ([(Pipe.mk 1 [] false [] []), (Pipe.mk 1 [] false [] [])] : List Pipe).length, iS 1, .sl ([(GCase.mk 0 false 0), (GCase.mk 1 true 5)] : List GCase).length (fl ([(GCase.mk 0 false 0), (GCase.mk 1 true 5)] : List GCase)), .sl ([0, 1] : List Int).length (fl ([0, 1] : List Int)), bS false] [] (.tup [.own 1 0 r2200.2.2.2.2.2.2.1.length, .agg [bS r2200.1, bS r2200.2.1, bS r2200.2.2.1, iS r2200.2.2.2.1, iS r2200.2.2.2.2.1, .own 2 0 r2200.2.2.2.2.2.2.2.length], .agg (Enc.cells r2200.2.2.2.2.2.1)]) [(1, .row 57 (flD dPipe [3, 4, 5] r2200.2.2.2.2.2.2.1)), (2, .row 64 (fl r2200.2.2.2.2.2.2.2)), ((.s 3 0), .fam (famD dPipe 0 r2200.2.2.2.2.2.2.1)), ((.s 4 0), .fam (famD dPipe 1 r2200.2.2.2.2.2.2.1)), ((.s 5 0), .fam (famD dPipe 2 r2200.2.2.2.2.2.2.1))] (by first | simp only [push_cast, leL_flD, renL_flD, seval] | simp only [push_cast, List.mem_singleton, true_and, and_true, leL_flD, renL_flD, seval]) (by simp only [push_cast, leL_flD, renL_flD, seval]) (by simp only [push_cast, leL_flD, renL_flD, seval]) (by simp only [push_cast, leL_flD, renL_flD, seval]) rfl (by first | (simp only [push_cast, leL_flD, renL_flD, seval]; done) | (simp only [push_cast, leL_flD, renL_flD, seval]; kernel_rfl) | kernel_rfl) (by first | (simp only [push_cast, leL_flD, renL_flD, seval]; done) | (simp only [push_cast, leL_flD, renL_flD, seval]; kernel_rfl) | kernel_rfl) rfl) [(0, .row 57 (fl ([(Pipe.mk 1 [] false [] []), (Pipe.mk 1 [] false [] [])] : List Pipe))), (1, .row 49 (fl ([(GCase.mk 0 false 0), (GCase.mk 1 true 5)] : List GCase)))] [.own 0 0 ([(Pipe.mk 1 [] false [] []), (Pipe.mk 1 [] false [] [])] : List Pipe).length, iS 1, .own 1 0 ([(GCase.mk 0 false 0), (GCase.mk 1 true 5)] : List GCase).length, .sl ([0, 1] : List Int).length (fl ([0, 1] : List Int)), bS false] [(0, 0)] (.tup [.own 3 0 r2200.2.2.2.2.2.2.1.length, .agg [bS r2200.1, bS r2200.2.1, bS r2200.2.2.1, iS r2200.2.2.2.1, iS r2200.2.2.2.2.1, .own 4 0 r2200.2.2.2.2.2.2.2.length], .agg (Enc.cells r2200.2.2.2.2.2.1)]) [(3, .row 57 (flD dPipe [5, 6, 7] r2200.2.2.2.2.2.2.1)), (4, .row 64 (fl r2200.2.2.2.2.2.2.2)), ((.s 5 0), .fam (famD dPipe 0 r2200.2.2.2.2.2.2.1)), ((.s 6 0), .fam (famD dPipe 1 r2200.2.2.2.2.2.2.1)), ((.s 7 0), .fam (famD dPipe 2 r2200.2.2.2.2.2.2.1)), (0, .dead)] (by first | simp only [push_cast, leL_flD, renL_flD, seval] | simp only [push_cast, List.mem_singleton, true_and, and_true, leL_flD, renL_flD, seval]) (by simp only [push_cast, leL_flD, renL_flD, seval]) (by simp only [push_cast, leL_flD, renL_flD, seval]) (by simp only [push_cast, leL_flD, renL_flD, seval]) rfl (by first | (simp only [push_cast, leL_flD, renL_flD, seval]; done) | (simp only [push_cast, leL_flD, renL_flD, seval]; kernel_rfl) | kernel_rfl) (by first | (simp only [push_cast, leL_flD, renL_flD, seval]; done) | (simp only [push_cast, leL_flD, renL_flD, seval]; kernel_rfl) | kernel_rfl) rfl) [(0, .row 57 (fl ([(Pipe.mk 1 [] false [] []), (Pipe.mk 1 [] false [] [])] : List Pipe))), (1, .row 49 (fl ([(GCase.mk 0 false 0), (GCase.mk 1 true 5)] : List GCase))), (2, .row 3 (fl ([0, 1] : List Int)))] [.own 0 0 ([(Pipe.mk 1 [] false [] []), (Pipe.mk 1 [] false [] [])] : List Pipe).length, iS 1, .own 1 0 ([(GCase.mk 0 false 0), (GCase.mk 1 true 5)] : List GCase).length, .own 2 0 ([0, 1] : List Int).length, bS false] [(0, 0), (1, 1)] (.tup [.own 6 0 r2200.2.2.2.2.2.2.1.length, .agg [bS r2200.1, bS r2200.2.1, bS r2200.2.2.1, iS r2200.2.2.2.1, iS r2200.2.2.2.2.1, .own 7 0 r2200.2.2.2.2.2.2.2.length], .agg (Enc.cells r2200.2.2.2.2.2.1)]) [(6, .row 57 (flD dPipe [8, 9, 10] r2200.2.2.2.2.2.2.1)), (7, .row 64 (fl r2200.2.2.2.2.2.2.2)), ((.s 8 0), .fam (famD dPipe 0 r2200.2.2.2.2.2.2.1)), ((.s 9 0), .fam (famD dPipe 1 r2200.2.2.2.2.2.2.1)), ((.s 10 0), .fam (famD dPipe 2 r2200.2.2.2.2.2.2.1)), (0, .dead), (0, .dead), (1, .dead)] (by first | simp only [push_cast, leL_flD, renL_flD, seval] | simp only [push_cast, List.mem_singleton, true_and, and_true, leL_flD, renL_flD, seval]) (by simp only [push_cast, leL_flD, renL_flD, seval]) (by simp only [push_cast, leL_flD, renL_flD, seval]) (by simp only [push_cast, leL_flD, renL_flD, seval]) rfl (by first | (simp only [push_cast, leL_flD, renL_flD, seval]; done) | (simp only [push_cast, leL_flD, renL_flD, seval]; kernel_rfl) | kernel_rfl) (by first | (simp only [push_cast, leL_flD, renL_flD, seval]; done) | (simp only [push_cast, leL_flD, renL_flD, seval]; kernel_rfl) | kernel_rfl) rfl) (args := [.own 0 0 ([(Pipe.mk 1 [] false [] []), (Pipe.mk 1 [] false [] [])] : List Pipe).length, iS 1, .own 1 0 ([(GCase.mk 0 false 0), (GCase.mk 1 true 5)] : List GCase).length, .own 2 0 ([0, 1] : List Int).length, bS false]) (dst := (some 14)) (by kernel_rfl) [(0, .row 57 (fl ([(Pipe.mk 1 [] false [] []), (Pipe.mk 1 [] false [] [])] : List Pipe))), (1, .row 49 (fl ([(GCase.mk 0 false 0), (GCase.mk 1 true 5)] : List GCase))), (2, .row 3 (fl ([0, 1] : List Int)))] 3 (by kernel_rfl) [(0, 0), (1, 1), (2, 2)] [] (.tup [.own 9 0 r2200.2.2.2.2.2.2.1.length, .agg [bS r2200.1, bS r2200.2.1, bS r2200.2.2.1, iS r2200.2.2.2.1, iS r2200.2.2.2.2.1, .own 10 0 r2200.2.2.2.2.2.2.2.length], .agg (Enc.cells r2200.2.2.2.2.2.1)]) [(9, .row 57 (flD dPipe [11, 12, 13] r2200.2.2.2.2.2.2.1)), (10, .row 64 (fl r2200.2.2.2.2.2.2.2)), ((.s 11 0), .fam (famD dPipe 0 r2200.2.2.2.2.2.2.1)), ((.s 12 0), .fam (famD dPipe 1 r2200.2.2.2.2.2.2.1)), ((.s 13 0), .fam (famD dPipe 2 r2200.2.2.2.2.2.2.1)), (0, .dead), (0, .dead), (1, .dead), (0, .dead), (1, .dead), (2, .dead)] (by simp only [push_cast, leL_flD, renL_flD, seval]) (by simp only [push_cast, leL_flD, renL_flD, seval]) (by kernel_rfl) (.inl rfl) (by first | (simp only [push_cast, leL_flD, renL_flD, seval]; done) | (simp only [push_cast, leL_flD, renL_flD, seval]; kernel_rfl) | kernel_rfl) (by first | (simp only [push_cast, leL_flD, renL_flD, seval]; done) | (simp only [push_cast, leL_flD, renL_flD, seval]; kernel_rfl) | kernel_rfl) ?_
 refine rs 9 [] [] (by kernel_rfl) allP_nil ?_
 refine rf [(2, .own 9 0 r2200.2.2.2.2.2.2.1.length), (3, .ptr 14 0), (4, .ptr 15 0)] [(0, .dead), (1, .dead), (2, .dead), (9, .row 57 (flD dPipe [11, 12, 13] r2200.2.2.2.2.2.2.1)), (10, .row 64 (fl r2200.2.2.2.2.2.2.2)), ((.s 11 0), .fam (famD dPipe 0 r2200.2.2.2.2.2.2.1)), ((.s 12 0), .fam (famD dPipe 1 r2200.2.2.2.2.2.2.1)), ((.s 13 0), .fam (famD dPipe 2 r2200.2.2.2.2.2.2.1)), (14, .row 33 [bS r2200.1, bS r2200.2.1, bS r2200.2.2.1, iS r2200.2.2.2.1, iS r2200.2.2.2.2.1, .own 10 0 r2200.2.2.2.2.2.2.2.length]), (15, .row 29 (Enc.cells r2200.2.2.2.2.2.1))] 16 (by kernel_rfl) ?_
 refine wk_id ?_
 refine seq_cut (A := Bool) (fun a => ([(0, bS a)], [], 0)) (fun a => (taskmilllaw_pickBegun_j1 a) = some r) (fun K2209 hK2209 => ?_) ?_
 ·refine reg_f ?_
  refine rs 4 [] [] (by kernel_rfl) allP_nil ?_
  refine run_br h 21 (.inl (by kernel_rfl)) (fun g2210 h => ?_) (fun g2210 h => ?_)
  ·refine rs 4 [] [] (by kernel_rfl) allP_nil ?_
   refine run_br h 25 (.inl (by kernel_rfl)) (fun g2211 h => ?_) (fun g2211 h => ?_)
   ·refine rs 5 [] [] (by kernel_rfl) allP_nil ?_
    refine run_br h 30 (.inl (by kernel_rfl)) (fun g2212 h => ?_) (fun g2212 h => ?_)
    ·refine rn 13 [(2, .own 9 0 r2200.2.2.2.2.2.2.1.length), (30, bS true)] [(0, .dead), (1, .dead), (2, .dead), (9, .row 57 (flD dPipe [11, 12, 13] r2200.2.2.2.2.2.2.1)), (10, .row 64 (fl r2200.2.2.2.2.2.2.2)), ((.s 11 0), .fam (famD dPipe 0 r2200.2.2.2.2.2.2.1)), ((.s 12 0), .fam (famD dPipe 1 r2200.2.2.2.2.2.2.1)), ((.s 13 0), .fam (famD dPipe 2 r2200.2.2.2.2.2.2.1)), (14, .row 33 [bS r2200.1, bS r2200.2.1, bS r2200.2.2.1, iS r2200.2.2.2.1, iS r2200.2.2.2.2.1, .own 10 0 r2200.2.2.2.2.2.2.2.length]), (15, .row 29 (Enc.cells r2200.2.2.2.2.2.1))] 16 (by kernel_rfl) ?_
     refine rs 5 [] [] (by kernel_rfl) allP_nil ?_
     refine run_br h 35 (.inl (by kernel_rfl)) (fun g2213 h => ?_) (fun g2213 h => ?_)
     ·refine chk_sx h (fun g2215 h => ?_)
      have k2214 : 0 ≤ (1 : Int) ∧ (1 : Int) < ((r2200.2.2.2.2.2.2.1.length : Nat) : Int) := by first | simpa only [Bool.and_eq_true, decide_eq_true_eq, bne_iff_ne, ne_eq] using g2215 | (simp at g2215 ⊢; omega)
      refine rs 5 [none, some ⟨.ptr 9 (0 + ((1 : Int)).toNat * 5), [], 16, [9]⟩, none, some ⟨.own (.s 11 (1 : Int)) 0 (ixD r2200.2.2.2.2.2.2.1 (1 : Int)).Items.length, [], 16, [9]⟩] _ (by kernel_rfl) (allP_cons (ob_ldD dPipe [11, 12, 13] r2200.2.2.2.2.2.2.1 (1 : Int) 5 1 ((0 + ((1 : Int)).toNat * 5) + 1) k2214 rfl (by decide) (by first | rfl | omega) (dflS Try.prog 24) (.own (.s 11 (1 : Int)) 0 (ixD r2200.2.2.2.2.2.2.1 (1 : Int)).Items.length) rfl 16 [9]) (allP_cons (ob_ix_o 9 r2200.2.2.2.2.2.2.1.length 0 5 16 1 k2214) allP_nil)) ?_
      obtain ⟨r2216, hr2216, h⟩ := bind_sx h
      refine call_x (taskmillref_Ints_spec (ixD r2200.2.2.2.2.2.2.1 (1 : Int)).Items ([5] : List Int) r2216 hr2216) (args := [.own (.s 11 (1 : Int)) 0 (ixD r2200.2.2.2.2.2.2.1 (1 : Int)).Items.length, .own 16 0 ([5] : List Int).length]) (dst := (some 41)) (by kernel_rfl) [(0, .dead), (1, .dead), (2, .dead), (9, .row 57 (flD dPipe [11, 12, 13] r2200.2.2.2.2.2.2.1)), (10, .row 64 (fl r2200.2.2.2.2.2.2.2)), ((.s 11 0), .fam (famD dPipe 0 r2200.2.2.2.2.2.2.1)), ((.s 12 0), .fam (famD dPipe 1 r2200.2.2.2.2.2.2.1)), ((.s 13 0), .fam (famD dPipe 2 r2200.2.2.2.2.2.2.1)), (14, .row 33 [bS r2200.1, bS r2200.2.1, bS r2200.2.2.1, iS r2200.2.2.2.1, iS r2200.2.2.2.2.1, .own 10 0 r2200.2.2.2.2.2.2.2.length]), (15, .row 29 (Enc.cells r2200.2.2.2.2.2.1)), (16, .row 3 (fl ([5] : List Int)))] 17 (by kernel_rfl) [] [(.s 11 0), 16] (bS r2216) [] (by simp only [push_cast, leL_flD, renL_flD, seval]) (by simp only [push_cast, leL_flD, renL_flD, seval]) (by kernel_rfl) (.inr ⟨by simp only [push_cast, leL_flD, renL_flD, seval], by simp only [push_cast, leL_flD, renL_flD, seval]⟩) (by simp only [push_cast, leL_flD, renL_flD, seval]) (by simp only [push_cast, leL_flD, renL_flD, seval]) ?_
      refine rs 2 [] [] (by kernel_rfl) allP_nil ?_
      refine rf [(0, bS r2216)] [(0, .dead), (1, .dead), (2, .dead), (9, .row 57 (flD dPipe [11, 12, 13] r2200.2.2.2.2.2.2.1)), (10, .row 64 (fl r2200.2.2.2.2.2.2.2)), ((.s 11 0), .fam (famD dPipe 0 r2200.2.2.2.2.2.2.1)), ((.s 12 0), .fam (famD dPipe 1 r2200.2.2.2.2.2.2.1)), ((.s 13 0), .fam (famD dPipe 2 r2200.2.2.2.2.2.2.1)), (14, .row 33 [bS r2200.1, bS r2200.2.1, bS r2200.2.2.1, iS r2200.2.2.2.1, iS r2200.2.2.2.2.1, .own 10 0 r2200.2.2.2.2.2.2.2.length]), (15, .row 29 (Enc.cells r2200.2.2.2.2.2.1)), (16, .row 3 (fl ([5] : List Int)))] 17 (by kernel_rfl) ?_
      exact hK2209 (r2216) _ _ _ h (leSt_m [] [] (by first | ((try simp only [g2210, g2211, g2212, g2213]) <;> simp only [push_cast, leL_flD, renL_flD, seval]; done) | ((try simp only [g2210]); (try simp only [g2211]); (try simp only [g2212]); (try simp only [g2213]); simp only [push_cast, leL_flD, renL_flD, seval]; done) | (exfalso; clear h; simp_all; done)) (by first | ((try simp only [g2210, g2211, g2212, g2213]) <;> simp only [push_cast, leL_flD, renL_flD, seval]; done) | ((try simp only [g2210]); (try simp only [g2211]); (try simp only [g2212]); (try simp only [g2213]); simp only [push_cast, leL_flD, renL_flD, seval]; done) | (exfalso; clear h; simp_all; done)) rfl rfl rfl)
     ·refine rs 8 [] [] (by kernel_rfl) allP_nil ?_
      refine rf [(0, bS false)] [(0, .dead), (1, .dead), (2, .dead), (9, .row 57 (flD dPipe [11, 12, 13] r2200.2.2.2.2.2.2.1)), (10, .row 64 (fl r2200.2.2.2.2.2.2.2)), ((.s 11 0), .fam (famD dPipe 0 r2200.2.2.2.2.2.2.1)), ((.s 12 0), .fam (famD dPipe 1 r2200.2.2.2.2.2.2.1)), ((.s 13 0), .fam (famD dPipe 2 r2200.2.2.2.2.2.2.1)), (14, .row 33 [bS r2200.1, bS r2200.2.1, bS r2200.2.2.1, iS r2200.2.2.2.1, iS r2200.2.2.2.2.1, .own 10 0 r2200.2.2.2.2.2.2.2.length]), (15, .row 29 (Enc.cells r2200.2.2.2.2.2.1))] 16 (by kernel_rfl) ?_
      exact hK2209 (false) _ _ _ h (leSt_m [] [] (by first | ((try simp only [g2210, g2211, g2212, g2213]) <;> simp only [push_cast, leL_flD, renL_flD, seval]; done) | ((try simp only [g2210]); (try simp only [g2211]); (try simp only [g2212]); (try simp only [g2213]); simp only [push_cast, leL_flD, renL_flD, seval]; done) | (exfalso; clear h; simp_all; done)) (by first | ((try simp only [g2210, g2211, g2212, g2213]) <;> simp only [push_cast, leL_flD, renL_flD, seval]; done) | ((try simp only [g2210]); (try simp only [g2211]); (try simp only [g2212]); (try simp only [g2213]); simp only [push_cast, leL_flD, renL_flD, seval]; done) | (exfalso; clear h; simp_all; done)) rfl rfl rfl)
    ·refine rn 13 [(2, .own 9 0 r2200.2.2.2.2.2.2.1.length), (30, bS false)] [(0, .dead), (1, .dead), (2, .dead), (9, .row 57 (flD dPipe [11, 12, 13] r2200.2.2.2.2.2.2.1)), (10, .row 64 (fl r2200.2.2.2.2.2.2.2)), ((.s 11 0), .fam (famD dPipe 0 r2200.2.2.2.2.2.2.1)), ((.s 12 0), .fam (famD dPipe 1 r2200.2.2.2.2.2.2.1)), ((.s 13 0), .fam (famD dPipe 2 r2200.2.2.2.2.2.2.1)), (14, .row 33 [bS r2200.1, bS r2200.2.1, bS r2200.2.2.1, iS r2200.2.2.2.1, iS r2200.2.2.2.2.1, .own 10 0 r2200.2.2.2.2.2.2.2.length]), (15, .row 29 (Enc.cells r2200.2.2.2.2.2.1))] 16 (by kernel_rfl) ?_
     refine rs 13 [] [] (by kernel_rfl) allP_nil ?_
     refine rf [(0, bS false)] [(0, .dead), (1, .dead), (2, .dead), (9, .row 57 (flD dPipe [11, 12, 13] r2200.2.2.2.2.2.2.1)), (10, .row 64 (fl r2200.2.2.2.2.2.2.2)), ((.s 11 0), .fam (famD dPipe 0 r2200.2.2.2.2.2.2.1)), ((.s 12 0), .fam (famD dPipe 1 r2200.2.2.2.2.2.2.1)), ((.s 13 0), .fam (famD dPipe 2 r2200.2.2.2.2.2.2.1)), (14, .row 33 [bS r2200.1, bS r2200.2.1, bS r2200.2.2.1, iS r2200.2.2.2.1, iS r2200.2.2.2.2.1, .own 10 0 r2200.2.2.2.2.2.2.2.length]), (15, .row 29 (Enc.cells r2200.2.2.2.2.2.1))] 16 (by kernel_rfl) ?_
     exact hK2209 (false) _ _ _ h (leSt_m [] [] (by first | ((try simp only [g2210, g2211, g2212]) <;> simp only [push_cast, leL_flD, renL_flD, seval]; done) | ((try simp only [g2210]); (try simp only [g2211]); (try simp only [g2212]); simp only [push_cast, leL_flD, renL_flD, seval]; done) | (exfalso; clear h; simp_all; done)) (by first | ((try simp only [g2210, g2211, g2212]) <;> simp only [push_cast, leL_flD, renL_flD, seval]; done) | ((try simp only [g2210]); (try simp only [g2211]); (try simp only [g2212]); simp only [push_cast, leL_flD, renL_flD, seval]; done) | (exfalso; clear h; simp_all; done)) rfl rfl rfl)
   ·refine rs 18 [] [] (by kernel_rfl) allP_nil ?_
    refine rf [(0, bS false)] [(0, .dead), (1, .dead), (2, .dead), (9, .row 57 (flD dPipe [11, 12, 13] r2200.2.2.2.2.2.2.1)), (10, .row 64 (fl r2200.2.2.2.2.2.2.2)), ((.s 11 0), .fam (famD dPipe 0 r2200.2.2.2.2.2.2.1)), ((.s 12 0), .fam (famD dPipe 1 r2200.2.2.2.2.2.2.1)), ((.s 13 0), .fam (famD dPipe 2 r2200.2.2.2.2.2.2.1)), (14, .row 33 [bS r2200.1, bS r2200.2.1, bS r2200.2.2.1, iS r2200.2.2.2.1, iS r2200.2.2.2.2.1, .own 10 0 r2200.2.2.2.2.2.2.2.length]), (15, .row 29 (Enc.cells r2200.2.2.2.2.2.1))] 16 (by kernel_rfl) ?_
    exact hK2209 (false) _ _ _ h (leSt_m [] [] (by first | ((try simp only [g2210, g2211]) <;> simp only [push_cast, leL_flD, renL_flD, seval]; done) | ((try simp only [g2210]); (try simp only [g2211]); simp only [push_cast, leL_flD, renL_flD, seval]; done) | (exfalso; clear h; simp_all; done)) (by first | ((try simp only [g2210, g2211]) <;> simp only [push_cast, leL_flD, renL_flD, seval]; done) | ((try simp only [g2210]); (try simp only [g2211]); simp only [push_cast, leL_flD, renL_flD, seval]; done) | (exfalso; clear h; simp_all; done)) rfl rfl rfl)
  ·refine rs 22 [] [] (by kernel_rfl) allP_nil ?_
   refine rf [(0, bS false)] [(0, .dead), (1, .dead), (2, .dead), (9, .row 57 (flD dPipe [11, 12, 13] r2200.2.2.2.2.2.2.1)), (10, .row 64 (fl r2200.2.2.2.2.2.2.2)), ((.s 11 0), .fam (famD dPipe 0 r2200.2.2.2.2.2.2.1)), ((.s 12 0), .fam (famD dPipe 1 r2200.2.2.2.2.2.2.1)), ((.s 13 0), .fam (famD dPipe 2 r2200.2.2.2.2.2.2.1)), (14, .row 33 [bS r2200.1, bS r2200.2.1, bS r2200.2.2.1, iS r2200.2.2.2.1, iS r2200.2.2.2.2.1, .own 10 0 r2200.2.2.2.2.2.2.2.length]), (15, .row 29 (Enc.cells r2200.2.2.2.2.2.1))] 16 (by kernel_rfl) ?_
   exact hK2209 (false) _ _ _ h (leSt_m [] [] (by (try simp only [g2210]) <;> simp only [push_cast, leL_flD, renL_flD, seval]) (by (try simp only [g2210]) <;> simp only [push_cast, leL_flD, renL_flD, seval]) rfl rfl rfl)
 ·rintro t0q1 h
  try dsimp only at h ⊢
  unfold taskmilllaw_pickBegun_j1 at h
  obtain rfl := Option.some.inj h
  refine ret_at (bS t0q1) (by kernel_rfl) ?_
  exact ret_e [] [] (by simp only [push_cast, leL_flD, renL_flD, seval]) (by simp only [push_cast, leL_flD, renL_flD, seval]) rfl rfl rfl

set_option maxRecDepth 100000 in
set_option maxHeartbeats 200000000 in
theorem taskmilllaw_vastPipe_spec (p : Pipe) (r : Bool) (h : taskmilllaw_vastPipe p = some r) : SpecW Try.prog 36 [.agg (Enc.cells p)] [] 0 (fun x h n => x = bS r ∧ h = [] ∧ n = 0) := by
 unfold taskmilllaw_vastPipe at h
 refine spec_of (draw_ok _) Try.func36 rfl (by decide) rfl (by kernel_rfl) ?_
 refine seq_np ?_
 refine reg_f ?_
 refine rs 2 [] [] (by kernel_rfl) allP_nil ?_
 refine rf [(1, .ptr 0 0)] [(0, .row 57 (Enc.cells p))] 1 (by kernel_rfl) ?_
 refine wk_id ?_
 refine seq_cut (A := Unit) (fun _ => ([(2, bS ((decide ((6000 : Int) < (IntKind.i64.wrap ((IntKind.i64.wrap (((p.Items.length : Nat) : Int) + ((p.Senders.length : Nat) : Int))) + ((p.Getters.length : Nat) : Int))))) || (decide ((800 : Int) < (IntKind.i64.wrap (((p.Senders.length : Nat) : Int) + ((p.Getters.length : Nat) : Int)))))))], [(0, .row 57 (Enc.cells p))], 1)) (fun _ => True) (fun K2224 hK2224 => ?_) (fun _ _ => ?_)
 ·refine reg_f ?_
  refine rs 13 [] [] (by kernel_rfl) allP_nil ?_
  refine run_split 15 (decide ((6000 : Int) < (IntKind.i64.wrap ((IntKind.i64.wrap (((p.Items.length : Nat) : Int) + ((p.Senders.length : Nat) : Int))) + ((p.Getters.length : Nat) : Int))))) (.inl (by kernel_rfl)) (fun g2225 => ?_) (fun g2225 => ?_)
  ·refine rs 10 [] [] (by kernel_rfl) allP_nil ?_
   refine rf [(2, bS true)] [(0, .row 57 (Enc.cells p))] 1 (by kernel_rfl) ?_
   exact hK2224 () _ _ _ trivial (leSt_m [(0, 0)] [] (by (try simp only [g2225]) <;> simp only [push_cast, leL_flD, renL_flD, seval]) (by (try simp only [g2225]) <;> simp only [push_cast, leL_flD, renL_flD, seval]) rfl rfl rfl)
  ·refine rs 10 [] [] (by kernel_rfl) allP_nil ?_
   refine rf [(2, bS (decide ((800 : Int) < (IntKind.i64.wrap (((p.Senders.length : Nat) : Int) + ((p.Getters.length : Nat) : Int))))))] [(0, .row 57 (Enc.cells p))] 1 (by kernel_rfl) ?_
   exact hK2224 () _ _ _ trivial (leSt_m [(0, 0)] [] (by (try simp only [g2225]) <;> simp only [push_cast, leL_flD, renL_flD, seval]) (by (try simp only [g2225]) <;> simp only [push_cast, leL_flD, renL_flD, seval]) rfl rfl rfl)
 ·dsimp only
  obtain rfl := Option.some.inj h
  refine ret_at (bS ((decide ((6000 : Int) < (IntKind.i64.wrap ((IntKind.i64.wrap (((p.Items.length : Nat) : Int) + ((p.Senders.length : Nat) : Int))) + ((p.Getters.length : Nat) : Int))))) || (decide ((800 : Int) < (IntKind.i64.wrap (((p.Senders.length : Nat) : Int) + ((p.Getters.length : Nat) : Int))))))) (by kernel_rfl) ?_
  exact ret_e [] [] (by simp only [push_cast, leL_flD, renL_flD, seval]) (by simp only [push_cast, leL_flD, renL_flD, seval]) rfl rfl rfl

set_option maxRecDepth 100000 in
set_option maxHeartbeats 200000000 in
theorem taskmilllaw_vastHub_spec (l : (List Pipe)) (r : Bool) (h : taskmilllaw_vastHub l = some r) : SpecW Try.prog 10 [.sl l.length (fl l)] [] 0 (fun x h n => x = bS r ∧ h = [] ∧ n = 0) := by
 unfold taskmilllaw_vastHub at h
 refine spec_of (draw_ok _) Try.func10 rfl (by decide) rfl (by kernel_rfl) ?_
 refine seq_np ?_
 refine reg_f ?_
 refine rs 1 [] [] (by kernel_rfl) allP_nil ?_
 refine rf [(0, .sl l.length (fl l))] [] 0 (by kernel_rfl) ?_
 refine wk_id ?_
 refine seq_np ?_
 refine seq_np ?_
 refine reg_f ?_
 refine rs 1 [] [] (by kernel_rfl) allP_nil ?_
 refine rf [(0, .sl l.length (fl l)), (3, iS 0)] [] 0 (by kernel_rfl) ?_
 refine wk_id ?_
 refine block_np ?_
 refine loop_sx (S := Int) (fun a => ([(0, .sl l.length (fl l)), (3, iS a)], [], 0)) h (leSt_m [] [] (by simp only [push_cast, leL_flD, renL_flD, seval]) (by simp only [push_cast, leL_flD, renL_flD, seval]) rfl rfl rfl) ?_
 rintro i7 o2 R2 h hr2 hn2 hx2 ht2
 try dsimp only at h hn2 ⊢
 unfold taskmilllaw_vastHub_l1 at h
 try dsimp only at h
 refine seq_np ?_
 refine seq_np ?_
 refine reg_f ?_
 refine rs 4 [] [] (by kernel_rfl) allP_nil ?_
 refine rf [(0, .sl l.length (fl l)), (3, iS i7), (7, bS (decide (i7 < ((l.length : Nat) : Int))))] [] 0 (by kernel_rfl) ?_
 refine wk_id ?_
 refine cond_sx h (by kernel_rfl) (fun g2298 h => ?_) (fun g2298 h => ?_)
 ·refine wk_id ?_
  refine seq_np ?_
  refine block_np ?_
  refine chk_sx h (fun g2295 h => ?_)
  refine seq_np ?_
  refine reg_f ?_
  have k2294 : 0 ≤ i7 ∧ i7 < ((l.length : Nat) : Int) := by first | simpa only [Bool.and_eq_true, decide_eq_true_eq, bne_iff_ne, ne_eq] using g2295 | (simp at g2295 ⊢; omega)
  refine rs 4 [none, none, some ⟨.iptr (fl l) ((i7).toNat * 5), [], 0, []⟩, some ⟨.agg (Enc.cells (ix l i7)), [], 0, []⟩] _ (by kernel_rfl) (allP_cons (ob_ldw l i7 5 ((i7).toNat * 5) k2294 rfl (by first | rfl | omega) [iS (ix l i7).Cap, .sl (ix l i7).Items.length (fl (ix l i7).Items), bS (ix l i7).Closed, .sl (ix l i7).Senders.length (fl (ix l i7).Senders), .sl (ix l i7).Getters.length (fl (ix l i7).Getters)] rfl 0 []) (allP_cons (ob_ix_l l 5 0 i7 k2294) allP_nil)) ?_
  obtain ⟨r2296, hr2296, h⟩ := bind_sx h
  refine run_call 36 [.agg (Enc.cells (ix l i7))] (some 14) (by kernel_rfl) ?_
  refine call_0 (taskmilllaw_vastPipe_spec (ix l i7) r2296 hr2296) (by simp only [push_cast, leL_flD, renL_flD, seval]) (by simp only [push_cast, leL_flD, renL_flD, seval]) ?_
  refine back_f ?_
  refine rf [(0, .sl l.length (fl l)), (3, iS i7), (14, bS r2296)] [] 0 (by kernel_rfl) ?_
  refine wk_id ?_
  refine cond_sx h (by kernel_rfl) (fun g2297 h => ?_) (fun g2297 h => ?_)
  ·refine seq_np ?_
   refine reg_f ?_
   refine rs 1 [] [] (by kernel_rfl) allP_nil ?_
   refine rf [(2, bS true)] [] 0 (by kernel_rfl) ?_
   refine wk_id ?_
   refine rt_cast ht2 ?_
   obtain ⟨r0, h, e0⟩ := map_sx h
   have e1 := hr2 r0 e0.symm
   subst r0
   obtain rfl := Option.some.inj h
   refine ret_at (bS true) (by kernel_rfl) ?_
   exact ret_e [] [] (by simp only [push_cast, leL_flD, renL_flD, seval]) (by simp only [push_cast, leL_flD, renL_flD, seval]) rfl rfl rfl
  ·refine wk_id ?_
   refine wk_id ?_
   refine reg_f ?_
   refine rs 3 [] [] (by kernel_rfl) allP_nil ?_
   refine rf [(0, .sl l.length (fl l)), (3, iS (IntKind.i64.wrap (i7 + 1)))] [] 0 (by kernel_rfl) ?_
   exact hn2 ((IntKind.i64.wrap (i7 + 1))) _ _ _ (Option.some.inj h).symm (leSt_m [] [] (by simp only [push_cast, leL_flD, renL_flD, seval]) (by simp only [push_cast, leL_flD, renL_flD, seval]) rfl rfl rfl)
 ·change R2 (.exit 0) _ _ _
  refine ex_cast hx2 (id := 0) ?_
  obtain ⟨r0, h, e0⟩ := map_sx h
  have e1 := hr2 r0 e0.symm
  subst r0
  refine wk_id ?_
  refine wk_id ?_
  refine seq_np ?_
  refine reg_f ?_
  refine rs 4 [] [] (by kernel_rfl) allP_nil ?_
  refine rf [(2, bS (decide ((100 : Int) < ((l.length : Nat) : Int))))] [] 0 (by kernel_rfl) ?_
  refine wk_id ?_
  obtain rfl := Option.some.inj h
  refine ret_at (bS (decide ((100 : Int) < ((l.length : Nat) : Int)))) (by kernel_rfl) ?_
  exact ret_e [] [] (by simp only [push_cast, leL_flD, renL_flD, seval]) (by simp only [push_cast, leL_flD, renL_flD, seval]) rfl rfl rfl

set_option maxRecDepth 100000 in
set_option maxHeartbeats 200000000 in
theorem taskmillref_F_spec (code : Int) (xat : Int) (r : Fault) (h : taskmillref_F code xat = some r) : SpecW Try.prog 31 [iS code, iS xat] [] 0 (fun x h n => x = .agg (Enc.cells r) ∧ h = [] ∧ n = 0) := by
 unfold taskmillref_F at h
 refine spec_of (draw_ok _) Try.func31 rfl (by decide) rfl (by kernel_rfl) ?_
 refine seq_np ?_
 refine reg_f ?_
 refine rs 1 [] [] (by kernel_rfl) allP_nil ?_
 refine rf [(0, iS code), (1, iS xat), (4, .ptr 0 0)] [(0, .row 29 [iS 0, iS 0])] 1 (by kernel_rfl) ?_
 refine wk_id ?_
 refine seq_np ?_
 refine reg_f ?_
 refine rs 4 [] [] (by kernel_rfl) allP_nil ?_
 refine rf [(4, .ptr 0 0)] [(0, .row 29 [iS code, iS xat])] 1 (by kernel_rfl) ?_
 refine wk_id ?_
 obtain rfl := Option.some.inj h
 refine ret_at (.agg [iS code, iS xat]) (by kernel_rfl) ?_
 exact ret_e [] [] (by simp only [push_cast, leL_flD, renL_flD, seval]) (by simp only [push_cast, leL_flD, renL_flD, seval]) rfl rfl rfl

set_option maxRecDepth 100000 in
set_option maxHeartbeats 200000000 in
theorem taskmillref_PipeFault_spec (p : Pipe) (r : Fault) (h : taskmillref_PipeFault p = some r) : SpecW Try.prog 48 [.agg (Enc.cells p)] [] 0 (fun x h n => x = .agg (Enc.cells r) ∧ h = [] ∧ n = 0) := by
 unfold taskmillref_PipeFault at h
 refine spec_of (draw_ok _) Try.func48 rfl (by decide) rfl (by kernel_rfl) ?_
 refine seq_np ?_
 refine reg_f ?_
 refine rs 2 [] [] (by kernel_rfl) allP_nil ?_
 refine rf [(1, .ptr 0 0), (2, .ptr 1 0)] [(0, .row 57 (Enc.cells p)), (1, .row 29 [iS 0, iS 0])] 2 (by kernel_rfl) ?_
 refine wk_id ?_
 refine seq_np ?_
 refine seq_np ?_
 refine reg_f ?_
 refine rs 12 [] [] (by kernel_rfl) allP_nil ?_
 refine rf [(1, .ptr 0 0), (2, .ptr 1 0), (19, bS (decide ((5000 : Int) < (IntKind.i64.wrap ((IntKind.i64.wrap (((p.Items.length : Nat) : Int) + ((p.Senders.length : Nat) : Int))) + ((p.Getters.length : Nat) : Int))))))] [(0, .row 57 (Enc.cells p)), (1, .row 29 [iS 0, iS 0])] 2 (by kernel_rfl) ?_
 refine wk_id ?_
 refine cond_sx h (by kernel_rfl) (fun g3027 h => ?_) (fun g3027 h => ?_)
 ·refine seq_np ?_
  refine reg_f ?_
  obtain ⟨r2558, hr2558, h⟩ := bind_sx h
  refine run_call 31 [iS 2, iS 0] (some 20) (by kernel_rfl) ?_
  refine call_0 (taskmillref_F_spec 2 0 r2558 hr2558) (by simp only [push_cast, leL_flD, renL_flD, seval]) (by simp only [push_cast, leL_flD, renL_flD, seval]) ?_
  refine back_f ?_
  refine rs 1 [] [] (by kernel_rfl) allP_nil ?_
  refine rf [(2, .ptr 1 0)] [(0, .row 57 (Enc.cells p)), (1, .row 29 (Enc.cells r2558))] 2 (by kernel_rfl) ?_
  refine wk_id ?_
  obtain rfl := Option.some.inj h
  refine ret_at (.agg (Enc.cells r2558)) (by kernel_rfl) ?_
  exact ret_e [] [] (by simp only [push_cast, leL_flD, renL_flD, seval]) (by simp only [push_cast, leL_flD, renL_flD, seval]) rfl rfl rfl
 ·refine wk_id ?_
  refine seq_np ?_
  refine seq_cut (A := Unit) (fun _ => ([(1, .ptr 0 0), (2, .ptr 1 0), (28, bS ((decide (p.Cap < 0)) || (decide ((1000 : Int) < p.Cap))))], [(0, .row 57 (Enc.cells p)), (1, .row 29 [iS 0, iS 0])], 2)) (fun _ => True) (fun K2563 hK2563 => ?_) (fun _ _ => ?_)
  ·refine reg_f ?_
   refine rs 4 [] [] (by kernel_rfl) allP_nil ?_
   refine run_split 24 (decide (p.Cap < 0)) (.inl (by kernel_rfl)) (fun g2564 => ?_) (fun g2564 => ?_)
   ·refine rs 4 [] [] (by kernel_rfl) allP_nil ?_
    refine rf [(1, .ptr 0 0), (2, .ptr 1 0), (28, bS true)] [(0, .row 57 (Enc.cells p)), (1, .row 29 [iS 0, iS 0])] 2 (by kernel_rfl) ?_
    exact hK2563 () _ _ _ trivial (leSt_m [(0, 0), (1, 1)] [] (by (try simp only [g2564]) <;> simp only [push_cast, leL_flD, renL_flD, seval]) (by (try simp only [g2564]) <;> simp only [push_cast, leL_flD, renL_flD, seval]) rfl rfl rfl)
   ·refine rs 4 [] [] (by kernel_rfl) allP_nil ?_
    refine rf [(1, .ptr 0 0), (2, .ptr 1 0), (28, bS (decide ((1000 : Int) < p.Cap)))] [(0, .row 57 (Enc.cells p)), (1, .row 29 [iS 0, iS 0])] 2 (by kernel_rfl) ?_
    exact hK2563 () _ _ _ trivial (leSt_m [(0, 0), (1, 1)] [] (by (try simp only [g2564]) <;> simp only [push_cast, leL_flD, renL_flD, seval]) (by (try simp only [g2564]) <;> simp only [push_cast, leL_flD, renL_flD, seval]) rfl rfl rfl)
  ·dsimp only
   refine cond_sx h (by kernel_rfl) (fun g3026 h => ?_) (fun g3026 h => ?_)
   ·refine seq_np ?_
    refine reg_f ?_
    obtain ⟨r2566, hr2566, h⟩ := bind_sx h
    refine run_call 31 [iS 3, iS 0] (some 29) (by kernel_rfl) ?_
    refine call_0 (taskmillref_F_spec 3 0 r2566 hr2566) (by simp only [push_cast, leL_flD, renL_flD, seval]) (by simp only [push_cast, leL_flD, renL_flD, seval]) ?_
    refine back_f ?_
    refine rs 1 [] [] (by kernel_rfl) allP_nil ?_
    refine rf [(2, .ptr 1 0)] [(0, .row 57 (Enc.cells p)), (1, .row 29 (Enc.cells r2566))] 2 (by kernel_rfl) ?_
    refine wk_id ?_
    obtain rfl := Option.some.inj h
    refine ret_at (.agg (Enc.cells r2566)) (by kernel_rfl) ?_
    exact ret_e [] [] (by simp only [push_cast, leL_flD, renL_flD, seval]) (by simp only [push_cast, leL_flD, renL_flD, seval]) rfl rfl rfl
   ·refine wk_id ?_
    refine seq_np ?_
    refine seq_np ?_
    refine reg_f ?_
    refine rs 6 [] [] (by kernel_rfl) allP_nil ?_
    refine rf [(1, .ptr 0 0), (2, .ptr 1 0), (35, bS (decide (p.Cap < ((p.Items.length : Nat) : Int))))] [(0, .row 57 (Enc.cells p)), (1, .row 29 [iS 0, iS 0])] 2 (by kernel_rfl) ?_
    refine wk_id ?_
    refine cond_sx h (by kernel_rfl) (fun g3025 h => ?_) (fun g3025 h => ?_)
    ·refine seq_np ?_
     refine reg_f ?_
     obtain ⟨r2570, hr2570, h⟩ := bind_sx h
     refine run_call 31 [iS 8, iS 0] (some 36) (by kernel_rfl) ?_
     refine call_0 (taskmillref_F_spec 8 0 r2570 hr2570) (by simp only [push_cast, leL_flD, renL_flD, seval]) (by simp only [push_cast, leL_flD, renL_flD, seval]) ?_
     refine back_f ?_
     refine rs 1 [] [] (by kernel_rfl) allP_nil ?_
     refine rf [(2, .ptr 1 0)] [(0, .row 57 (Enc.cells p)), (1, .row 29 (Enc.cells r2570))] 2 (by kernel_rfl) ?_
     refine wk_id ?_
     obtain rfl := Option.some.inj h
     refine ret_at (.agg (Enc.cells r2570)) (by kernel_rfl) ?_
     exact ret_e [] [] (by simp only [push_cast, leL_flD, renL_flD, seval]) (by simp only [push_cast, leL_flD, renL_flD, seval]) rfl rfl rfl
    ·refine wk_id ?_
     refine seq_cut (A := Unit) (fun a => ([(1, .ptr 0 0), (2, .ptr 1 0)], [(0, .row 57 (Enc.cells p)), (1, .row 29 [iS 0, iS 0])], 2)) (fun a => (taskmillref_PipeFault_j3 p) = some r) (fun K2577 hK2577 => ?_) ?_
     ·refine seq_np ?_
      refine reg_f ?_
      refine rs 4 [] [] (by kernel_rfl) allP_nil ?_
      refine rf [(1, .ptr 0 0), (2, .ptr 1 0), (40, bS (decide ((0 : Int) < ((p.Senders.length : Nat) : Int))))] [(0, .row 57 (Enc.cells p)), (1, .row 29 [iS 0, iS 0])] 2 (by kernel_rfl) ?_
      refine wk_id ?_
      refine cond_sx h (by kernel_rfl) (fun g2586 h => ?_) (fun g2586 h => ?_)
      ·refine seq_cut (A := Unit) (fun _ => ([(1, .ptr 0 0), (2, .ptr 1 0), (56, bS (p.Closed || ((((p.Items.length : Nat) : Int) != p.Cap) || (decide ((0 : Int) < ((p.Getters.length : Nat) : Int))))))], [(0, .row 57 (Enc.cells p)), (1, .row 29 [iS 0, iS 0])], 2)) (fun _ => True) (fun K2580 hK2580 => ?_) (fun _ _ => ?_)
       ·refine reg_f ?_
        refine rs 3 [] [] (by kernel_rfl) allP_nil ?_
        refine run_split 43 p.Closed (.inl (by kernel_rfl)) (fun g2581 => ?_) (fun g2581 => ?_)
        ·refine rs 13 [] [] (by kernel_rfl) allP_nil ?_
         refine rf [(1, .ptr 0 0), (2, .ptr 1 0), (56, bS true)] [(0, .row 57 (Enc.cells p)), (1, .row 29 [iS 0, iS 0])] 2 (by kernel_rfl) ?_
         exact hK2580 () _ _ _ trivial (leSt_m [(0, 0), (1, 1)] [] (by (try simp only [g2581]) <;> simp only [push_cast, leL_flD, renL_flD, seval]) (by (try simp only [g2581]) <;> simp only [push_cast, leL_flD, renL_flD, seval]) rfl rfl rfl)
        ·refine rs 8 [] [] (by kernel_rfl) allP_nil ?_
         refine run_split 51 (((p.Items.length : Nat) : Int) != p.Cap) (.inl (by kernel_rfl)) (fun g2582 => ?_) (fun g2582 => ?_)
         ·refine rs 5 [] [] (by kernel_rfl) allP_nil ?_
          refine rf [(1, .ptr 0 0), (2, .ptr 1 0), (56, bS true)] [(0, .row 57 (Enc.cells p)), (1, .row 29 [iS 0, iS 0])] 2 (by kernel_rfl) ?_
          exact hK2580 () _ _ _ trivial (leSt_m [(0, 0), (1, 1)] [] (by first | ((try simp only [g2581, g2582]) <;> simp only [push_cast, leL_flD, renL_flD, seval]; done) | ((try simp only [g2581]); (try simp only [g2582]); simp only [push_cast, leL_flD, renL_flD, seval]; done) | (exfalso; clear h; simp_all; done)) (by first | ((try simp only [g2581, g2582]) <;> simp only [push_cast, leL_flD, renL_flD, seval]; done) | ((try simp only [g2581]); (try simp only [g2582]); simp only [push_cast, leL_flD, renL_flD, seval]; done) | (exfalso; clear h; simp_all; done)) rfl rfl rfl)
         ·refine rs 5 [] [] (by kernel_rfl) allP_nil ?_
          refine rf [(1, .ptr 0 0), (2, .ptr 1 0), (56, bS (decide ((0 : Int) < ((p.Getters.length : Nat) : Int))))] [(0, .row 57 (Enc.cells p)), (1, .row 29 [iS 0, iS 0])] 2 (by kernel_rfl) ?_
          exact hK2580 () _ _ _ trivial (leSt_m [(0, 0), (1, 1)] [] (by first | ((try simp only [g2581, g2582]) <;> simp only [push_cast, leL_flD, renL_flD, seval]; done) | ((try simp only [g2581]); (try simp only [g2582]); simp only [push_cast, leL_flD, renL_flD, seval]; done) | (exfalso; clear h; simp_all; done)) (by first | ((try simp only [g2581, g2582]) <;> simp only [push_cast, leL_flD, renL_flD, seval]; done) | ((try simp only [g2581]); (try simp only [g2582]); simp only [push_cast, leL_flD, renL_flD, seval]; done) | (exfalso; clear h; simp_all; done)) rfl rfl rfl)
       ·dsimp only
        refine cond_sx h (by kernel_rfl) (fun g2585 h => ?_) (fun g2585 h => ?_)
        ·refine seq_np ?_
         refine reg_f ?_
         obtain ⟨r2584, hr2584, h⟩ := bind_sx h
         refine run_call 31 [iS 5, iS 0] (some 57) (by kernel_rfl) ?_
         refine call_0 (taskmillref_F_spec 5 0 r2584 hr2584) (by simp only [push_cast, leL_flD, renL_flD, seval]) (by simp only [push_cast, leL_flD, renL_flD, seval]) ?_
         refine back_f ?_
         refine rs 1 [] [] (by kernel_rfl) allP_nil ?_
         refine rf [(2, .ptr 1 0)] [(0, .row 57 (Enc.cells p)), (1, .row 29 (Enc.cells r2584))] 2 (by kernel_rfl) ?_
         refine wk_id ?_
         obtain rfl := Option.some.inj h
         refine ret_at (.agg (Enc.cells r2584)) (by kernel_rfl) ?_
         exact ret_e [] [] (by simp only [push_cast, leL_flD, renL_flD, seval]) (by simp only [push_cast, leL_flD, renL_flD, seval]) rfl rfl rfl
        ·exact hK2577 () _ _ _ h (leSt_m [(0, 0), (1, 1)] [] (by simp only [push_cast, leL_flD, renL_flD, seval]) (by simp only [push_cast, leL_flD, renL_flD, seval]) rfl rfl rfl)
      ·exact hK2577 () _ _ _ h (leSt_m [(0, 0), (1, 1)] [] (by simp only [push_cast, leL_flD, renL_flD, seval]) (by simp only [push_cast, leL_flD, renL_flD, seval]) rfl rfl rfl)
     ·rintro _ h
      try dsimp only at h ⊢
      unfold taskmillref_PipeFault_j3 at h
      refine seq_cut (A := Unit) (fun a => ([(1, .ptr 0 0), (2, .ptr 1 0)], [(0, .row 57 (Enc.cells p)), (1, .row 29 [iS 0, iS 0])], 2)) (fun a => (taskmillref_PipeFault_j2 p) = some r) (fun K2592 hK2592 => ?_) ?_
      ·refine seq_np ?_
       refine reg_f ?_
       refine rs 4 [] [] (by kernel_rfl) allP_nil ?_
       refine rf [(1, .ptr 0 0), (2, .ptr 1 0), (61, bS (decide ((0 : Int) < ((p.Getters.length : Nat) : Int))))] [(0, .row 57 (Enc.cells p)), (1, .row 29 [iS 0, iS 0])] 2 (by kernel_rfl) ?_
       refine wk_id ?_
       refine cond_sx h (by kernel_rfl) (fun g2599 h => ?_) (fun g2599 h => ?_)
       ·refine seq_cut (A := Unit) (fun _ => ([(1, .ptr 0 0), (2, .ptr 1 0), (69, bS (p.Closed || (decide ((0 : Int) < ((p.Items.length : Nat) : Int)))))], [(0, .row 57 (Enc.cells p)), (1, .row 29 [iS 0, iS 0])], 2)) (fun _ => True) (fun K2594 hK2594 => ?_) (fun _ _ => ?_)
        ·refine reg_f ?_
         refine rs 3 [] [] (by kernel_rfl) allP_nil ?_
         refine run_split 64 p.Closed (.inl (by kernel_rfl)) (fun g2595 => ?_) (fun g2595 => ?_)
         ·refine rs 5 [] [] (by kernel_rfl) allP_nil ?_
          refine rf [(1, .ptr 0 0), (2, .ptr 1 0), (69, bS true)] [(0, .row 57 (Enc.cells p)), (1, .row 29 [iS 0, iS 0])] 2 (by kernel_rfl) ?_
          exact hK2594 () _ _ _ trivial (leSt_m [(0, 0), (1, 1)] [] (by (try simp only [g2595]) <;> simp only [push_cast, leL_flD, renL_flD, seval]) (by (try simp only [g2595]) <;> simp only [push_cast, leL_flD, renL_flD, seval]) rfl rfl rfl)
         ·refine rs 5 [] [] (by kernel_rfl) allP_nil ?_
          refine rf [(1, .ptr 0 0), (2, .ptr 1 0), (69, bS (decide ((0 : Int) < ((p.Items.length : Nat) : Int))))] [(0, .row 57 (Enc.cells p)), (1, .row 29 [iS 0, iS 0])] 2 (by kernel_rfl) ?_
          exact hK2594 () _ _ _ trivial (leSt_m [(0, 0), (1, 1)] [] (by (try simp only [g2595]) <;> simp only [push_cast, leL_flD, renL_flD, seval]) (by (try simp only [g2595]) <;> simp only [push_cast, leL_flD, renL_flD, seval]) rfl rfl rfl)
        ·dsimp only
         refine cond_sx h (by kernel_rfl) (fun g2598 h => ?_) (fun g2598 h => ?_)
         ·refine seq_np ?_
          refine reg_f ?_
          obtain ⟨r2597, hr2597, h⟩ := bind_sx h
          refine run_call 31 [iS 5, iS 0] (some 70) (by kernel_rfl) ?_
          refine call_0 (taskmillref_F_spec 5 0 r2597 hr2597) (by simp only [push_cast, leL_flD, renL_flD, seval]) (by simp only [push_cast, leL_flD, renL_flD, seval]) ?_
          refine back_f ?_
          refine rs 1 [] [] (by kernel_rfl) allP_nil ?_
          refine rf [(2, .ptr 1 0)] [(0, .row 57 (Enc.cells p)), (1, .row 29 (Enc.cells r2597))] 2 (by kernel_rfl) ?_
          refine wk_id ?_
          obtain rfl := Option.some.inj h
          refine ret_at (.agg (Enc.cells r2597)) (by kernel_rfl) ?_
          exact ret_e [] [] (by simp only [push_cast, leL_flD, renL_flD, seval]) (by simp only [push_cast, leL_flD, renL_flD, seval]) rfl rfl rfl
         ·exact hK2592 () _ _ _ h (leSt_m [(0, 0), (1, 1)] [] (by simp only [push_cast, leL_flD, renL_flD, seval]) (by simp only [push_cast, leL_flD, renL_flD, seval]) rfl rfl rfl)
       ·exact hK2592 () _ _ _ h (leSt_m [(0, 0), (1, 1)] [] (by simp only [push_cast, leL_flD, renL_flD, seval]) (by simp only [push_cast, leL_flD, renL_flD, seval]) rfl rfl rfl)
      ·rintro _ h
       try dsimp only at h ⊢
       unfold taskmillref_PipeFault_j2 at h
       refine chk_sx h (fun g2605 h => ?_)
       refine chk_sx h (fun g2607 h => ?_)
       refine seq_np ?_
       refine reg_t ?_
       have k2604 : p.Senders.length * 24 ≤ 140737488355328 := by first | simpa only [Bool.and_eq_true, decide_eq_true_eq, bne_iff_ne, ne_eq] using g2605 | (simp at g2605 ⊢; omega)
       have k2606 : (p.Senders ++ p.Getters).length * 24 ≤ 140737488355328 := by first | simpa only [Bool.and_eq_true, decide_eq_true_eq, bne_iff_ne, ne_eq] using g2607 | (simp at g2607 ⊢; omega)
       refine rs 7 [none, none, some ⟨.own 4 0 p.Senders.length, [(4, .row 92 (fl p.Senders))], 5, []⟩, none, none, some ⟨.own 8 0 (p.Senders ++ p.Getters).length, [(8, .row 92 (fl (p.Senders ++ p.Getters))), (4, .dead)], 9, [4]⟩] _ (by kernel_rfl) (allP_cons (ob_app (P := Try.prog) p.Senders p.Getters 3 24 rfl (fl p.Getters) p.Getters.length rfl rfl ((fl p.Getters).length = p.Getters.length * 3) (app_sl p.Getters 3 rfl) 92 (by kernel_rfl) (by decide) k2606 4 8 []) (allP_cons (ob_app0 (P := Try.prog) p.Senders 3 24 rfl (fl p.Senders) p.Senders.length rfl rfl ((fl p.Senders).length = p.Senders.length * 3) (app_sl p.Senders 3 rfl) 92 (by kernel_rfl) (by decide) k2604 4 []) allP_nil)) ?_
       refine rt [(1, .ptr 0 0), (2, .ptr 1 0), (3, .own 8 0 (p.Senders ++ p.Getters).length)] [(0, .row 57 (Enc.cells p)), (1, .row 29 [iS 0, iS 0]), (4, .dead), (8, .row 92 (fl (p.Senders ++ p.Getters)))] 11 follows (by kernel_rfl) ?_
       refine wk_id ?_
       refine seq_np ?_
       refine seq_np ?_
       refine reg_f ?_
       refine rs 1 [] [] (by kernel_rfl) allP_nil ?_
       refine rf [(1, .ptr 0 0), (2, .ptr 1 0), (3, .own 8 0 (p.Senders ++ p.Getters).length), (4, iS 0)] [(0, .row 57 (Enc.cells p)), (1, .row 29 [iS 0, iS 0]), (4, .dead), (8, .row 92 (fl (p.Senders ++ p.Getters)))] 11 (by kernel_rfl) ?_
       refine wk_id ?_
       refine block_np ?_
       refine loop_sx (S := Int) (fun a => ([(1, .ptr 0 0), (2, .ptr 1 0), (3, .own 2 0 (p.Senders ++ p.Getters).length), (4, iS a)], [(0, .row 57 (Enc.cells p)), (1, .row 29 [iS 0, iS 0]), (2, .row 92 (fl (p.Senders ++ p.Getters)))], 3)) h (leSt_m [(0, 0), (1, 1), (2, 8)] [] (by simp only [push_cast, leL_flD, renL_flD, seval]) (by simp only [push_cast, leL_flD, renL_flD, seval]) rfl rfl rfl) ?_
       rintro i9 o4 R4 h hr4 hn4 hx4 ht4
       try dsimp only at h hn4 ⊢
       unfold taskmillref_PipeFault_l3 at h
       try dsimp only at h
       refine seq_np ?_
       refine seq_np ?_
       refine reg_f ?_
       refine rs 4 [] [] (by kernel_rfl) allP_nil ?_
       refine rf [(1, .ptr 0 0), (2, .ptr 1 0), (3, .own 2 0 (p.Senders ++ p.Getters).length), (4, iS i9), (80, bS (decide (i9 < (((p.Senders ++ p.Getters).length : Nat) : Int))))] [(0, .row 57 (Enc.cells p)), (1, .row 29 [iS 0, iS 0]), (2, .row 92 (fl (p.Senders ++ p.Getters)))] 3 (by kernel_rfl) ?_
       refine wk_id ?_
       refine cond_sx h (by kernel_rfl) (fun g3024 h => ?_) (fun g3024 h => ?_)
       ·refine wk_id ?_
        refine seq_np ?_
        refine block_np ?_
        refine seq_np ?_
        refine reg_f ?_
        refine rs 1 [] [] (by kernel_rfl) allP_nil ?_
        refine rf [(1, .ptr 0 0), (2, .ptr 1 0), (3, .own 2 0 (p.Senders ++ p.Getters).length), (4, iS i9), (5, iS 1)] [(0, .row 57 (Enc.cells p)), (1, .row 29 [iS 0, iS 0]), (2, .row 92 (fl (p.Senders ++ p.Getters)))] 3 (by kernel_rfl) ?_
        refine wk_id ?_
        refine seq_cut (A := Int) (fun a => ([(1, .ptr 0 0), (2, .ptr 1 0), (3, .own 2 0 (p.Senders ++ p.Getters).length), (4, iS i9), (5, iS a)], [(0, .row 57 (Enc.cells p)), (1, .row 29 [iS 0, iS 0]), (2, .row 92 (fl (p.Senders ++ p.Getters)))], 3)) (fun a => (taskmillref_PipeFault_j1 p i9 a) = some o4) (fun K2879 hK2879 => ?_) ?_
        ·refine seq_np ?_
         refine reg_f ?_
         refine rs 5 [] [] (by kernel_rfl) allP_nil ?_
         refine rf [(1, .ptr 0 0), (2, .ptr 1 0), (3, .own 2 0 (p.Senders ++ p.Getters).length), (4, iS i9), (5, iS 1), (87, bS (decide (((p.Senders.length : Nat) : Int) ≤ i9)))] [(0, .row 57 (Enc.cells p)), (1, .row 29 [iS 0, iS 0]), (2, .row 92 (fl (p.Senders ++ p.Getters)))] 3 (by kernel_rfl) ?_
         refine wk_id ?_
         refine cond_sx h (by kernel_rfl) (fun g2880 h => ?_) (fun g2880 h => ?_)
         ·refine reg_f ?_
          refine rs 1 [] [] (by kernel_rfl) allP_nil ?_
          refine rf [(1, .ptr 0 0), (2, .ptr 1 0), (3, .own 2 0 (p.Senders ++ p.Getters).length), (4, iS i9), (5, iS 2)] [(0, .row 57 (Enc.cells p)), (1, .row 29 [iS 0, iS 0]), (2, .row 92 (fl (p.Senders ++ p.Getters)))] 3 (by kernel_rfl) ?_
          exact hK2879 (2) _ _ _ h (leSt_m [(0, 0), (1, 1), (2, 2)] [] (by simp only [push_cast, leL_flD, renL_flD, seval]) (by simp only [push_cast, leL_flD, renL_flD, seval]) rfl rfl rfl)
         ·exact hK2879 (1) _ _ _ h (leSt_m [(0, 0), (1, 1), (2, 2)] [] (by simp only [push_cast, leL_flD, renL_flD, seval]) (by simp only [push_cast, leL_flD, renL_flD, seval]) rfl rfl rfl)
        ·rintro xat13 h
         try dsimp only at h ⊢
         unfold taskmillref_PipeFault_j1 at h
         refine seq_np ?_
         refine chk_sx h (fun g2895 h => ?_)
         refine chk_sx h (fun g2898 h => ?_)
         refine seq_cut (A := Unit) (fun _ => ([(1, .ptr 0 0), (2, .ptr 1 0), (3, .own 2 0 (p.Senders ++ p.Getters).length), (4, iS i9), (5, iS xat13), (101, bS ((decide ((ix (p.Senders ++ p.Getters) i9).Task < 1)) || (decide ((ix (p.Senders ++ p.Getters) i9).Case < 0))))], [(0, .row 57 (Enc.cells p)), (1, .row 29 [iS 0, iS 0]), (2, .row 92 (fl (p.Senders ++ p.Getters)))], 3)) (fun _ => True) (fun K2893 hK2893 => ?_) (fun _ _ => ?_)
         ·refine reg_f ?_
          have k2894 : 0 ≤ i9 ∧ i9 < (((p.Senders ++ p.Getters).length : Nat) : Int) := by first | simpa only [Bool.and_eq_true, decide_eq_true_eq, bne_iff_ne, ne_eq] using g2895 | (simp at g2895 ⊢; omega)
          refine rs 7 [none, none, some ⟨.ptr 2 (0 + (i9).toNat * 3), [], 3, [2]⟩, none, some ⟨iS (ix (p.Senders ++ p.Getters) i9).Task, [], 3, [2]⟩] _ (by kernel_rfl) (allP_cons (ob_ld (p.Senders ++ p.Getters) i9 3 0 ((0 + (i9).toNat * 3) + 0) k2894 rfl (by decide) (by first | rfl | omega) (dflS Try.prog 3) (iS (ix (p.Senders ++ p.Getters) i9).Task) rfl 3 [2]) (allP_cons (ob_ix_o 2 (p.Senders ++ p.Getters).length 0 3 3 i9 k2894) allP_nil)) ?_
          refine run_split 94 (decide ((ix (p.Senders ++ p.Getters) i9).Task < 1)) (.inl (by kernel_rfl)) (fun g2896 => ?_) (fun g2896 => ?_)
          ·refine rs 7 [] [] (by kernel_rfl) allP_nil ?_
           refine rf [(1, .ptr 0 0), (2, .ptr 1 0), (3, .own 2 0 (p.Senders ++ p.Getters).length), (4, iS i9), (5, iS xat13), (101, bS true)] [(0, .row 57 (Enc.cells p)), (1, .row 29 [iS 0, iS 0]), (2, .row 92 (fl (p.Senders ++ p.Getters)))] 3 (by kernel_rfl) ?_
           exact hK2893 () _ _ _ trivial (leSt_m [(0, 0), (1, 1), (2, 2)] [] (by (try simp only [g2896]) <;> simp only [push_cast, leL_flD, renL_flD, seval]) (by (try simp only [g2896]) <;> simp only [push_cast, leL_flD, renL_flD, seval]) rfl rfl rfl)
          ·have k2897 : 0 ≤ i9 ∧ i9 < (((p.Senders ++ p.Getters).length : Nat) : Int) := by have e := or_use g2898 (by first | ((try simp only [g2896]) <;> rfl) | ((try simp only [g2896]); rfl) | (exfalso; clear h; simp_all; done)); first | simpa only [Bool.and_eq_true, decide_eq_true_eq, bne_iff_ne, ne_eq] using e | (simp at e ⊢; omega)
           refine rs 7 [none, none, some ⟨.ptr 2 (0 + (i9).toNat * 3), [], 3, [2]⟩, none, some ⟨iS (ix (p.Senders ++ p.Getters) i9).Case, [], 3, [2]⟩] _ (by kernel_rfl) (allP_cons (ob_ld (p.Senders ++ p.Getters) i9 3 1 ((0 + (i9).toNat * 3) + 1) k2897 rfl (by decide) (by first | rfl | omega) (dflS Try.prog 3) (iS (ix (p.Senders ++ p.Getters) i9).Case) rfl 3 [2]) (allP_cons (ob_ix_o 2 (p.Senders ++ p.Getters).length 0 3 3 i9 k2897) allP_nil)) ?_
           refine rf [(1, .ptr 0 0), (2, .ptr 1 0), (3, .own 2 0 (p.Senders ++ p.Getters).length), (4, iS i9), (5, iS xat13), (101, bS (decide ((ix (p.Senders ++ p.Getters) i9).Case < 0)))] [(0, .row 57 (Enc.cells p)), (1, .row 29 [iS 0, iS 0]), (2, .row 92 (fl (p.Senders ++ p.Getters)))] 3 (by kernel_rfl) ?_
           exact hK2893 () _ _ _ trivial (leSt_m [(0, 0), (1, 1), (2, 2)] [] (by (try simp only [g2896]) <;> simp only [push_cast, leL_flD, renL_flD, seval]) (by (try simp only [g2896]) <;> simp only [push_cast, leL_flD, renL_flD, seval]) rfl rfl rfl)
         ·dsimp only
          refine cond_sx h (by kernel_rfl) (fun g2963 h => ?_) (fun g2963 h => ?_)
          ·refine seq_np ?_
           refine reg_f ?_
           refine rs 1 [] [] (by kernel_rfl) allP_nil ?_
           obtain ⟨r2900, hr2900, h⟩ := bind_sx h
           refine run_call 31 [iS 3, iS xat13] (some 103) (by kernel_rfl) ?_
           refine call_0 (taskmillref_F_spec 3 xat13 r2900 hr2900) (by simp only [push_cast, leL_flD, renL_flD, seval]) (by simp only [push_cast, leL_flD, renL_flD, seval]) ?_
           refine back_f ?_
           refine rs 1 [] [] (by kernel_rfl) allP_nil ?_
           refine rf [(2, .ptr 1 0)] [(0, .row 57 (Enc.cells p)), (1, .row 29 (Enc.cells r2900)), (2, .row 92 (fl (p.Senders ++ p.Getters)))] 3 (by kernel_rfl) ?_
           refine wk_id ?_
           refine rt_cast ht4 ?_
           obtain ⟨r0, h, e0⟩ := map_sx h
           have e1 := hr4 r0 e0.symm
           subst r0
           obtain rfl := Option.some.inj h
           refine ret_at (.agg (Enc.cells r2900)) (by kernel_rfl) ?_
           exact ret_e [] [] (by simp only [push_cast, leL_flD, renL_flD, seval]) (by simp only [push_cast, leL_flD, renL_flD, seval]) rfl rfl rfl
          ·refine wk_id ?_
           refine seq_np ?_
           refine reg_f ?_
           refine rs 1 [] [] (by kernel_rfl) allP_nil ?_
           refine rf [(1, .ptr 0 0), (2, .ptr 1 0), (3, .own 2 0 (p.Senders ++ p.Getters).length), (4, iS i9), (5, iS xat13), (6, iS 0)] [(0, .row 57 (Enc.cells p)), (1, .row 29 [iS 0, iS 0]), (2, .row 92 (fl (p.Senders ++ p.Getters)))] 3 (by kernel_rfl) ?_
           refine wk_id ?_
           refine block_np ?_
           refine loop_sx (S := Int) (fun a => ([(1, .ptr 0 0), (2, .ptr 1 0), (3, .own 2 0 (p.Senders ++ p.Getters).length), (4, iS i9), (5, iS xat13), (6, iS a)], [(0, .row 57 (Enc.cells p)), (1, .row 29 [iS 0, iS 0]), (2, .row 92 (fl (p.Senders ++ p.Getters)))], 3)) h (leSt_m [(0, 0), (1, 1), (2, 2)] [] (by simp only [push_cast, leL_flD, renL_flD, seval]) (by simp only [push_cast, leL_flD, renL_flD, seval]) rfl rfl rfl) ?_
           rintro k21 o5 R5 h hr5 hn5 hx5 ht5
           try dsimp only at h hn5 ⊢
           unfold taskmillref_PipeFault_l1 at h
           try dsimp only at h
           refine seq_np ?_
           refine seq_np ?_
           refine reg_f ?_
           refine rs 3 [] [] (by kernel_rfl) allP_nil ?_
           refine rf [(1, .ptr 0 0), (2, .ptr 1 0), (3, .own 2 0 (p.Senders ++ p.Getters).length), (4, iS i9), (5, iS xat13), (6, iS k21), (106, bS (decide (k21 < i9)))] [(0, .row 57 (Enc.cells p)), (1, .row 29 [iS 0, iS 0]), (2, .row 92 (fl (p.Senders ++ p.Getters)))] 3 (by kernel_rfl) ?_
           refine wk_id ?_
           refine cond_sx h (by kernel_rfl) (fun g2962 h => ?_) (fun g2962 h => ?_)
           ·refine wk_id ?_
            refine seq_np ?_
            refine block_np ?_
            refine chk_sx h (fun g2956 h => ?_)
            refine chk_sx h (fun g2958 h => ?_)
            refine seq_np ?_
            refine reg_t ?_
            have k2955 : 0 ≤ k21 ∧ k21 < (((p.Senders ++ p.Getters).length : Nat) : Int) := by first | simpa only [Bool.and_eq_true, decide_eq_true_eq, bne_iff_ne, ne_eq] using g2956 | (simp at g2956 ⊢; omega)
            have k2957 : 0 ≤ i9 ∧ i9 < (((p.Senders ++ p.Getters).length : Nat) : Int) := by first | simpa only [Bool.and_eq_true, decide_eq_true_eq, bne_iff_ne, ne_eq] using g2958 | (simp at g2958 ⊢; omega)
            refine rs 11 [none, none, some ⟨.ptr 2 (0 + (k21).toNat * 3), [], 5, [2]⟩, none, some ⟨iS (ix (p.Senders ++ p.Getters) k21).Task, [], 7, [2]⟩, none, none, some ⟨.ptr 2 (0 + (i9).toNat * 3), [], 10, [2]⟩, none, some ⟨iS (ix (p.Senders ++ p.Getters) i9).Task, [], 12, [2]⟩] _ (by kernel_rfl) (allP_cons (ob_ld (p.Senders ++ p.Getters) i9 3 0 ((0 + (i9).toNat * 3) + 0) k2957 rfl (by decide) (by first | rfl | omega) (dflS Try.prog 3) (iS (ix (p.Senders ++ p.Getters) i9).Task) rfl 12 [2]) (allP_cons (ob_ix_o 2 (p.Senders ++ p.Getters).length 0 3 10 i9 k2957) (allP_cons (ob_ld (p.Senders ++ p.Getters) k21 3 0 ((0 + (k21).toNat * 3) + 0) k2955 rfl (by decide) (by first | rfl | omega) (dflS Try.prog 3) (iS (ix (p.Senders ++ p.Getters) k21).Task) rfl 7 [2]) (allP_cons (ob_ix_o 2 (p.Senders ++ p.Getters).length 0 3 5 k21 k2955) allP_nil)))) ?_
            refine rt [(1, .ptr 0 0), (2, .ptr 1 0), (3, .own 2 0 (p.Senders ++ p.Getters).length), (4, iS i9), (5, iS xat13), (6, iS k21), (119, bS ((ix (p.Senders ++ p.Getters) k21).Task == (ix (p.Senders ++ p.Getters) i9).Task))] [(0, .row 57 (Enc.cells p)), (1, .row 29 [iS 0, iS 0]), (2, .row 92 (fl (p.Senders ++ p.Getters)))] 14 follows (by kernel_rfl) ?_
            refine wk_id ?_
            refine cond_sx h (by kernel_rfl) (fun g2961 h => ?_) (fun g2961 h => ?_)
            ·refine seq_np ?_
             refine reg_f ?_
             refine rs 1 [] [] (by kernel_rfl) allP_nil ?_
             obtain ⟨r2960, hr2960, h⟩ := bind_sx h
             refine run_call 31 [iS 10, iS xat13] (some 121) (by kernel_rfl) ?_
             refine call_0 (taskmillref_F_spec 10 xat13 r2960 hr2960) (by simp only [push_cast, leL_flD, renL_flD, seval]) (by simp only [push_cast, leL_flD, renL_flD, seval]) ?_
             refine back_f ?_
             refine rs 1 [] [] (by kernel_rfl) allP_nil ?_
             refine rf [(2, .ptr 1 0)] [(0, .row 57 (Enc.cells p)), (1, .row 29 (Enc.cells r2960)), (2, .row 92 (fl (p.Senders ++ p.Getters)))] 14 (by kernel_rfl) ?_
             refine wk_id ?_
             refine rt_cast ht5 ?_
             obtain ⟨r0, h, e0⟩ := map_sx h
             have e1 := hr5 r0 e0.symm
             subst r0
             refine rt_cast ht4 ?_
             obtain ⟨r0, h, e0⟩ := map_sx h
             have e1 := hr4 r0 e0.symm
             subst r0
             obtain rfl := Option.some.inj h
             refine ret_at (.agg (Enc.cells r2960)) (by kernel_rfl) ?_
             exact ret_e [] [] (by simp only [push_cast, leL_flD, renL_flD, seval]) (by simp only [push_cast, leL_flD, renL_flD, seval]) rfl rfl rfl
            ·refine wk_id ?_
             refine wk_id ?_
             refine reg_f ?_
             refine rs 3 [] [] (by kernel_rfl) allP_nil ?_
             refine rf [(1, .ptr 0 0), (2, .ptr 1 0), (3, .own 2 0 (p.Senders ++ p.Getters).length), (4, iS i9), (5, iS xat13), (6, iS (IntKind.i64.wrap (k21 + 1)))] [(0, .row 57 (Enc.cells p)), (1, .row 29 [iS 0, iS 0]), (2, .row 92 (fl (p.Senders ++ p.Getters)))] 14 (by kernel_rfl) ?_
             exact hn5 ((IntKind.i64.wrap (k21 + 1))) _ _ _ (Option.some.inj h).symm (leSt_m [(0, 0), (1, 1), (2, 2)] [] (by simp only [push_cast, leL_flD, renL_flD, seval]) (by simp only [push_cast, leL_flD, renL_flD, seval]) rfl rfl rfl)
           ·change R5 (.exit 2) _ _ _
            refine ex_cast hx5 (id := 2) ?_
            obtain ⟨r0, h, e0⟩ := map_sx h
            have e1 := hr5 r0 e0.symm
            subst r0
            refine wk_id ?_
            refine wk_id ?_
            refine wk_id ?_
            refine reg_f ?_
            refine rs 3 [] [] (by kernel_rfl) allP_nil ?_
            refine rf [(1, .ptr 0 0), (2, .ptr 1 0), (3, .own 2 0 (p.Senders ++ p.Getters).length), (4, iS (IntKind.i64.wrap (i9 + 1)))] [(0, .row 57 (Enc.cells p)), (1, .row 29 [iS 0, iS 0]), (2, .row 92 (fl (p.Senders ++ p.Getters)))] 3 (by kernel_rfl) ?_
            exact hn4 ((IntKind.i64.wrap (i9 + 1))) _ _ _ (Option.some.inj h).symm (leSt_m [(0, 0), (1, 1), (2, 2)] [] (by simp only [push_cast, leL_flD, renL_flD, seval]) (by simp only [push_cast, leL_flD, renL_flD, seval]) rfl rfl rfl)
       ·change R4 (.exit 0) _ _ _
        refine ex_cast hx4 (id := 0) ?_
        obtain ⟨r0, h, e0⟩ := map_sx h
        have e1 := hr4 r0 e0.symm
        subst r0
        refine wk_id ?_
        refine wk_id ?_
        refine seq_np ?_
        refine seq_np ?_
        refine reg_f ?_
        refine rs 1 [] [] (by kernel_rfl) allP_nil ?_
        refine rf [(1, .ptr 0 0), (2, .ptr 1 0), (7, iS 0)] [(0, .row 57 (Enc.cells p)), (1, .row 29 [iS 0, iS 0]), (2, .row 92 (fl (p.Senders ++ p.Getters)))] 3 (by kernel_rfl) ?_
        refine wk_id ?_
        refine block_np ?_
        refine loop_sx (S := Int) (fun a => ([(1, .ptr 0 0), (2, .ptr 1 0), (7, iS a)], [(0, .row 57 (Enc.cells p)), (1, .row 29 [iS 0, iS 0])], 2)) h (leSt_m [(0, 0), (1, 1)] [] (by simp only [push_cast, leL_flD, renL_flD, seval]) (by simp only [push_cast, leL_flD, renL_flD, seval]) rfl rfl rfl) ?_
        rintro i15 o6 R6 h hr6 hn6 hx6 ht6
        try dsimp only at h hn6 ⊢
        unfold taskmillref_PipeFault_l2 at h
        try dsimp only at h
        refine seq_np ?_
        refine seq_np ?_
        refine reg_f ?_
        refine rs 5 [] [] (by kernel_rfl) allP_nil ?_
        refine rf [(1, .ptr 0 0), (2, .ptr 1 0), (7, iS i15), (126, bS (decide (i15 < ((p.Getters.length : Nat) : Int))))] [(0, .row 57 (Enc.cells p)), (1, .row 29 [iS 0, iS 0])] 2 (by kernel_rfl) ?_
        refine wk_id ?_
        refine cond_sx h (by kernel_rfl) (fun g3023 h => ?_) (fun g3023 h => ?_)
        ·refine wk_id ?_
         refine seq_np ?_
         refine block_np ?_
         refine chk_sx h (fun g3019 h => ?_)
         refine seq_np ?_
         refine reg_f ?_
         have k3018 : 0 ≤ i15 ∧ i15 < ((p.Getters.length : Nat) : Int) := by first | simpa only [Bool.and_eq_true, decide_eq_true_eq, bne_iff_ne, ne_eq] using g3019 | (simp at g3019 ⊢; omega)
         refine rs 7 [none, none, none, some ⟨.iptr (fl p.Getters) ((i15).toNat * 3), [], 2, []⟩, none, some ⟨iS (ix p.Getters i15).Value, [], 2, []⟩] _ (by kernel_rfl) (allP_cons (ob_ld p.Getters i15 3 2 (((i15).toNat * 3) + 2) k3018 rfl (by decide) (by first | rfl | omega) (dflS Try.prog 3) (iS (ix p.Getters i15).Value) rfl 2 []) (allP_cons (ob_ix_l p.Getters 3 2 i15 k3018) allP_nil)) ?_
         refine rf [(1, .ptr 0 0), (2, .ptr 1 0), (7, iS i15), (135, bS ((ix p.Getters i15).Value != 0))] [(0, .row 57 (Enc.cells p)), (1, .row 29 [iS 0, iS 0])] 2 (by kernel_rfl) ?_
         refine wk_id ?_
         refine cond_sx h (by kernel_rfl) (fun g3022 h => ?_) (fun g3022 h => ?_)
         ·refine seq_np ?_
          refine reg_f ?_
          obtain ⟨r3021, hr3021, h⟩ := bind_sx h
          refine run_call 31 [iS 5, iS 2] (some 136) (by kernel_rfl) ?_
          refine call_0 (taskmillref_F_spec 5 2 r3021 hr3021) (by simp only [push_cast, leL_flD, renL_flD, seval]) (by simp only [push_cast, leL_flD, renL_flD, seval]) ?_
          refine back_f ?_
          refine rs 1 [] [] (by kernel_rfl) allP_nil ?_
          refine rf [(2, .ptr 1 0)] [(0, .row 57 (Enc.cells p)), (1, .row 29 (Enc.cells r3021))] 2 (by kernel_rfl) ?_
          refine wk_id ?_
          refine rt_cast ht6 ?_
          obtain ⟨r0, h, e0⟩ := map_sx h
          have e1 := hr6 r0 e0.symm
          subst r0
          obtain rfl := Option.some.inj h
          refine ret_at (.agg (Enc.cells r3021)) (by kernel_rfl) ?_
          exact ret_e [] [] (by simp only [push_cast, leL_flD, renL_flD, seval]) (by simp only [push_cast, leL_flD, renL_flD, seval]) rfl rfl rfl
         ·refine wk_id ?_
          refine wk_id ?_
          refine reg_f ?_
          refine rs 3 [] [] (by kernel_rfl) allP_nil ?_
          refine rf [(1, .ptr 0 0), (2, .ptr 1 0), (7, iS (IntKind.i64.wrap (i15 + 1)))] [(0, .row 57 (Enc.cells p)), (1, .row 29 [iS 0, iS 0])] 2 (by kernel_rfl) ?_
          exact hn6 ((IntKind.i64.wrap (i15 + 1))) _ _ _ (Option.some.inj h).symm (leSt_m [(0, 0), (1, 1)] [] (by simp only [push_cast, leL_flD, renL_flD, seval]) (by simp only [push_cast, leL_flD, renL_flD, seval]) rfl rfl rfl)
        ·change R6 (.exit 4) _ _ _
         refine ex_cast hx6 (id := 4) ?_
         obtain ⟨r0, h, e0⟩ := map_sx h
         have e1 := hr6 r0 e0.symm
         subst r0
         refine wk_id ?_
         refine wk_id ?_
         refine seq_np ?_
         refine reg_f ?_
         refine rs 2 [] [] (by kernel_rfl) allP_nil ?_
         refine rf [(2, .ptr 1 0)] [(0, .row 57 (Enc.cells p)), (1, .row 29 [iS 0, iS 0])] 2 (by kernel_rfl) ?_
         refine wk_id ?_
         obtain rfl := Option.some.inj h
         refine ret_at (.agg [iS 0, iS 0]) (by kernel_rfl) ?_
         exact ret_e [] [] (by simp only [push_cast, leL_flD, renL_flD, seval]) (by simp only [push_cast, leL_flD, renL_flD, seval]) rfl rfl rfl

set_option maxRecDepth 100000 in
set_option maxHeartbeats 200000000 in
theorem taskmillref_HubFault_spec (l : (List Pipe)) (r : Fault) (h : taskmillref_HubFault l = some r) : SpecW Try.prog 16 [.sl l.length (fl l)] [] 0 (fun x h n => x = .agg (Enc.cells r) ∧ h = [] ∧ n = 0) := by
 unfold taskmillref_HubFault at h
 refine spec_of (draw_ok _) Try.func16 rfl (by decide) rfl (by kernel_rfl) ?_
 refine seq_np ?_
 refine reg_f ?_
 refine rs 1 [] [] (by kernel_rfl) allP_nil ?_
 refine rf [(0, .sl l.length (fl l)), (2, .ptr 0 0)] [(0, .row 29 [iS 0, iS 0])] 1 (by kernel_rfl) ?_
 refine wk_id ?_
 refine seq_np ?_
 refine seq_np ?_
 refine reg_f ?_
 refine rs 3 [] [] (by kernel_rfl) allP_nil ?_
 refine rf [(0, .sl l.length (fl l)), (2, .ptr 0 0), (7, bS (decide ((20 : Int) < ((l.length : Nat) : Int))))] [(0, .row 29 [iS 0, iS 0])] 1 (by kernel_rfl) ?_
 refine wk_id ?_
 refine cond_sx h (by kernel_rfl) (fun g3120 h => ?_) (fun g3120 h => ?_)
 ·refine seq_np ?_
  refine reg_f ?_
  obtain ⟨r3047, hr3047, h⟩ := bind_sx h
  refine run_call 31 [iS 2, iS 0] (some 8) (by kernel_rfl) ?_
  refine call_0 (taskmillref_F_spec 2 0 r3047 hr3047) (by simp only [push_cast, leL_flD, renL_flD, seval]) (by simp only [push_cast, leL_flD, renL_flD, seval]) ?_
  refine back_f ?_
  refine rs 1 [] [] (by kernel_rfl) allP_nil ?_
  refine rf [(2, .ptr 0 0)] [(0, .row 29 (Enc.cells r3047))] 1 (by kernel_rfl) ?_
  refine wk_id ?_
  obtain rfl := Option.some.inj h
  refine ret_at (.agg (Enc.cells r3047)) (by kernel_rfl) ?_
  exact ret_e [] [] (by simp only [push_cast, leL_flD, renL_flD, seval]) (by simp only [push_cast, leL_flD, renL_flD, seval]) rfl rfl rfl
 ·refine wk_id ?_
  refine seq_np ?_
  refine seq_np ?_
  refine reg_f ?_
  refine rs 1 [] [] (by kernel_rfl) allP_nil ?_
  refine rf [(0, .sl l.length (fl l)), (2, .ptr 0 0), (3, iS 0)] [(0, .row 29 [iS 0, iS 0])] 1 (by kernel_rfl) ?_
  refine wk_id ?_
  refine block_np ?_
  refine loop_sx (S := Int) (fun a => ([(0, .sl l.length (fl l)), (2, .ptr 0 0), (3, iS a)], [(0, .row 29 [iS 0, iS 0])], 1)) h (leSt_m [(0, 0)] [] (by simp only [push_cast, leL_flD, renL_flD, seval]) (by simp only [push_cast, leL_flD, renL_flD, seval]) rfl rfl rfl) ?_
  rintro i7 o2 R2 h hr2 hn2 hx2 ht2
  try dsimp only at h hn2 ⊢
  unfold taskmillref_HubFault_l1 at h
  try dsimp only at h
  refine seq_np ?_
  refine seq_np ?_
  refine reg_f ?_
  refine rs 4 [] [] (by kernel_rfl) allP_nil ?_
  refine rf [(0, .sl l.length (fl l)), (2, .ptr 0 0), (3, iS i7), (12, bS (decide (i7 < ((l.length : Nat) : Int))))] [(0, .row 29 [iS 0, iS 0])] 1 (by kernel_rfl) ?_
  refine wk_id ?_
  refine cond_sx h (by kernel_rfl) (fun g3119 h => ?_) (fun g3119 h => ?_)
  ·refine wk_id ?_
   refine seq_np ?_
   refine block_np ?_
   refine chk_sx h (fun g3114 h => ?_)
   refine seq_np ?_
   refine reg_f ?_
   have k3113 : 0 ≤ i7 ∧ i7 < ((l.length : Nat) : Int) := by first | simpa only [Bool.and_eq_true, decide_eq_true_eq, bne_iff_ne, ne_eq] using g3114 | (simp at g3114 ⊢; omega)
   refine rs 4 [none, none, some ⟨.iptr (fl l) ((i7).toNat * 5), [], 1, []⟩, some ⟨.agg (Enc.cells (ix l i7)), [], 1, []⟩] _ (by kernel_rfl) (allP_cons (ob_ldw l i7 5 ((i7).toNat * 5) k3113 rfl (by first | rfl | omega) [iS (ix l i7).Cap, .sl (ix l i7).Items.length (fl (ix l i7).Items), bS (ix l i7).Closed, .sl (ix l i7).Senders.length (fl (ix l i7).Senders), .sl (ix l i7).Getters.length (fl (ix l i7).Getters)] rfl 1 []) (allP_cons (ob_ix_l l 5 1 i7 k3113) allP_nil)) ?_
   obtain ⟨r3115, hr3115, h⟩ := bind_sx h
   refine run_call 48 [.agg (Enc.cells (ix l i7))] (some 19) (by kernel_rfl) ?_
   refine call_0 (taskmillref_PipeFault_spec (ix l i7) r3115 hr3115) (by simp only [push_cast, leL_flD, renL_flD, seval]) (by simp only [push_cast, leL_flD, renL_flD, seval]) ?_
   refine back_f ?_
   refine rs 2 [] [] (by kernel_rfl) allP_nil ?_
   refine rf [(0, .sl l.length (fl l)), (2, .ptr 0 0), (3, iS i7), (4, .ptr 1 0)] [(0, .row 29 [iS 0, iS 0]), (1, .row 29 (Enc.cells r3115))] 2 (by kernel_rfl) ?_
   refine wk_id ?_
   refine seq_np ?_
   refine reg_f ?_
   refine rs 3 [] [] (by kernel_rfl) allP_nil ?_
   refine rf [(0, .sl l.length (fl l)), (2, .ptr 0 0), (3, iS i7), (4, .ptr 1 0), (22, bS (r3115.Code != 0))] [(0, .row 29 [iS 0, iS 0]), (1, .row 29 (Enc.cells r3115))] 2 (by kernel_rfl) ?_
   refine wk_id ?_
   refine cond_sx h (by kernel_rfl) (fun g3118 h => ?_) (fun g3118 h => ?_)
   ·refine seq_np ?_
    refine reg_f ?_
    refine rs 3 [] [] (by kernel_rfl) allP_nil ?_
    obtain ⟨r3117, hr3117, h⟩ := bind_sx h
    refine run_call 31 [iS r3115.Code, iS i7] (some 26) (by kernel_rfl) ?_
    refine call_0 (taskmillref_F_spec r3115.Code i7 r3117 hr3117) (by simp only [push_cast, leL_flD, renL_flD, seval]) (by simp only [push_cast, leL_flD, renL_flD, seval]) ?_
    refine back_f ?_
    refine rs 1 [] [] (by kernel_rfl) allP_nil ?_
    refine rf [(2, .ptr 0 0)] [(0, .row 29 (Enc.cells r3117)), (1, .row 29 (Enc.cells r3115))] 2 (by kernel_rfl) ?_
    refine wk_id ?_
    refine rt_cast ht2 ?_
    obtain ⟨r0, h, e0⟩ := map_sx h
    have e1 := hr2 r0 e0.symm
    subst r0
    obtain rfl := Option.some.inj h
    refine ret_at (.agg (Enc.cells r3117)) (by kernel_rfl) ?_
    exact ret_e [] [] (by simp only [push_cast, leL_flD, renL_flD, seval]) (by simp only [push_cast, leL_flD, renL_flD, seval]) rfl rfl rfl
   ·refine wk_id ?_
    refine wk_id ?_
    refine reg_f ?_
    refine rs 3 [] [] (by kernel_rfl) allP_nil ?_
    refine rf [(0, .sl l.length (fl l)), (2, .ptr 0 0), (3, iS (IntKind.i64.wrap (i7 + 1)))] [(0, .row 29 [iS 0, iS 0]), (1, .row 29 (Enc.cells r3115))] 2 (by kernel_rfl) ?_
    exact hn2 ((IntKind.i64.wrap (i7 + 1))) _ _ _ (Option.some.inj h).symm (leSt_m [(0, 0)] [] (by simp only [push_cast, leL_flD, renL_flD, seval]) (by simp only [push_cast, leL_flD, renL_flD, seval]) rfl rfl rfl)
  ·change R2 (.exit 0) _ _ _
   refine ex_cast hx2 (id := 0) ?_
   obtain ⟨r0, h, e0⟩ := map_sx h
   have e1 := hr2 r0 e0.symm
   subst r0
   refine wk_id ?_
   refine wk_id ?_
   refine seq_np ?_
   refine reg_f ?_
   refine rs 2 [] [] (by kernel_rfl) allP_nil ?_
   refine rf [(2, .ptr 0 0)] [(0, .row 29 [iS 0, iS 0])] 1 (by kernel_rfl) ?_
   refine wk_id ?_
   obtain rfl := Option.some.inj h
   refine ret_at (.agg [iS 0, iS 0]) (by kernel_rfl) ?_
   exact ret_e [] [] (by simp only [push_cast, leL_flD, renL_flD, seval]) (by simp only [push_cast, leL_flD, renL_flD, seval]) rfl rfl rfl

set_option maxRecDepth 100000 in
set_option maxHeartbeats 200000000 in
theorem taskmillref_SamePosts_spec (xa : (List GPost)) (b : (List GPost)) (r : Bool) (h : taskmillref_SamePosts xa b = some r) : SpecW Try.prog 60 [.sl xa.length (fl xa), .sl b.length (fl b)] [] 0 (fun x h n => x = bS r ∧ h = [] ∧ n = 0) := by
 unfold taskmillref_SamePosts at h
 refine spec_of (draw_ok _) Try.func60 rfl (by decide) rfl (by kernel_rfl) ?_
 refine seq_np ?_
 refine reg_f ?_
 refine rs 1 [] [] (by kernel_rfl) allP_nil ?_
 refine rf [(0, .sl xa.length (fl xa)), (1, .sl b.length (fl b))] [] 0 (by kernel_rfl) ?_
 refine wk_id ?_
 refine seq_np ?_
 refine seq_np ?_
 refine reg_f ?_
 refine rs 5 [] [] (by kernel_rfl) allP_nil ?_
 refine rf [(0, .sl xa.length (fl xa)), (1, .sl b.length (fl b)), (10, bS (((xa.length : Nat) : Int) != ((b.length : Nat) : Int)))] [] 0 (by kernel_rfl) ?_
 refine wk_id ?_
 refine cond_sx h (by kernel_rfl) (fun g3226 h => ?_) (fun g3226 h => ?_)
 ·refine seq_np ?_
  refine reg_f ?_
  refine rs 1 [] [] (by kernel_rfl) allP_nil ?_
  refine rf [(4, bS false)] [] 0 (by kernel_rfl) ?_
  refine wk_id ?_
  obtain rfl := Option.some.inj h
  refine ret_at (bS false) (by kernel_rfl) ?_
  exact ret_e [] [] (by simp only [push_cast, leL_flD, renL_flD, seval]) (by simp only [push_cast, leL_flD, renL_flD, seval]) rfl rfl rfl
 ·refine wk_id ?_
  refine seq_np ?_
  refine seq_np ?_
  refine reg_f ?_
  refine rs 1 [] [] (by kernel_rfl) allP_nil ?_
  refine rf [(0, .sl xa.length (fl xa)), (1, .sl b.length (fl b)), (5, iS 0)] [] 0 (by kernel_rfl) ?_
  refine wk_id ?_
  refine block_np ?_
  refine loop_sx (S := Int) (fun a => ([(0, .sl xa.length (fl xa)), (1, .sl b.length (fl b)), (5, iS a)], [], 0)) h (leSt_m [] [] (by simp only [push_cast, leL_flD, renL_flD, seval]) (by simp only [push_cast, leL_flD, renL_flD, seval]) rfl rfl rfl) ?_
  rintro i7 o2 R2 h hr2 hn2 hx2 ht2
  try dsimp only at h hn2 ⊢
  unfold taskmillref_SamePosts_l1 at h
  try dsimp only at h
  refine seq_np ?_
  refine seq_np ?_
  refine reg_f ?_
  refine rs 4 [] [] (by kernel_rfl) allP_nil ?_
  refine rf [(0, .sl xa.length (fl xa)), (1, .sl b.length (fl b)), (5, iS i7), (14, bS (decide (i7 < ((xa.length : Nat) : Int))))] [] 0 (by kernel_rfl) ?_
  refine wk_id ?_
  refine cond_sx h (by kernel_rfl) (fun g3225 h => ?_) (fun g3225 h => ?_)
  ·refine wk_id ?_
   refine seq_np ?_
   refine block_np ?_
   refine chk_sx h (fun g3221 h => ?_)
   refine chk_sx h (fun g3223 h => ?_)
   refine seq_np ?_
   refine reg_t ?_
   have k3220 : 0 ≤ i7 ∧ i7 < ((xa.length : Nat) : Int) := by first | simpa only [Bool.and_eq_true, decide_eq_true_eq, bne_iff_ne, ne_eq] using g3221 | (simp at g3221 ⊢; omega)
   have k3222 : 0 ≤ i7 ∧ i7 < ((b.length : Nat) : Int) := by first | simpa only [Bool.and_eq_true, decide_eq_true_eq, bne_iff_ne, ne_eq] using g3223 | (simp at g3223 ⊢; omega)
   refine rs 9 [none, none, some ⟨.iptr (fl xa) ((i7).toNat * 3), [], 2, []⟩, some ⟨.agg (Enc.cells (ix xa i7)), [], 3, []⟩, none, none, some ⟨.iptr (fl b) ((i7).toNat * 3), [], 6, []⟩, some ⟨.agg (Enc.cells (ix b i7)), [], 7, []⟩] _ (by kernel_rfl) (allP_cons (ob_ldw b i7 3 ((i7).toNat * 3) k3222 rfl (by first | rfl | omega) [iS (ix b i7).Task, iS (ix b i7).Case, iS (ix b i7).Value] rfl 7 []) (allP_cons (ob_ix_l b 3 6 i7 k3222) (allP_cons (ob_ldw xa i7 3 ((i7).toNat * 3) k3220 rfl (by first | rfl | omega) [iS (ix xa i7).Task, iS (ix xa i7).Case, iS (ix xa i7).Value] rfl 3 []) (allP_cons (ob_ix_l xa 3 2 i7 k3220) allP_nil)))) ?_
   refine rt [(0, .sl xa.length (fl xa)), (1, .sl b.length (fl b)), (5, iS i7), (25, bS (!(((ix xa i7).Task == (ix b i7).Task) && (((ix xa i7).Case == (ix b i7).Case) && (((ix xa i7).Value == (ix b i7).Value) && true)))))] [] 9 follows (by kernel_rfl) ?_
   refine wk_id ?_
   refine cond_sx h (by kernel_rfl) (fun g3224 h => ?_) (fun g3224 h => ?_)
   ·refine seq_np ?_
    refine reg_f ?_
    refine rs 1 [] [] (by kernel_rfl) allP_nil ?_
    refine rf [(4, bS false)] [] 9 (by kernel_rfl) ?_
    refine wk_id ?_
    refine rt_cast ht2 ?_
    obtain ⟨r0, h, e0⟩ := map_sx h
    have e1 := hr2 r0 e0.symm
    subst r0
    obtain rfl := Option.some.inj h
    refine ret_at (bS false) (by kernel_rfl) ?_
    exact ret_e [] [] (by simp only [push_cast, leL_flD, renL_flD, seval]) (by simp only [push_cast, leL_flD, renL_flD, seval]) rfl rfl rfl
   ·refine wk_id ?_
    refine wk_id ?_
    refine reg_f ?_
    refine rs 3 [] [] (by kernel_rfl) allP_nil ?_
    refine rf [(0, .sl xa.length (fl xa)), (1, .sl b.length (fl b)), (5, iS (IntKind.i64.wrap (i7 + 1)))] [] 9 (by kernel_rfl) ?_
    exact hn2 ((IntKind.i64.wrap (i7 + 1))) _ _ _ (Option.some.inj h).symm (leSt_m [] [] (by simp only [push_cast, leL_flD, renL_flD, seval]) (by simp only [push_cast, leL_flD, renL_flD, seval]) rfl rfl rfl)
  ·change R2 (.exit 0) _ _ _
   refine ex_cast hx2 (id := 0) ?_
   obtain ⟨r0, h, e0⟩ := map_sx h
   have e1 := hr2 r0 e0.symm
   subst r0
   refine wk_id ?_
   refine wk_id ?_
   refine seq_np ?_
   refine reg_f ?_
   refine rs 1 [] [] (by kernel_rfl) allP_nil ?_
   refine rf [(4, bS true)] [] 0 (by kernel_rfl) ?_
   refine wk_id ?_
   obtain rfl := Option.some.inj h
   refine ret_at (bS true) (by kernel_rfl) ?_
   exact ret_e [] [] (by simp only [push_cast, leL_flD, renL_flD, seval]) (by simp only [push_cast, leL_flD, renL_flD, seval]) rfl rfl rfl

set_option maxRecDepth 100000 in
set_option maxHeartbeats 200000000 in
theorem taskmillref_SamePipe_spec (xa : Pipe) (b : Pipe) (r : Bool) (h : taskmillref_SamePipe xa b = some r) : SpecW Try.prog 40 [.agg (Enc.cells xa), .agg (Enc.cells b)] [] 0 (fun x h n => x = bS r ∧ h = [] ∧ n = 0) := by
 unfold taskmillref_SamePipe at h
 refine spec_of (draw_ok _) Try.func40 rfl (by decide) rfl (by kernel_rfl) ?_
 refine seq_np ?_
 refine reg_f ?_
 refine rs 3 [] [] (by kernel_rfl) allP_nil ?_
 refine rf [(2, .ptr 0 0), (3, .ptr 1 0)] [(0, .row 57 (Enc.cells xa)), (1, .row 57 (Enc.cells b))] 2 (by kernel_rfl) ?_
 refine wk_id ?_
 refine seq_cut (A := Bool) (fun a => ([(4, bS a)], [], 0)) (fun a => (taskmillref_SamePipe_j1 a) = some r) (fun K3240 hK3240 => ?_) ?_
 ·refine reg_f ?_
  refine rs 6 [] [] (by kernel_rfl) allP_nil ?_
  refine run_br h 10 (.inl (by kernel_rfl)) (fun g3241 h => ?_) (fun g3241 h => ?_)
  ·refine rs 7 [] [] (by kernel_rfl) allP_nil ?_
   refine run_br h 17 (.inl (by kernel_rfl)) (fun g3242 h => ?_) (fun g3242 h => ?_)
   ·refine rs 4 [] [] (by kernel_rfl) allP_nil ?_
    obtain ⟨r3243, hr3243, h⟩ := bind_sx h
    refine run_call 24 [.sl xa.Items.length (fl xa.Items), .sl b.Items.length (fl b.Items)] (some 22) (by kernel_rfl) ?_
    refine call_0 (taskmillref_Ints_spec xa.Items b.Items r3243 hr3243) (by simp only [push_cast, leL_flD, renL_flD, seval]) (by simp only [push_cast, leL_flD, renL_flD, seval]) ?_
    refine back_f ?_
    refine rn 18 [(2, .ptr 0 0), (3, .ptr 1 0), (17, bS true), (22, bS r3243)] [(0, .row 57 (Enc.cells xa)), (1, .row 57 (Enc.cells b))] 2 (by kernel_rfl) ?_
    refine rs 2 [] [] (by kernel_rfl) allP_nil ?_
    refine run_br h 24 (.inl (by kernel_rfl)) (fun g3244 h => ?_) (fun g3244 h => ?_)
    ·refine rs 4 [] [] (by kernel_rfl) allP_nil ?_
     obtain ⟨r3245, hr3245, h⟩ := bind_sx h
     refine run_call 60 [.sl xa.Senders.length (fl xa.Senders), .sl b.Senders.length (fl b.Senders)] (some 29) (by kernel_rfl) ?_
     refine call_0 (taskmillref_SamePosts_spec xa.Senders b.Senders r3245 hr3245) (by simp only [push_cast, leL_flD, renL_flD, seval]) (by simp only [push_cast, leL_flD, renL_flD, seval]) ?_
     refine back_f ?_
     refine rs 2 [] [] (by kernel_rfl) allP_nil ?_
     refine run_br h 31 (.inl (by kernel_rfl)) (fun g3246 h => ?_) (fun g3246 h => ?_)
     ·refine rn 27 [(2, .ptr 0 0), (3, .ptr 1 0), (31, bS true)] [(0, .row 57 (Enc.cells xa)), (1, .row 57 (Enc.cells b))] 2 (by kernel_rfl) ?_
      refine rs 4 [] [] (by kernel_rfl) allP_nil ?_
      obtain ⟨r3247, hr3247, h⟩ := bind_sx h
      refine run_call 60 [.sl xa.Getters.length (fl xa.Getters), .sl b.Getters.length (fl b.Getters)] (some 36) (by kernel_rfl) ?_
      refine call_0 (taskmillref_SamePosts_spec xa.Getters b.Getters r3247 hr3247) (by simp only [push_cast, leL_flD, renL_flD, seval]) (by simp only [push_cast, leL_flD, renL_flD, seval]) ?_
      refine back_f ?_
      refine rs 2 [] [] (by kernel_rfl) allP_nil ?_
      refine rf [(4, bS r3247)] [(0, .row 57 (Enc.cells xa)), (1, .row 57 (Enc.cells b))] 2 (by kernel_rfl) ?_
      exact hK3240 (r3247) _ _ _ h (leSt_m [] [] (by first | ((try simp only [g3241, g3242, g3244, g3246]) <;> simp only [push_cast, leL_flD, renL_flD, seval]; done) | ((try simp only [g3241]); (try simp only [g3242]); (try simp only [g3244]); (try simp only [g3246]); simp only [push_cast, leL_flD, renL_flD, seval]; done) | (exfalso; clear h; simp_all; done)) (by first | ((try simp only [g3241, g3242, g3244, g3246]) <;> simp only [push_cast, leL_flD, renL_flD, seval]; done) | ((try simp only [g3241]); (try simp only [g3242]); (try simp only [g3244]); (try simp only [g3246]); simp only [push_cast, leL_flD, renL_flD, seval]; done) | (exfalso; clear h; simp_all; done)) rfl rfl rfl)
     ·refine rn 27 [(2, .ptr 0 0), (3, .ptr 1 0), (31, bS false)] [(0, .row 57 (Enc.cells xa)), (1, .row 57 (Enc.cells b))] 2 (by kernel_rfl) ?_
      refine rs 7 [] [] (by kernel_rfl) allP_nil ?_
      refine rf [(4, bS false)] [(0, .row 57 (Enc.cells xa)), (1, .row 57 (Enc.cells b))] 2 (by kernel_rfl) ?_
      exact hK3240 (false) _ _ _ h (leSt_m [] [] (by first | ((try simp only [g3241, g3242, g3244, g3246]) <;> simp only [push_cast, leL_flD, renL_flD, seval]; done) | ((try simp only [g3241]); (try simp only [g3242]); (try simp only [g3244]); (try simp only [g3246]); simp only [push_cast, leL_flD, renL_flD, seval]; done) | (exfalso; clear h; simp_all; done)) (by first | ((try simp only [g3241, g3242, g3244, g3246]) <;> simp only [push_cast, leL_flD, renL_flD, seval]; done) | ((try simp only [g3241]); (try simp only [g3242]); (try simp only [g3244]); (try simp only [g3246]); simp only [push_cast, leL_flD, renL_flD, seval]; done) | (exfalso; clear h; simp_all; done)) rfl rfl rfl)
    ·refine rs 14 [] [] (by kernel_rfl) allP_nil ?_
     refine rf [(4, bS false)] [(0, .row 57 (Enc.cells xa)), (1, .row 57 (Enc.cells b))] 2 (by kernel_rfl) ?_
     exact hK3240 (false) _ _ _ h (leSt_m [] [] (by first | ((try simp only [g3241, g3242, g3244]) <;> simp only [push_cast, leL_flD, renL_flD, seval]; done) | ((try simp only [g3241]); (try simp only [g3242]); (try simp only [g3244]); simp only [push_cast, leL_flD, renL_flD, seval]; done) | (exfalso; clear h; simp_all; done)) (by first | ((try simp only [g3241, g3242, g3244]) <;> simp only [push_cast, leL_flD, renL_flD, seval]; done) | ((try simp only [g3241]); (try simp only [g3242]); (try simp only [g3244]); simp only [push_cast, leL_flD, renL_flD, seval]; done) | (exfalso; clear h; simp_all; done)) rfl rfl rfl)
   ·refine rs 21 [] [] (by kernel_rfl) allP_nil ?_
    refine rf [(4, bS false)] [(0, .row 57 (Enc.cells xa)), (1, .row 57 (Enc.cells b))] 2 (by kernel_rfl) ?_
    exact hK3240 (false) _ _ _ h (leSt_m [] [] (by first | ((try simp only [g3241, g3242]) <;> simp only [push_cast, leL_flD, renL_flD, seval]; done) | ((try simp only [g3241]); (try simp only [g3242]); simp only [push_cast, leL_flD, renL_flD, seval]; done) | (exfalso; clear h; simp_all; done)) (by first | ((try simp only [g3241, g3242]) <;> simp only [push_cast, leL_flD, renL_flD, seval]; done) | ((try simp only [g3241]); (try simp only [g3242]); simp only [push_cast, leL_flD, renL_flD, seval]; done) | (exfalso; clear h; simp_all; done)) rfl rfl rfl)
  ·refine rs 28 [] [] (by kernel_rfl) allP_nil ?_
   refine rf [(4, bS false)] [(0, .row 57 (Enc.cells xa)), (1, .row 57 (Enc.cells b))] 2 (by kernel_rfl) ?_
   exact hK3240 (false) _ _ _ h (leSt_m [] [] (by (try simp only [g3241]) <;> simp only [push_cast, leL_flD, renL_flD, seval]) (by (try simp only [g3241]) <;> simp only [push_cast, leL_flD, renL_flD, seval]) rfl rfl rfl)
 ·rintro t4q1 h
  try dsimp only at h ⊢
  unfold taskmillref_SamePipe_j1 at h
  obtain rfl := Option.some.inj h
  refine ret_at (bS t4q1) (by kernel_rfl) ?_
  exact ret_e [] [] (by simp only [push_cast, leL_flD, renL_flD, seval]) (by simp only [push_cast, leL_flD, renL_flD, seval]) rfl rfl rfl

set_option maxRecDepth 100000 in
set_option maxHeartbeats 200000000 in
theorem taskmillref_SameHub_spec (xa : (List Pipe)) (b : (List Pipe)) (r : Bool) (h : taskmillref_SameHub xa b = some r) : SpecW Try.prog 17 [.sl xa.length (fl xa), .sl b.length (fl b)] [] 0 (fun x h n => x = bS r ∧ h = [] ∧ n = 0) := by
 unfold taskmillref_SameHub at h
 refine spec_of (draw_ok _) Try.func17 rfl (by decide) rfl (by kernel_rfl) ?_
 refine seq_np ?_
 refine reg_f ?_
 refine rs 1 [] [] (by kernel_rfl) allP_nil ?_
 refine rf [(0, .sl xa.length (fl xa)), (1, .sl b.length (fl b))] [] 0 (by kernel_rfl) ?_
 refine wk_id ?_
 refine seq_np ?_
 refine seq_np ?_
 refine reg_f ?_
 refine rs 5 [] [] (by kernel_rfl) allP_nil ?_
 refine rf [(0, .sl xa.length (fl xa)), (1, .sl b.length (fl b)), (10, bS (((xa.length : Nat) : Int) != ((b.length : Nat) : Int)))] [] 0 (by kernel_rfl) ?_
 refine wk_id ?_
 refine cond_sx h (by kernel_rfl) (fun g3350 h => ?_) (fun g3350 h => ?_)
 ·refine seq_np ?_
  refine reg_f ?_
  refine rs 1 [] [] (by kernel_rfl) allP_nil ?_
  refine rf [(4, bS false)] [] 0 (by kernel_rfl) ?_
  refine wk_id ?_
  obtain rfl := Option.some.inj h
  refine ret_at (bS false) (by kernel_rfl) ?_
  exact ret_e [] [] (by simp only [push_cast, leL_flD, renL_flD, seval]) (by simp only [push_cast, leL_flD, renL_flD, seval]) rfl rfl rfl
 ·refine wk_id ?_
  refine seq_np ?_
  refine seq_np ?_
  refine reg_f ?_
  refine rs 1 [] [] (by kernel_rfl) allP_nil ?_
  refine rf [(0, .sl xa.length (fl xa)), (1, .sl b.length (fl b)), (5, iS 0)] [] 0 (by kernel_rfl) ?_
  refine wk_id ?_
  refine block_np ?_
  refine loop_sx (S := Int) (fun a => ([(0, .sl xa.length (fl xa)), (1, .sl b.length (fl b)), (5, iS a)], [], 0)) h (leSt_m [] [] (by simp only [push_cast, leL_flD, renL_flD, seval]) (by simp only [push_cast, leL_flD, renL_flD, seval]) rfl rfl rfl) ?_
  rintro i7 o2 R2 h hr2 hn2 hx2 ht2
  try dsimp only at h hn2 ⊢
  unfold taskmillref_SameHub_l1 at h
  try dsimp only at h
  refine seq_np ?_
  refine seq_np ?_
  refine reg_f ?_
  refine rs 4 [] [] (by kernel_rfl) allP_nil ?_
  refine rf [(0, .sl xa.length (fl xa)), (1, .sl b.length (fl b)), (5, iS i7), (14, bS (decide (i7 < ((xa.length : Nat) : Int))))] [] 0 (by kernel_rfl) ?_
  refine wk_id ?_
  refine cond_sx h (by kernel_rfl) (fun g3349 h => ?_) (fun g3349 h => ?_)
  ·refine wk_id ?_
   refine seq_np ?_
   refine block_np ?_
   refine chk_sx h (fun g3344 h => ?_)
   refine chk_sx h (fun g3346 h => ?_)
   refine seq_np ?_
   refine reg_t ?_
   have k3343 : 0 ≤ i7 ∧ i7 < ((xa.length : Nat) : Int) := by first | simpa only [Bool.and_eq_true, decide_eq_true_eq, bne_iff_ne, ne_eq] using g3344 | (simp at g3344 ⊢; omega)
   have k3345 : 0 ≤ i7 ∧ i7 < ((b.length : Nat) : Int) := by first | simpa only [Bool.and_eq_true, decide_eq_true_eq, bne_iff_ne, ne_eq] using g3346 | (simp at g3346 ⊢; omega)
   refine rs 8 [none, none, some ⟨.iptr (fl xa) ((i7).toNat * 5), [], 2, []⟩, some ⟨.agg (Enc.cells (ix xa i7)), [], 3, []⟩, none, none, some ⟨.iptr (fl b) ((i7).toNat * 5), [], 6, []⟩, some ⟨.agg (Enc.cells (ix b i7)), [], 7, []⟩] _ (by kernel_rfl) (allP_cons (ob_ldw b i7 5 ((i7).toNat * 5) k3345 rfl (by first | rfl | omega) [iS (ix b i7).Cap, .sl (ix b i7).Items.length (fl (ix b i7).Items), bS (ix b i7).Closed, .sl (ix b i7).Senders.length (fl (ix b i7).Senders), .sl (ix b i7).Getters.length (fl (ix b i7).Getters)] rfl 7 []) (allP_cons (ob_ix_l b 5 6 i7 k3345) (allP_cons (ob_ldw xa i7 5 ((i7).toNat * 5) k3343 rfl (by first | rfl | omega) [iS (ix xa i7).Cap, .sl (ix xa i7).Items.length (fl (ix xa i7).Items), bS (ix xa i7).Closed, .sl (ix xa i7).Senders.length (fl (ix xa i7).Senders), .sl (ix xa i7).Getters.length (fl (ix xa i7).Getters)] rfl 3 []) (allP_cons (ob_ix_l xa 5 2 i7 k3343) allP_nil)))) ?_
   obtain ⟨r3347, hr3347, h⟩ := bind_sx h
   refine run_call 40 [.agg (Enc.cells (ix xa i7)), .agg (Enc.cells (ix b i7))] (some 25) (by kernel_rfl) ?_
   refine callE_0 (taskmillref_SamePipe_spec (ix xa i7) (ix b i7) r3347 hr3347) (by simp only [push_cast, leL_flD, renL_flD, seval]) (by simp only [push_cast, leL_flD, renL_flD, seval]) ?_
   refine back_t ?_
   refine rs 1 [] [] (by kernel_rfl) allP_nil ?_
   refine rt [(0, .sl xa.length (fl xa)), (1, .sl b.length (fl b)), (5, iS i7), (26, bS (!r3347))] [] 10 follows (by kernel_rfl) ?_
   refine wk_id ?_
   refine cond_sx h (by kernel_rfl) (fun g3348 h => ?_) (fun g3348 h => ?_)
   ·refine seq_np ?_
    refine reg_f ?_
    refine rs 1 [] [] (by kernel_rfl) allP_nil ?_
    refine rf [(4, bS false)] [] 10 (by kernel_rfl) ?_
    refine wk_id ?_
    refine rt_cast ht2 ?_
    obtain ⟨r0, h, e0⟩ := map_sx h
    have e1 := hr2 r0 e0.symm
    subst r0
    obtain rfl := Option.some.inj h
    refine ret_at (bS false) (by kernel_rfl) ?_
    exact ret_e [] [] (by simp only [push_cast, leL_flD, renL_flD, seval]) (by simp only [push_cast, leL_flD, renL_flD, seval]) rfl rfl rfl
   ·refine wk_id ?_
    refine wk_id ?_
    refine reg_f ?_
    refine rs 3 [] [] (by kernel_rfl) allP_nil ?_
    refine rf [(0, .sl xa.length (fl xa)), (1, .sl b.length (fl b)), (5, iS (IntKind.i64.wrap (i7 + 1)))] [] 10 (by kernel_rfl) ?_
    exact hn2 ((IntKind.i64.wrap (i7 + 1))) _ _ _ (Option.some.inj h).symm (leSt_m [] [] (by simp only [push_cast, leL_flD, renL_flD, seval]) (by simp only [push_cast, leL_flD, renL_flD, seval]) rfl rfl rfl)
  ·change R2 (.exit 0) _ _ _
   refine ex_cast hx2 (id := 0) ?_
   obtain ⟨r0, h, e0⟩ := map_sx h
   have e1 := hr2 r0 e0.symm
   subst r0
   refine wk_id ?_
   refine wk_id ?_
   refine seq_np ?_
   refine reg_f ?_
   refine rs 1 [] [] (by kernel_rfl) allP_nil ?_
   refine rf [(4, bS true)] [] 0 (by kernel_rfl) ?_
   refine wk_id ?_
   obtain rfl := Option.some.inj h
   refine ret_at (bS true) (by kernel_rfl) ?_
   exact ret_e [] [] (by simp only [push_cast, leL_flD, renL_flD, seval]) (by simp only [push_cast, leL_flD, renL_flD, seval]) rfl rfl rfl

set_option maxRecDepth 100000 in
set_option maxHeartbeats 200000000 in
theorem taskmillref_WaitsAt_spec (p : Pipe) (task : Int) (r : Bool) (h : taskmillref_WaitsAt p task = some r) : SpecW Try.prog 28 [.agg (Enc.cells p), iS task] [] 0 (fun x h n => x = bS r ∧ h = [] ∧ n = 0) := by
 unfold taskmillref_WaitsAt at h
 refine spec_of (draw_ok _) Try.func28 rfl (by decide) rfl (by kernel_rfl) ?_
 refine seq_np ?_
 refine reg_f ?_
 refine rs 2 [] [] (by kernel_rfl) allP_nil ?_
 refine rf [(1, iS task), (2, .ptr 0 0)] [(0, .row 57 (Enc.cells p))] 1 (by kernel_rfl) ?_
 refine wk_id ?_
 refine seq_np ?_
 refine seq_np ?_
 refine reg_f ?_
 refine rs 1 [] [] (by kernel_rfl) allP_nil ?_
 refine rf [(1, iS task), (2, .ptr 0 0), (5, iS 0)] [(0, .row 57 (Enc.cells p))] 1 (by kernel_rfl) ?_
 refine wk_id ?_
 refine block_np ?_
 refine loop_sx (S := Int) (fun a => ([(1, iS task), (2, .ptr 0 0), (5, iS a)], [(0, .row 57 (Enc.cells p))], 1)) h (leSt_m [(0, 0)] [] (by simp only [push_cast, leL_flD, renL_flD, seval]) (by simp only [push_cast, leL_flD, renL_flD, seval]) rfl rfl rfl) ?_
 rintro i9 o3 R3 h hr3 hn3 hx3 ht3
 try dsimp only at h hn3 ⊢
 unfold taskmillref_WaitsAt_l2 at h
 try dsimp only at h
 refine seq_np ?_
 refine seq_np ?_
 refine reg_f ?_
 refine rs 5 [] [] (by kernel_rfl) allP_nil ?_
 refine rf [(1, iS task), (2, .ptr 0 0), (5, iS i9), (11, bS (decide (i9 < ((p.Senders.length : Nat) : Int))))] [(0, .row 57 (Enc.cells p))] 1 (by kernel_rfl) ?_
 refine wk_id ?_
 refine cond_sx h (by kernel_rfl) (fun g3483 h => ?_) (fun g3483 h => ?_)
 ·refine wk_id ?_
  refine seq_np ?_
  refine block_np ?_
  refine chk_sx h (fun g3433 h => ?_)
  refine seq_np ?_
  refine reg_f ?_
  have k3432 : 0 ≤ i9 ∧ i9 < ((p.Senders.length : Nat) : Int) := by first | simpa only [Bool.and_eq_true, decide_eq_true_eq, bne_iff_ne, ne_eq] using g3433 | (simp at g3433 ⊢; omega)
  refine rs 8 [none, none, none, some ⟨.iptr (fl p.Senders) ((i9).toNat * 3), [], 1, []⟩, none, some ⟨iS (ix p.Senders i9).Task, [], 1, []⟩] _ (by kernel_rfl) (allP_cons (ob_ld p.Senders i9 3 0 (((i9).toNat * 3) + 0) k3432 rfl (by decide) (by first | rfl | omega) (dflS Try.prog 3) (iS (ix p.Senders i9).Task) rfl 1 []) (allP_cons (ob_ix_l p.Senders 3 1 i9 k3432) allP_nil)) ?_
  refine rf [(1, iS task), (2, .ptr 0 0), (5, iS i9), (21, bS ((ix p.Senders i9).Task == task))] [(0, .row 57 (Enc.cells p))] 1 (by kernel_rfl) ?_
  refine wk_id ?_
  refine cond_sx h (by kernel_rfl) (fun g3434 h => ?_) (fun g3434 h => ?_)
  ·refine seq_np ?_
   refine reg_f ?_
   refine rs 1 [] [] (by kernel_rfl) allP_nil ?_
   refine rf [(4, bS true)] [(0, .row 57 (Enc.cells p))] 1 (by kernel_rfl) ?_
   refine wk_id ?_
   refine rt_cast ht3 ?_
   obtain ⟨r0, h, e0⟩ := map_sx h
   have e1 := hr3 r0 e0.symm
   subst r0
   obtain rfl := Option.some.inj h
   refine ret_at (bS true) (by kernel_rfl) ?_
   exact ret_e [] [] (by simp only [push_cast, leL_flD, renL_flD, seval]) (by simp only [push_cast, leL_flD, renL_flD, seval]) rfl rfl rfl
  ·refine wk_id ?_
   refine wk_id ?_
   refine reg_f ?_
   refine rs 3 [] [] (by kernel_rfl) allP_nil ?_
   refine rf [(1, iS task), (2, .ptr 0 0), (5, iS (IntKind.i64.wrap (i9 + 1)))] [(0, .row 57 (Enc.cells p))] 1 (by kernel_rfl) ?_
   exact hn3 ((IntKind.i64.wrap (i9 + 1))) _ _ _ (Option.some.inj h).symm (leSt_m [(0, 0)] [] (by simp only [push_cast, leL_flD, renL_flD, seval]) (by simp only [push_cast, leL_flD, renL_flD, seval]) rfl rfl rfl)
 ·change R3 (.exit 0) _ _ _
  refine ex_cast hx3 (id := 0) ?_
  obtain ⟨r0, h, e0⟩ := map_sx h
  have e1 := hr3 r0 e0.symm
  subst r0
  refine wk_id ?_
  refine wk_id ?_
  refine seq_np ?_
  refine seq_np ?_
  refine reg_f ?_
  refine rs 1 [] [] (by kernel_rfl) allP_nil ?_
  refine rf [(1, iS task), (2, .ptr 0 0), (6, iS 0)] [(0, .row 57 (Enc.cells p))] 1 (by kernel_rfl) ?_
  refine wk_id ?_
  refine block_np ?_
  refine loop_sx (S := Int) (fun a => ([(1, iS task), (2, .ptr 0 0), (6, iS a)], [(0, .row 57 (Enc.cells p))], 1)) h (leSt_m [(0, 0)] [] (by simp only [push_cast, leL_flD, renL_flD, seval]) (by simp only [push_cast, leL_flD, renL_flD, seval]) rfl rfl rfl) ?_
  rintro i15 o4 R4 h hr4 hn4 hx4 ht4
  try dsimp only at h hn4 ⊢
  unfold taskmillref_WaitsAt_l1 at h
  try dsimp only at h
  refine seq_np ?_
  refine seq_np ?_
  refine reg_f ?_
  refine rs 5 [] [] (by kernel_rfl) allP_nil ?_
  refine rf [(1, iS task), (2, .ptr 0 0), (6, iS i15), (26, bS (decide (i15 < ((p.Getters.length : Nat) : Int))))] [(0, .row 57 (Enc.cells p))] 1 (by kernel_rfl) ?_
  refine wk_id ?_
  refine cond_sx h (by kernel_rfl) (fun g3482 h => ?_) (fun g3482 h => ?_)
  ·refine wk_id ?_
   refine seq_np ?_
   refine block_np ?_
   refine chk_sx h (fun g3480 h => ?_)
   refine seq_np ?_
   refine reg_f ?_
   have k3479 : 0 ≤ i15 ∧ i15 < ((p.Getters.length : Nat) : Int) := by first | simpa only [Bool.and_eq_true, decide_eq_true_eq, bne_iff_ne, ne_eq] using g3480 | (simp at g3480 ⊢; omega)
   refine rs 8 [none, none, none, some ⟨.iptr (fl p.Getters) ((i15).toNat * 3), [], 1, []⟩, none, some ⟨iS (ix p.Getters i15).Task, [], 1, []⟩] _ (by kernel_rfl) (allP_cons (ob_ld p.Getters i15 3 0 (((i15).toNat * 3) + 0) k3479 rfl (by decide) (by first | rfl | omega) (dflS Try.prog 3) (iS (ix p.Getters i15).Task) rfl 1 []) (allP_cons (ob_ix_l p.Getters 3 1 i15 k3479) allP_nil)) ?_
   refine rf [(1, iS task), (2, .ptr 0 0), (6, iS i15), (36, bS ((ix p.Getters i15).Task == task))] [(0, .row 57 (Enc.cells p))] 1 (by kernel_rfl) ?_
   refine wk_id ?_
   refine cond_sx h (by kernel_rfl) (fun g3481 h => ?_) (fun g3481 h => ?_)
   ·refine seq_np ?_
    refine reg_f ?_
    refine rs 1 [] [] (by kernel_rfl) allP_nil ?_
    refine rf [(4, bS true)] [(0, .row 57 (Enc.cells p))] 1 (by kernel_rfl) ?_
    refine wk_id ?_
    refine rt_cast ht4 ?_
    obtain ⟨r0, h, e0⟩ := map_sx h
    have e1 := hr4 r0 e0.symm
    subst r0
    obtain rfl := Option.some.inj h
    refine ret_at (bS true) (by kernel_rfl) ?_
    exact ret_e [] [] (by simp only [push_cast, leL_flD, renL_flD, seval]) (by simp only [push_cast, leL_flD, renL_flD, seval]) rfl rfl rfl
   ·refine wk_id ?_
    refine wk_id ?_
    refine reg_f ?_
    refine rs 3 [] [] (by kernel_rfl) allP_nil ?_
    refine rf [(1, iS task), (2, .ptr 0 0), (6, iS (IntKind.i64.wrap (i15 + 1)))] [(0, .row 57 (Enc.cells p))] 1 (by kernel_rfl) ?_
    exact hn4 ((IntKind.i64.wrap (i15 + 1))) _ _ _ (Option.some.inj h).symm (leSt_m [(0, 0)] [] (by simp only [push_cast, leL_flD, renL_flD, seval]) (by simp only [push_cast, leL_flD, renL_flD, seval]) rfl rfl rfl)
  ·change R4 (.exit 2) _ _ _
   refine ex_cast hx4 (id := 2) ?_
   obtain ⟨r0, h, e0⟩ := map_sx h
   have e1 := hr4 r0 e0.symm
   subst r0
   refine wk_id ?_
   refine wk_id ?_
   refine seq_np ?_
   refine reg_f ?_
   refine rs 1 [] [] (by kernel_rfl) allP_nil ?_
   refine rf [(4, bS false)] [(0, .row 57 (Enc.cells p))] 1 (by kernel_rfl) ?_
   refine wk_id ?_
   obtain rfl := Option.some.inj h
   refine ret_at (bS false) (by kernel_rfl) ?_
   exact ret_e [] [] (by simp only [push_cast, leL_flD, renL_flD, seval]) (by simp only [push_cast, leL_flD, renL_flD, seval]) rfl rfl rfl

set_option maxRecDepth 100000 in
set_option maxHeartbeats 200000000 in
theorem taskmillref_WaitsIn_spec (l : (List Pipe)) (task : Int) (r : Bool) (h : taskmillref_WaitsIn l task = some r) : SpecW Try.prog 27 [.sl l.length (fl l), iS task] [] 0 (fun x h n => x = bS r ∧ h = [] ∧ n = 0) := by
 unfold taskmillref_WaitsIn at h
 refine spec_of (draw_ok _) Try.func27 rfl (by decide) rfl (by kernel_rfl) ?_
 refine seq_np ?_
 refine reg_f ?_
 refine rs 1 [] [] (by kernel_rfl) allP_nil ?_
 refine rf [(0, .sl l.length (fl l)), (1, iS task)] [] 0 (by kernel_rfl) ?_
 refine wk_id ?_
 refine seq_np ?_
 refine seq_np ?_
 refine reg_f ?_
 refine rs 1 [] [] (by kernel_rfl) allP_nil ?_
 refine rf [(0, .sl l.length (fl l)), (1, iS task), (5, iS 0)] [] 0 (by kernel_rfl) ?_
 refine wk_id ?_
 refine block_np ?_
 refine loop_sx (S := Int) (fun a => ([(0, .sl l.length (fl l)), (1, iS task), (5, iS a)], [], 0)) h (leSt_m [] [] (by simp only [push_cast, leL_flD, renL_flD, seval]) (by simp only [push_cast, leL_flD, renL_flD, seval]) rfl rfl rfl) ?_
 rintro i7 o2 R2 h hr2 hn2 hx2 ht2
 try dsimp only at h hn2 ⊢
 unfold taskmillref_WaitsIn_l1 at h
 try dsimp only at h
 refine seq_np ?_
 refine seq_np ?_
 refine reg_f ?_
 refine rs 4 [] [] (by kernel_rfl) allP_nil ?_
 refine rf [(0, .sl l.length (fl l)), (1, iS task), (5, iS i7), (9, bS (decide (i7 < ((l.length : Nat) : Int))))] [] 0 (by kernel_rfl) ?_
 refine wk_id ?_
 refine cond_sx h (by kernel_rfl) (fun g3556 h => ?_) (fun g3556 h => ?_)
 ·refine wk_id ?_
  refine seq_np ?_
  refine block_np ?_
  refine chk_sx h (fun g3553 h => ?_)
  refine seq_np ?_
  refine reg_f ?_
  have k3552 : 0 ≤ i7 ∧ i7 < ((l.length : Nat) : Int) := by first | simpa only [Bool.and_eq_true, decide_eq_true_eq, bne_iff_ne, ne_eq] using g3553 | (simp at g3553 ⊢; omega)
  refine rs 5 [none, none, some ⟨.iptr (fl l) ((i7).toNat * 5), [], 0, []⟩, some ⟨.agg (Enc.cells (ix l i7)), [], 0, []⟩] _ (by kernel_rfl) (allP_cons (ob_ldw l i7 5 ((i7).toNat * 5) k3552 rfl (by first | rfl | omega) [iS (ix l i7).Cap, .sl (ix l i7).Items.length (fl (ix l i7).Items), bS (ix l i7).Closed, .sl (ix l i7).Senders.length (fl (ix l i7).Senders), .sl (ix l i7).Getters.length (fl (ix l i7).Getters)] rfl 0 []) (allP_cons (ob_ix_l l 5 0 i7 k3552) allP_nil)) ?_
  obtain ⟨r3554, hr3554, h⟩ := bind_sx h
  refine run_call 28 [.agg (Enc.cells (ix l i7)), iS task] (some 17) (by kernel_rfl) ?_
  refine call_0 (taskmillref_WaitsAt_spec (ix l i7) task r3554 hr3554) (by simp only [push_cast, leL_flD, renL_flD, seval]) (by simp only [push_cast, leL_flD, renL_flD, seval]) ?_
  refine back_f ?_
  refine rf [(0, .sl l.length (fl l)), (1, iS task), (5, iS i7), (17, bS r3554)] [] 0 (by kernel_rfl) ?_
  refine wk_id ?_
  refine cond_sx h (by kernel_rfl) (fun g3555 h => ?_) (fun g3555 h => ?_)
  ·refine seq_np ?_
   refine reg_f ?_
   refine rs 1 [] [] (by kernel_rfl) allP_nil ?_
   refine rf [(4, bS true)] [] 0 (by kernel_rfl) ?_
   refine wk_id ?_
   refine rt_cast ht2 ?_
   obtain ⟨r0, h, e0⟩ := map_sx h
   have e1 := hr2 r0 e0.symm
   subst r0
   obtain rfl := Option.some.inj h
   refine ret_at (bS true) (by kernel_rfl) ?_
   exact ret_e [] [] (by simp only [push_cast, leL_flD, renL_flD, seval]) (by simp only [push_cast, leL_flD, renL_flD, seval]) rfl rfl rfl
  ·refine wk_id ?_
   refine wk_id ?_
   refine reg_f ?_
   refine rs 3 [] [] (by kernel_rfl) allP_nil ?_
   refine rf [(0, .sl l.length (fl l)), (1, iS task), (5, iS (IntKind.i64.wrap (i7 + 1)))] [] 0 (by kernel_rfl) ?_
   exact hn2 ((IntKind.i64.wrap (i7 + 1))) _ _ _ (Option.some.inj h).symm (leSt_m [] [] (by simp only [push_cast, leL_flD, renL_flD, seval]) (by simp only [push_cast, leL_flD, renL_flD, seval]) rfl rfl rfl)
 ·change R2 (.exit 0) _ _ _
  refine ex_cast hx2 (id := 0) ?_
  obtain ⟨r0, h, e0⟩ := map_sx h
  have e1 := hr2 r0 e0.symm
  subst r0
  refine wk_id ?_
  refine wk_id ?_
  refine seq_np ?_
  refine reg_f ?_
  refine rs 1 [] [] (by kernel_rfl) allP_nil ?_
  refine rf [(4, bS false)] [] 0 (by kernel_rfl) ?_
  refine wk_id ?_
  obtain rfl := Option.some.inj h
  refine ret_at (bS false) (by kernel_rfl) ?_
  exact ret_e [] [] (by simp only [push_cast, leL_flD, renL_flD, seval]) (by simp only [push_cast, leL_flD, renL_flD, seval]) rfl rfl rfl

set_option maxRecDepth 100000 in
set_option maxHeartbeats 200000000 in
theorem taskmillref_Has_spec (l : (List Int)) (n : Int) (r : Bool) (h : taskmillref_Has l n = some r) : SpecW Try.prog 49 [.sl l.length (fl l), iS n] [] 0 (fun x h n => x = bS r ∧ h = [] ∧ n = 0) := by
 unfold taskmillref_Has at h
 refine spec_of (draw_ok _) Try.func49 rfl (by decide) rfl (by kernel_rfl) ?_
 refine seq_np ?_
 refine reg_f ?_
 refine rs 1 [] [] (by kernel_rfl) allP_nil ?_
 refine rf [(0, .sl l.length (fl l)), (1, iS n)] [] 0 (by kernel_rfl) ?_
 refine wk_id ?_
 refine seq_np ?_
 refine seq_np ?_
 refine reg_f ?_
 refine rs 1 [] [] (by kernel_rfl) allP_nil ?_
 refine rf [(0, .sl l.length (fl l)), (1, iS n), (5, iS 0)] [] 0 (by kernel_rfl) ?_
 refine wk_id ?_
 refine block_np ?_
 refine loop_sx (S := Int) (fun a => ([(0, .sl l.length (fl l)), (1, iS n), (5, iS a)], [], 0)) h (leSt_m [] [] (by simp only [push_cast, leL_flD, renL_flD, seval]) (by simp only [push_cast, leL_flD, renL_flD, seval]) rfl rfl rfl) ?_
 rintro i7 o2 R2 h hr2 hn2 hx2 ht2
 try dsimp only at h hn2 ⊢
 unfold taskmillref_Has_l1 at h
 try dsimp only at h
 refine seq_np ?_
 refine seq_np ?_
 refine reg_f ?_
 refine rs 4 [] [] (by kernel_rfl) allP_nil ?_
 refine rf [(0, .sl l.length (fl l)), (1, iS n), (5, iS i7), (9, bS (decide (i7 < ((l.length : Nat) : Int))))] [] 0 (by kernel_rfl) ?_
 refine wk_id ?_
 refine cond_sx h (by kernel_rfl) (fun g3729 h => ?_) (fun g3729 h => ?_)
 ·refine wk_id ?_
  refine seq_np ?_
  refine block_np ?_
  refine chk_sx h (fun g3727 h => ?_)
  refine seq_np ?_
  refine reg_f ?_
  have k3726 : 0 ≤ i7 ∧ i7 < ((l.length : Nat) : Int) := by first | simpa only [Bool.and_eq_true, decide_eq_true_eq, bne_iff_ne, ne_eq] using g3727 | (simp at g3727 ⊢; omega)
  refine rs 6 [none, none, some ⟨.iptr (fl l) ((i7).toNat * 1), [], 0, []⟩, some ⟨iS (ix l i7), [], 0, []⟩] _ (by kernel_rfl) (allP_cons (ob_ld l i7 1 0 ((i7).toNat * 1) k3726 rfl (by decide) (by first | rfl | omega) (dflS Try.prog 3) (iS (ix l i7)) rfl 0 []) (allP_cons (ob_ix_l l 1 0 i7 k3726) allP_nil)) ?_
  refine rf [(0, .sl l.length (fl l)), (1, iS n), (5, iS i7), (17, bS ((ix l i7) == n))] [] 0 (by kernel_rfl) ?_
  refine wk_id ?_
  refine cond_sx h (by kernel_rfl) (fun g3728 h => ?_) (fun g3728 h => ?_)
  ·refine seq_np ?_
   refine reg_f ?_
   refine rs 1 [] [] (by kernel_rfl) allP_nil ?_
   refine rf [(4, bS true)] [] 0 (by kernel_rfl) ?_
   refine wk_id ?_
   refine rt_cast ht2 ?_
   obtain ⟨r0, h, e0⟩ := map_sx h
   have e1 := hr2 r0 e0.symm
   subst r0
   obtain rfl := Option.some.inj h
   refine ret_at (bS true) (by kernel_rfl) ?_
   exact ret_e [] [] (by simp only [push_cast, leL_flD, renL_flD, seval]) (by simp only [push_cast, leL_flD, renL_flD, seval]) rfl rfl rfl
  ·refine wk_id ?_
   refine wk_id ?_
   refine reg_f ?_
   refine rs 3 [] [] (by kernel_rfl) allP_nil ?_
   refine rf [(0, .sl l.length (fl l)), (1, iS n), (5, iS (IntKind.i64.wrap (i7 + 1)))] [] 0 (by kernel_rfl) ?_
   exact hn2 ((IntKind.i64.wrap (i7 + 1))) _ _ _ (Option.some.inj h).symm (leSt_m [] [] (by simp only [push_cast, leL_flD, renL_flD, seval]) (by simp only [push_cast, leL_flD, renL_flD, seval]) rfl rfl rfl)
 ·change R2 (.exit 0) _ _ _
  refine ex_cast hx2 (id := 0) ?_
  obtain ⟨r0, h, e0⟩ := map_sx h
  have e1 := hr2 r0 e0.symm
  subst r0
  refine wk_id ?_
  refine wk_id ?_
  refine seq_np ?_
  refine reg_f ?_
  refine rs 1 [] [] (by kernel_rfl) allP_nil ?_
  refine rf [(4, bS false)] [] 0 (by kernel_rfl) ?_
  refine wk_id ?_
  obtain rfl := Option.some.inj h
  refine ret_at (bS false) (by kernel_rfl) ?_
  exact ret_e [] [] (by simp only [push_cast, leL_flD, renL_flD, seval]) (by simp only [push_cast, leL_flD, renL_flD, seval]) rfl rfl rfl

set_option maxRecDepth 100000 in
set_option maxHeartbeats 200000000 in
theorem taskmillref_CasesFault_spec (l : (List Pipe)) (task : Int) (cases : (List GCase)) (order : (List Int)) (r : Fault) (h : taskmillref_CasesFault l task cases order = some r) : SpecW Try.prog 19 [.sl l.length (fl l), iS task, .sl cases.length (fl cases), .sl order.length (fl order)] [] 0 (fun x h n => x = .agg (Enc.cells r) ∧ h = [] ∧ n = 0) := by
 unfold taskmillref_CasesFault at h
 refine spec_of (draw_ok _) Try.func19 rfl (by decide) rfl (by kernel_rfl) ?_
 refine seq_np ?_
 refine reg_f ?_
 refine rs 1 [] [] (by kernel_rfl) allP_nil ?_
 refine rf [(0, .sl l.length (fl l)), (1, iS task), (2, .sl cases.length (fl cases)), (3, .sl order.length (fl order)), (8, .ptr 0 0)] [(0, .row 29 [iS 0, iS 0])] 1 (by kernel_rfl) ?_
 refine wk_id ?_
 refine seq_np ?_
 refine reg_f ?_
 refine rs 1 [] [] (by kernel_rfl) allP_nil ?_
 obtain ⟨r3769, hr3769, h⟩ := bind_sx h
 refine run_call 16 [.sl l.length (fl l)] (some 15) (by kernel_rfl) ?_
 refine call_0 (taskmillref_HubFault_spec l r3769 hr3769) (by simp only [push_cast, leL_flD, renL_flD, seval]) (by simp only [push_cast, leL_flD, renL_flD, seval]) ?_
 refine back_f ?_
 refine rs 2 [] [] (by kernel_rfl) allP_nil ?_
 refine rf [(0, .sl l.length (fl l)), (1, iS task), (2, .sl cases.length (fl cases)), (3, .sl order.length (fl order)), (8, .ptr 0 0), (9, .ptr 1 0)] [(0, .row 29 [iS 0, iS 0]), (1, .row 29 (Enc.cells r3769))] 2 (by kernel_rfl) ?_
 refine wk_id ?_
 refine seq_np ?_
 refine seq_np ?_
 refine reg_f ?_
 refine rs 3 [] [] (by kernel_rfl) allP_nil ?_
 refine rf [(0, .sl l.length (fl l)), (1, iS task), (2, .sl cases.length (fl cases)), (3, .sl order.length (fl order)), (8, .ptr 0 0), (9, .ptr 1 0), (18, bS (r3769.Code != 0))] [(0, .row 29 [iS 0, iS 0]), (1, .row 29 (Enc.cells r3769))] 2 (by kernel_rfl) ?_
 refine wk_id ?_
 refine cond_sx h (by kernel_rfl) (fun g4416 h => ?_) (fun g4416 h => ?_)
 ·refine seq_np ?_
  refine reg_f ?_
  refine rs 2 [] [] (by kernel_rfl) allP_nil ?_
  refine rf [(8, .ptr 0 0)] [(0, .row 29 (Enc.cells r3769)), (1, .row 29 (Enc.cells r3769))] 2 (by kernel_rfl) ?_
  refine wk_id ?_
  obtain rfl := Option.some.inj h
  refine ret_at (.agg (Enc.cells r3769)) (by kernel_rfl) ?_
  exact ret_e [] [] (by simp only [push_cast, leL_flD, renL_flD, seval]) (by simp only [push_cast, leL_flD, renL_flD, seval]) rfl rfl rfl
 ·refine wk_id ?_
  refine seq_np ?_
  refine seq_np ?_
  refine reg_f ?_
  refine rs 2 [] [] (by kernel_rfl) allP_nil ?_
  refine rf [(0, .sl l.length (fl l)), (1, iS task), (2, .sl cases.length (fl cases)), (3, .sl order.length (fl order)), (8, .ptr 0 0), (21, bS (decide (task < 1)))] [(0, .row 29 [iS 0, iS 0]), (1, .row 29 (Enc.cells r3769))] 2 (by kernel_rfl) ?_
  refine wk_id ?_
  refine cond_sx h (by kernel_rfl) (fun g4415 h => ?_) (fun g4415 h => ?_)
  ·refine seq_np ?_
   refine reg_f ?_
   obtain ⟨r3774, hr3774, h⟩ := bind_sx h
   refine run_call 31 [iS 3, iS (-1)] (some 22) (by kernel_rfl) ?_
   refine call_0 (taskmillref_F_spec 3 (-1) r3774 hr3774) (by simp only [push_cast, leL_flD, renL_flD, seval]) (by simp only [push_cast, leL_flD, renL_flD, seval]) ?_
   refine back_f ?_
   refine rs 1 [] [] (by kernel_rfl) allP_nil ?_
   refine rf [(8, .ptr 0 0)] [(0, .row 29 (Enc.cells r3774)), (1, .row 29 (Enc.cells r3769))] 2 (by kernel_rfl) ?_
   refine wk_id ?_
   obtain rfl := Option.some.inj h
   refine ret_at (.agg (Enc.cells r3774)) (by kernel_rfl) ?_
   exact ret_e [] [] (by simp only [push_cast, leL_flD, renL_flD, seval]) (by simp only [push_cast, leL_flD, renL_flD, seval]) rfl rfl rfl
  ·refine wk_id ?_
   refine seq_np ?_
   refine seq_np ?_
   refine reg_f ?_
   refine rs 2 [] [] (by kernel_rfl) allP_nil ?_
   obtain ⟨r3779, hr3779, h⟩ := bind_sx h
   refine run_call 27 [.sl l.length (fl l), iS task] (some 25) (by kernel_rfl) ?_
   refine call_0 (taskmillref_WaitsIn_spec l task r3779 hr3779) (by simp only [push_cast, leL_flD, renL_flD, seval]) (by simp only [push_cast, leL_flD, renL_flD, seval]) ?_
   refine back_f ?_
   refine rf [(0, .sl l.length (fl l)), (2, .sl cases.length (fl cases)), (3, .sl order.length (fl order)), (8, .ptr 0 0), (25, bS r3779)] [(0, .row 29 [iS 0, iS 0]), (1, .row 29 (Enc.cells r3769))] 2 (by kernel_rfl) ?_
   refine wk_id ?_
   refine cond_sx h (by kernel_rfl) (fun g4414 h => ?_) (fun g4414 h => ?_)
   ·refine seq_np ?_
    refine reg_f ?_
    obtain ⟨r3781, hr3781, h⟩ := bind_sx h
    refine run_call 31 [iS 10, iS (-1)] (some 26) (by kernel_rfl) ?_
    refine call_0 (taskmillref_F_spec 10 (-1) r3781 hr3781) (by simp only [push_cast, leL_flD, renL_flD, seval]) (by simp only [push_cast, leL_flD, renL_flD, seval]) ?_
    refine back_f ?_
    refine rs 1 [] [] (by kernel_rfl) allP_nil ?_
    refine rf [(8, .ptr 0 0)] [(0, .row 29 (Enc.cells r3781)), (1, .row 29 (Enc.cells r3769))] 2 (by kernel_rfl) ?_
    refine wk_id ?_
    obtain rfl := Option.some.inj h
    refine ret_at (.agg (Enc.cells r3781)) (by kernel_rfl) ?_
    exact ret_e [] [] (by simp only [push_cast, leL_flD, renL_flD, seval]) (by simp only [push_cast, leL_flD, renL_flD, seval]) rfl rfl rfl
   ·refine wk_id ?_
    refine seq_np ?_
    refine seq_np ?_
    refine reg_f ?_
    refine rs 3 [] [] (by kernel_rfl) allP_nil ?_
    refine rf [(0, .sl l.length (fl l)), (2, .sl cases.length (fl cases)), (3, .sl order.length (fl order)), (8, .ptr 0 0), (29, bS (decide ((20 : Int) < ((cases.length : Nat) : Int))))] [(0, .row 29 [iS 0, iS 0]), (1, .row 29 (Enc.cells r3769))] 2 (by kernel_rfl) ?_
    refine wk_id ?_
    refine cond_sx h (by kernel_rfl) (fun g4413 h => ?_) (fun g4413 h => ?_)
    ·refine seq_np ?_
     refine reg_f ?_
     obtain ⟨r3785, hr3785, h⟩ := bind_sx h
     refine run_call 31 [iS 2, iS (-1)] (some 30) (by kernel_rfl) ?_
     refine call_0 (taskmillref_F_spec 2 (-1) r3785 hr3785) (by simp only [push_cast, leL_flD, renL_flD, seval]) (by simp only [push_cast, leL_flD, renL_flD, seval]) ?_
     refine back_f ?_
     refine rs 1 [] [] (by kernel_rfl) allP_nil ?_
     refine rf [(8, .ptr 0 0)] [(0, .row 29 (Enc.cells r3785)), (1, .row 29 (Enc.cells r3769))] 2 (by kernel_rfl) ?_
     refine wk_id ?_
     obtain rfl := Option.some.inj h
     refine ret_at (.agg (Enc.cells r3785)) (by kernel_rfl) ?_
     exact ret_e [] [] (by simp only [push_cast, leL_flD, renL_flD, seval]) (by simp only [push_cast, leL_flD, renL_flD, seval]) rfl rfl rfl
    ·refine wk_id ?_
     refine seq_np ?_
     refine seq_np ?_
     refine reg_f ?_
     refine rs 1 [] [] (by kernel_rfl) allP_nil ?_
     refine rf [(0, .sl l.length (fl l)), (2, .sl cases.length (fl cases)), (3, .sl order.length (fl order)), (8, .ptr 0 0), (10, iS 0)] [(0, .row 29 [iS 0, iS 0]), (1, .row 29 (Enc.cells r3769))] 2 (by kernel_rfl) ?_
     refine wk_id ?_
     refine block_np ?_
     refine loop_sx (S := Int) (fun a => ([(0, .sl l.length (fl l)), (2, .sl cases.length (fl cases)), (3, .sl order.length (fl order)), (8, .ptr 0 0), (10, iS a)], [(0, .row 29 [iS 0, iS 0])], 1)) h (leSt_m [(0, 0)] [] (by simp only [push_cast, leL_flD, renL_flD, seval]) (by simp only [push_cast, leL_flD, renL_flD, seval]) rfl rfl rfl) ?_
     rintro i9 o4 R4 h hr4 hn4 hx4 ht4
     try dsimp only at h hn4 ⊢
     unfold taskmillref_CasesFault_l3 at h
     try dsimp only at h
     refine seq_np ?_
     refine seq_np ?_
     refine reg_f ?_
     refine rs 4 [] [] (by kernel_rfl) allP_nil ?_
     refine rf [(0, .sl l.length (fl l)), (2, .sl cases.length (fl cases)), (3, .sl order.length (fl order)), (8, .ptr 0 0), (10, iS i9), (34, bS (decide (i9 < ((cases.length : Nat) : Int))))] [(0, .row 29 [iS 0, iS 0])] 1 (by kernel_rfl) ?_
     refine wk_id ?_
     refine cond_sx h (by kernel_rfl) (fun g4412 h => ?_) (fun g4412 h => ?_)
     ·refine wk_id ?_
      refine seq_np ?_
      refine block_np ?_
      refine chk_sx h (fun g4107 h => ?_)
      refine seq_np ?_
      refine reg_f ?_
      have k4106 : 0 ≤ i9 ∧ i9 < ((cases.length : Nat) : Int) := by first | simpa only [Bool.and_eq_true, decide_eq_true_eq, bne_iff_ne, ne_eq] using g4107 | (simp at g4107 ⊢; omega)
      refine rs 6 [none, none, some ⟨.iptr (fl cases) ((i9).toNat * 3), [], 1, []⟩, some ⟨.agg (Enc.cells (ix cases i9)), [], 1, []⟩] _ (by kernel_rfl) (allP_cons (ob_ldw cases i9 3 ((i9).toNat * 3) k4106 rfl (by first | rfl | omega) [iS (ix cases i9).Pipe, bS (ix cases i9).Send, iS (ix cases i9).Value] rfl 1 []) (allP_cons (ob_ix_l cases 3 1 i9 k4106) allP_nil)) ?_
      refine rf [(0, .sl l.length (fl l)), (2, .sl cases.length (fl cases)), (3, .sl order.length (fl order)), (8, .ptr 0 0), (10, iS i9), (11, .ptr 1 0)] [(0, .row 29 [iS 0, iS 0]), (1, .row 49 (Enc.cells (ix cases i9)))] 2 (by kernel_rfl) ?_
      refine wk_id ?_
      refine seq_np ?_
      refine seq_cut (A := Unit) (fun _ => ([(0, .sl l.length (fl l)), (2, .sl cases.length (fl cases)), (3, .sl order.length (fl order)), (8, .ptr 0 0), (10, iS i9), (11, .ptr 1 0), (50, bS ((decide ((ix cases i9).Pipe < (-1))) || (decide (((l.length : Nat) : Int) ≤ (ix cases i9).Pipe))))], [(0, .row 29 [iS 0, iS 0]), (1, .row 49 (Enc.cells (ix cases i9)))], 2)) (fun _ => True) (fun K4112 hK4112 => ?_) (fun _ _ => ?_)
      ·refine reg_f ?_
       refine rs 4 [] [] (by kernel_rfl) allP_nil ?_
       refine run_split 44 (decide ((ix cases i9).Pipe < (-1))) (.inl (by kernel_rfl)) (fun g4113 => ?_) (fun g4113 => ?_)
       ·refine rs 6 [] [] (by kernel_rfl) allP_nil ?_
        refine rf [(0, .sl l.length (fl l)), (2, .sl cases.length (fl cases)), (3, .sl order.length (fl order)), (8, .ptr 0 0), (10, iS i9), (11, .ptr 1 0), (50, bS true)] [(0, .row 29 [iS 0, iS 0]), (1, .row 49 (Enc.cells (ix cases i9)))] 2 (by kernel_rfl) ?_
        exact hK4112 () _ _ _ trivial (leSt_m [(0, 0), (1, 1)] [] (by (try simp only [g4113]) <;> simp only [push_cast, leL_flD, renL_flD, seval]) (by (try simp only [g4113]) <;> simp only [push_cast, leL_flD, renL_flD, seval]) rfl rfl rfl)
       ·refine rs 6 [] [] (by kernel_rfl) allP_nil ?_
        refine rf [(0, .sl l.length (fl l)), (2, .sl cases.length (fl cases)), (3, .sl order.length (fl order)), (8, .ptr 0 0), (10, iS i9), (11, .ptr 1 0), (50, bS (decide (((l.length : Nat) : Int) ≤ (ix cases i9).Pipe)))] [(0, .row 29 [iS 0, iS 0]), (1, .row 49 (Enc.cells (ix cases i9)))] 2 (by kernel_rfl) ?_
        exact hK4112 () _ _ _ trivial (leSt_m [(0, 0), (1, 1)] [] (by (try simp only [g4113]) <;> simp only [push_cast, leL_flD, renL_flD, seval]) (by (try simp only [g4113]) <;> simp only [push_cast, leL_flD, renL_flD, seval]) rfl rfl rfl)
      ·dsimp only
       refine cond_sx h (by kernel_rfl) (fun g4216 h => ?_) (fun g4216 h => ?_)
       ·refine seq_np ?_
        refine reg_f ?_
        refine rs 1 [] [] (by kernel_rfl) allP_nil ?_
        obtain ⟨r4115, hr4115, h⟩ := bind_sx h
        refine run_call 31 [iS 3, iS i9] (some 52) (by kernel_rfl) ?_
        refine call_0 (taskmillref_F_spec 3 i9 r4115 hr4115) (by simp only [push_cast, leL_flD, renL_flD, seval]) (by simp only [push_cast, leL_flD, renL_flD, seval]) ?_
        refine back_f ?_
        refine rs 1 [] [] (by kernel_rfl) allP_nil ?_
        refine rf [(8, .ptr 0 0)] [(0, .row 29 (Enc.cells r4115)), (1, .row 49 (Enc.cells (ix cases i9)))] 2 (by kernel_rfl) ?_
        refine wk_id ?_
        refine rt_cast ht4 ?_
        obtain ⟨r0, h, e0⟩ := map_sx h
        have e1 := hr4 r0 e0.symm
        subst r0
        obtain rfl := Option.some.inj h
        refine ret_at (.agg (Enc.cells r4115)) (by kernel_rfl) ?_
        exact ret_e [] [] (by simp only [push_cast, leL_flD, renL_flD, seval]) (by simp only [push_cast, leL_flD, renL_flD, seval]) rfl rfl rfl
       ·refine wk_id ?_
        refine seq_np ?_
        refine seq_np ?_
        refine reg_f ?_
        refine rs 1 [] [] (by kernel_rfl) allP_nil ?_
        refine rf [(0, .sl l.length (fl l)), (2, .sl cases.length (fl cases)), (3, .sl order.length (fl order)), (8, .ptr 0 0), (10, iS i9), (11, .ptr 1 0), (12, iS 0)] [(0, .row 29 [iS 0, iS 0]), (1, .row 49 (Enc.cells (ix cases i9)))] 2 (by kernel_rfl) ?_
        refine wk_id ?_
        refine block_np ?_
        refine loop_sx (S := Int) (fun a => ([(0, .sl l.length (fl l)), (2, .sl cases.length (fl cases)), (3, .sl order.length (fl order)), (8, .ptr 0 0), (10, iS i9), (11, .ptr 1 0), (12, iS a)], [(0, .row 29 [iS 0, iS 0]), (1, .row 49 (Enc.cells (ix cases i9)))], 2)) h (leSt_m [(0, 0), (1, 1)] [] (by simp only [push_cast, leL_flD, renL_flD, seval]) (by simp only [push_cast, leL_flD, renL_flD, seval]) rfl rfl rfl) ?_
        rintro k23 o5 R5 h hr5 hn5 hx5 ht5
        try dsimp only at h hn5 ⊢
        unfold taskmillref_CasesFault_l1 at h
        try dsimp only at h
        refine seq_np ?_
        refine seq_np ?_
        refine reg_f ?_
        refine rs 3 [] [] (by kernel_rfl) allP_nil ?_
        refine rf [(0, .sl l.length (fl l)), (2, .sl cases.length (fl cases)), (3, .sl order.length (fl order)), (8, .ptr 0 0), (10, iS i9), (11, .ptr 1 0), (12, iS k23), (55, bS (decide (k23 < i9)))] [(0, .row 29 [iS 0, iS 0]), (1, .row 49 (Enc.cells (ix cases i9)))] 2 (by kernel_rfl) ?_
        refine wk_id ?_
        refine cond_sx h (by kernel_rfl) (fun g4215 h => ?_) (fun g4215 h => ?_)
        ·refine wk_id ?_
         refine seq_np ?_
         refine block_np ?_
         refine chk_sx h (fun g4184 h => ?_)
         refine seq_cut (A := Unit) (fun _ => ([(0, .sl l.length (fl l)), (2, .sl cases.length (fl cases)), (3, .sl order.length (fl order)), (8, .ptr 0 0), (10, iS i9), (11, .ptr 1 0), (12, iS k23), (70, bS ((decide ((0 : Int) ≤ (ix cases i9).Pipe)) && ((ix cases k23).Pipe == (ix cases i9).Pipe)))], [(0, .row 29 [iS 0, iS 0]), (1, .row 49 (Enc.cells (ix cases i9)))], 15)) (fun _ => True) (fun K4181 hK4181 => ?_) (fun _ _ => ?_)
         ·refine reg_t ?_
          refine rs 4 [] [] (by kernel_rfl) allP_nil ?_
          refine run_split 61 (decide ((0 : Int) ≤ (ix cases i9).Pipe)) (.inl (by kernel_rfl)) (fun g4182 => ?_) (fun g4182 => ?_)
          ·have k4183 : 0 ≤ k23 ∧ k23 < ((cases.length : Nat) : Int) := by have e := or_use g4184 (by first | ((try simp only [g4182]) <;> rfl) | ((try simp only [g4182]); rfl) | (exfalso; clear h; simp_all; done)); first | simpa only [Bool.and_eq_true, decide_eq_true_eq, bne_iff_ne, ne_eq] using e | (simp at e ⊢; omega)
           refine rs 9 [none, none, some ⟨.iptr (fl cases) ((k23).toNat * 3), [], 8, []⟩, none, some ⟨iS (ix cases k23).Pipe, [], 10, []⟩] _ (by kernel_rfl) (allP_cons (ob_ld cases k23 3 0 (((k23).toNat * 3) + 0) k4183 rfl (by decide) (by first | rfl | omega) (dflS Try.prog 3) (iS (ix cases k23).Pipe) rfl 10 []) (allP_cons (ob_ix_l cases 3 8 k23 k4183) allP_nil)) ?_
           refine rt [(0, .sl l.length (fl l)), (2, .sl cases.length (fl cases)), (3, .sl order.length (fl order)), (8, .ptr 0 0), (10, iS i9), (11, .ptr 1 0), (12, iS k23), (70, bS ((ix cases k23).Pipe == (ix cases i9).Pipe))] [(0, .row 29 [iS 0, iS 0]), (1, .row 49 (Enc.cells (ix cases i9)))] 15 follows (by kernel_rfl) ?_
           exact hK4181 () _ _ _ trivial (leSt_m [(0, 0), (1, 1)] [] (by (try simp only [g4182]) <;> simp only [push_cast, leL_flD, renL_flD, seval]) (by (try simp only [g4182]) <;> simp only [push_cast, leL_flD, renL_flD, seval]) rfl rfl rfl)
          ·refine rs 9 [] [] (by kernel_rfl) allP_nil ?_
           refine rt [(0, .sl l.length (fl l)), (2, .sl cases.length (fl cases)), (3, .sl order.length (fl order)), (8, .ptr 0 0), (10, iS i9), (11, .ptr 1 0), (12, iS k23), (70, bS false)] [(0, .row 29 [iS 0, iS 0]), (1, .row 49 (Enc.cells (ix cases i9)))] 15 follows (by kernel_rfl) ?_
           exact hK4181 () _ _ _ trivial (leSt_m [(0, 0), (1, 1)] [] (by (try simp only [g4182]) <;> simp only [push_cast, leL_flD, renL_flD, seval]) (by (try simp only [g4182]) <;> simp only [push_cast, leL_flD, renL_flD, seval]) rfl rfl rfl)
         ·dsimp only
          refine cond_sx h (by kernel_rfl) (fun g4187 h => ?_) (fun g4187 h => ?_)
          ·refine seq_np ?_
           refine reg_f ?_
           refine rs 1 [] [] (by kernel_rfl) allP_nil ?_
           obtain ⟨r4186, hr4186, h⟩ := bind_sx h
           refine run_call 31 [iS 10, iS i9] (some 72) (by kernel_rfl) ?_
           refine call_0 (taskmillref_F_spec 10 i9 r4186 hr4186) (by simp only [push_cast, leL_flD, renL_flD, seval]) (by simp only [push_cast, leL_flD, renL_flD, seval]) ?_
           refine back_f ?_
           refine rs 1 [] [] (by kernel_rfl) allP_nil ?_
           refine rf [(8, .ptr 0 0)] [(0, .row 29 (Enc.cells r4186)), (1, .row 49 (Enc.cells (ix cases i9)))] 15 (by kernel_rfl) ?_
           refine wk_id ?_
           refine rt_cast ht5 ?_
           obtain ⟨r0, h, e0⟩ := map_sx h
           have e1 := hr5 r0 e0.symm
           subst r0
           refine rt_cast ht4 ?_
           obtain ⟨r0, h, e0⟩ := map_sx h
           have e1 := hr4 r0 e0.symm
           subst r0
           obtain rfl := Option.some.inj h
           refine ret_at (.agg (Enc.cells r4186)) (by kernel_rfl) ?_
           exact ret_e [] [] (by simp only [push_cast, leL_flD, renL_flD, seval]) (by simp only [push_cast, leL_flD, renL_flD, seval]) rfl rfl rfl
          ·refine wk_id ?_
           refine wk_id ?_
           refine reg_f ?_
           refine rs 3 [] [] (by kernel_rfl) allP_nil ?_
           refine rf [(0, .sl l.length (fl l)), (2, .sl cases.length (fl cases)), (3, .sl order.length (fl order)), (8, .ptr 0 0), (10, iS i9), (11, .ptr 1 0), (12, iS (IntKind.i64.wrap (k23 + 1)))] [(0, .row 29 [iS 0, iS 0]), (1, .row 49 (Enc.cells (ix cases i9)))] 15 (by kernel_rfl) ?_
           exact hn5 ((IntKind.i64.wrap (k23 + 1))) _ _ _ (Option.some.inj h).symm (leSt_m [(0, 0), (1, 1)] [] (by simp only [push_cast, leL_flD, renL_flD, seval]) (by simp only [push_cast, leL_flD, renL_flD, seval]) rfl rfl rfl)
        ·change R5 (.exit 2) _ _ _
         refine ex_cast hx5 (id := 2) ?_
         obtain ⟨r0, h, e0⟩ := map_sx h
         have e1 := hr5 r0 e0.symm
         subst r0
         refine wk_id ?_
         refine wk_id ?_
         refine seq_np ?_
         refine seq_cut (A := Unit) (fun _ => ([(0, .sl l.length (fl l)), (2, .sl cases.length (fl cases)), (3, .sl order.length (fl order)), (8, .ptr 0 0), (10, iS i9), (11, .ptr 1 0), (80, bS ((!(ix cases i9).Send) && ((ix cases i9).Value != 0)))], [(0, .row 29 [iS 0, iS 0]), (1, .row 49 (Enc.cells (ix cases i9)))], 2)) (fun _ => True) (fun K4192 hK4192 => ?_) (fun _ _ => ?_)
         ·refine reg_f ?_
          refine rs 4 [] [] (by kernel_rfl) allP_nil ?_
          refine run_split 76 (!(ix cases i9).Send) (.inl (by kernel_rfl)) (fun g4193 => ?_) (fun g4193 => ?_)
          ·refine rs 4 [] [] (by kernel_rfl) allP_nil ?_
           refine rf [(0, .sl l.length (fl l)), (2, .sl cases.length (fl cases)), (3, .sl order.length (fl order)), (8, .ptr 0 0), (10, iS i9), (11, .ptr 1 0), (80, bS ((ix cases i9).Value != 0))] [(0, .row 29 [iS 0, iS 0]), (1, .row 49 (Enc.cells (ix cases i9)))] 2 (by kernel_rfl) ?_
           exact hK4192 () _ _ _ trivial (leSt_m [(0, 0), (1, 1)] [] (by (try simp only [g4193]) <;> simp only [push_cast, leL_flD, renL_flD, seval]) (by (try simp only [g4193]) <;> simp only [push_cast, leL_flD, renL_flD, seval]) rfl rfl rfl)
          ·refine rs 4 [] [] (by kernel_rfl) allP_nil ?_
           refine rf [(0, .sl l.length (fl l)), (2, .sl cases.length (fl cases)), (3, .sl order.length (fl order)), (8, .ptr 0 0), (10, iS i9), (11, .ptr 1 0), (80, bS false)] [(0, .row 29 [iS 0, iS 0]), (1, .row 49 (Enc.cells (ix cases i9)))] 2 (by kernel_rfl) ?_
           exact hK4192 () _ _ _ trivial (leSt_m [(0, 0), (1, 1)] [] (by (try simp only [g4193]) <;> simp only [push_cast, leL_flD, renL_flD, seval]) (by (try simp only [g4193]) <;> simp only [push_cast, leL_flD, renL_flD, seval]) rfl rfl rfl)
         ·dsimp only
          refine cond_sx h (by kernel_rfl) (fun g4214 h => ?_) (fun g4214 h => ?_)
          ·refine seq_np ?_
           refine reg_f ?_
           refine rs 1 [] [] (by kernel_rfl) allP_nil ?_
           obtain ⟨r4195, hr4195, h⟩ := bind_sx h
           refine run_call 31 [iS 5, iS i9] (some 82) (by kernel_rfl) ?_
           refine call_0 (taskmillref_F_spec 5 i9 r4195 hr4195) (by simp only [push_cast, leL_flD, renL_flD, seval]) (by simp only [push_cast, leL_flD, renL_flD, seval]) ?_
           refine back_f ?_
           refine rs 1 [] [] (by kernel_rfl) allP_nil ?_
           refine rf [(8, .ptr 0 0)] [(0, .row 29 (Enc.cells r4195)), (1, .row 49 (Enc.cells (ix cases i9)))] 2 (by kernel_rfl) ?_
           refine wk_id ?_
           refine rt_cast ht4 ?_
           obtain ⟨r0, h, e0⟩ := map_sx h
           have e1 := hr4 r0 e0.symm
           subst r0
           obtain rfl := Option.some.inj h
           refine ret_at (.agg (Enc.cells r4195)) (by kernel_rfl) ?_
           exact ret_e [] [] (by simp only [push_cast, leL_flD, renL_flD, seval]) (by simp only [push_cast, leL_flD, renL_flD, seval]) rfl rfl rfl
          ·refine wk_id ?_
           refine chk_sx h (fun g4206 h => ?_)
           refine chk_sx h (fun g4208 h => ?_)
           refine chk_sx h (fun g4210 h => ?_)
           refine seq_cut (A := Unit) (fun _ => ([(0, .sl l.length (fl l)), (2, .sl cases.length (fl cases)), (3, .sl order.length (fl order)), (8, .ptr 0 0), (10, iS i9), (111, bS ((decide ((0 : Int) ≤ (ix cases i9).Pipe)) && ((IntKind.i64.wrap ((IntKind.i64.wrap ((((ix l (ix cases i9).Pipe).Items.length : Nat) : Int) + (((ix l (ix cases i9).Pipe).Senders.length : Nat) : Int))) + (((ix l (ix cases i9).Pipe).Getters.length : Nat) : Int))) == 5000)))], [(0, .row 29 [iS 0, iS 0]), (1, .row 49 (Enc.cells (ix cases i9)))], 31)) (fun _ => True) (fun K4203 hK4203 => ?_) (fun _ _ => ?_)
           ·refine reg_t ?_
            refine rs 4 [] [] (by kernel_rfl) allP_nil ?_
            refine run_split 86 (decide ((0 : Int) ≤ (ix cases i9).Pipe)) (.inl (by kernel_rfl)) (fun g4204 => ?_) (fun g4204 => ?_)
            ·have k4205 : 0 ≤ (ix cases i9).Pipe ∧ (ix cases i9).Pipe < ((l.length : Nat) : Int) := by have e := or_use g4206 (by first | ((try simp only [g4204]) <;> rfl) | ((try simp only [g4204]); rfl) | (exfalso; clear h; simp_all; done)); first | simpa only [Bool.and_eq_true, decide_eq_true_eq, bne_iff_ne, ne_eq] using e | (simp at e ⊢; omega)
             have k4207 : 0 ≤ (ix cases i9).Pipe ∧ (ix cases i9).Pipe < ((l.length : Nat) : Int) := by have e := or_use g4208 (by first | ((try simp only [g4204]) <;> rfl) | ((try simp only [g4204]); rfl) | (exfalso; clear h; simp_all; done)); first | simpa only [Bool.and_eq_true, decide_eq_true_eq, bne_iff_ne, ne_eq] using e | (simp at e ⊢; omega)
             have k4209 : 0 ≤ (ix cases i9).Pipe ∧ (ix cases i9).Pipe < ((l.length : Nat) : Int) := by have e := or_use g4210 (by first | ((try simp only [g4204]) <;> rfl) | ((try simp only [g4204]); rfl) | (exfalso; clear h; simp_all; done)); first | simpa only [Bool.and_eq_true, decide_eq_true_eq, bne_iff_ne, ne_eq] using e | (simp at e ⊢; omega)
             refine rs 25 [none, none, none, some ⟨.iptr (fl l) (((ix cases i9).Pipe).toNat * 5), [], 9, []⟩, none, some ⟨.sl (ix l (ix cases i9).Pipe).Items.length (fl (ix l (ix cases i9).Pipe).Items), [], 11, []⟩, none, none, none, none, some ⟨.iptr (fl l) (((ix cases i9).Pipe).toNat * 5), [], 16, []⟩, none, some ⟨.sl (ix l (ix cases i9).Pipe).Senders.length (fl (ix l (ix cases i9).Pipe).Senders), [], 18, []⟩, none, none, none, none, none, some ⟨.iptr (fl l) (((ix cases i9).Pipe).toNat * 5), [], 24, []⟩, none, some ⟨.sl (ix l (ix cases i9).Pipe).Getters.length (fl (ix l (ix cases i9).Pipe).Getters), [], 26, []⟩] _ (by kernel_rfl) (allP_cons (ob_ld l (ix cases i9).Pipe 5 4 ((((ix cases i9).Pipe).toNat * 5) + 4) k4209 rfl (by decide) (by first | rfl | omega) (dflS Try.prog 55) (.sl (ix l (ix cases i9).Pipe).Getters.length (fl (ix l (ix cases i9).Pipe).Getters)) rfl 26 []) (allP_cons (ob_ix_l l 5 24 (ix cases i9).Pipe k4209) (allP_cons (ob_ld l (ix cases i9).Pipe 5 3 ((((ix cases i9).Pipe).toNat * 5) + 3) k4207 rfl (by decide) (by first | rfl | omega) (dflS Try.prog 55) (.sl (ix l (ix cases i9).Pipe).Senders.length (fl (ix l (ix cases i9).Pipe).Senders)) rfl 18 []) (allP_cons (ob_ix_l l 5 16 (ix cases i9).Pipe k4207) (allP_cons (ob_ld l (ix cases i9).Pipe 5 1 ((((ix cases i9).Pipe).toNat * 5) + 1) k4205 rfl (by decide) (by first | rfl | omega) (dflS Try.prog 24) (.sl (ix l (ix cases i9).Pipe).Items.length (fl (ix l (ix cases i9).Pipe).Items)) rfl 11 []) (allP_cons (ob_ix_l l 5 9 (ix cases i9).Pipe k4205) allP_nil)))))) ?_
             refine rt [(0, .sl l.length (fl l)), (2, .sl cases.length (fl cases)), (3, .sl order.length (fl order)), (8, .ptr 0 0), (10, iS i9), (111, bS ((IntKind.i64.wrap ((IntKind.i64.wrap ((((ix l (ix cases i9).Pipe).Items.length : Nat) : Int) + (((ix l (ix cases i9).Pipe).Senders.length : Nat) : Int))) + (((ix l (ix cases i9).Pipe).Getters.length : Nat) : Int))) == 5000))] [(0, .row 29 [iS 0, iS 0]), (1, .row 49 (Enc.cells (ix cases i9)))] 31 follows (by kernel_rfl) ?_
             exact hK4203 () _ _ _ trivial (leSt_m [(0, 0), (1, 1)] [] (by (try simp only [g4204]) <;> simp only [push_cast, leL_flD, renL_flD, seval]) (by (try simp only [g4204]) <;> simp only [push_cast, leL_flD, renL_flD, seval]) rfl rfl rfl)
            ·refine rs 25 [] [] (by kernel_rfl) allP_nil ?_
             refine rt [(0, .sl l.length (fl l)), (2, .sl cases.length (fl cases)), (3, .sl order.length (fl order)), (8, .ptr 0 0), (10, iS i9), (111, bS false)] [(0, .row 29 [iS 0, iS 0]), (1, .row 49 (Enc.cells (ix cases i9)))] 31 follows (by kernel_rfl) ?_
             exact hK4203 () _ _ _ trivial (leSt_m [(0, 0), (1, 1)] [] (by (try simp only [g4204]) <;> simp only [push_cast, leL_flD, renL_flD, seval]) (by (try simp only [g4204]) <;> simp only [push_cast, leL_flD, renL_flD, seval]) rfl rfl rfl)
           ·dsimp only
            refine cond_sx h (by kernel_rfl) (fun g4213 h => ?_) (fun g4213 h => ?_)
            ·refine seq_np ?_
             refine reg_f ?_
             refine rs 1 [] [] (by kernel_rfl) allP_nil ?_
             obtain ⟨r4212, hr4212, h⟩ := bind_sx h
             refine run_call 31 [iS 9, iS i9] (some 113) (by kernel_rfl) ?_
             refine call_0 (taskmillref_F_spec 9 i9 r4212 hr4212) (by simp only [push_cast, leL_flD, renL_flD, seval]) (by simp only [push_cast, leL_flD, renL_flD, seval]) ?_
             refine back_f ?_
             refine rs 1 [] [] (by kernel_rfl) allP_nil ?_
             refine rf [(8, .ptr 0 0)] [(0, .row 29 (Enc.cells r4212)), (1, .row 49 (Enc.cells (ix cases i9)))] 31 (by kernel_rfl) ?_
             refine wk_id ?_
             refine rt_cast ht4 ?_
             obtain ⟨r0, h, e0⟩ := map_sx h
             have e1 := hr4 r0 e0.symm
             subst r0
             obtain rfl := Option.some.inj h
             refine ret_at (.agg (Enc.cells r4212)) (by kernel_rfl) ?_
             exact ret_e [] [] (by simp only [push_cast, leL_flD, renL_flD, seval]) (by simp only [push_cast, leL_flD, renL_flD, seval]) rfl rfl rfl
            ·refine wk_id ?_
             refine wk_id ?_
             refine reg_f ?_
             refine rs 3 [] [] (by kernel_rfl) allP_nil ?_
             refine rf [(0, .sl l.length (fl l)), (2, .sl cases.length (fl cases)), (3, .sl order.length (fl order)), (8, .ptr 0 0), (10, iS (IntKind.i64.wrap (i9 + 1)))] [(0, .row 29 [iS 0, iS 0]), (1, .row 49 (Enc.cells (ix cases i9)))] 31 (by kernel_rfl) ?_
             exact hn4 ((IntKind.i64.wrap (i9 + 1))) _ _ _ (Option.some.inj h).symm (leSt_m [(0, 0)] [] (by simp only [push_cast, leL_flD, renL_flD, seval]) (by simp only [push_cast, leL_flD, renL_flD, seval]) rfl rfl rfl)
     ·change R4 (.exit 0) _ _ _
      refine ex_cast hx4 (id := 0) ?_
      obtain ⟨r0, h, e0⟩ := map_sx h
      have e1 := hr4 r0 e0.symm
      subst r0
      refine wk_id ?_
      refine wk_id ?_
      refine seq_np ?_
      refine seq_np ?_
      refine reg_f ?_
      refine rs 5 [] [] (by kernel_rfl) allP_nil ?_
      refine rf [(2, .sl cases.length (fl cases)), (3, .sl order.length (fl order)), (8, .ptr 0 0), (118, bS (((order.length : Nat) : Int) != ((cases.length : Nat) : Int)))] [(0, .row 29 [iS 0, iS 0])] 1 (by kernel_rfl) ?_
      refine wk_id ?_
      refine cond_sx h (by kernel_rfl) (fun g4411 h => ?_) (fun g4411 h => ?_)
      ·refine seq_np ?_
       refine reg_f ?_
       obtain ⟨r4220, hr4220, h⟩ := bind_sx h
       refine run_call 31 [iS 8, iS (-1)] (some 119) (by kernel_rfl) ?_
       refine call_0 (taskmillref_F_spec 8 (-1) r4220 hr4220) (by simp only [push_cast, leL_flD, renL_flD, seval]) (by simp only [push_cast, leL_flD, renL_flD, seval]) ?_
       refine back_f ?_
       refine rs 1 [] [] (by kernel_rfl) allP_nil ?_
       refine rf [(8, .ptr 0 0)] [(0, .row 29 (Enc.cells r4220))] 1 (by kernel_rfl) ?_
       refine wk_id ?_
       obtain rfl := Option.some.inj h
       refine ret_at (.agg (Enc.cells r4220)) (by kernel_rfl) ?_
       exact ret_e [] [] (by simp only [push_cast, leL_flD, renL_flD, seval]) (by simp only [push_cast, leL_flD, renL_flD, seval]) rfl rfl rfl
      ·refine wk_id ?_
       refine seq_np ?_
       refine seq_np ?_
       refine reg_f ?_
       refine rs 1 [] [] (by kernel_rfl) allP_nil ?_
       refine rf [(2, .sl cases.length (fl cases)), (3, .sl order.length (fl order)), (8, .ptr 0 0), (13, iS 0)] [(0, .row 29 [iS 0, iS 0])] 1 (by kernel_rfl) ?_
       refine wk_id ?_
       refine block_np ?_
       refine loop_sx (S := Int) (fun a => ([(2, .sl cases.length (fl cases)), (3, .sl order.length (fl order)), (8, .ptr 0 0), (13, iS a)], [(0, .row 29 [iS 0, iS 0])], 1)) h (leSt_m [(0, 0)] [] (by simp only [push_cast, leL_flD, renL_flD, seval]) (by simp only [push_cast, leL_flD, renL_flD, seval]) rfl rfl rfl) ?_
       rintro i15 o6 R6 h hr6 hn6 hx6 ht6
       try dsimp only at h hn6 ⊢
       unfold taskmillref_CasesFault_l2 at h
       try dsimp only at h
       refine seq_np ?_
       refine seq_np ?_
       refine reg_f ?_
       refine rs 4 [] [] (by kernel_rfl) allP_nil ?_
       refine rf [(2, .sl cases.length (fl cases)), (3, .sl order.length (fl order)), (8, .ptr 0 0), (13, iS i15), (123, bS (decide (i15 < ((order.length : Nat) : Int))))] [(0, .row 29 [iS 0, iS 0])] 1 (by kernel_rfl) ?_
       refine wk_id ?_
       refine cond_sx h (by kernel_rfl) (fun g4410 h => ?_) (fun g4410 h => ?_)
       ·refine wk_id ?_
        refine seq_np ?_
        refine block_np ?_
        refine chk_sx h (fun g4397 h => ?_)
        refine seq_cut (A := Bool) (fun a => ([(2, .sl cases.length (fl cases)), (3, .sl order.length (fl order)), (8, .ptr 0 0), (13, iS i15), (149, bS a)], [(0, .row 29 [iS 0, iS 0])], 1)) (fun a => (taskmillref_CasesFault_j1 cases order i15 a) = some o6) (fun K4395 hK4395 => ?_) ?_
        ·refine reg_t ?_
         have k4396 : 0 ≤ i15 ∧ i15 < ((order.length : Nat) : Int) := by first | simpa only [Bool.and_eq_true, decide_eq_true_eq, bne_iff_ne, ne_eq] using g4397 | (simp at g4397 ⊢; omega)
         refine rs 6 [none, none, some ⟨.iptr (fl order) ((i15).toNat * 1), [], 3, []⟩, some ⟨iS (ix order i15), [], 4, []⟩] _ (by kernel_rfl) (allP_cons (ob_ld order i15 1 0 ((i15).toNat * 1) k4396 rfl (by decide) (by first | rfl | omega) (dflS Try.prog 3) (iS (ix order i15)) rfl 4 []) (allP_cons (ob_ix_l order 1 3 i15 k4396) allP_nil)) ?_
         refine run_br h 131 (.inl (by kernel_rfl)) (fun g4398 h => ?_) (fun g4398 h => ?_)
         ·refine rs 18 [] [] (by kernel_rfl) allP_nil ?_
          refine rt [(2, .sl cases.length (fl cases)), (3, .sl order.length (fl order)), (8, .ptr 0 0), (13, iS i15), (149, bS true)] [(0, .row 29 [iS 0, iS 0])] 25 follows (by kernel_rfl) ?_
          exact hK4395 (true) _ _ _ h (leSt_m [(0, 0)] [] (by (try simp only [g4398]) <;> simp only [push_cast, leL_flD, renL_flD, seval]) (by (try simp only [g4398]) <;> simp only [push_cast, leL_flD, renL_flD, seval]) rfl rfl rfl)
         ·refine chk_sx h (fun g4400 h => ?_)
          have k4399 : 0 ≤ i15 ∧ i15 < ((order.length : Nat) : Int) := by first | simpa only [Bool.and_eq_true, decide_eq_true_eq, bne_iff_ne, ne_eq] using g4400 | (simp at g4400 ⊢; omega)
          refine rs 9 [none, none, some ⟨.iptr (fl order) ((i15).toNat * 1), [], 9, []⟩, some ⟨iS (ix order i15), [], 10, []⟩] _ (by kernel_rfl) (allP_cons (ob_ld order i15 1 0 ((i15).toNat * 1) k4399 rfl (by decide) (by first | rfl | omega) (dflS Try.prog 3) (iS (ix order i15)) rfl 10 []) (allP_cons (ob_ix_l order 1 9 i15 k4399) allP_nil)) ?_
          refine run_br h 140 (.inl (by kernel_rfl)) (fun g4401 h => ?_) (fun g4401 h => ?_)
          ·refine rs 9 [] [] (by kernel_rfl) allP_nil ?_
           refine rt [(2, .sl cases.length (fl cases)), (3, .sl order.length (fl order)), (8, .ptr 0 0), (13, iS i15), (149, bS true)] [(0, .row 29 [iS 0, iS 0])] 25 follows (by kernel_rfl) ?_
           exact hK4395 (true) _ _ _ h (leSt_m [(0, 0)] [] (by first | ((try simp only [g4398, g4401]) <;> simp only [push_cast, leL_flD, renL_flD, seval]; done) | ((try simp only [g4398]); (try simp only [g4401]); simp only [push_cast, leL_flD, renL_flD, seval]; done) | (exfalso; clear h; simp_all; done)) (by first | ((try simp only [g4398, g4401]) <;> simp only [push_cast, leL_flD, renL_flD, seval]; done) | ((try simp only [g4398]); (try simp only [g4401]); simp only [push_cast, leL_flD, renL_flD, seval]; done) | (exfalso; clear h; simp_all; done)) rfl rfl rfl)
          ·refine chk_sx h (fun g4403 h => ?_)
           have k4402 : 0 ≤ (0 : Int) ∧ (0 : Int) ≤ i15 ∧ i15 ≤ ((order.length : Nat) : Int) := by first | simpa only [Bool.and_eq_true, decide_eq_true_eq, bne_iff_ne, ne_eq] using g4403 | (simp at g4403 ⊢; omega)
           refine chk_sx h (fun g4405 h => ?_)
           have k4404 : 0 ≤ i15 ∧ i15 < ((order.length : Nat) : Int) := by first | simpa only [Bool.and_eq_true, decide_eq_true_eq, bne_iff_ne, ne_eq] using g4405 | (simp at g4405 ⊢; omega)
           refine rs 7 [none, none, some ⟨.sl (cut order (0 : Int) i15).length (fl (cut order (0 : Int) i15)), [], 18, []⟩, none, none, some ⟨.iptr (fl order) ((i15).toNat * 1), [], 21, []⟩, some ⟨iS (ix order i15), [], 22, []⟩] _ (by kernel_rfl) (allP_cons (ob_ld order i15 1 0 ((i15).toNat * 1) k4404 rfl (by decide) (by first | rfl | omega) (dflS Try.prog 3) (iS (ix order i15)) rfl 22 []) (allP_cons (ob_ix_l order 1 21 i15 k4404) (allP_cons (ob_cut order (0 : Int) i15 1 18 rfl k4402) allP_nil))) ?_
           obtain ⟨r4406, hr4406, h⟩ := bind_sx h
           refine run_call 49 [.sl (cut order (0 : Int) i15).length (fl (cut order (0 : Int) i15)), iS (ix order i15)] (some 148) (by kernel_rfl) ?_
           refine callE_0 (taskmillref_Has_spec (cut order (0 : Int) i15) (ix order i15) r4406 hr4406) (by simp only [push_cast, leL_flD, renL_flD, seval]) (by simp only [push_cast, leL_flD, renL_flD, seval]) ?_
           refine back_t ?_
           refine rs 1 [] [] (by kernel_rfl) allP_nil ?_
           refine rt [(2, .sl cases.length (fl cases)), (3, .sl order.length (fl order)), (8, .ptr 0 0), (13, iS i15), (149, bS r4406)] [(0, .row 29 [iS 0, iS 0])] 25 follows (by kernel_rfl) ?_
           exact hK4395 (r4406) _ _ _ h (leSt_m [(0, 0)] [] (by first | ((try simp only [g4398, g4401]) <;> simp only [push_cast, leL_flD, renL_flD, seval]; done) | ((try simp only [g4398]); (try simp only [g4401]); simp only [push_cast, leL_flD, renL_flD, seval]; done) | (exfalso; clear h; simp_all; done)) (by first | ((try simp only [g4398, g4401]) <;> simp only [push_cast, leL_flD, renL_flD, seval]; done) | ((try simp only [g4398]); (try simp only [g4401]); simp only [push_cast, leL_flD, renL_flD, seval]; done) | (exfalso; clear h; simp_all; done)) rfl rfl rfl)
        ·rintro t149q13 h
         try dsimp only at h ⊢
         unfold taskmillref_CasesFault_j1 at h
         refine cond_sx h (by kernel_rfl) (fun g4409 h => ?_) (fun g4409 h => ?_)
         ·refine seq_np ?_
          refine reg_f ?_
          obtain ⟨r4408, hr4408, h⟩ := bind_sx h
          refine run_call 31 [iS 8, iS (-1)] (some 150) (by kernel_rfl) ?_
          refine call_0 (taskmillref_F_spec 8 (-1) r4408 hr4408) (by simp only [push_cast, leL_flD, renL_flD, seval]) (by simp only [push_cast, leL_flD, renL_flD, seval]) ?_
          refine back_f ?_
          refine rs 1 [] [] (by kernel_rfl) allP_nil ?_
          refine rf [(8, .ptr 0 0)] [(0, .row 29 (Enc.cells r4408))] 1 (by kernel_rfl) ?_
          refine wk_id ?_
          refine rt_cast ht6 ?_
          obtain ⟨r0, h, e0⟩ := map_sx h
          have e1 := hr6 r0 e0.symm
          subst r0
          obtain rfl := Option.some.inj h
          refine ret_at (.agg (Enc.cells r4408)) (by kernel_rfl) ?_
          exact ret_e [] [] (by simp only [push_cast, leL_flD, renL_flD, seval]) (by simp only [push_cast, leL_flD, renL_flD, seval]) rfl rfl rfl
         ·refine wk_id ?_
          refine wk_id ?_
          refine reg_f ?_
          refine rs 3 [] [] (by kernel_rfl) allP_nil ?_
          refine rf [(2, .sl cases.length (fl cases)), (3, .sl order.length (fl order)), (8, .ptr 0 0), (13, iS (IntKind.i64.wrap (i15 + 1)))] [(0, .row 29 [iS 0, iS 0])] 1 (by kernel_rfl) ?_
          exact hn6 ((IntKind.i64.wrap (i15 + 1))) _ _ _ (Option.some.inj h).symm (leSt_m [(0, 0)] [] (by simp only [push_cast, leL_flD, renL_flD, seval]) (by simp only [push_cast, leL_flD, renL_flD, seval]) rfl rfl rfl)
       ·change R6 (.exit 4) _ _ _
        refine ex_cast hx6 (id := 4) ?_
        obtain ⟨r0, h, e0⟩ := map_sx h
        have e1 := hr6 r0 e0.symm
        subst r0
        refine wk_id ?_
        refine wk_id ?_
        refine seq_np ?_
        refine reg_f ?_
        refine rs 2 [] [] (by kernel_rfl) allP_nil ?_
        refine rf [(8, .ptr 0 0)] [(0, .row 29 [iS 0, iS 0])] 1 (by kernel_rfl) ?_
        refine wk_id ?_
        obtain rfl := Option.some.inj h
        refine ret_at (.agg [iS 0, iS 0]) (by kernel_rfl) ?_
        exact ret_e [] [] (by simp only [push_cast, leL_flD, renL_flD, seval]) (by simp only [push_cast, leL_flD, renL_flD, seval]) rfl rfl rfl

set_option maxRecDepth 100000 in
set_option maxHeartbeats 200000000 in
theorem taskmillref_SameWakes_spec (xa : (List GWake)) (b : (List GWake)) (r : Bool) (h : taskmillref_SameWakes xa b = some r) : SpecW Try.prog 52 [.sl xa.length (fl xa), .sl b.length (fl b)] [] 0 (fun x h n => x = bS r ∧ h = [] ∧ n = 0) := by
 unfold taskmillref_SameWakes at h
 refine spec_of (draw_ok _) Try.func52 rfl (by decide) rfl (by kernel_rfl) ?_
 refine seq_np ?_
 refine reg_f ?_
 refine rs 1 [] [] (by kernel_rfl) allP_nil ?_
 refine rf [(0, .sl xa.length (fl xa)), (1, .sl b.length (fl b))] [] 0 (by kernel_rfl) ?_
 refine wk_id ?_
 refine seq_np ?_
 refine seq_np ?_
 refine reg_f ?_
 refine rs 5 [] [] (by kernel_rfl) allP_nil ?_
 refine rf [(0, .sl xa.length (fl xa)), (1, .sl b.length (fl b)), (10, bS (((xa.length : Nat) : Int) != ((b.length : Nat) : Int)))] [] 0 (by kernel_rfl) ?_
 refine wk_id ?_
 refine cond_sx h (by kernel_rfl) (fun g4518 h => ?_) (fun g4518 h => ?_)
 ·refine seq_np ?_
  refine reg_f ?_
  refine rs 1 [] [] (by kernel_rfl) allP_nil ?_
  refine rf [(4, bS false)] [] 0 (by kernel_rfl) ?_
  refine wk_id ?_
  obtain rfl := Option.some.inj h
  refine ret_at (bS false) (by kernel_rfl) ?_
  exact ret_e [] [] (by simp only [push_cast, leL_flD, renL_flD, seval]) (by simp only [push_cast, leL_flD, renL_flD, seval]) rfl rfl rfl
 ·refine wk_id ?_
  refine seq_np ?_
  refine seq_np ?_
  refine reg_f ?_
  refine rs 1 [] [] (by kernel_rfl) allP_nil ?_
  refine rf [(0, .sl xa.length (fl xa)), (1, .sl b.length (fl b)), (5, iS 0)] [] 0 (by kernel_rfl) ?_
  refine wk_id ?_
  refine block_np ?_
  refine loop_sx (S := Int) (fun a => ([(0, .sl xa.length (fl xa)), (1, .sl b.length (fl b)), (5, iS a)], [], 0)) h (leSt_m [] [] (by simp only [push_cast, leL_flD, renL_flD, seval]) (by simp only [push_cast, leL_flD, renL_flD, seval]) rfl rfl rfl) ?_
  rintro i7 o2 R2 h hr2 hn2 hx2 ht2
  try dsimp only at h hn2 ⊢
  unfold taskmillref_SameWakes_l1 at h
  try dsimp only at h
  refine seq_np ?_
  refine seq_np ?_
  refine reg_f ?_
  refine rs 4 [] [] (by kernel_rfl) allP_nil ?_
  refine rf [(0, .sl xa.length (fl xa)), (1, .sl b.length (fl b)), (5, iS i7), (14, bS (decide (i7 < ((xa.length : Nat) : Int))))] [] 0 (by kernel_rfl) ?_
  refine wk_id ?_
  refine cond_sx h (by kernel_rfl) (fun g4517 h => ?_) (fun g4517 h => ?_)
  ·refine wk_id ?_
   refine seq_np ?_
   refine block_np ?_
   refine chk_sx h (fun g4513 h => ?_)
   refine chk_sx h (fun g4515 h => ?_)
   refine seq_np ?_
   refine reg_t ?_
   have k4512 : 0 ≤ i7 ∧ i7 < ((xa.length : Nat) : Int) := by first | simpa only [Bool.and_eq_true, decide_eq_true_eq, bne_iff_ne, ne_eq] using g4513 | (simp at g4513 ⊢; omega)
   have k4514 : 0 ≤ i7 ∧ i7 < ((b.length : Nat) : Int) := by first | simpa only [Bool.and_eq_true, decide_eq_true_eq, bne_iff_ne, ne_eq] using g4515 | (simp at g4515 ⊢; omega)
   refine rs 9 [none, none, some ⟨.iptr (fl xa) ((i7).toNat * 5), [], 2, []⟩, some ⟨.agg (Enc.cells (ix xa i7)), [], 3, []⟩, none, none, some ⟨.iptr (fl b) ((i7).toNat * 5), [], 6, []⟩, some ⟨.agg (Enc.cells (ix b i7)), [], 7, []⟩] _ (by kernel_rfl) (allP_cons (ob_ldw b i7 5 ((i7).toNat * 5) k4514 rfl (by first | rfl | omega) [iS (ix b i7).Task, iS (ix b i7).Case, iS (ix b i7).Value, bS (ix b i7).Ok, bS (ix b i7).Panic] rfl 7 []) (allP_cons (ob_ix_l b 5 6 i7 k4514) (allP_cons (ob_ldw xa i7 5 ((i7).toNat * 5) k4512 rfl (by first | rfl | omega) [iS (ix xa i7).Task, iS (ix xa i7).Case, iS (ix xa i7).Value, bS (ix xa i7).Ok, bS (ix xa i7).Panic] rfl 3 []) (allP_cons (ob_ix_l xa 5 2 i7 k4512) allP_nil)))) ?_
   refine rt [(0, .sl xa.length (fl xa)), (1, .sl b.length (fl b)), (5, iS i7), (25, bS (!(((ix xa i7).Task == (ix b i7).Task) && (((ix xa i7).Case == (ix b i7).Case) && (((ix xa i7).Value == (ix b i7).Value) && (((ix xa i7).Ok == (ix b i7).Ok) && (((ix xa i7).Panic == (ix b i7).Panic) && true)))))))] [] 9 follows (by kernel_rfl) ?_
   refine wk_id ?_
   refine cond_sx h (by kernel_rfl) (fun g4516 h => ?_) (fun g4516 h => ?_)
   ·refine seq_np ?_
    refine reg_f ?_
    refine rs 1 [] [] (by kernel_rfl) allP_nil ?_
    refine rf [(4, bS false)] [] 9 (by kernel_rfl) ?_
    refine wk_id ?_
    refine rt_cast ht2 ?_
    obtain ⟨r0, h, e0⟩ := map_sx h
    have e1 := hr2 r0 e0.symm
    subst r0
    obtain rfl := Option.some.inj h
    refine ret_at (bS false) (by kernel_rfl) ?_
    exact ret_e [] [] (by simp only [push_cast, leL_flD, renL_flD, seval]) (by simp only [push_cast, leL_flD, renL_flD, seval]) rfl rfl rfl
   ·refine wk_id ?_
    refine wk_id ?_
    refine reg_f ?_
    refine rs 3 [] [] (by kernel_rfl) allP_nil ?_
    refine rf [(0, .sl xa.length (fl xa)), (1, .sl b.length (fl b)), (5, iS (IntKind.i64.wrap (i7 + 1)))] [] 9 (by kernel_rfl) ?_
    exact hn2 ((IntKind.i64.wrap (i7 + 1))) _ _ _ (Option.some.inj h).symm (leSt_m [] [] (by simp only [push_cast, leL_flD, renL_flD, seval]) (by simp only [push_cast, leL_flD, renL_flD, seval]) rfl rfl rfl)
  ·change R2 (.exit 0) _ _ _
   refine ex_cast hx2 (id := 0) ?_
   obtain ⟨r0, h, e0⟩ := map_sx h
   have e1 := hr2 r0 e0.symm
   subst r0
   refine wk_id ?_
   refine wk_id ?_
   refine seq_np ?_
   refine reg_f ?_
   refine rs 1 [] [] (by kernel_rfl) allP_nil ?_
   refine rf [(4, bS true)] [] 0 (by kernel_rfl) ?_
   refine wk_id ?_
   obtain rfl := Option.some.inj h
   refine ret_at (bS true) (by kernel_rfl) ?_
   exact ret_e [] [] (by simp only [push_cast, leL_flD, renL_flD, seval]) (by simp only [push_cast, leL_flD, renL_flD, seval]) rfl rfl rfl

set_option maxRecDepth 100000 in
set_option maxHeartbeats 200000000 in
theorem taskmillref_SameAnswer_spec (xa : Answer) (b : Answer) (r : Bool) (h : taskmillref_SameAnswer xa b = some r) : SpecW Try.prog 25 [.agg (Enc.cells xa), .agg (Enc.cells b)] [] 0 (fun x h n => x = bS r ∧ h = [] ∧ n = 0) := by
 unfold taskmillref_SameAnswer at h
 refine spec_of (draw_ok _) Try.func25 rfl (by decide) rfl (by kernel_rfl) ?_
 refine seq_np ?_
 refine reg_f ?_
 refine rs 3 [] [] (by kernel_rfl) allP_nil ?_
 refine rf [(2, .ptr 0 0), (3, .ptr 1 0)] [(0, .row 33 (Enc.cells xa)), (1, .row 33 (Enc.cells b))] 2 (by kernel_rfl) ?_
 refine wk_id ?_
 refine seq_cut (A := Bool) (fun a => ([(4, bS a)], [], 0)) (fun a => (taskmillref_SameAnswer_j1 a) = some r) (fun K4529 hK4529 => ?_) ?_
 ·refine reg_f ?_
  refine rs 6 [] [] (by kernel_rfl) allP_nil ?_
  refine run_br h 10 (.inl (by kernel_rfl)) (fun g4530 h => ?_) (fun g4530 h => ?_)
  ·refine rs 7 [] [] (by kernel_rfl) allP_nil ?_
   refine run_br h 17 (.inl (by kernel_rfl)) (fun g4531 h => ?_) (fun g4531 h => ?_)
   ·refine rs 7 [] [] (by kernel_rfl) allP_nil ?_
    refine run_br h 24 (.inl (by kernel_rfl)) (fun g4532 h => ?_) (fun g4532 h => ?_)
    ·refine rn 20 [(2, .ptr 0 0), (3, .ptr 1 0), (24, bS true)] [(0, .row 33 (Enc.cells xa)), (1, .row 33 (Enc.cells b))] 2 (by kernel_rfl) ?_
     refine rs 7 [] [] (by kernel_rfl) allP_nil ?_
     refine run_br h 31 (.inl (by kernel_rfl)) (fun g4533 h => ?_) (fun g4533 h => ?_)
     ·refine rs 7 [] [] (by kernel_rfl) allP_nil ?_
      refine run_br h 38 (.inl (by kernel_rfl)) (fun g4534 h => ?_) (fun g4534 h => ?_)
      ·refine rs 4 [] [] (by kernel_rfl) allP_nil ?_
       obtain ⟨r4535, hr4535, h⟩ := bind_sx h
       refine run_call 52 [.sl xa.Wakes.length (fl xa.Wakes), .sl b.Wakes.length (fl b.Wakes)] (some 43) (by kernel_rfl) ?_
       refine call_0 (taskmillref_SameWakes_spec xa.Wakes b.Wakes r4535 hr4535) (by simp only [push_cast, leL_flD, renL_flD, seval]) (by simp only [push_cast, leL_flD, renL_flD, seval]) ?_
       refine back_f ?_
       refine rs 2 [] [] (by kernel_rfl) allP_nil ?_
       refine rf [(4, bS r4535)] [(0, .row 33 (Enc.cells xa)), (1, .row 33 (Enc.cells b))] 2 (by kernel_rfl) ?_
       exact hK4529 (r4535) _ _ _ h (leSt_m [] [] (by first | ((try simp only [g4530, g4531, g4532, g4533, g4534]) <;> simp only [push_cast, leL_flD, renL_flD, seval]; done) | ((try simp only [g4530]); (try simp only [g4531]); (try simp only [g4532]); (try simp only [g4533]); (try simp only [g4534]); simp only [push_cast, leL_flD, renL_flD, seval]; done) | (exfalso; clear h; simp_all; done)) (by first | ((try simp only [g4530, g4531, g4532, g4533, g4534]) <;> simp only [push_cast, leL_flD, renL_flD, seval]; done) | ((try simp only [g4530]); (try simp only [g4531]); (try simp only [g4532]); (try simp only [g4533]); (try simp only [g4534]); simp only [push_cast, leL_flD, renL_flD, seval]; done) | (exfalso; clear h; simp_all; done)) rfl rfl rfl)
      ·refine rs 7 [] [] (by kernel_rfl) allP_nil ?_
       refine rf [(4, bS false)] [(0, .row 33 (Enc.cells xa)), (1, .row 33 (Enc.cells b))] 2 (by kernel_rfl) ?_
       exact hK4529 (false) _ _ _ h (leSt_m [] [] (by first | ((try simp only [g4530, g4531, g4532, g4533, g4534]) <;> simp only [push_cast, leL_flD, renL_flD, seval]; done) | ((try simp only [g4530]); (try simp only [g4531]); (try simp only [g4532]); (try simp only [g4533]); (try simp only [g4534]); simp only [push_cast, leL_flD, renL_flD, seval]; done) | (exfalso; clear h; simp_all; done)) (by first | ((try simp only [g4530, g4531, g4532, g4533, g4534]) <;> simp only [push_cast, leL_flD, renL_flD, seval]; done) | ((try simp only [g4530]); (try simp only [g4531]); (try simp only [g4532]); (try simp only [g4533]); (try simp only [g4534]); simp only [push_cast, leL_flD, renL_flD, seval]; done) | (exfalso; clear h; simp_all; done)) rfl rfl rfl)
     ·refine rs 14 [] [] (by kernel_rfl) allP_nil ?_
      refine rf [(4, bS false)] [(0, .row 33 (Enc.cells xa)), (1, .row 33 (Enc.cells b))] 2 (by kernel_rfl) ?_
      exact hK4529 (false) _ _ _ h (leSt_m [] [] (by first | ((try simp only [g4530, g4531, g4532, g4533]) <;> simp only [push_cast, leL_flD, renL_flD, seval]; done) | ((try simp only [g4530]); (try simp only [g4531]); (try simp only [g4532]); (try simp only [g4533]); simp only [push_cast, leL_flD, renL_flD, seval]; done) | (exfalso; clear h; simp_all; done)) (by first | ((try simp only [g4530, g4531, g4532, g4533]) <;> simp only [push_cast, leL_flD, renL_flD, seval]; done) | ((try simp only [g4530]); (try simp only [g4531]); (try simp only [g4532]); (try simp only [g4533]); simp only [push_cast, leL_flD, renL_flD, seval]; done) | (exfalso; clear h; simp_all; done)) rfl rfl rfl)
    ·refine rn 20 [(2, .ptr 0 0), (3, .ptr 1 0), (24, bS false)] [(0, .row 33 (Enc.cells xa)), (1, .row 33 (Enc.cells b))] 2 (by kernel_rfl) ?_
     refine rs 21 [] [] (by kernel_rfl) allP_nil ?_
     refine rf [(4, bS false)] [(0, .row 33 (Enc.cells xa)), (1, .row 33 (Enc.cells b))] 2 (by kernel_rfl) ?_
     exact hK4529 (false) _ _ _ h (leSt_m [] [] (by first | ((try simp only [g4530, g4531, g4532]) <;> simp only [push_cast, leL_flD, renL_flD, seval]; done) | ((try simp only [g4530]); (try simp only [g4531]); (try simp only [g4532]); simp only [push_cast, leL_flD, renL_flD, seval]; done) | (exfalso; clear h; simp_all; done)) (by first | ((try simp only [g4530, g4531, g4532]) <;> simp only [push_cast, leL_flD, renL_flD, seval]; done) | ((try simp only [g4530]); (try simp only [g4531]); (try simp only [g4532]); simp only [push_cast, leL_flD, renL_flD, seval]; done) | (exfalso; clear h; simp_all; done)) rfl rfl rfl)
   ·refine rs 28 [] [] (by kernel_rfl) allP_nil ?_
    refine rf [(4, bS false)] [(0, .row 33 (Enc.cells xa)), (1, .row 33 (Enc.cells b))] 2 (by kernel_rfl) ?_
    exact hK4529 (false) _ _ _ h (leSt_m [] [] (by first | ((try simp only [g4530, g4531]) <;> simp only [push_cast, leL_flD, renL_flD, seval]; done) | ((try simp only [g4530]); (try simp only [g4531]); simp only [push_cast, leL_flD, renL_flD, seval]; done) | (exfalso; clear h; simp_all; done)) (by first | ((try simp only [g4530, g4531]) <;> simp only [push_cast, leL_flD, renL_flD, seval]; done) | ((try simp only [g4530]); (try simp only [g4531]); simp only [push_cast, leL_flD, renL_flD, seval]; done) | (exfalso; clear h; simp_all; done)) rfl rfl rfl)
  ·refine rs 35 [] [] (by kernel_rfl) allP_nil ?_
   refine rf [(4, bS false)] [(0, .row 33 (Enc.cells xa)), (1, .row 33 (Enc.cells b))] 2 (by kernel_rfl) ?_
   exact hK4529 (false) _ _ _ h (leSt_m [] [] (by (try simp only [g4530]) <;> simp only [push_cast, leL_flD, renL_flD, seval]) (by (try simp only [g4530]) <;> simp only [push_cast, leL_flD, renL_flD, seval]) rfl rfl rfl)
 ·rintro t4q1 h
  try dsimp only at h ⊢
  unfold taskmillref_SameAnswer_j1 at h
  obtain rfl := Option.some.inj h
  refine ret_at (bS t4q1) (by kernel_rfl) ?_
  exact ret_e [] [] (by simp only [push_cast, leL_flD, renL_flD, seval]) (by simp only [push_cast, leL_flD, renL_flD, seval]) rfl rfl rfl

set_option maxRecDepth 100000 in
set_option maxHeartbeats 200000000 in
theorem pick_Ready_spec (l : (List Pipe)) (task : Int) (cases : (List GCase)) (r : Fault × (List Int)) (h : pick_Ready l task cases = some r) : SpecW Try.prog 22 [.sl l.length (fl l), iS task, .sl cases.length (fl cases)] [] 0 (fun x h n => x = .tup [.own 0 0 r.2.length, .agg (Enc.cells r.1)] ∧ h = [(0, .row 3 (fl r.2))] ∧ n = 1) := by
 unfold pick_Ready at h
 refine spec_of (draw_ok _) Try.func22 rfl (by decide) rfl (by kernel_rfl) ?_
 refine seq_np ?_
 refine reg_f ?_
 refine rs 2 [] [] (by kernel_rfl) allP_nil ?_
 refine rf [(0, .sl l.length (fl l)), (1, iS task), (2, .sl cases.length (fl cases)), (7, .ptr 0 0)] [(0, .row 29 [iS 0, iS 0])] 1 (by kernel_rfl) ?_
 refine wk_id ?_
 refine seq_np ?_
 refine seq_np ?_
 refine reg_f ?_
 refine rs 1 [] [] (by kernel_rfl) allP_nil ?_
 obtain ⟨r5877, hr5877, h⟩ := bind_sx h
 refine run_call 12 [.sl l.length (fl l)] (some 16) (by kernel_rfl) ?_
 refine call_0 (pick_Check_spec l r5877 hr5877) (by simp only [push_cast, leL_flD, renL_flD, seval]) (by simp only [push_cast, leL_flD, renL_flD, seval]) ?_
 refine back_f ?_
 refine rs 2 [] [] (by kernel_rfl) allP_nil ?_
 refine rf [(0, .sl l.length (fl l)), (1, iS task), (2, .sl cases.length (fl cases)), (7, .ptr 0 0), (8, .ptr 1 0)] [(0, .row 29 [iS 0, iS 0]), (1, .row 29 (Enc.cells r5877))] 2 (by kernel_rfl) ?_
 refine wk_id ?_
 refine seq_np ?_
 refine reg_f ?_
 refine rs 3 [] [] (by kernel_rfl) allP_nil ?_
 refine rf [(0, .sl l.length (fl l)), (1, iS task), (2, .sl cases.length (fl cases)), (7, .ptr 0 0), (8, .ptr 1 0), (19, bS (r5877.Code != 0))] [(0, .row 29 [iS 0, iS 0]), (1, .row 29 (Enc.cells r5877))] 2 (by kernel_rfl) ?_
 refine wk_id ?_
 refine cond_sx h (by kernel_rfl) (fun g6048 h => ?_) (fun g6048 h => ?_)
 ·refine seq_np ?_
  refine reg_t ?_
  refine rs 3 [] [] (by kernel_rfl) allP_nil ?_
  refine rt [(6, .v (.slice none 0 0)), (7, .ptr 0 0)] [(0, .row 29 (Enc.cells r5877)), (1, .row 29 (Enc.cells r5877))] 5 follows (by kernel_rfl) ?_
  refine wk_id ?_
  obtain rfl := Option.some.inj h
  refine ret_at (.tup [.v (.slice none 0 0), .agg (Enc.cells r5877)]) (by kernel_rfl) ?_
  exact ret_e [] [] (by simp only [push_cast, leL_flD, renL_flD, seval]) (by simp only [push_cast, leL_flD, renL_flD, seval]) rfl rfl rfl
 ·refine wk_id ?_
  refine seq_np ?_
  refine reg_f ?_
  refine rs 1 [] [] (by kernel_rfl) allP_nil ?_
  refine rf [(0, .sl l.length (fl l)), (1, iS task), (2, .sl cases.length (fl cases)), (7, .ptr 0 0), (9, .v (.slice none 0 0))] [(0, .row 29 [iS 0, iS 0]), (1, .row 29 (Enc.cells r5877))] 2 (by kernel_rfl) ?_
  refine wk_id ?_
  refine seq_np ?_
  refine seq_np ?_
  refine reg_f ?_
  refine rs 3 [] [] (by kernel_rfl) allP_nil ?_
  refine rf [(0, .sl l.length (fl l)), (1, iS task), (2, .sl cases.length (fl cases)), (7, .ptr 0 0), (9, .v (.slice none 0 0)), (22, iS ((cases.length : Nat) : Int)), (23, iS 0)] [(0, .row 29 [iS 0, iS 0]), (1, .row 29 (Enc.cells r5877))] 2 (by kernel_rfl) ?_
  refine wk_id ?_
  refine block_np ?_
  refine loop_sx (S := Int × (List Int)) (fun a => ([(0, .sl l.length (fl l)), (1, iS task), (2, .sl cases.length (fl cases)), (7, .ptr 0 0), (9, .own 1 0 a.2.length), (22, iS ((cases.length : Nat) : Int)), (23, iS a.1)], [(0, .row 29 [iS 0, iS 0]), (1, .row 3 (fl a.2))], 2)) h (leSt_m [(0, 0)] [] (by simp only [push_cast, leL_flD, renL_flD, seval]) (by simp only [push_cast, leL_flD, renL_flD, seval]) rfl rfl rfl) ?_
  rintro ⟨t23q7, c1q12⟩ o3 R3 h hr3 hn3 hx3 ht3
  try dsimp only at h hn3 ⊢
  unfold pick_Ready_l2 at h
  try dsimp only at h
  refine seq_np ?_
  refine reg_f ?_
  refine rs 1 [] [] (by kernel_rfl) allP_nil ?_
  refine rf [(0, .sl l.length (fl l)), (1, iS task), (2, .sl cases.length (fl cases)), (7, .ptr 0 0), (9, .own 1 0 c1q12.length), (22, iS ((cases.length : Nat) : Int)), (23, iS t23q7), (24, bS (decide (t23q7 < ((cases.length : Nat) : Int))))] [(0, .row 29 [iS 0, iS 0]), (1, .row 3 (fl c1q12))] 2 (by kernel_rfl) ?_
  refine wk_id ?_
  refine seq_np ?_
  refine cond_sx h (by kernel_rfl) (fun g6047 h => ?_) (fun g6047 h => ?_)
  ·refine wk_id ?_
   refine seq_np ?_
   refine block_np ?_
   refine seq_np ?_
   refine reg_f ?_
   refine rs 2 [] [] (by kernel_rfl) allP_nil ?_
   refine rf [(0, .sl l.length (fl l)), (1, iS task), (2, .sl cases.length (fl cases)), (7, .ptr 0 0), (9, .own 1 0 c1q12.length), (10, iS t23q7), (22, iS ((cases.length : Nat) : Int)), (23, iS t23q7)] [(0, .row 29 [iS 0, iS 0]), (1, .row 3 (fl c1q12))] 2 (by kernel_rfl) ?_
   refine wk_id ?_
   refine chk_sx h (fun g5913 h => ?_)
   refine reg_f ?_
   have k5912 : (c1q12 ++ ([t23q7] : List Int)).length * 8 ≤ 140737488355328 := by first | simpa only [Bool.and_eq_true, decide_eq_true_eq, bne_iff_ne, ne_eq] using g5913 | (simp at g5913 ⊢; omega)
   refine rs 5 [none, none, none, some ⟨.own 3 0 (c1q12 ++ ([t23q7] : List Int)).length, [(3, .row 3 (fl (c1q12 ++ ([t23q7] : List Int)))), (1, .dead)], 4, [1, 2]⟩] _ (by kernel_rfl) (allP_cons (ob_app (P := Try.prog) c1q12 ([t23q7] : List Int) 1 8 rfl (appCells (fl ([t23q7] : List Int)) 0 (([t23q7] : List Int).length * 1)) ([t23q7] : List Int).length (app_own ([t23q7] : List Int) 1 rfl) rfl (0 + ([t23q7] : List Int).length * 1 ≤ (fl ([t23q7] : List Int)).length) (app_own_le ([t23q7] : List Int) 1 rfl) 3 (by kernel_rfl) (by decide) k5912 1 3 [2]) allP_nil) ?_
   refine rf [(0, .sl l.length (fl l)), (1, iS task), (2, .sl cases.length (fl cases)), (7, .ptr 0 0), (9, .own 3 0 (c1q12 ++ ([t23q7] : List Int)).length), (22, iS ((cases.length : Nat) : Int)), (23, iS t23q7)] [(0, .row 29 [iS 0, iS 0]), (1, .dead), (2, .row 3 (fl ([t23q7] : List Int))), (3, .row 3 (fl (c1q12 ++ ([t23q7] : List Int))))] 4 (by kernel_rfl) ?_
   refine wk_id ?_
   refine wk_id ?_
   refine reg_f ?_
   refine rs 2 [] [] (by kernel_rfl) allP_nil ?_
   refine rf [(0, .sl l.length (fl l)), (1, iS task), (2, .sl cases.length (fl cases)), (7, .ptr 0 0), (9, .own 3 0 (c1q12 ++ ([t23q7] : List Int)).length), (22, iS ((cases.length : Nat) : Int)), (23, iS (IntKind.i64.wrap (t23q7 + 1)))] [(0, .row 29 [iS 0, iS 0]), (1, .dead), (2, .row 3 (fl ([t23q7] : List Int))), (3, .row 3 (fl (c1q12 ++ ([t23q7] : List Int))))] 4 (by kernel_rfl) ?_
   exact hn3 ((IntKind.i64.wrap (t23q7 + 1)), (c1q12 ++ ([t23q7] : List Int))) _ _ _ (Option.some.inj h).symm (leSt_m [(0, 0), (1, 3)] [] (by simp only [push_cast, leL_flD, renL_flD, seval]) (by simp only [push_cast, leL_flD, renL_flD, seval]) rfl rfl rfl)
  ·change R3 (.exit 0) _ _ _
   refine ex_cast hx3 (id := 0) ?_
   obtain ⟨r0, h, e0⟩ := map_sx h
   have e1 := hr3 r0 e0.symm
   subst r0
   refine wk_id ?_
   refine wk_id ?_
   refine seq_np ?_
   refine seq_np ?_
   refine reg_f ?_
   refine rs 4 [] [] (by kernel_rfl) allP_nil ?_
   obtain ⟨r5917, hr5917, h⟩ := bind_sx h
   refine call_x (pick_hub_look_spec l task cases c1q12 r5917 hr5917) (args := [.sl l.length (fl l), iS task, .sl cases.length (fl cases), .own 1 0 c1q12.length]) (dst := (some 35)) (by kernel_rfl) [(0, .row 29 [iS 0, iS 0]), (1, .row 3 (fl c1q12))] 2 (by kernel_rfl) [] [1] (.agg (Enc.cells r5917)) [] (by simp only [push_cast, leL_flD, renL_flD, seval]) (by simp only [push_cast, leL_flD, renL_flD, seval]) (by kernel_rfl) (.inr ⟨by simp only [push_cast, leL_flD, renL_flD, seval], by simp only [push_cast, leL_flD, renL_flD, seval]⟩) (by simp only [push_cast, leL_flD, renL_flD, seval]) (by simp only [push_cast, leL_flD, renL_flD, seval]) ?_
   refine rs 2 [] [] (by kernel_rfl) allP_nil ?_
   refine rf [(0, .sl l.length (fl l)), (1, iS task), (2, .sl cases.length (fl cases)), (7, .ptr 0 0), (11, .ptr 2 0)] [(0, .row 29 [iS 0, iS 0]), (1, .row 3 (fl c1q12)), (2, .row 29 (Enc.cells r5917))] 3 (by kernel_rfl) ?_
   refine wk_id ?_
   refine seq_np ?_
   refine reg_f ?_
   refine rs 3 [] [] (by kernel_rfl) allP_nil ?_
   refine rf [(0, .sl l.length (fl l)), (1, iS task), (2, .sl cases.length (fl cases)), (7, .ptr 0 0), (11, .ptr 2 0), (38, bS (r5917.Code != 0))] [(0, .row 29 [iS 0, iS 0]), (1, .row 3 (fl c1q12)), (2, .row 29 (Enc.cells r5917))] 3 (by kernel_rfl) ?_
   refine wk_id ?_
   refine cond_sx h (by kernel_rfl) (fun g6046 h => ?_) (fun g6046 h => ?_)
   ·refine seq_np ?_
    refine reg_t ?_
    refine rs 3 [] [] (by kernel_rfl) allP_nil ?_
    refine rt [(6, .v (.slice none 0 0)), (7, .ptr 0 0)] [(0, .row 29 (Enc.cells r5917)), (1, .row 3 (fl c1q12)), (2, .row 29 (Enc.cells r5917))] 6 follows (by kernel_rfl) ?_
    refine wk_id ?_
    obtain rfl := Option.some.inj h
    refine ret_at (.tup [.v (.slice none 0 0), .agg (Enc.cells r5917)]) (by kernel_rfl) ?_
    exact ret_e [] [] (by simp only [push_cast, leL_flD, renL_flD, seval]) (by simp only [push_cast, leL_flD, renL_flD, seval]) rfl rfl rfl
   ·refine wk_id ?_
    refine seq_np ?_
    refine reg_f ?_
    refine rs 1 [] [] (by kernel_rfl) allP_nil ?_
    refine rf [(0, .sl l.length (fl l)), (1, iS task), (2, .sl cases.length (fl cases)), (7, .ptr 0 0), (12, .v (.slice none 0 0))] [(0, .row 29 [iS 0, iS 0]), (1, .row 3 (fl c1q12)), (2, .row 29 (Enc.cells r5917))] 3 (by kernel_rfl) ?_
    refine wk_id ?_
    refine seq_np ?_
    refine seq_np ?_
    refine reg_f ?_
    refine rs 3 [] [] (by kernel_rfl) allP_nil ?_
    refine rf [(0, .sl l.length (fl l)), (1, iS task), (7, .ptr 0 0), (12, .v (.slice none 0 0)), (40, .sl cases.length (fl cases)), (41, iS ((cases.length : Nat) : Int)), (42, iS 0)] [(0, .row 29 [iS 0, iS 0]), (1, .row 3 (fl c1q12)), (2, .row 29 (Enc.cells r5917))] 3 (by kernel_rfl) ?_
    refine wk_id ?_
    refine block_np ?_
    refine loop_sx (S := Int × (List Int)) (fun a => ([(0, .sl l.length (fl l)), (1, iS task), (7, .ptr 0 0), (12, .own 1 0 a.2.length), (40, .sl cases.length (fl cases)), (41, iS ((cases.length : Nat) : Int)), (42, iS a.1)], [(0, .row 29 [iS 0, iS 0]), (1, .row 3 (fl a.2))], 2)) h (leSt_m [(0, 0)] [] (by simp only [push_cast, leL_flD, renL_flD, seval]) (by simp only [push_cast, leL_flD, renL_flD, seval]) rfl rfl rfl) ?_
    rintro ⟨t42q7, c1q26⟩ o4 R4 h hr4 hn4 hx4 ht4
    try dsimp only at h hn4 ⊢
    unfold pick_Ready_l1 at h
    try dsimp only at h
    refine seq_np ?_
    refine reg_f ?_
    refine rs 1 [] [] (by kernel_rfl) allP_nil ?_
    refine rf [(0, .sl l.length (fl l)), (1, iS task), (7, .ptr 0 0), (12, .own 1 0 c1q26.length), (40, .sl cases.length (fl cases)), (41, iS ((cases.length : Nat) : Int)), (42, iS t42q7), (43, bS (decide (t42q7 < ((cases.length : Nat) : Int))))] [(0, .row 29 [iS 0, iS 0]), (1, .row 3 (fl c1q26))] 2 (by kernel_rfl) ?_
    refine wk_id ?_
    refine seq_np ?_
    refine cond_sx h (by kernel_rfl) (fun g6045 h => ?_) (fun g6045 h => ?_)
    ·refine wk_id ?_
     refine seq_np ?_
     refine block_cut (A := (List Int)) (fun a => ([(0, .sl l.length (fl l)), (1, iS task), (7, .ptr 0 0), (12, .own 1 0 a.length), (40, .sl cases.length (fl cases)), (41, iS ((cases.length : Nat) : Int)), (42, iS t42q7)], [(0, .row 29 [iS 0, iS 0]), (1, .row 3 (fl a))], 2)) (fun a => (pick_Ready_j1 l task cases t42q7 a) = some o4) (fun K6029 hK6029 => ?_) ?_
     ·refine chk_sx h (fun g6033 h => ?_)
      refine seq_np ?_
      refine reg_f ?_
      have k6032 : 0 ≤ t42q7 ∧ t42q7 < ((cases.length : Nat) : Int) := by first | simpa only [Bool.and_eq_true, decide_eq_true_eq, bne_iff_ne, ne_eq] using g6033 | (simp at g6033 ⊢; omega)
      refine rs 6 [none, some ⟨.iptr (fl cases) ((t42q7).toNat * 3), [], 2, []⟩, some ⟨.agg (Enc.cells (ix cases t42q7)), [], 2, []⟩] _ (by kernel_rfl) (allP_cons (ob_ldw cases t42q7 3 ((t42q7).toNat * 3) k6032 rfl (by first | rfl | omega) [iS (ix cases t42q7).Pipe, bS (ix cases t42q7).Send, iS (ix cases t42q7).Value] rfl 2 []) (allP_cons (ob_ix_l cases 3 2 t42q7 k6032) allP_nil)) ?_
      refine rf [(0, .sl l.length (fl l)), (1, iS task), (7, .ptr 0 0), (12, .own 1 0 c1q26.length), (13, iS t42q7), (14, .ptr 2 0), (40, .sl cases.length (fl cases)), (41, iS ((cases.length : Nat) : Int)), (42, iS t42q7)] [(0, .row 29 [iS 0, iS 0]), (1, .row 3 (fl c1q26)), (2, .row 49 (Enc.cells (ix cases t42q7)))] 3 (by kernel_rfl) ?_
      refine wk_id ?_
      refine seq_np ?_
      refine reg_t ?_
      refine rs 1 [] [] (by kernel_rfl) allP_nil ?_
      obtain ⟨r6037, hr6037, h⟩ := bind_sx h
      refine call_x (pick_copied_spec l r6037 hr6037) (args := [.sl l.length (fl l)]) (dst := (some 48)) (by kernel_rfl) [(0, .row 29 [iS 0, iS 0]), (1, .row 3 (fl c1q26)), (2, .row 49 (Enc.cells (ix cases t42q7)))] 4 (by kernel_rfl) [] [] (.own 4 0 r6037.length) [(4, .row 57 (flD dPipe [5, 6, 7] r6037)), ((.s 5 0), .fam (famD dPipe 0 r6037)), ((.s 6 0), .fam (famD dPipe 1 r6037)), ((.s 7 0), .fam (famD dPipe 2 r6037))] (by simp only [push_cast, leL_flD, renL_flD, seval]) (by simp only [push_cast, leL_flD, renL_flD, seval]) (by kernel_rfl) (.inl rfl) (by first | (simp only [push_cast, leL_flD, renL_flD, seval]; done) | (simp only [push_cast, leL_flD, renL_flD, seval]; kernel_rfl) | kernel_rfl) (by first | (simp only [push_cast, leL_flD, renL_flD, seval]; done) | (simp only [push_cast, leL_flD, renL_flD, seval]; kernel_rfl) | kernel_rfl) ?_
      refine rs 3 [] [] (by kernel_rfl) allP_nil ?_
      obtain ⟨r6038, hr6038, h⟩ := bind_sx h
      refine call_x (pick_hub_once_1_spec task t42q7 (ix cases t42q7) r6037 r6038 hr6038) (args := [.own 4 0 r6037.length, iS task, iS t42q7, .agg (Enc.cells (ix cases t42q7))]) (dst := (some 52)) (by kernel_rfl) [(0, .row 29 [iS 0, iS 0]), (1, .row 3 (fl c1q26)), (2, .row 49 (Enc.cells (ix cases t42q7))), (4, .row 57 (flD dPipe [5, 6, 7] r6037)), ((.s 5 0), .fam (famD dPipe 0 r6037)), ((.s 6 0), .fam (famD dPipe 1 r6037)), ((.s 7 0), .fam (famD dPipe 2 r6037))] 12 (by kernel_rfl) [(0, 4), ((.s 1 0), (.s 5 0)), ((.s 2 0), (.s 6 0)), ((.s 3 0), (.s 7 0))] [] (.agg [bS r6038.1, bS r6038.2.1, bS r6038.2.2.1, iS r6038.2.2.2.1, iS r6038.2.2.2.2.1, .own 16 0 r6038.2.2.2.2.2.1.length]) [(4, .row 57 (flD dPipe [17, 18, 19] r6038.2.2.2.2.2.2)), ((.s 5 0), .dead), ((.s 6 0), .dead), ((.s 7 0), .dead), (16, .row 64 (fl r6038.2.2.2.2.2.1)), ((.s 17 0), .fam (famD dPipe 0 r6038.2.2.2.2.2.2)), ((.s 18 0), .fam (famD dPipe 1 r6038.2.2.2.2.2.2)), ((.s 19 0), .fam (famD dPipe 2 r6038.2.2.2.2.2.2)), (4, .dead), ((.s 5 0), .dead), ((.s 6 0), .dead), ((.s 7 0), .dead)] (by simp only [push_cast, leL_flD, renL_flD, seval]) (by simp only [push_cast, leL_flD, renL_flD, seval]) (by kernel_rfl) (.inl rfl) (by first | (simp only [push_cast, leL_flD, renL_flD, seval]; done) | (simp only [push_cast, leL_flD, renL_flD, seval]; kernel_rfl) | kernel_rfl) (by first | (simp only [push_cast, leL_flD, renL_flD, seval]; done) | (simp only [push_cast, leL_flD, renL_flD, seval]; kernel_rfl) | kernel_rfl) ?_ (hfam := (And.intro trivial (And.intro (fun _ => Or.inl rfl) (And.intro (fun _ => Or.inl rfl) (And.intro (fun _ => Or.inl rfl) trivial)))))
      refine rs 1 [] [] (by kernel_rfl) allP_nil ?_
      refine rt [(0, .sl l.length (fl l)), (1, iS task), (7, .ptr 0 0), (12, .own 1 0 c1q26.length), (13, iS t42q7), (40, .sl cases.length (fl cases)), (41, iS ((cases.length : Nat) : Int)), (42, iS t42q7), (53, bS r6038.1)] [(0, .row 29 [iS 0, iS 0]), (1, .row 3 (fl c1q26)), (2, .row 49 (Enc.cells (ix cases t42q7))), (4, .row 57 (flD dPipe [17, 18, 19] r6038.2.2.2.2.2.2)), ((.s 5 0), .dead), ((.s 6 0), .dead), ((.s 7 0), .dead), (16, .row 64 (fl r6038.2.2.2.2.2.1)), ((.s 17 0), .fam (famD dPipe 0 r6038.2.2.2.2.2.2)), ((.s 18 0), .fam (famD dPipe 1 r6038.2.2.2.2.2.2)), ((.s 19 0), .fam (famD dPipe 2 r6038.2.2.2.2.2.2))] 22 follows (by kernel_rfl) ?_
      refine wk_id ?_
      refine cond_sx h (by kernel_rfl) (fun g6044 h => ?_) (fun g6044 h => ?_)
      ·refine chk_sx h (fun g6043 h => ?_)
       refine reg_f ?_
       have k6042 : (c1q26 ++ ([t42q7] : List Int)).length * 8 ≤ 140737488355328 := by first | simpa only [Bool.and_eq_true, decide_eq_true_eq, bne_iff_ne, ne_eq] using g6043 | (simp at g6043 ⊢; omega)
       refine rs 5 [none, none, none, some ⟨.own 23 0 (c1q26 ++ ([t42q7] : List Int)).length, [(23, .row 3 (fl (c1q26 ++ ([t42q7] : List Int)))), (1, .dead)], 24, [1, 22]⟩] _ (by kernel_rfl) (allP_cons (ob_app (P := Try.prog) c1q26 ([t42q7] : List Int) 1 8 rfl (appCells (fl ([t42q7] : List Int)) 0 (([t42q7] : List Int).length * 1)) ([t42q7] : List Int).length (app_own ([t42q7] : List Int) 1 rfl) rfl (0 + ([t42q7] : List Int).length * 1 ≤ (fl ([t42q7] : List Int)).length) (app_own_le ([t42q7] : List Int) 1 rfl) 3 (by kernel_rfl) (by decide) k6042 1 23 [22]) allP_nil) ?_
       refine rf [(0, .sl l.length (fl l)), (1, iS task), (7, .ptr 0 0), (12, .own 23 0 (c1q26 ++ ([t42q7] : List Int)).length), (40, .sl cases.length (fl cases)), (41, iS ((cases.length : Nat) : Int)), (42, iS t42q7)] [(0, .row 29 [iS 0, iS 0]), (1, .dead), (2, .row 49 (Enc.cells (ix cases t42q7))), (4, .row 57 (flD dPipe [17, 18, 19] r6038.2.2.2.2.2.2)), ((.s 5 0), .dead), ((.s 6 0), .dead), ((.s 7 0), .dead), (16, .row 64 (fl r6038.2.2.2.2.2.1)), ((.s 17 0), .fam (famD dPipe 0 r6038.2.2.2.2.2.2)), ((.s 18 0), .fam (famD dPipe 1 r6038.2.2.2.2.2.2)), ((.s 19 0), .fam (famD dPipe 2 r6038.2.2.2.2.2.2)), (22, .row 3 (fl ([t42q7] : List Int))), (23, .row 3 (fl (c1q26 ++ ([t42q7] : List Int))))] 24 (by kernel_rfl) ?_
       exact hK6029 ((c1q26 ++ ([t42q7] : List Int))) _ _ _ h (leSt_m [(0, 0), (1, 23)] [] (by simp only [push_cast, leL_flD, renL_flD, seval]) (by simp only [push_cast, leL_flD, renL_flD, seval]) rfl rfl rfl)
      ·exact hK6029 (c1q26) _ _ _ h (leSt_m [(0, 0), (1, 1)] [] (by simp only [push_cast, leL_flD, renL_flD, seval]) (by simp only [push_cast, leL_flD, renL_flD, seval]) rfl rfl rfl)
     ·rintro c1q28 h
      try dsimp only at h ⊢
      unfold pick_Ready_j1 at h
      refine wk_id ?_
      refine reg_f ?_
      refine rs 2 [] [] (by kernel_rfl) allP_nil ?_
      refine rf [(0, .sl l.length (fl l)), (1, iS task), (7, .ptr 0 0), (12, .own 1 0 c1q28.length), (40, .sl cases.length (fl cases)), (41, iS ((cases.length : Nat) : Int)), (42, iS (IntKind.i64.wrap (t42q7 + 1)))] [(0, .row 29 [iS 0, iS 0]), (1, .row 3 (fl c1q28))] 2 (by kernel_rfl) ?_
      exact hn4 ((IntKind.i64.wrap (t42q7 + 1)), c1q28) _ _ _ (Option.some.inj h).symm (leSt_m [(0, 0), (1, 1)] [] (by simp only [push_cast, leL_flD, renL_flD, seval]) (by simp only [push_cast, leL_flD, renL_flD, seval]) rfl rfl rfl)
    ·change R4 (.exit 2) _ _ _
     refine ex_cast hx4 (id := 2) ?_
     obtain ⟨r0, h, e0⟩ := map_sx h
     have e1 := hr4 r0 e0.symm
     subst r0
     refine wk_id ?_
     refine wk_id ?_
     refine seq_np ?_
     refine reg_f ?_
     refine rs 4 [] [] (by kernel_rfl) allP_nil ?_
     refine rf [(6, .own 1 0 c1q26.length), (7, .ptr 0 0)] [(0, .row 29 [iS 0, iS 0]), (1, .row 3 (fl c1q26))] 2 (by kernel_rfl) ?_
     refine wk_id ?_
     obtain rfl := Option.some.inj h
     refine ret_at (.tup [.own 1 0 c1q26.length, .agg [iS 0, iS 0]]) (by kernel_rfl) ?_
     exact ret_e [(0, 1)] [] (by simp only [push_cast, leL_flD, renL_flD, seval]) (by simp only [push_cast, leL_flD, renL_flD, seval]) rfl rfl rfl

end Go.Proofs.Ytcpmhpobhnakeaa
