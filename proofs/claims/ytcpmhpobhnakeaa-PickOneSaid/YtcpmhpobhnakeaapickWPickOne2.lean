/-
 What laws of the chapter pick compute, and lemmas on it.
 No conditions.
-/
import Derived.Test.YtcpmhpobhnakeaapickWPickOne1
set_option linter.unusedSimpArgs false
set_option linter.unusedVariables false
namespace Go.Proofs.Ytcpmhpobhnakeaa
open Go Go.Sx
attribute [local irreducible] Wk RunAt
set_option maxRecDepth 100000 in
set_option maxHeartbeats 200000000 in
theorem pick_Pick_spec (l : (List Pipe)) (task : Int) (cases : (List GCase)) (order : (List Int)) (xdef : Bool) (r : Bool × Bool × Bool × Int × Int × Fault × (List Pipe) × (List GWake)) (h : pick_Pick l task cases order xdef = some r) : SpecW Try.prog 13 [.sl l.length (fl l), iS task, .sl cases.length (fl cases), .sl order.length (fl order), bS xdef] [] 0 (fun x h n => x = .tup [.own 0 0 r.2.2.2.2.2.2.1.length, .agg [bS r.1, bS r.2.1, bS r.2.2.1, iS r.2.2.2.1, iS r.2.2.2.2.1, .own 1 0 r.2.2.2.2.2.2.2.length], .agg (Enc.cells r.2.2.2.2.2.1)] ∧ h = [(0, .row 57 (flD dPipe [2, 3, 4] r.2.2.2.2.2.2.1)), (1, .row 64 (fl r.2.2.2.2.2.2.2)), ((.s 2 0), .fam (famD dPipe 0 r.2.2.2.2.2.2.1)), ((.s 3 0), .fam (famD dPipe 1 r.2.2.2.2.2.2.1)), ((.s 4 0), .fam (famD dPipe 2 r.2.2.2.2.2.2.1))] ∧ n = 5) := by
 unfold pick_Pick at h
 refine spec_of (draw_ok _) Try.func13 rfl (by decide) rfl (by kernel_rfl) ?_
 refine seq_np ?_
 refine reg_f ?_
 refine rs 3 [] [] (by kernel_rfl) allP_nil ?_
 refine rf [(0, .sl l.length (fl l)), (1, iS task), (2, .sl cases.length (fl cases)), (3, .sl order.length (fl order)), (4, bS xdef), (11, .ptr 0 0), (12, .ptr 1 0)] [(0, .row 33 [bS false, bS false, bS false, iS 0, iS 0, .v (.slice none 0 0)]), (1, .row 29 [iS 0, iS 0])] 2 (by kernel_rfl) ?_
 refine wk_id ?_
 refine seq_np ?_
 refine seq_np ?_
 refine reg_f ?_
 refine rs 1 [] [] (by kernel_rfl) allP_nil ?_
 obtain ⟨r1764, hr1764, h⟩ := bind_sx h
 refine run_call 12 [.sl l.length (fl l)] (some 24) (by kernel_rfl) ?_
 refine call_0 (pick_Check_spec l r1764 hr1764) (by simp only [push_cast, leL_flD, renL_flD, seval]) (by simp only [push_cast, leL_flD, renL_flD, seval]) ?_
 refine back_f ?_
 refine rs 2 [] [] (by kernel_rfl) allP_nil ?_
 refine rf [(0, .sl l.length (fl l)), (1, iS task), (2, .sl cases.length (fl cases)), (3, .sl order.length (fl order)), (4, bS xdef), (11, .ptr 0 0), (12, .ptr 1 0), (13, .ptr 2 0)] [(0, .row 33 [bS false, bS false, bS false, iS 0, iS 0, .v (.slice none 0 0)]), (1, .row 29 [iS 0, iS 0]), (2, .row 29 (Enc.cells r1764))] 3 (by kernel_rfl) ?_
 refine wk_id ?_
 refine seq_np ?_
 refine reg_f ?_
 refine rs 3 [] [] (by kernel_rfl) allP_nil ?_
 refine rf [(0, .sl l.length (fl l)), (1, iS task), (2, .sl cases.length (fl cases)), (3, .sl order.length (fl order)), (4, bS xdef), (11, .ptr 0 0), (12, .ptr 1 0), (13, .ptr 2 0), (27, bS (r1764.Code != 0))] [(0, .row 33 [bS false, bS false, bS false, iS 0, iS 0, .v (.slice none 0 0)]), (1, .row 29 [iS 0, iS 0]), (2, .row 29 (Enc.cells r1764))] 3 (by kernel_rfl) ?_
 refine wk_id ?_
 refine cond_sx h (by kernel_rfl) (fun g2094 h => ?_) (fun g2094 h => ?_)
 ·refine seq_np ?_
  refine reg_t ?_
  refine rs 5 [] [] (by kernel_rfl) allP_nil ?_
  refine rt [(10, .v (.slice none 0 0)), (11, .ptr 0 0), (12, .ptr 1 0)] [(0, .row 33 [bS false, bS false, bS false, iS 0, iS 0, .v (.slice none 0 0)]), (1, .row 29 (Enc.cells r1764)), (2, .row 29 (Enc.cells r1764))] 8 follows (by kernel_rfl) ?_
  refine wk_id ?_
  obtain rfl := Option.some.inj h
  refine ret_at (.tup [.v (.slice none 0 0), .agg [bS false, bS false, bS false, iS 0, iS 0, .v (.slice none 0 0)], .agg (Enc.cells r1764)]) (by kernel_rfl) ?_
  exact ret_e [] [] (by simp only [push_cast, leL_flD, renL_flD, seval]) (by simp only [push_cast, leL_flD, renL_flD, seval]) rfl rfl rfl
 ·refine wk_id ?_
  refine seq_np ?_
  refine reg_f ?_
  refine rs 1 [] [] (by kernel_rfl) allP_nil ?_
  obtain ⟨r1766, hr1766, h⟩ := bind_sx h
  refine call_x (pick_copied_spec l r1766 hr1766) (args := [.sl l.length (fl l)]) (dst := (some 31)) (by kernel_rfl) [(0, .row 33 [bS false, bS false, bS false, iS 0, iS 0, .v (.slice none 0 0)]), (1, .row 29 [iS 0, iS 0]), (2, .row 29 (Enc.cells r1764))] 3 (by kernel_rfl) [] [] (.own 3 0 r1766.length) [(3, .row 57 (flD dPipe [4, 5, 6] r1766)), ((.s 4 0), .fam (famD dPipe 0 r1766)), ((.s 5 0), .fam (famD dPipe 1 r1766)), ((.s 6 0), .fam (famD dPipe 2 r1766))] (by simp only [push_cast, leL_flD, renL_flD, seval]) (by simp only [push_cast, leL_flD, renL_flD, seval]) (by kernel_rfl) (.inl rfl) (by first | (simp only [push_cast, leL_flD, renL_flD, seval]; done) | (simp only [push_cast, leL_flD, renL_flD, seval]; kernel_rfl) | kernel_rfl) (by first | (simp only [push_cast, leL_flD, renL_flD, seval]; done) | (simp only [push_cast, leL_flD, renL_flD, seval]; kernel_rfl) | kernel_rfl) ?_
  refine rs 1 [] [] (by kernel_rfl) allP_nil ?_
  refine rf [(1, iS task), (2, .sl cases.length (fl cases)), (3, .sl order.length (fl order)), (4, bS xdef), (11, .ptr 0 0), (12, .ptr 1 0), (14, .own 3 0 r1766.length)] [(0, .row 33 [bS false, bS false, bS false, iS 0, iS 0, .v (.slice none 0 0)]), (1, .row 29 [iS 0, iS 0]), (2, .row 29 (Enc.cells r1764)), (3, .row 57 (flD dPipe [4, 5, 6] r1766)), ((.s 4 0), .fam (famD dPipe 0 r1766)), ((.s 5 0), .fam (famD dPipe 1 r1766)), ((.s 6 0), .fam (famD dPipe 2 r1766))] 7 (by kernel_rfl) ?_
  refine wk_id ?_
  refine seq_np ?_
  refine seq_np ?_
  refine reg_f ?_
  refine rs 4 [] [] (by kernel_rfl) allP_nil ?_
  obtain ⟨r1770, hr1770, h⟩ := bind_sx h
  refine call_x (pick_hub_look_spec r1766 task cases order r1770 hr1770) (args := [.own 3 0 r1766.length, iS task, .sl cases.length (fl cases), .sl order.length (fl order)]) (dst := (some 36)) (by kernel_rfl) [(0, .row 33 [bS false, bS false, bS false, iS 0, iS 0, .v (.slice none 0 0)]), (1, .row 29 [iS 0, iS 0]), (2, .row 29 (Enc.cells r1764)), (3, .row 57 (flD dPipe [4, 5, 6] r1766)), ((.s 4 0), .fam (famD dPipe 0 r1766)), ((.s 5 0), .fam (famD dPipe 1 r1766)), ((.s 6 0), .fam (famD dPipe 2 r1766))] 7 (by kernel_rfl) [] [3, (.s 4 0), (.s 5 0), (.s 6 0)] (.agg (Enc.cells r1770)) [] (by simp only [↓leS_frzD dPipe [4, 5, 6] r1766, leS_frz, leL_flD, renL_flD, push_cast, seval]) (by simp only [↓leS_frzD dPipe [4, 5, 6] r1766, leS_frz, leL_flD, renL_flD, push_cast, seval]) (by kernel_rfl) (.inr ⟨by simp only [push_cast, leL_flD, renL_flD, seval], by simp only [push_cast, leL_flD, renL_flD, seval]⟩) (by simp only [push_cast, leL_flD, renL_flD, seval]) (by simp only [push_cast, leL_flD, renL_flD, seval]) ?_
  refine rs 2 [] [] (by kernel_rfl) allP_nil ?_
  refine rf [(1, iS task), (2, .sl cases.length (fl cases)), (3, .sl order.length (fl order)), (4, bS xdef), (11, .ptr 0 0), (12, .ptr 1 0), (14, .own 3 0 r1766.length), (15, .ptr 7 0)] [(0, .row 33 [bS false, bS false, bS false, iS 0, iS 0, .v (.slice none 0 0)]), (1, .row 29 [iS 0, iS 0]), (2, .row 29 (Enc.cells r1764)), (3, .row 57 (flD dPipe [4, 5, 6] r1766)), ((.s 4 0), .fam (famD dPipe 0 r1766)), ((.s 5 0), .fam (famD dPipe 1 r1766)), ((.s 6 0), .fam (famD dPipe 2 r1766)), (7, .row 29 (Enc.cells r1770))] 8 (by kernel_rfl) ?_
  refine wk_id ?_
  refine seq_np ?_
  refine reg_f ?_
  refine rs 3 [] [] (by kernel_rfl) allP_nil ?_
  refine rf [(1, iS task), (2, .sl cases.length (fl cases)), (3, .sl order.length (fl order)), (4, bS xdef), (11, .ptr 0 0), (12, .ptr 1 0), (14, .own 3 0 r1766.length), (15, .ptr 7 0), (39, bS (r1770.Code != 0))] [(0, .row 33 [bS false, bS false, bS false, iS 0, iS 0, .v (.slice none 0 0)]), (1, .row 29 [iS 0, iS 0]), (2, .row 29 (Enc.cells r1764)), (3, .row 57 (flD dPipe [4, 5, 6] r1766)), ((.s 4 0), .fam (famD dPipe 0 r1766)), ((.s 5 0), .fam (famD dPipe 1 r1766)), ((.s 6 0), .fam (famD dPipe 2 r1766)), (7, .row 29 (Enc.cells r1770))] 8 (by kernel_rfl) ?_
  refine wk_id ?_
  refine cond_sx h (by kernel_rfl) (fun g2093 h => ?_) (fun g2093 h => ?_)
  ·refine seq_np ?_
   refine reg_t ?_
   refine rs 5 [] [] (by kernel_rfl) allP_nil ?_
   refine rt [(10, .v (.slice none 0 0)), (11, .ptr 0 0), (12, .ptr 1 0)] [(0, .row 33 [bS false, bS false, bS false, iS 0, iS 0, .v (.slice none 0 0)]), (1, .row 29 (Enc.cells r1770)), (2, .row 29 (Enc.cells r1764)), (3, .row 57 (flD dPipe [4, 5, 6] r1766)), ((.s 4 0), .fam (famD dPipe 0 r1766)), ((.s 5 0), .fam (famD dPipe 1 r1766)), ((.s 6 0), .fam (famD dPipe 2 r1766)), (7, .row 29 (Enc.cells r1770))] 13 follows (by kernel_rfl) ?_
   refine wk_id ?_
   obtain rfl := Option.some.inj h
   refine ret_at (.tup [.v (.slice none 0 0), .agg [bS false, bS false, bS false, iS 0, iS 0, .v (.slice none 0 0)], .agg (Enc.cells r1770)]) (by kernel_rfl) ?_
   exact ret_e [] [] (by simp only [push_cast, leL_flD, renL_flD, seval]) (by simp only [push_cast, leL_flD, renL_flD, seval]) rfl rfl rfl
  ·refine wk_id ?_
   refine seq_np ?_
   refine seq_np ?_
   refine reg_f ?_
   refine rs 3 [] [] (by kernel_rfl) allP_nil ?_
   refine rf [(1, iS task), (2, .sl cases.length (fl cases)), (4, bS xdef), (11, .ptr 0 0), (12, .ptr 1 0), (14, .own 3 0 r1766.length), (42, .sl order.length (fl order)), (43, iS ((order.length : Nat) : Int)), (44, iS 0)] [(0, .row 33 [bS false, bS false, bS false, iS 0, iS 0, .v (.slice none 0 0)]), (1, .row 29 [iS 0, iS 0]), (2, .row 29 (Enc.cells r1764)), (3, .row 57 (flD dPipe [4, 5, 6] r1766)), ((.s 4 0), .fam (famD dPipe 0 r1766)), ((.s 5 0), .fam (famD dPipe 1 r1766)), ((.s 6 0), .fam (famD dPipe 2 r1766)), (7, .row 29 (Enc.cells r1770))] 8 (by kernel_rfl) ?_
   refine wk_id ?_
   refine block_np ?_
   refine loop_sx (S := Int × (List Pipe)) (fun a => ([(1, iS task), (2, .sl cases.length (fl cases)), (4, bS xdef), (11, .ptr 0 0), (12, .ptr 1 0), (14, .own 2 0 a.2.length), (42, .sl order.length (fl order)), (43, iS ((order.length : Nat) : Int)), (44, iS a.1)], [(0, .row 33 [bS false, bS false, bS false, iS 0, iS 0, .v (.slice none 0 0)]), (1, .row 29 [iS 0, iS 0]), (2, .row 57 (flD dPipe [3, 4, 5] a.2)), ((.s 3 0), .fam (famD dPipe 0 a.2)), ((.s 4 0), .fam (famD dPipe 1 a.2)), ((.s 5 0), .fam (famD dPipe 2 a.2))], 6)) h (leSt_m [(0, 0), (1, 1), (2, 3), ((.s 3 0), (.s 4 0)), ((.s 4 0), (.s 5 0)), ((.s 5 0), (.s 6 0))] [] (by simp only [push_cast, leL_flD, renL_flD, seval]) (by simp only [push_cast, leL_flD, renL_flD, seval]) rfl rfl rfl) ?_
   rintro ⟨t44q7, c2q16⟩ o3 R3 h hr3 hn3 hx3 ht3
   try dsimp only at h hn3 ⊢
   unfold pick_Pick_l2 at h
   try dsimp only at h
   refine seq_np ?_
   refine reg_f ?_
   refine rs 1 [] [] (by kernel_rfl) allP_nil ?_
   refine rf [(1, iS task), (2, .sl cases.length (fl cases)), (4, bS xdef), (11, .ptr 0 0), (12, .ptr 1 0), (14, .own 2 0 c2q16.length), (42, .sl order.length (fl order)), (43, iS ((order.length : Nat) : Int)), (44, iS t44q7), (45, bS (decide (t44q7 < ((order.length : Nat) : Int))))] [(0, .row 33 [bS false, bS false, bS false, iS 0, iS 0, .v (.slice none 0 0)]), (1, .row 29 [iS 0, iS 0]), (2, .row 57 (flD dPipe [3, 4, 5] c2q16)), ((.s 3 0), .fam (famD dPipe 0 c2q16)), ((.s 4 0), .fam (famD dPipe 1 c2q16)), ((.s 5 0), .fam (famD dPipe 2 c2q16))] 6 (by kernel_rfl) ?_
   refine wk_id ?_
   refine seq_np ?_
   refine cond_sx h (by kernel_rfl) (fun g2092 h => ?_) (fun g2092 h => ?_)
   ·refine wk_id ?_
    refine seq_np ?_
    refine block_np ?_
    refine chk_sx h (fun g1916 h => ?_)
    refine seq_np ?_
    refine reg_f ?_
    have k1915 : 0 ≤ t44q7 ∧ t44q7 < ((order.length : Nat) : Int) := by first | simpa only [Bool.and_eq_true, decide_eq_true_eq, bne_iff_ne, ne_eq] using g1916 | (simp at g1916 ⊢; omega)
    refine rs 3 [some ⟨.iptr (fl order) ((t44q7).toNat * 1), [], 6, []⟩, some ⟨iS (ix order t44q7), [], 6, []⟩] _ (by kernel_rfl) (allP_cons (ob_ld order t44q7 1 0 ((t44q7).toNat * 1) k1915 rfl (by decide) (by first | rfl | omega) (dflS Try.prog 3) (iS (ix order t44q7)) rfl 6 []) (allP_cons (ob_ix_l order 1 6 t44q7 k1915) allP_nil)) ?_
    refine rf [(1, iS task), (2, .sl cases.length (fl cases)), (4, bS xdef), (11, .ptr 0 0), (12, .ptr 1 0), (14, .own 2 0 c2q16.length), (17, iS (ix order t44q7)), (42, .sl order.length (fl order)), (43, iS ((order.length : Nat) : Int)), (44, iS t44q7)] [(0, .row 33 [bS false, bS false, bS false, iS 0, iS 0, .v (.slice none 0 0)]), (1, .row 29 [iS 0, iS 0]), (2, .row 57 (flD dPipe [3, 4, 5] c2q16)), ((.s 3 0), .fam (famD dPipe 0 c2q16)), ((.s 4 0), .fam (famD dPipe 1 c2q16)), ((.s 5 0), .fam (famD dPipe 2 c2q16))] 6 (by kernel_rfl) ?_
    refine wk_id ?_
    refine chk_sx h (fun g1923 h => ?_)
    refine seq_np ?_
    refine reg_f ?_
    have k1922 : 0 ≤ (ix order t44q7) ∧ (ix order t44q7) < ((cases.length : Nat) : Int) := by first | simpa only [Bool.and_eq_true, decide_eq_true_eq, bne_iff_ne, ne_eq] using g1923 | (simp at g1923 ⊢; omega)
    refine rs 7 [none, none, none, none, none, some ⟨.iptr (fl cases) (((ix order t44q7)).toNat * 3), [], 6, []⟩, some ⟨.agg (Enc.cells (ix cases (ix order t44q7))), [], 6, []⟩] _ (by kernel_rfl) (allP_cons (ob_ldw cases (ix order t44q7) 3 (((ix order t44q7)).toNat * 3) k1922 rfl (by first | rfl | omega) [iS (ix cases (ix order t44q7)).Pipe, bS (ix cases (ix order t44q7)).Send, iS (ix cases (ix order t44q7)).Value] rfl 6 []) (allP_cons (ob_ix_l cases 3 6 (ix order t44q7) k1922) allP_nil)) ?_
    obtain ⟨r1924, hr1924, h⟩ := bind_sx h
    refine call_x (pick_hub_once_1_spec task (ix order t44q7) (ix cases (ix order t44q7)) c2q16 r1924 hr1924) (args := [.own 2 0 c2q16.length, iS task, iS (ix order t44q7), .agg (Enc.cells (ix cases (ix order t44q7)))]) (dst := (some 55)) (by kernel_rfl) [(0, .row 33 [bS false, bS false, bS false, iS 0, iS 0, .v (.slice none 0 0)]), (1, .row 29 [iS 0, iS 0]), (2, .row 57 (flD dPipe [3, 4, 5] c2q16)), ((.s 3 0), .fam (famD dPipe 0 c2q16)), ((.s 4 0), .fam (famD dPipe 1 c2q16)), ((.s 5 0), .fam (famD dPipe 2 c2q16))] 6 (by kernel_rfl) [(0, 2), ((.s 1 0), (.s 3 0)), ((.s 2 0), (.s 4 0)), ((.s 3 0), (.s 5 0))] [] (.agg [bS r1924.1, bS r1924.2.1, bS r1924.2.2.1, iS r1924.2.2.2.1, iS r1924.2.2.2.2.1, .own 10 0 r1924.2.2.2.2.2.1.length]) [(2, .row 57 (flD dPipe [11, 12, 13] r1924.2.2.2.2.2.2)), ((.s 3 0), .dead), ((.s 4 0), .dead), ((.s 5 0), .dead), (10, .row 64 (fl r1924.2.2.2.2.2.1)), ((.s 11 0), .fam (famD dPipe 0 r1924.2.2.2.2.2.2)), ((.s 12 0), .fam (famD dPipe 1 r1924.2.2.2.2.2.2)), ((.s 13 0), .fam (famD dPipe 2 r1924.2.2.2.2.2.2)), (2, .dead), ((.s 3 0), .dead), ((.s 4 0), .dead), ((.s 5 0), .dead)] (by simp only [push_cast, leL_flD, renL_flD, seval]) (by simp only [push_cast, leL_flD, renL_flD, seval]) (by kernel_rfl) (.inl rfl) (by first | (simp only [push_cast, leL_flD, renL_flD, seval]; done) | (simp only [push_cast, leL_flD, renL_flD, seval]; kernel_rfl) | kernel_rfl) (by first | (simp only [push_cast, leL_flD, renL_flD, seval]; done) | (simp only [push_cast, leL_flD, renL_flD, seval]; kernel_rfl) | kernel_rfl) ?_ (hfam := (And.intro trivial (And.intro (fun _ => Or.inl rfl) (And.intro (fun _ => Or.inl rfl) (And.intro (fun _ => Or.inl rfl) trivial)))))
    refine chk_sx h (fun g1926 h => ?_)
    have e1925 : c2q16.length = r1924.2.2.2.2.2.2.length := (of_decide_eq_true g1926).symm
    refine run_eqF 14 (.own 2 0 c2q16.length) (.own 2 0 r1924.2.2.2.2.2.2.length) (congrArg (fun nq => (.own 2 0 nq : SV)) (show c2q16.length = r1924.2.2.2.2.2.2.length from e1925)) (by kernel_rfl) ?_
    refine rs 2 [] [] (by kernel_rfl) allP_nil ?_
    refine rf [(1, iS task), (2, .sl cases.length (fl cases)), (4, bS xdef), (11, .ptr 0 0), (12, .ptr 1 0), (14, .own 2 0 r1924.2.2.2.2.2.2.length), (18, .ptr 14 0), (42, .sl order.length (fl order)), (43, iS ((order.length : Nat) : Int)), (44, iS t44q7)] [(0, .row 33 [bS false, bS false, bS false, iS 0, iS 0, .v (.slice none 0 0)]), (1, .row 29 [iS 0, iS 0]), (2, .row 57 (flD dPipe [11, 12, 13] r1924.2.2.2.2.2.2)), ((.s 3 0), .dead), ((.s 4 0), .dead), ((.s 5 0), .dead), (10, .row 64 (fl r1924.2.2.2.2.2.1)), ((.s 11 0), .fam (famD dPipe 0 r1924.2.2.2.2.2.2)), ((.s 12 0), .fam (famD dPipe 1 r1924.2.2.2.2.2.2)), ((.s 13 0), .fam (famD dPipe 2 r1924.2.2.2.2.2.2)), (14, .row 33 [bS r1924.1, bS r1924.2.1, bS r1924.2.2.1, iS r1924.2.2.2.1, iS r1924.2.2.2.2.1, .own 10 0 r1924.2.2.2.2.2.1.length])] 15 (by kernel_rfl) ?_
    refine wk_id ?_
    refine seq_np ?_
    refine reg_f ?_
    refine rs 2 [] [] (by kernel_rfl) allP_nil ?_
    refine rf [(1, iS task), (2, .sl cases.length (fl cases)), (4, bS xdef), (11, .ptr 0 0), (12, .ptr 1 0), (14, .own 2 0 r1924.2.2.2.2.2.2.length), (18, .ptr 14 0), (42, .sl order.length (fl order)), (43, iS ((order.length : Nat) : Int)), (44, iS t44q7), (57, bS r1924.1)] [(0, .row 33 [bS false, bS false, bS false, iS 0, iS 0, .v (.slice none 0 0)]), (1, .row 29 [iS 0, iS 0]), (2, .row 57 (flD dPipe [11, 12, 13] r1924.2.2.2.2.2.2)), ((.s 3 0), .dead), ((.s 4 0), .dead), ((.s 5 0), .dead), (10, .row 64 (fl r1924.2.2.2.2.2.1)), ((.s 11 0), .fam (famD dPipe 0 r1924.2.2.2.2.2.2)), ((.s 12 0), .fam (famD dPipe 1 r1924.2.2.2.2.2.2)), ((.s 13 0), .fam (famD dPipe 2 r1924.2.2.2.2.2.2)), (14, .row 33 [bS r1924.1, bS r1924.2.1, bS r1924.2.2.1, iS r1924.2.2.2.1, iS r1924.2.2.2.2.1, .own 10 0 r1924.2.2.2.2.2.1.length])] 15 (by kernel_rfl) ?_
    refine wk_id ?_
    refine cond_sx h (by kernel_rfl) (fun g1937 h => ?_) (fun g1937 h => ?_)
    ·refine seq_np ?_
     refine reg_f ?_
     refine rs 3 [] [] (by kernel_rfl) allP_nil ?_
     obtain ⟨r1932, hr1932, h⟩ := bind_sx h
     refine call_x (pick_hub_wake_1_spec r1924.2.2.2.2.2.2 r1924.2.2.2.2.2.1 r1932 hr1932) (args := [.own 2 0 r1924.2.2.2.2.2.2.length, .own 10 0 r1924.2.2.2.2.2.1.length]) (dst := (some 61)) (by kernel_rfl) [(0, .row 33 [bS false, bS false, bS false, iS 0, iS 0, .v (.slice none 0 0)]), (1, .row 29 [iS 0, iS 0]), (2, .row 57 (flD dPipe [11, 12, 13] r1924.2.2.2.2.2.2)), ((.s 3 0), .dead), ((.s 4 0), .dead), ((.s 5 0), .dead), (10, .row 64 (fl r1924.2.2.2.2.2.1)), ((.s 11 0), .fam (famD dPipe 0 r1924.2.2.2.2.2.2)), ((.s 12 0), .fam (famD dPipe 1 r1924.2.2.2.2.2.2)), ((.s 13 0), .fam (famD dPipe 2 r1924.2.2.2.2.2.2)), (14, .row 33 [bS r1924.1, bS r1924.2.1, bS r1924.2.2.1, iS r1924.2.2.2.1, iS r1924.2.2.2.2.1, .own 10 0 r1924.2.2.2.2.2.1.length])] 15 (by kernel_rfl) [(0, 2), ((.s 1 0), (.s 11 0)), ((.s 2 0), (.s 12 0)), ((.s 3 0), (.s 13 0)), (4, 10)] [] (.tup []) [(2, .row 57 (flD dPipe [11, 20, 21] r1932.1)), ((.s 11 0), .fam (famD dPipe 0 r1932.1)), ((.s 12 0), .dead), ((.s 13 0), .dead), (10, .row 64 (fl r1932.2)), ((.s 20 0), .fam (famD dPipe 1 r1932.1)), ((.s 21 0), .fam (famD dPipe 2 r1932.1)), (2, .dead), ((.s 11 0), .dead), ((.s 12 0), .dead), ((.s 13 0), .dead), (10, .dead)] (by simp only [push_cast, leL_flD, renL_flD, seval]) (by simp only [push_cast, leL_flD, renL_flD, seval]) (by kernel_rfl) (.inl rfl) (by first | (simp only [push_cast, leL_flD, renL_flD, seval]; done) | (simp only [push_cast, leL_flD, renL_flD, seval]; kernel_rfl) | kernel_rfl) (by first | (simp only [push_cast, leL_flD, renL_flD, seval]; done) | (simp only [push_cast, leL_flD, renL_flD, seval]; kernel_rfl) | kernel_rfl) ?_ (hfam := (And.intro trivial (And.intro (fun _ => Or.inl rfl) (And.intro (fun _ => Or.inl rfl) (And.intro (fun _ => Or.inl rfl) (And.intro trivial trivial))))))
     refine chk_sx h (fun g1934 h => ?_)
     have e1933 : r1924.2.2.2.2.2.2.length = r1932.1.length := (of_decide_eq_true g1934).symm
     refine run_eqF 14 (.own 2 0 r1924.2.2.2.2.2.2.length) (.own 2 0 r1932.1.length) (congrArg (fun nq => (.own 2 0 nq : SV)) (show r1924.2.2.2.2.2.2.length = r1932.1.length from e1933)) (by kernel_rfl) ?_
     refine chk_sx h (fun g1936 h => ?_)
     have e1935 : r1924.2.2.2.2.2.1.length = r1932.2.length := (of_decide_eq_true g1936).symm
     refine run_eqH 14 (.row 33 [bS r1924.1, bS r1924.2.1, bS r1924.2.2.1, iS r1924.2.2.2.1, iS r1924.2.2.2.2.1, .own 10 0 r1924.2.2.2.2.2.1.length]) (.row 33 [bS r1924.1, bS r1924.2.1, bS r1924.2.2.1, iS r1924.2.2.2.1, iS r1924.2.2.2.2.1, .own 10 0 r1932.2.length]) (congrArg (fun nq => (.row 33 [bS r1924.1, bS r1924.2.1, bS r1924.2.2.1, iS r1924.2.2.2.1, iS r1924.2.2.2.2.1, .own 10 0 nq] : Chunk)) (show r1924.2.2.2.2.2.1.length = r1932.2.length from e1935)) (by kernel_rfl) ?_
     refine rf [(11, .ptr 0 0), (12, .ptr 1 0), (14, .own 2 0 r1932.1.length), (18, .ptr 14 0)] [(0, .row 33 [bS false, bS false, bS false, iS 0, iS 0, .v (.slice none 0 0)]), (1, .row 29 [iS 0, iS 0]), (2, .row 57 (flD dPipe [11, 20, 21] r1932.1)), ((.s 3 0), .dead), ((.s 4 0), .dead), ((.s 5 0), .dead), (10, .row 64 (fl r1932.2)), ((.s 11 0), .fam (famD dPipe 0 r1932.1)), ((.s 12 0), .dead), ((.s 13 0), .dead), (14, .row 33 [bS r1924.1, bS r1924.2.1, bS r1924.2.2.1, iS r1924.2.2.2.1, iS r1924.2.2.2.2.1, .own 10 0 r1932.2.length]), ((.s 20 0), .fam (famD dPipe 1 r1932.1)), ((.s 21 0), .fam (famD dPipe 2 r1932.1))] 22 (by kernel_rfl) ?_
     refine wk_id ?_
     refine seq_np ?_
     refine reg_t ?_
     refine rs 6 [] [] (by kernel_rfl) allP_nil ?_
     refine rt [(10, .own 2 0 r1932.1.length), (11, .ptr 0 0), (12, .ptr 1 0)] [(0, .row 33 [bS r1924.1, bS r1924.2.1, bS r1924.2.2.1, iS r1924.2.2.2.1, iS r1924.2.2.2.2.1, .own 10 0 r1932.2.length]), (1, .row 29 [iS 0, iS 0]), (2, .row 57 (flD dPipe [11, 20, 21] r1932.1)), ((.s 3 0), .dead), ((.s 4 0), .dead), ((.s 5 0), .dead), (10, .row 64 (fl r1932.2)), ((.s 11 0), .fam (famD dPipe 0 r1932.1)), ((.s 12 0), .dead), ((.s 13 0), .dead), (14, .row 33 [bS r1924.1, bS r1924.2.1, bS r1924.2.2.1, iS r1924.2.2.2.1, iS r1924.2.2.2.2.1, .own 10 0 r1932.2.length]), ((.s 20 0), .fam (famD dPipe 1 r1932.1)), ((.s 21 0), .fam (famD dPipe 2 r1932.1))] 28 follows (by kernel_rfl) ?_
     refine wk_id ?_
     refine rt_cast ht3 ?_
     obtain ⟨r0, h, e0⟩ := map_sx h
     have e1 := hr3 r0 e0.symm
     subst r0
     obtain rfl := Option.some.inj h
     refine ret_at (.tup [.own 2 0 r1932.1.length, .agg [bS r1924.1, bS r1924.2.1, bS r1924.2.2.1, iS r1924.2.2.2.1, iS r1924.2.2.2.2.1, .own 10 0 r1932.2.length], .agg [iS 0, iS 0]]) (by kernel_rfl) ?_
     exact ret_e [(0, 2), (1, 10), ((.s 2 0), (.s 11 0)), ((.s 3 0), (.s 20 0)), ((.s 4 0), (.s 21 0))] [] (by simp only [push_cast, leL_flD, renL_flD, seval]) (by simp only [push_cast, leL_flD, renL_flD, seval]) rfl rfl rfl
    ·refine wk_id ?_
     refine wk_id ?_
     refine reg_f ?_
     refine rs 2 [] [] (by kernel_rfl) allP_nil ?_
     refine rf [(1, iS task), (2, .sl cases.length (fl cases)), (4, bS xdef), (11, .ptr 0 0), (12, .ptr 1 0), (14, .own 2 0 r1924.2.2.2.2.2.2.length), (42, .sl order.length (fl order)), (43, iS ((order.length : Nat) : Int)), (44, iS (IntKind.i64.wrap (t44q7 + 1)))] [(0, .row 33 [bS false, bS false, bS false, iS 0, iS 0, .v (.slice none 0 0)]), (1, .row 29 [iS 0, iS 0]), (2, .row 57 (flD dPipe [11, 12, 13] r1924.2.2.2.2.2.2)), ((.s 3 0), .dead), ((.s 4 0), .dead), ((.s 5 0), .dead), (10, .row 64 (fl r1924.2.2.2.2.2.1)), ((.s 11 0), .fam (famD dPipe 0 r1924.2.2.2.2.2.2)), ((.s 12 0), .fam (famD dPipe 1 r1924.2.2.2.2.2.2)), ((.s 13 0), .fam (famD dPipe 2 r1924.2.2.2.2.2.2)), (14, .row 33 [bS r1924.1, bS r1924.2.1, bS r1924.2.2.1, iS r1924.2.2.2.1, iS r1924.2.2.2.2.1, .own 10 0 r1924.2.2.2.2.2.1.length])] 15 (by kernel_rfl) ?_
     exact hn3 ((IntKind.i64.wrap (t44q7 + 1)), r1924.2.2.2.2.2.2) _ _ _ (Option.some.inj h).symm (leSt_m [(0, 0), (1, 1), (2, 2), ((.s 3 0), (.s 11 0)), ((.s 4 0), (.s 12 0)), ((.s 5 0), (.s 13 0))] [] (by simp only [push_cast, leL_flD, renL_flD, seval]) (by simp only [push_cast, leL_flD, renL_flD, seval]) rfl rfl rfl)
   ·change R3 (.exit 0) _ _ _
    refine ex_cast hx3 (id := 0) ?_
    obtain ⟨r0, h, e0⟩ := map_sx h
    have e1 := hr3 r0 e0.symm
    subst r0
    refine wk_id ?_
    refine wk_id ?_
    refine seq_np ?_
    refine seq_np ?_
    refine reg_f ?_
    refine rs 1 [] [] (by kernel_rfl) allP_nil ?_
    refine rf [(1, iS task), (2, .sl cases.length (fl cases)), (11, .ptr 0 0), (12, .ptr 1 0), (14, .own 2 0 c2q16.length), (66, bS xdef)] [(0, .row 33 [bS false, bS false, bS false, iS 0, iS 0, .v (.slice none 0 0)]), (1, .row 29 [iS 0, iS 0]), (2, .row 57 (flD dPipe [3, 4, 5] c2q16)), ((.s 3 0), .fam (famD dPipe 0 c2q16)), ((.s 4 0), .fam (famD dPipe 1 c2q16)), ((.s 5 0), .fam (famD dPipe 2 c2q16))] 6 (by kernel_rfl) ?_
    refine wk_id ?_
    refine cond_sx h (by kernel_rfl) (fun g2091 h => ?_) (fun g2091 h => ?_)
    ·refine seq_np ?_
     refine reg_f ?_
     refine rs 6 [] [] (by kernel_rfl) allP_nil ?_
     refine rf [(10, .own 2 0 c2q16.length), (11, .ptr 0 0), (12, .ptr 1 0)] [(0, .row 33 [bS true, bS false, bS false, iS 0, iS (-1), .v (.slice none 0 0)]), (1, .row 29 [iS 0, iS 0]), (2, .row 57 (flD dPipe [3, 4, 5] c2q16)), ((.s 3 0), .fam (famD dPipe 0 c2q16)), ((.s 4 0), .fam (famD dPipe 1 c2q16)), ((.s 5 0), .fam (famD dPipe 2 c2q16))] 6 (by kernel_rfl) ?_
     refine wk_id ?_
     obtain rfl := Option.some.inj h
     refine ret_at (.tup [.own 2 0 c2q16.length, .agg [bS true, bS false, bS false, iS 0, iS (-1), .v (.slice none 0 0)], .agg [iS 0, iS 0]]) (by kernel_rfl) ?_
     exact ret_e [(0, 2), ((.s 2 0), (.s 3 0)), ((.s 3 0), (.s 4 0)), ((.s 4 0), (.s 5 0))] [] (by simp only [push_cast, leL_flD, renL_flD, seval]) (by simp only [push_cast, leL_flD, renL_flD, seval]) rfl rfl rfl
    ·refine wk_id ?_
     refine seq_np ?_
     refine seq_np ?_
     refine reg_f ?_
     refine rs 3 [] [] (by kernel_rfl) allP_nil ?_
     refine rf [(1, iS task), (11, .ptr 0 0), (12, .ptr 1 0), (14, .own 2 0 c2q16.length), (70, .sl cases.length (fl cases)), (71, iS ((cases.length : Nat) : Int)), (72, iS 0)] [(0, .row 33 [bS false, bS false, bS false, iS 0, iS 0, .v (.slice none 0 0)]), (1, .row 29 [iS 0, iS 0]), (2, .row 57 (flD dPipe [3, 4, 5] c2q16)), ((.s 3 0), .fam (famD dPipe 0 c2q16)), ((.s 4 0), .fam (famD dPipe 1 c2q16)), ((.s 5 0), .fam (famD dPipe 2 c2q16))] 6 (by kernel_rfl) ?_
     refine wk_id ?_
     refine block_np ?_
     refine loop_sx (S := Int × (List Pipe)) (fun a => ([(1, iS task), (11, .ptr 0 0), (12, .ptr 1 0), (14, .own 2 0 a.2.length), (70, .sl cases.length (fl cases)), (71, iS ((cases.length : Nat) : Int)), (72, iS a.1)], [(0, .row 33 [bS false, bS false, bS false, iS 0, iS 0, .v (.slice none 0 0)]), (1, .row 29 [iS 0, iS 0]), (2, .row 57 (flD dPipe [3, 4, 5] a.2)), ((.s 3 0), .fam (famD dPipe 0 a.2)), ((.s 4 0), .fam (famD dPipe 1 a.2)), ((.s 5 0), .fam (famD dPipe 2 a.2))], 6)) h (leSt_m [(0, 0), (1, 1), (2, 2), ((.s 3 0), (.s 3 0)), ((.s 4 0), (.s 4 0)), ((.s 5 0), (.s 5 0))] [] (by simp only [push_cast, leL_flD, renL_flD, seval]) (by simp only [push_cast, leL_flD, renL_flD, seval]) rfl rfl rfl) ?_
     rintro ⟨t72q7, c2q30⟩ o4 R4 h hr4 hn4 hx4 ht4
     try dsimp only at h hn4 ⊢
     unfold pick_Pick_l1 at h
     try dsimp only at h
     refine seq_np ?_
     refine reg_f ?_
     refine rs 1 [] [] (by kernel_rfl) allP_nil ?_
     refine rf [(1, iS task), (11, .ptr 0 0), (12, .ptr 1 0), (14, .own 2 0 c2q30.length), (70, .sl cases.length (fl cases)), (71, iS ((cases.length : Nat) : Int)), (72, iS t72q7), (73, bS (decide (t72q7 < ((cases.length : Nat) : Int))))] [(0, .row 33 [bS false, bS false, bS false, iS 0, iS 0, .v (.slice none 0 0)]), (1, .row 29 [iS 0, iS 0]), (2, .row 57 (flD dPipe [3, 4, 5] c2q30)), ((.s 3 0), .fam (famD dPipe 0 c2q30)), ((.s 4 0), .fam (famD dPipe 1 c2q30)), ((.s 5 0), .fam (famD dPipe 2 c2q30))] 6 (by kernel_rfl) ?_
     refine wk_id ?_
     refine seq_np ?_
     refine cond_sx h (by kernel_rfl) (fun g2090 h => ?_) (fun g2090 h => ?_)
     ·refine wk_id ?_
      refine seq_np ?_
      refine block_cut (A := (List Pipe)) (fun a => ([(1, iS task), (11, .ptr 0 0), (12, .ptr 1 0), (14, .own 2 0 a.length), (70, .sl cases.length (fl cases)), (71, iS ((cases.length : Nat) : Int)), (72, iS t72q7)], [(0, .row 33 [bS false, bS false, bS false, iS 0, iS 0, .v (.slice none 0 0)]), (1, .row 29 [iS 0, iS 0]), (2, .row 57 (flD dPipe [3, 4, 5] a)), ((.s 3 0), .fam (famD dPipe 0 a)), ((.s 4 0), .fam (famD dPipe 1 a)), ((.s 5 0), .fam (famD dPipe 2 a))], 6)) (fun a => (pick_Pick_j1 task cases t72q7 a) = some o4) (fun K2070 hK2070 => ?_) ?_
      ·refine chk_sx h (fun g2074 h => ?_)
       refine seq_np ?_
       refine reg_f ?_
       have k2073 : 0 ≤ t72q7 ∧ t72q7 < ((cases.length : Nat) : Int) := by first | simpa only [Bool.and_eq_true, decide_eq_true_eq, bne_iff_ne, ne_eq] using g2074 | (simp at g2074 ⊢; omega)
       refine rs 6 [none, some ⟨.iptr (fl cases) ((t72q7).toNat * 3), [], 6, []⟩, some ⟨.agg (Enc.cells (ix cases t72q7)), [], 6, []⟩] _ (by kernel_rfl) (allP_cons (ob_ldw cases t72q7 3 ((t72q7).toNat * 3) k2073 rfl (by first | rfl | omega) [iS (ix cases t72q7).Pipe, bS (ix cases t72q7).Send, iS (ix cases t72q7).Value] rfl 6 []) (allP_cons (ob_ix_l cases 3 6 t72q7 k2073) allP_nil)) ?_
       refine rf [(1, iS task), (11, .ptr 0 0), (12, .ptr 1 0), (14, .own 2 0 c2q30.length), (19, iS t72q7), (20, .ptr 6 0), (70, .sl cases.length (fl cases)), (71, iS ((cases.length : Nat) : Int)), (72, iS t72q7)] [(0, .row 33 [bS false, bS false, bS false, iS 0, iS 0, .v (.slice none 0 0)]), (1, .row 29 [iS 0, iS 0]), (2, .row 57 (flD dPipe [3, 4, 5] c2q30)), ((.s 3 0), .fam (famD dPipe 0 c2q30)), ((.s 4 0), .fam (famD dPipe 1 c2q30)), ((.s 5 0), .fam (famD dPipe 2 c2q30)), (6, .row 49 (Enc.cells (ix cases t72q7)))] 7 (by kernel_rfl) ?_
       refine wk_id ?_
       refine seq_np ?_
       refine seq_np ?_
       refine reg_f ?_
       refine rs 3 [] [] (by kernel_rfl) allP_nil ?_
       refine rf [(1, iS task), (11, .ptr 0 0), (12, .ptr 1 0), (14, .own 2 0 c2q30.length), (19, iS t72q7), (20, .ptr 6 0), (70, .sl cases.length (fl cases)), (71, iS ((cases.length : Nat) : Int)), (72, iS t72q7), (79, bS (decide ((ix cases t72q7).Pipe < 0)))] [(0, .row 33 [bS false, bS false, bS false, iS 0, iS 0, .v (.slice none 0 0)]), (1, .row 29 [iS 0, iS 0]), (2, .row 57 (flD dPipe [3, 4, 5] c2q30)), ((.s 3 0), .fam (famD dPipe 0 c2q30)), ((.s 4 0), .fam (famD dPipe 1 c2q30)), ((.s 5 0), .fam (famD dPipe 2 c2q30)), (6, .row 49 (Enc.cells (ix cases t72q7)))] 7 (by kernel_rfl) ?_
       refine wk_id ?_
       refine cond_sx h (by kernel_rfl) (fun g2089 h => ?_) (fun g2089 h => ?_)
       ·exact hK2070 (c2q30) _ _ _ h (leSt_m [(0, 0), (1, 1), (2, 2), ((.s 3 0), (.s 3 0)), ((.s 4 0), (.s 4 0)), ((.s 5 0), (.s 5 0))] [] (by simp only [push_cast, leL_flD, renL_flD, seval]) (by simp only [push_cast, leL_flD, renL_flD, seval]) rfl rfl rfl)
       ·refine wk_id ?_
        refine chk_sx h (fun g2079 h => ?_)
        refine seq_np ?_
        refine reg_t ?_
        have k2078 : 0 ≤ (ix cases t72q7).Pipe ∧ (ix cases t72q7).Pipe < ((c2q30.length : Nat) : Int) := by first | simpa only [Bool.and_eq_true, decide_eq_true_eq, bne_iff_ne, ne_eq] using g2079 | (simp at g2079 ⊢; omega)
        refine rs 12 [none, none, none, some ⟨.ptr 2 (0 + ((ix cases t72q7).Pipe).toNat * 5), [], 10, [2]⟩] _ (by kernel_rfl) (allP_cons (ob_ix_o 2 c2q30.length 0 5 10 (ix cases t72q7).Pipe k2078) allP_nil) ?_
        refine rt [(1, iS task), (11, .ptr 0 0), (12, .ptr 1 0), (14, .own 2 0 c2q30.length), (20, .ptr 6 0), (21, .ptr 2 (0 + ((ix cases t72q7).Pipe).toNat * 5)), (22, .ptr 16 0), (70, .sl cases.length (fl cases)), (71, iS ((cases.length : Nat) : Int)), (72, iS t72q7)] [(0, .row 33 [bS false, bS false, bS false, iS 0, iS 0, .v (.slice none 0 0)]), (1, .row 29 [iS 0, iS 0]), (2, .row 57 (flD dPipe [3, 4, 5] c2q30)), ((.s 3 0), .fam (famD dPipe 0 c2q30)), ((.s 4 0), .fam (famD dPipe 1 c2q30)), ((.s 5 0), .fam (famD dPipe 2 c2q30)), (6, .row 49 (Enc.cells (ix cases t72q7))), (16, .row 92 [iS task, iS t72q7, iS (ix cases t72q7).Value])] 20 follows (by kernel_rfl) ?_
        refine wk_id ?_
        refine seq_np ?_
        refine reg_f ?_
        refine rs 2 [] [] (by kernel_rfl) allP_nil ?_
        refine rf [(1, iS task), (11, .ptr 0 0), (12, .ptr 1 0), (14, .own 2 0 c2q30.length), (21, .ptr 2 (0 + ((ix cases t72q7).Pipe).toNat * 5)), (22, .ptr 16 0), (70, .sl cases.length (fl cases)), (71, iS ((cases.length : Nat) : Int)), (72, iS t72q7), (90, bS (ix cases t72q7).Send)] [(0, .row 33 [bS false, bS false, bS false, iS 0, iS 0, .v (.slice none 0 0)]), (1, .row 29 [iS 0, iS 0]), (2, .row 57 (flD dPipe [3, 4, 5] c2q30)), ((.s 3 0), .fam (famD dPipe 0 c2q30)), ((.s 4 0), .fam (famD dPipe 1 c2q30)), ((.s 5 0), .fam (famD dPipe 2 c2q30)), (6, .row 49 (Enc.cells (ix cases t72q7))), (16, .row 92 [iS task, iS t72q7, iS (ix cases t72q7).Value])] 20 (by kernel_rfl) ?_
        refine wk_id ?_
        refine cond_sx h (by kernel_rfl) (fun g2088 h => ?_) (fun g2088 h => ?_)
        ·refine chk_sx h (fun g2083 h => ?_)
         refine reg_t ?_
         have k2082 : ((ixD c2q30 (ix cases t72q7).Pipe).Senders ++ ([(GPost.mk task t72q7 (ix cases t72q7).Value)] : List GPost)).length * 24 ≤ 140737488355328 := by first | simpa only [Bool.and_eq_true, decide_eq_true_eq, bne_iff_ne, ne_eq] using g2083 | (simp at g2083 ⊢; omega)
         refine rs 10 [none, none, none, none, some ⟨.own (.s 4 (ix cases t72q7).Pipe) 0 (ixD c2q30 (ix cases t72q7).Pipe).Senders.length, [], 24, [2]⟩, none, none, some ⟨.own 28 0 ((ixD c2q30 (ix cases t72q7).Pipe).Senders ++ ([(GPost.mk task t72q7 (ix cases t72q7).Value)] : List GPost)).length, [(28, .row 92 (fl ((ixD c2q30 (ix cases t72q7).Pipe).Senders ++ ([(GPost.mk task t72q7 (ix cases t72q7).Value)] : List GPost)))), ((.s 4 0), .fam (upI (famD dPipe 1 c2q30) (ix cases t72q7).Pipe (.dead)))], 29, [(.s 4 0), 26]⟩] _ (by kernel_rfl) (allP_cons (ob_appM (P := Try.prog) dPipe 1 c2q30 (ix cases t72q7).Pipe 4 (ixD c2q30 (ix cases t72q7).Pipe).Senders ([(GPost.mk task t72q7 (ix cases t72q7).Value)] : List GPost) 3 24 rfl (appCells (fl ([(GPost.mk task t72q7 (ix cases t72q7).Value)] : List GPost)) 0 (([(GPost.mk task t72q7 (ix cases t72q7).Value)] : List GPost).length * 3)) ([(GPost.mk task t72q7 (ix cases t72q7).Value)] : List GPost).length (app_own ([(GPost.mk task t72q7 (ix cases t72q7).Value)] : List GPost) 3 rfl) rfl (0 + ([(GPost.mk task t72q7 (ix cases t72q7).Value)] : List GPost).length * 3 ≤ (fl ([(GPost.mk task t72q7 (ix cases t72q7).Value)] : List GPost)).length) (app_own_le ([(GPost.mk task t72q7 (ix cases t72q7).Value)] : List GPost) 3 rfl) 92 (by kernel_rfl) (by decide) k2082 28 [26]) (allP_cons (ob_ldD dPipe [3, 4, 5] c2q30 (ix cases t72q7).Pipe 5 3 ((0 + ((ix cases t72q7).Pipe).toNat * 5) + 3) k2078 rfl (by decide) (by first | rfl | omega) (dflS Try.prog 55) (.own (.s 4 (ix cases t72q7).Pipe) 0 (ixD c2q30 (ix cases t72q7).Pipe).Senders.length) rfl 24 [2]) allP_nil)) ?_
         refine run_opGb none _ ⟨.any, [(2, .row 57 (flN dPipe (nA [(some 3), (some 4), (some 5)] [(some (.s 3 (ix cases t72q7).Pipe)), (some (Nm.t 28)), (some (.s 5 (ix cases t72q7).Pipe))] (ix cases t72q7).Pipe) 0 (c2q30.set (ix cases t72q7).Pipe.toNat ({ (ixD c2q30 (ix cases t72q7).Pipe) with Senders := ((ixD c2q30 (ix cases t72q7).Pipe).Senders ++ ([(GPost.mk task t72q7 (ix cases t72q7).Value)] : List GPost)) } : Pipe))))], 32, [2]⟩ [((.s 32 0), .fam (famD dPipe 1 (c2q30.set (ix cases t72q7).Pipe.toNat ({ (ixD c2q30 (ix cases t72q7).Pipe) with Senders := ((ixD c2q30 (ix cases t72q7).Pipe).Senders ++ ([(GPost.mk task t72q7 (ix cases t72q7).Value)] : List GPost)) } : Pipe)))), (2, .row 57 (flD dPipe [3, 32, 5] (c2q30.set (ix cases t72q7).Pipe.toNat ({ (ixD c2q30 (ix cases t72q7).Pipe) with Senders := ((ixD c2q30 (ix cases t72q7).Pipe).Senders ++ ([(GPost.mk task t72q7 (ix cases t72q7).Value)] : List GPost)) } : Pipe)))), ((.s 4 0), .dead), (28, .dead)] 1 [2, (.s 4 0), 28] [(.s 4 0), 28] (by kernel_rfl) (ob_stN (P := Try.prog) dPipe [3, 4, 5] [(some (.s 3 (ix cases t72q7).Pipe)), (some (Nm.t 28)), (some (.s 5 (ix cases t72q7).Pipe))] c2q30 (ix cases t72q7).Pipe 5 3 ((0 + ((ix cases t72q7).Pipe).toNat * 5) + 3) k2078 rfl [.own 28 0 ((ixD c2q30 (ix cases t72q7).Pipe).Senders ++ ([(GPost.mk task t72q7 (ix cases t72q7).Value)] : List GPost)).length] ({ (ixD c2q30 (ix cases t72q7).Pipe) with Senders := ((ixD c2q30 (ix cases t72q7).Pipe).Senders ++ ([(GPost.mk task t72q7 (ix cases t72q7).Value)] : List GPost)) } : Pipe) (Nat.le_of_ble_eq_true rfl) (by first | rfl | omega) rfl rfl 2 32 57 55 (by kernel_rfl) rfl) (ghost_A 32 dPipe (c2q30.set (ix cases t72q7).Pipe.toNat ({ (ixD c2q30 (ix cases t72q7).Pipe) with Senders := ((ixD c2q30 (ix cases t72q7).Pipe).Senders ++ ([(GPost.mk task t72q7 (ix cases t72q7).Value)] : List GPost)) } : Pipe)) 2 57 [(some 3), (some 4), (some 5)] [(some (.s 3 (ix cases t72q7).Pipe)), (some (Nm.t 28)), (some (.s 5 (ix cases t72q7).Pipe))] (ix cases t72q7).Pipe (flD dPipe [3, 32, 5] (c2q30.set (ix cases t72q7).Pipe.toNat ({ (ixD c2q30 (ix cases t72q7).Pipe) with Senders := ((ixD c2q30 (ix cases t72q7).Pipe).Senders ++ ([(GPost.mk task t72q7 (ix cases t72q7).Value)] : List GPost)) } : Pipe))) 1 (some 4) (some 28) (by kernel_rfl) (flN_done dPipe [3, 32, 5] (ix cases t72q7).Pipe (c2q30.set (ix cases t72q7).Pipe.toNat ({ (ixD c2q30 (ix cases t72q7).Pipe) with Senders := ((ixD c2q30 (ix cases t72q7).Pipe).Senders ++ ([(GPost.mk task t72q7 (ix cases t72q7).Value)] : List GPost)) } : Pipe)) rfl) (by kernel_rfl) ⟨_, (by kernel_rfl), (off_hole c2q30 (ix cases t72q7).Pipe ({ (ixD c2q30 (ix cases t72q7).Pipe) with Senders := ((ixD c2q30 (ix cases t72q7).Pipe).Senders ++ ([(GPost.mk task t72q7 (ix cases t72q7).Value)] : List GPost)) } : Pipe) k2078 (.dead))⟩ (S_set (fun a => getH _ (.t 28) = chD dPipe 1 a) k2078 rfl)) (by kernel_rfl) (And.intro (born_fam (upI (famD dPipe 1 c2q30) (ix cases t72q7).Pipe (.dead)) (by kernel_rfl)) (And.intro (by kernel_rfl) trivial)) ?_
         refine run_eqS 3 (famD dPipe 0 c2q30) (famD dPipe 0 (c2q30.set (ix cases t72q7).Pipe.toNat ({ (ixD c2q30 (ix cases t72q7).Pipe) with Senders := ((ixD c2q30 (ix cases t72q7).Pipe).Senders ++ ([(GPost.mk task t72q7 (ix cases t72q7).Value)] : List GPost)) } : Pipe))) (famD_same k2078 ({ (ixD c2q30 (ix cases t72q7).Pipe) with Senders := ((ixD c2q30 (ix cases t72q7).Pipe).Senders ++ ([(GPost.mk task t72q7 (ix cases t72q7).Value)] : List GPost)) } : Pipe) rfl) (by kernel_rfl) ?_
         refine run_eqS 5 (famD dPipe 2 c2q30) (famD dPipe 2 (c2q30.set (ix cases t72q7).Pipe.toNat ({ (ixD c2q30 (ix cases t72q7).Pipe) with Senders := ((ixD c2q30 (ix cases t72q7).Pipe).Senders ++ ([(GPost.mk task t72q7 (ix cases t72q7).Value)] : List GPost)) } : Pipe))) (famD_same k2078 ({ (ixD c2q30 (ix cases t72q7).Pipe) with Senders := ((ixD c2q30 (ix cases t72q7).Pipe).Senders ++ ([(GPost.mk task t72q7 (ix cases t72q7).Value)] : List GPost)) } : Pipe) rfl) (by kernel_rfl) ?_
         refine run_eqF 14 (.own 2 0 c2q30.length) (.own 2 0 (c2q30.set (ix cases t72q7).Pipe.toNat ({ (ixD c2q30 (ix cases t72q7).Pipe) with Senders := ((ixD c2q30 (ix cases t72q7).Pipe).Senders ++ ([(GPost.mk task t72q7 (ix cases t72q7).Value)] : List GPost)) } : Pipe)).length) (congrArg (fun nq => (.own 2 0 nq : SV)) (show c2q30.length = (c2q30.set (ix cases t72q7).Pipe.toNat ({ (ixD c2q30 (ix cases t72q7).Pipe) with Senders := ((ixD c2q30 (ix cases t72q7).Pipe).Senders ++ ([(GPost.mk task t72q7 (ix cases t72q7).Value)] : List GPost)) } : Pipe)).length from (List.length_set ..).symm)) (by kernel_rfl) ?_
         refine rt [(1, iS task), (11, .ptr 0 0), (12, .ptr 1 0), (14, .own 2 0 (c2q30.set (ix cases t72q7).Pipe.toNat ({ (ixD c2q30 (ix cases t72q7).Pipe) with Senders := ((ixD c2q30 (ix cases t72q7).Pipe).Senders ++ ([(GPost.mk task t72q7 (ix cases t72q7).Value)] : List GPost)) } : Pipe)).length), (70, .sl cases.length (fl cases)), (71, iS ((cases.length : Nat) : Int)), (72, iS t72q7)] [(0, .row 33 [bS false, bS false, bS false, iS 0, iS 0, .v (.slice none 0 0)]), (1, .row 29 [iS 0, iS 0]), (2, .row 57 (flD dPipe [3, 32, 5] (c2q30.set (ix cases t72q7).Pipe.toNat ({ (ixD c2q30 (ix cases t72q7).Pipe) with Senders := ((ixD c2q30 (ix cases t72q7).Pipe).Senders ++ ([(GPost.mk task t72q7 (ix cases t72q7).Value)] : List GPost)) } : Pipe)))), ((.s 3 0), .fam (famD dPipe 0 (c2q30.set (ix cases t72q7).Pipe.toNat ({ (ixD c2q30 (ix cases t72q7).Pipe) with Senders := ((ixD c2q30 (ix cases t72q7).Pipe).Senders ++ ([(GPost.mk task t72q7 (ix cases t72q7).Value)] : List GPost)) } : Pipe)))), ((.s 4 0), .dead), ((.s 5 0), .fam (famD dPipe 2 (c2q30.set (ix cases t72q7).Pipe.toNat ({ (ixD c2q30 (ix cases t72q7).Pipe) with Senders := ((ixD c2q30 (ix cases t72q7).Pipe).Senders ++ ([(GPost.mk task t72q7 (ix cases t72q7).Value)] : List GPost)) } : Pipe)))), (6, .row 49 (Enc.cells (ix cases t72q7))), (16, .row 92 [iS task, iS t72q7, iS (ix cases t72q7).Value]), (26, .row 92 (fl ([(GPost.mk task t72q7 (ix cases t72q7).Value)] : List GPost))), (28, .dead), ((.s 32 0), .fam (famD dPipe 1 (c2q30.set (ix cases t72q7).Pipe.toNat ({ (ixD c2q30 (ix cases t72q7).Pipe) with Senders := ((ixD c2q30 (ix cases t72q7).Pipe).Senders ++ ([(GPost.mk task t72q7 (ix cases t72q7).Value)] : List GPost)) } : Pipe))))] 34 follows (by kernel_rfl) ?_
         exact hK2070 ((c2q30.set (ix cases t72q7).Pipe.toNat ({ (ixD c2q30 (ix cases t72q7).Pipe) with Senders := ((ixD c2q30 (ix cases t72q7).Pipe).Senders ++ ([(GPost.mk task t72q7 (ix cases t72q7).Value)] : List GPost)) } : Pipe))) _ _ _ h (leSt_m [(0, 0), (1, 1), (2, 2), ((.s 3 0), (.s 3 0)), ((.s 4 0), (.s 32 0)), ((.s 5 0), (.s 5 0))] [] (by simp only [push_cast, leL_flD, renL_flD, seval]) (by simp only [push_cast, leL_flD, renL_flD, seval]) rfl rfl rfl)
        ·refine chk_sx h (fun g2087 h => ?_)
         refine reg_t ?_
         have k2086 : ((ixD c2q30 (ix cases t72q7).Pipe).Getters ++ ([(GPost.mk task t72q7 (ix cases t72q7).Value)] : List GPost)).length * 24 ≤ 140737488355328 := by first | simpa only [Bool.and_eq_true, decide_eq_true_eq, bne_iff_ne, ne_eq] using g2087 | (simp at g2087 ⊢; omega)
         refine rs 10 [none, none, none, none, some ⟨.own (.s 5 (ix cases t72q7).Pipe) 0 (ixD c2q30 (ix cases t72q7).Pipe).Getters.length, [], 24, [2]⟩, none, none, some ⟨.own 28 0 ((ixD c2q30 (ix cases t72q7).Pipe).Getters ++ ([(GPost.mk task t72q7 (ix cases t72q7).Value)] : List GPost)).length, [(28, .row 92 (fl ((ixD c2q30 (ix cases t72q7).Pipe).Getters ++ ([(GPost.mk task t72q7 (ix cases t72q7).Value)] : List GPost)))), ((.s 5 0), .fam (upI (famD dPipe 2 c2q30) (ix cases t72q7).Pipe (.dead)))], 29, [(.s 5 0), 26]⟩] _ (by kernel_rfl) (allP_cons (ob_appM (P := Try.prog) dPipe 2 c2q30 (ix cases t72q7).Pipe 5 (ixD c2q30 (ix cases t72q7).Pipe).Getters ([(GPost.mk task t72q7 (ix cases t72q7).Value)] : List GPost) 3 24 rfl (appCells (fl ([(GPost.mk task t72q7 (ix cases t72q7).Value)] : List GPost)) 0 (([(GPost.mk task t72q7 (ix cases t72q7).Value)] : List GPost).length * 3)) ([(GPost.mk task t72q7 (ix cases t72q7).Value)] : List GPost).length (app_own ([(GPost.mk task t72q7 (ix cases t72q7).Value)] : List GPost) 3 rfl) rfl (0 + ([(GPost.mk task t72q7 (ix cases t72q7).Value)] : List GPost).length * 3 ≤ (fl ([(GPost.mk task t72q7 (ix cases t72q7).Value)] : List GPost)).length) (app_own_le ([(GPost.mk task t72q7 (ix cases t72q7).Value)] : List GPost) 3 rfl) 92 (by kernel_rfl) (by decide) k2086 28 [26]) (allP_cons (ob_ldD dPipe [3, 4, 5] c2q30 (ix cases t72q7).Pipe 5 4 ((0 + ((ix cases t72q7).Pipe).toNat * 5) + 4) k2078 rfl (by decide) (by first | rfl | omega) (dflS Try.prog 55) (.own (.s 5 (ix cases t72q7).Pipe) 0 (ixD c2q30 (ix cases t72q7).Pipe).Getters.length) rfl 24 [2]) allP_nil)) ?_
         refine run_opGb none _ ⟨.any, [(2, .row 57 (flN dPipe (nA [(some 3), (some 4), (some 5)] [(some (.s 3 (ix cases t72q7).Pipe)), (some (.s 4 (ix cases t72q7).Pipe)), (some (Nm.t 28))] (ix cases t72q7).Pipe) 0 (c2q30.set (ix cases t72q7).Pipe.toNat ({ (ixD c2q30 (ix cases t72q7).Pipe) with Getters := ((ixD c2q30 (ix cases t72q7).Pipe).Getters ++ ([(GPost.mk task t72q7 (ix cases t72q7).Value)] : List GPost)) } : Pipe))))], 32, [2]⟩ [((.s 32 0), .fam (famD dPipe 2 (c2q30.set (ix cases t72q7).Pipe.toNat ({ (ixD c2q30 (ix cases t72q7).Pipe) with Getters := ((ixD c2q30 (ix cases t72q7).Pipe).Getters ++ ([(GPost.mk task t72q7 (ix cases t72q7).Value)] : List GPost)) } : Pipe)))), (2, .row 57 (flD dPipe [3, 4, 32] (c2q30.set (ix cases t72q7).Pipe.toNat ({ (ixD c2q30 (ix cases t72q7).Pipe) with Getters := ((ixD c2q30 (ix cases t72q7).Pipe).Getters ++ ([(GPost.mk task t72q7 (ix cases t72q7).Value)] : List GPost)) } : Pipe)))), ((.s 5 0), .dead), (28, .dead)] 1 [2, (.s 5 0), 28] [(.s 5 0), 28] (by kernel_rfl) (ob_stN (P := Try.prog) dPipe [3, 4, 5] [(some (.s 3 (ix cases t72q7).Pipe)), (some (.s 4 (ix cases t72q7).Pipe)), (some (Nm.t 28))] c2q30 (ix cases t72q7).Pipe 5 4 ((0 + ((ix cases t72q7).Pipe).toNat * 5) + 4) k2078 rfl [.own 28 0 ((ixD c2q30 (ix cases t72q7).Pipe).Getters ++ ([(GPost.mk task t72q7 (ix cases t72q7).Value)] : List GPost)).length] ({ (ixD c2q30 (ix cases t72q7).Pipe) with Getters := ((ixD c2q30 (ix cases t72q7).Pipe).Getters ++ ([(GPost.mk task t72q7 (ix cases t72q7).Value)] : List GPost)) } : Pipe) (Nat.le_of_ble_eq_true rfl) (by first | rfl | omega) rfl rfl 2 32 57 55 (by kernel_rfl) rfl) (ghost_A 32 dPipe (c2q30.set (ix cases t72q7).Pipe.toNat ({ (ixD c2q30 (ix cases t72q7).Pipe) with Getters := ((ixD c2q30 (ix cases t72q7).Pipe).Getters ++ ([(GPost.mk task t72q7 (ix cases t72q7).Value)] : List GPost)) } : Pipe)) 2 57 [(some 3), (some 4), (some 5)] [(some (.s 3 (ix cases t72q7).Pipe)), (some (.s 4 (ix cases t72q7).Pipe)), (some (Nm.t 28))] (ix cases t72q7).Pipe (flD dPipe [3, 4, 32] (c2q30.set (ix cases t72q7).Pipe.toNat ({ (ixD c2q30 (ix cases t72q7).Pipe) with Getters := ((ixD c2q30 (ix cases t72q7).Pipe).Getters ++ ([(GPost.mk task t72q7 (ix cases t72q7).Value)] : List GPost)) } : Pipe))) 2 (some 5) (some 28) (by kernel_rfl) (flN_done dPipe [3, 4, 32] (ix cases t72q7).Pipe (c2q30.set (ix cases t72q7).Pipe.toNat ({ (ixD c2q30 (ix cases t72q7).Pipe) with Getters := ((ixD c2q30 (ix cases t72q7).Pipe).Getters ++ ([(GPost.mk task t72q7 (ix cases t72q7).Value)] : List GPost)) } : Pipe)) rfl) (by kernel_rfl) ⟨_, (by kernel_rfl), (off_hole c2q30 (ix cases t72q7).Pipe ({ (ixD c2q30 (ix cases t72q7).Pipe) with Getters := ((ixD c2q30 (ix cases t72q7).Pipe).Getters ++ ([(GPost.mk task t72q7 (ix cases t72q7).Value)] : List GPost)) } : Pipe) k2078 (.dead))⟩ (S_set (fun a => getH _ (.t 28) = chD dPipe 2 a) k2078 rfl)) (by kernel_rfl) (And.intro (born_fam (upI (famD dPipe 2 c2q30) (ix cases t72q7).Pipe (.dead)) (by kernel_rfl)) (And.intro (by kernel_rfl) trivial)) ?_
         refine run_eqS 3 (famD dPipe 0 c2q30) (famD dPipe 0 (c2q30.set (ix cases t72q7).Pipe.toNat ({ (ixD c2q30 (ix cases t72q7).Pipe) with Getters := ((ixD c2q30 (ix cases t72q7).Pipe).Getters ++ ([(GPost.mk task t72q7 (ix cases t72q7).Value)] : List GPost)) } : Pipe))) (famD_same k2078 ({ (ixD c2q30 (ix cases t72q7).Pipe) with Getters := ((ixD c2q30 (ix cases t72q7).Pipe).Getters ++ ([(GPost.mk task t72q7 (ix cases t72q7).Value)] : List GPost)) } : Pipe) rfl) (by kernel_rfl) ?_
         refine run_eqS 4 (famD dPipe 1 c2q30) (famD dPipe 1 (c2q30.set (ix cases t72q7).Pipe.toNat ({ (ixD c2q30 (ix cases t72q7).Pipe) with Getters := ((ixD c2q30 (ix cases t72q7).Pipe).Getters ++ ([(GPost.mk task t72q7 (ix cases t72q7).Value)] : List GPost)) } : Pipe))) (famD_same k2078 ({ (ixD c2q30 (ix cases t72q7).Pipe) with Getters := ((ixD c2q30 (ix cases t72q7).Pipe).Getters ++ ([(GPost.mk task t72q7 (ix cases t72q7).Value)] : List GPost)) } : Pipe) rfl) (by kernel_rfl) ?_
         refine run_eqF 14 (.own 2 0 c2q30.length) (.own 2 0 (c2q30.set (ix cases t72q7).Pipe.toNat ({ (ixD c2q30 (ix cases t72q7).Pipe) with Getters := ((ixD c2q30 (ix cases t72q7).Pipe).Getters ++ ([(GPost.mk task t72q7 (ix cases t72q7).Value)] : List GPost)) } : Pipe)).length) (congrArg (fun nq => (.own 2 0 nq : SV)) (show c2q30.length = (c2q30.set (ix cases t72q7).Pipe.toNat ({ (ixD c2q30 (ix cases t72q7).Pipe) with Getters := ((ixD c2q30 (ix cases t72q7).Pipe).Getters ++ ([(GPost.mk task t72q7 (ix cases t72q7).Value)] : List GPost)) } : Pipe)).length from (List.length_set ..).symm)) (by kernel_rfl) ?_
         refine rt [(1, iS task), (11, .ptr 0 0), (12, .ptr 1 0), (14, .own 2 0 (c2q30.set (ix cases t72q7).Pipe.toNat ({ (ixD c2q30 (ix cases t72q7).Pipe) with Getters := ((ixD c2q30 (ix cases t72q7).Pipe).Getters ++ ([(GPost.mk task t72q7 (ix cases t72q7).Value)] : List GPost)) } : Pipe)).length), (70, .sl cases.length (fl cases)), (71, iS ((cases.length : Nat) : Int)), (72, iS t72q7)] [(0, .row 33 [bS false, bS false, bS false, iS 0, iS 0, .v (.slice none 0 0)]), (1, .row 29 [iS 0, iS 0]), (2, .row 57 (flD dPipe [3, 4, 32] (c2q30.set (ix cases t72q7).Pipe.toNat ({ (ixD c2q30 (ix cases t72q7).Pipe) with Getters := ((ixD c2q30 (ix cases t72q7).Pipe).Getters ++ ([(GPost.mk task t72q7 (ix cases t72q7).Value)] : List GPost)) } : Pipe)))), ((.s 3 0), .fam (famD dPipe 0 (c2q30.set (ix cases t72q7).Pipe.toNat ({ (ixD c2q30 (ix cases t72q7).Pipe) with Getters := ((ixD c2q30 (ix cases t72q7).Pipe).Getters ++ ([(GPost.mk task t72q7 (ix cases t72q7).Value)] : List GPost)) } : Pipe)))), ((.s 4 0), .fam (famD dPipe 1 (c2q30.set (ix cases t72q7).Pipe.toNat ({ (ixD c2q30 (ix cases t72q7).Pipe) with Getters := ((ixD c2q30 (ix cases t72q7).Pipe).Getters ++ ([(GPost.mk task t72q7 (ix cases t72q7).Value)] : List GPost)) } : Pipe)))), ((.s 5 0), .dead), (6, .row 49 (Enc.cells (ix cases t72q7))), (16, .row 92 [iS task, iS t72q7, iS (ix cases t72q7).Value]), (26, .row 92 (fl ([(GPost.mk task t72q7 (ix cases t72q7).Value)] : List GPost))), (28, .dead), ((.s 32 0), .fam (famD dPipe 2 (c2q30.set (ix cases t72q7).Pipe.toNat ({ (ixD c2q30 (ix cases t72q7).Pipe) with Getters := ((ixD c2q30 (ix cases t72q7).Pipe).Getters ++ ([(GPost.mk task t72q7 (ix cases t72q7).Value)] : List GPost)) } : Pipe))))] 34 follows (by kernel_rfl) ?_
         exact hK2070 ((c2q30.set (ix cases t72q7).Pipe.toNat ({ (ixD c2q30 (ix cases t72q7).Pipe) with Getters := ((ixD c2q30 (ix cases t72q7).Pipe).Getters ++ ([(GPost.mk task t72q7 (ix cases t72q7).Value)] : List GPost)) } : Pipe))) _ _ _ h (leSt_m [(0, 0), (1, 1), (2, 2), ((.s 3 0), (.s 3 0)), ((.s 4 0), (.s 4 0)), ((.s 5 0), (.s 32 0))] [] (by simp only [push_cast, leL_flD, renL_flD, seval]) (by simp only [push_cast, leL_flD, renL_flD, seval]) rfl rfl rfl)
      ·rintro c2q32 h
       try dsimp only at h ⊢
       unfold pick_Pick_j1 at h
       refine wk_id ?_
       refine reg_f ?_
       refine rs 2 [] [] (by kernel_rfl) allP_nil ?_
       refine rf [(1, iS task), (11, .ptr 0 0), (12, .ptr 1 0), (14, .own 2 0 c2q32.length), (70, .sl cases.length (fl cases)), (71, iS ((cases.length : Nat) : Int)), (72, iS (IntKind.i64.wrap (t72q7 + 1)))] [(0, .row 33 [bS false, bS false, bS false, iS 0, iS 0, .v (.slice none 0 0)]), (1, .row 29 [iS 0, iS 0]), (2, .row 57 (flD dPipe [3, 4, 5] c2q32)), ((.s 3 0), .fam (famD dPipe 0 c2q32)), ((.s 4 0), .fam (famD dPipe 1 c2q32)), ((.s 5 0), .fam (famD dPipe 2 c2q32))] 6 (by kernel_rfl) ?_
       exact hn4 ((IntKind.i64.wrap (t72q7 + 1)), c2q32) _ _ _ (Option.some.inj h).symm (leSt_m [(0, 0), (1, 1), (2, 2), ((.s 3 0), (.s 3 0)), ((.s 4 0), (.s 4 0)), ((.s 5 0), (.s 5 0))] [] (by simp only [push_cast, leL_flD, renL_flD, seval]) (by simp only [push_cast, leL_flD, renL_flD, seval]) rfl rfl rfl)
     ·change R4 (.exit 2) _ _ _
      refine ex_cast hx4 (id := 2) ?_
      obtain ⟨r0, h, e0⟩ := map_sx h
      have e1 := hr4 r0 e0.symm
      subst r0
      refine wk_id ?_
      refine wk_id ?_
      refine seq_np ?_
      refine reg_f ?_
      refine rs 6 [] [] (by kernel_rfl) allP_nil ?_
      refine rf [(10, .own 2 0 c2q30.length), (11, .ptr 0 0), (12, .ptr 1 0)] [(0, .row 33 [bS false, bS false, bS false, iS 0, iS 0, .v (.slice none 0 0)]), (1, .row 29 [iS 0, iS 0]), (2, .row 57 (flD dPipe [3, 4, 5] c2q30)), ((.s 3 0), .fam (famD dPipe 0 c2q30)), ((.s 4 0), .fam (famD dPipe 1 c2q30)), ((.s 5 0), .fam (famD dPipe 2 c2q30))] 6 (by kernel_rfl) ?_
      refine wk_id ?_
      obtain rfl := Option.some.inj h
      refine ret_at (.tup [.own 2 0 c2q30.length, .agg [bS false, bS false, bS false, iS 0, iS 0, .v (.slice none 0 0)], .agg [iS 0, iS 0]]) (by kernel_rfl) ?_
      exact ret_e [(0, 2), ((.s 2 0), (.s 3 0)), ((.s 3 0), (.s 4 0)), ((.s 4 0), (.s 5 0))] [] (by simp only [push_cast, leL_flD, renL_flD, seval]) (by simp only [push_cast, leL_flD, renL_flD, seval]) rfl rfl rfl

set_option maxRecDepth 100000 in
set_option maxHeartbeats 200000000 in
theorem taskmillref_Ints_spec (xa : (List Int)) (b : (List Int)) (r : Bool) (h : taskmillref_Ints xa b = some r) : SpecW Try.prog 24 [.sl xa.length (fl xa), .sl b.length (fl b)] [] 0 (fun x h n => x = bS r ∧ h = [] ∧ n = 0) := by
 unfold taskmillref_Ints at h
 refine spec_of (draw_ok _) Try.func24 rfl (by decide) rfl (by kernel_rfl) ?_
 refine seq_np ?_
 refine reg_f ?_
 refine rs 1 [] [] (by kernel_rfl) allP_nil ?_
 refine rf [(0, .sl xa.length (fl xa)), (1, .sl b.length (fl b))] [] 0 (by kernel_rfl) ?_
 refine wk_id ?_
 refine seq_np ?_
 refine seq_np ?_
 refine reg_f ?_
 refine rs 5 [] [] (by kernel_rfl) allP_nil ?_
 refine rf [(0, .sl xa.length (fl xa)), (1, .sl b.length (fl b)), (10, bS (((xa.length : Nat) : Int) != ((b.length : Nat) : Int)))] [] 0 (by kernel_rfl) ?_
 refine wk_id ?_
 refine cond_sx h (by kernel_rfl) (fun g2195 h => ?_) (fun g2195 h => ?_)
 ·refine seq_np ?_
  refine reg_f ?_
  refine rs 1 [] [] (by kernel_rfl) allP_nil ?_
  refine rf [(4, bS false)] [] 0 (by kernel_rfl) ?_
  refine wk_id ?_
  obtain rfl := Option.some.inj h
  refine ret_at (bS false) (by kernel_rfl) ?_
  exact ret_e [] [] (by simp only [push_cast, leL_flD, renL_flD, seval]) (by simp only [push_cast, leL_flD, renL_flD, seval]) rfl rfl rfl
 ·refine wk_id ?_
  refine seq_np ?_
  refine seq_np ?_
  refine reg_f ?_
  refine rs 1 [] [] (by kernel_rfl) allP_nil ?_
  refine rf [(0, .sl xa.length (fl xa)), (1, .sl b.length (fl b)), (5, iS 0)] [] 0 (by kernel_rfl) ?_
  refine wk_id ?_
  refine block_np ?_
  refine loop_sx (S := Int) (fun a => ([(0, .sl xa.length (fl xa)), (1, .sl b.length (fl b)), (5, iS a)], [], 0)) h (leSt_m [] [] (by simp only [push_cast, leL_flD, renL_flD, seval]) (by simp only [push_cast, leL_flD, renL_flD, seval]) rfl rfl rfl) ?_
  rintro i7 o2 R2 h hr2 hn2 hx2 ht2
  try dsimp only at h hn2 ⊢
  unfold taskmillref_Ints_l1 at h
  try dsimp only at h
  refine seq_np ?_
  refine seq_np ?_
  refine reg_f ?_
  refine rs 4 [] [] (by kernel_rfl) allP_nil ?_
  refine rf [(0, .sl xa.length (fl xa)), (1, .sl b.length (fl b)), (5, iS i7), (14, bS (decide (i7 < ((xa.length : Nat) : Int))))] [] 0 (by kernel_rfl) ?_
  refine wk_id ?_
  refine cond_sx h (by kernel_rfl) (fun g2194 h => ?_) (fun g2194 h => ?_)
  ·refine wk_id ?_
   refine seq_np ?_
   refine block_np ?_
   refine chk_sx h (fun g2190 h => ?_)
   refine chk_sx h (fun g2192 h => ?_)
   refine seq_np ?_
   refine reg_t ?_
   have k2189 : 0 ≤ i7 ∧ i7 < ((xa.length : Nat) : Int) := by first | simpa only [Bool.and_eq_true, decide_eq_true_eq, bne_iff_ne, ne_eq] using g2190 | (simp at g2190 ⊢; omega)
   have k2191 : 0 ≤ i7 ∧ i7 < ((b.length : Nat) : Int) := by first | simpa only [Bool.and_eq_true, decide_eq_true_eq, bne_iff_ne, ne_eq] using g2192 | (simp at g2192 ⊢; omega)
   refine rs 9 [none, none, some ⟨.iptr (fl xa) ((i7).toNat * 1), [], 2, []⟩, some ⟨iS (ix xa i7), [], 3, []⟩, none, none, some ⟨.iptr (fl b) ((i7).toNat * 1), [], 6, []⟩, some ⟨iS (ix b i7), [], 7, []⟩] _ (by kernel_rfl) (allP_cons (ob_ld b i7 1 0 ((i7).toNat * 1) k2191 rfl (by decide) (by first | rfl | omega) (dflS Try.prog 3) (iS (ix b i7)) rfl 7 []) (allP_cons (ob_ix_l b 1 6 i7 k2191) (allP_cons (ob_ld xa i7 1 0 ((i7).toNat * 1) k2189 rfl (by decide) (by first | rfl | omega) (dflS Try.prog 3) (iS (ix xa i7)) rfl 3 []) (allP_cons (ob_ix_l xa 1 2 i7 k2189) allP_nil)))) ?_
   refine rt [(0, .sl xa.length (fl xa)), (1, .sl b.length (fl b)), (5, iS i7), (25, bS ((ix xa i7) != (ix b i7)))] [] 9 follows (by kernel_rfl) ?_
   refine wk_id ?_
   refine cond_sx h (by kernel_rfl) (fun g2193 h => ?_) (fun g2193 h => ?_)
   ·refine seq_np ?_
    refine reg_f ?_
    refine rs 1 [] [] (by kernel_rfl) allP_nil ?_
    refine rf [(4, bS false)] [] 9 (by kernel_rfl) ?_
    refine wk_id ?_
    refine rt_cast ht2 ?_
    obtain ⟨r0, h, e0⟩ := map_sx h
    have e1 := hr2 r0 e0.symm
    subst r0
    obtain rfl := Option.some.inj h
    refine ret_at (bS false) (by kernel_rfl) ?_
    exact ret_e [] [] (by simp only [push_cast, leL_flD, renL_flD, seval]) (by simp only [push_cast, leL_flD, renL_flD, seval]) rfl rfl rfl
   ·refine wk_id ?_
    refine wk_id ?_
    refine reg_f ?_
    refine rs 3 [] [] (by kernel_rfl) allP_nil ?_
    refine rf [(0, .sl xa.length (fl xa)), (1, .sl b.length (fl b)), (5, iS (IntKind.i64.wrap (i7 + 1)))] [] 9 (by kernel_rfl) ?_
    exact hn2 ((IntKind.i64.wrap (i7 + 1))) _ _ _ (Option.some.inj h).symm (leSt_m [] [] (by simp only [push_cast, leL_flD, renL_flD, seval]) (by simp only [push_cast, leL_flD, renL_flD, seval]) rfl rfl rfl)
  ·change R2 (.exit 0) _ _ _
   refine ex_cast hx2 (id := 0) ?_
   obtain ⟨r0, h, e0⟩ := map_sx h
   have e1 := hr2 r0 e0.symm
   subst r0
   refine wk_id ?_
   refine wk_id ?_
   refine seq_np ?_
   refine reg_f ?_
   refine rs 1 [] [] (by kernel_rfl) allP_nil ?_
   refine rf [(4, bS true)] [] 0 (by kernel_rfl) ?_
   refine wk_id ?_
   obtain rfl := Option.some.inj h
   refine ret_at (bS true) (by kernel_rfl) ?_
   exact ret_e [] [] (by simp only [push_cast, leL_flD, renL_flD, seval]) (by simp only [push_cast, leL_flD, renL_flD, seval]) rfl rfl rfl

set_option maxRecDepth 100000 in
set_option maxHeartbeats 200000000 in
theorem taskmilllaw_pickBegun_spec (r : Bool) (h : taskmilllaw_pickBegun = some r) : SpecW Try.prog 9 [] [] 0 (fun x h n => x = bS r ∧ h = [] ∧ n = 0) := by
 unfold taskmilllaw_pickBegun at h
 refine spec_of (draw_ok _) Try.func9 rfl (by decide) rfl (by kernel_rfl) ?_
 refine seq_np ?_
 refine reg_f ?_
 refine rs 1 [] [] (by kernel_rfl) allP_nil ?_
 refine rf [] [] 0 (by kernel_rfl) ?_
 refine wk_id ?_
 refine seq_np ?_
 refine reg_f ?_
 refine rs 2 [] [] (by kernel_rfl) allP_nil ?_
 refine run_nilF (some 7) 2 57 [iS 1, .v (.slice none 0 0), bS false, .v (.slice none 0 0), .v (.slice none 0 0), iS 1, .v (.slice none 0 0), bS false, .v (.slice none 0 0), .v (.slice none 0 0)] (fl ([(Pipe.mk 1 [] false [] []), (Pipe.mk 1 [] false [] [])] : List Pipe)) (by kernel_rfl) rfl rfl ?_
 refine rs 1 [] [] (by kernel_rfl) allP_nil ?_
 refine rf [(1, .own 0 0 ([(Pipe.mk 1 [] false [] []), (Pipe.mk 1 [] false [] [])] : List Pipe).length)] [(0, .row 57 (fl ([(Pipe.mk 1 [] false [] []), (Pipe.mk 1 [] false [] [])] : List Pipe)))] 1 (by kernel_rfl) ?_
 refine wk_id ?_
 refine seq_np ?_
 refine reg_f ?_
 refine rs 5 [] [] (by kernel_rfl) allP_nil ?_
 obtain ⟨r2200, hr2200, h⟩ := bind_sx h
 refine call_x (SpecW.give (SpecW.give (SpecW.give (pick_Pick_spec ([(Pipe.mk 1 [] false [] []), (Pipe.mk 1 [] false [] [])] : List Pipe) 1 ([(GCase.mk 0 false 0), (GCase.mk 1 true 5)] : List GCase) ([0, 1] : List Int) false r2200 hr2200) [(0, .row 57 (fl ([(Pipe.mk 1 [] false [] []), (Pipe.mk 1 [] false [] [])] : List Pipe)))] [.own 0 0 ([(Pipe.mk 1 [] false [] []), (Pipe.mk 1 [] false [] [])] : List Pipe).length, iS 1, .sl ([(GCase.mk 0 false 0), (GCase.mk 1 true 5)] : List GCase).length (fl ([(GCase.mk 0 false 0), (GCase.mk 1 true 5)] : List GCase)), .sl ([0, 1] : List Int).length (fl ([0, 1] : List Int)), bS false] [] (.tup [.own 1 0 r2200.2.2.2.2.2.2.1.length, .agg [bS r2200.1, bS r2200.2.1, bS r2200.2.2.1, iS r2200.2.2.2.1, iS r2200.2.2.2.2.1, .own 2 0 r2200.2.2.2.2.2.2.2.length], .agg (Enc.cells r2200.2.2.2.2.2.1)]) [(1, .row 57 (flD dPipe [3, 4, 5] r2200.2.2.2.2.2.2.1)), (2, .row 64 (fl r2200.2.2.2.2.2.2.2)), ((.s 3 0), .fam (famD dPipe 0 r2200.2.2.2.2.2.2.1)), ((.s 4 0), .fam (famD dPipe 1 r2200.2.2.2.2.2.2.1)), ((.s 5 0), .fam (famD dPipe 2 r2200.2.2.2.2.2.2.1))] (by first | simp only [push_cast, leL_flD, renL_flD, seval] | simp only [push_cast, List.mem_singleton, true_and, and_true, leL_flD, renL_flD, seval]) (by simp only [push_cast, leL_flD, renL_flD, seval]) (by simp only [push_cast, leL_flD, renL_flD, seval]) (by simp only [push_cast, leL_flD, renL_flD, seval]) rfl (by first | (simp only [push_cast, leL_flD, renL_flD, seval]; done) | (simp only [push_cast, leL_flD, renL_flD, seval]; kernel_rfl) | kernel_rfl) (by first | (simp only [push_cast, leL_flD, renL_flD, seval]; done) | (simp only [push_cast, leL_flD, renL_flD, seval]; kernel_rfl) | kernel_rfl) rfl) [(0, .row 57 (fl ([(Pipe.mk 1 [] false [] []), (Pipe.mk 1 [] false [] [])] : List Pipe))), (1, .row 49 (fl ([(GCase.mk 0 false 0), (GCase.mk 1 true 5)] : List GCase)))] [.own 0 0 ([(Pipe.mk 1 [] false [] []), (Pipe.mk 1 [] false [] [])] : List Pipe).length, iS 1, .own 1 0 ([(GCase.mk 0 false 0), (GCase.mk 1 true 5)] : List GCase).length, .sl ([0, 1] : List Int).length (fl ([0, 1] : List Int)), bS false] [(0, 0)] (.tup [.own 3 0 r2200.2.2.2.2.2.2.1.length, .agg [bS r2200.1, bS r2200.2.1, bS r2200.2.2.1, iS r2200.2.2.2.1, iS r2200.2.2.2.2.1, .own 4 0 r2200.2.2.2.2.2.2.2.length], .agg (Enc.cells r2200.2.2.2.2.2.1)]) [(3, .row 57 (flD dPipe [5, 6, 7] r2200.2.2.2.2.2.2.1)), (4, .row 64 (fl r2200.2.2.2.2.2.2.2)), ((.s 5 0), .fam (famD dPipe 0 r2200.2.2.2.2.2.2.1)), ((.s 6 0), .fam (famD dPipe 1 r2200.2.2.2.2.2.2.1)), ((.s 7 0), .fam (famD dPipe 2 r2200.2.2.2.2.2.2.1)), (0, .dead)] (by first | simp only [push_cast, leL_flD, renL_flD, seval] | simp only [push_cast, List.mem_singleton, true_and, and_true, leL_flD, renL_flD, seval]) (by simp only [push_cast, leL_flD, renL_flD, seval]) (by simp only [push_cast, leL_flD, renL_flD, seval]) (by simp only [push_cast, leL_flD, renL_flD, seval]) rfl (by first | (simp only [push_cast, leL_flD, renL_flD, seval]; done) | (simp only [push_cast, leL_flD, renL_flD, seval]; kernel_rfl) | kernel_rfl) (by first | (simp only [push_cast, leL_flD, renL_flD, seval]; done) | (simp only [push_cast, leL_flD, renL_flD, seval]; kernel_rfl) | kernel_rfl) rfl) [(0, .row 57 (fl ([(Pipe.mk 1 [] false [] []), (Pipe.mk 1 [] false [] [])] : List Pipe))), (1, .row 49 (fl ([(GCase.mk 0 false 0), (GCase.mk 1 true 5)] : List GCase))), (2, .row 3 (fl ([0, 1] : List Int)))] [.own 0 0 ([(Pipe.mk 1 [] false [] []), (Pipe.mk 1 [] false [] [])] : List Pipe).length, iS 1, .own 1 0 ([(GCase.mk 0 false 0), (GCase.mk 1 true 5)] : List GCase).length, .own 2 0 ([0, 1] : List Int).length, bS false] [(0, 0), (1, 1)] (.tup [.own 6 0 r2200.2.2.2.2.2.2.1.length, .agg [bS r2200.1, bS r2200.2.1, bS r2200.2.2.1, iS r2200.2.2.2.1, iS r2200.2.2.2.2.1, .own 7 0 r2200.2.2.2.2.2.2.2.length], .agg (Enc.cells r2200.2.2.2.2.2.1)]) [(6, .row 57 (flD dPipe [8, 9, 10] r2200.2.2.2.2.2.2.1)), (7, .row 64 (fl r2200.2.2.2.2.2.2.2)), ((.s 8 0), .fam (famD dPipe 0 r2200.2.2.2.2.2.2.1)), ((.s 9 0), .fam (famD dPipe 1 r2200.2.2.2.2.2.2.1)), ((.s 10 0), .fam (famD dPipe 2 r2200.2.2.2.2.2.2.1)), (0, .dead), (0, .dead), (1, .dead)] (by first | simp only [push_cast, leL_flD, renL_flD, seval] | simp only [push_cast, List.mem_singleton, true_and, and_true, leL_flD, renL_flD, seval]) (by simp only [push_cast, leL_flD, renL_flD, seval]) (by simp only [push_cast, leL_flD, renL_flD, seval]) (by simp only [push_cast, leL_flD, renL_flD, seval]) rfl (by first | (simp only [push_cast, leL_flD, renL_flD, seval]; done) | (simp only [push_cast, leL_flD, renL_flD, seval]; kernel_rfl) | kernel_rfl) (by first | (simp only [push_cast, leL_flD, renL_flD, seval]; done) | (simp only [push_cast, leL_flD, renL_flD, seval]; kernel_rfl) | kernel_rfl) rfl) (args := [.own 0 0 ([(Pipe.mk 1 [] false [] []), (Pipe.mk 1 [] false [] [])] : List Pipe).length, iS 1, .own 1 0 ([(GCase.mk 0 false 0), (GCase.mk 1 true 5)] : List GCase).length, .own 2 0 ([0, 1] : List Int).length, bS false]) (dst := (some 14)) (by kernel_rfl) [(0, .row 57 (fl ([(Pipe.mk 1 [] false [] []), (Pipe.mk 1 [] false [] [])] : List Pipe))), (1, .row 49 (fl ([(GCase.mk 0 false 0), (GCase.mk 1 true 5)] : List GCase))), (2, .row 3 (fl ([0, 1] : List Int)))] 3 (by kernel_rfl) [(0, 0), (1, 1), (2, 2)] [] (.tup [.own 9 0 r2200.2.2.2.2.2.2.1.length, .agg [bS r2200.1, bS r2200.2.1, bS r2200.2.2.1, iS r2200.2.2.2.1, iS r2200.2.2.2.2.1, .own 10 0 r2200.2.2.2.2.2.2.2.length], .agg (Enc.cells r2200.2.2.2.2.2.1)]) [(9, .row 57 (flD dPipe [11, 12, 13] r2200.2.2.2.2.2.2.1)), (10, .row 64 (fl r2200.2.2.2.2.2.2.2)), ((.s 11 0), .fam (famD dPipe 0 r2200.2.2.2.2.2.2.1)), ((.s 12 0), .fam (famD dPipe 1 r2200.2.2.2.2.2.2.1)), ((.s 13 0), .fam (famD dPipe 2 r2200.2.2.2.2.2.2.1)), (0, .dead), (0, .dead), (1, .dead), (0, .dead), (1, .dead), (2, .dead)] (by simp only [push_cast, leL_flD, renL_flD, seval]) (by simp only [push_cast, leL_flD, renL_flD, seval]) (by kernel_rfl) (.inl rfl) (by first | (simp only [push_cast, leL_flD, renL_flD, seval]; done) | (simp only [push_cast, leL_flD, renL_flD, seval]; kernel_rfl) | kernel_rfl) (by first | (simp only [push_cast, leL_flD, renL_flD, seval]; done) | (simp only [push_cast, leL_flD, renL_flD, seval]; kernel_rfl) | kernel_rfl) ?_
 refine rs 9 [] [] (by kernel_rfl) allP_nil ?_
 refine rf [(2, .own 9 0 r2200.2.2.2.2.2.2.1.length), (3, .ptr 14 0), (4, .ptr 15 0)] [(0, .dead), (1, .dead), (2, .dead), (9, .row 57 (flD dPipe [11, 12, 13] r2200.2.2.2.2.2.2.1)), (10, .row 64 (fl r2200.2.2.2.2.2.2.2)), ((.s 11 0), .fam (famD dPipe 0 r2200.2.2.2.2.2.2.1)), ((.s 12 0), .fam (famD dPipe 1 r2200.2.2.2.2.2.2.1)), ((.s 13 0), .fam (famD dPipe 2 r2200.2.2.2.2.2.2.1)), (14, .row 33 [bS r2200.1, bS r2200.2.1, bS r2200.2.2.1, iS r2200.2.2.2.1, iS r2200.2.2.2.2.1, .own 10 0 r2200.2.2.2.2.2.2.2.length]), (15, .row 29 (Enc.cells r2200.2.2.2.2.2.1))] 16 (by kernel_rfl) ?_
 refine wk_id ?_
 refine seq_cut (A := Bool) (fun a => ([(0, bS a)], [], 0)) (fun a => (taskmilllaw_pickBegun_j1 a) = some r) (fun K2209 hK2209 => ?_) ?_
 ·refine reg_f ?_
  refine rs 4 [] [] (by kernel_rfl) allP_nil ?_
  refine run_br h 21 (.inl (by kernel_rfl)) (fun g2210 h => ?_) (fun g2210 h => ?_)
  ·refine rs 4 [] [] (by kernel_rfl) allP_nil ?_
   refine run_br h 25 (.inl (by kernel_rfl)) (fun g2211 h => ?_) (fun g2211 h => ?_)
   ·refine rs 5 [] [] (by kernel_rfl) allP_nil ?_
    refine run_br h 30 (.inl (by kernel_rfl)) (fun g2212 h => ?_) (fun g2212 h => ?_)
    ·refine rn 13 [(2, .own 9 0 r2200.2.2.2.2.2.2.1.length), (30, bS true)] [(0, .dead), (1, .dead), (2, .dead), (9, .row 57 (flD dPipe [11, 12, 13] r2200.2.2.2.2.2.2.1)), (10, .row 64 (fl r2200.2.2.2.2.2.2.2)), ((.s 11 0), .fam (famD dPipe 0 r2200.2.2.2.2.2.2.1)), ((.s 12 0), .fam (famD dPipe 1 r2200.2.2.2.2.2.2.1)), ((.s 13 0), .fam (famD dPipe 2 r2200.2.2.2.2.2.2.1)), (14, .row 33 [bS r2200.1, bS r2200.2.1, bS r2200.2.2.1, iS r2200.2.2.2.1, iS r2200.2.2.2.2.1, .own 10 0 r2200.2.2.2.2.2.2.2.length]), (15, .row 29 (Enc.cells r2200.2.2.2.2.2.1))] 16 (by kernel_rfl) ?_
     refine rs 5 [] [] (by kernel_rfl) allP_nil ?_
     refine run_br h 35 (.inl (by kernel_rfl)) (fun g2213 h => ?_) (fun g2213 h => ?_)
     ·refine chk_sx h (fun g2215 h => ?_)
      have k2214 : 0 ≤ (1 : Int) ∧ (1 : Int) < ((r2200.2.2.2.2.2.2.1.length : Nat) : Int) := by first | simpa only [Bool.and_eq_true, decide_eq_true_eq, bne_iff_ne, ne_eq] using g2215 | (simp at g2215 ⊢; omega)
      refine rs 5 [none, some ⟨.ptr 9 (0 + ((1 : Int)).toNat * 5), [], 16, [9]⟩, none, some ⟨.own (.s 11 (1 : Int)) 0 (ixD r2200.2.2.2.2.2.2.1 (1 : Int)).Items.length, [], 16, [9]⟩] _ (by kernel_rfl) (allP_cons (ob_ldD dPipe [11, 12, 13] r2200.2.2.2.2.2.2.1 (1 : Int) 5 1 ((0 + ((1 : Int)).toNat * 5) + 1) k2214 rfl (by decide) (by first | rfl | omega) (dflS Try.prog 24) (.own (.s 11 (1 : Int)) 0 (ixD r2200.2.2.2.2.2.2.1 (1 : Int)).Items.length) rfl 16 [9]) (allP_cons (ob_ix_o 9 r2200.2.2.2.2.2.2.1.length 0 5 16 1 k2214) allP_nil)) ?_
      obtain ⟨r2216, hr2216, h⟩ := bind_sx h
      refine call_x (taskmillref_Ints_spec (ixD r2200.2.2.2.2.2.2.1 (1 : Int)).Items ([5] : List Int) r2216 hr2216) (args := [.own (.s 11 (1 : Int)) 0 (ixD r2200.2.2.2.2.2.2.1 (1 : Int)).Items.length, .own 16 0 ([5] : List Int).length]) (dst := (some 41)) (by kernel_rfl) [(0, .dead), (1, .dead), (2, .dead), (9, .row 57 (flD dPipe [11, 12, 13] r2200.2.2.2.2.2.2.1)), (10, .row 64 (fl r2200.2.2.2.2.2.2.2)), ((.s 11 0), .fam (famD dPipe 0 r2200.2.2.2.2.2.2.1)), ((.s 12 0), .fam (famD dPipe 1 r2200.2.2.2.2.2.2.1)), ((.s 13 0), .fam (famD dPipe 2 r2200.2.2.2.2.2.2.1)), (14, .row 33 [bS r2200.1, bS r2200.2.1, bS r2200.2.2.1, iS r2200.2.2.2.1, iS r2200.2.2.2.2.1, .own 10 0 r2200.2.2.2.2.2.2.2.length]), (15, .row 29 (Enc.cells r2200.2.2.2.2.2.1)), (16, .row 3 (fl ([5] : List Int)))] 17 (by kernel_rfl) [] [(.s 11 0), 16] (bS r2216) [] (by simp only [push_cast, leL_flD, renL_flD, seval]) (by simp only [push_cast, leL_flD, renL_flD, seval]) (by kernel_rfl) (.inr ⟨by simp only [push_cast, leL_flD, renL_flD, seval], by simp only [push_cast, leL_flD, renL_flD, seval]⟩) (by simp only [push_cast, leL_flD, renL_flD, seval]) (by simp only [push_cast, leL_flD, renL_flD, seval]) ?_
      refine rs 2 [] [] (by kernel_rfl) allP_nil ?_
      refine rf [(0, bS r2216)] [(0, .dead), (1, .dead), (2, .dead), (9, .row 57 (flD dPipe [11, 12, 13] r2200.2.2.2.2.2.2.1)), (10, .row 64 (fl r2200.2.2.2.2.2.2.2)), ((.s 11 0), .fam (famD dPipe 0 r2200.2.2.2.2.2.2.1)), ((.s 12 0), .fam (famD dPipe 1 r2200.2.2.2.2.2.2.1)), ((.s 13 0), .fam (famD dPipe 2 r2200.2.2.2.2.2.2.1)), (14, .row 33 [bS r2200.1, bS r2200.2.1, bS r2200.2.2.1, iS r2200.2.2.2.1, iS r2200.2.2.2.2.1, .own 10 0 r2200.2.2.2.2.2.2.2.length]), (15, .row 29 (Enc.cells r2200.2.2.2.2.2.1)), (16, .row 3 (fl ([5] : List Int)))] 17 (by kernel_rfl) ?_
      exact hK2209 (r2216) _ _ _ h (leSt_m [] [] (by first | ((try simp only [g2210, g2211, g2212, g2213]) <;> simp only [push_cast, leL_flD, renL_flD, seval]; done) | ((try simp only [g2210]); (try simp only [g2211]); (try simp only [g2212]); (try simp only [g2213]); simp only [push_cast, leL_flD, renL_flD, seval]; done) | (exfalso; clear h; simp_all; done)) (by first | ((try simp only [g2210, g2211, g2212, g2213]) <;> simp only [push_cast, leL_flD, renL_flD, seval]; done) | ((try simp only [g2210]); (try simp only [g2211]); (try simp only [g2212]); (try simp only [g2213]); simp only [push_cast, leL_flD, renL_flD, seval]; done) | (exfalso; clear h; simp_all; done)) rfl rfl rfl)
     ·refine rs 8 [] [] (by kernel_rfl) allP_nil ?_
      refine rf [(0, bS false)] [(0, .dead), (1, .dead), (2, .dead), (9, .row 57 (flD dPipe [11, 12, 13] r2200.2.2.2.2.2.2.1)), (10, .row 64 (fl r2200.2.2.2.2.2.2.2)), ((.s 11 0), .fam (famD dPipe 0 r2200.2.2.2.2.2.2.1)), ((.s 12 0), .fam (famD dPipe 1 r2200.2.2.2.2.2.2.1)), ((.s 13 0), .fam (famD dPipe 2 r2200.2.2.2.2.2.2.1)), (14, .row 33 [bS r2200.1, bS r2200.2.1, bS r2200.2.2.1, iS r2200.2.2.2.1, iS r2200.2.2.2.2.1, .own 10 0 r2200.2.2.2.2.2.2.2.length]), (15, .row 29 (Enc.cells r2200.2.2.2.2.2.1))] 16 (by kernel_rfl) ?_
      exact hK2209 (false) _ _ _ h (leSt_m [] [] (by first | ((try simp only [g2210, g2211, g2212, g2213]) <;> simp only [push_cast, leL_flD, renL_flD, seval]; done) | ((try simp only [g2210]); (try simp only [g2211]); (try simp only [g2212]); (try simp only [g2213]); simp only [push_cast, leL_flD, renL_flD, seval]; done) | (exfalso; clear h; simp_all; done)) (by first | ((try simp only [g2210, g2211, g2212, g2213]) <;> simp only [push_cast, leL_flD, renL_flD, seval]; done) | ((try simp only [g2210]); (try simp only [g2211]); (try simp only [g2212]); (try simp only [g2213]); simp only [push_cast, leL_flD, renL_flD, seval]; done) | (exfalso; clear h; simp_all; done)) rfl rfl rfl)
    ·refine rn 13 [(2, .own 9 0 r2200.2.2.2.2.2.2.1.length), (30, bS false)] [(0, .dead), (1, .dead), (2, .dead), (9, .row 57 (flD dPipe [11, 12, 13] r2200.2.2.2.2.2.2.1)), (10, .row 64 (fl r2200.2.2.2.2.2.2.2)), ((.s 11 0), .fam (famD dPipe 0 r2200.2.2.2.2.2.2.1)), ((.s 12 0), .fam (famD dPipe 1 r2200.2.2.2.2.2.2.1)), ((.s 13 0), .fam (famD dPipe 2 r2200.2.2.2.2.2.2.1)), (14, .row 33 [bS r2200.1, bS r2200.2.1, bS r2200.2.2.1, iS r2200.2.2.2.1, iS r2200.2.2.2.2.1, .own 10 0 r2200.2.2.2.2.2.2.2.length]), (15, .row 29 (Enc.cells r2200.2.2.2.2.2.1))] 16 (by kernel_rfl) ?_
     refine rs 13 [] [] (by kernel_rfl) allP_nil ?_
     refine rf [(0, bS false)] [(0, .dead), (1, .dead), (2, .dead), (9, .row 57 (flD dPipe [11, 12, 13] r2200.2.2.2.2.2.2.1)), (10, .row 64 (fl r2200.2.2.2.2.2.2.2)), ((.s 11 0), .fam (famD dPipe 0 r2200.2.2.2.2.2.2.1)), ((.s 12 0), .fam (famD dPipe 1 r2200.2.2.2.2.2.2.1)), ((.s 13 0), .fam (famD dPipe 2 r2200.2.2.2.2.2.2.1)), (14, .row 33 [bS r2200.1, bS r2200.2.1, bS r2200.2.2.1, iS r2200.2.2.2.1, iS r2200.2.2.2.2.1, .own 10 0 r2200.2.2.2.2.2.2.2.length]), (15, .row 29 (Enc.cells r2200.2.2.2.2.2.1))] 16 (by kernel_rfl) ?_
     exact hK2209 (false) _ _ _ h (leSt_m [] [] (by first | ((try simp only [g2210, g2211, g2212]) <;> simp only [push_cast, leL_flD, renL_flD, seval]; done) | ((try simp only [g2210]); (try simp only [g2211]); (try simp only [g2212]); simp only [push_cast, leL_flD, renL_flD, seval]; done) | (exfalso; clear h; simp_all; done)) (by first | ((try simp only [g2210, g2211, g2212]) <;> simp only [push_cast, leL_flD, renL_flD, seval]; done) | ((try simp only [g2210]); (try simp only [g2211]); (try simp only [g2212]); simp only [push_cast, leL_flD, renL_flD, seval]; done) | (exfalso; clear h; simp_all; done)) rfl rfl rfl)
   ·refine rs 18 [] [] (by kernel_rfl) allP_nil ?_
    refine rf [(0, bS false)] [(0, .dead), (1, .dead), (2, .dead), (9, .row 57 (flD dPipe [11, 12, 13] r2200.2.2.2.2.2.2.1)), (10, .row 64 (fl r2200.2.2.2.2.2.2.2)), ((.s 11 0), .fam (famD dPipe 0 r2200.2.2.2.2.2.2.1)), ((.s 12 0), .fam (famD dPipe 1 r2200.2.2.2.2.2.2.1)), ((.s 13 0), .fam (famD dPipe 2 r2200.2.2.2.2.2.2.1)), (14, .row 33 [bS r2200.1, bS r2200.2.1, bS r2200.2.2.1, iS r2200.2.2.2.1, iS r2200.2.2.2.2.1, .own 10 0 r2200.2.2.2.2.2.2.2.length]), (15, .row 29 (Enc.cells r2200.2.2.2.2.2.1))] 16 (by kernel_rfl) ?_
    exact hK2209 (false) _ _ _ h (leSt_m [] [] (by first | ((try simp only [g2210, g2211]) <;> simp only [push_cast, leL_flD, renL_flD, seval]; done) | ((try simp only [g2210]); (try simp only [g2211]); simp only [push_cast, leL_flD, renL_flD, seval]; done) | (exfalso; clear h; simp_all; done)) (by first | ((try simp only [g2210, g2211]) <;> simp only [push_cast, leL_flD, renL_flD, seval]; done) | ((try simp only [g2210]); (try simp only [g2211]); simp only [push_cast, leL_flD, renL_flD, seval]; done) | (exfalso; clear h; simp_all; done)) rfl rfl rfl)
  ·refine rs 22 [] [] (by kernel_rfl) allP_nil ?_
   refine rf [(0, bS false)] [(0, .dead), (1, .dead), (2, .dead), (9, .row 57 (flD dPipe [11, 12, 13] r2200.2.2.2.2.2.2.1)), (10, .row 64 (fl r2200.2.2.2.2.2.2.2)), ((.s 11 0), .fam (famD dPipe 0 r2200.2.2.2.2.2.2.1)), ((.s 12 0), .fam (famD dPipe 1 r2200.2.2.2.2.2.2.1)), ((.s 13 0), .fam (famD dPipe 2 r2200.2.2.2.2.2.2.1)), (14, .row 33 [bS r2200.1, bS r2200.2.1, bS r2200.2.2.1, iS r2200.2.2.2.1, iS r2200.2.2.2.2.1, .own 10 0 r2200.2.2.2.2.2.2.2.length]), (15, .row 29 (Enc.cells r2200.2.2.2.2.2.1))] 16 (by kernel_rfl) ?_
   exact hK2209 (false) _ _ _ h (leSt_m [] [] (by (try simp only [g2210]) <;> simp only [push_cast, leL_flD, renL_flD, seval]) (by (try simp only [g2210]) <;> simp only [push_cast, leL_flD, renL_flD, seval]) rfl rfl rfl)
 ·rintro t0q1 h
  try dsimp only at h ⊢
  unfold taskmilllaw_pickBegun_j1 at h
  obtain rfl := Option.some.inj h
  refine ret_at (bS t0q1) (by kernel_rfl) ?_
  exact ret_e [] [] (by simp only [push_cast, leL_flD, renL_flD, seval]) (by simp only [push_cast, leL_flD, renL_flD, seval]) rfl rfl rfl

set_option maxRecDepth 100000 in
set_option maxHeartbeats 200000000 in
theorem taskmilllaw_vastPipe_spec (p : Pipe) (r : Bool) (h : taskmilllaw_vastPipe p = some r) : SpecW Try.prog 36 [.agg (Enc.cells p)] [] 0 (fun x h n => x = bS r ∧ h = [] ∧ n = 0) := by
 unfold taskmilllaw_vastPipe at h
 refine spec_of (draw_ok _) Try.func36 rfl (by decide) rfl (by kernel_rfl) ?_
 refine seq_np ?_
 refine reg_f ?_
 refine rs 2 [] [] (by kernel_rfl) allP_nil ?_
 refine rf [(1, .ptr 0 0)] [(0, .row 57 (Enc.cells p))] 1 (by kernel_rfl) ?_
 refine wk_id ?_
 refine seq_cut (A := Unit) (fun _ => ([(2, bS ((decide ((6000 : Int) < (IntKind.i64.wrap ((IntKind.i64.wrap (((p.Items.length : Nat) : Int) + ((p.Senders.length : Nat) : Int))) + ((p.Getters.length : Nat) : Int))))) || (decide ((800 : Int) < (IntKind.i64.wrap (((p.Senders.length : Nat) : Int) + ((p.Getters.length : Nat) : Int)))))))], [(0, .row 57 (Enc.cells p))], 1)) (fun _ => True) (fun K2224 hK2224 => ?_) (fun _ _ => ?_)
 ·refine reg_f ?_
  refine rs 13 [] [] (by kernel_rfl) allP_nil ?_
  refine run_split 15 (decide ((6000 : Int) < (IntKind.i64.wrap ((IntKind.i64.wrap (((p.Items.length : Nat) : Int) + ((p.Senders.length : Nat) : Int))) + ((p.Getters.length : Nat) : Int))))) (.inl (by kernel_rfl)) (fun g2225 => ?_) (fun g2225 => ?_)
  ·refine rs 10 [] [] (by kernel_rfl) allP_nil ?_
   refine rf [(2, bS true)] [(0, .row 57 (Enc.cells p))] 1 (by kernel_rfl) ?_
   exact hK2224 () _ _ _ trivial (leSt_m [(0, 0)] [] (by (try simp only [g2225]) <;> simp only [push_cast, leL_flD, renL_flD, seval]) (by (try simp only [g2225]) <;> simp only [push_cast, leL_flD, renL_flD, seval]) rfl rfl rfl)
  ·refine rs 10 [] [] (by kernel_rfl) allP_nil ?_
   refine rf [(2, bS (decide ((800 : Int) < (IntKind.i64.wrap (((p.Senders.length : Nat) : Int) + ((p.Getters.length : Nat) : Int))))))] [(0, .row 57 (Enc.cells p))] 1 (by kernel_rfl) ?_
   exact hK2224 () _ _ _ trivial (leSt_m [(0, 0)] [] (by (try simp only [g2225]) <;> simp only [push_cast, leL_flD, renL_flD, seval]) (by (try simp only [g2225]) <;> simp only [push_cast, leL_flD, renL_flD, seval]) rfl rfl rfl)
 ·dsimp only
  obtain rfl := Option.some.inj h
  refine ret_at (bS ((decide ((6000 : Int) < (IntKind.i64.wrap ((IntKind.i64.wrap (((p.Items.length : Nat) : Int) + ((p.Senders.length : Nat) : Int))) + ((p.Getters.length : Nat) : Int))))) || (decide ((800 : Int) < (IntKind.i64.wrap (((p.Senders.length : Nat) : Int) + ((p.Getters.length : Nat) : Int))))))) (by kernel_rfl) ?_
  exact ret_e [] [] (by simp only [push_cast, leL_flD, renL_flD, seval]) (by simp only [push_cast, leL_flD, renL_flD, seval]) rfl rfl rfl

set_option maxRecDepth 100000 in
set_option maxHeartbeats 200000000 in
theorem taskmillref_F_spec (code : Int) (xat : Int) (r : Fault) (h : taskmillref_F code xat = some r) : SpecW Try.prog 31 [iS code, iS xat] [] 0 (fun x h n => x = .agg (Enc.cells r) ∧ h = [] ∧ n = 0) := by
 unfold taskmillref_F at h
 refine spec_of (draw_ok _) Try.func31 rfl (by decide) rfl (by kernel_rfl) ?_
 refine seq_np ?_
 refine reg_f ?_
 refine rs 1 [] [] (by kernel_rfl) allP_nil ?_
 refine rf [(0, iS code), (1, iS xat), (4, .ptr 0 0)] [(0, .row 29 [iS 0, iS 0])] 1 (by kernel_rfl) ?_
 refine wk_id ?_
 refine seq_np ?_
 refine reg_f ?_
 refine rs 4 [] [] (by kernel_rfl) allP_nil ?_
 refine rf [(4, .ptr 0 0)] [(0, .row 29 [iS code, iS xat])] 1 (by kernel_rfl) ?_
 refine wk_id ?_
 obtain rfl := Option.some.inj h
 refine ret_at (.agg [iS code, iS xat]) (by kernel_rfl) ?_
 exact ret_e [] [] (by simp only [push_cast, leL_flD, renL_flD, seval]) (by simp only [push_cast, leL_flD, renL_flD, seval]) rfl rfl rfl

set_option maxRecDepth 100000 in
set_option maxHeartbeats 200000000 in
theorem taskmillref_PipeFault_spec (p : Pipe) (r : Fault) (h : taskmillref_PipeFault p = some r) : SpecW Try.prog 48 [.agg (Enc.cells p)] [] 0 (fun x h n => x = .agg (Enc.cells r) ∧ h = [] ∧ n = 0) := by
 unfold taskmillref_PipeFault at h
 refine spec_of (draw_ok _) Try.func48 rfl (by decide) rfl (by kernel_rfl) ?_
 refine seq_np ?_
 refine reg_f ?_
 refine rs 2 [] [] (by kernel_rfl) allP_nil ?_
 refine rf [(1, .ptr 0 0), (2, .ptr 1 0)] [(0, .row 57 (Enc.cells p)), (1, .row 29 [iS 0, iS 0])] 2 (by kernel_rfl) ?_
 refine wk_id ?_
 refine seq_np ?_
 refine seq_np ?_
 refine reg_f ?_
 refine rs 12 [] [] (by kernel_rfl) allP_nil ?_
 refine rf [(1, .ptr 0 0), (2, .ptr 1 0), (19, bS (decide ((5000 : Int) < (IntKind.i64.wrap ((IntKind.i64.wrap (((p.Items.length : Nat) : Int) + ((p.Senders.length : Nat) : Int))) + ((p.Getters.length : Nat) : Int))))))] [(0, .row 57 (Enc.cells p)), (1, .row 29 [iS 0, iS 0])] 2 (by kernel_rfl) ?_
 refine wk_id ?_
 refine cond_sx h (by kernel_rfl) (fun g3027 h => ?_) (fun g3027 h => ?_)
 ·refine seq_np ?_
  refine reg_f ?_
  obtain ⟨r2558, hr2558, h⟩ := bind_sx h
  refine run_call 31 [iS 2, iS 0] (some 20) (by kernel_rfl) ?_
  refine call_0 (taskmillref_F_spec 2 0 r2558 hr2558) (by simp only [push_cast, leL_flD, renL_flD, seval]) (by simp only [push_cast, leL_flD, renL_flD, seval]) ?_
  refine back_f ?_
  refine rs 1 [] [] (by kernel_rfl) allP_nil ?_
  refine rf [(2, .ptr 1 0)] [(0, .row 57 (Enc.cells p)), (1, .row 29 (Enc.cells r2558))] 2 (by kernel_rfl) ?_
  refine wk_id ?_
  obtain rfl := Option.some.inj h
  refine ret_at (.agg (Enc.cells r2558)) (by kernel_rfl) ?_
  exact ret_e [] [] (by simp only [push_cast, leL_flD, renL_flD, seval]) (by simp only [push_cast, leL_flD, renL_flD, seval]) rfl rfl rfl
 ·refine wk_id ?_
  refine seq_np ?_
  refine seq_cut (A := Unit) (fun _ => ([(1, .ptr 0 0), (2, .ptr 1 0), (28, bS ((decide (p.Cap < 0)) || (decide ((1000 : Int) < p.Cap))))], [(0, .row 57 (Enc.cells p)), (1, .row 29 [iS 0, iS 0])], 2)) (fun _ => True) (fun K2563 hK2563 => ?_) (fun _ _ => ?_)
  ·refine reg_f ?_
   refine rs 4 [] [] (by kernel_rfl) allP_nil ?_
   refine run_split 24 (decide (p.Cap < 0)) (.inl (by kernel_rfl)) (fun g2564 => ?_) (fun g2564 => ?_)
   ·refine rs 4 [] [] (by kernel_rfl) allP_nil ?_
    refine rf [(1, .ptr 0 0), (2, .ptr 1 0), (28, bS true)] [(0, .row 57 (Enc.cells p)), (1, .row 29 [iS 0, iS 0])] 2 (by kernel_rfl) ?_
    exact hK2563 () _ _ _ trivial (leSt_m [(0, 0), (1, 1)] [] (by (try simp only [g2564]) <;> simp only [push_cast, leL_flD, renL_flD, seval]) (by (try simp only [g2564]) <;> simp only [push_cast, leL_flD, renL_flD, seval]) rfl rfl rfl)
   ·refine rs 4 [] [] (by kernel_rfl) allP_nil ?_
    refine rf [(1, .ptr 0 0), (2, .ptr 1 0), (28, bS (decide ((1000 : Int) < p.Cap)))] [(0, .row 57 (Enc.cells p)), (1, .row 29 [iS 0, iS 0])] 2 (by kernel_rfl) ?_
    exact hK2563 () _ _ _ trivial (leSt_m [(0, 0), (1, 1)] [] (by (try simp only [g2564]) <;> simp only [push_cast, leL_flD, renL_flD, seval]) (by (try simp only [g2564]) <;> simp only [push_cast, leL_flD, renL_flD, seval]) rfl rfl rfl)
  ·dsimp only
   refine cond_sx h (by kernel_rfl) (fun g3026 h => ?_) (fun g3026 h => ?_)
   ·refine seq_np ?_
    refine reg_f ?_
    obtain ⟨r2566, hr2566, h⟩ := bind_sx h
    refine run_call 31 [iS 3, iS 0] (some 29) (by kernel_rfl) ?_
    refine call_0 (taskmillref_F_spec 3 0 r2566 hr2566) (by simp only [push_cast, leL_flD, renL_flD, seval]) (by simp only [push_cast, leL_flD, renL_flD, seval]) ?_
    refine back_f ?_
    refine rs 1 [] [] (by kernel_rfl) allP_nil ?_
    refine rf [(2, .ptr 1 0)] [(0, .row 57 (Enc.cells p)), (1, .row 29 (Enc.cells r2566))] 2 (by kernel_rfl) ?_
    refine wk_id ?_
    obtain rfl := Option.some.inj h
    refine ret_at (.agg (Enc.cells r2566)) (by kernel_rfl) ?_
    exact ret_e [] [] (by simp only [push_cast, leL_flD, renL_flD, seval]) (by simp only [push_cast, leL_flD, renL_flD, seval]) rfl rfl rfl
   ·refine wk_id ?_
    refine seq_np ?_
    refine seq_np ?_
    refine reg_f ?_
    refine rs 6 [] [] (by kernel_rfl) allP_nil ?_
    refine rf [(1, .ptr 0 0), (2, .ptr 1 0), (35, bS (decide (p.Cap < ((p.Items.length : Nat) : Int))))] [(0, .row 57 (Enc.cells p)), (1, .row 29 [iS 0, iS 0])] 2 (by kernel_rfl) ?_
    refine wk_id ?_
    refine cond_sx h (by kernel_rfl) (fun g3025 h => ?_) (fun g3025 h => ?_)
    ·refine seq_np ?_
     refine reg_f ?_
     obtain ⟨r2570, hr2570, h⟩ := bind_sx h
     refine run_call 31 [iS 8, iS 0] (some 36) (by kernel_rfl) ?_
     refine call_0 (taskmillref_F_spec 8 0 r2570 hr2570) (by simp only [push_cast, leL_flD, renL_flD, seval]) (by simp only [push_cast, leL_flD, renL_flD, seval]) ?_
     refine back_f ?_
     refine rs 1 [] [] (by kernel_rfl) allP_nil ?_
     refine rf [(2, .ptr 1 0)] [(0, .row 57 (Enc.cells p)), (1, .row 29 (Enc.cells r2570))] 2 (by kernel_rfl) ?_
     refine wk_id ?_
     obtain rfl := Option.some.inj h
     refine ret_at (.agg (Enc.cells r2570)) (by kernel_rfl) ?_
     exact ret_e [] [] (by simp only [push_cast, leL_flD, renL_flD, seval]) (by simp only [push_cast, leL_flD, renL_flD, seval]) rfl rfl rfl
    ·refine wk_id ?_
     refine seq_cut (A := Unit) (fun a => ([(1, .ptr 0 0), (2, .ptr 1 0)], [(0, .row 57 (Enc.cells p)), (1, .row 29 [iS 0, iS 0])], 2)) (fun a => (taskmillref_PipeFault_j3 p) = some r) (fun K2577 hK2577 => ?_) ?_
     ·refine seq_np ?_
      refine reg_f ?_
      refine rs 4 [] [] (by kernel_rfl) allP_nil ?_
      refine rf [(1, .ptr 0 0), (2, .ptr 1 0), (40, bS (decide ((0 : Int) < ((p.Senders.length : Nat) : Int))))] [(0, .row 57 (Enc.cells p)), (1, .row 29 [iS 0, iS 0])] 2 (by kernel_rfl) ?_
      refine wk_id ?_
      refine cond_sx h (by kernel_rfl) (fun g2586 h => ?_) (fun g2586 h => ?_)
      ·refine seq_cut (A := Unit) (fun _ => ([(1, .ptr 0 0), (2, .ptr 1 0), (56, bS (p.Closed || ((((p.Items.length : Nat) : Int) != p.Cap) || (decide ((0 : Int) < ((p.Getters.length : Nat) : Int))))))], [(0, .row 57 (Enc.cells p)), (1, .row 29 [iS 0, iS 0])], 2)) (fun _ => True) (fun K2580 hK2580 => ?_) (fun _ _ => ?_)
       ·refine reg_f ?_
        refine rs 3 [] [] (by kernel_rfl) allP_nil ?_
        refine run_split 43 p.Closed (.inl (by kernel_rfl)) (fun g2581 => ?_) (fun g2581 => ?_)
        ·refine rs 13 [] [] (by kernel_rfl) allP_nil ?_
         refine rf [(1, .ptr 0 0), (2, .ptr 1 0), (56, bS true)] [(0, .row 57 (Enc.cells p)), (1, .row 29 [iS 0, iS 0])] 2 (by kernel_rfl) ?_
         exact hK2580 () _ _ _ trivial (leSt_m [(0, 0), (1, 1)] [] (by (try simp only [g2581]) <;> simp only [push_cast, leL_flD, renL_flD, seval]) (by (try simp only [g2581]) <;> simp only [push_cast, leL_flD, renL_flD, seval]) rfl rfl rfl)
        ·refine rs 8 [] [] (by kernel_rfl) allP_nil ?_
         refine run_split 51 (((p.Items.length : Nat) : Int) != p.Cap) (.inl (by kernel_rfl)) (fun g2582 => ?_) (fun g2582 => ?_)
         ·refine rs 5 [] [] (by kernel_rfl) allP_nil ?_
          refine rf [(1, .ptr 0 0), (2, .ptr 1 0), (56, bS true)] [(0, .row 57 (Enc.cells p)), (1, .row 29 [iS 0, iS 0])] 2 (by kernel_rfl) ?_
          exact hK2580 () _ _ _ trivial (leSt_m [(0, 0), (1, 1)] [] (by first | ((try simp only [g2581, g2582]) <;> simp only [push_cast, leL_flD, renL_flD, seval]; done) | ((try simp only [g2581]); (try simp only [g2582]); simp only [push_cast, leL_flD, renL_flD, seval]; done) | (exfalso; clear h; simp_all; done)) (by first | ((try simp only [g2581, g2582]) <;> simp only [push_cast, leL_flD, renL_flD, seval]; done) | ((try simp only [g2581]); (try simp only [g2582]); simp only [push_cast, leL_flD, renL_flD, seval]; done) | (exfalso; clear h; simp_all; done)) rfl rfl rfl)
         ·refine rs 5 [] [] (by kernel_rfl) allP_nil ?_
          refine rf [(1, .ptr 0 0), (2, .ptr 1 0), (56, bS (decide ((0 : Int) < ((p.Getters.length : Nat) : Int))))] [(0, .row 57 (Enc.cells p)), (1, .row 29 [iS 0, iS 0])] 2 (by kernel_rfl) ?_
          exact hK2580 () _ _ _ trivial (leSt_m [(0, 0), (1, 1)] [] (by first | ((try simp only [g2581, g2582]) <;> simp only [push_cast, leL_flD, renL_flD, seval]; done) | ((try simp only [g2581]); (try simp only [g2582]); simp only [push_cast, leL_flD, renL_flD, seval]; done) | (exfalso; clear h; simp_all; done)) (by first | ((try simp only [g2581, g2582]) <;> simp only [push_cast, leL_flD, renL_flD, seval]; done) | ((try simp only [g2581]); (try simp only [g2582]); simp only [push_cast, leL_flD, renL_flD, seval]; done) | (exfalso; clear h; simp_all; done)) rfl rfl rfl)
       ·dsimp only
        refine cond_sx h (by kernel_rfl) (fun g2585 h => ?_) (fun g2585 h => ?_)
        ·refine seq_np ?_
         refine reg_f ?_
         obtain ⟨r2584, hr2584, h⟩ := bind_sx h
         refine run_call 31 [iS 5, iS 0] (some 57) (by kernel_rfl) ?_
         refine call_0 (taskmillref_F_spec 5 0 r2584 hr2584) (by simp only [push_cast, leL_flD, renL_flD, seval]) (by simp only [push_cast, leL_flD, renL_flD, seval]) ?_
         refine back_f ?_
         refine rs 1 [] [] (by kernel_rfl) allP_nil ?_
         refine rf [(2, .ptr 1 0)] [(0, .row 57 (Enc.cells p)), (1, .row 29 (Enc.cells r2584))] 2 (by kernel_rfl) ?_
         refine wk_id ?_
         obtain rfl := Option.some.inj h
         refine ret_at (.agg (Enc.cells r2584)) (by kernel_rfl) ?_
         exact ret_e [] [] (by simp only [push_cast, leL_flD, renL_flD, seval]) (by simp only [push_cast, leL_flD, renL_flD, seval]) rfl rfl rfl
        ·exact hK2577 () _ _ _ h (leSt_m [(0, 0), (1, 1)] [] (by simp only [push_cast, leL_flD, renL_flD, seval]) (by simp only [push_cast, leL_flD, renL_flD, seval]) rfl rfl rfl)
      ·exact hK2577 () _ _ _ h (leSt_m [(0, 0), (1, 1)] [] (by simp only [push_cast, leL_flD, renL_flD, seval]) (by simp only [push_cast, leL_flD, renL_flD, seval]) rfl rfl rfl)
     ·rintro _ h
      try dsimp only at h ⊢
      unfold taskmillref_PipeFault_j3 at h
      refine seq_cut (A := Unit) (fun a => ([(1, .ptr 0 0), (2, .ptr 1 0)], [(0, .row 57 (Enc.cells p)), (1, .row 29 [iS 0, iS 0])], 2)) (fun a => (taskmillref_PipeFault_j2 p) = some r) (fun K2592 hK2592 => ?_) ?_
      ·refine seq_np ?_
       refine reg_f ?_
       refine rs 4 [] [] (by kernel_rfl) allP_nil ?_
       refine rf [(1, .ptr 0 0), (2, .ptr 1 0), (61, bS (decide ((0 : Int) < ((p.Getters.length : Nat) : Int))))] [(0, .row 57 (Enc.cells p)), (1, .row 29 [iS 0, iS 0])] 2 (by kernel_rfl) ?_
       refine wk_id ?_
       refine cond_sx h (by kernel_rfl) (fun g2599 h => ?_) (fun g2599 h => ?_)
       ·refine seq_cut (A := Unit) (fun _ => ([(1, .ptr 0 0), (2, .ptr 1 0), (69, bS (p.Closed || (decide ((0 : Int) < ((p.Items.length : Nat) : Int)))))], [(0, .row 57 (Enc.cells p)), (1, .row 29 [iS 0, iS 0])], 2)) (fun _ => True) (fun K2594 hK2594 => ?_) (fun _ _ => ?_)
        ·refine reg_f ?_
         refine rs 3 [] [] (by kernel_rfl) allP_nil ?_
         refine run_split 64 p.Closed (.inl (by kernel_rfl)) (fun g2595 => ?_) (fun g2595 => ?_)
         ·refine rs 5 [] [] (by kernel_rfl) allP_nil ?_
          refine rf [(1, .ptr 0 0), (2, .ptr 1 0), (69, bS true)] [(0, .row 57 (Enc.cells p)), (1, .row 29 [iS 0, iS 0])] 2 (by kernel_rfl) ?_
          exact hK2594 () _ _ _ trivial (leSt_m [(0, 0), (1, 1)] [] (by (try simp only [g2595]) <;> simp only [push_cast, leL_flD, renL_flD, seval]) (by (try simp only [g2595]) <;> simp only [push_cast, leL_flD, renL_flD, seval]) rfl rfl rfl)
         ·refine rs 5 [] [] (by kernel_rfl) allP_nil ?_
          refine rf [(1, .ptr 0 0), (2, .ptr 1 0), (69, bS (decide ((0 : Int) < ((p.Items.length : Nat) : Int))))] [(0, .row 57 (Enc.cells p)), (1, .row 29 [iS 0, iS 0])] 2 (by kernel_rfl) ?_
          exact hK2594 () _ _ _ trivial (leSt_m [(0, 0), (1, 1)] [] (by (try simp only [g2595]) <;> simp only [push_cast, leL_flD, renL_flD, seval]) (by (try simp only [g2595]) <;> simp only [push_cast, leL_flD, renL_flD, seval]) rfl rfl rfl)
        ·dsimp only
         refine cond_sx h (by kernel_rfl) (fun g2598 h => ?_) (fun g2598 h => ?_)
         ·refine seq_np ?_
          refine reg_f ?_
          obtain ⟨r2597, hr2597, h⟩ := bind_sx h
          refine run_call 31 [iS 5, iS 0] (some 70) (by kernel_rfl) ?_
          refine call_0 (taskmillref_F_spec 5 0 r2597 hr2597) (by simp only [push_cast, leL_flD, renL_flD, seval]) (by simp only [push_cast, leL_flD, renL_flD, seval]) ?_
          refine back_f ?_
          refine rs 1 [] [] (by kernel_rfl) allP_nil ?_
          refine rf [(2, .ptr 1 0)] [(0, .row 57 (Enc.cells p)), (1, .row 29 (Enc.cells r2597))] 2 (by kernel_rfl) ?_
          refine wk_id ?_
          obtain rfl := Option.some.inj h
          refine ret_at (.agg (Enc.cells r2597)) (by kernel_rfl) ?_
          exact ret_e [] [] (by simp only [push_cast, leL_flD, renL_flD, seval]) (by simp only [push_cast, leL_flD, renL_flD, seval]) rfl rfl rfl
         ·exact hK2592 () _ _ _ h (leSt_m [(0, 0), (1, 1)] [] (by simp only [push_cast, leL_flD, renL_flD, seval]) (by simp only [push_cast, leL_flD, renL_flD, seval]) rfl rfl rfl)
       ·exact hK2592 () _ _ _ h (leSt_m [(0, 0), (1, 1)] [] (by simp only [push_cast, leL_flD, renL_flD, seval]) (by simp only [push_cast, leL_flD, renL_flD, seval]) rfl rfl rfl)
      ·rintro _ h
       try dsimp only at h ⊢
       unfold taskmillref_PipeFault_j2 at h
       refine chk_sx h (fun g2605 h => ?_)
       refine chk_sx h (fun g2607 h => ?_)
       refine seq_np ?_
       refine reg_t ?_
       have k2604 : p.Senders.length * 24 ≤ 140737488355328 := by first | simpa only [Bool.and_eq_true, decide_eq_true_eq, bne_iff_ne, ne_eq] using g2605 | (simp at g2605 ⊢; omega)
       have k2606 : (p.Senders ++ p.Getters).length * 24 ≤ 140737488355328 := by first | simpa only [Bool.and_eq_true, decide_eq_true_eq, bne_iff_ne, ne_eq] using g2607 | (simp at g2607 ⊢; omega)
       refine rs 7 [none, none, some ⟨.own 4 0 p.Senders.length, [(4, .row 92 (fl p.Senders))], 5, []⟩, none, none, some ⟨.own 8 0 (p.Senders ++ p.Getters).length, [(8, .row 92 (fl (p.Senders ++ p.Getters))), (4, .dead)], 9, [4]⟩] _ (by kernel_rfl) (allP_cons (ob_app (P := Try.prog) p.Senders p.Getters 3 24 rfl (fl p.Getters) p.Getters.length rfl rfl ((fl p.Getters).length = p.Getters.length * 3) (app_sl p.Getters 3 rfl) 92 (by kernel_rfl) (by decide) k2606 4 8 []) (allP_cons (ob_app0 (P := Try.prog) p.Senders 3 24 rfl (fl p.Senders) p.Senders.length rfl rfl ((fl p.Senders).length = p.Senders.length * 3) (app_sl p.Senders 3 rfl) 92 (by kernel_rfl) (by decide) k2604 4 []) allP_nil)) ?_
       refine rt [(1, .ptr 0 0), (2, .ptr 1 0), (3, .own 8 0 (p.Senders ++ p.Getters).length)] [(0, .row 57 (Enc.cells p)), (1, .row 29 [iS 0, iS 0]), (4, .dead), (8, .row 92 (fl (p.Senders ++ p.Getters)))] 11 follows (by kernel_rfl) ?_
       refine wk_id ?_
       refine seq_np ?_
       refine seq_np ?_
       refine reg_f ?_
       refine rs 1 [] [] (by kernel_rfl) allP_nil ?_
       refine rf [(1, .ptr 0 0), (2, .ptr 1 0), (3, .own 8 0 (p.Senders ++ p.Getters).length), (4, iS 0)] [(0, .row 57 (Enc.cells p)), (1, .row 29 [iS 0, iS 0]), (4, .dead), (8, .row 92 (fl (p.Senders ++ p.Getters)))] 11 (by kernel_rfl) ?_
       refine wk_id ?_
       refine block_np ?_
       refine loop_sx (S := Int) (fun a => ([(1, .ptr 0 0), (2, .ptr 1 0), (3, .own 2 0 (p.Senders ++ p.Getters).length), (4, iS a)], [(0, .row 57 (Enc.cells p)), (1, .row 29 [iS 0, iS 0]), (2, .row 92 (fl (p.Senders ++ p.Getters)))], 3)) h (leSt_m [(0, 0), (1, 1), (2, 8)] [] (by simp only [push_cast, leL_flD, renL_flD, seval]) (by simp only [push_cast, leL_flD, renL_flD, seval]) rfl rfl rfl) ?_
       rintro i9 o4 R4 h hr4 hn4 hx4 ht4
       try dsimp only at h hn4 ⊢
       unfold taskmillref_PipeFault_l3 at h
       try dsimp only at h
       refine seq_np ?_
       refine seq_np ?_
       refine reg_f ?_
       refine rs 4 [] [] (by kernel_rfl) allP_nil ?_
       refine rf [(1, .ptr 0 0), (2, .ptr 1 0), (3, .own 2 0 (p.Senders ++ p.Getters).length), (4, iS i9), (80, bS (decide (i9 < (((p.Senders ++ p.Getters).length : Nat) : Int))))] [(0, .row 57 (Enc.cells p)), (1, .row 29 [iS 0, iS 0]), (2, .row 92 (fl (p.Senders ++ p.Getters)))] 3 (by kernel_rfl) ?_
       refine wk_id ?_
       refine cond_sx h (by kernel_rfl) (fun g3024 h => ?_) (fun g3024 h => ?_)
       ·refine wk_id ?_
        refine seq_np ?_
        refine block_np ?_
        refine seq_np ?_
        refine reg_f ?_
        refine rs 1 [] [] (by kernel_rfl) allP_nil ?_
        refine rf [(1, .ptr 0 0), (2, .ptr 1 0), (3, .own 2 0 (p.Senders ++ p.Getters).length), (4, iS i9), (5, iS 1)] [(0, .row 57 (Enc.cells p)), (1, .row 29 [iS 0, iS 0]), (2, .row 92 (fl (p.Senders ++ p.Getters)))] 3 (by kernel_rfl) ?_
        refine wk_id ?_
        refine seq_cut (A := Int) (fun a => ([(1, .ptr 0 0), (2, .ptr 1 0), (3, .own 2 0 (p.Senders ++ p.Getters).length), (4, iS i9), (5, iS a)], [(0, .row 57 (Enc.cells p)), (1, .row 29 [iS 0, iS 0]), (2, .row 92 (fl (p.Senders ++ p.Getters)))], 3)) (fun a => (taskmillref_PipeFault_j1 p i9 a) = some o4) (fun K2879 hK2879 => ?_) ?_
        ·refine seq_np ?_
         refine reg_f ?_
         refine rs 5 [] [] (by kernel_rfl) allP_nil ?_
         refine rf [(1, .ptr 0 0), (2, .ptr 1 0), (3, .own 2 0 (p.Senders ++ p.Getters).length), (4, iS i9), (5, iS 1), (87, bS (decide (((p.Senders.length : Nat) : Int) ≤ i9)))] [(0, .row 57 (Enc.cells p)), (1, .row 29 [iS 0, iS 0]), (2, .row 92 (fl (p.Senders ++ p.Getters)))] 3 (by kernel_rfl) ?_
         refine wk_id ?_
         refine cond_sx h (by kernel_rfl) (fun g2880 h => ?_) (fun g2880 h => ?_)
         ·refine reg_f ?_
          refine rs 1 [] [] (by kernel_rfl) allP_nil ?_
          refine rf [(1, .ptr 0 0), (2, .ptr 1 0), (3, .own 2 0 (p.Senders ++ p.Getters).length), (4, iS i9), (5, iS 2)] [(0, .row 57 (Enc.cells p)), (1, .row 29 [iS 0, iS 0]), (2, .row 92 (fl (p.Senders ++ p.Getters)))] 3 (by kernel_rfl) ?_
          exact hK2879 (2) _ _ _ h (leSt_m [(0, 0), (1, 1), (2, 2)] [] (by simp only [push_cast, leL_flD, renL_flD, seval]) (by simp only [push_cast, leL_flD, renL_flD, seval]) rfl rfl rfl)
         ·exact hK2879 (1) _ _ _ h (leSt_m [(0, 0), (1, 1), (2, 2)] [] (by simp only [push_cast, leL_flD, renL_flD, seval]) (by simp only [push_cast, leL_flD, renL_flD, seval]) rfl rfl rfl)
        ·rintro xat13 h
         try dsimp only at h ⊢
         unfold taskmillref_PipeFault_j1 at h
         refine seq_np ?_
         refine chk_sx h (fun g2895 h => ?_)
         refine chk_sx h (fun g2898 h => ?_)
         refine seq_cut (A := Unit) (fun _ => ([(1, .ptr 0 0), (2, .ptr 1 0), (3, .own 2 0 (p.Senders ++ p.Getters).length), (4, iS i9), (5, iS xat13), (101, bS ((decide ((ix (p.Senders ++ p.Getters) i9).Task < 1)) || (decide ((ix (p.Senders ++ p.Getters) i9).Case < 0))))], [(0, .row 57 (Enc.cells p)), (1, .row 29 [iS 0, iS 0]), (2, .row 92 (fl (p.Senders ++ p.Getters)))], 3)) (fun _ => True) (fun K2893 hK2893 => ?_) (fun _ _ => ?_)
         ·refine reg_f ?_
          have k2894 : 0 ≤ i9 ∧ i9 < (((p.Senders ++ p.Getters).length : Nat) : Int) := by first | simpa only [Bool.and_eq_true, decide_eq_true_eq, bne_iff_ne, ne_eq] using g2895 | (simp at g2895 ⊢; omega)
          refine rs 7 [none, none, some ⟨.ptr 2 (0 + (i9).toNat * 3), [], 3, [2]⟩, none, some ⟨iS (ix (p.Senders ++ p.Getters) i9).Task, [], 3, [2]⟩] _ (by kernel_rfl) (allP_cons (ob_ld (p.Senders ++ p.Getters) i9 3 0 ((0 + (i9).toNat * 3) + 0) k2894 rfl (by decide) (by first | rfl | omega) (dflS Try.prog 3) (iS (ix (p.Senders ++ p.Getters) i9).Task) rfl 3 [2]) (allP_cons (ob_ix_o 2 (p.Senders ++ p.Getters).length 0 3 3 i9 k2894) allP_nil)) ?_
          refine run_split 94 (decide ((ix (p.Senders ++ p.Getters) i9).Task < 1)) (.inl (by kernel_rfl)) (fun g2896 => ?_) (fun g2896 => ?_)
          ·refine rs 7 [] [] (by kernel_rfl) allP_nil ?_
           refine rf [(1, .ptr 0 0), (2, .ptr 1 0), (3, .own 2 0 (p.Senders ++ p.Getters).length), (4, iS i9), (5, iS xat13), (101, bS true)] [(0, .row 57 (Enc.cells p)), (1, .row 29 [iS 0, iS 0]), (2, .row 92 (fl (p.Senders ++ p.Getters)))] 3 (by kernel_rfl) ?_
           exact hK2893 () _ _ _ trivial (leSt_m [(0, 0), (1, 1), (2, 2)] [] (by (try simp only [g2896]) <;> simp only [push_cast, leL_flD, renL_flD, seval]) (by (try simp only [g2896]) <;> simp only [push_cast, leL_flD, renL_flD, seval]) rfl rfl rfl)
          ·have k2897 : 0 ≤ i9 ∧ i9 < (((p.Senders ++ p.Getters).length : Nat) : Int) := by have e := or_use g2898 (by first | ((try simp only [g2896]) <;> rfl) | ((try simp only [g2896]); rfl) | (exfalso; clear h; simp_all; done)); first | simpa only [Bool.and_eq_true, decide_eq_true_eq, bne_iff_ne, ne_eq] using e | (simp at e ⊢; omega)
           refine rs 7 [none, none, some ⟨.ptr 2 (0 + (i9).toNat * 3), [], 3, [2]⟩, none, some ⟨iS (ix (p.Senders ++ p.Getters) i9).Case, [], 3, [2]⟩] _ (by kernel_rfl) (allP_cons (ob_ld (p.Senders ++ p.Getters) i9 3 1 ((0 + (i9).toNat * 3) + 1) k2897 rfl (by decide) (by first | rfl | omega) (dflS Try.prog 3) (iS (ix (p.Senders ++ p.Getters) i9).Case) rfl 3 [2]) (allP_cons (ob_ix_o 2 (p.Senders ++ p.Getters).length 0 3 3 i9 k2897) allP_nil)) ?_
           refine rf [(1, .ptr 0 0), (2, .ptr 1 0), (3, .own 2 0 (p.Senders ++ p.Getters).length), (4, iS i9), (5, iS xat13), (101, bS (decide ((ix (p.Senders ++ p.Getters) i9).Case < 0)))] [(0, .row 57 (Enc.cells p)), (1, .row 29 [iS 0, iS 0]), (2, .row 92 (fl (p.Senders ++ p.Getters)))] 3 (by kernel_rfl) ?_
           exact hK2893 () _ _ _ trivial (leSt_m [(0, 0), (1, 1), (2, 2)] [] (by (try simp only [g2896]) <;> simp only [push_cast, leL_flD, renL_flD, seval]) (by (try simp only [g2896]) <;> simp only [push_cast, leL_flD, renL_flD, seval]) rfl rfl rfl)
         ·dsimp only
          refine cond_sx h (by kernel_rfl) (fun g2963 h => ?_) (fun g2963 h => ?_)
          ·refine seq_np ?_
           refine reg_f ?_
           refine rs 1 [] [] (by kernel_rfl) allP_nil ?_
           obtain ⟨r2900, hr2900, h⟩ := bind_sx h
           refine run_call 31 [iS 3, iS xat13] (some 103) (by kernel_rfl) ?_
           refine call_0 (taskmillref_F_spec 3 xat13 r2900 hr2900) (by simp only [push_cast, leL_flD, renL_flD, seval]) (by simp only [push_cast, leL_flD, renL_flD, seval]) ?_
           refine back_f ?_
           refine rs 1 [] [] (by kernel_rfl) allP_nil ?_
           refine rf [(2, .ptr 1 0)] [(0, .row 57 (Enc.cells p)), (1, .row 29 (Enc.cells r2900)), (2, .row 92 (fl (p.Senders ++ p.Getters)))] 3 (by kernel_rfl) ?_
           refine wk_id ?_
           refine rt_cast ht4 ?_
           obtain ⟨r0, h, e0⟩ := map_sx h
           have e1 := hr4 r0 e0.symm
           subst r0
           obtain rfl := Option.some.inj h
           refine ret_at (.agg (Enc.cells r2900)) (by kernel_rfl) ?_
           exact ret_e [] [] (by simp only [push_cast, leL_flD, renL_flD, seval]) (by simp only [push_cast, leL_flD, renL_flD, seval]) rfl rfl rfl
          ·refine wk_id ?_
           refine seq_np ?_
           refine reg_f ?_
           refine rs 1 [] [] (by kernel_rfl) allP_nil ?_
           refine rf [(1, .ptr 0 0), (2, .ptr 1 0), (3, .own 2 0 (p.Senders ++ p.Getters).length), (4, iS i9), (5, iS xat13), (6, iS 0)] [(0, .row 57 (Enc.cells p)), (1, .row 29 [iS 0, iS 0]), (2, .row 92 (fl (p.Senders ++ p.Getters)))] 3 (by kernel_rfl) ?_
           refine wk_id ?_
           refine block_np ?_
           refine loop_sx (S := Int) (fun a => ([(1, .ptr 0 0), (2, .ptr 1 0), (3, .own 2 0 (p.Senders ++ p.Getters).length), (4, iS i9), (5, iS xat13), (6, iS a)], [(0, .row 57 (Enc.cells p)), (1, .row 29 [iS 0, iS 0]), (2, .row 92 (fl (p.Senders ++ p.Getters)))], 3)) h (leSt_m [(0, 0), (1, 1), (2, 2)] [] (by simp only [push_cast, leL_flD, renL_flD, seval]) (by simp only [push_cast, leL_flD, renL_flD, seval]) rfl rfl rfl) ?_
           rintro k21 o5 R5 h hr5 hn5 hx5 ht5
           try dsimp only at h hn5 ⊢
           unfold taskmillref_PipeFault_l1 at h
           try dsimp only at h
           refine seq_np ?_
           refine seq_np ?_
           refine reg_f ?_
           refine rs 3 [] [] (by kernel_rfl) allP_nil ?_
           refine rf [(1, .ptr 0 0), (2, .ptr 1 0), (3, .own 2 0 (p.Senders ++ p.Getters).length), (4, iS i9), (5, iS xat13), (6, iS k21), (106, bS (decide (k21 < i9)))] [(0, .row 57 (Enc.cells p)), (1, .row 29 [iS 0, iS 0]), (2, .row 92 (fl (p.Senders ++ p.Getters)))] 3 (by kernel_rfl) ?_
           refine wk_id ?_
           refine cond_sx h (by kernel_rfl) (fun g2962 h => ?_) (fun g2962 h => ?_)
           ·refine wk_id ?_
            refine seq_np ?_
            refine block_np ?_
            refine chk_sx h (fun g2956 h => ?_)
            refine chk_sx h (fun g2958 h => ?_)
            refine seq_np ?_
            refine reg_t ?_
            have k2955 : 0 ≤ k21 ∧ k21 < (((p.Senders ++ p.Getters).length : Nat) : Int) := by first | simpa only [Bool.and_eq_true, decide_eq_true_eq, bne_iff_ne, ne_eq] using g2956 | (simp at g2956 ⊢; omega)
            have k2957 : 0 ≤ i9 ∧ i9 < (((p.Senders ++ p.Getters).length : Nat) : Int) := by first | simpa only [Bool.and_eq_true, decide_eq_true_eq, bne_iff_ne, ne_eq] using g2958 | (simp at g2958 ⊢; omega)
            refine rs 11 [none, none, some ⟨.ptr 2 (0 + (k21).toNat * 3), [], 5, [2]⟩, none, some ⟨iS (ix (p.Senders ++ p.Getters) k21).Task, [], 7, [2]⟩, none, none, some ⟨.ptr 2 (0 + (i9).toNat * 3), [], 10, [2]⟩, none, some ⟨iS (ix (p.Senders ++ p.Getters) i9).Task, [], 12, [2]⟩] _ (by kernel_rfl) (allP_cons (ob_ld (p.Senders ++ p.Getters) i9 3 0 ((0 + (i9).toNat * 3) + 0) k2957 rfl (by decide) (by first | rfl | omega) (dflS Try.prog 3) (iS (ix (p.Senders ++ p.Getters) i9).Task) rfl 12 [2]) (allP_cons (ob_ix_o 2 (p.Senders ++ p.Getters).length 0 3 10 i9 k2957) (allP_cons (ob_ld (p.Senders ++ p.Getters) k21 3 0 ((0 + (k21).toNat * 3) + 0) k2955 rfl (by decide) (by first | rfl | omega) (dflS Try.prog 3) (iS (ix (p.Senders ++ p.Getters) k21).Task) rfl 7 [2]) (allP_cons (ob_ix_o 2 (p.Senders ++ p.Getters).length 0 3 5 k21 k2955) allP_nil)))) ?_
            refine rt [(1, .ptr 0 0), (2, .ptr 1 0), (3, .own 2 0 (p.Senders ++ p.Getters).length), (4, iS i9), (5, iS xat13), (6, iS k21), (119, bS ((ix (p.Senders ++ p.Getters) k21).Task == (ix (p.Senders ++ p.Getters) i9).Task))] [(0, .row 57 (Enc.cells p)), (1, .row 29 [iS 0, iS 0]), (2, .row 92 (fl (p.Senders ++ p.Getters)))] 14 follows (by kernel_rfl) ?_
            refine wk_id ?_
            refine cond_sx h (by kernel_rfl) (fun g2961 h => ?_) (fun g2961 h => ?_)
            ·refine seq_np ?_
             refine reg_f ?_
             refine rs 1 [] [] (by kernel_rfl) allP_nil ?_
             obtain ⟨r2960, hr2960, h⟩ := bind_sx h
             refine run_call 31 [iS 10, iS xat13] (some 121) (by kernel_rfl) ?_
             refine call_0 (taskmillref_F_spec 10 xat13 r2960 hr2960) (by simp only [push_cast, leL_flD, renL_flD, seval]) (by simp only [push_cast, leL_flD, renL_flD, seval]) ?_
             refine back_f ?_
             refine rs 1 [] [] (by kernel_rfl) allP_nil ?_
             refine rf [(2, .ptr 1 0)] [(0, .row 57 (Enc.cells p)), (1, .row 29 (Enc.cells r2960)), (2, .row 92 (fl (p.Senders ++ p.Getters)))] 14 (by kernel_rfl) ?_
             refine wk_id ?_
             refine rt_cast ht5 ?_
             obtain ⟨r0, h, e0⟩ := map_sx h
             have e1 := hr5 r0 e0.symm
             subst r0
             refine rt_cast ht4 ?_
             obtain ⟨r0, h, e0⟩ := map_sx h
             have e1 := hr4 r0 e0.symm
             subst r0
             obtain rfl := Option.some.inj h
             refine ret_at (.agg (Enc.cells r2960)) (by kernel_rfl) ?_
             exact ret_e [] [] (by simp only [push_cast, leL_flD, renL_flD, seval]) (by simp only [push_cast, leL_flD, renL_flD, seval]) rfl rfl rfl
            ·refine wk_id ?_
             refine wk_id ?_
             refine reg_f ?_
             refine rs 3 [] [] (by kernel_rfl) allP_nil ?_
             refine rf [(1, .ptr 0 0), (2, .ptr 1 0), (3, .own 2 0 (p.Senders ++ p.Getters).length), (4, iS i9), (5, iS xat13), (6, iS (IntKind.i64.wrap (k21 + 1)))] [(0, .row 57 (Enc.cells p)), (1, .row 29 [iS 0, iS 0]), (2, .row 92 (fl (p.Senders ++ p.Getters)))] 14 (by kernel_rfl) ?_
             exact hn5 ((IntKind.i64.wrap (k21 + 1))) _ _ _ (Option.some.inj h).symm (leSt_m [(0, 0), (1, 1), (2, 2)] [] (by simp only [push_cast, leL_flD, renL_flD, seval]) (by simp only [push_cast, leL_flD, renL_flD, seval]) rfl rfl rfl)
           ·change R5 (.exit 2) _ _ _
            refine ex_cast hx5 (id := 2) ?_
            obtain ⟨r0, h, e0⟩ := map_sx h
            have e1 := hr5 r0 e0.symm
            subst r0
            refine wk_id ?_
            refine wk_id ?_
            refine wk_id ?_
            refine reg_f ?_
            refine rs 3 [] [] (by kernel_rfl) allP_nil ?_
            refine rf [(1, .ptr 0 0), (2, .ptr 1 0), (3, .own 2 0 (p.Senders ++ p.Getters).length), (4, iS (IntKind.i64.wrap (i9 + 1)))] [(0, .row 57 (Enc.cells p)), (1, .row 29 [iS 0, iS 0]), (2, .row 92 (fl (p.Senders ++ p.Getters)))] 3 (by kernel_rfl) ?_
            exact hn4 ((IntKind.i64.wrap (i9 + 1))) _ _ _ (Option.some.inj h).symm (leSt_m [(0, 0), (1, 1), (2, 2)] [] (by simp only [push_cast, leL_flD, renL_flD, seval]) (by simp only [push_cast, leL_flD, renL_flD, seval]) rfl rfl rfl)
       ·change R4 (.exit 0) _ _ _
        refine ex_cast hx4 (id := 0) ?_
        obtain ⟨r0, h, e0⟩ := map_sx h
        have e1 := hr4 r0 e0.symm
        subst r0
        refine wk_id ?_
        refine wk_id ?_
        refine seq_np ?_
        refine seq_np ?_
        refine reg_f ?_
        refine rs 1 [] [] (by kernel_rfl) allP_nil ?_
        refine rf [(1, .ptr 0 0), (2, .ptr 1 0), (7, iS 0)] [(0, .row 57 (Enc.cells p)), (1, .row 29 [iS 0, iS 0]), (2, .row 92 (fl (p.Senders ++ p.Getters)))] 3 (by kernel_rfl) ?_
        refine wk_id ?_
        refine block_np ?_
        refine loop_sx (S := Int) (fun a => ([(1, .ptr 0 0), (2, .ptr 1 0), (7, iS a)], [(0, .row 57 (Enc.cells p)), (1, .row 29 [iS 0, iS 0])], 2)) h (leSt_m [(0, 0), (1, 1)] [] (by simp only [push_cast, leL_flD, renL_flD, seval]) (by simp only [push_cast, leL_flD, renL_flD, seval]) rfl rfl rfl) ?_
        rintro i15 o6 R6 h hr6 hn6 hx6 ht6
        try dsimp only at h hn6 ⊢
        unfold taskmillref_PipeFault_l2 at h
        try dsimp only at h
        refine seq_np ?_
        refine seq_np ?_
        refine reg_f ?_
        refine rs 5 [] [] (by kernel_rfl) allP_nil ?_
        refine rf [(1, .ptr 0 0), (2, .ptr 1 0), (7, iS i15), (126, bS (decide (i15 < ((p.Getters.length : Nat) : Int))))] [(0, .row 57 (Enc.cells p)), (1, .row 29 [iS 0, iS 0])] 2 (by kernel_rfl) ?_
        refine wk_id ?_
        refine cond_sx h (by kernel_rfl) (fun g3023 h => ?_) (fun g3023 h => ?_)
        ·refine wk_id ?_
         refine seq_np ?_
         refine block_np ?_
         refine chk_sx h (fun g3019 h => ?_)
         refine seq_np ?_
         refine reg_f ?_
         have k3018 : 0 ≤ i15 ∧ i15 < ((p.Getters.length : Nat) : Int) := by first | simpa only [Bool.and_eq_true, decide_eq_true_eq, bne_iff_ne, ne_eq] using g3019 | (simp at g3019 ⊢; omega)
         refine rs 7 [none, none, none, some ⟨.iptr (fl p.Getters) ((i15).toNat * 3), [], 2, []⟩, none, some ⟨iS (ix p.Getters i15).Value, [], 2, []⟩] _ (by kernel_rfl) (allP_cons (ob_ld p.Getters i15 3 2 (((i15).toNat * 3) + 2) k3018 rfl (by decide) (by first | rfl | omega) (dflS Try.prog 3) (iS (ix p.Getters i15).Value) rfl 2 []) (allP_cons (ob_ix_l p.Getters 3 2 i15 k3018) allP_nil)) ?_
         refine rf [(1, .ptr 0 0), (2, .ptr 1 0), (7, iS i15), (135, bS ((ix p.Getters i15).Value != 0))] [(0, .row 57 (Enc.cells p)), (1, .row 29 [iS 0, iS 0])] 2 (by kernel_rfl) ?_
         refine wk_id ?_
         refine cond_sx h (by kernel_rfl) (fun g3022 h => ?_) (fun g3022 h => ?_)
         ·refine seq_np ?_
          refine reg_f ?_
          obtain ⟨r3021, hr3021, h⟩ := bind_sx h
          refine run_call 31 [iS 5, iS 2] (some 136) (by kernel_rfl) ?_
          refine call_0 (taskmillref_F_spec 5 2 r3021 hr3021) (by simp only [push_cast, leL_flD, renL_flD, seval]) (by simp only [push_cast, leL_flD, renL_flD, seval]) ?_
          refine back_f ?_
          refine rs 1 [] [] (by kernel_rfl) allP_nil ?_
          refine rf [(2, .ptr 1 0)] [(0, .row 57 (Enc.cells p)), (1, .row 29 (Enc.cells r3021))] 2 (by kernel_rfl) ?_
          refine wk_id ?_
          refine rt_cast ht6 ?_
          obtain ⟨r0, h, e0⟩ := map_sx h
          have e1 := hr6 r0 e0.symm
          subst r0
          obtain rfl := Option.some.inj h
          refine ret_at (.agg (Enc.cells r3021)) (by kernel_rfl) ?_
          exact ret_e [] [] (by simp only [push_cast, leL_flD, renL_flD, seval]) (by simp only [push_cast, leL_flD, renL_flD, seval]) rfl rfl rfl
         ·refine wk_id ?_
          refine wk_id ?_
          refine reg_f ?_
          refine rs 3 [] [] (by kernel_rfl) allP_nil ?_
          refine rf [(1, .ptr 0 0), (2, .ptr 1 0), (7, iS (IntKind.i64.wrap (i15 + 1)))] [(0, .row 57 (Enc.cells p)), (1, .row 29 [iS 0, iS 0])] 2 (by kernel_rfl) ?_
          exact hn6 ((IntKind.i64.wrap (i15 + 1))) _ _ _ (Option.some.inj h).symm (leSt_m [(0, 0), (1, 1)] [] (by simp only [push_cast, leL_flD, renL_flD, seval]) (by simp only [push_cast, leL_flD, renL_flD, seval]) rfl rfl rfl)
        ·change R6 (.exit 4) _ _ _
         refine ex_cast hx6 (id := 4) ?_
         obtain ⟨r0, h, e0⟩ := map_sx h
         have e1 := hr6 r0 e0.symm
         subst r0
         refine wk_id ?_
         refine wk_id ?_
         refine seq_np ?_
         refine reg_f ?_
         refine rs 2 [] [] (by kernel_rfl) allP_nil ?_
         refine rf [(2, .ptr 1 0)] [(0, .row 57 (Enc.cells p)), (1, .row 29 [iS 0, iS 0])] 2 (by kernel_rfl) ?_
         refine wk_id ?_
         obtain rfl := Option.some.inj h
         refine ret_at (.agg [iS 0, iS 0]) (by kernel_rfl) ?_
         exact ret_e [] [] (by simp only [push_cast, leL_flD, renL_flD, seval]) (by simp only [push_cast, leL_flD, renL_flD, seval]) rfl rfl rfl

set_option maxRecDepth 100000 in
set_option maxHeartbeats 200000000 in
theorem taskmillref_SamePosts_spec (xa : (List GPost)) (b : (List GPost)) (r : Bool) (h : taskmillref_SamePosts xa b = some r) : SpecW Try.prog 60 [.sl xa.length (fl xa), .sl b.length (fl b)] [] 0 (fun x h n => x = bS r ∧ h = [] ∧ n = 0) := by
 unfold taskmillref_SamePosts at h
 refine spec_of (draw_ok _) Try.func60 rfl (by decide) rfl (by kernel_rfl) ?_
 refine seq_np ?_
 refine reg_f ?_
 refine rs 1 [] [] (by kernel_rfl) allP_nil ?_
 refine rf [(0, .sl xa.length (fl xa)), (1, .sl b.length (fl b))] [] 0 (by kernel_rfl) ?_
 refine wk_id ?_
 refine seq_np ?_
 refine seq_np ?_
 refine reg_f ?_
 refine rs 5 [] [] (by kernel_rfl) allP_nil ?_
 refine rf [(0, .sl xa.length (fl xa)), (1, .sl b.length (fl b)), (10, bS (((xa.length : Nat) : Int) != ((b.length : Nat) : Int)))] [] 0 (by kernel_rfl) ?_
 refine wk_id ?_
 refine cond_sx h (by kernel_rfl) (fun g3226 h => ?_) (fun g3226 h => ?_)
 ·refine seq_np ?_
  refine reg_f ?_
  refine rs 1 [] [] (by kernel_rfl) allP_nil ?_
  refine rf [(4, bS false)] [] 0 (by kernel_rfl) ?_
  refine wk_id ?_
  obtain rfl := Option.some.inj h
  refine ret_at (bS false) (by kernel_rfl) ?_
  exact ret_e [] [] (by simp only [push_cast, leL_flD, renL_flD, seval]) (by simp only [push_cast, leL_flD, renL_flD, seval]) rfl rfl rfl
 ·refine wk_id ?_
  refine seq_np ?_
  refine seq_np ?_
  refine reg_f ?_
  refine rs 1 [] [] (by kernel_rfl) allP_nil ?_
  refine rf [(0, .sl xa.length (fl xa)), (1, .sl b.length (fl b)), (5, iS 0)] [] 0 (by kernel_rfl) ?_
  refine wk_id ?_
  refine block_np ?_
  refine loop_sx (S := Int) (fun a => ([(0, .sl xa.length (fl xa)), (1, .sl b.length (fl b)), (5, iS a)], [], 0)) h (leSt_m [] [] (by simp only [push_cast, leL_flD, renL_flD, seval]) (by simp only [push_cast, leL_flD, renL_flD, seval]) rfl rfl rfl) ?_
  rintro i7 o2 R2 h hr2 hn2 hx2 ht2
  try dsimp only at h hn2 ⊢
  unfold taskmillref_SamePosts_l1 at h
  try dsimp only at h
  refine seq_np ?_
  refine seq_np ?_
  refine reg_f ?_
  refine rs 4 [] [] (by kernel_rfl) allP_nil ?_
  refine rf [(0, .sl xa.length (fl xa)), (1, .sl b.length (fl b)), (5, iS i7), (14, bS (decide (i7 < ((xa.length : Nat) : Int))))] [] 0 (by kernel_rfl) ?_
  refine wk_id ?_
  refine cond_sx h (by kernel_rfl) (fun g3225 h => ?_) (fun g3225 h => ?_)
  ·refine wk_id ?_
   refine seq_np ?_
   refine block_np ?_
   refine chk_sx h (fun g3221 h => ?_)
   refine chk_sx h (fun g3223 h => ?_)
   refine seq_np ?_
   refine reg_t ?_
   have k3220 : 0 ≤ i7 ∧ i7 < ((xa.length : Nat) : Int) := by first | simpa only [Bool.and_eq_true, decide_eq_true_eq, bne_iff_ne, ne_eq] using g3221 | (simp at g3221 ⊢; omega)
   have k3222 : 0 ≤ i7 ∧ i7 < ((b.length : Nat) : Int) := by first | simpa only [Bool.and_eq_true, decide_eq_true_eq, bne_iff_ne, ne_eq] using g3223 | (simp at g3223 ⊢; omega)
   refine rs 9 [none, none, some ⟨.iptr (fl xa) ((i7).toNat * 3), [], 2, []⟩, some ⟨.agg (Enc.cells (ix xa i7)), [], 3, []⟩, none, none, some ⟨.iptr (fl b) ((i7).toNat * 3), [], 6, []⟩, some ⟨.agg (Enc.cells (ix b i7)), [], 7, []⟩] _ (by kernel_rfl) (allP_cons (ob_ldw b i7 3 ((i7).toNat * 3) k3222 rfl (by first | rfl | omega) [iS (ix b i7).Task, iS (ix b i7).Case, iS (ix b i7).Value] rfl 7 []) (allP_cons (ob_ix_l b 3 6 i7 k3222) (allP_cons (ob_ldw xa i7 3 ((i7).toNat * 3) k3220 rfl (by first | rfl | omega) [iS (ix xa i7).Task, iS (ix xa i7).Case, iS (ix xa i7).Value] rfl 3 []) (allP_cons (ob_ix_l xa 3 2 i7 k3220) allP_nil)))) ?_
   refine rt [(0, .sl xa.length (fl xa)), (1, .sl b.length (fl b)), (5, iS i7), (25, bS (!(((ix xa i7).Task == (ix b i7).Task) && (((ix xa i7).Case == (ix b i7).Case) && (((ix xa i7).Value == (ix b i7).Value) && true)))))] [] 9 follows (by kernel_rfl) ?_
   refine wk_id ?_
   refine cond_sx h (by kernel_rfl) (fun g3224 h => ?_) (fun g3224 h => ?_)
   ·refine seq_np ?_
    refine reg_f ?_
    refine rs 1 [] [] (by kernel_rfl) allP_nil ?_
    refine rf [(4, bS false)] [] 9 (by kernel_rfl) ?_
    refine wk_id ?_
    refine rt_cast ht2 ?_
    obtain ⟨r0, h, e0⟩ := map_sx h
    have e1 := hr2 r0 e0.symm
    subst r0
    obtain rfl := Option.some.inj h
    refine ret_at (bS false) (by kernel_rfl) ?_
    exact ret_e [] [] (by simp only [push_cast, leL_flD, renL_flD, seval]) (by simp only [push_cast, leL_flD, renL_flD, seval]) rfl rfl rfl
   ·refine wk_id ?_
    refine wk_id ?_
    refine reg_f ?_
    refine rs 3 [] [] (by kernel_rfl) allP_nil ?_
    refine rf [(0, .sl xa.length (fl xa)), (1, .sl b.length (fl b)), (5, iS (IntKind.i64.wrap (i7 + 1)))] [] 9 (by kernel_rfl) ?_
    exact hn2 ((IntKind.i64.wrap (i7 + 1))) _ _ _ (Option.some.inj h).symm (leSt_m [] [] (by simp only [push_cast, leL_flD, renL_flD, seval]) (by simp only [push_cast, leL_flD, renL_flD, seval]) rfl rfl rfl)
  ·change R2 (.exit 0) _ _ _
   refine ex_cast hx2 (id := 0) ?_
   obtain ⟨r0, h, e0⟩ := map_sx h
   have e1 := hr2 r0 e0.symm
   subst r0
   refine wk_id ?_
   refine wk_id ?_
   refine seq_np ?_
   refine reg_f ?_
   refine rs 1 [] [] (by kernel_rfl) allP_nil ?_
   refine rf [(4, bS true)] [] 0 (by kernel_rfl) ?_
   refine wk_id ?_
   obtain rfl := Option.some.inj h
   refine ret_at (bS true) (by kernel_rfl) ?_
   exact ret_e [] [] (by simp only [push_cast, leL_flD, renL_flD, seval]) (by simp only [push_cast, leL_flD, renL_flD, seval]) rfl rfl rfl

set_option maxRecDepth 100000 in
set_option maxHeartbeats 200000000 in
theorem taskmillref_SamePipe_spec (xa : Pipe) (b : Pipe) (r : Bool) (h : taskmillref_SamePipe xa b = some r) : SpecW Try.prog 40 [.agg (Enc.cells xa), .agg (Enc.cells b)] [] 0 (fun x h n => x = bS r ∧ h = [] ∧ n = 0) := by
 unfold taskmillref_SamePipe at h
 refine spec_of (draw_ok _) Try.func40 rfl (by decide) rfl (by kernel_rfl) ?_
 refine seq_np ?_
 refine reg_f ?_
 refine rs 3 [] [] (by kernel_rfl) allP_nil ?_
 refine rf [(2, .ptr 0 0), (3, .ptr 1 0)] [(0, .row 57 (Enc.cells xa)), (1, .row 57 (Enc.cells b))] 2 (by kernel_rfl) ?_
 refine wk_id ?_
 refine seq_cut (A := Bool) (fun a => ([(4, bS a)], [], 0)) (fun a => (taskmillref_SamePipe_j1 a) = some r) (fun K3240 hK3240 => ?_) ?_
 ·refine reg_f ?_
  refine rs 6 [] [] (by kernel_rfl) allP_nil ?_
  refine run_br h 10 (.inl (by kernel_rfl)) (fun g3241 h => ?_) (fun g3241 h => ?_)
  ·refine rs 7 [] [] (by kernel_rfl) allP_nil ?_
   refine run_br h 17 (.inl (by kernel_rfl)) (fun g3242 h => ?_) (fun g3242 h => ?_)
   ·refine rs 4 [] [] (by kernel_rfl) allP_nil ?_
    obtain ⟨r3243, hr3243, h⟩ := bind_sx h
    refine run_call 24 [.sl xa.Items.length (fl xa.Items), .sl b.Items.length (fl b.Items)] (some 22) (by kernel_rfl) ?_
    refine call_0 (taskmillref_Ints_spec xa.Items b.Items r3243 hr3243) (by simp only [push_cast, leL_flD, renL_flD, seval]) (by simp only [push_cast, leL_flD, renL_flD, seval]) ?_
    refine back_f ?_
    refine rn 18 [(2, .ptr 0 0), (3, .ptr 1 0), (17, bS true), (22, bS r3243)] [(0, .row 57 (Enc.cells xa)), (1, .row 57 (Enc.cells b))] 2 (by kernel_rfl) ?_
    refine rs 2 [] [] (by kernel_rfl) allP_nil ?_
    refine run_br h 24 (.inl (by kernel_rfl)) (fun g3244 h => ?_) (fun g3244 h => ?_)
    ·refine rs 4 [] [] (by kernel_rfl) allP_nil ?_
     obtain ⟨r3245, hr3245, h⟩ := bind_sx h
     refine run_call 60 [.sl xa.Senders.length (fl xa.Senders), .sl b.Senders.length (fl b.Senders)] (some 29) (by kernel_rfl) ?_
     refine call_0 (taskmillref_SamePosts_spec xa.Senders b.Senders r3245 hr3245) (by simp only [push_cast, leL_flD, renL_flD, seval]) (by simp only [push_cast, leL_flD, renL_flD, seval]) ?_
     refine back_f ?_
     refine rs 2 [] [] (by kernel_rfl) allP_nil ?_
     refine run_br h 31 (.inl (by kernel_rfl)) (fun g3246 h => ?_) (fun g3246 h => ?_)
     ·refine rn 27 [(2, .ptr 0 0), (3, .ptr 1 0), (31, bS true)] [(0, .row 57 (Enc.cells xa)), (1, .row 57 (Enc.cells b))] 2 (by kernel_rfl) ?_
      refine rs 4 [] [] (by kernel_rfl) allP_nil ?_
      obtain ⟨r3247, hr3247, h⟩ := bind_sx h
      refine run_call 60 [.sl xa.Getters.length (fl xa.Getters), .sl b.Getters.length (fl b.Getters)] (some 36) (by kernel_rfl) ?_
      refine call_0 (taskmillref_SamePosts_spec xa.Getters b.Getters r3247 hr3247) (by simp only [push_cast, leL_flD, renL_flD, seval]) (by simp only [push_cast, leL_flD, renL_flD, seval]) ?_
      refine back_f ?_
      refine rs 2 [] [] (by kernel_rfl) allP_nil ?_
      refine rf [(4, bS r3247)] [(0, .row 57 (Enc.cells xa)), (1, .row 57 (Enc.cells b))] 2 (by kernel_rfl) ?_
      exact hK3240 (r3247) _ _ _ h (leSt_m [] [] (by first | ((try simp only [g3241, g3242, g3244, g3246]) <;> simp only [push_cast, leL_flD, renL_flD, seval]; done) | ((try simp only [g3241]); (try simp only [g3242]); (try simp only [g3244]); (try simp only [g3246]); simp only [push_cast, leL_flD, renL_flD, seval]; done) | (exfalso; clear h; simp_all; done)) (by first | ((try simp only [g3241, g3242, g3244, g3246]) <;> simp only [push_cast, leL_flD, renL_flD, seval]; done) | ((try simp only [g3241]); (try simp only [g3242]); (try simp only [g3244]); (try simp only [g3246]); simp only [push_cast, leL_flD, renL_flD, seval]; done) | (exfalso; clear h; simp_all; done)) rfl rfl rfl)
     ·refine rn 27 [(2, .ptr 0 0), (3, .ptr 1 0), (31, bS false)] [(0, .row 57 (Enc.cells xa)), (1, .row 57 (Enc.cells b))] 2 (by kernel_rfl) ?_
      refine rs 7 [] [] (by kernel_rfl) allP_nil ?_
      refine rf [(4, bS false)] [(0, .row 57 (Enc.cells xa)), (1, .row 57 (Enc.cells b))] 2 (by kernel_rfl) ?_
      exact hK3240 (false) _ _ _ h (leSt_m [] [] (by first | ((try simp only [g3241, g3242, g3244, g3246]) <;> simp only [push_cast, leL_flD, renL_flD, seval]; done) | ((try simp only [g3241]); (try simp only [g3242]); (try simp only [g3244]); (try simp only [g3246]); simp only [push_cast, leL_flD, renL_flD, seval]; done) | (exfalso; clear h; simp_all; done)) (by first | ((try simp only [g3241, g3242, g3244, g3246]) <;> simp only [push_cast, leL_flD, renL_flD, seval]; done) | ((try simp only [g3241]); (try simp only [g3242]); (try simp only [g3244]); (try simp only [g3246]); simp only [push_cast, leL_flD, renL_flD, seval]; done) | (exfalso; clear h; simp_all; done)) rfl rfl rfl)
    ·refine rs 14 [] [] (by kernel_rfl) allP_nil ?_
     refine rf [(4, bS false)] [(0, .row 57 (Enc.cells xa)), (1, .row 57 (Enc.cells b))] 2 (by kernel_rfl) ?_
     exact hK3240 (false) _ _ _ h (leSt_m [] [] (by first | ((try simp only [g3241, g3242, g3244]) <;> simp only [push_cast, leL_flD, renL_flD, seval]; done) | ((try simp only [g3241]); (try simp only [g3242]); (try simp only [g3244]); simp only [push_cast, leL_flD, renL_flD, seval]; done) | (exfalso; clear h; simp_all; done)) (by first | ((try simp only [g3241, g3242, g3244]) <;> simp only [push_cast, leL_flD, renL_flD, seval]; done) | ((try simp only [g3241]); (try simp only [g3242]); (try simp only [g3244]); simp only [push_cast, leL_flD, renL_flD, seval]; done) | (exfalso; clear h; simp_all; done)) rfl rfl rfl)
   ·refine rs 21 [] [] (by kernel_rfl) allP_nil ?_
    refine rf [(4, bS false)] [(0, .row 57 (Enc.cells xa)), (1, .row 57 (Enc.cells b))] 2 (by kernel_rfl) ?_
    exact hK3240 (false) _ _ _ h (leSt_m [] [] (by first | ((try simp only [g3241, g3242]) <;> simp only [push_cast, leL_flD, renL_flD, seval]; done) | ((try simp only [g3241]); (try simp only [g3242]); simp only [push_cast, leL_flD, renL_flD, seval]; done) | (exfalso; clear h; simp_all; done)) (by first | ((try simp only [g3241, g3242]) <;> simp only [push_cast, leL_flD, renL_flD, seval]; done) | ((try simp only [g3241]); (try simp only [g3242]); simp only [push_cast, leL_flD, renL_flD, seval]; done) | (exfalso; clear h; simp_all; done)) rfl rfl rfl)
  ·refine rs 28 [] [] (by kernel_rfl) allP_nil ?_
   refine rf [(4, bS false)] [(0, .row 57 (Enc.cells xa)), (1, .row 57 (Enc.cells b))] 2 (by kernel_rfl) ?_
   exact hK3240 (false) _ _ _ h (leSt_m [] [] (by (try simp only [g3241]) <;> simp only [push_cast, leL_flD, renL_flD, seval]) (by (try simp only [g3241]) <;> simp only [push_cast, leL_flD, renL_flD, seval]) rfl rfl rfl)
 ·rintro t4q1 h
  try dsimp only at h ⊢
  unfold taskmillref_SamePipe_j1 at h
  obtain rfl := Option.some.inj h
  refine ret_at (bS t4q1) (by kernel_rfl) ?_
  exact ret_e [] [] (by simp only [push_cast, leL_flD, renL_flD, seval]) (by simp only [push_cast, leL_flD, renL_flD, seval]) rfl rfl rfl

set_option maxRecDepth 100000 in
set_option maxHeartbeats 200000000 in
theorem taskmillref_WaitsAt_spec (p : Pipe) (task : Int) (r : Bool) (h : taskmillref_WaitsAt p task = some r) : SpecW Try.prog 28 [.agg (Enc.cells p), iS task] [] 0 (fun x h n => x = bS r ∧ h = [] ∧ n = 0) := by
 unfold taskmillref_WaitsAt at h
 refine spec_of (draw_ok _) Try.func28 rfl (by decide) rfl (by kernel_rfl) ?_
 refine seq_np ?_
 refine reg_f ?_
 refine rs 2 [] [] (by kernel_rfl) allP_nil ?_
 refine rf [(1, iS task), (2, .ptr 0 0)] [(0, .row 57 (Enc.cells p))] 1 (by kernel_rfl) ?_
 refine wk_id ?_
 refine seq_np ?_
 refine seq_np ?_
 refine reg_f ?_
 refine rs 1 [] [] (by kernel_rfl) allP_nil ?_
 refine rf [(1, iS task), (2, .ptr 0 0), (5, iS 0)] [(0, .row 57 (Enc.cells p))] 1 (by kernel_rfl) ?_
 refine wk_id ?_
 refine block_np ?_
 refine loop_sx (S := Int) (fun a => ([(1, iS task), (2, .ptr 0 0), (5, iS a)], [(0, .row 57 (Enc.cells p))], 1)) h (leSt_m [(0, 0)] [] (by simp only [push_cast, leL_flD, renL_flD, seval]) (by simp only [push_cast, leL_flD, renL_flD, seval]) rfl rfl rfl) ?_
 rintro i9 o3 R3 h hr3 hn3 hx3 ht3
 try dsimp only at h hn3 ⊢
 unfold taskmillref_WaitsAt_l2 at h
 try dsimp only at h
 refine seq_np ?_
 refine seq_np ?_
 refine reg_f ?_
 refine rs 5 [] [] (by kernel_rfl) allP_nil ?_
 refine rf [(1, iS task), (2, .ptr 0 0), (5, iS i9), (11, bS (decide (i9 < ((p.Senders.length : Nat) : Int))))] [(0, .row 57 (Enc.cells p))] 1 (by kernel_rfl) ?_
 refine wk_id ?_
 refine cond_sx h (by kernel_rfl) (fun g3483 h => ?_) (fun g3483 h => ?_)
 ·refine wk_id ?_
  refine seq_np ?_
  refine block_np ?_
  refine chk_sx h (fun g3433 h => ?_)
  refine seq_np ?_
  refine reg_f ?_
  have k3432 : 0 ≤ i9 ∧ i9 < ((p.Senders.length : Nat) : Int) := by first | simpa only [Bool.and_eq_true, decide_eq_true_eq, bne_iff_ne, ne_eq] using g3433 | (simp at g3433 ⊢; omega)
  refine rs 8 [none, none, none, some ⟨.iptr (fl p.Senders) ((i9).toNat * 3), [], 1, []⟩, none, some ⟨iS (ix p.Senders i9).Task, [], 1, []⟩] _ (by kernel_rfl) (allP_cons (ob_ld p.Senders i9 3 0 (((i9).toNat * 3) + 0) k3432 rfl (by decide) (by first | rfl | omega) (dflS Try.prog 3) (iS (ix p.Senders i9).Task) rfl 1 []) (allP_cons (ob_ix_l p.Senders 3 1 i9 k3432) allP_nil)) ?_
  refine rf [(1, iS task), (2, .ptr 0 0), (5, iS i9), (21, bS ((ix p.Senders i9).Task == task))] [(0, .row 57 (Enc.cells p))] 1 (by kernel_rfl) ?_
  refine wk_id ?_
  refine cond_sx h (by kernel_rfl) (fun g3434 h => ?_) (fun g3434 h => ?_)
  ·refine seq_np ?_
   refine reg_f ?_
   refine rs 1 [] [] (by kernel_rfl) allP_nil ?_
   refine rf [(4, bS true)] [(0, .row 57 (Enc.cells p))] 1 (by kernel_rfl) ?_
   refine wk_id ?_
   refine rt_cast ht3 ?_
   obtain ⟨r0, h, e0⟩ := map_sx h
   have e1 := hr3 r0 e0.symm
   subst r0
   obtain rfl := Option.some.inj h
   refine ret_at (bS true) (by kernel_rfl) ?_
   exact ret_e [] [] (by simp only [push_cast, leL_flD, renL_flD, seval]) (by simp only [push_cast, leL_flD, renL_flD, seval]) rfl rfl rfl
  ·refine wk_id ?_
   refine wk_id ?_
   refine reg_f ?_
   refine rs 3 [] [] (by kernel_rfl) allP_nil ?_
   refine rf [(1, iS task), (2, .ptr 0 0), (5, iS (IntKind.i64.wrap (i9 + 1)))] [(0, .row 57 (Enc.cells p))] 1 (by kernel_rfl) ?_
   exact hn3 ((IntKind.i64.wrap (i9 + 1))) _ _ _ (Option.some.inj h).symm (leSt_m [(0, 0)] [] (by simp only [push_cast, leL_flD, renL_flD, seval]) (by simp only [push_cast, leL_flD, renL_flD, seval]) rfl rfl rfl)
 ·change R3 (.exit 0) _ _ _
  refine ex_cast hx3 (id := 0) ?_
  obtain ⟨r0, h, e0⟩ := map_sx h
  have e1 := hr3 r0 e0.symm
  subst r0
  refine wk_id ?_
  refine wk_id ?_
  refine seq_np ?_
  refine seq_np ?_
  refine reg_f ?_
  refine rs 1 [] [] (by kernel_rfl) allP_nil ?_
  refine rf [(1, iS task), (2, .ptr 0 0), (6, iS 0)] [(0, .row 57 (Enc.cells p))] 1 (by kernel_rfl) ?_
  refine wk_id ?_
  refine block_np ?_
  refine loop_sx (S := Int) (fun a => ([(1, iS task), (2, .ptr 0 0), (6, iS a)], [(0, .row 57 (Enc.cells p))], 1)) h (leSt_m [(0, 0)] [] (by simp only [push_cast, leL_flD, renL_flD, seval]) (by simp only [push_cast, leL_flD, renL_flD, seval]) rfl rfl rfl) ?_
  rintro i15 o4 R4 h hr4 hn4 hx4 ht4
  try dsimp only at h hn4 ⊢
  unfold taskmillref_WaitsAt_l1 at h
  try dsimp only at h
  refine seq_np ?_
  refine seq_np ?_
  refine reg_f ?_
  refine rs 5 [] [] (by kernel_rfl) allP_nil ?_
  refine rf [(1, iS task), (2, .ptr 0 0), (6, iS i15), (26, bS (decide (i15 < ((p.Getters.length : Nat) : Int))))] [(0, .row 57 (Enc.cells p))] 1 (by kernel_rfl) ?_
  refine wk_id ?_
  refine cond_sx h (by kernel_rfl) (fun g3482 h => ?_) (fun g3482 h => ?_)
  ·refine wk_id ?_
   refine seq_np ?_
   refine block_np ?_
   refine chk_sx h (fun g3480 h => ?_)
   refine seq_np ?_
   refine reg_f ?_
   have k3479 : 0 ≤ i15 ∧ i15 < ((p.Getters.length : Nat) : Int) := by first | simpa only [Bool.and_eq_true, decide_eq_true_eq, bne_iff_ne, ne_eq] using g3480 | (simp at g3480 ⊢; omega)
   refine rs 8 [none, none, none, some ⟨.iptr (fl p.Getters) ((i15).toNat * 3), [], 1, []⟩, none, some ⟨iS (ix p.Getters i15).Task, [], 1, []⟩] _ (by kernel_rfl) (allP_cons (ob_ld p.Getters i15 3 0 (((i15).toNat * 3) + 0) k3479 rfl (by decide) (by first | rfl | omega) (dflS Try.prog 3) (iS (ix p.Getters i15).Task) rfl 1 []) (allP_cons (ob_ix_l p.Getters 3 1 i15 k3479) allP_nil)) ?_
   refine rf [(1, iS task), (2, .ptr 0 0), (6, iS i15), (36, bS ((ix p.Getters i15).Task == task))] [(0, .row 57 (Enc.cells p))] 1 (by kernel_rfl) ?_
   refine wk_id ?_
   refine cond_sx h (by kernel_rfl) (fun g3481 h => ?_) (fun g3481 h => ?_)
   ·refine seq_np ?_
    refine reg_f ?_
    refine rs 1 [] [] (by kernel_rfl) allP_nil ?_
    refine rf [(4, bS true)] [(0, .row 57 (Enc.cells p))] 1 (by kernel_rfl) ?_
    refine wk_id ?_
    refine rt_cast ht4 ?_
    obtain ⟨r0, h, e0⟩ := map_sx h
    have e1 := hr4 r0 e0.symm
    subst r0
    obtain rfl := Option.some.inj h
    refine ret_at (bS true) (by kernel_rfl) ?_
    exact ret_e [] [] (by simp only [push_cast, leL_flD, renL_flD, seval]) (by simp only [push_cast, leL_flD, renL_flD, seval]) rfl rfl rfl
   ·refine wk_id ?_
    refine wk_id ?_
    refine reg_f ?_
    refine rs 3 [] [] (by kernel_rfl) allP_nil ?_
    refine rf [(1, iS task), (2, .ptr 0 0), (6, iS (IntKind.i64.wrap (i15 + 1)))] [(0, .row 57 (Enc.cells p))] 1 (by kernel_rfl) ?_
    exact hn4 ((IntKind.i64.wrap (i15 + 1))) _ _ _ (Option.some.inj h).symm (leSt_m [(0, 0)] [] (by simp only [push_cast, leL_flD, renL_flD, seval]) (by simp only [push_cast, leL_flD, renL_flD, seval]) rfl rfl rfl)
  ·change R4 (.exit 2) _ _ _
   refine ex_cast hx4 (id := 2) ?_
   obtain ⟨r0, h, e0⟩ := map_sx h
   have e1 := hr4 r0 e0.symm
   subst r0
   refine wk_id ?_
   refine wk_id ?_
   refine seq_np ?_
   refine reg_f ?_
   refine rs 1 [] [] (by kernel_rfl) allP_nil ?_
   refine rf [(4, bS false)] [(0, .row 57 (Enc.cells p))] 1 (by kernel_rfl) ?_
   refine wk_id ?_
   obtain rfl := Option.some.inj h
   refine ret_at (bS false) (by kernel_rfl) ?_
   exact ret_e [] [] (by simp only [push_cast, leL_flD, renL_flD, seval]) (by simp only [push_cast, leL_flD, renL_flD, seval]) rfl rfl rfl

set_option maxRecDepth 100000 in
set_option maxHeartbeats 200000000 in
theorem taskmillref_SameWakes_spec (xa : (List GWake)) (b : (List GWake)) (r : Bool) (h : taskmillref_SameWakes xa b = some r) : SpecW Try.prog 52 [.sl xa.length (fl xa), .sl b.length (fl b)] [] 0 (fun x h n => x = bS r ∧ h = [] ∧ n = 0) := by
 unfold taskmillref_SameWakes at h
 refine spec_of (draw_ok _) Try.func52 rfl (by decide) rfl (by kernel_rfl) ?_
 refine seq_np ?_
 refine reg_f ?_
 refine rs 1 [] [] (by kernel_rfl) allP_nil ?_
 refine rf [(0, .sl xa.length (fl xa)), (1, .sl b.length (fl b))] [] 0 (by kernel_rfl) ?_
 refine wk_id ?_
 refine seq_np ?_
 refine seq_np ?_
 refine reg_f ?_
 refine rs 5 [] [] (by kernel_rfl) allP_nil ?_
 refine rf [(0, .sl xa.length (fl xa)), (1, .sl b.length (fl b)), (10, bS (((xa.length : Nat) : Int) != ((b.length : Nat) : Int)))] [] 0 (by kernel_rfl) ?_
 refine wk_id ?_
 refine cond_sx h (by kernel_rfl) (fun g4518 h => ?_) (fun g4518 h => ?_)
 ·refine seq_np ?_
  refine reg_f ?_
  refine rs 1 [] [] (by kernel_rfl) allP_nil ?_
  refine rf [(4, bS false)] [] 0 (by kernel_rfl) ?_
  refine wk_id ?_
  obtain rfl := Option.some.inj h
  refine ret_at (bS false) (by kernel_rfl) ?_
  exact ret_e [] [] (by simp only [push_cast, leL_flD, renL_flD, seval]) (by simp only [push_cast, leL_flD, renL_flD, seval]) rfl rfl rfl
 ·refine wk_id ?_
  refine seq_np ?_
  refine seq_np ?_
  refine reg_f ?_
  refine rs 1 [] [] (by kernel_rfl) allP_nil ?_
  refine rf [(0, .sl xa.length (fl xa)), (1, .sl b.length (fl b)), (5, iS 0)] [] 0 (by kernel_rfl) ?_
  refine wk_id ?_
  refine block_np ?_
  refine loop_sx (S := Int) (fun a => ([(0, .sl xa.length (fl xa)), (1, .sl b.length (fl b)), (5, iS a)], [], 0)) h (leSt_m [] [] (by simp only [push_cast, leL_flD, renL_flD, seval]) (by simp only [push_cast, leL_flD, renL_flD, seval]) rfl rfl rfl) ?_
  rintro i7 o2 R2 h hr2 hn2 hx2 ht2
  try dsimp only at h hn2 ⊢
  unfold taskmillref_SameWakes_l1 at h
  try dsimp only at h
  refine seq_np ?_
  refine seq_np ?_
  refine reg_f ?_
  refine rs 4 [] [] (by kernel_rfl) allP_nil ?_
  refine rf [(0, .sl xa.length (fl xa)), (1, .sl b.length (fl b)), (5, iS i7), (14, bS (decide (i7 < ((xa.length : Nat) : Int))))] [] 0 (by kernel_rfl) ?_
  refine wk_id ?_
  refine cond_sx h (by kernel_rfl) (fun g4517 h => ?_) (fun g4517 h => ?_)
  ·refine wk_id ?_
   refine seq_np ?_
   refine block_np ?_
   refine chk_sx h (fun g4513 h => ?_)
   refine chk_sx h (fun g4515 h => ?_)
   refine seq_np ?_
   refine reg_t ?_
   have k4512 : 0 ≤ i7 ∧ i7 < ((xa.length : Nat) : Int) := by first | simpa only [Bool.and_eq_true, decide_eq_true_eq, bne_iff_ne, ne_eq] using g4513 | (simp at g4513 ⊢; omega)
   have k4514 : 0 ≤ i7 ∧ i7 < ((b.length : Nat) : Int) := by first | simpa only [Bool.and_eq_true, decide_eq_true_eq, bne_iff_ne, ne_eq] using g4515 | (simp at g4515 ⊢; omega)
   refine rs 9 [none, none, some ⟨.iptr (fl xa) ((i7).toNat * 5), [], 2, []⟩, some ⟨.agg (Enc.cells (ix xa i7)), [], 3, []⟩, none, none, some ⟨.iptr (fl b) ((i7).toNat * 5), [], 6, []⟩, some ⟨.agg (Enc.cells (ix b i7)), [], 7, []⟩] _ (by kernel_rfl) (allP_cons (ob_ldw b i7 5 ((i7).toNat * 5) k4514 rfl (by first | rfl | omega) [iS (ix b i7).Task, iS (ix b i7).Case, iS (ix b i7).Value, bS (ix b i7).Ok, bS (ix b i7).Panic] rfl 7 []) (allP_cons (ob_ix_l b 5 6 i7 k4514) (allP_cons (ob_ldw xa i7 5 ((i7).toNat * 5) k4512 rfl (by first | rfl | omega) [iS (ix xa i7).Task, iS (ix xa i7).Case, iS (ix xa i7).Value, bS (ix xa i7).Ok, bS (ix xa i7).Panic] rfl 3 []) (allP_cons (ob_ix_l xa 5 2 i7 k4512) allP_nil)))) ?_
   refine rt [(0, .sl xa.length (fl xa)), (1, .sl b.length (fl b)), (5, iS i7), (25, bS (!(((ix xa i7).Task == (ix b i7).Task) && (((ix xa i7).Case == (ix b i7).Case) && (((ix xa i7).Value == (ix b i7).Value) && (((ix xa i7).Ok == (ix b i7).Ok) && (((ix xa i7).Panic == (ix b i7).Panic) && true)))))))] [] 9 follows (by kernel_rfl) ?_
   refine wk_id ?_
   refine cond_sx h (by kernel_rfl) (fun g4516 h => ?_) (fun g4516 h => ?_)
   ·refine seq_np ?_
    refine reg_f ?_
    refine rs 1 [] [] (by kernel_rfl) allP_nil ?_
    refine rf [(4, bS false)] [] 9 (by kernel_rfl) ?_
    refine wk_id ?_
    refine rt_cast ht2 ?_
    obtain ⟨r0, h, e0⟩ := map_sx h
    have e1 := hr2 r0 e0.symm
    subst r0
    obtain rfl := Option.some.inj h
    refine ret_at (bS false) (by kernel_rfl) ?_
    exact ret_e [] [] (by simp only [push_cast, leL_flD, renL_flD, seval]) (by simp only [push_cast, leL_flD, renL_flD, seval]) rfl rfl rfl
   ·refine wk_id ?_
    refine wk_id ?_
    refine reg_f ?_
    refine rs 3 [] [] (by kernel_rfl) allP_nil ?_
    refine rf [(0, .sl xa.length (fl xa)), (1, .sl b.length (fl b)), (5, iS (IntKind.i64.wrap (i7 + 1)))] [] 9 (by kernel_rfl) ?_
    exact hn2 ((IntKind.i64.wrap (i7 + 1))) _ _ _ (Option.some.inj h).symm (leSt_m [] [] (by simp only [push_cast, leL_flD, renL_flD, seval]) (by simp only [push_cast, leL_flD, renL_flD, seval]) rfl rfl rfl)
  ·change R2 (.exit 0) _ _ _
   refine ex_cast hx2 (id := 0) ?_
   obtain ⟨r0, h, e0⟩ := map_sx h
   have e1 := hr2 r0 e0.symm
   subst r0
   refine wk_id ?_
   refine wk_id ?_
   refine seq_np ?_
   refine reg_f ?_
   refine rs 1 [] [] (by kernel_rfl) allP_nil ?_
   refine rf [(4, bS true)] [] 0 (by kernel_rfl) ?_
   refine wk_id ?_
   obtain rfl := Option.some.inj h
   refine ret_at (bS true) (by kernel_rfl) ?_
   exact ret_e [] [] (by simp only [push_cast, leL_flD, renL_flD, seval]) (by simp only [push_cast, leL_flD, renL_flD, seval]) rfl rfl rfl

set_option maxRecDepth 100000 in
set_option maxHeartbeats 200000000 in
theorem taskmillref_SameAnswer_spec (xa : Answer) (b : Answer) (r : Bool) (h : taskmillref_SameAnswer xa b = some r) : SpecW Try.prog 25 [.agg (Enc.cells xa), .agg (Enc.cells b)] [] 0 (fun x h n => x = bS r ∧ h = [] ∧ n = 0) := by
 unfold taskmillref_SameAnswer at h
 refine spec_of (draw_ok _) Try.func25 rfl (by decide) rfl (by kernel_rfl) ?_
 refine seq_np ?_
 refine reg_f ?_
 refine rs 3 [] [] (by kernel_rfl) allP_nil ?_
 refine rf [(2, .ptr 0 0), (3, .ptr 1 0)] [(0, .row 33 (Enc.cells xa)), (1, .row 33 (Enc.cells b))] 2 (by kernel_rfl) ?_
 refine wk_id ?_
 refine seq_cut (A := Bool) (fun a => ([(4, bS a)], [], 0)) (fun a => (taskmillref_SameAnswer_j1 a) = some r) (fun K4529 hK4529 => ?_) ?_
 ·refine reg_f ?_
  refine rs 6 [] [] (by kernel_rfl) allP_nil ?_
  refine run_br h 10 (.inl (by kernel_rfl)) (fun g4530 h => ?_) (fun g4530 h => ?_)
  ·refine rs 7 [] [] (by kernel_rfl) allP_nil ?_
   refine run_br h 17 (.inl (by kernel_rfl)) (fun g4531 h => ?_) (fun g4531 h => ?_)
   ·refine rs 7 [] [] (by kernel_rfl) allP_nil ?_
    refine run_br h 24 (.inl (by kernel_rfl)) (fun g4532 h => ?_) (fun g4532 h => ?_)
    ·refine rn 20 [(2, .ptr 0 0), (3, .ptr 1 0), (24, bS true)] [(0, .row 33 (Enc.cells xa)), (1, .row 33 (Enc.cells b))] 2 (by kernel_rfl) ?_
     refine rs 7 [] [] (by kernel_rfl) allP_nil ?_
     refine run_br h 31 (.inl (by kernel_rfl)) (fun g4533 h => ?_) (fun g4533 h => ?_)
     ·refine rs 7 [] [] (by kernel_rfl) allP_nil ?_
      refine run_br h 38 (.inl (by kernel_rfl)) (fun g4534 h => ?_) (fun g4534 h => ?_)
      ·refine rs 4 [] [] (by kernel_rfl) allP_nil ?_
       obtain ⟨r4535, hr4535, h⟩ := bind_sx h
       refine run_call 52 [.sl xa.Wakes.length (fl xa.Wakes), .sl b.Wakes.length (fl b.Wakes)] (some 43) (by kernel_rfl) ?_
       refine call_0 (taskmillref_SameWakes_spec xa.Wakes b.Wakes r4535 hr4535) (by simp only [push_cast, leL_flD, renL_flD, seval]) (by simp only [push_cast, leL_flD, renL_flD, seval]) ?_
       refine back_f ?_
       refine rs 2 [] [] (by kernel_rfl) allP_nil ?_
       refine rf [(4, bS r4535)] [(0, .row 33 (Enc.cells xa)), (1, .row 33 (Enc.cells b))] 2 (by kernel_rfl) ?_
       exact hK4529 (r4535) _ _ _ h (leSt_m [] [] (by first | ((try simp only [g4530, g4531, g4532, g4533, g4534]) <;> simp only [push_cast, leL_flD, renL_flD, seval]; done) | ((try simp only [g4530]); (try simp only [g4531]); (try simp only [g4532]); (try simp only [g4533]); (try simp only [g4534]); simp only [push_cast, leL_flD, renL_flD, seval]; done) | (exfalso; clear h; simp_all; done)) (by first | ((try simp only [g4530, g4531, g4532, g4533, g4534]) <;> simp only [push_cast, leL_flD, renL_flD, seval]; done) | ((try simp only [g4530]); (try simp only [g4531]); (try simp only [g4532]); (try simp only [g4533]); (try simp only [g4534]); simp only [push_cast, leL_flD, renL_flD, seval]; done) | (exfalso; clear h; simp_all; done)) rfl rfl rfl)
      ·refine rs 7 [] [] (by kernel_rfl) allP_nil ?_
       refine rf [(4, bS false)] [(0, .row 33 (Enc.cells xa)), (1, .row 33 (Enc.cells b))] 2 (by kernel_rfl) ?_
       exact hK4529 (false) _ _ _ h (leSt_m [] [] (by first | ((try simp only [g4530, g4531, g4532, g4533, g4534]) <;> simp only [push_cast, leL_flD, renL_flD, seval]; done) | ((try simp only [g4530]); (try simp only [g4531]); (try simp only [g4532]); (try simp only [g4533]); (try simp only [g4534]); simp only [push_cast, leL_flD, renL_flD, seval]; done) | (exfalso; clear h; simp_all; done)) (by first | ((try simp only [g4530, g4531, g4532, g4533, g4534]) <;> simp only [push_cast, leL_flD, renL_flD, seval]; done) | ((try simp only [g4530]); (try simp only [g4531]); (try simp only [g4532]); (try simp only [g4533]); (try simp only [g4534]); simp only [push_cast, leL_flD, renL_flD, seval]; done) | (exfalso; clear h; simp_all; done)) rfl rfl rfl)
     ·refine rs 14 [] [] (by kernel_rfl) allP_nil ?_
      refine rf [(4, bS false)] [(0, .row 33 (Enc.cells xa)), (1, .row 33 (Enc.cells b))] 2 (by kernel_rfl) ?_
      exact hK4529 (false) _ _ _ h (leSt_m [] [] (by first | ((try simp only [g4530, g4531, g4532, g4533]) <;> simp only [push_cast, leL_flD, renL_flD, seval]; done) | ((try simp only [g4530]); (try simp only [g4531]); (try simp only [g4532]); (try simp only [g4533]); simp only [push_cast, leL_flD, renL_flD, seval]; done) | (exfalso; clear h; simp_all; done)) (by first | ((try simp only [g4530, g4531, g4532, g4533]) <;> simp only [push_cast, leL_flD, renL_flD, seval]; done) | ((try simp only [g4530]); (try simp only [g4531]); (try simp only [g4532]); (try simp only [g4533]); simp only [push_cast, leL_flD, renL_flD, seval]; done) | (exfalso; clear h; simp_all; done)) rfl rfl rfl)
    ·refine rn 20 [(2, .ptr 0 0), (3, .ptr 1 0), (24, bS false)] [(0, .row 33 (Enc.cells xa)), (1, .row 33 (Enc.cells b))] 2 (by kernel_rfl) ?_
     refine rs 21 [] [] (by kernel_rfl) allP_nil ?_
     refine rf [(4, bS false)] [(0, .row 33 (Enc.cells xa)), (1, .row 33 (Enc.cells b))] 2 (by kernel_rfl) ?_
     exact hK4529 (false) _ _ _ h (leSt_m [] [] (by first | ((try simp only [g4530, g4531, g4532]) <;> simp only [push_cast, leL_flD, renL_flD, seval]; done) | ((try simp only [g4530]); (try simp only [g4531]); (try simp only [g4532]); simp only [push_cast, leL_flD, renL_flD, seval]; done) | (exfalso; clear h; simp_all; done)) (by first | ((try simp only [g4530, g4531, g4532]) <;> simp only [push_cast, leL_flD, renL_flD, seval]; done) | ((try simp only [g4530]); (try simp only [g4531]); (try simp only [g4532]); simp only [push_cast, leL_flD, renL_flD, seval]; done) | (exfalso; clear h; simp_all; done)) rfl rfl rfl)
   ·refine rs 28 [] [] (by kernel_rfl) allP_nil ?_
    refine rf [(4, bS false)] [(0, .row 33 (Enc.cells xa)), (1, .row 33 (Enc.cells b))] 2 (by kernel_rfl) ?_
    exact hK4529 (false) _ _ _ h (leSt_m [] [] (by first | ((try simp only [g4530, g4531]) <;> simp only [push_cast, leL_flD, renL_flD, seval]; done) | ((try simp only [g4530]); (try simp only [g4531]); simp only [push_cast, leL_flD, renL_flD, seval]; done) | (exfalso; clear h; simp_all; done)) (by first | ((try simp only [g4530, g4531]) <;> simp only [push_cast, leL_flD, renL_flD, seval]; done) | ((try simp only [g4530]); (try simp only [g4531]); simp only [push_cast, leL_flD, renL_flD, seval]; done) | (exfalso; clear h; simp_all; done)) rfl rfl rfl)
  ·refine rs 35 [] [] (by kernel_rfl) allP_nil ?_
   refine rf [(4, bS false)] [(0, .row 33 (Enc.cells xa)), (1, .row 33 (Enc.cells b))] 2 (by kernel_rfl) ?_
   exact hK4529 (false) _ _ _ h (leSt_m [] [] (by (try simp only [g4530]) <;> simp only [push_cast, leL_flD, renL_flD, seval]) (by (try simp only [g4530]) <;> simp only [push_cast, leL_flD, renL_flD, seval]) rfl rfl rfl)
 ·rintro t4q1 h
  try dsimp only at h ⊢
  unfold taskmillref_SameAnswer_j1 at h
  obtain rfl := Option.some.inj h
  refine ret_at (bS t4q1) (by kernel_rfl) ?_
  exact ret_e [] [] (by simp only [push_cast, leL_flD, renL_flD, seval]) (by simp only [push_cast, leL_flD, renL_flD, seval]) rfl rfl rfl

set_option maxRecDepth 100000 in
set_option maxHeartbeats 200000000 in
theorem taskmilllaw_taskFault_spec (p : Pipe) (task : Int) (r : Fault) (h : taskmilllaw_taskFault p task = some r) : SpecW Try.prog 37 [.agg (Enc.cells p), iS task] [] 0 (fun x h n => x = .agg (Enc.cells r) ∧ h = [] ∧ n = 0) := by
 unfold taskmilllaw_taskFault at h
 refine spec_of (draw_ok _) Try.func37 rfl (by decide) rfl (by kernel_rfl) ?_
 refine seq_np ?_
 refine reg_f ?_
 refine rs 2 [] [] (by kernel_rfl) allP_nil ?_
 refine rf [(1, iS task), (2, .ptr 0 0), (4, .ptr 1 0)] [(0, .row 57 (Enc.cells p)), (1, .row 29 [iS 0, iS 0])] 2 (by kernel_rfl) ?_
 refine wk_id ?_
 refine seq_np ?_
 refine reg_f ?_
 refine rs 1 [] [] (by kernel_rfl) allP_nil ?_
 obtain ⟨r11778, hr11778, h⟩ := bind_sx h
 refine run_call 48 [.agg (Enc.cells p)] (some 7) (by kernel_rfl) ?_
 refine call_0 (taskmillref_PipeFault_spec p r11778 hr11778) (by simp only [push_cast, leL_flD, renL_flD, seval]) (by simp only [push_cast, leL_flD, renL_flD, seval]) ?_
 refine back_f ?_
 refine rs 2 [] [] (by kernel_rfl) allP_nil ?_
 refine rf [(1, iS task), (2, .ptr 0 0), (4, .ptr 1 0), (5, .ptr 2 0)] [(0, .row 57 (Enc.cells p)), (1, .row 29 [iS 0, iS 0]), (2, .row 29 (Enc.cells r11778))] 3 (by kernel_rfl) ?_
 refine wk_id ?_
 refine seq_cut (A := Fault) (fun a => ([(1, iS task), (2, .ptr 0 0), (4, .ptr 1 0), (5, .ptr 2 0)], [(0, .row 57 (Enc.cells p)), (1, .row 29 [iS 0, iS 0]), (2, .row 29 (Enc.cells a))], 3)) (fun a => (taskmilllaw_taskFault_j4 p task a) = some r) (fun K11783 hK11783 => ?_) ?_
 ·refine seq_cut (A := Unit) (fun _ => ([(1, iS task), (2, .ptr 0 0), (4, .ptr 1 0), (5, .ptr 2 0), (14, bS ((r11778.Code == 0) && (decide (task < 1))))], [(0, .row 57 (Enc.cells p)), (1, .row 29 [iS 0, iS 0]), (2, .row 29 (Enc.cells r11778))], 3)) (fun _ => True) (fun K11785 hK11785 => ?_) (fun _ _ => ?_)
  ·refine reg_f ?_
   refine rs 4 [] [] (by kernel_rfl) allP_nil ?_
   refine run_split 11 (r11778.Code == 0) (.inl (by kernel_rfl)) (fun g11786 => ?_) (fun g11786 => ?_)
   ·refine rs 3 [] [] (by kernel_rfl) allP_nil ?_
    refine rf [(1, iS task), (2, .ptr 0 0), (4, .ptr 1 0), (5, .ptr 2 0), (14, bS (decide (task < 1)))] [(0, .row 57 (Enc.cells p)), (1, .row 29 [iS 0, iS 0]), (2, .row 29 (Enc.cells r11778))] 3 (by kernel_rfl) ?_
    exact hK11785 () _ _ _ trivial (leSt_m [(0, 0), (1, 1), (2, 2)] [] (by (try simp only [g11786]) <;> simp only [push_cast, leL_flD, renL_flD, seval]) (by (try simp only [g11786]) <;> simp only [push_cast, leL_flD, renL_flD, seval]) rfl rfl rfl)
   ·refine rs 3 [] [] (by kernel_rfl) allP_nil ?_
    refine rf [(1, iS task), (2, .ptr 0 0), (4, .ptr 1 0), (5, .ptr 2 0), (14, bS false)] [(0, .row 57 (Enc.cells p)), (1, .row 29 [iS 0, iS 0]), (2, .row 29 (Enc.cells r11778))] 3 (by kernel_rfl) ?_
    exact hK11785 () _ _ _ trivial (leSt_m [(0, 0), (1, 1), (2, 2)] [] (by (try simp only [g11786]) <;> simp only [push_cast, leL_flD, renL_flD, seval]) (by (try simp only [g11786]) <;> simp only [push_cast, leL_flD, renL_flD, seval]) rfl rfl rfl)
  ·dsimp only
   refine cond_sx h (by kernel_rfl) (fun g11789 h => ?_) (fun g11789 h => ?_)
   ·refine reg_f ?_
    obtain ⟨r11788, hr11788, h⟩ := bind_sx h
    refine run_call 31 [iS 3, iS (-1)] (some 15) (by kernel_rfl) ?_
    refine call_0 (taskmillref_F_spec 3 (-1) r11788 hr11788) (by simp only [push_cast, leL_flD, renL_flD, seval]) (by simp only [push_cast, leL_flD, renL_flD, seval]) ?_
    refine back_f ?_
    refine rs 1 [] [] (by kernel_rfl) allP_nil ?_
    refine rf [(1, iS task), (2, .ptr 0 0), (4, .ptr 1 0), (5, .ptr 2 0)] [(0, .row 57 (Enc.cells p)), (1, .row 29 [iS 0, iS 0]), (2, .row 29 (Enc.cells r11788))] 3 (by kernel_rfl) ?_
    exact hK11783 (r11788) _ _ _ h (leSt_m [(0, 0), (1, 1), (2, 2)] [] (by simp only [push_cast, leL_flD, renL_flD, seval]) (by simp only [push_cast, leL_flD, renL_flD, seval]) rfl rfl rfl)
   ·exact hK11783 (r11778) _ _ _ h (leSt_m [(0, 0), (1, 1), (2, 2)] [] (by simp only [push_cast, leL_flD, renL_flD, seval]) (by simp only [push_cast, leL_flD, renL_flD, seval]) rfl rfl rfl)
 ·rintro c2q2 h
  try dsimp only at h ⊢
  unfold taskmilllaw_taskFault_j4 at h
  refine seq_cut (A := Fault) (fun a => ([(2, .ptr 0 0), (4, .ptr 1 0), (5, .ptr 2 0)], [(0, .row 57 (Enc.cells p)), (1, .row 29 [iS 0, iS 0]), (2, .row 29 (Enc.cells a))], 3)) (fun a => (taskmilllaw_taskFault_j2 p a) = some r) (fun K11797 hK11797 => ?_) ?_
  ·refine seq_cut (A := Bool) (fun a => ([(2, .ptr 0 0), (4, .ptr 1 0), (5, .ptr 2 0), (23, bS a)], [(0, .row 57 (Enc.cells p)), (1, .row 29 [iS 0, iS 0]), (2, .row 29 (Enc.cells c2q2))], 3)) (fun a => (taskmilllaw_taskFault_j3 p c2q2 a) = some r) (fun K11801 hK11801 => ?_) ?_
   ·refine reg_f ?_
    refine rs 4 [] [] (by kernel_rfl) allP_nil ?_
    refine run_br h 19 (.inl (by kernel_rfl)) (fun g11802 h => ?_) (fun g11802 h => ?_)
    ·refine rs 2 [] [] (by kernel_rfl) allP_nil ?_
     obtain ⟨r11803, hr11803, h⟩ := bind_sx h
     refine run_call 28 [.agg (Enc.cells p), iS task] (some 22) (by kernel_rfl) ?_
     refine call_0 (taskmillref_WaitsAt_spec p task r11803 hr11803) (by simp only [push_cast, leL_flD, renL_flD, seval]) (by simp only [push_cast, leL_flD, renL_flD, seval]) ?_
     refine back_f ?_
     refine rs 1 [] [] (by kernel_rfl) allP_nil ?_
     refine rf [(2, .ptr 0 0), (4, .ptr 1 0), (5, .ptr 2 0), (23, bS r11803)] [(0, .row 57 (Enc.cells p)), (1, .row 29 [iS 0, iS 0]), (2, .row 29 (Enc.cells c2q2))] 3 (by kernel_rfl) ?_
     exact hK11801 (r11803) _ _ _ h (leSt_m [(0, 0), (1, 1), (2, 2)] [] (by (try simp only [g11802]) <;> simp only [push_cast, leL_flD, renL_flD, seval]) (by (try simp only [g11802]) <;> simp only [push_cast, leL_flD, renL_flD, seval]) rfl rfl rfl)
    ·refine rs 4 [] [] (by kernel_rfl) allP_nil ?_
     refine rf [(2, .ptr 0 0), (4, .ptr 1 0), (5, .ptr 2 0), (23, bS false)] [(0, .row 57 (Enc.cells p)), (1, .row 29 [iS 0, iS 0]), (2, .row 29 (Enc.cells c2q2))] 3 (by kernel_rfl) ?_
     exact hK11801 (false) _ _ _ h (leSt_m [(0, 0), (1, 1), (2, 2)] [] (by (try simp only [g11802]) <;> simp only [push_cast, leL_flD, renL_flD, seval]) (by (try simp only [g11802]) <;> simp only [push_cast, leL_flD, renL_flD, seval]) rfl rfl rfl)
   ·rintro t23q2 h
    try dsimp only at h ⊢
    unfold taskmilllaw_taskFault_j3 at h
    refine cond_sx h (by kernel_rfl) (fun g11806 h => ?_) (fun g11806 h => ?_)
    ·refine reg_f ?_
     obtain ⟨r11805, hr11805, h⟩ := bind_sx h
     refine run_call 31 [iS 10, iS (-1)] (some 24) (by kernel_rfl) ?_
     refine call_0 (taskmillref_F_spec 10 (-1) r11805 hr11805) (by simp only [push_cast, leL_flD, renL_flD, seval]) (by simp only [push_cast, leL_flD, renL_flD, seval]) ?_
     refine back_f ?_
     refine rs 1 [] [] (by kernel_rfl) allP_nil ?_
     refine rf [(2, .ptr 0 0), (4, .ptr 1 0), (5, .ptr 2 0)] [(0, .row 57 (Enc.cells p)), (1, .row 29 [iS 0, iS 0]), (2, .row 29 (Enc.cells r11805))] 3 (by kernel_rfl) ?_
     exact hK11797 (r11805) _ _ _ h (leSt_m [(0, 0), (1, 1), (2, 2)] [] (by simp only [push_cast, leL_flD, renL_flD, seval]) (by simp only [push_cast, leL_flD, renL_flD, seval]) rfl rfl rfl)
    ·exact hK11797 (c2q2) _ _ _ h (leSt_m [(0, 0), (1, 1), (2, 2)] [] (by simp only [push_cast, leL_flD, renL_flD, seval]) (by simp only [push_cast, leL_flD, renL_flD, seval]) rfl rfl rfl)
  ·rintro c2q3 h
   try dsimp only at h ⊢
   unfold taskmilllaw_taskFault_j2 at h
   refine seq_cut (A := Fault) (fun a => ([(4, .ptr 0 0), (5, .ptr 1 0)], [(0, .row 29 [iS 0, iS 0]), (1, .row 29 (Enc.cells a))], 2)) (fun a => (taskmilllaw_taskFault_j1 a) = some r) (fun K11811 hK11811 => ?_) ?_
   ·refine seq_cut (A := Unit) (fun _ => ([(4, .ptr 1 0), (5, .ptr 2 0), (41, bS ((c2q3.Code == 0) && ((IntKind.i64.wrap ((IntKind.i64.wrap (((p.Items.length : Nat) : Int) + ((p.Senders.length : Nat) : Int))) + ((p.Getters.length : Nat) : Int))) == 5000)))], [(0, .row 57 (Enc.cells p)), (1, .row 29 [iS 0, iS 0]), (2, .row 29 (Enc.cells c2q3))], 3)) (fun _ => True) (fun K11813 hK11813 => ?_) (fun _ _ => ?_)
    ·refine reg_f ?_
     refine rs 4 [] [] (by kernel_rfl) allP_nil ?_
     refine run_split 28 (c2q3.Code == 0) (.inl (by kernel_rfl)) (fun g11814 => ?_) (fun g11814 => ?_)
     ·refine rs 13 [] [] (by kernel_rfl) allP_nil ?_
      refine rf [(4, .ptr 1 0), (5, .ptr 2 0), (41, bS ((IntKind.i64.wrap ((IntKind.i64.wrap (((p.Items.length : Nat) : Int) + ((p.Senders.length : Nat) : Int))) + ((p.Getters.length : Nat) : Int))) == 5000))] [(0, .row 57 (Enc.cells p)), (1, .row 29 [iS 0, iS 0]), (2, .row 29 (Enc.cells c2q3))] 3 (by kernel_rfl) ?_
      exact hK11813 () _ _ _ trivial (leSt_m [(0, 0), (1, 1), (2, 2)] [] (by (try simp only [g11814]) <;> simp only [push_cast, leL_flD, renL_flD, seval]) (by (try simp only [g11814]) <;> simp only [push_cast, leL_flD, renL_flD, seval]) rfl rfl rfl)
     ·refine rs 13 [] [] (by kernel_rfl) allP_nil ?_
      refine rf [(4, .ptr 1 0), (5, .ptr 2 0), (41, bS false)] [(0, .row 57 (Enc.cells p)), (1, .row 29 [iS 0, iS 0]), (2, .row 29 (Enc.cells c2q3))] 3 (by kernel_rfl) ?_
      exact hK11813 () _ _ _ trivial (leSt_m [(0, 0), (1, 1), (2, 2)] [] (by (try simp only [g11814]) <;> simp only [push_cast, leL_flD, renL_flD, seval]) (by (try simp only [g11814]) <;> simp only [push_cast, leL_flD, renL_flD, seval]) rfl rfl rfl)
    ·dsimp only
     refine cond_sx h (by kernel_rfl) (fun g11817 h => ?_) (fun g11817 h => ?_)
     ·refine reg_f ?_
      obtain ⟨r11816, hr11816, h⟩ := bind_sx h
      refine run_call 31 [iS 9, iS 0] (some 42) (by kernel_rfl) ?_
      refine call_0 (taskmillref_F_spec 9 0 r11816 hr11816) (by simp only [push_cast, leL_flD, renL_flD, seval]) (by simp only [push_cast, leL_flD, renL_flD, seval]) ?_
      refine back_f ?_
      refine rs 1 [] [] (by kernel_rfl) allP_nil ?_
      refine rf [(4, .ptr 1 0), (5, .ptr 2 0)] [(0, .row 57 (Enc.cells p)), (1, .row 29 [iS 0, iS 0]), (2, .row 29 (Enc.cells r11816))] 3 (by kernel_rfl) ?_
      exact hK11811 (r11816) _ _ _ h (leSt_m [(0, 1), (1, 2)] [] (by simp only [push_cast, leL_flD, renL_flD, seval]) (by simp only [push_cast, leL_flD, renL_flD, seval]) rfl rfl rfl)
     ·exact hK11811 (c2q3) _ _ _ h (leSt_m [(0, 1), (1, 2)] [] (by simp only [push_cast, leL_flD, renL_flD, seval]) (by simp only [push_cast, leL_flD, renL_flD, seval]) rfl rfl rfl)
   ·rintro c1q1 h
    try dsimp only at h ⊢
    unfold taskmilllaw_taskFault_j1 at h
    refine seq_np ?_
    refine reg_f ?_
    refine rs 2 [] [] (by kernel_rfl) allP_nil ?_
    refine rf [(4, .ptr 0 0)] [(0, .row 29 (Enc.cells c1q1)), (1, .row 29 (Enc.cells c1q1))] 2 (by kernel_rfl) ?_
    refine wk_id ?_
    obtain rfl := Option.some.inj h
    refine ret_at (.agg (Enc.cells c1q1)) (by kernel_rfl) ?_
    exact ret_e [] [] (by simp only [push_cast, leL_flD, renL_flD, seval]) (by simp only [push_cast, leL_flD, renL_flD, seval]) rfl rfl rfl

set_option maxRecDepth 100000 in
set_option maxHeartbeats 200000000 in
theorem pipe_begin_spec (p : Pipe) (task : Int) (r : Fault) (h : pipe_begin p task = some r) : SpecW Try.prog 56 [.agg (Enc.cells p), iS task] [] 0 (fun x h n => x = .agg (Enc.cells r) ∧ h = [] ∧ n = 0) := by
 unfold pipe_begin at h
 refine spec_of (draw_ok _) Try.func56 rfl (by decide) rfl (by kernel_rfl) ?_
 refine seq_np ?_
 refine reg_f ?_
 refine rs 2 [] [] (by kernel_rfl) allP_nil ?_
 refine rf [(1, iS task), (2, .ptr 0 0), (4, .ptr 1 0)] [(0, .row 57 (Enc.cells p)), (1, .row 29 [iS 0, iS 0])] 2 (by kernel_rfl) ?_
 refine wk_id ?_
 refine seq_np ?_
 refine seq_np ?_
 refine reg_f ?_
 refine rs 1 [] [] (by kernel_rfl) allP_nil ?_
 obtain ⟨r11838, hr11838, h⟩ := bind_sx h
 refine run_call 43 [.agg (Enc.cells p)] (some 7) (by kernel_rfl) ?_
 refine call_0 (pipe_Check_spec p r11838 hr11838) (by simp only [push_cast, leL_flD, renL_flD, seval]) (by simp only [push_cast, leL_flD, renL_flD, seval]) ?_
 refine back_f ?_
 refine rs 2 [] [] (by kernel_rfl) allP_nil ?_
 refine rf [(1, iS task), (2, .ptr 0 0), (4, .ptr 1 0), (5, .ptr 2 0)] [(0, .row 57 (Enc.cells p)), (1, .row 29 [iS 0, iS 0]), (2, .row 29 (Enc.cells r11838))] 3 (by kernel_rfl) ?_
 refine wk_id ?_
 refine seq_np ?_
 refine reg_f ?_
 refine rs 3 [] [] (by kernel_rfl) allP_nil ?_
 refine rf [(1, iS task), (2, .ptr 0 0), (4, .ptr 1 0), (5, .ptr 2 0), (10, bS (r11838.Code != 0))] [(0, .row 57 (Enc.cells p)), (1, .row 29 [iS 0, iS 0]), (2, .row 29 (Enc.cells r11838))] 3 (by kernel_rfl) ?_
 refine wk_id ?_
 refine cond_sx h (by kernel_rfl) (fun g11857 h => ?_) (fun g11857 h => ?_)
 ·refine seq_np ?_
  refine reg_f ?_
  refine rs 2 [] [] (by kernel_rfl) allP_nil ?_
  refine rf [(4, .ptr 1 0)] [(0, .row 57 (Enc.cells p)), (1, .row 29 (Enc.cells r11838)), (2, .row 29 (Enc.cells r11838))] 3 (by kernel_rfl) ?_
  refine wk_id ?_
  obtain rfl := Option.some.inj h
  refine ret_at (.agg (Enc.cells r11838)) (by kernel_rfl) ?_
  exact ret_e [] [] (by simp only [push_cast, leL_flD, renL_flD, seval]) (by simp only [push_cast, leL_flD, renL_flD, seval]) rfl rfl rfl
 ·refine wk_id ?_
  refine seq_np ?_
  refine seq_np ?_
  refine reg_f ?_
  refine rs 2 [] [] (by kernel_rfl) allP_nil ?_
  refine rf [(1, iS task), (2, .ptr 0 0), (4, .ptr 1 0), (13, bS (decide (task < 1)))] [(0, .row 57 (Enc.cells p)), (1, .row 29 [iS 0, iS 0]), (2, .row 29 (Enc.cells r11838))] 3 (by kernel_rfl) ?_
  refine wk_id ?_
  refine cond_sx h (by kernel_rfl) (fun g11856 h => ?_) (fun g11856 h => ?_)
  ·refine seq_np ?_
   refine reg_f ?_
   obtain ⟨r11842, hr11842, h⟩ := bind_sx h
   refine run_call 62 [iS 3, iS (-1)] (some 14) (by kernel_rfl) ?_
   refine call_0 (pipe_fault_spec 3 (-1) r11842 hr11842) (by simp only [push_cast, leL_flD, renL_flD, seval]) (by simp only [push_cast, leL_flD, renL_flD, seval]) ?_
   refine back_f ?_
   refine rs 1 [] [] (by kernel_rfl) allP_nil ?_
   refine rf [(4, .ptr 1 0)] [(0, .row 57 (Enc.cells p)), (1, .row 29 (Enc.cells r11842)), (2, .row 29 (Enc.cells r11838))] 3 (by kernel_rfl) ?_
   refine wk_id ?_
   obtain rfl := Option.some.inj h
   refine ret_at (.agg (Enc.cells r11842)) (by kernel_rfl) ?_
   exact ret_e [] [] (by simp only [push_cast, leL_flD, renL_flD, seval]) (by simp only [push_cast, leL_flD, renL_flD, seval]) rfl rfl rfl
  ·refine wk_id ?_
   refine seq_np ?_
   refine seq_np ?_
   refine reg_f ?_
   refine rs 2 [] [] (by kernel_rfl) allP_nil ?_
   obtain ⟨r11847, hr11847, h⟩ := bind_sx h
   refine run_call 69 [.agg (Enc.cells p), iS task] (some 17) (by kernel_rfl) ?_
   refine call_0 (pipe_Waits_spec p task r11847 hr11847) (by simp only [push_cast, leL_flD, renL_flD, seval]) (by simp only [push_cast, leL_flD, renL_flD, seval]) ?_
   refine back_f ?_
   refine rf [(2, .ptr 0 0), (4, .ptr 1 0), (17, bS r11847)] [(0, .row 57 (Enc.cells p)), (1, .row 29 [iS 0, iS 0]), (2, .row 29 (Enc.cells r11838))] 3 (by kernel_rfl) ?_
   refine wk_id ?_
   refine cond_sx h (by kernel_rfl) (fun g11855 h => ?_) (fun g11855 h => ?_)
   ·refine seq_np ?_
    refine reg_f ?_
    obtain ⟨r11849, hr11849, h⟩ := bind_sx h
    refine run_call 62 [iS 10, iS (-1)] (some 18) (by kernel_rfl) ?_
    refine call_0 (pipe_fault_spec 10 (-1) r11849 hr11849) (by simp only [push_cast, leL_flD, renL_flD, seval]) (by simp only [push_cast, leL_flD, renL_flD, seval]) ?_
    refine back_f ?_
    refine rs 1 [] [] (by kernel_rfl) allP_nil ?_
    refine rf [(4, .ptr 1 0)] [(0, .row 57 (Enc.cells p)), (1, .row 29 (Enc.cells r11849)), (2, .row 29 (Enc.cells r11838))] 3 (by kernel_rfl) ?_
    refine wk_id ?_
    obtain rfl := Option.some.inj h
    refine ret_at (.agg (Enc.cells r11849)) (by kernel_rfl) ?_
    exact ret_e [] [] (by simp only [push_cast, leL_flD, renL_flD, seval]) (by simp only [push_cast, leL_flD, renL_flD, seval]) rfl rfl rfl
   ·refine wk_id ?_
    refine seq_np ?_
    refine seq_np ?_
    refine reg_f ?_
    refine rs 12 [] [] (by kernel_rfl) allP_nil ?_
    refine rf [(4, .ptr 1 0), (30, bS ((IntKind.i64.wrap ((IntKind.i64.wrap (((p.Items.length : Nat) : Int) + ((p.Senders.length : Nat) : Int))) + ((p.Getters.length : Nat) : Int))) == 5000))] [(0, .row 57 (Enc.cells p)), (1, .row 29 [iS 0, iS 0]), (2, .row 29 (Enc.cells r11838))] 3 (by kernel_rfl) ?_
    refine wk_id ?_
    refine cond_sx h (by kernel_rfl) (fun g11854 h => ?_) (fun g11854 h => ?_)
    ·refine seq_np ?_
     refine reg_f ?_
     obtain ⟨r11853, hr11853, h⟩ := bind_sx h
     refine run_call 62 [iS 9, iS 0] (some 31) (by kernel_rfl) ?_
     refine call_0 (pipe_fault_spec 9 0 r11853 hr11853) (by simp only [push_cast, leL_flD, renL_flD, seval]) (by simp only [push_cast, leL_flD, renL_flD, seval]) ?_
     refine back_f ?_
     refine rs 1 [] [] (by kernel_rfl) allP_nil ?_
     refine rf [(4, .ptr 1 0)] [(0, .row 57 (Enc.cells p)), (1, .row 29 (Enc.cells r11853)), (2, .row 29 (Enc.cells r11838))] 3 (by kernel_rfl) ?_
     refine wk_id ?_
     obtain rfl := Option.some.inj h
     refine ret_at (.agg (Enc.cells r11853)) (by kernel_rfl) ?_
     exact ret_e [] [] (by simp only [push_cast, leL_flD, renL_flD, seval]) (by simp only [push_cast, leL_flD, renL_flD, seval]) rfl rfl rfl
    ·refine wk_id ?_
     refine seq_np ?_
     refine reg_f ?_
     refine rs 2 [] [] (by kernel_rfl) allP_nil ?_
     refine rf [(4, .ptr 1 0)] [(0, .row 57 (Enc.cells p)), (1, .row 29 [iS 0, iS 0]), (2, .row 29 (Enc.cells r11838))] 3 (by kernel_rfl) ?_
     refine wk_id ?_
     obtain rfl := Option.some.inj h
     refine ret_at (.agg [iS 0, iS 0]) (by kernel_rfl) ?_
     exact ret_e [] [] (by simp only [push_cast, leL_flD, renL_flD, seval]) (by simp only [push_cast, leL_flD, renL_flD, seval]) rfl rfl rfl

set_option maxRecDepth 100000 in
set_option maxHeartbeats 200000000 in
theorem pipe_Got_2_spec (x : GPost) (c0_Cap : Int) (c0_Closed : Bool) (c1 : (List Int)) (c2 : (List GPost)) (c3 : (List GPost)) (r : Bool × Bool × Bool × Int × Int × (List GWake) × Int × Bool × (List Int) × (List GPost) × (List GPost)) (h : pipe_Got_2 x c0_Cap c0_Closed c1 c2 c3 = some r) : SpecW Try.prog 58 [.ptr 0 0, .agg (Enc.cells x)] [(0, .row 57 [iS c0_Cap, .own 1 0 c1.length, bS c0_Closed, .own 2 0 c2.length, .own 3 0 c3.length]), (1, .row 3 (fl c1)), (2, .row 92 (fl c2)), (3, .row 92 (fl c3))] 4 (fun x h n => x = .agg [bS r.1, bS r.2.1, bS r.2.2.1, iS r.2.2.2.1, iS r.2.2.2.2.1, .own 4 0 r.2.2.2.2.2.1.length] ∧ h = [(0, .row 57 [iS r.2.2.2.2.2.2.1, .own 5 0 r.2.2.2.2.2.2.2.2.1.length, bS r.2.2.2.2.2.2.2.1, .own 6 0 r.2.2.2.2.2.2.2.2.2.1.length, .own 3 0 r.2.2.2.2.2.2.2.2.2.2.length]), (1, .dead), (2, .dead), (3, .row 92 (fl r.2.2.2.2.2.2.2.2.2.2)), (4, .row 64 (fl r.2.2.2.2.2.1)), (5, .row 3 (fl r.2.2.2.2.2.2.2.2.1)), (6, .row 92 (fl r.2.2.2.2.2.2.2.2.2.1))] ∧ n = 7) := by
 unfold pipe_Got_2 at h
 refine spec_of (draw_ok _) Try.func58 rfl (by decide) rfl (by kernel_rfl) ?_
 refine seq_np ?_
 refine reg_f ?_
 refine rs 2 [] [] (by kernel_rfl) allP_nil ?_
 refine rf [(0, .ptr 0 0), (3, .ptr 4 0), (4, .ptr 5 0)] [(0, .row 57 [iS c0_Cap, .own 1 0 c1.length, bS c0_Closed, .own 2 0 c2.length, .own 3 0 c3.length]), (1, .row 3 (fl c1)), (2, .row 92 (fl c2)), (3, .row 92 (fl c3)), (4, .row 92 (Enc.cells x)), (5, .row 33 [bS false, bS false, bS false, iS 0, iS 0, .v (.slice none 0 0)])] 6 (by kernel_rfl) ?_
 refine wk_id ?_
 refine seq_np ?_
 refine reg_f ?_
 refine rs 5 [] [] (by kernel_rfl) allP_nil ?_
 refine rf [(0, .ptr 0 0), (3, .ptr 4 0), (4, .ptr 5 0), (5, .ptr 6 0)] [(0, .row 57 [iS c0_Cap, .own 1 0 c1.length, bS c0_Closed, .own 2 0 c2.length, .own 3 0 c3.length]), (1, .row 3 (fl c1)), (2, .row 92 (fl c2)), (3, .row 92 (fl c3)), (4, .row 92 (Enc.cells x)), (5, .row 33 [bS false, bS false, bS false, iS 0, iS 0, .v (.slice none 0 0)]), (6, .row 33 [bS true, bS false, bS true, iS 0, iS x.Case, .v (.slice none 0 0)])] 7 (by kernel_rfl) ?_
 refine wk_id ?_
 refine seq_cut (A := (List Int) × (List GPost) × (List GWake)) (fun a => ([(0, .ptr 0 0), (3, .ptr 4 0), (4, .ptr 5 0), (5, .ptr 6 0)], [(0, .row 57 [iS c0_Cap, .own 7 0 a.1.length, bS c0_Closed, .own 8 0 a.2.1.length, .own 3 0 c3.length]), (1, .dead), (2, .dead), (3, .row 92 (fl c3)), (4, .row 92 (Enc.cells x)), (5, .row 33 [bS false, bS false, bS false, iS 0, iS 0, .v (.slice none 0 0)]), (6, .row 33 [bS true, bS false, bS true, iS 0, iS x.Case, .own 9 0 a.2.2.length]), (7, .row 3 (fl a.1)), (8, .row 92 (fl a.2.1)), (9, .row 64 (fl a.2.2))], 10)) (fun a => (pipe_Got_2_j1 x c0_Cap c0_Closed c3 a.1 a.2.1 a.2.2) = some r) (fun K11888 hK11888 => ?_) ?_
 ·refine seq_np ?_
  refine reg_f ?_
  refine rs 6 [] [] (by kernel_rfl) allP_nil ?_
  refine rf [(0, .ptr 0 0), (3, .ptr 4 0), (4, .ptr 5 0), (5, .ptr 6 0), (15, bS (decide ((0 : Int) < ((c2.length : Nat) : Int))))] [(0, .row 57 [iS c0_Cap, .own 1 0 c1.length, bS c0_Closed, .own 2 0 c2.length, .own 3 0 c3.length]), (1, .row 3 (fl c1)), (2, .row 92 (fl c2)), (3, .row 92 (fl c3)), (4, .row 92 (Enc.cells x)), (5, .row 33 [bS false, bS false, bS false, iS 0, iS 0, .v (.slice none 0 0)]), (6, .row 33 [bS true, bS false, bS true, iS 0, iS x.Case, .v (.slice none 0 0)])] 7 (by kernel_rfl) ?_
  refine wk_id ?_
  refine cond_sx h (by kernel_rfl) (fun g11901 h => ?_) (fun g11901 h => ?_)
  ·refine chk_sx h (fun g11892 h => ?_)
   refine seq_np ?_
   refine reg_f ?_
   have k11891 : 0 ≤ (0 : Int) ∧ (0 : Int) < ((c2.length : Nat) : Int) := by first | simpa only [Bool.and_eq_true, decide_eq_true_eq, bne_iff_ne, ne_eq] using g11892 | (simp at g11892 ⊢; omega)
   refine rs 8 [none, none, none, none, some ⟨.ptr 2 (0 + ((0 : Int)).toNat * 3), [], 7, [2]⟩, some ⟨.agg (Enc.cells (ix c2 (0 : Int))), [], 7, [2]⟩] _ (by kernel_rfl) (allP_cons (ob_ldw c2 (0 : Int) 3 (0 + ((0 : Int)).toNat * 3) k11891 rfl (by first | rfl | omega) [iS (ix c2 (0 : Int)).Task, iS (ix c2 (0 : Int)).Case, iS (ix c2 (0 : Int)).Value] rfl 7 [2]) (allP_cons (ob_ix_o 2 c2.length 0 3 7 0 k11891) allP_nil)) ?_
   refine rf [(0, .ptr 0 0), (3, .ptr 4 0), (4, .ptr 5 0), (5, .ptr 6 0), (6, .ptr 7 0)] [(0, .row 57 [iS c0_Cap, .own 1 0 c1.length, bS c0_Closed, .own 2 0 c2.length, .own 3 0 c3.length]), (1, .row 3 (fl c1)), (2, .row 92 (fl c2)), (3, .row 92 (fl c3)), (4, .row 92 (Enc.cells x)), (5, .row 33 [bS false, bS false, bS false, iS 0, iS 0, .v (.slice none 0 0)]), (6, .row 33 [bS true, bS false, bS true, iS 0, iS x.Case, .v (.slice none 0 0)]), (7, .row 92 (Enc.cells (ix c2 (0 : Int))))] 8 (by kernel_rfl) ?_
   refine wk_id ?_
   refine chk_sx h (fun g11896 h => ?_)
   refine seq_np ?_
   refine reg_f ?_
   have k11895 : 0 ≤ (1 : Int) ∧ (1 : Int) ≤ ((c2.length : Nat) : Int) ∧ ((c2.length : Nat) : Int) ≤ ((c2.length : Nat) : Int) := by first | simpa only [Bool.and_eq_true, decide_eq_true_eq, bne_iff_ne, ne_eq] using g11896 | (simp at g11896 ⊢; omega)
   refine rs 5 [] [] (by kernel_rfl) allP_nil ?_
   refine run_cutO c2 (some 27) 2 3 92 (1 : Int) ((c2.length : Nat) : Int) (by kernel_rfl) rfl k11895 ?_
   refine rs 3 [] [] (by kernel_rfl) allP_nil ?_
   refine rf [(0, .ptr 0 0), (3, .ptr 4 0), (4, .ptr 5 0), (5, .ptr 6 0), (6, .ptr 7 0)] [(0, .row 57 [iS c0_Cap, .own 1 0 c1.length, bS c0_Closed, .own 8 0 (cut c2 (1 : Int) ((c2.length : Nat) : Int)).length, .own 3 0 c3.length]), (1, .row 3 (fl c1)), (2, .dead), (3, .row 92 (fl c3)), (4, .row 92 (Enc.cells x)), (5, .row 33 [bS false, bS false, bS false, iS 0, iS 0, .v (.slice none 0 0)]), (6, .row 33 [bS true, bS false, bS true, iS 0, iS x.Case, .v (.slice none 0 0)]), (7, .row 92 (Enc.cells (ix c2 (0 : Int)))), (8, .row 92 (fl (cut c2 (1 : Int) ((c2.length : Nat) : Int))))] 9 (by kernel_rfl) ?_
   refine wk_id ?_
   refine chk_sx h (fun g11900 h => ?_)
   refine seq_np ?_
   refine reg_t ?_
   have k11899 : (c1 ++ ([(ix c2 (0 : Int)).Value] : List Int)).length * 8 ≤ 140737488355328 := by first | simpa only [Bool.and_eq_true, decide_eq_true_eq, bne_iff_ne, ne_eq] using g11900 | (simp at g11900 ⊢; omega)
   refine rs 12 [none, none, none, none, none, none, none, none, some ⟨.own 18 0 (c1 ++ ([(ix c2 (0 : Int)).Value] : List Int)).length, [(18, .row 3 (fl (c1 ++ ([(ix c2 (0 : Int)).Value] : List Int)))), (1, .dead)], 19, [1, 16]⟩] _ (by kernel_rfl) (allP_cons (ob_app (P := Try.prog) c1 ([(ix c2 (0 : Int)).Value] : List Int) 1 8 rfl (appCells (fl ([(ix c2 (0 : Int)).Value] : List Int)) 0 (([(ix c2 (0 : Int)).Value] : List Int).length * 1)) ([(ix c2 (0 : Int)).Value] : List Int).length (app_own ([(ix c2 (0 : Int)).Value] : List Int) 1 rfl) rfl (0 + ([(ix c2 (0 : Int)).Value] : List Int).length * 1 ≤ (fl ([(ix c2 (0 : Int)).Value] : List Int)).length) (app_own_le ([(ix c2 (0 : Int)).Value] : List Int) 1 rfl) 3 (by kernel_rfl) (by decide) k11899 1 18 [16]) allP_nil) ?_
   refine rt [(0, .ptr 0 0), (3, .ptr 4 0), (4, .ptr 5 0), (5, .ptr 6 0), (6, .ptr 7 0)] [(0, .row 57 [iS c0_Cap, .own 18 0 (c1 ++ ([(ix c2 (0 : Int)).Value] : List Int)).length, bS c0_Closed, .own 8 0 (cut c2 (1 : Int) ((c2.length : Nat) : Int)).length, .own 3 0 c3.length]), (1, .dead), (2, .dead), (3, .row 92 (fl c3)), (4, .row 92 (Enc.cells x)), (5, .row 33 [bS false, bS false, bS false, iS 0, iS 0, .v (.slice none 0 0)]), (6, .row 33 [bS true, bS false, bS true, iS 0, iS x.Case, .v (.slice none 0 0)]), (7, .row 92 (Enc.cells (ix c2 (0 : Int)))), (8, .row 92 (fl (cut c2 (1 : Int) ((c2.length : Nat) : Int)))), (16, .row 3 (fl ([(ix c2 (0 : Int)).Value] : List Int))), (18, .row 3 (fl (c1 ++ ([(ix c2 (0 : Int)).Value] : List Int))))] 23 follows (by kernel_rfl) ?_
   refine wk_id ?_
   refine reg_f ?_
   refine rs 8 [] [] (by kernel_rfl) allP_nil ?_
   refine rf [(0, .ptr 0 0), (3, .ptr 4 0), (4, .ptr 5 0), (5, .ptr 6 0)] [(0, .row 57 [iS c0_Cap, .own 18 0 (c1 ++ ([(ix c2 (0 : Int)).Value] : List Int)).length, bS c0_Closed, .own 8 0 (cut c2 (1 : Int) ((c2.length : Nat) : Int)).length, .own 3 0 c3.length]), (1, .dead), (2, .dead), (3, .row 92 (fl c3)), (4, .row 92 (Enc.cells x)), (5, .row 33 [bS false, bS false, bS false, iS 0, iS 0, .v (.slice none 0 0)]), (6, .row 33 [bS true, bS false, bS true, iS 0, iS x.Case, .own 23 0 ([(GWake.mk (ix c2 (0 : Int)).Task (ix c2 (0 : Int)).Case 0 false false)] : List GWake).length]), (7, .row 92 (Enc.cells (ix c2 (0 : Int)))), (8, .row 92 (fl (cut c2 (1 : Int) ((c2.length : Nat) : Int)))), (16, .row 3 (fl ([(ix c2 (0 : Int)).Value] : List Int))), (18, .row 3 (fl (c1 ++ ([(ix c2 (0 : Int)).Value] : List Int)))), (23, .row 64 (fl ([(GWake.mk (ix c2 (0 : Int)).Task (ix c2 (0 : Int)).Case 0 false false)] : List GWake)))] 24 (by kernel_rfl) ?_
   exact hK11888 ((c1 ++ ([(ix c2 (0 : Int)).Value] : List Int)), (cut c2 (1 : Int) ((c2.length : Nat) : Int)), ([(GWake.mk (ix c2 (0 : Int)).Task (ix c2 (0 : Int)).Case 0 false false)] : List GWake)) _ _ _ h (leSt_m [(0, 0), (3, 3), (4, 4), (5, 5), (6, 6), (7, 18), (8, 8), (9, 23)] [] (by simp only [push_cast, leL_flD, renL_flD, seval]) (by simp only [push_cast, leL_flD, renL_flD, seval]) rfl rfl rfl)
  ·exact hK11888 (c1, c2, []) _ _ _ h (leSt_m [(0, 0), (3, 3), (4, 4), (5, 5), (6, 6), (7, 1), (8, 2)] [] (by simp only [push_cast, leL_flD, renL_flD, seval]) (by simp only [push_cast, leL_flD, renL_flD, seval]) rfl rfl rfl)
 ·rintro ⟨c7q1, c8q1, c9q1⟩ h
  try dsimp only at h ⊢
  unfold pipe_Got_2_j1 at h
  refine seq_np ?_
  refine seq_np ?_
  refine reg_f ?_
  refine rs 6 [] [] (by kernel_rfl) allP_nil ?_
  refine rf [(0, .ptr 0 0), (3, .ptr 4 0), (4, .ptr 5 0), (5, .ptr 6 0), (53, bS (decide ((0 : Int) < ((c7q1.length : Nat) : Int))))] [(0, .row 57 [iS c0_Cap, .own 7 0 c7q1.length, bS c0_Closed, .own 8 0 c8q1.length, .own 3 0 c3.length]), (1, .dead), (2, .dead), (3, .row 92 (fl c3)), (4, .row 92 (Enc.cells x)), (5, .row 33 [bS false, bS false, bS false, iS 0, iS 0, .v (.slice none 0 0)]), (6, .row 33 [bS true, bS false, bS true, iS 0, iS x.Case, .own 9 0 c9q1.length]), (7, .row 3 (fl c7q1)), (8, .row 92 (fl c8q1)), (9, .row 64 (fl c9q1))] 10 (by kernel_rfl) ?_
  refine wk_id ?_
  refine cond_sx h (by kernel_rfl) (fun g11917 h => ?_) (fun g11917 h => ?_)
  ·refine chk_sx h (fun g11910 h => ?_)
   refine seq_np ?_
   refine reg_f ?_
   have k11909 : 0 ≤ (0 : Int) ∧ (0 : Int) < ((c7q1.length : Nat) : Int) := by first | simpa only [Bool.and_eq_true, decide_eq_true_eq, bne_iff_ne, ne_eq] using g11910 | (simp at g11910 ⊢; omega)
   refine rs 8 [none, none, none, none, some ⟨.ptr 7 (0 + ((0 : Int)).toNat * 1), [], 10, [7]⟩, some ⟨iS (ix c7q1 (0 : Int)), [], 10, [7]⟩] _ (by kernel_rfl) (allP_cons (ob_ld c7q1 (0 : Int) 1 0 (0 + ((0 : Int)).toNat * 1) k11909 rfl (by decide) (by first | rfl | omega) (dflS Try.prog 3) (iS (ix c7q1 (0 : Int))) rfl 10 [7]) (allP_cons (ob_ix_o 7 c7q1.length 0 1 10 0 k11909) allP_nil)) ?_
   refine rf [(0, .ptr 0 0), (4, .ptr 5 0), (5, .ptr 6 0)] [(0, .row 57 [iS c0_Cap, .own 7 0 c7q1.length, bS c0_Closed, .own 8 0 c8q1.length, .own 3 0 c3.length]), (1, .dead), (2, .dead), (3, .row 92 (fl c3)), (4, .row 92 (Enc.cells x)), (5, .row 33 [bS false, bS false, bS false, iS 0, iS 0, .v (.slice none 0 0)]), (6, .row 33 [bS true, bS false, bS true, iS (ix c7q1 (0 : Int)), iS x.Case, .own 9 0 c9q1.length]), (7, .row 3 (fl c7q1)), (8, .row 92 (fl c8q1)), (9, .row 64 (fl c9q1))] 10 (by kernel_rfl) ?_
   refine wk_id ?_
   refine chk_sx h (fun g11914 h => ?_)
   refine seq_np ?_
   refine reg_f ?_
   have k11913 : 0 ≤ (1 : Int) ∧ (1 : Int) ≤ ((c7q1.length : Nat) : Int) ∧ ((c7q1.length : Nat) : Int) ≤ ((c7q1.length : Nat) : Int) := by first | simpa only [Bool.and_eq_true, decide_eq_true_eq, bne_iff_ne, ne_eq] using g11914 | (simp at g11914 ⊢; omega)
   refine rs 5 [] [] (by kernel_rfl) allP_nil ?_
   refine run_cutO c7q1 (some 66) 7 1 3 (1 : Int) ((c7q1.length : Nat) : Int) (by kernel_rfl) rfl k11913 ?_
   refine rs 3 [] [] (by kernel_rfl) allP_nil ?_
   refine rf [(4, .ptr 5 0), (5, .ptr 6 0)] [(0, .row 57 [iS c0_Cap, .own 10 0 (cut c7q1 (1 : Int) ((c7q1.length : Nat) : Int)).length, bS c0_Closed, .own 8 0 c8q1.length, .own 3 0 c3.length]), (1, .dead), (2, .dead), (3, .row 92 (fl c3)), (4, .row 92 (Enc.cells x)), (5, .row 33 [bS false, bS false, bS false, iS 0, iS 0, .v (.slice none 0 0)]), (6, .row 33 [bS true, bS false, bS true, iS (ix c7q1 (0 : Int)), iS x.Case, .own 9 0 c9q1.length]), (7, .dead), (8, .row 92 (fl c8q1)), (9, .row 64 (fl c9q1)), (10, .row 3 (fl (cut c7q1 (1 : Int) ((c7q1.length : Nat) : Int))))] 11 (by kernel_rfl) ?_
   refine wk_id ?_
   refine seq_np ?_
   refine reg_f ?_
   refine rs 2 [] [] (by kernel_rfl) allP_nil ?_
   refine rf [(4, .ptr 5 0)] [(0, .row 57 [iS c0_Cap, .own 10 0 (cut c7q1 (1 : Int) ((c7q1.length : Nat) : Int)).length, bS c0_Closed, .own 8 0 c8q1.length, .own 3 0 c3.length]), (1, .dead), (2, .dead), (3, .row 92 (fl c3)), (4, .row 92 (Enc.cells x)), (5, .row 33 [bS true, bS false, bS true, iS (ix c7q1 (0 : Int)), iS x.Case, .own 9 0 c9q1.length]), (6, .row 33 [bS true, bS false, bS true, iS (ix c7q1 (0 : Int)), iS x.Case, .own 9 0 c9q1.length]), (7, .dead), (8, .row 92 (fl c8q1)), (9, .row 64 (fl c9q1)), (10, .row 3 (fl (cut c7q1 (1 : Int) ((c7q1.length : Nat) : Int))))] 11 (by kernel_rfl) ?_
   refine wk_id ?_
   obtain rfl := Option.some.inj h
   refine ret_at (.agg [bS true, bS false, bS true, iS (ix c7q1 (0 : Int)), iS x.Case, .own 9 0 c9q1.length]) (by kernel_rfl) ?_
   exact ret_e [(0, 0), (3, 3), (4, 9), (5, 10), (6, 8)] [] (by simp only [push_cast, leL_flD, renL_flD, seval]) (by simp only [push_cast, leL_flD, renL_flD, seval]) rfl rfl rfl
  ·refine wk_id ?_
   refine seq_np ?_
   refine seq_np ?_
   refine reg_f ?_
   refine rs 4 [] [] (by kernel_rfl) allP_nil ?_
   refine rf [(3, .ptr 4 0), (4, .ptr 5 0), (73, bS c0_Closed)] [(0, .row 57 [iS c0_Cap, .own 7 0 c7q1.length, bS c0_Closed, .own 8 0 c8q1.length, .own 3 0 c3.length]), (1, .dead), (2, .dead), (3, .row 92 (fl c3)), (4, .row 92 (Enc.cells x)), (5, .row 33 [bS false, bS false, bS false, iS 0, iS 0, .v (.slice none 0 0)]), (6, .row 33 [bS true, bS false, bS true, iS 0, iS x.Case, .own 9 0 c9q1.length]), (7, .row 3 (fl c7q1)), (8, .row 92 (fl c8q1)), (9, .row 64 (fl c9q1))] 10 (by kernel_rfl) ?_
   refine wk_id ?_
   refine cond_sx h (by kernel_rfl) (fun g11916 h => ?_) (fun g11916 h => ?_)
   ·refine seq_np ?_
    refine reg_f ?_
    refine rs 4 [] [] (by kernel_rfl) allP_nil ?_
    refine rf [(4, .ptr 5 0)] [(0, .row 57 [iS c0_Cap, .own 7 0 c7q1.length, bS c0_Closed, .own 8 0 c8q1.length, .own 3 0 c3.length]), (1, .dead), (2, .dead), (3, .row 92 (fl c3)), (4, .row 92 (Enc.cells x)), (5, .row 33 [bS true, bS false, bS false, iS 0, iS x.Case, .v (.slice none 0 0)]), (6, .row 33 [bS true, bS false, bS true, iS 0, iS x.Case, .own 9 0 c9q1.length]), (7, .row 3 (fl c7q1)), (8, .row 92 (fl c8q1)), (9, .row 64 (fl c9q1))] 10 (by kernel_rfl) ?_
    refine wk_id ?_
    obtain rfl := Option.some.inj h
    refine ret_at (.agg [bS true, bS false, bS false, iS 0, iS x.Case, .v (.slice none 0 0)]) (by kernel_rfl) ?_
    exact ret_e [(0, 0), (3, 3), (5, 7), (6, 8)] [] (by simp only [push_cast, leL_flD, renL_flD, seval]) (by simp only [push_cast, leL_flD, renL_flD, seval]) rfl rfl rfl
   ·refine wk_id ?_
    refine seq_np ?_
    refine reg_f ?_
    refine rs 2 [] [] (by kernel_rfl) allP_nil ?_
    refine rf [(4, .ptr 5 0)] [(0, .row 57 [iS c0_Cap, .own 7 0 c7q1.length, bS c0_Closed, .own 8 0 c8q1.length, .own 3 0 c3.length]), (1, .dead), (2, .dead), (3, .row 92 (fl c3)), (4, .row 92 (Enc.cells x)), (5, .row 33 [bS false, bS false, bS false, iS 0, iS 0, .v (.slice none 0 0)]), (6, .row 33 [bS true, bS false, bS true, iS 0, iS x.Case, .own 9 0 c9q1.length]), (7, .row 3 (fl c7q1)), (8, .row 92 (fl c8q1)), (9, .row 64 (fl c9q1))] 10 (by kernel_rfl) ?_
    refine wk_id ?_
    obtain rfl := Option.some.inj h
    refine ret_at (.agg [bS false, bS false, bS false, iS 0, iS 0, .v (.slice none 0 0)]) (by kernel_rfl) ?_
    exact ret_e [(0, 0), (3, 3), (5, 7), (6, 8)] [] (by simp only [push_cast, leL_flD, renL_flD, seval]) (by simp only [push_cast, leL_flD, renL_flD, seval]) rfl rfl rfl

set_option maxRecDepth 100000 in
set_option maxHeartbeats 200000000 in
theorem pipe_Get_spec (p : Pipe) (task : Int) (xtry : Bool) (r : Int × Bool × Bool × Bool × Bool × Int × Int × Fault × (List Int) × (List GPost) × (List GPost) × (List GWake)) (h : pipe_Get p task xtry = some r) : SpecW Try.prog 38 [.agg (Enc.cells p), iS task, bS xtry] [] 0 (fun x h n => x = .tup [.agg [iS r.1, .own 0 0 r.2.2.2.2.2.2.2.2.1.length, bS r.2.1, .own 1 0 r.2.2.2.2.2.2.2.2.2.1.length, .own 2 0 r.2.2.2.2.2.2.2.2.2.2.1.length], .agg [bS r.2.2.1, bS r.2.2.2.1, bS r.2.2.2.2.1, iS r.2.2.2.2.2.1, iS r.2.2.2.2.2.2.1, .own 3 0 r.2.2.2.2.2.2.2.2.2.2.2.length], .agg (Enc.cells r.2.2.2.2.2.2.2.1)] ∧ h = [(0, .row 3 (fl r.2.2.2.2.2.2.2.2.1)), (1, .row 92 (fl r.2.2.2.2.2.2.2.2.2.1)), (2, .row 92 (fl r.2.2.2.2.2.2.2.2.2.2.1)), (3, .row 64 (fl r.2.2.2.2.2.2.2.2.2.2.2))] ∧ n = 4) := by
 unfold pipe_Get at h
 refine spec_of (draw_ok _) Try.func38 rfl (by decide) rfl (by kernel_rfl) ?_
 refine seq_np ?_
 refine reg_f ?_
 refine rs 4 [] [] (by kernel_rfl) allP_nil ?_
 refine rf [(1, iS task), (2, bS xtry), (3, .ptr 0 0), (6, .ptr 1 0), (7, .ptr 2 0), (8, .ptr 3 0)] [(0, .row 57 (Enc.cells p)), (1, .row 57 [iS 0, .v (.slice none 0 0), bS false, .v (.slice none 0 0), .v (.slice none 0 0)]), (2, .row 33 [bS false, bS false, bS false, iS 0, iS 0, .v (.slice none 0 0)]), (3, .row 29 [iS 0, iS 0])] 4 (by kernel_rfl) ?_
 refine wk_id ?_
 refine seq_np ?_
 refine seq_np ?_
 refine reg_f ?_
 refine rs 2 [] [] (by kernel_rfl) allP_nil ?_
 obtain ⟨r11929, hr11929, h⟩ := bind_sx h
 refine run_call 56 [.agg (Enc.cells p), iS task] (some 15) (by kernel_rfl) ?_
 refine call_0 (pipe_begin_spec p task r11929 hr11929) (by simp only [push_cast, leL_flD, renL_flD, seval]) (by simp only [push_cast, leL_flD, renL_flD, seval]) ?_
 refine back_f ?_
 refine rs 2 [] [] (by kernel_rfl) allP_nil ?_
 refine rf [(1, iS task), (2, bS xtry), (3, .ptr 0 0), (6, .ptr 1 0), (7, .ptr 2 0), (8, .ptr 3 0), (9, .ptr 4 0)] [(0, .row 57 (Enc.cells p)), (1, .row 57 [iS 0, .v (.slice none 0 0), bS false, .v (.slice none 0 0), .v (.slice none 0 0)]), (2, .row 33 [bS false, bS false, bS false, iS 0, iS 0, .v (.slice none 0 0)]), (3, .row 29 [iS 0, iS 0]), (4, .row 29 (Enc.cells r11929))] 5 (by kernel_rfl) ?_
 refine wk_id ?_
 refine seq_np ?_
 refine reg_f ?_
 refine rs 3 [] [] (by kernel_rfl) allP_nil ?_
 refine rf [(1, iS task), (2, bS xtry), (3, .ptr 0 0), (6, .ptr 1 0), (7, .ptr 2 0), (8, .ptr 3 0), (9, .ptr 4 0), (18, bS (r11929.Code != 0))] [(0, .row 57 (Enc.cells p)), (1, .row 57 [iS 0, .v (.slice none 0 0), bS false, .v (.slice none 0 0), .v (.slice none 0 0)]), (2, .row 33 [bS false, bS false, bS false, iS 0, iS 0, .v (.slice none 0 0)]), (3, .row 29 [iS 0, iS 0]), (4, .row 29 (Enc.cells r11929))] 5 (by kernel_rfl) ?_
 refine wk_id ?_
 refine cond_sx h (by kernel_rfl) (fun g11950 h => ?_) (fun g11950 h => ?_)
 ·refine seq_np ?_
  refine reg_t ?_
  refine rs 6 [] [] (by kernel_rfl) allP_nil ?_
  refine rt [(6, .ptr 1 0), (7, .ptr 2 0), (8, .ptr 3 0)] [(0, .row 57 (Enc.cells p)), (1, .row 57 [iS 0, .v (.slice none 0 0), bS false, .v (.slice none 0 0), .v (.slice none 0 0)]), (2, .row 33 [bS false, bS false, bS false, iS 0, iS 0, .v (.slice none 0 0)]), (3, .row 29 (Enc.cells r11929)), (4, .row 29 (Enc.cells r11929))] 11 follows (by kernel_rfl) ?_
  refine wk_id ?_
  obtain rfl := Option.some.inj h
  refine ret_at (.tup [.agg [iS 0, .v (.slice none 0 0), bS false, .v (.slice none 0 0), .v (.slice none 0 0)], .agg [bS false, bS false, bS false, iS 0, iS 0, .v (.slice none 0 0)], .agg (Enc.cells r11929)]) (by kernel_rfl) ?_
  exact ret_e [] [] (by simp only [push_cast, leL_flD, renL_flD, seval]) (by simp only [push_cast, leL_flD, renL_flD, seval]) rfl rfl rfl
 ·refine wk_id ?_
  refine seq_np ?_
  refine reg_f ?_
  refine rs 1 [] [] (by kernel_rfl) allP_nil ?_
  obtain ⟨r11931, hr11931, h⟩ := bind_sx h
  refine call_x (pipe_Copy_spec p r11931 hr11931) (args := [.agg (Enc.cells p)]) (dst := (some 23)) (by kernel_rfl) [(0, .row 57 (Enc.cells p)), (1, .row 57 [iS 0, .v (.slice none 0 0), bS false, .v (.slice none 0 0), .v (.slice none 0 0)]), (2, .row 33 [bS false, bS false, bS false, iS 0, iS 0, .v (.slice none 0 0)]), (3, .row 29 [iS 0, iS 0]), (4, .row 29 (Enc.cells r11929))] 5 (by kernel_rfl) [] [] (.agg [iS r11931.1, .own 5 0 r11931.2.2.1.length, bS r11931.2.1, .own 6 0 r11931.2.2.2.1.length, .own 7 0 r11931.2.2.2.2.length]) [(5, .row 3 (fl r11931.2.2.1)), (6, .row 92 (fl r11931.2.2.2.1)), (7, .row 92 (fl r11931.2.2.2.2))] (by simp only [push_cast, leL_flD, renL_flD, seval]) (by simp only [push_cast, leL_flD, renL_flD, seval]) (by kernel_rfl) (.inl rfl) (by simp only [push_cast, leL_flD, renL_flD, seval]) (by simp only [push_cast, leL_flD, renL_flD, seval]) ?_
  refine rs 2 [] [] (by kernel_rfl) allP_nil ?_
  refine rf [(1, iS task), (2, bS xtry), (6, .ptr 1 0), (7, .ptr 2 0), (8, .ptr 3 0), (10, .ptr 8 0)] [(0, .row 57 (Enc.cells p)), (1, .row 57 [iS 0, .v (.slice none 0 0), bS false, .v (.slice none 0 0), .v (.slice none 0 0)]), (2, .row 33 [bS false, bS false, bS false, iS 0, iS 0, .v (.slice none 0 0)]), (3, .row 29 [iS 0, iS 0]), (4, .row 29 (Enc.cells r11929)), (5, .row 3 (fl r11931.2.2.1)), (6, .row 92 (fl r11931.2.2.2.1)), (7, .row 92 (fl r11931.2.2.2.2)), (8, .row 57 [iS r11931.1, .own 5 0 r11931.2.2.1.length, bS r11931.2.1, .own 6 0 r11931.2.2.2.1.length, .own 7 0 r11931.2.2.2.2.length])] 9 (by kernel_rfl) ?_
  refine wk_id ?_
  refine seq_np ?_
  refine reg_f ?_
  refine rs 4 [] [] (by kernel_rfl) allP_nil ?_
  refine rf [(2, bS xtry), (6, .ptr 1 0), (7, .ptr 2 0), (8, .ptr 3 0), (10, .ptr 8 0), (11, .ptr 9 0)] [(0, .row 57 (Enc.cells p)), (1, .row 57 [iS 0, .v (.slice none 0 0), bS false, .v (.slice none 0 0), .v (.slice none 0 0)]), (2, .row 33 [bS false, bS false, bS false, iS 0, iS 0, .v (.slice none 0 0)]), (3, .row 29 [iS 0, iS 0]), (4, .row 29 (Enc.cells r11929)), (5, .row 3 (fl r11931.2.2.1)), (6, .row 92 (fl r11931.2.2.2.1)), (7, .row 92 (fl r11931.2.2.2.2)), (8, .row 57 [iS r11931.1, .own 5 0 r11931.2.2.1.length, bS r11931.2.1, .own 6 0 r11931.2.2.2.1.length, .own 7 0 r11931.2.2.2.2.length]), (9, .row 92 [iS task, iS 0, iS 0])] 10 (by kernel_rfl) ?_
  refine wk_id ?_
  refine seq_np ?_
  refine reg_f ?_
  refine rs 1 [] [] (by kernel_rfl) allP_nil ?_
  obtain ⟨r11934, hr11934, h⟩ := bind_sx h
  refine call_x (pipe_Got_2_spec (GPost.mk task 0 0) r11931.1 r11931.2.1 r11931.2.2.1 r11931.2.2.2.1 r11931.2.2.2.2 r11934 hr11934) (args := [.ptr 8 0, .agg [iS task, iS 0, iS 0]]) (dst := (some 27)) (by kernel_rfl) [(0, .row 57 (Enc.cells p)), (1, .row 57 [iS 0, .v (.slice none 0 0), bS false, .v (.slice none 0 0), .v (.slice none 0 0)]), (2, .row 33 [bS false, bS false, bS false, iS 0, iS 0, .v (.slice none 0 0)]), (3, .row 29 [iS 0, iS 0]), (4, .row 29 (Enc.cells r11929)), (5, .row 3 (fl r11931.2.2.1)), (6, .row 92 (fl r11931.2.2.2.1)), (7, .row 92 (fl r11931.2.2.2.2)), (8, .row 57 [iS r11931.1, .own 5 0 r11931.2.2.1.length, bS r11931.2.1, .own 6 0 r11931.2.2.2.1.length, .own 7 0 r11931.2.2.2.2.length]), (9, .row 92 [iS task, iS 0, iS 0])] 10 (by kernel_rfl) [(0, 8), (1, 5), (2, 6), (3, 7)] [] (.agg [bS r11934.1, bS r11934.2.1, bS r11934.2.2.1, iS r11934.2.2.2.1, iS r11934.2.2.2.2.1, .own 14 0 r11934.2.2.2.2.2.1.length]) [(8, .row 57 [iS r11934.2.2.2.2.2.2.1, .own 15 0 r11934.2.2.2.2.2.2.2.2.1.length, bS r11934.2.2.2.2.2.2.2.1, .own 16 0 r11934.2.2.2.2.2.2.2.2.2.1.length, .own 7 0 r11934.2.2.2.2.2.2.2.2.2.2.length]), (5, .dead), (6, .dead), (7, .row 92 (fl r11934.2.2.2.2.2.2.2.2.2.2)), (14, .row 64 (fl r11934.2.2.2.2.2.1)), (15, .row 3 (fl r11934.2.2.2.2.2.2.2.2.1)), (16, .row 92 (fl r11934.2.2.2.2.2.2.2.2.2.1)), (8, .dead), (5, .dead), (6, .dead), (7, .dead)] (by simp only [push_cast, leL_flD, renL_flD, seval]) (by simp only [push_cast, leL_flD, renL_flD, seval]) (by kernel_rfl) (.inl rfl) (by simp only [push_cast, leL_flD, renL_flD, seval]) (by simp only [push_cast, leL_flD, renL_flD, seval]) ?_
  refine rs 2 [] [] (by kernel_rfl) allP_nil ?_
  refine rf [(2, bS xtry), (6, .ptr 1 0), (7, .ptr 2 0), (8, .ptr 3 0), (10, .ptr 8 0), (11, .ptr 9 0), (12, .ptr 17 0)] [(0, .row 57 (Enc.cells p)), (1, .row 57 [iS 0, .v (.slice none 0 0), bS false, .v (.slice none 0 0), .v (.slice none 0 0)]), (2, .row 33 [bS false, bS false, bS false, iS 0, iS 0, .v (.slice none 0 0)]), (3, .row 29 [iS 0, iS 0]), (4, .row 29 (Enc.cells r11929)), (5, .dead), (6, .dead), (7, .row 92 (fl r11934.2.2.2.2.2.2.2.2.2.2)), (8, .row 57 [iS r11934.2.2.2.2.2.2.1, .own 15 0 r11934.2.2.2.2.2.2.2.2.1.length, bS r11934.2.2.2.2.2.2.2.1, .own 16 0 r11934.2.2.2.2.2.2.2.2.2.1.length, .own 7 0 r11934.2.2.2.2.2.2.2.2.2.2.length]), (9, .row 92 [iS task, iS 0, iS 0]), (14, .row 64 (fl r11934.2.2.2.2.2.1)), (15, .row 3 (fl r11934.2.2.2.2.2.2.2.2.1)), (16, .row 92 (fl r11934.2.2.2.2.2.2.2.2.2.1)), (17, .row 33 [bS r11934.1, bS r11934.2.1, bS r11934.2.2.1, iS r11934.2.2.2.1, iS r11934.2.2.2.2.1, .own 14 0 r11934.2.2.2.2.2.1.length])] 18 (by kernel_rfl) ?_
  refine wk_id ?_
  refine seq_cut (A := Int × Bool × Bool × Bool × Bool × Int × Int × (List Int) × (List GPost) × (List GPost) × (List GWake)) (fun a => ([(6, .ptr 0 0), (7, .ptr 1 0), (8, .ptr 2 0), (10, .ptr 3 0), (12, .ptr 4 0)], [(0, .row 57 [iS 0, .v (.slice none 0 0), bS false, .v (.slice none 0 0), .v (.slice none 0 0)]), (1, .row 33 [bS false, bS false, bS false, iS 0, iS 0, .v (.slice none 0 0)]), (2, .row 29 [iS 0, iS 0]), (3, .row 57 [iS a.1, .own 5 0 a.2.2.2.2.2.2.2.1.length, bS a.2.1, .own 6 0 a.2.2.2.2.2.2.2.2.1.length, .own 7 0 a.2.2.2.2.2.2.2.2.2.1.length]), (4, .row 33 [bS a.2.2.1, bS a.2.2.2.1, bS a.2.2.2.2.1, iS a.2.2.2.2.2.1, iS a.2.2.2.2.2.2.1, .own 8 0 a.2.2.2.2.2.2.2.2.2.2.length]), (5, .row 3 (fl a.2.2.2.2.2.2.2.1)), (6, .row 92 (fl a.2.2.2.2.2.2.2.2.1)), (7, .row 92 (fl a.2.2.2.2.2.2.2.2.2.1)), (8, .row 64 (fl a.2.2.2.2.2.2.2.2.2.2))], 9)) (fun a => (pipe_Get_j1 a.1 a.2.1 a.2.2.1 a.2.2.2.1 a.2.2.2.2.1 a.2.2.2.2.2.1 a.2.2.2.2.2.2.1 a.2.2.2.2.2.2.2.1 a.2.2.2.2.2.2.2.2.1 a.2.2.2.2.2.2.2.2.2.1 a.2.2.2.2.2.2.2.2.2.2) = some r) (fun K11941 hK11941 => ?_) ?_
  ·refine seq_cut (A := Unit) (fun _ => ([(6, .ptr 1 0), (7, .ptr 2 0), (8, .ptr 3 0), (10, .ptr 8 0), (11, .ptr 9 0), (12, .ptr 17 0), (34, bS ((!r11934.1) && (!xtry)))], [(0, .row 57 (Enc.cells p)), (1, .row 57 [iS 0, .v (.slice none 0 0), bS false, .v (.slice none 0 0), .v (.slice none 0 0)]), (2, .row 33 [bS false, bS false, bS false, iS 0, iS 0, .v (.slice none 0 0)]), (3, .row 29 [iS 0, iS 0]), (4, .row 29 (Enc.cells r11929)), (7, .row 92 (fl r11934.2.2.2.2.2.2.2.2.2.2)), (8, .row 57 [iS r11934.2.2.2.2.2.2.1, .own 15 0 r11934.2.2.2.2.2.2.2.2.1.length, bS r11934.2.2.2.2.2.2.2.1, .own 16 0 r11934.2.2.2.2.2.2.2.2.2.1.length, .own 7 0 r11934.2.2.2.2.2.2.2.2.2.2.length]), (9, .row 92 [iS task, iS 0, iS 0]), (14, .row 64 (fl r11934.2.2.2.2.2.1)), (15, .row 3 (fl r11934.2.2.2.2.2.2.2.2.1)), (16, .row 92 (fl r11934.2.2.2.2.2.2.2.2.2.1)), (17, .row 33 [bS r11934.1, bS r11934.2.1, bS r11934.2.2.1, iS r11934.2.2.2.1, iS r11934.2.2.2.2.1, .own 14 0 r11934.2.2.2.2.2.1.length])], 18)) (fun _ => True) (fun K11943 hK11943 => ?_) (fun _ _ => ?_)
   ·refine reg_f ?_
    refine rs 4 [] [] (by kernel_rfl) allP_nil ?_
    refine run_split 31 (!r11934.1) (.inl (by kernel_rfl)) (fun g11944 => ?_) (fun g11944 => ?_)
    ·refine rs 3 [] [] (by kernel_rfl) allP_nil ?_
     refine rf [(6, .ptr 1 0), (7, .ptr 2 0), (8, .ptr 3 0), (10, .ptr 8 0), (11, .ptr 9 0), (12, .ptr 17 0), (34, bS (!xtry))] [(0, .row 57 (Enc.cells p)), (1, .row 57 [iS 0, .v (.slice none 0 0), bS false, .v (.slice none 0 0), .v (.slice none 0 0)]), (2, .row 33 [bS false, bS false, bS false, iS 0, iS 0, .v (.slice none 0 0)]), (3, .row 29 [iS 0, iS 0]), (4, .row 29 (Enc.cells r11929)), (5, .dead), (6, .dead), (7, .row 92 (fl r11934.2.2.2.2.2.2.2.2.2.2)), (8, .row 57 [iS r11934.2.2.2.2.2.2.1, .own 15 0 r11934.2.2.2.2.2.2.2.2.1.length, bS r11934.2.2.2.2.2.2.2.1, .own 16 0 r11934.2.2.2.2.2.2.2.2.2.1.length, .own 7 0 r11934.2.2.2.2.2.2.2.2.2.2.length]), (9, .row 92 [iS task, iS 0, iS 0]), (14, .row 64 (fl r11934.2.2.2.2.2.1)), (15, .row 3 (fl r11934.2.2.2.2.2.2.2.2.1)), (16, .row 92 (fl r11934.2.2.2.2.2.2.2.2.2.1)), (17, .row 33 [bS r11934.1, bS r11934.2.1, bS r11934.2.2.1, iS r11934.2.2.2.1, iS r11934.2.2.2.2.1, .own 14 0 r11934.2.2.2.2.2.1.length])] 18 (by kernel_rfl) ?_
     exact hK11943 () _ _ _ trivial (leSt_m [(0, 0), (1, 1), (2, 2), (3, 3), (4, 4), (7, 7), (8, 8), (9, 9), (14, 14), (15, 15), (16, 16), (17, 17)] [] (by (try simp only [g11944]) <;> simp only [push_cast, leL_flD, renL_flD, seval]) (by (try simp only [g11944]) <;> simp only [push_cast, leL_flD, renL_flD, seval]) rfl rfl rfl)
    ·refine rs 3 [] [] (by kernel_rfl) allP_nil ?_
     refine rf [(6, .ptr 1 0), (7, .ptr 2 0), (8, .ptr 3 0), (10, .ptr 8 0), (11, .ptr 9 0), (12, .ptr 17 0), (34, bS false)] [(0, .row 57 (Enc.cells p)), (1, .row 57 [iS 0, .v (.slice none 0 0), bS false, .v (.slice none 0 0), .v (.slice none 0 0)]), (2, .row 33 [bS false, bS false, bS false, iS 0, iS 0, .v (.slice none 0 0)]), (3, .row 29 [iS 0, iS 0]), (4, .row 29 (Enc.cells r11929)), (5, .dead), (6, .dead), (7, .row 92 (fl r11934.2.2.2.2.2.2.2.2.2.2)), (8, .row 57 [iS r11934.2.2.2.2.2.2.1, .own 15 0 r11934.2.2.2.2.2.2.2.2.1.length, bS r11934.2.2.2.2.2.2.2.1, .own 16 0 r11934.2.2.2.2.2.2.2.2.2.1.length, .own 7 0 r11934.2.2.2.2.2.2.2.2.2.2.length]), (9, .row 92 [iS task, iS 0, iS 0]), (14, .row 64 (fl r11934.2.2.2.2.2.1)), (15, .row 3 (fl r11934.2.2.2.2.2.2.2.2.1)), (16, .row 92 (fl r11934.2.2.2.2.2.2.2.2.2.1)), (17, .row 33 [bS r11934.1, bS r11934.2.1, bS r11934.2.2.1, iS r11934.2.2.2.1, iS r11934.2.2.2.2.1, .own 14 0 r11934.2.2.2.2.2.1.length])] 18 (by kernel_rfl) ?_
     exact hK11943 () _ _ _ trivial (leSt_m [(0, 0), (1, 1), (2, 2), (3, 3), (4, 4), (7, 7), (8, 8), (9, 9), (14, 14), (15, 15), (16, 16), (17, 17)] [] (by (try simp only [g11944]) <;> simp only [push_cast, leL_flD, renL_flD, seval]) (by (try simp only [g11944]) <;> simp only [push_cast, leL_flD, renL_flD, seval]) rfl rfl rfl)
   ·dsimp only
    refine cond_sx h (by kernel_rfl) (fun g11949 h => ?_) (fun g11949 h => ?_)
    ·refine chk_sx h (fun g11948 h => ?_)
     refine reg_f ?_
     have k11947 : (r11934.2.2.2.2.2.2.2.2.2.2 ++ ([(GPost.mk task 0 0)] : List GPost)).length * 24 ≤ 140737488355328 := by first | simpa only [Bool.and_eq_true, decide_eq_true_eq, bne_iff_ne, ne_eq] using g11948 | (simp at g11948 ⊢; omega)
     refine rs 7 [none, none, none, none, some ⟨.own 19 0 (r11934.2.2.2.2.2.2.2.2.2.2 ++ ([(GPost.mk task 0 0)] : List GPost)).length, [(19, .row 92 (fl (r11934.2.2.2.2.2.2.2.2.2.2 ++ ([(GPost.mk task 0 0)] : List GPost)))), (7, .dead)], 20, [7, 18]⟩] _ (by kernel_rfl) (allP_cons (ob_app (P := Try.prog) r11934.2.2.2.2.2.2.2.2.2.2 ([(GPost.mk task 0 0)] : List GPost) 3 24 rfl (appCells (fl ([(GPost.mk task 0 0)] : List GPost)) 0 (([(GPost.mk task 0 0)] : List GPost).length * 3)) ([(GPost.mk task 0 0)] : List GPost).length (app_own ([(GPost.mk task 0 0)] : List GPost) 3 rfl) rfl (0 + ([(GPost.mk task 0 0)] : List GPost).length * 3 ≤ (fl ([(GPost.mk task 0 0)] : List GPost)).length) (app_own_le ([(GPost.mk task 0 0)] : List GPost) 3 rfl) 92 (by kernel_rfl) (by decide) k11947 7 19 [18]) allP_nil) ?_
     refine rf [(6, .ptr 1 0), (7, .ptr 2 0), (8, .ptr 3 0), (10, .ptr 8 0), (12, .ptr 17 0)] [(0, .row 57 (Enc.cells p)), (1, .row 57 [iS 0, .v (.slice none 0 0), bS false, .v (.slice none 0 0), .v (.slice none 0 0)]), (2, .row 33 [bS false, bS false, bS false, iS 0, iS 0, .v (.slice none 0 0)]), (3, .row 29 [iS 0, iS 0]), (4, .row 29 (Enc.cells r11929)), (7, .dead), (8, .row 57 [iS r11934.2.2.2.2.2.2.1, .own 15 0 r11934.2.2.2.2.2.2.2.2.1.length, bS r11934.2.2.2.2.2.2.2.1, .own 16 0 r11934.2.2.2.2.2.2.2.2.2.1.length, .own 19 0 (r11934.2.2.2.2.2.2.2.2.2.2 ++ ([(GPost.mk task 0 0)] : List GPost)).length]), (9, .row 92 [iS task, iS 0, iS 0]), (14, .row 64 (fl r11934.2.2.2.2.2.1)), (15, .row 3 (fl r11934.2.2.2.2.2.2.2.2.1)), (16, .row 92 (fl r11934.2.2.2.2.2.2.2.2.2.1)), (17, .row 33 [bS r11934.1, bS r11934.2.1, bS r11934.2.2.1, iS r11934.2.2.2.1, iS r11934.2.2.2.2.1, .own 14 0 r11934.2.2.2.2.2.1.length]), (18, .row 92 (fl ([(GPost.mk task 0 0)] : List GPost))), (19, .row 92 (fl (r11934.2.2.2.2.2.2.2.2.2.2 ++ ([(GPost.mk task 0 0)] : List GPost))))] 20 (by kernel_rfl) ?_
     exact hK11941 (r11934.2.2.2.2.2.2.1, r11934.2.2.2.2.2.2.2.1, r11934.1, r11934.2.1, r11934.2.2.1, r11934.2.2.2.1, r11934.2.2.2.2.1, r11934.2.2.2.2.2.2.2.2.1, r11934.2.2.2.2.2.2.2.2.2.1, (r11934.2.2.2.2.2.2.2.2.2.2 ++ ([(GPost.mk task 0 0)] : List GPost)), r11934.2.2.2.2.2.1) _ _ _ h (leSt_m [(0, 1), (1, 2), (2, 3), (3, 8), (4, 17), (5, 15), (6, 16), (7, 19), (8, 14)] [] (by simp only [push_cast, leL_flD, renL_flD, seval]) (by simp only [push_cast, leL_flD, renL_flD, seval]) rfl rfl rfl)
    ·exact hK11941 (r11934.2.2.2.2.2.2.1, r11934.2.2.2.2.2.2.2.1, r11934.1, r11934.2.1, r11934.2.2.1, r11934.2.2.2.1, r11934.2.2.2.2.1, r11934.2.2.2.2.2.2.2.2.1, r11934.2.2.2.2.2.2.2.2.2.1, r11934.2.2.2.2.2.2.2.2.2.2, r11934.2.2.2.2.2.1) _ _ _ h (leSt_m [(0, 1), (1, 2), (2, 3), (3, 8), (4, 17), (5, 15), (6, 16), (7, 7), (8, 14)] [] (by simp only [push_cast, leL_flD, renL_flD, seval]) (by simp only [push_cast, leL_flD, renL_flD, seval]) rfl rfl rfl)
  ·rintro ⟨c3_Cap1, c3_Closed1, c4_Done1, c4_Panic1, c4_Ok1, c4_Value1, c4_Case1, c5q1, c6q1, c7q1, c8q1⟩ h
   try dsimp only at h ⊢
   unfold pipe_Get_j1 at h
   refine seq_np ?_
   refine reg_t ?_
   refine rs 6 [] [] (by kernel_rfl) allP_nil ?_
   refine rt [(6, .ptr 0 0), (7, .ptr 1 0), (8, .ptr 2 0)] [(0, .row 57 [iS c3_Cap1, .own 5 0 c5q1.length, bS c3_Closed1, .own 6 0 c6q1.length, .own 7 0 c7q1.length]), (1, .row 33 [bS c4_Done1, bS c4_Panic1, bS c4_Ok1, iS c4_Value1, iS c4_Case1, .own 8 0 c8q1.length]), (2, .row 29 [iS 0, iS 0]), (3, .row 57 [iS c3_Cap1, .own 5 0 c5q1.length, bS c3_Closed1, .own 6 0 c6q1.length, .own 7 0 c7q1.length]), (4, .row 33 [bS c4_Done1, bS c4_Panic1, bS c4_Ok1, iS c4_Value1, iS c4_Case1, .own 8 0 c8q1.length]), (5, .row 3 (fl c5q1)), (6, .row 92 (fl c6q1)), (7, .row 92 (fl c7q1)), (8, .row 64 (fl c8q1))] 15 follows (by kernel_rfl) ?_
   refine wk_id ?_
   obtain rfl := Option.some.inj h
   refine ret_at (.tup [.agg [iS c3_Cap1, .own 5 0 c5q1.length, bS c3_Closed1, .own 6 0 c6q1.length, .own 7 0 c7q1.length], .agg [bS c4_Done1, bS c4_Panic1, bS c4_Ok1, iS c4_Value1, iS c4_Case1, .own 8 0 c8q1.length], .agg [iS 0, iS 0]]) (by kernel_rfl) ?_
   exact ret_e [(0, 5), (1, 6), (2, 7), (3, 8)] [] (by simp only [push_cast, leL_flD, renL_flD, seval]) (by simp only [push_cast, leL_flD, renL_flD, seval]) rfl rfl rfl

set_option maxRecDepth 100000 in
set_option maxHeartbeats 200000000 in
theorem pipe_Put_2_spec (x : GPost) (c0_Cap : Int) (c0_Closed : Bool) (c1 : (List Int)) (c2 : (List GPost)) (c3 : (List GPost)) (r : Bool × Bool × Bool × Int × Int × (List GWake) × Int × Bool × (List Int) × (List GPost) × (List GPost)) (h : pipe_Put_2 x c0_Cap c0_Closed c1 c2 c3 = some r) : SpecW Try.prog 59 [.ptr 0 0, .agg (Enc.cells x)] [(0, .row 57 [iS c0_Cap, .own 1 0 c1.length, bS c0_Closed, .own 2 0 c2.length, .own 3 0 c3.length]), (1, .row 3 (fl c1)), (2, .row 92 (fl c2)), (3, .row 92 (fl c3))] 4 (fun x h n => x = .agg [bS r.1, bS r.2.1, bS r.2.2.1, iS r.2.2.2.1, iS r.2.2.2.2.1, .own 4 0 r.2.2.2.2.2.1.length] ∧ h = [(0, .row 57 [iS r.2.2.2.2.2.2.1, .own 5 0 r.2.2.2.2.2.2.2.2.1.length, bS r.2.2.2.2.2.2.2.1, .own 2 0 r.2.2.2.2.2.2.2.2.2.2.length, .own 6 0 r.2.2.2.2.2.2.2.2.2.1.length]), (1, .dead), (2, .row 92 (fl r.2.2.2.2.2.2.2.2.2.2)), (3, .dead), (4, .row 64 (fl r.2.2.2.2.2.1)), (5, .row 3 (fl r.2.2.2.2.2.2.2.2.1)), (6, .row 92 (fl r.2.2.2.2.2.2.2.2.2.1))] ∧ n = 7) := by
 unfold pipe_Put_2 at h
 refine spec_of (draw_ok _) Try.func59 rfl (by decide) rfl (by kernel_rfl) ?_
 refine seq_np ?_
 refine reg_f ?_
 refine rs 2 [] [] (by kernel_rfl) allP_nil ?_
 refine rf [(0, .ptr 0 0), (3, .ptr 4 0), (4, .ptr 5 0)] [(0, .row 57 [iS c0_Cap, .own 1 0 c1.length, bS c0_Closed, .own 2 0 c2.length, .own 3 0 c3.length]), (1, .row 3 (fl c1)), (2, .row 92 (fl c2)), (3, .row 92 (fl c3)), (4, .row 92 (Enc.cells x)), (5, .row 33 [bS false, bS false, bS false, iS 0, iS 0, .v (.slice none 0 0)])] 6 (by kernel_rfl) ?_
 refine wk_id ?_
 refine seq_np ?_
 refine block_np ?_
 refine seq_np ?_
 refine reg_f ?_
 refine rs 5 [] [] (by kernel_rfl) allP_nil ?_
 refine rf [(0, .ptr 0 0), (3, .ptr 4 0), (4, .ptr 5 0), (6, bS c0_Closed)] [(0, .row 57 [iS c0_Cap, .own 1 0 c1.length, bS c0_Closed, .own 2 0 c2.length, .own 3 0 c3.length]), (1, .row 3 (fl c1)), (2, .row 92 (fl c2)), (3, .row 92 (fl c3)), (4, .row 92 (Enc.cells x)), (5, .row 33 [bS false, bS false, bS false, iS 0, iS 0, .v (.slice none 0 0)])] 6 (by kernel_rfl) ?_
 refine wk_id ?_
 refine cond_sx h (by kernel_rfl) (fun g12000 h => ?_) (fun g12000 h => ?_)
 ·refine seq_np ?_
  refine reg_f ?_
  refine rs 4 [] [] (by kernel_rfl) allP_nil ?_
  refine rf [(4, .ptr 5 0)] [(0, .row 57 [iS c0_Cap, .own 1 0 c1.length, bS c0_Closed, .own 2 0 c2.length, .own 3 0 c3.length]), (1, .row 3 (fl c1)), (2, .row 92 (fl c2)), (3, .row 92 (fl c3)), (4, .row 92 (Enc.cells x)), (5, .row 33 [bS true, bS true, bS false, iS 0, iS x.Case, .v (.slice none 0 0)])] 6 (by kernel_rfl) ?_
  refine wk_id ?_
  obtain rfl := Option.some.inj h
  refine ret_at (.agg [bS true, bS true, bS false, iS 0, iS x.Case, .v (.slice none 0 0)]) (by kernel_rfl) ?_
  exact ret_e [(0, 0), (2, 2), (5, 1), (6, 3)] [] (by simp only [push_cast, leL_flD, renL_flD, seval]) (by simp only [push_cast, leL_flD, renL_flD, seval]) rfl rfl rfl
 ·refine seq_np ?_
  refine reg_f ?_
  refine rs 7 [] [] (by kernel_rfl) allP_nil ?_
  refine rf [(0, .ptr 0 0), (3, .ptr 4 0), (4, .ptr 5 0), (14, bS (decide ((0 : Int) < ((c3.length : Nat) : Int))))] [(0, .row 57 [iS c0_Cap, .own 1 0 c1.length, bS c0_Closed, .own 2 0 c2.length, .own 3 0 c3.length]), (1, .row 3 (fl c1)), (2, .row 92 (fl c2)), (3, .row 92 (fl c3)), (4, .row 92 (Enc.cells x)), (5, .row 33 [bS false, bS false, bS false, iS 0, iS 0, .v (.slice none 0 0)])] 6 (by kernel_rfl) ?_
  refine wk_id ?_
  refine cond_sx h (by kernel_rfl) (fun g11999 h => ?_) (fun g11999 h => ?_)
  ·refine chk_sx h (fun g11989 h => ?_)
   refine seq_np ?_
   refine reg_f ?_
   have k11988 : 0 ≤ (0 : Int) ∧ (0 : Int) < ((c3.length : Nat) : Int) := by first | simpa only [Bool.and_eq_true, decide_eq_true_eq, bne_iff_ne, ne_eq] using g11989 | (simp at g11989 ⊢; omega)
   refine rs 8 [none, none, none, none, some ⟨.ptr 3 (0 + ((0 : Int)).toNat * 3), [], 6, [3]⟩, some ⟨.agg (Enc.cells (ix c3 (0 : Int))), [], 6, [3]⟩] _ (by kernel_rfl) (allP_cons (ob_ldw c3 (0 : Int) 3 (0 + ((0 : Int)).toNat * 3) k11988 rfl (by first | rfl | omega) [iS (ix c3 (0 : Int)).Task, iS (ix c3 (0 : Int)).Case, iS (ix c3 (0 : Int)).Value] rfl 6 [3]) (allP_cons (ob_ix_o 3 c3.length 0 3 6 0 k11988) allP_nil)) ?_
   refine rf [(0, .ptr 0 0), (3, .ptr 4 0), (4, .ptr 5 0), (5, .ptr 6 0)] [(0, .row 57 [iS c0_Cap, .own 1 0 c1.length, bS c0_Closed, .own 2 0 c2.length, .own 3 0 c3.length]), (1, .row 3 (fl c1)), (2, .row 92 (fl c2)), (3, .row 92 (fl c3)), (4, .row 92 (Enc.cells x)), (5, .row 33 [bS false, bS false, bS false, iS 0, iS 0, .v (.slice none 0 0)]), (6, .row 92 (Enc.cells (ix c3 (0 : Int))))] 7 (by kernel_rfl) ?_
   refine wk_id ?_
   refine chk_sx h (fun g11993 h => ?_)
   refine seq_np ?_
   refine reg_f ?_
   have k11992 : 0 ≤ (1 : Int) ∧ (1 : Int) ≤ ((c3.length : Nat) : Int) ∧ ((c3.length : Nat) : Int) ≤ ((c3.length : Nat) : Int) := by first | simpa only [Bool.and_eq_true, decide_eq_true_eq, bne_iff_ne, ne_eq] using g11993 | (simp at g11993 ⊢; omega)
   refine rs 5 [] [] (by kernel_rfl) allP_nil ?_
   refine run_cutO c3 (some 32) 3 3 92 (1 : Int) ((c3.length : Nat) : Int) (by kernel_rfl) rfl k11992 ?_
   refine rs 3 [] [] (by kernel_rfl) allP_nil ?_
   refine rf [(3, .ptr 4 0), (4, .ptr 5 0), (5, .ptr 6 0)] [(0, .row 57 [iS c0_Cap, .own 1 0 c1.length, bS c0_Closed, .own 2 0 c2.length, .own 7 0 (cut c3 (1 : Int) ((c3.length : Nat) : Int)).length]), (1, .row 3 (fl c1)), (2, .row 92 (fl c2)), (3, .dead), (4, .row 92 (Enc.cells x)), (5, .row 33 [bS false, bS false, bS false, iS 0, iS 0, .v (.slice none 0 0)]), (6, .row 92 (Enc.cells (ix c3 (0 : Int)))), (7, .row 92 (fl (cut c3 (1 : Int) ((c3.length : Nat) : Int))))] 8 (by kernel_rfl) ?_
   refine wk_id ?_
   refine seq_np ?_
   refine reg_f ?_
   refine rs 12 [] [] (by kernel_rfl) allP_nil ?_
   refine rf [(4, .ptr 5 0)] [(0, .row 57 [iS c0_Cap, .own 1 0 c1.length, bS c0_Closed, .own 2 0 c2.length, .own 7 0 (cut c3 (1 : Int) ((c3.length : Nat) : Int)).length]), (1, .row 3 (fl c1)), (2, .row 92 (fl c2)), (3, .dead), (4, .row 92 (Enc.cells x)), (5, .row 33 [bS true, bS false, bS false, iS 0, iS x.Case, .own 8 0 ([(GWake.mk (ix c3 (0 : Int)).Task (ix c3 (0 : Int)).Case x.Value true false)] : List GWake).length]), (6, .row 92 (Enc.cells (ix c3 (0 : Int)))), (7, .row 92 (fl (cut c3 (1 : Int) ((c3.length : Nat) : Int)))), (8, .row 64 (fl ([(GWake.mk (ix c3 (0 : Int)).Task (ix c3 (0 : Int)).Case x.Value true false)] : List GWake)))] 9 (by kernel_rfl) ?_
   refine wk_id ?_
   obtain rfl := Option.some.inj h
   refine ret_at (.agg [bS true, bS false, bS false, iS 0, iS x.Case, .own 8 0 ([(GWake.mk (ix c3 (0 : Int)).Task (ix c3 (0 : Int)).Case x.Value true false)] : List GWake).length]) (by kernel_rfl) ?_
   exact ret_e [(0, 0), (2, 2), (4, 8), (5, 1), (6, 7)] [] (by simp only [push_cast, leL_flD, renL_flD, seval]) (by simp only [push_cast, leL_flD, renL_flD, seval]) rfl rfl rfl
  ·refine seq_np ?_
   refine reg_t ?_
   refine rs 11 [] [] (by kernel_rfl) allP_nil ?_
   refine rt [(0, .ptr 0 0), (3, .ptr 4 0), (4, .ptr 5 0), (46, bS (decide (((c1.length : Nat) : Int) < c0_Cap)))] [(0, .row 57 [iS c0_Cap, .own 1 0 c1.length, bS c0_Closed, .own 2 0 c2.length, .own 3 0 c3.length]), (1, .row 3 (fl c1)), (2, .row 92 (fl c2)), (3, .row 92 (fl c3)), (4, .row 92 (Enc.cells x)), (5, .row 33 [bS false, bS false, bS false, iS 0, iS 0, .v (.slice none 0 0)])] 17 follows (by kernel_rfl) ?_
   refine wk_id ?_
   refine cond_sx h (by kernel_rfl) (fun g11998 h => ?_) (fun g11998 h => ?_)
   ·refine chk_sx h (fun g11997 h => ?_)
    refine seq_np ?_
    refine reg_t ?_
    have k11996 : (c1 ++ ([x.Value] : List Int)).length * 8 ≤ 140737488355328 := by first | simpa only [Bool.and_eq_true, decide_eq_true_eq, bne_iff_ne, ne_eq] using g11997 | (simp at g11997 ⊢; omega)
    refine rs 12 [none, none, none, none, none, none, none, none, some ⟨.own 26 0 (c1 ++ ([x.Value] : List Int)).length, [(26, .row 3 (fl (c1 ++ ([x.Value] : List Int)))), (1, .dead)], 27, [1, 24]⟩] _ (by kernel_rfl) (allP_cons (ob_app (P := Try.prog) c1 ([x.Value] : List Int) 1 8 rfl (appCells (fl ([x.Value] : List Int)) 0 (([x.Value] : List Int).length * 1)) ([x.Value] : List Int).length (app_own ([x.Value] : List Int) 1 rfl) rfl (0 + ([x.Value] : List Int).length * 1 ≤ (fl ([x.Value] : List Int)).length) (app_own_le ([x.Value] : List Int) 1 rfl) 3 (by kernel_rfl) (by decide) k11996 1 26 [24]) allP_nil) ?_
    refine rt [(3, .ptr 4 0), (4, .ptr 5 0)] [(0, .row 57 [iS c0_Cap, .own 26 0 (c1 ++ ([x.Value] : List Int)).length, bS c0_Closed, .own 2 0 c2.length, .own 3 0 c3.length]), (1, .dead), (2, .row 92 (fl c2)), (3, .row 92 (fl c3)), (4, .row 92 (Enc.cells x)), (5, .row 33 [bS false, bS false, bS false, iS 0, iS 0, .v (.slice none 0 0)]), (24, .row 3 (fl ([x.Value] : List Int))), (26, .row 3 (fl (c1 ++ ([x.Value] : List Int))))] 31 follows (by kernel_rfl) ?_
    refine wk_id ?_
    refine seq_np ?_
    refine reg_f ?_
    refine rs 4 [] [] (by kernel_rfl) allP_nil ?_
    refine rf [(4, .ptr 5 0)] [(0, .row 57 [iS c0_Cap, .own 26 0 (c1 ++ ([x.Value] : List Int)).length, bS c0_Closed, .own 2 0 c2.length, .own 3 0 c3.length]), (1, .dead), (2, .row 92 (fl c2)), (3, .row 92 (fl c3)), (4, .row 92 (Enc.cells x)), (5, .row 33 [bS true, bS false, bS false, iS 0, iS x.Case, .v (.slice none 0 0)]), (24, .row 3 (fl ([x.Value] : List Int))), (26, .row 3 (fl (c1 ++ ([x.Value] : List Int))))] 31 (by kernel_rfl) ?_
    refine wk_id ?_
    obtain rfl := Option.some.inj h
    refine ret_at (.agg [bS true, bS false, bS false, iS 0, iS x.Case, .v (.slice none 0 0)]) (by kernel_rfl) ?_
    exact ret_e [(0, 0), (2, 2), (5, 26), (6, 3)] [] (by simp only [push_cast, leL_flD, renL_flD, seval]) (by simp only [push_cast, leL_flD, renL_flD, seval]) rfl rfl rfl
   ·refine wk_id ?_
    refine wk_id ?_
    refine seq_np ?_
    refine reg_f ?_
    refine rs 2 [] [] (by kernel_rfl) allP_nil ?_
    refine rf [(4, .ptr 5 0)] [(0, .row 57 [iS c0_Cap, .own 1 0 c1.length, bS c0_Closed, .own 2 0 c2.length, .own 3 0 c3.length]), (1, .row 3 (fl c1)), (2, .row 92 (fl c2)), (3, .row 92 (fl c3)), (4, .row 92 (Enc.cells x)), (5, .row 33 [bS false, bS false, bS false, iS 0, iS 0, .v (.slice none 0 0)])] 17 (by kernel_rfl) ?_
    refine wk_id ?_
    obtain rfl := Option.some.inj h
    refine ret_at (.agg [bS false, bS false, bS false, iS 0, iS 0, .v (.slice none 0 0)]) (by kernel_rfl) ?_
    exact ret_e [(0, 0), (2, 2), (5, 1), (6, 3)] [] (by simp only [push_cast, leL_flD, renL_flD, seval]) (by simp only [push_cast, leL_flD, renL_flD, seval]) rfl rfl rfl

set_option maxRecDepth 100000 in
set_option maxHeartbeats 200000000 in
theorem pipe_Send_spec (p : Pipe) (task : Int) (value : Int) (xtry : Bool) (r : Int × Bool × Bool × Bool × Bool × Int × Int × Fault × (List Int) × (List GPost) × (List GPost) × (List GWake)) (h : pipe_Send p task value xtry = some r) : SpecW Try.prog 39 [.agg (Enc.cells p), iS task, iS value, bS xtry] [] 0 (fun x h n => x = .tup [.agg [iS r.1, .own 0 0 r.2.2.2.2.2.2.2.2.1.length, bS r.2.1, .own 1 0 r.2.2.2.2.2.2.2.2.2.1.length, .own 2 0 r.2.2.2.2.2.2.2.2.2.2.1.length], .agg [bS r.2.2.1, bS r.2.2.2.1, bS r.2.2.2.2.1, iS r.2.2.2.2.2.1, iS r.2.2.2.2.2.2.1, .own 3 0 r.2.2.2.2.2.2.2.2.2.2.2.length], .agg (Enc.cells r.2.2.2.2.2.2.2.1)] ∧ h = [(0, .row 3 (fl r.2.2.2.2.2.2.2.2.1)), (1, .row 92 (fl r.2.2.2.2.2.2.2.2.2.1)), (2, .row 92 (fl r.2.2.2.2.2.2.2.2.2.2.1)), (3, .row 64 (fl r.2.2.2.2.2.2.2.2.2.2.2))] ∧ n = 4) := by
 unfold pipe_Send at h
 refine spec_of (draw_ok _) Try.func39 rfl (by decide) rfl (by kernel_rfl) ?_
 refine seq_np ?_
 refine reg_f ?_
 refine rs 4 [] [] (by kernel_rfl) allP_nil ?_
 refine rf [(1, iS task), (2, iS value), (3, bS xtry), (4, .ptr 0 0), (8, .ptr 1 0), (9, .ptr 2 0), (10, .ptr 3 0)] [(0, .row 57 (Enc.cells p)), (1, .row 57 [iS 0, .v (.slice none 0 0), bS false, .v (.slice none 0 0), .v (.slice none 0 0)]), (2, .row 33 [bS false, bS false, bS false, iS 0, iS 0, .v (.slice none 0 0)]), (3, .row 29 [iS 0, iS 0])] 4 (by kernel_rfl) ?_
 refine wk_id ?_
 refine seq_np ?_
 refine seq_np ?_
 refine reg_f ?_
 refine rs 2 [] [] (by kernel_rfl) allP_nil ?_
 obtain ⟨r12012, hr12012, h⟩ := bind_sx h
 refine run_call 56 [.agg (Enc.cells p), iS task] (some 17) (by kernel_rfl) ?_
 refine call_0 (pipe_begin_spec p task r12012 hr12012) (by simp only [push_cast, leL_flD, renL_flD, seval]) (by simp only [push_cast, leL_flD, renL_flD, seval]) ?_
 refine back_f ?_
 refine rs 2 [] [] (by kernel_rfl) allP_nil ?_
 refine rf [(1, iS task), (2, iS value), (3, bS xtry), (4, .ptr 0 0), (8, .ptr 1 0), (9, .ptr 2 0), (10, .ptr 3 0), (11, .ptr 4 0)] [(0, .row 57 (Enc.cells p)), (1, .row 57 [iS 0, .v (.slice none 0 0), bS false, .v (.slice none 0 0), .v (.slice none 0 0)]), (2, .row 33 [bS false, bS false, bS false, iS 0, iS 0, .v (.slice none 0 0)]), (3, .row 29 [iS 0, iS 0]), (4, .row 29 (Enc.cells r12012))] 5 (by kernel_rfl) ?_
 refine wk_id ?_
 refine seq_np ?_
 refine reg_f ?_
 refine rs 3 [] [] (by kernel_rfl) allP_nil ?_
 refine rf [(1, iS task), (2, iS value), (3, bS xtry), (4, .ptr 0 0), (8, .ptr 1 0), (9, .ptr 2 0), (10, .ptr 3 0), (11, .ptr 4 0), (20, bS (r12012.Code != 0))] [(0, .row 57 (Enc.cells p)), (1, .row 57 [iS 0, .v (.slice none 0 0), bS false, .v (.slice none 0 0), .v (.slice none 0 0)]), (2, .row 33 [bS false, bS false, bS false, iS 0, iS 0, .v (.slice none 0 0)]), (3, .row 29 [iS 0, iS 0]), (4, .row 29 (Enc.cells r12012))] 5 (by kernel_rfl) ?_
 refine wk_id ?_
 refine cond_sx h (by kernel_rfl) (fun g12033 h => ?_) (fun g12033 h => ?_)
 ·refine seq_np ?_
  refine reg_t ?_
  refine rs 6 [] [] (by kernel_rfl) allP_nil ?_
  refine rt [(8, .ptr 1 0), (9, .ptr 2 0), (10, .ptr 3 0)] [(0, .row 57 (Enc.cells p)), (1, .row 57 [iS 0, .v (.slice none 0 0), bS false, .v (.slice none 0 0), .v (.slice none 0 0)]), (2, .row 33 [bS false, bS false, bS false, iS 0, iS 0, .v (.slice none 0 0)]), (3, .row 29 (Enc.cells r12012)), (4, .row 29 (Enc.cells r12012))] 11 follows (by kernel_rfl) ?_
  refine wk_id ?_
  obtain rfl := Option.some.inj h
  refine ret_at (.tup [.agg [iS 0, .v (.slice none 0 0), bS false, .v (.slice none 0 0), .v (.slice none 0 0)], .agg [bS false, bS false, bS false, iS 0, iS 0, .v (.slice none 0 0)], .agg (Enc.cells r12012)]) (by kernel_rfl) ?_
  exact ret_e [] [] (by simp only [push_cast, leL_flD, renL_flD, seval]) (by simp only [push_cast, leL_flD, renL_flD, seval]) rfl rfl rfl
 ·refine wk_id ?_
  refine seq_np ?_
  refine reg_f ?_
  refine rs 1 [] [] (by kernel_rfl) allP_nil ?_
  obtain ⟨r12014, hr12014, h⟩ := bind_sx h
  refine call_x (pipe_Copy_spec p r12014 hr12014) (args := [.agg (Enc.cells p)]) (dst := (some 25)) (by kernel_rfl) [(0, .row 57 (Enc.cells p)), (1, .row 57 [iS 0, .v (.slice none 0 0), bS false, .v (.slice none 0 0), .v (.slice none 0 0)]), (2, .row 33 [bS false, bS false, bS false, iS 0, iS 0, .v (.slice none 0 0)]), (3, .row 29 [iS 0, iS 0]), (4, .row 29 (Enc.cells r12012))] 5 (by kernel_rfl) [] [] (.agg [iS r12014.1, .own 5 0 r12014.2.2.1.length, bS r12014.2.1, .own 6 0 r12014.2.2.2.1.length, .own 7 0 r12014.2.2.2.2.length]) [(5, .row 3 (fl r12014.2.2.1)), (6, .row 92 (fl r12014.2.2.2.1)), (7, .row 92 (fl r12014.2.2.2.2))] (by simp only [push_cast, leL_flD, renL_flD, seval]) (by simp only [push_cast, leL_flD, renL_flD, seval]) (by kernel_rfl) (.inl rfl) (by simp only [push_cast, leL_flD, renL_flD, seval]) (by simp only [push_cast, leL_flD, renL_flD, seval]) ?_
  refine rs 2 [] [] (by kernel_rfl) allP_nil ?_
  refine rf [(1, iS task), (2, iS value), (3, bS xtry), (8, .ptr 1 0), (9, .ptr 2 0), (10, .ptr 3 0), (12, .ptr 8 0)] [(0, .row 57 (Enc.cells p)), (1, .row 57 [iS 0, .v (.slice none 0 0), bS false, .v (.slice none 0 0), .v (.slice none 0 0)]), (2, .row 33 [bS false, bS false, bS false, iS 0, iS 0, .v (.slice none 0 0)]), (3, .row 29 [iS 0, iS 0]), (4, .row 29 (Enc.cells r12012)), (5, .row 3 (fl r12014.2.2.1)), (6, .row 92 (fl r12014.2.2.2.1)), (7, .row 92 (fl r12014.2.2.2.2)), (8, .row 57 [iS r12014.1, .own 5 0 r12014.2.2.1.length, bS r12014.2.1, .own 6 0 r12014.2.2.2.1.length, .own 7 0 r12014.2.2.2.2.length])] 9 (by kernel_rfl) ?_
  refine wk_id ?_
  refine seq_np ?_
  refine reg_f ?_
  refine rs 5 [] [] (by kernel_rfl) allP_nil ?_
  refine rf [(3, bS xtry), (8, .ptr 1 0), (9, .ptr 2 0), (10, .ptr 3 0), (12, .ptr 8 0), (13, .ptr 9 0)] [(0, .row 57 (Enc.cells p)), (1, .row 57 [iS 0, .v (.slice none 0 0), bS false, .v (.slice none 0 0), .v (.slice none 0 0)]), (2, .row 33 [bS false, bS false, bS false, iS 0, iS 0, .v (.slice none 0 0)]), (3, .row 29 [iS 0, iS 0]), (4, .row 29 (Enc.cells r12012)), (5, .row 3 (fl r12014.2.2.1)), (6, .row 92 (fl r12014.2.2.2.1)), (7, .row 92 (fl r12014.2.2.2.2)), (8, .row 57 [iS r12014.1, .own 5 0 r12014.2.2.1.length, bS r12014.2.1, .own 6 0 r12014.2.2.2.1.length, .own 7 0 r12014.2.2.2.2.length]), (9, .row 92 [iS task, iS 0, iS value])] 10 (by kernel_rfl) ?_
  refine wk_id ?_
  refine seq_np ?_
  refine reg_f ?_
  refine rs 1 [] [] (by kernel_rfl) allP_nil ?_
  obtain ⟨r12017, hr12017, h⟩ := bind_sx h
  refine call_x (pipe_Put_2_spec (GPost.mk task 0 value) r12014.1 r12014.2.1 r12014.2.2.1 r12014.2.2.2.1 r12014.2.2.2.2 r12017 hr12017) (args := [.ptr 8 0, .agg [iS task, iS 0, iS value]]) (dst := (some 30)) (by kernel_rfl) [(0, .row 57 (Enc.cells p)), (1, .row 57 [iS 0, .v (.slice none 0 0), bS false, .v (.slice none 0 0), .v (.slice none 0 0)]), (2, .row 33 [bS false, bS false, bS false, iS 0, iS 0, .v (.slice none 0 0)]), (3, .row 29 [iS 0, iS 0]), (4, .row 29 (Enc.cells r12012)), (5, .row 3 (fl r12014.2.2.1)), (6, .row 92 (fl r12014.2.2.2.1)), (7, .row 92 (fl r12014.2.2.2.2)), (8, .row 57 [iS r12014.1, .own 5 0 r12014.2.2.1.length, bS r12014.2.1, .own 6 0 r12014.2.2.2.1.length, .own 7 0 r12014.2.2.2.2.length]), (9, .row 92 [iS task, iS 0, iS value])] 10 (by kernel_rfl) [(0, 8), (1, 5), (2, 6), (3, 7)] [] (.agg [bS r12017.1, bS r12017.2.1, bS r12017.2.2.1, iS r12017.2.2.2.1, iS r12017.2.2.2.2.1, .own 14 0 r12017.2.2.2.2.2.1.length]) [(8, .row 57 [iS r12017.2.2.2.2.2.2.1, .own 15 0 r12017.2.2.2.2.2.2.2.2.1.length, bS r12017.2.2.2.2.2.2.2.1, .own 6 0 r12017.2.2.2.2.2.2.2.2.2.2.length, .own 16 0 r12017.2.2.2.2.2.2.2.2.2.1.length]), (5, .dead), (6, .row 92 (fl r12017.2.2.2.2.2.2.2.2.2.2)), (7, .dead), (14, .row 64 (fl r12017.2.2.2.2.2.1)), (15, .row 3 (fl r12017.2.2.2.2.2.2.2.2.1)), (16, .row 92 (fl r12017.2.2.2.2.2.2.2.2.2.1)), (8, .dead), (5, .dead), (6, .dead), (7, .dead)] (by simp only [push_cast, leL_flD, renL_flD, seval]) (by simp only [push_cast, leL_flD, renL_flD, seval]) (by kernel_rfl) (.inl rfl) (by simp only [push_cast, leL_flD, renL_flD, seval]) (by simp only [push_cast, leL_flD, renL_flD, seval]) ?_
  refine rs 2 [] [] (by kernel_rfl) allP_nil ?_
  refine rf [(3, bS xtry), (8, .ptr 1 0), (9, .ptr 2 0), (10, .ptr 3 0), (12, .ptr 8 0), (13, .ptr 9 0), (14, .ptr 17 0)] [(0, .row 57 (Enc.cells p)), (1, .row 57 [iS 0, .v (.slice none 0 0), bS false, .v (.slice none 0 0), .v (.slice none 0 0)]), (2, .row 33 [bS false, bS false, bS false, iS 0, iS 0, .v (.slice none 0 0)]), (3, .row 29 [iS 0, iS 0]), (4, .row 29 (Enc.cells r12012)), (5, .dead), (6, .row 92 (fl r12017.2.2.2.2.2.2.2.2.2.2)), (7, .dead), (8, .row 57 [iS r12017.2.2.2.2.2.2.1, .own 15 0 r12017.2.2.2.2.2.2.2.2.1.length, bS r12017.2.2.2.2.2.2.2.1, .own 6 0 r12017.2.2.2.2.2.2.2.2.2.2.length, .own 16 0 r12017.2.2.2.2.2.2.2.2.2.1.length]), (9, .row 92 [iS task, iS 0, iS value]), (14, .row 64 (fl r12017.2.2.2.2.2.1)), (15, .row 3 (fl r12017.2.2.2.2.2.2.2.2.1)), (16, .row 92 (fl r12017.2.2.2.2.2.2.2.2.2.1)), (17, .row 33 [bS r12017.1, bS r12017.2.1, bS r12017.2.2.1, iS r12017.2.2.2.1, iS r12017.2.2.2.2.1, .own 14 0 r12017.2.2.2.2.2.1.length])] 18 (by kernel_rfl) ?_
  refine wk_id ?_
  refine seq_cut (A := Int × Bool × Bool × Bool × Bool × Int × Int × (List Int) × (List GPost) × (List GPost) × (List GWake)) (fun a => ([(8, .ptr 0 0), (9, .ptr 1 0), (10, .ptr 2 0), (12, .ptr 3 0), (14, .ptr 4 0)], [(0, .row 57 [iS 0, .v (.slice none 0 0), bS false, .v (.slice none 0 0), .v (.slice none 0 0)]), (1, .row 33 [bS false, bS false, bS false, iS 0, iS 0, .v (.slice none 0 0)]), (2, .row 29 [iS 0, iS 0]), (3, .row 57 [iS a.1, .own 5 0 a.2.2.2.2.2.2.2.1.length, bS a.2.1, .own 6 0 a.2.2.2.2.2.2.2.2.1.length, .own 7 0 a.2.2.2.2.2.2.2.2.2.1.length]), (4, .row 33 [bS a.2.2.1, bS a.2.2.2.1, bS a.2.2.2.2.1, iS a.2.2.2.2.2.1, iS a.2.2.2.2.2.2.1, .own 8 0 a.2.2.2.2.2.2.2.2.2.2.length]), (5, .row 3 (fl a.2.2.2.2.2.2.2.1)), (6, .row 92 (fl a.2.2.2.2.2.2.2.2.1)), (7, .row 92 (fl a.2.2.2.2.2.2.2.2.2.1)), (8, .row 64 (fl a.2.2.2.2.2.2.2.2.2.2))], 9)) (fun a => (pipe_Send_j1 a.1 a.2.1 a.2.2.1 a.2.2.2.1 a.2.2.2.2.1 a.2.2.2.2.2.1 a.2.2.2.2.2.2.1 a.2.2.2.2.2.2.2.1 a.2.2.2.2.2.2.2.2.1 a.2.2.2.2.2.2.2.2.2.1 a.2.2.2.2.2.2.2.2.2.2) = some r) (fun K12024 hK12024 => ?_) ?_
  ·refine seq_cut (A := Unit) (fun _ => ([(8, .ptr 1 0), (9, .ptr 2 0), (10, .ptr 3 0), (12, .ptr 8 0), (13, .ptr 9 0), (14, .ptr 17 0), (37, bS ((!r12017.1) && (!xtry)))], [(0, .row 57 (Enc.cells p)), (1, .row 57 [iS 0, .v (.slice none 0 0), bS false, .v (.slice none 0 0), .v (.slice none 0 0)]), (2, .row 33 [bS false, bS false, bS false, iS 0, iS 0, .v (.slice none 0 0)]), (3, .row 29 [iS 0, iS 0]), (4, .row 29 (Enc.cells r12012)), (6, .row 92 (fl r12017.2.2.2.2.2.2.2.2.2.2)), (8, .row 57 [iS r12017.2.2.2.2.2.2.1, .own 15 0 r12017.2.2.2.2.2.2.2.2.1.length, bS r12017.2.2.2.2.2.2.2.1, .own 6 0 r12017.2.2.2.2.2.2.2.2.2.2.length, .own 16 0 r12017.2.2.2.2.2.2.2.2.2.1.length]), (9, .row 92 [iS task, iS 0, iS value]), (14, .row 64 (fl r12017.2.2.2.2.2.1)), (15, .row 3 (fl r12017.2.2.2.2.2.2.2.2.1)), (16, .row 92 (fl r12017.2.2.2.2.2.2.2.2.2.1)), (17, .row 33 [bS r12017.1, bS r12017.2.1, bS r12017.2.2.1, iS r12017.2.2.2.1, iS r12017.2.2.2.2.1, .own 14 0 r12017.2.2.2.2.2.1.length])], 18)) (fun _ => True) (fun K12026 hK12026 => ?_) (fun _ _ => ?_)
   ·refine reg_f ?_
    refine rs 4 [] [] (by kernel_rfl) allP_nil ?_
    refine run_split 34 (!r12017.1) (.inl (by kernel_rfl)) (fun g12027 => ?_) (fun g12027 => ?_)
    ·refine rs 3 [] [] (by kernel_rfl) allP_nil ?_
     refine rf [(8, .ptr 1 0), (9, .ptr 2 0), (10, .ptr 3 0), (12, .ptr 8 0), (13, .ptr 9 0), (14, .ptr 17 0), (37, bS (!xtry))] [(0, .row 57 (Enc.cells p)), (1, .row 57 [iS 0, .v (.slice none 0 0), bS false, .v (.slice none 0 0), .v (.slice none 0 0)]), (2, .row 33 [bS false, bS false, bS false, iS 0, iS 0, .v (.slice none 0 0)]), (3, .row 29 [iS 0, iS 0]), (4, .row 29 (Enc.cells r12012)), (5, .dead), (6, .row 92 (fl r12017.2.2.2.2.2.2.2.2.2.2)), (7, .dead), (8, .row 57 [iS r12017.2.2.2.2.2.2.1, .own 15 0 r12017.2.2.2.2.2.2.2.2.1.length, bS r12017.2.2.2.2.2.2.2.1, .own 6 0 r12017.2.2.2.2.2.2.2.2.2.2.length, .own 16 0 r12017.2.2.2.2.2.2.2.2.2.1.length]), (9, .row 92 [iS task, iS 0, iS value]), (14, .row 64 (fl r12017.2.2.2.2.2.1)), (15, .row 3 (fl r12017.2.2.2.2.2.2.2.2.1)), (16, .row 92 (fl r12017.2.2.2.2.2.2.2.2.2.1)), (17, .row 33 [bS r12017.1, bS r12017.2.1, bS r12017.2.2.1, iS r12017.2.2.2.1, iS r12017.2.2.2.2.1, .own 14 0 r12017.2.2.2.2.2.1.length])] 18 (by kernel_rfl) ?_
     exact hK12026 () _ _ _ trivial (leSt_m [(0, 0), (1, 1), (2, 2), (3, 3), (4, 4), (6, 6), (8, 8), (9, 9), (14, 14), (15, 15), (16, 16), (17, 17)] [] (by (try simp only [g12027]) <;> simp only [push_cast, leL_flD, renL_flD, seval]) (by (try simp only [g12027]) <;> simp only [push_cast, leL_flD, renL_flD, seval]) rfl rfl rfl)
    ·refine rs 3 [] [] (by kernel_rfl) allP_nil ?_
     refine rf [(8, .ptr 1 0), (9, .ptr 2 0), (10, .ptr 3 0), (12, .ptr 8 0), (13, .ptr 9 0), (14, .ptr 17 0), (37, bS false)] [(0, .row 57 (Enc.cells p)), (1, .row 57 [iS 0, .v (.slice none 0 0), bS false, .v (.slice none 0 0), .v (.slice none 0 0)]), (2, .row 33 [bS false, bS false, bS false, iS 0, iS 0, .v (.slice none 0 0)]), (3, .row 29 [iS 0, iS 0]), (4, .row 29 (Enc.cells r12012)), (5, .dead), (6, .row 92 (fl r12017.2.2.2.2.2.2.2.2.2.2)), (7, .dead), (8, .row 57 [iS r12017.2.2.2.2.2.2.1, .own 15 0 r12017.2.2.2.2.2.2.2.2.1.length, bS r12017.2.2.2.2.2.2.2.1, .own 6 0 r12017.2.2.2.2.2.2.2.2.2.2.length, .own 16 0 r12017.2.2.2.2.2.2.2.2.2.1.length]), (9, .row 92 [iS task, iS 0, iS value]), (14, .row 64 (fl r12017.2.2.2.2.2.1)), (15, .row 3 (fl r12017.2.2.2.2.2.2.2.2.1)), (16, .row 92 (fl r12017.2.2.2.2.2.2.2.2.2.1)), (17, .row 33 [bS r12017.1, bS r12017.2.1, bS r12017.2.2.1, iS r12017.2.2.2.1, iS r12017.2.2.2.2.1, .own 14 0 r12017.2.2.2.2.2.1.length])] 18 (by kernel_rfl) ?_
     exact hK12026 () _ _ _ trivial (leSt_m [(0, 0), (1, 1), (2, 2), (3, 3), (4, 4), (6, 6), (8, 8), (9, 9), (14, 14), (15, 15), (16, 16), (17, 17)] [] (by (try simp only [g12027]) <;> simp only [push_cast, leL_flD, renL_flD, seval]) (by (try simp only [g12027]) <;> simp only [push_cast, leL_flD, renL_flD, seval]) rfl rfl rfl)
   ·dsimp only
    refine cond_sx h (by kernel_rfl) (fun g12032 h => ?_) (fun g12032 h => ?_)
    ·refine chk_sx h (fun g12031 h => ?_)
     refine reg_f ?_
     have k12030 : (r12017.2.2.2.2.2.2.2.2.2.2 ++ ([(GPost.mk task 0 value)] : List GPost)).length * 24 ≤ 140737488355328 := by first | simpa only [Bool.and_eq_true, decide_eq_true_eq, bne_iff_ne, ne_eq] using g12031 | (simp at g12031 ⊢; omega)
     refine rs 7 [none, none, none, none, some ⟨.own 19 0 (r12017.2.2.2.2.2.2.2.2.2.2 ++ ([(GPost.mk task 0 value)] : List GPost)).length, [(19, .row 92 (fl (r12017.2.2.2.2.2.2.2.2.2.2 ++ ([(GPost.mk task 0 value)] : List GPost)))), (6, .dead)], 20, [6, 18]⟩] _ (by kernel_rfl) (allP_cons (ob_app (P := Try.prog) r12017.2.2.2.2.2.2.2.2.2.2 ([(GPost.mk task 0 value)] : List GPost) 3 24 rfl (appCells (fl ([(GPost.mk task 0 value)] : List GPost)) 0 (([(GPost.mk task 0 value)] : List GPost).length * 3)) ([(GPost.mk task 0 value)] : List GPost).length (app_own ([(GPost.mk task 0 value)] : List GPost) 3 rfl) rfl (0 + ([(GPost.mk task 0 value)] : List GPost).length * 3 ≤ (fl ([(GPost.mk task 0 value)] : List GPost)).length) (app_own_le ([(GPost.mk task 0 value)] : List GPost) 3 rfl) 92 (by kernel_rfl) (by decide) k12030 6 19 [18]) allP_nil) ?_
     refine rf [(8, .ptr 1 0), (9, .ptr 2 0), (10, .ptr 3 0), (12, .ptr 8 0), (14, .ptr 17 0)] [(0, .row 57 (Enc.cells p)), (1, .row 57 [iS 0, .v (.slice none 0 0), bS false, .v (.slice none 0 0), .v (.slice none 0 0)]), (2, .row 33 [bS false, bS false, bS false, iS 0, iS 0, .v (.slice none 0 0)]), (3, .row 29 [iS 0, iS 0]), (4, .row 29 (Enc.cells r12012)), (6, .dead), (8, .row 57 [iS r12017.2.2.2.2.2.2.1, .own 15 0 r12017.2.2.2.2.2.2.2.2.1.length, bS r12017.2.2.2.2.2.2.2.1, .own 19 0 (r12017.2.2.2.2.2.2.2.2.2.2 ++ ([(GPost.mk task 0 value)] : List GPost)).length, .own 16 0 r12017.2.2.2.2.2.2.2.2.2.1.length]), (9, .row 92 [iS task, iS 0, iS value]), (14, .row 64 (fl r12017.2.2.2.2.2.1)), (15, .row 3 (fl r12017.2.2.2.2.2.2.2.2.1)), (16, .row 92 (fl r12017.2.2.2.2.2.2.2.2.2.1)), (17, .row 33 [bS r12017.1, bS r12017.2.1, bS r12017.2.2.1, iS r12017.2.2.2.1, iS r12017.2.2.2.2.1, .own 14 0 r12017.2.2.2.2.2.1.length]), (18, .row 92 (fl ([(GPost.mk task 0 value)] : List GPost))), (19, .row 92 (fl (r12017.2.2.2.2.2.2.2.2.2.2 ++ ([(GPost.mk task 0 value)] : List GPost))))] 20 (by kernel_rfl) ?_
     exact hK12024 (r12017.2.2.2.2.2.2.1, r12017.2.2.2.2.2.2.2.1, r12017.1, r12017.2.1, r12017.2.2.1, r12017.2.2.2.1, r12017.2.2.2.2.1, r12017.2.2.2.2.2.2.2.2.1, (r12017.2.2.2.2.2.2.2.2.2.2 ++ ([(GPost.mk task 0 value)] : List GPost)), r12017.2.2.2.2.2.2.2.2.2.1, r12017.2.2.2.2.2.1) _ _ _ h (leSt_m [(0, 1), (1, 2), (2, 3), (3, 8), (4, 17), (5, 15), (6, 19), (7, 16), (8, 14)] [] (by simp only [push_cast, leL_flD, renL_flD, seval]) (by simp only [push_cast, leL_flD, renL_flD, seval]) rfl rfl rfl)
    ·exact hK12024 (r12017.2.2.2.2.2.2.1, r12017.2.2.2.2.2.2.2.1, r12017.1, r12017.2.1, r12017.2.2.1, r12017.2.2.2.1, r12017.2.2.2.2.1, r12017.2.2.2.2.2.2.2.2.1, r12017.2.2.2.2.2.2.2.2.2.2, r12017.2.2.2.2.2.2.2.2.2.1, r12017.2.2.2.2.2.1) _ _ _ h (leSt_m [(0, 1), (1, 2), (2, 3), (3, 8), (4, 17), (5, 15), (6, 6), (7, 16), (8, 14)] [] (by simp only [push_cast, leL_flD, renL_flD, seval]) (by simp only [push_cast, leL_flD, renL_flD, seval]) rfl rfl rfl)
  ·rintro ⟨c3_Cap1, c3_Closed1, c4_Done1, c4_Panic1, c4_Ok1, c4_Value1, c4_Case1, c5q1, c6q1, c7q1, c8q1⟩ h
   try dsimp only at h ⊢
   unfold pipe_Send_j1 at h
   refine seq_np ?_
   refine reg_t ?_
   refine rs 6 [] [] (by kernel_rfl) allP_nil ?_
   refine rt [(8, .ptr 0 0), (9, .ptr 1 0), (10, .ptr 2 0)] [(0, .row 57 [iS c3_Cap1, .own 5 0 c5q1.length, bS c3_Closed1, .own 6 0 c6q1.length, .own 7 0 c7q1.length]), (1, .row 33 [bS c4_Done1, bS c4_Panic1, bS c4_Ok1, iS c4_Value1, iS c4_Case1, .own 8 0 c8q1.length]), (2, .row 29 [iS 0, iS 0]), (3, .row 57 [iS c3_Cap1, .own 5 0 c5q1.length, bS c3_Closed1, .own 6 0 c6q1.length, .own 7 0 c7q1.length]), (4, .row 33 [bS c4_Done1, bS c4_Panic1, bS c4_Ok1, iS c4_Value1, iS c4_Case1, .own 8 0 c8q1.length]), (5, .row 3 (fl c5q1)), (6, .row 92 (fl c6q1)), (7, .row 92 (fl c7q1)), (8, .row 64 (fl c8q1))] 15 follows (by kernel_rfl) ?_
   refine wk_id ?_
   obtain rfl := Option.some.inj h
   refine ret_at (.tup [.agg [iS c3_Cap1, .own 5 0 c5q1.length, bS c3_Closed1, .own 6 0 c6q1.length, .own 7 0 c7q1.length], .agg [bS c4_Done1, bS c4_Panic1, bS c4_Ok1, iS c4_Value1, iS c4_Case1, .own 8 0 c8q1.length], .agg [iS 0, iS 0]]) (by kernel_rfl) ?_
   exact ret_e [(0, 5), (1, 6), (2, 7), (3, 8)] [] (by simp only [push_cast, leL_flD, renL_flD, seval]) (by simp only [push_cast, leL_flD, renL_flD, seval]) rfl rfl rfl

end Go.Proofs.Ytcpmhpobhnakeaa
