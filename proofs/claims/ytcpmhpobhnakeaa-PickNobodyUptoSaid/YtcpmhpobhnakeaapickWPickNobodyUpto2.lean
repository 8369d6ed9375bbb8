/-
 What laws of the chapter pick compute, and lemmas on it.
 No conditions.
-/
import Derived.Test.YtcpmhpobhnakeaapickWPickNobodyUpto1
set_option linter.unusedSimpArgs false
set_option linter.unusedVariables false
namespace Go.Proofs.Ytcpmhpobhnakeaa
open Go Go.Sx
attribute [local irreducible] Wk RunAt
set_option maxRecDepth 100000 in
set_option maxHeartbeats 200000000 in
theorem pick_Pick_spec (l : (List Pipe)) (task : Int) (cases : (List GCase)) (order : (List Int)) (xdef : Bool) (r : Bool × Bool × Bool × Int × Int × Fault × (List Pipe) × (List GWake)) (h : pick_Pick l task cases order xdef = some r) : SpecW Try.prog 13 [.sl l.length (fl l), iS task, .sl cases.length (fl cases), .sl order.length (fl order), bS xdef] [] 0 (fun x h n => x = .tup [.own 0 0 r.2.2.2.2.2.2.1.length, .agg [bS r.1, bS r.2.1, bS r.2.2.1, iS r.2.2.2.1, iS r.2.2.2.2.1, .own 1 0 r.2.2.2.2.2.2.2.length], .agg (Enc.cells r.2.2.2.2.2.1)] ∧ h = [(0, .row 57 (flD dPipe [2, 3, 4] r.2.2.2.2.2.2.1)), (1, .row 64 (fl r.2.2.2.2.2.2.2)), ((.s 2 0), .fam (famD dPipe 0 r.2.2.2.2.2.2.1)), ((.s 3 0), .fam (famD dPipe 1 r.2.2.2.2.2.2.1)), ((.s 4 0), .fam (famD dPipe 2 r.2.2.2.2.2.2.1))] ∧ n = 5) := by
 unfold pick_Pick at h
 refine spec_of (draw_ok _) Try.func13 rfl (by decide) rfl (by kernel_rfl) ?_
 refine seq_np ?_
 refine reg_f ?_
 refine rs 3 [] [] (by kernel_rfl) allP_nil ?_
 refine rf [(0, .sl l.length (fl l)), (1, iS task), (2, .sl cases.length (fl cases)), (3, .sl order.length (fl order)), (4, bS xdef), (11, .ptr 0 0), (12, .ptr 1 0)] [(0, .row 33 [bS false, bS false, bS false, iS 0, iS 0, .v (.slice none 0 0)]), (1, .row 29 [iS 0, iS 0])] 2 (by kernel_rfl) ?_
 refine wk_id ?_
 refine seq_np ?_
 refine seq_np ?_
 refine reg_f ?_
 refine rs 1 [] [] (by kernel_rfl) allP_nil ?_
 obtain ⟨r1764, hr1764, h⟩ := bind_sx h
 refine run_call 12 [.sl l.length (fl l)] (some 24) (by kernel_rfl) ?_
 refine call_0 (pick_Check_spec l r1764 hr1764) (by simp only [push_cast, leL_flD, renL_flD, seval]) (by simp only [push_cast, leL_flD, renL_flD, seval]) ?_
 refine back_f ?_
 refine rs 2 [] [] (by kernel_rfl) allP_nil ?_
 refine rf [(0, .sl l.length (fl l)), (1, iS task), (2, .sl cases.length (fl cases)), (3, .sl order.length (fl order)), (4, bS xdef), (11, .ptr 0 0), (12, .ptr 1 0), (13, .ptr 2 0)] [(0, .row 33 [bS false, bS false, bS false, iS 0, iS 0, .v (.slice none 0 0)]), (1, .row 29 [iS 0, iS 0]), (2, .row 29 (Enc.cells r1764))] 3 (by kernel_rfl) ?_
 refine wk_id ?_
 refine seq_np ?_
 refine reg_f ?_
 refine rs 3 [] [] (by kernel_rfl) allP_nil ?_
 refine rf [(0, .sl l.length (fl l)), (1, iS task), (2, .sl cases.length (fl cases)), (3, .sl order.length (fl order)), (4, bS xdef), (11, .ptr 0 0), (12, .ptr 1 0), (13, .ptr 2 0), (27, bS (r1764.Code != 0))] [(0, .row 33 [bS false, bS false, bS false, iS 0, iS 0, .v (.slice none 0 0)]), (1, .row 29 [iS 0, iS 0]), (2, .row 29 (Enc.cells r1764))] 3 (by kernel_rfl) ?_
 refine wk_id ?_
 refine cond_sx h (by kernel_rfl) (fun g2094 h => ?_) (fun g2094 h => ?_)
 ·refine seq_np ?_
  refine reg_t ?_
  refine rs 5 [] [] (by kernel_rfl) allP_nil ?_
  refine rt [(10, .v (.slice none 0 0)), (11, .ptr 0 0), (12, .ptr 1 0)] [(0, .row 33 [bS false, bS false, bS false, iS 0, iS 0, .v (.slice none 0 0)]), (1, .row 29 (Enc.cells r1764)), (2, .row 29 (Enc.cells r1764))] 8 follows (by kernel_rfl) ?_
  refine wk_id ?_
  obtain rfl := Option.some.inj h
  refine ret_at (.tup [.v (.slice none 0 0), .agg [bS false, bS false, bS false, iS 0, iS 0, .v (.slice none 0 0)], .agg (Enc.cells r1764)]) (by kernel_rfl) ?_
  exact ret_e [] [] (by simp only [push_cast, leL_flD, renL_flD, seval]) (by simp only [push_cast, leL_flD, renL_flD, seval]) rfl rfl rfl
 ·refine wk_id ?_
  refine seq_np ?_
  refine reg_f ?_
  refine rs 1 [] [] (by kernel_rfl) allP_nil ?_
  obtain ⟨r1766, hr1766, h⟩ := bind_sx h
  refine call_x (pick_copied_spec l r1766 hr1766) (args := [.sl l.length (fl l)]) (dst := (some 31)) (by kernel_rfl) [(0, .row 33 [bS false, bS false, bS false, iS 0, iS 0, .v (.slice none 0 0)]), (1, .row 29 [iS 0, iS 0]), (2, .row 29 (Enc.cells r1764))] 3 (by kernel_rfl) [] [] (.own 3 0 r1766.length) [(3, .row 57 (flD dPipe [4, 5, 6] r1766)), ((.s 4 0), .fam (famD dPipe 0 r1766)), ((.s 5 0), .fam (famD dPipe 1 r1766)), ((.s 6 0), .fam (famD dPipe 2 r1766))] (by simp only [push_cast, leL_flD, renL_flD, seval]) (by simp only [push_cast, leL_flD, renL_flD, seval]) (by kernel_rfl) (.inl rfl) (by first | (simp only [push_cast, leL_flD, renL_flD, seval]; done) | (simp only [push_cast, leL_flD, renL_flD, seval]; kernel_rfl) | kernel_rfl) (by first | (simp only [push_cast, leL_flD, renL_flD, seval]; done) | (simp only [push_cast, leL_flD, renL_flD, seval]; kernel_rfl) | kernel_rfl) ?_
  refine rs 1 [] [] (by kernel_rfl) allP_nil ?_
  refine rf [(1, iS task), (2, .sl cases.length (fl cases)), (3, .sl order.length (fl order)), (4, bS xdef), (11, .ptr 0 0), (12, .ptr 1 0), (14, .own 3 0 r1766.length)] [(0, .row 33 [bS false, bS false, bS false, iS 0, iS 0, .v (.slice none 0 0)]), (1, .row 29 [iS 0, iS 0]), (2, .row 29 (Enc.cells r1764)), (3, .row 57 (flD dPipe [4, 5, 6] r1766)), ((.s 4 0), .fam (famD dPipe 0 r1766)), ((.s 5 0), .fam (famD dPipe 1 r1766)), ((.s 6 0), .fam (famD dPipe 2 r1766))] 7 (by kernel_rfl) ?_
  refine wk_id ?_
  refine seq_np ?_
  refine seq_np ?_
  refine reg_f ?_
  refine rs 4 [] [] (by kernel_rfl) allP_nil ?_
  obtain ⟨r1770, hr1770, h⟩ := bind_sx h
  refine call_x (pick_hub_look_spec r1766 task cases order r1770 hr1770) (args := [.own 3 0 r1766.length, iS task, .sl cases.length (fl cases), .sl order.length (fl order)]) (dst := (some 36)) (by kernel_rfl) [(0, .row 33 [bS false, bS false, bS false, iS 0, iS 0, .v (.slice none 0 0)]), (1, .row 29 [iS 0, iS 0]), (2, .row 29 (Enc.cells r1764)), (3, .row 57 (flD dPipe [4, 5, 6] r1766)), ((.s 4 0), .fam (famD dPipe 0 r1766)), ((.s 5 0), .fam (famD dPipe 1 r1766)), ((.s 6 0), .fam (famD dPipe 2 r1766))] 7 (by kernel_rfl) [] [3, (.s 4 0), (.s 5 0), (.s 6 0)] (.agg (Enc.cells r1770)) [] (by simp only [↓leS_frzD dPipe [4, 5, 6] r1766, leS_frz, leL_flD, renL_flD, push_cast, seval]) (by simp only [↓leS_frzD dPipe [4, 5, 6] r1766, leS_frz, leL_flD, renL_flD, push_cast, seval]) (by kernel_rfl) (.inr ⟨by simp only [push_cast, leL_flD, renL_flD, seval], by simp only [push_cast, leL_flD, renL_flD, seval]⟩) (by simp only [push_cast, leL_flD, renL_flD, seval]) (by simp only [push_cast, leL_flD, renL_flD, seval]) ?_
  refine rs 2 [] [] (by kernel_rfl) allP_nil ?_
  refine rf [(1, iS task), (2, .sl cases.length (fl cases)), (3, .sl order.length (fl order)), (4, bS xdef), (11, .ptr 0 0), (12, .ptr 1 0), (14, .own 3 0 r1766.length), (15, .ptr 7 0)] [(0, .row 33 [bS false, bS false, bS false, iS 0, iS 0, .v (.slice none 0 0)]), (1, .row 29 [iS 0, iS 0]), (2, .row 29 (Enc.cells r1764)), (3, .row 57 (flD dPipe [4, 5, 6] r1766)), ((.s 4 0), .fam (famD dPipe 0 r1766)), ((.s 5 0), .fam (famD dPipe 1 r1766)), ((.s 6 0), .fam (famD dPipe 2 r1766)), (7, .row 29 (Enc.cells r1770))] 8 (by kernel_rfl) ?_
  refine wk_id ?_
  refine seq_np ?_
  refine reg_f ?_
  refine rs 3 [] [] (by kernel_rfl) allP_nil ?_
  refine rf [(1, iS task), (2, .sl cases.length (fl cases)), (3, .sl order.length (fl order)), (4, bS xdef), (11, .ptr 0 0), (12, .ptr 1 0), (14, .own 3 0 r1766.length), (15, .ptr 7 0), (39, bS (r1770.Code != 0))] [(0, .row 33 [bS false, bS false, bS false, iS 0, iS 0, .v (.slice none 0 0)]), (1, .row 29 [iS 0, iS 0]), (2, .row 29 (Enc.cells r1764)), (3, .row 57 (flD dPipe [4, 5, 6] r1766)), ((.s 4 0), .fam (famD dPipe 0 r1766)), ((.s 5 0), .fam (famD dPipe 1 r1766)), ((.s 6 0), .fam (famD dPipe 2 r1766)), (7, .row 29 (Enc.cells r1770))] 8 (by kernel_rfl) ?_
  refine wk_id ?_
  refine cond_sx h (by kernel_rfl) (fun g2093 h => ?_) (fun g2093 h => ?_)
  ·refine seq_np ?_
   refine reg_t ?_
   refine rs 5 [] [] (by kernel_rfl) allP_nil ?_
   refine rt [(10, .v (.slice none 0 0)), (11, .ptr 0 0), (12, .ptr 1 0)] [(0, .row 33 [bS false, bS false, bS false, iS 0, iS 0, .v (.slice none 0 0)]), (1, .row 29 (Enc.cells r1770)), (2, .row 29 (Enc.cells r1764)), (3, .row 57 (flD dPipe [4, 5, 6] r1766)), ((.s 4 0), .fam (famD dPipe 0 r1766)), ((.s 5 0), .fam (famD dPipe 1 r1766)), ((.s 6 0), .fam (famD dPipe 2 r1766)), (7, .row 29 (Enc.cells r1770))] 13 follows (by kernel_rfl) ?_
   refine wk_id ?_
   obtain rfl := Option.some.inj h
   refine ret_at (.tup [.v (.slice none 0 0), .agg [bS false, bS false, bS false, iS 0, iS 0, .v (.slice none 0 0)], .agg (Enc.cells r1770)]) (by kernel_rfl) ?_
   exact ret_e [] [] (by simp only [push_cast, leL_flD, renL_flD, seval]) (by simp only [push_cast, leL_flD, renL_flD, seval]) rfl rfl rfl
  ·refine wk_id ?_
   refine seq_np ?_
   refine seq_np ?_
   refine reg_f ?_
   refine rs 3 [] [] (by kernel_rfl) allP_nil ?_
   refine rf [(1, iS task), (2, .sl cases.length (fl cases)), (4, bS xdef), (11, .ptr 0 0), (12, .ptr 1 0), (14, .own 3 0 r1766.length), (42, .sl order.length (fl order)), (43, iS ((order.length : Nat) : Int)), (44, iS 0)] [(0, .row 33 [bS false, bS false, bS false, iS 0, iS 0, .v (.slice none 0 0)]), (1, .row 29 [iS 0, iS 0]), (2, .row 29 (Enc.cells r1764)), (3, .row 57 (flD dPipe [4, 5, 6] r1766)), ((.s 4 0), .fam (famD dPipe 0 r1766)), ((.s 5 0), .fam (famD dPipe 1 r1766)), ((.s 6 0), .fam (famD dPipe 2 r1766)), (7, .row 29 (Enc.cells r1770))] 8 (by kernel_rfl) ?_
   refine wk_id ?_
   refine block_np ?_
   refine loop_sx (S := Int × (List Pipe)) (fun a => ([(1, iS task), (2, .sl cases.length (fl cases)), (4, bS xdef), (11, .ptr 0 0), (12, .ptr 1 0), (14, .own 2 0 a.2.length), (42, .sl order.length (fl order)), (43, iS ((order.length : Nat) : Int)), (44, iS a.1)], [(0, .row 33 [bS false, bS false, bS false, iS 0, iS 0, .v (.slice none 0 0)]), (1, .row 29 [iS 0, iS 0]), (2, .row 57 (flD dPipe [3, 4, 5] a.2)), ((.s 3 0), .fam (famD dPipe 0 a.2)), ((.s 4 0), .fam (famD dPipe 1 a.2)), ((.s 5 0), .fam (famD dPipe 2 a.2))], 6)) h (leSt_m [(0, 0), (1, 1), (2, 3), ((.s 3 0), (.s 4 0)), ((.s 4 0), (.s 5 0)), ((.s 5 0), (.s 6 0))] [] (by simp only [push_cast, leL_flD, renL_flD, seval]) (by simp only [push_cast, leL_flD, renL_flD, seval]) rfl rfl rfl) ?_
   rintro ⟨t44q7, c2q16⟩ o3 R3 h hr3 hn3 hx3 ht3
   try dsimp only at h hn3 ⊢
   unfold pick_Pick_l2 at h
   try dsimp only at h
   refine seq_np ?_
   refine reg_f ?_
   refine rs 1 [] [] (by kernel_rfl) allP_nil ?_
   refine rf [(1, iS task), (2, .sl cases.length (fl cases)), (4, bS xdef), (11, .ptr 0 0), (12, .ptr 1 0), (14, .own 2 0 c2q16.length), (42, .sl order.length (fl order)), (43, iS ((order.length : Nat) : Int)), (44, iS t44q7), (45, bS (decide (t44q7 < ((order.length : Nat) : Int))))] [(0, .row 33 [bS false, bS false, bS false, iS 0, iS 0, .v (.slice none 0 0)]), (1, .row 29 [iS 0, iS 0]), (2, .row 57 (flD dPipe [3, 4, 5] c2q16)), ((.s 3 0), .fam (famD dPipe 0 c2q16)), ((.s 4 0), .fam (famD dPipe 1 c2q16)), ((.s 5 0), .fam (famD dPipe 2 c2q16))] 6 (by kernel_rfl) ?_
   refine wk_id ?_
   refine seq_np ?_
   refine cond_sx h (by kernel_rfl) (fun g2092 h => ?_) (fun g2092 h => ?_)
   ·refine wk_id ?_
    refine seq_np ?_
    refine block_np ?_
    refine chk_sx h (fun g1916 h => ?_)
    refine seq_np ?_
    refine reg_f ?_
    have k1915 : 0 ≤ t44q7 ∧ t44q7 < ((order.length : Nat) : Int) := by first | simpa only [Bool.and_eq_true, decide_eq_true_eq, bne_iff_ne, ne_eq] using g1916 | (simp at g1916 ⊢; omega)
    refine rs 3 [some ⟨.iptr (fl order) ((t44q7).toNat * 1), [], 6, []⟩, some ⟨iS (ix order t44q7), [], 6, []⟩] _ (by kernel_rfl) (allP_cons (ob_ld order t44q7 1 0 ((t44q7).toNat * 1) k1915 rfl (by decide) (by first | rfl | omega) (dflS Try.prog 3) (iS (ix order t44q7)) rfl 6 []) (allP_cons (ob_ix_l order 1 6 t44q7 k1915) allP_nil)) ?_
    refine rf [(1, iS task), (2, .sl cases.length (fl cases)), (4, bS xdef), (11, .ptr 0 0), (12, .ptr 1 0), (14, .own 2 0 c2q16.length), (17, iS (ix order t44q7)), (42, .sl order.length (fl order)), (43, iS ((order.length : Nat) : Int)), (44, iS t44q7)] [(0, .row 33 [bS false, bS false, bS false, iS 0, iS 0, .v (.slice none 0 0)]), (1, .row 29 [iS 0, iS 0]), (2, .row 57 (flD dPipe [3, 4, 5] c2q16)), ((.s 3 0), .fam (famD dPipe 0 c2q16)), ((.s 4 0), .fam (famD dPipe 1 c2q16)), ((.s 5 0), .fam (famD dPipe 2 c2q16))] 6 (by kernel_rfl) ?_
    refine wk_id ?_
    refine chk_sx h (fun g1923 h => ?_)
    refine seq_np ?_
    refine reg_f ?_
    have k1922 : 0 ≤ (ix order t44q7) ∧ (ix order t44q7) < ((cases.length : Nat) : Int) := by first | simpa only [Bool.and_eq_true, decide_eq_true_eq, bne_iff_ne, ne_eq] using g1923 | (simp at g1923 ⊢; omega)
    refine rs 7 [none, none, none, none, none, some ⟨.iptr (fl cases) (((ix order t44q7)).toNat * 3), [], 6, []⟩, some ⟨.agg (Enc.cells (ix cases (ix order t44q7))), [], 6, []⟩] _ (by kernel_rfl) (allP_cons (ob_ldw cases (ix order t44q7) 3 (((ix order t44q7)).toNat * 3) k1922 rfl (by first | rfl | omega) [iS (ix cases (ix order t44q7)).Pipe, bS (ix cases (ix order t44q7)).Send, iS (ix cases (ix order t44q7)).Value] rfl 6 []) (allP_cons (ob_ix_l cases 3 6 (ix order t44q7) k1922) allP_nil)) ?_
    obtain ⟨r1924, hr1924, h⟩ := bind_sx h
    refine call_x (pick_hub_once_1_spec task (ix order t44q7) (ix cases (ix order t44q7)) c2q16 r1924 hr1924) (args := [.own 2 0 c2q16.length, iS task, iS (ix order t44q7), .agg (Enc.cells (ix cases (ix order t44q7)))]) (dst := (some 55)) (by kernel_rfl) [(0, .row 33 [bS false, bS false, bS false, iS 0, iS 0, .v (.slice none 0 0)]), (1, .row 29 [iS 0, iS 0]), (2, .row 57 (flD dPipe [3, 4, 5] c2q16)), ((.s 3 0), .fam (famD dPipe 0 c2q16)), ((.s 4 0), .fam (famD dPipe 1 c2q16)), ((.s 5 0), .fam (famD dPipe 2 c2q16))] 6 (by kernel_rfl) [(0, 2), ((.s 1 0), (.s 3 0)), ((.s 2 0), (.s 4 0)), ((.s 3 0), (.s 5 0))] [] (.agg [bS r1924.1, bS r1924.2.1, bS r1924.2.2.1, iS r1924.2.2.2.1, iS r1924.2.2.2.2.1, .own 10 0 r1924.2.2.2.2.2.1.length]) [(2, .row 57 (flD dPipe [11, 12, 13] r1924.2.2.2.2.2.2)), ((.s 3 0), .dead), ((.s 4 0), .dead), ((.s 5 0), .dead), (10, .row 64 (fl r1924.2.2.2.2.2.1)), ((.s 11 0), .fam (famD dPipe 0 r1924.2.2.2.2.2.2)), ((.s 12 0), .fam (famD dPipe 1 r1924.2.2.2.2.2.2)), ((.s 13 0), .fam (famD dPipe 2 r1924.2.2.2.2.2.2)), (2, .dead), ((.s 3 0), .dead), ((.s 4 0), .dead), ((.s 5 0), .dead)] (by simp only [push_cast, leL_flD, renL_flD, seval]) (by simp only [push_cast, leL_flD, renL_flD, seval]) (by kernel_rfl) (.inl rfl) (by first | (simp only [push_cast, leL_flD, renL_flD, seval]; done) | (simp only [push_cast, leL_flD, renL_flD, seval]; kernel_rfl) | kernel_rfl) (by first | (simp only [push_cast, leL_flD, renL_flD, seval]; done) | (simp only [push_cast, leL_flD, renL_flD, seval]; kernel_rfl) | kernel_rfl) ?_ (hfam := (And.intro trivial (And.intro (fun _ => Or.inl rfl) (And.intro (fun _ => Or.inl rfl) (And.intro (fun _ => Or.inl rfl) trivial)))))
    refine chk_sx h (fun g1926 h => ?_)
    have e1925 : c2q16.length = r1924.2.2.2.2.2.2.length := (of_decide_eq_true g1926).symm
    refine run_eqF 14 (.own 2 0 c2q16.length) (.own 2 0 r1924.2.2.2.2.2.2.length) (congrArg (fun nq => (.own 2 0 nq : SV)) (show c2q16.length = r1924.2.2.2.2.2.2.length from e1925)) (by kernel_rfl) ?_
    refine rs 2 [] [] (by kernel_rfl) allP_nil ?_
    refine rf [(1, iS task), (2, .sl cases.length (fl cases)), (4, bS xdef), (11, .ptr 0 0), (12, .ptr 1 0), (14, .own 2 0 r1924.2.2.2.2.2.2.length), (18, .ptr 14 0), (42, .sl order.length (fl order)), (43, iS ((order.length : Nat) : Int)), (44, iS t44q7)] [(0, .row 33 [bS false, bS false, bS false, iS 0, iS 0, .v (.slice none 0 0)]), (1, .row 29 [iS 0, iS 0]), (2, .row 57 (flD dPipe [11, 12, 13] r1924.2.2.2.2.2.2)), ((.s 3 0), .dead), ((.s 4 0), .dead), ((.s 5 0), .dead), (10, .row 64 (fl r1924.2.2.2.2.2.1)), ((.s 11 0), .fam (famD dPipe 0 r1924.2.2.2.2.2.2)), ((.s 12 0), .fam (famD dPipe 1 r1924.2.2.2.2.2.2)), ((.s 13 0), .fam (famD dPipe 2 r1924.2.2.2.2.2.2)), (14, .row 33 [bS r1924.1, bS r1924.2.1, bS r1924.2.2.1, iS r1924.2.2.2.1, iS r1924.2.2.2.2.1, .own 10 0 r1924.2.2.2.2.2.1.length])] 15 (by kernel_rfl) ?_
    refine wk_id ?_
    refine seq_np ?_
    refine reg_f ?_
    refine rs 2 [] [] (by kernel_rfl) allP_nil ?_
    refine rf [(1, iS task), (2, .sl cases.length (fl cases)), (4, bS xdef), (11, .ptr 0 0), (12, .ptr 1 0), (14, .own 2 0 r1924.2.2.2.2.2.2.length), (18, .ptr 14 0), (42, .sl order.length (fl order)), (43, iS ((order.length : Nat) : Int)), (44, iS t44q7), (57, bS r1924.1)] [(0, .row 33 [bS false, bS false, bS false, iS 0, iS 0, .v (.slice none 0 0)]), (1, .row 29 [iS 0, iS 0]), (2, .row 57 (flD dPipe [11, 12, 13] r1924.2.2.2.2.2.2)), ((.s 3 0), .dead), ((.s 4 0), .dead), ((.s 5 0), .dead), (10, .row 64 (fl r1924.2.2.2.2.2.1)), ((.s 11 0), .fam (famD dPipe 0 r1924.2.2.2.2.2.2)), ((.s 12 0), .fam (famD dPipe 1 r1924.2.2.2.2.2.2)), ((.s 13 0), .fam (famD dPipe 2 r1924.2.2.2.2.2.2)), (14, .row 33 [bS r1924.1, bS r1924.2.1, bS r1924.2.2.1, iS r1924.2.2.2.1, iS r1924.2.2.2.2.1, .own 10 0 r1924.2.2.2.2.2.1.length])] 15 (by kernel_rfl) ?_
    refine wk_id ?_
    refine cond_sx h (by kernel_rfl) (fun g1937 h => ?_) (fun g1937 h => ?_)
    ·refine seq_np ?_
     refine reg_f ?_
     refine rs 3 [] [] (by kernel_rfl) allP_nil ?_
     obtain ⟨r1932, hr1932, h⟩ := bind_sx h
     refine call_x (pick_hub_wake_1_spec r1924.2.2.2.2.2.2 r1924.2.2.2.2.2.1 r1932 hr1932) (args := [.own 2 0 r1924.2.2.2.2.2.2.length, .own 10 0 r1924.2.2.2.2.2.1.length]) (dst := (some 61)) (by kernel_rfl) [(0, .row 33 [bS false, bS false, bS false, iS 0, iS 0, .v (.slice none 0 0)]), (1, .row 29 [iS 0, iS 0]), (2, .row 57 (flD dPipe [11, 12, 13] r1924.2.2.2.2.2.2)), ((.s 3 0), .dead), ((.s 4 0), .dead), ((.s 5 0), .dead), (10, .row 64 (fl r1924.2.2.2.2.2.1)), ((.s 11 0), .fam (famD dPipe 0 r1924.2.2.2.2.2.2)), ((.s 12 0), .fam (famD dPipe 1 r1924.2.2.2.2.2.2)), ((.s 13 0), .fam (famD dPipe 2 r1924.2.2.2.2.2.2)), (14, .row 33 [bS r1924.1, bS r1924.2.1, bS r1924.2.2.1, iS r1924.2.2.2.1, iS r1924.2.2.2.2.1, .own 10 0 r1924.2.2.2.2.2.1.length])] 15 (by kernel_rfl) [(0, 2), ((.s 1 0), (.s 11 0)), ((.s 2 0), (.s 12 0)), ((.s 3 0), (.s 13 0)), (4, 10)] [] (.tup []) [(2, .row 57 (flD dPipe [11, 20, 21] r1932.1)), ((.s 11 0), .fam (famD dPipe 0 r1932.1)), ((.s 12 0), .dead), ((.s 13 0), .dead), (10, .row 64 (fl r1932.2)), ((.s 20 0), .fam (famD dPipe 1 r1932.1)), ((.s 21 0), .fam (famD dPipe 2 r1932.1)), (2, .dead), ((.s 11 0), .dead), ((.s 12 0), .dead), ((.s 13 0), .dead), (10, .dead)] (by simp only [push_cast, leL_flD, renL_flD, seval]) (by simp only [push_cast, leL_flD, renL_flD, seval]) (by kernel_rfl) (.inl rfl) (by first | (simp only [push_cast, leL_flD, renL_flD, seval]; done) | (simp only [push_cast, leL_flD, renL_flD, seval]; kernel_rfl) | kernel_rfl) (by first | (simp only [push_cast, leL_flD, renL_flD, seval]; done) | (simp only [push_cast, leL_flD, renL_flD, seval]; kernel_rfl) | kernel_rfl) ?_ (hfam := (And.intro trivial (And.intro (fun _ => Or.inl rfl) (And.intro (fun _ => Or.inl rfl) (And.intro (fun _ => Or.inl rfl) (And.intro trivial trivial))))))
     refine chk_sx h (fun g1934 h => ?_)
     have e1933 : r1924.2.2.2.2.2.2.length = r1932.1.length := (of_decide_eq_true g1934).symm
     refine run_eqF 14 (.own 2 0 r1924.2.2.2.2.2.2.length) (.own 2 0 r1932.1.length) (congrArg (fun nq => (.own 2 0 nq : SV)) (show r1924.2.2.2.2.2.2.length = r1932.1.length from e1933)) (by kernel_rfl) ?_
     refine chk_sx h (fun g1936 h => ?_)
     have e1935 : r1924.2.2.2.2.2.1.length = r1932.2.length := (of_decide_eq_true g1936).symm
     refine run_eqH 14 (.row 33 [bS r1924.1, bS r1924.2.1, bS r1924.2.2.1, iS r1924.2.2.2.1, iS r1924.2.2.2.2.1, .own 10 0 r1924.2.2.2.2.2.1.length]) (.row 33 [bS r1924.1, bS r1924.2.1, bS r1924.2.2.1, iS r1924.2.2.2.1, iS r1924.2.2.2.2.1, .own 10 0 r1932.2.length]) (congrArg (fun nq => (.row 33 [bS r1924.1, bS r1924.2.1, bS r1924.2.2.1, iS r1924.2.2.2.1, iS r1924.2.2.2.2.1, .own 10 0 nq] : Chunk)) (show r1924.2.2.2.2.2.1.length = r1932.2.length from e1935)) (by kernel_rfl) ?_
     refine rf [(11, .ptr 0 0), (12, .ptr 1 0), (14, .own 2 0 r1932.1.length), (18, .ptr 14 0)] [(0, .row 33 [bS false, bS false, bS false, iS 0, iS 0, .v (.slice none 0 0)]), (1, .row 29 [iS 0, iS 0]), (2, .row 57 (flD dPipe [11, 20, 21] r1932.1)), ((.s 3 0), .dead), ((.s 4 0), .dead), ((.s 5 0), .dead), (10, .row 64 (fl r1932.2)), ((.s 11 0), .fam (famD dPipe 0 r1932.1)), ((.s 12 0), .dead), ((.s 13 0), .dead), (14, .row 33 [bS r1924.1, bS r1924.2.1, bS r1924.2.2.1, iS r1924.2.2.2.1, iS r1924.2.2.2.2.1, .own 10 0 r1932.2.length]), ((.s 20 0), .fam (famD dPipe 1 r1932.1)), ((.s 21 0), .fam (famD dPipe 2 r1932.1))] 22 (by kernel_rfl) ?_
     refine wk_id ?_
     refine seq_np ?_
     refine reg_t ?_
     refine rs 6 [] [] (by kernel_rfl) allP_nil ?_
     refine rt [(10, .own 2 0 r1932.1.length), (11, .ptr 0 0), (12, .ptr 1 0)] [(0, .row 33 [bS r1924.1, bS r1924.2.1, bS r1924.2.2.1, iS r1924.2.2.2.1, iS r1924.2.2.2.2.1, .own 10 0 r1932.2.length]), (1, .row 29 [iS 0, iS 0]), (2, .row 57 (flD dPipe [11, 20, 21] r1932.1)), ((.s 3 0), .dead), ((.s 4 0), .dead), ((.s 5 0), .dead), (10, .row 64 (fl r1932.2)), ((.s 11 0), .fam (famD dPipe 0 r1932.1)), ((.s 12 0), .dead), ((.s 13 0), .dead), (14, .row 33 [bS r1924.1, bS r1924.2.1, bS r1924.2.2.1, iS r1924.2.2.2.1, iS r1924.2.2.2.2.1, .own 10 0 r1932.2.length]), ((.s 20 0), .fam (famD dPipe 1 r1932.1)), ((.s 21 0), .fam (famD dPipe 2 r1932.1))] 28 follows (by kernel_rfl) ?_
     refine wk_id ?_
     refine rt_cast ht3 ?_
     obtain ⟨r0, h, e0⟩ := map_sx h
     have e1 := hr3 r0 e0.symm
     subst r0
     obtain rfl := Option.some.inj h
     refine ret_at (.tup [.own 2 0 r1932.1.length, .agg [bS r1924.1, bS r1924.2.1, bS r1924.2.2.1, iS r1924.2.2.2.1, iS r1924.2.2.2.2.1, .own 10 0 r1932.2.length], .agg [iS 0, iS 0]]) (by kernel_rfl) ?_
     exact ret_e [(0, 2), (1, 10), ((.s 2 0), (.s 11 0)), ((.s 3 0), (.s 20 0)), ((.s 4 0), (.s 21 0))] [] (by simp only [push_cast, leL_flD, renL_flD, seval]) (by simp only [push_cast, leL_flD, renL_flD, seval]) rfl rfl rfl
    ·refine wk_id ?_
     refine wk_id ?_
     refine reg_f ?_
     refine rs 2 [] [] (by kernel_rfl) allP_nil ?_
     refine rf [(1, iS task), (2, .sl cases.length (fl cases)), (4, bS xdef), (11, .ptr 0 0), (12, .ptr 1 0), (14, .own 2 0 r1924.2.2.2.2.2.2.length), (42, .sl order.length (fl order)), (43, iS ((order.length : Nat) : Int)), (44, iS (IntKind.i64.wrap (t44q7 + 1)))] [(0, .row 33 [bS false, bS false, bS false, iS 0, iS 0, .v (.slice none 0 0)]), (1, .row 29 [iS 0, iS 0]), (2, .row 57 (flD dPipe [11, 12, 13] r1924.2.2.2.2.2.2)), ((.s 3 0), .dead), ((.s 4 0), .dead), ((.s 5 0), .dead), (10, .row 64 (fl r1924.2.2.2.2.2.1)), ((.s 11 0), .fam (famD dPipe 0 r1924.2.2.2.2.2.2)), ((.s 12 0), .fam (famD dPipe 1 r1924.2.2.2.2.2.2)), ((.s 13 0), .fam (famD dPipe 2 r1924.2.2.2.2.2.2)), (14, .row 33 [bS r1924.1, bS r1924.2.1, bS r1924.2.2.1, iS r1924.2.2.2.1, iS r1924.2.2.2.2.1, .own 10 0 r1924.2.2.2.2.2.1.length])] 15 (by kernel_rfl) ?_
     exact hn3 ((IntKind.i64.wrap (t44q7 + 1)), r1924.2.2.2.2.2.2) _ _ _ (Option.some.inj h).symm (leSt_m [(0, 0), (1, 1), (2, 2), ((.s 3 0), (.s 11 0)), ((.s 4 0), (.s 12 0)), ((.s 5 0), (.s 13 0))] [] (by simp only [push_cast, leL_flD, renL_flD, seval]) (by simp only [push_cast, leL_flD, renL_flD, seval]) rfl rfl rfl)
   ·change R3 (.exit 0) _ _ _
    refine ex_cast hx3 (id := 0) ?_
    obtain ⟨r0, h, e0⟩ := map_sx h
    have e1 := hr3 r0 e0.symm
    subst r0
    refine wk_id ?_
    refine wk_id ?_
    refine seq_np ?_
    refine seq_np ?_
    refine reg_f ?_
    refine rs 1 [] [] (by kernel_rfl) allP_nil ?_
    refine rf [(1, iS task), (2, .sl cases.length (fl cases)), (11, .ptr 0 0), (12, .ptr 1 0), (14, .own 2 0 c2q16.length), (66, bS xdef)] [(0, .row 33 [bS false, bS false, bS false, iS 0, iS 0, .v (.slice none 0 0)]), (1, .row 29 [iS 0, iS 0]), (2, .row 57 (flD dPipe [3, 4, 5] c2q16)), ((.s 3 0), .fam (famD dPipe 0 c2q16)), ((.s 4 0), .fam (famD dPipe 1 c2q16)), ((.s 5 0), .fam (famD dPipe 2 c2q16))] 6 (by kernel_rfl) ?_
    refine wk_id ?_
    refine cond_sx h (by kernel_rfl) (fun g2091 h => ?_) (fun g2091 h => ?_)
    ·refine seq_np ?_
     refine reg_f ?_
     refine rs 6 [] [] (by kernel_rfl) allP_nil ?_
     refine rf [(10, .own 2 0 c2q16.length), (11, .ptr 0 0), (12, .ptr 1 0)] [(0, .row 33 [bS true, bS false, bS false, iS 0, iS (-1), .v (.slice none 0 0)]), (1, .row 29 [iS 0, iS 0]), (2, .row 57 (flD dPipe [3, 4, 5] c2q16)), ((.s 3 0), .fam (famD dPipe 0 c2q16)), ((.s 4 0), .fam (famD dPipe 1 c2q16)), ((.s 5 0), .fam (famD dPipe 2 c2q16))] 6 (by kernel_rfl) ?_
     refine wk_id ?_
     obtain rfl := Option.some.inj h
     refine ret_at (.tup [.own 2 0 c2q16.length, .agg [bS true, bS false, bS false, iS 0, iS (-1), .v (.slice none 0 0)], .agg [iS 0, iS 0]]) (by kernel_rfl) ?_
     exact ret_e [(0, 2), ((.s 2 0), (.s 3 0)), ((.s 3 0), (.s 4 0)), ((.s 4 0), (.s 5 0))] [] (by simp only [push_cast, leL_flD, renL_flD, seval]) (by simp only [push_cast, leL_flD, renL_flD, seval]) rfl rfl rfl
    ·refine wk_id ?_
     refine seq_np ?_
     refine seq_np ?_
     refine reg_f ?_
     refine rs 3 [] [] (by kernel_rfl) allP_nil ?_
     refine rf [(1, iS task), (11, .ptr 0 0), (12, .ptr 1 0), (14, .own 2 0 c2q16.length), (70, .sl cases.length (fl cases)), (71, iS ((cases.length : Nat) : Int)), (72, iS 0)] [(0, .row 33 [bS false, bS false, bS false, iS 0, iS 0, .v (.slice none 0 0)]), (1, .row 29 [iS 0, iS 0]), (2, .row 57 (flD dPipe [3, 4, 5] c2q16)), ((.s 3 0), .fam (famD dPipe 0 c2q16)), ((.s 4 0), .fam (famD dPipe 1 c2q16)), ((.s 5 0), .fam (famD dPipe 2 c2q16))] 6 (by kernel_rfl) ?_
     refine wk_id ?_
     refine block_np ?_
     refine loop_sx (S := Int × (List Pipe)) (fun a => ([(1, iS task), (11, .ptr 0 0), (12, .ptr 1 0), (14, .own 2 0 a.2.length), (70, .sl cases.length (fl cases)), (71, iS ((cases.length : Nat) : Int)), (72, iS a.1)], [(0, .row 33 [bS false, bS false, bS false, iS 0, iS 0, .v (.slice none 0 0)]), (1, .row 29 [iS 0, iS 0]), (2, .row 57 (flD dPipe [3, 4, 5] a.2)), ((.s 3 0), .fam (famD dPipe 0 a.2)), ((.s 4 0), .fam (famD dPipe 1 a.2)), ((.s 5 0), .fam (famD dPipe 2 a.2))], 6)) h (leSt_m [(0, 0), (1, 1), (2, 2), ((.s 3 0), (.s 3 0)), ((.s 4 0), (.s 4 0)), ((.s 5 0), (.s 5 0))] [] (by simp only [push_cast, leL_flD, renL_flD, seval]) (by simp only [push_cast, leL_flD, renL_flD, seval]) rfl rfl rfl) ?_
     rintro ⟨t72q7, c2q30⟩ o4 R4 h hr4 hn4 hx4 ht4
     try dsimp only at h hn4 ⊢
     unfold pick_Pick_l1 at h
     try dsimp only at h
     refine seq_np ?_
     refine reg_f ?_
     refine rs 1 [] [] (by kernel_rfl) allP_nil ?_
     refine rf [(1, iS task), (11, .ptr 0 0), (12, .ptr 1 0), (14, .own 2 0 c2q30.length), (70, .sl cases.length (fl cases)), (71, iS ((cases.length : Nat) : Int)), (72, iS t72q7), (73, bS (decide (t72q7 < ((cases.length : Nat) : Int))))] [(0, .row 33 [bS false, bS false, bS false, iS 0, iS 0, .v (.slice none 0 0)]), (1, .row 29 [iS 0, iS 0]), (2, .row 57 (flD dPipe [3, 4, 5] c2q30)), ((.s 3 0), .fam (famD dPipe 0 c2q30)), ((.s 4 0), .fam (famD dPipe 1 c2q30)), ((.s 5 0), .fam (famD dPipe 2 c2q30))] 6 (by kernel_rfl) ?_
     refine wk_id ?_
     refine seq_np ?_
     refine cond_sx h (by kernel_rfl) (fun g2090 h => ?_) (fun g2090 h => ?_)
     ·refine wk_id ?_
      refine seq_np ?_
      refine block_cut (A := (List Pipe)) (fun a => ([(1, iS task), (11, .ptr 0 0), (12, .ptr 1 0), (14, .own 2 0 a.length), (70, .sl cases.length (fl cases)), (71, iS ((cases.length : Nat) : Int)), (72, iS t72q7)], [(0, .row 33 [bS false, bS false, bS false, iS 0, iS 0, .v (.slice none 0 0)]), (1, .row 29 [iS 0, iS 0]), (2, .row 57 (flD dPipe [3, 4, 5] a)), ((.s 3 0), .fam (famD dPipe 0 a)), ((.s 4 0), .fam (famD dPipe 1 a)), ((.s 5 0), .fam (famD dPipe 2 a))], 6)) (fun a => (pick_Pick_j1 task cases t72q7 a) = some o4) (fun K2070 hK2070 => ?_) ?_
      ·refine chk_sx h (fun g2074 h => ?_)
       refine seq_np ?_
       refine reg_f ?_
       have k2073 : 0 ≤ t72q7 ∧ t72q7 < ((cases.length : Nat) : Int) := by first | simpa only [Bool.and_eq_true, decide_eq_true_eq, bne_iff_ne, ne_eq] using g2074 | (simp at g2074 ⊢; omega)
       refine rs 6 [none, some ⟨.iptr (fl cases) ((t72q7).toNat * 3), [], 6, []⟩, some ⟨.agg (Enc.cells (ix cases t72q7)), [], 6, []⟩] _ (by kernel_rfl) (allP_cons (ob_ldw cases t72q7 3 ((t72q7).toNat * 3) k2073 rfl (by first | rfl | omega) [iS (ix cases t72q7).Pipe, bS (ix cases t72q7).Send, iS (ix cases t72q7).Value] rfl 6 []) (allP_cons (ob_ix_l cases 3 6 t72q7 k2073) allP_nil)) ?_
       refine rf [(1, iS task), (11, .ptr 0 0), (12, .ptr 1 0), (14, .own 2 0 c2q30.length), (19, iS t72q7), (20, .ptr 6 0), (70, .sl cases.length (fl cases)), (71, iS ((cases.length : Nat) : Int)), (72, iS t72q7)] [(0, .row 33 [bS false, bS false, bS false, iS 0, iS 0, .v (.slice none 0 0)]), (1, .row 29 [iS 0, iS 0]), (2, .row 57 (flD dPipe [3, 4, 5] c2q30)), ((.s 3 0), .fam (famD dPipe 0 c2q30)), ((.s 4 0), .fam (famD dPipe 1 c2q30)), ((.s 5 0), .fam (famD dPipe 2 c2q30)), (6, .row 49 (Enc.cells (ix cases t72q7)))] 7 (by kernel_rfl) ?_
       refine wk_id ?_
       refine seq_np ?_
       refine seq_np ?_
       refine reg_f ?_
       refine rs 3 [] [] (by kernel_rfl) allP_nil ?_
       refine rf [(1, iS task), (11, .ptr 0 0), (12, .ptr 1 0), (14, .own 2 0 c2q30.length), (19, iS t72q7), (20, .ptr 6 0), (70, .sl cases.length (fl cases)), (71, iS ((cases.length : Nat) : Int)), (72, iS t72q7), (79, bS (decide ((ix cases t72q7).Pipe < 0)))] [(0, .row 33 [bS false, bS false, bS false, iS 0, iS 0, .v (.slice none 0 0)]), (1, .row 29 [iS 0, iS 0]), (2, .row 57 (flD dPipe [3, 4, 5] c2q30)), ((.s 3 0), .fam (famD dPipe 0 c2q30)), ((.s 4 0), .fam (famD dPipe 1 c2q30)), ((.s 5 0), .fam (famD dPipe 2 c2q30)), (6, .row 49 (Enc.cells (ix cases t72q7)))] 7 (by kernel_rfl) ?_
       refine wk_id ?_
       refine cond_sx h (by kernel_rfl) (fun g2089 h => ?_) (fun g2089 h => ?_)
       ·exact hK2070 (c2q30) _ _ _ h (leSt_m [(0, 0), (1, 1), (2, 2), ((.s 3 0), (.s 3 0)), ((.s 4 0), (.s 4 0)), ((.s 5 0), (.s 5 0))] [] (by simp only [push_cast, leL_flD, renL_flD, seval]) (by simp only [push_cast, leL_flD, renL_flD, seval]) rfl rfl rfl)
       ·refine wk_id ?_
        refine chk_sx h (fun g2079 h => ?_)
        refine seq_np ?_
        refine reg_t ?_
        have k2078 : 0 ≤ (ix cases t72q7).Pipe ∧ (ix cases t72q7).Pipe < ((c2q30.length : Nat) : Int) := by first | simpa only [Bool.and_eq_true, decide_eq_true_eq, bne_iff_ne, ne_eq] using g2079 | (simp at g2079 ⊢; omega)
        refine rs 12 [none, none, none, some ⟨.ptr 2 (0 + ((ix cases t72q7).Pipe).toNat * 5), [], 10, [2]⟩] _ (by kernel_rfl) (allP_cons (ob_ix_o 2 c2q30.length 0 5 10 (ix cases t72q7).Pipe k2078) allP_nil) ?_
        refine rt [(1, iS task), (11, .ptr 0 0), (12, .ptr 1 0), (14, .own 2 0 c2q30.length), (20, .ptr 6 0), (21, .ptr 2 (0 + ((ix cases t72q7).Pipe).toNat * 5)), (22, .ptr 16 0), (70, .sl cases.length (fl cases)), (71, iS ((cases.length : Nat) : Int)), (72, iS t72q7)] [(0, .row 33 [bS false, bS false, bS false, iS 0, iS 0, .v (.slice none 0 0)]), (1, .row 29 [iS 0, iS 0]), (2, .row 57 (flD dPipe [3, 4, 5] c2q30)), ((.s 3 0), .fam (famD dPipe 0 c2q30)), ((.s 4 0), .fam (famD dPipe 1 c2q30)), ((.s 5 0), .fam (famD dPipe 2 c2q30)), (6, .row 49 (Enc.cells (ix cases t72q7))), (16, .row 92 [iS task, iS t72q7, iS (ix cases t72q7).Value])] 20 follows (by kernel_rfl) ?_
        refine wk_id ?_
        refine seq_np ?_
        refine reg_f ?_
        refine rs 2 [] [] (by kernel_rfl) allP_nil ?_
        refine rf [(1, iS task), (11, .ptr 0 0), (12, .ptr 1 0), (14, .own 2 0 c2q30.length), (21, .ptr 2 (0 + ((ix cases t72q7).Pipe).toNat * 5)), (22, .ptr 16 0), (70, .sl cases.length (fl cases)), (71, iS ((cases.length : Nat) : Int)), (72, iS t72q7), (90, bS (ix cases t72q7).Send)] [(0, .row 33 [bS false, bS false, bS false, iS 0, iS 0, .v (.slice none 0 0)]), (1, .row 29 [iS 0, iS 0]), (2, .row 57 (flD dPipe [3, 4, 5] c2q30)), ((.s 3 0), .fam (famD dPipe 0 c2q30)), ((.s 4 0), .fam (famD dPipe 1 c2q30)), ((.s 5 0), .fam (famD dPipe 2 c2q30)), (6, .row 49 (Enc.cells (ix cases t72q7))), (16, .row 92 [iS task, iS t72q7, iS (ix cases t72q7).Value])] 20 (by kernel_rfl) ?_
        refine wk_id ?_
        refine cond_sx h (by kernel_rfl) (fun g2088 h => ?_) (fun g2088 h => ?_)
        ·refine chk_sx h (fun g2083 h => ?_)
         refine reg_t ?_
         have k2082 : ((ixD c2q30 (ix cases t72q7).Pipe).Senders ++ ([(GPost.mk task t72q7 (ix cases t72q7).Value)] : List GPost)).length * 24 ≤ 140737488355328 := by first | simpa only [Bool.and_eq_true, decide_eq_true_eq, bne_iff_ne, ne_eq] using g2083 | (simp at g2083 ⊢; omega)
         refine rs 10 [none, none, none, none, some ⟨.own (.s 4 (ix cases t72q7).Pipe) 0 (ixD c2q30 (ix cases t72q7).Pipe).Senders.length, [], 24, [2]⟩, none, none, some ⟨.own 28 0 ((ixD c2q30 (ix cases t72q7).Pipe).Senders ++ ([(GPost.mk task t72q7 (ix cases t72q7).Value)] : List GPost)).length, [(28, .row 92 (fl ((ixD c2q30 (ix cases t72q7).Pipe).Senders ++ ([(GPost.mk task t72q7 (ix cases t72q7).Value)] : List GPost)))), ((.s 4 0), .fam (upI (famD dPipe 1 c2q30) (ix cases t72q7).Pipe (.dead)))], 29, [(.s 4 0), 26]⟩] _ (by kernel_rfl) (allP_cons (ob_appM (P := Try.prog) dPipe 1 c2q30 (ix cases t72q7).Pipe 4 (ixD c2q30 (ix cases t72q7).Pipe).Senders ([(GPost.mk task t72q7 (ix cases t72q7).Value)] : List GPost) 3 24 rfl (appCells (fl ([(GPost.mk task t72q7 (ix cases t72q7).Value)] : List GPost)) 0 (([(GPost.mk task t72q7 (ix cases t72q7).Value)] : List GPost).length * 3)) ([(GPost.mk task t72q7 (ix cases t72q7).Value)] : List GPost).length (app_own ([(GPost.mk task t72q7 (ix cases t72q7).Value)] : List GPost) 3 rfl) rfl (0 + ([(GPost.mk task t72q7 (ix cases t72q7).Value)] : List GPost).length * 3 ≤ (fl ([(GPost.mk task t72q7 (ix cases t72q7).Value)] : List GPost)).length) (app_own_le ([(GPost.mk task t72q7 (ix cases t72q7).Value)] : List GPost) 3 rfl) 92 (by kernel_rfl) (by decide) k2082 28 [26]) (allP_cons (ob_ldD dPipe [3, 4, 5] c2q30 (ix cases t72q7).Pipe 5 3 ((0 + ((ix cases t72q7).Pipe).toNat * 5) + 3) k2078 rfl (by decide) (by first | rfl | omega) (dflS Try.prog 55) (.own (.s 4 (ix cases t72q7).Pipe) 0 (ixD c2q30 (ix cases t72q7).Pipe).Senders.length) rfl 24 [2]) allP_nil)) ?_
         refine run_opGb none _ ⟨.any, [(2, .row 57 (flN dPipe (nA [(some 3), (some 4), (some 5)] [(some (.s 3 (ix cases t72q7).Pipe)), (some (Nm.t 28)), (some (.s 5 (ix cases t72q7).Pipe))] (ix cases t72q7).Pipe) 0 (c2q30.set (ix cases t72q7).Pipe.toNat ({ (ixD c2q30 (ix cases t72q7).Pipe) with Senders := ((ixD c2q30 (ix cases t72q7).Pipe).Senders ++ ([(GPost.mk task t72q7 (ix cases t72q7).Value)] : List GPost)) } : Pipe))))], 32, [2]⟩ [((.s 32 0), .fam (famD dPipe 1 (c2q30.set (ix cases t72q7).Pipe.toNat ({ (ixD c2q30 (ix cases t72q7).Pipe) with Senders := ((ixD c2q30 (ix cases t72q7).Pipe).Senders ++ ([(GPost.mk task t72q7 (ix cases t72q7).Value)] : List GPost)) } : Pipe)))), (2, .row 57 (flD dPipe [3, 32, 5] (c2q30.set (ix cases t72q7).Pipe.toNat ({ (ixD c2q30 (ix cases t72q7).Pipe) with Senders := ((ixD c2q30 (ix cases t72q7).Pipe).Senders ++ ([(GPost.mk task t72q7 (ix cases t72q7).Value)] : List GPost)) } : Pipe)))), ((.s 4 0), .dead), (28, .dead)] 1 [2, (.s 4 0), 28] [(.s 4 0), 28] (by kernel_rfl) (ob_stN (P := Try.prog) dPipe [3, 4, 5] [(some (.s 3 (ix cases t72q7).Pipe)), (some (Nm.t 28)), (some (.s 5 (ix cases t72q7).Pipe))] c2q30 (ix cases t72q7).Pipe 5 3 ((0 + ((ix cases t72q7).Pipe).toNat * 5) + 3) k2078 rfl [.own 28 0 ((ixD c2q30 (ix cases t72q7).Pipe).Senders ++ ([(GPost.mk task t72q7 (ix cases t72q7).Value)] : List GPost)).length] ({ (ixD c2q30 (ix cases t72q7).Pipe) with Senders := ((ixD c2q30 (ix cases t72q7).Pipe).Senders ++ ([(GPost.mk task t72q7 (ix cases t72q7).Value)] : List GPost)) } : Pipe) (Nat.le_of_ble_eq_true rfl) (by first | rfl | omega) rfl rfl 2 32 57 55 (by kernel_rfl) rfl) (ghost_A 32 dPipe (c2q30.set (ix cases t72q7).Pipe.toNat ({ (ixD c2q30 (ix cases t72q7).Pipe) with Senders := ((ixD c2q30 (ix cases t72q7).Pipe).Senders ++ ([(GPost.mk task t72q7 (ix cases t72q7).Value)] : List GPost)) } : Pipe)) 2 57 [(some 3), (some 4), (some 5)] [(some (.s 3 (ix cases t72q7).Pipe)), (some (Nm.t 28)), (some (.s 5 (ix cases t72q7).Pipe))] (ix cases t72q7).Pipe (flD dPipe [3, 32, 5] (c2q30.set (ix cases t72q7).Pipe.toNat ({ (ixD c2q30 (ix cases t72q7).Pipe) with Senders := ((ixD c2q30 (ix cases t72q7).Pipe).Senders ++ ([(GPost.mk task t72q7 (ix cases t72q7).Value)] : List GPost)) } : Pipe))) 1 (some 4) (some 28) (by kernel_rfl) (flN_done dPipe [3, 32, 5] (ix cases t72q7).Pipe (c2q30.set (ix cases t72q7).Pipe.toNat ({ (ixD c2q30 (ix cases t72q7).Pipe) with Senders := ((ixD c2q30 (ix cases t72q7).Pipe).Senders ++ ([(GPost.mk task t72q7 (ix cases t72q7).Value)] : List GPost)) } : Pipe)) rfl) (by kernel_rfl) ⟨_, (by kernel_rfl), (off_hole c2q30 (ix cases t72q7).Pipe ({ (ixD c2q30 (ix cases t72q7).Pipe) with Senders := ((ixD c2q30 (ix cases t72q7).Pipe).Senders ++ ([(GPost.mk task t72q7 (ix cases t72q7).Value)] : List GPost)) } : Pipe) k2078 (.dead))⟩ (S_set (fun a => getH _ (.t 28) = chD dPipe 1 a) k2078 rfl)) (by kernel_rfl) (And.intro (born_fam (upI (famD dPipe 1 c2q30) (ix cases t72q7).Pipe (.dead)) (by kernel_rfl)) (And.intro (by kernel_rfl) trivial)) ?_
         refine run_eqS 3 (famD dPipe 0 c2q30) (famD dPipe 0 (c2q30.set (ix cases t72q7).Pipe.toNat ({ (ixD c2q30 (ix cases t72q7).Pipe) with Senders := ((ixD c2q30 (ix cases t72q7).Pipe).Senders ++ ([(GPost.mk task t72q7 (ix cases t72q7).Value)] : List GPost)) } : Pipe))) (famD_same k2078 ({ (ixD c2q30 (ix cases t72q7).Pipe) with Senders := ((ixD c2q30 (ix cases t72q7).Pipe).Senders ++ ([(GPost.mk task t72q7 (ix cases t72q7).Value)] : List GPost)) } : Pipe) rfl) (by kernel_rfl) ?_
         refine run_eqS 5 (famD dPipe 2 c2q30) (famD dPipe 2 (c2q30.set (ix cases t72q7).Pipe.toNat ({ (ixD c2q30 (ix cases t72q7).Pipe) with Senders := ((ixD c2q30 (ix cases t72q7).Pipe).Senders ++ ([(GPost.mk task t72q7 (ix cases t72q7).Value)] : List GPost)) } : Pipe))) (famD_same k2078 ({ (ixD c2q30 (ix cases t72q7).Pipe) with Senders := ((ixD c2q30 (ix cases t72q7).Pipe).Senders ++ ([(GPost.mk task t72q7 (ix cases t72q7).Value)] : List GPost)) } : Pipe) rfl) (by kernel_rfl) ?_
         refine run_eqF 14 (.own 2 0 c2q30.length) (.own 2 0 (c2q30.set (ix cases t72q7).Pipe.toNat ({ (ixD c2q30 (ix cases t72q7).Pipe) with Senders := ((ixD c2q30 (ix cases t72q7).Pipe).Senders ++ ([(GPost.mk task t72q7 (ix cases t72q7).Value)] : List GPost)) } : Pipe)).length) (congrArg (fun nq => (.own 2 0 nq : SV)) (show c2q30.length = (c2q30.set (ix cases t72q7).Pipe.toNat ({ (ixD c2q30 (ix cases t72q7).Pipe) with Senders := ((ixD c2q30 (ix cases t72q7).Pipe).Senders ++ ([(GPost.mk task t72q7 (ix cases t72q7).Value)] : List GPost)) } : Pipe)).length from (List.length_set ..).symm)) (by kernel_rfl) ?_
         refine rt [(1, iS task), (11, .ptr 0 0), (12, .ptr 1 0), (14, .own 2 0 (c2q30.set (ix cases t72q7).Pipe.toNat ({ (ixD c2q30 (ix cases t72q7).Pipe) with Senders := ((ixD c2q30 (ix cases t72q7).Pipe).Senders ++ ([(GPost.mk task t72q7 (ix cases t72q7).Value)] : List GPost)) } : Pipe)).length), (70, .sl cases.length (fl cases)), (71, iS ((cases.length : Nat) : Int)), (72, iS t72q7)] [(0, .row 33 [bS false, bS false, bS false, iS 0, iS 0, .v (.slice none 0 0)]), (1, .row 29 [iS 0, iS 0]), (2, .row 57 (flD dPipe [3, 32, 5] (c2q30.set (ix cases t72q7).Pipe.toNat ({ (ixD c2q30 (ix cases t72q7).Pipe) with Senders := ((ixD c2q30 (ix cases t72q7).Pipe).Senders ++ ([(GPost.mk task t72q7 (ix cases t72q7).Value)] : List GPost)) } : Pipe)))), ((.s 3 0), .fam (famD dPipe 0 (c2q30.set (ix cases t72q7).Pipe.toNat ({ (ixD c2q30 (ix cases t72q7).Pipe) with Senders := ((ixD c2q30 (ix cases t72q7).Pipe).Senders ++ ([(GPost.mk task t72q7 (ix cases t72q7).Value)] : List GPost)) } : Pipe)))), ((.s 4 0), .dead), ((.s 5 0), .fam (famD dPipe 2 (c2q30.set (ix cases t72q7).Pipe.toNat ({ (ixD c2q30 (ix cases t72q7).Pipe) with Senders := ((ixD c2q30 (ix cases t72q7).Pipe).Senders ++ ([(GPost.mk task t72q7 (ix cases t72q7).Value)] : List GPost)) } : Pipe)))), (6, .row 49 (Enc.cells (ix cases t72q7))), (16, .row 92 [iS task, iS t72q7, iS (ix cases t72q7).Value]), (26, .row 92 (fl ([(GPost.mk task t72q7 (ix cases t72q7).Value)] : List GPost))), (28, .dead), ((.s 32 0), .fam (famD dPipe 1 (c2q30.set (ix cases t72q7).Pipe.toNat ({ (ixD c2q30 (ix cases t72q7).Pipe) with Senders := ((ixD c2q30 (ix cases t72q7).Pipe).Senders ++ ([(GPost.mk task t72q7 (ix cases t72q7).Value)] : List GPost)) } : Pipe))))] 34 follows (by kernel_rfl) ?_
         exact hK2070 ((c2q30.set (ix cases t72q7).Pipe.toNat ({ (ixD c2q30 (ix cases t72q7).Pipe) with Senders := ((ixD c2q30 (ix cases t72q7).Pipe).Senders ++ ([(GPost.mk task t72q7 (ix cases t72q7).Value)] : List GPost)) } : Pipe))) _ _ _ h (leSt_m [(0, 0), (1, 1), (2, 2), ((.s 3 0), (.s 3 0)), ((.s 4 0), (.s 32 0)), ((.s 5 0), (.s 5 0))] [] (by simp only [push_cast, leL_flD, renL_flD, seval]) (by simp only [push_cast, leL_flD, renL_flD, seval]) rfl rfl rfl)
        ·refine chk_sx h (fun g2087 h => ?_)
         refine reg_t ?_
         have k2086 : ((ixD c2q30 (ix cases t72q7).Pipe).Getters ++ ([(GPost.mk task t72q7 (ix cases t72q7).Value)] : List GPost)).length * 24 ≤ 140737488355328 := by first | simpa only [Bool.and_eq_true, decide_eq_true_eq, bne_iff_ne, ne_eq] using g2087 | (simp at g2087 ⊢; omega)
         refine rs 10 [none, none, none, none, some ⟨.own (.s 5 (ix cases t72q7).Pipe) 0 (ixD c2q30 (ix cases t72q7).Pipe).Getters.length, [], 24, [2]⟩, none, none, some ⟨.own 28 0 ((ixD c2q30 (ix cases t72q7).Pipe).Getters ++ ([(GPost.mk task t72q7 (ix cases t72q7).Value)] : List GPost)).length, [(28, .row 92 (fl ((ixD c2q30 (ix cases t72q7).Pipe).Getters ++ ([(GPost.mk task t72q7 (ix cases t72q7).Value)] : List GPost)))), ((.s 5 0), .fam (upI (famD dPipe 2 c2q30) (ix cases t72q7).Pipe (.dead)))], 29, [(.s 5 0), 26]⟩] _ (by kernel_rfl) (allP_cons (ob_appM (P := Try.prog) dPipe 2 c2q30 (ix cases t72q7).Pipe 5 (ixD c2q30 (ix cases t72q7).Pipe).Getters ([(GPost.mk task t72q7 (ix cases t72q7).Value)] : List GPost) 3 24 rfl (appCells (fl ([(GPost.mk task t72q7 (ix cases t72q7).Value)] : List GPost)) 0 (([(GPost.mk task t72q7 (ix cases t72q7).Value)] : List GPost).length * 3)) ([(GPost.mk task t72q7 (ix cases t72q7).Value)] : List GPost).length (app_own ([(GPost.mk task t72q7 (ix cases t72q7).Value)] : List GPost) 3 rfl) rfl (0 + ([(GPost.mk task t72q7 (ix cases t72q7).Value)] : List GPost).length * 3 ≤ (fl ([(GPost.mk task t72q7 (ix cases t72q7).Value)] : List GPost)).length) (app_own_le ([(GPost.mk task t72q7 (ix cases t72q7).Value)] : List GPost) 3 rfl) 92 (by kernel_rfl) (by decide) k2086 28 [26]) (allP_cons (ob_ldD dPipe [3, 4, 5] c2q30 (ix cases t72q7).Pipe 5 4 ((0 + ((ix cases t72q7).Pipe).toNat * 5) + 4) k2078 rfl (by decide) (by first | rfl | omega) (dflS Try.prog 55) (.own (.s 5 (ix cases t72q7).Pipe) 0 (ixD c2q30 (ix cases t72q7).Pipe).Getters.length) rfl 24 [2]) allP_nil)) ?_
         refine run_opGb none _ ⟨.any, [(2, .row 57 (flN dPipe (nA [(some 3), (some 4), (some 5)] [(some (.s 3 (ix cases t72q7).Pipe)), (some (.s 4 (ix cases t72q7).Pipe)), (some (Nm.t 28))] (ix cases t72q7).Pipe) 0 (c2q30.set (ix cases t72q7).Pipe.toNat ({ (ixD c2q30 (ix cases t72q7).Pipe) with Getters := ((ixD c2q30 (ix cases t72q7).Pipe).Getters ++ ([(GPost.mk task t72q7 (ix cases t72q7).Value)] : List GPost)) } : Pipe))))], 32, [2]⟩ [((.s 32 0), .fam (famD dPipe 2 (c2q30.set (ix cases t72q7).Pipe.toNat ({ (ixD c2q30 (ix cases t72q7).Pipe) with Getters := ((ixD c2q30 (ix cases t72q7).Pipe).Getters ++ ([(GPost.mk task t72q7 (ix cases t72q7).Value)] : List GPost)) } : Pipe)))), (2, .row 57 (flD dPipe [3, 4, 32] (c2q30.set (ix cases t72q7).Pipe.toNat ({ (ixD c2q30 (ix cases t72q7).Pipe) with Getters := ((ixD c2q30 (ix cases t72q7).Pipe).Getters ++ ([(GPost.mk task t72q7 (ix cases t72q7).Value)] : List GPost)) } : Pipe)))), ((.s 5 0), .dead), (28, .dead)] 1 [2, (.s 5 0), 28] [(.s 5 0), 28] (by kernel_rfl) (ob_stN (P := Try.prog) dPipe [3, 4, 5] [(some (.s 3 (ix cases t72q7).Pipe)), (some (.s 4 (ix cases t72q7).Pipe)), (some (Nm.t 28))] c2q30 (ix cases t72q7).Pipe 5 4 ((0 + ((ix cases t72q7).Pipe).toNat * 5) + 4) k2078 rfl [.own 28 0 ((ixD c2q30 (ix cases t72q7).Pipe).Getters ++ ([(GPost.mk task t72q7 (ix cases t72q7).Value)] : List GPost)).length] ({ (ixD c2q30 (ix cases t72q7).Pipe) with Getters := ((ixD c2q30 (ix cases t72q7).Pipe).Getters ++ ([(GPost.mk task t72q7 (ix cases t72q7).Value)] : List GPost)) } : Pipe) (Nat.le_of_ble_eq_true rfl) (by first | rfl | omega) rfl rfl 2 32 57 55 (by kernel_rfl) rfl) (ghost_A 32 dPipe (c2q30.set (ix cases t72q7).Pipe.toNat ({ (ixD c2q30 (ix cases t72q7).Pipe) with Getters := ((ixD c2q30 (ix cases t72q7).Pipe).Getters ++ ([(GPost.mk task t72q7 (ix cases t72q7).Value)] : List GPost)) } : Pipe)) 2 57 [(some 3), (some 4), (some 5)] [(some (.s 3 (ix cases t72q7).Pipe)), (some (.s 4 (ix cases t72q7).Pipe)), (some (Nm.t 28))] (ix cases t72q7).Pipe (flD dPipe [3, 4, 32] (c2q30.set (ix cases t72q7).Pipe.toNat ({ (ixD c2q30 (ix cases t72q7).Pipe) with Getters := ((ixD c2q30 (ix cases t72q7).Pipe).Getters ++ ([(GPost.mk task t72q7 (ix cases t72q7).Value)] : List GPost)) } : Pipe))) 2 (some 5) (some 28) (by kernel_rfl) (flN_done dPipe [3, 4, 32] (ix cases t72q7).Pipe (c2q30.set (ix cases t72q7).Pipe.toNat ({ (ixD c2q30 (ix cases t72q7).Pipe) with Getters := ((ixD c2q30 (ix cases t72q7).Pipe).Getters ++ ([(GPost.mk task t72q7 (ix cases t72q7).Value)] : List GPost)) } : Pipe)) rfl) (by kernel_rfl) ⟨_, (by kernel_rfl), (off_hole c2q30 (ix cases t72q7).Pipe ({ (ixD c2q30 (ix cases t72q7).Pipe) with Getters := ((ixD c2q30 (ix cases t72q7).Pipe).Getters ++ ([(GPost.mk task t72q7 (ix cases t72q7).Value)] : List GPost)) } : Pipe) k2078 (.dead))⟩ (S_set (fun a => getH _ (.t 28) = chD dPipe 2 a) k2078 rfl)) (by kernel_rfl) (And.intro (born_fam (upI (famD dPipe 2 c2q30) (ix cases t72q7).Pipe (.dead)) (by kernel_rfl)) (And.intro (by kernel_rfl) trivial)) ?_
         refine run_eqS 3 (famD dPipe 0 c2q30) (famD dPipe 0 (c2q30.set (ix cases t72q7).Pipe.toNat ({ (ixD c2q30 (ix cases t72q7).Pipe) with Getters := ((ixD c2q30 (ix cases t72q7).Pipe).Getters ++ ([(GPost.mk task t72q7 (ix cases t72q7).Value)] : List GPost)) } : Pipe))) (famD_same k2078 ({ (ixD c2q30 (ix cases t72q7).Pipe) with Getters := ((ixD c2q30 (ix cases t72q7).Pipe).Getters ++ ([(GPost.mk task t72q7 (ix cases t72q7).Value)] : List GPost)) } : Pipe) rfl) (by kernel_rfl) ?_
         refine run_eqS 4 (famD dPipe 1 c2q30) (famD dPipe 1 (c2q30.set (ix cases t72q7).Pipe.toNat ({ (ixD c2q30 (ix cases t72q7).Pipe) with Getters := ((ixD c2q30 (ix cases t72q7).Pipe).Getters ++ ([(GPost.mk task t72q7 (ix cases t72q7).Value)] : List GPost)) } : Pipe))) (famD_same k2078 ({ (ixD c2q30 (ix cases t72q7).Pipe) with Getters := ((ixD c2q30 (ix cases t72q7).Pipe).Getters ++ ([(GPost.mk task t72q7 (ix cases t72q7).Value)] : List GPost)) } : Pipe) rfl) (by kernel_rfl) ?_
         refine run_eqF 14 (.own 2 0 c2q30.length) (.own 2 0 (c2q30.set (ix cases t72q7).Pipe.toNat ({ (ixD c2q30 (ix cases t72q7).Pipe) with Getters := ((ixD c2q30 (ix cases t72q7).Pipe).Getters ++ ([(GPost.mk task t72q7 (ix cases t72q7).Value)] : List GPost)) } : Pipe)).length) (congrArg (fun nq => (.own 2 0 nq : SV)) (show c2q30.length = (c2q30.set (ix cases t72q7).Pipe.toNat ({ (ixD c2q30 (ix cases t72q7).Pipe) with Getters := ((ixD c2q30 (ix cases t72q7).Pipe).Getters ++ ([(GPost.mk task t72q7 (ix cases t72q7).Value)] : List GPost)) } : Pipe)).length from (List.length_set ..).symm)) (by kernel_rfl) ?_
         refine rt [(1, iS task), (11, .ptr 0 0), (12, .ptr 1 0), (14, .own 2 0 (c2q30.set (ix cases t72q7).Pipe.toNat ({ (ixD c2q30 (ix cases t72q7).Pipe) with Getters := ((ixD c2q30 (ix cases t72q7).Pipe).Getters ++ ([(GPost.mk task t72q7 (ix cases t72q7).Value)] : List GPost)) } : Pipe)).length), (70, .sl cases.length (fl cases)), (71, iS ((cases.length : Nat) : Int)), (72, iS t72q7)] [(0, .row 33 [bS false, bS false, bS false, iS 0, iS 0, .v (.slice none 0 0)]), (1, .row 29 [iS 0, iS 0]), (2, .row 57 (flD dPipe [3, 4, 32] (c2q30.set (ix cases t72q7).Pipe.toNat ({ (ixD c2q30 (ix cases t72q7).Pipe) with Getters := ((ixD c2q30 (ix cases t72q7).Pipe).Getters ++ ([(GPost.mk task t72q7 (ix cases t72q7).Value)] : List GPost)) } : Pipe)))), ((.s 3 0), .fam (famD dPipe 0 (c2q30.set (ix cases t72q7).Pipe.toNat ({ (ixD c2q30 (ix cases t72q7).Pipe) with Getters := ((ixD c2q30 (ix cases t72q7).Pipe).Getters ++ ([(GPost.mk task t72q7 (ix cases t72q7).Value)] : List GPost)) } : Pipe)))), ((.s 4 0), .fam (famD dPipe 1 (c2q30.set (ix cases t72q7).Pipe.toNat ({ (ixD c2q30 (ix cases t72q7).Pipe) with Getters := ((ixD c2q30 (ix cases t72q7).Pipe).Getters ++ ([(GPost.mk task t72q7 (ix cases t72q7).Value)] : List GPost)) } : Pipe)))), ((.s 5 0), .dead), (6, .row 49 (Enc.cells (ix cases t72q7))), (16, .row 92 [iS task, iS t72q7, iS (ix cases t72q7).Value]), (26, .row 92 (fl ([(GPost.mk task t72q7 (ix cases t72q7).Value)] : List GPost))), (28, .dead), ((.s 32 0), .fam (famD dPipe 2 (c2q30.set (ix cases t72q7).Pipe.toNat ({ (ixD c2q30 (ix cases t72q7).Pipe) with Getters := ((ixD c2q30 (ix cases t72q7).Pipe).Getters ++ ([(GPost.mk task t72q7 (ix cases t72q7).Value)] : List GPost)) } : Pipe))))] 34 follows (by kernel_rfl) ?_
         exact hK2070 ((c2q30.set (ix cases t72q7).Pipe.toNat ({ (ixD c2q30 (ix cases t72q7).Pipe) with Getters := ((ixD c2q30 (ix cases t72q7).Pipe).Getters ++ ([(GPost.mk task t72q7 (ix cases t72q7).Value)] : List GPost)) } : Pipe))) _ _ _ h (leSt_m [(0, 0), (1, 1), (2, 2), ((.s 3 0), (.s 3 0)), ((.s 4 0), (.s 4 0)), ((.s 5 0), (.s 32 0))] [] (by simp only [push_cast, leL_flD, renL_flD, seval]) (by simp only [push_cast, leL_flD, renL_flD, seval]) rfl rfl rfl)
      ·rintro c2q32 h
       try dsimp only at h ⊢
       unfold pick_Pick_j1 at h
       refine wk_id ?_
       refine reg_f ?_
       refine rs 2 [] [] (by kernel_rfl) allP_nil ?_
       refine rf [(1, iS task), (11, .ptr 0 0), (12, .ptr 1 0), (14, .own 2 0 c2q32.length), (70, .sl cases.length (fl cases)), (71, iS ((cases.length : Nat) : Int)), (72, iS (IntKind.i64.wrap (t72q7 + 1)))] [(0, .row 33 [bS false, bS false, bS false, iS 0, iS 0, .v (.slice none 0 0)]), (1, .row 29 [iS 0, iS 0]), (2, .row 57 (flD dPipe [3, 4, 5] c2q32)), ((.s 3 0), .fam (famD dPipe 0 c2q32)), ((.s 4 0), .fam (famD dPipe 1 c2q32)), ((.s 5 0), .fam (famD dPipe 2 c2q32))] 6 (by kernel_rfl) ?_
       exact hn4 ((IntKind.i64.wrap (t72q7 + 1)), c2q32) _ _ _ (Option.some.inj h).symm (leSt_m [(0, 0), (1, 1), (2, 2), ((.s 3 0), (.s 3 0)), ((.s 4 0), (.s 4 0)), ((.s 5 0), (.s 5 0))] [] (by simp only [push_cast, leL_flD, renL_flD, seval]) (by simp only [push_cast, leL_flD, renL_flD, seval]) rfl rfl rfl)
     ·change R4 (.exit 2) _ _ _
      refine ex_cast hx4 (id := 2) ?_
      obtain ⟨r0, h, e0⟩ := map_sx h
      have e1 := hr4 r0 e0.symm
      subst r0
      refine wk_id ?_
      refine wk_id ?_
      refine seq_np ?_
      refine reg_f ?_
      refine rs 6 [] [] (by kernel_rfl) allP_nil ?_
      refine rf [(10, .own 2 0 c2q30.length), (11, .ptr 0 0), (12, .ptr 1 0)] [(0, .row 33 [bS false, bS false, bS false, iS 0, iS 0, .v (.slice none 0 0)]), (1, .row 29 [iS 0, iS 0]), (2, .row 57 (flD dPipe [3, 4, 5] c2q30)), ((.s 3 0), .fam (famD dPipe 0 c2q30)), ((.s 4 0), .fam (famD dPipe 1 c2q30)), ((.s 5 0), .fam (famD dPipe 2 c2q30))] 6 (by kernel_rfl) ?_
      refine wk_id ?_
      obtain rfl := Option.some.inj h
      refine ret_at (.tup [.own 2 0 c2q30.length, .agg [bS false, bS false, bS false, iS 0, iS 0, .v (.slice none 0 0)], .agg [iS 0, iS 0]]) (by kernel_rfl) ?_
      exact ret_e [(0, 2), ((.s 2 0), (.s 3 0)), ((.s 3 0), (.s 4 0)), ((.s 4 0), (.s 5 0))] [] (by simp only [push_cast, leL_flD, renL_flD, seval]) (by simp only [push_cast, leL_flD, renL_flD, seval]) rfl rfl rfl

set_option maxRecDepth 100000 in
set_option maxHeartbeats 200000000 in
theorem taskmillref_Ints_spec (xa : (List Int)) (b : (List Int)) (r : Bool) (h : taskmillref_Ints xa b = some r) : SpecW Try.prog 24 [.sl xa.length (fl xa), .sl b.length (fl b)] [] 0 (fun x h n => x = bS r ∧ h = [] ∧ n = 0) := by
 unfold taskmillref_Ints at h
 refine spec_of (draw_ok _) Try.func24 rfl (by decide) rfl (by kernel_rfl) ?_
 refine seq_np ?_
 refine reg_f ?_
 refine rs 1 [] [] (by kernel_rfl) allP_nil ?_
 refine rf [(0, .sl xa.length (fl xa)), (1, .sl b.length (fl b))] [] 0 (by kernel_rfl) ?_
 refine wk_id ?_
 refine seq_np ?_
 refine seq_np ?_
 refine reg_f ?_
 refine rs 5 [] [] (by kernel_rfl) allP_nil ?_
 refine rf [(0, .sl xa.length (fl xa)), (1, .sl b.length (fl b)), (10, bS (((xa.length : Nat) : Int) != ((b.length : Nat) : Int)))] [] 0 (by kernel_rfl) ?_
 refine wk_id ?_
 refine cond_sx h (by kernel_rfl) (fun g2195 h => ?_) (fun g2195 h => ?_)
 ·refine seq_np ?_
  refine reg_f ?_
  refine rs 1 [] [] (by kernel_rfl) allP_nil ?_
  refine rf [(4, bS false)] [] 0 (by kernel_rfl) ?_
  refine wk_id ?_
  obtain rfl := Option.some.inj h
  refine ret_at (bS false) (by kernel_rfl) ?_
  exact ret_e [] [] (by simp only [push_cast, leL_flD, renL_flD, seval]) (by simp only [push_cast, leL_flD, renL_flD, seval]) rfl rfl rfl
 ·refine wk_id ?_
  refine seq_np ?_
  refine seq_np ?_
  refine reg_f ?_
  refine rs 1 [] [] (by kernel_rfl) allP_nil ?_
  refine rf [(0, .sl xa.length (fl xa)), (1, .sl b.length (fl b)), (5, iS 0)] [] 0 (by kernel_rfl) ?_
  refine wk_id ?_
  refine block_np ?_
  refine loop_sx (S := Int) (fun a => ([(0, .sl xa.length (fl xa)), (1, .sl b.length (fl b)), (5, iS a)], [], 0)) h (leSt_m [] [] (by simp only [push_cast, leL_flD, renL_flD, seval]) (by simp only [push_cast, leL_flD, renL_flD, seval]) rfl rfl rfl) ?_
  rintro i7 o2 R2 h hr2 hn2 hx2 ht2
  try dsimp only at h hn2 ⊢
  unfold taskmillref_Ints_l1 at h
  try dsimp only at h
  refine seq_np ?_
  refine seq_np ?_
  refine reg_f ?_
  refine rs 4 [] [] (by kernel_rfl) allP_nil ?_
  refine rf [(0, .sl xa.length (fl xa)), (1, .sl b.length (fl b)), (5, iS i7), (14, bS (decide (i7 < ((xa.length : Nat) : Int))))] [] 0 (by kernel_rfl) ?_
  refine wk_id ?_
  refine cond_sx h (by kernel_rfl) (fun g2194 h => ?_) (fun g2194 h => ?_)
  ·refine wk_id ?_
   refine seq_np ?_
   refine block_np ?_
   refine chk_sx h (fun g2190 h => ?_)
   refine chk_sx h (fun g2192 h => ?_)
   refine seq_np ?_
   refine reg_t ?_
   have k2189 : 0 ≤ i7 ∧ i7 < ((xa.length : Nat) : Int) := by first | simpa only [Bool.and_eq_true, decide_eq_true_eq, bne_iff_ne, ne_eq] using g2190 | (simp at g2190 ⊢; omega)
   have k2191 : 0 ≤ i7 ∧ i7 < ((b.length : Nat) : Int) := by first | simpa only [Bool.and_eq_true, decide_eq_true_eq, bne_iff_ne, ne_eq] using g2192 | (simp at g2192 ⊢; omega)
   refine rs 9 [none, none, some ⟨.iptr (fl xa) ((i7).toNat * 1), [], 2, []⟩, some ⟨iS (ix xa i7), [], 3, []⟩, none, none, some ⟨.iptr (fl b) ((i7).toNat * 1), [], 6, []⟩, some ⟨iS (ix b i7), [], 7, []⟩] _ (by kernel_rfl) (allP_cons (ob_ld b i7 1 0 ((i7).toNat * 1) k2191 rfl (by decide) (by first | rfl | omega) (dflS Try.prog 3) (iS (ix b i7)) rfl 7 []) (allP_cons (ob_ix_l b 1 6 i7 k2191) (allP_cons (ob_ld xa i7 1 0 ((i7).toNat * 1) k2189 rfl (by decide) (by first | rfl | omega) (dflS Try.prog 3) (iS (ix xa i7)) rfl 3 []) (allP_cons (ob_ix_l xa 1 2 i7 k2189) allP_nil)))) ?_
   refine rt [(0, .sl xa.length (fl xa)), (1, .sl b.length (fl b)), (5, iS i7), (25, bS ((ix xa i7) != (ix b i7)))] [] 9 follows (by kernel_rfl) ?_
   refine wk_id ?_
   refine cond_sx h (by kernel_rfl) (fun g2193 h => ?_) (fun g2193 h => ?_)
   ·refine seq_np ?_
    refine reg_f ?_
    refine rs 1 [] [] (by kernel_rfl) allP_nil ?_
    refine rf [(4, bS false)] [] 9 (by kernel_rfl) ?_
    refine wk_id ?_
    refine rt_cast ht2 ?_
    obtain ⟨r0, h, e0⟩ := map_sx h
    have e1 := hr2 r0 e0.symm
    subst r0
    obtain rfl := Option.some.inj h
    refine ret_at (bS false) (by kernel_rfl) ?_
    exact ret_e [] [] (by simp only [push_cast, leL_flD, renL_flD, seval]) (by simp only [push_cast, leL_flD, renL_flD, seval]) rfl rfl rfl
   ·refine wk_id ?_
    refine wk_id ?_
    refine reg_f ?_
    refine rs 3 [] [] (by kernel_rfl) allP_nil ?_
    refine rf [(0, .sl xa.length (fl xa)), (1, .sl b.length (fl b)), (5, iS (IntKind.i64.wrap (i7 + 1)))] [] 9 (by kernel_rfl) ?_
    exact hn2 ((IntKind.i64.wrap (i7 + 1))) _ _ _ (Option.some.inj h).symm (leSt_m [] [] (by simp only [push_cast, leL_flD, renL_flD, seval]) (by simp only [push_cast, leL_flD, renL_flD, seval]) rfl rfl rfl)
  ·change R2 (.exit 0) _ _ _
   refine ex_cast hx2 (id := 0) ?_
   obtain ⟨r0, h, e0⟩ := map_sx h
   have e1 := hr2 r0 e0.symm
   subst r0
   refine wk_id ?_
   refine wk_id ?_
   refine seq_np ?_
   refine reg_f ?_
   refine rs 1 [] [] (by kernel_rfl) allP_nil ?_
   refine rf [(4, bS true)] [] 0 (by kernel_rfl) ?_
   refine wk_id ?_
   obtain rfl := Option.some.inj h
   refine ret_at (bS true) (by kernel_rfl) ?_
   exact ret_e [] [] (by simp only [push_cast, leL_flD, renL_flD, seval]) (by simp only [push_cast, leL_flD, renL_flD, seval]) rfl rfl rfl

set_option maxRecDepth 100000 in
set_option maxHeartbeats 200000000 in
theorem taskmilllaw_pickBegun_spec (r : Bool) (h : taskmilllaw_pickBegun = some r) : SpecW Try.prog 9 [] [] 0 (fun x h n => x = bS r ∧ h = [] ∧ n = 0) := by
 unfold taskmilllaw_pickBegun at h
 refine spec_of (draw_ok _) Try.func9 rfl (by decide) rfl (by kernel_rfl) ?_
 refine seq_np ?_
 refine reg_f ?_
 refine rs 1 [] [] (by kernel_rfl) allP_nil ?_
 refine rf [] [] 0 (by kernel_rfl) ?_
 refine wk_id ?_
 refine seq_np ?_
 refine reg_f ?_
 refine rs 2 [] [] (by kernel_rfl) allP_nil ?_
 refine run_nilF (some 7) 2 57 [iS 1, .v (.slice none 0 0), bS false, .v (.slice none 0 0), .v (.slice none 0 0), iS 1, .v (.slice none 0 0), bS false, .v (.slice none 0 0), .v (.slice none 0 0)] (fl ([(Pipe.mk 1 [] false [] []), (Pipe.mk 1 [] false [] [])] : List Pipe)) (by kernel_rfl) rfl rfl ?_
 refine rs 1 [] [] (by kernel_rfl) allP_nil ?_
 refine rf [(1, .own 0 0 ([(Pipe.mk 1 [] false [] []), (Pipe.mk 1 [] false [] [])] : List Pipe).length)] [(0, .row 57 (fl ([(Pipe.mk 1 [] false [] []), (Pipe.mk 1 [] false [] [])] : List Pipe)))] 1 (by kernel_rfl) ?_
 refine wk_id ?_
 refine seq_np ?_
 refine reg_f ?_
 refine rs 5 [] [] (by kernel_rfl) allP_nil ?_
 obtain ⟨r2200, hr2200, h⟩ := bind_sx h
 refine call_x (SpecW.give (SpecW.give (SpecW.give (pick_Pick_spec ([(Pipe.mk 1 [] false [] []), (Pipe.mk 1 [] false [] [])] : List Pipe) 1 ([(GCase.mk 0 false 0), (GCase.mk 1 true 5)] : List GCase) ([0, 1] : List Int) false r2200 hr2200) [(0, .row 57 (fl ([(Pipe.mk 1 [] false [] []), (Pipe.mk 1 [] false [] [])] : List Pipe)))] [.own 0 0 ([(Pipe.mk 1 [] false [] []), (Pipe.mk 1 [] false [] [])] : List Pipe).length, iS 1, .sl ([(GCase.mk 0 false 0), (GCase.mk 1 true 5)] : List GCase).length (fl ([(GCase.mk 0 false 0), (GCase.mk 1 true 5)] : List GCase)), .sl ([0, 1] : List Int).length (fl ([0, 1] : List Int)), bS false] [] (.tup [.own 1 0 r2200.2.2.2.2.2.2.1.length, .agg [bS r2200.1, bS r2200.2.1, bS r2200.2.2.1, iS r2200.2.2.2.1, iS r2200.2.2.2.2.1, .own 2 0 r2200.2.2.2.2.2.2.2.length], .agg (Enc.cells r2200.2.2.2.2.2.1)]) [(1, .row 57 (flD dPipe [3, 4, 5] r2200.2.2.2.2.2.2.1)), (2, .row 64 (fl r2200.2.2.2.2.2.2.2)), ((.s 3 0), .fam (famD dPipe 0 r2200.2.2.2.2.2.2.1)), ((.s 4 0), .fam (famD dPipe 1 r2200.2.2.2.2.2.2.1)), ((.s 5 0), .fam (famD dPipe 2 r2200.2.2.2.2.2.2.1))] (by first | simp only [push_cast, leL_flD, renL_flD, seval] | simp only [push_cast, List.mem_singleton, true_and, and_true, leL_flD, renL_flD, seval]) (by simp only [push_cast, leL_flD, renL_flD, seval]) (by simp only [push_cast, leL_flD, renL_flD, seval]) (by simp only [push_cast, leL_flD, renL_flD, seval]) rfl (by first | (simp only [push_cast, leL_flD, renL_flD, seval]; done) | (simp only [push_cast, leL_flD, renL_flD, seval]; kernel_rfl) | kernel_rfl) (by first | (simp only [push_cast, leL_flD, renL_flD, seval]; done) | (simp only [push_cast, leL_flD, renL_flD, seval]; kernel_rfl) | kernel_rfl) rfl) [(0, .row 57 (fl ([(Pipe.mk 1 [] false [] []), (Pipe.mk 1 [] false [] [])] : List Pipe))), (1, .row 49 (fl ([(GCase.mk 0 false 0), (GCase.mk 1 true 5)] : List GCase)))] [.own 0 0 ([(Pipe.mk 1 [] false [] []), (Pipe.mk 1 [] false [] [])] : List Pipe).length, iS 1, .own 1 0 ([(GCase.mk 0 false 0), (GCase.mk 1 true 5)] : List GCase).length, .sl ([0, 1] : List Int).length (fl ([0, 1] : List Int)), bS false] [(0, 0)] (.tup [.own 3 0 r2200.2.2.2.2.2.2.1.length, .agg [bS r2200.1, bS r2200.2.1, bS r2200.2.2.1, iS r2200.2.2.2.1, iS r2200.2.2.2.2.1, .own 4 0 r2200.2.2.2.2.2.2.2.length], .agg (Enc.cells r2200.2.2.2.2.2.1)]) [(3, .row 57 (flD dPipe [5, 6, 7] r2200.2.2.2.2.2.2.1)), (4, .row 64 (fl r2200.2.2.2.2.2.2.2)), ((.s 5 0), .fam (famD dPipe 0 r2200.2.2.2.2.2.2.1)), ((.s 6 0), .fam (famD dPipe 1 r2200.2.2.2.2.2.2.1)), ((.s 7 0), .fam (famD dPipe 2 r2200.2.2.2.2.2.2.1)), (0, .dead)] (by first | simp only [push_cast, leL_flD, renL_flD, seval] | simp only [push_cast, List.mem_singleton, true_and, and_true, leL_flD, renL_flD, seval]) (by simp only [push_cast, leL_flD, renL_flD, seval]) (by simp only [push_cast, leL_flD, renL_flD, seval]) (by simp only [push_cast, leL_flD, renL_flD, seval]) rfl (by first | (simp only [push_cast, leL_flD, renL_flD, seval]; done) | (simp only [push_cast, leL_flD, renL_flD, seval]; kernel_rfl) | kernel_rfl) (by first | (simp only [push_cast, leL_flD, renL_flD, seval]; done) | (simp only [push_cast, leL_flD, renL_flD, seval]; kernel_rfl) | kernel_rfl) rfl) [(0, .row 57 (fl ([(Pipe.mk 1 [] false [] []), (Pipe.mk 1 [] false [] [])] : List Pipe))), (1, .row 49 (fl ([(GCase.mk 0 false 0), (GCase.mk 1 true 5)] : List GCase))), (2, .row 3 (fl ([0, 1] : List Int)))] [.own 0 0 ([(Pipe.mk 1 [] false [] []), (Pipe.mk 1 [] false [] [])] : List Pipe).length, iS 1, .own 1 0 ([(GCase.mk 0 false 0), (GCase.mk 1 true 5)] : List GCase).length, .own 2 0 ([0, 1] : List Int).length, bS false] [(0, 0), (1, 1)] (.tup [.own 6 0 r2200.2.2.2.2.2.2.1.length, .agg [bS r2200.1, bS r2200.2.1, bS r2200.2.2.1, iS r2200.2.2.2.1, iS r2200.2.2.2.2.1, .own 7 0 r2200.2.2.2.2.2.2.2.length], .agg (Enc.cells r2200.2.2.2.2.2.1)]) [(6, .row 57 (flD dPipe [8, 9, 10] r2200.2.2.2.2.2.2.1)), (7, .row 64 (fl r2200.2.2.2.2.2.2.2)), ((.s 8 0), .fam (famD dPipe 0 r2200.2.2.2.2.2.2.1)), ((.s 9 0), .fam (famD dPipe 1 r2200.2.2.2.2.2.2.1)), ((.s 10 0), .fam (famD dPipe 2 r2200.2.2.2.2.2.2.1)), (0, .dead), (0, .dead), (1, .dead)] (by first | simp only [push_cast, leL_flD, renL_flD, seval] | simp only [push_cast, List.mem_singleton, true_and, and_true, leL_flD, renL_flD, seval]) (by simp only [push_cast, leL_flD, renL_flD, seval]) (by simp only [push_cast, leL_flD, renL_flD, seval]) (by simp only [push_cast, leL_flD, renL_flD, seval]) rfl (by first | (simp only [push_cast, leL_flD, renL_flD, seval]; done) | (simp only [push_cast, leL_flD, renL_flD, seval]; kernel_rfl) | kernel_rfl) (by first | (simp only [push_cast, leL_flD, renL_flD, seval]; done) | (simp only [push_cast, leL_flD, renL_flD, seval]; kernel_rfl) | kernel_rfl) rfl) (args := [.own 0 0 ([(Pipe.mk 1 [] false [] []), (Pipe.mk 1 [] false [] [])] : List Pipe).length, iS 1, .own 1 0 ([(GCase.mk 0 false 0), (GCase.mk 1 true 5)] : List GCase).length, .own 2 0 ([0, 1] : List Int).length, bS false]) (dst := (some 14)) (by kernel_rfl) [(0, .row 57 (fl ([(Pipe.mk 1 [] false [] []), (Pipe.mk 1 [] false [] [])] : List Pipe))), (1, .row 49 (fl ([(GCase.mk 0 false 0), (GCase.mk 1 true 5)] : List GCase))), (2, .row 3 (fl ([0, 1] : List Int)))] 3 (by kernel_rfl) [(0, 0), (1, 1), (2, 2)] [] (.tup [.own 9 0 r2200.2.2.2.2.2.2.1.length, .agg [bS r2200.1, bS r2200.2.1, bS r2200.2.2.1, iS r2200.2.2.2.1, iS r2200.2.2.2.2.1, .own 10 0 r2200.2.2.2.2.2.2.2.length], .agg (Enc.cells r2200.2.2.2.2.2.1)]) [(9, .row 57 (flD dPipe [11, 12, 13] r2200.2.2.2.2.2.2.1)), (10, .row 64 (fl r2200.2.2.2.2.2.2.2)), ((.s 11 0), .fam (famD dPipe 0 r2200.2.2.2.2.2.2.1)), ((.s 12 0), .fam (famD dPipe 1 r2200.2.2.2.2.2.2.1)), ((.s 13 0), .fam (famD dPipe 2 r2200.2.2.2.2.2.2.1)), (0, .dead), (0, .dead), (1, .dead), (0, .dead), (1, .dead), (2, .dead)] (by simp only [push_cast, leL_flD, renL_flD, seval]) (by simp only [push_cast, leL_flD, renL_flD, seval]) (by kernel_rfl) (.inl rfl) (by first | (simp only [push_cast, leL_flD, renL_flD, seval]; done) | (simp only [push_cast, leL_flD, renL_flD, seval]; kernel_rfl) | kernel_rfl) (by first | (simp only [push_cast, leL_flD, renL_flD, seval]; done) | (simp only [push_cast, leL_flD, renL_flD, seval]; kernel_rfl) | kernel_rfl) ?_
 refine rs 9 [] [] (by kernel_rfl) allP_nil ?_
 refine rf [(2, .own 9 0 r2200.2.2.2.2.2.2.1.length), (3, .ptr 14 0), (4, .ptr 15 0)] [(0, .dead), (1, .dead), (2, .dead), (9, .row 57 (flD dPipe [11, 12, 13] r2200.2.2.2.2.2.2.1)), (10, .row 64 (fl r2200.2.2.2.2.2.2.2)), ((.s 11 0), .fam (famD dPipe 0 r2200.2.2.2.2.2.2.1)), ((.s 12 0), .fam (famD dPipe 1 r2200.2.2.2.2.2.2.1)), ((.s 13 0), .fam (famD dPipe 2 r2200.2.2.2.2.2.2.1)), (14, .row 33 [bS r2200.1, bS r2200.2.1, bS r2200.2.2.1, iS r2200.2.2.2.1, iS r2200.2.2.2.2.1, .own 10 0 r2200.2.2.2.2.2.2.2.length]), (15, .row 29 (Enc.cells r2200.2.2.2.2.2.1))] 16 (by kernel_rfl) ?_
 refine wk_id ?_
 refine seq_cut (A := Bool) (fun a => ([(0, bS a)], [], 0)) (fun a => (taskmilllaw_pickBegun_j1 a) = some r) (fun K2209 hK2209 => ?_) ?_
 ·refine reg_f ?_
  refine rs 4 [] [] (by kernel_rfl) allP_nil ?_
  refine run_br h 21 (.inl (by kernel_rfl)) (fun g2210 h => ?_) (fun g2210 h => ?_)
  ·refine rs 4 [] [] (by kernel_rfl) allP_nil ?_
   refine run_br h 25 (.inl (by kernel_rfl)) (fun g2211 h => ?_) (fun g2211 h => ?_)
   ·refine rs 5 [] [] (by kernel_rfl) allP_nil ?_
    refine run_br h 30 (.inl (by kernel_rfl)) (fun g2212 h => ?_) (fun g2212 h => ?_)
    ·refine rn 13 [(2, .own 9 0 r2200.2.2.2.2.2.2.1.length), (30, bS true)] [(0, .dead), (1, .dead), (2, .dead), (9, .row 57 (flD dPipe [11, 12, 13] r2200.2.2.2.2.2.2.1)), (10, .row 64 (fl r2200.2.2.2.2.2.2.2)), ((.s 11 0), .fam (famD dPipe 0 r2200.2.2.2.2.2.2.1)), ((.s 12 0), .fam (famD dPipe 1 r2200.2.2.2.2.2.2.1)), ((.s 13 0), .fam (famD dPipe 2 r2200.2.2.2.2.2.2.1)), (14, .row 33 [bS r2200.1, bS r2200.2.1, bS r2200.2.2.1, iS r2200.2.2.2.1, iS r2200.2.2.2.2.1, .own 10 0 r2200.2.2.2.2.2.2.2.length]), (15, .row 29 (Enc.cells r2200.2.2.2.2.2.1))] 16 (by kernel_rfl) ?_
     refine rs 5 [] [] (by kernel_rfl) allP_nil ?_
     refine run_br h 35 (.inl (by kernel_rfl)) (fun g2213 h => ?_) (fun g2213 h => ?_)
     ·refine chk_sx h (fun g2215 h => ?_)
      have k2214 : 0 ≤ (1 : Int) ∧ (1 : Int) < ((r2200.2.2.2.2.2.2.1.length : Nat) : Int) := by first | simpa only [Bool.and_eq_true, decide_eq_true_eq, bne_iff_ne, ne_eq] using g2215 | (simp at g2215 ⊢; omega)
      refine rs 5 [none, some ⟨.ptr 9 (0 + ((1 : Int)).toNat * 5), [], 16, [9]⟩, none, some ⟨.own (.s 11 (1 : Int)) 0 (ixD r2200.2.2.2.2.2.2.1 (1 : Int)).Items.length, [], 16, [9]⟩] _ (by kernel_rfl) (allP_cons (ob_ldD dPipe [11, 12, 13] r2200.2.2.2.2.2.2.1 (1 : Int) 5 1 ((0 + ((1 : Int)).toNat * 5) + 1) k2214 rfl (by decide) (by first | rfl | omega) (dflS Try.prog 24) (.own (.s 11 (1 : Int)) 0 (ixD r2200.2.2.2.2.2.2.1 (1 : Int)).Items.length) rfl 16 [9]) (allP_cons (ob_ix_o 9 r2200.2.2.2.2.2.2.1.length 0 5 16 1 k2214) allP_nil)) ?_
      obtain ⟨r2216, hr2216, h⟩ := bind_sx h
      refine call_x (taskmillref_Ints_spec (ixD r2200.2.2.2.2.2.2.1 (1 : Int)).Items ([5] : List Int) r2216 hr2216) (args := [.own (.s 11 (1 : Int)) 0 (ixD r2200.2.2.2.2.2.2.1 (1 : Int)).Items.length, .own 16 0 ([5] : List Int).length]) (dst := (some 41)) (by kernel_rfl) [(0, .dead), (1, .dead), (2, .dead), (9, .row 57 (flD dPipe [11, 12, 13] r2200.2.2.2.2.2.2.1)), (10, .row 64 (fl r2200.2.2.2.2.2.2.2)), ((.s 11 0), .fam (famD dPipe 0 r2200.2.2.2.2.2.2.1)), ((.s 12 0), .fam (famD dPipe 1 r2200.2.2.2.2.2.2.1)), ((.s 13 0), .fam (famD dPipe 2 r2200.2.2.2.2.2.2.1)), (14, .row 33 [bS r2200.1, bS r2200.2.1, bS r2200.2.2.1, iS r2200.2.2.2.1, iS r2200.2.2.2.2.1, .own 10 0 r2200.2.2.2.2.2.2.2.length]), (15, .row 29 (Enc.cells r2200.2.2.2.2.2.1)), (16, .row 3 (fl ([5] : List Int)))] 17 (by kernel_rfl) [] [(.s 11 0), 16] (bS r2216) [] (by simp only [push_cast, leL_flD, renL_flD, seval]) (by simp only [push_cast, leL_flD, renL_flD, seval]) (by kernel_rfl) (.inr ⟨by simp only [push_cast, leL_flD, renL_flD, seval], by simp only [push_cast, leL_flD, renL_flD, seval]⟩) (by simp only [push_cast, leL_flD, renL_flD, seval]) (by simp only [push_cast, leL_flD, renL_flD, seval]) ?_
      refine rs 2 [] [] (by kernel_rfl) allP_nil ?_
      refine rf [(0, bS r2216)] [(0, .dead), (1, .dead), (2, .dead), (9, .row 57 (flD dPipe [11, 12, 13] r2200.2.2.2.2.2.2.1)), (10, .row 64 (fl r2200.2.2.2.2.2.2.2)), ((.s 11 0), .fam (famD dPipe 0 r2200.2.2.2.2.2.2.1)), ((.s 12 0), .fam (famD dPipe 1 r2200.2.2.2.2.2.2.1)), ((.s 13 0), .fam (famD dPipe 2 r2200.2.2.2.2.2.2.1)), (14, .row 33 [bS r2200.1, bS r2200.2.1, bS r2200.2.2.1, iS r2200.2.2.2.1, iS r2200.2.2.2.2.1, .own 10 0 r2200.2.2.2.2.2.2.2.length]), (15, .row 29 (Enc.cells r2200.2.2.2.2.2.1)), (16, .row 3 (fl ([5] : List Int)))] 17 (by kernel_rfl) ?_
      exact hK2209 (r2216) _ _ _ h (leSt_m [] [] (by first | ((try simp only [g2210, g2211, g2212, g2213]) <;> simp only [push_cast, leL_flD, renL_flD, seval]; done) | ((try simp only [g2210]); (try simp only [g2211]); (try simp only [g2212]); (try simp only [g2213]); simp only [push_cast, leL_flD, renL_flD, seval]; done) | (exfalso; clear h; simp_all; done)) (by first | ((try simp only [g2210, g2211, g2212, g2213]) <;> simp only [push_cast, leL_flD, renL_flD, seval]; done) | ((try simp only [g2210]); (try simp only [g2211]); (try simp only [g2212]); (try simp only [g2213]); simp only [push_cast, leL_flD, renL_flD, seval]; done) | (exfalso; clear h; simp_all; done)) rfl rfl rfl)
     ·refine rs 8 [] [] (by kernel_rfl) allP_nil ?_
      refine rf [(0, bS false)] [(0, .dead), (1, .dead), (2, .dead), (9, .row 57 (flD dPipe [11, 12, 13] r2200.2.2.2.2.2.2.1)), (10, .row 64 (fl r2200.2.2.2.2.2.2.2)), ((.s 11 0), .fam (famD dPipe 0 r2200.2.2.2.2.2.2.1)), ((.s 12 0), .fam (famD dPipe 1 r2200.2.2.2.2.2.2.1)), ((.s 13 0), .fam (famD dPipe 2 r2200.2.2.2.2.2.2.1)), (14, .row 33 [bS r2200.1, bS r2200.2.1, bS r2200.2.2.1, iS r2200.2.2.2.1, iS r2200.2.2.2.2.1, .own 10 0 r2200.2.2.2.2.2.2.2.length]), (15, .row 29 (Enc.cells r2200.2.2.2.2.2.1))] 16 (by kernel_rfl) ?_
      exact hK2209 (false) _ _ _ h (leSt_m [] [] (by first | ((try simp only [g2210, g2211, g2212, g2213]) <;> simp only [push_cast, leL_flD, renL_flD, seval]; done) | ((try simp only [g2210]); (try simp only [g2211]); (try simp only [g2212]); (try simp only [g2213]); simp only [push_cast, leL_flD, renL_flD, seval]; done) | (exfalso; clear h; simp_all; done)) (by first | ((try simp only [g2210, g2211, g2212, g2213]) <;> simp only [push_cast, leL_flD, renL_flD, seval]; done) | ((try simp only [g2210]); (try simp only [g2211]); (try simp only [g2212]); (try simp only [g2213]); simp only [push_cast, leL_flD, renL_flD, seval]; done) | (exfalso; clear h; simp_all; done)) rfl rfl rfl)
    ·refine rn 13 [(2, .own 9 0 r2200.2.2.2.2.2.2.1.length), (30, bS false)] [(0, .dead), (1, .dead), (2, .dead), (9, .row 57 (flD dPipe [11, 12, 13] r2200.2.2.2.2.2.2.1)), (10, .row 64 (fl r2200.2.2.2.2.2.2.2)), ((.s 11 0), .fam (famD dPipe 0 r2200.2.2.2.2.2.2.1)), ((.s 12 0), .fam (famD dPipe 1 r2200.2.2.2.2.2.2.1)), ((.s 13 0), .fam (famD dPipe 2 r2200.2.2.2.2.2.2.1)), (14, .row 33 [bS r2200.1, bS r2200.2.1, bS r2200.2.2.1, iS r2200.2.2.2.1, iS r2200.2.2.2.2.1, .own 10 0 r2200.2.2.2.2.2.2.2.length]), (15, .row 29 (Enc.cells r2200.2.2.2.2.2.1))] 16 (by kernel_rfl) ?_
     refine rs 13 [] [] (by kernel_rfl) allP_nil ?_
     refine rf [(0, bS false)] [(0, .dead), (1, .dead), (2, .dead), (9, .row 57 (flD dPipe [11, 12, 13] r2200.2.2.2.2.2.2.1)), (10, .row 64 (fl r2200.2.2.2.2.2.2.2)), ((.s 11 0), .fam (famD dPipe 0 r2200.2.2.2.2.2.2.1)), ((.s 12 0), .fam (famD dPipe 1 r2200.2.2.2.2.2.2.1)), ((.s 13 0), .fam (famD dPipe 2 r2200.2.2.2.2.2.2.1)), (14, .row 33 [bS r2200.1, bS r2200.2.1, bS r2200.2.2.1, iS r2200.2.2.2.1, iS r2200.2.2.2.2.1, .own 10 0 r2200.2.2.2.2.2.2.2.length]), (15, .row 29 (Enc.cells r2200.2.2.2.2.2.1))] 16 (by kernel_rfl) ?_
     exact hK2209 (false) _ _ _ h (leSt_m [] [] (by first | ((try simp only [g2210, g2211, g2212]) <;> simp only [push_cast, leL_flD, renL_flD, seval]; done) | ((try simp only [g2210]); (try simp only [g2211]); (try simp only [g2212]); simp only [push_cast, leL_flD, renL_flD, seval]; done) | (exfalso; clear h; simp_all; done)) (by first | ((try simp only [g2210, g2211, g2212]) <;> simp only [push_cast, leL_flD, renL_flD, seval]; done) | ((try simp only [g2210]); (try simp only [g2211]); (try simp only [g2212]); simp only [push_cast, leL_flD, renL_flD, seval]; done) | (exfalso; clear h; simp_all; done)) rfl rfl rfl)
   ·refine rs 18 [] [] (by kernel_rfl) allP_nil ?_
    refine rf [(0, bS false)] [(0, .dead), (1, .dead), (2, .dead), (9, .row 57 (flD dPipe [11, 12, 13] r2200.2.2.2.2.2.2.1)), (10, .row 64 (fl r2200.2.2.2.2.2.2.2)), ((.s 11 0), .fam (famD dPipe 0 r2200.2.2.2.2.2.2.1)), ((.s 12 0), .fam (famD dPipe 1 r2200.2.2.2.2.2.2.1)), ((.s 13 0), .fam (famD dPipe 2 r2200.2.2.2.2.2.2.1)), (14, .row 33 [bS r2200.1, bS r2200.2.1, bS r2200.2.2.1, iS r2200.2.2.2.1, iS r2200.2.2.2.2.1, .own 10 0 r2200.2.2.2.2.2.2.2.length]), (15, .row 29 (Enc.cells r2200.2.2.2.2.2.1))] 16 (by kernel_rfl) ?_
    exact hK2209 (false) _ _ _ h (leSt_m [] [] (by first | ((try simp only [g2210, g2211]) <;> simp only [push_cast, leL_flD, renL_flD, seval]; done) | ((try simp only [g2210]); (try simp only [g2211]); simp only [push_cast, leL_flD, renL_flD, seval]; done) | (exfalso; clear h; simp_all; done)) (by first | ((try simp only [g2210, g2211]) <;> simp only [push_cast, leL_flD, renL_flD, seval]; done) | ((try simp only [g2210]); (try simp only [g2211]); simp only [push_cast, leL_flD, renL_flD, seval]; done) | (exfalso; clear h; simp_all; done)) rfl rfl rfl)
  ·refine rs 22 [] [] (by kernel_rfl) allP_nil ?_
   refine rf [(0, bS false)] [(0, .dead), (1, .dead), (2, .dead), (9, .row 57 (flD dPipe [11, 12, 13] r2200.2.2.2.2.2.2.1)), (10, .row 64 (fl r2200.2.2.2.2.2.2.2)), ((.s 11 0), .fam (famD dPipe 0 r2200.2.2.2.2.2.2.1)), ((.s 12 0), .fam (famD dPipe 1 r2200.2.2.2.2.2.2.1)), ((.s 13 0), .fam (famD dPipe 2 r2200.2.2.2.2.2.2.1)), (14, .row 33 [bS r2200.1, bS r2200.2.1, bS r2200.2.2.1, iS r2200.2.2.2.1, iS r2200.2.2.2.2.1, .own 10 0 r2200.2.2.2.2.2.2.2.length]), (15, .row 29 (Enc.cells r2200.2.2.2.2.2.1))] 16 (by kernel_rfl) ?_
   exact hK2209 (false) _ _ _ h (leSt_m [] [] (by (try simp only [g2210]) <;> simp only [push_cast, leL_flD, renL_flD, seval]) (by (try simp only [g2210]) <;> simp only [push_cast, leL_flD, renL_flD, seval]) rfl rfl rfl)
 ·rintro t0q1 h
  try dsimp only at h ⊢
  unfold taskmilllaw_pickBegun_j1 at h
  obtain rfl := Option.some.inj h
  refine ret_at (bS t0q1) (by kernel_rfl) ?_
  exact ret_e [] [] (by simp only [push_cast, leL_flD, renL_flD, seval]) (by simp only [push_cast, leL_flD, renL_flD, seval]) rfl rfl rfl

set_option maxRecDepth 100000 in
set_option maxHeartbeats 200000000 in
theorem taskmillref_WaitsAt_spec (p : Pipe) (task : Int) (r : Bool) (h : taskmillref_WaitsAt p task = some r) : SpecW Try.prog 28 [.agg (Enc.cells p), iS task] [] 0 (fun x h n => x = bS r ∧ h = [] ∧ n = 0) := by
 unfold taskmillref_WaitsAt at h
 refine spec_of (draw_ok _) Try.func28 rfl (by decide) rfl (by kernel_rfl) ?_
 refine seq_np ?_
 refine reg_f ?_
 refine rs 2 [] [] (by kernel_rfl) allP_nil ?_
 refine rf [(1, iS task), (2, .ptr 0 0)] [(0, .row 57 (Enc.cells p))] 1 (by kernel_rfl) ?_
 refine wk_id ?_
 refine seq_np ?_
 refine seq_np ?_
 refine reg_f ?_
 refine rs 1 [] [] (by kernel_rfl) allP_nil ?_
 refine rf [(1, iS task), (2, .ptr 0 0), (5, iS 0)] [(0, .row 57 (Enc.cells p))] 1 (by kernel_rfl) ?_
 refine wk_id ?_
 refine block_np ?_
 refine loop_sx (S := Int) (fun a => ([(1, iS task), (2, .ptr 0 0), (5, iS a)], [(0, .row 57 (Enc.cells p))], 1)) h (leSt_m [(0, 0)] [] (by simp only [push_cast, leL_flD, renL_flD, seval]) (by simp only [push_cast, leL_flD, renL_flD, seval]) rfl rfl rfl) ?_
 rintro i9 o3 R3 h hr3 hn3 hx3 ht3
 try dsimp only at h hn3 ⊢
 unfold taskmillref_WaitsAt_l2 at h
 try dsimp only at h
 refine seq_np ?_
 refine seq_np ?_
 refine reg_f ?_
 refine rs 5 [] [] (by kernel_rfl) allP_nil ?_
 refine rf [(1, iS task), (2, .ptr 0 0), (5, iS i9), (11, bS (decide (i9 < ((p.Senders.length : Nat) : Int))))] [(0, .row 57 (Enc.cells p))] 1 (by kernel_rfl) ?_
 refine wk_id ?_
 refine cond_sx h (by kernel_rfl) (fun g3483 h => ?_) (fun g3483 h => ?_)
 ·refine wk_id ?_
  refine seq_np ?_
  refine block_np ?_
  refine chk_sx h (fun g3433 h => ?_)
  refine seq_np ?_
  refine reg_f ?_
  have k3432 : 0 ≤ i9 ∧ i9 < ((p.Senders.length : Nat) : Int) := by first | simpa only [Bool.and_eq_true, decide_eq_true_eq, bne_iff_ne, ne_eq] using g3433 | (simp at g3433 ⊢; omega)
  refine rs 8 [none, none, none, some ⟨.iptr (fl p.Senders) ((i9).toNat * 3), [], 1, []⟩, none, some ⟨iS (ix p.Senders i9).Task, [], 1, []⟩] _ (by kernel_rfl) (allP_cons (ob_ld p.Senders i9 3 0 (((i9).toNat * 3) + 0) k3432 rfl (by decide) (by first | rfl | omega) (dflS Try.prog 3) (iS (ix p.Senders i9).Task) rfl 1 []) (allP_cons (ob_ix_l p.Senders 3 1 i9 k3432) allP_nil)) ?_
  refine rf [(1, iS task), (2, .ptr 0 0), (5, iS i9), (21, bS ((ix p.Senders i9).Task == task))] [(0, .row 57 (Enc.cells p))] 1 (by kernel_rfl) ?_
  refine wk_id ?_
  refine cond_sx h (by kernel_rfl) (fun g3434 h => ?_) (fun g3434 h => ?_)
  ·refine seq_np ?_
   refine reg_f ?_
   refine rs 1 [] [] (by kernel_rfl) allP_nil ?_
   refine rf [(4, bS true)] [(0, .row 57 (Enc.cells p))] 1 (by kernel_rfl) ?_
   refine wk_id ?_
   refine rt_cast ht3 ?_
   obtain ⟨r0, h, e0⟩ := map_sx h
   have e1 := hr3 r0 e0.symm
   subst r0
   obtain rfl := Option.some.inj h
   refine ret_at (bS true) (by kernel_rfl) ?_
   exact ret_e [] [] (by simp only [push_cast, leL_flD, renL_flD, seval]) (by simp only [push_cast, leL_flD, renL_flD, seval]) rfl rfl rfl
  ·refine wk_id ?_
   refine wk_id ?_
   refine reg_f ?_
   refine rs 3 [] [] (by kernel_rfl) allP_nil ?_
   refine rf [(1, iS task), (2, .ptr 0 0), (5, iS (IntKind.i64.wrap (i9 + 1)))] [(0, .row 57 (Enc.cells p))] 1 (by kernel_rfl) ?_
   exact hn3 ((IntKind.i64.wrap (i9 + 1))) _ _ _ (Option.some.inj h).symm (leSt_m [(0, 0)] [] (by simp only [push_cast, leL_flD, renL_flD, seval]) (by simp only [push_cast, leL_flD, renL_flD, seval]) rfl rfl rfl)
 ·change R3 (.exit 0) _ _ _
  refine ex_cast hx3 (id := 0) ?_
  obtain ⟨r0, h, e0⟩ := map_sx h
  have e1 := hr3 r0 e0.symm
  subst r0
  refine wk_id ?_
  refine wk_id ?_
  refine seq_np ?_
  refine seq_np ?_
  refine reg_f ?_
  refine rs 1 [] [] (by kernel_rfl) allP_nil ?_
  refine rf [(1, iS task), (2, .ptr 0 0), (6, iS 0)] [(0, .row 57 (Enc.cells p))] 1 (by kernel_rfl) ?_
  refine wk_id ?_
  refine block_np ?_
  refine loop_sx (S := Int) (fun a => ([(1, iS task), (2, .ptr 0 0), (6, iS a)], [(0, .row 57 (Enc.cells p))], 1)) h (leSt_m [(0, 0)] [] (by simp only [push_cast, leL_flD, renL_flD, seval]) (by simp only [push_cast, leL_flD, renL_flD, seval]) rfl rfl rfl) ?_
  rintro i15 o4 R4 h hr4 hn4 hx4 ht4
  try dsimp only at h hn4 ⊢
  unfold taskmillref_WaitsAt_l1 at h
  try dsimp only at h
  refine seq_np ?_
  refine seq_np ?_
  refine reg_f ?_
  refine rs 5 [] [] (by kernel_rfl) allP_nil ?_
  refine rf [(1, iS task), (2, .ptr 0 0), (6, iS i15), (26, bS (decide (i15 < ((p.Getters.length : Nat) : Int))))] [(0, .row 57 (Enc.cells p))] 1 (by kernel_rfl) ?_
  refine wk_id ?_
  refine cond_sx h (by kernel_rfl) (fun g3482 h => ?_) (fun g3482 h => ?_)
  ·refine wk_id ?_
   refine seq_np ?_
   refine block_np ?_
   refine chk_sx h (fun g3480 h => ?_)
   refine seq_np ?_
   refine reg_f ?_
   have k3479 : 0 ≤ i15 ∧ i15 < ((p.Getters.length : Nat) : Int) := by first | simpa only [Bool.and_eq_true, decide_eq_true_eq, bne_iff_ne, ne_eq] using g3480 | (simp at g3480 ⊢; omega)
   refine rs 8 [none, none, none, some ⟨.iptr (fl p.Getters) ((i15).toNat * 3), [], 1, []⟩, none, some ⟨iS (ix p.Getters i15).Task, [], 1, []⟩] _ (by kernel_rfl) (allP_cons (ob_ld p.Getters i15 3 0 (((i15).toNat * 3) + 0) k3479 rfl (by decide) (by first | rfl | omega) (dflS Try.prog 3) (iS (ix p.Getters i15).Task) rfl 1 []) (allP_cons (ob_ix_l p.Getters 3 1 i15 k3479) allP_nil)) ?_
   refine rf [(1, iS task), (2, .ptr 0 0), (6, iS i15), (36, bS ((ix p.Getters i15).Task == task))] [(0, .row 57 (Enc.cells p))] 1 (by kernel_rfl) ?_
   refine wk_id ?_
   refine cond_sx h (by kernel_rfl) (fun g3481 h => ?_) (fun g3481 h => ?_)
   ·refine seq_np ?_
    refine reg_f ?_
    refine rs 1 [] [] (by kernel_rfl) allP_nil ?_
    refine rf [(4, bS true)] [(0, .row 57 (Enc.cells p))] 1 (by kernel_rfl) ?_
    refine wk_id ?_
    refine rt_cast ht4 ?_
    obtain ⟨r0, h, e0⟩ := map_sx h
    have e1 := hr4 r0 e0.symm
    subst r0
    obtain rfl := Option.some.inj h
    refine ret_at (bS true) (by kernel_rfl) ?_
    exact ret_e [] [] (by simp only [push_cast, leL_flD, renL_flD, seval]) (by simp only [push_cast, leL_flD, renL_flD, seval]) rfl rfl rfl
   ·refine wk_id ?_
    refine wk_id ?_
    refine reg_f ?_
    refine rs 3 [] [] (by kernel_rfl) allP_nil ?_
    refine rf [(1, iS task), (2, .ptr 0 0), (6, iS (IntKind.i64.wrap (i15 + 1)))] [(0, .row 57 (Enc.cells p))] 1 (by kernel_rfl) ?_
    exact hn4 ((IntKind.i64.wrap (i15 + 1))) _ _ _ (Option.some.inj h).symm (leSt_m [(0, 0)] [] (by simp only [push_cast, leL_flD, renL_flD, seval]) (by simp only [push_cast, leL_flD, renL_flD, seval]) rfl rfl rfl)
  ·change R4 (.exit 2) _ _ _
   refine ex_cast hx4 (id := 2) ?_
   obtain ⟨r0, h, e0⟩ := map_sx h
   have e1 := hr4 r0 e0.symm
   subst r0
   refine wk_id ?_
   refine wk_id ?_
   refine seq_np ?_
   refine reg_f ?_
   refine rs 1 [] [] (by kernel_rfl) allP_nil ?_
   refine rf [(4, bS false)] [(0, .row 57 (Enc.cells p))] 1 (by kernel_rfl) ?_
   refine wk_id ?_
   obtain rfl := Option.some.inj h
   refine ret_at (bS false) (by kernel_rfl) ?_
   exact ret_e [] [] (by simp only [push_cast, leL_flD, renL_flD, seval]) (by simp only [push_cast, leL_flD, renL_flD, seval]) rfl rfl rfl

set_option maxRecDepth 100000 in
set_option maxHeartbeats 200000000 in
theorem taskmillref_WaitsIn_spec (l : (List Pipe)) (task : Int) (r : Bool) (h : taskmillref_WaitsIn l task = some r) : SpecW Try.prog 27 [.sl l.length (fl l), iS task] [] 0 (fun x h n => x = bS r ∧ h = [] ∧ n = 0) := by
 unfold taskmillref_WaitsIn at h
 refine spec_of (draw_ok _) Try.func27 rfl (by decide) rfl (by kernel_rfl) ?_
 refine seq_np ?_
 refine reg_f ?_
 refine rs 1 [] [] (by kernel_rfl) allP_nil ?_
 refine rf [(0, .sl l.length (fl l)), (1, iS task)] [] 0 (by kernel_rfl) ?_
 refine wk_id ?_
 refine seq_np ?_
 refine seq_np ?_
 refine reg_f ?_
 refine rs 1 [] [] (by kernel_rfl) allP_nil ?_
 refine rf [(0, .sl l.length (fl l)), (1, iS task), (5, iS 0)] [] 0 (by kernel_rfl) ?_
 refine wk_id ?_
 refine block_np ?_
 refine loop_sx (S := Int) (fun a => ([(0, .sl l.length (fl l)), (1, iS task), (5, iS a)], [], 0)) h (leSt_m [] [] (by simp only [push_cast, leL_flD, renL_flD, seval]) (by simp only [push_cast, leL_flD, renL_flD, seval]) rfl rfl rfl) ?_
 rintro i7 o2 R2 h hr2 hn2 hx2 ht2
 try dsimp only at h hn2 ⊢
 unfold taskmillref_WaitsIn_l1 at h
 try dsimp only at h
 refine seq_np ?_
 refine seq_np ?_
 refine reg_f ?_
 refine rs 4 [] [] (by kernel_rfl) allP_nil ?_
 refine rf [(0, .sl l.length (fl l)), (1, iS task), (5, iS i7), (9, bS (decide (i7 < ((l.length : Nat) : Int))))] [] 0 (by kernel_rfl) ?_
 refine wk_id ?_
 refine cond_sx h (by kernel_rfl) (fun g3556 h => ?_) (fun g3556 h => ?_)
 ·refine wk_id ?_
  refine seq_np ?_
  refine block_np ?_
  refine chk_sx h (fun g3553 h => ?_)
  refine seq_np ?_
  refine reg_f ?_
  have k3552 : 0 ≤ i7 ∧ i7 < ((l.length : Nat) : Int) := by first | simpa only [Bool.and_eq_true, decide_eq_true_eq, bne_iff_ne, ne_eq] using g3553 | (simp at g3553 ⊢; omega)
  refine rs 5 [none, none, some ⟨.iptr (fl l) ((i7).toNat * 5), [], 0, []⟩, some ⟨.agg (Enc.cells (ix l i7)), [], 0, []⟩] _ (by kernel_rfl) (allP_cons (ob_ldw l i7 5 ((i7).toNat * 5) k3552 rfl (by first | rfl | omega) [iS (ix l i7).Cap, .sl (ix l i7).Items.length (fl (ix l i7).Items), bS (ix l i7).Closed, .sl (ix l i7).Senders.length (fl (ix l i7).Senders), .sl (ix l i7).Getters.length (fl (ix l i7).Getters)] rfl 0 []) (allP_cons (ob_ix_l l 5 0 i7 k3552) allP_nil)) ?_
  obtain ⟨r3554, hr3554, h⟩ := bind_sx h
  refine run_call 28 [.agg (Enc.cells (ix l i7)), iS task] (some 17) (by kernel_rfl) ?_
  refine call_0 (taskmillref_WaitsAt_spec (ix l i7) task r3554 hr3554) (by simp only [push_cast, leL_flD, renL_flD, seval]) (by simp only [push_cast, leL_flD, renL_flD, seval]) ?_
  refine back_f ?_
  refine rf [(0, .sl l.length (fl l)), (1, iS task), (5, iS i7), (17, bS r3554)] [] 0 (by kernel_rfl) ?_
  refine wk_id ?_
  refine cond_sx h (by kernel_rfl) (fun g3555 h => ?_) (fun g3555 h => ?_)
  ·refine seq_np ?_
   refine reg_f ?_
   refine rs 1 [] [] (by kernel_rfl) allP_nil ?_
   refine rf [(4, bS true)] [] 0 (by kernel_rfl) ?_
   refine wk_id ?_
   refine rt_cast ht2 ?_
   obtain ⟨r0, h, e0⟩ := map_sx h
   have e1 := hr2 r0 e0.symm
   subst r0
   obtain rfl := Option.some.inj h
   refine ret_at (bS true) (by kernel_rfl) ?_
   exact ret_e [] [] (by simp only [push_cast, leL_flD, renL_flD, seval]) (by simp only [push_cast, leL_flD, renL_flD, seval]) rfl rfl rfl
  ·refine wk_id ?_
   refine wk_id ?_
   refine reg_f ?_
   refine rs 3 [] [] (by kernel_rfl) allP_nil ?_
   refine rf [(0, .sl l.length (fl l)), (1, iS task), (5, iS (IntKind.i64.wrap (i7 + 1)))] [] 0 (by kernel_rfl) ?_
   exact hn2 ((IntKind.i64.wrap (i7 + 1))) _ _ _ (Option.some.inj h).symm (leSt_m [] [] (by simp only [push_cast, leL_flD, renL_flD, seval]) (by simp only [push_cast, leL_flD, renL_flD, seval]) rfl rfl rfl)
 ·change R2 (.exit 0) _ _ _
  refine ex_cast hx2 (id := 0) ?_
  obtain ⟨r0, h, e0⟩ := map_sx h
  have e1 := hr2 r0 e0.symm
  subst r0
  refine wk_id ?_
  refine wk_id ?_
  refine seq_np ?_
  refine reg_f ?_
  refine rs 1 [] [] (by kernel_rfl) allP_nil ?_
  refine rf [(4, bS false)] [] 0 (by kernel_rfl) ?_
  refine wk_id ?_
  obtain rfl := Option.some.inj h
  refine ret_at (bS false) (by kernel_rfl) ?_
  exact ret_e [] [] (by simp only [push_cast, leL_flD, renL_flD, seval]) (by simp only [push_cast, leL_flD, renL_flD, seval]) rfl rfl rfl

set_option maxRecDepth 100000 in
set_option maxHeartbeats 200000000 in
theorem taskmillref_Taken_spec (p : Pipe) (x : GPost) (r : Int × (List Int) × Bool × (List GPost) × (List GPost) × Bool × Bool × Bool × Int × Int × (List GWake)) (h : taskmillref_Taken p x = some r) : SpecW Try.prog 50 [.agg (Enc.cells p), .agg (Enc.cells x)] [] 0 (fun x h n => x = .tup [.agg [iS r.1, .sl r.2.1.length (fl r.2.1), bS r.2.2.1, .sl r.2.2.2.1.length (fl r.2.2.2.1), .sl r.2.2.2.2.1.length (fl r.2.2.2.2.1)], .agg [bS r.2.2.2.2.2.1, bS r.2.2.2.2.2.2.1, bS r.2.2.2.2.2.2.2.1, iS r.2.2.2.2.2.2.2.2.1, iS r.2.2.2.2.2.2.2.2.2.1, .own 0 0 r.2.2.2.2.2.2.2.2.2.2.length]] ∧ h = [(0, .row 64 (fl r.2.2.2.2.2.2.2.2.2.2))] ∧ n = 1) := by
 unfold taskmillref_Taken at h
 refine spec_of (draw_ok _) Try.func50 rfl (by decide) rfl (by kernel_rfl) ?_
 refine seq_np ?_
 refine reg_f ?_
 refine rs 4 [] [] (by kernel_rfl) allP_nil ?_
 refine rf [(2, .ptr 0 0), (3, .ptr 1 0), (4, .ptr 2 0), (5, .ptr 3 0)] [(0, .row 57 (Enc.cells p)), (1, .row 92 (Enc.cells x)), (2, .row 57 [iS 0, .v (.slice none 0 0), bS false, .v (.slice none 0 0), .v (.slice none 0 0)]), (3, .row 33 [bS false, bS false, bS false, iS 0, iS 0, .v (.slice none 0 0)])] 4 (by kernel_rfl) ?_
 refine wk_id ?_
 refine seq_np ?_
 refine reg_f ?_
 refine rs 5 [] [] (by kernel_rfl) allP_nil ?_
 refine rf [(2, .ptr 0 0), (4, .ptr 2 0), (5, .ptr 3 0), (6, .ptr 4 0)] [(0, .row 57 (Enc.cells p)), (1, .row 92 (Enc.cells x)), (2, .row 57 [iS 0, .v (.slice none 0 0), bS false, .v (.slice none 0 0), .v (.slice none 0 0)]), (3, .row 33 [bS false, bS false, bS false, iS 0, iS 0, .v (.slice none 0 0)]), (4, .row 33 [bS true, bS false, bS false, iS 0, iS x.Case, .v (.slice none 0 0)])] 5 (by kernel_rfl) ?_
 refine wk_id ?_
 refine chk_sx h (fun g4570 h => ?_)
 refine seq_np ?_
 refine reg_f ?_
 have k4569 : p.Items.length * 8 ≤ 140737488355328 := by first | simpa only [Bool.and_eq_true, decide_eq_true_eq, bne_iff_ne, ne_eq] using g4570 | (simp at g4570 ⊢; omega)
 refine rs 4 [none, none, some ⟨.own 5 0 p.Items.length, [(5, .row 3 (fl p.Items))], 6, []⟩] _ (by kernel_rfl) (allP_cons (ob_app0 (P := Try.prog) p.Items 1 8 rfl (fl p.Items) p.Items.length rfl rfl ((fl p.Items).length = p.Items.length * 1) (app_sl p.Items 1 rfl) 3 (by kernel_rfl) (by decide) k4569 5 []) allP_nil) ?_
 refine rf [(2, .ptr 0 0), (4, .ptr 2 0), (5, .ptr 3 0), (6, .ptr 4 0), (7, .own 5 0 p.Items.length)] [(0, .row 57 (Enc.cells p)), (1, .row 92 (Enc.cells x)), (2, .row 57 [iS 0, .v (.slice none 0 0), bS false, .v (.slice none 0 0), .v (.slice none 0 0)]), (3, .row 33 [bS false, bS false, bS false, iS 0, iS 0, .v (.slice none 0 0)]), (4, .row 33 [bS true, bS false, bS false, iS 0, iS x.Case, .v (.slice none 0 0)]), (5, .row 3 (fl p.Items))] 6 (by kernel_rfl) ?_
 refine wk_id ?_
 refine seq_cut (A := (List GPost) × (List Int) × (List GWake)) (fun a => ([(2, .ptr 0 0), (4, .ptr 1 0), (5, .ptr 2 0), (6, .ptr 3 0), (7, .own 4 0 a.2.1.length)], [(0, .row 57 [iS p.Cap, .sl p.Items.length (fl p.Items), bS p.Closed, .sl a.1.length (fl a.1), .sl p.Getters.length (fl p.Getters)]), (1, .row 57 [iS 0, .v (.slice none 0 0), bS false, .v (.slice none 0 0), .v (.slice none 0 0)]), (2, .row 33 [bS false, bS false, bS false, iS 0, iS 0, .v (.slice none 0 0)]), (3, .row 33 [bS true, bS false, bS false, iS 0, iS x.Case, .own 5 0 a.2.2.length]), (4, .row 3 (fl a.2.1)), (5, .row 64 (fl a.2.2))], 6)) (fun a => (taskmillref_Taken_j1 p x a.1 a.2.1 a.2.2) = some r) (fun K4579 hK4579 => ?_) ?_
 ·refine seq_np ?_
  refine reg_f ?_
  refine rs 4 [] [] (by kernel_rfl) allP_nil ?_
  refine rf [(2, .ptr 0 0), (4, .ptr 2 0), (5, .ptr 3 0), (6, .ptr 4 0), (7, .own 5 0 p.Items.length), (18, bS (decide ((0 : Int) < ((p.Senders.length : Nat) : Int))))] [(0, .row 57 (Enc.cells p)), (1, .row 92 (Enc.cells x)), (2, .row 57 [iS 0, .v (.slice none 0 0), bS false, .v (.slice none 0 0), .v (.slice none 0 0)]), (3, .row 33 [bS false, bS false, bS false, iS 0, iS 0, .v (.slice none 0 0)]), (4, .row 33 [bS true, bS false, bS false, iS 0, iS x.Case, .v (.slice none 0 0)]), (5, .row 3 (fl p.Items))] 6 (by kernel_rfl) ?_
  refine wk_id ?_
  refine cond_sx h (by kernel_rfl) (fun g4592 h => ?_) (fun g4592 h => ?_)
  ·refine chk_sx h (fun g4583 h => ?_)
   refine seq_np ?_
   refine reg_f ?_
   have k4582 : 0 ≤ (0 : Int) ∧ (0 : Int) < ((p.Senders.length : Nat) : Int) := by first | simpa only [Bool.and_eq_true, decide_eq_true_eq, bne_iff_ne, ne_eq] using g4583 | (simp at g4583 ⊢; omega)
   refine rs 6 [none, none, some ⟨.iptr (fl p.Senders) (((0 : Int)).toNat * 3), [], 6, []⟩, some ⟨.agg (Enc.cells (ix p.Senders (0 : Int))), [], 6, []⟩] _ (by kernel_rfl) (allP_cons (ob_ldw p.Senders (0 : Int) 3 (((0 : Int)).toNat * 3) k4582 rfl (by first | rfl | omega) [iS (ix p.Senders (0 : Int)).Task, iS (ix p.Senders (0 : Int)).Case, iS (ix p.Senders (0 : Int)).Value] rfl 6 []) (allP_cons (ob_ix_l p.Senders 3 6 0 k4582) allP_nil)) ?_
   refine rf [(2, .ptr 0 0), (4, .ptr 2 0), (5, .ptr 3 0), (6, .ptr 4 0), (7, .own 5 0 p.Items.length), (8, .ptr 6 0)] [(0, .row 57 (Enc.cells p)), (1, .row 92 (Enc.cells x)), (2, .row 57 [iS 0, .v (.slice none 0 0), bS false, .v (.slice none 0 0), .v (.slice none 0 0)]), (3, .row 33 [bS false, bS false, bS false, iS 0, iS 0, .v (.slice none 0 0)]), (4, .row 33 [bS true, bS false, bS false, iS 0, iS x.Case, .v (.slice none 0 0)]), (5, .row 3 (fl p.Items)), (6, .row 92 (Enc.cells (ix p.Senders (0 : Int))))] 7 (by kernel_rfl) ?_
   refine wk_id ?_
   refine chk_sx h (fun g4587 h => ?_)
   refine seq_np ?_
   refine reg_f ?_
   have k4586 : (p.Items ++ ([(ix p.Senders (0 : Int)).Value] : List Int)).length * 8 ≤ 140737488355328 := by first | simpa only [Bool.and_eq_true, decide_eq_true_eq, bne_iff_ne, ne_eq] using g4587 | (simp at g4587 ⊢; omega)
   refine rs 6 [none, none, none, none, some ⟨.own 8 0 (p.Items ++ ([(ix p.Senders (0 : Int)).Value] : List Int)).length, [(8, .row 3 (fl (p.Items ++ ([(ix p.Senders (0 : Int)).Value] : List Int)))), (5, .dead)], 9, [5, 7]⟩] _ (by kernel_rfl) (allP_cons (ob_app (P := Try.prog) p.Items ([(ix p.Senders (0 : Int)).Value] : List Int) 1 8 rfl (appCells (fl ([(ix p.Senders (0 : Int)).Value] : List Int)) 0 (([(ix p.Senders (0 : Int)).Value] : List Int).length * 1)) ([(ix p.Senders (0 : Int)).Value] : List Int).length (app_own ([(ix p.Senders (0 : Int)).Value] : List Int) 1 rfl) rfl (0 + ([(ix p.Senders (0 : Int)).Value] : List Int).length * 1 ≤ (fl ([(ix p.Senders (0 : Int)).Value] : List Int)).length) (app_own_le ([(ix p.Senders (0 : Int)).Value] : List Int) 1 rfl) 3 (by kernel_rfl) (by decide) k4586 5 8 [7]) allP_nil) ?_
   refine rf [(2, .ptr 0 0), (4, .ptr 2 0), (5, .ptr 3 0), (6, .ptr 4 0), (7, .own 8 0 (p.Items ++ ([(ix p.Senders (0 : Int)).Value] : List Int)).length), (8, .ptr 6 0)] [(0, .row 57 (Enc.cells p)), (1, .row 92 (Enc.cells x)), (2, .row 57 [iS 0, .v (.slice none 0 0), bS false, .v (.slice none 0 0), .v (.slice none 0 0)]), (3, .row 33 [bS false, bS false, bS false, iS 0, iS 0, .v (.slice none 0 0)]), (4, .row 33 [bS true, bS false, bS false, iS 0, iS x.Case, .v (.slice none 0 0)]), (5, .dead), (6, .row 92 (Enc.cells (ix p.Senders (0 : Int)))), (7, .row 3 (fl ([(ix p.Senders (0 : Int)).Value] : List Int))), (8, .row 3 (fl (p.Items ++ ([(ix p.Senders (0 : Int)).Value] : List Int))))] 9 (by kernel_rfl) ?_
   refine wk_id ?_
   refine chk_sx h (fun g4591 h => ?_)
   refine seq_np ?_
   refine reg_f ?_
   have k4590 : 0 ≤ (1 : Int) ∧ (1 : Int) ≤ ((p.Senders.length : Nat) : Int) ∧ ((p.Senders.length : Nat) : Int) ≤ ((p.Senders.length : Nat) : Int) := by first | simpa only [Bool.and_eq_true, decide_eq_true_eq, bne_iff_ne, ne_eq] using g4591 | (simp at g4591 ⊢; omega)
   refine rs 5 [none, none, some ⟨.sl (cut p.Senders (1 : Int) ((p.Senders.length : Nat) : Int)).length (fl (cut p.Senders (1 : Int) ((p.Senders.length : Nat) : Int))), [], 9, []⟩] _ (by kernel_rfl) (allP_cons (ob_cut p.Senders (1 : Int) ((p.Senders.length : Nat) : Int) 3 9 rfl k4590) allP_nil) ?_
   refine rf [(2, .ptr 0 0), (4, .ptr 2 0), (5, .ptr 3 0), (6, .ptr 4 0), (7, .own 8 0 (p.Items ++ ([(ix p.Senders (0 : Int)).Value] : List Int)).length), (8, .ptr 6 0)] [(0, .row 57 [iS p.Cap, .sl p.Items.length (fl p.Items), bS p.Closed, .sl (cut p.Senders (1 : Int) ((p.Senders.length : Nat) : Int)).length (fl (cut p.Senders (1 : Int) ((p.Senders.length : Nat) : Int))), .sl p.Getters.length (fl p.Getters)]), (1, .row 92 (Enc.cells x)), (2, .row 57 [iS 0, .v (.slice none 0 0), bS false, .v (.slice none 0 0), .v (.slice none 0 0)]), (3, .row 33 [bS false, bS false, bS false, iS 0, iS 0, .v (.slice none 0 0)]), (4, .row 33 [bS true, bS false, bS false, iS 0, iS x.Case, .v (.slice none 0 0)]), (5, .dead), (6, .row 92 (Enc.cells (ix p.Senders (0 : Int)))), (7, .row 3 (fl ([(ix p.Senders (0 : Int)).Value] : List Int))), (8, .row 3 (fl (p.Items ++ ([(ix p.Senders (0 : Int)).Value] : List Int))))] 9 (by kernel_rfl) ?_
   refine wk_id ?_
   refine reg_f ?_
   refine rs 8 [] [] (by kernel_rfl) allP_nil ?_
   refine rf [(2, .ptr 0 0), (4, .ptr 2 0), (5, .ptr 3 0), (6, .ptr 4 0), (7, .own 8 0 (p.Items ++ ([(ix p.Senders (0 : Int)).Value] : List Int)).length)] [(0, .row 57 [iS p.Cap, .sl p.Items.length (fl p.Items), bS p.Closed, .sl (cut p.Senders (1 : Int) ((p.Senders.length : Nat) : Int)).length (fl (cut p.Senders (1 : Int) ((p.Senders.length : Nat) : Int))), .sl p.Getters.length (fl p.Getters)]), (1, .row 92 (Enc.cells x)), (2, .row 57 [iS 0, .v (.slice none 0 0), bS false, .v (.slice none 0 0), .v (.slice none 0 0)]), (3, .row 33 [bS false, bS false, bS false, iS 0, iS 0, .v (.slice none 0 0)]), (4, .row 33 [bS true, bS false, bS false, iS 0, iS x.Case, .own 9 0 ([(GWake.mk (ix p.Senders (0 : Int)).Task (ix p.Senders (0 : Int)).Case 0 false false)] : List GWake).length]), (5, .dead), (6, .row 92 (Enc.cells (ix p.Senders (0 : Int)))), (7, .row 3 (fl ([(ix p.Senders (0 : Int)).Value] : List Int))), (8, .row 3 (fl (p.Items ++ ([(ix p.Senders (0 : Int)).Value] : List Int)))), (9, .row 64 (fl ([(GWake.mk (ix p.Senders (0 : Int)).Task (ix p.Senders (0 : Int)).Case 0 false false)] : List GWake)))] 10 (by kernel_rfl) ?_
   exact hK4579 ((cut p.Senders (1 : Int) ((p.Senders.length : Nat) : Int)), (p.Items ++ ([(ix p.Senders (0 : Int)).Value] : List Int)), ([(GWake.mk (ix p.Senders (0 : Int)).Task (ix p.Senders (0 : Int)).Case 0 false false)] : List GWake)) _ _ _ h (leSt_m [(0, 0), (1, 2), (2, 3), (3, 4), (4, 8), (5, 9)] [] (by simp only [push_cast, leL_flD, renL_flD, seval]) (by simp only [push_cast, leL_flD, renL_flD, seval]) rfl rfl rfl)
  ·exact hK4579 (p.Senders, p.Items, []) _ _ _ h (leSt_m [(0, 0), (1, 2), (2, 3), (3, 4), (4, 5)] [] (by simp only [push_cast, leL_flD, renL_flD, seval]) (by simp only [push_cast, leL_flD, renL_flD, seval]) rfl rfl rfl)
 ·rintro ⟨c0_Senders1, c4q1, c5q1⟩ h
  try dsimp only at h ⊢
  unfold taskmillref_Taken_j1 at h
  refine seq_np ?_
  refine seq_np ?_
  refine reg_f ?_
  refine rs 3 [] [] (by kernel_rfl) allP_nil ?_
  refine rf [(2, .ptr 0 0), (4, .ptr 1 0), (5, .ptr 2 0), (6, .ptr 3 0), (7, .own 4 0 c4q1.length), (41, bS (decide ((0 : Int) < ((c4q1.length : Nat) : Int))))] [(0, .row 57 [iS p.Cap, .sl p.Items.length (fl p.Items), bS p.Closed, .sl c0_Senders1.length (fl c0_Senders1), .sl p.Getters.length (fl p.Getters)]), (1, .row 57 [iS 0, .v (.slice none 0 0), bS false, .v (.slice none 0 0), .v (.slice none 0 0)]), (2, .row 33 [bS false, bS false, bS false, iS 0, iS 0, .v (.slice none 0 0)]), (3, .row 33 [bS true, bS false, bS false, iS 0, iS x.Case, .own 5 0 c5q1.length]), (4, .row 3 (fl c4q1)), (5, .row 64 (fl c5q1))] 6 (by kernel_rfl) ?_
  refine wk_id ?_
  refine cond_sx h (by kernel_rfl) (fun g4608 h => ?_) (fun g4608 h => ?_)
  ·refine chk_sx h (fun g4601 h => ?_)
   refine seq_np ?_
   refine reg_f ?_
   have k4600 : 0 ≤ (0 : Int) ∧ (0 : Int) < ((c4q1.length : Nat) : Int) := by first | simpa only [Bool.and_eq_true, decide_eq_true_eq, bne_iff_ne, ne_eq] using g4601 | (simp at g4601 ⊢; omega)
   refine rs 5 [none, some ⟨.ptr 4 (0 + ((0 : Int)).toNat * 1), [], 6, [4]⟩, some ⟨iS (ix c4q1 (0 : Int)), [], 6, [4]⟩] _ (by kernel_rfl) (allP_cons (ob_ld c4q1 (0 : Int) 1 0 (0 + ((0 : Int)).toNat * 1) k4600 rfl (by decide) (by first | rfl | omega) (dflS Try.prog 3) (iS (ix c4q1 (0 : Int))) rfl 6 [4]) (allP_cons (ob_ix_o 4 c4q1.length 0 1 6 0 k4600) allP_nil)) ?_
   refine rf [(2, .ptr 0 0), (4, .ptr 1 0), (5, .ptr 2 0), (6, .ptr 3 0), (7, .own 4 0 c4q1.length)] [(0, .row 57 [iS p.Cap, .sl p.Items.length (fl p.Items), bS p.Closed, .sl c0_Senders1.length (fl c0_Senders1), .sl p.Getters.length (fl p.Getters)]), (1, .row 57 [iS 0, .v (.slice none 0 0), bS false, .v (.slice none 0 0), .v (.slice none 0 0)]), (2, .row 33 [bS false, bS false, bS false, iS 0, iS 0, .v (.slice none 0 0)]), (3, .row 33 [bS true, bS false, bS false, iS (ix c4q1 (0 : Int)), iS x.Case, .own 5 0 c5q1.length]), (4, .row 3 (fl c4q1)), (5, .row 64 (fl c5q1))] 6 (by kernel_rfl) ?_
   refine wk_id ?_
   refine seq_np ?_
   refine reg_f ?_
   refine rs 2 [] [] (by kernel_rfl) allP_nil ?_
   refine rf [(2, .ptr 0 0), (4, .ptr 1 0), (5, .ptr 2 0), (6, .ptr 3 0), (7, .own 4 0 c4q1.length)] [(0, .row 57 [iS p.Cap, .sl p.Items.length (fl p.Items), bS p.Closed, .sl c0_Senders1.length (fl c0_Senders1), .sl p.Getters.length (fl p.Getters)]), (1, .row 57 [iS 0, .v (.slice none 0 0), bS false, .v (.slice none 0 0), .v (.slice none 0 0)]), (2, .row 33 [bS false, bS false, bS false, iS 0, iS 0, .v (.slice none 0 0)]), (3, .row 33 [bS true, bS false, bS true, iS (ix c4q1 (0 : Int)), iS x.Case, .own 5 0 c5q1.length]), (4, .row 3 (fl c4q1)), (5, .row 64 (fl c5q1))] 6 (by kernel_rfl) ?_
   refine wk_id ?_
   refine chk_sx h (fun g4605 h => ?_)
   refine seq_np ?_
   refine reg_f ?_
   have k4604 : 0 ≤ (1 : Int) ∧ (1 : Int) ≤ ((c4q1.length : Nat) : Int) ∧ ((c4q1.length : Nat) : Int) ≤ ((c4q1.length : Nat) : Int) := by first | simpa only [Bool.and_eq_true, decide_eq_true_eq, bne_iff_ne, ne_eq] using g4605 | (simp at g4605 ⊢; omega)
   refine rs 1 [] [] (by kernel_rfl) allP_nil ?_
   refine run_cutO c4q1 (some 48) 4 1 3 (1 : Int) ((c4q1.length : Nat) : Int) (by kernel_rfl) rfl k4604 ?_
   refine rs 2 [] [] (by kernel_rfl) allP_nil ?_
   refine rf [(2, .ptr 0 0), (4, .ptr 1 0), (5, .ptr 2 0), (6, .ptr 3 0)] [(0, .row 57 [iS p.Cap, .own 6 0 (cut c4q1 (1 : Int) ((c4q1.length : Nat) : Int)).length, bS p.Closed, .sl c0_Senders1.length (fl c0_Senders1), .sl p.Getters.length (fl p.Getters)]), (1, .row 57 [iS 0, .v (.slice none 0 0), bS false, .v (.slice none 0 0), .v (.slice none 0 0)]), (2, .row 33 [bS false, bS false, bS false, iS 0, iS 0, .v (.slice none 0 0)]), (3, .row 33 [bS true, bS false, bS true, iS (ix c4q1 (0 : Int)), iS x.Case, .own 5 0 c5q1.length]), (4, .dead), (5, .row 64 (fl c5q1)), (6, .row 3 (fl (cut c4q1 (1 : Int) ((c4q1.length : Nat) : Int))))] 7 (by kernel_rfl) ?_
   refine wk_id ?_
   refine seq_np ?_
   refine reg_t ?_
   refine rs 4 [] [] (by kernel_rfl) allP_nil ?_
   refine rt [(4, .ptr 1 0), (5, .ptr 2 0)] [(0, .row 57 [iS p.Cap, .own 6 0 (cut c4q1 (1 : Int) ((c4q1.length : Nat) : Int)).length, bS p.Closed, .sl c0_Senders1.length (fl c0_Senders1), .sl p.Getters.length (fl p.Getters)]), (1, .row 57 [iS p.Cap, .own 6 0 (cut c4q1 (1 : Int) ((c4q1.length : Nat) : Int)).length, bS p.Closed, .sl c0_Senders1.length (fl c0_Senders1), .sl p.Getters.length (fl p.Getters)]), (2, .row 33 [bS true, bS false, bS true, iS (ix c4q1 (0 : Int)), iS x.Case, .own 5 0 c5q1.length]), (3, .row 33 [bS true, bS false, bS true, iS (ix c4q1 (0 : Int)), iS x.Case, .own 5 0 c5q1.length]), (4, .dead), (5, .row 64 (fl c5q1)), (6, .row 3 (fl (cut c4q1 (1 : Int) ((c4q1.length : Nat) : Int))))] 11 follows (by kernel_rfl) ?_
   refine wk_id ?_
   obtain rfl := Option.some.inj h
   refine ret_at (.tup [.agg [iS p.Cap, .own 6 0 (cut c4q1 (1 : Int) ((c4q1.length : Nat) : Int)).length, bS p.Closed, .sl c0_Senders1.length (fl c0_Senders1), .sl p.Getters.length (fl p.Getters)], .agg [bS true, bS false, bS true, iS (ix c4q1 (0 : Int)), iS x.Case, .own 5 0 c5q1.length]]) (by kernel_rfl) ?_
   exact ret_e [(0, 5)] [6] (by simp only [leS_frz, leS_cut, leL_flD, renL_flD, push_cast, seval]) (by simp only [leS_frz, leS_cut, leL_flD, renL_flD, push_cast, seval]) rfl rfl rfl
  ·refine wk_id ?_
   refine seq_np ?_
   refine seq_np ?_
   refine reg_f ?_
   refine rs 2 [] [] (by kernel_rfl) allP_nil ?_
   refine rf [(2, .ptr 0 0), (4, .ptr 1 0), (5, .ptr 2 0), (6, .ptr 3 0), (53, bS p.Closed)] [(0, .row 57 [iS p.Cap, .sl p.Items.length (fl p.Items), bS p.Closed, .sl c0_Senders1.length (fl c0_Senders1), .sl p.Getters.length (fl p.Getters)]), (1, .row 57 [iS 0, .v (.slice none 0 0), bS false, .v (.slice none 0 0), .v (.slice none 0 0)]), (2, .row 33 [bS false, bS false, bS false, iS 0, iS 0, .v (.slice none 0 0)]), (3, .row 33 [bS true, bS false, bS false, iS 0, iS x.Case, .own 5 0 c5q1.length]), (4, .row 3 (fl c4q1)), (5, .row 64 (fl c5q1))] 6 (by kernel_rfl) ?_
   refine wk_id ?_
   refine cond_sx h (by kernel_rfl) (fun g4607 h => ?_) (fun g4607 h => ?_)
   ·refine seq_np ?_
    refine reg_t ?_
    refine rs 4 [] [] (by kernel_rfl) allP_nil ?_
    refine rt [(4, .ptr 1 0), (5, .ptr 2 0)] [(0, .row 57 [iS p.Cap, .sl p.Items.length (fl p.Items), bS p.Closed, .sl c0_Senders1.length (fl c0_Senders1), .sl p.Getters.length (fl p.Getters)]), (1, .row 57 [iS p.Cap, .sl p.Items.length (fl p.Items), bS p.Closed, .sl c0_Senders1.length (fl c0_Senders1), .sl p.Getters.length (fl p.Getters)]), (2, .row 33 [bS true, bS false, bS false, iS 0, iS x.Case, .own 5 0 c5q1.length]), (3, .row 33 [bS true, bS false, bS false, iS 0, iS x.Case, .own 5 0 c5q1.length]), (4, .row 3 (fl c4q1)), (5, .row 64 (fl c5q1))] 10 follows (by kernel_rfl) ?_
    refine wk_id ?_
    obtain rfl := Option.some.inj h
    refine ret_at (.tup [.agg [iS p.Cap, .sl p.Items.length (fl p.Items), bS p.Closed, .sl c0_Senders1.length (fl c0_Senders1), .sl p.Getters.length (fl p.Getters)], .agg [bS true, bS false, bS false, iS 0, iS x.Case, .own 5 0 c5q1.length]]) (by kernel_rfl) ?_
    exact ret_e [(0, 5)] [] (by simp only [push_cast, leL_flD, renL_flD, seval]) (by simp only [push_cast, leL_flD, renL_flD, seval]) rfl rfl rfl
   ·refine wk_id ?_
    refine seq_np ?_
    refine reg_f ?_
    refine rs 4 [] [] (by kernel_rfl) allP_nil ?_
    refine rf [(4, .ptr 1 0), (5, .ptr 2 0)] [(0, .row 57 [iS p.Cap, .sl p.Items.length (fl p.Items), bS p.Closed, .sl c0_Senders1.length (fl c0_Senders1), .sl p.Getters.length (fl p.Getters)]), (1, .row 57 [iS p.Cap, .sl p.Items.length (fl p.Items), bS p.Closed, .sl c0_Senders1.length (fl c0_Senders1), .sl p.Getters.length (fl p.Getters)]), (2, .row 33 [bS false, bS false, bS false, iS 0, iS 0, .v (.slice none 0 0)]), (3, .row 33 [bS true, bS false, bS false, iS 0, iS x.Case, .own 5 0 c5q1.length]), (4, .row 3 (fl c4q1)), (5, .row 64 (fl c5q1))] 6 (by kernel_rfl) ?_
    refine wk_id ?_
    obtain rfl := Option.some.inj h
    refine ret_at (.tup [.agg [iS p.Cap, .sl p.Items.length (fl p.Items), bS p.Closed, .sl c0_Senders1.length (fl c0_Senders1), .sl p.Getters.length (fl p.Getters)], .agg [bS false, bS false, bS false, iS 0, iS 0, .v (.slice none 0 0)]]) (by kernel_rfl) ?_
    exact ret_e [] [] (by simp only [push_cast, leL_flD, renL_flD, seval]) (by simp only [push_cast, leL_flD, renL_flD, seval]) rfl rfl rfl

set_option maxRecDepth 100000 in
set_option maxHeartbeats 200000000 in
theorem taskmillref_Sent_spec (p : Pipe) (x : GPost) (r : Int × (List Int) × Bool × (List GPost) × (List GPost) × Bool × Bool × Bool × Int × Int × (List GWake)) (h : taskmillref_Sent p x = some r) : SpecW Try.prog 51 [.agg (Enc.cells p), .agg (Enc.cells x)] [] 0 (fun x h n => x = .tup [.agg [iS r.1, .sl r.2.1.length (fl r.2.1), bS r.2.2.1, .sl r.2.2.2.1.length (fl r.2.2.2.1), .sl r.2.2.2.2.1.length (fl r.2.2.2.2.1)], .agg [bS r.2.2.2.2.2.1, bS r.2.2.2.2.2.2.1, bS r.2.2.2.2.2.2.2.1, iS r.2.2.2.2.2.2.2.2.1, iS r.2.2.2.2.2.2.2.2.2.1, .own 0 0 r.2.2.2.2.2.2.2.2.2.2.length]] ∧ h = [(0, .row 64 (fl r.2.2.2.2.2.2.2.2.2.2))] ∧ n = 1) := by
 unfold taskmillref_Sent at h
 refine spec_of (draw_ok _) Try.func51 rfl (by decide) rfl (by kernel_rfl) ?_
 refine seq_np ?_
 refine reg_f ?_
 refine rs 4 [] [] (by kernel_rfl) allP_nil ?_
 refine rf [(2, .ptr 0 0), (3, .ptr 1 0), (4, .ptr 2 0), (5, .ptr 3 0)] [(0, .row 57 (Enc.cells p)), (1, .row 92 (Enc.cells x)), (2, .row 57 [iS 0, .v (.slice none 0 0), bS false, .v (.slice none 0 0), .v (.slice none 0 0)]), (3, .row 33 [bS false, bS false, bS false, iS 0, iS 0, .v (.slice none 0 0)])] 4 (by kernel_rfl) ?_
 refine wk_id ?_
 refine seq_np ?_
 refine reg_f ?_
 refine rs 5 [] [] (by kernel_rfl) allP_nil ?_
 refine rf [(2, .ptr 0 0), (3, .ptr 1 0), (4, .ptr 2 0), (5, .ptr 3 0), (6, .ptr 4 0)] [(0, .row 57 (Enc.cells p)), (1, .row 92 (Enc.cells x)), (2, .row 57 [iS 0, .v (.slice none 0 0), bS false, .v (.slice none 0 0), .v (.slice none 0 0)]), (3, .row 33 [bS false, bS false, bS false, iS 0, iS 0, .v (.slice none 0 0)]), (4, .row 33 [bS true, bS false, bS false, iS 0, iS x.Case, .v (.slice none 0 0)])] 5 (by kernel_rfl) ?_
 refine wk_id ?_
 refine seq_np ?_
 refine seq_np ?_
 refine reg_f ?_
 refine rs 2 [] [] (by kernel_rfl) allP_nil ?_
 refine rf [(2, .ptr 0 0), (3, .ptr 1 0), (4, .ptr 2 0), (5, .ptr 3 0), (6, .ptr 4 0), (12, bS p.Closed)] [(0, .row 57 (Enc.cells p)), (1, .row 92 (Enc.cells x)), (2, .row 57 [iS 0, .v (.slice none 0 0), bS false, .v (.slice none 0 0), .v (.slice none 0 0)]), (3, .row 33 [bS false, bS false, bS false, iS 0, iS 0, .v (.slice none 0 0)]), (4, .row 33 [bS true, bS false, bS false, iS 0, iS x.Case, .v (.slice none 0 0)])] 5 (by kernel_rfl) ?_
 refine wk_id ?_
 refine cond_sx h (by kernel_rfl) (fun g4652 h => ?_) (fun g4652 h => ?_)
 ·refine seq_np ?_
  refine reg_f ?_
  refine rs 2 [] [] (by kernel_rfl) allP_nil ?_
  refine rf [(2, .ptr 0 0), (4, .ptr 2 0), (5, .ptr 3 0), (6, .ptr 4 0)] [(0, .row 57 (Enc.cells p)), (1, .row 92 (Enc.cells x)), (2, .row 57 [iS 0, .v (.slice none 0 0), bS false, .v (.slice none 0 0), .v (.slice none 0 0)]), (3, .row 33 [bS false, bS false, bS false, iS 0, iS 0, .v (.slice none 0 0)]), (4, .row 33 [bS true, bS true, bS false, iS 0, iS x.Case, .v (.slice none 0 0)])] 5 (by kernel_rfl) ?_
  refine wk_id ?_
  refine seq_np ?_
  refine reg_t ?_
  refine rs 4 [] [] (by kernel_rfl) allP_nil ?_
  refine rt [(4, .ptr 2 0), (5, .ptr 3 0)] [(0, .row 57 (Enc.cells p)), (1, .row 92 (Enc.cells x)), (2, .row 57 (Enc.cells p)), (3, .row 33 [bS true, bS true, bS false, iS 0, iS x.Case, .v (.slice none 0 0)]), (4, .row 33 [bS true, bS true, bS false, iS 0, iS x.Case, .v (.slice none 0 0)])] 9 follows (by kernel_rfl) ?_
  refine wk_id ?_
  obtain rfl := Option.some.inj h
  refine ret_at (.tup [.agg (Enc.cells p), .agg [bS true, bS true, bS false, iS 0, iS x.Case, .v (.slice none 0 0)]]) (by kernel_rfl) ?_
  exact ret_e [] [] (by simp only [push_cast, leL_flD, renL_flD, seval]) (by simp only [push_cast, leL_flD, renL_flD, seval]) rfl rfl rfl
 ·refine wk_id ?_
  refine seq_np ?_
  refine seq_np ?_
  refine reg_f ?_
  refine rs 4 [] [] (by kernel_rfl) allP_nil ?_
  refine rf [(2, .ptr 0 0), (3, .ptr 1 0), (4, .ptr 2 0), (5, .ptr 3 0), (6, .ptr 4 0), (19, bS (decide ((0 : Int) < ((p.Getters.length : Nat) : Int))))] [(0, .row 57 (Enc.cells p)), (1, .row 92 (Enc.cells x)), (2, .row 57 [iS 0, .v (.slice none 0 0), bS false, .v (.slice none 0 0), .v (.slice none 0 0)]), (3, .row 33 [bS false, bS false, bS false, iS 0, iS 0, .v (.slice none 0 0)]), (4, .row 33 [bS true, bS false, bS false, iS 0, iS x.Case, .v (.slice none 0 0)])] 5 (by kernel_rfl) ?_
  refine wk_id ?_
  refine cond_sx h (by kernel_rfl) (fun g4651 h => ?_) (fun g4651 h => ?_)
  ·refine chk_sx h (fun g4632 h => ?_)
   refine seq_np ?_
   refine reg_f ?_
   have k4631 : 0 ≤ (0 : Int) ∧ (0 : Int) < ((p.Getters.length : Nat) : Int) := by first | simpa only [Bool.and_eq_true, decide_eq_true_eq, bne_iff_ne, ne_eq] using g4632 | (simp at g4632 ⊢; omega)
   refine rs 6 [none, none, some ⟨.iptr (fl p.Getters) (((0 : Int)).toNat * 3), [], 5, []⟩, some ⟨.agg (Enc.cells (ix p.Getters (0 : Int))), [], 5, []⟩] _ (by kernel_rfl) (allP_cons (ob_ldw p.Getters (0 : Int) 3 (((0 : Int)).toNat * 3) k4631 rfl (by first | rfl | omega) [iS (ix p.Getters (0 : Int)).Task, iS (ix p.Getters (0 : Int)).Case, iS (ix p.Getters (0 : Int)).Value] rfl 5 []) (allP_cons (ob_ix_l p.Getters 3 5 0 k4631) allP_nil)) ?_
   refine rf [(2, .ptr 0 0), (3, .ptr 1 0), (4, .ptr 2 0), (5, .ptr 3 0), (6, .ptr 4 0), (7, .ptr 5 0)] [(0, .row 57 (Enc.cells p)), (1, .row 92 (Enc.cells x)), (2, .row 57 [iS 0, .v (.slice none 0 0), bS false, .v (.slice none 0 0), .v (.slice none 0 0)]), (3, .row 33 [bS false, bS false, bS false, iS 0, iS 0, .v (.slice none 0 0)]), (4, .row 33 [bS true, bS false, bS false, iS 0, iS x.Case, .v (.slice none 0 0)]), (5, .row 92 (Enc.cells (ix p.Getters (0 : Int))))] 6 (by kernel_rfl) ?_
   refine wk_id ?_
   refine chk_sx h (fun g4636 h => ?_)
   refine seq_np ?_
   refine reg_f ?_
   have k4635 : 0 ≤ (1 : Int) ∧ (1 : Int) ≤ ((p.Getters.length : Nat) : Int) ∧ ((p.Getters.length : Nat) : Int) ≤ ((p.Getters.length : Nat) : Int) := by first | simpa only [Bool.and_eq_true, decide_eq_true_eq, bne_iff_ne, ne_eq] using g4636 | (simp at g4636 ⊢; omega)
   refine rs 5 [none, none, some ⟨.sl (cut p.Getters (1 : Int) ((p.Getters.length : Nat) : Int)).length (fl (cut p.Getters (1 : Int) ((p.Getters.length : Nat) : Int))), [], 6, []⟩] _ (by kernel_rfl) (allP_cons (ob_cut p.Getters (1 : Int) ((p.Getters.length : Nat) : Int) 3 6 rfl k4635) allP_nil) ?_
   refine rf [(2, .ptr 0 0), (3, .ptr 1 0), (4, .ptr 2 0), (5, .ptr 3 0), (6, .ptr 4 0), (7, .ptr 5 0)] [(0, .row 57 [iS p.Cap, .sl p.Items.length (fl p.Items), bS p.Closed, .sl p.Senders.length (fl p.Senders), .sl (cut p.Getters (1 : Int) ((p.Getters.length : Nat) : Int)).length (fl (cut p.Getters (1 : Int) ((p.Getters.length : Nat) : Int)))]), (1, .row 92 (Enc.cells x)), (2, .row 57 [iS 0, .v (.slice none 0 0), bS false, .v (.slice none 0 0), .v (.slice none 0 0)]), (3, .row 33 [bS false, bS false, bS false, iS 0, iS 0, .v (.slice none 0 0)]), (4, .row 33 [bS true, bS false, bS false, iS 0, iS x.Case, .v (.slice none 0 0)]), (5, .row 92 (Enc.cells (ix p.Getters (0 : Int))))] 6 (by kernel_rfl) ?_
   refine wk_id ?_
   refine seq_np ?_
   refine reg_f ?_
   refine rs 10 [] [] (by kernel_rfl) allP_nil ?_
   refine rf [(2, .ptr 0 0), (4, .ptr 2 0), (5, .ptr 3 0), (6, .ptr 4 0)] [(0, .row 57 [iS p.Cap, .sl p.Items.length (fl p.Items), bS p.Closed, .sl p.Senders.length (fl p.Senders), .sl (cut p.Getters (1 : Int) ((p.Getters.length : Nat) : Int)).length (fl (cut p.Getters (1 : Int) ((p.Getters.length : Nat) : Int)))]), (1, .row 92 (Enc.cells x)), (2, .row 57 [iS 0, .v (.slice none 0 0), bS false, .v (.slice none 0 0), .v (.slice none 0 0)]), (3, .row 33 [bS false, bS false, bS false, iS 0, iS 0, .v (.slice none 0 0)]), (4, .row 33 [bS true, bS false, bS false, iS 0, iS x.Case, .own 6 0 ([(GWake.mk (ix p.Getters (0 : Int)).Task (ix p.Getters (0 : Int)).Case x.Value true false)] : List GWake).length]), (5, .row 92 (Enc.cells (ix p.Getters (0 : Int)))), (6, .row 64 (fl ([(GWake.mk (ix p.Getters (0 : Int)).Task (ix p.Getters (0 : Int)).Case x.Value true false)] : List GWake)))] 7 (by kernel_rfl) ?_
   refine wk_id ?_
   refine seq_np ?_
   refine reg_t ?_
   refine rs 4 [] [] (by kernel_rfl) allP_nil ?_
   refine rt [(4, .ptr 2 0), (5, .ptr 3 0)] [(0, .row 57 [iS p.Cap, .sl p.Items.length (fl p.Items), bS p.Closed, .sl p.Senders.length (fl p.Senders), .sl (cut p.Getters (1 : Int) ((p.Getters.length : Nat) : Int)).length (fl (cut p.Getters (1 : Int) ((p.Getters.length : Nat) : Int)))]), (1, .row 92 (Enc.cells x)), (2, .row 57 [iS p.Cap, .sl p.Items.length (fl p.Items), bS p.Closed, .sl p.Senders.length (fl p.Senders), .sl (cut p.Getters (1 : Int) ((p.Getters.length : Nat) : Int)).length (fl (cut p.Getters (1 : Int) ((p.Getters.length : Nat) : Int)))]), (3, .row 33 [bS true, bS false, bS false, iS 0, iS x.Case, .own 6 0 ([(GWake.mk (ix p.Getters (0 : Int)).Task (ix p.Getters (0 : Int)).Case x.Value true false)] : List GWake).length]), (4, .row 33 [bS true, bS false, bS false, iS 0, iS x.Case, .own 6 0 ([(GWake.mk (ix p.Getters (0 : Int)).Task (ix p.Getters (0 : Int)).Case x.Value true false)] : List GWake).length]), (5, .row 92 (Enc.cells (ix p.Getters (0 : Int)))), (6, .row 64 (fl ([(GWake.mk (ix p.Getters (0 : Int)).Task (ix p.Getters (0 : Int)).Case x.Value true false)] : List GWake)))] 11 follows (by kernel_rfl) ?_
   refine wk_id ?_
   obtain rfl := Option.some.inj h
   refine ret_at (.tup [.agg [iS p.Cap, .sl p.Items.length (fl p.Items), bS p.Closed, .sl p.Senders.length (fl p.Senders), .sl (cut p.Getters (1 : Int) ((p.Getters.length : Nat) : Int)).length (fl (cut p.Getters (1 : Int) ((p.Getters.length : Nat) : Int)))], .agg [bS true, bS false, bS false, iS 0, iS x.Case, .own 6 0 ([(GWake.mk (ix p.Getters (0 : Int)).Task (ix p.Getters (0 : Int)).Case x.Value true false)] : List GWake).length]]) (by kernel_rfl) ?_
   exact ret_e [(0, 6)] [] (by simp only [push_cast, leL_flD, renL_flD, seval]) (by simp only [push_cast, leL_flD, renL_flD, seval]) rfl rfl rfl
  ·refine wk_id ?_
   refine seq_np ?_
   refine seq_np ?_
   refine reg_f ?_
   refine rs 6 [] [] (by kernel_rfl) allP_nil ?_
   refine rf [(2, .ptr 0 0), (3, .ptr 1 0), (4, .ptr 2 0), (5, .ptr 3 0), (6, .ptr 4 0), (44, bS (decide (((p.Items.length : Nat) : Int) < p.Cap)))] [(0, .row 57 (Enc.cells p)), (1, .row 92 (Enc.cells x)), (2, .row 57 [iS 0, .v (.slice none 0 0), bS false, .v (.slice none 0 0), .v (.slice none 0 0)]), (3, .row 33 [bS false, bS false, bS false, iS 0, iS 0, .v (.slice none 0 0)]), (4, .row 33 [bS true, bS false, bS false, iS 0, iS x.Case, .v (.slice none 0 0)])] 5 (by kernel_rfl) ?_
   refine wk_id ?_
   refine cond_sx h (by kernel_rfl) (fun g4650 h => ?_) (fun g4650 h => ?_)
   ·refine chk_sx h (fun g4647 h => ?_)
    refine chk_sx h (fun g4649 h => ?_)
    refine seq_np ?_
    refine reg_t ?_
    have k4646 : p.Items.length * 8 ≤ 140737488355328 := by first | simpa only [Bool.and_eq_true, decide_eq_true_eq, bne_iff_ne, ne_eq] using g4647 | (simp at g4647 ⊢; omega)
    have k4648 : (p.Items ++ ([x.Value] : List Int)).length * 8 ≤ 140737488355328 := by first | simpa only [Bool.and_eq_true, decide_eq_true_eq, bne_iff_ne, ne_eq] using g4649 | (simp at g4649 ⊢; omega)
    refine rs 9 [none, none, some ⟨.own 7 0 p.Items.length, [(7, .row 3 (fl p.Items))], 8, []⟩, none, none, none, some ⟨.own 13 0 (p.Items ++ ([x.Value] : List Int)).length, [(13, .row 3 (fl (p.Items ++ ([x.Value] : List Int)))), (7, .dead)], 14, [7, 11]⟩] _ (by kernel_rfl) (allP_cons (ob_app (P := Try.prog) p.Items ([x.Value] : List Int) 1 8 rfl (appCells (fl ([x.Value] : List Int)) 0 (([x.Value] : List Int).length * 1)) ([x.Value] : List Int).length (app_own ([x.Value] : List Int) 1 rfl) rfl (0 + ([x.Value] : List Int).length * 1 ≤ (fl ([x.Value] : List Int)).length) (app_own_le ([x.Value] : List Int) 1 rfl) 3 (by kernel_rfl) (by decide) k4648 7 13 [11]) (allP_cons (ob_app0 (P := Try.prog) p.Items 1 8 rfl (fl p.Items) p.Items.length rfl rfl ((fl p.Items).length = p.Items.length * 1) (app_sl p.Items 1 rfl) 3 (by kernel_rfl) (by decide) k4646 7 []) allP_nil)) ?_
    refine rt [(2, .ptr 0 0), (4, .ptr 2 0), (5, .ptr 3 0), (6, .ptr 4 0)] [(0, .row 57 [iS p.Cap, .own 13 0 (p.Items ++ ([x.Value] : List Int)).length, bS p.Closed, .sl p.Senders.length (fl p.Senders), .sl p.Getters.length (fl p.Getters)]), (1, .row 92 (Enc.cells x)), (2, .row 57 [iS 0, .v (.slice none 0 0), bS false, .v (.slice none 0 0), .v (.slice none 0 0)]), (3, .row 33 [bS false, bS false, bS false, iS 0, iS 0, .v (.slice none 0 0)]), (4, .row 33 [bS true, bS false, bS false, iS 0, iS x.Case, .v (.slice none 0 0)]), (7, .dead), (11, .row 3 (fl ([x.Value] : List Int))), (13, .row 3 (fl (p.Items ++ ([x.Value] : List Int))))] 17 follows (by kernel_rfl) ?_
    refine wk_id ?_
    refine seq_np ?_
    refine reg_t ?_
    refine rs 4 [] [] (by kernel_rfl) allP_nil ?_
    refine rt [(4, .ptr 2 0), (5, .ptr 3 0)] [(0, .row 57 [iS p.Cap, .own 13 0 (p.Items ++ ([x.Value] : List Int)).length, bS p.Closed, .sl p.Senders.length (fl p.Senders), .sl p.Getters.length (fl p.Getters)]), (1, .row 92 (Enc.cells x)), (2, .row 57 [iS p.Cap, .own 13 0 (p.Items ++ ([x.Value] : List Int)).length, bS p.Closed, .sl p.Senders.length (fl p.Senders), .sl p.Getters.length (fl p.Getters)]), (3, .row 33 [bS true, bS false, bS false, iS 0, iS x.Case, .v (.slice none 0 0)]), (4, .row 33 [bS true, bS false, bS false, iS 0, iS x.Case, .v (.slice none 0 0)]), (7, .dead), (11, .row 3 (fl ([x.Value] : List Int))), (13, .row 3 (fl (p.Items ++ ([x.Value] : List Int))))] 21 follows (by kernel_rfl) ?_
    refine wk_id ?_
    obtain rfl := Option.some.inj h
    refine ret_at (.tup [.agg [iS p.Cap, .own 13 0 (p.Items ++ ([x.Value] : List Int)).length, bS p.Closed, .sl p.Senders.length (fl p.Senders), .sl p.Getters.length (fl p.Getters)], .agg [bS true, bS false, bS false, iS 0, iS x.Case, .v (.slice none 0 0)]]) (by kernel_rfl) ?_
    exact ret_e [] [13] (by simp only [leS_frz, leS_cut, leL_flD, renL_flD, push_cast, seval]) (by simp only [leS_frz, leS_cut, leL_flD, renL_flD, push_cast, seval]) rfl rfl rfl
   ·refine wk_id ?_
    refine seq_np ?_
    refine reg_f ?_
    refine rs 4 [] [] (by kernel_rfl) allP_nil ?_
    refine rf [(4, .ptr 2 0), (5, .ptr 3 0)] [(0, .row 57 (Enc.cells p)), (1, .row 92 (Enc.cells x)), (2, .row 57 (Enc.cells p)), (3, .row 33 [bS false, bS false, bS false, iS 0, iS 0, .v (.slice none 0 0)]), (4, .row 33 [bS true, bS false, bS false, iS 0, iS x.Case, .v (.slice none 0 0)])] 5 (by kernel_rfl) ?_
    refine wk_id ?_
    obtain rfl := Option.some.inj h
    refine ret_at (.tup [.agg (Enc.cells p), .agg [bS false, bS false, bS false, iS 0, iS 0, .v (.slice none 0 0)]]) (by kernel_rfl) ?_
    exact ret_e [] [] (by simp only [push_cast, leL_flD, renL_flD, seval]) (by simp only [push_cast, leL_flD, renL_flD, seval]) rfl rfl rfl

set_option maxRecDepth 100000 in
set_option maxHeartbeats 200000000 in
theorem taskmillref_WithPipe_spec (l : (List Pipe)) (i : Int) (p : Pipe) (r : (List Pipe)) (h : taskmillref_WithPipe l i p = some r) : SpecW Try.prog 34 [.sl l.length (fl l), iS i, .agg (Enc.cells p)] [] 0 (fun x h n => x = .own 0 0 r.length ∧ h = [(0, .row 57 (fl r))] ∧ n = 1) := by
 unfold taskmillref_WithPipe at h
 refine spec_of (draw_ok _) Try.func34 rfl (by decide) rfl (by kernel_rfl) ?_
 refine seq_np ?_
 refine reg_f ?_
 refine rs 2 [] [] (by kernel_rfl) allP_nil ?_
 refine rf [(0, .sl l.length (fl l)), (1, iS i), (5, .ptr 0 0)] [(0, .row 57 (Enc.cells p))] 1 (by kernel_rfl) ?_
 refine wk_id ?_
 refine chk_sx h (fun g4665 h => ?_)
 refine seq_np ?_
 refine reg_f ?_
 have k4664 : l.length * 88 ≤ 140737488355328 := by first | simpa only [Bool.and_eq_true, decide_eq_true_eq, bne_iff_ne, ne_eq] using g4665 | (simp at g4665 ⊢; omega)
 refine rs 3 [none, some ⟨.own 1 0 l.length, [(1, .row 57 (fl l))], 2, []⟩] _ (by kernel_rfl) (allP_cons (ob_app0 (P := Try.prog) l 5 88 rfl (fl l) l.length rfl rfl ((fl l).length = l.length * 5) (app_sl l 5 rfl) 57 (by kernel_rfl) (by decide) k4664 1 []) allP_nil) ?_
 refine rf [(1, iS i), (5, .ptr 0 0), (7, .own 1 0 l.length)] [(0, .row 57 (Enc.cells p)), (1, .row 57 (fl l))] 2 (by kernel_rfl) ?_
 refine wk_id ?_
 refine chk_sx h (fun g4669 h => ?_)
 refine seq_np ?_
 refine reg_f ?_
 have k4668 : 0 ≤ i ∧ i < ((l.length : Nat) : Int) := by first | simpa only [Bool.and_eq_true, decide_eq_true_eq, bne_iff_ne, ne_eq] using g4669 | (simp at g4669 ⊢; omega)
 refine rs 5 [none, none, none, some ⟨.ptr 1 (0 + (i).toNat * 5), [], 2, [1]⟩, some ⟨.any, [(1, .row 57 (fl (l.set i.toNat (p : Pipe))))], 2, [1]⟩] _ (by kernel_rfl) (allP_cons (ob_st (P := Try.prog) l i 5 0 (0 + (i).toNat * 5) k4668 rfl [iS p.Cap, .sl p.Items.length (fl p.Items), bS p.Closed, .sl p.Senders.length (fl p.Senders), .sl p.Getters.length (fl p.Getters)] (p : Pipe) (Nat.le_of_ble_eq_true rfl) (by first | rfl | omega) rfl 1 2 57 57 (by kernel_rfl) rfl) (allP_cons (ob_ix_o 1 l.length 0 5 2 i k4668) allP_nil)) ?_
 refine run_eqF 7 (.own 1 0 l.length) (.own 1 0 (l.set i.toNat (p : Pipe)).length) (congrArg (fun nq => (.own 1 0 nq : SV)) (show l.length = (l.set i.toNat (p : Pipe)).length from (List.length_set ..).symm)) (by kernel_rfl) ?_
 refine rf [(7, .own 1 0 (l.set i.toNat (p : Pipe)).length)] [(0, .row 57 (Enc.cells p)), (1, .row 57 (fl (l.set i.toNat (p : Pipe))))] 2 (by kernel_rfl) ?_
 refine wk_id ?_
 refine seq_np ?_
 refine reg_f ?_
 refine rs 2 [] [] (by kernel_rfl) allP_nil ?_
 refine rf [(6, .own 1 0 (l.set i.toNat (p : Pipe)).length)] [(0, .row 57 (Enc.cells p)), (1, .row 57 (fl (l.set i.toNat (p : Pipe))))] 2 (by kernel_rfl) ?_
 refine wk_id ?_
 obtain rfl := Option.some.inj h
 refine ret_at (.own 1 0 (l.set i.toNat (p : Pipe)).length) (by kernel_rfl) ?_
 exact ret_e [(0, 1)] [] (by simp only [push_cast, leL_flD, renL_flD, seval]) (by simp only [push_cast, leL_flD, renL_flD, seval]) rfl rfl rfl

set_option maxRecDepth 100000 in
set_option maxHeartbeats 200000000 in
theorem taskmillref_Gone_spec (l : (List GPost)) (task : Int) (r : (List GPost)) (h : taskmillref_Gone l task = some r) : SpecW Try.prog 54 [.sl l.length (fl l), iS task] [] 0 (fun x h n => x = .own 0 0 r.length ∧ h = [(0, .row 92 (fl r))] ∧ n = 1) := by
 unfold taskmillref_Gone at h
 refine spec_of (draw_ok _) Try.func54 rfl (by decide) rfl (by kernel_rfl) ?_
 refine seq_np ?_
 refine reg_f ?_
 refine rs 1 [] [] (by kernel_rfl) allP_nil ?_
 refine rf [(0, .sl l.length (fl l)), (1, iS task)] [] 0 (by kernel_rfl) ?_
 refine wk_id ?_
 refine seq_np ?_
 refine reg_f ?_
 refine rs 1 [] [] (by kernel_rfl) allP_nil ?_
 refine rf [(0, .sl l.length (fl l)), (1, iS task), (5, .v (.slice none 0 0))] [] 0 (by kernel_rfl) ?_
 refine wk_id ?_
 refine seq_np ?_
 refine seq_np ?_
 refine reg_f ?_
 refine rs 1 [] [] (by kernel_rfl) allP_nil ?_
 refine rf [(0, .sl l.length (fl l)), (1, iS task), (5, .v (.slice none 0 0)), (6, iS 0)] [] 0 (by kernel_rfl) ?_
 refine wk_id ?_
 refine block_np ?_
 refine loop_sx (S := Int × (List GPost)) (fun a => ([(0, .sl l.length (fl l)), (1, iS task), (5, .own 0 0 a.2.length), (6, iS a.1)], [(0, .row 92 (fl a.2))], 1)) h (leSt_m [] [] (by simp only [push_cast, leL_flD, renL_flD, seval]) (by simp only [push_cast, leL_flD, renL_flD, seval]) rfl rfl rfl) ?_
 rintro ⟨i7, c0q19⟩ o2 R2 h hr2 hn2 hx2 ht2
 try dsimp only at h hn2 ⊢
 unfold taskmillref_Gone_l1 at h
 try dsimp only at h
 refine seq_np ?_
 refine seq_np ?_
 refine reg_f ?_
 refine rs 4 [] [] (by kernel_rfl) allP_nil ?_
 refine rf [(0, .sl l.length (fl l)), (1, iS task), (5, .own 0 0 c0q19.length), (6, iS i7), (10, bS (decide (i7 < ((l.length : Nat) : Int))))] [(0, .row 92 (fl c0q19))] 1 (by kernel_rfl) ?_
 refine wk_id ?_
 refine cond_sx h (by kernel_rfl) (fun g4823 h => ?_) (fun g4823 h => ?_)
 ·refine wk_id ?_
  refine seq_np ?_
  refine block_cut (A := (List GPost)) (fun a => ([(0, .sl l.length (fl l)), (1, iS task), (5, .own 0 0 a.length), (6, iS i7)], [(0, .row 92 (fl a))], 1)) (fun a => (taskmillref_Gone_j1 l task i7 a) = some o2) (fun K4809 hK4809 => ?_) ?_
  ·refine chk_sx h (fun g4813 h => ?_)
   refine seq_np ?_
   refine reg_f ?_
   have k4812 : 0 ≤ i7 ∧ i7 < ((l.length : Nat) : Int) := by first | simpa only [Bool.and_eq_true, decide_eq_true_eq, bne_iff_ne, ne_eq] using g4813 | (simp at g4813 ⊢; omega)
   refine rs 7 [none, none, some ⟨.iptr (fl l) ((i7).toNat * 3), [], 1, []⟩, none, some ⟨iS (ix l i7).Task, [], 1, []⟩] _ (by kernel_rfl) (allP_cons (ob_ld l i7 3 0 (((i7).toNat * 3) + 0) k4812 rfl (by decide) (by first | rfl | omega) (dflS Try.prog 3) (iS (ix l i7).Task) rfl 1 []) (allP_cons (ob_ix_l l 3 1 i7 k4812) allP_nil)) ?_
   refine rf [(0, .sl l.length (fl l)), (1, iS task), (5, .own 0 0 c0q19.length), (6, iS i7), (19, bS ((ix l i7).Task != task))] [(0, .row 92 (fl c0q19))] 1 (by kernel_rfl) ?_
   refine wk_id ?_
   refine cond_sx h (by kernel_rfl) (fun g4822 h => ?_) (fun g4822 h => ?_)
   ·refine chk_sx h (fun g4819 h => ?_)
    refine chk_sx h (fun g4821 h => ?_)
    refine reg_f ?_
    have k4818 : 0 ≤ i7 ∧ i7 < ((l.length : Nat) : Int) := by first | simpa only [Bool.and_eq_true, decide_eq_true_eq, bne_iff_ne, ne_eq] using g4819 | (simp at g4819 ⊢; omega)
    have k4820 : (c0q19 ++ ([(ix l i7)] : List GPost)).length * 24 ≤ 140737488355328 := by first | simpa only [Bool.and_eq_true, decide_eq_true_eq, bne_iff_ne, ne_eq] using g4821 | (simp at g4821 ⊢; omega)
    refine rs 8 [none, none, none, some ⟨.iptr (fl l) ((i7).toNat * 3), [], 1, []⟩, some ⟨.agg (Enc.cells (ix l i7)), [], 1, []⟩, none, some ⟨.own 2 0 (c0q19 ++ ([(ix l i7)] : List GPost)).length, [(2, .row 92 (fl (c0q19 ++ ([(ix l i7)] : List GPost)))), (0, .dead)], 3, [0, 1]⟩] _ (by kernel_rfl) (allP_cons (ob_app (P := Try.prog) c0q19 ([(ix l i7)] : List GPost) 3 24 rfl (appCells (fl ([(ix l i7)] : List GPost)) 0 (([(ix l i7)] : List GPost).length * 3)) ([(ix l i7)] : List GPost).length (app_own ([(ix l i7)] : List GPost) 3 rfl) rfl (0 + ([(ix l i7)] : List GPost).length * 3 ≤ (fl ([(ix l i7)] : List GPost)).length) (app_own_le ([(ix l i7)] : List GPost) 3 rfl) 92 (by kernel_rfl) (by decide) k4820 0 2 [1]) (allP_cons (ob_ldw l i7 3 ((i7).toNat * 3) k4818 rfl (by first | rfl | omega) [iS (ix l i7).Task, iS (ix l i7).Case, iS (ix l i7).Value] rfl 1 []) (allP_cons (ob_ix_l l 3 1 i7 k4818) allP_nil))) ?_
    refine rf [(0, .sl l.length (fl l)), (1, iS task), (5, .own 2 0 (c0q19 ++ ([(ix l i7)] : List GPost)).length), (6, iS i7)] [(0, .dead), (1, .row 92 (fl ([(ix l i7)] : List GPost))), (2, .row 92 (fl (c0q19 ++ ([(ix l i7)] : List GPost))))] 3 (by kernel_rfl) ?_
    exact hK4809 ((c0q19 ++ ([(ix l i7)] : List GPost))) _ _ _ h (leSt_m [(0, 2)] [] (by simp only [push_cast, leL_flD, renL_flD, seval]) (by simp only [push_cast, leL_flD, renL_flD, seval]) rfl rfl rfl)
   ·exact hK4809 (c0q19) _ _ _ h (leSt_m [(0, 0)] [] (by simp only [push_cast, leL_flD, renL_flD, seval]) (by simp only [push_cast, leL_flD, renL_flD, seval]) rfl rfl rfl)
  ·rintro c0q21 h
   try dsimp only at h ⊢
   unfold taskmillref_Gone_j1 at h
   refine wk_id ?_
   refine reg_f ?_
   refine rs 3 [] [] (by kernel_rfl) allP_nil ?_
   refine rf [(0, .sl l.length (fl l)), (1, iS task), (5, .own 0 0 c0q21.length), (6, iS (IntKind.i64.wrap (i7 + 1)))] [(0, .row 92 (fl c0q21))] 1 (by kernel_rfl) ?_
   exact hn2 ((IntKind.i64.wrap (i7 + 1)), c0q21) _ _ _ (Option.some.inj h).symm (leSt_m [(0, 0)] [] (by simp only [push_cast, leL_flD, renL_flD, seval]) (by simp only [push_cast, leL_flD, renL_flD, seval]) rfl rfl rfl)
 ·change R2 (.exit 0) _ _ _
  refine ex_cast hx2 (id := 0) ?_
  obtain ⟨r0, h, e0⟩ := map_sx h
  have e1 := hr2 r0 e0.symm
  subst r0
  refine wk_id ?_
  refine wk_id ?_
  refine seq_np ?_
  refine reg_f ?_
  refine rs 2 [] [] (by kernel_rfl) allP_nil ?_
  refine rf [(4, .own 0 0 c0q19.length)] [(0, .row 92 (fl c0q19))] 1 (by kernel_rfl) ?_
  refine wk_id ?_
  obtain rfl := Option.some.inj h
  refine ret_at (.own 0 0 c0q19.length) (by kernel_rfl) ?_
  exact ret_e [(0, 0)] [] (by simp only [push_cast, leL_flD, renL_flD, seval]) (by simp only [push_cast, leL_flD, renL_flD, seval]) rfl rfl rfl

set_option maxRecDepth 100000 in
set_option maxHeartbeats 200000000 in
theorem taskmillref_AllGone_spec (l : (List Pipe)) (w : (List GWake)) (r : (List Pipe)) (h : taskmillref_AllGone l w = some r) : SpecW Try.prog 29 [.sl l.length (fl l), .sl w.length (fl w)] [] 0 (fun x h n => x = .own 0 0 r.length ∧ h = [(0, .row 57 (fl r))] ∧ n = 1) := by
 unfold taskmillref_AllGone at h
 refine spec_of (draw_ok _) Try.func29 rfl (by decide) rfl (by kernel_rfl) ?_
 refine seq_np ?_
 refine reg_f ?_
 refine rs 1 [] [] (by kernel_rfl) allP_nil ?_
 refine rf [(0, .sl l.length (fl l)), (1, .sl w.length (fl w))] [] 0 (by kernel_rfl) ?_
 refine wk_id ?_
 refine seq_np ?_
 refine reg_f ?_
 refine rs 1 [] [] (by kernel_rfl) allP_nil ?_
 refine rf [(0, .sl l.length (fl l)), (1, .sl w.length (fl w)), (5, .v (.slice none 0 0))] [] 0 (by kernel_rfl) ?_
 refine wk_id ?_
 refine seq_np ?_
 refine seq_np ?_
 refine reg_f ?_
 refine rs 1 [] [] (by kernel_rfl) allP_nil ?_
 refine rf [(0, .sl l.length (fl l)), (1, .sl w.length (fl w)), (5, .v (.slice none 0 0)), (6, iS 0)] [] 0 (by kernel_rfl) ?_
 refine wk_id ?_
 refine block_np ?_
 refine loop_sx (S := Int × (List Pipe)) (fun a => ([(0, .sl l.length (fl l)), (1, .sl w.length (fl w)), (5, .own 0 0 a.2.length), (6, iS a.1)], [(0, .row 57 (fl a.2))], 1)) h (leSt_m [] [] (by simp only [push_cast, leL_flD, renL_flD, seval]) (by simp only [push_cast, leL_flD, renL_flD, seval]) rfl rfl rfl) ?_
 rintro ⟨i7, c0q8⟩ o3 R3 h hr3 hn3 hx3 ht3
 try dsimp only at h hn3 ⊢
 unfold taskmillref_AllGone_l2 at h
 try dsimp only at h
 refine seq_np ?_
 refine seq_np ?_
 refine reg_f ?_
 refine rs 4 [] [] (by kernel_rfl) allP_nil ?_
 refine rf [(0, .sl l.length (fl l)), (1, .sl w.length (fl w)), (5, .own 0 0 c0q8.length), (6, iS i7), (12, bS (decide (i7 < ((l.length : Nat) : Int))))] [(0, .row 57 (fl c0q8))] 1 (by kernel_rfl) ?_
 refine wk_id ?_
 refine cond_sx h (by kernel_rfl) (fun g5265 h => ?_) (fun g5265 h => ?_)
 ·refine wk_id ?_
  refine seq_np ?_
  refine block_np ?_
  refine chk_sx h (fun g5175 h => ?_)
  refine seq_np ?_
  refine reg_f ?_
  have k5174 : 0 ≤ i7 ∧ i7 < ((l.length : Nat) : Int) := by first | simpa only [Bool.and_eq_true, decide_eq_true_eq, bne_iff_ne, ne_eq] using g5175 | (simp at g5175 ⊢; omega)
  refine rs 6 [none, none, some ⟨.iptr (fl l) ((i7).toNat * 5), [], 1, []⟩, some ⟨.agg (Enc.cells (ix l i7)), [], 1, []⟩] _ (by kernel_rfl) (allP_cons (ob_ldw l i7 5 ((i7).toNat * 5) k5174 rfl (by first | rfl | omega) [iS (ix l i7).Cap, .sl (ix l i7).Items.length (fl (ix l i7).Items), bS (ix l i7).Closed, .sl (ix l i7).Senders.length (fl (ix l i7).Senders), .sl (ix l i7).Getters.length (fl (ix l i7).Getters)] rfl 1 []) (allP_cons (ob_ix_l l 5 1 i7 k5174) allP_nil)) ?_
  refine rf [(0, .sl l.length (fl l)), (1, .sl w.length (fl w)), (5, .own 0 0 c0q8.length), (6, iS i7), (7, .ptr 1 0)] [(0, .row 57 (fl c0q8)), (1, .row 57 (Enc.cells (ix l i7)))] 2 (by kernel_rfl) ?_
  refine wk_id ?_
  refine seq_np ?_
  refine seq_np ?_
  refine reg_f ?_
  refine rs 1 [] [] (by kernel_rfl) allP_nil ?_
  refine rf [(0, .sl l.length (fl l)), (1, .sl w.length (fl w)), (5, .own 0 0 c0q8.length), (6, iS i7), (7, .ptr 1 0), (8, iS 0)] [(0, .row 57 (fl c0q8)), (1, .row 57 (Enc.cells (ix l i7)))] 2 (by kernel_rfl) ?_
  refine wk_id ?_
  refine block_np ?_
  refine loop_sx (S := Int × (List GPost) × (List GPost)) (fun a => ([(0, .sl l.length (fl l)), (1, .sl w.length (fl w)), (5, .own 0 0 c0q8.length), (6, iS i7), (7, .ptr 1 0), (8, iS a.1)], [(0, .row 57 (fl c0q8)), (1, .row 57 [iS (ix l i7).Cap, .sl (ix l i7).Items.length (fl (ix l i7).Items), bS (ix l i7).Closed, .sl a.2.1.length (fl a.2.1), .sl a.2.2.length (fl a.2.2)])], 2)) h (leSt_m [(0, 0), (1, 1)] [] (by simp only [push_cast, leL_flD, renL_flD, seval]) (by simp only [push_cast, leL_flD, renL_flD, seval]) rfl rfl rfl) ?_
  rintro ⟨k31, c1_Senders23, c1_Getters23⟩ o4 R4 h hr4 hn4 hx4 ht4
  try dsimp only at h hn4 ⊢
  unfold taskmillref_AllGone_l1 at h
  try dsimp only at h
  refine seq_np ?_
  refine seq_np ?_
  refine reg_f ?_
  refine rs 4 [] [] (by kernel_rfl) allP_nil ?_
  refine rf [(0, .sl l.length (fl l)), (1, .sl w.length (fl w)), (5, .own 0 0 c0q8.length), (6, iS i7), (7, .ptr 1 0), (8, iS k31), (22, bS (decide (k31 < ((w.length : Nat) : Int))))] [(0, .row 57 (fl c0q8)), (1, .row 57 [iS (ix l i7).Cap, .sl (ix l i7).Items.length (fl (ix l i7).Items), bS (ix l i7).Closed, .sl c1_Senders23.length (fl c1_Senders23), .sl c1_Getters23.length (fl c1_Getters23)])] 2 (by kernel_rfl) ?_
  refine wk_id ?_
  refine cond_sx h (by kernel_rfl) (fun g5264 h => ?_) (fun g5264 h => ?_)
  ·refine wk_id ?_
   refine seq_np ?_
   refine block_np ?_
   refine chk_sx h (fun g5252 h => ?_)
   refine seq_np ?_
   refine reg_t ?_
   have k5251 : 0 ≤ k31 ∧ k31 < ((w.length : Nat) : Int) := by first | simpa only [Bool.and_eq_true, decide_eq_true_eq, bne_iff_ne, ne_eq] using g5252 | (simp at g5252 ⊢; omega)
   refine rs 7 [none, none, none, none, some ⟨.iptr (fl w) ((k31).toNat * 5), [], 6, []⟩, none, some ⟨iS (ix w k31).Task, [], 8, []⟩] _ (by kernel_rfl) (allP_cons (ob_ld w k31 5 0 (((k31).toNat * 5) + 0) k5251 rfl (by decide) (by first | rfl | omega) (dflS Try.prog 3) (iS (ix w k31).Task) rfl 8 []) (allP_cons (ob_ix_l w 5 6 k31 k5251) allP_nil)) ?_
   obtain ⟨r5253, hr5253, h⟩ := bind_sx h
   refine call_x (taskmillref_Gone_spec c1_Senders23 (ix w k31).Task r5253 hr5253) (args := [.sl c1_Senders23.length (fl c1_Senders23), iS (ix w k31).Task]) (dst := (some 32)) (by kernel_rfl) [(0, .row 57 (fl c0q8)), (1, .row 57 [iS (ix l i7).Cap, .sl (ix l i7).Items.length (fl (ix l i7).Items), bS (ix l i7).Closed, .sl c1_Senders23.length (fl c1_Senders23), .sl c1_Getters23.length (fl c1_Getters23)])] 9 (by kernel_rfl) [] [] (.own 9 0 r5253.length) [(9, .row 92 (fl r5253))] (by simp only [push_cast, leL_flD, renL_flD, seval]) (by simp only [push_cast, leL_flD, renL_flD, seval]) (by kernel_rfl) (.inl rfl) (by simp only [push_cast, leL_flD, renL_flD, seval]) (by simp only [push_cast, leL_flD, renL_flD, seval]) ?_
   refine rs 2 [] [] (by kernel_rfl) allP_nil ?_
   refine rt [(0, .sl l.length (fl l)), (1, .sl w.length (fl w)), (5, .own 0 0 c0q8.length), (6, iS i7), (7, .ptr 1 0), (8, iS k31)] [(0, .row 57 (fl c0q8)), (1, .row 57 [iS (ix l i7).Cap, .sl (ix l i7).Items.length (fl (ix l i7).Items), bS (ix l i7).Closed, .own 9 0 r5253.length, .sl c1_Getters23.length (fl c1_Getters23)]), (9, .row 92 (fl r5253))] 13 follows (by kernel_rfl) ?_
   refine wk_id ?_
   refine chk_sx h (fun g5258 h => ?_)
   refine reg_t ?_
   have k5257 : 0 ≤ k31 ∧ k31 < ((w.length : Nat) : Int) := by first | simpa only [Bool.and_eq_true, decide_eq_true_eq, bne_iff_ne, ne_eq] using g5258 | (simp at g5258 ⊢; omega)
   refine rs 7 [none, none, none, none, some ⟨.iptr (fl w) ((k31).toNat * 5), [], 17, []⟩, none, some ⟨iS (ix w k31).Task, [], 19, []⟩] _ (by kernel_rfl) (allP_cons (ob_ld w k31 5 0 (((k31).toNat * 5) + 0) k5257 rfl (by decide) (by first | rfl | omega) (dflS Try.prog 3) (iS (ix w k31).Task) rfl 19 []) (allP_cons (ob_ix_l w 5 17 k31 k5257) allP_nil)) ?_
   obtain ⟨r5259, hr5259, h⟩ := bind_sx h
   refine call_x (taskmillref_Gone_spec c1_Getters23 (ix w k31).Task r5259 hr5259) (args := [.sl c1_Getters23.length (fl c1_Getters23), iS (ix w k31).Task]) (dst := (some 41)) (by kernel_rfl) [(0, .row 57 (fl c0q8)), (1, .row 57 [iS (ix l i7).Cap, .sl (ix l i7).Items.length (fl (ix l i7).Items), bS (ix l i7).Closed, .own 9 0 r5253.length, .sl c1_Getters23.length (fl c1_Getters23)]), (9, .row 92 (fl r5253))] 20 (by kernel_rfl) [] [] (.own 20 0 r5259.length) [(20, .row 92 (fl r5259))] (by simp only [push_cast, leL_flD, renL_flD, seval]) (by simp only [push_cast, leL_flD, renL_flD, seval]) (by kernel_rfl) (.inl rfl) (by simp only [push_cast, leL_flD, renL_flD, seval]) (by simp only [push_cast, leL_flD, renL_flD, seval]) ?_
   refine rs 2 [] [] (by kernel_rfl) allP_nil ?_
   refine rt [(0, .sl l.length (fl l)), (1, .sl w.length (fl w)), (5, .own 0 0 c0q8.length), (6, iS i7), (7, .ptr 1 0), (8, iS k31)] [(0, .row 57 (fl c0q8)), (1, .row 57 [iS (ix l i7).Cap, .sl (ix l i7).Items.length (fl (ix l i7).Items), bS (ix l i7).Closed, .own 9 0 r5253.length, .own 20 0 r5259.length]), (9, .row 92 (fl r5253)), (20, .row 92 (fl r5259))] 24 follows (by kernel_rfl) ?_
   refine wk_id ?_
   refine wk_id ?_
   refine reg_f ?_
   refine rs 3 [] [] (by kernel_rfl) allP_nil ?_
   refine rf [(0, .sl l.length (fl l)), (1, .sl w.length (fl w)), (5, .own 0 0 c0q8.length), (6, iS i7), (7, .ptr 1 0), (8, iS (IntKind.i64.wrap (k31 + 1)))] [(0, .row 57 (fl c0q8)), (1, .row 57 [iS (ix l i7).Cap, .sl (ix l i7).Items.length (fl (ix l i7).Items), bS (ix l i7).Closed, .own 9 0 r5253.length, .own 20 0 r5259.length]), (9, .row 92 (fl r5253)), (20, .row 92 (fl r5259))] 24 (by kernel_rfl) ?_
   exact hn4 ((IntKind.i64.wrap (k31 + 1)), r5253, r5259) _ _ _ (Option.some.inj h).symm (leSt_m [(0, 0), (1, 1)] [9, 20] (by simp only [leS_frz, leS_cut, leL_flD, renL_flD, push_cast, seval]) (by simp only [leS_frz, leS_cut, leL_flD, renL_flD, push_cast, seval]) rfl rfl rfl)
  ·change R4 (.exit 2) _ _ _
   refine ex_cast hx4 (id := 2) ?_
   obtain ⟨r0, h, e0⟩ := map_sx h
   have e1 := hr4 r0 e0.symm
   subst r0
   refine wk_id ?_
   refine wk_id ?_
   refine chk_sx h (fun g5263 h => ?_)
   refine reg_f ?_
   have k5262 : (c0q8 ++ ([(Pipe.mk (ix l i7).Cap (ix l i7).Items (ix l i7).Closed c1_Senders23 c1_Getters23)] : List Pipe)).length * 88 ≤ 140737488355328 := by first | simpa only [Bool.and_eq_true, decide_eq_true_eq, bne_iff_ne, ne_eq] using g5263 | (simp at g5263 ⊢; omega)
   refine rs 5 [none, none, none, some ⟨.own 3 0 (c0q8 ++ ([(Pipe.mk (ix l i7).Cap (ix l i7).Items (ix l i7).Closed c1_Senders23 c1_Getters23)] : List Pipe)).length, [(3, .row 57 (fl (c0q8 ++ ([(Pipe.mk (ix l i7).Cap (ix l i7).Items (ix l i7).Closed c1_Senders23 c1_Getters23)] : List Pipe)))), (0, .dead)], 4, [0, 2]⟩] _ (by kernel_rfl) (allP_cons (ob_app (P := Try.prog) c0q8 ([(Pipe.mk (ix l i7).Cap (ix l i7).Items (ix l i7).Closed c1_Senders23 c1_Getters23)] : List Pipe) 5 88 rfl (appCells (fl ([(Pipe.mk (ix l i7).Cap (ix l i7).Items (ix l i7).Closed c1_Senders23 c1_Getters23)] : List Pipe)) 0 (([(Pipe.mk (ix l i7).Cap (ix l i7).Items (ix l i7).Closed c1_Senders23 c1_Getters23)] : List Pipe).length * 5)) ([(Pipe.mk (ix l i7).Cap (ix l i7).Items (ix l i7).Closed c1_Senders23 c1_Getters23)] : List Pipe).length (app_own ([(Pipe.mk (ix l i7).Cap (ix l i7).Items (ix l i7).Closed c1_Senders23 c1_Getters23)] : List Pipe) 5 rfl) rfl (0 + ([(Pipe.mk (ix l i7).Cap (ix l i7).Items (ix l i7).Closed c1_Senders23 c1_Getters23)] : List Pipe).length * 5 ≤ (fl ([(Pipe.mk (ix l i7).Cap (ix l i7).Items (ix l i7).Closed c1_Senders23 c1_Getters23)] : List Pipe)).length) (app_own_le ([(Pipe.mk (ix l i7).Cap (ix l i7).Items (ix l i7).Closed c1_Senders23 c1_Getters23)] : List Pipe) 5 rfl) 57 (by kernel_rfl) (by decide) k5262 0 3 [2]) allP_nil) ?_
   refine rf [(0, .sl l.length (fl l)), (1, .sl w.length (fl w)), (5, .own 3 0 (c0q8 ++ ([(Pipe.mk (ix l i7).Cap (ix l i7).Items (ix l i7).Closed c1_Senders23 c1_Getters23)] : List Pipe)).length), (6, iS i7)] [(0, .dead), (1, .row 57 [iS (ix l i7).Cap, .sl (ix l i7).Items.length (fl (ix l i7).Items), bS (ix l i7).Closed, .sl c1_Senders23.length (fl c1_Senders23), .sl c1_Getters23.length (fl c1_Getters23)]), (2, .row 57 (fl ([(Pipe.mk (ix l i7).Cap (ix l i7).Items (ix l i7).Closed c1_Senders23 c1_Getters23)] : List Pipe))), (3, .row 57 (fl (c0q8 ++ ([(Pipe.mk (ix l i7).Cap (ix l i7).Items (ix l i7).Closed c1_Senders23 c1_Getters23)] : List Pipe))))] 4 (by kernel_rfl) ?_
   refine wk_id ?_
   refine wk_id ?_
   refine reg_f ?_
   refine rs 3 [] [] (by kernel_rfl) allP_nil ?_
   refine rf [(0, .sl l.length (fl l)), (1, .sl w.length (fl w)), (5, .own 3 0 (c0q8 ++ ([(Pipe.mk (ix l i7).Cap (ix l i7).Items (ix l i7).Closed c1_Senders23 c1_Getters23)] : List Pipe)).length), (6, iS (IntKind.i64.wrap (i7 + 1)))] [(0, .dead), (1, .row 57 [iS (ix l i7).Cap, .sl (ix l i7).Items.length (fl (ix l i7).Items), bS (ix l i7).Closed, .sl c1_Senders23.length (fl c1_Senders23), .sl c1_Getters23.length (fl c1_Getters23)]), (2, .row 57 (fl ([(Pipe.mk (ix l i7).Cap (ix l i7).Items (ix l i7).Closed c1_Senders23 c1_Getters23)] : List Pipe))), (3, .row 57 (fl (c0q8 ++ ([(Pipe.mk (ix l i7).Cap (ix l i7).Items (ix l i7).Closed c1_Senders23 c1_Getters23)] : List Pipe))))] 4 (by kernel_rfl) ?_
   exact hn3 ((IntKind.i64.wrap (i7 + 1)), (c0q8 ++ ([(Pipe.mk (ix l i7).Cap (ix l i7).Items (ix l i7).Closed c1_Senders23 c1_Getters23)] : List Pipe))) _ _ _ (Option.some.inj h).symm (leSt_m [(0, 3)] [] (by simp only [push_cast, leL_flD, renL_flD, seval]) (by simp only [push_cast, leL_flD, renL_flD, seval]) rfl rfl rfl)
 ·change R3 (.exit 0) _ _ _
  refine ex_cast hx3 (id := 0) ?_
  obtain ⟨r0, h, e0⟩ := map_sx h
  have e1 := hr3 r0 e0.symm
  subst r0
  refine wk_id ?_
  refine wk_id ?_
  refine seq_np ?_
  refine reg_f ?_
  refine rs 2 [] [] (by kernel_rfl) allP_nil ?_
  refine rf [(4, .own 0 0 c0q8.length)] [(0, .row 57 (fl c0q8))] 1 (by kernel_rfl) ?_
  refine wk_id ?_
  obtain rfl := Option.some.inj h
  refine ret_at (.own 0 0 c0q8.length) (by kernel_rfl) ?_
  exact ret_e [(0, 0)] [] (by simp only [push_cast, leL_flD, renL_flD, seval]) (by simp only [push_cast, leL_flD, renL_flD, seval]) rfl rfl rfl

set_option maxRecDepth 100000 in
set_option maxHeartbeats 200000000 in
theorem taskmillref_Chosen_spec (l : (List Pipe)) (task : Int) (k : Int) (c : GCase) (r : (List Pipe) × Bool × Bool × Bool × Int × Int × (List GWake)) (h : taskmillref_Chosen l task k c = some r) : SpecW Try.prog 23 [.sl l.length (fl l), iS task, iS k, .agg (Enc.cells c)] [] 0 (fun x h n => x = .tup [.sl r.1.length (fl r.1), .agg [bS r.2.1, bS r.2.2.1, bS r.2.2.2.1, iS r.2.2.2.2.1, iS r.2.2.2.2.2.1, .sl r.2.2.2.2.2.2.length (fl r.2.2.2.2.2.2)]] ∧ h = [] ∧ n = 0) := by
 unfold taskmillref_Chosen at h
 refine spec_of (draw_ok _) Try.func23 rfl (by decide) rfl (by kernel_rfl) ?_
 refine seq_np ?_
 refine reg_f ?_
 refine rs 3 [] [] (by kernel_rfl) allP_nil ?_
 refine rf [(0, .sl l.length (fl l)), (1, iS task), (2, iS k), (7, .ptr 0 0), (9, .ptr 1 0)] [(0, .row 49 (Enc.cells c)), (1, .row 33 [bS false, bS false, bS false, iS 0, iS 0, .v (.slice none 0 0)])] 2 (by kernel_rfl) ?_
 refine wk_id ?_
 refine seq_np ?_
 refine seq_np ?_
 refine reg_f ?_
 refine rs 3 [] [] (by kernel_rfl) allP_nil ?_
 refine rf [(0, .sl l.length (fl l)), (1, iS task), (2, iS k), (7, .ptr 0 0), (9, .ptr 1 0), (15, bS (decide (c.Pipe < 0)))] [(0, .row 49 (Enc.cells c)), (1, .row 33 [bS false, bS false, bS false, iS 0, iS 0, .v (.slice none 0 0)])] 2 (by kernel_rfl) ?_
 refine wk_id ?_
 refine cond_sx h (by kernel_rfl) (fun g5295 h => ?_) (fun g5295 h => ?_)
 ·refine seq_np ?_
  refine reg_f ?_
  refine rs 4 [] [] (by kernel_rfl) allP_nil ?_
  refine rf [(8, .sl l.length (fl l)), (9, .ptr 1 0)] [(0, .row 49 (Enc.cells c)), (1, .row 33 [bS false, bS false, bS false, iS 0, iS 0, .v (.slice none 0 0)])] 2 (by kernel_rfl) ?_
  refine wk_id ?_
  obtain rfl := Option.some.inj h
  refine ret_at (.tup [.sl l.length (fl l), .agg [bS false, bS false, bS false, iS 0, iS 0, .v (.slice none 0 0)]]) (by kernel_rfl) ?_
  exact ret_e [] [] (by simp only [push_cast, leL_flD, renL_flD, seval]) (by simp only [push_cast, leL_flD, renL_flD, seval]) rfl rfl rfl
 ·refine wk_id ?_
  refine seq_np ?_
  refine reg_f ?_
  refine rs 7 [] [] (by kernel_rfl) allP_nil ?_
  refine rf [(0, .sl l.length (fl l)), (7, .ptr 0 0), (9, .ptr 1 0), (10, .ptr 2 0)] [(0, .row 49 (Enc.cells c)), (1, .row 33 [bS false, bS false, bS false, iS 0, iS 0, .v (.slice none 0 0)]), (2, .row 92 [iS task, iS k, iS c.Value])] 3 (by kernel_rfl) ?_
  refine wk_id ?_
  refine chk_sx h (fun g5273 h => ?_)
  refine seq_np ?_
  refine reg_t ?_
  have k5272 : 0 ≤ c.Pipe ∧ c.Pipe < ((l.length : Nat) : Int) := by first | simpa only [Bool.and_eq_true, decide_eq_true_eq, bne_iff_ne, ne_eq] using g5273 | (simp at g5273 ⊢; omega)
  refine rs 6 [none, none, none, some ⟨.iptr (fl l) ((c.Pipe).toNat * 5), [], 6, []⟩, some ⟨.agg (Enc.cells (ix l c.Pipe)), [], 7, []⟩] _ (by kernel_rfl) (allP_cons (ob_ldw l c.Pipe 5 ((c.Pipe).toNat * 5) k5272 rfl (by first | rfl | omega) [iS (ix l c.Pipe).Cap, .sl (ix l c.Pipe).Items.length (fl (ix l c.Pipe).Items), bS (ix l c.Pipe).Closed, .sl (ix l c.Pipe).Senders.length (fl (ix l c.Pipe).Senders), .sl (ix l c.Pipe).Getters.length (fl (ix l c.Pipe).Getters)] rfl 7 []) (allP_cons (ob_ix_l l 5 6 c.Pipe k5272) allP_nil)) ?_
  obtain ⟨r5274, hr5274, h⟩ := bind_sx h
  refine call_x (taskmillref_Taken_spec (ix l c.Pipe) (GPost.mk task k c.Value) r5274 hr5274) (args := [.agg (Enc.cells (ix l c.Pipe)), .agg [iS task, iS k, iS c.Value]]) (dst := (some 30)) (by kernel_rfl) [(0, .row 49 (Enc.cells c)), (1, .row 33 [bS false, bS false, bS false, iS 0, iS 0, .v (.slice none 0 0)]), (2, .row 92 [iS task, iS k, iS c.Value])] 9 (by kernel_rfl) [] [] (.tup [.agg [iS r5274.1, .sl r5274.2.1.length (fl r5274.2.1), bS r5274.2.2.1, .sl r5274.2.2.2.1.length (fl r5274.2.2.2.1), .sl r5274.2.2.2.2.1.length (fl r5274.2.2.2.2.1)], .agg [bS r5274.2.2.2.2.2.1, bS r5274.2.2.2.2.2.2.1, bS r5274.2.2.2.2.2.2.2.1, iS r5274.2.2.2.2.2.2.2.2.1, iS r5274.2.2.2.2.2.2.2.2.2.1, .own 9 0 r5274.2.2.2.2.2.2.2.2.2.2.length]]) [(9, .row 64 (fl r5274.2.2.2.2.2.2.2.2.2.2))] (by simp only [push_cast, leL_flD, renL_flD, seval]) (by simp only [push_cast, leL_flD, renL_flD, seval]) (by kernel_rfl) (.inl rfl) (by simp only [push_cast, leL_flD, renL_flD, seval]) (by simp only [push_cast, leL_flD, renL_flD, seval]) ?_
  refine rs 7 [] [] (by kernel_rfl) allP_nil ?_
  refine rt [(0, .sl l.length (fl l)), (7, .ptr 0 0), (9, .ptr 1 0), (10, .ptr 2 0), (11, .ptr 14 0), (12, .ptr 16 0)] [(0, .row 49 (Enc.cells c)), (1, .row 33 [bS false, bS false, bS false, iS 0, iS 0, .v (.slice none 0 0)]), (2, .row 92 [iS task, iS k, iS c.Value]), (9, .row 64 (fl r5274.2.2.2.2.2.2.2.2.2.2)), (14, .row 57 [iS r5274.1, .sl r5274.2.1.length (fl r5274.2.1), bS r5274.2.2.1, .sl r5274.2.2.2.1.length (fl r5274.2.2.2.1), .sl r5274.2.2.2.2.1.length (fl r5274.2.2.2.2.1)]), (16, .row 33 [bS r5274.2.2.2.2.2.1, bS r5274.2.2.2.2.2.2.1, bS r5274.2.2.2.2.2.2.2.1, iS r5274.2.2.2.2.2.2.2.2.1, iS r5274.2.2.2.2.2.2.2.2.2.1, .own 9 0 r5274.2.2.2.2.2.2.2.2.2.2.length])] 20 follows (by kernel_rfl) ?_
  refine wk_id ?_
  refine seq_cut (A := Pipe × Bool × Bool × Bool × Int × Int × (List GWake)) (fun a => ([(0, .sl l.length (fl l)), (7, .ptr 0 0), (9, .ptr 1 0), (11, .ptr 2 0), (12, .ptr 3 0)], [(0, .row 49 (Enc.cells c)), (1, .row 33 [bS false, bS false, bS false, iS 0, iS 0, .v (.slice none 0 0)]), (2, .row 57 (Enc.cells a.1)), (3, .row 33 [bS a.2.1, bS a.2.2.1, bS a.2.2.2.1, iS a.2.2.2.2.1, iS a.2.2.2.2.2.1, .own 4 0 a.2.2.2.2.2.2.length]), (4, .row 64 (fl a.2.2.2.2.2.2))], 5)) (fun a => (taskmillref_Chosen_j1 l c a.1 a.2.1 a.2.2.1 a.2.2.2.1 a.2.2.2.2.1 a.2.2.2.2.2.1 a.2.2.2.2.2.2) = some r) (fun K5280 hK5280 => ?_) ?_
  ·refine seq_np ?_
   refine reg_f ?_
   refine rs 2 [] [] (by kernel_rfl) allP_nil ?_
   refine rf [(0, .sl l.length (fl l)), (7, .ptr 0 0), (9, .ptr 1 0), (10, .ptr 2 0), (11, .ptr 14 0), (12, .ptr 16 0), (34, bS c.Send)] [(0, .row 49 (Enc.cells c)), (1, .row 33 [bS false, bS false, bS false, iS 0, iS 0, .v (.slice none 0 0)]), (2, .row 92 [iS task, iS k, iS c.Value]), (9, .row 64 (fl r5274.2.2.2.2.2.2.2.2.2.2)), (14, .row 57 [iS r5274.1, .sl r5274.2.1.length (fl r5274.2.1), bS r5274.2.2.1, .sl r5274.2.2.2.1.length (fl r5274.2.2.2.1), .sl r5274.2.2.2.2.1.length (fl r5274.2.2.2.2.1)]), (16, .row 33 [bS r5274.2.2.2.2.2.1, bS r5274.2.2.2.2.2.2.1, bS r5274.2.2.2.2.2.2.2.1, iS r5274.2.2.2.2.2.2.2.2.1, iS r5274.2.2.2.2.2.2.2.2.2.1, .own 9 0 r5274.2.2.2.2.2.2.2.2.2.2.length])] 20 (by kernel_rfl) ?_
   refine wk_id ?_
   refine cond_sx h (by kernel_rfl) (fun g5287 h => ?_) (fun g5287 h => ?_)
   ·refine chk_sx h (fun g5285 h => ?_)
    refine reg_t ?_
    have k5284 : 0 ≤ c.Pipe ∧ c.Pipe < ((l.length : Nat) : Int) := by first | simpa only [Bool.and_eq_true, decide_eq_true_eq, bne_iff_ne, ne_eq] using g5285 | (simp at g5285 ⊢; omega)
    refine rs 6 [none, none, none, some ⟨.iptr (fl l) ((c.Pipe).toNat * 5), [], 23, []⟩, some ⟨.agg (Enc.cells (ix l c.Pipe)), [], 24, []⟩] _ (by kernel_rfl) (allP_cons (ob_ldw l c.Pipe 5 ((c.Pipe).toNat * 5) k5284 rfl (by first | rfl | omega) [iS (ix l c.Pipe).Cap, .sl (ix l c.Pipe).Items.length (fl (ix l c.Pipe).Items), bS (ix l c.Pipe).Closed, .sl (ix l c.Pipe).Senders.length (fl (ix l c.Pipe).Senders), .sl (ix l c.Pipe).Getters.length (fl (ix l c.Pipe).Getters)] rfl 24 []) (allP_cons (ob_ix_l l 5 23 c.Pipe k5284) allP_nil)) ?_
    obtain ⟨r5286, hr5286, h⟩ := bind_sx h
    refine call_x (taskmillref_Sent_spec (ix l c.Pipe) (GPost.mk task k c.Value) r5286 hr5286) (args := [.agg (Enc.cells (ix l c.Pipe)), .agg [iS task, iS k, iS c.Value]]) (dst := (some 42)) (by kernel_rfl) [(0, .row 49 (Enc.cells c)), (1, .row 33 [bS false, bS false, bS false, iS 0, iS 0, .v (.slice none 0 0)]), (2, .row 92 [iS task, iS k, iS c.Value]), (9, .row 64 (fl r5274.2.2.2.2.2.2.2.2.2.2)), (14, .row 57 [iS r5274.1, .sl r5274.2.1.length (fl r5274.2.1), bS r5274.2.2.1, .sl r5274.2.2.2.1.length (fl r5274.2.2.2.1), .sl r5274.2.2.2.2.1.length (fl r5274.2.2.2.2.1)]), (16, .row 33 [bS r5274.2.2.2.2.2.1, bS r5274.2.2.2.2.2.2.1, bS r5274.2.2.2.2.2.2.2.1, iS r5274.2.2.2.2.2.2.2.2.1, iS r5274.2.2.2.2.2.2.2.2.2.1, .own 9 0 r5274.2.2.2.2.2.2.2.2.2.2.length])] 26 (by kernel_rfl) [] [] (.tup [.agg [iS r5286.1, .sl r5286.2.1.length (fl r5286.2.1), bS r5286.2.2.1, .sl r5286.2.2.2.1.length (fl r5286.2.2.2.1), .sl r5286.2.2.2.2.1.length (fl r5286.2.2.2.2.1)], .agg [bS r5286.2.2.2.2.2.1, bS r5286.2.2.2.2.2.2.1, bS r5286.2.2.2.2.2.2.2.1, iS r5286.2.2.2.2.2.2.2.2.1, iS r5286.2.2.2.2.2.2.2.2.2.1, .own 26 0 r5286.2.2.2.2.2.2.2.2.2.2.length]]) [(26, .row 64 (fl r5286.2.2.2.2.2.2.2.2.2.2))] (by simp only [push_cast, leL_flD, renL_flD, seval]) (by simp only [push_cast, leL_flD, renL_flD, seval]) (by kernel_rfl) (.inl rfl) (by simp only [push_cast, leL_flD, renL_flD, seval]) (by simp only [push_cast, leL_flD, renL_flD, seval]) ?_
    refine rs 5 [] [] (by kernel_rfl) allP_nil ?_
    refine rt [(0, .sl l.length (fl l)), (7, .ptr 0 0), (9, .ptr 1 0), (11, .ptr 14 0), (12, .ptr 16 0)] [(0, .row 49 (Enc.cells c)), (1, .row 33 [bS false, bS false, bS false, iS 0, iS 0, .v (.slice none 0 0)]), (2, .row 92 [iS task, iS k, iS c.Value]), (9, .row 64 (fl r5274.2.2.2.2.2.2.2.2.2.2)), (14, .row 57 [iS r5286.1, .sl r5286.2.1.length (fl r5286.2.1), bS r5286.2.2.1, .sl r5286.2.2.2.1.length (fl r5286.2.2.2.1), .sl r5286.2.2.2.2.1.length (fl r5286.2.2.2.2.1)]), (16, .row 33 [bS r5286.2.2.2.2.2.1, bS r5286.2.2.2.2.2.2.1, bS r5286.2.2.2.2.2.2.2.1, iS r5286.2.2.2.2.2.2.2.2.1, iS r5286.2.2.2.2.2.2.2.2.2.1, .own 26 0 r5286.2.2.2.2.2.2.2.2.2.2.length]), (26, .row 64 (fl r5286.2.2.2.2.2.2.2.2.2.2))] 33 follows (by kernel_rfl) ?_
    exact hK5280 ((Pipe.mk r5286.1 r5286.2.1 r5286.2.2.1 r5286.2.2.2.1 r5286.2.2.2.2.1), r5286.2.2.2.2.2.1, r5286.2.2.2.2.2.2.1, r5286.2.2.2.2.2.2.2.1, r5286.2.2.2.2.2.2.2.2.1, r5286.2.2.2.2.2.2.2.2.2.1, r5286.2.2.2.2.2.2.2.2.2.2) _ _ _ h (leSt_m [(0, 0), (1, 1), (2, 14), (3, 16), (4, 26)] [] (by simp only [push_cast, leL_flD, renL_flD, seval]) (by simp only [push_cast, leL_flD, renL_flD, seval]) rfl rfl rfl)
   ·exact hK5280 ((Pipe.mk r5274.1 r5274.2.1 r5274.2.2.1 r5274.2.2.2.1 r5274.2.2.2.2.1), r5274.2.2.2.2.2.1, r5274.2.2.2.2.2.2.1, r5274.2.2.2.2.2.2.2.1, r5274.2.2.2.2.2.2.2.2.1, r5274.2.2.2.2.2.2.2.2.2.1, r5274.2.2.2.2.2.2.2.2.2.2) _ _ _ h (leSt_m [(0, 0), (1, 1), (2, 14), (3, 16), (4, 9)] [] (by simp only [push_cast, leL_flD, renL_flD, seval]) (by simp only [push_cast, leL_flD, renL_flD, seval]) rfl rfl rfl)
  ·rintro ⟨c2q1, c3_Done1, c3_Panic1, c3_Ok1, c3_Value1, c3_Case1, c4q1⟩ h
   try dsimp only at h ⊢
   unfold taskmillref_Chosen_j1 at h
   refine seq_np ?_
   refine seq_np ?_
   refine reg_f ?_
   refine rs 3 [] [] (by kernel_rfl) allP_nil ?_
   refine rf [(0, .sl l.length (fl l)), (7, .ptr 0 0), (9, .ptr 1 0), (11, .ptr 2 0), (12, .ptr 3 0), (47, bS (!c3_Done1))] [(0, .row 49 (Enc.cells c)), (1, .row 33 [bS false, bS false, bS false, iS 0, iS 0, .v (.slice none 0 0)]), (2, .row 57 (Enc.cells c2q1)), (3, .row 33 [bS c3_Done1, bS c3_Panic1, bS c3_Ok1, iS c3_Value1, iS c3_Case1, .own 4 0 c4q1.length]), (4, .row 64 (fl c4q1))] 5 (by kernel_rfl) ?_
   refine wk_id ?_
   refine cond_sx h (by kernel_rfl) (fun g5294 h => ?_) (fun g5294 h => ?_)
   ·refine seq_np ?_
    refine reg_t ?_
    refine rs 4 [] [] (by kernel_rfl) allP_nil ?_
    refine rt [(8, .sl l.length (fl l)), (9, .ptr 1 0)] [(0, .row 49 (Enc.cells c)), (1, .row 33 [bS c3_Done1, bS c3_Panic1, bS c3_Ok1, iS c3_Value1, iS c3_Case1, .own 4 0 c4q1.length]), (2, .row 57 (Enc.cells c2q1)), (3, .row 33 [bS c3_Done1, bS c3_Panic1, bS c3_Ok1, iS c3_Value1, iS c3_Case1, .own 4 0 c4q1.length]), (4, .row 64 (fl c4q1))] 9 follows (by kernel_rfl) ?_
    refine wk_id ?_
    obtain rfl := Option.some.inj h
    refine ret_at (.tup [.sl l.length (fl l), .agg [bS c3_Done1, bS c3_Panic1, bS c3_Ok1, iS c3_Value1, iS c3_Case1, .own 4 0 c4q1.length]]) (by kernel_rfl) ?_
    exact ret_e [] [4] (by simp only [leS_frz, leS_cut, leL_flD, renL_flD, push_cast, seval]) (by simp only [leS_frz, leS_cut, leL_flD, renL_flD, push_cast, seval]) rfl rfl rfl
   ·refine wk_mk [(0, .sl l.length (fl l)), (7, .ptr 0 0), (9, .ptr 1 0), (11, .ptr 2 0), (12, .ptr 3 0), (47, bS (!c3_Done1))] [(0, .row 49 (Enc.cells c)), (1, .row 33 [bS false, bS false, bS false, iS 0, iS 0, .v (.slice none 0 0)]), (2, .row 57 (Enc.cells c2q1)), (3, .row 33 [bS c3_Done1, bS c3_Panic1, bS c3_Ok1, iS c3_Value1, iS c3_Case1, .sl c4q1.length (fl c4q1)])] 5 (leSt_m [(0, 0), (1, 1), (2, 2), (3, 3)] [4] (by simp only [leS_frz, leS_cut, leL_flD, renL_flD, push_cast, seval]) (by simp only [leS_frz, leS_cut, leL_flD, renL_flD, push_cast, seval]) rfl rfl rfl) ?_
    refine seq_np ?_
    refine reg_t ?_
    refine rs 4 [] [] (by kernel_rfl) allP_nil ?_
    obtain ⟨r5292, hr5292, h⟩ := bind_sx h
    refine call_x (taskmillref_WithPipe_spec l c.Pipe c2q1 r5292 hr5292) (args := [.sl l.length (fl l), iS c.Pipe, .agg (Enc.cells c2q1)]) (dst := (some 54)) (by kernel_rfl) [(0, .row 49 (Enc.cells c)), (1, .row 33 [bS false, bS false, bS false, iS 0, iS 0, .v (.slice none 0 0)]), (2, .row 57 (Enc.cells c2q1)), (3, .row 33 [bS c3_Done1, bS c3_Panic1, bS c3_Ok1, iS c3_Value1, iS c3_Case1, .sl c4q1.length (fl c4q1)])] 9 (by kernel_rfl) [] [] (.own 9 0 r5292.length) [(9, .row 57 (fl r5292))] (by simp only [push_cast, leL_flD, renL_flD, seval]) (by simp only [push_cast, leL_flD, renL_flD, seval]) (by kernel_rfl) (.inl rfl) (by simp only [push_cast, leL_flD, renL_flD, seval]) (by simp only [push_cast, leL_flD, renL_flD, seval]) ?_
    refine rs 2 [] [] (by kernel_rfl) allP_nil ?_
    obtain ⟨r5293, hr5293, h⟩ := bind_sx h
    refine call_x (SpecW.give (taskmillref_AllGone_spec r5292 c4q1 r5293 hr5293) [(0, .row 57 (fl r5292))] [.own 0 0 r5292.length, .sl c4q1.length (fl c4q1)] [] (.own 1 0 r5293.length) [(1, .row 57 (fl r5293))] (by first | simp only [push_cast, leL_flD, renL_flD, seval] | simp only [push_cast, List.mem_singleton, true_and, and_true, leL_flD, renL_flD, seval]) (by simp only [push_cast, leL_flD, renL_flD, seval]) (by simp only [push_cast, leL_flD, renL_flD, seval]) (by simp only [push_cast, leL_flD, renL_flD, seval]) rfl (by simp only [push_cast, leL_flD, renL_flD, seval]) (by simp only [push_cast, leL_flD, renL_flD, seval]) rfl) (args := [.own 9 0 r5292.length, .sl c4q1.length (fl c4q1)]) (dst := (some 57)) (by kernel_rfl) [(0, .row 49 (Enc.cells c)), (1, .row 33 [bS false, bS false, bS false, iS 0, iS 0, .v (.slice none 0 0)]), (2, .row 57 (Enc.cells c2q1)), (3, .row 33 [bS c3_Done1, bS c3_Panic1, bS c3_Ok1, iS c3_Value1, iS c3_Case1, .sl c4q1.length (fl c4q1)]), (9, .row 57 (fl r5292))] 13 (by kernel_rfl) [(0, 9)] [] (.own 14 0 r5293.length) [(14, .row 57 (fl r5293)), (9, .dead)] (by simp only [push_cast, leL_flD, renL_flD, seval]) (by simp only [push_cast, leL_flD, renL_flD, seval]) (by kernel_rfl) (.inl rfl) (by simp only [push_cast, leL_flD, renL_flD, seval]) (by simp only [push_cast, leL_flD, renL_flD, seval]) ?_
    refine rs 3 [] [] (by kernel_rfl) allP_nil ?_
    refine rt [(8, .own 14 0 r5293.length), (9, .ptr 1 0)] [(0, .row 49 (Enc.cells c)), (1, .row 33 [bS c3_Done1, bS c3_Panic1, bS c3_Ok1, iS c3_Value1, iS c3_Case1, .sl c4q1.length (fl c4q1)]), (2, .row 57 (Enc.cells c2q1)), (3, .row 33 [bS c3_Done1, bS c3_Panic1, bS c3_Ok1, iS c3_Value1, iS c3_Case1, .sl c4q1.length (fl c4q1)]), (9, .dead), (14, .row 57 (fl r5293))] 19 follows (by kernel_rfl) ?_
    refine wk_id ?_
    obtain rfl := Option.some.inj h
    refine ret_at (.tup [.own 14 0 r5293.length, .agg [bS c3_Done1, bS c3_Panic1, bS c3_Ok1, iS c3_Value1, iS c3_Case1, .sl c4q1.length (fl c4q1)]]) (by kernel_rfl) ?_
    exact ret_e [] [14] (by simp only [leS_frz, leS_cut, leL_flD, renL_flD, push_cast, seval]) (by simp only [leS_frz, leS_cut, leL_flD, renL_flD, push_cast, seval]) rfl rfl rfl

set_option maxRecDepth 100000 in
set_option maxHeartbeats 200000000 in
theorem pipe_Down_spec (pp : Int) (c0 : (List Pipe)) (r : Bool × Bool × Bool × Int × Int × (List GWake) × (List Pipe)) (h : pipe_Down pp c0 = some r) : SpecW Try.prog 53 [.ptr 0 (0 + (pp).toNat * 5)] [(0, .row 57 (flD dPipe [1, 2, 3] c0)), ((.s 1 0), .fam (famD dPipe 0 c0)), ((.s 2 0), .fam (famD dPipe 1 c0)), ((.s 3 0), .fam (famD dPipe 2 c0))] 4 (fun x h n => x = .agg [bS r.1, bS r.2.1, bS r.2.2.1, iS r.2.2.2.1, iS r.2.2.2.2.1, .own 4 0 r.2.2.2.2.2.1.length] ∧ h = [(0, .row 57 (flD dPipe [1, 5, 6] r.2.2.2.2.2.2)), ((.s 1 0), .fam (famD dPipe 0 r.2.2.2.2.2.2)), ((.s 2 0), .dead), ((.s 3 0), .dead), (4, .row 64 (fl r.2.2.2.2.2.1)), ((.s 5 0), .fam (famD dPipe 1 r.2.2.2.2.2.2)), ((.s 6 0), .fam (famD dPipe 2 r.2.2.2.2.2.2))] ∧ n = 7) := by
 unfold pipe_Down at h
 refine spec_of (draw_ok _) Try.func53 rfl (by decide) rfl (by kernel_rfl) ?_
 refine chk_sx h (fun g6965 h => ?_)
 have k6964 : 0 ≤ pp ∧ pp < ((c0.length : Nat) : Int) := of_decide_eq_true g6965
 refine seq_np ?_
 refine reg_f ?_
 refine rs 1 [] [] (by kernel_rfl) allP_nil ?_
 refine rf [(0, .ptr 0 (0 + (pp).toNat * 5)), (2, .ptr 4 0)] [(0, .row 57 (flD dPipe [1, 2, 3] c0)), ((.s 1 0), .fam (famD dPipe 0 c0)), ((.s 2 0), .fam (famD dPipe 1 c0)), ((.s 3 0), .fam (famD dPipe 2 c0)), (4, .row 33 [bS false, bS false, bS false, iS 0, iS 0, .v (.slice none 0 0)])] 5 (by kernel_rfl) ?_
 refine wk_id ?_
 refine seq_np ?_
 refine seq_np ?_
 refine reg_f ?_
 refine rs 4 [none, none, none, some ⟨bS (ixD c0 pp).Closed, [], 5, [0]⟩] _ (by kernel_rfl) (allP_cons (ob_ldD dPipe [1, 2, 3] c0 pp 5 2 ((0 + (pp).toNat * 5) + 2) k6964 rfl (by decide) (by first | rfl | omega) (dflS Try.prog 4) (bS (ixD c0 pp).Closed) rfl 5 [0]) allP_nil) ?_
 refine rf [(0, .ptr 0 (0 + (pp).toNat * 5)), (2, .ptr 4 0), (11, bS (ixD c0 pp).Closed)] [(0, .row 57 (flD dPipe [1, 2, 3] c0)), ((.s 1 0), .fam (famD dPipe 0 c0)), ((.s 2 0), .fam (famD dPipe 1 c0)), ((.s 3 0), .fam (famD dPipe 2 c0)), (4, .row 33 [bS false, bS false, bS false, iS 0, iS 0, .v (.slice none 0 0)])] 5 (by kernel_rfl) ?_
 refine wk_id ?_
 refine cond_sx h (by kernel_rfl) (fun g7136 h => ?_) (fun g7136 h => ?_)
 ·refine seq_np ?_
  refine reg_f ?_
  refine rs 2 [] [] (by kernel_rfl) allP_nil ?_
  refine rf [(2, .ptr 4 0)] [(0, .row 57 (flD dPipe [1, 2, 3] c0)), ((.s 1 0), .fam (famD dPipe 0 c0)), ((.s 2 0), .fam (famD dPipe 1 c0)), ((.s 3 0), .fam (famD dPipe 2 c0)), (4, .row 33 [bS true, bS true, bS false, iS 0, iS 0, .v (.slice none 0 0)])] 5 (by kernel_rfl) ?_
  refine wk_id ?_
  obtain rfl := Option.some.inj h
  refine ret_at (.agg [bS true, bS true, bS false, iS 0, iS 0, .v (.slice none 0 0)]) (by kernel_rfl) ?_
  exact ret_e [(0, 0), ((.s 1 0), (.s 1 0)), ((.s 5 0), (.s 2 0)), ((.s 6 0), (.s 3 0))] [] (by simp only [push_cast, leL_flD, renL_flD, seval]) (by simp only [push_cast, leL_flD, renL_flD, seval]) rfl rfl rfl
 ·refine wk_id ?_
  refine seq_np ?_
  refine reg_f ?_
  refine rs 3 [] [] (by kernel_rfl) allP_nil ?_
  refine rf [(0, .ptr 0 (0 + (pp).toNat * 5)), (2, .ptr 4 0), (3, .ptr 5 0)] [(0, .row 57 (flD dPipe [1, 2, 3] c0)), ((.s 1 0), .fam (famD dPipe 0 c0)), ((.s 2 0), .fam (famD dPipe 1 c0)), ((.s 3 0), .fam (famD dPipe 2 c0)), (4, .row 33 [bS false, bS false, bS false, iS 0, iS 0, .v (.slice none 0 0)]), (5, .row 33 [bS true, bS false, bS false, iS 0, iS 0, .v (.slice none 0 0)])] 6 (by kernel_rfl) ?_
  refine wk_id ?_
  refine seq_np ?_
  refine seq_np ?_
  refine reg_f ?_
  refine rs 6 [none, none, none, some ⟨.own (.s 3 pp) 0 (ixD c0 pp).Getters.length, [], 6, [0]⟩] _ (by kernel_rfl) (allP_cons (ob_ldD dPipe [1, 2, 3] c0 pp 5 4 ((0 + (pp).toNat * 5) + 4) k6964 rfl (by decide) (by first | rfl | omega) (dflS Try.prog 55) (.own (.s 3 pp) 0 (ixD c0 pp).Getters.length) rfl 6 [0]) allP_nil) ?_
  refine rf [(0, .ptr 0 (0 + (pp).toNat * 5)), (2, .ptr 4 0), (3, .ptr 5 0), (17, .own (.s 3 pp) 0 (ixD c0 pp).Getters.length), (18, iS (((ixD c0 pp).Getters.length : Nat) : Int)), (19, iS 0)] [(0, .row 57 (flD dPipe [1, 2, 3] c0)), ((.s 1 0), .fam (famD dPipe 0 c0)), ((.s 2 0), .fam (famD dPipe 1 c0)), ((.s 3 0), .fam (famD dPipe 2 c0)), (4, .row 33 [bS false, bS false, bS false, iS 0, iS 0, .v (.slice none 0 0)]), (5, .row 33 [bS true, bS false, bS false, iS 0, iS 0, .v (.slice none 0 0)])] 6 (by kernel_rfl) ?_
  refine wk_id ?_
  refine block_np ?_
  refine loop_sx (S := Int × (List GWake)) (fun a => ([(0, .ptr 0 (0 + (pp).toNat * 5)), (2, .ptr 4 0), (3, .ptr 5 0), (17, .own (.s 3 pp) 0 (ixD c0 pp).Getters.length), (18, iS (((ixD c0 pp).Getters.length : Nat) : Int)), (19, iS a.1)], [(0, .row 57 (flD dPipe [1, 2, 3] c0)), ((.s 1 0), .fam (famD dPipe 0 c0)), ((.s 2 0), .fam (famD dPipe 1 c0)), ((.s 3 0), .fam (famD dPipe 2 c0)), (4, .row 33 [bS false, bS false, bS false, iS 0, iS 0, .v (.slice none 0 0)]), (5, .row 33 [bS true, bS false, bS false, iS 0, iS 0, .own 6 0 a.2.length]), (6, .row 64 (fl a.2))], 7)) h (leSt_m [(0, 0), ((.s 1 0), (.s 1 0)), ((.s 2 0), (.s 2 0)), ((.s 3 0), (.s 3 0)), (4, 4), (5, 5)] [] (by simp only [push_cast, leL_flD, renL_flD, seval]) (by simp only [push_cast, leL_flD, renL_flD, seval]) rfl rfl rfl) ?_
  rintro ⟨t19q7, c6q9⟩ o3 R3 h hr3 hn3 hx3 ht3
  try dsimp only at h hn3 ⊢
  unfold pipe_Down_l2 at h
  try dsimp only at h
  refine seq_np ?_
  refine reg_f ?_
  refine rs 1 [] [] (by kernel_rfl) allP_nil ?_
  refine rf [(0, .ptr 0 (0 + (pp).toNat * 5)), (2, .ptr 4 0), (3, .ptr 5 0), (17, .own (.s 3 pp) 0 (ixD c0 pp).Getters.length), (18, iS (((ixD c0 pp).Getters.length : Nat) : Int)), (19, iS t19q7), (20, bS (decide (t19q7 < (((ixD c0 pp).Getters.length : Nat) : Int))))] [(0, .row 57 (flD dPipe [1, 2, 3] c0)), ((.s 1 0), .fam (famD dPipe 0 c0)), ((.s 2 0), .fam (famD dPipe 1 c0)), ((.s 3 0), .fam (famD dPipe 2 c0)), (4, .row 33 [bS false, bS false, bS false, iS 0, iS 0, .v (.slice none 0 0)]), (5, .row 33 [bS true, bS false, bS false, iS 0, iS 0, .own 6 0 c6q9.length]), (6, .row 64 (fl c6q9))] 7 (by kernel_rfl) ?_
  refine wk_id ?_
  refine seq_np ?_
  refine cond_sx h (by kernel_rfl) (fun g7135 h => ?_) (fun g7135 h => ?_)
  ·refine wk_id ?_
   refine seq_np ?_
   refine block_np ?_
   refine chk_sx h (fun g7059 h => ?_)
   refine seq_np ?_
   refine reg_f ?_
   have k7058 : 0 ≤ t19q7 ∧ t19q7 < (((ixD c0 pp).Getters.length : Nat) : Int) := by first | simpa only [Bool.and_eq_true, decide_eq_true_eq, bne_iff_ne, ne_eq] using g7059 | (simp at g7059 ⊢; omega)
   refine rs 4 [some ⟨.ptr (.s 3 pp) (0 + (t19q7).toNat * 3), [], 7, [(.s 3 0)]⟩, some ⟨.agg (Enc.cells (ix (ixD c0 pp).Getters t19q7)), [], 7, [(.s 3 0)]⟩] _ (by kernel_rfl) (allP_cons (ob_ldw (ixD c0 pp).Getters t19q7 3 (0 + (t19q7).toNat * 3) k7058 rfl (by first | rfl | omega) [iS (ix (ixD c0 pp).Getters t19q7).Task, iS (ix (ixD c0 pp).Getters t19q7).Case, iS (ix (ixD c0 pp).Getters t19q7).Value] rfl 7 [(.s 3 0)]) (allP_cons (ob_ix_o (.s 3 pp) (ixD c0 pp).Getters.length 0 3 7 t19q7 k7058) allP_nil)) ?_
   refine rf [(0, .ptr 0 (0 + (pp).toNat * 5)), (2, .ptr 4 0), (3, .ptr 5 0), (5, .ptr 7 0), (17, .own (.s 3 pp) 0 (ixD c0 pp).Getters.length), (18, iS (((ixD c0 pp).Getters.length : Nat) : Int)), (19, iS t19q7)] [(0, .row 57 (flD dPipe [1, 2, 3] c0)), ((.s 1 0), .fam (famD dPipe 0 c0)), ((.s 2 0), .fam (famD dPipe 1 c0)), ((.s 3 0), .fam (famD dPipe 2 c0)), (4, .row 33 [bS false, bS false, bS false, iS 0, iS 0, .v (.slice none 0 0)]), (5, .row 33 [bS true, bS false, bS false, iS 0, iS 0, .own 6 0 c6q9.length]), (6, .row 64 (fl c6q9)), (7, .row 92 (Enc.cells (ix (ixD c0 pp).Getters t19q7)))] 8 (by kernel_rfl) ?_
   refine wk_id ?_
   refine chk_sx h (fun g7063 h => ?_)
   refine reg_f ?_
   have k7062 : (c6q9 ++ ([(GWake.mk (ix (ixD c0 pp).Getters t19q7).Task (ix (ixD c0 pp).Getters t19q7).Case 0 false false)] : List GWake)).length * 32 ≤ 140737488355328 := by first | simpa only [Bool.and_eq_true, decide_eq_true_eq, bne_iff_ne, ne_eq] using g7063 | (simp at g7063 ⊢; omega)
   refine rs 11 [none, none, none, none, none, none, none, none, some ⟨.own 9 0 (c6q9 ++ ([(GWake.mk (ix (ixD c0 pp).Getters t19q7).Task (ix (ixD c0 pp).Getters t19q7).Case 0 false false)] : List GWake)).length, [(9, .row 64 (fl (c6q9 ++ ([(GWake.mk (ix (ixD c0 pp).Getters t19q7).Task (ix (ixD c0 pp).Getters t19q7).Case 0 false false)] : List GWake)))), (6, .dead)], 10, [6, 8]⟩] _ (by kernel_rfl) (allP_cons (ob_app (P := Try.prog) c6q9 ([(GWake.mk (ix (ixD c0 pp).Getters t19q7).Task (ix (ixD c0 pp).Getters t19q7).Case 0 false false)] : List GWake) 5 32 rfl (appCells (fl ([(GWake.mk (ix (ixD c0 pp).Getters t19q7).Task (ix (ixD c0 pp).Getters t19q7).Case 0 false false)] : List GWake)) 0 (([(GWake.mk (ix (ixD c0 pp).Getters t19q7).Task (ix (ixD c0 pp).Getters t19q7).Case 0 false false)] : List GWake).length * 5)) ([(GWake.mk (ix (ixD c0 pp).Getters t19q7).Task (ix (ixD c0 pp).Getters t19q7).Case 0 false false)] : List GWake).length (app_own ([(GWake.mk (ix (ixD c0 pp).Getters t19q7).Task (ix (ixD c0 pp).Getters t19q7).Case 0 false false)] : List GWake) 5 rfl) rfl (0 + ([(GWake.mk (ix (ixD c0 pp).Getters t19q7).Task (ix (ixD c0 pp).Getters t19q7).Case 0 false false)] : List GWake).length * 5 ≤ (fl ([(GWake.mk (ix (ixD c0 pp).Getters t19q7).Task (ix (ixD c0 pp).Getters t19q7).Case 0 false false)] : List GWake)).length) (app_own_le ([(GWake.mk (ix (ixD c0 pp).Getters t19q7).Task (ix (ixD c0 pp).Getters t19q7).Case 0 false false)] : List GWake) 5 rfl) 64 (by kernel_rfl) (by decide) k7062 6 9 [8]) allP_nil) ?_
   refine rf [(0, .ptr 0 (0 + (pp).toNat * 5)), (2, .ptr 4 0), (3, .ptr 5 0), (17, .own (.s 3 pp) 0 (ixD c0 pp).Getters.length), (18, iS (((ixD c0 pp).Getters.length : Nat) : Int)), (19, iS t19q7)] [(0, .row 57 (flD dPipe [1, 2, 3] c0)), ((.s 1 0), .fam (famD dPipe 0 c0)), ((.s 2 0), .fam (famD dPipe 1 c0)), ((.s 3 0), .fam (famD dPipe 2 c0)), (4, .row 33 [bS false, bS false, bS false, iS 0, iS 0, .v (.slice none 0 0)]), (5, .row 33 [bS true, bS false, bS false, iS 0, iS 0, .own 9 0 (c6q9 ++ ([(GWake.mk (ix (ixD c0 pp).Getters t19q7).Task (ix (ixD c0 pp).Getters t19q7).Case 0 false false)] : List GWake)).length]), (6, .dead), (7, .row 92 (Enc.cells (ix (ixD c0 pp).Getters t19q7))), (8, .row 64 (fl ([(GWake.mk (ix (ixD c0 pp).Getters t19q7).Task (ix (ixD c0 pp).Getters t19q7).Case 0 false false)] : List GWake))), (9, .row 64 (fl (c6q9 ++ ([(GWake.mk (ix (ixD c0 pp).Getters t19q7).Task (ix (ixD c0 pp).Getters t19q7).Case 0 false false)] : List GWake))))] 10 (by kernel_rfl) ?_
   refine wk_id ?_
   refine wk_id ?_
   refine reg_f ?_
   refine rs 2 [] [] (by kernel_rfl) allP_nil ?_
   refine rf [(0, .ptr 0 (0 + (pp).toNat * 5)), (2, .ptr 4 0), (3, .ptr 5 0), (17, .own (.s 3 pp) 0 (ixD c0 pp).Getters.length), (18, iS (((ixD c0 pp).Getters.length : Nat) : Int)), (19, iS (IntKind.i64.wrap (t19q7 + 1)))] [(0, .row 57 (flD dPipe [1, 2, 3] c0)), ((.s 1 0), .fam (famD dPipe 0 c0)), ((.s 2 0), .fam (famD dPipe 1 c0)), ((.s 3 0), .fam (famD dPipe 2 c0)), (4, .row 33 [bS false, bS false, bS false, iS 0, iS 0, .v (.slice none 0 0)]), (5, .row 33 [bS true, bS false, bS false, iS 0, iS 0, .own 9 0 (c6q9 ++ ([(GWake.mk (ix (ixD c0 pp).Getters t19q7).Task (ix (ixD c0 pp).Getters t19q7).Case 0 false false)] : List GWake)).length]), (6, .dead), (7, .row 92 (Enc.cells (ix (ixD c0 pp).Getters t19q7))), (8, .row 64 (fl ([(GWake.mk (ix (ixD c0 pp).Getters t19q7).Task (ix (ixD c0 pp).Getters t19q7).Case 0 false false)] : List GWake))), (9, .row 64 (fl (c6q9 ++ ([(GWake.mk (ix (ixD c0 pp).Getters t19q7).Task (ix (ixD c0 pp).Getters t19q7).Case 0 false false)] : List GWake))))] 10 (by kernel_rfl) ?_
   exact hn3 ((IntKind.i64.wrap (t19q7 + 1)), (c6q9 ++ ([(GWake.mk (ix (ixD c0 pp).Getters t19q7).Task (ix (ixD c0 pp).Getters t19q7).Case 0 false false)] : List GWake))) _ _ _ (Option.some.inj h).symm (leSt_m [(0, 0), ((.s 1 0), (.s 1 0)), ((.s 2 0), (.s 2 0)), ((.s 3 0), (.s 3 0)), (4, 4), (5, 5), (6, 9)] [] (by simp only [push_cast, leL_flD, renL_flD, seval]) (by simp only [push_cast, leL_flD, renL_flD, seval]) rfl rfl rfl)
  ·change R3 (.exit 0) _ _ _
   refine ex_cast hx3 (id := 0) ?_
   obtain ⟨r0, h, e0⟩ := map_sx h
   have e1 := hr3 r0 e0.symm
   subst r0
   refine wk_id ?_
   refine wk_id ?_
   refine seq_np ?_
   refine chk_sx h (fun g7085 h => ?_)
   refine seq_np ?_
   refine reg_f ?_
   have k7084 : 0 ≤ pp ∧ pp < ((c0.length : Nat) : Int) := by first | simpa only [Bool.and_eq_true, decide_eq_true_eq, bne_iff_ne, ne_eq] using g7085 | (simp at g7085 ⊢; omega)
   refine rs 6 [none, none, none, some ⟨.own (.s 2 pp) 0 (ixD c0 pp).Senders.length, [], 7, [0]⟩] _ (by kernel_rfl) (allP_cons (ob_ldD dPipe [1, 2, 3] c0 pp 5 3 ((0 + (pp).toNat * 5) + 3) k7084 rfl (by decide) (by first | rfl | omega) (dflS Try.prog 55) (.own (.s 2 pp) 0 (ixD c0 pp).Senders.length) rfl 7 [0]) allP_nil) ?_
   refine rf [(0, .ptr 0 (0 + (pp).toNat * 5)), (2, .ptr 4 0), (3, .ptr 5 0), (37, .own (.s 2 pp) 0 (ixD c0 pp).Senders.length), (38, iS (((ixD c0 pp).Senders.length : Nat) : Int)), (39, iS 0)] [(0, .row 57 (flD dPipe [1, 2, 3] c0)), ((.s 1 0), .fam (famD dPipe 0 c0)), ((.s 2 0), .fam (famD dPipe 1 c0)), ((.s 3 0), .fam (famD dPipe 2 c0)), (4, .row 33 [bS false, bS false, bS false, iS 0, iS 0, .v (.slice none 0 0)]), (5, .row 33 [bS true, bS false, bS false, iS 0, iS 0, .own 6 0 c6q9.length]), (6, .row 64 (fl c6q9))] 7 (by kernel_rfl) ?_
   refine wk_id ?_
   refine block_np ?_
   refine loop_sx (S := Int × (List GWake)) (fun a => ([(0, .ptr 0 (0 + (pp).toNat * 5)), (2, .ptr 4 0), (3, .ptr 5 0), (37, .own (.s 2 pp) 0 (ixD c0 pp).Senders.length), (38, iS (((ixD c0 pp).Senders.length : Nat) : Int)), (39, iS a.1)], [(0, .row 57 (flD dPipe [1, 2, 3] c0)), ((.s 1 0), .fam (famD dPipe 0 c0)), ((.s 2 0), .fam (famD dPipe 1 c0)), ((.s 3 0), .fam (famD dPipe 2 c0)), (4, .row 33 [bS false, bS false, bS false, iS 0, iS 0, .v (.slice none 0 0)]), (5, .row 33 [bS true, bS false, bS false, iS 0, iS 0, .own 6 0 a.2.length]), (6, .row 64 (fl a.2))], 7)) h (leSt_m [(0, 0), ((.s 1 0), (.s 1 0)), ((.s 2 0), (.s 2 0)), ((.s 3 0), (.s 3 0)), (4, 4), (5, 5), (6, 6)] [] (by simp only [push_cast, leL_flD, renL_flD, seval]) (by simp only [push_cast, leL_flD, renL_flD, seval]) rfl rfl rfl) ?_
   rintro ⟨t39q7, c6q15⟩ o4 R4 h hr4 hn4 hx4 ht4
   try dsimp only at h hn4 ⊢
   unfold pipe_Down_l1 at h
   try dsimp only at h
   refine seq_np ?_
   refine reg_f ?_
   refine rs 1 [] [] (by kernel_rfl) allP_nil ?_
   refine rf [(0, .ptr 0 (0 + (pp).toNat * 5)), (2, .ptr 4 0), (3, .ptr 5 0), (37, .own (.s 2 pp) 0 (ixD c0 pp).Senders.length), (38, iS (((ixD c0 pp).Senders.length : Nat) : Int)), (39, iS t39q7), (40, bS (decide (t39q7 < (((ixD c0 pp).Senders.length : Nat) : Int))))] [(0, .row 57 (flD dPipe [1, 2, 3] c0)), ((.s 1 0), .fam (famD dPipe 0 c0)), ((.s 2 0), .fam (famD dPipe 1 c0)), ((.s 3 0), .fam (famD dPipe 2 c0)), (4, .row 33 [bS false, bS false, bS false, iS 0, iS 0, .v (.slice none 0 0)]), (5, .row 33 [bS true, bS false, bS false, iS 0, iS 0, .own 6 0 c6q15.length]), (6, .row 64 (fl c6q15))] 7 (by kernel_rfl) ?_
   refine wk_id ?_
   refine seq_np ?_
   refine cond_sx h (by kernel_rfl) (fun g7134 h => ?_) (fun g7134 h => ?_)
   ·refine wk_id ?_
    refine seq_np ?_
    refine block_np ?_
    refine chk_sx h (fun g7125 h => ?_)
    refine seq_np ?_
    refine reg_f ?_
    have k7124 : 0 ≤ t39q7 ∧ t39q7 < (((ixD c0 pp).Senders.length : Nat) : Int) := by first | simpa only [Bool.and_eq_true, decide_eq_true_eq, bne_iff_ne, ne_eq] using g7125 | (simp at g7125 ⊢; omega)
    refine rs 4 [some ⟨.ptr (.s 2 pp) (0 + (t39q7).toNat * 3), [], 7, [(.s 2 0)]⟩, some ⟨.agg (Enc.cells (ix (ixD c0 pp).Senders t39q7)), [], 7, [(.s 2 0)]⟩] _ (by kernel_rfl) (allP_cons (ob_ldw (ixD c0 pp).Senders t39q7 3 (0 + (t39q7).toNat * 3) k7124 rfl (by first | rfl | omega) [iS (ix (ixD c0 pp).Senders t39q7).Task, iS (ix (ixD c0 pp).Senders t39q7).Case, iS (ix (ixD c0 pp).Senders t39q7).Value] rfl 7 [(.s 2 0)]) (allP_cons (ob_ix_o (.s 2 pp) (ixD c0 pp).Senders.length 0 3 7 t39q7 k7124) allP_nil)) ?_
    refine rf [(0, .ptr 0 (0 + (pp).toNat * 5)), (2, .ptr 4 0), (3, .ptr 5 0), (7, .ptr 7 0), (37, .own (.s 2 pp) 0 (ixD c0 pp).Senders.length), (38, iS (((ixD c0 pp).Senders.length : Nat) : Int)), (39, iS t39q7)] [(0, .row 57 (flD dPipe [1, 2, 3] c0)), ((.s 1 0), .fam (famD dPipe 0 c0)), ((.s 2 0), .fam (famD dPipe 1 c0)), ((.s 3 0), .fam (famD dPipe 2 c0)), (4, .row 33 [bS false, bS false, bS false, iS 0, iS 0, .v (.slice none 0 0)]), (5, .row 33 [bS true, bS false, bS false, iS 0, iS 0, .own 6 0 c6q15.length]), (6, .row 64 (fl c6q15)), (7, .row 92 (Enc.cells (ix (ixD c0 pp).Senders t39q7)))] 8 (by kernel_rfl) ?_
    refine wk_id ?_
    refine chk_sx h (fun g7129 h => ?_)
    refine reg_f ?_
    have k7128 : (c6q15 ++ ([(GWake.mk (ix (ixD c0 pp).Senders t39q7).Task (ix (ixD c0 pp).Senders t39q7).Case 0 false true)] : List GWake)).length * 32 ≤ 140737488355328 := by first | simpa only [Bool.and_eq_true, decide_eq_true_eq, bne_iff_ne, ne_eq] using g7129 | (simp at g7129 ⊢; omega)
    refine rs 11 [none, none, none, none, none, none, none, none, some ⟨.own 9 0 (c6q15 ++ ([(GWake.mk (ix (ixD c0 pp).Senders t39q7).Task (ix (ixD c0 pp).Senders t39q7).Case 0 false true)] : List GWake)).length, [(9, .row 64 (fl (c6q15 ++ ([(GWake.mk (ix (ixD c0 pp).Senders t39q7).Task (ix (ixD c0 pp).Senders t39q7).Case 0 false true)] : List GWake)))), (6, .dead)], 10, [6, 8]⟩] _ (by kernel_rfl) (allP_cons (ob_app (P := Try.prog) c6q15 ([(GWake.mk (ix (ixD c0 pp).Senders t39q7).Task (ix (ixD c0 pp).Senders t39q7).Case 0 false true)] : List GWake) 5 32 rfl (appCells (fl ([(GWake.mk (ix (ixD c0 pp).Senders t39q7).Task (ix (ixD c0 pp).Senders t39q7).Case 0 false true)] : List GWake)) 0 (([(GWake.mk (ix (ixD c0 pp).Senders t39q7).Task (ix (ixD c0 pp).Senders t39q7).Case 0 false true)] : List GWake).length * 5)) ([(GWake.mk (ix (ixD c0 pp).Senders t39q7).Task (ix (ixD c0 pp).Senders t39q7).Case 0 false true)] : List GWake).length (app_own ([(GWake.mk (ix (ixD c0 pp).Senders t39q7).Task (ix (ixD c0 pp).Senders t39q7).Case 0 false true)] : List GWake) 5 rfl) rfl (0 + ([(GWake.mk (ix (ixD c0 pp).Senders t39q7).Task (ix (ixD c0 pp).Senders t39q7).Case 0 false true)] : List GWake).length * 5 ≤ (fl ([(GWake.mk (ix (ixD c0 pp).Senders t39q7).Task (ix (ixD c0 pp).Senders t39q7).Case 0 false true)] : List GWake)).length) (app_own_le ([(GWake.mk (ix (ixD c0 pp).Senders t39q7).Task (ix (ixD c0 pp).Senders t39q7).Case 0 false true)] : List GWake) 5 rfl) 64 (by kernel_rfl) (by decide) k7128 6 9 [8]) allP_nil) ?_
    refine rf [(0, .ptr 0 (0 + (pp).toNat * 5)), (2, .ptr 4 0), (3, .ptr 5 0), (37, .own (.s 2 pp) 0 (ixD c0 pp).Senders.length), (38, iS (((ixD c0 pp).Senders.length : Nat) : Int)), (39, iS t39q7)] [(0, .row 57 (flD dPipe [1, 2, 3] c0)), ((.s 1 0), .fam (famD dPipe 0 c0)), ((.s 2 0), .fam (famD dPipe 1 c0)), ((.s 3 0), .fam (famD dPipe 2 c0)), (4, .row 33 [bS false, bS false, bS false, iS 0, iS 0, .v (.slice none 0 0)]), (5, .row 33 [bS true, bS false, bS false, iS 0, iS 0, .own 9 0 (c6q15 ++ ([(GWake.mk (ix (ixD c0 pp).Senders t39q7).Task (ix (ixD c0 pp).Senders t39q7).Case 0 false true)] : List GWake)).length]), (6, .dead), (7, .row 92 (Enc.cells (ix (ixD c0 pp).Senders t39q7))), (8, .row 64 (fl ([(GWake.mk (ix (ixD c0 pp).Senders t39q7).Task (ix (ixD c0 pp).Senders t39q7).Case 0 false true)] : List GWake))), (9, .row 64 (fl (c6q15 ++ ([(GWake.mk (ix (ixD c0 pp).Senders t39q7).Task (ix (ixD c0 pp).Senders t39q7).Case 0 false true)] : List GWake))))] 10 (by kernel_rfl) ?_
    refine wk_id ?_
    refine wk_id ?_
    refine reg_f ?_
    refine rs 2 [] [] (by kernel_rfl) allP_nil ?_
    refine rf [(0, .ptr 0 (0 + (pp).toNat * 5)), (2, .ptr 4 0), (3, .ptr 5 0), (37, .own (.s 2 pp) 0 (ixD c0 pp).Senders.length), (38, iS (((ixD c0 pp).Senders.length : Nat) : Int)), (39, iS (IntKind.i64.wrap (t39q7 + 1)))] [(0, .row 57 (flD dPipe [1, 2, 3] c0)), ((.s 1 0), .fam (famD dPipe 0 c0)), ((.s 2 0), .fam (famD dPipe 1 c0)), ((.s 3 0), .fam (famD dPipe 2 c0)), (4, .row 33 [bS false, bS false, bS false, iS 0, iS 0, .v (.slice none 0 0)]), (5, .row 33 [bS true, bS false, bS false, iS 0, iS 0, .own 9 0 (c6q15 ++ ([(GWake.mk (ix (ixD c0 pp).Senders t39q7).Task (ix (ixD c0 pp).Senders t39q7).Case 0 false true)] : List GWake)).length]), (6, .dead), (7, .row 92 (Enc.cells (ix (ixD c0 pp).Senders t39q7))), (8, .row 64 (fl ([(GWake.mk (ix (ixD c0 pp).Senders t39q7).Task (ix (ixD c0 pp).Senders t39q7).Case 0 false true)] : List GWake))), (9, .row 64 (fl (c6q15 ++ ([(GWake.mk (ix (ixD c0 pp).Senders t39q7).Task (ix (ixD c0 pp).Senders t39q7).Case 0 false true)] : List GWake))))] 10 (by kernel_rfl) ?_
    exact hn4 ((IntKind.i64.wrap (t39q7 + 1)), (c6q15 ++ ([(GWake.mk (ix (ixD c0 pp).Senders t39q7).Task (ix (ixD c0 pp).Senders t39q7).Case 0 false true)] : List GWake))) _ _ _ (Option.some.inj h).symm (leSt_m [(0, 0), ((.s 1 0), (.s 1 0)), ((.s 2 0), (.s 2 0)), ((.s 3 0), (.s 3 0)), (4, 4), (5, 5), (6, 9)] [] (by simp only [push_cast, leL_flD, renL_flD, seval]) (by simp only [push_cast, leL_flD, renL_flD, seval]) rfl rfl rfl)
   ·change R4 (.exit 2) _ _ _
    refine ex_cast hx4 (id := 2) ?_
    obtain ⟨r0, h, e0⟩ := map_sx h
    have e1 := hr4 r0 e0.symm
    subst r0
    refine wk_id ?_
    refine wk_id ?_
    refine chk_sx h (fun g7133 h => ?_)
    refine seq_np ?_
    refine reg_f ?_
    have k7132 : 0 ≤ pp ∧ pp < ((c0.length : Nat) : Int) := by first | simpa only [Bool.and_eq_true, decide_eq_true_eq, bne_iff_ne, ne_eq] using g7133 | (simp at g7133 ⊢; omega)
    refine rs 6 [none, none, none, none, none, some ⟨.any, [(0, .row 57 (flD dPipe [1, 2, 3] (c0.set pp.toNat ({ (ixD c0 pp) with Closed := true } : Pipe))))], 7, [0]⟩] _ (by kernel_rfl) (allP_cons (ob_stD (P := Try.prog) dPipe [1, 2, 3] c0 pp 5 2 ((0 + (pp).toNat * 5) + 2) k7132 rfl [bS true] ({ (ixD c0 pp) with Closed := true } : Pipe) (Nat.le_of_ble_eq_true rfl) (by first | rfl | omega) rfl 0 7 57 4 (by kernel_rfl) rfl) allP_nil) ?_
    refine run_eqS 1 (famD dPipe 0 c0) (famD dPipe 0 (c0.set pp.toNat ({ (ixD c0 pp) with Closed := true } : Pipe))) (famD_same k7132 ({ (ixD c0 pp) with Closed := true } : Pipe) rfl) (by kernel_rfl) ?_
    refine run_eqS 2 (famD dPipe 1 c0) (famD dPipe 1 (c0.set pp.toNat ({ (ixD c0 pp) with Closed := true } : Pipe))) (famD_same k7132 ({ (ixD c0 pp) with Closed := true } : Pipe) rfl) (by kernel_rfl) ?_
    refine run_eqS 3 (famD dPipe 2 c0) (famD dPipe 2 (c0.set pp.toNat ({ (ixD c0 pp) with Closed := true } : Pipe))) (famD_same k7132 ({ (ixD c0 pp) with Closed := true } : Pipe) rfl) (by kernel_rfl) ?_
    refine rs 2 [] [] (by kernel_rfl) allP_nil ?_
    refine run_opG none _ ⟨.any, [(0, .row 57 (flN dPipe (nA [(some 1), (some 2), (some 3)] [(some (.s 1 pp)), (some (.s 2 pp)), none] pp) 0 ((c0.set pp.toNat ({ (ixD c0 pp) with Closed := true } : Pipe)).set pp.toNat ({ (ixD (c0.set pp.toNat ({ (ixD c0 pp) with Closed := true } : Pipe)) pp) with Getters := [] } : Pipe))))], 7, [0]⟩ [((.s 7 0), .fam (famD dPipe 2 ((c0.set pp.toNat ({ (ixD c0 pp) with Closed := true } : Pipe)).set pp.toNat ({ (ixD (c0.set pp.toNat ({ (ixD c0 pp) with Closed := true } : Pipe)) pp) with Getters := [] } : Pipe)))), (0, .row 57 (flD dPipe [1, 2, 7] ((c0.set pp.toNat ({ (ixD c0 pp) with Closed := true } : Pipe)).set pp.toNat ({ (ixD (c0.set pp.toNat ({ (ixD c0 pp) with Closed := true } : Pipe)) pp) with Getters := [] } : Pipe)))), ((.s 3 0), .dead)] 1 [0, (.s 3 0)] [(.s 3 0)] (by kernel_rfl) (ob_stN (P := Try.prog) dPipe [1, 2, 3] [(some (.s 1 pp)), (some (.s 2 pp)), none] (c0.set pp.toNat ({ (ixD c0 pp) with Closed := true } : Pipe)) pp 5 4 ((0 + (pp).toNat * 5) + 4) (by rw [List.length_set]; exact k7132) rfl [.v (.slice none 0 0)] ({ (ixD (c0.set pp.toNat ({ (ixD c0 pp) with Closed := true } : Pipe)) pp) with Getters := [] } : Pipe) (Nat.le_of_ble_eq_true rfl) (by first | rfl | omega) rfl rfl 0 7 57 55 (by kernel_rfl) rfl) (ghost_A 7 dPipe ((c0.set pp.toNat ({ (ixD c0 pp) with Closed := true } : Pipe)).set pp.toNat ({ (ixD (c0.set pp.toNat ({ (ixD c0 pp) with Closed := true } : Pipe)) pp) with Getters := [] } : Pipe)) 0 57 [(some 1), (some 2), (some 3)] [(some (.s 1 pp)), (some (.s 2 pp)), none] pp (flD dPipe [1, 2, 7] ((c0.set pp.toNat ({ (ixD c0 pp) with Closed := true } : Pipe)).set pp.toNat ({ (ixD (c0.set pp.toNat ({ (ixD c0 pp) with Closed := true } : Pipe)) pp) with Getters := [] } : Pipe))) 2 (some 3) none (by kernel_rfl) (flN_done dPipe [1, 2, 7] pp ((c0.set pp.toNat ({ (ixD c0 pp) with Closed := true } : Pipe)).set pp.toNat ({ (ixD (c0.set pp.toNat ({ (ixD c0 pp) with Closed := true } : Pipe)) pp) with Getters := [] } : Pipe)) rfl) (by kernel_rfl) ⟨_, (by kernel_rfl), (off_set (c0.set pp.toNat ({ (ixD c0 pp) with Closed := true } : Pipe)) pp ({ (ixD (c0.set pp.toNat ({ (ixD c0 pp) with Closed := true } : Pipe)) pp) with Getters := [] } : Pipe) (by rw [List.length_set]; exact k7132))⟩ (S_set (fun a => nilLeaf dPipe 2 a) (by rw [List.length_set]; exact k7132) ⟨_, rfl⟩)) (by kernel_rfl) ?_
    refine run_eqS 1 (famD dPipe 0 (c0.set pp.toNat ({ (ixD c0 pp) with Closed := true } : Pipe))) (famD dPipe 0 ((c0.set pp.toNat ({ (ixD c0 pp) with Closed := true } : Pipe)).set pp.toNat ({ (ixD (c0.set pp.toNat ({ (ixD c0 pp) with Closed := true } : Pipe)) pp) with Getters := [] } : Pipe))) (famD_same (by rw [List.length_set]; exact k7132) ({ (ixD (c0.set pp.toNat ({ (ixD c0 pp) with Closed := true } : Pipe)) pp) with Getters := [] } : Pipe) rfl) (by kernel_rfl) ?_
    refine run_eqS 2 (famD dPipe 1 (c0.set pp.toNat ({ (ixD c0 pp) with Closed := true } : Pipe))) (famD dPipe 1 ((c0.set pp.toNat ({ (ixD c0 pp) with Closed := true } : Pipe)).set pp.toNat ({ (ixD (c0.set pp.toNat ({ (ixD c0 pp) with Closed := true } : Pipe)) pp) with Getters := [] } : Pipe))) (famD_same (by rw [List.length_set]; exact k7132) ({ (ixD (c0.set pp.toNat ({ (ixD c0 pp) with Closed := true } : Pipe)) pp) with Getters := [] } : Pipe) rfl) (by kernel_rfl) ?_
    refine rs 2 [] [] (by kernel_rfl) allP_nil ?_
    refine run_opG none _ ⟨.any, [(0, .row 57 (flN dPipe (nA [(some 1), (some 2), (some 7)] [(some (.s 1 pp)), none, (some (.s 7 pp))] pp) 0 (((c0.set pp.toNat ({ (ixD c0 pp) with Closed := true } : Pipe)).set pp.toNat ({ (ixD (c0.set pp.toNat ({ (ixD c0 pp) with Closed := true } : Pipe)) pp) with Getters := [] } : Pipe)).set pp.toNat ({ (ixD ((c0.set pp.toNat ({ (ixD c0 pp) with Closed := true } : Pipe)).set pp.toNat ({ (ixD (c0.set pp.toNat ({ (ixD c0 pp) with Closed := true } : Pipe)) pp) with Getters := [] } : Pipe)) pp) with Senders := [] } : Pipe))))], 8, [0]⟩ [((.s 8 0), .fam (famD dPipe 1 (((c0.set pp.toNat ({ (ixD c0 pp) with Closed := true } : Pipe)).set pp.toNat ({ (ixD (c0.set pp.toNat ({ (ixD c0 pp) with Closed := true } : Pipe)) pp) with Getters := [] } : Pipe)).set pp.toNat ({ (ixD ((c0.set pp.toNat ({ (ixD c0 pp) with Closed := true } : Pipe)).set pp.toNat ({ (ixD (c0.set pp.toNat ({ (ixD c0 pp) with Closed := true } : Pipe)) pp) with Getters := [] } : Pipe)) pp) with Senders := [] } : Pipe)))), (0, .row 57 (flD dPipe [1, 8, 7] (((c0.set pp.toNat ({ (ixD c0 pp) with Closed := true } : Pipe)).set pp.toNat ({ (ixD (c0.set pp.toNat ({ (ixD c0 pp) with Closed := true } : Pipe)) pp) with Getters := [] } : Pipe)).set pp.toNat ({ (ixD ((c0.set pp.toNat ({ (ixD c0 pp) with Closed := true } : Pipe)).set pp.toNat ({ (ixD (c0.set pp.toNat ({ (ixD c0 pp) with Closed := true } : Pipe)) pp) with Getters := [] } : Pipe)) pp) with Senders := [] } : Pipe)))), ((.s 2 0), .dead)] 1 [0, (.s 2 0)] [(.s 2 0)] (by kernel_rfl) (ob_stN (P := Try.prog) dPipe [1, 2, 7] [(some (.s 1 pp)), none, (some (.s 7 pp))] ((c0.set pp.toNat ({ (ixD c0 pp) with Closed := true } : Pipe)).set pp.toNat ({ (ixD (c0.set pp.toNat ({ (ixD c0 pp) with Closed := true } : Pipe)) pp) with Getters := [] } : Pipe)) pp 5 3 ((0 + (pp).toNat * 5) + 3) (by rw [List.length_set]; exact (by rw [List.length_set]; exact k7132)) rfl [.v (.slice none 0 0)] ({ (ixD ((c0.set pp.toNat ({ (ixD c0 pp) with Closed := true } : Pipe)).set pp.toNat ({ (ixD (c0.set pp.toNat ({ (ixD c0 pp) with Closed := true } : Pipe)) pp) with Getters := [] } : Pipe)) pp) with Senders := [] } : Pipe) (Nat.le_of_ble_eq_true rfl) (by first | rfl | omega) rfl rfl 0 8 57 55 (by kernel_rfl) rfl) (ghost_A 8 dPipe (((c0.set pp.toNat ({ (ixD c0 pp) with Closed := true } : Pipe)).set pp.toNat ({ (ixD (c0.set pp.toNat ({ (ixD c0 pp) with Closed := true } : Pipe)) pp) with Getters := [] } : Pipe)).set pp.toNat ({ (ixD ((c0.set pp.toNat ({ (ixD c0 pp) with Closed := true } : Pipe)).set pp.toNat ({ (ixD (c0.set pp.toNat ({ (ixD c0 pp) with Closed := true } : Pipe)) pp) with Getters := [] } : Pipe)) pp) with Senders := [] } : Pipe)) 0 57 [(some 1), (some 2), (some 7)] [(some (.s 1 pp)), none, (some (.s 7 pp))] pp (flD dPipe [1, 8, 7] (((c0.set pp.toNat ({ (ixD c0 pp) with Closed := true } : Pipe)).set pp.toNat ({ (ixD (c0.set pp.toNat ({ (ixD c0 pp) with Closed := true } : Pipe)) pp) with Getters := [] } : Pipe)).set pp.toNat ({ (ixD ((c0.set pp.toNat ({ (ixD c0 pp) with Closed := true } : Pipe)).set pp.toNat ({ (ixD (c0.set pp.toNat ({ (ixD c0 pp) with Closed := true } : Pipe)) pp) with Getters := [] } : Pipe)) pp) with Senders := [] } : Pipe))) 1 (some 2) none (by kernel_rfl) (flN_done dPipe [1, 8, 7] pp (((c0.set pp.toNat ({ (ixD c0 pp) with Closed := true } : Pipe)).set pp.toNat ({ (ixD (c0.set pp.toNat ({ (ixD c0 pp) with Closed := true } : Pipe)) pp) with Getters := [] } : Pipe)).set pp.toNat ({ (ixD ((c0.set pp.toNat ({ (ixD c0 pp) with Closed := true } : Pipe)).set pp.toNat ({ (ixD (c0.set pp.toNat ({ (ixD c0 pp) with Closed := true } : Pipe)) pp) with Getters := [] } : Pipe)) pp) with Senders := [] } : Pipe)) rfl) (by kernel_rfl) ⟨_, (by kernel_rfl), (off_set ((c0.set pp.toNat ({ (ixD c0 pp) with Closed := true } : Pipe)).set pp.toNat ({ (ixD (c0.set pp.toNat ({ (ixD c0 pp) with Closed := true } : Pipe)) pp) with Getters := [] } : Pipe)) pp ({ (ixD ((c0.set pp.toNat ({ (ixD c0 pp) with Closed := true } : Pipe)).set pp.toNat ({ (ixD (c0.set pp.toNat ({ (ixD c0 pp) with Closed := true } : Pipe)) pp) with Getters := [] } : Pipe)) pp) with Senders := [] } : Pipe) (by rw [List.length_set]; exact (by rw [List.length_set]; exact k7132)))⟩ (S_set (fun a => nilLeaf dPipe 1 a) (by rw [List.length_set]; exact (by rw [List.length_set]; exact k7132)) ⟨_, rfl⟩)) (by kernel_rfl) ?_
    refine run_eqS 1 (famD dPipe 0 ((c0.set pp.toNat ({ (ixD c0 pp) with Closed := true } : Pipe)).set pp.toNat ({ (ixD (c0.set pp.toNat ({ (ixD c0 pp) with Closed := true } : Pipe)) pp) with Getters := [] } : Pipe))) (famD dPipe 0 (((c0.set pp.toNat ({ (ixD c0 pp) with Closed := true } : Pipe)).set pp.toNat ({ (ixD (c0.set pp.toNat ({ (ixD c0 pp) with Closed := true } : Pipe)) pp) with Getters := [] } : Pipe)).set pp.toNat ({ (ixD ((c0.set pp.toNat ({ (ixD c0 pp) with Closed := true } : Pipe)).set pp.toNat ({ (ixD (c0.set pp.toNat ({ (ixD c0 pp) with Closed := true } : Pipe)) pp) with Getters := [] } : Pipe)) pp) with Senders := [] } : Pipe))) (famD_same (by rw [List.length_set]; exact (by rw [List.length_set]; exact k7132)) ({ (ixD ((c0.set pp.toNat ({ (ixD c0 pp) with Closed := true } : Pipe)).set pp.toNat ({ (ixD (c0.set pp.toNat ({ (ixD c0 pp) with Closed := true } : Pipe)) pp) with Getters := [] } : Pipe)) pp) with Senders := [] } : Pipe) rfl) (by kernel_rfl) ?_
    refine run_eqS 7 (famD dPipe 2 ((c0.set pp.toNat ({ (ixD c0 pp) with Closed := true } : Pipe)).set pp.toNat ({ (ixD (c0.set pp.toNat ({ (ixD c0 pp) with Closed := true } : Pipe)) pp) with Getters := [] } : Pipe))) (famD dPipe 2 (((c0.set pp.toNat ({ (ixD c0 pp) with Closed := true } : Pipe)).set pp.toNat ({ (ixD (c0.set pp.toNat ({ (ixD c0 pp) with Closed := true } : Pipe)) pp) with Getters := [] } : Pipe)).set pp.toNat ({ (ixD ((c0.set pp.toNat ({ (ixD c0 pp) with Closed := true } : Pipe)).set pp.toNat ({ (ixD (c0.set pp.toNat ({ (ixD c0 pp) with Closed := true } : Pipe)) pp) with Getters := [] } : Pipe)) pp) with Senders := [] } : Pipe))) (famD_same (by rw [List.length_set]; exact (by rw [List.length_set]; exact k7132)) ({ (ixD ((c0.set pp.toNat ({ (ixD c0 pp) with Closed := true } : Pipe)).set pp.toNat ({ (ixD (c0.set pp.toNat ({ (ixD c0 pp) with Closed := true } : Pipe)) pp) with Getters := [] } : Pipe)) pp) with Senders := [] } : Pipe) rfl) (by kernel_rfl) ?_
    refine rf [(2, .ptr 4 0), (3, .ptr 5 0)] [(0, .row 57 (flD dPipe [1, 8, 7] (((c0.set pp.toNat ({ (ixD c0 pp) with Closed := true } : Pipe)).set pp.toNat ({ (ixD (c0.set pp.toNat ({ (ixD c0 pp) with Closed := true } : Pipe)) pp) with Getters := [] } : Pipe)).set pp.toNat ({ (ixD ((c0.set pp.toNat ({ (ixD c0 pp) with Closed := true } : Pipe)).set pp.toNat ({ (ixD (c0.set pp.toNat ({ (ixD c0 pp) with Closed := true } : Pipe)) pp) with Getters := [] } : Pipe)) pp) with Senders := [] } : Pipe)))), ((.s 1 0), .fam (famD dPipe 0 (((c0.set pp.toNat ({ (ixD c0 pp) with Closed := true } : Pipe)).set pp.toNat ({ (ixD (c0.set pp.toNat ({ (ixD c0 pp) with Closed := true } : Pipe)) pp) with Getters := [] } : Pipe)).set pp.toNat ({ (ixD ((c0.set pp.toNat ({ (ixD c0 pp) with Closed := true } : Pipe)).set pp.toNat ({ (ixD (c0.set pp.toNat ({ (ixD c0 pp) with Closed := true } : Pipe)) pp) with Getters := [] } : Pipe)) pp) with Senders := [] } : Pipe)))), ((.s 2 0), .dead), ((.s 3 0), .dead), (4, .row 33 [bS false, bS false, bS false, iS 0, iS 0, .v (.slice none 0 0)]), (5, .row 33 [bS true, bS false, bS false, iS 0, iS 0, .own 6 0 c6q15.length]), (6, .row 64 (fl c6q15)), ((.s 7 0), .fam (famD dPipe 2 (((c0.set pp.toNat ({ (ixD c0 pp) with Closed := true } : Pipe)).set pp.toNat ({ (ixD (c0.set pp.toNat ({ (ixD c0 pp) with Closed := true } : Pipe)) pp) with Getters := [] } : Pipe)).set pp.toNat ({ (ixD ((c0.set pp.toNat ({ (ixD c0 pp) with Closed := true } : Pipe)).set pp.toNat ({ (ixD (c0.set pp.toNat ({ (ixD c0 pp) with Closed := true } : Pipe)) pp) with Getters := [] } : Pipe)) pp) with Senders := [] } : Pipe)))), ((.s 8 0), .fam (famD dPipe 1 (((c0.set pp.toNat ({ (ixD c0 pp) with Closed := true } : Pipe)).set pp.toNat ({ (ixD (c0.set pp.toNat ({ (ixD c0 pp) with Closed := true } : Pipe)) pp) with Getters := [] } : Pipe)).set pp.toNat ({ (ixD ((c0.set pp.toNat ({ (ixD c0 pp) with Closed := true } : Pipe)).set pp.toNat ({ (ixD (c0.set pp.toNat ({ (ixD c0 pp) with Closed := true } : Pipe)) pp) with Getters := [] } : Pipe)) pp) with Senders := [] } : Pipe))))] 9 (by kernel_rfl) ?_
    refine wk_id ?_
    refine seq_np ?_
    refine reg_f ?_
    refine rs 2 [] [] (by kernel_rfl) allP_nil ?_
    refine rf [(2, .ptr 4 0)] [(0, .row 57 (flD dPipe [1, 8, 7] (((c0.set pp.toNat ({ (ixD c0 pp) with Closed := true } : Pipe)).set pp.toNat ({ (ixD (c0.set pp.toNat ({ (ixD c0 pp) with Closed := true } : Pipe)) pp) with Getters := [] } : Pipe)).set pp.toNat ({ (ixD ((c0.set pp.toNat ({ (ixD c0 pp) with Closed := true } : Pipe)).set pp.toNat ({ (ixD (c0.set pp.toNat ({ (ixD c0 pp) with Closed := true } : Pipe)) pp) with Getters := [] } : Pipe)) pp) with Senders := [] } : Pipe)))), ((.s 1 0), .fam (famD dPipe 0 (((c0.set pp.toNat ({ (ixD c0 pp) with Closed := true } : Pipe)).set pp.toNat ({ (ixD (c0.set pp.toNat ({ (ixD c0 pp) with Closed := true } : Pipe)) pp) with Getters := [] } : Pipe)).set pp.toNat ({ (ixD ((c0.set pp.toNat ({ (ixD c0 pp) with Closed := true } : Pipe)).set pp.toNat ({ (ixD (c0.set pp.toNat ({ (ixD c0 pp) with Closed := true } : Pipe)) pp) with Getters := [] } : Pipe)) pp) with Senders := [] } : Pipe)))), ((.s 2 0), .dead), ((.s 3 0), .dead), (4, .row 33 [bS true, bS false, bS false, iS 0, iS 0, .own 6 0 c6q15.length]), (5, .row 33 [bS true, bS false, bS false, iS 0, iS 0, .own 6 0 c6q15.length]), (6, .row 64 (fl c6q15)), ((.s 7 0), .fam (famD dPipe 2 (((c0.set pp.toNat ({ (ixD c0 pp) with Closed := true } : Pipe)).set pp.toNat ({ (ixD (c0.set pp.toNat ({ (ixD c0 pp) with Closed := true } : Pipe)) pp) with Getters := [] } : Pipe)).set pp.toNat ({ (ixD ((c0.set pp.toNat ({ (ixD c0 pp) with Closed := true } : Pipe)).set pp.toNat ({ (ixD (c0.set pp.toNat ({ (ixD c0 pp) with Closed := true } : Pipe)) pp) with Getters := [] } : Pipe)) pp) with Senders := [] } : Pipe)))), ((.s 8 0), .fam (famD dPipe 1 (((c0.set pp.toNat ({ (ixD c0 pp) with Closed := true } : Pipe)).set pp.toNat ({ (ixD (c0.set pp.toNat ({ (ixD c0 pp) with Closed := true } : Pipe)) pp) with Getters := [] } : Pipe)).set pp.toNat ({ (ixD ((c0.set pp.toNat ({ (ixD c0 pp) with Closed := true } : Pipe)).set pp.toNat ({ (ixD (c0.set pp.toNat ({ (ixD c0 pp) with Closed := true } : Pipe)) pp) with Getters := [] } : Pipe)) pp) with Senders := [] } : Pipe))))] 9 (by kernel_rfl) ?_
    refine wk_id ?_
    obtain rfl := Option.some.inj h
    refine ret_at (.agg [bS true, bS false, bS false, iS 0, iS 0, .own 6 0 c6q15.length]) (by kernel_rfl) ?_
    exact ret_e [(0, 0), ((.s 1 0), (.s 1 0)), (4, 6), ((.s 5 0), (.s 8 0)), ((.s 6 0), (.s 7 0))] [] (by simp only [push_cast, leL_flD, renL_flD, seval]) (by simp only [push_cast, leL_flD, renL_flD, seval]) rfl rfl rfl

set_option maxRecDepth 100000 in
set_option maxHeartbeats 200000000 in
theorem pick_Shut_spec (l : (List Pipe)) (i : Int) (r : Bool × Bool × Bool × Int × Int × Fault × (List Pipe) × (List GWake)) (h : pick_Shut l i = some r) : SpecW Try.prog 26 [.sl l.length (fl l), iS i] [] 0 (fun x h n => x = .tup [.own 0 0 r.2.2.2.2.2.2.1.length, .agg [bS r.1, bS r.2.1, bS r.2.2.1, iS r.2.2.2.1, iS r.2.2.2.2.1, .own 1 0 r.2.2.2.2.2.2.2.length], .agg (Enc.cells r.2.2.2.2.2.1)] ∧ h = [(0, .row 57 (flD dPipe [2, 3, 4] r.2.2.2.2.2.2.1)), (1, .row 64 (fl r.2.2.2.2.2.2.2)), ((.s 2 0), .fam (famD dPipe 0 r.2.2.2.2.2.2.1)), ((.s 3 0), .fam (famD dPipe 1 r.2.2.2.2.2.2.1)), ((.s 4 0), .fam (famD dPipe 2 r.2.2.2.2.2.2.1))] ∧ n = 5) := by
 unfold pick_Shut at h
 refine spec_of (draw_ok _) Try.func26 rfl (by decide) rfl (by kernel_rfl) ?_
 refine seq_np ?_
 refine reg_f ?_
 refine rs 3 [] [] (by kernel_rfl) allP_nil ?_
 refine rf [(0, .sl l.length (fl l)), (1, iS i), (5, .ptr 0 0), (6, .ptr 1 0)] [(0, .row 33 [bS false, bS false, bS false, iS 0, iS 0, .v (.slice none 0 0)]), (1, .row 29 [iS 0, iS 0])] 2 (by kernel_rfl) ?_
 refine wk_id ?_
 refine seq_np ?_
 refine seq_np ?_
 refine reg_f ?_
 refine rs 1 [] [] (by kernel_rfl) allP_nil ?_
 obtain ⟨r7148, hr7148, h⟩ := bind_sx h
 refine run_call 12 [.sl l.length (fl l)] (some 11) (by kernel_rfl) ?_
 refine call_0 (pick_Check_spec l r7148 hr7148) (by simp only [push_cast, leL_flD, renL_flD, seval]) (by simp only [push_cast, leL_flD, renL_flD, seval]) ?_
 refine back_f ?_
 refine rs 2 [] [] (by kernel_rfl) allP_nil ?_
 refine rf [(0, .sl l.length (fl l)), (1, iS i), (5, .ptr 0 0), (6, .ptr 1 0), (7, .ptr 2 0)] [(0, .row 33 [bS false, bS false, bS false, iS 0, iS 0, .v (.slice none 0 0)]), (1, .row 29 [iS 0, iS 0]), (2, .row 29 (Enc.cells r7148))] 3 (by kernel_rfl) ?_
 refine wk_id ?_
 refine seq_np ?_
 refine reg_f ?_
 refine rs 3 [] [] (by kernel_rfl) allP_nil ?_
 refine rf [(0, .sl l.length (fl l)), (1, iS i), (5, .ptr 0 0), (6, .ptr 1 0), (7, .ptr 2 0), (14, bS (r7148.Code != 0))] [(0, .row 33 [bS false, bS false, bS false, iS 0, iS 0, .v (.slice none 0 0)]), (1, .row 29 [iS 0, iS 0]), (2, .row 29 (Enc.cells r7148))] 3 (by kernel_rfl) ?_
 refine wk_id ?_
 refine cond_sx h (by kernel_rfl) (fun g7180 h => ?_) (fun g7180 h => ?_)
 ·refine seq_np ?_
  refine reg_t ?_
  refine rs 5 [] [] (by kernel_rfl) allP_nil ?_
  refine rt [(4, .v (.slice none 0 0)), (5, .ptr 0 0), (6, .ptr 1 0)] [(0, .row 33 [bS false, bS false, bS false, iS 0, iS 0, .v (.slice none 0 0)]), (1, .row 29 (Enc.cells r7148)), (2, .row 29 (Enc.cells r7148))] 8 follows (by kernel_rfl) ?_
  refine wk_id ?_
  obtain rfl := Option.some.inj h
  refine ret_at (.tup [.v (.slice none 0 0), .agg [bS false, bS false, bS false, iS 0, iS 0, .v (.slice none 0 0)], .agg (Enc.cells r7148)]) (by kernel_rfl) ?_
  exact ret_e [] [] (by simp only [push_cast, leL_flD, renL_flD, seval]) (by simp only [push_cast, leL_flD, renL_flD, seval]) rfl rfl rfl
 ·refine wk_id ?_
  refine seq_np ?_
  refine seq_cut (A := Unit) (fun _ => ([(0, .sl l.length (fl l)), (1, iS i), (5, .ptr 0 0), (6, .ptr 1 0), (24, bS ((decide (i < 0)) || (decide (((l.length : Nat) : Int) ≤ i))))], [(0, .row 33 [bS false, bS false, bS false, iS 0, iS 0, .v (.slice none 0 0)]), (1, .row 29 [iS 0, iS 0]), (2, .row 29 (Enc.cells r7148))], 3)) (fun _ => True) (fun K7153 hK7153 => ?_) (fun _ _ => ?_)
  ·refine reg_f ?_
   refine rs 3 [] [] (by kernel_rfl) allP_nil ?_
   refine run_split 19 (decide (i < 0)) (.inl (by kernel_rfl)) (fun g7154 => ?_) (fun g7154 => ?_)
   ·refine rs 5 [] [] (by kernel_rfl) allP_nil ?_
    refine rf [(0, .sl l.length (fl l)), (1, iS i), (5, .ptr 0 0), (6, .ptr 1 0), (24, bS true)] [(0, .row 33 [bS false, bS false, bS false, iS 0, iS 0, .v (.slice none 0 0)]), (1, .row 29 [iS 0, iS 0]), (2, .row 29 (Enc.cells r7148))] 3 (by kernel_rfl) ?_
    exact hK7153 () _ _ _ trivial (leSt_m [(0, 0), (1, 1), (2, 2)] [] (by (try simp only [g7154]) <;> simp only [push_cast, leL_flD, renL_flD, seval]) (by (try simp only [g7154]) <;> simp only [push_cast, leL_flD, renL_flD, seval]) rfl rfl rfl)
   ·refine rs 5 [] [] (by kernel_rfl) allP_nil ?_
    refine rf [(0, .sl l.length (fl l)), (1, iS i), (5, .ptr 0 0), (6, .ptr 1 0), (24, bS (decide (((l.length : Nat) : Int) ≤ i)))] [(0, .row 33 [bS false, bS false, bS false, iS 0, iS 0, .v (.slice none 0 0)]), (1, .row 29 [iS 0, iS 0]), (2, .row 29 (Enc.cells r7148))] 3 (by kernel_rfl) ?_
    exact hK7153 () _ _ _ trivial (leSt_m [(0, 0), (1, 1), (2, 2)] [] (by (try simp only [g7154]) <;> simp only [push_cast, leL_flD, renL_flD, seval]) (by (try simp only [g7154]) <;> simp only [push_cast, leL_flD, renL_flD, seval]) rfl rfl rfl)
  ·dsimp only
   refine cond_sx h (by kernel_rfl) (fun g7179 h => ?_) (fun g7179 h => ?_)
   ·refine seq_np ?_
    refine reg_f ?_
    refine rs 1 [] [] (by kernel_rfl) allP_nil ?_
    obtain ⟨r7156, hr7156, h⟩ := bind_sx h
    refine run_call 42 [iS 3, iS (-1)] (some 26) (by kernel_rfl) ?_
    refine call_0 (pick_fault_spec 3 (-1) r7156 hr7156) (by simp only [push_cast, leL_flD, renL_flD, seval]) (by simp only [push_cast, leL_flD, renL_flD, seval]) ?_
    refine back_f ?_
    refine rs 3 [] [] (by kernel_rfl) allP_nil ?_
    refine rf [(4, .v (.slice none 0 0)), (5, .ptr 0 0), (6, .ptr 1 0)] [(0, .row 33 [bS false, bS false, bS false, iS 0, iS 0, .v (.slice none 0 0)]), (1, .row 29 (Enc.cells r7156)), (2, .row 29 (Enc.cells r7148))] 3 (by kernel_rfl) ?_
    refine wk_id ?_
    obtain rfl := Option.some.inj h
    refine ret_at (.tup [.v (.slice none 0 0), .agg [bS false, bS false, bS false, iS 0, iS 0, .v (.slice none 0 0)], .agg (Enc.cells r7156)]) (by kernel_rfl) ?_
    exact ret_e [] [] (by simp only [push_cast, leL_flD, renL_flD, seval]) (by simp only [push_cast, leL_flD, renL_flD, seval]) rfl rfl rfl
   ·refine wk_id ?_
    refine seq_np ?_
    refine reg_f ?_
    refine rs 1 [] [] (by kernel_rfl) allP_nil ?_
    obtain ⟨r7158, hr7158, h⟩ := bind_sx h
    refine call_x (pick_copied_spec l r7158 hr7158) (args := [.sl l.length (fl l)]) (dst := (some 28)) (by kernel_rfl) [(0, .row 33 [bS false, bS false, bS false, iS 0, iS 0, .v (.slice none 0 0)]), (1, .row 29 [iS 0, iS 0]), (2, .row 29 (Enc.cells r7148))] 3 (by kernel_rfl) [] [] (.own 3 0 r7158.length) [(3, .row 57 (flD dPipe [4, 5, 6] r7158)), ((.s 4 0), .fam (famD dPipe 0 r7158)), ((.s 5 0), .fam (famD dPipe 1 r7158)), ((.s 6 0), .fam (famD dPipe 2 r7158))] (by simp only [push_cast, leL_flD, renL_flD, seval]) (by simp only [push_cast, leL_flD, renL_flD, seval]) (by kernel_rfl) (.inl rfl) (by first | (simp only [push_cast, leL_flD, renL_flD, seval]; done) | (simp only [push_cast, leL_flD, renL_flD, seval]; kernel_rfl) | kernel_rfl) (by first | (simp only [push_cast, leL_flD, renL_flD, seval]; done) | (simp only [push_cast, leL_flD, renL_flD, seval]; kernel_rfl) | kernel_rfl) ?_
    refine rs 1 [] [] (by kernel_rfl) allP_nil ?_
    refine rf [(1, iS i), (5, .ptr 0 0), (6, .ptr 1 0), (8, .own 3 0 r7158.length)] [(0, .row 33 [bS false, bS false, bS false, iS 0, iS 0, .v (.slice none 0 0)]), (1, .row 29 [iS 0, iS 0]), (2, .row 29 (Enc.cells r7148)), (3, .row 57 (flD dPipe [4, 5, 6] r7158)), ((.s 4 0), .fam (famD dPipe 0 r7158)), ((.s 5 0), .fam (famD dPipe 1 r7158)), ((.s 6 0), .fam (famD dPipe 2 r7158))] 7 (by kernel_rfl) ?_
    refine wk_id ?_
    refine chk_sx h (fun g7165 h => ?_)
    refine seq_np ?_
    refine reg_f ?_
    have k7164 : 0 ≤ i ∧ i < ((r7158.length : Nat) : Int) := by first | simpa only [Bool.and_eq_true, decide_eq_true_eq, bne_iff_ne, ne_eq] using g7165 | (simp at g7165 ⊢; omega)
    refine rs 3 [none, none, some ⟨.ptr 3 (0 + (i).toNat * 5), [], 7, [3]⟩] _ (by kernel_rfl) (allP_cons (ob_ix_o 3 r7158.length 0 5 7 i k7164) allP_nil) ?_
    obtain ⟨r7166, hr7166, h⟩ := bind_sx h
    refine call_x (pipe_Down_spec i r7158 r7166 hr7166) (args := [.ptr 3 (0 + (i).toNat * 5)]) (dst := (some 32)) (by kernel_rfl) [(0, .row 33 [bS false, bS false, bS false, iS 0, iS 0, .v (.slice none 0 0)]), (1, .row 29 [iS 0, iS 0]), (2, .row 29 (Enc.cells r7148)), (3, .row 57 (flD dPipe [4, 5, 6] r7158)), ((.s 4 0), .fam (famD dPipe 0 r7158)), ((.s 5 0), .fam (famD dPipe 1 r7158)), ((.s 6 0), .fam (famD dPipe 2 r7158))] 7 (by kernel_rfl) [(0, 3), ((.s 1 0), (.s 4 0)), ((.s 2 0), (.s 5 0)), ((.s 3 0), (.s 6 0))] [] (.agg [bS r7166.1, bS r7166.2.1, bS r7166.2.2.1, iS r7166.2.2.2.1, iS r7166.2.2.2.2.1, .own 11 0 r7166.2.2.2.2.2.1.length]) [(3, .row 57 (flD dPipe [4, 12, 13] r7166.2.2.2.2.2.2)), ((.s 4 0), .fam (famD dPipe 0 r7166.2.2.2.2.2.2)), ((.s 5 0), .dead), ((.s 6 0), .dead), (11, .row 64 (fl r7166.2.2.2.2.2.1)), ((.s 12 0), .fam (famD dPipe 1 r7166.2.2.2.2.2.2)), ((.s 13 0), .fam (famD dPipe 2 r7166.2.2.2.2.2.2)), (3, .dead), ((.s 4 0), .dead), ((.s 5 0), .dead), ((.s 6 0), .dead)] (by simp only [push_cast, leL_flD, renL_flD, seval]) (by simp only [push_cast, leL_flD, renL_flD, seval]) (by kernel_rfl) (.inl rfl) (by first | (simp only [push_cast, leL_flD, renL_flD, seval]; done) | (simp only [push_cast, leL_flD, renL_flD, seval]; kernel_rfl) | kernel_rfl) (by first | (simp only [push_cast, leL_flD, renL_flD, seval]; done) | (simp only [push_cast, leL_flD, renL_flD, seval]; kernel_rfl) | kernel_rfl) ?_ (hfam := (And.intro trivial (And.intro (fun _ => Or.inl rfl) (And.intro (fun _ => Or.inl rfl) (And.intro (fun _ => Or.inl rfl) trivial)))))
    refine chk_sx h (fun g7168 h => ?_)
    have e7167 : r7158.length = r7166.2.2.2.2.2.2.length := (of_decide_eq_true g7168).symm
    refine run_eqF 8 (.own 3 0 r7158.length) (.own 3 0 r7166.2.2.2.2.2.2.length) (congrArg (fun nq => (.own 3 0 nq : SV)) (show r7158.length = r7166.2.2.2.2.2.2.length from e7167)) (by kernel_rfl) ?_
    refine rs 2 [] [] (by kernel_rfl) allP_nil ?_
    refine rf [(5, .ptr 0 0), (6, .ptr 1 0), (8, .own 3 0 r7166.2.2.2.2.2.2.length), (9, .ptr 14 0)] [(0, .row 33 [bS false, bS false, bS false, iS 0, iS 0, .v (.slice none 0 0)]), (1, .row 29 [iS 0, iS 0]), (2, .row 29 (Enc.cells r7148)), (3, .row 57 (flD dPipe [4, 12, 13] r7166.2.2.2.2.2.2)), ((.s 4 0), .fam (famD dPipe 0 r7166.2.2.2.2.2.2)), ((.s 5 0), .dead), ((.s 6 0), .dead), (11, .row 64 (fl r7166.2.2.2.2.2.1)), ((.s 12 0), .fam (famD dPipe 1 r7166.2.2.2.2.2.2)), ((.s 13 0), .fam (famD dPipe 2 r7166.2.2.2.2.2.2)), (14, .row 33 [bS r7166.1, bS r7166.2.1, bS r7166.2.2.1, iS r7166.2.2.2.1, iS r7166.2.2.2.2.1, .own 11 0 r7166.2.2.2.2.2.1.length])] 15 (by kernel_rfl) ?_
    refine wk_id ?_
    refine seq_np ?_
    refine reg_f ?_
    refine rs 3 [] [] (by kernel_rfl) allP_nil ?_
    obtain ⟨r7174, hr7174, h⟩ := bind_sx h
    refine call_x (pick_hub_wake_1_spec r7166.2.2.2.2.2.2 r7166.2.2.2.2.2.1 r7174 hr7174) (args := [.own 3 0 r7166.2.2.2.2.2.2.length, .own 11 0 r7166.2.2.2.2.2.1.length]) (dst := (some 36)) (by kernel_rfl) [(0, .row 33 [bS false, bS false, bS false, iS 0, iS 0, .v (.slice none 0 0)]), (1, .row 29 [iS 0, iS 0]), (2, .row 29 (Enc.cells r7148)), (3, .row 57 (flD dPipe [4, 12, 13] r7166.2.2.2.2.2.2)), ((.s 4 0), .fam (famD dPipe 0 r7166.2.2.2.2.2.2)), ((.s 5 0), .dead), ((.s 6 0), .dead), (11, .row 64 (fl r7166.2.2.2.2.2.1)), ((.s 12 0), .fam (famD dPipe 1 r7166.2.2.2.2.2.2)), ((.s 13 0), .fam (famD dPipe 2 r7166.2.2.2.2.2.2)), (14, .row 33 [bS r7166.1, bS r7166.2.1, bS r7166.2.2.1, iS r7166.2.2.2.1, iS r7166.2.2.2.2.1, .own 11 0 r7166.2.2.2.2.2.1.length])] 15 (by kernel_rfl) [(0, 3), ((.s 1 0), (.s 4 0)), ((.s 2 0), (.s 12 0)), ((.s 3 0), (.s 13 0)), (4, 11)] [] (.tup []) [(3, .row 57 (flD dPipe [4, 20, 21] r7174.1)), ((.s 4 0), .fam (famD dPipe 0 r7174.1)), ((.s 12 0), .dead), ((.s 13 0), .dead), (11, .row 64 (fl r7174.2)), ((.s 20 0), .fam (famD dPipe 1 r7174.1)), ((.s 21 0), .fam (famD dPipe 2 r7174.1)), (3, .dead), ((.s 4 0), .dead), ((.s 12 0), .dead), ((.s 13 0), .dead), (11, .dead)] (by simp only [push_cast, leL_flD, renL_flD, seval]) (by simp only [push_cast, leL_flD, renL_flD, seval]) (by kernel_rfl) (.inl rfl) (by first | (simp only [push_cast, leL_flD, renL_flD, seval]; done) | (simp only [push_cast, leL_flD, renL_flD, seval]; kernel_rfl) | kernel_rfl) (by first | (simp only [push_cast, leL_flD, renL_flD, seval]; done) | (simp only [push_cast, leL_flD, renL_flD, seval]; kernel_rfl) | kernel_rfl) ?_ (hfam := (And.intro trivial (And.intro (fun _ => Or.inl rfl) (And.intro (fun _ => Or.inl rfl) (And.intro (fun _ => Or.inl rfl) (And.intro trivial trivial))))))
    refine chk_sx h (fun g7176 h => ?_)
    have e7175 : r7166.2.2.2.2.2.2.length = r7174.1.length := (of_decide_eq_true g7176).symm
    refine run_eqF 8 (.own 3 0 r7166.2.2.2.2.2.2.length) (.own 3 0 r7174.1.length) (congrArg (fun nq => (.own 3 0 nq : SV)) (show r7166.2.2.2.2.2.2.length = r7174.1.length from e7175)) (by kernel_rfl) ?_
    refine chk_sx h (fun g7178 h => ?_)
    have e7177 : r7166.2.2.2.2.2.1.length = r7174.2.length := (of_decide_eq_true g7178).symm
    refine run_eqH 14 (.row 33 [bS r7166.1, bS r7166.2.1, bS r7166.2.2.1, iS r7166.2.2.2.1, iS r7166.2.2.2.2.1, .own 11 0 r7166.2.2.2.2.2.1.length]) (.row 33 [bS r7166.1, bS r7166.2.1, bS r7166.2.2.1, iS r7166.2.2.2.1, iS r7166.2.2.2.2.1, .own 11 0 r7174.2.length]) (congrArg (fun nq => (.row 33 [bS r7166.1, bS r7166.2.1, bS r7166.2.2.1, iS r7166.2.2.2.1, iS r7166.2.2.2.2.1, .own 11 0 nq] : Chunk)) (show r7166.2.2.2.2.2.1.length = r7174.2.length from e7177)) (by kernel_rfl) ?_
    refine rf [(5, .ptr 0 0), (6, .ptr 1 0), (8, .own 3 0 r7174.1.length), (9, .ptr 14 0)] [(0, .row 33 [bS false, bS false, bS false, iS 0, iS 0, .v (.slice none 0 0)]), (1, .row 29 [iS 0, iS 0]), (2, .row 29 (Enc.cells r7148)), (3, .row 57 (flD dPipe [4, 20, 21] r7174.1)), ((.s 4 0), .fam (famD dPipe 0 r7174.1)), ((.s 5 0), .dead), ((.s 6 0), .dead), (11, .row 64 (fl r7174.2)), ((.s 12 0), .dead), ((.s 13 0), .dead), (14, .row 33 [bS r7166.1, bS r7166.2.1, bS r7166.2.2.1, iS r7166.2.2.2.1, iS r7166.2.2.2.2.1, .own 11 0 r7174.2.length]), ((.s 20 0), .fam (famD dPipe 1 r7174.1)), ((.s 21 0), .fam (famD dPipe 2 r7174.1))] 22 (by kernel_rfl) ?_
    refine wk_id ?_
    refine seq_np ?_
    refine reg_t ?_
    refine rs 6 [] [] (by kernel_rfl) allP_nil ?_
    refine rt [(4, .own 3 0 r7174.1.length), (5, .ptr 0 0), (6, .ptr 1 0)] [(0, .row 33 [bS r7166.1, bS r7166.2.1, bS r7166.2.2.1, iS r7166.2.2.2.1, iS r7166.2.2.2.2.1, .own 11 0 r7174.2.length]), (1, .row 29 [iS 0, iS 0]), (2, .row 29 (Enc.cells r7148)), (3, .row 57 (flD dPipe [4, 20, 21] r7174.1)), ((.s 4 0), .fam (famD dPipe 0 r7174.1)), ((.s 5 0), .dead), ((.s 6 0), .dead), (11, .row 64 (fl r7174.2)), ((.s 12 0), .dead), ((.s 13 0), .dead), (14, .row 33 [bS r7166.1, bS r7166.2.1, bS r7166.2.2.1, iS r7166.2.2.2.1, iS r7166.2.2.2.2.1, .own 11 0 r7174.2.length]), ((.s 20 0), .fam (famD dPipe 1 r7174.1)), ((.s 21 0), .fam (famD dPipe 2 r7174.1))] 28 follows (by kernel_rfl) ?_
    refine wk_id ?_
    obtain rfl := Option.some.inj h
    refine ret_at (.tup [.own 3 0 r7174.1.length, .agg [bS r7166.1, bS r7166.2.1, bS r7166.2.2.1, iS r7166.2.2.2.1, iS r7166.2.2.2.2.1, .own 11 0 r7174.2.length], .agg [iS 0, iS 0]]) (by kernel_rfl) ?_
    exact ret_e [(0, 3), (1, 11), ((.s 2 0), (.s 4 0)), ((.s 3 0), (.s 20 0)), ((.s 4 0), (.s 21 0))] [] (by simp only [push_cast, leL_flD, renL_flD, seval]) (by simp only [push_cast, leL_flD, renL_flD, seval]) rfl rfl rfl

end Go.Proofs.Ytcpmhpobhnakeaa
