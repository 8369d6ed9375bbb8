/-
  What laws of the chapter cell compute, and lemmas on it.
  No conditions.
-/
import Derived.Test.YtolmbmgjpcdngaaProg
import Derived.Test.YtolmbmgjpcdngaacellG
set_option linter.unusedSimpArgs false
set_option linter.unusedVariables false
namespace Go.Proofs.Ytolmbmgjpcdngaa
open Go Go.Sx
attribute [local irreducible] Wk RunAt
theorem follows : Try.prog.follows .mixedOrders = true := by kernel_rfl
set_option maxRecDepth 100000 in
set_option maxHeartbeats 200000000 in
theorem taskmilllaw_own_spec (l : (List Int)) (r : (List Int)) (h : taskmilllaw_own l = some r) : SpecW Try.prog 13 [.sl l.length (fl l)] [] 0 (fun x h n => x = .own 0 0 r.length ∧ h = [(0, .row 3 (fl r))] ∧ n = 1) := by
  unfold taskmilllaw_own at h
  refine spec_of (draw_ok _) Try.func13 rfl (by decide) rfl (by kernel_rfl) ?_
  refine seq_np ?_
  refine reg_f ?_
  refine rs 1 [] [] (by kernel_rfl) allP_nil ?_
  refine rf [(0, .sl l.length (fl l))] [] 0 (by kernel_rfl) ?_
  refine wk_id ?_
  refine chk_sx h (fun g6 h => ?_)
  refine seq_np ?_
  refine reg_f ?_
  have k5 : l.length * 8 ≤ 140737488355328 := by first | simpa only [Bool.and_eq_true, decide_eq_true_eq, bne_iff_ne, ne_eq] using g6 | (simp at g6 ⊢; omega)
  refine rs 3 [none, some ⟨.own 0 0 l.length, [(0, .row 3 (fl l))], 1, []⟩] _ (by kernel_rfl) (allP_cons (ob_app0 (P := Try.prog) l 1 8 rfl (fl l) l.length rfl rfl ((fl l).length = l.length * 1) (app_sl l 1 rfl) 3 (by kernel_rfl) (by decide) k5 0 []) allP_nil) ?_
  refine rf [(2, .own 0 0 l.length)] [(0, .row 3 (fl l))] 1 (by kernel_rfl) ?_
  refine wk_id ?_
  obtain rfl := Option.some.inj h
  refine ret_at (.own 0 0 l.length) (by kernel_rfl) ?_
  exact ret_e [(0, 0)] [] (by simp only [push_cast, seval]) (by simp only [push_cast, seval]) rfl rfl rfl

set_option maxRecDepth 100000 in
set_option maxHeartbeats 200000000 in
theorem cell_fault_spec (code : Int) (xat : Int) (r : Fault) (h : cell_fault code xat = some r) : SpecW Try.prog 29 [iS code, iS xat] [] 0 (fun x h n => x = .agg (Enc.cells r) ∧ h = [] ∧ n = 0) := by
  unfold cell_fault at h
  refine spec_of (draw_ok _) Try.func29 rfl (by decide) rfl (by kernel_rfl) ?_
  refine seq_np ?_
  refine reg_f ?_
  refine rs 1 [] [] (by kernel_rfl) allP_nil ?_
  refine rf [(0, iS code), (1, iS xat), (4, .ptr 0 0)] [(0, .row 28 [iS 0, iS 0])] 1 (by kernel_rfl) ?_
  refine wk_id ?_
  refine seq_np ?_
  refine reg_f ?_
  refine rs 4 [] [] (by kernel_rfl) allP_nil ?_
  refine rf [(4, .ptr 0 0)] [(0, .row 28 [iS code, iS xat])] 1 (by kernel_rfl) ?_
  refine wk_id ?_
  obtain rfl := Option.some.inj h
  refine ret_at (.agg [iS code, iS xat]) (by kernel_rfl) ?_
  exact ret_e [] [] (by simp only [push_cast, seval]) (by simp only [push_cast, seval]) rfl rfl rfl

set_option maxRecDepth 100000 in
set_option maxHeartbeats 200000000 in
theorem cell_one_spec (xo : GOp) (cells : Int) (r : Int) (h : cell_one xo cells = some r) : SpecW Try.prog 39 [.agg (Enc.cells xo), iS cells] [] 0 (fun x h n => x = iS r ∧ h = [] ∧ n = 0) := by
  unfold cell_one at h
  refine spec_of (draw_ok _) Try.func39 rfl (by decide) rfl (by kernel_rfl) ?_
  refine seq_np ?_
  refine reg_f ?_
  refine rs 2 [] [] (by kernel_rfl) allP_nil ?_
  refine rf [(1, iS cells), (2, .ptr 0 0)] [(0, .row 50 (Enc.cells xo))] 1 (by kernel_rfl) ?_
  refine wk_id ?_
  refine seq_np ?_
  refine seq_np ?_
  refine reg_f ?_
  refine rs 2 [] [] (by kernel_rfl) allP_nil ?_
  refine rf [(1, iS cells), (2, .ptr 0 0), (6, iS xo.Kind)] [(0, .row 50 (Enc.cells xo))] 1 (by kernel_rfl) ?_
  refine wk_id ?_
  refine block_cut (A := Unit) (fun a => ([(1, iS cells), (2, .ptr 0 0)], [(0, .row 50 (Enc.cells xo))], 1)) (fun a => (cell_one_j1 xo cells) = some r) (fun K58 hK58 => ?_) ?_
  · refine seq_np ?_
    refine reg_f ?_
    refine rs 2 [] [] (by kernel_rfl) allP_nil ?_
    refine rf [(1, iS cells), (2, .ptr 0 0), (6, iS xo.Kind), (7, bS (xo.Kind == 1))] [(0, .row 50 (Enc.cells xo))] 1 (by kernel_rfl) ?_
    refine wk_id ?_
    refine cond_sx h (by kernel_rfl) (fun g72 h => ?_) (fun g72 h => ?_)
    · refine seq_cut (A := Unit) (fun _ => ([(1, iS cells), (2, .ptr 0 0), (16, bS ((xo.A != 0) || (xo.B != 0)))], [(0, .row 50 (Enc.cells xo))], 1)) (fun _ => True) (fun K60 hK60 => ?_) (fun _ _ => ?_)
      · refine reg_f ?_
        refine rs 4 [] [] (by kernel_rfl) allP_nil ?_
        refine run_split 12 (xo.A != 0) (.inl (by kernel_rfl)) (fun g61 => ?_) (fun g61 => ?_)
        · refine rs 4 [] [] (by kernel_rfl) allP_nil ?_
          refine rf [(1, iS cells), (2, .ptr 0 0), (16, bS true)] [(0, .row 50 (Enc.cells xo))] 1 (by kernel_rfl) ?_
          exact hK60 () _ _ _ trivial (leSt_m [(0, 0)] [] (by (try simp only [g61]) <;> simp only [push_cast, seval]) (by (try simp only [g61]) <;> simp only [push_cast, seval]) rfl rfl rfl)
        · refine rs 4 [] [] (by kernel_rfl) allP_nil ?_
          refine rf [(1, iS cells), (2, .ptr 0 0), (16, bS (xo.B != 0))] [(0, .row 50 (Enc.cells xo))] 1 (by kernel_rfl) ?_
          exact hK60 () _ _ _ trivial (leSt_m [(0, 0)] [] (by (try simp only [g61]) <;> simp only [push_cast, seval]) (by (try simp only [g61]) <;> simp only [push_cast, seval]) rfl rfl rfl)
      · dsimp only
        refine cond_sx h (by kernel_rfl) (fun g62 h => ?_) (fun g62 h => ?_)
        · refine seq_np ?_
          refine reg_f ?_
          refine rs 1 [] [] (by kernel_rfl) allP_nil ?_
          refine rf [(4, iS 5)] [(0, .row 50 (Enc.cells xo))] 1 (by kernel_rfl) ?_
          refine wk_id ?_
          obtain rfl := Option.some.inj h
          refine ret_at (iS 5) (by kernel_rfl) ?_
          exact ret_e [] [] (by simp only [push_cast, seval]) (by simp only [push_cast, seval]) rfl rfl rfl
        · exact hK58 () _ _ _ h (leSt_m [(0, 0)] [] (by simp only [push_cast, seval]) (by simp only [push_cast, seval]) rfl rfl rfl)
    · refine seq_cut (A := Bool) (fun a => ([(1, iS cells), (2, .ptr 0 0), (6, iS xo.Kind), (17, bS a)], [(0, .row 50 (Enc.cells xo))], 1)) (fun a => (cell_one_j2 xo cells a) = some r) (fun K66 hK66 => ?_) ?_
      · refine seq_np ?_
        refine reg_f ?_
        refine rs 2 [] [] (by kernel_rfl) allP_nil ?_
        refine rf [(1, iS cells), (2, .ptr 0 0), (6, iS xo.Kind), (17, bS (xo.Kind == 2))] [(0, .row 50 (Enc.cells xo))] 1 (by kernel_rfl) ?_
        refine wk_id ?_
        refine cond_sx h (by kernel_rfl) (fun g68 h => ?_) (fun g68 h => ?_)
        · exact hK66 ((xo.Kind == 2)) _ _ _ h (leSt_m [(0, 0)] [] (by simp only [push_cast, seval]) (by simp only [push_cast, seval]) rfl rfl rfl)
        · refine seq_np ?_
          refine reg_f ?_
          refine rs 2 [] [] (by kernel_rfl) allP_nil ?_
          refine rf [(1, iS cells), (2, .ptr 0 0), (6, iS xo.Kind), (17, bS (xo.Kind == 3))] [(0, .row 50 (Enc.cells xo))] 1 (by kernel_rfl) ?_
          refine wk_id ?_
          refine cond_sx h (by kernel_rfl) (fun g67 h => ?_) (fun g67 h => ?_)
          · exact hK66 ((xo.Kind == 3)) _ _ _ h (leSt_m [(0, 0)] [] (by simp only [push_cast, seval]) (by simp only [push_cast, seval]) rfl rfl rfl)
          · refine reg_f ?_
            refine rs 2 [] [] (by kernel_rfl) allP_nil ?_
            refine rf [(1, iS cells), (2, .ptr 0 0), (6, iS xo.Kind), (17, bS (xo.Kind == 4))] [(0, .row 50 (Enc.cells xo))] 1 (by kernel_rfl) ?_
            exact hK66 ((xo.Kind == 4)) _ _ _ h (leSt_m [(0, 0)] [] (by simp only [push_cast, seval]) (by simp only [push_cast, seval]) rfl rfl rfl)
      · rintro t17q3 h
        try dsimp only at h ⊢
        unfold cell_one_j2 at h
        refine cond_sx h (by kernel_rfl) (fun g71 h => ?_) (fun g71 h => ?_)
        · refine seq_np ?_
          refine reg_f ?_
          refine rs 3 [] [] (by kernel_rfl) allP_nil ?_
          refine rf [(1, iS cells), (2, .ptr 0 0), (23, bS (xo.B != 0))] [(0, .row 50 (Enc.cells xo))] 1 (by kernel_rfl) ?_
          refine wk_id ?_
          refine cond_sx h (by kernel_rfl) (fun g69 h => ?_) (fun g69 h => ?_)
          · refine seq_np ?_
            refine reg_f ?_
            refine rs 1 [] [] (by kernel_rfl) allP_nil ?_
            refine rf [(4, iS 5)] [(0, .row 50 (Enc.cells xo))] 1 (by kernel_rfl) ?_
            refine wk_id ?_
            obtain rfl := Option.some.inj h
            refine ret_at (iS 5) (by kernel_rfl) ?_
            exact ret_e [] [] (by simp only [push_cast, seval]) (by simp only [push_cast, seval]) rfl rfl rfl
          · exact hK58 () _ _ _ h (leSt_m [(0, 0)] [] (by simp only [push_cast, seval]) (by simp only [push_cast, seval]) rfl rfl rfl)
        · refine seq_np ?_
          refine reg_f ?_
          refine rs 2 [] [] (by kernel_rfl) allP_nil ?_
          refine rf [(1, iS cells), (2, .ptr 0 0), (24, bS (xo.Kind == 5))] [(0, .row 50 (Enc.cells xo))] 1 (by kernel_rfl) ?_
          refine wk_id ?_
          refine cond_sx h (by kernel_rfl) (fun g70 h => ?_) (fun g70 h => ?_)
          · exact hK58 () _ _ _ h (leSt_m [(0, 0)] [] (by simp only [push_cast, seval]) (by simp only [push_cast, seval]) rfl rfl rfl)
          · refine seq_np ?_
            refine reg_f ?_
            refine rs 1 [] [] (by kernel_rfl) allP_nil ?_
            refine rf [(4, iS 4)] [(0, .row 50 (Enc.cells xo))] 1 (by kernel_rfl) ?_
            refine wk_id ?_
            obtain rfl := Option.some.inj h
            refine ret_at (iS 4) (by kernel_rfl) ?_
            exact ret_e [] [] (by simp only [push_cast, seval]) (by simp only [push_cast, seval]) rfl rfl rfl
  · rintro _ h
    try dsimp only at h ⊢
    unfold cell_one_j1 at h
    refine wk_id ?_
    refine seq_np ?_
    refine seq_cut (A := Unit) (fun _ => ([(34, bS ((decide (xo.At < 0)) || (decide (cells ≤ xo.At))))], [(0, .row 50 (Enc.cells xo))], 1)) (fun _ => True) (fun K76 hK76 => ?_) (fun _ _ => ?_)
    · refine reg_f ?_
      refine rs 4 [] [] (by kernel_rfl) allP_nil ?_
      refine run_split 29 (decide (xo.At < 0)) (.inl (by kernel_rfl)) (fun g77 => ?_) (fun g77 => ?_)
      · refine rs 5 [] [] (by kernel_rfl) allP_nil ?_
        refine rf [(34, bS true)] [(0, .row 50 (Enc.cells xo))] 1 (by kernel_rfl) ?_
        exact hK76 () _ _ _ trivial (leSt_m [(0, 0)] [] (by (try simp only [g77]) <;> simp only [push_cast, seval]) (by (try simp only [g77]) <;> simp only [push_cast, seval]) rfl rfl rfl)
      · refine rs 5 [] [] (by kernel_rfl) allP_nil ?_
        refine rf [(34, bS (decide (cells ≤ xo.At)))] [(0, .row 50 (Enc.cells xo))] 1 (by kernel_rfl) ?_
        exact hK76 () _ _ _ trivial (leSt_m [(0, 0)] [] (by (try simp only [g77]) <;> simp only [push_cast, seval]) (by (try simp only [g77]) <;> simp only [push_cast, seval]) rfl rfl rfl)
    · dsimp only
      refine cond_sx h (by kernel_rfl) (fun g78 h => ?_) (fun g78 h => ?_)
      · refine seq_np ?_
        refine reg_f ?_
        refine rs 1 [] [] (by kernel_rfl) allP_nil ?_
        refine rf [(4, iS 3)] [(0, .row 50 (Enc.cells xo))] 1 (by kernel_rfl) ?_
        refine wk_id ?_
        obtain rfl := Option.some.inj h
        refine ret_at (iS 3) (by kernel_rfl) ?_
        exact ret_e [] [] (by simp only [push_cast, seval]) (by simp only [push_cast, seval]) rfl rfl rfl
      · refine wk_id ?_
        refine seq_np ?_
        refine reg_f ?_
        refine rs 1 [] [] (by kernel_rfl) allP_nil ?_
        refine rf [(4, iS 0)] [(0, .row 50 (Enc.cells xo))] 1 (by kernel_rfl) ?_
        refine wk_id ?_
        obtain rfl := Option.some.inj h
        refine ret_at (iS 0) (by kernel_rfl) ?_
        exact ret_e [] [] (by simp only [push_cast, seval]) (by simp only [push_cast, seval]) rfl rfl rfl

set_option maxRecDepth 100000 in
set_option maxHeartbeats 200000000 in
theorem cell_Check_spec (mem : (List Int)) (ops : (List GOp)) (r : Fault) (h : cell_Check mem ops = some r) : SpecW Try.prog 21 [.sl mem.length (fl mem), .sl ops.length (fl ops)] [] 0 (fun x h n => x = .agg (Enc.cells r) ∧ h = [] ∧ n = 0) := by
  unfold cell_Check at h
  refine spec_of (draw_ok _) Try.func21 rfl (by decide) rfl (by kernel_rfl) ?_
  refine seq_np ?_
  refine reg_f ?_
  refine rs 1 [] [] (by kernel_rfl) allP_nil ?_
  refine rf [(0, .sl mem.length (fl mem)), (1, .sl ops.length (fl ops)), (4, .ptr 0 0)] [(0, .row 28 [iS 0, iS 0])] 1 (by kernel_rfl) ?_
  refine wk_id ?_
  refine seq_np ?_
  refine seq_cut (A := Unit) (fun _ => ([(0, .sl mem.length (fl mem)), (1, .sl ops.length (fl ops)), (4, .ptr 0 0), (15, bS ((decide ((32 : Int) < ((mem.length : Nat) : Int))) || (decide ((5000 : Int) < ((ops.length : Nat) : Int)))))], [(0, .row 28 [iS 0, iS 0])], 1)) (fun _ => True) (fun K99 hK99 => ?_) (fun _ _ => ?_)
  · refine reg_f ?_
    refine rs 4 [] [] (by kernel_rfl) allP_nil ?_
    refine run_split 11 (decide ((32 : Int) < ((mem.length : Nat) : Int))) (.inl (by kernel_rfl)) (fun g100 => ?_) (fun g100 => ?_)
    · refine rs 4 [] [] (by kernel_rfl) allP_nil ?_
      refine rf [(0, .sl mem.length (fl mem)), (1, .sl ops.length (fl ops)), (4, .ptr 0 0), (15, bS true)] [(0, .row 28 [iS 0, iS 0])] 1 (by kernel_rfl) ?_
      exact hK99 () _ _ _ trivial (leSt_m [(0, 0)] [] (by (try simp only [g100]) <;> simp only [push_cast, seval]) (by (try simp only [g100]) <;> simp only [push_cast, seval]) rfl rfl rfl)
    · refine rs 4 [] [] (by kernel_rfl) allP_nil ?_
      refine rf [(0, .sl mem.length (fl mem)), (1, .sl ops.length (fl ops)), (4, .ptr 0 0), (15, bS (decide ((5000 : Int) < ((ops.length : Nat) : Int))))] [(0, .row 28 [iS 0, iS 0])] 1 (by kernel_rfl) ?_
      exact hK99 () _ _ _ trivial (leSt_m [(0, 0)] [] (by (try simp only [g100]) <;> simp only [push_cast, seval]) (by (try simp only [g100]) <;> simp only [push_cast, seval]) rfl rfl rfl)
  · dsimp only
    refine cond_sx h (by kernel_rfl) (fun g175 h => ?_) (fun g175 h => ?_)
    · refine seq_np ?_
      refine reg_f ?_
      obtain ⟨r102, hr102, h⟩ := bind_sx h
      refine run_call 29 [iS 2, iS 0] (some 16) (by kernel_rfl) ?_
      refine call_0 (cell_fault_spec 2 0 r102 hr102) (by simp only [push_cast, seval]) (by simp only [push_cast, seval]) ?_
      refine back_f ?_
      refine rs 1 [] [] (by kernel_rfl) allP_nil ?_
      refine rf [(4, .ptr 0 0)] [(0, .row 28 (Enc.cells r102))] 1 (by kernel_rfl) ?_
      refine wk_id ?_
      obtain rfl := Option.some.inj h
      refine ret_at (.agg (Enc.cells r102)) (by kernel_rfl) ?_
      exact ret_e [] [] (by simp only [push_cast, seval]) (by simp only [push_cast, seval]) rfl rfl rfl
    · refine wk_id ?_
      refine seq_np ?_
      refine seq_np ?_
      refine reg_f ?_
      refine rs 3 [] [] (by kernel_rfl) allP_nil ?_
      refine rf [(0, .sl mem.length (fl mem)), (4, .ptr 0 0), (17, .sl ops.length (fl ops)), (18, iS ((ops.length : Nat) : Int)), (19, iS 0)] [(0, .row 28 [iS 0, iS 0])] 1 (by kernel_rfl) ?_
      refine wk_id ?_
      refine block_np ?_
      refine loop_sx (S := Int) (fun a => ([(0, .sl mem.length (fl mem)), (4, .ptr 0 0), (17, .sl ops.length (fl ops)), (18, iS ((ops.length : Nat) : Int)), (19, iS a)], [(0, .row 28 [iS 0, iS 0])], 1)) h (leSt_m [(0, 0)] [] (by simp only [push_cast, seval]) (by simp only [push_cast, seval]) rfl rfl rfl) ?_
      rintro t19q7 o2 R2 h hr2 hn2 hx2 ht2
      try dsimp only at h hn2 ⊢
      unfold cell_Check_l1 at h
      try dsimp only at h
      refine seq_np ?_
      refine reg_f ?_
      refine rs 1 [] [] (by kernel_rfl) allP_nil ?_
      refine rf [(0, .sl mem.length (fl mem)), (4, .ptr 0 0), (17, .sl ops.length (fl ops)), (18, iS ((ops.length : Nat) : Int)), (19, iS t19q7), (20, bS (decide (t19q7 < ((ops.length : Nat) : Int))))] [(0, .row 28 [iS 0, iS 0])] 1 (by kernel_rfl) ?_
      refine wk_id ?_
      refine seq_np ?_
      refine cond_sx h (by kernel_rfl) (fun g174 h => ?_) (fun g174 h => ?_)
      · refine wk_id ?_
        refine seq_np ?_
        refine block_np ?_
        refine chk_sx h (fun g168 h => ?_)
        refine seq_np ?_
        refine reg_f ?_
        have k167 : 0 ≤ t19q7 ∧ t19q7 < ((ops.length : Nat) : Int) := by first | simpa only [Bool.and_eq_true, decide_eq_true_eq, bne_iff_ne, ne_eq] using g168 | (simp at g168 ⊢; omega)
        refine rs 6 [none, some ⟨.iptr (fl ops) ((t19q7).toNat * 4), [], 1, []⟩, some ⟨.agg (Enc.cells (ix ops t19q7)), [], 1, []⟩] _ (by kernel_rfl) (allP_cons (ob_ldw ops t19q7 4 ((t19q7).toNat * 4) k167 rfl (by first | rfl | omega) (Enc.cells (ix ops t19q7)) rfl 1 []) (allP_cons (ob_ix_l ops 4 1 t19q7 k167) allP_nil)) ?_
        refine rf [(0, .sl mem.length (fl mem)), (4, .ptr 0 0), (5, iS t19q7), (6, .ptr 1 0), (17, .sl ops.length (fl ops)), (18, iS ((ops.length : Nat) : Int)), (19, iS t19q7)] [(0, .row 28 [iS 0, iS 0]), (1, .row 50 (Enc.cells (ix ops t19q7)))] 2 (by kernel_rfl) ?_
        refine wk_id ?_
        refine seq_np ?_
        refine reg_f ?_
        refine rs 3 [] [] (by kernel_rfl) allP_nil ?_
        obtain ⟨r170, hr170, h⟩ := bind_sx h
        refine run_call 39 [.agg (Enc.cells (ix ops t19q7)), iS ((mem.length : Nat) : Int)] (some 27) (by kernel_rfl) ?_
        refine call_0 (cell_one_spec (ix ops t19q7) ((mem.length : Nat) : Int) r170 hr170) (by simp only [push_cast, seval]) (by simp only [push_cast, seval]) ?_
        refine back_f ?_
        refine rs 1 [] [] (by kernel_rfl) allP_nil ?_
        refine rf [(0, .sl mem.length (fl mem)), (4, .ptr 0 0), (5, iS t19q7), (7, iS r170), (17, .sl ops.length (fl ops)), (18, iS ((ops.length : Nat) : Int)), (19, iS t19q7)] [(0, .row 28 [iS 0, iS 0]), (1, .row 50 (Enc.cells (ix ops t19q7)))] 2 (by kernel_rfl) ?_
        refine wk_id ?_
        refine seq_np ?_
        refine reg_f ?_
        refine rs 2 [] [] (by kernel_rfl) allP_nil ?_
        refine rf [(0, .sl mem.length (fl mem)), (4, .ptr 0 0), (5, iS t19q7), (7, iS r170), (17, .sl ops.length (fl ops)), (18, iS ((ops.length : Nat) : Int)), (19, iS t19q7), (29, bS (r170 != 0))] [(0, .row 28 [iS 0, iS 0]), (1, .row 50 (Enc.cells (ix ops t19q7)))] 2 (by kernel_rfl) ?_
        refine wk_id ?_
        refine cond_sx h (by kernel_rfl) (fun g173 h => ?_) (fun g173 h => ?_)
        · refine seq_np ?_
          refine reg_f ?_
          refine rs 2 [] [] (by kernel_rfl) allP_nil ?_
          obtain ⟨r172, hr172, h⟩ := bind_sx h
          refine run_call 29 [iS r170, iS t19q7] (some 32) (by kernel_rfl) ?_
          refine call_0 (cell_fault_spec r170 t19q7 r172 hr172) (by simp only [push_cast, seval]) (by simp only [push_cast, seval]) ?_
          refine back_f ?_
          refine rs 1 [] [] (by kernel_rfl) allP_nil ?_
          refine rf [(4, .ptr 0 0)] [(0, .row 28 (Enc.cells r172)), (1, .row 50 (Enc.cells (ix ops t19q7)))] 2 (by kernel_rfl) ?_
          refine wk_id ?_
          refine rt_cast ht2 ?_
          obtain ⟨r0, h, e0⟩ := map_sx h
          have e1 := hr2 r0 e0.symm
          subst r0
          obtain rfl := Option.some.inj h
          refine ret_at (.agg (Enc.cells r172)) (by kernel_rfl) ?_
          exact ret_e [] [] (by simp only [push_cast, seval]) (by simp only [push_cast, seval]) rfl rfl rfl
        · refine wk_id ?_
          refine wk_id ?_
          refine reg_f ?_
          refine rs 2 [] [] (by kernel_rfl) allP_nil ?_
          refine rf [(0, .sl mem.length (fl mem)), (4, .ptr 0 0), (17, .sl ops.length (fl ops)), (18, iS ((ops.length : Nat) : Int)), (19, iS (IntKind.i64.wrap (t19q7 + 1)))] [(0, .row 28 [iS 0, iS 0]), (1, .row 50 (Enc.cells (ix ops t19q7)))] 2 (by kernel_rfl) ?_
          exact hn2 ((IntKind.i64.wrap (t19q7 + 1))) _ _ _ (Option.some.inj h).symm (leSt_m [(0, 0)] [] (by simp only [push_cast, seval]) (by simp only [push_cast, seval]) rfl rfl rfl)
      · change R2 (.exit 0) _ _ _
        refine ex_cast hx2 (id := 0) ?_
        obtain ⟨r0, h, e0⟩ := map_sx h
        have e1 := hr2 r0 e0.symm
        subst r0
        refine wk_id ?_
        refine wk_id ?_
        refine seq_np ?_
        refine reg_f ?_
        refine rs 2 [] [] (by kernel_rfl) allP_nil ?_
        refine rf [(4, .ptr 0 0)] [(0, .row 28 [iS 0, iS 0])] 1 (by kernel_rfl) ?_
        refine wk_id ?_
        obtain rfl := Option.some.inj h
        refine ret_at (.agg [iS 0, iS 0]) (by kernel_rfl) ?_
        exact ret_e [] [] (by simp only [push_cast, seval]) (by simp only [push_cast, seval]) rfl rfl rfl

set_option maxRecDepth 100000 in
set_option maxHeartbeats 200000000 in
theorem slices_Clone_int_spec (s : (List Int)) (r : (List Int)) (h : slices_Clone_int s = some r) : SpecW Try.prog 32 [.sl s.length (fl s)] [] 0 (fun x h n => x = .own 0 0 r.length ∧ h = [(0, .row 3 (fl r))] ∧ n = 1) := by
  unfold slices_Clone_int at h
  refine spec_of (draw_ok _) Try.func32 rfl (by decide) rfl (by kernel_rfl) ?_
  refine seq_np ?_
  refine reg_f ?_
  refine rs 1 [] [] (by kernel_rfl) allP_nil ?_
  refine rf [(0, .sl s.length (fl s))] [] 0 (by kernel_rfl) ?_
  refine wk_id ?_
  refine seq_np ?_
  refine seq_np ?_
  refine reg_f ?_
  refine rs 1 [] [] (by kernel_rfl) allP_nil ?_
  refine run_nil s.length (some 4) (by kernel_rfl) (fun g185 => ?_) ?_
  · obtain rfl : s = [] := List.eq_nil_of_length_eq_zero g185
    replace h : (some ([])) = some r := by simpa using h
    refine rf [(0, .sl ([] : List Int).length (fl ([] : List Int))), (4, bS true)] [] 0 (by kernel_rfl) ?_
    refine wk_id ?_
    refine cond_t (by kernel_rfl) ?_
    refine seq_np ?_
    refine reg_f ?_
    refine rs 1 [] [] (by kernel_rfl) allP_nil ?_
    refine rf [(2, .v (.slice none 0 0))] [] 0 (by kernel_rfl) ?_
    refine wk_id ?_
    obtain rfl := Option.some.inj h
    refine ret_at (.v (.slice none 0 0)) (by kernel_rfl) ?_
    exact ret_e [] [] (by simp only [push_cast, seval]) (by simp only [push_cast, seval]) rfl rfl rfl
  · refine rf [(0, .sl s.length (fl s)), (4, bS false)] [] 0 (by kernel_rfl) ?_
    refine wk_id ?_
    refine cond_f (by kernel_rfl) ?_
    refine wk_id ?_
    refine chk_sx h (fun g184 h => ?_)
    refine seq_np ?_
    refine reg_f ?_
    refine run_mk0 Int (some 5) 3 (by kernel_rfl) ?_
    have k183 : (([] : List Int) ++ s).length * 8 ≤ 140737488355328 := by first | simpa only [Bool.and_eq_true, decide_eq_true_eq, bne_iff_ne, ne_eq] using g184 | (simp at g184 ⊢; omega)
    refine rs 3 [none, some ⟨.own 1 0 (([] : List Int) ++ s).length, [(1, .row 3 (fl (([] : List Int) ++ s))), (0, .dead)], 2, [0]⟩] _ (by kernel_rfl) (allP_cons (ob_app (P := Try.prog) ([] : List Int) s 1 8 rfl (fl s) s.length rfl rfl ((fl s).length = s.length * 1) (app_sl s 1 rfl) 3 (by kernel_rfl) (by decide) k183 0 1 []) allP_nil) ?_
    refine rf [(2, .own 1 0 (([] : List Int) ++ s).length)] [(0, .dead), (1, .row 3 (fl (([] : List Int) ++ s)))] 2 (by kernel_rfl) ?_
    refine wk_id ?_
    obtain rfl := Option.some.inj h
    refine ret_at (.own 1 0 (([] : List Int) ++ s).length) (by kernel_rfl) ?_
    exact ret_e [(0, 1)] [] (by simp only [push_cast, seval]) (by simp only [push_cast, seval]) rfl rfl rfl

set_option maxRecDepth 100000 in
set_option maxHeartbeats 200000000 in
theorem cell_does_spec (r : Unit) (h : cell_does = some r) : SpecW Try.prog 42 [] [] 0 (fun x h n => x = .mp 0 ∧ h = [(0, .map [(.int .i64 1, .v (.func (.func 47) #[] #[])), (.int .i64 2, .v (.func (.func 48) #[] #[])), (.int .i64 3, .v (.func (.func 49) #[] #[])), (.int .i64 4, .v (.func (.func 50) #[] #[])), (.int .i64 5, .v (.func (.func 51) #[] #[]))])] ∧ n = 1) := by
  unfold cell_does at h
  refine spec_of (draw_ok _) Try.func42 rfl (by decide) rfl (by kernel_rfl) ?_
  refine seq_np ?_
  refine reg_f ?_
  refine rs 1 [] [] (by kernel_rfl) allP_nil ?_
  refine rf [] [] 0 (by kernel_rfl) ?_
  refine wk_id ?_
  refine seq_np ?_
  refine reg_f ?_
  refine rs 8 [none, some ⟨.any, [(0, .map [(.int .i64 1, .v (.func (.func 47) #[] #[]))])], 1, [0]⟩, some ⟨.any, [(0, .map [(.int .i64 1, .v (.func (.func 47) #[] #[])), (.int .i64 2, .v (.func (.func 48) #[] #[]))])], 1, [0]⟩, some ⟨.any, [(0, .map [(.int .i64 1, .v (.func (.func 47) #[] #[])), (.int .i64 2, .v (.func (.func 48) #[] #[])), (.int .i64 3, .v (.func (.func 49) #[] #[]))])], 1, [0]⟩, some ⟨.any, [(0, .map [(.int .i64 1, .v (.func (.func 47) #[] #[])), (.int .i64 2, .v (.func (.func 48) #[] #[])), (.int .i64 3, .v (.func (.func 49) #[] #[])), (.int .i64 4, .v (.func (.func 50) #[] #[]))])], 1, [0]⟩, some ⟨.any, [(0, .map [(.int .i64 1, .v (.func (.func 47) #[] #[])), (.int .i64 2, .v (.func (.func 48) #[] #[])), (.int .i64 3, .v (.func (.func 49) #[] #[])), (.int .i64 4, .v (.func (.func 50) #[] #[])), (.int .i64 5, .v (.func (.func 51) #[] #[]))])], 1, [0]⟩] _ (by kernel_rfl) (allP_cons (ob_insL (.int .i64) (.int .i64 5) (.v (.func (.func 51) #[] #[])) [(.int .i64 1, .v (.func (.func 47) #[] #[])), (.int .i64 2, .v (.func (.func 48) #[] #[])), (.int .i64 3, .v (.func (.func 49) #[] #[])), (.int .i64 4, .v (.func (.func 50) #[] #[]))] [(.int .i64 1, .v (.func (.func 47) #[] #[])), (.int .i64 2, .v (.func (.func 48) #[] #[])), (.int .i64 3, .v (.func (.func 49) #[] #[])), (.int .i64 4, .v (.func (.func 50) #[] #[])), (.int .i64 5, .v (.func (.func 51) #[] #[]))] 0 1 rfl rfl rfl) (allP_cons (ob_insL (.int .i64) (.int .i64 4) (.v (.func (.func 50) #[] #[])) [(.int .i64 1, .v (.func (.func 47) #[] #[])), (.int .i64 2, .v (.func (.func 48) #[] #[])), (.int .i64 3, .v (.func (.func 49) #[] #[]))] [(.int .i64 1, .v (.func (.func 47) #[] #[])), (.int .i64 2, .v (.func (.func 48) #[] #[])), (.int .i64 3, .v (.func (.func 49) #[] #[])), (.int .i64 4, .v (.func (.func 50) #[] #[]))] 0 1 rfl rfl rfl) (allP_cons (ob_insL (.int .i64) (.int .i64 3) (.v (.func (.func 49) #[] #[])) [(.int .i64 1, .v (.func (.func 47) #[] #[])), (.int .i64 2, .v (.func (.func 48) #[] #[]))] [(.int .i64 1, .v (.func (.func 47) #[] #[])), (.int .i64 2, .v (.func (.func 48) #[] #[])), (.int .i64 3, .v (.func (.func 49) #[] #[]))] 0 1 rfl rfl rfl) (allP_cons (ob_insL (.int .i64) (.int .i64 2) (.v (.func (.func 48) #[] #[])) [(.int .i64 1, .v (.func (.func 47) #[] #[]))] [(.int .i64 1, .v (.func (.func 47) #[] #[])), (.int .i64 2, .v (.func (.func 48) #[] #[]))] 0 1 rfl rfl rfl) (allP_cons (ob_insL (.int .i64) (.int .i64 1) (.v (.func (.func 47) #[] #[])) [] [(.int .i64 1, .v (.func (.func 47) #[] #[]))] 0 1 rfl rfl rfl) allP_nil))))) ?_
  refine rf [(0, .mp 0)] [(0, .map [(.int .i64 1, .v (.func (.func 47) #[] #[])), (.int .i64 2, .v (.func (.func 48) #[] #[])), (.int .i64 3, .v (.func (.func 49) #[] #[])), (.int .i64 4, .v (.func (.func 50) #[] #[])), (.int .i64 5, .v (.func (.func 51) #[] #[]))])] 1 (by kernel_rfl) ?_
  refine wk_id ?_
  obtain rfl := Option.some.inj h
  refine ret_at (.mp 0) (by kernel_rfl) ?_
  exact ret_e [(0, 0)] [] (by simp only [push_cast, seval]) (by simp only [push_cast, seval]) rfl rfl rfl

set_option maxRecDepth 100000 in
set_option maxHeartbeats 200000000 in
theorem cell_does_1_spec (cp : Int) (xa : Int) (b : Int) (c0 : (List Int)) (r : Int × (List Int)) (h : cell_does_1 cp xa b c0 = some r) : SpecW Try.prog 47 [.ptr 0 (0 + (cp).toNat * 1), iS xa, iS b] [(0, .row 3 (fl c0))] 1 (fun x h n => x = iS r.1 ∧ h = [(0, .row 3 (fl r.2))] ∧ n = 1) := by
  unfold cell_does_1 at h
  refine spec_of (draw_ok _) Try.func47 rfl (by decide) rfl (by kernel_rfl) ?_
  refine chk_sx h (fun g203 h => ?_)
  have k202 : 0 ≤ cp ∧ cp < ((c0.length : Nat) : Int) := of_decide_eq_true g203
  refine seq_np ?_
  refine reg_f ?_
  refine rs 1 [] [] (by kernel_rfl) allP_nil ?_
  refine rf [(0, .ptr 0 (0 + (cp).toNat * 1))] [(0, .row 3 (fl c0))] 1 (by kernel_rfl) ?_
  refine wk_id ?_
  refine seq_np ?_
  refine reg_f ?_
  refine rs 4 [none, none, some ⟨iS (ix c0 cp), [], 1, [0]⟩] _ (by kernel_rfl) (allP_cons (ob_ld c0 cp 1 0 (0 + (cp).toNat * 1) k202 rfl (by decide) (by first | rfl | omega) (dflS Try.prog 3) (iS (ix c0 cp)) rfl 1 [0]) allP_nil) ?_
  refine rf [(6, iS (ix c0 cp))] [(0, .row 3 (fl c0))] 1 (by kernel_rfl) ?_
  refine wk_id ?_
  obtain rfl := Option.some.inj h
  refine ret_at (iS (ix c0 cp)) (by kernel_rfl) ?_
  exact ret_e [(0, 0)] [] (by simp only [push_cast, seval]) (by simp only [push_cast, seval]) rfl rfl rfl

set_option maxRecDepth 100000 in
set_option maxHeartbeats 200000000 in
theorem cell_does_2_spec (cp : Int) (xa : Int) (b : Int) (c0 : (List Int)) (r : Int × (List Int)) (h : cell_does_2 cp xa b c0 = some r) : SpecW Try.prog 48 [.ptr 0 (0 + (cp).toNat * 1), iS xa, iS b] [(0, .row 3 (fl c0))] 1 (fun x h n => x = iS r.1 ∧ h = [(0, .row 3 (fl r.2))] ∧ n = 1) := by
  unfold cell_does_2 at h
  refine spec_of (draw_ok _) Try.func48 rfl (by decide) rfl (by kernel_rfl) ?_
  refine chk_sx h (fun g212 h => ?_)
  have k211 : 0 ≤ cp ∧ cp < ((c0.length : Nat) : Int) := of_decide_eq_true g212
  refine seq_np ?_
  refine reg_f ?_
  refine rs 1 [] [] (by kernel_rfl) allP_nil ?_
  refine rf [(0, .ptr 0 (0 + (cp).toNat * 1)), (1, iS xa)] [(0, .row 3 (fl c0))] 1 (by kernel_rfl) ?_
  refine wk_id ?_
  refine seq_np ?_
  refine reg_f ?_
  refine rs 4 [none, none, none, some ⟨.any, [(0, .row 3 (fl (c0.set cp.toNat xa)))], 1, [0]⟩] _ (by kernel_rfl) (allP_cons (ob_st (P := Try.prog) c0 cp 1 0 (0 + (cp).toNat * 1) k211 rfl [iS xa] xa (Nat.le_of_ble_eq_true rfl) (by first | rfl | omega) rfl 0 1 3 3 (by kernel_rfl) rfl) allP_nil) ?_
  refine rf [] [(0, .row 3 (fl (c0.set cp.toNat xa)))] 1 (by kernel_rfl) ?_
  refine wk_id ?_
  refine seq_np ?_
  refine reg_f ?_
  refine rs 1 [] [] (by kernel_rfl) allP_nil ?_
  refine rf [(6, iS 0)] [(0, .row 3 (fl (c0.set cp.toNat xa)))] 1 (by kernel_rfl) ?_
  refine wk_id ?_
  obtain rfl := Option.some.inj h
  refine ret_at (iS 0) (by kernel_rfl) ?_
  exact ret_e [(0, 0)] [] (by simp only [push_cast, seval]) (by simp only [push_cast, seval]) rfl rfl rfl

set_option maxRecDepth 100000 in
set_option maxHeartbeats 200000000 in
theorem cell_does_3_spec (cp : Int) (xa : Int) (b : Int) (c0 : (List Int)) (r : Int × (List Int)) (h : cell_does_3 cp xa b c0 = some r) : SpecW Try.prog 49 [.ptr 0 (0 + (cp).toNat * 1), iS xa, iS b] [(0, .row 3 (fl c0))] 1 (fun x h n => x = iS r.1 ∧ h = [(0, .row 3 (fl r.2))] ∧ n = 1) := by
  unfold cell_does_3 at h
  refine spec_of (draw_ok _) Try.func49 rfl (by decide) rfl (by kernel_rfl) ?_
  refine chk_sx h (fun g221 h => ?_)
  have k220 : 0 ≤ cp ∧ cp < ((c0.length : Nat) : Int) := of_decide_eq_true g221
  refine seq_np ?_
  refine reg_f ?_
  refine rs 1 [] [] (by kernel_rfl) allP_nil ?_
  refine rf [(0, .ptr 0 (0 + (cp).toNat * 1)), (1, iS xa)] [(0, .row 3 (fl c0))] 1 (by kernel_rfl) ?_
  refine wk_id ?_
  refine seq_np ?_
  refine reg_f ?_
  refine rs 7 [none, none, some ⟨iS (ix c0 cp), [], 1, [0]⟩, none, none, none, some ⟨.any, [(0, .row 3 (fl (c0.set cp.toNat (IntKind.i64.wrap ((ix c0 cp) + xa)))))], 1, [0]⟩] _ (by kernel_rfl) (allP_cons (ob_st (P := Try.prog) c0 cp 1 0 (0 + (cp).toNat * 1) k220 rfl [iS (IntKind.i64.wrap ((ix c0 cp) + xa))] (IntKind.i64.wrap ((ix c0 cp) + xa)) (Nat.le_of_ble_eq_true rfl) (by first | rfl | omega) rfl 0 1 3 3 (by kernel_rfl) rfl) (allP_cons (ob_ld c0 cp 1 0 (0 + (cp).toNat * 1) k220 rfl (by decide) (by first | rfl | omega) (dflS Try.prog 3) (iS (ix c0 cp)) rfl 1 [0]) allP_nil)) ?_
  refine rf [(0, .ptr 0 (0 + (cp).toNat * 1))] [(0, .row 3 (fl (c0.set cp.toNat (IntKind.i64.wrap ((ix c0 cp) + xa)))))] 1 (by kernel_rfl) ?_
  refine wk_id ?_
  refine seq_np ?_
  refine reg_f ?_
  refine rs 4 [none, none, some ⟨iS (ix (c0.set cp.toNat (IntKind.i64.wrap ((ix c0 cp) + xa))) cp), [], 1, [0]⟩] _ (by kernel_rfl) (allP_cons (ob_ld (c0.set cp.toNat (IntKind.i64.wrap ((ix c0 cp) + xa))) cp 1 0 (0 + (cp).toNat * 1) (by rw [List.length_set]; exact k220) rfl (by decide) (by first | rfl | omega) (dflS Try.prog 3) (iS (ix (c0.set cp.toNat (IntKind.i64.wrap ((ix c0 cp) + xa))) cp)) rfl 1 [0]) allP_nil) ?_
  refine rf [(6, iS (ix (c0.set cp.toNat (IntKind.i64.wrap ((ix c0 cp) + xa))) cp))] [(0, .row 3 (fl (c0.set cp.toNat (IntKind.i64.wrap ((ix c0 cp) + xa)))))] 1 (by kernel_rfl) ?_
  refine wk_id ?_
  obtain rfl := Option.some.inj h
  refine ret_at (iS (ix (c0.set cp.toNat (IntKind.i64.wrap ((ix c0 cp) + xa))) cp)) (by kernel_rfl) ?_
  exact ret_e [(0, 0)] [] (by simp only [push_cast, seval]) (by simp only [push_cast, seval]) rfl rfl rfl

set_option maxRecDepth 100000 in
set_option maxHeartbeats 200000000 in
theorem cell_does_4_spec (cp : Int) (xa : Int) (b : Int) (c0 : (List Int)) (r : Int × (List Int)) (h : cell_does_4 cp xa b c0 = some r) : SpecW Try.prog 50 [.ptr 0 (0 + (cp).toNat * 1), iS xa, iS b] [(0, .row 3 (fl c0))] 1 (fun x h n => x = iS r.1 ∧ h = [(0, .row 3 (fl r.2))] ∧ n = 1) := by
  unfold cell_does_4 at h
  refine spec_of (draw_ok _) Try.func50 rfl (by decide) rfl (by kernel_rfl) ?_
  refine chk_sx h (fun g230 h => ?_)
  have k229 : 0 ≤ cp ∧ cp < ((c0.length : Nat) : Int) := of_decide_eq_true g230
  refine seq_np ?_
  refine reg_f ?_
  refine rs 1 [] [] (by kernel_rfl) allP_nil ?_
  refine rf [(0, .ptr 0 (0 + (cp).toNat * 1)), (1, iS xa)] [(0, .row 3 (fl c0))] 1 (by kernel_rfl) ?_
  refine wk_id ?_
  refine seq_np ?_
  refine reg_f ?_
  refine rs 4 [none, none, some ⟨iS (ix c0 cp), [], 1, [0]⟩] _ (by kernel_rfl) (allP_cons (ob_ld c0 cp 1 0 (0 + (cp).toNat * 1) k229 rfl (by decide) (by first | rfl | omega) (dflS Try.prog 3) (iS (ix c0 cp)) rfl 1 [0]) allP_nil) ?_
  refine rf [(0, .ptr 0 (0 + (cp).toNat * 1)), (1, iS xa), (7, iS (ix c0 cp))] [(0, .row 3 (fl c0))] 1 (by kernel_rfl) ?_
  refine wk_id ?_
  refine seq_np ?_
  refine reg_f ?_
  refine rs 4 [none, none, none, some ⟨.any, [(0, .row 3 (fl (c0.set cp.toNat xa)))], 1, [0]⟩] _ (by kernel_rfl) (allP_cons (ob_st (P := Try.prog) c0 cp 1 0 (0 + (cp).toNat * 1) k229 rfl [iS xa] xa (Nat.le_of_ble_eq_true rfl) (by first | rfl | omega) rfl 0 1 3 3 (by kernel_rfl) rfl) allP_nil) ?_
  refine rf [(7, iS (ix c0 cp))] [(0, .row 3 (fl (c0.set cp.toNat xa)))] 1 (by kernel_rfl) ?_
  refine wk_id ?_
  refine seq_np ?_
  refine reg_f ?_
  refine rs 2 [] [] (by kernel_rfl) allP_nil ?_
  refine rf [(6, iS (ix c0 cp))] [(0, .row 3 (fl (c0.set cp.toNat xa)))] 1 (by kernel_rfl) ?_
  refine wk_id ?_
  obtain rfl := Option.some.inj h
  refine ret_at (iS (ix c0 cp)) (by kernel_rfl) ?_
  exact ret_e [(0, 0)] [] (by simp only [push_cast, seval]) (by simp only [push_cast, seval]) rfl rfl rfl

set_option maxRecDepth 100000 in
set_option maxHeartbeats 200000000 in
theorem cell_does_5_spec (cp : Int) (xa : Int) (b : Int) (c0 : (List Int)) (r : Int × (List Int)) (h : cell_does_5 cp xa b c0 = some r) : SpecW Try.prog 51 [.ptr 0 (0 + (cp).toNat * 1), iS xa, iS b] [(0, .row 3 (fl c0))] 1 (fun x h n => x = iS r.1 ∧ h = [(0, .row 3 (fl r.2))] ∧ n = 1) := by
  unfold cell_does_5 at h
  refine spec_of (draw_ok _) Try.func51 rfl (by decide) rfl (by kernel_rfl) ?_
  refine chk_sx h (fun g239 h => ?_)
  have k238 : 0 ≤ cp ∧ cp < ((c0.length : Nat) : Int) := of_decide_eq_true g239
  refine seq_np ?_
  refine reg_f ?_
  refine rs 1 [] [] (by kernel_rfl) allP_nil ?_
  refine rf [(0, .ptr 0 (0 + (cp).toNat * 1)), (1, iS xa), (2, iS b)] [(0, .row 3 (fl c0))] 1 (by kernel_rfl) ?_
  refine wk_id ?_
  refine seq_np ?_
  refine seq_np ?_
  refine reg_f ?_
  refine rs 5 [none, none, some ⟨iS (ix c0 cp), [], 1, [0]⟩] _ (by kernel_rfl) (allP_cons (ob_ld c0 cp 1 0 (0 + (cp).toNat * 1) k238 rfl (by decide) (by first | rfl | omega) (dflS Try.prog 3) (iS (ix c0 cp)) rfl 1 [0]) allP_nil) ?_
  refine rf [(0, .ptr 0 (0 + (cp).toNat * 1)), (2, iS b), (11, bS ((ix c0 cp) != xa))] [(0, .row 3 (fl c0))] 1 (by kernel_rfl) ?_
  refine wk_id ?_
  refine cond_sx h (by kernel_rfl) (fun g242 h => ?_) (fun g242 h => ?_)
  · refine seq_np ?_
    refine reg_f ?_
    refine rs 1 [] [] (by kernel_rfl) allP_nil ?_
    refine rf [(6, iS 0)] [(0, .row 3 (fl c0))] 1 (by kernel_rfl) ?_
    refine wk_id ?_
    obtain rfl := Option.some.inj h
    refine ret_at (iS 0) (by kernel_rfl) ?_
    exact ret_e [(0, 0)] [] (by simp only [push_cast, seval]) (by simp only [push_cast, seval]) rfl rfl rfl
  · refine wk_id ?_
    refine seq_np ?_
    refine reg_f ?_
    refine rs 4 [none, none, none, some ⟨.any, [(0, .row 3 (fl (c0.set cp.toNat b)))], 1, [0]⟩] _ (by kernel_rfl) (allP_cons (ob_st (P := Try.prog) c0 cp 1 0 (0 + (cp).toNat * 1) k238 rfl [iS b] b (Nat.le_of_ble_eq_true rfl) (by first | rfl | omega) rfl 0 1 3 3 (by kernel_rfl) rfl) allP_nil) ?_
    refine rf [] [(0, .row 3 (fl (c0.set cp.toNat b)))] 1 (by kernel_rfl) ?_
    refine wk_id ?_
    refine seq_np ?_
    refine reg_f ?_
    refine rs 1 [] [] (by kernel_rfl) allP_nil ?_
    refine rf [(6, iS 1)] [(0, .row 3 (fl (c0.set cp.toNat b)))] 1 (by kernel_rfl) ?_
    refine wk_id ?_
    obtain rfl := Option.some.inj h
    refine ret_at (iS 1) (by kernel_rfl) ?_
    exact ret_e [(0, 0)] [] (by simp only [push_cast, seval]) (by simp only [push_cast, seval]) rfl rfl rfl

set_option maxRecDepth 100000 in
set_option maxHeartbeats 200000000 in
theorem cell_Do_1_spec (xo : GOp) (c0 : (List Int)) (r : Int × (List Int)) (h : cell_Do_1 xo c0 = some r) : SpecW Try.prog 33 [.own 0 0 c0.length, .agg (Enc.cells xo)] [(0, .row 3 (fl c0))] 1 (fun x h n => x = iS r.1 ∧ h = [(0, .row 3 (fl r.2))] ∧ n = 1) := by
  unfold cell_Do_1 at h
  refine spec_of (draw_ok _) Try.func33 rfl (by decide) rfl (by kernel_rfl) ?_
  refine seq_np ?_
  refine reg_f ?_
  refine rs 2 [] [] (by kernel_rfl) allP_nil ?_
  refine rf [(0, .own 0 0 c0.length), (3, .ptr 1 0)] [(0, .row 3 (fl c0)), (1, .row 50 (Enc.cells xo))] 2 (by kernel_rfl) ?_
  refine wk_id ?_
  refine split_s h (fun g247 h => ?_) (fun g248 h => ?_)
  · refine seq_np ?_
    refine reg_t ?_
    obtain ⟨r254, hr254, h⟩ := bind_sx h
    refine call_x (cell_does_spec r254 hr254) (args := []) (dst := (some 5)) (by kernel_rfl) [(0, .row 3 (fl c0)), (1, .row 50 (Enc.cells xo))] 2 (by kernel_rfl) [] [] (.mp 2) [(2, .map [(.int .i64 1, .v (.func (.func 47) #[] #[])), (.int .i64 2, .v (.func (.func 48) #[] #[])), (.int .i64 3, .v (.func (.func 49) #[] #[])), (.int .i64 4, .v (.func (.func 50) #[] #[])), (.int .i64 5, .v (.func (.func 51) #[] #[]))])] (by simp only [push_cast, seval]) (by simp only [push_cast, seval]) (by kernel_rfl) (.inl rfl) (by simp only [push_cast, seval]) (by simp only [push_cast, seval]) ?_
    refine rs 2 [] [] (by kernel_rfl) allP_nil ?_
    refine run_at 7 .i64 xo.Kind 1 g247 (by kernel_rfl) ?_
    refine chk_sx h (fun g256 h => ?_)
    have k255 : 0 ≤ xo.At ∧ xo.At < ((c0.length : Nat) : Int) := by first | simpa only [Bool.and_eq_true, decide_eq_true_eq, bne_iff_ne, ne_eq] using g256 | (simp at g256 ⊢; omega)
    refine rs 9 [some ⟨.v (.func (.func 47) #[] #[]), [], 6, [2]⟩, none, none, none, some ⟨.ptr 0 (0 + (xo.At).toNat * 1), [], 10, [0]⟩] _ (by kernel_rfl) (allP_cons (ob_ix_o 0 c0.length 0 1 10 xo.At k255) (allP_cons (ob_lookL (.int .i64) (.int .i64 1) (.v (.func (.func 47) #[] #[])) [(.int .i64 1, .v (.func (.func 47) #[] #[])), (.int .i64 2, .v (.func (.func 48) #[] #[])), (.int .i64 3, .v (.func (.func 49) #[] #[])), (.int .i64 4, .v (.func (.func 50) #[] #[])), (.int .i64 5, .v (.func (.func 51) #[] #[]))] 2 6 rfl rfl) allP_nil)) ?_
    obtain ⟨r257, hr257, h⟩ := bind_sx h
    refine call_x (cell_does_1_spec xo.At xo.A xo.B c0 r257 hr257) (args := [.ptr 0 (0 + (xo.At).toNat * 1), iS xo.A, iS xo.B]) (dst := (some 17)) (by kernel_rfl) [(0, .row 3 (fl c0)), (1, .row 50 (Enc.cells xo)), (2, .map [(.int .i64 1, .v (.func (.func 47) #[] #[])), (.int .i64 2, .v (.func (.func 48) #[] #[])), (.int .i64 3, .v (.func (.func 49) #[] #[])), (.int .i64 4, .v (.func (.func 50) #[] #[])), (.int .i64 5, .v (.func (.func 51) #[] #[]))])] 15 (by kernel_rfl) [(0, 0)] [] (iS r257.1) [(0, .row 3 (fl r257.2)), (0, .dead)] (by simp only [push_cast, seval]) (by simp only [push_cast, seval]) (by kernel_rfl) (.inl rfl) (by simp only [push_cast, seval]) (by simp only [push_cast, seval]) ?_
    refine rs 1 [] [] (by kernel_rfl) allP_nil ?_
    refine rt [(4, iS r257.1)] [(0, .row 3 (fl r257.2)), (1, .row 50 (Enc.cells xo)), (2, .map [(.int .i64 1, .v (.func (.func 47) #[] #[])), (.int .i64 2, .v (.func (.func 48) #[] #[])), (.int .i64 3, .v (.func (.func 49) #[] #[])), (.int .i64 4, .v (.func (.func 50) #[] #[])), (.int .i64 5, .v (.func (.func 51) #[] #[]))])] 18 follows (by kernel_rfl) ?_
    refine wk_id ?_
    obtain rfl := Option.some.inj h
    refine ret_at (iS r257.1) (by kernel_rfl) ?_
    exact ret_e [(0, 0)] [] (by simp only [push_cast, seval]) (by simp only [push_cast, seval]) rfl rfl rfl
  refine split_s h (fun g259 h => ?_) (fun g260 h => ?_)
  · refine seq_np ?_
    refine reg_t ?_
    obtain ⟨r266, hr266, h⟩ := bind_sx h
    refine call_x (cell_does_spec r266 hr266) (args := []) (dst := (some 5)) (by kernel_rfl) [(0, .row 3 (fl c0)), (1, .row 50 (Enc.cells xo))] 2 (by kernel_rfl) [] [] (.mp 2) [(2, .map [(.int .i64 1, .v (.func (.func 47) #[] #[])), (.int .i64 2, .v (.func (.func 48) #[] #[])), (.int .i64 3, .v (.func (.func 49) #[] #[])), (.int .i64 4, .v (.func (.func 50) #[] #[])), (.int .i64 5, .v (.func (.func 51) #[] #[]))])] (by simp only [push_cast, seval]) (by simp only [push_cast, seval]) (by kernel_rfl) (.inl rfl) (by simp only [push_cast, seval]) (by simp only [push_cast, seval]) ?_
    refine rs 2 [] [] (by kernel_rfl) allP_nil ?_
    refine run_at 7 .i64 xo.Kind 2 g259 (by kernel_rfl) ?_
    refine chk_sx h (fun g268 h => ?_)
    have k267 : 0 ≤ xo.At ∧ xo.At < ((c0.length : Nat) : Int) := by first | simpa only [Bool.and_eq_true, decide_eq_true_eq, bne_iff_ne, ne_eq] using g268 | (simp at g268 ⊢; omega)
    refine rs 9 [some ⟨.v (.func (.func 48) #[] #[]), [], 6, [2]⟩, none, none, none, some ⟨.ptr 0 (0 + (xo.At).toNat * 1), [], 10, [0]⟩] _ (by kernel_rfl) (allP_cons (ob_ix_o 0 c0.length 0 1 10 xo.At k267) (allP_cons (ob_lookL (.int .i64) (.int .i64 2) (.v (.func (.func 48) #[] #[])) [(.int .i64 1, .v (.func (.func 47) #[] #[])), (.int .i64 2, .v (.func (.func 48) #[] #[])), (.int .i64 3, .v (.func (.func 49) #[] #[])), (.int .i64 4, .v (.func (.func 50) #[] #[])), (.int .i64 5, .v (.func (.func 51) #[] #[]))] 2 6 rfl rfl) allP_nil)) ?_
    obtain ⟨r269, hr269, h⟩ := bind_sx h
    refine call_x (cell_does_2_spec xo.At xo.A xo.B c0 r269 hr269) (args := [.ptr 0 (0 + (xo.At).toNat * 1), iS xo.A, iS xo.B]) (dst := (some 17)) (by kernel_rfl) [(0, .row 3 (fl c0)), (1, .row 50 (Enc.cells xo)), (2, .map [(.int .i64 1, .v (.func (.func 47) #[] #[])), (.int .i64 2, .v (.func (.func 48) #[] #[])), (.int .i64 3, .v (.func (.func 49) #[] #[])), (.int .i64 4, .v (.func (.func 50) #[] #[])), (.int .i64 5, .v (.func (.func 51) #[] #[]))])] 15 (by kernel_rfl) [(0, 0)] [] (iS r269.1) [(0, .row 3 (fl r269.2)), (0, .dead)] (by simp only [push_cast, seval]) (by simp only [push_cast, seval]) (by kernel_rfl) (.inl rfl) (by simp only [push_cast, seval]) (by simp only [push_cast, seval]) ?_
    refine rs 1 [] [] (by kernel_rfl) allP_nil ?_
    refine rt [(4, iS r269.1)] [(0, .row 3 (fl r269.2)), (1, .row 50 (Enc.cells xo)), (2, .map [(.int .i64 1, .v (.func (.func 47) #[] #[])), (.int .i64 2, .v (.func (.func 48) #[] #[])), (.int .i64 3, .v (.func (.func 49) #[] #[])), (.int .i64 4, .v (.func (.func 50) #[] #[])), (.int .i64 5, .v (.func (.func 51) #[] #[]))])] 18 follows (by kernel_rfl) ?_
    refine wk_id ?_
    obtain rfl := Option.some.inj h
    refine ret_at (iS r269.1) (by kernel_rfl) ?_
    exact ret_e [(0, 0)] [] (by simp only [push_cast, seval]) (by simp only [push_cast, seval]) rfl rfl rfl
  refine split_s h (fun g271 h => ?_) (fun g272 h => ?_)
  · refine seq_np ?_
    refine reg_t ?_
    obtain ⟨r278, hr278, h⟩ := bind_sx h
    refine call_x (cell_does_spec r278 hr278) (args := []) (dst := (some 5)) (by kernel_rfl) [(0, .row 3 (fl c0)), (1, .row 50 (Enc.cells xo))] 2 (by kernel_rfl) [] [] (.mp 2) [(2, .map [(.int .i64 1, .v (.func (.func 47) #[] #[])), (.int .i64 2, .v (.func (.func 48) #[] #[])), (.int .i64 3, .v (.func (.func 49) #[] #[])), (.int .i64 4, .v (.func (.func 50) #[] #[])), (.int .i64 5, .v (.func (.func 51) #[] #[]))])] (by simp only [push_cast, seval]) (by simp only [push_cast, seval]) (by kernel_rfl) (.inl rfl) (by simp only [push_cast, seval]) (by simp only [push_cast, seval]) ?_
    refine rs 2 [] [] (by kernel_rfl) allP_nil ?_
    refine run_at 7 .i64 xo.Kind 3 g271 (by kernel_rfl) ?_
    refine chk_sx h (fun g280 h => ?_)
    have k279 : 0 ≤ xo.At ∧ xo.At < ((c0.length : Nat) : Int) := by first | simpa only [Bool.and_eq_true, decide_eq_true_eq, bne_iff_ne, ne_eq] using g280 | (simp at g280 ⊢; omega)
    refine rs 9 [some ⟨.v (.func (.func 49) #[] #[]), [], 6, [2]⟩, none, none, none, some ⟨.ptr 0 (0 + (xo.At).toNat * 1), [], 10, [0]⟩] _ (by kernel_rfl) (allP_cons (ob_ix_o 0 c0.length 0 1 10 xo.At k279) (allP_cons (ob_lookL (.int .i64) (.int .i64 3) (.v (.func (.func 49) #[] #[])) [(.int .i64 1, .v (.func (.func 47) #[] #[])), (.int .i64 2, .v (.func (.func 48) #[] #[])), (.int .i64 3, .v (.func (.func 49) #[] #[])), (.int .i64 4, .v (.func (.func 50) #[] #[])), (.int .i64 5, .v (.func (.func 51) #[] #[]))] 2 6 rfl rfl) allP_nil)) ?_
    obtain ⟨r281, hr281, h⟩ := bind_sx h
    refine call_x (cell_does_3_spec xo.At xo.A xo.B c0 r281 hr281) (args := [.ptr 0 (0 + (xo.At).toNat * 1), iS xo.A, iS xo.B]) (dst := (some 17)) (by kernel_rfl) [(0, .row 3 (fl c0)), (1, .row 50 (Enc.cells xo)), (2, .map [(.int .i64 1, .v (.func (.func 47) #[] #[])), (.int .i64 2, .v (.func (.func 48) #[] #[])), (.int .i64 3, .v (.func (.func 49) #[] #[])), (.int .i64 4, .v (.func (.func 50) #[] #[])), (.int .i64 5, .v (.func (.func 51) #[] #[]))])] 15 (by kernel_rfl) [(0, 0)] [] (iS r281.1) [(0, .row 3 (fl r281.2)), (0, .dead)] (by simp only [push_cast, seval]) (by simp only [push_cast, seval]) (by kernel_rfl) (.inl rfl) (by simp only [push_cast, seval]) (by simp only [push_cast, seval]) ?_
    refine rs 1 [] [] (by kernel_rfl) allP_nil ?_
    refine rt [(4, iS r281.1)] [(0, .row 3 (fl r281.2)), (1, .row 50 (Enc.cells xo)), (2, .map [(.int .i64 1, .v (.func (.func 47) #[] #[])), (.int .i64 2, .v (.func (.func 48) #[] #[])), (.int .i64 3, .v (.func (.func 49) #[] #[])), (.int .i64 4, .v (.func (.func 50) #[] #[])), (.int .i64 5, .v (.func (.func 51) #[] #[]))])] 18 follows (by kernel_rfl) ?_
    refine wk_id ?_
    obtain rfl := Option.some.inj h
    refine ret_at (iS r281.1) (by kernel_rfl) ?_
    exact ret_e [(0, 0)] [] (by simp only [push_cast, seval]) (by simp only [push_cast, seval]) rfl rfl rfl
  refine split_s h (fun g283 h => ?_) (fun g284 h => ?_)
  · refine seq_np ?_
    refine reg_t ?_
    obtain ⟨r290, hr290, h⟩ := bind_sx h
    refine call_x (cell_does_spec r290 hr290) (args := []) (dst := (some 5)) (by kernel_rfl) [(0, .row 3 (fl c0)), (1, .row 50 (Enc.cells xo))] 2 (by kernel_rfl) [] [] (.mp 2) [(2, .map [(.int .i64 1, .v (.func (.func 47) #[] #[])), (.int .i64 2, .v (.func (.func 48) #[] #[])), (.int .i64 3, .v (.func (.func 49) #[] #[])), (.int .i64 4, .v (.func (.func 50) #[] #[])), (.int .i64 5, .v (.func (.func 51) #[] #[]))])] (by simp only [push_cast, seval]) (by simp only [push_cast, seval]) (by kernel_rfl) (.inl rfl) (by simp only [push_cast, seval]) (by simp only [push_cast, seval]) ?_
    refine rs 2 [] [] (by kernel_rfl) allP_nil ?_
    refine run_at 7 .i64 xo.Kind 4 g283 (by kernel_rfl) ?_
    refine chk_sx h (fun g292 h => ?_)
    have k291 : 0 ≤ xo.At ∧ xo.At < ((c0.length : Nat) : Int) := by first | simpa only [Bool.and_eq_true, decide_eq_true_eq, bne_iff_ne, ne_eq] using g292 | (simp at g292 ⊢; omega)
    refine rs 9 [some ⟨.v (.func (.func 50) #[] #[]), [], 6, [2]⟩, none, none, none, some ⟨.ptr 0 (0 + (xo.At).toNat * 1), [], 10, [0]⟩] _ (by kernel_rfl) (allP_cons (ob_ix_o 0 c0.length 0 1 10 xo.At k291) (allP_cons (ob_lookL (.int .i64) (.int .i64 4) (.v (.func (.func 50) #[] #[])) [(.int .i64 1, .v (.func (.func 47) #[] #[])), (.int .i64 2, .v (.func (.func 48) #[] #[])), (.int .i64 3, .v (.func (.func 49) #[] #[])), (.int .i64 4, .v (.func (.func 50) #[] #[])), (.int .i64 5, .v (.func (.func 51) #[] #[]))] 2 6 rfl rfl) allP_nil)) ?_
    obtain ⟨r293, hr293, h⟩ := bind_sx h
    refine call_x (cell_does_4_spec xo.At xo.A xo.B c0 r293 hr293) (args := [.ptr 0 (0 + (xo.At).toNat * 1), iS xo.A, iS xo.B]) (dst := (some 17)) (by kernel_rfl) [(0, .row 3 (fl c0)), (1, .row 50 (Enc.cells xo)), (2, .map [(.int .i64 1, .v (.func (.func 47) #[] #[])), (.int .i64 2, .v (.func (.func 48) #[] #[])), (.int .i64 3, .v (.func (.func 49) #[] #[])), (.int .i64 4, .v (.func (.func 50) #[] #[])), (.int .i64 5, .v (.func (.func 51) #[] #[]))])] 15 (by kernel_rfl) [(0, 0)] [] (iS r293.1) [(0, .row 3 (fl r293.2)), (0, .dead)] (by simp only [push_cast, seval]) (by simp only [push_cast, seval]) (by kernel_rfl) (.inl rfl) (by simp only [push_cast, seval]) (by simp only [push_cast, seval]) ?_
    refine rs 1 [] [] (by kernel_rfl) allP_nil ?_
    refine rt [(4, iS r293.1)] [(0, .row 3 (fl r293.2)), (1, .row 50 (Enc.cells xo)), (2, .map [(.int .i64 1, .v (.func (.func 47) #[] #[])), (.int .i64 2, .v (.func (.func 48) #[] #[])), (.int .i64 3, .v (.func (.func 49) #[] #[])), (.int .i64 4, .v (.func (.func 50) #[] #[])), (.int .i64 5, .v (.func (.func 51) #[] #[]))])] 18 follows (by kernel_rfl) ?_
    refine wk_id ?_
    obtain rfl := Option.some.inj h
    refine ret_at (iS r293.1) (by kernel_rfl) ?_
    exact ret_e [(0, 0)] [] (by simp only [push_cast, seval]) (by simp only [push_cast, seval]) rfl rfl rfl
  refine split_s h (fun g295 h => ?_) (fun g296 h => ?_)
  · refine seq_np ?_
    refine reg_t ?_
    obtain ⟨r302, hr302, h⟩ := bind_sx h
    refine call_x (cell_does_spec r302 hr302) (args := []) (dst := (some 5)) (by kernel_rfl) [(0, .row 3 (fl c0)), (1, .row 50 (Enc.cells xo))] 2 (by kernel_rfl) [] [] (.mp 2) [(2, .map [(.int .i64 1, .v (.func (.func 47) #[] #[])), (.int .i64 2, .v (.func (.func 48) #[] #[])), (.int .i64 3, .v (.func (.func 49) #[] #[])), (.int .i64 4, .v (.func (.func 50) #[] #[])), (.int .i64 5, .v (.func (.func 51) #[] #[]))])] (by simp only [push_cast, seval]) (by simp only [push_cast, seval]) (by kernel_rfl) (.inl rfl) (by simp only [push_cast, seval]) (by simp only [push_cast, seval]) ?_
    refine rs 2 [] [] (by kernel_rfl) allP_nil ?_
    refine run_at 7 .i64 xo.Kind 5 g295 (by kernel_rfl) ?_
    refine chk_sx h (fun g304 h => ?_)
    have k303 : 0 ≤ xo.At ∧ xo.At < ((c0.length : Nat) : Int) := by first | simpa only [Bool.and_eq_true, decide_eq_true_eq, bne_iff_ne, ne_eq] using g304 | (simp at g304 ⊢; omega)
    refine rs 9 [some ⟨.v (.func (.func 51) #[] #[]), [], 6, [2]⟩, none, none, none, some ⟨.ptr 0 (0 + (xo.At).toNat * 1), [], 10, [0]⟩] _ (by kernel_rfl) (allP_cons (ob_ix_o 0 c0.length 0 1 10 xo.At k303) (allP_cons (ob_lookL (.int .i64) (.int .i64 5) (.v (.func (.func 51) #[] #[])) [(.int .i64 1, .v (.func (.func 47) #[] #[])), (.int .i64 2, .v (.func (.func 48) #[] #[])), (.int .i64 3, .v (.func (.func 49) #[] #[])), (.int .i64 4, .v (.func (.func 50) #[] #[])), (.int .i64 5, .v (.func (.func 51) #[] #[]))] 2 6 rfl rfl) allP_nil)) ?_
    obtain ⟨r305, hr305, h⟩ := bind_sx h
    refine call_x (cell_does_5_spec xo.At xo.A xo.B c0 r305 hr305) (args := [.ptr 0 (0 + (xo.At).toNat * 1), iS xo.A, iS xo.B]) (dst := (some 17)) (by kernel_rfl) [(0, .row 3 (fl c0)), (1, .row 50 (Enc.cells xo)), (2, .map [(.int .i64 1, .v (.func (.func 47) #[] #[])), (.int .i64 2, .v (.func (.func 48) #[] #[])), (.int .i64 3, .v (.func (.func 49) #[] #[])), (.int .i64 4, .v (.func (.func 50) #[] #[])), (.int .i64 5, .v (.func (.func 51) #[] #[]))])] 15 (by kernel_rfl) [(0, 0)] [] (iS r305.1) [(0, .row 3 (fl r305.2)), (0, .dead)] (by simp only [push_cast, seval]) (by simp only [push_cast, seval]) (by kernel_rfl) (.inl rfl) (by simp only [push_cast, seval]) (by simp only [push_cast, seval]) ?_
    refine rs 1 [] [] (by kernel_rfl) allP_nil ?_
    refine rt [(4, iS r305.1)] [(0, .row 3 (fl r305.2)), (1, .row 50 (Enc.cells xo)), (2, .map [(.int .i64 1, .v (.func (.func 47) #[] #[])), (.int .i64 2, .v (.func (.func 48) #[] #[])), (.int .i64 3, .v (.func (.func 49) #[] #[])), (.int .i64 4, .v (.func (.func 50) #[] #[])), (.int .i64 5, .v (.func (.func 51) #[] #[]))])] 18 follows (by kernel_rfl) ?_
    refine wk_id ?_
    obtain rfl := Option.some.inj h
    refine ret_at (iS r305.1) (by kernel_rfl) ?_
    exact ret_e [(0, 0)] [] (by simp only [push_cast, seval]) (by simp only [push_cast, seval]) rfl rfl rfl
  refine seq_np ?_
  refine reg_t ?_
  obtain ⟨r308, hr308, h⟩ := bind_sx h
  refine call_x (cell_does_spec r308 hr308) (args := []) (dst := (some 5)) (by kernel_rfl) [(0, .row 3 (fl c0)), (1, .row 50 (Enc.cells xo))] 2 (by kernel_rfl) [] [] (.mp 2) [(2, .map [(.int .i64 1, .v (.func (.func 47) #[] #[])), (.int .i64 2, .v (.func (.func 48) #[] #[])), (.int .i64 3, .v (.func (.func 49) #[] #[])), (.int .i64 4, .v (.func (.func 50) #[] #[])), (.int .i64 5, .v (.func (.func 51) #[] #[]))])] (by simp only [push_cast, seval]) (by simp only [push_cast, seval]) (by kernel_rfl) (.inl rfl) (by simp only [push_cast, seval]) (by simp only [push_cast, seval]) ?_
  cases h

set_option maxRecDepth 100000 in
set_option maxHeartbeats 200000000 in
theorem taskmilllaw_cellBegun_spec (r : Bool) (h : taskmilllaw_cellBegun = some r) : SpecW Try.prog 10 [] [] 0 (fun x h n => x = bS r ∧ h = [] ∧ n = 0) := by
  unfold taskmilllaw_cellBegun at h
  obtain rfl := Option.some.inj h
  exact closed_call follows 10000 1000 (by kernel_rfl)

set_option maxRecDepth 100000 in
set_option maxHeartbeats 200000000 in
theorem taskmillref_Ints_spec (xa : (List Int)) (b : (List Int)) (r : Bool) (h : taskmillref_Ints xa b = some r) : SpecW Try.prog 24 [.sl xa.length (fl xa), .sl b.length (fl b)] [] 0 (fun x h n => x = bS r ∧ h = [] ∧ n = 0) := by
  unfold taskmillref_Ints at h
  refine spec_of (draw_ok _) Try.func24 rfl (by decide) rfl (by kernel_rfl) ?_
  refine seq_np ?_
  refine reg_f ?_
  refine rs 1 [] [] (by kernel_rfl) allP_nil ?_
  refine rf [(0, .sl xa.length (fl xa)), (1, .sl b.length (fl b))] [] 0 (by kernel_rfl) ?_
  refine wk_id ?_
  refine seq_np ?_
  refine seq_np ?_
  refine reg_f ?_
  refine rs 5 [] [] (by kernel_rfl) allP_nil ?_
  refine rf [(0, .sl xa.length (fl xa)), (1, .sl b.length (fl b)), (10, bS (((xa.length : Nat) : Int) != ((b.length : Nat) : Int)))] [] 0 (by kernel_rfl) ?_
  refine wk_id ?_
  refine cond_sx h (by kernel_rfl) (fun g782 h => ?_) (fun g782 h => ?_)
  · refine seq_np ?_
    refine reg_f ?_
    refine rs 1 [] [] (by kernel_rfl) allP_nil ?_
    refine rf [(4, bS false)] [] 0 (by kernel_rfl) ?_
    refine wk_id ?_
    obtain rfl := Option.some.inj h
    refine ret_at (bS false) (by kernel_rfl) ?_
    exact ret_e [] [] (by simp only [push_cast, seval]) (by simp only [push_cast, seval]) rfl rfl rfl
  · refine wk_id ?_
    refine seq_np ?_
    refine seq_np ?_
    refine reg_f ?_
    refine rs 1 [] [] (by kernel_rfl) allP_nil ?_
    refine rf [(0, .sl xa.length (fl xa)), (1, .sl b.length (fl b)), (5, iS 0)] [] 0 (by kernel_rfl) ?_
    refine wk_id ?_
    refine block_np ?_
    refine loop_sx (S := Int) (fun a => ([(0, .sl xa.length (fl xa)), (1, .sl b.length (fl b)), (5, iS a)], [], 0)) h (leSt_m [] [] (by simp only [push_cast, seval]) (by simp only [push_cast, seval]) rfl rfl rfl) ?_
    rintro i7 o2 R2 h hr2 hn2 hx2 ht2
    try dsimp only at h hn2 ⊢
    unfold taskmillref_Ints_l1 at h
    try dsimp only at h
    refine seq_np ?_
    refine seq_np ?_
    refine reg_f ?_
    refine rs 4 [] [] (by kernel_rfl) allP_nil ?_
    refine rf [(0, .sl xa.length (fl xa)), (1, .sl b.length (fl b)), (5, iS i7), (14, bS (decide (i7 < ((xa.length : Nat) : Int))))] [] 0 (by kernel_rfl) ?_
    refine wk_id ?_
    refine cond_sx h (by kernel_rfl) (fun g781 h => ?_) (fun g781 h => ?_)
    · refine wk_id ?_
      refine seq_np ?_
      refine block_np ?_
      refine chk_sx h (fun g777 h => ?_)
      refine chk_sx h (fun g779 h => ?_)
      refine seq_np ?_
      refine reg_t ?_
      have k776 : 0 ≤ i7 ∧ i7 < ((xa.length : Nat) : Int) := by first | simpa only [Bool.and_eq_true, decide_eq_true_eq, bne_iff_ne, ne_eq] using g777 | (simp at g777 ⊢; omega)
      have k778 : 0 ≤ i7 ∧ i7 < ((b.length : Nat) : Int) := by first | simpa only [Bool.and_eq_true, decide_eq_true_eq, bne_iff_ne, ne_eq] using g779 | (simp at g779 ⊢; omega)
      refine rs 9 [none, none, some ⟨.iptr (fl xa) ((i7).toNat * 1), [], 2, []⟩, some ⟨iS (ix xa i7), [], 3, []⟩, none, none, some ⟨.iptr (fl b) ((i7).toNat * 1), [], 6, []⟩, some ⟨iS (ix b i7), [], 7, []⟩] _ (by kernel_rfl) (allP_cons (ob_ld b i7 1 0 ((i7).toNat * 1) k778 rfl (by decide) (by first | rfl | omega) (dflS Try.prog 3) (iS (ix b i7)) rfl 7 []) (allP_cons (ob_ix_l b 1 6 i7 k778) (allP_cons (ob_ld xa i7 1 0 ((i7).toNat * 1) k776 rfl (by decide) (by first | rfl | omega) (dflS Try.prog 3) (iS (ix xa i7)) rfl 3 []) (allP_cons (ob_ix_l xa 1 2 i7 k776) allP_nil)))) ?_
      refine rt [(0, .sl xa.length (fl xa)), (1, .sl b.length (fl b)), (5, iS i7), (25, bS ((ix xa i7) != (ix b i7)))] [] 9 follows (by kernel_rfl) ?_
      refine wk_id ?_
      refine cond_sx h (by kernel_rfl) (fun g780 h => ?_) (fun g780 h => ?_)
      · refine seq_np ?_
        refine reg_f ?_
        refine rs 1 [] [] (by kernel_rfl) allP_nil ?_
        refine rf [(4, bS false)] [] 9 (by kernel_rfl) ?_
        refine wk_id ?_
        refine rt_cast ht2 ?_
        obtain ⟨r0, h, e0⟩ := map_sx h
        have e1 := hr2 r0 e0.symm
        subst r0
        obtain rfl := Option.some.inj h
        refine ret_at (bS false) (by kernel_rfl) ?_
        exact ret_e [] [] (by simp only [push_cast, seval]) (by simp only [push_cast, seval]) rfl rfl rfl
      · refine wk_id ?_
        refine wk_id ?_
        refine reg_f ?_
        refine rs 3 [] [] (by kernel_rfl) allP_nil ?_
        refine rf [(0, .sl xa.length (fl xa)), (1, .sl b.length (fl b)), (5, iS (IntKind.i64.wrap (i7 + 1)))] [] 9 (by kernel_rfl) ?_
        exact hn2 ((IntKind.i64.wrap (i7 + 1))) _ _ _ (Option.some.inj h).symm (leSt_m [] [] (by simp only [push_cast, seval]) (by simp only [push_cast, seval]) rfl rfl rfl)
    · change R2 (.exit 0) _ _ _
      refine ex_cast hx2 (id := 0) ?_
      obtain ⟨r0, h, e0⟩ := map_sx h
      have e1 := hr2 r0 e0.symm
      subst r0
      refine wk_id ?_
      refine wk_id ?_
      refine seq_np ?_
      refine reg_f ?_
      refine rs 1 [] [] (by kernel_rfl) allP_nil ?_
      refine rf [(4, bS true)] [] 0 (by kernel_rfl) ?_
      refine wk_id ?_
      obtain rfl := Option.some.inj h
      refine ret_at (bS true) (by kernel_rfl) ?_
      exact ret_e [] [] (by simp only [push_cast, seval]) (by simp only [push_cast, seval]) rfl rfl rfl

set_option maxRecDepth 100000 in
set_option maxHeartbeats 200000000 in
theorem cell_Mix_spec (mem : (List Int)) (tasks : (List (List GOp))) (picks : (List Int)) (r : Fault × (List Int) × (List (List Int))) (h : cell_Mix mem tasks picks = some r) : SpecW Try.prog 27 [.sl mem.length (fl mem), .sl tasks.length (fl tasks), .sl picks.length (fl picks)] [] 0 (fun x h n => x = .tup [.own 0 0 r.2.1.length, .own 1 0 r.2.2.length, .agg (Enc.cells r.1)] ∧ h = [(0, .row 3 (fl r.2.1)), (1, .row 22 (flD dLListInt [2] r.2.2)), ((.s 2 0), .fam (famD dLListInt 0 r.2.2))] ∧ n = 3) := by
  unfold cell_Mix at h
  refine spec_of (draw_ok _) Try.func27 rfl (by decide) rfl (by kernel_rfl) ?_
  refine seq_np ?_
  refine reg_f ?_
  refine rs 3 [] [] (by kernel_rfl) allP_nil ?_
  refine rf [(0, .sl mem.length (fl mem)), (1, .sl tasks.length (fl tasks)), (2, .sl picks.length (fl picks)), (8, .ptr 0 0)] [(0, .row 28 [iS 0, iS 0])] 1 (by kernel_rfl) ?_
  refine wk_id ?_
  refine seq_np ?_
  refine seq_cut (A := Unit) (fun _ => ([(0, .sl mem.length (fl mem)), (1, .sl tasks.length (fl tasks)), (2, .sl picks.length (fl picks)), (8, .ptr 0 0), (26, bS ((decide ((64 : Int) < ((tasks.length : Nat) : Int))) || (decide ((5000 : Int) < ((picks.length : Nat) : Int)))))], [(0, .row 28 [iS 0, iS 0])], 1)) (fun _ => True) (fun K1560 hK1560 => ?_) (fun _ _ => ?_)
  · refine reg_f ?_
    refine rs 4 [] [] (by kernel_rfl) allP_nil ?_
    refine run_split 22 (decide ((64 : Int) < ((tasks.length : Nat) : Int))) (.inl (by kernel_rfl)) (fun g1561 => ?_) (fun g1561 => ?_)
    · refine rs 4 [] [] (by kernel_rfl) allP_nil ?_
      refine rf [(0, .sl mem.length (fl mem)), (1, .sl tasks.length (fl tasks)), (2, .sl picks.length (fl picks)), (8, .ptr 0 0), (26, bS true)] [(0, .row 28 [iS 0, iS 0])] 1 (by kernel_rfl) ?_
      exact hK1560 () _ _ _ trivial (leSt_m [(0, 0)] [] (by (try simp only [g1561]) <;> simp only [push_cast, leL_flD, renL_flD, seval]) (by (try simp only [g1561]) <;> simp only [push_cast, leL_flD, renL_flD, seval]) rfl rfl rfl)
    · refine rs 4 [] [] (by kernel_rfl) allP_nil ?_
      refine rf [(0, .sl mem.length (fl mem)), (1, .sl tasks.length (fl tasks)), (2, .sl picks.length (fl picks)), (8, .ptr 0 0), (26, bS (decide ((5000 : Int) < ((picks.length : Nat) : Int))))] [(0, .row 28 [iS 0, iS 0])] 1 (by kernel_rfl) ?_
      exact hK1560 () _ _ _ trivial (leSt_m [(0, 0)] [] (by (try simp only [g1561]) <;> simp only [push_cast, leL_flD, renL_flD, seval]) (by (try simp only [g1561]) <;> simp only [push_cast, leL_flD, renL_flD, seval]) rfl rfl rfl)
  · dsimp only
    refine cond_sx h (by kernel_rfl) (fun g1975 h => ?_) (fun g1975 h => ?_)
    · refine seq_np ?_
      refine reg_f ?_
      obtain ⟨r1563, hr1563, h⟩ := bind_sx h
      refine run_call 29 [iS 2, iS 0] (some 27) (by kernel_rfl) ?_
      refine call_0 (cell_fault_spec 2 0 r1563 hr1563) (by simp only [push_cast, leL_flD, renL_flD, seval]) (by simp only [push_cast, leL_flD, renL_flD, seval]) ?_
      refine back_f ?_
      refine rs 3 [] [] (by kernel_rfl) allP_nil ?_
      refine rf [(6, .v (.slice none 0 0)), (7, .v (.slice none 0 0)), (8, .ptr 0 0)] [(0, .row 28 (Enc.cells r1563))] 1 (by kernel_rfl) ?_
      refine wk_id ?_
      obtain rfl := Option.some.inj h
      refine ret_at (.tup [.v (.slice none 0 0), .v (.slice none 0 0), .agg (Enc.cells r1563)]) (by kernel_rfl) ?_
      exact ret_e [] [] (by simp only [push_cast, leL_flD, renL_flD, seval]) (by simp only [push_cast, leL_flD, renL_flD, seval]) rfl rfl rfl
    · refine wk_id ?_
      refine seq_np ?_
      refine seq_np ?_
      refine reg_f ?_
      refine rs 3 [] [] (by kernel_rfl) allP_nil ?_
      refine rf [(0, .sl mem.length (fl mem)), (1, .sl tasks.length (fl tasks)), (2, .sl picks.length (fl picks)), (8, .ptr 0 0), (28, .sl tasks.length (fl tasks)), (29, iS ((tasks.length : Nat) : Int)), (30, iS 0)] [(0, .row 28 [iS 0, iS 0])] 1 (by kernel_rfl) ?_
      refine wk_id ?_
      refine block_np ?_
      refine loop_sx (S := Int) (fun a => ([(0, .sl mem.length (fl mem)), (1, .sl tasks.length (fl tasks)), (2, .sl picks.length (fl picks)), (8, .ptr 0 0), (28, .sl tasks.length (fl tasks)), (29, iS ((tasks.length : Nat) : Int)), (30, iS a)], [(0, .row 28 [iS 0, iS 0])], 1)) h (leSt_m [(0, 0)] [] (by simp only [push_cast, leL_flD, renL_flD, seval]) (by simp only [push_cast, leL_flD, renL_flD, seval]) rfl rfl rfl) ?_
      rintro t30q7 o4 R4 h hr4 hn4 hx4 ht4
      try dsimp only at h hn4 ⊢
      unfold cell_Mix_l3 at h
      try dsimp only at h
      refine seq_np ?_
      refine reg_f ?_
      refine rs 1 [] [] (by kernel_rfl) allP_nil ?_
      refine rf [(0, .sl mem.length (fl mem)), (1, .sl tasks.length (fl tasks)), (2, .sl picks.length (fl picks)), (8, .ptr 0 0), (28, .sl tasks.length (fl tasks)), (29, iS ((tasks.length : Nat) : Int)), (30, iS t30q7), (31, bS (decide (t30q7 < ((tasks.length : Nat) : Int))))] [(0, .row 28 [iS 0, iS 0])] 1 (by kernel_rfl) ?_
      refine wk_id ?_
      refine seq_np ?_
      refine cond_sx h (by kernel_rfl) (fun g1974 h => ?_) (fun g1974 h => ?_)
      · refine wk_id ?_
        refine seq_np ?_
        refine block_np ?_
        refine chk_sx h (fun g1619 h => ?_)
        refine seq_np ?_
        refine reg_f ?_
        have k1618 : 0 ≤ t30q7 ∧ t30q7 < ((tasks.length : Nat) : Int) := by first | simpa only [Bool.and_eq_true, decide_eq_true_eq, bne_iff_ne, ne_eq] using g1619 | (simp at g1619 ⊢; omega)
        refine rs 3 [some ⟨.iptr (fl tasks) ((t30q7).toNat * 1), [], 1, []⟩, some ⟨.sl (ix tasks t30q7).length (fl (ix tasks t30q7)), [], 1, []⟩] _ (by kernel_rfl) (allP_cons (ob_ld tasks t30q7 1 0 ((t30q7).toNat * 1) k1618 rfl (by decide) (by first | rfl | omega) (dflS Try.prog 39) (.sl (ix tasks t30q7).length (fl (ix tasks t30q7))) rfl 1 []) (allP_cons (ob_ix_l tasks 1 1 t30q7 k1618) allP_nil)) ?_
        refine rf [(0, .sl mem.length (fl mem)), (1, .sl tasks.length (fl tasks)), (2, .sl picks.length (fl picks)), (8, .ptr 0 0), (10, .sl (ix tasks t30q7).length (fl (ix tasks t30q7))), (28, .sl tasks.length (fl tasks)), (29, iS ((tasks.length : Nat) : Int)), (30, iS t30q7)] [(0, .row 28 [iS 0, iS 0])] 1 (by kernel_rfl) ?_
        refine wk_id ?_
        refine seq_np ?_
        refine reg_f ?_
        refine rs 2 [] [] (by kernel_rfl) allP_nil ?_
        obtain ⟨r1621, hr1621, h⟩ := bind_sx h
        refine run_call 21 [.sl mem.length (fl mem), .sl (ix tasks t30q7).length (fl (ix tasks t30q7))] (some 36) (by kernel_rfl) ?_
        refine call_0 (cell_Check_spec mem (ix tasks t30q7) r1621 hr1621) (by simp only [push_cast, leL_flD, renL_flD, seval]) (by simp only [push_cast, leL_flD, renL_flD, seval]) ?_
        refine back_f ?_
        refine rs 2 [] [] (by kernel_rfl) allP_nil ?_
        refine rf [(0, .sl mem.length (fl mem)), (1, .sl tasks.length (fl tasks)), (2, .sl picks.length (fl picks)), (8, .ptr 0 0), (11, .ptr 1 0), (28, .sl tasks.length (fl tasks)), (29, iS ((tasks.length : Nat) : Int)), (30, iS t30q7)] [(0, .row 28 [iS 0, iS 0]), (1, .row 28 (Enc.cells r1621))] 2 (by kernel_rfl) ?_
        refine wk_id ?_
        refine seq_np ?_
        refine reg_f ?_
        refine rs 3 [] [] (by kernel_rfl) allP_nil ?_
        refine rf [(0, .sl mem.length (fl mem)), (1, .sl tasks.length (fl tasks)), (2, .sl picks.length (fl picks)), (8, .ptr 0 0), (11, .ptr 1 0), (28, .sl tasks.length (fl tasks)), (29, iS ((tasks.length : Nat) : Int)), (30, iS t30q7), (39, bS (r1621.Code != 0))] [(0, .row 28 [iS 0, iS 0]), (1, .row 28 (Enc.cells r1621))] 2 (by kernel_rfl) ?_
        refine wk_id ?_
        refine cond_sx h (by kernel_rfl) (fun g1622 h => ?_) (fun g1622 h => ?_)
        · refine seq_np ?_
          refine reg_t ?_
          refine rs 4 [] [] (by kernel_rfl) allP_nil ?_
          refine rt [(6, .v (.slice none 0 0)), (7, .v (.slice none 0 0)), (8, .ptr 0 0)] [(0, .row 28 (Enc.cells r1621)), (1, .row 28 (Enc.cells r1621))] 6 follows (by kernel_rfl) ?_
          refine wk_id ?_
          refine rt_cast ht4 ?_
          obtain ⟨r0, h, e0⟩ := map_sx h
          have e1 := hr4 r0 e0.symm
          subst r0
          obtain rfl := Option.some.inj h
          refine ret_at (.tup [.v (.slice none 0 0), .v (.slice none 0 0), .agg (Enc.cells r1621)]) (by kernel_rfl) ?_
          exact ret_e [] [] (by simp only [push_cast, leL_flD, renL_flD, seval]) (by simp only [push_cast, leL_flD, renL_flD, seval]) rfl rfl rfl
        · refine wk_id ?_
          refine wk_id ?_
          refine reg_f ?_
          refine rs 2 [] [] (by kernel_rfl) allP_nil ?_
          refine rf [(0, .sl mem.length (fl mem)), (1, .sl tasks.length (fl tasks)), (2, .sl picks.length (fl picks)), (8, .ptr 0 0), (28, .sl tasks.length (fl tasks)), (29, iS ((tasks.length : Nat) : Int)), (30, iS (IntKind.i64.wrap (t30q7 + 1)))] [(0, .row 28 [iS 0, iS 0]), (1, .row 28 (Enc.cells r1621))] 2 (by kernel_rfl) ?_
          exact hn4 ((IntKind.i64.wrap (t30q7 + 1))) _ _ _ (Option.some.inj h).symm (leSt_m [(0, 0)] [] (by simp only [push_cast, leL_flD, renL_flD, seval]) (by simp only [push_cast, leL_flD, renL_flD, seval]) rfl rfl rfl)
      · change R4 (.exit 0) _ _ _
        refine ex_cast hx4 (id := 0) ?_
        obtain ⟨r0, h, e0⟩ := map_sx h
        have e1 := hr4 r0 e0.symm
        subst r0
        refine wk_id ?_
        refine wk_id ?_
        refine seq_np ?_
        refine seq_np ?_
        refine reg_f ?_
        refine rs 3 [] [] (by kernel_rfl) allP_nil ?_
        refine rf [(0, .sl mem.length (fl mem)), (1, .sl tasks.length (fl tasks)), (2, .sl picks.length (fl picks)), (8, .ptr 0 0), (42, .sl picks.length (fl picks)), (43, iS ((picks.length : Nat) : Int)), (44, iS 0)] [(0, .row 28 [iS 0, iS 0])] 1 (by kernel_rfl) ?_
        refine wk_id ?_
        refine block_np ?_
        refine loop_sx (S := Int) (fun a => ([(0, .sl mem.length (fl mem)), (1, .sl tasks.length (fl tasks)), (2, .sl picks.length (fl picks)), (8, .ptr 0 0), (42, .sl picks.length (fl picks)), (43, iS ((picks.length : Nat) : Int)), (44, iS a)], [(0, .row 28 [iS 0, iS 0])], 1)) h (leSt_m [(0, 0)] [] (by simp only [push_cast, leL_flD, renL_flD, seval]) (by simp only [push_cast, leL_flD, renL_flD, seval]) rfl rfl rfl) ?_
        rintro t44q7 o5 R5 h hr5 hn5 hx5 ht5
        try dsimp only at h hn5 ⊢
        unfold cell_Mix_l2 at h
        try dsimp only at h
        refine seq_np ?_
        refine reg_f ?_
        refine rs 1 [] [] (by kernel_rfl) allP_nil ?_
        refine rf [(0, .sl mem.length (fl mem)), (1, .sl tasks.length (fl tasks)), (2, .sl picks.length (fl picks)), (8, .ptr 0 0), (42, .sl picks.length (fl picks)), (43, iS ((picks.length : Nat) : Int)), (44, iS t44q7), (45, bS (decide (t44q7 < ((picks.length : Nat) : Int))))] [(0, .row 28 [iS 0, iS 0])] 1 (by kernel_rfl) ?_
        refine wk_id ?_
        refine seq_np ?_
        refine cond_sx h (by kernel_rfl) (fun g1973 h => ?_) (fun g1973 h => ?_)
        · refine wk_id ?_
          refine seq_np ?_
          refine block_np ?_
          refine chk_sx h (fun g1688 h => ?_)
          refine seq_np ?_
          refine reg_f ?_
          have k1687 : 0 ≤ t44q7 ∧ t44q7 < ((picks.length : Nat) : Int) := by first | simpa only [Bool.and_eq_true, decide_eq_true_eq, bne_iff_ne, ne_eq] using g1688 | (simp at g1688 ⊢; omega)
          refine rs 5 [none, some ⟨.iptr (fl picks) ((t44q7).toNat * 1), [], 1, []⟩, some ⟨iS (ix picks t44q7), [], 1, []⟩] _ (by kernel_rfl) (allP_cons (ob_ld picks t44q7 1 0 ((t44q7).toNat * 1) k1687 rfl (by decide) (by first | rfl | omega) (dflS Try.prog 3) (iS (ix picks t44q7)) rfl 1 []) (allP_cons (ob_ix_l picks 1 1 t44q7 k1687) allP_nil)) ?_
          refine rf [(0, .sl mem.length (fl mem)), (1, .sl tasks.length (fl tasks)), (2, .sl picks.length (fl picks)), (8, .ptr 0 0), (12, iS t44q7), (13, iS (ix picks t44q7)), (42, .sl picks.length (fl picks)), (43, iS ((picks.length : Nat) : Int)), (44, iS t44q7)] [(0, .row 28 [iS 0, iS 0])] 1 (by kernel_rfl) ?_
          refine wk_id ?_
          refine seq_cut (A := Unit) (fun _ => ([(0, .sl mem.length (fl mem)), (1, .sl tasks.length (fl tasks)), (2, .sl picks.length (fl picks)), (8, .ptr 0 0), (12, iS t44q7), (42, .sl picks.length (fl picks)), (43, iS ((picks.length : Nat) : Int)), (44, iS t44q7), (56, bS ((decide ((ix picks t44q7) < 0)) || (decide (((tasks.length : Nat) : Int) ≤ (ix picks t44q7)))))], [(0, .row 28 [iS 0, iS 0])], 1)) (fun _ => True) (fun K1690 hK1690 => ?_) (fun _ _ => ?_)
          · refine reg_f ?_
            refine rs 3 [] [] (by kernel_rfl) allP_nil ?_
            refine run_split 51 (decide ((ix picks t44q7) < 0)) (.inl (by kernel_rfl)) (fun g1691 => ?_) (fun g1691 => ?_)
            · refine rs 5 [] [] (by kernel_rfl) allP_nil ?_
              refine rf [(0, .sl mem.length (fl mem)), (1, .sl tasks.length (fl tasks)), (2, .sl picks.length (fl picks)), (8, .ptr 0 0), (12, iS t44q7), (42, .sl picks.length (fl picks)), (43, iS ((picks.length : Nat) : Int)), (44, iS t44q7), (56, bS true)] [(0, .row 28 [iS 0, iS 0])] 1 (by kernel_rfl) ?_
              exact hK1690 () _ _ _ trivial (leSt_m [(0, 0)] [] (by (try simp only [g1691]) <;> simp only [push_cast, leL_flD, renL_flD, seval]) (by (try simp only [g1691]) <;> simp only [push_cast, leL_flD, renL_flD, seval]) rfl rfl rfl)
            · refine rs 5 [] [] (by kernel_rfl) allP_nil ?_
              refine rf [(0, .sl mem.length (fl mem)), (1, .sl tasks.length (fl tasks)), (2, .sl picks.length (fl picks)), (8, .ptr 0 0), (12, iS t44q7), (42, .sl picks.length (fl picks)), (43, iS ((picks.length : Nat) : Int)), (44, iS t44q7), (56, bS (decide (((tasks.length : Nat) : Int) ≤ (ix picks t44q7))))] [(0, .row 28 [iS 0, iS 0])] 1 (by kernel_rfl) ?_
              exact hK1690 () _ _ _ trivial (leSt_m [(0, 0)] [] (by (try simp only [g1691]) <;> simp only [push_cast, leL_flD, renL_flD, seval]) (by (try simp only [g1691]) <;> simp only [push_cast, leL_flD, renL_flD, seval]) rfl rfl rfl)
          · dsimp only
            refine cond_sx h (by kernel_rfl) (fun g1694 h => ?_) (fun g1694 h => ?_)
            · refine seq_np ?_
              refine reg_f ?_
              refine rs 1 [] [] (by kernel_rfl) allP_nil ?_
              obtain ⟨r1693, hr1693, h⟩ := bind_sx h
              refine run_call 29 [iS 3, iS t44q7] (some 58) (by kernel_rfl) ?_
              refine call_0 (cell_fault_spec 3 t44q7 r1693 hr1693) (by simp only [push_cast, leL_flD, renL_flD, seval]) (by simp only [push_cast, leL_flD, renL_flD, seval]) ?_
              refine back_f ?_
              refine rs 3 [] [] (by kernel_rfl) allP_nil ?_
              refine rf [(6, .v (.slice none 0 0)), (7, .v (.slice none 0 0)), (8, .ptr 0 0)] [(0, .row 28 (Enc.cells r1693))] 1 (by kernel_rfl) ?_
              refine wk_id ?_
              refine rt_cast ht5 ?_
              obtain ⟨r0, h, e0⟩ := map_sx h
              have e1 := hr5 r0 e0.symm
              subst r0
              obtain rfl := Option.some.inj h
              refine ret_at (.tup [.v (.slice none 0 0), .v (.slice none 0 0), .agg (Enc.cells r1693)]) (by kernel_rfl) ?_
              exact ret_e [] [] (by simp only [push_cast, leL_flD, renL_flD, seval]) (by simp only [push_cast, leL_flD, renL_flD, seval]) rfl rfl rfl
            · refine wk_id ?_
              refine wk_id ?_
              refine reg_f ?_
              refine rs 2 [] [] (by kernel_rfl) allP_nil ?_
              refine rf [(0, .sl mem.length (fl mem)), (1, .sl tasks.length (fl tasks)), (2, .sl picks.length (fl picks)), (8, .ptr 0 0), (42, .sl picks.length (fl picks)), (43, iS ((picks.length : Nat) : Int)), (44, iS (IntKind.i64.wrap (t44q7 + 1)))] [(0, .row 28 [iS 0, iS 0])] 1 (by kernel_rfl) ?_
              exact hn5 ((IntKind.i64.wrap (t44q7 + 1))) _ _ _ (Option.some.inj h).symm (leSt_m [(0, 0)] [] (by simp only [push_cast, leL_flD, renL_flD, seval]) (by simp only [push_cast, leL_flD, renL_flD, seval]) rfl rfl rfl)
        · change R5 (.exit 2) _ _ _
          refine ex_cast hx5 (id := 2) ?_
          obtain ⟨r0, h, e0⟩ := map_sx h
          have e1 := hr5 r0 e0.symm
          subst r0
          refine wk_id ?_
          refine wk_id ?_
          refine seq_np ?_
          refine reg_f ?_
          refine rs 1 [] [] (by kernel_rfl) allP_nil ?_
          obtain ⟨r1696, hr1696, h⟩ := bind_sx h
          refine call_x (slices_Clone_int_spec mem r1696 hr1696) (args := [.sl mem.length (fl mem)]) (dst := (some 61)) (by kernel_rfl) [(0, .row 28 [iS 0, iS 0])] 1 (by kernel_rfl) [] [] (.own 1 0 r1696.length) [(1, .row 3 (fl r1696))] (by simp only [push_cast, leL_flD, renL_flD, seval]) (by simp only [push_cast, leL_flD, renL_flD, seval]) (by kernel_rfl) (.inl rfl) (by simp only [push_cast, leL_flD, renL_flD, seval]) (by simp only [push_cast, leL_flD, renL_flD, seval]) ?_
          refine rs 1 [] [] (by kernel_rfl) allP_nil ?_
          refine rf [(1, .sl tasks.length (fl tasks)), (2, .sl picks.length (fl picks)), (8, .ptr 0 0), (14, .own 1 0 r1696.length)] [(0, .row 28 [iS 0, iS 0]), (1, .row 3 (fl r1696))] 2 (by kernel_rfl) ?_
          refine wk_id ?_
          refine chk_sx h (fun g1700 h => ?_)
          refine seq_np ?_
          refine reg_f ?_
          have k1699 : 0 ≤ ((tasks.length : Nat) : Int) ∧ ((tasks.length : Nat) : Int) ≤ 4611686018427387904 ∧ (24 : Int) * ((tasks.length : Nat) : Int) ≤ 140737488355328 := by first | simpa only [Bool.and_eq_true, decide_eq_true_eq, bne_iff_ne, ne_eq] using g1700 | (simp at g1700 ⊢; omega)
          refine rs 2 [] [] (by kernel_rfl) allP_nil ?_
          refine run_opG (some 64) _ ⟨.own 2 0 (List.replicate (((tasks.length : Nat) : Int)).toNat (default : (List Int))).length, [(2, .row 22 (flN dLListInt (nA (List.replicate 1 none) (List.replicate 1 none) (-1)) 0 (List.replicate (((tasks.length : Nat) : Int)).toNat (default : (List Int)))))], 3, []⟩ [((.s 3 0), .fam (famD dLListInt 0 (List.replicate (((tasks.length : Nat) : Int)).toNat (default : (List Int))))), (2, .row 22 (flD dLListInt [3] (List.replicate (((tasks.length : Nat) : Int)).toNat (default : (List Int)))))] 1 [2] [] (by kernel_rfl) (ob_mkN (P := Try.prog) dLListInt ((tasks.length : Nat) : Int) 22 24 (by kernel_rfl) [.v (.slice none 0 0)] rfl 1 rfl (by decide) k1699 1 2) (ghost_A 3 dLListInt (List.replicate (((tasks.length : Nat) : Int)).toNat (default : (List Int))) 2 22 [none] [none] (-1) (flD dLListInt [3] (List.replicate (((tasks.length : Nat) : Int)).toNat (default : (List Int)))) 0 none none (by kernel_rfl) (flN_done dLListInt [3] (-1) (List.replicate (((tasks.length : Nat) : Int)).toNat (default : (List Int))) rfl) (by kernel_rfl) (offN_rep _ rfl _) (S_rep (fun a => nilLeaf dLListInt 0 a) _)) (by kernel_rfl) ?_
          refine rs 1 [] [] (by kernel_rfl) allP_nil ?_
          refine rf [(1, .sl tasks.length (fl tasks)), (2, .sl picks.length (fl picks)), (8, .ptr 0 0), (14, .own 1 0 r1696.length), (15, .own 2 0 (List.replicate (((tasks.length : Nat) : Int)).toNat (default : (List Int))).length)] [(0, .row 28 [iS 0, iS 0]), (1, .row 3 (fl r1696)), (2, .row 22 (flD dLListInt [3] (List.replicate (((tasks.length : Nat) : Int)).toNat (default : (List Int))))), ((.s 3 0), .fam (famD dLListInt 0 (List.replicate (((tasks.length : Nat) : Int)).toNat (default : (List Int)))))] 4 (by kernel_rfl) ?_
          refine wk_id ?_
          refine seq_np ?_
          refine seq_np ?_
          refine reg_f ?_
          refine rs 3 [] [] (by kernel_rfl) allP_nil ?_
          refine rf [(1, .sl tasks.length (fl tasks)), (8, .ptr 0 0), (14, .own 1 0 r1696.length), (15, .own 2 0 (List.replicate (((tasks.length : Nat) : Int)).toNat (default : (List Int))).length), (65, .sl picks.length (fl picks)), (66, iS ((picks.length : Nat) : Int)), (67, iS 0)] [(0, .row 28 [iS 0, iS 0]), (1, .row 3 (fl r1696)), (2, .row 22 (flD dLListInt [3] (List.replicate (((tasks.length : Nat) : Int)).toNat (default : (List Int))))), ((.s 3 0), .fam (famD dLListInt 0 (List.replicate (((tasks.length : Nat) : Int)).toNat (default : (List Int)))))] 4 (by kernel_rfl) ?_
          refine wk_id ?_
          refine block_np ?_
          refine loop_sx (S := Int × (List Int) × (List (List Int))) (fun a => ([(1, .sl tasks.length (fl tasks)), (8, .ptr 0 0), (14, .own 1 0 a.2.1.length), (15, .own 2 0 a.2.2.length), (65, .sl picks.length (fl picks)), (66, iS ((picks.length : Nat) : Int)), (67, iS a.1)], [(0, .row 28 [iS 0, iS 0]), (1, .row 3 (fl a.2.1)), (2, .row 22 (flD dLListInt [3] a.2.2)), ((.s 3 0), .fam (famD dLListInt 0 a.2.2))], 4)) h (leSt_m [(0, 0), (1, 1), (2, 2), ((.s 3 0), (.s 3 0))] [] (by simp only [push_cast, leL_flD, renL_flD, seval]) (by simp only [push_cast, leL_flD, renL_flD, seval]) rfl rfl rfl) ?_
          rintro ⟨t67q7, c1q23, c2q18⟩ o6 R6 h hr6 hn6 hx6 ht6
          try dsimp only at h hn6 ⊢
          unfold cell_Mix_l1 at h
          try dsimp only at h
          refine seq_np ?_
          refine reg_f ?_
          refine rs 1 [] [] (by kernel_rfl) allP_nil ?_
          refine rf [(1, .sl tasks.length (fl tasks)), (8, .ptr 0 0), (14, .own 1 0 c1q23.length), (15, .own 2 0 c2q18.length), (65, .sl picks.length (fl picks)), (66, iS ((picks.length : Nat) : Int)), (67, iS t67q7), (68, bS (decide (t67q7 < ((picks.length : Nat) : Int))))] [(0, .row 28 [iS 0, iS 0]), (1, .row 3 (fl c1q23)), (2, .row 22 (flD dLListInt [3] c2q18)), ((.s 3 0), .fam (famD dLListInt 0 c2q18))] 4 (by kernel_rfl) ?_
          refine wk_id ?_
          refine seq_np ?_
          refine cond_sx h (by kernel_rfl) (fun g1972 h => ?_) (fun g1972 h => ?_)
          · refine wk_id ?_
            refine seq_np ?_
            refine block_cut (A := (List Int) × (List (List Int))) (fun a => ([(1, .sl tasks.length (fl tasks)), (8, .ptr 0 0), (14, .own 1 0 a.1.length), (15, .own 2 0 a.2.length), (65, .sl picks.length (fl picks)), (66, iS ((picks.length : Nat) : Int)), (67, iS t67q7)], [(0, .row 28 [iS 0, iS 0]), (1, .row 3 (fl a.1)), (2, .row 22 (flD dLListInt [3] a.2)), ((.s 3 0), .fam (famD dLListInt 0 a.2))], 4)) (fun a => (cell_Mix_j1 tasks picks t67q7 a.1 a.2) = some o6) (fun K1932 hK1932 => ?_) ?_
            · refine chk_sx h (fun g1936 h => ?_)
              refine seq_np ?_
              refine reg_f ?_
              have k1935 : 0 ≤ t67q7 ∧ t67q7 < ((picks.length : Nat) : Int) := by first | simpa only [Bool.and_eq_true, decide_eq_true_eq, bne_iff_ne, ne_eq] using g1936 | (simp at g1936 ⊢; omega)
              refine rs 3 [some ⟨.iptr (fl picks) ((t67q7).toNat * 1), [], 4, []⟩, some ⟨iS (ix picks t67q7), [], 4, []⟩] _ (by kernel_rfl) (allP_cons (ob_ld picks t67q7 1 0 ((t67q7).toNat * 1) k1935 rfl (by decide) (by first | rfl | omega) (dflS Try.prog 3) (iS (ix picks t67q7)) rfl 4 []) (allP_cons (ob_ix_l picks 1 4 t67q7 k1935) allP_nil)) ?_
              refine rf [(1, .sl tasks.length (fl tasks)), (8, .ptr 0 0), (14, .own 1 0 c1q23.length), (15, .own 2 0 c2q18.length), (17, iS (ix picks t67q7)), (65, .sl picks.length (fl picks)), (66, iS ((picks.length : Nat) : Int)), (67, iS t67q7)] [(0, .row 28 [iS 0, iS 0]), (1, .row 3 (fl c1q23)), (2, .row 22 (flD dLListInt [3] c2q18)), ((.s 3 0), .fam (famD dLListInt 0 c2q18))] 4 (by kernel_rfl) ?_
              refine wk_id ?_
              refine chk_sx h (fun g1940 h => ?_)
              refine seq_np ?_
              refine reg_f ?_
              have k1939 : 0 ≤ (ix picks t67q7) ∧ (ix picks t67q7) < ((c2q18.length : Nat) : Int) := by first | simpa only [Bool.and_eq_true, decide_eq_true_eq, bne_iff_ne, ne_eq] using g1940 | (simp at g1940 ⊢; omega)
              refine rs 6 [none, none, some ⟨.ptr 2 (0 + ((ix picks t67q7)).toNat * 1), [], 4, [2]⟩, some ⟨.own (.s 3 (ix picks t67q7)) 0 (ixD c2q18 (ix picks t67q7)).length, [], 4, [2]⟩] _ (by kernel_rfl) (allP_cons (ob_ldD dLListInt [3] c2q18 (ix picks t67q7) 1 0 (0 + ((ix picks t67q7)).toNat * 1) k1939 rfl (by decide) (by first | rfl | omega) (dflS Try.prog 22) (.own (.s 3 (ix picks t67q7)) 0 (ixD c2q18 (ix picks t67q7)).length) rfl 4 [2]) (allP_cons (ob_ix_o 2 c2q18.length 0 1 4 (ix picks t67q7) k1939) allP_nil)) ?_
              refine rf [(1, .sl tasks.length (fl tasks)), (8, .ptr 0 0), (14, .own 1 0 c1q23.length), (15, .own 2 0 c2q18.length), (17, iS (ix picks t67q7)), (18, iS (((ixD c2q18 (ix picks t67q7)).length : Nat) : Int)), (65, .sl picks.length (fl picks)), (66, iS ((picks.length : Nat) : Int)), (67, iS t67q7)] [(0, .row 28 [iS 0, iS 0]), (1, .row 3 (fl c1q23)), (2, .row 22 (flD dLListInt [3] c2q18)), ((.s 3 0), .fam (famD dLListInt 0 c2q18))] 4 (by kernel_rfl) ?_
              refine wk_id ?_
              refine chk_sx h (fun g1944 h => ?_)
              refine seq_np ?_
              refine reg_f ?_
              have k1943 : 0 ≤ (ix picks t67q7) ∧ (ix picks t67q7) < ((tasks.length : Nat) : Int) := by first | simpa only [Bool.and_eq_true, decide_eq_true_eq, bne_iff_ne, ne_eq] using g1944 | (simp at g1944 ⊢; omega)
              refine rs 7 [none, none, none, some ⟨.iptr (fl tasks) (((ix picks t67q7)).toNat * 1), [], 4, []⟩, some ⟨.sl (ix tasks (ix picks t67q7)).length (fl (ix tasks (ix picks t67q7))), [], 4, []⟩] _ (by kernel_rfl) (allP_cons (ob_ld tasks (ix picks t67q7) 1 0 (((ix picks t67q7)).toNat * 1) k1943 rfl (by decide) (by first | rfl | omega) (dflS Try.prog 39) (.sl (ix tasks (ix picks t67q7)).length (fl (ix tasks (ix picks t67q7)))) rfl 4 []) (allP_cons (ob_ix_l tasks 1 4 (ix picks t67q7) k1943) allP_nil)) ?_
              refine rf [(1, .sl tasks.length (fl tasks)), (8, .ptr 0 0), (14, .own 1 0 c1q23.length), (15, .own 2 0 c2q18.length), (17, iS (ix picks t67q7)), (18, iS (((ixD c2q18 (ix picks t67q7)).length : Nat) : Int)), (65, .sl picks.length (fl picks)), (66, iS ((picks.length : Nat) : Int)), (67, iS t67q7), (82, bS (decide ((((ixD c2q18 (ix picks t67q7)).length : Nat) : Int) < (((ix tasks (ix picks t67q7)).length : Nat) : Int))))] [(0, .row 28 [iS 0, iS 0]), (1, .row 3 (fl c1q23)), (2, .row 22 (flD dLListInt [3] c2q18)), ((.s 3 0), .fam (famD dLListInt 0 c2q18))] 4 (by kernel_rfl) ?_
              refine wk_id ?_
              refine cond_sx h (by kernel_rfl) (fun g1971 h => ?_) (fun g1971 h => ?_)
              · refine chk_sx h (fun g1959 h => ?_)
                refine chk_sx h (fun g1961 h => ?_)
                refine chk_sx h (fun g1963 h => ?_)
                refine reg_t ?_
                have k1958 : 0 ≤ (ix picks t67q7) ∧ (ix picks t67q7) < ((c2q18.length : Nat) : Int) := by first | simpa only [Bool.and_eq_true, decide_eq_true_eq, bne_iff_ne, ne_eq] using g1959 | (simp at g1959 ⊢; omega)
                have k1960 : 0 ≤ (ix picks t67q7) ∧ (ix picks t67q7) < ((tasks.length : Nat) : Int) := by first | simpa only [Bool.and_eq_true, decide_eq_true_eq, bne_iff_ne, ne_eq] using g1961 | (simp at g1961 ⊢; omega)
                have k1962 : 0 ≤ (((ixD c2q18 (ix picks t67q7)).length : Nat) : Int) ∧ (((ixD c2q18 (ix picks t67q7)).length : Nat) : Int) < (((ix tasks (ix picks t67q7)).length : Nat) : Int) := by first | simpa only [Bool.and_eq_true, decide_eq_true_eq, bne_iff_ne, ne_eq] using g1963 | (simp at g1963 ⊢; omega)
                refine rs 14 [none, none, none, none, some ⟨.ptr 2 (0 + ((ix picks t67q7)).toNat * 1), [], 8, [2]⟩, some ⟨.own (.s 3 (ix picks t67q7)) 0 (ixD c2q18 (ix picks t67q7)).length, [], 9, [2]⟩, none, none, none, some ⟨.iptr (fl tasks) (((ix picks t67q7)).toNat * 1), [], 13, []⟩, some ⟨.sl (ix tasks (ix picks t67q7)).length (fl (ix tasks (ix picks t67q7))), [], 14, []⟩, none, some ⟨.iptr (fl (ix tasks (ix picks t67q7))) (((((ixD c2q18 (ix picks t67q7)).length : Nat) : Int)).toNat * 4), [], 16, []⟩, some ⟨.agg (Enc.cells (ix (ix tasks (ix picks t67q7)) (((ixD c2q18 (ix picks t67q7)).length : Nat) : Int))), [], 17, []⟩] _ (by kernel_rfl) (allP_cons (ob_ldw (ix tasks (ix picks t67q7)) (((ixD c2q18 (ix picks t67q7)).length : Nat) : Int) 4 (((((ixD c2q18 (ix picks t67q7)).length : Nat) : Int)).toNat * 4) k1962 rfl (by first | rfl | omega) (Enc.cells (ix (ix tasks (ix picks t67q7)) (((ixD c2q18 (ix picks t67q7)).length : Nat) : Int))) rfl 17 []) (allP_cons (ob_ix_l (ix tasks (ix picks t67q7)) 4 16 (((ixD c2q18 (ix picks t67q7)).length : Nat) : Int) k1962) (allP_cons (ob_ld tasks (ix picks t67q7) 1 0 (((ix picks t67q7)).toNat * 1) k1960 rfl (by decide) (by first | rfl | omega) (dflS Try.prog 39) (.sl (ix tasks (ix picks t67q7)).length (fl (ix tasks (ix picks t67q7)))) rfl 14 []) (allP_cons (ob_ix_l tasks 1 13 (ix picks t67q7) k1960) (allP_cons (ob_ldD dLListInt [3] c2q18 (ix picks t67q7) 1 0 (0 + ((ix picks t67q7)).toNat * 1) k1958 rfl (by decide) (by first | rfl | omega) (dflS Try.prog 22) (.own (.s 3 (ix picks t67q7)) 0 (ixD c2q18 (ix picks t67q7)).length) rfl 9 [2]) (allP_cons (ob_ix_o 2 c2q18.length 0 1 8 (ix picks t67q7) k1958) allP_nil)))))) ?_
                obtain ⟨r1964, hr1964, h⟩ := bind_sx h
                refine call_x (cell_Do_1_spec (ix (ix tasks (ix picks t67q7)) (((ixD c2q18 (ix picks t67q7)).length : Nat) : Int)) c1q23 r1964 hr1964) (args := [.own 1 0 c1q23.length, .agg (Enc.cells (ix (ix tasks (ix picks t67q7)) (((ixD c2q18 (ix picks t67q7)).length : Nat) : Int)))]) (dst := (some 97)) (by kernel_rfl) [(0, .row 28 [iS 0, iS 0]), (1, .row 3 (fl c1q23)), (2, .row 22 (flD dLListInt [3] c2q18)), ((.s 3 0), .fam (famD dLListInt 0 c2q18))] 18 (by kernel_rfl) [(0, 1)] [] (iS r1964.1) [(1, .row 3 (fl r1964.2)), (1, .dead)] (by simp only [push_cast, leL_flD, renL_flD, seval]) (by simp only [push_cast, leL_flD, renL_flD, seval]) (by kernel_rfl) (.inl rfl) (by simp only [push_cast, leL_flD, renL_flD, seval]) (by simp only [push_cast, leL_flD, renL_flD, seval]) ?_
                refine chk_sx h (fun g1966 h => ?_)
                have e1965 : c1q23.length = r1964.2.length := (of_decide_eq_true g1966).symm
                refine run_eqF 14 (.own 1 0 c1q23.length) (.own 1 0 r1964.2.length) (congrArg (fun nq => (.own 1 0 nq : SV)) (show c1q23.length = r1964.2.length from e1965)) (by kernel_rfl) ?_
                refine chk_sx h (fun g1968 h => ?_)
                have k1967 : ((ixD c2q18 (ix picks t67q7)) ++ ([r1964.1] : List Int)).length * 8 ≤ 140737488355328 := by first | simpa only [Bool.and_eq_true, decide_eq_true_eq, bne_iff_ne, ne_eq] using g1968 | (simp at g1968 ⊢; omega)
                refine chk_sx h (fun g1970 h => ?_)
                have k1969 : 0 ≤ (ix picks t67q7) ∧ (ix picks t67q7) < ((c2q18.length : Nat) : Int) := by first | simpa only [Bool.and_eq_true, decide_eq_true_eq, bne_iff_ne, ne_eq] using g1970 | (simp at g1970 ⊢; omega)
                refine rs 3 [none, some ⟨.own 22 0 ((ixD c2q18 (ix picks t67q7)) ++ ([r1964.1] : List Int)).length, [(22, .row 3 (fl ((ixD c2q18 (ix picks t67q7)) ++ ([r1964.1] : List Int)))), ((.s 3 0), .fam (upI (famD dLListInt 0 c2q18) (ix picks t67q7) (.dead)))], 23, [(.s 3 0), 20]⟩, some ⟨.ptr 2 (0 + ((ix picks t67q7)).toNat * 1), [], 24, [2]⟩] _ (by kernel_rfl) (allP_cons (ob_ix_o 2 c2q18.length 0 1 24 (ix picks t67q7) k1969) (allP_cons (ob_appM (P := Try.prog) dLListInt 0 c2q18 (ix picks t67q7) 3 (ixD c2q18 (ix picks t67q7)) ([r1964.1] : List Int) 1 8 rfl (appCells (fl ([r1964.1] : List Int)) 0 (([r1964.1] : List Int).length * 1)) ([r1964.1] : List Int).length (app_own ([r1964.1] : List Int) 1 rfl) rfl (0 + ([r1964.1] : List Int).length * 1 ≤ (fl ([r1964.1] : List Int)).length) (app_own_le ([r1964.1] : List Int) 1 rfl) 3 (by kernel_rfl) (by decide) k1967 22 [20]) allP_nil)) ?_
                refine run_opGb none _ ⟨.any, [(2, .row 22 (flN dLListInt (nA [(some 3)] [(some (Nm.t 22))] (ix picks t67q7)) 0 (c2q18.set (ix picks t67q7).toNat (((ixD c2q18 (ix picks t67q7)) ++ ([r1964.1] : List Int)) : (List Int)))))], 25, [2]⟩ [((.s 25 0), .fam (famD dLListInt 0 (c2q18.set (ix picks t67q7).toNat (((ixD c2q18 (ix picks t67q7)) ++ ([r1964.1] : List Int)) : (List Int))))), (2, .row 22 (flD dLListInt [25] (c2q18.set (ix picks t67q7).toNat (((ixD c2q18 (ix picks t67q7)) ++ ([r1964.1] : List Int)) : (List Int))))), ((.s 3 0), .dead), (22, .dead)] 1 [2, (.s 3 0), 22] [(.s 3 0), 22] (by kernel_rfl) (ob_stN (P := Try.prog) dLListInt [3] [(some (Nm.t 22))] c2q18 (ix picks t67q7) 1 0 (0 + ((ix picks t67q7)).toNat * 1) k1969 rfl [.own 22 0 ((ixD c2q18 (ix picks t67q7)) ++ ([r1964.1] : List Int)).length] (((ixD c2q18 (ix picks t67q7)) ++ ([r1964.1] : List Int)) : (List Int)) (Nat.le_of_ble_eq_true rfl) (by first | rfl | omega) rfl rfl 2 25 22 22 (by kernel_rfl) rfl) (ghost_A 25 dLListInt (c2q18.set (ix picks t67q7).toNat (((ixD c2q18 (ix picks t67q7)) ++ ([r1964.1] : List Int)) : (List Int))) 2 22 [(some 3)] [(some (Nm.t 22))] (ix picks t67q7) (flD dLListInt [25] (c2q18.set (ix picks t67q7).toNat (((ixD c2q18 (ix picks t67q7)) ++ ([r1964.1] : List Int)) : (List Int)))) 0 (some 3) (some 22) (by kernel_rfl) (flN_done dLListInt [25] (ix picks t67q7) (c2q18.set (ix picks t67q7).toNat (((ixD c2q18 (ix picks t67q7)) ++ ([r1964.1] : List Int)) : (List Int))) rfl) (by kernel_rfl) ⟨_, (by kernel_rfl), (off_hole c2q18 (ix picks t67q7) (((ixD c2q18 (ix picks t67q7)) ++ ([r1964.1] : List Int)) : (List Int)) k1969 (.dead))⟩ (S_set (fun a => getH _ (.t 22) = chD dLListInt 0 a) k1969 rfl)) (by kernel_rfl) (And.intro (born_fam (upI (famD dLListInt 0 c2q18) (ix picks t67q7) (.dead)) (by kernel_rfl)) (And.intro (by kernel_rfl) trivial)) ?_
                refine run_eqF 15 (.own 2 0 c2q18.length) (.own 2 0 (c2q18.set (ix picks t67q7).toNat (((ixD c2q18 (ix picks t67q7)) ++ ([r1964.1] : List Int)) : (List Int))).length) (congrArg (fun nq => (.own 2 0 nq : SV)) (show c2q18.length = (c2q18.set (ix picks t67q7).toNat (((ixD c2q18 (ix picks t67q7)) ++ ([r1964.1] : List Int)) : (List Int))).length from (List.length_set ..).symm)) (by kernel_rfl) ?_
                refine rt [(1, .sl tasks.length (fl tasks)), (8, .ptr 0 0), (14, .own 1 0 r1964.2.length), (15, .own 2 0 (c2q18.set (ix picks t67q7).toNat (((ixD c2q18 (ix picks t67q7)) ++ ([r1964.1] : List Int)) : (List Int))).length), (65, .sl picks.length (fl picks)), (66, iS ((picks.length : Nat) : Int)), (67, iS t67q7)] [(0, .row 28 [iS 0, iS 0]), (1, .row 3 (fl r1964.2)), (2, .row 22 (flD dLListInt [25] (c2q18.set (ix picks t67q7).toNat (((ixD c2q18 (ix picks t67q7)) ++ ([r1964.1] : List Int)) : (List Int))))), ((.s 3 0), .dead), (20, .row 3 (fl ([r1964.1] : List Int))), (22, .dead), ((.s 25 0), .fam (famD dLListInt 0 (c2q18.set (ix picks t67q7).toNat (((ixD c2q18 (ix picks t67q7)) ++ ([r1964.1] : List Int)) : (List Int)))))] 27 follows (by kernel_rfl) ?_
                exact hK1932 (r1964.2, (c2q18.set (ix picks t67q7).toNat (((ixD c2q18 (ix picks t67q7)) ++ ([r1964.1] : List Int)) : (List Int)))) _ _ _ h (leSt_m [(0, 0), (1, 1), (2, 2), ((.s 3 0), (.s 25 0))] [] (by simp only [push_cast, leL_flD, renL_flD, seval]) (by simp only [push_cast, leL_flD, renL_flD, seval]) rfl rfl rfl)
              · exact hK1932 (c1q23, c2q18) _ _ _ h (leSt_m [(0, 0), (1, 1), (2, 2), ((.s 3 0), (.s 3 0))] [] (by simp only [push_cast, leL_flD, renL_flD, seval]) (by simp only [push_cast, leL_flD, renL_flD, seval]) rfl rfl rfl)
            · rintro ⟨c1q25, c2q20⟩ h
              try dsimp only at h ⊢
              unfold cell_Mix_j1 at h
              refine wk_id ?_
              refine reg_f ?_
              refine rs 2 [] [] (by kernel_rfl) allP_nil ?_
              refine rf [(1, .sl tasks.length (fl tasks)), (8, .ptr 0 0), (14, .own 1 0 c1q25.length), (15, .own 2 0 c2q20.length), (65, .sl picks.length (fl picks)), (66, iS ((picks.length : Nat) : Int)), (67, iS (IntKind.i64.wrap (t67q7 + 1)))] [(0, .row 28 [iS 0, iS 0]), (1, .row 3 (fl c1q25)), (2, .row 22 (flD dLListInt [3] c2q20)), ((.s 3 0), .fam (famD dLListInt 0 c2q20))] 4 (by kernel_rfl) ?_
              exact hn6 ((IntKind.i64.wrap (t67q7 + 1)), c1q25, c2q20) _ _ _ (Option.some.inj h).symm (leSt_m [(0, 0), (1, 1), (2, 2), ((.s 3 0), (.s 3 0))] [] (by simp only [push_cast, leL_flD, renL_flD, seval]) (by simp only [push_cast, leL_flD, renL_flD, seval]) rfl rfl rfl)
          · change R6 (.exit 4) _ _ _
            refine ex_cast hx6 (id := 4) ?_
            obtain ⟨r0, h, e0⟩ := map_sx h
            have e1 := hr6 r0 e0.symm
            subst r0
            refine wk_id ?_
            refine wk_id ?_
            refine seq_np ?_
            refine reg_f ?_
            refine rs 6 [] [] (by kernel_rfl) allP_nil ?_
            refine rf [(6, .own 1 0 c1q23.length), (7, .own 2 0 c2q18.length), (8, .ptr 0 0)] [(0, .row 28 [iS 0, iS 0]), (1, .row 3 (fl c1q23)), (2, .row 22 (flD dLListInt [3] c2q18)), ((.s 3 0), .fam (famD dLListInt 0 c2q18))] 4 (by kernel_rfl) ?_
            refine wk_id ?_
            obtain rfl := Option.some.inj h
            refine ret_at (.tup [.own 1 0 c1q23.length, .own 2 0 c2q18.length, .agg [iS 0, iS 0]]) (by kernel_rfl) ?_
            exact ret_e [(0, 1), (1, 2), ((.s 2 0), (.s 3 0))] [] (by simp only [push_cast, leL_flD, renL_flD, seval]) (by simp only [push_cast, leL_flD, renL_flD, seval]) rfl rfl rfl

set_option maxRecDepth 100000 in
set_option maxHeartbeats 200000000 in
theorem taskmilllaw_CellAdds_spec (mem : (List Int)) (adds : (List (List Int))) (picks : (List Int)) (r : Bool) (h : taskmilllaw_CellAdds mem adds picks = some r) : SpecW Try.prog 9 [.sl mem.length (fl mem), .sl adds.length (fl adds), .sl picks.length (fl picks)] [] 0 (fun x h n => x = bS r ∧ h = [] ∧ n = 0) := by
  unfold taskmilllaw_CellAdds at h
  refine spec_of (draw_ok _) Try.func9 rfl (by decide) rfl (by kernel_rfl) ?_
  refine seq_np ?_
  refine reg_f ?_
  refine rs 1 [] [] (by kernel_rfl) allP_nil ?_
  refine rf [(0, .sl mem.length (fl mem)), (1, .sl adds.length (fl adds)), (2, .sl picks.length (fl picks))] [] 0 (by kernel_rfl) ?_
  refine wk_id ?_
  refine seq_np ?_
  refine seq_np ?_
  refine reg_f ?_
  obtain ⟨r3809, hr3809, h⟩ := bind_sx h
  refine run_call 10 [] (some 18) (by kernel_rfl) ?_
  refine call_0 (taskmilllaw_cellBegun_spec r3809 hr3809) (by simp only [push_cast, leL_flD, renL_flD, seval]) (by simp only [push_cast, leL_flD, renL_flD, seval]) ?_
  refine back_f ?_
  refine rs 1 [] [] (by kernel_rfl) allP_nil ?_
  refine rf [(0, .sl mem.length (fl mem)), (1, .sl adds.length (fl adds)), (2, .sl picks.length (fl picks)), (19, bS (!r3809))] [] 0 (by kernel_rfl) ?_
  refine wk_id ?_
  refine cond_sx h (by kernel_rfl) (fun g4889 h => ?_) (fun g4889 h => ?_)
  · refine seq_np ?_
    refine reg_f ?_
    refine rs 1 [] [] (by kernel_rfl) allP_nil ?_
    refine rf [(6, bS false)] [] 0 (by kernel_rfl) ?_
    refine wk_id ?_
    obtain rfl := Option.some.inj h
    refine ret_at (bS false) (by kernel_rfl) ?_
    exact ret_e [] [] (by simp only [push_cast, leL_flD, renL_flD, seval]) (by simp only [push_cast, leL_flD, renL_flD, seval]) rfl rfl rfl
  · refine wk_id ?_
    refine seq_np ?_
    refine seq_cut (A := Unit) (fun _ => ([(0, .sl mem.length (fl mem)), (1, .sl adds.length (fl adds)), (2, .sl picks.length (fl picks)), (37, bS ((decide (((mem.length : Nat) : Int) < 1)) || ((decide ((32 : Int) < ((mem.length : Nat) : Int))) || ((decide ((20 : Int) < ((adds.length : Nat) : Int))) || (decide ((1000 : Int) < ((picks.length : Nat) : Int)))))))], [], 0)) (fun _ => True) (fun K3817 hK3817 => ?_) (fun _ _ => ?_)
    · refine reg_f ?_
      refine rs 4 [] [] (by kernel_rfl) allP_nil ?_
      refine run_split 23 (decide (((mem.length : Nat) : Int) < 1)) (.inl (by kernel_rfl)) (fun g3818 => ?_) (fun g3818 => ?_)
      · refine rs 14 [] [] (by kernel_rfl) allP_nil ?_
        refine rf [(0, .sl mem.length (fl mem)), (1, .sl adds.length (fl adds)), (2, .sl picks.length (fl picks)), (37, bS true)] [] 0 (by kernel_rfl) ?_
        exact hK3817 () _ _ _ trivial (leSt_m [] [] (by (try simp only [g3818]) <;> simp only [push_cast, leL_flD, renL_flD, seval]) (by (try simp only [g3818]) <;> simp only [push_cast, leL_flD, renL_flD, seval]) rfl rfl rfl)
      · refine rs 5 [] [] (by kernel_rfl) allP_nil ?_
        refine run_split 28 (decide ((32 : Int) < ((mem.length : Nat) : Int))) (.inl (by kernel_rfl)) (fun g3819 => ?_) (fun g3819 => ?_)
        · refine rs 9 [] [] (by kernel_rfl) allP_nil ?_
          refine rf [(0, .sl mem.length (fl mem)), (1, .sl adds.length (fl adds)), (2, .sl picks.length (fl picks)), (37, bS true)] [] 0 (by kernel_rfl) ?_
          exact hK3817 () _ _ _ trivial (leSt_m [] [] (by first | ((try simp only [g3818, g3819]) <;> simp only [push_cast, leL_flD, renL_flD, seval]; done) | ((try simp only [g3818]); (try simp only [g3819]); simp only [push_cast, leL_flD, renL_flD, seval]; done) | (exfalso; clear h; simp_all; done)) (by first | ((try simp only [g3818, g3819]) <;> simp only [push_cast, leL_flD, renL_flD, seval]; done) | ((try simp only [g3818]); (try simp only [g3819]); simp only [push_cast, leL_flD, renL_flD, seval]; done) | (exfalso; clear h; simp_all; done)) rfl rfl rfl)
        · refine rs 5 [] [] (by kernel_rfl) allP_nil ?_
          refine run_split 33 (decide ((20 : Int) < ((adds.length : Nat) : Int))) (.inl (by kernel_rfl)) (fun g3820 => ?_) (fun g3820 => ?_)
          · refine rn 14 [(0, .sl mem.length (fl mem)), (1, .sl adds.length (fl adds)), (2, .sl picks.length (fl picks)), (33, bS true)] [] 0 (by kernel_rfl) ?_
            refine rs 4 [] [] (by kernel_rfl) allP_nil ?_
            refine rf [(0, .sl mem.length (fl mem)), (1, .sl adds.length (fl adds)), (2, .sl picks.length (fl picks)), (37, bS true)] [] 0 (by kernel_rfl) ?_
            exact hK3817 () _ _ _ trivial (leSt_m [] [] (by first | ((try simp only [g3818, g3819, g3820]) <;> simp only [push_cast, leL_flD, renL_flD, seval]; done) | ((try simp only [g3818]); (try simp only [g3819]); (try simp only [g3820]); simp only [push_cast, leL_flD, renL_flD, seval]; done) | (exfalso; clear h; simp_all; done)) (by first | ((try simp only [g3818, g3819, g3820]) <;> simp only [push_cast, leL_flD, renL_flD, seval]; done) | ((try simp only [g3818]); (try simp only [g3819]); (try simp only [g3820]); simp only [push_cast, leL_flD, renL_flD, seval]; done) | (exfalso; clear h; simp_all; done)) rfl rfl rfl)
          · refine rn 14 [(0, .sl mem.length (fl mem)), (1, .sl adds.length (fl adds)), (2, .sl picks.length (fl picks)), (33, bS false)] [] 0 (by kernel_rfl) ?_
            refine rs 4 [] [] (by kernel_rfl) allP_nil ?_
            refine rf [(0, .sl mem.length (fl mem)), (1, .sl adds.length (fl adds)), (2, .sl picks.length (fl picks)), (37, bS (decide ((1000 : Int) < ((picks.length : Nat) : Int))))] [] 0 (by kernel_rfl) ?_
            exact hK3817 () _ _ _ trivial (leSt_m [] [] (by first | ((try simp only [g3818, g3819, g3820]) <;> simp only [push_cast, leL_flD, renL_flD, seval]; done) | ((try simp only [g3818]); (try simp only [g3819]); (try simp only [g3820]); simp only [push_cast, leL_flD, renL_flD, seval]; done) | (exfalso; clear h; simp_all; done)) (by first | ((try simp only [g3818, g3819, g3820]) <;> simp only [push_cast, leL_flD, renL_flD, seval]; done) | ((try simp only [g3818]); (try simp only [g3819]); (try simp only [g3820]); simp only [push_cast, leL_flD, renL_flD, seval]; done) | (exfalso; clear h; simp_all; done)) rfl rfl rfl)
    · dsimp only
      refine cond_sx h (by kernel_rfl) (fun g4888 h => ?_) (fun g4888 h => ?_)
      · refine seq_np ?_
        refine reg_f ?_
        refine rs 1 [] [] (by kernel_rfl) allP_nil ?_
        refine rf [(6, bS true)] [] 0 (by kernel_rfl) ?_
        refine wk_id ?_
        obtain rfl := Option.some.inj h
        refine ret_at (bS true) (by kernel_rfl) ?_
        exact ret_e [] [] (by simp only [push_cast, leL_flD, renL_flD, seval]) (by simp only [push_cast, leL_flD, renL_flD, seval]) rfl rfl rfl
      · refine wk_id ?_
        refine seq_np ?_
        refine reg_f ?_
        refine rs 1 [] [] (by kernel_rfl) allP_nil ?_
        refine rf [(0, .sl mem.length (fl mem)), (1, .sl adds.length (fl adds)), (2, .sl picks.length (fl picks)), (7, .v (.slice none 0 0))] [] 0 (by kernel_rfl) ?_
        refine wk_id ?_
        refine seq_np ?_
        refine reg_f ?_
        refine rs 1 [] [] (by kernel_rfl) allP_nil ?_
        refine rf [(0, .sl mem.length (fl mem)), (1, .sl adds.length (fl adds)), (2, .sl picks.length (fl picks)), (7, .v (.slice none 0 0)), (8, .v (.slice none 0 0))] [] 0 (by kernel_rfl) ?_
        refine wk_id ?_
        refine seq_np ?_
        refine reg_f ?_
        refine rs 1 [] [] (by kernel_rfl) allP_nil ?_
        obtain ⟨r3822, hr3822, h⟩ := bind_sx h
        refine call_x (taskmilllaw_own_spec mem r3822 hr3822) (args := [.sl mem.length (fl mem)]) (dst := (some 39)) (by kernel_rfl) [] 0 (by kernel_rfl) [] [] (.own 0 0 r3822.length) [(0, .row 3 (fl r3822))] (by simp only [push_cast, leL_flD, renL_flD, seval]) (by simp only [push_cast, leL_flD, renL_flD, seval]) (by kernel_rfl) (.inl rfl) (by simp only [push_cast, leL_flD, renL_flD, seval]) (by simp only [push_cast, leL_flD, renL_flD, seval]) ?_
        refine rs 1 [] [] (by kernel_rfl) allP_nil ?_
        refine rf [(0, .sl mem.length (fl mem)), (1, .sl adds.length (fl adds)), (2, .sl picks.length (fl picks)), (7, .v (.slice none 0 0)), (8, .v (.slice none 0 0)), (9, .own 0 0 r3822.length)] [(0, .row 3 (fl r3822))] 1 (by kernel_rfl) ?_
        refine wk_id ?_
        refine seq_np ?_
        refine seq_np ?_
        refine reg_f ?_
        refine rs 1 [] [] (by kernel_rfl) allP_nil ?_
        refine rf [(0, .sl mem.length (fl mem)), (1, .sl adds.length (fl adds)), (2, .sl picks.length (fl picks)), (7, .v (.slice none 0 0)), (8, .v (.slice none 0 0)), (9, .own 0 0 r3822.length), (10, iS 0)] [(0, .row 3 (fl r3822))] 1 (by kernel_rfl) ?_
        refine wk_id ?_
        refine block_np ?_
        refine loop_sx (S := Int × (List (List GOp)) × (List Int) × (List Int)) (fun a => ([(0, .sl mem.length (fl mem)), (1, .sl adds.length (fl adds)), (2, .sl picks.length (fl picks)), (7, .own 0 0 a.2.1.length), (8, .own 1 0 a.2.2.1.length), (9, .own 2 0 a.2.2.2.length), (10, iS a.1)], [(0, .row 39 (fl a.2.1)), (1, .row 3 (fl a.2.2.1)), (2, .row 3 (fl a.2.2.2))], 3)) h (leSt_m [(2, 0)] [] (by simp only [push_cast, leL_flD, renL_flD, seval]) (by simp only [push_cast, leL_flD, renL_flD, seval]) rfl rfl rfl) ?_
        rintro ⟨i9, c0q19, c1q29, c2q29⟩ o4 R4 h hr4 hn4 hx4 ht4
        try dsimp only at h hn4 ⊢
        unfold taskmilllaw_CellAdds_l3 at h
        try dsimp only at h
        refine seq_np ?_
        refine seq_np ?_
        refine reg_f ?_
        refine rs 4 [] [] (by kernel_rfl) allP_nil ?_
        refine rf [(0, .sl mem.length (fl mem)), (1, .sl adds.length (fl adds)), (2, .sl picks.length (fl picks)), (7, .own 0 0 c0q19.length), (8, .own 1 0 c1q29.length), (9, .own 2 0 c2q29.length), (10, iS i9), (43, bS (decide (i9 < ((adds.length : Nat) : Int))))] [(0, .row 39 (fl c0q19)), (1, .row 3 (fl c1q29)), (2, .row 3 (fl c2q29))] 3 (by kernel_rfl) ?_
        refine wk_id ?_
        refine cond_sx h (by kernel_rfl) (fun g4887 h => ?_) (fun g4887 h => ?_)
        · refine wk_id ?_
          refine seq_np ?_
          refine block_np ?_
          refine seq_np ?_
          refine chk_sx h (fun g4531 h => ?_)
          refine seq_np ?_
          refine reg_f ?_
          have k4530 : 0 ≤ i9 ∧ i9 < ((adds.length : Nat) : Int) := by first | simpa only [Bool.and_eq_true, decide_eq_true_eq, bne_iff_ne, ne_eq] using g4531 | (simp at g4531 ⊢; omega)
          refine rs 6 [none, none, some ⟨.iptr (fl adds) ((i9).toNat * 1), [], 3, []⟩, some ⟨.sl (ix adds i9).length (fl (ix adds i9)), [], 3, []⟩] _ (by kernel_rfl) (allP_cons (ob_ld adds i9 1 0 ((i9).toNat * 1) k4530 rfl (by decide) (by first | rfl | omega) (dflS Try.prog 22) (.sl (ix adds i9).length (fl (ix adds i9))) rfl 3 []) (allP_cons (ob_ix_l adds 1 3 i9 k4530) allP_nil)) ?_
          refine rf [(0, .sl mem.length (fl mem)), (1, .sl adds.length (fl adds)), (2, .sl picks.length (fl picks)), (7, .own 0 0 c0q19.length), (8, .own 1 0 c1q29.length), (9, .own 2 0 c2q29.length), (10, iS i9), (51, bS (decide ((20 : Int) < (((ix adds i9).length : Nat) : Int))))] [(0, .row 39 (fl c0q19)), (1, .row 3 (fl c1q29)), (2, .row 3 (fl c2q29))] 3 (by kernel_rfl) ?_
          refine wk_id ?_
          refine cond_sx h (by kernel_rfl) (fun g4787 h => ?_) (fun g4787 h => ?_)
          · refine seq_np ?_
            refine reg_f ?_
            refine rs 1 [] [] (by kernel_rfl) allP_nil ?_
            refine rf [(6, bS true)] [(0, .row 39 (fl c0q19)), (1, .row 3 (fl c1q29)), (2, .row 3 (fl c2q29))] 3 (by kernel_rfl) ?_
            refine wk_id ?_
            refine rt_cast ht4 ?_
            obtain ⟨r0, h, e0⟩ := map_sx h
            have e1 := hr4 r0 e0.symm
            subst r0
            obtain rfl := Option.some.inj h
            refine ret_at (bS true) (by kernel_rfl) ?_
            exact ret_e [] [] (by simp only [push_cast, leL_flD, renL_flD, seval]) (by simp only [push_cast, leL_flD, renL_flD, seval]) rfl rfl rfl
          · refine wk_id ?_
            refine seq_np ?_
            refine reg_f ?_
            refine rs 1 [] [] (by kernel_rfl) allP_nil ?_
            refine rf [(0, .sl mem.length (fl mem)), (1, .sl adds.length (fl adds)), (2, .sl picks.length (fl picks)), (7, .own 0 0 c0q19.length), (8, .own 1 0 c1q29.length), (9, .own 2 0 c2q29.length), (10, iS i9), (11, .v (.slice none 0 0))] [(0, .row 39 (fl c0q19)), (1, .row 3 (fl c1q29)), (2, .row 3 (fl c2q29))] 3 (by kernel_rfl) ?_
            refine wk_id ?_
            refine seq_np ?_
            refine seq_np ?_
            refine reg_f ?_
            refine rs 1 [] [] (by kernel_rfl) allP_nil ?_
            refine rf [(0, .sl mem.length (fl mem)), (1, .sl adds.length (fl adds)), (2, .sl picks.length (fl picks)), (7, .own 0 0 c0q19.length), (8, .own 1 0 c1q29.length), (9, .own 2 0 c2q29.length), (10, iS i9), (11, .v (.slice none 0 0)), (12, iS 0)] [(0, .row 39 (fl c0q19)), (1, .row 3 (fl c1q29)), (2, .row 3 (fl c2q29))] 3 (by kernel_rfl) ?_
            refine wk_id ?_
            refine block_np ?_
            refine loop_sx (S := Int × (List Int) × (List Int) × (List GOp)) (fun a => ([(0, .sl mem.length (fl mem)), (1, .sl adds.length (fl adds)), (2, .sl picks.length (fl picks)), (7, .own 0 0 c0q19.length), (8, .own 1 0 a.2.1.length), (9, .own 2 0 a.2.2.1.length), (10, iS i9), (11, .own 3 0 a.2.2.2.length), (12, iS a.1)], [(0, .row 39 (fl c0q19)), (1, .row 3 (fl a.2.1)), (2, .row 3 (fl a.2.2.1)), (3, .row 50 (fl a.2.2.2))], 4)) h (leSt_m [(0, 0), (1, 1), (2, 2)] [] (by simp only [push_cast, leL_flD, renL_flD, seval]) (by simp only [push_cast, leL_flD, renL_flD, seval]) rfl rfl rfl) ?_
            rintro ⟨k31, c1q39, c2q39, c3q23⟩ o5 R5 h hr5 hn5 hx5 ht5
            try dsimp only at h hn5 ⊢
            unfold taskmilllaw_CellAdds_l1 at h
            try dsimp only at h
            refine seq_np ?_
            refine chk_sx h (fun g4709 h => ?_)
            refine seq_np ?_
            refine reg_f ?_
            have k4708 : 0 ≤ i9 ∧ i9 < ((adds.length : Nat) : Int) := by first | simpa only [Bool.and_eq_true, decide_eq_true_eq, bne_iff_ne, ne_eq] using g4709 | (simp at g4709 ⊢; omega)
            refine rs 7 [none, none, none, some ⟨.iptr (fl adds) ((i9).toNat * 1), [], 4, []⟩, some ⟨.sl (ix adds i9).length (fl (ix adds i9)), [], 4, []⟩] _ (by kernel_rfl) (allP_cons (ob_ld adds i9 1 0 ((i9).toNat * 1) k4708 rfl (by decide) (by first | rfl | omega) (dflS Try.prog 22) (.sl (ix adds i9).length (fl (ix adds i9))) rfl 4 []) (allP_cons (ob_ix_l adds 1 4 i9 k4708) allP_nil)) ?_
            refine rf [(0, .sl mem.length (fl mem)), (1, .sl adds.length (fl adds)), (2, .sl picks.length (fl picks)), (7, .own 0 0 c0q19.length), (8, .own 1 0 c1q39.length), (9, .own 2 0 c2q39.length), (10, iS i9), (11, .own 3 0 c3q23.length), (12, iS k31), (58, bS (decide (k31 < (((ix adds i9).length : Nat) : Int))))] [(0, .row 39 (fl c0q19)), (1, .row 3 (fl c1q39)), (2, .row 3 (fl c2q39)), (3, .row 50 (fl c3q23))] 4 (by kernel_rfl) ?_
            refine wk_id ?_
            refine cond_sx h (by kernel_rfl) (fun g4786 h => ?_) (fun g4786 h => ?_)
            · refine wk_id ?_
              refine seq_np ?_
              refine block_np ?_
              refine chk_sx h (fun g4749 h => ?_)
              refine seq_np ?_
              refine reg_f ?_
              have k4748 : ((mem.length : Nat) : Int) ≠ 0 := by first | simpa only [Bool.and_eq_true, decide_eq_true_eq, bne_iff_ne, ne_eq] using g4749 | (simp at g4749 ⊢; omega)
              refine rs 5 [none, none, none, some ⟨iS (Int.tmod k31 ((mem.length : Nat) : Int)), [], 4, []⟩] _ (by kernel_rfl) (allP_cons (ob_p (v := iS (Int.tmod k31 ((mem.length : Nat) : Int))) (nx := 4) (r := []) k4748) allP_nil) ?_
              refine rf [(0, .sl mem.length (fl mem)), (1, .sl adds.length (fl adds)), (2, .sl picks.length (fl picks)), (7, .own 0 0 c0q19.length), (8, .own 1 0 c1q39.length), (9, .own 2 0 c2q39.length), (10, iS i9), (11, .own 3 0 c3q23.length), (12, iS k31), (13, iS (Int.tmod k31 ((mem.length : Nat) : Int)))] [(0, .row 39 (fl c0q19)), (1, .row 3 (fl c1q39)), (2, .row 3 (fl c2q39)), (3, .row 50 (fl c3q23))] 4 (by kernel_rfl) ?_
              refine wk_id ?_
              refine chk_sx h (fun g4757 h => ?_)
              refine chk_sx h (fun g4759 h => ?_)
              refine chk_sx h (fun g4761 h => ?_)
              refine seq_np ?_
              refine reg_f ?_
              have k4756 : 0 ≤ i9 ∧ i9 < ((adds.length : Nat) : Int) := by first | simpa only [Bool.and_eq_true, decide_eq_true_eq, bne_iff_ne, ne_eq] using g4757 | (simp at g4757 ⊢; omega)
              have k4758 : 0 ≤ k31 ∧ k31 < (((ix adds i9).length : Nat) : Int) := by first | simpa only [Bool.and_eq_true, decide_eq_true_eq, bne_iff_ne, ne_eq] using g4759 | (simp at g4759 ⊢; omega)
              have k4760 : (c3q23 ++ ([(GOp.mk 3 (Int.tmod k31 ((mem.length : Nat) : Int)) (ix (ix adds i9) k31) 0)] : List GOp)).length * 32 ≤ 140737488355328 := by first | simpa only [Bool.and_eq_true, decide_eq_true_eq, bne_iff_ne, ne_eq] using g4761 | (simp at g4761 ⊢; omega)
              refine rs 13 [none, none, none, none, some ⟨.iptr (fl adds) ((i9).toNat * 1), [], 4, []⟩, some ⟨.sl (ix adds i9).length (fl (ix adds i9)), [], 4, []⟩, none, some ⟨.iptr (fl (ix adds i9)) ((k31).toNat * 1), [], 4, []⟩, some ⟨iS (ix (ix adds i9) k31), [], 4, []⟩, none, none, some ⟨.own 5 0 (c3q23 ++ ([(GOp.mk 3 (Int.tmod k31 ((mem.length : Nat) : Int)) (ix (ix adds i9) k31) 0)] : List GOp)).length, [(5, .row 50 (fl (c3q23 ++ ([(GOp.mk 3 (Int.tmod k31 ((mem.length : Nat) : Int)) (ix (ix adds i9) k31) 0)] : List GOp)))), (3, .dead)], 6, [3, 4]⟩] _ (by kernel_rfl) (allP_cons (ob_app (P := Try.prog) c3q23 ([(GOp.mk 3 (Int.tmod k31 ((mem.length : Nat) : Int)) (ix (ix adds i9) k31) 0)] : List GOp) 4 32 rfl (appCells (fl ([(GOp.mk 3 (Int.tmod k31 ((mem.length : Nat) : Int)) (ix (ix adds i9) k31) 0)] : List GOp)) 0 (([(GOp.mk 3 (Int.tmod k31 ((mem.length : Nat) : Int)) (ix (ix adds i9) k31) 0)] : List GOp).length * 4)) ([(GOp.mk 3 (Int.tmod k31 ((mem.length : Nat) : Int)) (ix (ix adds i9) k31) 0)] : List GOp).length (app_own ([(GOp.mk 3 (Int.tmod k31 ((mem.length : Nat) : Int)) (ix (ix adds i9) k31) 0)] : List GOp) 4 rfl) rfl (0 + ([(GOp.mk 3 (Int.tmod k31 ((mem.length : Nat) : Int)) (ix (ix adds i9) k31) 0)] : List GOp).length * 4 ≤ (fl ([(GOp.mk 3 (Int.tmod k31 ((mem.length : Nat) : Int)) (ix (ix adds i9) k31) 0)] : List GOp)).length) (app_own_le ([(GOp.mk 3 (Int.tmod k31 ((mem.length : Nat) : Int)) (ix (ix adds i9) k31) 0)] : List GOp) 4 rfl) 50 (by kernel_rfl) (by decide) k4760 3 5 [4]) (allP_cons (ob_ld (ix adds i9) k31 1 0 ((k31).toNat * 1) k4758 rfl (by decide) (by first | rfl | omega) (dflS Try.prog 3) (iS (ix (ix adds i9) k31)) rfl 4 []) (allP_cons (ob_ix_l (ix adds i9) 1 4 k31 k4758) (allP_cons (ob_ld adds i9 1 0 ((i9).toNat * 1) k4756 rfl (by decide) (by first | rfl | omega) (dflS Try.prog 22) (.sl (ix adds i9).length (fl (ix adds i9))) rfl 4 []) (allP_cons (ob_ix_l adds 1 4 i9 k4756) allP_nil))))) ?_
              refine rf [(0, .sl mem.length (fl mem)), (1, .sl adds.length (fl adds)), (2, .sl picks.length (fl picks)), (7, .own 0 0 c0q19.length), (8, .own 1 0 c1q39.length), (9, .own 2 0 c2q39.length), (10, iS i9), (11, .own 5 0 (c3q23 ++ ([(GOp.mk 3 (Int.tmod k31 ((mem.length : Nat) : Int)) (ix (ix adds i9) k31) 0)] : List GOp)).length), (12, iS k31), (13, iS (Int.tmod k31 ((mem.length : Nat) : Int)))] [(0, .row 39 (fl c0q19)), (1, .row 3 (fl c1q39)), (2, .row 3 (fl c2q39)), (3, .dead), (4, .row 50 (fl ([(GOp.mk 3 (Int.tmod k31 ((mem.length : Nat) : Int)) (ix (ix adds i9) k31) 0)] : List GOp))), (5, .row 50 (fl (c3q23 ++ ([(GOp.mk 3 (Int.tmod k31 ((mem.length : Nat) : Int)) (ix (ix adds i9) k31) 0)] : List GOp))))] 6 (by kernel_rfl) ?_
              refine wk_id ?_
              refine chk_sx h (fun g4771 h => ?_)
              refine chk_sx h (fun g4773 h => ?_)
              refine chk_sx h (fun g4775 h => ?_)
              refine chk_sx h (fun g4777 h => ?_)
              refine seq_np ?_
              refine reg_t ?_
              have k4770 : 0 ≤ (Int.tmod k31 ((mem.length : Nat) : Int)) ∧ (Int.tmod k31 ((mem.length : Nat) : Int)) < ((c2q39.length : Nat) : Int) := by first | simpa only [Bool.and_eq_true, decide_eq_true_eq, bne_iff_ne, ne_eq] using g4771 | (simp at g4771 ⊢; omega)
              have k4772 : 0 ≤ i9 ∧ i9 < ((adds.length : Nat) : Int) := by first | simpa only [Bool.and_eq_true, decide_eq_true_eq, bne_iff_ne, ne_eq] using g4773 | (simp at g4773 ⊢; omega)
              have k4774 : 0 ≤ k31 ∧ k31 < (((ix adds i9).length : Nat) : Int) := by first | simpa only [Bool.and_eq_true, decide_eq_true_eq, bne_iff_ne, ne_eq] using g4775 | (simp at g4775 ⊢; omega)
              have k4776 : 0 ≤ (Int.tmod k31 ((mem.length : Nat) : Int)) ∧ (Int.tmod k31 ((mem.length : Nat) : Int)) < ((c2q39.length : Nat) : Int) := by first | simpa only [Bool.and_eq_true, decide_eq_true_eq, bne_iff_ne, ne_eq] using g4777 | (simp at g4777 ⊢; omega)
              refine rs 16 [none, none, none, none, some ⟨.ptr 2 (0 + ((Int.tmod k31 ((mem.length : Nat) : Int))).toNat * 1), [], 10, [2]⟩, some ⟨iS (ix c2q39 (Int.tmod k31 ((mem.length : Nat) : Int))), [], 11, [2]⟩, none, none, some ⟨.iptr (fl adds) ((i9).toNat * 1), [], 14, []⟩, some ⟨.sl (ix adds i9).length (fl (ix adds i9)), [], 15, []⟩, none, some ⟨.iptr (fl (ix adds i9)) ((k31).toNat * 1), [], 17, []⟩, some ⟨iS (ix (ix adds i9) k31), [], 18, []⟩, none, some ⟨.ptr 2 (0 + ((Int.tmod k31 ((mem.length : Nat) : Int))).toNat * 1), [], 20, [2]⟩, some ⟨.any, [(2, .row 3 (fl (c2q39.set (Int.tmod k31 ((mem.length : Nat) : Int)).toNat (IntKind.i64.wrap ((ix c2q39 (Int.tmod k31 ((mem.length : Nat) : Int))) + (ix (ix adds i9) k31))))))], 21, [2]⟩] _ (by kernel_rfl) (allP_cons (ob_st (P := Try.prog) c2q39 (Int.tmod k31 ((mem.length : Nat) : Int)) 1 0 (0 + ((Int.tmod k31 ((mem.length : Nat) : Int))).toNat * 1) k4776 rfl [iS (IntKind.i64.wrap ((ix c2q39 (Int.tmod k31 ((mem.length : Nat) : Int))) + (ix (ix adds i9) k31)))] (IntKind.i64.wrap ((ix c2q39 (Int.tmod k31 ((mem.length : Nat) : Int))) + (ix (ix adds i9) k31))) (Nat.le_of_ble_eq_true rfl) (by first | rfl | omega) rfl 2 21 3 3 (by kernel_rfl) rfl) (allP_cons (ob_ix_o 2 c2q39.length 0 1 20 (Int.tmod k31 ((mem.length : Nat) : Int)) k4776) (allP_cons (ob_ld (ix adds i9) k31 1 0 ((k31).toNat * 1) k4774 rfl (by decide) (by first | rfl | omega) (dflS Try.prog 3) (iS (ix (ix adds i9) k31)) rfl 18 []) (allP_cons (ob_ix_l (ix adds i9) 1 17 k31 k4774) (allP_cons (ob_ld adds i9 1 0 ((i9).toNat * 1) k4772 rfl (by decide) (by first | rfl | omega) (dflS Try.prog 22) (.sl (ix adds i9).length (fl (ix adds i9))) rfl 15 []) (allP_cons (ob_ix_l adds 1 14 i9 k4772) (allP_cons (ob_ld c2q39 (Int.tmod k31 ((mem.length : Nat) : Int)) 1 0 (0 + ((Int.tmod k31 ((mem.length : Nat) : Int))).toNat * 1) k4770 rfl (by decide) (by first | rfl | omega) (dflS Try.prog 3) (iS (ix c2q39 (Int.tmod k31 ((mem.length : Nat) : Int)))) rfl 11 [2]) (allP_cons (ob_ix_o 2 c2q39.length 0 1 10 (Int.tmod k31 ((mem.length : Nat) : Int)) k4770) allP_nil)))))))) ?_
              refine run_eqF 9 (.own 2 0 c2q39.length) (.own 2 0 (c2q39.set (Int.tmod k31 ((mem.length : Nat) : Int)).toNat (IntKind.i64.wrap ((ix c2q39 (Int.tmod k31 ((mem.length : Nat) : Int))) + (ix (ix adds i9) k31)))).length) (congrArg (fun nq => (.own 2 0 nq : SV)) (show c2q39.length = (c2q39.set (Int.tmod k31 ((mem.length : Nat) : Int)).toNat (IntKind.i64.wrap ((ix c2q39 (Int.tmod k31 ((mem.length : Nat) : Int))) + (ix (ix adds i9) k31)))).length from (List.length_set ..).symm)) (by kernel_rfl) ?_
              refine rt [(0, .sl mem.length (fl mem)), (1, .sl adds.length (fl adds)), (2, .sl picks.length (fl picks)), (7, .own 0 0 c0q19.length), (8, .own 1 0 c1q39.length), (9, .own 2 0 (c2q39.set (Int.tmod k31 ((mem.length : Nat) : Int)).toNat (IntKind.i64.wrap ((ix c2q39 (Int.tmod k31 ((mem.length : Nat) : Int))) + (ix (ix adds i9) k31)))).length), (10, iS i9), (11, .own 5 0 (c3q23 ++ ([(GOp.mk 3 (Int.tmod k31 ((mem.length : Nat) : Int)) (ix (ix adds i9) k31) 0)] : List GOp)).length), (12, iS k31)] [(0, .row 39 (fl c0q19)), (1, .row 3 (fl c1q39)), (2, .row 3 (fl (c2q39.set (Int.tmod k31 ((mem.length : Nat) : Int)).toNat (IntKind.i64.wrap ((ix c2q39 (Int.tmod k31 ((mem.length : Nat) : Int))) + (ix (ix adds i9) k31)))))), (3, .dead), (4, .row 50 (fl ([(GOp.mk 3 (Int.tmod k31 ((mem.length : Nat) : Int)) (ix (ix adds i9) k31) 0)] : List GOp))), (5, .row 50 (fl (c3q23 ++ ([(GOp.mk 3 (Int.tmod k31 ((mem.length : Nat) : Int)) (ix (ix adds i9) k31) 0)] : List GOp))))] 22 follows (by kernel_rfl) ?_
              refine wk_id ?_
              refine chk_sx h (fun g4781 h => ?_)
              refine reg_f ?_
              have k4780 : (c1q39 ++ ([i9] : List Int)).length * 8 ≤ 140737488355328 := by first | simpa only [Bool.and_eq_true, decide_eq_true_eq, bne_iff_ne, ne_eq] using g4781 | (simp at g4781 ⊢; omega)
              refine rs 5 [none, none, none, some ⟨.own 23 0 (c1q39 ++ ([i9] : List Int)).length, [(23, .row 3 (fl (c1q39 ++ ([i9] : List Int)))), (1, .dead)], 24, [1, 22]⟩] _ (by kernel_rfl) (allP_cons (ob_app (P := Try.prog) c1q39 ([i9] : List Int) 1 8 rfl (appCells (fl ([i9] : List Int)) 0 (([i9] : List Int).length * 1)) ([i9] : List Int).length (app_own ([i9] : List Int) 1 rfl) rfl (0 + ([i9] : List Int).length * 1 ≤ (fl ([i9] : List Int)).length) (app_own_le ([i9] : List Int) 1 rfl) 3 (by kernel_rfl) (by decide) k4780 1 23 [22]) allP_nil) ?_
              refine rf [(0, .sl mem.length (fl mem)), (1, .sl adds.length (fl adds)), (2, .sl picks.length (fl picks)), (7, .own 0 0 c0q19.length), (8, .own 23 0 (c1q39 ++ ([i9] : List Int)).length), (9, .own 2 0 (c2q39.set (Int.tmod k31 ((mem.length : Nat) : Int)).toNat (IntKind.i64.wrap ((ix c2q39 (Int.tmod k31 ((mem.length : Nat) : Int))) + (ix (ix adds i9) k31)))).length), (10, iS i9), (11, .own 5 0 (c3q23 ++ ([(GOp.mk 3 (Int.tmod k31 ((mem.length : Nat) : Int)) (ix (ix adds i9) k31) 0)] : List GOp)).length), (12, iS k31)] [(0, .row 39 (fl c0q19)), (1, .dead), (2, .row 3 (fl (c2q39.set (Int.tmod k31 ((mem.length : Nat) : Int)).toNat (IntKind.i64.wrap ((ix c2q39 (Int.tmod k31 ((mem.length : Nat) : Int))) + (ix (ix adds i9) k31)))))), (3, .dead), (4, .row 50 (fl ([(GOp.mk 3 (Int.tmod k31 ((mem.length : Nat) : Int)) (ix (ix adds i9) k31) 0)] : List GOp))), (5, .row 50 (fl (c3q23 ++ ([(GOp.mk 3 (Int.tmod k31 ((mem.length : Nat) : Int)) (ix (ix adds i9) k31) 0)] : List GOp)))), (22, .row 3 (fl ([i9] : List Int))), (23, .row 3 (fl (c1q39 ++ ([i9] : List Int))))] 24 (by kernel_rfl) ?_
              refine wk_id ?_
              refine wk_id ?_
              refine reg_f ?_
              refine rs 3 [] [] (by kernel_rfl) allP_nil ?_
              refine rf [(0, .sl mem.length (fl mem)), (1, .sl adds.length (fl adds)), (2, .sl picks.length (fl picks)), (7, .own 0 0 c0q19.length), (8, .own 23 0 (c1q39 ++ ([i9] : List Int)).length), (9, .own 2 0 (c2q39.set (Int.tmod k31 ((mem.length : Nat) : Int)).toNat (IntKind.i64.wrap ((ix c2q39 (Int.tmod k31 ((mem.length : Nat) : Int))) + (ix (ix adds i9) k31)))).length), (10, iS i9), (11, .own 5 0 (c3q23 ++ ([(GOp.mk 3 (Int.tmod k31 ((mem.length : Nat) : Int)) (ix (ix adds i9) k31) 0)] : List GOp)).length), (12, iS (IntKind.i64.wrap (k31 + 1)))] [(0, .row 39 (fl c0q19)), (1, .dead), (2, .row 3 (fl (c2q39.set (Int.tmod k31 ((mem.length : Nat) : Int)).toNat (IntKind.i64.wrap ((ix c2q39 (Int.tmod k31 ((mem.length : Nat) : Int))) + (ix (ix adds i9) k31)))))), (3, .dead), (4, .row 50 (fl ([(GOp.mk 3 (Int.tmod k31 ((mem.length : Nat) : Int)) (ix (ix adds i9) k31) 0)] : List GOp))), (5, .row 50 (fl (c3q23 ++ ([(GOp.mk 3 (Int.tmod k31 ((mem.length : Nat) : Int)) (ix (ix adds i9) k31) 0)] : List GOp)))), (22, .row 3 (fl ([i9] : List Int))), (23, .row 3 (fl (c1q39 ++ ([i9] : List Int))))] 24 (by kernel_rfl) ?_
              exact hn5 ((IntKind.i64.wrap (k31 + 1)), (c1q39 ++ ([i9] : List Int)), (c2q39.set (Int.tmod k31 ((mem.length : Nat) : Int)).toNat (IntKind.i64.wrap ((ix c2q39 (Int.tmod k31 ((mem.length : Nat) : Int))) + (ix (ix adds i9) k31)))), (c3q23 ++ ([(GOp.mk 3 (Int.tmod k31 ((mem.length : Nat) : Int)) (ix (ix adds i9) k31) 0)] : List GOp))) _ _ _ (Option.some.inj h).symm (leSt_m [(0, 0), (1, 23), (2, 2), (3, 5)] [] (by simp only [push_cast, leL_flD, renL_flD, seval]) (by simp only [push_cast, leL_flD, renL_flD, seval]) rfl rfl rfl)
            · change R5 (.exit 2) _ _ _
              refine ex_cast hx5 (id := 2) ?_
              obtain ⟨r0, h, e0⟩ := map_sx h
              have e1 := hr5 r0 e0.symm
              subst r0
              refine wk_id ?_
              refine wk_mk [(0, .sl mem.length (fl mem)), (1, .sl adds.length (fl adds)), (2, .sl picks.length (fl picks)), (7, .own 0 0 c0q19.length), (8, .own 1 0 c1q39.length), (9, .own 2 0 c2q39.length), (10, iS i9), (11, .sl c3q23.length (fl c3q23)), (12, iS k31), (58, bS (decide (k31 < (((ix adds i9).length : Nat) : Int))))] [(0, .row 39 (fl c0q19)), (1, .row 3 (fl c1q39)), (2, .row 3 (fl c2q39))] 4 (leSt_m [(0, 0), (1, 1), (2, 2)] [3] (by simp only [leS_frz, leS_cut, leL_flD, renL_flD, push_cast, seval]) (by simp only [leS_frz, leS_cut, leL_flD, renL_flD, push_cast, seval]) rfl rfl rfl) ?_
              refine chk_sx h (fun g4785 h => ?_)
              refine reg_f ?_
              have k4784 : (c0q19 ++ ([c3q23] : List (List GOp))).length * 24 ≤ 140737488355328 := by first | simpa only [Bool.and_eq_true, decide_eq_true_eq, bne_iff_ne, ne_eq] using g4785 | (simp at g4785 ⊢; omega)
              refine rs 5 [none, none, none, some ⟨.own 5 0 (c0q19 ++ ([c3q23] : List (List GOp))).length, [(5, .row 39 (fl (c0q19 ++ ([c3q23] : List (List GOp))))), (0, .dead)], 6, [0, 4]⟩] _ (by kernel_rfl) (allP_cons (ob_app (P := Try.prog) c0q19 ([c3q23] : List (List GOp)) 1 24 rfl (appCells (fl ([c3q23] : List (List GOp))) 0 (([c3q23] : List (List GOp)).length * 1)) ([c3q23] : List (List GOp)).length (app_own ([c3q23] : List (List GOp)) 1 rfl) rfl (0 + ([c3q23] : List (List GOp)).length * 1 ≤ (fl ([c3q23] : List (List GOp))).length) (app_own_le ([c3q23] : List (List GOp)) 1 rfl) 39 (by kernel_rfl) (by decide) k4784 0 5 [4]) allP_nil) ?_
              refine rf [(0, .sl mem.length (fl mem)), (1, .sl adds.length (fl adds)), (2, .sl picks.length (fl picks)), (7, .own 5 0 (c0q19 ++ ([c3q23] : List (List GOp))).length), (8, .own 1 0 c1q39.length), (9, .own 2 0 c2q39.length), (10, iS i9)] [(0, .dead), (1, .row 3 (fl c1q39)), (2, .row 3 (fl c2q39)), (4, .row 39 (fl ([c3q23] : List (List GOp)))), (5, .row 39 (fl (c0q19 ++ ([c3q23] : List (List GOp)))))] 6 (by kernel_rfl) ?_
              refine wk_id ?_
              refine wk_id ?_
              refine reg_f ?_
              refine rs 3 [] [] (by kernel_rfl) allP_nil ?_
              refine rf [(0, .sl mem.length (fl mem)), (1, .sl adds.length (fl adds)), (2, .sl picks.length (fl picks)), (7, .own 5 0 (c0q19 ++ ([c3q23] : List (List GOp))).length), (8, .own 1 0 c1q39.length), (9, .own 2 0 c2q39.length), (10, iS (IntKind.i64.wrap (i9 + 1)))] [(0, .dead), (1, .row 3 (fl c1q39)), (2, .row 3 (fl c2q39)), (4, .row 39 (fl ([c3q23] : List (List GOp)))), (5, .row 39 (fl (c0q19 ++ ([c3q23] : List (List GOp)))))] 6 (by kernel_rfl) ?_
              exact hn4 ((IntKind.i64.wrap (i9 + 1)), (c0q19 ++ ([c3q23] : List (List GOp))), c1q39, c2q39) _ _ _ (Option.some.inj h).symm (leSt_m [(0, 5), (1, 1), (2, 2)] [] (by simp only [push_cast, leL_flD, renL_flD, seval]) (by simp only [push_cast, leL_flD, renL_flD, seval]) rfl rfl rfl)
        · change R4 (.exit 0) _ _ _
          refine ex_cast hx4 (id := 0) ?_
          obtain ⟨r0, h, e0⟩ := map_sx h
          have e1 := hr4 r0 e0.symm
          subst r0
          refine wk_id ?_
          refine wk_id ?_
          refine seq_np ?_
          refine seq_np ?_
          refine reg_f ?_
          refine rs 1 [] [] (by kernel_rfl) allP_nil ?_
          refine rf [(0, .sl mem.length (fl mem)), (1, .sl adds.length (fl adds)), (2, .sl picks.length (fl picks)), (7, .own 0 0 c0q19.length), (8, .own 1 0 c1q29.length), (9, .own 2 0 c2q29.length), (14, iS 0)] [(0, .row 39 (fl c0q19)), (1, .row 3 (fl c1q29)), (2, .row 3 (fl c2q29))] 3 (by kernel_rfl) ?_
          refine wk_id ?_
          refine block_np ?_
          refine loop_sx (S := Int) (fun a => ([(0, .sl mem.length (fl mem)), (1, .sl adds.length (fl adds)), (2, .sl picks.length (fl picks)), (7, .own 0 0 c0q19.length), (8, .own 1 0 c1q29.length), (9, .own 2 0 c2q29.length), (14, iS a)], [(0, .row 39 (fl c0q19)), (1, .row 3 (fl c1q29)), (2, .row 3 (fl c2q29))], 3)) h (leSt_m [(0, 0), (1, 1), (2, 2)] [] (by simp only [push_cast, leL_flD, renL_flD, seval]) (by simp only [push_cast, leL_flD, renL_flD, seval]) rfl rfl rfl) ?_
          rintro i15 o6 R6 h hr6 hn6 hx6 ht6
          try dsimp only at h hn6 ⊢
          unfold taskmilllaw_CellAdds_l2 at h
          try dsimp only at h
          refine seq_np ?_
          refine seq_np ?_
          refine reg_f ?_
          refine rs 4 [] [] (by kernel_rfl) allP_nil ?_
          refine rf [(0, .sl mem.length (fl mem)), (1, .sl adds.length (fl adds)), (2, .sl picks.length (fl picks)), (7, .own 0 0 c0q19.length), (8, .own 1 0 c1q29.length), (9, .own 2 0 c2q29.length), (14, iS i15), (103, bS (decide (i15 < ((picks.length : Nat) : Int))))] [(0, .row 39 (fl c0q19)), (1, .row 3 (fl c1q29)), (2, .row 3 (fl c2q29))] 3 (by kernel_rfl) ?_
          refine wk_id ?_
          refine cond_sx h (by kernel_rfl) (fun g4886 h => ?_) (fun g4886 h => ?_)
          · refine wk_id ?_
            refine seq_np ?_
            refine block_np ?_
            refine chk_sx h (fun g4867 h => ?_)
            refine chk_sx h (fun g4870 h => ?_)
            refine seq_cut (A := Unit) (fun _ => ([(0, .sl mem.length (fl mem)), (1, .sl adds.length (fl adds)), (2, .sl picks.length (fl picks)), (7, .own 0 0 c0q19.length), (8, .own 1 0 c1q29.length), (9, .own 2 0 c2q29.length), (14, iS i15), (119, bS ((decide ((ix picks i15) < 0)) || (decide (((adds.length : Nat) : Int) ≤ (ix picks i15)))))], [(0, .row 39 (fl c0q19)), (1, .row 3 (fl c1q29)), (2, .row 3 (fl c2q29))], 3)) (fun _ => True) (fun K4865 hK4865 => ?_) (fun _ _ => ?_)
            · refine reg_f ?_
              have k4866 : 0 ≤ i15 ∧ i15 < ((picks.length : Nat) : Int) := by first | simpa only [Bool.and_eq_true, decide_eq_true_eq, bne_iff_ne, ne_eq] using g4867 | (simp at g4867 ⊢; omega)
              refine rs 6 [none, none, some ⟨.iptr (fl picks) ((i15).toNat * 1), [], 3, []⟩, some ⟨iS (ix picks i15), [], 3, []⟩] _ (by kernel_rfl) (allP_cons (ob_ld picks i15 1 0 ((i15).toNat * 1) k4866 rfl (by decide) (by first | rfl | omega) (dflS Try.prog 3) (iS (ix picks i15)) rfl 3 []) (allP_cons (ob_ix_l picks 1 3 i15 k4866) allP_nil)) ?_
              refine run_split 111 (decide ((ix picks i15) < 0)) (.inl (by kernel_rfl)) (fun g4868 => ?_) (fun g4868 => ?_)
              · refine rs 8 [] [] (by kernel_rfl) allP_nil ?_
                refine rf [(0, .sl mem.length (fl mem)), (1, .sl adds.length (fl adds)), (2, .sl picks.length (fl picks)), (7, .own 0 0 c0q19.length), (8, .own 1 0 c1q29.length), (9, .own 2 0 c2q29.length), (14, iS i15), (119, bS true)] [(0, .row 39 (fl c0q19)), (1, .row 3 (fl c1q29)), (2, .row 3 (fl c2q29))] 3 (by kernel_rfl) ?_
                exact hK4865 () _ _ _ trivial (leSt_m [(0, 0), (1, 1), (2, 2)] [] (by (try simp only [g4868]) <;> simp only [push_cast, leL_flD, renL_flD, seval]) (by (try simp only [g4868]) <;> simp only [push_cast, leL_flD, renL_flD, seval]) rfl rfl rfl)
              · have k4869 : 0 ≤ i15 ∧ i15 < ((picks.length : Nat) : Int) := by have e := or_use g4870 (by first | ((try simp only [g4868]) <;> rfl) | ((try simp only [g4868]); rfl) | (exfalso; clear h; simp_all; done)); first | simpa only [Bool.and_eq_true, decide_eq_true_eq, bne_iff_ne, ne_eq] using e | (simp at e ⊢; omega)
                refine rs 8 [none, none, some ⟨.iptr (fl picks) ((i15).toNat * 1), [], 3, []⟩, some ⟨iS (ix picks i15), [], 3, []⟩] _ (by kernel_rfl) (allP_cons (ob_ld picks i15 1 0 ((i15).toNat * 1) k4869 rfl (by decide) (by first | rfl | omega) (dflS Try.prog 3) (iS (ix picks i15)) rfl 3 []) (allP_cons (ob_ix_l picks 1 3 i15 k4869) allP_nil)) ?_
                refine rf [(0, .sl mem.length (fl mem)), (1, .sl adds.length (fl adds)), (2, .sl picks.length (fl picks)), (7, .own 0 0 c0q19.length), (8, .own 1 0 c1q29.length), (9, .own 2 0 c2q29.length), (14, iS i15), (119, bS (decide (((adds.length : Nat) : Int) ≤ (ix picks i15))))] [(0, .row 39 (fl c0q19)), (1, .row 3 (fl c1q29)), (2, .row 3 (fl c2q29))] 3 (by kernel_rfl) ?_
                exact hK4865 () _ _ _ trivial (leSt_m [(0, 0), (1, 1), (2, 2)] [] (by (try simp only [g4868]) <;> simp only [push_cast, leL_flD, renL_flD, seval]) (by (try simp only [g4868]) <;> simp only [push_cast, leL_flD, renL_flD, seval]) rfl rfl rfl)
            · dsimp only
              refine cond_sx h (by kernel_rfl) (fun g4871 h => ?_) (fun g4871 h => ?_)
              · refine seq_np ?_
                refine reg_f ?_
                refine rs 1 [] [] (by kernel_rfl) allP_nil ?_
                refine rf [(6, bS true)] [(0, .row 39 (fl c0q19)), (1, .row 3 (fl c1q29)), (2, .row 3 (fl c2q29))] 3 (by kernel_rfl) ?_
                refine wk_id ?_
                refine rt_cast ht6 ?_
                obtain ⟨r0, h, e0⟩ := map_sx h
                have e1 := hr6 r0 e0.symm
                subst r0
                obtain rfl := Option.some.inj h
                refine ret_at (bS true) (by kernel_rfl) ?_
                exact ret_e [] [] (by simp only [push_cast, leL_flD, renL_flD, seval]) (by simp only [push_cast, leL_flD, renL_flD, seval]) rfl rfl rfl
              · refine wk_id ?_
                refine wk_id ?_
                refine reg_f ?_
                refine rs 3 [] [] (by kernel_rfl) allP_nil ?_
                refine rf [(0, .sl mem.length (fl mem)), (1, .sl adds.length (fl adds)), (2, .sl picks.length (fl picks)), (7, .own 0 0 c0q19.length), (8, .own 1 0 c1q29.length), (9, .own 2 0 c2q29.length), (14, iS (IntKind.i64.wrap (i15 + 1)))] [(0, .row 39 (fl c0q19)), (1, .row 3 (fl c1q29)), (2, .row 3 (fl c2q29))] 3 (by kernel_rfl) ?_
                exact hn6 ((IntKind.i64.wrap (i15 + 1))) _ _ _ (Option.some.inj h).symm (leSt_m [(0, 0), (1, 1), (2, 2)] [] (by simp only [push_cast, leL_flD, renL_flD, seval]) (by simp only [push_cast, leL_flD, renL_flD, seval]) rfl rfl rfl)
          · change R6 (.exit 4) _ _ _
            refine ex_cast hx6 (id := 4) ?_
            obtain ⟨r0, h, e0⟩ := map_sx h
            have e1 := hr6 r0 e0.symm
            subst r0
            refine wk_id ?_
            refine wk_id ?_
            refine seq_np ?_
            refine reg_f ?_
            refine rs 3 [] [] (by kernel_rfl) allP_nil ?_
            obtain ⟨r4876, hr4876, h⟩ := bind_sx h
            refine call_x (taskmilllaw_own_spec picks r4876 hr4876) (args := [.sl picks.length (fl picks)]) (dst := (some 124)) (by kernel_rfl) [(0, .row 39 (fl c0q19)), (1, .row 3 (fl c1q29)), (2, .row 3 (fl c2q29))] 3 (by kernel_rfl) [] [] (.own 3 0 r4876.length) [(3, .row 3 (fl r4876))] (by simp only [push_cast, leL_flD, renL_flD, seval]) (by simp only [push_cast, leL_flD, renL_flD, seval]) (by kernel_rfl) (.inl rfl) (by simp only [push_cast, leL_flD, renL_flD, seval]) (by simp only [push_cast, leL_flD, renL_flD, seval]) ?_
            refine chk_sx h (fun g4878 h => ?_)
            have k4877 : (r4876 ++ c1q29).length * 8 ≤ 140737488355328 := by first | simpa only [Bool.and_eq_true, decide_eq_true_eq, bne_iff_ne, ne_eq] using g4878 | (simp at g4878 ⊢; omega)
            refine rs 2 [none, some ⟨.own 4 0 (r4876 ++ c1q29).length, [(4, .row 3 (fl (r4876 ++ c1q29))), (3, .dead)], 5, [3, 1]⟩] _ (by kernel_rfl) (allP_cons (ob_app (P := Try.prog) r4876 c1q29 1 8 rfl (appCells (fl c1q29) 0 (c1q29.length * 1)) c1q29.length (app_own c1q29 1 rfl) rfl (0 + c1q29.length * 1 ≤ (fl c1q29).length) (app_own_le c1q29 1 rfl) 3 (by kernel_rfl) (by decide) k4877 3 4 [1]) allP_nil) ?_
            obtain ⟨r4879, hr4879, h⟩ := bind_sx h
            refine call_x (SpecW.give (SpecW.give (cell_Mix_spec mem c0q19 (r4876 ++ c1q29) r4879 hr4879) [(0, .row 39 (fl c0q19))] [.sl mem.length (fl mem), .own 0 0 c0q19.length, .sl (r4876 ++ c1q29).length (fl (r4876 ++ c1q29))] [] (.tup [.own 1 0 r4879.2.1.length, .own 2 0 r4879.2.2.length, .agg (Enc.cells r4879.1)]) [(1, .row 3 (fl r4879.2.1)), (2, .row 22 (flD dLListInt [3] r4879.2.2)), ((.s 3 0), .fam (famD dLListInt 0 r4879.2.2))] (by first | simp only [push_cast, leL_flD, renL_flD, seval] | simp only [push_cast, List.mem_singleton, true_and, and_true, leL_flD, renL_flD, seval]) (by simp only [push_cast, leL_flD, renL_flD, seval]) (by simp only [push_cast, leL_flD, renL_flD, seval]) (by simp only [push_cast, leL_flD, renL_flD, seval]) rfl (by first | (simp only [push_cast, leL_flD, renL_flD, seval]; done) | (simp only [push_cast, leL_flD, renL_flD, seval]; kernel_rfl) | kernel_rfl) (by first | (simp only [push_cast, leL_flD, renL_flD, seval]; done) | (simp only [push_cast, leL_flD, renL_flD, seval]; kernel_rfl) | kernel_rfl) rfl) [(0, .row 39 (fl c0q19)), (1, .row 3 (fl (r4876 ++ c1q29)))] [.sl mem.length (fl mem), .own 0 0 c0q19.length, .own 1 0 (r4876 ++ c1q29).length] [(0, 0)] (.tup [.own 3 0 r4879.2.1.length, .own 4 0 r4879.2.2.length, .agg (Enc.cells r4879.1)]) [(3, .row 3 (fl r4879.2.1)), (4, .row 22 (flD dLListInt [5] r4879.2.2)), ((.s 5 0), .fam (famD dLListInt 0 r4879.2.2)), (0, .dead)] (by first | simp only [push_cast, leL_flD, renL_flD, seval] | simp only [push_cast, List.mem_singleton, true_and, and_true, leL_flD, renL_flD, seval]) (by simp only [push_cast, leL_flD, renL_flD, seval]) (by simp only [push_cast, leL_flD, renL_flD, seval]) (by simp only [push_cast, leL_flD, renL_flD, seval]) rfl (by first | (simp only [push_cast, leL_flD, renL_flD, seval]; done) | (simp only [push_cast, leL_flD, renL_flD, seval]; kernel_rfl) | kernel_rfl) (by first | (simp only [push_cast, leL_flD, renL_flD, seval]; done) | (simp only [push_cast, leL_flD, renL_flD, seval]; kernel_rfl) | kernel_rfl) rfl) (args := [.sl mem.length (fl mem), .own 0 0 c0q19.length, .own 4 0 (r4876 ++ c1q29).length]) (dst := (some 127)) (by kernel_rfl) [(0, .row 39 (fl c0q19)), (1, .row 3 (fl c1q29)), (2, .row 3 (fl c2q29)), (3, .dead), (4, .row 3 (fl (r4876 ++ c1q29)))] 5 (by kernel_rfl) [(0, 0), (1, 4)] [] (.tup [.own 8 0 r4879.2.1.length, .own 9 0 r4879.2.2.length, .agg (Enc.cells r4879.1)]) [(8, .row 3 (fl r4879.2.1)), (9, .row 22 (flD dLListInt [10] r4879.2.2)), ((.s 10 0), .fam (famD dLListInt 0 r4879.2.2)), (0, .dead), (0, .dead), (4, .dead)] (by simp only [push_cast, leL_flD, renL_flD, seval]) (by simp only [push_cast, leL_flD, renL_flD, seval]) (by kernel_rfl) (.inl rfl) (by first | (simp only [push_cast, leL_flD, renL_flD, seval]; done) | (simp only [push_cast, leL_flD, renL_flD, seval]; kernel_rfl) | kernel_rfl) (by first | (simp only [push_cast, leL_flD, renL_flD, seval]; done) | (simp only [push_cast, leL_flD, renL_flD, seval]; kernel_rfl) | kernel_rfl) ?_
            refine rs 8 [] [] (by kernel_rfl) allP_nil ?_
            refine rf [(9, .own 2 0 c2q29.length), (15, .own 8 0 r4879.2.1.length), (17, .ptr 11 0)] [(0, .dead), (1, .row 3 (fl c1q29)), (2, .row 3 (fl c2q29)), (3, .dead), (4, .dead), (8, .row 3 (fl r4879.2.1)), (9, .row 22 (flD dLListInt [10] r4879.2.2)), ((.s 10 0), .fam (famD dLListInt 0 r4879.2.2)), (11, .row 28 (Enc.cells r4879.1))] 12 (by kernel_rfl) ?_
            refine wk_id ?_
            refine seq_cut (A := Bool) (fun a => ([(6, bS a)], [], 0)) (fun a => (taskmilllaw_CellAdds_j1 a) = some r) (fun K4883 hK4883 => ?_) ?_
            · refine reg_f ?_
              refine rs 4 [] [] (by kernel_rfl) allP_nil ?_
              refine run_br h 134 (.inl (by kernel_rfl)) (fun g4884 h => ?_) (fun g4884 h => ?_)
              · refine rs 2 [] [] (by kernel_rfl) allP_nil ?_
                obtain ⟨r4885, hr4885, h⟩ := bind_sx h
                refine call_x (taskmillref_Ints_spec r4879.2.1 c2q29 r4885 hr4885) (args := [.own 8 0 r4879.2.1.length, .own 2 0 c2q29.length]) (dst := (some 137)) (by kernel_rfl) [(0, .dead), (1, .row 3 (fl c1q29)), (2, .row 3 (fl c2q29)), (3, .dead), (4, .dead), (8, .row 3 (fl r4879.2.1)), (9, .row 22 (flD dLListInt [10] r4879.2.2)), ((.s 10 0), .fam (famD dLListInt 0 r4879.2.2)), (11, .row 28 (Enc.cells r4879.1))] 12 (by kernel_rfl) [] [2, 8] (bS r4885) [] (by simp only [push_cast, leL_flD, renL_flD, seval]) (by simp only [push_cast, leL_flD, renL_flD, seval]) (by kernel_rfl) (.inr ⟨by simp only [push_cast, leL_flD, renL_flD, seval], by simp only [push_cast, leL_flD, renL_flD, seval]⟩) (by simp only [push_cast, leL_flD, renL_flD, seval]) (by simp only [push_cast, leL_flD, renL_flD, seval]) ?_
                refine rs 2 [] [] (by kernel_rfl) allP_nil ?_
                refine rf [(6, bS r4885)] [(0, .dead), (1, .row 3 (fl c1q29)), (2, .row 3 (fl c2q29)), (3, .dead), (4, .dead), (8, .row 3 (fl r4879.2.1)), (9, .row 22 (flD dLListInt [10] r4879.2.2)), ((.s 10 0), .fam (famD dLListInt 0 r4879.2.2)), (11, .row 28 (Enc.cells r4879.1))] 12 (by kernel_rfl) ?_
                exact hK4883 (r4885) _ _ _ h (leSt_m [] [] (by (try simp only [g4884]) <;> simp only [push_cast, leL_flD, renL_flD, seval]) (by (try simp only [g4884]) <;> simp only [push_cast, leL_flD, renL_flD, seval]) rfl rfl rfl)
              · refine rs 5 [] [] (by kernel_rfl) allP_nil ?_
                refine rf [(6, bS false)] [(0, .dead), (1, .row 3 (fl c1q29)), (2, .row 3 (fl c2q29)), (3, .dead), (4, .dead), (8, .row 3 (fl r4879.2.1)), (9, .row 22 (flD dLListInt [10] r4879.2.2)), ((.s 10 0), .fam (famD dLListInt 0 r4879.2.2)), (11, .row 28 (Enc.cells r4879.1))] 12 (by kernel_rfl) ?_
                exact hK4883 (false) _ _ _ h (leSt_m [] [] (by (try simp only [g4884]) <;> simp only [push_cast, leL_flD, renL_flD, seval]) (by (try simp only [g4884]) <;> simp only [push_cast, leL_flD, renL_flD, seval]) rfl rfl rfl)
            · rintro t6q1 h
              try dsimp only at h ⊢
              unfold taskmilllaw_CellAdds_j1 at h
              obtain rfl := Option.some.inj h
              refine ret_at (bS t6q1) (by kernel_rfl) ?_
              exact ret_e [] [] (by simp only [push_cast, leL_flD, renL_flD, seval]) (by simp only [push_cast, leL_flD, renL_flD, seval]) rfl rfl rfl

end Go.Proofs.Ytolmbmgjpcdngaa
