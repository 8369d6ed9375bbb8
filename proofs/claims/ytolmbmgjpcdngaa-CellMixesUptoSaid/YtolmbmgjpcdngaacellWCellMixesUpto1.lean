/-
  What laws of the chapter cell compute, and lemmas on it.
  No conditions.
-/
import Derived.Test.YtolmbmgjpcdngaaProg
import Derived.Test.YtolmbmgjpcdngaacellG
set_option linter.unusedSimpArgs false
set_option linter.unusedVariables false
namespace Go.Proofs.Ytolmbmgjpcdngaa
open Go Go.Sx
attribute [local irreducible] Wk RunAt
theorem follows : Try.prog.follows .mixedOrders = true := by kernel_rfl
set_option maxRecDepth 100000 in
set_option maxHeartbeats 200000000 in
theorem taskmilllaw_own_spec (l : (List Int)) (r : (List Int)) (h : taskmilllaw_own l = some r) : SpecW Try.prog 13 [.sl l.length (fl l)] [] 0 (fun x h n => x = .own 0 0 r.length ∧ h = [(0, .row 3 (fl r))] ∧ n = 1) := by
  unfold taskmilllaw_own at h
  refine spec_of (draw_ok _) Try.func13 rfl (by decide) rfl (by kernel_rfl) ?_
  refine seq_np ?_
  refine reg_f ?_
  refine rs 1 [] [] (by kernel_rfl) allP_nil ?_
  refine rf [(0, .sl l.length (fl l))] [] 0 (by kernel_rfl) ?_
  refine wk_id ?_
  refine chk_sx h (fun g6 h => ?_)
  refine seq_np ?_
  refine reg_f ?_
  have k5 : l.length * 8 ≤ 140737488355328 := by first | simpa only [Bool.and_eq_true, decide_eq_true_eq, bne_iff_ne, ne_eq] using g6 | (simp at g6 ⊢; omega)
  refine rs 3 [none, some ⟨.own 0 0 l.length, [(0, .row 3 (fl l))], 1, []⟩] _ (by kernel_rfl) (allP_cons (ob_app0 (P := Try.prog) l 1 8 rfl (fl l) l.length rfl rfl ((fl l).length = l.length * 1) (app_sl l 1 rfl) 3 (by kernel_rfl) (by decide) k5 0 []) allP_nil) ?_
  refine rf [(2, .own 0 0 l.length)] [(0, .row 3 (fl l))] 1 (by kernel_rfl) ?_
  refine wk_id ?_
  obtain rfl := Option.some.inj h
  refine ret_at (.own 0 0 l.length) (by kernel_rfl) ?_
  exact ret_e [(0, 0)] [] (by simp only [push_cast, seval]) (by simp only [push_cast, seval]) rfl rfl rfl

set_option maxRecDepth 100000 in
set_option maxHeartbeats 200000000 in
theorem cell_fault_spec (code : Int) (xat : Int) (r : Fault) (h : cell_fault code xat = some r) : SpecW Try.prog 29 [iS code, iS xat] [] 0 (fun x h n => x = .agg (Enc.cells r) ∧ h = [] ∧ n = 0) := by
  unfold cell_fault at h
  refine spec_of (draw_ok _) Try.func29 rfl (by decide) rfl (by kernel_rfl) ?_
  refine seq_np ?_
  refine reg_f ?_
  refine rs 1 [] [] (by kernel_rfl) allP_nil ?_
  refine rf [(0, iS code), (1, iS xat), (4, .ptr 0 0)] [(0, .row 28 [iS 0, iS 0])] 1 (by kernel_rfl) ?_
  refine wk_id ?_
  refine seq_np ?_
  refine reg_f ?_
  refine rs 4 [] [] (by kernel_rfl) allP_nil ?_
  refine rf [(4, .ptr 0 0)] [(0, .row 28 [iS code, iS xat])] 1 (by kernel_rfl) ?_
  refine wk_id ?_
  obtain rfl := Option.some.inj h
  refine ret_at (.agg [iS code, iS xat]) (by kernel_rfl) ?_
  exact ret_e [] [] (by simp only [push_cast, seval]) (by simp only [push_cast, seval]) rfl rfl rfl

set_option maxRecDepth 100000 in
set_option maxHeartbeats 200000000 in
theorem cell_one_spec (xo : GOp) (cells : Int) (r : Int) (h : cell_one xo cells = some r) : SpecW Try.prog 39 [.agg (Enc.cells xo), iS cells] [] 0 (fun x h n => x = iS r ∧ h = [] ∧ n = 0) := by
  unfold cell_one at h
  refine spec_of (draw_ok _) Try.func39 rfl (by decide) rfl (by kernel_rfl) ?_
  refine seq_np ?_
  refine reg_f ?_
  refine rs 2 [] [] (by kernel_rfl) allP_nil ?_
  refine rf [(1, iS cells), (2, .ptr 0 0)] [(0, .row 50 (Enc.cells xo))] 1 (by kernel_rfl) ?_
  refine wk_id ?_
  refine seq_np ?_
  refine seq_np ?_
  refine reg_f ?_
  refine rs 2 [] [] (by kernel_rfl) allP_nil ?_
  refine rf [(1, iS cells), (2, .ptr 0 0), (6, iS xo.Kind)] [(0, .row 50 (Enc.cells xo))] 1 (by kernel_rfl) ?_
  refine wk_id ?_
  refine block_cut (A := Unit) (fun a => ([(1, iS cells), (2, .ptr 0 0)], [(0, .row 50 (Enc.cells xo))], 1)) (fun a => (cell_one_j1 xo cells) = some r) (fun K58 hK58 => ?_) ?_
  · refine seq_np ?_
    refine reg_f ?_
    refine rs 2 [] [] (by kernel_rfl) allP_nil ?_
    refine rf [(1, iS cells), (2, .ptr 0 0), (6, iS xo.Kind), (7, bS (xo.Kind == 1))] [(0, .row 50 (Enc.cells xo))] 1 (by kernel_rfl) ?_
    refine wk_id ?_
    refine cond_sx h (by kernel_rfl) (fun g72 h => ?_) (fun g72 h => ?_)
    · refine seq_cut (A := Unit) (fun _ => ([(1, iS cells), (2, .ptr 0 0), (16, bS ((xo.A != 0) || (xo.B != 0)))], [(0, .row 50 (Enc.cells xo))], 1)) (fun _ => True) (fun K60 hK60 => ?_) (fun _ _ => ?_)
      · refine reg_f ?_
        refine rs 4 [] [] (by kernel_rfl) allP_nil ?_
        refine run_split 12 (xo.A != 0) (.inl (by kernel_rfl)) (fun g61 => ?_) (fun g61 => ?_)
        · refine rs 4 [] [] (by kernel_rfl) allP_nil ?_
          refine rf [(1, iS cells), (2, .ptr 0 0), (16, bS true)] [(0, .row 50 (Enc.cells xo))] 1 (by kernel_rfl) ?_
          exact hK60 () _ _ _ trivial (leSt_m [(0, 0)] [] (by (try simp only [g61]) <;> simp only [push_cast, seval]) (by (try simp only [g61]) <;> simp only [push_cast, seval]) rfl rfl rfl)
        · refine rs 4 [] [] (by kernel_rfl) allP_nil ?_
          refine rf [(1, iS cells), (2, .ptr 0 0), (16, bS (xo.B != 0))] [(0, .row 50 (Enc.cells xo))] 1 (by kernel_rfl) ?_
          exact hK60 () _ _ _ trivial (leSt_m [(0, 0)] [] (by (try simp only [g61]) <;> simp only [push_cast, seval]) (by (try simp only [g61]) <;> simp only [push_cast, seval]) rfl rfl rfl)
      · dsimp only
        refine cond_sx h (by kernel_rfl) (fun g62 h => ?_) (fun g62 h => ?_)
        · refine seq_np ?_
          refine reg_f ?_
          refine rs 1 [] [] (by kernel_rfl) allP_nil ?_
          refine rf [(4, iS 5)] [(0, .row 50 (Enc.cells xo))] 1 (by kernel_rfl) ?_
          refine wk_id ?_
          obtain rfl := Option.some.inj h
          refine ret_at (iS 5) (by kernel_rfl) ?_
          exact ret_e [] [] (by simp only [push_cast, seval]) (by simp only [push_cast, seval]) rfl rfl rfl
        · exact hK58 () _ _ _ h (leSt_m [(0, 0)] [] (by simp only [push_cast, seval]) (by simp only [push_cast, seval]) rfl rfl rfl)
    · refine seq_cut (A := Bool) (fun a => ([(1, iS cells), (2, .ptr 0 0), (6, iS xo.Kind), (17, bS a)], [(0, .row 50 (Enc.cells xo))], 1)) (fun a => (cell_one_j2 xo cells a) = some r) (fun K66 hK66 => ?_) ?_
      · refine seq_np ?_
        refine reg_f ?_
        refine rs 2 [] [] (by kernel_rfl) allP_nil ?_
        refine rf [(1, iS cells), (2, .ptr 0 0), (6, iS xo.Kind), (17, bS (xo.Kind == 2))] [(0, .row 50 (Enc.cells xo))] 1 (by kernel_rfl) ?_
        refine wk_id ?_
        refine cond_sx h (by kernel_rfl) (fun g68 h => ?_) (fun g68 h => ?_)
        · exact hK66 ((xo.Kind == 2)) _ _ _ h (leSt_m [(0, 0)] [] (by simp only [push_cast, seval]) (by simp only [push_cast, seval]) rfl rfl rfl)
        · refine seq_np ?_
          refine reg_f ?_
          refine rs 2 [] [] (by kernel_rfl) allP_nil ?_
          refine rf [(1, iS cells), (2, .ptr 0 0), (6, iS xo.Kind), (17, bS (xo.Kind == 3))] [(0, .row 50 (Enc.cells xo))] 1 (by kernel_rfl) ?_
          refine wk_id ?_
          refine cond_sx h (by kernel_rfl) (fun g67 h => ?_) (fun g67 h => ?_)
          · exact hK66 ((xo.Kind == 3)) _ _ _ h (leSt_m [(0, 0)] [] (by simp only [push_cast, seval]) (by simp only [push_cast, seval]) rfl rfl rfl)
          · refine reg_f ?_
            refine rs 2 [] [] (by kernel_rfl) allP_nil ?_
            refine rf [(1, iS cells), (2, .ptr 0 0), (6, iS xo.Kind), (17, bS (xo.Kind == 4))] [(0, .row 50 (Enc.cells xo))] 1 (by kernel_rfl) ?_
            exact hK66 ((xo.Kind == 4)) _ _ _ h (leSt_m [(0, 0)] [] (by simp only [push_cast, seval]) (by simp only [push_cast, seval]) rfl rfl rfl)
      · rintro t17q3 h
        try dsimp only at h ⊢
        unfold cell_one_j2 at h
        refine cond_sx h (by kernel_rfl) (fun g71 h => ?_) (fun g71 h => ?_)
        · refine seq_np ?_
          refine reg_f ?_
          refine rs 3 [] [] (by kernel_rfl) allP_nil ?_
          refine rf [(1, iS cells), (2, .ptr 0 0), (23, bS (xo.B != 0))] [(0, .row 50 (Enc.cells xo))] 1 (by kernel_rfl) ?_
          refine wk_id ?_
          refine cond_sx h (by kernel_rfl) (fun g69 h => ?_) (fun g69 h => ?_)
          · refine seq_np ?_
            refine reg_f ?_
            refine rs 1 [] [] (by kernel_rfl) allP_nil ?_
            refine rf [(4, iS 5)] [(0, .row 50 (Enc.cells xo))] 1 (by kernel_rfl) ?_
            refine wk_id ?_
            obtain rfl := Option.some.inj h
            refine ret_at (iS 5) (by kernel_rfl) ?_
            exact ret_e [] [] (by simp only [push_cast, seval]) (by simp only [push_cast, seval]) rfl rfl rfl
          · exact hK58 () _ _ _ h (leSt_m [(0, 0)] [] (by simp only [push_cast, seval]) (by simp only [push_cast, seval]) rfl rfl rfl)
        · refine seq_np ?_
          refine reg_f ?_
          refine rs 2 [] [] (by kernel_rfl) allP_nil ?_
          refine rf [(1, iS cells), (2, .ptr 0 0), (24, bS (xo.Kind == 5))] [(0, .row 50 (Enc.cells xo))] 1 (by kernel_rfl) ?_
          refine wk_id ?_
          refine cond_sx h (by kernel_rfl) (fun g70 h => ?_) (fun g70 h => ?_)
          · exact hK58 () _ _ _ h (leSt_m [(0, 0)] [] (by simp only [push_cast, seval]) (by simp only [push_cast, seval]) rfl rfl rfl)
          · refine seq_np ?_
            refine reg_f ?_
            refine rs 1 [] [] (by kernel_rfl) allP_nil ?_
            refine rf [(4, iS 4)] [(0, .row 50 (Enc.cells xo))] 1 (by kernel_rfl) ?_
            refine wk_id ?_
            obtain rfl := Option.some.inj h
            refine ret_at (iS 4) (by kernel_rfl) ?_
            exact ret_e [] [] (by simp only [push_cast, seval]) (by simp only [push_cast, seval]) rfl rfl rfl
  · rintro _ h
    try dsimp only at h ⊢
    unfold cell_one_j1 at h
    refine wk_id ?_
    refine seq_np ?_
    refine seq_cut (A := Unit) (fun _ => ([(34, bS ((decide (xo.At < 0)) || (decide (cells ≤ xo.At))))], [(0, .row 50 (Enc.cells xo))], 1)) (fun _ => True) (fun K76 hK76 => ?_) (fun _ _ => ?_)
    · refine reg_f ?_
      refine rs 4 [] [] (by kernel_rfl) allP_nil ?_
      refine run_split 29 (decide (xo.At < 0)) (.inl (by kernel_rfl)) (fun g77 => ?_) (fun g77 => ?_)
      · refine rs 5 [] [] (by kernel_rfl) allP_nil ?_
        refine rf [(34, bS true)] [(0, .row 50 (Enc.cells xo))] 1 (by kernel_rfl) ?_
        exact hK76 () _ _ _ trivial (leSt_m [(0, 0)] [] (by (try simp only [g77]) <;> simp only [push_cast, seval]) (by (try simp only [g77]) <;> simp only [push_cast, seval]) rfl rfl rfl)
      · refine rs 5 [] [] (by kernel_rfl) allP_nil ?_
        refine rf [(34, bS (decide (cells ≤ xo.At)))] [(0, .row 50 (Enc.cells xo))] 1 (by kernel_rfl) ?_
        exact hK76 () _ _ _ trivial (leSt_m [(0, 0)] [] (by (try simp only [g77]) <;> simp only [push_cast, seval]) (by (try simp only [g77]) <;> simp only [push_cast, seval]) rfl rfl rfl)
    · dsimp only
      refine cond_sx h (by kernel_rfl) (fun g78 h => ?_) (fun g78 h => ?_)
      · refine seq_np ?_
        refine reg_f ?_
        refine rs 1 [] [] (by kernel_rfl) allP_nil ?_
        refine rf [(4, iS 3)] [(0, .row 50 (Enc.cells xo))] 1 (by kernel_rfl) ?_
        refine wk_id ?_
        obtain rfl := Option.some.inj h
        refine ret_at (iS 3) (by kernel_rfl) ?_
        exact ret_e [] [] (by simp only [push_cast, seval]) (by simp only [push_cast, seval]) rfl rfl rfl
      · refine wk_id ?_
        refine seq_np ?_
        refine reg_f ?_
        refine rs 1 [] [] (by kernel_rfl) allP_nil ?_
        refine rf [(4, iS 0)] [(0, .row 50 (Enc.cells xo))] 1 (by kernel_rfl) ?_
        refine wk_id ?_
        obtain rfl := Option.some.inj h
        refine ret_at (iS 0) (by kernel_rfl) ?_
        exact ret_e [] [] (by simp only [push_cast, seval]) (by simp only [push_cast, seval]) rfl rfl rfl

set_option maxRecDepth 100000 in
set_option maxHeartbeats 200000000 in
theorem cell_Check_spec (mem : (List Int)) (ops : (List GOp)) (r : Fault) (h : cell_Check mem ops = some r) : SpecW Try.prog 21 [.sl mem.length (fl mem), .sl ops.length (fl ops)] [] 0 (fun x h n => x = .agg (Enc.cells r) ∧ h = [] ∧ n = 0) := by
  unfold cell_Check at h
  refine spec_of (draw_ok _) Try.func21 rfl (by decide) rfl (by kernel_rfl) ?_
  refine seq_np ?_
  refine reg_f ?_
  refine rs 1 [] [] (by kernel_rfl) allP_nil ?_
  refine rf [(0, .sl mem.length (fl mem)), (1, .sl ops.length (fl ops)), (4, .ptr 0 0)] [(0, .row 28 [iS 0, iS 0])] 1 (by kernel_rfl) ?_
  refine wk_id ?_
  refine seq_np ?_
  refine seq_cut (A := Unit) (fun _ => ([(0, .sl mem.length (fl mem)), (1, .sl ops.length (fl ops)), (4, .ptr 0 0), (15, bS ((decide ((32 : Int) < ((mem.length : Nat) : Int))) || (decide ((5000 : Int) < ((ops.length : Nat) : Int)))))], [(0, .row 28 [iS 0, iS 0])], 1)) (fun _ => True) (fun K99 hK99 => ?_) (fun _ _ => ?_)
  · refine reg_f ?_
    refine rs 4 [] [] (by kernel_rfl) allP_nil ?_
    refine run_split 11 (decide ((32 : Int) < ((mem.length : Nat) : Int))) (.inl (by kernel_rfl)) (fun g100 => ?_) (fun g100 => ?_)
    · refine rs 4 [] [] (by kernel_rfl) allP_nil ?_
      refine rf [(0, .sl mem.length (fl mem)), (1, .sl ops.length (fl ops)), (4, .ptr 0 0), (15, bS true)] [(0, .row 28 [iS 0, iS 0])] 1 (by kernel_rfl) ?_
      exact hK99 () _ _ _ trivial (leSt_m [(0, 0)] [] (by (try simp only [g100]) <;> simp only [push_cast, seval]) (by (try simp only [g100]) <;> simp only [push_cast, seval]) rfl rfl rfl)
    · refine rs 4 [] [] (by kernel_rfl) allP_nil ?_
      refine rf [(0, .sl mem.length (fl mem)), (1, .sl ops.length (fl ops)), (4, .ptr 0 0), (15, bS (decide ((5000 : Int) < ((ops.length : Nat) : Int))))] [(0, .row 28 [iS 0, iS 0])] 1 (by kernel_rfl) ?_
      exact hK99 () _ _ _ trivial (leSt_m [(0, 0)] [] (by (try simp only [g100]) <;> simp only [push_cast, seval]) (by (try simp only [g100]) <;> simp only [push_cast, seval]) rfl rfl rfl)
  · dsimp only
    refine cond_sx h (by kernel_rfl) (fun g175 h => ?_) (fun g175 h => ?_)
    · refine seq_np ?_
      refine reg_f ?_
      obtain ⟨r102, hr102, h⟩ := bind_sx h
      refine run_call 29 [iS 2, iS 0] (some 16) (by kernel_rfl) ?_
      refine call_0 (cell_fault_spec 2 0 r102 hr102) (by simp only [push_cast, seval]) (by simp only [push_cast, seval]) ?_
      refine back_f ?_
      refine rs 1 [] [] (by kernel_rfl) allP_nil ?_
      refine rf [(4, .ptr 0 0)] [(0, .row 28 (Enc.cells r102))] 1 (by kernel_rfl) ?_
      refine wk_id ?_
      obtain rfl := Option.some.inj h
      refine ret_at (.agg (Enc.cells r102)) (by kernel_rfl) ?_
      exact ret_e [] [] (by simp only [push_cast, seval]) (by simp only [push_cast, seval]) rfl rfl rfl
    · refine wk_id ?_
      refine seq_np ?_
      refine seq_np ?_
      refine reg_f ?_
      refine rs 3 [] [] (by kernel_rfl) allP_nil ?_
      refine rf [(0, .sl mem.length (fl mem)), (4, .ptr 0 0), (17, .sl ops.length (fl ops)), (18, iS ((ops.length : Nat) : Int)), (19, iS 0)] [(0, .row 28 [iS 0, iS 0])] 1 (by kernel_rfl) ?_
      refine wk_id ?_
      refine block_np ?_
      refine loop_sx (S := Int) (fun a => ([(0, .sl mem.length (fl mem)), (4, .ptr 0 0), (17, .sl ops.length (fl ops)), (18, iS ((ops.length : Nat) : Int)), (19, iS a)], [(0, .row 28 [iS 0, iS 0])], 1)) h (leSt_m [(0, 0)] [] (by simp only [push_cast, seval]) (by simp only [push_cast, seval]) rfl rfl rfl) ?_
      rintro t19q7 o2 R2 h hr2 hn2 hx2 ht2
      try dsimp only at h hn2 ⊢
      unfold cell_Check_l1 at h
      try dsimp only at h
      refine seq_np ?_
      refine reg_f ?_
      refine rs 1 [] [] (by kernel_rfl) allP_nil ?_
      refine rf [(0, .sl mem.length (fl mem)), (4, .ptr 0 0), (17, .sl ops.length (fl ops)), (18, iS ((ops.length : Nat) : Int)), (19, iS t19q7), (20, bS (decide (t19q7 < ((ops.length : Nat) : Int))))] [(0, .row 28 [iS 0, iS 0])] 1 (by kernel_rfl) ?_
      refine wk_id ?_
      refine seq_np ?_
      refine cond_sx h (by kernel_rfl) (fun g174 h => ?_) (fun g174 h => ?_)
      · refine wk_id ?_
        refine seq_np ?_
        refine block_np ?_
        refine chk_sx h (fun g168 h => ?_)
        refine seq_np ?_
        refine reg_f ?_
        have k167 : 0 ≤ t19q7 ∧ t19q7 < ((ops.length : Nat) : Int) := by first | simpa only [Bool.and_eq_true, decide_eq_true_eq, bne_iff_ne, ne_eq] using g168 | (simp at g168 ⊢; omega)
        refine rs 6 [none, some ⟨.iptr (fl ops) ((t19q7).toNat * 4), [], 1, []⟩, some ⟨.agg (Enc.cells (ix ops t19q7)), [], 1, []⟩] _ (by kernel_rfl) (allP_cons (ob_ldw ops t19q7 4 ((t19q7).toNat * 4) k167 rfl (by first | rfl | omega) (Enc.cells (ix ops t19q7)) rfl 1 []) (allP_cons (ob_ix_l ops 4 1 t19q7 k167) allP_nil)) ?_
        refine rf [(0, .sl mem.length (fl mem)), (4, .ptr 0 0), (5, iS t19q7), (6, .ptr 1 0), (17, .sl ops.length (fl ops)), (18, iS ((ops.length : Nat) : Int)), (19, iS t19q7)] [(0, .row 28 [iS 0, iS 0]), (1, .row 50 (Enc.cells (ix ops t19q7)))] 2 (by kernel_rfl) ?_
        refine wk_id ?_
        refine seq_np ?_
        refine reg_f ?_
        refine rs 3 [] [] (by kernel_rfl) allP_nil ?_
        obtain ⟨r170, hr170, h⟩ := bind_sx h
        refine run_call 39 [.agg (Enc.cells (ix ops t19q7)), iS ((mem.length : Nat) : Int)] (some 27) (by kernel_rfl) ?_
        refine call_0 (cell_one_spec (ix ops t19q7) ((mem.length : Nat) : Int) r170 hr170) (by simp only [push_cast, seval]) (by simp only [push_cast, seval]) ?_
        refine back_f ?_
        refine rs 1 [] [] (by kernel_rfl) allP_nil ?_
        refine rf [(0, .sl mem.length (fl mem)), (4, .ptr 0 0), (5, iS t19q7), (7, iS r170), (17, .sl ops.length (fl ops)), (18, iS ((ops.length : Nat) : Int)), (19, iS t19q7)] [(0, .row 28 [iS 0, iS 0]), (1, .row 50 (Enc.cells (ix ops t19q7)))] 2 (by kernel_rfl) ?_
        refine wk_id ?_
        refine seq_np ?_
        refine reg_f ?_
        refine rs 2 [] [] (by kernel_rfl) allP_nil ?_
        refine rf [(0, .sl mem.length (fl mem)), (4, .ptr 0 0), (5, iS t19q7), (7, iS r170), (17, .sl ops.length (fl ops)), (18, iS ((ops.length : Nat) : Int)), (19, iS t19q7), (29, bS (r170 != 0))] [(0, .row 28 [iS 0, iS 0]), (1, .row 50 (Enc.cells (ix ops t19q7)))] 2 (by kernel_rfl) ?_
        refine wk_id ?_
        refine cond_sx h (by kernel_rfl) (fun g173 h => ?_) (fun g173 h => ?_)
        · refine seq_np ?_
          refine reg_f ?_
          refine rs 2 [] [] (by kernel_rfl) allP_nil ?_
          obtain ⟨r172, hr172, h⟩ := bind_sx h
          refine run_call 29 [iS r170, iS t19q7] (some 32) (by kernel_rfl) ?_
          refine call_0 (cell_fault_spec r170 t19q7 r172 hr172) (by simp only [push_cast, seval]) (by simp only [push_cast, seval]) ?_
          refine back_f ?_
          refine rs 1 [] [] (by kernel_rfl) allP_nil ?_
          refine rf [(4, .ptr 0 0)] [(0, .row 28 (Enc.cells r172)), (1, .row 50 (Enc.cells (ix ops t19q7)))] 2 (by kernel_rfl) ?_
          refine wk_id ?_
          refine rt_cast ht2 ?_
          obtain ⟨r0, h, e0⟩ := map_sx h
          have e1 := hr2 r0 e0.symm
          subst r0
          obtain rfl := Option.some.inj h
          refine ret_at (.agg (Enc.cells r172)) (by kernel_rfl) ?_
          exact ret_e [] [] (by simp only [push_cast, seval]) (by simp only [push_cast, seval]) rfl rfl rfl
        · refine wk_id ?_
          refine wk_id ?_
          refine reg_f ?_
          refine rs 2 [] [] (by kernel_rfl) allP_nil ?_
          refine rf [(0, .sl mem.length (fl mem)), (4, .ptr 0 0), (17, .sl ops.length (fl ops)), (18, iS ((ops.length : Nat) : Int)), (19, iS (IntKind.i64.wrap (t19q7 + 1)))] [(0, .row 28 [iS 0, iS 0]), (1, .row 50 (Enc.cells (ix ops t19q7)))] 2 (by kernel_rfl) ?_
          exact hn2 ((IntKind.i64.wrap (t19q7 + 1))) _ _ _ (Option.some.inj h).symm (leSt_m [(0, 0)] [] (by simp only [push_cast, seval]) (by simp only [push_cast, seval]) rfl rfl rfl)
      · change R2 (.exit 0) _ _ _
        refine ex_cast hx2 (id := 0) ?_
        obtain ⟨r0, h, e0⟩ := map_sx h
        have e1 := hr2 r0 e0.symm
        subst r0
        refine wk_id ?_
        refine wk_id ?_
        refine seq_np ?_
        refine reg_f ?_
        refine rs 2 [] [] (by kernel_rfl) allP_nil ?_
        refine rf [(4, .ptr 0 0)] [(0, .row 28 [iS 0, iS 0])] 1 (by kernel_rfl) ?_
        refine wk_id ?_
        obtain rfl := Option.some.inj h
        refine ret_at (.agg [iS 0, iS 0]) (by kernel_rfl) ?_
        exact ret_e [] [] (by simp only [push_cast, seval]) (by simp only [push_cast, seval]) rfl rfl rfl

set_option maxRecDepth 100000 in
set_option maxHeartbeats 200000000 in
theorem slices_Clone_int_spec (s : (List Int)) (r : (List Int)) (h : slices_Clone_int s = some r) : SpecW Try.prog 32 [.sl s.length (fl s)] [] 0 (fun x h n => x = .own 0 0 r.length ∧ h = [(0, .row 3 (fl r))] ∧ n = 1) := by
  unfold slices_Clone_int at h
  refine spec_of (draw_ok _) Try.func32 rfl (by decide) rfl (by kernel_rfl) ?_
  refine seq_np ?_
  refine reg_f ?_
  refine rs 1 [] [] (by kernel_rfl) allP_nil ?_
  refine rf [(0, .sl s.length (fl s))] [] 0 (by kernel_rfl) ?_
  refine wk_id ?_
  refine seq_np ?_
  refine seq_np ?_
  refine reg_f ?_
  refine rs 1 [] [] (by kernel_rfl) allP_nil ?_
  refine run_nil s.length (some 4) (by kernel_rfl) (fun g185 => ?_) ?_
  · obtain rfl : s = [] := List.eq_nil_of_length_eq_zero g185
    replace h : (some ([])) = some r := by simpa using h
    refine rf [(0, .sl ([] : List Int).length (fl ([] : List Int))), (4, bS true)] [] 0 (by kernel_rfl) ?_
    refine wk_id ?_
    refine cond_t (by kernel_rfl) ?_
    refine seq_np ?_
    refine reg_f ?_
    refine rs 1 [] [] (by kernel_rfl) allP_nil ?_
    refine rf [(2, .v (.slice none 0 0))] [] 0 (by kernel_rfl) ?_
    refine wk_id ?_
    obtain rfl := Option.some.inj h
    refine ret_at (.v (.slice none 0 0)) (by kernel_rfl) ?_
    exact ret_e [] [] (by simp only [push_cast, seval]) (by simp only [push_cast, seval]) rfl rfl rfl
  · refine rf [(0, .sl s.length (fl s)), (4, bS false)] [] 0 (by kernel_rfl) ?_
    refine wk_id ?_
    refine cond_f (by kernel_rfl) ?_
    refine wk_id ?_
    refine chk_sx h (fun g184 h => ?_)
    refine seq_np ?_
    refine reg_f ?_
    refine run_mk0 Int (some 5) 3 (by kernel_rfl) ?_
    have k183 : (([] : List Int) ++ s).length * 8 ≤ 140737488355328 := by first | simpa only [Bool.and_eq_true, decide_eq_true_eq, bne_iff_ne, ne_eq] using g184 | (simp at g184 ⊢; omega)
    refine rs 3 [none, some ⟨.own 1 0 (([] : List Int) ++ s).length, [(1, .row 3 (fl (([] : List Int) ++ s))), (0, .dead)], 2, [0]⟩] _ (by kernel_rfl) (allP_cons (ob_app (P := Try.prog) ([] : List Int) s 1 8 rfl (fl s) s.length rfl rfl ((fl s).length = s.length * 1) (app_sl s 1 rfl) 3 (by kernel_rfl) (by decide) k183 0 1 []) allP_nil) ?_
    refine rf [(2, .own 1 0 (([] : List Int) ++ s).length)] [(0, .dead), (1, .row 3 (fl (([] : List Int) ++ s)))] 2 (by kernel_rfl) ?_
    refine wk_id ?_
    obtain rfl := Option.some.inj h
    refine ret_at (.own 1 0 (([] : List Int) ++ s).length) (by kernel_rfl) ?_
    exact ret_e [(0, 1)] [] (by simp only [push_cast, seval]) (by simp only [push_cast, seval]) rfl rfl rfl

set_option maxRecDepth 100000 in
set_option maxHeartbeats 200000000 in
theorem cell_does_spec (r : Unit) (h : cell_does = some r) : SpecW Try.prog 42 [] [] 0 (fun x h n => x = .mp 0 ∧ h = [(0, .map [(.int .i64 1, .v (.func (.func 47) #[] #[])), (.int .i64 2, .v (.func (.func 48) #[] #[])), (.int .i64 3, .v (.func (.func 49) #[] #[])), (.int .i64 4, .v (.func (.func 50) #[] #[])), (.int .i64 5, .v (.func (.func 51) #[] #[]))])] ∧ n = 1) := by
  unfold cell_does at h
  refine spec_of (draw_ok _) Try.func42 rfl (by decide) rfl (by kernel_rfl) ?_
  refine seq_np ?_
  refine reg_f ?_
  refine rs 1 [] [] (by kernel_rfl) allP_nil ?_
  refine rf [] [] 0 (by kernel_rfl) ?_
  refine wk_id ?_
  refine seq_np ?_
  refine reg_f ?_
  refine rs 8 [none, some ⟨.any, [(0, .map [(.int .i64 1, .v (.func (.func 47) #[] #[]))])], 1, [0]⟩, some ⟨.any, [(0, .map [(.int .i64 1, .v (.func (.func 47) #[] #[])), (.int .i64 2, .v (.func (.func 48) #[] #[]))])], 1, [0]⟩, some ⟨.any, [(0, .map [(.int .i64 1, .v (.func (.func 47) #[] #[])), (.int .i64 2, .v (.func (.func 48) #[] #[])), (.int .i64 3, .v (.func (.func 49) #[] #[]))])], 1, [0]⟩, some ⟨.any, [(0, .map [(.int .i64 1, .v (.func (.func 47) #[] #[])), (.int .i64 2, .v (.func (.func 48) #[] #[])), (.int .i64 3, .v (.func (.func 49) #[] #[])), (.int .i64 4, .v (.func (.func 50) #[] #[]))])], 1, [0]⟩, some ⟨.any, [(0, .map [(.int .i64 1, .v (.func (.func 47) #[] #[])), (.int .i64 2, .v (.func (.func 48) #[] #[])), (.int .i64 3, .v (.func (.func 49) #[] #[])), (.int .i64 4, .v (.func (.func 50) #[] #[])), (.int .i64 5, .v (.func (.func 51) #[] #[]))])], 1, [0]⟩] _ (by kernel_rfl) (allP_cons (ob_insL (.int .i64) (.int .i64 5) (.v (.func (.func 51) #[] #[])) [(.int .i64 1, .v (.func (.func 47) #[] #[])), (.int .i64 2, .v (.func (.func 48) #[] #[])), (.int .i64 3, .v (.func (.func 49) #[] #[])), (.int .i64 4, .v (.func (.func 50) #[] #[]))] [(.int .i64 1, .v (.func (.func 47) #[] #[])), (.int .i64 2, .v (.func (.func 48) #[] #[])), (.int .i64 3, .v (.func (.func 49) #[] #[])), (.int .i64 4, .v (.func (.func 50) #[] #[])), (.int .i64 5, .v (.func (.func 51) #[] #[]))] 0 1 rfl rfl rfl) (allP_cons (ob_insL (.int .i64) (.int .i64 4) (.v (.func (.func 50) #[] #[])) [(.int .i64 1, .v (.func (.func 47) #[] #[])), (.int .i64 2, .v (.func (.func 48) #[] #[])), (.int .i64 3, .v (.func (.func 49) #[] #[]))] [(.int .i64 1, .v (.func (.func 47) #[] #[])), (.int .i64 2, .v (.func (.func 48) #[] #[])), (.int .i64 3, .v (.func (.func 49) #[] #[])), (.int .i64 4, .v (.func (.func 50) #[] #[]))] 0 1 rfl rfl rfl) (allP_cons (ob_insL (.int .i64) (.int .i64 3) (.v (.func (.func 49) #[] #[])) [(.int .i64 1, .v (.func (.func 47) #[] #[])), (.int .i64 2, .v (.func (.func 48) #[] #[]))] [(.int .i64 1, .v (.func (.func 47) #[] #[])), (.int .i64 2, .v (.func (.func 48) #[] #[])), (.int .i64 3, .v (.func (.func 49) #[] #[]))] 0 1 rfl rfl rfl) (allP_cons (ob_insL (.int .i64) (.int .i64 2) (.v (.func (.func 48) #[] #[])) [(.int .i64 1, .v (.func (.func 47) #[] #[]))] [(.int .i64 1, .v (.func (.func 47) #[] #[])), (.int .i64 2, .v (.func (.func 48) #[] #[]))] 0 1 rfl rfl rfl) (allP_cons (ob_insL (.int .i64) (.int .i64 1) (.v (.func (.func 47) #[] #[])) [] [(.int .i64 1, .v (.func (.func 47) #[] #[]))] 0 1 rfl rfl rfl) allP_nil))))) ?_
  refine rf [(0, .mp 0)] [(0, .map [(.int .i64 1, .v (.func (.func 47) #[] #[])), (.int .i64 2, .v (.func (.func 48) #[] #[])), (.int .i64 3, .v (.func (.func 49) #[] #[])), (.int .i64 4, .v (.func (.func 50) #[] #[])), (.int .i64 5, .v (.func (.func 51) #[] #[]))])] 1 (by kernel_rfl) ?_
  refine wk_id ?_
  obtain rfl := Option.some.inj h
  refine ret_at (.mp 0) (by kernel_rfl) ?_
  exact ret_e [(0, 0)] [] (by simp only [push_cast, seval]) (by simp only [push_cast, seval]) rfl rfl rfl

set_option maxRecDepth 100000 in
set_option maxHeartbeats 200000000 in
theorem cell_does_1_spec (cp : Int) (xa : Int) (b : Int) (c0 : (List Int)) (r : Int × (List Int)) (h : cell_does_1 cp xa b c0 = some r) : SpecW Try.prog 47 [.ptr 0 (0 + (cp).toNat * 1), iS xa, iS b] [(0, .row 3 (fl c0))] 1 (fun x h n => x = iS r.1 ∧ h = [(0, .row 3 (fl r.2))] ∧ n = 1) := by
  unfold cell_does_1 at h
  refine spec_of (draw_ok _) Try.func47 rfl (by decide) rfl (by kernel_rfl) ?_
  refine chk_sx h (fun g203 h => ?_)
  have k202 : 0 ≤ cp ∧ cp < ((c0.length : Nat) : Int) := of_decide_eq_true g203
  refine seq_np ?_
  refine reg_f ?_
  refine rs 1 [] [] (by kernel_rfl) allP_nil ?_
  refine rf [(0, .ptr 0 (0 + (cp).toNat * 1))] [(0, .row 3 (fl c0))] 1 (by kernel_rfl) ?_
  refine wk_id ?_
  refine seq_np ?_
  refine reg_f ?_
  refine rs 4 [none, none, some ⟨iS (ix c0 cp), [], 1, [0]⟩] _ (by kernel_rfl) (allP_cons (ob_ld c0 cp 1 0 (0 + (cp).toNat * 1) k202 rfl (by decide) (by first | rfl | omega) (dflS Try.prog 3) (iS (ix c0 cp)) rfl 1 [0]) allP_nil) ?_
  refine rf [(6, iS (ix c0 cp))] [(0, .row 3 (fl c0))] 1 (by kernel_rfl) ?_
  refine wk_id ?_
  obtain rfl := Option.some.inj h
  refine ret_at (iS (ix c0 cp)) (by kernel_rfl) ?_
  exact ret_e [(0, 0)] [] (by simp only [push_cast, seval]) (by simp only [push_cast, seval]) rfl rfl rfl

set_option maxRecDepth 100000 in
set_option maxHeartbeats 200000000 in
theorem cell_does_2_spec (cp : Int) (xa : Int) (b : Int) (c0 : (List Int)) (r : Int × (List Int)) (h : cell_does_2 cp xa b c0 = some r) : SpecW Try.prog 48 [.ptr 0 (0 + (cp).toNat * 1), iS xa, iS b] [(0, .row 3 (fl c0))] 1 (fun x h n => x = iS r.1 ∧ h = [(0, .row 3 (fl r.2))] ∧ n = 1) := by
  unfold cell_does_2 at h
  refine spec_of (draw_ok _) Try.func48 rfl (by decide) rfl (by kernel_rfl) ?_
  refine chk_sx h (fun g212 h => ?_)
  have k211 : 0 ≤ cp ∧ cp < ((c0.length : Nat) : Int) := of_decide_eq_true g212
  refine seq_np ?_
  refine reg_f ?_
  refine rs 1 [] [] (by kernel_rfl) allP_nil ?_
  refine rf [(0, .ptr 0 (0 + (cp).toNat * 1)), (1, iS xa)] [(0, .row 3 (fl c0))] 1 (by kernel_rfl) ?_
  refine wk_id ?_
  refine seq_np ?_
  refine reg_f ?_
  refine rs 4 [none, none, none, some ⟨.any, [(0, .row 3 (fl (c0.set cp.toNat xa)))], 1, [0]⟩] _ (by kernel_rfl) (allP_cons (ob_st (P := Try.prog) c0 cp 1 0 (0 + (cp).toNat * 1) k211 rfl [iS xa] xa (Nat.le_of_ble_eq_true rfl) (by first | rfl | omega) rfl 0 1 3 3 (by kernel_rfl) rfl) allP_nil) ?_
  refine rf [] [(0, .row 3 (fl (c0.set cp.toNat xa)))] 1 (by kernel_rfl) ?_
  refine wk_id ?_
  refine seq_np ?_
  refine reg_f ?_
  refine rs 1 [] [] (by kernel_rfl) allP_nil ?_
  refine rf [(6, iS 0)] [(0, .row 3 (fl (c0.set cp.toNat xa)))] 1 (by kernel_rfl) ?_
  refine wk_id ?_
  obtain rfl := Option.some.inj h
  refine ret_at (iS 0) (by kernel_rfl) ?_
  exact ret_e [(0, 0)] [] (by simp only [push_cast, seval]) (by simp only [push_cast, seval]) rfl rfl rfl

set_option maxRecDepth 100000 in
set_option maxHeartbeats 200000000 in
theorem cell_does_3_spec (cp : Int) (xa : Int) (b : Int) (c0 : (List Int)) (r : Int × (List Int)) (h : cell_does_3 cp xa b c0 = some r) : SpecW Try.prog 49 [.ptr 0 (0 + (cp).toNat * 1), iS xa, iS b] [(0, .row 3 (fl c0))] 1 (fun x h n => x = iS r.1 ∧ h = [(0, .row 3 (fl r.2))] ∧ n = 1) := by
  unfold cell_does_3 at h
  refine spec_of (draw_ok _) Try.func49 rfl (by decide) rfl (by kernel_rfl) ?_
  refine chk_sx h (fun g221 h => ?_)
  have k220 : 0 ≤ cp ∧ cp < ((c0.length : Nat) : Int) := of_decide_eq_true g221
  refine seq_np ?_
  refine reg_f ?_
  refine rs 1 [] [] (by kernel_rfl) allP_nil ?_
  refine rf [(0, .ptr 0 (0 + (cp).toNat * 1)), (1, iS xa)] [(0, .row 3 (fl c0))] 1 (by kernel_rfl) ?_
  refine wk_id ?_
  refine seq_np ?_
  refine reg_f ?_
  refine rs 7 [none, none, some ⟨iS (ix c0 cp), [], 1, [0]⟩, none, none, none, some ⟨.any, [(0, .row 3 (fl (c0.set cp.toNat (IntKind.i64.wrap ((ix c0 cp) + xa)))))], 1, [0]⟩] _ (by kernel_rfl) (allP_cons (ob_st (P := Try.prog) c0 cp 1 0 (0 + (cp).toNat * 1) k220 rfl [iS (IntKind.i64.wrap ((ix c0 cp) + xa))] (IntKind.i64.wrap ((ix c0 cp) + xa)) (Nat.le_of_ble_eq_true rfl) (by first | rfl | omega) rfl 0 1 3 3 (by kernel_rfl) rfl) (allP_cons (ob_ld c0 cp 1 0 (0 + (cp).toNat * 1) k220 rfl (by decide) (by first | rfl | omega) (dflS Try.prog 3) (iS (ix c0 cp)) rfl 1 [0]) allP_nil)) ?_
  refine rf [(0, .ptr 0 (0 + (cp).toNat * 1))] [(0, .row 3 (fl (c0.set cp.toNat (IntKind.i64.wrap ((ix c0 cp) + xa)))))] 1 (by kernel_rfl) ?_
  refine wk_id ?_
  refine seq_np ?_
  refine reg_f ?_
  refine rs 4 [none, none, some ⟨iS (ix (c0.set cp.toNat (IntKind.i64.wrap ((ix c0 cp) + xa))) cp), [], 1, [0]⟩] _ (by kernel_rfl) (allP_cons (ob_ld (c0.set cp.toNat (IntKind.i64.wrap ((ix c0 cp) + xa))) cp 1 0 (0 + (cp).toNat * 1) (by rw [List.length_set]; exact k220) rfl (by decide) (by first | rfl | omega) (dflS Try.prog 3) (iS (ix (c0.set cp.toNat (IntKind.i64.wrap ((ix c0 cp) + xa))) cp)) rfl 1 [0]) allP_nil) ?_
  refine rf [(6, iS (ix (c0.set cp.toNat (IntKind.i64.wrap ((ix c0 cp) + xa))) cp))] [(0, .row 3 (fl (c0.set cp.toNat (IntKind.i64.wrap ((ix c0 cp) + xa)))))] 1 (by kernel_rfl) ?_
  refine wk_id ?_
  obtain rfl := Option.some.inj h
  refine ret_at (iS (ix (c0.set cp.toNat (IntKind.i64.wrap ((ix c0 cp) + xa))) cp)) (by kernel_rfl) ?_
  exact ret_e [(0, 0)] [] (by simp only [push_cast, seval]) (by simp only [push_cast, seval]) rfl rfl rfl

set_option maxRecDepth 100000 in
set_option maxHeartbeats 200000000 in
theorem cell_does_4_spec (cp : Int) (xa : Int) (b : Int) (c0 : (List Int)) (r : Int × (List Int)) (h : cell_does_4 cp xa b c0 = some r) : SpecW Try.prog 50 [.ptr 0 (0 + (cp).toNat * 1), iS xa, iS b] [(0, .row 3 (fl c0))] 1 (fun x h n => x = iS r.1 ∧ h = [(0, .row 3 (fl r.2))] ∧ n = 1) := by
  unfold cell_does_4 at h
  refine spec_of (draw_ok _) Try.func50 rfl (by decide) rfl (by kernel_rfl) ?_
  refine chk_sx h (fun g230 h => ?_)
  have k229 : 0 ≤ cp ∧ cp < ((c0.length : Nat) : Int) := of_decide_eq_true g230
  refine seq_np ?_
  refine reg_f ?_
  refine rs 1 [] [] (by kernel_rfl) allP_nil ?_
  refine rf [(0, .ptr 0 (0 + (cp).toNat * 1)), (1, iS xa)] [(0, .row 3 (fl c0))] 1 (by kernel_rfl) ?_
  refine wk_id ?_
  refine seq_np ?_
  refine reg_f ?_
  refine rs 4 [none, none, some ⟨iS (ix c0 cp), [], 1, [0]⟩] _ (by kernel_rfl) (allP_cons (ob_ld c0 cp 1 0 (0 + (cp).toNat * 1) k229 rfl (by decide) (by first | rfl | omega) (dflS Try.prog 3) (iS (ix c0 cp)) rfl 1 [0]) allP_nil) ?_
  refine rf [(0, .ptr 0 (0 + (cp).toNat * 1)), (1, iS xa), (7, iS (ix c0 cp))] [(0, .row 3 (fl c0))] 1 (by kernel_rfl) ?_
  refine wk_id ?_
  refine seq_np ?_
  refine reg_f ?_
  refine rs 4 [none, none, none, some ⟨.any, [(0, .row 3 (fl (c0.set cp.toNat xa)))], 1, [0]⟩] _ (by kernel_rfl) (allP_cons (ob_st (P := Try.prog) c0 cp 1 0 (0 + (cp).toNat * 1) k229 rfl [iS xa] xa (Nat.le_of_ble_eq_true rfl) (by first | rfl | omega) rfl 0 1 3 3 (by kernel_rfl) rfl) allP_nil) ?_
  refine rf [(7, iS (ix c0 cp))] [(0, .row 3 (fl (c0.set cp.toNat xa)))] 1 (by kernel_rfl) ?_
  refine wk_id ?_
  refine seq_np ?_
  refine reg_f ?_
  refine rs 2 [] [] (by kernel_rfl) allP_nil ?_
  refine rf [(6, iS (ix c0 cp))] [(0, .row 3 (fl (c0.set cp.toNat xa)))] 1 (by kernel_rfl) ?_
  refine wk_id ?_
  obtain rfl := Option.some.inj h
  refine ret_at (iS (ix c0 cp)) (by kernel_rfl) ?_
  exact ret_e [(0, 0)] [] (by simp only [push_cast, seval]) (by simp only [push_cast, seval]) rfl rfl rfl

set_option maxRecDepth 100000 in
set_option maxHeartbeats 200000000 in
theorem cell_does_5_spec (cp : Int) (xa : Int) (b : Int) (c0 : (List Int)) (r : Int × (List Int)) (h : cell_does_5 cp xa b c0 = some r) : SpecW Try.prog 51 [.ptr 0 (0 + (cp).toNat * 1), iS xa, iS b] [(0, .row 3 (fl c0))] 1 (fun x h n => x = iS r.1 ∧ h = [(0, .row 3 (fl r.2))] ∧ n = 1) := by
  unfold cell_does_5 at h
  refine spec_of (draw_ok _) Try.func51 rfl (by decide) rfl (by kernel_rfl) ?_
  refine chk_sx h (fun g239 h => ?_)
  have k238 : 0 ≤ cp ∧ cp < ((c0.length : Nat) : Int) := of_decide_eq_true g239
  refine seq_np ?_
  refine reg_f ?_
  refine rs 1 [] [] (by kernel_rfl) allP_nil ?_
  refine rf [(0, .ptr 0 (0 + (cp).toNat * 1)), (1, iS xa), (2, iS b)] [(0, .row 3 (fl c0))] 1 (by kernel_rfl) ?_
  refine wk_id ?_
  refine seq_np ?_
  refine seq_np ?_
  refine reg_f ?_
  refine rs 5 [none, none, some ⟨iS (ix c0 cp), [], 1, [0]⟩] _ (by kernel_rfl) (allP_cons (ob_ld c0 cp 1 0 (0 + (cp).toNat * 1) k238 rfl (by decide) (by first | rfl | omega) (dflS Try.prog 3) (iS (ix c0 cp)) rfl 1 [0]) allP_nil) ?_
  refine rf [(0, .ptr 0 (0 + (cp).toNat * 1)), (2, iS b), (11, bS ((ix c0 cp) != xa))] [(0, .row 3 (fl c0))] 1 (by kernel_rfl) ?_
  refine wk_id ?_
  refine cond_sx h (by kernel_rfl) (fun g242 h => ?_) (fun g242 h => ?_)
  · refine seq_np ?_
    refine reg_f ?_
    refine rs 1 [] [] (by kernel_rfl) allP_nil ?_
    refine rf [(6, iS 0)] [(0, .row 3 (fl c0))] 1 (by kernel_rfl) ?_
    refine wk_id ?_
    obtain rfl := Option.some.inj h
    refine ret_at (iS 0) (by kernel_rfl) ?_
    exact ret_e [(0, 0)] [] (by simp only [push_cast, seval]) (by simp only [push_cast, seval]) rfl rfl rfl
  · refine wk_id ?_
    refine seq_np ?_
    refine reg_f ?_
    refine rs 4 [none, none, none, some ⟨.any, [(0, .row 3 (fl (c0.set cp.toNat b)))], 1, [0]⟩] _ (by kernel_rfl) (allP_cons (ob_st (P := Try.prog) c0 cp 1 0 (0 + (cp).toNat * 1) k238 rfl [iS b] b (Nat.le_of_ble_eq_true rfl) (by first | rfl | omega) rfl 0 1 3 3 (by kernel_rfl) rfl) allP_nil) ?_
    refine rf [] [(0, .row 3 (fl (c0.set cp.toNat b)))] 1 (by kernel_rfl) ?_
    refine wk_id ?_
    refine seq_np ?_
    refine reg_f ?_
    refine rs 1 [] [] (by kernel_rfl) allP_nil ?_
    refine rf [(6, iS 1)] [(0, .row 3 (fl (c0.set cp.toNat b)))] 1 (by kernel_rfl) ?_
    refine wk_id ?_
    obtain rfl := Option.some.inj h
    refine ret_at (iS 1) (by kernel_rfl) ?_
    exact ret_e [(0, 0)] [] (by simp only [push_cast, seval]) (by simp only [push_cast, seval]) rfl rfl rfl

set_option maxRecDepth 100000 in
set_option maxHeartbeats 200000000 in
theorem cell_Do_1_spec (xo : GOp) (c0 : (List Int)) (r : Int × (List Int)) (h : cell_Do_1 xo c0 = some r) : SpecW Try.prog 33 [.own 0 0 c0.length, .agg (Enc.cells xo)] [(0, .row 3 (fl c0))] 1 (fun x h n => x = iS r.1 ∧ h = [(0, .row 3 (fl r.2))] ∧ n = 1) := by
  unfold cell_Do_1 at h
  refine spec_of (draw_ok _) Try.func33 rfl (by decide) rfl (by kernel_rfl) ?_
  refine seq_np ?_
  refine reg_f ?_
  refine rs 2 [] [] (by kernel_rfl) allP_nil ?_
  refine rf [(0, .own 0 0 c0.length), (3, .ptr 1 0)] [(0, .row 3 (fl c0)), (1, .row 50 (Enc.cells xo))] 2 (by kernel_rfl) ?_
  refine wk_id ?_
  refine split_s h (fun g247 h => ?_) (fun g248 h => ?_)
  · refine seq_np ?_
    refine reg_t ?_
    obtain ⟨r254, hr254, h⟩ := bind_sx h
    refine call_x (cell_does_spec r254 hr254) (args := []) (dst := (some 5)) (by kernel_rfl) [(0, .row 3 (fl c0)), (1, .row 50 (Enc.cells xo))] 2 (by kernel_rfl) [] [] (.mp 2) [(2, .map [(.int .i64 1, .v (.func (.func 47) #[] #[])), (.int .i64 2, .v (.func (.func 48) #[] #[])), (.int .i64 3, .v (.func (.func 49) #[] #[])), (.int .i64 4, .v (.func (.func 50) #[] #[])), (.int .i64 5, .v (.func (.func 51) #[] #[]))])] (by simp only [push_cast, seval]) (by simp only [push_cast, seval]) (by kernel_rfl) (.inl rfl) (by simp only [push_cast, seval]) (by simp only [push_cast, seval]) ?_
    refine rs 2 [] [] (by kernel_rfl) allP_nil ?_
    refine run_at 7 .i64 xo.Kind 1 g247 (by kernel_rfl) ?_
    refine chk_sx h (fun g256 h => ?_)
    have k255 : 0 ≤ xo.At ∧ xo.At < ((c0.length : Nat) : Int) := by first | simpa only [Bool.and_eq_true, decide_eq_true_eq, bne_iff_ne, ne_eq] using g256 | (simp at g256 ⊢; omega)
    refine rs 9 [some ⟨.v (.func (.func 47) #[] #[]), [], 6, [2]⟩, none, none, none, some ⟨.ptr 0 (0 + (xo.At).toNat * 1), [], 10, [0]⟩] _ (by kernel_rfl) (allP_cons (ob_ix_o 0 c0.length 0 1 10 xo.At k255) (allP_cons (ob_lookL (.int .i64) (.int .i64 1) (.v (.func (.func 47) #[] #[])) [(.int .i64 1, .v (.func (.func 47) #[] #[])), (.int .i64 2, .v (.func (.func 48) #[] #[])), (.int .i64 3, .v (.func (.func 49) #[] #[])), (.int .i64 4, .v (.func (.func 50) #[] #[])), (.int .i64 5, .v (.func (.func 51) #[] #[]))] 2 6 rfl rfl) allP_nil)) ?_
    obtain ⟨r257, hr257, h⟩ := bind_sx h
    refine call_x (cell_does_1_spec xo.At xo.A xo.B c0 r257 hr257) (args := [.ptr 0 (0 + (xo.At).toNat * 1), iS xo.A, iS xo.B]) (dst := (some 17)) (by kernel_rfl) [(0, .row 3 (fl c0)), (1, .row 50 (Enc.cells xo)), (2, .map [(.int .i64 1, .v (.func (.func 47) #[] #[])), (.int .i64 2, .v (.func (.func 48) #[] #[])), (.int .i64 3, .v (.func (.func 49) #[] #[])), (.int .i64 4, .v (.func (.func 50) #[] #[])), (.int .i64 5, .v (.func (.func 51) #[] #[]))])] 15 (by kernel_rfl) [(0, 0)] [] (iS r257.1) [(0, .row 3 (fl r257.2)), (0, .dead)] (by simp only [push_cast, seval]) (by simp only [push_cast, seval]) (by kernel_rfl) (.inl rfl) (by simp only [push_cast, seval]) (by simp only [push_cast, seval]) ?_
    refine rs 1 [] [] (by kernel_rfl) allP_nil ?_
    refine rt [(4, iS r257.1)] [(0, .row 3 (fl r257.2)), (1, .row 50 (Enc.cells xo)), (2, .map [(.int .i64 1, .v (.func (.func 47) #[] #[])), (.int .i64 2, .v (.func (.func 48) #[] #[])), (.int .i64 3, .v (.func (.func 49) #[] #[])), (.int .i64 4, .v (.func (.func 50) #[] #[])), (.int .i64 5, .v (.func (.func 51) #[] #[]))])] 18 follows (by kernel_rfl) ?_
    refine wk_id ?_
    obtain rfl := Option.some.inj h
    refine ret_at (iS r257.1) (by kernel_rfl) ?_
    exact ret_e [(0, 0)] [] (by simp only [push_cast, seval]) (by simp only [push_cast, seval]) rfl rfl rfl
  refine split_s h (fun g259 h => ?_) (fun g260 h => ?_)
  · refine seq_np ?_
    refine reg_t ?_
    obtain ⟨r266, hr266, h⟩ := bind_sx h
    refine call_x (cell_does_spec r266 hr266) (args := []) (dst := (some 5)) (by kernel_rfl) [(0, .row 3 (fl c0)), (1, .row 50 (Enc.cells xo))] 2 (by kernel_rfl) [] [] (.mp 2) [(2, .map [(.int .i64 1, .v (.func (.func 47) #[] #[])), (.int .i64 2, .v (.func (.func 48) #[] #[])), (.int .i64 3, .v (.func (.func 49) #[] #[])), (.int .i64 4, .v (.func (.func 50) #[] #[])), (.int .i64 5, .v (.func (.func 51) #[] #[]))])] (by simp only [push_cast, seval]) (by simp only [push_cast, seval]) (by kernel_rfl) (.inl rfl) (by simp only [push_cast, seval]) (by simp only [push_cast, seval]) ?_
    refine rs 2 [] [] (by kernel_rfl) allP_nil ?_
    refine run_at 7 .i64 xo.Kind 2 g259 (by kernel_rfl) ?_
    refine chk_sx h (fun g268 h => ?_)
    have k267 : 0 ≤ xo.At ∧ xo.At < ((c0.length : Nat) : Int) := by first | simpa only [Bool.and_eq_true, decide_eq_true_eq, bne_iff_ne, ne_eq] using g268 | (simp at g268 ⊢; omega)
    refine rs 9 [some ⟨.v (.func (.func 48) #[] #[]), [], 6, [2]⟩, none, none, none, some ⟨.ptr 0 (0 + (xo.At).toNat * 1), [], 10, [0]⟩] _ (by kernel_rfl) (allP_cons (ob_ix_o 0 c0.length 0 1 10 xo.At k267) (allP_cons (ob_lookL (.int .i64) (.int .i64 2) (.v (.func (.func 48) #[] #[])) [(.int .i64 1, .v (.func (.func 47) #[] #[])), (.int .i64 2, .v (.func (.func 48) #[] #[])), (.int .i64 3, .v (.func (.func 49) #[] #[])), (.int .i64 4, .v (.func (.func 50) #[] #[])), (.int .i64 5, .v (.func (.func 51) #[] #[]))] 2 6 rfl rfl) allP_nil)) ?_
    obtain ⟨r269, hr269, h⟩ := bind_sx h
    refine call_x (cell_does_2_spec xo.At xo.A xo.B c0 r269 hr269) (args := [.ptr 0 (0 + (xo.At).toNat * 1), iS xo.A, iS xo.B]) (dst := (some 17)) (by kernel_rfl) [(0, .row 3 (fl c0)), (1, .row 50 (Enc.cells xo)), (2, .map [(.int .i64 1, .v (.func (.func 47) #[] #[])), (.int .i64 2, .v (.func (.func 48) #[] #[])), (.int .i64 3, .v (.func (.func 49) #[] #[])), (.int .i64 4, .v (.func (.func 50) #[] #[])), (.int .i64 5, .v (.func (.func 51) #[] #[]))])] 15 (by kernel_rfl) [(0, 0)] [] (iS r269.1) [(0, .row 3 (fl r269.2)), (0, .dead)] (by simp only [push_cast, seval]) (by simp only [push_cast, seval]) (by kernel_rfl) (.inl rfl) (by simp only [push_cast, seval]) (by simp only [push_cast, seval]) ?_
    refine rs 1 [] [] (by kernel_rfl) allP_nil ?_
    refine rt [(4, iS r269.1)] [(0, .row 3 (fl r269.2)), (1, .row 50 (Enc.cells xo)), (2, .map [(.int .i64 1, .v (.func (.func 47) #[] #[])), (.int .i64 2, .v (.func (.func 48) #[] #[])), (.int .i64 3, .v (.func (.func 49) #[] #[])), (.int .i64 4, .v (.func (.func 50) #[] #[])), (.int .i64 5, .v (.func (.func 51) #[] #[]))])] 18 follows (by kernel_rfl) ?_
    refine wk_id ?_
    obtain rfl := Option.some.inj h
    refine ret_at (iS r269.1) (by kernel_rfl) ?_
    exact ret_e [(0, 0)] [] (by simp only [push_cast, seval]) (by simp only [push_cast, seval]) rfl rfl rfl
  refine split_s h (fun g271 h => ?_) (fun g272 h => ?_)
  · refine seq_np ?_
    refine reg_t ?_
    obtain ⟨r278, hr278, h⟩ := bind_sx h
    refine call_x (cell_does_spec r278 hr278) (args := []) (dst := (some 5)) (by kernel_rfl) [(0, .row 3 (fl c0)), (1, .row 50 (Enc.cells xo))] 2 (by kernel_rfl) [] [] (.mp 2) [(2, .map [(.int .i64 1, .v (.func (.func 47) #[] #[])), (.int .i64 2, .v (.func (.func 48) #[] #[])), (.int .i64 3, .v (.func (.func 49) #[] #[])), (.int .i64 4, .v (.func (.func 50) #[] #[])), (.int .i64 5, .v (.func (.func 51) #[] #[]))])] (by simp only [push_cast, seval]) (by simp only [push_cast, seval]) (by kernel_rfl) (.inl rfl) (by simp only [push_cast, seval]) (by simp only [push_cast, seval]) ?_
    refine rs 2 [] [] (by kernel_rfl) allP_nil ?_
    refine run_at 7 .i64 xo.Kind 3 g271 (by kernel_rfl) ?_
    refine chk_sx h (fun g280 h => ?_)
    have k279 : 0 ≤ xo.At ∧ xo.At < ((c0.length : Nat) : Int) := by first | simpa only [Bool.and_eq_true, decide_eq_true_eq, bne_iff_ne, ne_eq] using g280 | (simp at g280 ⊢; omega)
    refine rs 9 [some ⟨.v (.func (.func 49) #[] #[]), [], 6, [2]⟩, none, none, none, some ⟨.ptr 0 (0 + (xo.At).toNat * 1), [], 10, [0]⟩] _ (by kernel_rfl) (allP_cons (ob_ix_o 0 c0.length 0 1 10 xo.At k279) (allP_cons (ob_lookL (.int .i64) (.int .i64 3) (.v (.func (.func 49) #[] #[])) [(.int .i64 1, .v (.func (.func 47) #[] #[])), (.int .i64 2, .v (.func (.func 48) #[] #[])), (.int .i64 3, .v (.func (.func 49) #[] #[])), (.int .i64 4, .v (.func (.func 50) #[] #[])), (.int .i64 5, .v (.func (.func 51) #[] #[]))] 2 6 rfl rfl) allP_nil)) ?_
    obtain ⟨r281, hr281, h⟩ := bind_sx h
    refine call_x (cell_does_3_spec xo.At xo.A xo.B c0 r281 hr281) (args := [.ptr 0 (0 + (xo.At).toNat * 1), iS xo.A, iS xo.B]) (dst := (some 17)) (by kernel_rfl) [(0, .row 3 (fl c0)), (1, .row 50 (Enc.cells xo)), (2, .map [(.int .i64 1, .v (.func (.func 47) #[] #[])), (.int .i64 2, .v (.func (.func 48) #[] #[])), (.int .i64 3, .v (.func (.func 49) #[] #[])), (.int .i64 4, .v (.func (.func 50) #[] #[])), (.int .i64 5, .v (.func (.func 51) #[] #[]))])] 15 (by kernel_rfl) [(0, 0)] [] (iS r281.1) [(0, .row 3 (fl r281.2)), (0, .dead)] (by simp only [push_cast, seval]) (by simp only [push_cast, seval]) (by kernel_rfl) (.inl rfl) (by simp only [push_cast, seval]) (by simp only [push_cast, seval]) ?_
    refine rs 1 [] [] (by kernel_rfl) allP_nil ?_
    refine rt [(4, iS r281.1)] [(0, .row 3 (fl r281.2)), (1, .row 50 (Enc.cells xo)), (2, .map [(.int .i64 1, .v (.func (.func 47) #[] #[])), (.int .i64 2, .v (.func (.func 48) #[] #[])), (.int .i64 3, .v (.func (.func 49) #[] #[])), (.int .i64 4, .v (.func (.func 50) #[] #[])), (.int .i64 5, .v (.func (.func 51) #[] #[]))])] 18 follows (by kernel_rfl) ?_
    refine wk_id ?_
    obtain rfl := Option.some.inj h
    refine ret_at (iS r281.1) (by kernel_rfl) ?_
    exact ret_e [(0, 0)] [] (by simp only [push_cast, seval]) (by simp only [push_cast, seval]) rfl rfl rfl
  refine split_s h (fun g283 h => ?_) (fun g284 h => ?_)
  · refine seq_np ?_
    refine reg_t ?_
    obtain ⟨r290, hr290, h⟩ := bind_sx h
    refine call_x (cell_does_spec r290 hr290) (args := []) (dst := (some 5)) (by kernel_rfl) [(0, .row 3 (fl c0)), (1, .row 50 (Enc.cells xo))] 2 (by kernel_rfl) [] [] (.mp 2) [(2, .map [(.int .i64 1, .v (.func (.func 47) #[] #[])), (.int .i64 2, .v (.func (.func 48) #[] #[])), (.int .i64 3, .v (.func (.func 49) #[] #[])), (.int .i64 4, .v (.func (.func 50) #[] #[])), (.int .i64 5, .v (.func (.func 51) #[] #[]))])] (by simp only [push_cast, seval]) (by simp only [push_cast, seval]) (by kernel_rfl) (.inl rfl) (by simp only [push_cast, seval]) (by simp only [push_cast, seval]) ?_
    refine rs 2 [] [] (by kernel_rfl) allP_nil ?_
    refine run_at 7 .i64 xo.Kind 4 g283 (by kernel_rfl) ?_
    refine chk_sx h (fun g292 h => ?_)
    have k291 : 0 ≤ xo.At ∧ xo.At < ((c0.length : Nat) : Int) := by first | simpa only [Bool.and_eq_true, decide_eq_true_eq, bne_iff_ne, ne_eq] using g292 | (simp at g292 ⊢; omega)
    refine rs 9 [some ⟨.v (.func (.func 50) #[] #[]), [], 6, [2]⟩, none, none, none, some ⟨.ptr 0 (0 + (xo.At).toNat * 1), [], 10, [0]⟩] _ (by kernel_rfl) (allP_cons (ob_ix_o 0 c0.length 0 1 10 xo.At k291) (allP_cons (ob_lookL (.int .i64) (.int .i64 4) (.v (.func (.func 50) #[] #[])) [(.int .i64 1, .v (.func (.func 47) #[] #[])), (.int .i64 2, .v (.func (.func 48) #[] #[])), (.int .i64 3, .v (.func (.func 49) #[] #[])), (.int .i64 4, .v (.func (.func 50) #[] #[])), (.int .i64 5, .v (.func (.func 51) #[] #[]))] 2 6 rfl rfl) allP_nil)) ?_
    obtain ⟨r293, hr293, h⟩ := bind_sx h
    refine call_x (cell_does_4_spec xo.At xo.A xo.B c0 r293 hr293) (args := [.ptr 0 (0 + (xo.At).toNat * 1), iS xo.A, iS xo.B]) (dst := (some 17)) (by kernel_rfl) [(0, .row 3 (fl c0)), (1, .row 50 (Enc.cells xo)), (2, .map [(.int .i64 1, .v (.func (.func 47) #[] #[])), (.int .i64 2, .v (.func (.func 48) #[] #[])), (.int .i64 3, .v (.func (.func 49) #[] #[])), (.int .i64 4, .v (.func (.func 50) #[] #[])), (.int .i64 5, .v (.func (.func 51) #[] #[]))])] 15 (by kernel_rfl) [(0, 0)] [] (iS r293.1) [(0, .row 3 (fl r293.2)), (0, .dead)] (by simp only [push_cast, seval]) (by simp only [push_cast, seval]) (by kernel_rfl) (.inl rfl) (by simp only [push_cast, seval]) (by simp only [push_cast, seval]) ?_
    refine rs 1 [] [] (by kernel_rfl) allP_nil ?_
    refine rt [(4, iS r293.1)] [(0, .row 3 (fl r293.2)), (1, .row 50 (Enc.cells xo)), (2, .map [(.int .i64 1, .v (.func (.func 47) #[] #[])), (.int .i64 2, .v (.func (.func 48) #[] #[])), (.int .i64 3, .v (.func (.func 49) #[] #[])), (.int .i64 4, .v (.func (.func 50) #[] #[])), (.int .i64 5, .v (.func (.func 51) #[] #[]))])] 18 follows (by kernel_rfl) ?_
    refine wk_id ?_
    obtain rfl := Option.some.inj h
    refine ret_at (iS r293.1) (by kernel_rfl) ?_
    exact ret_e [(0, 0)] [] (by simp only [push_cast, seval]) (by simp only [push_cast, seval]) rfl rfl rfl
  refine split_s h (fun g295 h => ?_) (fun g296 h => ?_)
  · refine seq_np ?_
    refine reg_t ?_
    obtain ⟨r302, hr302, h⟩ := bind_sx h
    refine call_x (cell_does_spec r302 hr302) (args := []) (dst := (some 5)) (by kernel_rfl) [(0, .row 3 (fl c0)), (1, .row 50 (Enc.cells xo))] 2 (by kernel_rfl) [] [] (.mp 2) [(2, .map [(.int .i64 1, .v (.func (.func 47) #[] #[])), (.int .i64 2, .v (.func (.func 48) #[] #[])), (.int .i64 3, .v (.func (.func 49) #[] #[])), (.int .i64 4, .v (.func (.func 50) #[] #[])), (.int .i64 5, .v (.func (.func 51) #[] #[]))])] (by simp only [push_cast, seval]) (by simp only [push_cast, seval]) (by kernel_rfl) (.inl rfl) (by simp only [push_cast, seval]) (by simp only [push_cast, seval]) ?_
    refine rs 2 [] [] (by kernel_rfl) allP_nil ?_
    refine run_at 7 .i64 xo.Kind 5 g295 (by kernel_rfl) ?_
    refine chk_sx h (fun g304 h => ?_)
    have k303 : 0 ≤ xo.At ∧ xo.At < ((c0.length : Nat) : Int) := by first | simpa only [Bool.and_eq_true, decide_eq_true_eq, bne_iff_ne, ne_eq] using g304 | (simp at g304 ⊢; omega)
    refine rs 9 [some ⟨.v (.func (.func 51) #[] #[]), [], 6, [2]⟩, none, none, none, some ⟨.ptr 0 (0 + (xo.At).toNat * 1), [], 10, [0]⟩] _ (by kernel_rfl) (allP_cons (ob_ix_o 0 c0.length 0 1 10 xo.At k303) (allP_cons (ob_lookL (.int .i64) (.int .i64 5) (.v (.func (.func 51) #[] #[])) [(.int .i64 1, .v (.func (.func 47) #[] #[])), (.int .i64 2, .v (.func (.func 48) #[] #[])), (.int .i64 3, .v (.func (.func 49) #[] #[])), (.int .i64 4, .v (.func (.func 50) #[] #[])), (.int .i64 5, .v (.func (.func 51) #[] #[]))] 2 6 rfl rfl) allP_nil)) ?_
    obtain ⟨r305, hr305, h⟩ := bind_sx h
    refine call_x (cell_does_5_spec xo.At xo.A xo.B c0 r305 hr305) (args := [.ptr 0 (0 + (xo.At).toNat * 1), iS xo.A, iS xo.B]) (dst := (some 17)) (by kernel_rfl) [(0, .row 3 (fl c0)), (1, .row 50 (Enc.cells xo)), (2, .map [(.int .i64 1, .v (.func (.func 47) #[] #[])), (.int .i64 2, .v (.func (.func 48) #[] #[])), (.int .i64 3, .v (.func (.func 49) #[] #[])), (.int .i64 4, .v (.func (.func 50) #[] #[])), (.int .i64 5, .v (.func (.func 51) #[] #[]))])] 15 (by kernel_rfl) [(0, 0)] [] (iS r305.1) [(0, .row 3 (fl r305.2)), (0, .dead)] (by simp only [push_cast, seval]) (by simp only [push_cast, seval]) (by kernel_rfl) (.inl rfl) (by simp only [push_cast, seval]) (by simp only [push_cast, seval]) ?_
    refine rs 1 [] [] (by kernel_rfl) allP_nil ?_
    refine rt [(4, iS r305.1)] [(0, .row 3 (fl r305.2)), (1, .row 50 (Enc.cells xo)), (2, .map [(.int .i64 1, .v (.func (.func 47) #[] #[])), (.int .i64 2, .v (.func (.func 48) #[] #[])), (.int .i64 3, .v (.func (.func 49) #[] #[])), (.int .i64 4, .v (.func (.func 50) #[] #[])), (.int .i64 5, .v (.func (.func 51) #[] #[]))])] 18 follows (by kernel_rfl) ?_
    refine wk_id ?_
    obtain rfl := Option.some.inj h
    refine ret_at (iS r305.1) (by kernel_rfl) ?_
    exact ret_e [(0, 0)] [] (by simp only [push_cast, seval]) (by simp only [push_cast, seval]) rfl rfl rfl
  refine seq_np ?_
  refine reg_t ?_
  obtain ⟨r308, hr308, h⟩ := bind_sx h
  refine call_x (cell_does_spec r308 hr308) (args := []) (dst := (some 5)) (by kernel_rfl) [(0, .row 3 (fl c0)), (1, .row 50 (Enc.cells xo))] 2 (by kernel_rfl) [] [] (.mp 2) [(2, .map [(.int .i64 1, .v (.func (.func 47) #[] #[])), (.int .i64 2, .v (.func (.func 48) #[] #[])), (.int .i64 3, .v (.func (.func 49) #[] #[])), (.int .i64 4, .v (.func (.func 50) #[] #[])), (.int .i64 5, .v (.func (.func 51) #[] #[]))])] (by simp only [push_cast, seval]) (by simp only [push_cast, seval]) (by kernel_rfl) (.inl rfl) (by simp only [push_cast, seval]) (by simp only [push_cast, seval]) ?_
  cases h

set_option maxRecDepth 100000 in
set_option maxHeartbeats 200000000 in
theorem taskmillref_F_spec (code : Int) (xat : Int) (r : Fault) (h : taskmillref_F code xat = some r) : SpecW Try.prog 14 [iS code, iS xat] [] 0 (fun x h n => x = .agg (Enc.cells r) ∧ h = [] ∧ n = 0) := by
  unfold taskmillref_F at h
  refine spec_of (draw_ok _) Try.func14 rfl (by decide) rfl (by kernel_rfl) ?_
  refine seq_np ?_
  refine reg_f ?_
  refine rs 1 [] [] (by kernel_rfl) allP_nil ?_
  refine rf [(0, iS code), (1, iS xat), (4, .ptr 0 0)] [(0, .row 28 [iS 0, iS 0])] 1 (by kernel_rfl) ?_
  refine wk_id ?_
  refine seq_np ?_
  refine reg_f ?_
  refine rs 4 [] [] (by kernel_rfl) allP_nil ?_
  refine rf [(4, .ptr 0 0)] [(0, .row 28 [iS code, iS xat])] 1 (by kernel_rfl) ?_
  refine wk_id ?_
  obtain rfl := Option.some.inj h
  refine ret_at (.agg [iS code, iS xat]) (by kernel_rfl) ?_
  exact ret_e [] [] (by simp only [push_cast, seval]) (by simp only [push_cast, seval]) rfl rfl rfl

set_option maxRecDepth 100000 in
set_option maxHeartbeats 200000000 in
theorem taskmillref_OpsFault_spec (mem : (List Int)) (ops : (List GOp)) (r : Fault) (h : taskmillref_OpsFault mem ops = some r) : SpecW Try.prog 23 [.sl mem.length (fl mem), .sl ops.length (fl ops)] [] 0 (fun x h n => x = .agg (Enc.cells r) ∧ h = [] ∧ n = 0) := by
  unfold taskmillref_OpsFault at h
  refine spec_of (draw_ok _) Try.func23 rfl (by decide) rfl (by kernel_rfl) ?_
  refine seq_np ?_
  refine reg_f ?_
  refine rs 1 [] [] (by kernel_rfl) allP_nil ?_
  refine rf [(0, .sl mem.length (fl mem)), (1, .sl ops.length (fl ops)), (4, .ptr 0 0)] [(0, .row 28 [iS 0, iS 0])] 1 (by kernel_rfl) ?_
  refine wk_id ?_
  refine seq_np ?_
  refine seq_cut (A := Unit) (fun _ => ([(0, .sl mem.length (fl mem)), (1, .sl ops.length (fl ops)), (4, .ptr 0 0), (14, bS ((decide ((32 : Int) < ((mem.length : Nat) : Int))) || (decide ((5000 : Int) < ((ops.length : Nat) : Int)))))], [(0, .row 28 [iS 0, iS 0])], 1)) (fun _ => True) (fun K489 hK489 => ?_) (fun _ _ => ?_)
  · refine reg_f ?_
    refine rs 4 [] [] (by kernel_rfl) allP_nil ?_
    refine run_split 10 (decide ((32 : Int) < ((mem.length : Nat) : Int))) (.inl (by kernel_rfl)) (fun g490 => ?_) (fun g490 => ?_)
    · refine rs 4 [] [] (by kernel_rfl) allP_nil ?_
      refine rf [(0, .sl mem.length (fl mem)), (1, .sl ops.length (fl ops)), (4, .ptr 0 0), (14, bS true)] [(0, .row 28 [iS 0, iS 0])] 1 (by kernel_rfl) ?_
      exact hK489 () _ _ _ trivial (leSt_m [(0, 0)] [] (by (try simp only [g490]) <;> simp only [push_cast, seval]) (by (try simp only [g490]) <;> simp only [push_cast, seval]) rfl rfl rfl)
    · refine rs 4 [] [] (by kernel_rfl) allP_nil ?_
      refine rf [(0, .sl mem.length (fl mem)), (1, .sl ops.length (fl ops)), (4, .ptr 0 0), (14, bS (decide ((5000 : Int) < ((ops.length : Nat) : Int))))] [(0, .row 28 [iS 0, iS 0])] 1 (by kernel_rfl) ?_
      exact hK489 () _ _ _ trivial (leSt_m [(0, 0)] [] (by (try simp only [g490]) <;> simp only [push_cast, seval]) (by (try simp only [g490]) <;> simp only [push_cast, seval]) rfl rfl rfl)
  · dsimp only
    refine cond_sx h (by kernel_rfl) (fun g683 h => ?_) (fun g683 h => ?_)
    · refine seq_np ?_
      refine reg_f ?_
      obtain ⟨r492, hr492, h⟩ := bind_sx h
      refine run_call 14 [iS 2, iS 0] (some 15) (by kernel_rfl) ?_
      refine call_0 (taskmillref_F_spec 2 0 r492 hr492) (by simp only [push_cast, seval]) (by simp only [push_cast, seval]) ?_
      refine back_f ?_
      refine rs 1 [] [] (by kernel_rfl) allP_nil ?_
      refine rf [(4, .ptr 0 0)] [(0, .row 28 (Enc.cells r492))] 1 (by kernel_rfl) ?_
      refine wk_id ?_
      obtain rfl := Option.some.inj h
      refine ret_at (.agg (Enc.cells r492)) (by kernel_rfl) ?_
      exact ret_e [] [] (by simp only [push_cast, seval]) (by simp only [push_cast, seval]) rfl rfl rfl
    · refine wk_id ?_
      refine seq_np ?_
      refine seq_np ?_
      refine reg_f ?_
      refine rs 1 [] [] (by kernel_rfl) allP_nil ?_
      refine rf [(0, .sl mem.length (fl mem)), (1, .sl ops.length (fl ops)), (4, .ptr 0 0), (5, iS 0)] [(0, .row 28 [iS 0, iS 0])] 1 (by kernel_rfl) ?_
      refine wk_id ?_
      refine block_np ?_
      refine loop_sx (S := Int) (fun a => ([(0, .sl mem.length (fl mem)), (1, .sl ops.length (fl ops)), (4, .ptr 0 0), (5, iS a)], [(0, .row 28 [iS 0, iS 0])], 1)) h (leSt_m [(0, 0)] [] (by simp only [push_cast, seval]) (by simp only [push_cast, seval]) rfl rfl rfl) ?_
      rintro i7 o2 R2 h hr2 hn2 hx2 ht2
      try dsimp only at h hn2 ⊢
      unfold taskmillref_OpsFault_l1 at h
      try dsimp only at h
      refine seq_np ?_
      refine seq_np ?_
      refine reg_f ?_
      refine rs 4 [] [] (by kernel_rfl) allP_nil ?_
      refine rf [(0, .sl mem.length (fl mem)), (1, .sl ops.length (fl ops)), (4, .ptr 0 0), (5, iS i7), (19, bS (decide (i7 < ((ops.length : Nat) : Int))))] [(0, .row 28 [iS 0, iS 0])] 1 (by kernel_rfl) ?_
      refine wk_id ?_
      refine cond_sx h (by kernel_rfl) (fun g682 h => ?_) (fun g682 h => ?_)
      · refine wk_id ?_
        refine seq_np ?_
        refine block_np ?_
        refine chk_sx h (fun g648 h => ?_)
        refine seq_np ?_
        refine reg_f ?_
        have k647 : 0 ≤ i7 ∧ i7 < ((ops.length : Nat) : Int) := by first | simpa only [Bool.and_eq_true, decide_eq_true_eq, bne_iff_ne, ne_eq] using g648 | (simp at g648 ⊢; omega)
        refine rs 6 [none, none, some ⟨.iptr (fl ops) ((i7).toNat * 4), [], 1, []⟩, some ⟨.agg (Enc.cells (ix ops i7)), [], 1, []⟩] _ (by kernel_rfl) (allP_cons (ob_ldw ops i7 4 ((i7).toNat * 4) k647 rfl (by first | rfl | omega) (Enc.cells (ix ops i7)) rfl 1 []) (allP_cons (ob_ix_l ops 4 1 i7 k647) allP_nil)) ?_
        refine rf [(0, .sl mem.length (fl mem)), (1, .sl ops.length (fl ops)), (4, .ptr 0 0), (5, iS i7), (6, .ptr 1 0)] [(0, .row 28 [iS 0, iS 0]), (1, .row 50 (Enc.cells (ix ops i7)))] 2 (by kernel_rfl) ?_
        refine wk_id ?_
        refine seq_np ?_
        refine seq_cut (A := Unit) (fun _ => ([(0, .sl mem.length (fl mem)), (1, .sl ops.length (fl ops)), (4, .ptr 0 0), (5, iS i7), (6, .ptr 1 0), (33, bS ((decide ((ix ops i7).Kind < 1)) || (decide ((5 : Int) < (ix ops i7).Kind))))], [(0, .row 28 [iS 0, iS 0]), (1, .row 50 (Enc.cells (ix ops i7)))], 2)) (fun _ => True) (fun K653 hK653 => ?_) (fun _ _ => ?_)
        · refine reg_f ?_
          refine rs 4 [] [] (by kernel_rfl) allP_nil ?_
          refine run_split 29 (decide ((ix ops i7).Kind < 1)) (.inl (by kernel_rfl)) (fun g654 => ?_) (fun g654 => ?_)
          · refine rs 4 [] [] (by kernel_rfl) allP_nil ?_
            refine rf [(0, .sl mem.length (fl mem)), (1, .sl ops.length (fl ops)), (4, .ptr 0 0), (5, iS i7), (6, .ptr 1 0), (33, bS true)] [(0, .row 28 [iS 0, iS 0]), (1, .row 50 (Enc.cells (ix ops i7)))] 2 (by kernel_rfl) ?_
            exact hK653 () _ _ _ trivial (leSt_m [(0, 0), (1, 1)] [] (by (try simp only [g654]) <;> simp only [push_cast, seval]) (by (try simp only [g654]) <;> simp only [push_cast, seval]) rfl rfl rfl)
          · refine rs 4 [] [] (by kernel_rfl) allP_nil ?_
            refine rf [(0, .sl mem.length (fl mem)), (1, .sl ops.length (fl ops)), (4, .ptr 0 0), (5, iS i7), (6, .ptr 1 0), (33, bS (decide ((5 : Int) < (ix ops i7).Kind)))] [(0, .row 28 [iS 0, iS 0]), (1, .row 50 (Enc.cells (ix ops i7)))] 2 (by kernel_rfl) ?_
            exact hK653 () _ _ _ trivial (leSt_m [(0, 0), (1, 1)] [] (by (try simp only [g654]) <;> simp only [push_cast, seval]) (by (try simp only [g654]) <;> simp only [push_cast, seval]) rfl rfl rfl)
        · dsimp only
          refine cond_sx h (by kernel_rfl) (fun g681 h => ?_) (fun g681 h => ?_)
          · refine seq_np ?_
            refine reg_f ?_
            refine rs 1 [] [] (by kernel_rfl) allP_nil ?_
            obtain ⟨r656, hr656, h⟩ := bind_sx h
            refine run_call 14 [iS 4, iS i7] (some 35) (by kernel_rfl) ?_
            refine call_0 (taskmillref_F_spec 4 i7 r656 hr656) (by simp only [push_cast, seval]) (by simp only [push_cast, seval]) ?_
            refine back_f ?_
            refine rs 1 [] [] (by kernel_rfl) allP_nil ?_
            refine rf [(4, .ptr 0 0)] [(0, .row 28 (Enc.cells r656)), (1, .row 50 (Enc.cells (ix ops i7)))] 2 (by kernel_rfl) ?_
            refine wk_id ?_
            refine rt_cast ht2 ?_
            obtain ⟨r0, h, e0⟩ := map_sx h
            have e1 := hr2 r0 e0.symm
            subst r0
            obtain rfl := Option.some.inj h
            refine ret_at (.agg (Enc.cells r656)) (by kernel_rfl) ?_
            exact ret_e [] [] (by simp only [push_cast, seval]) (by simp only [push_cast, seval]) rfl rfl rfl
          · refine wk_id ?_
            refine seq_np ?_
            refine seq_cut (A := Unit) (fun _ => ([(0, .sl mem.length (fl mem)), (1, .sl ops.length (fl ops)), (4, .ptr 0 0), (5, iS i7), (6, .ptr 1 0), (53, bS (bif ((ix ops i7).Kind == 1) then (((ix ops i7).A != 0) || (((ix ops i7).Kind != 5) && ((ix ops i7).B != 0))) else (((ix ops i7).Kind != 5) && ((ix ops i7).B != 0))))], [(0, .row 28 [iS 0, iS 0]), (1, .row 50 (Enc.cells (ix ops i7)))], 2)) (fun _ => True) (fun K667 hK667 => ?_) (fun _ _ => ?_)
            · refine reg_f ?_
              refine rs 4 [] [] (by kernel_rfl) allP_nil ?_
              refine run_split 39 ((ix ops i7).Kind == 1) (.inl (by kernel_rfl)) (fun g668 => ?_) (fun g668 => ?_)
              · refine rs 5 [] [] (by kernel_rfl) allP_nil ?_
                refine run_split 44 ((ix ops i7).A != 0) (.inl (by kernel_rfl)) (fun g669 => ?_) (fun g669 => ?_)
                · refine rs 9 [] [] (by kernel_rfl) allP_nil ?_
                  refine rf [(0, .sl mem.length (fl mem)), (1, .sl ops.length (fl ops)), (4, .ptr 0 0), (5, iS i7), (6, .ptr 1 0), (53, bS true)] [(0, .row 28 [iS 0, iS 0]), (1, .row 50 (Enc.cells (ix ops i7)))] 2 (by kernel_rfl) ?_
                  exact hK667 () _ _ _ trivial (leSt_m [(0, 0), (1, 1)] [] (by first | ((try simp only [g668, g669]) <;> simp only [push_cast, seval]; done) | ((try simp only [g668]); (try simp only [g669]); simp only [push_cast, seval]; done) | (exfalso; clear h; simp_all; done)) (by first | ((try simp only [g668, g669]) <;> simp only [push_cast, seval]; done) | ((try simp only [g668]); (try simp only [g669]); simp only [push_cast, seval]; done) | (exfalso; clear h; simp_all; done)) rfl rfl rfl)
                · refine rs 4 [] [] (by kernel_rfl) allP_nil ?_
                  refine run_split 48 ((ix ops i7).Kind != 5) (.inr (by kernel_rfl)) (fun g670 => ?_) (fun g670 => ?_)
                  · refine rn 13 [(0, .sl mem.length (fl mem)), (1, .sl ops.length (fl ops)), (4, .ptr 0 0), (5, iS i7), (6, .ptr 1 0), (44, bS false), (48, .gd true (bS true))] [(0, .row 28 [iS 0, iS 0]), (1, .row 50 (Enc.cells (ix ops i7)))] 2 (by kernel_rfl) ?_
                    refine rs 5 [] [] (by kernel_rfl) allP_nil ?_
                    refine rf [(0, .sl mem.length (fl mem)), (1, .sl ops.length (fl ops)), (4, .ptr 0 0), (5, iS i7), (6, .ptr 1 0), (53, bS ((ix ops i7).B != 0))] [(0, .row 28 [iS 0, iS 0]), (1, .row 50 (Enc.cells (ix ops i7)))] 2 (by kernel_rfl) ?_
                    exact hK667 () _ _ _ trivial (leSt_m [(0, 0), (1, 1)] [] (by first | ((try simp only [g668, g669, g670]) <;> simp only [push_cast, seval]; done) | ((try simp only [g668]); (try simp only [g669]); (try simp only [g670]); simp only [push_cast, seval]; done) | (exfalso; clear h; simp_all; done)) (by first | ((try simp only [g668, g669, g670]) <;> simp only [push_cast, seval]; done) | ((try simp only [g668]); (try simp only [g669]); (try simp only [g670]); simp only [push_cast, seval]; done) | (exfalso; clear h; simp_all; done)) rfl rfl rfl)
                  · refine rn 13 [(0, .sl mem.length (fl mem)), (1, .sl ops.length (fl ops)), (4, .ptr 0 0), (5, iS i7), (6, .ptr 1 0), (44, bS false), (48, .gd true (bS false))] [(0, .row 28 [iS 0, iS 0]), (1, .row 50 (Enc.cells (ix ops i7)))] 2 (by kernel_rfl) ?_
                    refine rs 5 [] [] (by kernel_rfl) allP_nil ?_
                    refine rf [(0, .sl mem.length (fl mem)), (1, .sl ops.length (fl ops)), (4, .ptr 0 0), (5, iS i7), (6, .ptr 1 0), (53, bS false)] [(0, .row 28 [iS 0, iS 0]), (1, .row 50 (Enc.cells (ix ops i7)))] 2 (by kernel_rfl) ?_
                    exact hK667 () _ _ _ trivial (leSt_m [(0, 0), (1, 1)] [] (by first | ((try simp only [g668, g669, g670]) <;> simp only [push_cast, seval]; done) | ((try simp only [g668]); (try simp only [g669]); (try simp only [g670]); simp only [push_cast, seval]; done) | (exfalso; clear h; simp_all; done)) (by first | ((try simp only [g668, g669, g670]) <;> simp only [push_cast, seval]; done) | ((try simp only [g668]); (try simp only [g669]); (try simp only [g670]); simp only [push_cast, seval]; done) | (exfalso; clear h; simp_all; done)) rfl rfl rfl)
              · refine rs 9 [] [] (by kernel_rfl) allP_nil ?_
                refine run_split 48 ((ix ops i7).Kind != 5) (.inr (by kernel_rfl)) (fun g671 => ?_) (fun g671 => ?_)
                · refine rs 5 [] [] (by kernel_rfl) allP_nil ?_
                  refine rf [(0, .sl mem.length (fl mem)), (1, .sl ops.length (fl ops)), (4, .ptr 0 0), (5, iS i7), (6, .ptr 1 0), (53, bS ((ix ops i7).B != 0))] [(0, .row 28 [iS 0, iS 0]), (1, .row 50 (Enc.cells (ix ops i7)))] 2 (by kernel_rfl) ?_
                  exact hK667 () _ _ _ trivial (leSt_m [(0, 0), (1, 1)] [] (by first | ((try simp only [g668, g671]) <;> simp only [push_cast, seval]; done) | ((try simp only [g668]); (try simp only [g671]); simp only [push_cast, seval]; done) | (exfalso; clear h; simp_all; done)) (by first | ((try simp only [g668, g671]) <;> simp only [push_cast, seval]; done) | ((try simp only [g668]); (try simp only [g671]); simp only [push_cast, seval]; done) | (exfalso; clear h; simp_all; done)) rfl rfl rfl)
                · refine rs 5 [] [] (by kernel_rfl) allP_nil ?_
                  refine rf [(0, .sl mem.length (fl mem)), (1, .sl ops.length (fl ops)), (4, .ptr 0 0), (5, iS i7), (6, .ptr 1 0), (53, bS false)] [(0, .row 28 [iS 0, iS 0]), (1, .row 50 (Enc.cells (ix ops i7)))] 2 (by kernel_rfl) ?_
                  exact hK667 () _ _ _ trivial (leSt_m [(0, 0), (1, 1)] [] (by first | ((try simp only [g668, g671]) <;> simp only [push_cast, seval]; done) | ((try simp only [g668]); (try simp only [g671]); simp only [push_cast, seval]; done) | (exfalso; clear h; simp_all; done)) (by first | ((try simp only [g668, g671]) <;> simp only [push_cast, seval]; done) | ((try simp only [g668]); (try simp only [g671]); simp only [push_cast, seval]; done) | (exfalso; clear h; simp_all; done)) rfl rfl rfl)
            · dsimp only
              refine cond_sx h (by kernel_rfl) (fun g680 h => ?_) (fun g680 h => ?_)
              · refine seq_np ?_
                refine reg_f ?_
                refine rs 1 [] [] (by kernel_rfl) allP_nil ?_
                obtain ⟨r673, hr673, h⟩ := bind_sx h
                refine run_call 14 [iS 5, iS i7] (some 55) (by kernel_rfl) ?_
                refine call_0 (taskmillref_F_spec 5 i7 r673 hr673) (by simp only [push_cast, seval]) (by simp only [push_cast, seval]) ?_
                refine back_f ?_
                refine rs 1 [] [] (by kernel_rfl) allP_nil ?_
                refine rf [(4, .ptr 0 0)] [(0, .row 28 (Enc.cells r673)), (1, .row 50 (Enc.cells (ix ops i7)))] 2 (by kernel_rfl) ?_
                refine wk_id ?_
                refine rt_cast ht2 ?_
                obtain ⟨r0, h, e0⟩ := map_sx h
                have e1 := hr2 r0 e0.symm
                subst r0
                obtain rfl := Option.some.inj h
                refine ret_at (.agg (Enc.cells r673)) (by kernel_rfl) ?_
                exact ret_e [] [] (by simp only [push_cast, seval]) (by simp only [push_cast, seval]) rfl rfl rfl
              · refine wk_id ?_
                refine seq_cut (A := Unit) (fun _ => ([(0, .sl mem.length (fl mem)), (1, .sl ops.length (fl ops)), (4, .ptr 0 0), (5, iS i7), (65, bS ((decide ((ix ops i7).At < 0)) || (decide (((mem.length : Nat) : Int) ≤ (ix ops i7).At))))], [(0, .row 28 [iS 0, iS 0]), (1, .row 50 (Enc.cells (ix ops i7)))], 2)) (fun _ => True) (fun K675 hK675 => ?_) (fun _ _ => ?_)
                · refine reg_f ?_
                  refine rs 4 [] [] (by kernel_rfl) allP_nil ?_
                  refine run_split 59 (decide ((ix ops i7).At < 0)) (.inl (by kernel_rfl)) (fun g676 => ?_) (fun g676 => ?_)
                  · refine rs 6 [] [] (by kernel_rfl) allP_nil ?_
                    refine rf [(0, .sl mem.length (fl mem)), (1, .sl ops.length (fl ops)), (4, .ptr 0 0), (5, iS i7), (65, bS true)] [(0, .row 28 [iS 0, iS 0]), (1, .row 50 (Enc.cells (ix ops i7)))] 2 (by kernel_rfl) ?_
                    exact hK675 () _ _ _ trivial (leSt_m [(0, 0), (1, 1)] [] (by (try simp only [g676]) <;> simp only [push_cast, seval]) (by (try simp only [g676]) <;> simp only [push_cast, seval]) rfl rfl rfl)
                  · refine rs 6 [] [] (by kernel_rfl) allP_nil ?_
                    refine rf [(0, .sl mem.length (fl mem)), (1, .sl ops.length (fl ops)), (4, .ptr 0 0), (5, iS i7), (65, bS (decide (((mem.length : Nat) : Int) ≤ (ix ops i7).At)))] [(0, .row 28 [iS 0, iS 0]), (1, .row 50 (Enc.cells (ix ops i7)))] 2 (by kernel_rfl) ?_
                    exact hK675 () _ _ _ trivial (leSt_m [(0, 0), (1, 1)] [] (by (try simp only [g676]) <;> simp only [push_cast, seval]) (by (try simp only [g676]) <;> simp only [push_cast, seval]) rfl rfl rfl)
                · dsimp only
                  refine cond_sx h (by kernel_rfl) (fun g679 h => ?_) (fun g679 h => ?_)
                  · refine seq_np ?_
                    refine reg_f ?_
                    refine rs 1 [] [] (by kernel_rfl) allP_nil ?_
                    obtain ⟨r678, hr678, h⟩ := bind_sx h
                    refine run_call 14 [iS 3, iS i7] (some 67) (by kernel_rfl) ?_
                    refine call_0 (taskmillref_F_spec 3 i7 r678 hr678) (by simp only [push_cast, seval]) (by simp only [push_cast, seval]) ?_
                    refine back_f ?_
                    refine rs 1 [] [] (by kernel_rfl) allP_nil ?_
                    refine rf [(4, .ptr 0 0)] [(0, .row 28 (Enc.cells r678)), (1, .row 50 (Enc.cells (ix ops i7)))] 2 (by kernel_rfl) ?_
                    refine wk_id ?_
                    refine rt_cast ht2 ?_
                    obtain ⟨r0, h, e0⟩ := map_sx h
                    have e1 := hr2 r0 e0.symm
                    subst r0
                    obtain rfl := Option.some.inj h
                    refine ret_at (.agg (Enc.cells r678)) (by kernel_rfl) ?_
                    exact ret_e [] [] (by simp only [push_cast, seval]) (by simp only [push_cast, seval]) rfl rfl rfl
                  · refine wk_id ?_
                    refine wk_id ?_
                    refine reg_f ?_
                    refine rs 3 [] [] (by kernel_rfl) allP_nil ?_
                    refine rf [(0, .sl mem.length (fl mem)), (1, .sl ops.length (fl ops)), (4, .ptr 0 0), (5, iS (IntKind.i64.wrap (i7 + 1)))] [(0, .row 28 [iS 0, iS 0]), (1, .row 50 (Enc.cells (ix ops i7)))] 2 (by kernel_rfl) ?_
                    exact hn2 ((IntKind.i64.wrap (i7 + 1))) _ _ _ (Option.some.inj h).symm (leSt_m [(0, 0)] [] (by simp only [push_cast, seval]) (by simp only [push_cast, seval]) rfl rfl rfl)
      · change R2 (.exit 0) _ _ _
        refine ex_cast hx2 (id := 0) ?_
        obtain ⟨r0, h, e0⟩ := map_sx h
        have e1 := hr2 r0 e0.symm
        subst r0
        refine wk_id ?_
        refine wk_id ?_
        refine seq_np ?_
        refine reg_f ?_
        refine rs 2 [] [] (by kernel_rfl) allP_nil ?_
        refine rf [(4, .ptr 0 0)] [(0, .row 28 [iS 0, iS 0])] 1 (by kernel_rfl) ?_
        refine wk_id ?_
        obtain rfl := Option.some.inj h
        refine ret_at (.agg [iS 0, iS 0]) (by kernel_rfl) ?_
        exact ret_e [] [] (by simp only [push_cast, seval]) (by simp only [push_cast, seval]) rfl rfl rfl

set_option maxRecDepth 100000 in
set_option maxHeartbeats 200000000 in
theorem taskmilllaw_cellBegun_spec (r : Bool) (h : taskmilllaw_cellBegun = some r) : SpecW Try.prog 10 [] [] 0 (fun x h n => x = bS r ∧ h = [] ∧ n = 0) := by
  unfold taskmilllaw_cellBegun at h
  obtain rfl := Option.some.inj h
  exact closed_call follows 10000 1000 (by kernel_rfl)

set_option maxRecDepth 100000 in
set_option maxHeartbeats 200000000 in
theorem taskmillref_Ints_spec (xa : (List Int)) (b : (List Int)) (r : Bool) (h : taskmillref_Ints xa b = some r) : SpecW Try.prog 24 [.sl xa.length (fl xa), .sl b.length (fl b)] [] 0 (fun x h n => x = bS r ∧ h = [] ∧ n = 0) := by
  unfold taskmillref_Ints at h
  refine spec_of (draw_ok _) Try.func24 rfl (by decide) rfl (by kernel_rfl) ?_
  refine seq_np ?_
  refine reg_f ?_
  refine rs 1 [] [] (by kernel_rfl) allP_nil ?_
  refine rf [(0, .sl xa.length (fl xa)), (1, .sl b.length (fl b))] [] 0 (by kernel_rfl) ?_
  refine wk_id ?_
  refine seq_np ?_
  refine seq_np ?_
  refine reg_f ?_
  refine rs 5 [] [] (by kernel_rfl) allP_nil ?_
  refine rf [(0, .sl xa.length (fl xa)), (1, .sl b.length (fl b)), (10, bS (((xa.length : Nat) : Int) != ((b.length : Nat) : Int)))] [] 0 (by kernel_rfl) ?_
  refine wk_id ?_
  refine cond_sx h (by kernel_rfl) (fun g782 h => ?_) (fun g782 h => ?_)
  · refine seq_np ?_
    refine reg_f ?_
    refine rs 1 [] [] (by kernel_rfl) allP_nil ?_
    refine rf [(4, bS false)] [] 0 (by kernel_rfl) ?_
    refine wk_id ?_
    obtain rfl := Option.some.inj h
    refine ret_at (bS false) (by kernel_rfl) ?_
    exact ret_e [] [] (by simp only [push_cast, seval]) (by simp only [push_cast, seval]) rfl rfl rfl
  · refine wk_id ?_
    refine seq_np ?_
    refine seq_np ?_
    refine reg_f ?_
    refine rs 1 [] [] (by kernel_rfl) allP_nil ?_
    refine rf [(0, .sl xa.length (fl xa)), (1, .sl b.length (fl b)), (5, iS 0)] [] 0 (by kernel_rfl) ?_
    refine wk_id ?_
    refine block_np ?_
    refine loop_sx (S := Int) (fun a => ([(0, .sl xa.length (fl xa)), (1, .sl b.length (fl b)), (5, iS a)], [], 0)) h (leSt_m [] [] (by simp only [push_cast, seval]) (by simp only [push_cast, seval]) rfl rfl rfl) ?_
    rintro i7 o2 R2 h hr2 hn2 hx2 ht2
    try dsimp only at h hn2 ⊢
    unfold taskmillref_Ints_l1 at h
    try dsimp only at h
    refine seq_np ?_
    refine seq_np ?_
    refine reg_f ?_
    refine rs 4 [] [] (by kernel_rfl) allP_nil ?_
    refine rf [(0, .sl xa.length (fl xa)), (1, .sl b.length (fl b)), (5, iS i7), (14, bS (decide (i7 < ((xa.length : Nat) : Int))))] [] 0 (by kernel_rfl) ?_
    refine wk_id ?_
    refine cond_sx h (by kernel_rfl) (fun g781 h => ?_) (fun g781 h => ?_)
    · refine wk_id ?_
      refine seq_np ?_
      refine block_np ?_
      refine chk_sx h (fun g777 h => ?_)
      refine chk_sx h (fun g779 h => ?_)
      refine seq_np ?_
      refine reg_t ?_
      have k776 : 0 ≤ i7 ∧ i7 < ((xa.length : Nat) : Int) := by first | simpa only [Bool.and_eq_true, decide_eq_true_eq, bne_iff_ne, ne_eq] using g777 | (simp at g777 ⊢; omega)
      have k778 : 0 ≤ i7 ∧ i7 < ((b.length : Nat) : Int) := by first | simpa only [Bool.and_eq_true, decide_eq_true_eq, bne_iff_ne, ne_eq] using g779 | (simp at g779 ⊢; omega)
      refine rs 9 [none, none, some ⟨.iptr (fl xa) ((i7).toNat * 1), [], 2, []⟩, some ⟨iS (ix xa i7), [], 3, []⟩, none, none, some ⟨.iptr (fl b) ((i7).toNat * 1), [], 6, []⟩, some ⟨iS (ix b i7), [], 7, []⟩] _ (by kernel_rfl) (allP_cons (ob_ld b i7 1 0 ((i7).toNat * 1) k778 rfl (by decide) (by first | rfl | omega) (dflS Try.prog 3) (iS (ix b i7)) rfl 7 []) (allP_cons (ob_ix_l b 1 6 i7 k778) (allP_cons (ob_ld xa i7 1 0 ((i7).toNat * 1) k776 rfl (by decide) (by first | rfl | omega) (dflS Try.prog 3) (iS (ix xa i7)) rfl 3 []) (allP_cons (ob_ix_l xa 1 2 i7 k776) allP_nil)))) ?_
      refine rt [(0, .sl xa.length (fl xa)), (1, .sl b.length (fl b)), (5, iS i7), (25, bS ((ix xa i7) != (ix b i7)))] [] 9 follows (by kernel_rfl) ?_
      refine wk_id ?_
      refine cond_sx h (by kernel_rfl) (fun g780 h => ?_) (fun g780 h => ?_)
      · refine seq_np ?_
        refine reg_f ?_
        refine rs 1 [] [] (by kernel_rfl) allP_nil ?_
        refine rf [(4, bS false)] [] 9 (by kernel_rfl) ?_
        refine wk_id ?_
        refine rt_cast ht2 ?_
        obtain ⟨r0, h, e0⟩ := map_sx h
        have e1 := hr2 r0 e0.symm
        subst r0
        obtain rfl := Option.some.inj h
        refine ret_at (bS false) (by kernel_rfl) ?_
        exact ret_e [] [] (by simp only [push_cast, seval]) (by simp only [push_cast, seval]) rfl rfl rfl
      · refine wk_id ?_
        refine wk_id ?_
        refine reg_f ?_
        refine rs 3 [] [] (by kernel_rfl) allP_nil ?_
        refine rf [(0, .sl xa.length (fl xa)), (1, .sl b.length (fl b)), (5, iS (IntKind.i64.wrap (i7 + 1)))] [] 9 (by kernel_rfl) ?_
        exact hn2 ((IntKind.i64.wrap (i7 + 1))) _ _ _ (Option.some.inj h).symm (leSt_m [] [] (by simp only [push_cast, seval]) (by simp only [push_cast, seval]) rfl rfl rfl)
    · change R2 (.exit 0) _ _ _
      refine ex_cast hx2 (id := 0) ?_
      obtain ⟨r0, h, e0⟩ := map_sx h
      have e1 := hr2 r0 e0.symm
      subst r0
      refine wk_id ?_
      refine wk_id ?_
      refine seq_np ?_
      refine reg_f ?_
      refine rs 1 [] [] (by kernel_rfl) allP_nil ?_
      refine rf [(4, bS true)] [] 0 (by kernel_rfl) ?_
      refine wk_id ?_
      obtain rfl := Option.some.inj h
      refine ret_at (bS true) (by kernel_rfl) ?_
      exact ret_e [] [] (by simp only [push_cast, seval]) (by simp only [push_cast, seval]) rfl rfl rfl

set_option maxRecDepth 100000 in
set_option maxHeartbeats 200000000 in
theorem taskmillref_Done_spec (c : Int) (xo : GOp) (r : Int × Int) (h : taskmillref_Done c xo = some r) : SpecW Try.prog 40 [iS c, .agg (Enc.cells xo)] [] 0 (fun x h n => x = .tup [iS r.1, iS r.2] ∧ h = [] ∧ n = 0) := by
  unfold taskmillref_Done at h
  refine spec_of (draw_ok _) Try.func40 rfl (by decide) rfl (by kernel_rfl) ?_
  refine seq_np ?_
  refine reg_f ?_
  refine rs 3 [] [] (by kernel_rfl) allP_nil ?_
  refine rf [(0, iS c), (3, .ptr 0 0)] [(0, .row 50 (Enc.cells xo))] 1 (by kernel_rfl) ?_
  refine wk_id ?_
  refine seq_np ?_
  refine seq_np ?_
  refine reg_f ?_
  refine rs 2 [] [] (by kernel_rfl) allP_nil ?_
  refine rf [(0, iS c), (3, .ptr 0 0), (7, iS xo.Kind)] [(0, .row 50 (Enc.cells xo))] 1 (by kernel_rfl) ?_
  refine wk_id ?_
  refine block_np ?_
  refine seq_np ?_
  refine reg_f ?_
  refine rs 2 [] [] (by kernel_rfl) allP_nil ?_
  refine rf [(0, iS c), (3, .ptr 0 0), (7, iS xo.Kind), (8, bS (xo.Kind == 1))] [(0, .row 50 (Enc.cells xo))] 1 (by kernel_rfl) ?_
  refine wk_id ?_
  refine cond_sx h (by kernel_rfl) (fun g912 h => ?_) (fun g912 h => ?_)
  · refine seq_np ?_
    refine reg_f ?_
    refine rs 4 [] [] (by kernel_rfl) allP_nil ?_
    refine rf [(4, iS c), (5, iS c)] [(0, .row 50 (Enc.cells xo))] 1 (by kernel_rfl) ?_
    refine wk_id ?_
    obtain rfl := Option.some.inj h
    refine ret_at (.tup [iS c, iS c]) (by kernel_rfl) ?_
    exact ret_e [] [] (by simp only [push_cast, seval]) (by simp only [push_cast, seval]) rfl rfl rfl
  · refine seq_np ?_
    refine reg_f ?_
    refine rs 2 [] [] (by kernel_rfl) allP_nil ?_
    refine rf [(0, iS c), (3, .ptr 0 0), (7, iS xo.Kind), (12, bS (xo.Kind == 2))] [(0, .row 50 (Enc.cells xo))] 1 (by kernel_rfl) ?_
    refine wk_id ?_
    refine cond_sx h (by kernel_rfl) (fun g911 h => ?_) (fun g911 h => ?_)
    · refine seq_np ?_
      refine reg_f ?_
      refine rs 4 [] [] (by kernel_rfl) allP_nil ?_
      refine rf [(4, iS xo.A), (5, iS 0)] [(0, .row 50 (Enc.cells xo))] 1 (by kernel_rfl) ?_
      refine wk_id ?_
      obtain rfl := Option.some.inj h
      refine ret_at (.tup [iS xo.A, iS 0]) (by kernel_rfl) ?_
      exact ret_e [] [] (by simp only [push_cast, seval]) (by simp only [push_cast, seval]) rfl rfl rfl
    · refine seq_np ?_
      refine reg_f ?_
      refine rs 2 [] [] (by kernel_rfl) allP_nil ?_
      refine rf [(0, iS c), (3, .ptr 0 0), (7, iS xo.Kind), (16, bS (xo.Kind == 3))] [(0, .row 50 (Enc.cells xo))] 1 (by kernel_rfl) ?_
      refine wk_id ?_
      refine cond_sx h (by kernel_rfl) (fun g910 h => ?_) (fun g910 h => ?_)
      · refine seq_np ?_
        refine reg_t ?_
        refine rs 10 [] [] (by kernel_rfl) allP_nil ?_
        refine rt [(4, iS (IntKind.i64.wrap (c + xo.A))), (5, iS (IntKind.i64.wrap (c + xo.A)))] [(0, .row 50 (Enc.cells xo))] 11 follows (by kernel_rfl) ?_
        refine wk_id ?_
        obtain rfl := Option.some.inj h
        refine ret_at (.tup [iS (IntKind.i64.wrap (c + xo.A)), iS (IntKind.i64.wrap (c + xo.A))]) (by kernel_rfl) ?_
        exact ret_e [] [] (by simp only [push_cast, seval]) (by simp only [push_cast, seval]) rfl rfl rfl
      · refine seq_np ?_
        refine reg_f ?_
        refine rs 2 [] [] (by kernel_rfl) allP_nil ?_
        refine rf [(0, iS c), (3, .ptr 0 0), (26, bS (xo.Kind == 4))] [(0, .row 50 (Enc.cells xo))] 1 (by kernel_rfl) ?_
        refine wk_id ?_
        refine cond_sx h (by kernel_rfl) (fun g909 h => ?_) (fun g909 h => ?_)
        · refine seq_np ?_
          refine reg_f ?_
          refine rs 5 [] [] (by kernel_rfl) allP_nil ?_
          refine rf [(4, iS xo.A), (5, iS c)] [(0, .row 50 (Enc.cells xo))] 1 (by kernel_rfl) ?_
          refine wk_id ?_
          obtain rfl := Option.some.inj h
          refine ret_at (.tup [iS xo.A, iS c]) (by kernel_rfl) ?_
          exact ret_e [] [] (by simp only [push_cast, seval]) (by simp only [push_cast, seval]) rfl rfl rfl
        · refine wk_id ?_
          refine wk_id ?_
          refine seq_np ?_
          refine seq_np ?_
          refine reg_f ?_
          refine rs 4 [] [] (by kernel_rfl) allP_nil ?_
          refine rf [(0, iS c), (3, .ptr 0 0), (34, bS (c == xo.A))] [(0, .row 50 (Enc.cells xo))] 1 (by kernel_rfl) ?_
          refine wk_id ?_
          refine cond_sx h (by kernel_rfl) (fun g908 h => ?_) (fun g908 h => ?_)
          · refine seq_np ?_
            refine reg_f ?_
            refine rs 4 [] [] (by kernel_rfl) allP_nil ?_
            refine rf [(4, iS xo.B), (5, iS 1)] [(0, .row 50 (Enc.cells xo))] 1 (by kernel_rfl) ?_
            refine wk_id ?_
            obtain rfl := Option.some.inj h
            refine ret_at (.tup [iS xo.B, iS 1]) (by kernel_rfl) ?_
            exact ret_e [] [] (by simp only [push_cast, seval]) (by simp only [push_cast, seval]) rfl rfl rfl
          · refine wk_id ?_
            refine seq_np ?_
            refine reg_f ?_
            refine rs 3 [] [] (by kernel_rfl) allP_nil ?_
            refine rf [(4, iS c), (5, iS 0)] [(0, .row 50 (Enc.cells xo))] 1 (by kernel_rfl) ?_
            refine wk_id ?_
            obtain rfl := Option.some.inj h
            refine ret_at (.tup [iS c, iS 0]) (by kernel_rfl) ?_
            exact ret_e [] [] (by simp only [push_cast, seval]) (by simp only [push_cast, seval]) rfl rfl rfl

set_option maxRecDepth 100000 in
set_option maxHeartbeats 200000000 in
theorem taskmillref_Ran_spec (mem : (List Int)) (ops : (List GOp)) (r : (List Int) × (List Int)) (h : taskmillref_Ran mem ops = some r) : SpecW Try.prog 26 [.sl mem.length (fl mem), .sl ops.length (fl ops)] [] 0 (fun x h n => x = .tup [.own 0 0 r.1.length, .own 1 0 r.2.length] ∧ h = [(0, .row 3 (fl r.1)), (1, .row 3 (fl r.2))] ∧ n = 2) := by
  unfold taskmillref_Ran at h
  refine spec_of (draw_ok _) Try.func26 rfl (by decide) rfl (by kernel_rfl) ?_
  refine seq_np ?_
  refine reg_f ?_
  refine rs 2 [] [] (by kernel_rfl) allP_nil ?_
  refine rf [(0, .sl mem.length (fl mem)), (1, .sl ops.length (fl ops))] [] 0 (by kernel_rfl) ?_
  refine wk_id ?_
  refine chk_sx h (fun g952 h => ?_)
  refine seq_np ?_
  refine reg_f ?_
  have k951 : mem.length * 8 ≤ 140737488355328 := by first | simpa only [Bool.and_eq_true, decide_eq_true_eq, bne_iff_ne, ne_eq] using g952 | (simp at g952 ⊢; omega)
  refine rs 3 [none, some ⟨.own 0 0 mem.length, [(0, .row 3 (fl mem))], 1, []⟩] _ (by kernel_rfl) (allP_cons (ob_app0 (P := Try.prog) mem 1 8 rfl (fl mem) mem.length rfl rfl ((fl mem).length = mem.length * 1) (app_sl mem 1 rfl) 3 (by kernel_rfl) (by decide) k951 0 []) allP_nil) ?_
  refine rf [(1, .sl ops.length (fl ops)), (6, .own 0 0 mem.length)] [(0, .row 3 (fl mem))] 1 (by kernel_rfl) ?_
  refine wk_id ?_
  refine seq_np ?_
  refine reg_f ?_
  refine rs 1 [] [] (by kernel_rfl) allP_nil ?_
  refine rf [(1, .sl ops.length (fl ops)), (6, .own 0 0 mem.length), (7, .v (.slice none 0 0))] [(0, .row 3 (fl mem))] 1 (by kernel_rfl) ?_
  refine wk_id ?_
  refine seq_np ?_
  refine seq_np ?_
  refine reg_f ?_
  refine rs 1 [] [] (by kernel_rfl) allP_nil ?_
  refine rf [(1, .sl ops.length (fl ops)), (6, .own 0 0 mem.length), (7, .v (.slice none 0 0)), (8, iS 0)] [(0, .row 3 (fl mem))] 1 (by kernel_rfl) ?_
  refine wk_id ?_
  refine block_np ?_
  refine loop_sx (S := Int × (List Int) × (List Int)) (fun a => ([(1, .sl ops.length (fl ops)), (6, .own 0 0 a.2.1.length), (7, .own 1 0 a.2.2.length), (8, iS a.1)], [(0, .row 3 (fl a.2.1)), (1, .row 3 (fl a.2.2))], 2)) h (leSt_m [(0, 0)] [] (by simp only [push_cast, seval]) (by simp only [push_cast, seval]) rfl rfl rfl) ?_
  rintro ⟨i7, c0q8, c1q8⟩ o2 R2 h hr2 hn2 hx2 ht2
  try dsimp only at h hn2 ⊢
  unfold taskmillref_Ran_l1 at h
  try dsimp only at h
  refine seq_np ?_
  refine seq_np ?_
  refine reg_f ?_
  refine rs 4 [] [] (by kernel_rfl) allP_nil ?_
  refine rf [(1, .sl ops.length (fl ops)), (6, .own 0 0 c0q8.length), (7, .own 1 0 c1q8.length), (8, iS i7), (16, bS (decide (i7 < ((ops.length : Nat) : Int))))] [(0, .row 3 (fl c0q8)), (1, .row 3 (fl c1q8))] 2 (by kernel_rfl) ?_
  refine wk_id ?_
  refine cond_sx h (by kernel_rfl) (fun g1121 h => ?_) (fun g1121 h => ?_)
  · refine wk_id ?_
    refine seq_np ?_
    refine block_np ?_
    refine chk_sx h (fun g1103 h => ?_)
    refine chk_sx h (fun g1105 h => ?_)
    refine chk_sx h (fun g1107 h => ?_)
    refine seq_np ?_
    refine reg_t ?_
    have k1102 : 0 ≤ i7 ∧ i7 < ((ops.length : Nat) : Int) := by first | simpa only [Bool.and_eq_true, decide_eq_true_eq, bne_iff_ne, ne_eq] using g1103 | (simp at g1103 ⊢; omega)
    have k1104 : 0 ≤ (ix ops i7).At ∧ (ix ops i7).At < ((c0q8.length : Nat) : Int) := by first | simpa only [Bool.and_eq_true, decide_eq_true_eq, bne_iff_ne, ne_eq] using g1105 | (simp at g1105 ⊢; omega)
    have k1106 : 0 ≤ i7 ∧ i7 < ((ops.length : Nat) : Int) := by first | simpa only [Bool.and_eq_true, decide_eq_true_eq, bne_iff_ne, ne_eq] using g1107 | (simp at g1107 ⊢; omega)
    refine rs 12 [none, none, none, some ⟨.iptr (fl ops) ((i7).toNat * 4), [], 5, []⟩, none, some ⟨iS (ix ops i7).At, [], 7, []⟩, some ⟨.ptr 0 (0 + ((ix ops i7).At).toNat * 1), [], 8, [0]⟩, some ⟨iS (ix c0q8 (ix ops i7).At), [], 9, [0]⟩, none, none, some ⟨.iptr (fl ops) ((i7).toNat * 4), [], 12, []⟩, some ⟨.agg (Enc.cells (ix ops i7)), [], 13, []⟩] _ (by kernel_rfl) (allP_cons (ob_ldw ops i7 4 ((i7).toNat * 4) k1106 rfl (by first | rfl | omega) (Enc.cells (ix ops i7)) rfl 13 []) (allP_cons (ob_ix_l ops 4 12 i7 k1106) (allP_cons (ob_ld c0q8 (ix ops i7).At 1 0 (0 + ((ix ops i7).At).toNat * 1) k1104 rfl (by decide) (by first | rfl | omega) (dflS Try.prog 3) (iS (ix c0q8 (ix ops i7).At)) rfl 9 [0]) (allP_cons (ob_ix_o 0 c0q8.length 0 1 8 (ix ops i7).At k1104) (allP_cons (ob_ld ops i7 4 1 (((i7).toNat * 4) + 1) k1102 rfl (by decide) (by first | rfl | omega) (dflS Try.prog 3) (iS (ix ops i7).At) rfl 7 []) (allP_cons (ob_ix_l ops 4 5 i7 k1102) allP_nil)))))) ?_
    obtain ⟨r1108, hr1108, h⟩ := bind_sx h
    refine run_call 40 [iS (ix c0q8 (ix ops i7).At), .agg (Enc.cells (ix ops i7))] (some 32) (by kernel_rfl) ?_
    refine callE_0 (taskmillref_Done_spec (ix c0q8 (ix ops i7).At) (ix ops i7) r1108 hr1108) (by simp only [push_cast, seval]) (by simp only [push_cast, seval]) ?_
    refine back_t ?_
    refine rs 5 [] [] (by kernel_rfl) allP_nil ?_
    refine rt [(1, .sl ops.length (fl ops)), (6, .own 0 0 c0q8.length), (7, .own 1 0 c1q8.length), (8, iS i7), (9, iS r1108.1), (10, iS r1108.2)] [(0, .row 3 (fl c0q8)), (1, .row 3 (fl c1q8))] 20 follows (by kernel_rfl) ?_
    refine wk_id ?_
    refine chk_sx h (fun g1114 h => ?_)
    refine chk_sx h (fun g1116 h => ?_)
    refine seq_np ?_
    refine reg_f ?_
    have k1113 : 0 ≤ i7 ∧ i7 < ((ops.length : Nat) : Int) := by first | simpa only [Bool.and_eq_true, decide_eq_true_eq, bne_iff_ne, ne_eq] using g1114 | (simp at g1114 ⊢; omega)
    have k1115 : 0 ≤ (ix ops i7).At ∧ (ix ops i7).At < ((c0q8.length : Nat) : Int) := by first | simpa only [Bool.and_eq_true, decide_eq_true_eq, bne_iff_ne, ne_eq] using g1116 | (simp at g1116 ⊢; omega)
    refine rs 9 [none, none, none, some ⟨.iptr (fl ops) ((i7).toNat * 4), [], 20, []⟩, none, some ⟨iS (ix ops i7).At, [], 20, []⟩, none, some ⟨.ptr 0 (0 + ((ix ops i7).At).toNat * 1), [], 20, [0]⟩, some ⟨.any, [(0, .row 3 (fl (c0q8.set (ix ops i7).At.toNat r1108.1)))], 20, [0]⟩] _ (by kernel_rfl) (allP_cons (ob_st (P := Try.prog) c0q8 (ix ops i7).At 1 0 (0 + ((ix ops i7).At).toNat * 1) k1115 rfl [iS r1108.1] r1108.1 (Nat.le_of_ble_eq_true rfl) (by first | rfl | omega) rfl 0 20 3 3 (by kernel_rfl) rfl) (allP_cons (ob_ix_o 0 c0q8.length 0 1 20 (ix ops i7).At k1115) (allP_cons (ob_ld ops i7 4 1 (((i7).toNat * 4) + 1) k1113 rfl (by decide) (by first | rfl | omega) (dflS Try.prog 3) (iS (ix ops i7).At) rfl 20 []) (allP_cons (ob_ix_l ops 4 20 i7 k1113) allP_nil)))) ?_
    refine run_eqF 6 (.own 0 0 c0q8.length) (.own 0 0 (c0q8.set (ix ops i7).At.toNat r1108.1).length) (congrArg (fun nq => (.own 0 0 nq : SV)) (show c0q8.length = (c0q8.set (ix ops i7).At.toNat r1108.1).length from (List.length_set ..).symm)) (by kernel_rfl) ?_
    refine rf [(1, .sl ops.length (fl ops)), (6, .own 0 0 (c0q8.set (ix ops i7).At.toNat r1108.1).length), (7, .own 1 0 c1q8.length), (8, iS i7), (10, iS r1108.2)] [(0, .row 3 (fl (c0q8.set (ix ops i7).At.toNat r1108.1))), (1, .row 3 (fl c1q8))] 20 (by kernel_rfl) ?_
    refine wk_id ?_
    refine chk_sx h (fun g1120 h => ?_)
    refine reg_f ?_
    have k1119 : (c1q8 ++ ([r1108.2] : List Int)).length * 8 ≤ 140737488355328 := by first | simpa only [Bool.and_eq_true, decide_eq_true_eq, bne_iff_ne, ne_eq] using g1120 | (simp at g1120 ⊢; omega)
    refine rs 5 [none, none, none, some ⟨.own 21 0 (c1q8 ++ ([r1108.2] : List Int)).length, [(21, .row 3 (fl (c1q8 ++ ([r1108.2] : List Int)))), (1, .dead)], 22, [1, 20]⟩] _ (by kernel_rfl) (allP_cons (ob_app (P := Try.prog) c1q8 ([r1108.2] : List Int) 1 8 rfl (appCells (fl ([r1108.2] : List Int)) 0 (([r1108.2] : List Int).length * 1)) ([r1108.2] : List Int).length (app_own ([r1108.2] : List Int) 1 rfl) rfl (0 + ([r1108.2] : List Int).length * 1 ≤ (fl ([r1108.2] : List Int)).length) (app_own_le ([r1108.2] : List Int) 1 rfl) 3 (by kernel_rfl) (by decide) k1119 1 21 [20]) allP_nil) ?_
    refine rf [(1, .sl ops.length (fl ops)), (6, .own 0 0 (c0q8.set (ix ops i7).At.toNat r1108.1).length), (7, .own 21 0 (c1q8 ++ ([r1108.2] : List Int)).length), (8, iS i7)] [(0, .row 3 (fl (c0q8.set (ix ops i7).At.toNat r1108.1))), (1, .dead), (20, .row 3 (fl ([r1108.2] : List Int))), (21, .row 3 (fl (c1q8 ++ ([r1108.2] : List Int))))] 22 (by kernel_rfl) ?_
    refine wk_id ?_
    refine wk_id ?_
    refine reg_f ?_
    refine rs 3 [] [] (by kernel_rfl) allP_nil ?_
    refine rf [(1, .sl ops.length (fl ops)), (6, .own 0 0 (c0q8.set (ix ops i7).At.toNat r1108.1).length), (7, .own 21 0 (c1q8 ++ ([r1108.2] : List Int)).length), (8, iS (IntKind.i64.wrap (i7 + 1)))] [(0, .row 3 (fl (c0q8.set (ix ops i7).At.toNat r1108.1))), (1, .dead), (20, .row 3 (fl ([r1108.2] : List Int))), (21, .row 3 (fl (c1q8 ++ ([r1108.2] : List Int))))] 22 (by kernel_rfl) ?_
    exact hn2 ((IntKind.i64.wrap (i7 + 1)), (c0q8.set (ix ops i7).At.toNat r1108.1), (c1q8 ++ ([r1108.2] : List Int))) _ _ _ (Option.some.inj h).symm (leSt_m [(0, 0), (1, 21)] [] (by simp only [push_cast, seval]) (by simp only [push_cast, seval]) rfl rfl rfl)
  · change R2 (.exit 0) _ _ _
    refine ex_cast hx2 (id := 0) ?_
    obtain ⟨r0, h, e0⟩ := map_sx h
    have e1 := hr2 r0 e0.symm
    subst r0
    refine wk_id ?_
    refine wk_id ?_
    refine seq_np ?_
    refine reg_f ?_
    refine rs 4 [] [] (by kernel_rfl) allP_nil ?_
    refine rf [(4, .own 0 0 c0q8.length), (5, .own 1 0 c1q8.length)] [(0, .row 3 (fl c0q8)), (1, .row 3 (fl c1q8))] 2 (by kernel_rfl) ?_
    refine wk_id ?_
    obtain rfl := Option.some.inj h
    refine ret_at (.tup [.own 0 0 c0q8.length, .own 1 0 c1q8.length]) (by kernel_rfl) ?_
    exact ret_e [(0, 0), (1, 1)] [] (by simp only [push_cast, seval]) (by simp only [push_cast, seval]) rfl rfl rfl

set_option maxRecDepth 100000 in
set_option maxHeartbeats 200000000 in
theorem taskmilllaw_vastTasks_spec (tasks : (List (List GOp))) (r : Bool) (h : taskmilllaw_vastTasks tasks = some r) : SpecW Try.prog 11 [.sl tasks.length (fl tasks)] [] 0 (fun x h n => x = bS r ∧ h = [] ∧ n = 0) := by
  unfold taskmilllaw_vastTasks at h
  refine spec_of (draw_ok _) Try.func11 rfl (by decide) rfl (by kernel_rfl) ?_
  refine seq_np ?_
  refine reg_f ?_
  refine rs 1 [] [] (by kernel_rfl) allP_nil ?_
  refine rf [(0, .sl tasks.length (fl tasks))] [] 0 (by kernel_rfl) ?_
  refine wk_id ?_
  refine seq_np ?_
  refine seq_np ?_
  refine reg_f ?_
  refine rs 3 [] [] (by kernel_rfl) allP_nil ?_
  refine rf [(0, .sl tasks.length (fl tasks)), (6, bS (decide ((1000 : Int) < ((tasks.length : Nat) : Int))))] [] 0 (by kernel_rfl) ?_
  refine wk_id ?_
  refine cond_sx h (by kernel_rfl) (fun g1440 h => ?_) (fun g1440 h => ?_)
  · refine seq_np ?_
    refine reg_f ?_
    refine rs 1 [] [] (by kernel_rfl) allP_nil ?_
    refine rf [(2, bS true)] [] 0 (by kernel_rfl) ?_
    refine wk_id ?_
    obtain rfl := Option.some.inj h
    refine ret_at (bS true) (by kernel_rfl) ?_
    exact ret_e [] [] (by simp only [push_cast, seval]) (by simp only [push_cast, seval]) rfl rfl rfl
  · refine wk_id ?_
    refine seq_np ?_
    refine seq_np ?_
    refine reg_f ?_
    refine rs 1 [] [] (by kernel_rfl) allP_nil ?_
    refine rf [(0, .sl tasks.length (fl tasks)), (3, iS 0)] [] 0 (by kernel_rfl) ?_
    refine wk_id ?_
    refine block_np ?_
    refine loop_sx (S := Int) (fun a => ([(0, .sl tasks.length (fl tasks)), (3, iS a)], [], 0)) h (leSt_m [] [] (by simp only [push_cast, seval]) (by simp only [push_cast, seval]) rfl rfl rfl) ?_
    rintro i7 o2 R2 h hr2 hn2 hx2 ht2
    try dsimp only at h hn2 ⊢
    unfold taskmilllaw_vastTasks_l1 at h
    try dsimp only at h
    refine seq_np ?_
    refine seq_np ?_
    refine reg_f ?_
    refine rs 4 [] [] (by kernel_rfl) allP_nil ?_
    refine rf [(0, .sl tasks.length (fl tasks)), (3, iS i7), (10, bS (decide (i7 < ((tasks.length : Nat) : Int))))] [] 0 (by kernel_rfl) ?_
    refine wk_id ?_
    refine cond_sx h (by kernel_rfl) (fun g1439 h => ?_) (fun g1439 h => ?_)
    · refine wk_id ?_
      refine seq_np ?_
      refine block_np ?_
      refine chk_sx h (fun g1437 h => ?_)
      refine seq_np ?_
      refine reg_f ?_
      have k1436 : 0 ≤ i7 ∧ i7 < ((tasks.length : Nat) : Int) := by first | simpa only [Bool.and_eq_true, decide_eq_true_eq, bne_iff_ne, ne_eq] using g1437 | (simp at g1437 ⊢; omega)
      refine rs 6 [none, none, some ⟨.iptr (fl tasks) ((i7).toNat * 1), [], 0, []⟩, some ⟨.sl (ix tasks i7).length (fl (ix tasks i7)), [], 0, []⟩] _ (by kernel_rfl) (allP_cons (ob_ld tasks i7 1 0 ((i7).toNat * 1) k1436 rfl (by decide) (by first | rfl | omega) (dflS Try.prog 39) (.sl (ix tasks i7).length (fl (ix tasks i7))) rfl 0 []) (allP_cons (ob_ix_l tasks 1 0 i7 k1436) allP_nil)) ?_
      refine rf [(0, .sl tasks.length (fl tasks)), (3, iS i7), (18, bS (decide ((10000 : Int) < (((ix tasks i7).length : Nat) : Int))))] [] 0 (by kernel_rfl) ?_
      refine wk_id ?_
      refine cond_sx h (by kernel_rfl) (fun g1438 h => ?_) (fun g1438 h => ?_)
      · refine seq_np ?_
        refine reg_f ?_
        refine rs 1 [] [] (by kernel_rfl) allP_nil ?_
        refine rf [(2, bS true)] [] 0 (by kernel_rfl) ?_
        refine wk_id ?_
        refine rt_cast ht2 ?_
        obtain ⟨r0, h, e0⟩ := map_sx h
        have e1 := hr2 r0 e0.symm
        subst r0
        obtain rfl := Option.some.inj h
        refine ret_at (bS true) (by kernel_rfl) ?_
        exact ret_e [] [] (by simp only [push_cast, seval]) (by simp only [push_cast, seval]) rfl rfl rfl
      · refine wk_id ?_
        refine wk_id ?_
        refine reg_f ?_
        refine rs 3 [] [] (by kernel_rfl) allP_nil ?_
        refine rf [(0, .sl tasks.length (fl tasks)), (3, iS (IntKind.i64.wrap (i7 + 1)))] [] 0 (by kernel_rfl) ?_
        exact hn2 ((IntKind.i64.wrap (i7 + 1))) _ _ _ (Option.some.inj h).symm (leSt_m [] [] (by simp only [push_cast, seval]) (by simp only [push_cast, seval]) rfl rfl rfl)
    · change R2 (.exit 0) _ _ _
      refine ex_cast hx2 (id := 0) ?_
      obtain ⟨r0, h, e0⟩ := map_sx h
      have e1 := hr2 r0 e0.symm
      subst r0
      refine wk_id ?_
      refine wk_id ?_
      refine seq_np ?_
      refine reg_f ?_
      refine rs 1 [] [] (by kernel_rfl) allP_nil ?_
      refine rf [(2, bS false)] [] 0 (by kernel_rfl) ?_
      refine wk_id ?_
      obtain rfl := Option.some.inj h
      refine ret_at (bS false) (by kernel_rfl) ?_
      exact ret_e [] [] (by simp only [push_cast, seval]) (by simp only [push_cast, seval]) rfl rfl rfl

set_option maxRecDepth 100000 in
set_option maxHeartbeats 200000000 in
theorem cell_Mix_spec (mem : (List Int)) (tasks : (List (List GOp))) (picks : (List Int)) (r : Fault × (List Int) × (List (List Int))) (h : cell_Mix mem tasks picks = some r) : SpecW Try.prog 27 [.sl mem.length (fl mem), .sl tasks.length (fl tasks), .sl picks.length (fl picks)] [] 0 (fun x h n => x = .tup [.own 0 0 r.2.1.length, .own 1 0 r.2.2.length, .agg (Enc.cells r.1)] ∧ h = [(0, .row 3 (fl r.2.1)), (1, .row 22 (flD dLListInt [2] r.2.2)), ((.s 2 0), .fam (famD dLListInt 0 r.2.2))] ∧ n = 3) := by
  unfold cell_Mix at h
  refine spec_of (draw_ok _) Try.func27 rfl (by decide) rfl (by kernel_rfl) ?_
  refine seq_np ?_
  refine reg_f ?_
  refine rs 3 [] [] (by kernel_rfl) allP_nil ?_
  refine rf [(0, .sl mem.length (fl mem)), (1, .sl tasks.length (fl tasks)), (2, .sl picks.length (fl picks)), (8, .ptr 0 0)] [(0, .row 28 [iS 0, iS 0])] 1 (by kernel_rfl) ?_
  refine wk_id ?_
  refine seq_np ?_
  refine seq_cut (A := Unit) (fun _ => ([(0, .sl mem.length (fl mem)), (1, .sl tasks.length (fl tasks)), (2, .sl picks.length (fl picks)), (8, .ptr 0 0), (26, bS ((decide ((64 : Int) < ((tasks.length : Nat) : Int))) || (decide ((5000 : Int) < ((picks.length : Nat) : Int)))))], [(0, .row 28 [iS 0, iS 0])], 1)) (fun _ => True) (fun K1560 hK1560 => ?_) (fun _ _ => ?_)
  · refine reg_f ?_
    refine rs 4 [] [] (by kernel_rfl) allP_nil ?_
    refine run_split 22 (decide ((64 : Int) < ((tasks.length : Nat) : Int))) (.inl (by kernel_rfl)) (fun g1561 => ?_) (fun g1561 => ?_)
    · refine rs 4 [] [] (by kernel_rfl) allP_nil ?_
      refine rf [(0, .sl mem.length (fl mem)), (1, .sl tasks.length (fl tasks)), (2, .sl picks.length (fl picks)), (8, .ptr 0 0), (26, bS true)] [(0, .row 28 [iS 0, iS 0])] 1 (by kernel_rfl) ?_
      exact hK1560 () _ _ _ trivial (leSt_m [(0, 0)] [] (by (try simp only [g1561]) <;> simp only [push_cast, leL_flD, renL_flD, seval]) (by (try simp only [g1561]) <;> simp only [push_cast, leL_flD, renL_flD, seval]) rfl rfl rfl)
    · refine rs 4 [] [] (by kernel_rfl) allP_nil ?_
      refine rf [(0, .sl mem.length (fl mem)), (1, .sl tasks.length (fl tasks)), (2, .sl picks.length (fl picks)), (8, .ptr 0 0), (26, bS (decide ((5000 : Int) < ((picks.length : Nat) : Int))))] [(0, .row 28 [iS 0, iS 0])] 1 (by kernel_rfl) ?_
      exact hK1560 () _ _ _ trivial (leSt_m [(0, 0)] [] (by (try simp only [g1561]) <;> simp only [push_cast, leL_flD, renL_flD, seval]) (by (try simp only [g1561]) <;> simp only [push_cast, leL_flD, renL_flD, seval]) rfl rfl rfl)
  · dsimp only
    refine cond_sx h (by kernel_rfl) (fun g1975 h => ?_) (fun g1975 h => ?_)
    · refine seq_np ?_
      refine reg_f ?_
      obtain ⟨r1563, hr1563, h⟩ := bind_sx h
      refine run_call 29 [iS 2, iS 0] (some 27) (by kernel_rfl) ?_
      refine call_0 (cell_fault_spec 2 0 r1563 hr1563) (by simp only [push_cast, leL_flD, renL_flD, seval]) (by simp only [push_cast, leL_flD, renL_flD, seval]) ?_
      refine back_f ?_
      refine rs 3 [] [] (by kernel_rfl) allP_nil ?_
      refine rf [(6, .v (.slice none 0 0)), (7, .v (.slice none 0 0)), (8, .ptr 0 0)] [(0, .row 28 (Enc.cells r1563))] 1 (by kernel_rfl) ?_
      refine wk_id ?_
      obtain rfl := Option.some.inj h
      refine ret_at (.tup [.v (.slice none 0 0), .v (.slice none 0 0), .agg (Enc.cells r1563)]) (by kernel_rfl) ?_
      exact ret_e [] [] (by simp only [push_cast, leL_flD, renL_flD, seval]) (by simp only [push_cast, leL_flD, renL_flD, seval]) rfl rfl rfl
    · refine wk_id ?_
      refine seq_np ?_
      refine seq_np ?_
      refine reg_f ?_
      refine rs 3 [] [] (by kernel_rfl) allP_nil ?_
      refine rf [(0, .sl mem.length (fl mem)), (1, .sl tasks.length (fl tasks)), (2, .sl picks.length (fl picks)), (8, .ptr 0 0), (28, .sl tasks.length (fl tasks)), (29, iS ((tasks.length : Nat) : Int)), (30, iS 0)] [(0, .row 28 [iS 0, iS 0])] 1 (by kernel_rfl) ?_
      refine wk_id ?_
      refine block_np ?_
      refine loop_sx (S := Int) (fun a => ([(0, .sl mem.length (fl mem)), (1, .sl tasks.length (fl tasks)), (2, .sl picks.length (fl picks)), (8, .ptr 0 0), (28, .sl tasks.length (fl tasks)), (29, iS ((tasks.length : Nat) : Int)), (30, iS a)], [(0, .row 28 [iS 0, iS 0])], 1)) h (leSt_m [(0, 0)] [] (by simp only [push_cast, leL_flD, renL_flD, seval]) (by simp only [push_cast, leL_flD, renL_flD, seval]) rfl rfl rfl) ?_
      rintro t30q7 o4 R4 h hr4 hn4 hx4 ht4
      try dsimp only at h hn4 ⊢
      unfold cell_Mix_l3 at h
      try dsimp only at h
      refine seq_np ?_
      refine reg_f ?_
      refine rs 1 [] [] (by kernel_rfl) allP_nil ?_
      refine rf [(0, .sl mem.length (fl mem)), (1, .sl tasks.length (fl tasks)), (2, .sl picks.length (fl picks)), (8, .ptr 0 0), (28, .sl tasks.length (fl tasks)), (29, iS ((tasks.length : Nat) : Int)), (30, iS t30q7), (31, bS (decide (t30q7 < ((tasks.length : Nat) : Int))))] [(0, .row 28 [iS 0, iS 0])] 1 (by kernel_rfl) ?_
      refine wk_id ?_
      refine seq_np ?_
      refine cond_sx h (by kernel_rfl) (fun g1974 h => ?_) (fun g1974 h => ?_)
      · refine wk_id ?_
        refine seq_np ?_
        refine block_np ?_
        refine chk_sx h (fun g1619 h => ?_)
        refine seq_np ?_
        refine reg_f ?_
        have k1618 : 0 ≤ t30q7 ∧ t30q7 < ((tasks.length : Nat) : Int) := by first | simpa only [Bool.and_eq_true, decide_eq_true_eq, bne_iff_ne, ne_eq] using g1619 | (simp at g1619 ⊢; omega)
        refine rs 3 [some ⟨.iptr (fl tasks) ((t30q7).toNat * 1), [], 1, []⟩, some ⟨.sl (ix tasks t30q7).length (fl (ix tasks t30q7)), [], 1, []⟩] _ (by kernel_rfl) (allP_cons (ob_ld tasks t30q7 1 0 ((t30q7).toNat * 1) k1618 rfl (by decide) (by first | rfl | omega) (dflS Try.prog 39) (.sl (ix tasks t30q7).length (fl (ix tasks t30q7))) rfl 1 []) (allP_cons (ob_ix_l tasks 1 1 t30q7 k1618) allP_nil)) ?_
        refine rf [(0, .sl mem.length (fl mem)), (1, .sl tasks.length (fl tasks)), (2, .sl picks.length (fl picks)), (8, .ptr 0 0), (10, .sl (ix tasks t30q7).length (fl (ix tasks t30q7))), (28, .sl tasks.length (fl tasks)), (29, iS ((tasks.length : Nat) : Int)), (30, iS t30q7)] [(0, .row 28 [iS 0, iS 0])] 1 (by kernel_rfl) ?_
        refine wk_id ?_
        refine seq_np ?_
        refine reg_f ?_
        refine rs 2 [] [] (by kernel_rfl) allP_nil ?_
        obtain ⟨r1621, hr1621, h⟩ := bind_sx h
        refine run_call 21 [.sl mem.length (fl mem), .sl (ix tasks t30q7).length (fl (ix tasks t30q7))] (some 36) (by kernel_rfl) ?_
        refine call_0 (cell_Check_spec mem (ix tasks t30q7) r1621 hr1621) (by simp only [push_cast, leL_flD, renL_flD, seval]) (by simp only [push_cast, leL_flD, renL_flD, seval]) ?_
        refine back_f ?_
        refine rs 2 [] [] (by kernel_rfl) allP_nil ?_
        refine rf [(0, .sl mem.length (fl mem)), (1, .sl tasks.length (fl tasks)), (2, .sl picks.length (fl picks)), (8, .ptr 0 0), (11, .ptr 1 0), (28, .sl tasks.length (fl tasks)), (29, iS ((tasks.length : Nat) : Int)), (30, iS t30q7)] [(0, .row 28 [iS 0, iS 0]), (1, .row 28 (Enc.cells r1621))] 2 (by kernel_rfl) ?_
        refine wk_id ?_
        refine seq_np ?_
        refine reg_f ?_
        refine rs 3 [] [] (by kernel_rfl) allP_nil ?_
        refine rf [(0, .sl mem.length (fl mem)), (1, .sl tasks.length (fl tasks)), (2, .sl picks.length (fl picks)), (8, .ptr 0 0), (11, .ptr 1 0), (28, .sl tasks.length (fl tasks)), (29, iS ((tasks.length : Nat) : Int)), (30, iS t30q7), (39, bS (r1621.Code != 0))] [(0, .row 28 [iS 0, iS 0]), (1, .row 28 (Enc.cells r1621))] 2 (by kernel_rfl) ?_
        refine wk_id ?_
        refine cond_sx h (by kernel_rfl) (fun g1622 h => ?_) (fun g1622 h => ?_)
        · refine seq_np ?_
          refine reg_t ?_
          refine rs 4 [] [] (by kernel_rfl) allP_nil ?_
          refine rt [(6, .v (.slice none 0 0)), (7, .v (.slice none 0 0)), (8, .ptr 0 0)] [(0, .row 28 (Enc.cells r1621)), (1, .row 28 (Enc.cells r1621))] 6 follows (by kernel_rfl) ?_
          refine wk_id ?_
          refine rt_cast ht4 ?_
          obtain ⟨r0, h, e0⟩ := map_sx h
          have e1 := hr4 r0 e0.symm
          subst r0
          obtain rfl := Option.some.inj h
          refine ret_at (.tup [.v (.slice none 0 0), .v (.slice none 0 0), .agg (Enc.cells r1621)]) (by kernel_rfl) ?_
          exact ret_e [] [] (by simp only [push_cast, leL_flD, renL_flD, seval]) (by simp only [push_cast, leL_flD, renL_flD, seval]) rfl rfl rfl
        · refine wk_id ?_
          refine wk_id ?_
          refine reg_f ?_
          refine rs 2 [] [] (by kernel_rfl) allP_nil ?_
          refine rf [(0, .sl mem.length (fl mem)), (1, .sl tasks.length (fl tasks)), (2, .sl picks.length (fl picks)), (8, .ptr 0 0), (28, .sl tasks.length (fl tasks)), (29, iS ((tasks.length : Nat) : Int)), (30, iS (IntKind.i64.wrap (t30q7 + 1)))] [(0, .row 28 [iS 0, iS 0]), (1, .row 28 (Enc.cells r1621))] 2 (by kernel_rfl) ?_
          exact hn4 ((IntKind.i64.wrap (t30q7 + 1))) _ _ _ (Option.some.inj h).symm (leSt_m [(0, 0)] [] (by simp only [push_cast, leL_flD, renL_flD, seval]) (by simp only [push_cast, leL_flD, renL_flD, seval]) rfl rfl rfl)
      · change R4 (.exit 0) _ _ _
        refine ex_cast hx4 (id := 0) ?_
        obtain ⟨r0, h, e0⟩ := map_sx h
        have e1 := hr4 r0 e0.symm
        subst r0
        refine wk_id ?_
        refine wk_id ?_
        refine seq_np ?_
        refine seq_np ?_
        refine reg_f ?_
        refine rs 3 [] [] (by kernel_rfl) allP_nil ?_
        refine rf [(0, .sl mem.length (fl mem)), (1, .sl tasks.length (fl tasks)), (2, .sl picks.length (fl picks)), (8, .ptr 0 0), (42, .sl picks.length (fl picks)), (43, iS ((picks.length : Nat) : Int)), (44, iS 0)] [(0, .row 28 [iS 0, iS 0])] 1 (by kernel_rfl) ?_
        refine wk_id ?_
        refine block_np ?_
        refine loop_sx (S := Int) (fun a => ([(0, .sl mem.length (fl mem)), (1, .sl tasks.length (fl tasks)), (2, .sl picks.length (fl picks)), (8, .ptr 0 0), (42, .sl picks.length (fl picks)), (43, iS ((picks.length : Nat) : Int)), (44, iS a)], [(0, .row 28 [iS 0, iS 0])], 1)) h (leSt_m [(0, 0)] [] (by simp only [push_cast, leL_flD, renL_flD, seval]) (by simp only [push_cast, leL_flD, renL_flD, seval]) rfl rfl rfl) ?_
        rintro t44q7 o5 R5 h hr5 hn5 hx5 ht5
        try dsimp only at h hn5 ⊢
        unfold cell_Mix_l2 at h
        try dsimp only at h
        refine seq_np ?_
        refine reg_f ?_
        refine rs 1 [] [] (by kernel_rfl) allP_nil ?_
        refine rf [(0, .sl mem.length (fl mem)), (1, .sl tasks.length (fl tasks)), (2, .sl picks.length (fl picks)), (8, .ptr 0 0), (42, .sl picks.length (fl picks)), (43, iS ((picks.length : Nat) : Int)), (44, iS t44q7), (45, bS (decide (t44q7 < ((picks.length : Nat) : Int))))] [(0, .row 28 [iS 0, iS 0])] 1 (by kernel_rfl) ?_
        refine wk_id ?_
        refine seq_np ?_
        refine cond_sx h (by kernel_rfl) (fun g1973 h => ?_) (fun g1973 h => ?_)
        · refine wk_id ?_
          refine seq_np ?_
          refine block_np ?_
          refine chk_sx h (fun g1688 h => ?_)
          refine seq_np ?_
          refine reg_f ?_
          have k1687 : 0 ≤ t44q7 ∧ t44q7 < ((picks.length : Nat) : Int) := by first | simpa only [Bool.and_eq_true, decide_eq_true_eq, bne_iff_ne, ne_eq] using g1688 | (simp at g1688 ⊢; omega)
          refine rs 5 [none, some ⟨.iptr (fl picks) ((t44q7).toNat * 1), [], 1, []⟩, some ⟨iS (ix picks t44q7), [], 1, []⟩] _ (by kernel_rfl) (allP_cons (ob_ld picks t44q7 1 0 ((t44q7).toNat * 1) k1687 rfl (by decide) (by first | rfl | omega) (dflS Try.prog 3) (iS (ix picks t44q7)) rfl 1 []) (allP_cons (ob_ix_l picks 1 1 t44q7 k1687) allP_nil)) ?_
          refine rf [(0, .sl mem.length (fl mem)), (1, .sl tasks.length (fl tasks)), (2, .sl picks.length (fl picks)), (8, .ptr 0 0), (12, iS t44q7), (13, iS (ix picks t44q7)), (42, .sl picks.length (fl picks)), (43, iS ((picks.length : Nat) : Int)), (44, iS t44q7)] [(0, .row 28 [iS 0, iS 0])] 1 (by kernel_rfl) ?_
          refine wk_id ?_
          refine seq_cut (A := Unit) (fun _ => ([(0, .sl mem.length (fl mem)), (1, .sl tasks.length (fl tasks)), (2, .sl picks.length (fl picks)), (8, .ptr 0 0), (12, iS t44q7), (42, .sl picks.length (fl picks)), (43, iS ((picks.length : Nat) : Int)), (44, iS t44q7), (56, bS ((decide ((ix picks t44q7) < 0)) || (decide (((tasks.length : Nat) : Int) ≤ (ix picks t44q7)))))], [(0, .row 28 [iS 0, iS 0])], 1)) (fun _ => True) (fun K1690 hK1690 => ?_) (fun _ _ => ?_)
          · refine reg_f ?_
            refine rs 3 [] [] (by kernel_rfl) allP_nil ?_
            refine run_split 51 (decide ((ix picks t44q7) < 0)) (.inl (by kernel_rfl)) (fun g1691 => ?_) (fun g1691 => ?_)
            · refine rs 5 [] [] (by kernel_rfl) allP_nil ?_
              refine rf [(0, .sl mem.length (fl mem)), (1, .sl tasks.length (fl tasks)), (2, .sl picks.length (fl picks)), (8, .ptr 0 0), (12, iS t44q7), (42, .sl picks.length (fl picks)), (43, iS ((picks.length : Nat) : Int)), (44, iS t44q7), (56, bS true)] [(0, .row 28 [iS 0, iS 0])] 1 (by kernel_rfl) ?_
              exact hK1690 () _ _ _ trivial (leSt_m [(0, 0)] [] (by (try simp only [g1691]) <;> simp only [push_cast, leL_flD, renL_flD, seval]) (by (try simp only [g1691]) <;> simp only [push_cast, leL_flD, renL_flD, seval]) rfl rfl rfl)
            · refine rs 5 [] [] (by kernel_rfl) allP_nil ?_
              refine rf [(0, .sl mem.length (fl mem)), (1, .sl tasks.length (fl tasks)), (2, .sl picks.length (fl picks)), (8, .ptr 0 0), (12, iS t44q7), (42, .sl picks.length (fl picks)), (43, iS ((picks.length : Nat) : Int)), (44, iS t44q7), (56, bS (decide (((tasks.length : Nat) : Int) ≤ (ix picks t44q7))))] [(0, .row 28 [iS 0, iS 0])] 1 (by kernel_rfl) ?_
              exact hK1690 () _ _ _ trivial (leSt_m [(0, 0)] [] (by (try simp only [g1691]) <;> simp only [push_cast, leL_flD, renL_flD, seval]) (by (try simp only [g1691]) <;> simp only [push_cast, leL_flD, renL_flD, seval]) rfl rfl rfl)
          · dsimp only
            refine cond_sx h (by kernel_rfl) (fun g1694 h => ?_) (fun g1694 h => ?_)
            · refine seq_np ?_
              refine reg_f ?_
              refine rs 1 [] [] (by kernel_rfl) allP_nil ?_
              obtain ⟨r1693, hr1693, h⟩ := bind_sx h
              refine run_call 29 [iS 3, iS t44q7] (some 58) (by kernel_rfl) ?_
              refine call_0 (cell_fault_spec 3 t44q7 r1693 hr1693) (by simp only [push_cast, leL_flD, renL_flD, seval]) (by simp only [push_cast, leL_flD, renL_flD, seval]) ?_
              refine back_f ?_
              refine rs 3 [] [] (by kernel_rfl) allP_nil ?_
              refine rf [(6, .v (.slice none 0 0)), (7, .v (.slice none 0 0)), (8, .ptr 0 0)] [(0, .row 28 (Enc.cells r1693))] 1 (by kernel_rfl) ?_
              refine wk_id ?_
              refine rt_cast ht5 ?_
              obtain ⟨r0, h, e0⟩ := map_sx h
              have e1 := hr5 r0 e0.symm
              subst r0
              obtain rfl := Option.some.inj h
              refine ret_at (.tup [.v (.slice none 0 0), .v (.slice none 0 0), .agg (Enc.cells r1693)]) (by kernel_rfl) ?_
              exact ret_e [] [] (by simp only [push_cast, leL_flD, renL_flD, seval]) (by simp only [push_cast, leL_flD, renL_flD, seval]) rfl rfl rfl
            · refine wk_id ?_
              refine wk_id ?_
              refine reg_f ?_
              refine rs 2 [] [] (by kernel_rfl) allP_nil ?_
              refine rf [(0, .sl mem.length (fl mem)), (1, .sl tasks.length (fl tasks)), (2, .sl picks.length (fl picks)), (8, .ptr 0 0), (42, .sl picks.length (fl picks)), (43, iS ((picks.length : Nat) : Int)), (44, iS (IntKind.i64.wrap (t44q7 + 1)))] [(0, .row 28 [iS 0, iS 0])] 1 (by kernel_rfl) ?_
              exact hn5 ((IntKind.i64.wrap (t44q7 + 1))) _ _ _ (Option.some.inj h).symm (leSt_m [(0, 0)] [] (by simp only [push_cast, leL_flD, renL_flD, seval]) (by simp only [push_cast, leL_flD, renL_flD, seval]) rfl rfl rfl)
        · change R5 (.exit 2) _ _ _
          refine ex_cast hx5 (id := 2) ?_
          obtain ⟨r0, h, e0⟩ := map_sx h
          have e1 := hr5 r0 e0.symm
          subst r0
          refine wk_id ?_
          refine wk_id ?_
          refine seq_np ?_
          refine reg_f ?_
          refine rs 1 [] [] (by kernel_rfl) allP_nil ?_
          obtain ⟨r1696, hr1696, h⟩ := bind_sx h
          refine call_x (slices_Clone_int_spec mem r1696 hr1696) (args := [.sl mem.length (fl mem)]) (dst := (some 61)) (by kernel_rfl) [(0, .row 28 [iS 0, iS 0])] 1 (by kernel_rfl) [] [] (.own 1 0 r1696.length) [(1, .row 3 (fl r1696))] (by simp only [push_cast, leL_flD, renL_flD, seval]) (by simp only [push_cast, leL_flD, renL_flD, seval]) (by kernel_rfl) (.inl rfl) (by simp only [push_cast, leL_flD, renL_flD, seval]) (by simp only [push_cast, leL_flD, renL_flD, seval]) ?_
          refine rs 1 [] [] (by kernel_rfl) allP_nil ?_
          refine rf [(1, .sl tasks.length (fl tasks)), (2, .sl picks.length (fl picks)), (8, .ptr 0 0), (14, .own 1 0 r1696.length)] [(0, .row 28 [iS 0, iS 0]), (1, .row 3 (fl r1696))] 2 (by kernel_rfl) ?_
          refine wk_id ?_
          refine chk_sx h (fun g1700 h => ?_)
          refine seq_np ?_
          refine reg_f ?_
          have k1699 : 0 ≤ ((tasks.length : Nat) : Int) ∧ ((tasks.length : Nat) : Int) ≤ 4611686018427387904 ∧ (24 : Int) * ((tasks.length : Nat) : Int) ≤ 140737488355328 := by first | simpa only [Bool.and_eq_true, decide_eq_true_eq, bne_iff_ne, ne_eq] using g1700 | (simp at g1700 ⊢; omega)
          refine rs 2 [] [] (by kernel_rfl) allP_nil ?_
          refine run_opG (some 64) _ ⟨.own 2 0 (List.replicate (((tasks.length : Nat) : Int)).toNat (default : (List Int))).length, [(2, .row 22 (flN dLListInt (nA (List.replicate 1 none) (List.replicate 1 none) (-1)) 0 (List.replicate (((tasks.length : Nat) : Int)).toNat (default : (List Int)))))], 3, []⟩ [((.s 3 0), .fam (famD dLListInt 0 (List.replicate (((tasks.length : Nat) : Int)).toNat (default : (List Int))))), (2, .row 22 (flD dLListInt [3] (List.replicate (((tasks.length : Nat) : Int)).toNat (default : (List Int)))))] 1 [2] [] (by kernel_rfl) (ob_mkN (P := Try.prog) dLListInt ((tasks.length : Nat) : Int) 22 24 (by kernel_rfl) [.v (.slice none 0 0)] rfl 1 rfl (by decide) k1699 1 2) (ghost_A 3 dLListInt (List.replicate (((tasks.length : Nat) : Int)).toNat (default : (List Int))) 2 22 [none] [none] (-1) (flD dLListInt [3] (List.replicate (((tasks.length : Nat) : Int)).toNat (default : (List Int)))) 0 none none (by kernel_rfl) (flN_done dLListInt [3] (-1) (List.replicate (((tasks.length : Nat) : Int)).toNat (default : (List Int))) rfl) (by kernel_rfl) (offN_rep _ rfl _) (S_rep (fun a => nilLeaf dLListInt 0 a) _)) (by kernel_rfl) ?_
          refine rs 1 [] [] (by kernel_rfl) allP_nil ?_
          refine rf [(1, .sl tasks.length (fl tasks)), (2, .sl picks.length (fl picks)), (8, .ptr 0 0), (14, .own 1 0 r1696.length), (15, .own 2 0 (List.replicate (((tasks.length : Nat) : Int)).toNat (default : (List Int))).length)] [(0, .row 28 [iS 0, iS 0]), (1, .row 3 (fl r1696)), (2, .row 22 (flD dLListInt [3] (List.replicate (((tasks.length : Nat) : Int)).toNat (default : (List Int))))), ((.s 3 0), .fam (famD dLListInt 0 (List.replicate (((tasks.length : Nat) : Int)).toNat (default : (List Int)))))] 4 (by kernel_rfl) ?_
          refine wk_id ?_
          refine seq_np ?_
          refine seq_np ?_
          refine reg_f ?_
          refine rs 3 [] [] (by kernel_rfl) allP_nil ?_
          refine rf [(1, .sl tasks.length (fl tasks)), (8, .ptr 0 0), (14, .own 1 0 r1696.length), (15, .own 2 0 (List.replicate (((tasks.length : Nat) : Int)).toNat (default : (List Int))).length), (65, .sl picks.length (fl picks)), (66, iS ((picks.length : Nat) : Int)), (67, iS 0)] [(0, .row 28 [iS 0, iS 0]), (1, .row 3 (fl r1696)), (2, .row 22 (flD dLListInt [3] (List.replicate (((tasks.length : Nat) : Int)).toNat (default : (List Int))))), ((.s 3 0), .fam (famD dLListInt 0 (List.replicate (((tasks.length : Nat) : Int)).toNat (default : (List Int)))))] 4 (by kernel_rfl) ?_
          refine wk_id ?_
          refine block_np ?_
          refine loop_sx (S := Int × (List Int) × (List (List Int))) (fun a => ([(1, .sl tasks.length (fl tasks)), (8, .ptr 0 0), (14, .own 1 0 a.2.1.length), (15, .own 2 0 a.2.2.length), (65, .sl picks.length (fl picks)), (66, iS ((picks.length : Nat) : Int)), (67, iS a.1)], [(0, .row 28 [iS 0, iS 0]), (1, .row 3 (fl a.2.1)), (2, .row 22 (flD dLListInt [3] a.2.2)), ((.s 3 0), .fam (famD dLListInt 0 a.2.2))], 4)) h (leSt_m [(0, 0), (1, 1), (2, 2), ((.s 3 0), (.s 3 0))] [] (by simp only [push_cast, leL_flD, renL_flD, seval]) (by simp only [push_cast, leL_flD, renL_flD, seval]) rfl rfl rfl) ?_
          rintro ⟨t67q7, c1q23, c2q18⟩ o6 R6 h hr6 hn6 hx6 ht6
          try dsimp only at h hn6 ⊢
          unfold cell_Mix_l1 at h
          try dsimp only at h
          refine seq_np ?_
          refine reg_f ?_
          refine rs 1 [] [] (by kernel_rfl) allP_nil ?_
          refine rf [(1, .sl tasks.length (fl tasks)), (8, .ptr 0 0), (14, .own 1 0 c1q23.length), (15, .own 2 0 c2q18.length), (65, .sl picks.length (fl picks)), (66, iS ((picks.length : Nat) : Int)), (67, iS t67q7), (68, bS (decide (t67q7 < ((picks.length : Nat) : Int))))] [(0, .row 28 [iS 0, iS 0]), (1, .row 3 (fl c1q23)), (2, .row 22 (flD dLListInt [3] c2q18)), ((.s 3 0), .fam (famD dLListInt 0 c2q18))] 4 (by kernel_rfl) ?_
          refine wk_id ?_
          refine seq_np ?_
          refine cond_sx h (by kernel_rfl) (fun g1972 h => ?_) (fun g1972 h => ?_)
          · refine wk_id ?_
            refine seq_np ?_
            refine block_cut (A := (List Int) × (List (List Int))) (fun a => ([(1, .sl tasks.length (fl tasks)), (8, .ptr 0 0), (14, .own 1 0 a.1.length), (15, .own 2 0 a.2.length), (65, .sl picks.length (fl picks)), (66, iS ((picks.length : Nat) : Int)), (67, iS t67q7)], [(0, .row 28 [iS 0, iS 0]), (1, .row 3 (fl a.1)), (2, .row 22 (flD dLListInt [3] a.2)), ((.s 3 0), .fam (famD dLListInt 0 a.2))], 4)) (fun a => (cell_Mix_j1 tasks picks t67q7 a.1 a.2) = some o6) (fun K1932 hK1932 => ?_) ?_
            · refine chk_sx h (fun g1936 h => ?_)
              refine seq_np ?_
              refine reg_f ?_
              have k1935 : 0 ≤ t67q7 ∧ t67q7 < ((picks.length : Nat) : Int) := by first | simpa only [Bool.and_eq_true, decide_eq_true_eq, bne_iff_ne, ne_eq] using g1936 | (simp at g1936 ⊢; omega)
              refine rs 3 [some ⟨.iptr (fl picks) ((t67q7).toNat * 1), [], 4, []⟩, some ⟨iS (ix picks t67q7), [], 4, []⟩] _ (by kernel_rfl) (allP_cons (ob_ld picks t67q7 1 0 ((t67q7).toNat * 1) k1935 rfl (by decide) (by first | rfl | omega) (dflS Try.prog 3) (iS (ix picks t67q7)) rfl 4 []) (allP_cons (ob_ix_l picks 1 4 t67q7 k1935) allP_nil)) ?_
              refine rf [(1, .sl tasks.length (fl tasks)), (8, .ptr 0 0), (14, .own 1 0 c1q23.length), (15, .own 2 0 c2q18.length), (17, iS (ix picks t67q7)), (65, .sl picks.length (fl picks)), (66, iS ((picks.length : Nat) : Int)), (67, iS t67q7)] [(0, .row 28 [iS 0, iS 0]), (1, .row 3 (fl c1q23)), (2, .row 22 (flD dLListInt [3] c2q18)), ((.s 3 0), .fam (famD dLListInt 0 c2q18))] 4 (by kernel_rfl) ?_
              refine wk_id ?_
              refine chk_sx h (fun g1940 h => ?_)
              refine seq_np ?_
              refine reg_f ?_
              have k1939 : 0 ≤ (ix picks t67q7) ∧ (ix picks t67q7) < ((c2q18.length : Nat) : Int) := by first | simpa only [Bool.and_eq_true, decide_eq_true_eq, bne_iff_ne, ne_eq] using g1940 | (simp at g1940 ⊢; omega)
              refine rs 6 [none, none, some ⟨.ptr 2 (0 + ((ix picks t67q7)).toNat * 1), [], 4, [2]⟩, some ⟨.own (.s 3 (ix picks t67q7)) 0 (ixD c2q18 (ix picks t67q7)).length, [], 4, [2]⟩] _ (by kernel_rfl) (allP_cons (ob_ldD dLListInt [3] c2q18 (ix picks t67q7) 1 0 (0 + ((ix picks t67q7)).toNat * 1) k1939 rfl (by decide) (by first | rfl | omega) (dflS Try.prog 22) (.own (.s 3 (ix picks t67q7)) 0 (ixD c2q18 (ix picks t67q7)).length) rfl 4 [2]) (allP_cons (ob_ix_o 2 c2q18.length 0 1 4 (ix picks t67q7) k1939) allP_nil)) ?_
              refine rf [(1, .sl tasks.length (fl tasks)), (8, .ptr 0 0), (14, .own 1 0 c1q23.length), (15, .own 2 0 c2q18.length), (17, iS (ix picks t67q7)), (18, iS (((ixD c2q18 (ix picks t67q7)).length : Nat) : Int)), (65, .sl picks.length (fl picks)), (66, iS ((picks.length : Nat) : Int)), (67, iS t67q7)] [(0, .row 28 [iS 0, iS 0]), (1, .row 3 (fl c1q23)), (2, .row 22 (flD dLListInt [3] c2q18)), ((.s 3 0), .fam (famD dLListInt 0 c2q18))] 4 (by kernel_rfl) ?_
              refine wk_id ?_
              refine chk_sx h (fun g1944 h => ?_)
              refine seq_np ?_
              refine reg_f ?_
              have k1943 : 0 ≤ (ix picks t67q7) ∧ (ix picks t67q7) < ((tasks.length : Nat) : Int) := by first | simpa only [Bool.and_eq_true, decide_eq_true_eq, bne_iff_ne, ne_eq] using g1944 | (simp at g1944 ⊢; omega)
              refine rs 7 [none, none, none, some ⟨.iptr (fl tasks) (((ix picks t67q7)).toNat * 1), [], 4, []⟩, some ⟨.sl (ix tasks (ix picks t67q7)).length (fl (ix tasks (ix picks t67q7))), [], 4, []⟩] _ (by kernel_rfl) (allP_cons (ob_ld tasks (ix picks t67q7) 1 0 (((ix picks t67q7)).toNat * 1) k1943 rfl (by decide) (by first | rfl | omega) (dflS Try.prog 39) (.sl (ix tasks (ix picks t67q7)).length (fl (ix tasks (ix picks t67q7)))) rfl 4 []) (allP_cons (ob_ix_l tasks 1 4 (ix picks t67q7) k1943) allP_nil)) ?_
              refine rf [(1, .sl tasks.length (fl tasks)), (8, .ptr 0 0), (14, .own 1 0 c1q23.length), (15, .own 2 0 c2q18.length), (17, iS (ix picks t67q7)), (18, iS (((ixD c2q18 (ix picks t67q7)).length : Nat) : Int)), (65, .sl picks.length (fl picks)), (66, iS ((picks.length : Nat) : Int)), (67, iS t67q7), (82, bS (decide ((((ixD c2q18 (ix picks t67q7)).length : Nat) : Int) < (((ix tasks (ix picks t67q7)).length : Nat) : Int))))] [(0, .row 28 [iS 0, iS 0]), (1, .row 3 (fl c1q23)), (2, .row 22 (flD dLListInt [3] c2q18)), ((.s 3 0), .fam (famD dLListInt 0 c2q18))] 4 (by kernel_rfl) ?_
              refine wk_id ?_
              refine cond_sx h (by kernel_rfl) (fun g1971 h => ?_) (fun g1971 h => ?_)
              · refine chk_sx h (fun g1959 h => ?_)
                refine chk_sx h (fun g1961 h => ?_)
                refine chk_sx h (fun g1963 h => ?_)
                refine reg_t ?_
                have k1958 : 0 ≤ (ix picks t67q7) ∧ (ix picks t67q7) < ((c2q18.length : Nat) : Int) := by first | simpa only [Bool.and_eq_true, decide_eq_true_eq, bne_iff_ne, ne_eq] using g1959 | (simp at g1959 ⊢; omega)
                have k1960 : 0 ≤ (ix picks t67q7) ∧ (ix picks t67q7) < ((tasks.length : Nat) : Int) := by first | simpa only [Bool.and_eq_true, decide_eq_true_eq, bne_iff_ne, ne_eq] using g1961 | (simp at g1961 ⊢; omega)
                have k1962 : 0 ≤ (((ixD c2q18 (ix picks t67q7)).length : Nat) : Int) ∧ (((ixD c2q18 (ix picks t67q7)).length : Nat) : Int) < (((ix tasks (ix picks t67q7)).length : Nat) : Int) := by first | simpa only [Bool.and_eq_true, decide_eq_true_eq, bne_iff_ne, ne_eq] using g1963 | (simp at g1963 ⊢; omega)
                refine rs 14 [none, none, none, none, some ⟨.ptr 2 (0 + ((ix picks t67q7)).toNat * 1), [], 8, [2]⟩, some ⟨.own (.s 3 (ix picks t67q7)) 0 (ixD c2q18 (ix picks t67q7)).length, [], 9, [2]⟩, none, none, none, some ⟨.iptr (fl tasks) (((ix picks t67q7)).toNat * 1), [], 13, []⟩, some ⟨.sl (ix tasks (ix picks t67q7)).length (fl (ix tasks (ix picks t67q7))), [], 14, []⟩, none, some ⟨.iptr (fl (ix tasks (ix picks t67q7))) (((((ixD c2q18 (ix picks t67q7)).length : Nat) : Int)).toNat * 4), [], 16, []⟩, some ⟨.agg (Enc.cells (ix (ix tasks (ix picks t67q7)) (((ixD c2q18 (ix picks t67q7)).length : Nat) : Int))), [], 17, []⟩] _ (by kernel_rfl) (allP_cons (ob_ldw (ix tasks (ix picks t67q7)) (((ixD c2q18 (ix picks t67q7)).length : Nat) : Int) 4 (((((ixD c2q18 (ix picks t67q7)).length : Nat) : Int)).toNat * 4) k1962 rfl (by first | rfl | omega) (Enc.cells (ix (ix tasks (ix picks t67q7)) (((ixD c2q18 (ix picks t67q7)).length : Nat) : Int))) rfl 17 []) (allP_cons (ob_ix_l (ix tasks (ix picks t67q7)) 4 16 (((ixD c2q18 (ix picks t67q7)).length : Nat) : Int) k1962) (allP_cons (ob_ld tasks (ix picks t67q7) 1 0 (((ix picks t67q7)).toNat * 1) k1960 rfl (by decide) (by first | rfl | omega) (dflS Try.prog 39) (.sl (ix tasks (ix picks t67q7)).length (fl (ix tasks (ix picks t67q7)))) rfl 14 []) (allP_cons (ob_ix_l tasks 1 13 (ix picks t67q7) k1960) (allP_cons (ob_ldD dLListInt [3] c2q18 (ix picks t67q7) 1 0 (0 + ((ix picks t67q7)).toNat * 1) k1958 rfl (by decide) (by first | rfl | omega) (dflS Try.prog 22) (.own (.s 3 (ix picks t67q7)) 0 (ixD c2q18 (ix picks t67q7)).length) rfl 9 [2]) (allP_cons (ob_ix_o 2 c2q18.length 0 1 8 (ix picks t67q7) k1958) allP_nil)))))) ?_
                obtain ⟨r1964, hr1964, h⟩ := bind_sx h
                refine call_x (cell_Do_1_spec (ix (ix tasks (ix picks t67q7)) (((ixD c2q18 (ix picks t67q7)).length : Nat) : Int)) c1q23 r1964 hr1964) (args := [.own 1 0 c1q23.length, .agg (Enc.cells (ix (ix tasks (ix picks t67q7)) (((ixD c2q18 (ix picks t67q7)).length : Nat) : Int)))]) (dst := (some 97)) (by kernel_rfl) [(0, .row 28 [iS 0, iS 0]), (1, .row 3 (fl c1q23)), (2, .row 22 (flD dLListInt [3] c2q18)), ((.s 3 0), .fam (famD dLListInt 0 c2q18))] 18 (by kernel_rfl) [(0, 1)] [] (iS r1964.1) [(1, .row 3 (fl r1964.2)), (1, .dead)] (by simp only [push_cast, leL_flD, renL_flD, seval]) (by simp only [push_cast, leL_flD, renL_flD, seval]) (by kernel_rfl) (.inl rfl) (by simp only [push_cast, leL_flD, renL_flD, seval]) (by simp only [push_cast, leL_flD, renL_flD, seval]) ?_
                refine chk_sx h (fun g1966 h => ?_)
                have e1965 : c1q23.length = r1964.2.length := (of_decide_eq_true g1966).symm
                refine run_eqF 14 (.own 1 0 c1q23.length) (.own 1 0 r1964.2.length) (congrArg (fun nq => (.own 1 0 nq : SV)) (show c1q23.length = r1964.2.length from e1965)) (by kernel_rfl) ?_
                refine chk_sx h (fun g1968 h => ?_)
                have k1967 : ((ixD c2q18 (ix picks t67q7)) ++ ([r1964.1] : List Int)).length * 8 ≤ 140737488355328 := by first | simpa only [Bool.and_eq_true, decide_eq_true_eq, bne_iff_ne, ne_eq] using g1968 | (simp at g1968 ⊢; omega)
                refine chk_sx h (fun g1970 h => ?_)
                have k1969 : 0 ≤ (ix picks t67q7) ∧ (ix picks t67q7) < ((c2q18.length : Nat) : Int) := by first | simpa only [Bool.and_eq_true, decide_eq_true_eq, bne_iff_ne, ne_eq] using g1970 | (simp at g1970 ⊢; omega)
                refine rs 3 [none, some ⟨.own 22 0 ((ixD c2q18 (ix picks t67q7)) ++ ([r1964.1] : List Int)).length, [(22, .row 3 (fl ((ixD c2q18 (ix picks t67q7)) ++ ([r1964.1] : List Int)))), ((.s 3 0), .fam (upI (famD dLListInt 0 c2q18) (ix picks t67q7) (.dead)))], 23, [(.s 3 0), 20]⟩, some ⟨.ptr 2 (0 + ((ix picks t67q7)).toNat * 1), [], 24, [2]⟩] _ (by kernel_rfl) (allP_cons (ob_ix_o 2 c2q18.length 0 1 24 (ix picks t67q7) k1969) (allP_cons (ob_appM (P := Try.prog) dLListInt 0 c2q18 (ix picks t67q7) 3 (ixD c2q18 (ix picks t67q7)) ([r1964.1] : List Int) 1 8 rfl (appCells (fl ([r1964.1] : List Int)) 0 (([r1964.1] : List Int).length * 1)) ([r1964.1] : List Int).length (app_own ([r1964.1] : List Int) 1 rfl) rfl (0 + ([r1964.1] : List Int).length * 1 ≤ (fl ([r1964.1] : List Int)).length) (app_own_le ([r1964.1] : List Int) 1 rfl) 3 (by kernel_rfl) (by decide) k1967 22 [20]) allP_nil)) ?_
                refine run_opGb none _ ⟨.any, [(2, .row 22 (flN dLListInt (nA [(some 3)] [(some (Nm.t 22))] (ix picks t67q7)) 0 (c2q18.set (ix picks t67q7).toNat (((ixD c2q18 (ix picks t67q7)) ++ ([r1964.1] : List Int)) : (List Int)))))], 25, [2]⟩ [((.s 25 0), .fam (famD dLListInt 0 (c2q18.set (ix picks t67q7).toNat (((ixD c2q18 (ix picks t67q7)) ++ ([r1964.1] : List Int)) : (List Int))))), (2, .row 22 (flD dLListInt [25] (c2q18.set (ix picks t67q7).toNat (((ixD c2q18 (ix picks t67q7)) ++ ([r1964.1] : List Int)) : (List Int))))), ((.s 3 0), .dead), (22, .dead)] 1 [2, (.s 3 0), 22] [(.s 3 0), 22] (by kernel_rfl) (ob_stN (P := Try.prog) dLListInt [3] [(some (Nm.t 22))] c2q18 (ix picks t67q7) 1 0 (0 + ((ix picks t67q7)).toNat * 1) k1969 rfl [.own 22 0 ((ixD c2q18 (ix picks t67q7)) ++ ([r1964.1] : List Int)).length] (((ixD c2q18 (ix picks t67q7)) ++ ([r1964.1] : List Int)) : (List Int)) (Nat.le_of_ble_eq_true rfl) (by first | rfl | omega) rfl rfl 2 25 22 22 (by kernel_rfl) rfl) (ghost_A 25 dLListInt (c2q18.set (ix picks t67q7).toNat (((ixD c2q18 (ix picks t67q7)) ++ ([r1964.1] : List Int)) : (List Int))) 2 22 [(some 3)] [(some (Nm.t 22))] (ix picks t67q7) (flD dLListInt [25] (c2q18.set (ix picks t67q7).toNat (((ixD c2q18 (ix picks t67q7)) ++ ([r1964.1] : List Int)) : (List Int)))) 0 (some 3) (some 22) (by kernel_rfl) (flN_done dLListInt [25] (ix picks t67q7) (c2q18.set (ix picks t67q7).toNat (((ixD c2q18 (ix picks t67q7)) ++ ([r1964.1] : List Int)) : (List Int))) rfl) (by kernel_rfl) ⟨_, (by kernel_rfl), (off_hole c2q18 (ix picks t67q7) (((ixD c2q18 (ix picks t67q7)) ++ ([r1964.1] : List Int)) : (List Int)) k1969 (.dead))⟩ (S_set (fun a => getH _ (.t 22) = chD dLListInt 0 a) k1969 rfl)) (by kernel_rfl) (And.intro (born_fam (upI (famD dLListInt 0 c2q18) (ix picks t67q7) (.dead)) (by kernel_rfl)) (And.intro (by kernel_rfl) trivial)) ?_
                refine run_eqF 15 (.own 2 0 c2q18.length) (.own 2 0 (c2q18.set (ix picks t67q7).toNat (((ixD c2q18 (ix picks t67q7)) ++ ([r1964.1] : List Int)) : (List Int))).length) (congrArg (fun nq => (.own 2 0 nq : SV)) (show c2q18.length = (c2q18.set (ix picks t67q7).toNat (((ixD c2q18 (ix picks t67q7)) ++ ([r1964.1] : List Int)) : (List Int))).length from (List.length_set ..).symm)) (by kernel_rfl) ?_
                refine rt [(1, .sl tasks.length (fl tasks)), (8, .ptr 0 0), (14, .own 1 0 r1964.2.length), (15, .own 2 0 (c2q18.set (ix picks t67q7).toNat (((ixD c2q18 (ix picks t67q7)) ++ ([r1964.1] : List Int)) : (List Int))).length), (65, .sl picks.length (fl picks)), (66, iS ((picks.length : Nat) : Int)), (67, iS t67q7)] [(0, .row 28 [iS 0, iS 0]), (1, .row 3 (fl r1964.2)), (2, .row 22 (flD dLListInt [25] (c2q18.set (ix picks t67q7).toNat (((ixD c2q18 (ix picks t67q7)) ++ ([r1964.1] : List Int)) : (List Int))))), ((.s 3 0), .dead), (20, .row 3 (fl ([r1964.1] : List Int))), (22, .dead), ((.s 25 0), .fam (famD dLListInt 0 (c2q18.set (ix picks t67q7).toNat (((ixD c2q18 (ix picks t67q7)) ++ ([r1964.1] : List Int)) : (List Int)))))] 27 follows (by kernel_rfl) ?_
                exact hK1932 (r1964.2, (c2q18.set (ix picks t67q7).toNat (((ixD c2q18 (ix picks t67q7)) ++ ([r1964.1] : List Int)) : (List Int)))) _ _ _ h (leSt_m [(0, 0), (1, 1), (2, 2), ((.s 3 0), (.s 25 0))] [] (by simp only [push_cast, leL_flD, renL_flD, seval]) (by simp only [push_cast, leL_flD, renL_flD, seval]) rfl rfl rfl)
              · exact hK1932 (c1q23, c2q18) _ _ _ h (leSt_m [(0, 0), (1, 1), (2, 2), ((.s 3 0), (.s 3 0))] [] (by simp only [push_cast, leL_flD, renL_flD, seval]) (by simp only [push_cast, leL_flD, renL_flD, seval]) rfl rfl rfl)
            · rintro ⟨c1q25, c2q20⟩ h
              try dsimp only at h ⊢
              unfold cell_Mix_j1 at h
              refine wk_id ?_
              refine reg_f ?_
              refine rs 2 [] [] (by kernel_rfl) allP_nil ?_
              refine rf [(1, .sl tasks.length (fl tasks)), (8, .ptr 0 0), (14, .own 1 0 c1q25.length), (15, .own 2 0 c2q20.length), (65, .sl picks.length (fl picks)), (66, iS ((picks.length : Nat) : Int)), (67, iS (IntKind.i64.wrap (t67q7 + 1)))] [(0, .row 28 [iS 0, iS 0]), (1, .row 3 (fl c1q25)), (2, .row 22 (flD dLListInt [3] c2q20)), ((.s 3 0), .fam (famD dLListInt 0 c2q20))] 4 (by kernel_rfl) ?_
              exact hn6 ((IntKind.i64.wrap (t67q7 + 1)), c1q25, c2q20) _ _ _ (Option.some.inj h).symm (leSt_m [(0, 0), (1, 1), (2, 2), ((.s 3 0), (.s 3 0))] [] (by simp only [push_cast, leL_flD, renL_flD, seval]) (by simp only [push_cast, leL_flD, renL_flD, seval]) rfl rfl rfl)
          · change R6 (.exit 4) _ _ _
            refine ex_cast hx6 (id := 4) ?_
            obtain ⟨r0, h, e0⟩ := map_sx h
            have e1 := hr6 r0 e0.symm
            subst r0
            refine wk_id ?_
            refine wk_id ?_
            refine seq_np ?_
            refine reg_f ?_
            refine rs 6 [] [] (by kernel_rfl) allP_nil ?_
            refine rf [(6, .own 1 0 c1q23.length), (7, .own 2 0 c2q18.length), (8, .ptr 0 0)] [(0, .row 28 [iS 0, iS 0]), (1, .row 3 (fl c1q23)), (2, .row 22 (flD dLListInt [3] c2q18)), ((.s 3 0), .fam (famD dLListInt 0 c2q18))] 4 (by kernel_rfl) ?_
            refine wk_id ?_
            obtain rfl := Option.some.inj h
            refine ret_at (.tup [.own 1 0 c1q23.length, .own 2 0 c2q18.length, .agg [iS 0, iS 0]]) (by kernel_rfl) ?_
            exact ret_e [(0, 1), (1, 2), ((.s 2 0), (.s 3 0))] [] (by simp only [push_cast, leL_flD, renL_flD, seval]) (by simp only [push_cast, leL_flD, renL_flD, seval]) rfl rfl rfl

set_option maxRecDepth 100000 in
set_option maxHeartbeats 200000000 in
theorem taskmillref_TasksFault_spec (mem : (List Int)) (tasks : (List (List GOp))) (r : Fault) (h : taskmillref_TasksFault mem tasks = some r) : SpecW Try.prog 15 [.sl mem.length (fl mem), .sl tasks.length (fl tasks)] [] 0 (fun x h n => x = .agg (Enc.cells r) ∧ h = [] ∧ n = 0) := by
  unfold taskmillref_TasksFault at h
  refine spec_of (draw_ok _) Try.func15 rfl (by decide) rfl (by kernel_rfl) ?_
  refine seq_np ?_
  refine reg_f ?_
  refine rs 1 [] [] (by kernel_rfl) allP_nil ?_
  refine rf [(0, .sl mem.length (fl mem)), (1, .sl tasks.length (fl tasks)), (4, .ptr 0 0)] [(0, .row 28 [iS 0, iS 0])] 1 (by kernel_rfl) ?_
  refine wk_id ?_
  refine seq_np ?_
  refine seq_np ?_
  refine reg_f ?_
  refine rs 1 [] [] (by kernel_rfl) allP_nil ?_
  refine rf [(0, .sl mem.length (fl mem)), (1, .sl tasks.length (fl tasks)), (4, .ptr 0 0), (5, iS 0)] [(0, .row 28 [iS 0, iS 0])] 1 (by kernel_rfl) ?_
  refine wk_id ?_
  refine block_np ?_
  refine loop_sx (S := Int) (fun a => ([(0, .sl mem.length (fl mem)), (1, .sl tasks.length (fl tasks)), (4, .ptr 0 0), (5, iS a)], [(0, .row 28 [iS 0, iS 0])], 1)) h (leSt_m [(0, 0)] [] (by simp only [push_cast, leL_flD, renL_flD, seval]) (by simp only [push_cast, leL_flD, renL_flD, seval]) rfl rfl rfl) ?_
  rintro i7 o2 R2 h hr2 hn2 hx2 ht2
  try dsimp only at h hn2 ⊢
  unfold taskmillref_TasksFault_l1 at h
  try dsimp only at h
  refine seq_np ?_
  refine seq_np ?_
  refine reg_f ?_
  refine rs 4 [] [] (by kernel_rfl) allP_nil ?_
  refine rf [(0, .sl mem.length (fl mem)), (1, .sl tasks.length (fl tasks)), (4, .ptr 0 0), (5, iS i7), (10, bS (decide (i7 < ((tasks.length : Nat) : Int))))] [(0, .row 28 [iS 0, iS 0])] 1 (by kernel_rfl) ?_
  refine wk_id ?_
  refine cond_sx h (by kernel_rfl) (fun g2054 h => ?_) (fun g2054 h => ?_)
  · refine wk_id ?_
    refine seq_np ?_
    refine block_np ?_
    refine chk_sx h (fun g2051 h => ?_)
    refine seq_np ?_
    refine reg_f ?_
    have k2050 : 0 ≤ i7 ∧ i7 < ((tasks.length : Nat) : Int) := by first | simpa only [Bool.and_eq_true, decide_eq_true_eq, bne_iff_ne, ne_eq] using g2051 | (simp at g2051 ⊢; omega)
    refine rs 5 [none, none, none, some ⟨.iptr (fl tasks) ((i7).toNat * 1), [], 1, []⟩, some ⟨.sl (ix tasks i7).length (fl (ix tasks i7)), [], 1, []⟩] _ (by kernel_rfl) (allP_cons (ob_ld tasks i7 1 0 ((i7).toNat * 1) k2050 rfl (by decide) (by first | rfl | omega) (dflS Try.prog 39) (.sl (ix tasks i7).length (fl (ix tasks i7))) rfl 1 []) (allP_cons (ob_ix_l tasks 1 1 i7 k2050) allP_nil)) ?_
    obtain ⟨r2052, hr2052, h⟩ := bind_sx h
    refine run_call 23 [.sl mem.length (fl mem), .sl (ix tasks i7).length (fl (ix tasks i7))] (some 18) (by kernel_rfl) ?_
    refine call_0 (taskmillref_OpsFault_spec mem (ix tasks i7) r2052 hr2052) (by simp only [push_cast, leL_flD, renL_flD, seval]) (by simp only [push_cast, leL_flD, renL_flD, seval]) ?_
    refine back_f ?_
    refine rs 2 [] [] (by kernel_rfl) allP_nil ?_
    refine rf [(0, .sl mem.length (fl mem)), (1, .sl tasks.length (fl tasks)), (4, .ptr 0 0), (5, iS i7), (6, .ptr 1 0)] [(0, .row 28 [iS 0, iS 0]), (1, .row 28 (Enc.cells r2052))] 2 (by kernel_rfl) ?_
    refine wk_id ?_
    refine seq_np ?_
    refine reg_f ?_
    refine rs 3 [] [] (by kernel_rfl) allP_nil ?_
    refine rf [(0, .sl mem.length (fl mem)), (1, .sl tasks.length (fl tasks)), (4, .ptr 0 0), (5, iS i7), (6, .ptr 1 0), (21, bS (r2052.Code != 0))] [(0, .row 28 [iS 0, iS 0]), (1, .row 28 (Enc.cells r2052))] 2 (by kernel_rfl) ?_
    refine wk_id ?_
    refine cond_sx h (by kernel_rfl) (fun g2053 h => ?_) (fun g2053 h => ?_)
    · refine seq_np ?_
      refine reg_f ?_
      refine rs 2 [] [] (by kernel_rfl) allP_nil ?_
      refine rf [(4, .ptr 0 0)] [(0, .row 28 (Enc.cells r2052)), (1, .row 28 (Enc.cells r2052))] 2 (by kernel_rfl) ?_
      refine wk_id ?_
      refine rt_cast ht2 ?_
      obtain ⟨r0, h, e0⟩ := map_sx h
      have e1 := hr2 r0 e0.symm
      subst r0
      obtain rfl := Option.some.inj h
      refine ret_at (.agg (Enc.cells r2052)) (by kernel_rfl) ?_
      exact ret_e [] [] (by simp only [push_cast, leL_flD, renL_flD, seval]) (by simp only [push_cast, leL_flD, renL_flD, seval]) rfl rfl rfl
    · refine wk_id ?_
      refine wk_id ?_
      refine reg_f ?_
      refine rs 3 [] [] (by kernel_rfl) allP_nil ?_
      refine rf [(0, .sl mem.length (fl mem)), (1, .sl tasks.length (fl tasks)), (4, .ptr 0 0), (5, iS (IntKind.i64.wrap (i7 + 1)))] [(0, .row 28 [iS 0, iS 0]), (1, .row 28 (Enc.cells r2052))] 2 (by kernel_rfl) ?_
      exact hn2 ((IntKind.i64.wrap (i7 + 1))) _ _ _ (Option.some.inj h).symm (leSt_m [(0, 0)] [] (by simp only [push_cast, leL_flD, renL_flD, seval]) (by simp only [push_cast, leL_flD, renL_flD, seval]) rfl rfl rfl)
  · change R2 (.exit 0) _ _ _
    refine ex_cast hx2 (id := 0) ?_
    obtain ⟨r0, h, e0⟩ := map_sx h
    have e1 := hr2 r0 e0.symm
    subst r0
    refine wk_id ?_
    refine wk_id ?_
    refine seq_np ?_
    refine reg_f ?_
    refine rs 2 [] [] (by kernel_rfl) allP_nil ?_
    refine rf [(4, .ptr 0 0)] [(0, .row 28 [iS 0, iS 0])] 1 (by kernel_rfl) ?_
    refine wk_id ?_
    obtain rfl := Option.some.inj h
    refine ret_at (.agg [iS 0, iS 0]) (by kernel_rfl) ?_
    exact ret_e [] [] (by simp only [push_cast, leL_flD, renL_flD, seval]) (by simp only [push_cast, leL_flD, renL_flD, seval]) rfl rfl rfl

set_option maxRecDepth 100000 in
set_option maxHeartbeats 200000000 in
theorem taskmillref_Order_spec (tasks : (List (List GOp))) (picks : (List Int)) (r : (List GOp) × (List Int)) (h : taskmillref_Order tasks picks = some r) : SpecW Try.prog 28 [.sl tasks.length (fl tasks), .sl picks.length (fl picks)] [] 0 (fun x h n => x = .tup [.own 0 0 r.1.length, .own 1 0 r.2.length] ∧ h = [(0, .row 50 (fl r.1)), (1, .row 3 (fl r.2))] ∧ n = 2) := by
  unfold taskmillref_Order at h
  refine spec_of (draw_ok _) Try.func28 rfl (by decide) rfl (by kernel_rfl) ?_
  refine seq_np ?_
  refine reg_f ?_
  refine rs 2 [] [] (by kernel_rfl) allP_nil ?_
  refine rf [(0, .sl tasks.length (fl tasks)), (1, .sl picks.length (fl picks))] [] 0 (by kernel_rfl) ?_
  refine wk_id ?_
  refine chk_sx h (fun g2174 h => ?_)
  refine seq_np ?_
  refine reg_f ?_
  have k2173 : 0 ≤ ((tasks.length : Nat) : Int) ∧ ((tasks.length : Nat) : Int) ≤ 4611686018427387904 ∧ (8 : Int) * ((tasks.length : Nat) : Int) ≤ 140737488355328 := by first | simpa only [Bool.and_eq_true, decide_eq_true_eq, bne_iff_ne, ne_eq] using g2174 | (simp at g2174 ⊢; omega)
  refine rs 4 [none, none, some ⟨.own 0 0 (List.replicate (((tasks.length : Nat) : Int)).toNat (default : Int)).length, [(0, .row 3 (fl (List.replicate (((tasks.length : Nat) : Int)).toNat (default : Int))))], 1, []⟩] _ (by kernel_rfl) (allP_cons (ob_mk (P := Try.prog) (α := Int) ((tasks.length : Nat) : Int) 3 8 (by kernel_rfl) [iS 0] rfl 1 rfl (by decide) k2173 0) allP_nil) ?_
  refine rf [(0, .sl tasks.length (fl tasks)), (1, .sl picks.length (fl picks)), (6, .own 0 0 (List.replicate (((tasks.length : Nat) : Int)).toNat (default : Int)).length)] [(0, .row 3 (fl (List.replicate (((tasks.length : Nat) : Int)).toNat (default : Int))))] 1 (by kernel_rfl) ?_
  refine wk_id ?_
  refine seq_np ?_
  refine reg_f ?_
  refine rs 1 [] [] (by kernel_rfl) allP_nil ?_
  refine rf [(0, .sl tasks.length (fl tasks)), (1, .sl picks.length (fl picks)), (6, .own 0 0 (List.replicate (((tasks.length : Nat) : Int)).toNat (default : Int)).length), (7, .v (.slice none 0 0))] [(0, .row 3 (fl (List.replicate (((tasks.length : Nat) : Int)).toNat (default : Int))))] 1 (by kernel_rfl) ?_
  refine wk_id ?_
  refine seq_np ?_
  refine reg_f ?_
  refine rs 1 [] [] (by kernel_rfl) allP_nil ?_
  refine rf [(0, .sl tasks.length (fl tasks)), (1, .sl picks.length (fl picks)), (6, .own 0 0 (List.replicate (((tasks.length : Nat) : Int)).toNat (default : Int)).length), (7, .v (.slice none 0 0)), (8, .v (.slice none 0 0))] [(0, .row 3 (fl (List.replicate (((tasks.length : Nat) : Int)).toNat (default : Int))))] 1 (by kernel_rfl) ?_
  refine wk_id ?_
  refine seq_np ?_
  refine seq_np ?_
  refine reg_f ?_
  refine rs 1 [] [] (by kernel_rfl) allP_nil ?_
  refine rf [(0, .sl tasks.length (fl tasks)), (1, .sl picks.length (fl picks)), (6, .own 0 0 (List.replicate (((tasks.length : Nat) : Int)).toNat (default : Int)).length), (7, .v (.slice none 0 0)), (8, .v (.slice none 0 0)), (9, iS 0)] [(0, .row 3 (fl (List.replicate (((tasks.length : Nat) : Int)).toNat (default : Int))))] 1 (by kernel_rfl) ?_
  refine wk_id ?_
  refine block_np ?_
  refine loop_sx (S := Int × (List Int) × (List GOp) × (List Int)) (fun a => ([(0, .sl tasks.length (fl tasks)), (1, .sl picks.length (fl picks)), (6, .own 0 0 a.2.1.length), (7, .own 1 0 a.2.2.1.length), (8, .own 2 0 a.2.2.2.length), (9, iS a.1)], [(0, .row 3 (fl a.2.1)), (1, .row 50 (fl a.2.2.1)), (2, .row 3 (fl a.2.2.2))], 3)) h (leSt_m [(0, 0)] [] (by simp only [push_cast, leL_flD, renL_flD, seval]) (by simp only [push_cast, leL_flD, renL_flD, seval]) rfl rfl rfl) ?_
  rintro ⟨i7, c0q19, c1q19, c2q18⟩ o2 R2 h hr2 hn2 hx2 ht2
  try dsimp only at h hn2 ⊢
  unfold taskmillref_Order_l1 at h
  try dsimp only at h
  refine seq_np ?_
  refine seq_np ?_
  refine reg_f ?_
  refine rs 4 [] [] (by kernel_rfl) allP_nil ?_
  refine rf [(0, .sl tasks.length (fl tasks)), (1, .sl picks.length (fl picks)), (6, .own 0 0 c0q19.length), (7, .own 1 0 c1q19.length), (8, .own 2 0 c2q18.length), (9, iS i7), (17, bS (decide (i7 < ((picks.length : Nat) : Int))))] [(0, .row 3 (fl c0q19)), (1, .row 50 (fl c1q19)), (2, .row 3 (fl c2q18))] 3 (by kernel_rfl) ?_
  refine wk_id ?_
  refine cond_sx h (by kernel_rfl) (fun g2458 h => ?_) (fun g2458 h => ?_)
  · refine wk_id ?_
    refine seq_np ?_
    refine block_cut (A := (List Int) × (List GOp) × (List Int)) (fun a => ([(0, .sl tasks.length (fl tasks)), (1, .sl picks.length (fl picks)), (6, .own 0 0 a.1.length), (7, .own 1 0 a.2.1.length), (8, .own 2 0 a.2.2.length), (9, iS i7)], [(0, .row 3 (fl a.1)), (1, .row 50 (fl a.2.1)), (2, .row 3 (fl a.2.2))], 3)) (fun a => (taskmillref_Order_j1 tasks picks i7 a.1 a.2.1 a.2.2) = some o2) (fun K2416 hK2416 => ?_) ?_
    · refine chk_sx h (fun g2420 h => ?_)
      refine seq_np ?_
      refine reg_f ?_
      have k2419 : 0 ≤ i7 ∧ i7 < ((picks.length : Nat) : Int) := by first | simpa only [Bool.and_eq_true, decide_eq_true_eq, bne_iff_ne, ne_eq] using g2420 | (simp at g2420 ⊢; omega)
      refine rs 5 [none, none, some ⟨.iptr (fl picks) ((i7).toNat * 1), [], 3, []⟩, some ⟨iS (ix picks i7), [], 3, []⟩] _ (by kernel_rfl) (allP_cons (ob_ld picks i7 1 0 ((i7).toNat * 1) k2419 rfl (by decide) (by first | rfl | omega) (dflS Try.prog 3) (iS (ix picks i7)) rfl 3 []) (allP_cons (ob_ix_l picks 1 3 i7 k2419) allP_nil)) ?_
      refine rf [(0, .sl tasks.length (fl tasks)), (1, .sl picks.length (fl picks)), (6, .own 0 0 c0q19.length), (7, .own 1 0 c1q19.length), (8, .own 2 0 c2q18.length), (9, iS i7), (10, iS (ix picks i7))] [(0, .row 3 (fl c0q19)), (1, .row 50 (fl c1q19)), (2, .row 3 (fl c2q18))] 3 (by kernel_rfl) ?_
      refine wk_id ?_
      refine chk_sx h (fun g2426 h => ?_)
      refine chk_sx h (fun g2428 h => ?_)
      refine seq_np ?_
      refine reg_t ?_
      have k2425 : 0 ≤ (ix picks i7) ∧ (ix picks i7) < ((c0q19.length : Nat) : Int) := by first | simpa only [Bool.and_eq_true, decide_eq_true_eq, bne_iff_ne, ne_eq] using g2426 | (simp at g2426 ⊢; omega)
      have k2427 : 0 ≤ (ix picks i7) ∧ (ix picks i7) < ((tasks.length : Nat) : Int) := by first | simpa only [Bool.and_eq_true, decide_eq_true_eq, bne_iff_ne, ne_eq] using g2428 | (simp at g2428 ⊢; omega)
      refine rs 10 [none, none, some ⟨.ptr 0 (0 + ((ix picks i7)).toNat * 1), [], 5, [0]⟩, some ⟨iS (ix c0q19 (ix picks i7)), [], 6, [0]⟩, none, none, some ⟨.iptr (fl tasks) (((ix picks i7)).toNat * 1), [], 9, []⟩, some ⟨.sl (ix tasks (ix picks i7)).length (fl (ix tasks (ix picks i7))), [], 10, []⟩] _ (by kernel_rfl) (allP_cons (ob_ld tasks (ix picks i7) 1 0 (((ix picks i7)).toNat * 1) k2427 rfl (by decide) (by first | rfl | omega) (dflS Try.prog 39) (.sl (ix tasks (ix picks i7)).length (fl (ix tasks (ix picks i7)))) rfl 10 []) (allP_cons (ob_ix_l tasks 1 9 (ix picks i7) k2427) (allP_cons (ob_ld c0q19 (ix picks i7) 1 0 (0 + ((ix picks i7)).toNat * 1) k2425 rfl (by decide) (by first | rfl | omega) (dflS Try.prog 3) (iS (ix c0q19 (ix picks i7))) rfl 6 [0]) (allP_cons (ob_ix_o 0 c0q19.length 0 1 5 (ix picks i7) k2425) allP_nil)))) ?_
      refine rt [(0, .sl tasks.length (fl tasks)), (1, .sl picks.length (fl picks)), (6, .own 0 0 c0q19.length), (7, .own 1 0 c1q19.length), (8, .own 2 0 c2q18.length), (9, iS i7), (10, iS (ix picks i7)), (33, bS (decide ((ix c0q19 (ix picks i7)) < (((ix tasks (ix picks i7)).length : Nat) : Int))))] [(0, .row 3 (fl c0q19)), (1, .row 50 (fl c1q19)), (2, .row 3 (fl c2q18))] 13 follows (by kernel_rfl) ?_
      refine wk_id ?_
      refine cond_sx h (by kernel_rfl) (fun g2457 h => ?_) (fun g2457 h => ?_)
      · refine chk_sx h (fun g2438 h => ?_)
        refine chk_sx h (fun g2440 h => ?_)
        refine chk_sx h (fun g2442 h => ?_)
        refine chk_sx h (fun g2444 h => ?_)
        refine seq_np ?_
        refine reg_t ?_
        have k2437 : 0 ≤ (ix picks i7) ∧ (ix picks i7) < ((tasks.length : Nat) : Int) := by first | simpa only [Bool.and_eq_true, decide_eq_true_eq, bne_iff_ne, ne_eq] using g2438 | (simp at g2438 ⊢; omega)
        have k2439 : 0 ≤ (ix picks i7) ∧ (ix picks i7) < ((c0q19.length : Nat) : Int) := by first | simpa only [Bool.and_eq_true, decide_eq_true_eq, bne_iff_ne, ne_eq] using g2440 | (simp at g2440 ⊢; omega)
        have k2441 : 0 ≤ (ix c0q19 (ix picks i7)) ∧ (ix c0q19 (ix picks i7)) < (((ix tasks (ix picks i7)).length : Nat) : Int) := by first | simpa only [Bool.and_eq_true, decide_eq_true_eq, bne_iff_ne, ne_eq] using g2442 | (simp at g2442 ⊢; omega)
        have k2443 : (c1q19 ++ ([(ix (ix tasks (ix picks i7)) (ix c0q19 (ix picks i7)))] : List GOp)).length * 32 ≤ 140737488355328 := by first | simpa only [Bool.and_eq_true, decide_eq_true_eq, bne_iff_ne, ne_eq] using g2444 | (simp at g2444 ⊢; omega)
        refine rs 14 [none, none, none, some ⟨.iptr (fl tasks) (((ix picks i7)).toNat * 1), [], 16, []⟩, some ⟨.sl (ix tasks (ix picks i7)).length (fl (ix tasks (ix picks i7))), [], 17, []⟩, none, none, some ⟨.ptr 0 (0 + ((ix picks i7)).toNat * 1), [], 20, [0]⟩, some ⟨iS (ix c0q19 (ix picks i7)), [], 21, [0]⟩, some ⟨.iptr (fl (ix tasks (ix picks i7))) (((ix c0q19 (ix picks i7))).toNat * 4), [], 22, []⟩, some ⟨.agg (Enc.cells (ix (ix tasks (ix picks i7)) (ix c0q19 (ix picks i7)))), [], 23, []⟩, none, some ⟨.own 26 0 (c1q19 ++ ([(ix (ix tasks (ix picks i7)) (ix c0q19 (ix picks i7)))] : List GOp)).length, [(26, .row 50 (fl (c1q19 ++ ([(ix (ix tasks (ix picks i7)) (ix c0q19 (ix picks i7)))] : List GOp)))), (1, .dead)], 27, [1, 24]⟩] _ (by kernel_rfl) (allP_cons (ob_app (P := Try.prog) c1q19 ([(ix (ix tasks (ix picks i7)) (ix c0q19 (ix picks i7)))] : List GOp) 4 32 rfl (appCells (fl ([(ix (ix tasks (ix picks i7)) (ix c0q19 (ix picks i7)))] : List GOp)) 0 (([(ix (ix tasks (ix picks i7)) (ix c0q19 (ix picks i7)))] : List GOp).length * 4)) ([(ix (ix tasks (ix picks i7)) (ix c0q19 (ix picks i7)))] : List GOp).length (app_own ([(ix (ix tasks (ix picks i7)) (ix c0q19 (ix picks i7)))] : List GOp) 4 rfl) rfl (0 + ([(ix (ix tasks (ix picks i7)) (ix c0q19 (ix picks i7)))] : List GOp).length * 4 ≤ (fl ([(ix (ix tasks (ix picks i7)) (ix c0q19 (ix picks i7)))] : List GOp)).length) (app_own_le ([(ix (ix tasks (ix picks i7)) (ix c0q19 (ix picks i7)))] : List GOp) 4 rfl) 50 (by kernel_rfl) (by decide) k2443 1 26 [24]) (allP_cons (ob_ldw (ix tasks (ix picks i7)) (ix c0q19 (ix picks i7)) 4 (((ix c0q19 (ix picks i7))).toNat * 4) k2441 rfl (by first | rfl | omega) (Enc.cells (ix (ix tasks (ix picks i7)) (ix c0q19 (ix picks i7)))) rfl 23 []) (allP_cons (ob_ix_l (ix tasks (ix picks i7)) 4 22 (ix c0q19 (ix picks i7)) k2441) (allP_cons (ob_ld c0q19 (ix picks i7) 1 0 (0 + ((ix picks i7)).toNat * 1) k2439 rfl (by decide) (by first | rfl | omega) (dflS Try.prog 3) (iS (ix c0q19 (ix picks i7))) rfl 21 [0]) (allP_cons (ob_ix_o 0 c0q19.length 0 1 20 (ix picks i7) k2439) (allP_cons (ob_ld tasks (ix picks i7) 1 0 (((ix picks i7)).toNat * 1) k2437 rfl (by decide) (by first | rfl | omega) (dflS Try.prog 39) (.sl (ix tasks (ix picks i7)).length (fl (ix tasks (ix picks i7)))) rfl 17 []) (allP_cons (ob_ix_l tasks 1 16 (ix picks i7) k2437) allP_nil))))))) ?_
        refine rt [(0, .sl tasks.length (fl tasks)), (1, .sl picks.length (fl picks)), (6, .own 0 0 c0q19.length), (7, .own 26 0 (c1q19 ++ ([(ix (ix tasks (ix picks i7)) (ix c0q19 (ix picks i7)))] : List GOp)).length), (8, .own 2 0 c2q18.length), (9, iS i7), (10, iS (ix picks i7))] [(0, .row 3 (fl c0q19)), (1, .dead), (2, .row 3 (fl c2q18)), (24, .row 50 (fl ([(ix (ix tasks (ix picks i7)) (ix c0q19 (ix picks i7)))] : List GOp))), (26, .row 50 (fl (c1q19 ++ ([(ix (ix tasks (ix picks i7)) (ix c0q19 (ix picks i7)))] : List GOp))))] 29 follows (by kernel_rfl) ?_
        refine wk_id ?_
        refine chk_sx h (fun g2448 h => ?_)
        refine seq_np ?_
        refine reg_f ?_
        have k2447 : (c2q18 ++ ([(ix picks i7)] : List Int)).length * 8 ≤ 140737488355328 := by first | simpa only [Bool.and_eq_true, decide_eq_true_eq, bne_iff_ne, ne_eq] using g2448 | (simp at g2448 ⊢; omega)
        refine rs 5 [none, none, none, some ⟨.own 30 0 (c2q18 ++ ([(ix picks i7)] : List Int)).length, [(30, .row 3 (fl (c2q18 ++ ([(ix picks i7)] : List Int)))), (2, .dead)], 31, [2, 29]⟩] _ (by kernel_rfl) (allP_cons (ob_app (P := Try.prog) c2q18 ([(ix picks i7)] : List Int) 1 8 rfl (appCells (fl ([(ix picks i7)] : List Int)) 0 (([(ix picks i7)] : List Int).length * 1)) ([(ix picks i7)] : List Int).length (app_own ([(ix picks i7)] : List Int) 1 rfl) rfl (0 + ([(ix picks i7)] : List Int).length * 1 ≤ (fl ([(ix picks i7)] : List Int)).length) (app_own_le ([(ix picks i7)] : List Int) 1 rfl) 3 (by kernel_rfl) (by decide) k2447 2 30 [29]) allP_nil) ?_
        refine rf [(0, .sl tasks.length (fl tasks)), (1, .sl picks.length (fl picks)), (6, .own 0 0 c0q19.length), (7, .own 26 0 (c1q19 ++ ([(ix (ix tasks (ix picks i7)) (ix c0q19 (ix picks i7)))] : List GOp)).length), (8, .own 30 0 (c2q18 ++ ([(ix picks i7)] : List Int)).length), (9, iS i7), (10, iS (ix picks i7))] [(0, .row 3 (fl c0q19)), (1, .dead), (2, .dead), (24, .row 50 (fl ([(ix (ix tasks (ix picks i7)) (ix c0q19 (ix picks i7)))] : List GOp))), (26, .row 50 (fl (c1q19 ++ ([(ix (ix tasks (ix picks i7)) (ix c0q19 (ix picks i7)))] : List GOp)))), (29, .row 3 (fl ([(ix picks i7)] : List Int))), (30, .row 3 (fl (c2q18 ++ ([(ix picks i7)] : List Int))))] 31 (by kernel_rfl) ?_
        refine wk_id ?_
        refine chk_sx h (fun g2454 h => ?_)
        refine chk_sx h (fun g2456 h => ?_)
        refine reg_f ?_
        have k2453 : 0 ≤ (ix picks i7) ∧ (ix picks i7) < ((c0q19.length : Nat) : Int) := by first | simpa only [Bool.and_eq_true, decide_eq_true_eq, bne_iff_ne, ne_eq] using g2454 | (simp at g2454 ⊢; omega)
        have k2455 : 0 ≤ (ix picks i7) ∧ (ix picks i7) < ((c0q19.length : Nat) : Int) := by first | simpa only [Bool.and_eq_true, decide_eq_true_eq, bne_iff_ne, ne_eq] using g2456 | (simp at g2456 ⊢; omega)
        refine rs 7 [none, none, some ⟨.ptr 0 (0 + ((ix picks i7)).toNat * 1), [], 31, [0]⟩, some ⟨iS (ix c0q19 (ix picks i7)), [], 31, [0]⟩, none, some ⟨.ptr 0 (0 + ((ix picks i7)).toNat * 1), [], 31, [0]⟩, some ⟨.any, [(0, .row 3 (fl (c0q19.set (ix picks i7).toNat (IntKind.i64.wrap ((ix c0q19 (ix picks i7)) + 1)))))], 31, [0]⟩] _ (by kernel_rfl) (allP_cons (ob_st (P := Try.prog) c0q19 (ix picks i7) 1 0 (0 + ((ix picks i7)).toNat * 1) k2455 rfl [iS (IntKind.i64.wrap ((ix c0q19 (ix picks i7)) + 1))] (IntKind.i64.wrap ((ix c0q19 (ix picks i7)) + 1)) (Nat.le_of_ble_eq_true rfl) (by first | rfl | omega) rfl 0 31 3 3 (by kernel_rfl) rfl) (allP_cons (ob_ix_o 0 c0q19.length 0 1 31 (ix picks i7) k2455) (allP_cons (ob_ld c0q19 (ix picks i7) 1 0 (0 + ((ix picks i7)).toNat * 1) k2453 rfl (by decide) (by first | rfl | omega) (dflS Try.prog 3) (iS (ix c0q19 (ix picks i7))) rfl 31 [0]) (allP_cons (ob_ix_o 0 c0q19.length 0 1 31 (ix picks i7) k2453) allP_nil)))) ?_
        refine run_eqF 6 (.own 0 0 c0q19.length) (.own 0 0 (c0q19.set (ix picks i7).toNat (IntKind.i64.wrap ((ix c0q19 (ix picks i7)) + 1))).length) (congrArg (fun nq => (.own 0 0 nq : SV)) (show c0q19.length = (c0q19.set (ix picks i7).toNat (IntKind.i64.wrap ((ix c0q19 (ix picks i7)) + 1))).length from (List.length_set ..).symm)) (by kernel_rfl) ?_
        refine rf [(0, .sl tasks.length (fl tasks)), (1, .sl picks.length (fl picks)), (6, .own 0 0 (c0q19.set (ix picks i7).toNat (IntKind.i64.wrap ((ix c0q19 (ix picks i7)) + 1))).length), (7, .own 26 0 (c1q19 ++ ([(ix (ix tasks (ix picks i7)) (ix c0q19 (ix picks i7)))] : List GOp)).length), (8, .own 30 0 (c2q18 ++ ([(ix picks i7)] : List Int)).length), (9, iS i7)] [(0, .row 3 (fl (c0q19.set (ix picks i7).toNat (IntKind.i64.wrap ((ix c0q19 (ix picks i7)) + 1))))), (1, .dead), (2, .dead), (24, .row 50 (fl ([(ix (ix tasks (ix picks i7)) (ix c0q19 (ix picks i7)))] : List GOp))), (26, .row 50 (fl (c1q19 ++ ([(ix (ix tasks (ix picks i7)) (ix c0q19 (ix picks i7)))] : List GOp)))), (29, .row 3 (fl ([(ix picks i7)] : List Int))), (30, .row 3 (fl (c2q18 ++ ([(ix picks i7)] : List Int))))] 31 (by kernel_rfl) ?_
        exact hK2416 ((c0q19.set (ix picks i7).toNat (IntKind.i64.wrap ((ix c0q19 (ix picks i7)) + 1))), (c1q19 ++ ([(ix (ix tasks (ix picks i7)) (ix c0q19 (ix picks i7)))] : List GOp)), (c2q18 ++ ([(ix picks i7)] : List Int))) _ _ _ h (leSt_m [(0, 0), (1, 26), (2, 30)] [] (by simp only [push_cast, leL_flD, renL_flD, seval]) (by simp only [push_cast, leL_flD, renL_flD, seval]) rfl rfl rfl)
      · exact hK2416 (c0q19, c1q19, c2q18) _ _ _ h (leSt_m [(0, 0), (1, 1), (2, 2)] [] (by simp only [push_cast, leL_flD, renL_flD, seval]) (by simp only [push_cast, leL_flD, renL_flD, seval]) rfl rfl rfl)
    · rintro ⟨c0q21, c1q21, c2q20⟩ h
      try dsimp only at h ⊢
      unfold taskmillref_Order_j1 at h
      refine wk_id ?_
      refine reg_f ?_
      refine rs 3 [] [] (by kernel_rfl) allP_nil ?_
      refine rf [(0, .sl tasks.length (fl tasks)), (1, .sl picks.length (fl picks)), (6, .own 0 0 c0q21.length), (7, .own 1 0 c1q21.length), (8, .own 2 0 c2q20.length), (9, iS (IntKind.i64.wrap (i7 + 1)))] [(0, .row 3 (fl c0q21)), (1, .row 50 (fl c1q21)), (2, .row 3 (fl c2q20))] 3 (by kernel_rfl) ?_
      exact hn2 ((IntKind.i64.wrap (i7 + 1)), c0q21, c1q21, c2q20) _ _ _ (Option.some.inj h).symm (leSt_m [(0, 0), (1, 1), (2, 2)] [] (by simp only [push_cast, leL_flD, renL_flD, seval]) (by simp only [push_cast, leL_flD, renL_flD, seval]) rfl rfl rfl)
  · change R2 (.exit 0) _ _ _
    refine ex_cast hx2 (id := 0) ?_
    obtain ⟨r0, h, e0⟩ := map_sx h
    have e1 := hr2 r0 e0.symm
    subst r0
    refine wk_id ?_
    refine wk_id ?_
    refine seq_np ?_
    refine reg_f ?_
    refine rs 4 [] [] (by kernel_rfl) allP_nil ?_
    refine rf [(4, .own 1 0 c1q19.length), (5, .own 2 0 c2q18.length)] [(0, .row 3 (fl c0q19)), (1, .row 50 (fl c1q19)), (2, .row 3 (fl c2q18))] 3 (by kernel_rfl) ?_
    refine wk_id ?_
    obtain rfl := Option.some.inj h
    refine ret_at (.tup [.own 1 0 c1q19.length, .own 2 0 c2q18.length]) (by kernel_rfl) ?_
    exact ret_e [(0, 1), (1, 2)] [] (by simp only [push_cast, leL_flD, renL_flD, seval]) (by simp only [push_cast, leL_flD, renL_flD, seval]) rfl rfl rfl

set_option maxRecDepth 100000 in
set_option maxHeartbeats 200000000 in
theorem taskmillref_Lists_spec (xa : (List (List Int))) (b : (List (List Int))) (r : Bool) (h : taskmillref_Lists xa b = some r) : SpecW Try.prog 18 [.sl xa.length (fl xa), .sl b.length (fl b)] [] 0 (fun x h n => x = bS r ∧ h = [] ∧ n = 0) := by
  unfold taskmillref_Lists at h
  refine spec_of (draw_ok _) Try.func18 rfl (by decide) rfl (by kernel_rfl) ?_
  refine seq_np ?_
  refine reg_f ?_
  refine rs 1 [] [] (by kernel_rfl) allP_nil ?_
  refine rf [(0, .sl xa.length (fl xa)), (1, .sl b.length (fl b))] [] 0 (by kernel_rfl) ?_
  refine wk_id ?_
  refine seq_np ?_
  refine seq_np ?_
  refine reg_f ?_
  refine rs 5 [] [] (by kernel_rfl) allP_nil ?_
  refine rf [(0, .sl xa.length (fl xa)), (1, .sl b.length (fl b)), (10, bS (((xa.length : Nat) : Int) != ((b.length : Nat) : Int)))] [] 0 (by kernel_rfl) ?_
  refine wk_id ?_
  refine cond_sx h (by kernel_rfl) (fun g2613 h => ?_) (fun g2613 h => ?_)
  · refine seq_np ?_
    refine reg_f ?_
    refine rs 1 [] [] (by kernel_rfl) allP_nil ?_
    refine rf [(4, bS false)] [] 0 (by kernel_rfl) ?_
    refine wk_id ?_
    obtain rfl := Option.some.inj h
    refine ret_at (bS false) (by kernel_rfl) ?_
    exact ret_e [] [] (by simp only [push_cast, leL_flD, renL_flD, seval]) (by simp only [push_cast, leL_flD, renL_flD, seval]) rfl rfl rfl
  · refine wk_id ?_
    refine seq_np ?_
    refine seq_np ?_
    refine reg_f ?_
    refine rs 1 [] [] (by kernel_rfl) allP_nil ?_
    refine rf [(0, .sl xa.length (fl xa)), (1, .sl b.length (fl b)), (5, iS 0)] [] 0 (by kernel_rfl) ?_
    refine wk_id ?_
    refine block_np ?_
    refine loop_sx (S := Int) (fun a => ([(0, .sl xa.length (fl xa)), (1, .sl b.length (fl b)), (5, iS a)], [], 0)) h (leSt_m [] [] (by simp only [push_cast, leL_flD, renL_flD, seval]) (by simp only [push_cast, leL_flD, renL_flD, seval]) rfl rfl rfl) ?_
    rintro i7 o2 R2 h hr2 hn2 hx2 ht2
    try dsimp only at h hn2 ⊢
    unfold taskmillref_Lists_l1 at h
    try dsimp only at h
    refine seq_np ?_
    refine seq_np ?_
    refine reg_f ?_
    refine rs 4 [] [] (by kernel_rfl) allP_nil ?_
    refine rf [(0, .sl xa.length (fl xa)), (1, .sl b.length (fl b)), (5, iS i7), (14, bS (decide (i7 < ((xa.length : Nat) : Int))))] [] 0 (by kernel_rfl) ?_
    refine wk_id ?_
    refine cond_sx h (by kernel_rfl) (fun g2612 h => ?_) (fun g2612 h => ?_)
    · refine wk_id ?_
      refine seq_np ?_
      refine block_np ?_
      refine chk_sx h (fun g2607 h => ?_)
      refine chk_sx h (fun g2609 h => ?_)
      refine seq_np ?_
      refine reg_t ?_
      have k2606 : 0 ≤ i7 ∧ i7 < ((xa.length : Nat) : Int) := by first | simpa only [Bool.and_eq_true, decide_eq_true_eq, bne_iff_ne, ne_eq] using g2607 | (simp at g2607 ⊢; omega)
      have k2608 : 0 ≤ i7 ∧ i7 < ((b.length : Nat) : Int) := by first | simpa only [Bool.and_eq_true, decide_eq_true_eq, bne_iff_ne, ne_eq] using g2609 | (simp at g2609 ⊢; omega)
      refine rs 8 [none, none, some ⟨.iptr (fl xa) ((i7).toNat * 1), [], 2, []⟩, some ⟨.sl (ix xa i7).length (fl (ix xa i7)), [], 3, []⟩, none, none, some ⟨.iptr (fl b) ((i7).toNat * 1), [], 6, []⟩, some ⟨.sl (ix b i7).length (fl (ix b i7)), [], 7, []⟩] _ (by kernel_rfl) (allP_cons (ob_ld b i7 1 0 ((i7).toNat * 1) k2608 rfl (by decide) (by first | rfl | omega) (dflS Try.prog 22) (.sl (ix b i7).length (fl (ix b i7))) rfl 7 []) (allP_cons (ob_ix_l b 1 6 i7 k2608) (allP_cons (ob_ld xa i7 1 0 ((i7).toNat * 1) k2606 rfl (by decide) (by first | rfl | omega) (dflS Try.prog 22) (.sl (ix xa i7).length (fl (ix xa i7))) rfl 3 []) (allP_cons (ob_ix_l xa 1 2 i7 k2606) allP_nil)))) ?_
      obtain ⟨r2610, hr2610, h⟩ := bind_sx h
      refine run_call 24 [.sl (ix xa i7).length (fl (ix xa i7)), .sl (ix b i7).length (fl (ix b i7))] (some 25) (by kernel_rfl) ?_
      refine callE_0 (taskmillref_Ints_spec (ix xa i7) (ix b i7) r2610 hr2610) (by simp only [push_cast, leL_flD, renL_flD, seval]) (by simp only [push_cast, leL_flD, renL_flD, seval]) ?_
      refine back_t ?_
      refine rs 1 [] [] (by kernel_rfl) allP_nil ?_
      refine rt [(0, .sl xa.length (fl xa)), (1, .sl b.length (fl b)), (5, iS i7), (26, bS (!r2610))] [] 10 follows (by kernel_rfl) ?_
      refine wk_id ?_
      refine cond_sx h (by kernel_rfl) (fun g2611 h => ?_) (fun g2611 h => ?_)
      · refine seq_np ?_
        refine reg_f ?_
        refine rs 1 [] [] (by kernel_rfl) allP_nil ?_
        refine rf [(4, bS false)] [] 10 (by kernel_rfl) ?_
        refine wk_id ?_
        refine rt_cast ht2 ?_
        obtain ⟨r0, h, e0⟩ := map_sx h
        have e1 := hr2 r0 e0.symm
        subst r0
        obtain rfl := Option.some.inj h
        refine ret_at (bS false) (by kernel_rfl) ?_
        exact ret_e [] [] (by simp only [push_cast, leL_flD, renL_flD, seval]) (by simp only [push_cast, leL_flD, renL_flD, seval]) rfl rfl rfl
      · refine wk_id ?_
        refine wk_id ?_
        refine reg_f ?_
        refine rs 3 [] [] (by kernel_rfl) allP_nil ?_
        refine rf [(0, .sl xa.length (fl xa)), (1, .sl b.length (fl b)), (5, iS (IntKind.i64.wrap (i7 + 1)))] [] 10 (by kernel_rfl) ?_
        exact hn2 ((IntKind.i64.wrap (i7 + 1))) _ _ _ (Option.some.inj h).symm (leSt_m [] [] (by simp only [push_cast, leL_flD, renL_flD, seval]) (by simp only [push_cast, leL_flD, renL_flD, seval]) rfl rfl rfl)
    · change R2 (.exit 0) _ _ _
      refine ex_cast hx2 (id := 0) ?_
      obtain ⟨r0, h, e0⟩ := map_sx h
      have e1 := hr2 r0 e0.symm
      subst r0
      refine wk_id ?_
      refine wk_id ?_
      refine seq_np ?_
      refine reg_f ?_
      refine rs 1 [] [] (by kernel_rfl) allP_nil ?_
      refine rf [(4, bS true)] [] 0 (by kernel_rfl) ?_
      refine wk_id ?_
      obtain rfl := Option.some.inj h
      refine ret_at (bS true) (by kernel_rfl) ?_
      exact ret_e [] [] (by simp only [push_cast, leL_flD, renL_flD, seval]) (by simp only [push_cast, leL_flD, renL_flD, seval]) rfl rfl rfl

set_option maxRecDepth 100000 in
set_option maxHeartbeats 200000000 in
theorem taskmilllaw_CellMixes_spec (mem : (List Int)) (tasks : (List (List GOp))) (picks : (List Int)) (r : Bool) (h : taskmilllaw_CellMixes mem tasks picks = some r) : SpecW Try.prog 7 [.sl mem.length (fl mem), .sl tasks.length (fl tasks), .sl picks.length (fl picks)] [] 0 (fun x h n => x = bS r ∧ h = [] ∧ n = 0) := by
  unfold taskmilllaw_CellMixes at h
  refine spec_of (draw_ok _) Try.func7 rfl (by decide) rfl (by kernel_rfl) ?_
  refine seq_np ?_
  refine reg_f ?_
  refine rs 1 [] [] (by kernel_rfl) allP_nil ?_
  refine rf [(0, .sl mem.length (fl mem)), (1, .sl tasks.length (fl tasks)), (2, .sl picks.length (fl picks))] [] 0 (by kernel_rfl) ?_
  refine wk_id ?_
  refine seq_np ?_
  refine seq_np ?_
  refine reg_f ?_
  obtain ⟨r2620, hr2620, h⟩ := bind_sx h
  refine run_call 10 [] (some 18) (by kernel_rfl) ?_
  refine call_0 (taskmilllaw_cellBegun_spec r2620 hr2620) (by simp only [push_cast, leL_flD, renL_flD, seval]) (by simp only [push_cast, leL_flD, renL_flD, seval]) ?_
  refine back_f ?_
  refine rs 1 [] [] (by kernel_rfl) allP_nil ?_
  refine rf [(0, .sl mem.length (fl mem)), (1, .sl tasks.length (fl tasks)), (2, .sl picks.length (fl picks)), (19, bS (!r2620))] [] 0 (by kernel_rfl) ?_
  refine wk_id ?_
  refine cond_sx h (by kernel_rfl) (fun g2956 h => ?_) (fun g2956 h => ?_)
  · refine seq_np ?_
    refine reg_f ?_
    refine rs 1 [] [] (by kernel_rfl) allP_nil ?_
    refine rf [(6, bS false)] [] 0 (by kernel_rfl) ?_
    refine wk_id ?_
    obtain rfl := Option.some.inj h
    refine ret_at (bS false) (by kernel_rfl) ?_
    exact ret_e [] [] (by simp only [push_cast, leL_flD, renL_flD, seval]) (by simp only [push_cast, leL_flD, renL_flD, seval]) rfl rfl rfl
  · refine wk_id ?_
    refine seq_np ?_
    refine seq_np ?_
    refine reg_f ?_
    refine rs 1 [] [] (by kernel_rfl) allP_nil ?_
    obtain ⟨r2624, hr2624, h⟩ := bind_sx h
    refine run_call 11 [.sl tasks.length (fl tasks)] (some 21) (by kernel_rfl) ?_
    refine call_0 (taskmilllaw_vastTasks_spec tasks r2624 hr2624) (by simp only [push_cast, leL_flD, renL_flD, seval]) (by simp only [push_cast, leL_flD, renL_flD, seval]) ?_
    refine back_f ?_
    refine rf [(0, .sl mem.length (fl mem)), (1, .sl tasks.length (fl tasks)), (2, .sl picks.length (fl picks)), (21, bS r2624)] [] 0 (by kernel_rfl) ?_
    refine wk_id ?_
    refine cond_sx h (by kernel_rfl) (fun g2955 h => ?_) (fun g2955 h => ?_)
    · refine seq_np ?_
      refine reg_f ?_
      refine rs 1 [] [] (by kernel_rfl) allP_nil ?_
      refine rf [(6, bS true)] [] 0 (by kernel_rfl) ?_
      refine wk_id ?_
      obtain rfl := Option.some.inj h
      refine ret_at (bS true) (by kernel_rfl) ?_
      exact ret_e [] [] (by simp only [push_cast, leL_flD, renL_flD, seval]) (by simp only [push_cast, leL_flD, renL_flD, seval]) rfl rfl rfl
    · refine wk_id ?_
      refine seq_np ?_
      refine reg_f ?_
      refine rs 1 [] [] (by kernel_rfl) allP_nil ?_
      obtain ⟨r2628, hr2628, h⟩ := bind_sx h
      refine call_x (taskmilllaw_own_spec mem r2628 hr2628) (args := [.sl mem.length (fl mem)]) (dst := (some 24)) (by kernel_rfl) [] 0 (by kernel_rfl) [] [] (.own 0 0 r2628.length) [(0, .row 3 (fl r2628))] (by simp only [push_cast, leL_flD, renL_flD, seval]) (by simp only [push_cast, leL_flD, renL_flD, seval]) (by kernel_rfl) (.inl rfl) (by simp only [push_cast, leL_flD, renL_flD, seval]) (by simp only [push_cast, leL_flD, renL_flD, seval]) ?_
      refine rs 2 [] [] (by kernel_rfl) allP_nil ?_
      obtain ⟨r2629, hr2629, h⟩ := bind_sx h
      refine call_x (taskmilllaw_own_spec picks r2629 hr2629) (args := [.sl picks.length (fl picks)]) (dst := (some 27)) (by kernel_rfl) [(0, .row 3 (fl r2628))] 1 (by kernel_rfl) [] [] (.own 1 0 r2629.length) [(1, .row 3 (fl r2629))] (by simp only [push_cast, leL_flD, renL_flD, seval]) (by simp only [push_cast, leL_flD, renL_flD, seval]) (by kernel_rfl) (.inl rfl) (by simp only [push_cast, leL_flD, renL_flD, seval]) (by simp only [push_cast, leL_flD, renL_flD, seval]) ?_
      obtain ⟨r2630, hr2630, h⟩ := bind_sx h
      refine call_x (SpecW.give (SpecW.give (cell_Mix_spec r2628 tasks r2629 r2630 hr2630) [(0, .row 3 (fl r2628))] [.own 0 0 r2628.length, .sl tasks.length (fl tasks), .sl r2629.length (fl r2629)] [] (.tup [.own 1 0 r2630.2.1.length, .own 2 0 r2630.2.2.length, .agg (Enc.cells r2630.1)]) [(1, .row 3 (fl r2630.2.1)), (2, .row 22 (flD dLListInt [3] r2630.2.2)), ((.s 3 0), .fam (famD dLListInt 0 r2630.2.2))] (by first | simp only [push_cast, leL_flD, renL_flD, seval] | simp only [push_cast, List.mem_singleton, true_and, and_true, leL_flD, renL_flD, seval]) (by simp only [push_cast, leL_flD, renL_flD, seval]) (by simp only [push_cast, leL_flD, renL_flD, seval]) (by simp only [push_cast, leL_flD, renL_flD, seval]) rfl (by first | (simp only [push_cast, leL_flD, renL_flD, seval]; done) | (simp only [push_cast, leL_flD, renL_flD, seval]; kernel_rfl) | kernel_rfl) (by first | (simp only [push_cast, leL_flD, renL_flD, seval]; done) | (simp only [push_cast, leL_flD, renL_flD, seval]; kernel_rfl) | kernel_rfl) rfl) [(0, .row 3 (fl r2628)), (1, .row 3 (fl r2629))] [.own 0 0 r2628.length, .sl tasks.length (fl tasks), .own 1 0 r2629.length] [(0, 0)] (.tup [.own 3 0 r2630.2.1.length, .own 4 0 r2630.2.2.length, .agg (Enc.cells r2630.1)]) [(3, .row 3 (fl r2630.2.1)), (4, .row 22 (flD dLListInt [5] r2630.2.2)), ((.s 5 0), .fam (famD dLListInt 0 r2630.2.2)), (0, .dead)] (by first | simp only [push_cast, leL_flD, renL_flD, seval] | simp only [push_cast, List.mem_singleton, true_and, and_true, leL_flD, renL_flD, seval]) (by simp only [push_cast, leL_flD, renL_flD, seval]) (by simp only [push_cast, leL_flD, renL_flD, seval]) (by simp only [push_cast, leL_flD, renL_flD, seval]) rfl (by first | (simp only [push_cast, leL_flD, renL_flD, seval]; done) | (simp only [push_cast, leL_flD, renL_flD, seval]; kernel_rfl) | kernel_rfl) (by first | (simp only [push_cast, leL_flD, renL_flD, seval]; done) | (simp only [push_cast, leL_flD, renL_flD, seval]; kernel_rfl) | kernel_rfl) rfl) (args := [.own 0 0 r2628.length, .sl tasks.length (fl tasks), .own 1 0 r2629.length]) (dst := (some 28)) (by kernel_rfl) [(0, .row 3 (fl r2628)), (1, .row 3 (fl r2629))] 2 (by kernel_rfl) [(0, 0), (1, 1)] [] (.tup [.own 5 0 r2630.2.1.length, .own 6 0 r2630.2.2.length, .agg (Enc.cells r2630.1)]) [(5, .row 3 (fl r2630.2.1)), (6, .row 22 (flD dLListInt [7] r2630.2.2)), ((.s 7 0), .fam (famD dLListInt 0 r2630.2.2)), (0, .dead), (0, .dead), (1, .dead)] (by simp only [push_cast, leL_flD, renL_flD, seval]) (by simp only [push_cast, leL_flD, renL_flD, seval]) (by kernel_rfl) (.inl rfl) (by first | (simp only [push_cast, leL_flD, renL_flD, seval]; done) | (simp only [push_cast, leL_flD, renL_flD, seval]; kernel_rfl) | kernel_rfl) (by first | (simp only [push_cast, leL_flD, renL_flD, seval]; done) | (simp only [push_cast, leL_flD, renL_flD, seval]; kernel_rfl) | kernel_rfl) ?_
      refine rn 6 [(0, .sl mem.length (fl mem)), (1, .sl tasks.length (fl tasks)), (2, .sl picks.length (fl picks)), (28, .tup [.own 5 0 r2630.2.1.length, .own 6 0 r2630.2.2.length, .agg (Enc.cells r2630.1)])] [(0, .dead), (1, .dead), (5, .row 3 (fl r2630.2.1)), (6, .row 22 (flD dLListInt [7] r2630.2.2)), ((.s 7 0), .fam (famD dLListInt 0 r2630.2.2))] 8 (by kernel_rfl) ?_
      refine rs 8 [] [] (by kernel_rfl) allP_nil ?_
      refine rf [(0, .sl mem.length (fl mem)), (1, .sl tasks.length (fl tasks)), (2, .sl picks.length (fl picks)), (7, .own 5 0 r2630.2.1.length), (8, .own 6 0 r2630.2.2.length), (9, .ptr 8 0)] [(0, .dead), (1, .dead), (5, .row 3 (fl r2630.2.1)), (6, .row 22 (flD dLListInt [7] r2630.2.2)), ((.s 7 0), .fam (famD dLListInt 0 r2630.2.2)), (8, .row 28 (Enc.cells r2630.1))] 9 (by kernel_rfl) ?_
      refine wk_id ?_
      refine seq_np ?_
      refine reg_f ?_
      refine rs 3 [] [] (by kernel_rfl) allP_nil ?_
      refine rf [(0, .sl mem.length (fl mem)), (1, .sl tasks.length (fl tasks)), (2, .sl picks.length (fl picks)), (7, .own 5 0 r2630.2.1.length), (8, .own 6 0 r2630.2.2.length), (9, .ptr 8 0), (10, .ptr 9 0)] [(0, .dead), (1, .dead), (5, .row 3 (fl r2630.2.1)), (6, .row 22 (flD dLListInt [7] r2630.2.2)), ((.s 7 0), .fam (famD dLListInt 0 r2630.2.2)), (8, .row 28 (Enc.cells r2630.1)), (9, .row 28 [iS 0, iS 0])] 10 (by kernel_rfl) ?_
      refine wk_id ?_
      refine seq_cut (A := (List Int) × (List (List Int)) × Fault × Fault) (fun a => ([(0, .sl mem.length (fl mem)), (1, .sl tasks.length (fl tasks)), (2, .sl picks.length (fl picks)), (7, .own 0 0 a.1.length), (8, .own 1 0 a.2.1.length), (9, .ptr 2 0), (10, .ptr 3 0)], [(0, .row 3 (fl a.1)), (1, .row 22 (flD dLListInt [4] a.2.1)), (2, .row 28 (Enc.cells a.2.2.1)), (3, .row 28 (Enc.cells a.2.2.2)), ((.s 4 0), .fam (famD dLListInt 0 a.2.1))], 5)) (fun a => (taskmilllaw_CellMixes_j3 mem tasks picks a.1 a.2.1 a.2.2.1 a.2.2.2) = some r) (fun K2636 hK2636 => ?_) ?_
      · refine seq_cut (A := Unit) (fun _ => ([(0, .sl mem.length (fl mem)), (1, .sl tasks.length (fl tasks)), (2, .sl picks.length (fl picks)), (7, .own 5 0 r2630.2.1.length), (8, .own 6 0 r2630.2.2.length), (9, .ptr 8 0), (10, .ptr 9 0), (40, bS ((decide ((64 : Int) < ((tasks.length : Nat) : Int))) || (decide ((5000 : Int) < ((picks.length : Nat) : Int)))))], [(5, .row 3 (fl r2630.2.1)), (6, .row 22 (flD dLListInt [7] r2630.2.2)), ((.s 7 0), .fam (famD dLListInt 0 r2630.2.2)), (8, .row 28 (Enc.cells r2630.1)), (9, .row 28 [iS 0, iS 0])], 10)) (fun _ => True) (fun K2638 hK2638 => ?_) (fun _ _ => ?_)
        · refine reg_f ?_
          refine rs 4 [] [] (by kernel_rfl) allP_nil ?_
          refine run_split 36 (decide ((64 : Int) < ((tasks.length : Nat) : Int))) (.inl (by kernel_rfl)) (fun g2639 => ?_) (fun g2639 => ?_)
          · refine rs 4 [] [] (by kernel_rfl) allP_nil ?_
            refine rf [(0, .sl mem.length (fl mem)), (1, .sl tasks.length (fl tasks)), (2, .sl picks.length (fl picks)), (7, .own 5 0 r2630.2.1.length), (8, .own 6 0 r2630.2.2.length), (9, .ptr 8 0), (10, .ptr 9 0), (40, bS true)] [(0, .dead), (1, .dead), (5, .row 3 (fl r2630.2.1)), (6, .row 22 (flD dLListInt [7] r2630.2.2)), ((.s 7 0), .fam (famD dLListInt 0 r2630.2.2)), (8, .row 28 (Enc.cells r2630.1)), (9, .row 28 [iS 0, iS 0])] 10 (by kernel_rfl) ?_
            exact hK2638 () _ _ _ trivial (leSt_m [(5, 5), (6, 6), ((.s 7 0), (.s 7 0)), (8, 8), (9, 9)] [] (by (try simp only [g2639]) <;> simp only [push_cast, leL_flD, renL_flD, seval]) (by (try simp only [g2639]) <;> simp only [push_cast, leL_flD, renL_flD, seval]) rfl rfl rfl)
          · refine rs 4 [] [] (by kernel_rfl) allP_nil ?_
            refine rf [(0, .sl mem.length (fl mem)), (1, .sl tasks.length (fl tasks)), (2, .sl picks.length (fl picks)), (7, .own 5 0 r2630.2.1.length), (8, .own 6 0 r2630.2.2.length), (9, .ptr 8 0), (10, .ptr 9 0), (40, bS (decide ((5000 : Int) < ((picks.length : Nat) : Int))))] [(0, .dead), (1, .dead), (5, .row 3 (fl r2630.2.1)), (6, .row 22 (flD dLListInt [7] r2630.2.2)), ((.s 7 0), .fam (famD dLListInt 0 r2630.2.2)), (8, .row 28 (Enc.cells r2630.1)), (9, .row 28 [iS 0, iS 0])] 10 (by kernel_rfl) ?_
            exact hK2638 () _ _ _ trivial (leSt_m [(5, 5), (6, 6), ((.s 7 0), (.s 7 0)), (8, 8), (9, 9)] [] (by (try simp only [g2639]) <;> simp only [push_cast, leL_flD, renL_flD, seval]) (by (try simp only [g2639]) <;> simp only [push_cast, leL_flD, renL_flD, seval]) rfl rfl rfl)
        · dsimp only
          refine cond_sx h (by kernel_rfl) (fun g2644 h => ?_) (fun g2644 h => ?_)
          · refine reg_f ?_
            obtain ⟨r2641, hr2641, h⟩ := bind_sx h
            refine run_call 14 [iS 2, iS 0] (some 41) (by kernel_rfl) ?_
            refine call_0 (taskmillref_F_spec 2 0 r2641 hr2641) (by simp only [push_cast, leL_flD, renL_flD, seval]) (by simp only [push_cast, leL_flD, renL_flD, seval]) ?_
            refine back_f ?_
            refine rs 1 [] [] (by kernel_rfl) allP_nil ?_
            refine rf [(0, .sl mem.length (fl mem)), (1, .sl tasks.length (fl tasks)), (2, .sl picks.length (fl picks)), (7, .own 5 0 r2630.2.1.length), (8, .own 6 0 r2630.2.2.length), (9, .ptr 8 0), (10, .ptr 9 0)] [(5, .row 3 (fl r2630.2.1)), (6, .row 22 (flD dLListInt [7] r2630.2.2)), ((.s 7 0), .fam (famD dLListInt 0 r2630.2.2)), (8, .row 28 (Enc.cells r2630.1)), (9, .row 28 (Enc.cells r2641))] 10 (by kernel_rfl) ?_
            exact hK2636 (r2630.2.1, r2630.2.2, r2630.1, r2641) _ _ _ h (leSt_m [(0, 5), (1, 6), (2, 8), (3, 9), ((.s 4 0), (.s 7 0))] [] (by simp only [push_cast, leL_flD, renL_flD, seval]) (by simp only [push_cast, leL_flD, renL_flD, seval]) rfl rfl rfl)
          · refine reg_f ?_
            refine rs 2 [] [] (by kernel_rfl) allP_nil ?_
            obtain ⟨r2643, hr2643, h⟩ := bind_sx h
            refine run_call 15 [.sl mem.length (fl mem), .sl tasks.length (fl tasks)] (some 44) (by kernel_rfl) ?_
            refine call_0 (taskmillref_TasksFault_spec mem tasks r2643 hr2643) (by simp only [push_cast, leL_flD, renL_flD, seval]) (by simp only [push_cast, leL_flD, renL_flD, seval]) ?_
            refine back_f ?_
            refine rs 1 [] [] (by kernel_rfl) allP_nil ?_
            refine rf [(0, .sl mem.length (fl mem)), (1, .sl tasks.length (fl tasks)), (2, .sl picks.length (fl picks)), (7, .own 5 0 r2630.2.1.length), (8, .own 6 0 r2630.2.2.length), (9, .ptr 8 0), (10, .ptr 9 0)] [(5, .row 3 (fl r2630.2.1)), (6, .row 22 (flD dLListInt [7] r2630.2.2)), ((.s 7 0), .fam (famD dLListInt 0 r2630.2.2)), (8, .row 28 (Enc.cells r2630.1)), (9, .row 28 (Enc.cells r2643))] 10 (by kernel_rfl) ?_
            exact hK2636 (r2630.2.1, r2630.2.2, r2630.1, r2643) _ _ _ h (leSt_m [(0, 5), (1, 6), (2, 8), (3, 9), ((.s 4 0), (.s 7 0))] [] (by simp only [push_cast, leL_flD, renL_flD, seval]) (by simp only [push_cast, leL_flD, renL_flD, seval]) rfl rfl rfl)
      · rintro ⟨c0q1, c1q1, c2q4, c3q9⟩ h
        try dsimp only at h ⊢
        unfold taskmilllaw_CellMixes_j3 at h
        refine seq_np ?_
        refine seq_np ?_
        refine reg_f ?_
        refine rs 1 [] [] (by kernel_rfl) allP_nil ?_
        refine rf [(0, .sl mem.length (fl mem)), (1, .sl tasks.length (fl tasks)), (2, .sl picks.length (fl picks)), (7, .own 0 0 c0q1.length), (8, .own 1 0 c1q1.length), (9, .ptr 2 0), (10, .ptr 3 0), (11, iS 0)] [(0, .row 3 (fl c0q1)), (1, .row 22 (flD dLListInt [4] c1q1)), (2, .row 28 (Enc.cells c2q4)), (3, .row 28 (Enc.cells c3q9)), ((.s 4 0), .fam (famD dLListInt 0 c1q1))] 5 (by kernel_rfl) ?_
        refine wk_id ?_
        refine block_np ?_
        refine loop_sx (S := Int × Fault) (fun a => ([(0, .sl mem.length (fl mem)), (1, .sl tasks.length (fl tasks)), (2, .sl picks.length (fl picks)), (7, .own 0 0 c0q1.length), (8, .own 1 0 c1q1.length), (9, .ptr 2 0), (10, .ptr 3 0), (11, iS a.1)], [(0, .row 3 (fl c0q1)), (1, .row 22 (flD dLListInt [4] c1q1)), (2, .row 28 (Enc.cells c2q4)), (3, .row 28 (Enc.cells a.2)), ((.s 4 0), .fam (famD dLListInt 0 c1q1))], 5)) h (leSt_m [(0, 0), (1, 1), (2, 2), (3, 3), ((.s 4 0), (.s 4 0))] [] (by simp only [push_cast, leL_flD, renL_flD, seval]) (by simp only [push_cast, leL_flD, renL_flD, seval]) rfl rfl rfl) ?_
        rintro ⟨i9, c3q23⟩ o3 R3 h hr3 hn3 hx3 ht3
        try dsimp only at h hn3 ⊢
        unfold taskmilllaw_CellMixes_l2 at h
        try dsimp only at h
        refine seq_np ?_
        refine seq_cut (A := Unit) (fun _ => ([(0, .sl mem.length (fl mem)), (1, .sl tasks.length (fl tasks)), (2, .sl picks.length (fl picks)), (7, .own 0 0 c0q1.length), (8, .own 1 0 c1q1.length), (9, .ptr 2 0), (10, .ptr 3 0), (11, iS i9), (53, bS ((decide (i9 < ((picks.length : Nat) : Int))) && (c3q23.Code == 0)))], [(0, .row 3 (fl c0q1)), (1, .row 22 (flD dLListInt [4] c1q1)), (2, .row 28 (Enc.cells c2q4)), (3, .row 28 (Enc.cells c3q23)), ((.s 4 0), .fam (famD dLListInt 0 c1q1))], 5)) (fun _ => True) (fun K2739 hK2739 => ?_) (fun _ _ => ?_)
        · refine reg_f ?_
          refine rs 5 [] [] (by kernel_rfl) allP_nil ?_
          refine run_split 49 (decide (i9 < ((picks.length : Nat) : Int))) (.inl (by kernel_rfl)) (fun g2740 => ?_) (fun g2740 => ?_)
          · refine rs 4 [] [] (by kernel_rfl) allP_nil ?_
            refine rf [(0, .sl mem.length (fl mem)), (1, .sl tasks.length (fl tasks)), (2, .sl picks.length (fl picks)), (7, .own 0 0 c0q1.length), (8, .own 1 0 c1q1.length), (9, .ptr 2 0), (10, .ptr 3 0), (11, iS i9), (53, bS (c3q23.Code == 0))] [(0, .row 3 (fl c0q1)), (1, .row 22 (flD dLListInt [4] c1q1)), (2, .row 28 (Enc.cells c2q4)), (3, .row 28 (Enc.cells c3q23)), ((.s 4 0), .fam (famD dLListInt 0 c1q1))] 5 (by kernel_rfl) ?_
            exact hK2739 () _ _ _ trivial (leSt_m [(0, 0), (1, 1), (2, 2), (3, 3), ((.s 4 0), (.s 4 0))] [] (by (try simp only [g2740]) <;> simp only [push_cast, leL_flD, renL_flD, seval]) (by (try simp only [g2740]) <;> simp only [push_cast, leL_flD, renL_flD, seval]) rfl rfl rfl)
          · refine rs 4 [] [] (by kernel_rfl) allP_nil ?_
            refine rf [(0, .sl mem.length (fl mem)), (1, .sl tasks.length (fl tasks)), (2, .sl picks.length (fl picks)), (7, .own 0 0 c0q1.length), (8, .own 1 0 c1q1.length), (9, .ptr 2 0), (10, .ptr 3 0), (11, iS i9), (53, bS false)] [(0, .row 3 (fl c0q1)), (1, .row 22 (flD dLListInt [4] c1q1)), (2, .row 28 (Enc.cells c2q4)), (3, .row 28 (Enc.cells c3q23)), ((.s 4 0), .fam (famD dLListInt 0 c1q1))] 5 (by kernel_rfl) ?_
            exact hK2739 () _ _ _ trivial (leSt_m [(0, 0), (1, 1), (2, 2), (3, 3), ((.s 4 0), (.s 4 0))] [] (by (try simp only [g2740]) <;> simp only [push_cast, leL_flD, renL_flD, seval]) (by (try simp only [g2740]) <;> simp only [push_cast, leL_flD, renL_flD, seval]) rfl rfl rfl)
        · dsimp only
          refine cond_sx h (by kernel_rfl) (fun g2954 h => ?_) (fun g2954 h => ?_)
          · refine wk_id ?_
            refine seq_np ?_
            refine block_cut (A := Fault) (fun a => ([(0, .sl mem.length (fl mem)), (1, .sl tasks.length (fl tasks)), (2, .sl picks.length (fl picks)), (7, .own 0 0 c0q1.length), (8, .own 1 0 c1q1.length), (9, .ptr 2 0), (10, .ptr 3 0), (11, iS i9)], [(0, .row 3 (fl c0q1)), (1, .row 22 (flD dLListInt [4] c1q1)), (2, .row 28 (Enc.cells c2q4)), (3, .row 28 (Enc.cells a)), ((.s 4 0), .fam (famD dLListInt 0 c1q1))], 5)) (fun a => (taskmilllaw_CellMixes_j1 mem tasks picks c0q1 c1q1 c2q4 i9 a) = some o3) (fun K2758 hK2758 => ?_) ?_
            · refine chk_sx h (fun g2766 h => ?_)
              refine chk_sx h (fun g2769 h => ?_)
              refine seq_cut (A := Unit) (fun _ => ([(0, .sl mem.length (fl mem)), (1, .sl tasks.length (fl tasks)), (2, .sl picks.length (fl picks)), (7, .own 0 0 c0q1.length), (8, .own 1 0 c1q1.length), (9, .ptr 2 0), (10, .ptr 3 0), (11, iS i9), (69, bS ((decide ((ix picks i9) < 0)) || (decide (((tasks.length : Nat) : Int) ≤ (ix picks i9)))))], [(0, .row 3 (fl c0q1)), (1, .row 22 (flD dLListInt [4] c1q1)), (2, .row 28 (Enc.cells c2q4)), (3, .row 28 (Enc.cells c3q23)), ((.s 4 0), .fam (famD dLListInt 0 c1q1))], 5)) (fun _ => True) (fun K2764 hK2764 => ?_) (fun _ _ => ?_)
              · refine reg_f ?_
                have k2765 : 0 ≤ i9 ∧ i9 < ((picks.length : Nat) : Int) := by first | simpa only [Bool.and_eq_true, decide_eq_true_eq, bne_iff_ne, ne_eq] using g2766 | (simp at g2766 ⊢; omega)
                refine rs 6 [none, none, some ⟨.iptr (fl picks) ((i9).toNat * 1), [], 5, []⟩, some ⟨iS (ix picks i9), [], 5, []⟩] _ (by kernel_rfl) (allP_cons (ob_ld picks i9 1 0 ((i9).toNat * 1) k2765 rfl (by decide) (by first | rfl | omega) (dflS Try.prog 3) (iS (ix picks i9)) rfl 5 []) (allP_cons (ob_ix_l picks 1 5 i9 k2765) allP_nil)) ?_
                refine run_split 61 (decide ((ix picks i9) < 0)) (.inl (by kernel_rfl)) (fun g2767 => ?_) (fun g2767 => ?_)
                · refine rs 8 [] [] (by kernel_rfl) allP_nil ?_
                  refine rf [(0, .sl mem.length (fl mem)), (1, .sl tasks.length (fl tasks)), (2, .sl picks.length (fl picks)), (7, .own 0 0 c0q1.length), (8, .own 1 0 c1q1.length), (9, .ptr 2 0), (10, .ptr 3 0), (11, iS i9), (69, bS true)] [(0, .row 3 (fl c0q1)), (1, .row 22 (flD dLListInt [4] c1q1)), (2, .row 28 (Enc.cells c2q4)), (3, .row 28 (Enc.cells c3q23)), ((.s 4 0), .fam (famD dLListInt 0 c1q1))] 5 (by kernel_rfl) ?_
                  exact hK2764 () _ _ _ trivial (leSt_m [(0, 0), (1, 1), (2, 2), (3, 3), ((.s 4 0), (.s 4 0))] [] (by (try simp only [g2767]) <;> simp only [push_cast, leL_flD, renL_flD, seval]) (by (try simp only [g2767]) <;> simp only [push_cast, leL_flD, renL_flD, seval]) rfl rfl rfl)
                · have k2768 : 0 ≤ i9 ∧ i9 < ((picks.length : Nat) : Int) := by have e := or_use g2769 (by first | ((try simp only [g2767]) <;> rfl) | ((try simp only [g2767]); rfl) | (exfalso; clear h; simp_all; done)); first | simpa only [Bool.and_eq_true, decide_eq_true_eq, bne_iff_ne, ne_eq] using e | (simp at e ⊢; omega)
                  refine rs 8 [none, none, some ⟨.iptr (fl picks) ((i9).toNat * 1), [], 5, []⟩, some ⟨iS (ix picks i9), [], 5, []⟩] _ (by kernel_rfl) (allP_cons (ob_ld picks i9 1 0 ((i9).toNat * 1) k2768 rfl (by decide) (by first | rfl | omega) (dflS Try.prog 3) (iS (ix picks i9)) rfl 5 []) (allP_cons (ob_ix_l picks 1 5 i9 k2768) allP_nil)) ?_
                  refine rf [(0, .sl mem.length (fl mem)), (1, .sl tasks.length (fl tasks)), (2, .sl picks.length (fl picks)), (7, .own 0 0 c0q1.length), (8, .own 1 0 c1q1.length), (9, .ptr 2 0), (10, .ptr 3 0), (11, iS i9), (69, bS (decide (((tasks.length : Nat) : Int) ≤ (ix picks i9))))] [(0, .row 3 (fl c0q1)), (1, .row 22 (flD dLListInt [4] c1q1)), (2, .row 28 (Enc.cells c2q4)), (3, .row 28 (Enc.cells c3q23)), ((.s 4 0), .fam (famD dLListInt 0 c1q1))] 5 (by kernel_rfl) ?_
                  exact hK2764 () _ _ _ trivial (leSt_m [(0, 0), (1, 1), (2, 2), (3, 3), ((.s 4 0), (.s 4 0))] [] (by (try simp only [g2767]) <;> simp only [push_cast, leL_flD, renL_flD, seval]) (by (try simp only [g2767]) <;> simp only [push_cast, leL_flD, renL_flD, seval]) rfl rfl rfl)
              · dsimp only
                refine cond_sx h (by kernel_rfl) (fun g2772 h => ?_) (fun g2772 h => ?_)
                · refine reg_f ?_
                  refine rs 1 [] [] (by kernel_rfl) allP_nil ?_
                  obtain ⟨r2771, hr2771, h⟩ := bind_sx h
                  refine run_call 14 [iS 3, iS i9] (some 71) (by kernel_rfl) ?_
                  refine call_0 (taskmillref_F_spec 3 i9 r2771 hr2771) (by simp only [push_cast, leL_flD, renL_flD, seval]) (by simp only [push_cast, leL_flD, renL_flD, seval]) ?_
                  refine back_f ?_
                  refine rs 1 [] [] (by kernel_rfl) allP_nil ?_
                  refine rf [(0, .sl mem.length (fl mem)), (1, .sl tasks.length (fl tasks)), (2, .sl picks.length (fl picks)), (7, .own 0 0 c0q1.length), (8, .own 1 0 c1q1.length), (9, .ptr 2 0), (10, .ptr 3 0), (11, iS i9)] [(0, .row 3 (fl c0q1)), (1, .row 22 (flD dLListInt [4] c1q1)), (2, .row 28 (Enc.cells c2q4)), (3, .row 28 (Enc.cells r2771)), ((.s 4 0), .fam (famD dLListInt 0 c1q1))] 5 (by kernel_rfl) ?_
                  exact hK2758 (r2771) _ _ _ h (leSt_m [(0, 0), (1, 1), (2, 2), (3, 3), ((.s 4 0), (.s 4 0))] [] (by simp only [push_cast, leL_flD, renL_flD, seval]) (by simp only [push_cast, leL_flD, renL_flD, seval]) rfl rfl rfl)
                · exact hK2758 (c3q23) _ _ _ h (leSt_m [(0, 0), (1, 1), (2, 2), (3, 3), ((.s 4 0), (.s 4 0))] [] (by simp only [push_cast, leL_flD, renL_flD, seval]) (by simp only [push_cast, leL_flD, renL_flD, seval]) rfl rfl rfl)
            · rintro c3q25 h
              try dsimp only at h ⊢
              unfold taskmilllaw_CellMixes_j1 at h
              refine wk_id ?_
              refine reg_f ?_
              refine rs 3 [] [] (by kernel_rfl) allP_nil ?_
              refine rf [(0, .sl mem.length (fl mem)), (1, .sl tasks.length (fl tasks)), (2, .sl picks.length (fl picks)), (7, .own 0 0 c0q1.length), (8, .own 1 0 c1q1.length), (9, .ptr 2 0), (10, .ptr 3 0), (11, iS (IntKind.i64.wrap (i9 + 1)))] [(0, .row 3 (fl c0q1)), (1, .row 22 (flD dLListInt [4] c1q1)), (2, .row 28 (Enc.cells c2q4)), (3, .row 28 (Enc.cells c3q25)), ((.s 4 0), .fam (famD dLListInt 0 c1q1))] 5 (by kernel_rfl) ?_
              exact hn3 ((IntKind.i64.wrap (i9 + 1)), c3q25) _ _ _ (Option.some.inj h).symm (leSt_m [(0, 0), (1, 1), (2, 2), (3, 3), ((.s 4 0), (.s 4 0))] [] (by simp only [push_cast, leL_flD, renL_flD, seval]) (by simp only [push_cast, leL_flD, renL_flD, seval]) rfl rfl rfl)
          · change R3 (.exit 0) _ _ _
            refine ex_cast hx3 (id := 0) ?_
            obtain ⟨r0, h, e0⟩ := map_sx h
            have e1 := hr3 r0 e0.symm
            subst r0
            refine wk_id ?_
            refine wk_id ?_
            refine seq_np ?_
            refine seq_np ?_
            refine reg_f ?_
            refine rs 3 [] [] (by kernel_rfl) allP_nil ?_
            refine rf [(0, .sl mem.length (fl mem)), (1, .sl tasks.length (fl tasks)), (2, .sl picks.length (fl picks)), (7, .own 0 0 c0q1.length), (8, .own 1 0 c1q1.length), (10, .ptr 3 0), (74, bS (!((c2q4.Code == c3q23.Code) && ((c2q4.At == c3q23.At) && true))))] [(0, .row 3 (fl c0q1)), (1, .row 22 (flD dLListInt [4] c1q1)), (2, .row 28 (Enc.cells c2q4)), (3, .row 28 (Enc.cells c3q23)), ((.s 4 0), .fam (famD dLListInt 0 c1q1))] 5 (by kernel_rfl) ?_
            refine wk_id ?_
            refine cond_sx h (by kernel_rfl) (fun g2953 h => ?_) (fun g2953 h => ?_)
            · refine seq_np ?_
              refine reg_f ?_
              refine rs 1 [] [] (by kernel_rfl) allP_nil ?_
              refine rf [(6, bS false)] [(0, .row 3 (fl c0q1)), (1, .row 22 (flD dLListInt [4] c1q1)), (2, .row 28 (Enc.cells c2q4)), (3, .row 28 (Enc.cells c3q23)), ((.s 4 0), .fam (famD dLListInt 0 c1q1))] 5 (by kernel_rfl) ?_
              refine wk_id ?_
              obtain rfl := Option.some.inj h
              refine ret_at (bS false) (by kernel_rfl) ?_
              exact ret_e [] [] (by simp only [push_cast, leL_flD, renL_flD, seval]) (by simp only [push_cast, leL_flD, renL_flD, seval]) rfl rfl rfl
            · refine wk_id ?_
              refine seq_np ?_
              refine seq_np ?_
              refine reg_f ?_
              refine rs 3 [] [] (by kernel_rfl) allP_nil ?_
              refine rf [(0, .sl mem.length (fl mem)), (1, .sl tasks.length (fl tasks)), (2, .sl picks.length (fl picks)), (7, .own 0 0 c0q1.length), (8, .own 1 0 c1q1.length), (77, bS (c3q23.Code != 0))] [(0, .row 3 (fl c0q1)), (1, .row 22 (flD dLListInt [4] c1q1)), (2, .row 28 (Enc.cells c2q4)), (3, .row 28 (Enc.cells c3q23)), ((.s 4 0), .fam (famD dLListInt 0 c1q1))] 5 (by kernel_rfl) ?_
              refine wk_id ?_
              refine cond_sx h (by kernel_rfl) (fun g2952 h => ?_) (fun g2952 h => ?_)
              · refine seq_cut (A := Unit) (fun _ => ([(6, bS ((((c0q1.length : Nat) : Int) == 0) && (((c1q1.length : Nat) : Int) == 0)))], [(0, .row 3 (fl c0q1)), (1, .row 22 (flD dLListInt [4] c1q1)), (2, .row 28 (Enc.cells c2q4)), (3, .row 28 (Enc.cells c3q23)), ((.s 4 0), .fam (famD dLListInt 0 c1q1))], 5)) (fun _ => True) (fun K2777 hK2777 => ?_) (fun _ _ => ?_)
                · refine reg_f ?_
                  refine rs 4 [] [] (by kernel_rfl) allP_nil ?_
                  refine run_split 81 (((c0q1.length : Nat) : Int) == 0) (.inl (by kernel_rfl)) (fun g2778 => ?_) (fun g2778 => ?_)
                  · refine rs 5 [] [] (by kernel_rfl) allP_nil ?_
                    refine rf [(6, bS (((c1q1.length : Nat) : Int) == 0))] [(0, .row 3 (fl c0q1)), (1, .row 22 (flD dLListInt [4] c1q1)), (2, .row 28 (Enc.cells c2q4)), (3, .row 28 (Enc.cells c3q23)), ((.s 4 0), .fam (famD dLListInt 0 c1q1))] 5 (by kernel_rfl) ?_
                    exact hK2777 () _ _ _ trivial (leSt_m [(0, 0), (1, 1), (2, 2), (3, 3), ((.s 4 0), (.s 4 0))] [] (by (try simp only [g2778]) <;> simp only [push_cast, leL_flD, renL_flD, seval]) (by (try simp only [g2778]) <;> simp only [push_cast, leL_flD, renL_flD, seval]) rfl rfl rfl)
                  · refine rs 5 [] [] (by kernel_rfl) allP_nil ?_
                    refine rf [(6, bS false)] [(0, .row 3 (fl c0q1)), (1, .row 22 (flD dLListInt [4] c1q1)), (2, .row 28 (Enc.cells c2q4)), (3, .row 28 (Enc.cells c3q23)), ((.s 4 0), .fam (famD dLListInt 0 c1q1))] 5 (by kernel_rfl) ?_
                    exact hK2777 () _ _ _ trivial (leSt_m [(0, 0), (1, 1), (2, 2), (3, 3), ((.s 4 0), (.s 4 0))] [] (by (try simp only [g2778]) <;> simp only [push_cast, leL_flD, renL_flD, seval]) (by (try simp only [g2778]) <;> simp only [push_cast, leL_flD, renL_flD, seval]) rfl rfl rfl)
                · dsimp only
                  obtain rfl := Option.some.inj h
                  refine ret_at (bS ((((c0q1.length : Nat) : Int) == 0) && (((c1q1.length : Nat) : Int) == 0))) (by kernel_rfl) ?_
                  exact ret_e [] [] (by simp only [push_cast, leL_flD, renL_flD, seval]) (by simp only [push_cast, leL_flD, renL_flD, seval]) rfl rfl rfl
              · refine wk_id ?_
                refine seq_np ?_
                refine reg_f ?_
                refine rs 2 [] [] (by kernel_rfl) allP_nil ?_
                obtain ⟨r2780, hr2780, h⟩ := bind_sx h
                refine call_x (taskmillref_Order_spec tasks picks r2780 hr2780) (args := [.sl tasks.length (fl tasks), .sl picks.length (fl picks)]) (dst := (some 89)) (by kernel_rfl) [(0, .row 3 (fl c0q1)), (1, .row 22 (flD dLListInt [4] c1q1)), (2, .row 28 (Enc.cells c2q4)), (3, .row 28 (Enc.cells c3q23)), ((.s 4 0), .fam (famD dLListInt 0 c1q1))] 5 (by kernel_rfl) [] [] (.tup [.own 5 0 r2780.1.length, .own 6 0 r2780.2.length]) [(5, .row 50 (fl r2780.1)), (6, .row 3 (fl r2780.2))] (by simp only [push_cast, leL_flD, renL_flD, seval]) (by simp only [push_cast, leL_flD, renL_flD, seval]) (by kernel_rfl) (.inl rfl) (by simp only [push_cast, leL_flD, renL_flD, seval]) (by simp only [push_cast, leL_flD, renL_flD, seval]) ?_
                refine rs 5 [] [] (by kernel_rfl) allP_nil ?_
                refine rf [(0, .sl mem.length (fl mem)), (1, .sl tasks.length (fl tasks)), (7, .own 0 0 c0q1.length), (8, .own 1 0 c1q1.length), (12, .own 5 0 r2780.1.length), (13, .own 6 0 r2780.2.length)] [(0, .row 3 (fl c0q1)), (1, .row 22 (flD dLListInt [4] c1q1)), (2, .row 28 (Enc.cells c2q4)), (3, .row 28 (Enc.cells c3q23)), ((.s 4 0), .fam (famD dLListInt 0 c1q1)), (5, .row 50 (fl r2780.1)), (6, .row 3 (fl r2780.2))] 7 (by kernel_rfl) ?_
                refine wk_id ?_
                refine seq_np ?_
                refine reg_f ?_
                refine rs 2 [] [] (by kernel_rfl) allP_nil ?_
                obtain ⟨r2782, hr2782, h⟩ := bind_sx h
                refine call_x (taskmillref_Ran_spec mem r2780.1 r2782 hr2782) (args := [.sl mem.length (fl mem), .own 5 0 r2780.1.length]) (dst := (some 95)) (by kernel_rfl) [(0, .row 3 (fl c0q1)), (1, .row 22 (flD dLListInt [4] c1q1)), (2, .row 28 (Enc.cells c2q4)), (3, .row 28 (Enc.cells c3q23)), ((.s 4 0), .fam (famD dLListInt 0 c1q1)), (5, .row 50 (fl r2780.1)), (6, .row 3 (fl r2780.2))] 7 (by kernel_rfl) [] [5] (.tup [.own 7 0 r2782.1.length, .own 8 0 r2782.2.length]) [(7, .row 3 (fl r2782.1)), (8, .row 3 (fl r2782.2))] (by simp only [push_cast, leL_flD, renL_flD, seval]) (by simp only [push_cast, leL_flD, renL_flD, seval]) (by kernel_rfl) (.inr ⟨by simp only [push_cast, leL_flD, renL_flD, seval], by simp only [push_cast, leL_flD, renL_flD, seval]⟩) (by simp only [push_cast, leL_flD, renL_flD, seval]) (by simp only [push_cast, leL_flD, renL_flD, seval]) ?_
                refine rs 5 [] [] (by kernel_rfl) allP_nil ?_
                refine rf [(1, .sl tasks.length (fl tasks)), (7, .own 0 0 c0q1.length), (8, .own 1 0 c1q1.length), (12, .own 5 0 r2780.1.length), (13, .own 6 0 r2780.2.length), (14, .own 7 0 r2782.1.length), (15, .own 8 0 r2782.2.length)] [(0, .row 3 (fl c0q1)), (1, .row 22 (flD dLListInt [4] c1q1)), (2, .row 28 (Enc.cells c2q4)), (3, .row 28 (Enc.cells c3q23)), ((.s 4 0), .fam (famD dLListInt 0 c1q1)), (5, .row 50 (fl r2780.1)), (6, .row 3 (fl r2780.2)), (7, .row 3 (fl r2782.1)), (8, .row 3 (fl r2782.2))] 9 (by kernel_rfl) ?_
                refine wk_id ?_
                refine chk_sx h (fun g2786 h => ?_)
                refine seq_np ?_
                refine reg_f ?_
                have k2785 : 0 ≤ ((tasks.length : Nat) : Int) ∧ ((tasks.length : Nat) : Int) ≤ 4611686018427387904 ∧ (24 : Int) * ((tasks.length : Nat) : Int) ≤ 140737488355328 := by first | simpa only [Bool.and_eq_true, decide_eq_true_eq, bne_iff_ne, ne_eq] using g2786 | (simp at g2786 ⊢; omega)
                refine rs 2 [] [] (by kernel_rfl) allP_nil ?_
                refine run_opG (some 100) _ ⟨.own 9 0 (List.replicate (((tasks.length : Nat) : Int)).toNat (default : (List Int))).length, [(9, .row 22 (flN dLListInt (nA (List.replicate 1 none) (List.replicate 1 none) (-1)) 0 (List.replicate (((tasks.length : Nat) : Int)).toNat (default : (List Int)))))], 10, []⟩ [((.s 10 0), .fam (famD dLListInt 0 (List.replicate (((tasks.length : Nat) : Int)).toNat (default : (List Int))))), (9, .row 22 (flD dLListInt [10] (List.replicate (((tasks.length : Nat) : Int)).toNat (default : (List Int)))))] 1 [9] [] (by kernel_rfl) (ob_mkN (P := Try.prog) dLListInt ((tasks.length : Nat) : Int) 22 24 (by kernel_rfl) [.v (.slice none 0 0)] rfl 1 rfl (by decide) k2785 1 9) (ghost_A 10 dLListInt (List.replicate (((tasks.length : Nat) : Int)).toNat (default : (List Int))) 9 22 [none] [none] (-1) (flD dLListInt [10] (List.replicate (((tasks.length : Nat) : Int)).toNat (default : (List Int)))) 0 none none (by kernel_rfl) (flN_done dLListInt [10] (-1) (List.replicate (((tasks.length : Nat) : Int)).toNat (default : (List Int))) rfl) (by kernel_rfl) (offN_rep _ rfl _) (S_rep (fun a => nilLeaf dLListInt 0 a) _)) (by kernel_rfl) ?_
                refine rs 1 [] [] (by kernel_rfl) allP_nil ?_
                refine rf [(7, .own 0 0 c0q1.length), (8, .own 1 0 c1q1.length), (12, .own 5 0 r2780.1.length), (13, .own 6 0 r2780.2.length), (14, .own 7 0 r2782.1.length), (15, .own 8 0 r2782.2.length), (16, .own 9 0 (List.replicate (((tasks.length : Nat) : Int)).toNat (default : (List Int))).length)] [(0, .row 3 (fl c0q1)), (1, .row 22 (flD dLListInt [4] c1q1)), (2, .row 28 (Enc.cells c2q4)), (3, .row 28 (Enc.cells c3q23)), ((.s 4 0), .fam (famD dLListInt 0 c1q1)), (5, .row 50 (fl r2780.1)), (6, .row 3 (fl r2780.2)), (7, .row 3 (fl r2782.1)), (8, .row 3 (fl r2782.2)), (9, .row 22 (flD dLListInt [10] (List.replicate (((tasks.length : Nat) : Int)).toNat (default : (List Int))))), ((.s 10 0), .fam (famD dLListInt 0 (List.replicate (((tasks.length : Nat) : Int)).toNat (default : (List Int)))))] 11 (by kernel_rfl) ?_
                refine wk_id ?_
                refine seq_np ?_
                refine seq_np ?_
                refine reg_f ?_
                refine rs 1 [] [] (by kernel_rfl) allP_nil ?_
                refine rf [(7, .own 0 0 c0q1.length), (8, .own 1 0 c1q1.length), (12, .own 5 0 r2780.1.length), (13, .own 6 0 r2780.2.length), (14, .own 7 0 r2782.1.length), (15, .own 8 0 r2782.2.length), (16, .own 9 0 (List.replicate (((tasks.length : Nat) : Int)).toNat (default : (List Int))).length), (17, iS 0)] [(0, .row 3 (fl c0q1)), (1, .row 22 (flD dLListInt [4] c1q1)), (2, .row 28 (Enc.cells c2q4)), (3, .row 28 (Enc.cells c3q23)), ((.s 4 0), .fam (famD dLListInt 0 c1q1)), (5, .row 50 (fl r2780.1)), (6, .row 3 (fl r2780.2)), (7, .row 3 (fl r2782.1)), (8, .row 3 (fl r2782.2)), (9, .row 22 (flD dLListInt [10] (List.replicate (((tasks.length : Nat) : Int)).toNat (default : (List Int))))), ((.s 10 0), .fam (famD dLListInt 0 (List.replicate (((tasks.length : Nat) : Int)).toNat (default : (List Int)))))] 11 (by kernel_rfl) ?_
                refine wk_id ?_
                refine block_np ?_
                refine loop_sx (S := Int × (List GOp) × (List Int) × (List Int) × (List Int) × (List (List Int))) (fun a => ([(7, .own 0 0 c0q1.length), (8, .own 1 0 c1q1.length), (12, .own 2 0 a.2.1.length), (13, .own 3 0 a.2.2.1.length), (14, .own 4 0 a.2.2.2.1.length), (15, .own 5 0 a.2.2.2.2.1.length), (16, .own 6 0 a.2.2.2.2.2.length), (17, iS a.1)], [(0, .row 3 (fl c0q1)), (1, .row 22 (flD dLListInt [7] c1q1)), (2, .row 50 (fl a.2.1)), (3, .row 3 (fl a.2.2.1)), (4, .row 3 (fl a.2.2.2.1)), (5, .row 3 (fl a.2.2.2.2.1)), (6, .row 22 (flD dLListInt [8] a.2.2.2.2.2)), ((.s 7 0), .fam (famD dLListInt 0 c1q1)), ((.s 8 0), .fam (famD dLListInt 0 a.2.2.2.2.2))], 9)) h (leSt_m [(0, 0), (1, 1), (2, 5), (3, 6), (4, 7), (5, 8), (6, 9), ((.s 7 0), (.s 4 0)), ((.s 8 0), (.s 10 0))] [] (by simp only [push_cast, leL_flD, renL_flD, seval]) (by simp only [push_cast, leL_flD, renL_flD, seval]) rfl rfl rfl) ?_
                rintro ⟨i15, c2q13, c3q34, c4q11, c5q11, c6q7⟩ o4 R4 h hr4 hn4 hx4 ht4
                try dsimp only at h hn4 ⊢
                unfold taskmilllaw_CellMixes_l1 at h
                try dsimp only at h
                refine seq_np ?_
                refine seq_np ?_
                refine reg_f ?_
                refine rs 4 [] [] (by kernel_rfl) allP_nil ?_
                refine rf [(7, .own 0 0 c0q1.length), (8, .own 1 0 c1q1.length), (12, .own 2 0 c2q13.length), (13, .own 3 0 c3q34.length), (14, .own 4 0 c4q11.length), (15, .own 5 0 c5q11.length), (16, .own 6 0 c6q7.length), (17, iS i15), (104, bS (decide (i15 < ((c2q13.length : Nat) : Int))))] [(0, .row 3 (fl c0q1)), (1, .row 22 (flD dLListInt [7] c1q1)), (2, .row 50 (fl c2q13)), (3, .row 3 (fl c3q34)), (4, .row 3 (fl c4q11)), (5, .row 3 (fl c5q11)), (6, .row 22 (flD dLListInt [8] c6q7)), ((.s 7 0), .fam (famD dLListInt 0 c1q1)), ((.s 8 0), .fam (famD dLListInt 0 c6q7))] 9 (by kernel_rfl) ?_
                refine wk_id ?_
                refine cond_sx h (by kernel_rfl) (fun g2951 h => ?_) (fun g2951 h => ?_)
                · refine wk_id ?_
                  refine seq_np ?_
                  refine block_np ?_
                  refine chk_sx h (fun g2932 h => ?_)
                  refine chk_sx h (fun g2934 h => ?_)
                  refine chk_sx h (fun g2936 h => ?_)
                  refine chk_sx h (fun g2938 h => ?_)
                  refine chk_sx h (fun g2940 h => ?_)
                  refine chk_sx h (fun g2942 h => ?_)
                  refine reg_t ?_
                  have k2931 : 0 ≤ i15 ∧ i15 < ((c3q34.length : Nat) : Int) := by first | simpa only [Bool.and_eq_true, decide_eq_true_eq, bne_iff_ne, ne_eq] using g2932 | (simp at g2932 ⊢; omega)
                  have k2933 : 0 ≤ i15 ∧ i15 < ((c3q34.length : Nat) : Int) := by first | simpa only [Bool.and_eq_true, decide_eq_true_eq, bne_iff_ne, ne_eq] using g2934 | (simp at g2934 ⊢; omega)
                  have k2935 : 0 ≤ (ix c3q34 i15) ∧ (ix c3q34 i15) < ((c6q7.length : Nat) : Int) := by first | simpa only [Bool.and_eq_true, decide_eq_true_eq, bne_iff_ne, ne_eq] using g2936 | (simp at g2936 ⊢; omega)
                  have k2937 : 0 ≤ i15 ∧ i15 < ((c5q11.length : Nat) : Int) := by first | simpa only [Bool.and_eq_true, decide_eq_true_eq, bne_iff_ne, ne_eq] using g2938 | (simp at g2938 ⊢; omega)
                  have k2939 : ((ixD c6q7 (ix c3q34 i15)) ++ ([(ix c5q11 i15)] : List Int)).length * 8 ≤ 140737488355328 := by first | simpa only [Bool.and_eq_true, decide_eq_true_eq, bne_iff_ne, ne_eq] using g2940 | (simp at g2940 ⊢; omega)
                  have k2941 : 0 ≤ (ix c3q34 i15) ∧ (ix c3q34 i15) < ((c6q7.length : Nat) : Int) := by first | simpa only [Bool.and_eq_true, decide_eq_true_eq, bne_iff_ne, ne_eq] using g2942 | (simp at g2942 ⊢; omega)
                  refine rs 19 [none, none, none, some ⟨.ptr 3 (0 + (i15).toNat * 1), [], 12, [3]⟩, some ⟨iS (ix c3q34 i15), [], 13, [3]⟩, none, none, none, some ⟨.ptr 3 (0 + (i15).toNat * 1), [], 17, [3]⟩, some ⟨iS (ix c3q34 i15), [], 18, [3]⟩, some ⟨.ptr 6 (0 + ((ix c3q34 i15)).toNat * 1), [], 19, [6]⟩, some ⟨.own (.s 8 (ix c3q34 i15)) 0 (ixD c6q7 (ix c3q34 i15)).length, [], 20, [6]⟩, none, none, some ⟨.ptr 5 (0 + (i15).toNat * 1), [], 23, [5]⟩, some ⟨iS (ix c5q11 i15), [], 24, [5]⟩, none, some ⟨.own 27 0 ((ixD c6q7 (ix c3q34 i15)) ++ ([(ix c5q11 i15)] : List Int)).length, [(27, .row 3 (fl ((ixD c6q7 (ix c3q34 i15)) ++ ([(ix c5q11 i15)] : List Int)))), ((.s 8 0), .fam (upI (famD dLListInt 0 c6q7) (ix c3q34 i15) (.dead)))], 28, [(.s 8 0), 25]⟩, some ⟨.ptr 6 (0 + ((ix c3q34 i15)).toNat * 1), [], 29, [6]⟩] _ (by kernel_rfl) (allP_cons (ob_ix_o 6 c6q7.length 0 1 29 (ix c3q34 i15) k2941) (allP_cons (ob_appM (P := Try.prog) dLListInt 0 c6q7 (ix c3q34 i15) 8 (ixD c6q7 (ix c3q34 i15)) ([(ix c5q11 i15)] : List Int) 1 8 rfl (appCells (fl ([(ix c5q11 i15)] : List Int)) 0 (([(ix c5q11 i15)] : List Int).length * 1)) ([(ix c5q11 i15)] : List Int).length (app_own ([(ix c5q11 i15)] : List Int) 1 rfl) rfl (0 + ([(ix c5q11 i15)] : List Int).length * 1 ≤ (fl ([(ix c5q11 i15)] : List Int)).length) (app_own_le ([(ix c5q11 i15)] : List Int) 1 rfl) 3 (by kernel_rfl) (by decide) k2939 27 [25]) (allP_cons (ob_ld c5q11 i15 1 0 (0 + (i15).toNat * 1) k2937 rfl (by decide) (by first | rfl | omega) (dflS Try.prog 3) (iS (ix c5q11 i15)) rfl 24 [5]) (allP_cons (ob_ix_o 5 c5q11.length 0 1 23 i15 k2937) (allP_cons (ob_ldD dLListInt [8] c6q7 (ix c3q34 i15) 1 0 (0 + ((ix c3q34 i15)).toNat * 1) k2935 rfl (by decide) (by first | rfl | omega) (dflS Try.prog 22) (.own (.s 8 (ix c3q34 i15)) 0 (ixD c6q7 (ix c3q34 i15)).length) rfl 20 [6]) (allP_cons (ob_ix_o 6 c6q7.length 0 1 19 (ix c3q34 i15) k2935) (allP_cons (ob_ld c3q34 i15 1 0 (0 + (i15).toNat * 1) k2933 rfl (by decide) (by first | rfl | omega) (dflS Try.prog 3) (iS (ix c3q34 i15)) rfl 18 [3]) (allP_cons (ob_ix_o 3 c3q34.length 0 1 17 i15 k2933) (allP_cons (ob_ld c3q34 i15 1 0 (0 + (i15).toNat * 1) k2931 rfl (by decide) (by first | rfl | omega) (dflS Try.prog 3) (iS (ix c3q34 i15)) rfl 13 [3]) (allP_cons (ob_ix_o 3 c3q34.length 0 1 12 i15 k2931) allP_nil)))))))))) ?_
                  refine run_opGb none _ ⟨.any, [(6, .row 22 (flN dLListInt (nA [(some 8)] [(some (Nm.t 27))] (ix c3q34 i15)) 0 (c6q7.set (ix c3q34 i15).toNat (((ixD c6q7 (ix c3q34 i15)) ++ ([(ix c5q11 i15)] : List Int)) : (List Int)))))], 30, [6]⟩ [((.s 30 0), .fam (famD dLListInt 0 (c6q7.set (ix c3q34 i15).toNat (((ixD c6q7 (ix c3q34 i15)) ++ ([(ix c5q11 i15)] : List Int)) : (List Int))))), (6, .row 22 (flD dLListInt [30] (c6q7.set (ix c3q34 i15).toNat (((ixD c6q7 (ix c3q34 i15)) ++ ([(ix c5q11 i15)] : List Int)) : (List Int))))), ((.s 8 0), .dead), (27, .dead)] 1 [6, (.s 8 0), 27] [(.s 8 0), 27] (by kernel_rfl) (ob_stN (P := Try.prog) dLListInt [8] [(some (Nm.t 27))] c6q7 (ix c3q34 i15) 1 0 (0 + ((ix c3q34 i15)).toNat * 1) k2941 rfl [.own 27 0 ((ixD c6q7 (ix c3q34 i15)) ++ ([(ix c5q11 i15)] : List Int)).length] (((ixD c6q7 (ix c3q34 i15)) ++ ([(ix c5q11 i15)] : List Int)) : (List Int)) (Nat.le_of_ble_eq_true rfl) (by first | rfl | omega) rfl rfl 6 30 22 22 (by kernel_rfl) rfl) (ghost_A 30 dLListInt (c6q7.set (ix c3q34 i15).toNat (((ixD c6q7 (ix c3q34 i15)) ++ ([(ix c5q11 i15)] : List Int)) : (List Int))) 6 22 [(some 8)] [(some (Nm.t 27))] (ix c3q34 i15) (flD dLListInt [30] (c6q7.set (ix c3q34 i15).toNat (((ixD c6q7 (ix c3q34 i15)) ++ ([(ix c5q11 i15)] : List Int)) : (List Int)))) 0 (some 8) (some 27) (by kernel_rfl) (flN_done dLListInt [30] (ix c3q34 i15) (c6q7.set (ix c3q34 i15).toNat (((ixD c6q7 (ix c3q34 i15)) ++ ([(ix c5q11 i15)] : List Int)) : (List Int))) rfl) (by kernel_rfl) ⟨_, (by kernel_rfl), (off_hole c6q7 (ix c3q34 i15) (((ixD c6q7 (ix c3q34 i15)) ++ ([(ix c5q11 i15)] : List Int)) : (List Int)) k2941 (.dead))⟩ (S_set (fun a => getH _ (.t 27) = chD dLListInt 0 a) k2941 rfl)) (by kernel_rfl) (And.intro (born_fam (upI (famD dLListInt 0 c6q7) (ix c3q34 i15) (.dead)) (by kernel_rfl)) (And.intro (by kernel_rfl) trivial)) ?_
                  refine run_eqF 16 (.own 6 0 c6q7.length) (.own 6 0 (c6q7.set (ix c3q34 i15).toNat (((ixD c6q7 (ix c3q34 i15)) ++ ([(ix c5q11 i15)] : List Int)) : (List Int))).length) (congrArg (fun nq => (.own 6 0 nq : SV)) (show c6q7.length = (c6q7.set (ix c3q34 i15).toNat (((ixD c6q7 (ix c3q34 i15)) ++ ([(ix c5q11 i15)] : List Int)) : (List Int))).length from (List.length_set ..).symm)) (by kernel_rfl) ?_
                  refine rt [(7, .own 0 0 c0q1.length), (8, .own 1 0 c1q1.length), (12, .own 2 0 c2q13.length), (13, .own 3 0 c3q34.length), (14, .own 4 0 c4q11.length), (15, .own 5 0 c5q11.length), (16, .own 6 0 (c6q7.set (ix c3q34 i15).toNat (((ixD c6q7 (ix c3q34 i15)) ++ ([(ix c5q11 i15)] : List Int)) : (List Int))).length), (17, iS i15)] [(0, .row 3 (fl c0q1)), (1, .row 22 (flD dLListInt [7] c1q1)), (2, .row 50 (fl c2q13)), (3, .row 3 (fl c3q34)), (4, .row 3 (fl c4q11)), (5, .row 3 (fl c5q11)), (6, .row 22 (flD dLListInt [30] (c6q7.set (ix c3q34 i15).toNat (((ixD c6q7 (ix c3q34 i15)) ++ ([(ix c5q11 i15)] : List Int)) : (List Int))))), ((.s 7 0), .fam (famD dLListInt 0 c1q1)), ((.s 8 0), .dead), (25, .row 3 (fl ([(ix c5q11 i15)] : List Int))), (27, .dead), ((.s 30 0), .fam (famD dLListInt 0 (c6q7.set (ix c3q34 i15).toNat (((ixD c6q7 (ix c3q34 i15)) ++ ([(ix c5q11 i15)] : List Int)) : (List Int)))))] 32 follows (by kernel_rfl) ?_
                  refine wk_id ?_
                  refine wk_id ?_
                  refine reg_f ?_
                  refine rs 3 [] [] (by kernel_rfl) allP_nil ?_
                  refine rf [(7, .own 0 0 c0q1.length), (8, .own 1 0 c1q1.length), (12, .own 2 0 c2q13.length), (13, .own 3 0 c3q34.length), (14, .own 4 0 c4q11.length), (15, .own 5 0 c5q11.length), (16, .own 6 0 (c6q7.set (ix c3q34 i15).toNat (((ixD c6q7 (ix c3q34 i15)) ++ ([(ix c5q11 i15)] : List Int)) : (List Int))).length), (17, iS (IntKind.i64.wrap (i15 + 1)))] [(0, .row 3 (fl c0q1)), (1, .row 22 (flD dLListInt [7] c1q1)), (2, .row 50 (fl c2q13)), (3, .row 3 (fl c3q34)), (4, .row 3 (fl c4q11)), (5, .row 3 (fl c5q11)), (6, .row 22 (flD dLListInt [30] (c6q7.set (ix c3q34 i15).toNat (((ixD c6q7 (ix c3q34 i15)) ++ ([(ix c5q11 i15)] : List Int)) : (List Int))))), ((.s 7 0), .fam (famD dLListInt 0 c1q1)), ((.s 8 0), .dead), (25, .row 3 (fl ([(ix c5q11 i15)] : List Int))), (27, .dead), ((.s 30 0), .fam (famD dLListInt 0 (c6q7.set (ix c3q34 i15).toNat (((ixD c6q7 (ix c3q34 i15)) ++ ([(ix c5q11 i15)] : List Int)) : (List Int)))))] 32 (by kernel_rfl) ?_
                  exact hn4 ((IntKind.i64.wrap (i15 + 1)), c2q13, c3q34, c4q11, c5q11, (c6q7.set (ix c3q34 i15).toNat (((ixD c6q7 (ix c3q34 i15)) ++ ([(ix c5q11 i15)] : List Int)) : (List Int)))) _ _ _ (Option.some.inj h).symm (leSt_m [(0, 0), (1, 1), (2, 2), (3, 3), (4, 4), (5, 5), (6, 6), ((.s 7 0), (.s 7 0)), ((.s 8 0), (.s 30 0))] [] (by simp only [push_cast, leL_flD, renL_flD, seval]) (by simp only [push_cast, leL_flD, renL_flD, seval]) rfl rfl rfl)
                · change R4 (.exit 2) _ _ _
                  refine ex_cast hx4 (id := 2) ?_
                  obtain ⟨r0, h, e0⟩ := map_sx h
                  have e1 := hr4 r0 e0.symm
                  subst r0
                  refine wk_id ?_
                  refine wk_id ?_
                  refine seq_cut (A := Bool) (fun a => ([(6, bS a)], [], 0)) (fun a => (taskmilllaw_CellMixes_j2 a) = some r) (fun K2947 hK2947 => ?_) ?_
                  · refine reg_f ?_
                    refine rs 2 [] [] (by kernel_rfl) allP_nil ?_
                    obtain ⟨r2948, hr2948, h⟩ := bind_sx h
                    refine call_x (taskmillref_Ints_spec c0q1 c4q11 r2948 hr2948) (args := [.own 0 0 c0q1.length, .own 4 0 c4q11.length]) (dst := (some 128)) (by kernel_rfl) [(0, .row 3 (fl c0q1)), (1, .row 22 (flD dLListInt [7] c1q1)), (2, .row 50 (fl c2q13)), (3, .row 3 (fl c3q34)), (4, .row 3 (fl c4q11)), (5, .row 3 (fl c5q11)), (6, .row 22 (flD dLListInt [8] c6q7)), ((.s 7 0), .fam (famD dLListInt 0 c1q1)), ((.s 8 0), .fam (famD dLListInt 0 c6q7))] 9 (by kernel_rfl) [] [0, 4] (bS r2948) [] (by simp only [push_cast, leL_flD, renL_flD, seval]) (by simp only [push_cast, leL_flD, renL_flD, seval]) (by kernel_rfl) (.inr ⟨by simp only [push_cast, leL_flD, renL_flD, seval], by simp only [push_cast, leL_flD, renL_flD, seval]⟩) (by simp only [push_cast, leL_flD, renL_flD, seval]) (by simp only [push_cast, leL_flD, renL_flD, seval]) ?_
                    refine rs 1 [] [] (by kernel_rfl) allP_nil ?_
                    refine run_br h 129 (.inl (by kernel_rfl)) (fun g2949 h => ?_) (fun g2949 h => ?_)
                    · refine rs 2 [] [] (by kernel_rfl) allP_nil ?_
                      obtain ⟨r2950, hr2950, h⟩ := bind_sx h
                      refine call_x (taskmillref_Lists_spec c1q1 c6q7 r2950 hr2950) (args := [.own 1 0 c1q1.length, .own 6 0 c6q7.length]) (dst := (some 132)) (by kernel_rfl) [(0, .row 3 (fl c0q1)), (1, .row 22 (flD dLListInt [7] c1q1)), (2, .row 50 (fl c2q13)), (3, .row 3 (fl c3q34)), (4, .row 3 (fl c4q11)), (5, .row 3 (fl c5q11)), (6, .row 22 (flD dLListInt [8] c6q7)), ((.s 7 0), .fam (famD dLListInt 0 c1q1)), ((.s 8 0), .fam (famD dLListInt 0 c6q7))] 9 (by kernel_rfl) [] [1, (.s 7 0), 6, (.s 8 0)] (bS r2950) [] (by simp only [↓leS_frzD dLListInt [7] c1q1, ↓leS_frzD dLListInt [8] c6q7, leS_frz, leL_flD, renL_flD, push_cast, seval]) (by simp only [↓leS_frzD dLListInt [7] c1q1, ↓leS_frzD dLListInt [8] c6q7, leS_frz, leL_flD, renL_flD, push_cast, seval]) (by kernel_rfl) (.inr ⟨by simp only [push_cast, leL_flD, renL_flD, seval], by simp only [push_cast, leL_flD, renL_flD, seval]⟩) (by simp only [push_cast, leL_flD, renL_flD, seval]) (by simp only [push_cast, leL_flD, renL_flD, seval]) ?_
                      refine rs 2 [] [] (by kernel_rfl) allP_nil ?_
                      refine rf [(6, bS r2950)] [(0, .row 3 (fl c0q1)), (1, .row 22 (flD dLListInt [7] c1q1)), (2, .row 50 (fl c2q13)), (3, .row 3 (fl c3q34)), (4, .row 3 (fl c4q11)), (5, .row 3 (fl c5q11)), (6, .row 22 (flD dLListInt [8] c6q7)), ((.s 7 0), .fam (famD dLListInt 0 c1q1)), ((.s 8 0), .fam (famD dLListInt 0 c6q7))] 9 (by kernel_rfl) ?_
                      exact hK2947 (r2950) _ _ _ h (leSt_m [] [] (by (try simp only [g2949]) <;> simp only [push_cast, leL_flD, renL_flD, seval]) (by (try simp only [g2949]) <;> simp only [push_cast, leL_flD, renL_flD, seval]) rfl rfl rfl)
                    · refine rs 5 [] [] (by kernel_rfl) allP_nil ?_
                      refine rf [(6, bS false)] [(0, .row 3 (fl c0q1)), (1, .row 22 (flD dLListInt [7] c1q1)), (2, .row 50 (fl c2q13)), (3, .row 3 (fl c3q34)), (4, .row 3 (fl c4q11)), (5, .row 3 (fl c5q11)), (6, .row 22 (flD dLListInt [8] c6q7)), ((.s 7 0), .fam (famD dLListInt 0 c1q1)), ((.s 8 0), .fam (famD dLListInt 0 c6q7))] 9 (by kernel_rfl) ?_
                      exact hK2947 (false) _ _ _ h (leSt_m [] [] (by (try simp only [g2949]) <;> simp only [push_cast, leL_flD, renL_flD, seval]) (by (try simp only [g2949]) <;> simp only [push_cast, leL_flD, renL_flD, seval]) rfl rfl rfl)
                  · rintro t6q1 h
                    try dsimp only at h ⊢
                    unfold taskmilllaw_CellMixes_j2 at h
                    obtain rfl := Option.some.inj h
                    refine ret_at (bS t6q1) (by kernel_rfl) ?_
                    exact ret_e [] [] (by simp only [push_cast, leL_flD, renL_flD, seval]) (by simp only [push_cast, leL_flD, renL_flD, seval]) rfl rfl rfl

end Go.Proofs.Ytolmbmgjpcdngaa
