/-
  What laws of the chapter cell compute, and lemmas on it.
  No conditions.
-/
import Derived.Test.YtolmbmgjpcdngaaProg
import Derived.Test.YtolmbmgjpcdngaacellG
set_option linter.unusedSimpArgs false
set_option linter.unusedVariables false
namespace Go.Proofs.Ytolmbmgjpcdngaa
open Go Go.Sx
attribute [local irreducible] Wk RunAt
theorem follows : Try.prog.follows .mixedOrders = true := by kernel_rfl
set_option maxRecDepth 100000 in
set_option maxHeartbeats 200000000 in
theorem taskmilllaw_own_spec (l : (List Int)) (r : (List Int)) (h : taskmilllaw_own l = some r) : SpecW Try.prog 13 [.sl l.length (fl l)] [] 0 (fun x h n => x = .own 0 0 r.length ∧ h = [(0, .row 3 (fl r))] ∧ n = 1) := by
  unfold taskmilllaw_own at h
  refine spec_of (draw_ok _) Try.func13 rfl (by decide) rfl (by kernel_rfl) ?_
  refine seq_np ?_
  refine reg_f ?_
  refine rs 1 [] [] (by kernel_rfl) allP_nil ?_
  refine rf [(0, .sl l.length (fl l))] [] 0 (by kernel_rfl) ?_
  refine wk_id ?_
  refine chk_sx h (fun g6 h => ?_)
  refine seq_np ?_
  refine reg_f ?_
  have k5 : l.length * 8 ≤ 140737488355328 := by first | simpa only [Bool.and_eq_true, decide_eq_true_eq, bne_iff_ne, ne_eq] using g6 | (simp at g6 ⊢; omega)
  refine rs 3 [none, some ⟨.own 0 0 l.length, [(0, .row 3 (fl l))], 1, []⟩] _ (by kernel_rfl) (allP_cons (ob_app0 (P := Try.prog) l 1 8 rfl (fl l) l.length rfl rfl ((fl l).length = l.length * 1) (app_sl l 1 rfl) 3 (by kernel_rfl) (by decide) k5 0 []) allP_nil) ?_
  refine rf [(2, .own 0 0 l.length)] [(0, .row 3 (fl l))] 1 (by kernel_rfl) ?_
  refine wk_id ?_
  obtain rfl := Option.some.inj h
  refine ret_at (.own 0 0 l.length) (by kernel_rfl) ?_
  exact ret_e [(0, 0)] [] (by simp only [push_cast, seval]) (by simp only [push_cast, seval]) rfl rfl rfl

set_option maxRecDepth 100000 in
set_option maxHeartbeats 200000000 in
theorem cell_fault_spec (code : Int) (xat : Int) (r : Fault) (h : cell_fault code xat = some r) : SpecW Try.prog 29 [iS code, iS xat] [] 0 (fun x h n => x = .agg (Enc.cells r) ∧ h = [] ∧ n = 0) := by
  unfold cell_fault at h
  refine spec_of (draw_ok _) Try.func29 rfl (by decide) rfl (by kernel_rfl) ?_
  refine seq_np ?_
  refine reg_f ?_
  refine rs 1 [] [] (by kernel_rfl) allP_nil ?_
  refine rf [(0, iS code), (1, iS xat), (4, .ptr 0 0)] [(0, .row 28 [iS 0, iS 0])] 1 (by kernel_rfl) ?_
  refine wk_id ?_
  refine seq_np ?_
  refine reg_f ?_
  refine rs 4 [] [] (by kernel_rfl) allP_nil ?_
  refine rf [(4, .ptr 0 0)] [(0, .row 28 [iS code, iS xat])] 1 (by kernel_rfl) ?_
  refine wk_id ?_
  obtain rfl := Option.some.inj h
  refine ret_at (.agg [iS code, iS xat]) (by kernel_rfl) ?_
  exact ret_e [] [] (by simp only [push_cast, seval]) (by simp only [push_cast, seval]) rfl rfl rfl

set_option maxRecDepth 100000 in
set_option maxHeartbeats 200000000 in
theorem cell_one_spec (xo : GOp) (cells : Int) (r : Int) (h : cell_one xo cells = some r) : SpecW Try.prog 39 [.agg (Enc.cells xo), iS cells] [] 0 (fun x h n => x = iS r ∧ h = [] ∧ n = 0) := by
  unfold cell_one at h
  refine spec_of (draw_ok _) Try.func39 rfl (by decide) rfl (by kernel_rfl) ?_
  refine seq_np ?_
  refine reg_f ?_
  refine rs 2 [] [] (by kernel_rfl) allP_nil ?_
  refine rf [(1, iS cells), (2, .ptr 0 0)] [(0, .row 50 (Enc.cells xo))] 1 (by kernel_rfl) ?_
  refine wk_id ?_
  refine seq_np ?_
  refine seq_np ?_
  refine reg_f ?_
  refine rs 2 [] [] (by kernel_rfl) allP_nil ?_
  refine rf [(1, iS cells), (2, .ptr 0 0), (6, iS xo.Kind)] [(0, .row 50 (Enc.cells xo))] 1 (by kernel_rfl) ?_
  refine wk_id ?_
  refine block_cut (A := Unit) (fun a => ([(1, iS cells), (2, .ptr 0 0)], [(0, .row 50 (Enc.cells xo))], 1)) (fun a => (cell_one_j1 xo cells) = some r) (fun K58 hK58 => ?_) ?_
  · refine seq_np ?_
    refine reg_f ?_
    refine rs 2 [] [] (by kernel_rfl) allP_nil ?_
    refine rf [(1, iS cells), (2, .ptr 0 0), (6, iS xo.Kind), (7, bS (xo.Kind == 1))] [(0, .row 50 (Enc.cells xo))] 1 (by kernel_rfl) ?_
    refine wk_id ?_
    refine cond_sx h (by kernel_rfl) (fun g72 h => ?_) (fun g72 h => ?_)
    · refine seq_cut (A := Unit) (fun _ => ([(1, iS cells), (2, .ptr 0 0), (16, bS ((xo.A != 0) || (xo.B != 0)))], [(0, .row 50 (Enc.cells xo))], 1)) (fun _ => True) (fun K60 hK60 => ?_) (fun _ _ => ?_)
      · refine reg_f ?_
        refine rs 4 [] [] (by kernel_rfl) allP_nil ?_
        refine run_split 12 (xo.A != 0) (.inl (by kernel_rfl)) (fun g61 => ?_) (fun g61 => ?_)
        · refine rs 4 [] [] (by kernel_rfl) allP_nil ?_
          refine rf [(1, iS cells), (2, .ptr 0 0), (16, bS true)] [(0, .row 50 (Enc.cells xo))] 1 (by kernel_rfl) ?_
          exact hK60 () _ _ _ trivial (leSt_m [(0, 0)] [] (by (try simp only [g61]) <;> simp only [push_cast, seval]) (by (try simp only [g61]) <;> simp only [push_cast, seval]) rfl rfl rfl)
        · refine rs 4 [] [] (by kernel_rfl) allP_nil ?_
          refine rf [(1, iS cells), (2, .ptr 0 0), (16, bS (xo.B != 0))] [(0, .row 50 (Enc.cells xo))] 1 (by kernel_rfl) ?_
          exact hK60 () _ _ _ trivial (leSt_m [(0, 0)] [] (by (try simp only [g61]) <;> simp only [push_cast, seval]) (by (try simp only [g61]) <;> simp only [push_cast, seval]) rfl rfl rfl)
      · dsimp only
        refine cond_sx h (by kernel_rfl) (fun g62 h => ?_) (fun g62 h => ?_)
        · refine seq_np ?_
          refine reg_f ?_
          refine rs 1 [] [] (by kernel_rfl) allP_nil ?_
          refine rf [(4, iS 5)] [(0, .row 50 (Enc.cells xo))] 1 (by kernel_rfl) ?_
          refine wk_id ?_
          obtain rfl := Option.some.inj h
          refine ret_at (iS 5) (by kernel_rfl) ?_
          exact ret_e [] [] (by simp only [push_cast, seval]) (by simp only [push_cast, seval]) rfl rfl rfl
        · exact hK58 () _ _ _ h (leSt_m [(0, 0)] [] (by simp only [push_cast, seval]) (by simp only [push_cast, seval]) rfl rfl rfl)
    · refine seq_cut (A := Bool) (fun a => ([(1, iS cells), (2, .ptr 0 0), (6, iS xo.Kind), (17, bS a)], [(0, .row 50 (Enc.cells xo))], 1)) (fun a => (cell_one_j2 xo cells a) = some r) (fun K66 hK66 => ?_) ?_
      · refine seq_np ?_
        refine reg_f ?_
        refine rs 2 [] [] (by kernel_rfl) allP_nil ?_
        refine rf [(1, iS cells), (2, .ptr 0 0), (6, iS xo.Kind), (17, bS (xo.Kind == 2))] [(0, .row 50 (Enc.cells xo))] 1 (by kernel_rfl) ?_
        refine wk_id ?_
        refine cond_sx h (by kernel_rfl) (fun g68 h => ?_) (fun g68 h => ?_)
        · exact hK66 ((xo.Kind == 2)) _ _ _ h (leSt_m [(0, 0)] [] (by simp only [push_cast, seval]) (by simp only [push_cast, seval]) rfl rfl rfl)
        · refine seq_np ?_
          refine reg_f ?_
          refine rs 2 [] [] (by kernel_rfl) allP_nil ?_
          refine rf [(1, iS cells), (2, .ptr 0 0), (6, iS xo.Kind), (17, bS (xo.Kind == 3))] [(0, .row 50 (Enc.cells xo))] 1 (by kernel_rfl) ?_
          refine wk_id ?_
          refine cond_sx h (by kernel_rfl) (fun g67 h => ?_) (fun g67 h => ?_)
          · exact hK66 ((xo.Kind == 3)) _ _ _ h (leSt_m [(0, 0)] [] (by simp only [push_cast, seval]) (by simp only [push_cast, seval]) rfl rfl rfl)
          · refine reg_f ?_
            refine rs 2 [] [] (by kernel_rfl) allP_nil ?_
            refine rf [(1, iS cells), (2, .ptr 0 0), (6, iS xo.Kind), (17, bS (xo.Kind == 4))] [(0, .row 50 (Enc.cells xo))] 1 (by kernel_rfl) ?_
            exact hK66 ((xo.Kind == 4)) _ _ _ h (leSt_m [(0, 0)] [] (by simp only [push_cast, seval]) (by simp only [push_cast, seval]) rfl rfl rfl)
      · rintro t17q3 h
        try dsimp only at h ⊢
        unfold cell_one_j2 at h
        refine cond_sx h (by kernel_rfl) (fun g71 h => ?_) (fun g71 h => ?_)
        · refine seq_np ?_
          refine reg_f ?_
          refine rs 3 [] [] (by kernel_rfl) allP_nil ?_
          refine rf [(1, iS cells), (2, .ptr 0 0), (23, bS (xo.B != 0))] [(0, .row 50 (Enc.cells xo))] 1 (by kernel_rfl) ?_
          refine wk_id ?_
          refine cond_sx h (by kernel_rfl) (fun g69 h => ?_) (fun g69 h => ?_)
          · refine seq_np ?_
            refine reg_f ?_
            refine rs 1 [] [] (by kernel_rfl) allP_nil ?_
            refine rf [(4, iS 5)] [(0, .row 50 (Enc.cells xo))] 1 (by kernel_rfl) ?_
            refine wk_id ?_
            obtain rfl := Option.some.inj h
            refine ret_at (iS 5) (by kernel_rfl) ?_
            exact ret_e [] [] (by simp only [push_cast, seval]) (by simp only [push_cast, seval]) rfl rfl rfl
          · exact hK58 () _ _ _ h (leSt_m [(0, 0)] [] (by simp only [push_cast, seval]) (by simp only [push_cast, seval]) rfl rfl rfl)
        · refine seq_np ?_
          refine reg_f ?_
          refine rs 2 [] [] (by kernel_rfl) allP_nil ?_
          refine rf [(1, iS cells), (2, .ptr 0 0), (24, bS (xo.Kind == 5))] [(0, .row 50 (Enc.cells xo))] 1 (by kernel_rfl) ?_
          refine wk_id ?_
          refine cond_sx h (by kernel_rfl) (fun g70 h => ?_) (fun g70 h => ?_)
          · exact hK58 () _ _ _ h (leSt_m [(0, 0)] [] (by simp only [push_cast, seval]) (by simp only [push_cast, seval]) rfl rfl rfl)
          · refine seq_np ?_
            refine reg_f ?_
            refine rs 1 [] [] (by kernel_rfl) allP_nil ?_
            refine rf [(4, iS 4)] [(0, .row 50 (Enc.cells xo))] 1 (by kernel_rfl) ?_
            refine wk_id ?_
            obtain rfl := Option.some.inj h
            refine ret_at (iS 4) (by kernel_rfl) ?_
            exact ret_e [] [] (by simp only [push_cast, seval]) (by simp only [push_cast, seval]) rfl rfl rfl
  · rintro _ h
    try dsimp only at h ⊢
    unfold cell_one_j1 at h
    refine wk_id ?_
    refine seq_np ?_
    refine seq_cut (A := Unit) (fun _ => ([(34, bS ((decide (xo.At < 0)) || (decide (cells ≤ xo.At))))], [(0, .row 50 (Enc.cells xo))], 1)) (fun _ => True) (fun K76 hK76 => ?_) (fun _ _ => ?_)
    · refine reg_f ?_
      refine rs 4 [] [] (by kernel_rfl) allP_nil ?_
      refine run_split 29 (decide (xo.At < 0)) (.inl (by kernel_rfl)) (fun g77 => ?_) (fun g77 => ?_)
      · refine rs 5 [] [] (by kernel_rfl) allP_nil ?_
        refine rf [(34, bS true)] [(0, .row 50 (Enc.cells xo))] 1 (by kernel_rfl) ?_
        exact hK76 () _ _ _ trivial (leSt_m [(0, 0)] [] (by (try simp only [g77]) <;> simp only [push_cast, seval]) (by (try simp only [g77]) <;> simp only [push_cast, seval]) rfl rfl rfl)
      · refine rs 5 [] [] (by kernel_rfl) allP_nil ?_
        refine rf [(34, bS (decide (cells ≤ xo.At)))] [(0, .row 50 (Enc.cells xo))] 1 (by kernel_rfl) ?_
        exact hK76 () _ _ _ trivial (leSt_m [(0, 0)] [] (by (try simp only [g77]) <;> simp only [push_cast, seval]) (by (try simp only [g77]) <;> simp only [push_cast, seval]) rfl rfl rfl)
    · dsimp only
      refine cond_sx h (by kernel_rfl) (fun g78 h => ?_) (fun g78 h => ?_)
      · refine seq_np ?_
        refine reg_f ?_
        refine rs 1 [] [] (by kernel_rfl) allP_nil ?_
        refine rf [(4, iS 3)] [(0, .row 50 (Enc.cells xo))] 1 (by kernel_rfl) ?_
        refine wk_id ?_
        obtain rfl := Option.some.inj h
        refine ret_at (iS 3) (by kernel_rfl) ?_
        exact ret_e [] [] (by simp only [push_cast, seval]) (by simp only [push_cast, seval]) rfl rfl rfl
      · refine wk_id ?_
        refine seq_np ?_
        refine reg_f ?_
        refine rs 1 [] [] (by kernel_rfl) allP_nil ?_
        refine rf [(4, iS 0)] [(0, .row 50 (Enc.cells xo))] 1 (by kernel_rfl) ?_
        refine wk_id ?_
        obtain rfl := Option.some.inj h
        refine ret_at (iS 0) (by kernel_rfl) ?_
        exact ret_e [] [] (by simp only [push_cast, seval]) (by simp only [push_cast, seval]) rfl rfl rfl

set_option maxRecDepth 100000 in
set_option maxHeartbeats 200000000 in
theorem cell_Check_spec (mem : (List Int)) (ops : (List GOp)) (r : Fault) (h : cell_Check mem ops = some r) : SpecW Try.prog 21 [.sl mem.length (fl mem), .sl ops.length (fl ops)] [] 0 (fun x h n => x = .agg (Enc.cells r) ∧ h = [] ∧ n = 0) := by
  unfold cell_Check at h
  refine spec_of (draw_ok _) Try.func21 rfl (by decide) rfl (by kernel_rfl) ?_
  refine seq_np ?_
  refine reg_f ?_
  refine rs 1 [] [] (by kernel_rfl) allP_nil ?_
  refine rf [(0, .sl mem.length (fl mem)), (1, .sl ops.length (fl ops)), (4, .ptr 0 0)] [(0, .row 28 [iS 0, iS 0])] 1 (by kernel_rfl) ?_
  refine wk_id ?_
  refine seq_np ?_
  refine seq_cut (A := Unit) (fun _ => ([(0, .sl mem.length (fl mem)), (1, .sl ops.length (fl ops)), (4, .ptr 0 0), (15, bS ((decide ((32 : Int) < ((mem.length : Nat) : Int))) || (decide ((5000 : Int) < ((ops.length : Nat) : Int)))))], [(0, .row 28 [iS 0, iS 0])], 1)) (fun _ => True) (fun K99 hK99 => ?_) (fun _ _ => ?_)
  · refine reg_f ?_
    refine rs 4 [] [] (by kernel_rfl) allP_nil ?_
    refine run_split 11 (decide ((32 : Int) < ((mem.length : Nat) : Int))) (.inl (by kernel_rfl)) (fun g100 => ?_) (fun g100 => ?_)
    · refine rs 4 [] [] (by kernel_rfl) allP_nil ?_
      refine rf [(0, .sl mem.length (fl mem)), (1, .sl ops.length (fl ops)), (4, .ptr 0 0), (15, bS true)] [(0, .row 28 [iS 0, iS 0])] 1 (by kernel_rfl) ?_
      exact hK99 () _ _ _ trivial (leSt_m [(0, 0)] [] (by (try simp only [g100]) <;> simp only [push_cast, seval]) (by (try simp only [g100]) <;> simp only [push_cast, seval]) rfl rfl rfl)
    · refine rs 4 [] [] (by kernel_rfl) allP_nil ?_
      refine rf [(0, .sl mem.length (fl mem)), (1, .sl ops.length (fl ops)), (4, .ptr 0 0), (15, bS (decide ((5000 : Int) < ((ops.length : Nat) : Int))))] [(0, .row 28 [iS 0, iS 0])] 1 (by kernel_rfl) ?_
      exact hK99 () _ _ _ trivial (leSt_m [(0, 0)] [] (by (try simp only [g100]) <;> simp only [push_cast, seval]) (by (try simp only [g100]) <;> simp only [push_cast, seval]) rfl rfl rfl)
  · dsimp only
    refine cond_sx h (by kernel_rfl) (fun g175 h => ?_) (fun g175 h => ?_)
    · refine seq_np ?_
      refine reg_f ?_
      obtain ⟨r102, hr102, h⟩ := bind_sx h
      refine run_call 29 [iS 2, iS 0] (some 16) (by kernel_rfl) ?_
      refine call_0 (cell_fault_spec 2 0 r102 hr102) (by simp only [push_cast, seval]) (by simp only [push_cast, seval]) ?_
      refine back_f ?_
      refine rs 1 [] [] (by kernel_rfl) allP_nil ?_
      refine rf [(4, .ptr 0 0)] [(0, .row 28 (Enc.cells r102))] 1 (by kernel_rfl) ?_
      refine wk_id ?_
      obtain rfl := Option.some.inj h
      refine ret_at (.agg (Enc.cells r102)) (by kernel_rfl) ?_
      exact ret_e [] [] (by simp only [push_cast, seval]) (by simp only [push_cast, seval]) rfl rfl rfl
    · refine wk_id ?_
      refine seq_np ?_
      refine seq_np ?_
      refine reg_f ?_
      refine rs 3 [] [] (by kernel_rfl) allP_nil ?_
      refine rf [(0, .sl mem.length (fl mem)), (4, .ptr 0 0), (17, .sl ops.length (fl ops)), (18, iS ((ops.length : Nat) : Int)), (19, iS 0)] [(0, .row 28 [iS 0, iS 0])] 1 (by kernel_rfl) ?_
      refine wk_id ?_
      refine block_np ?_
      refine loop_sx (S := Int) (fun a => ([(0, .sl mem.length (fl mem)), (4, .ptr 0 0), (17, .sl ops.length (fl ops)), (18, iS ((ops.length : Nat) : Int)), (19, iS a)], [(0, .row 28 [iS 0, iS 0])], 1)) h (leSt_m [(0, 0)] [] (by simp only [push_cast, seval]) (by simp only [push_cast, seval]) rfl rfl rfl) ?_
      rintro t19q7 o2 R2 h hr2 hn2 hx2 ht2
      try dsimp only at h hn2 ⊢
      unfold cell_Check_l1 at h
      try dsimp only at h
      refine seq_np ?_
      refine reg_f ?_
      refine rs 1 [] [] (by kernel_rfl) allP_nil ?_
      refine rf [(0, .sl mem.length (fl mem)), (4, .ptr 0 0), (17, .sl ops.length (fl ops)), (18, iS ((ops.length : Nat) : Int)), (19, iS t19q7), (20, bS (decide (t19q7 < ((ops.length : Nat) : Int))))] [(0, .row 28 [iS 0, iS 0])] 1 (by kernel_rfl) ?_
      refine wk_id ?_
      refine seq_np ?_
      refine cond_sx h (by kernel_rfl) (fun g174 h => ?_) (fun g174 h => ?_)
      · refine wk_id ?_
        refine seq_np ?_
        refine block_np ?_
        refine chk_sx h (fun g168 h => ?_)
        refine seq_np ?_
        refine reg_f ?_
        have k167 : 0 ≤ t19q7 ∧ t19q7 < ((ops.length : Nat) : Int) := by first | simpa only [Bool.and_eq_true, decide_eq_true_eq, bne_iff_ne, ne_eq] using g168 | (simp at g168 ⊢; omega)
        refine rs 6 [none, some ⟨.iptr (fl ops) ((t19q7).toNat * 4), [], 1, []⟩, some ⟨.agg (Enc.cells (ix ops t19q7)), [], 1, []⟩] _ (by kernel_rfl) (allP_cons (ob_ldw ops t19q7 4 ((t19q7).toNat * 4) k167 rfl (by first | rfl | omega) (Enc.cells (ix ops t19q7)) rfl 1 []) (allP_cons (ob_ix_l ops 4 1 t19q7 k167) allP_nil)) ?_
        refine rf [(0, .sl mem.length (fl mem)), (4, .ptr 0 0), (5, iS t19q7), (6, .ptr 1 0), (17, .sl ops.length (fl ops)), (18, iS ((ops.length : Nat) : Int)), (19, iS t19q7)] [(0, .row 28 [iS 0, iS 0]), (1, .row 50 (Enc.cells (ix ops t19q7)))] 2 (by kernel_rfl) ?_
        refine wk_id ?_
        refine seq_np ?_
        refine reg_f ?_
        refine rs 3 [] [] (by kernel_rfl) allP_nil ?_
        obtain ⟨r170, hr170, h⟩ := bind_sx h
        refine run_call 39 [.agg (Enc.cells (ix ops t19q7)), iS ((mem.length : Nat) : Int)] (some 27) (by kernel_rfl) ?_
        refine call_0 (cell_one_spec (ix ops t19q7) ((mem.length : Nat) : Int) r170 hr170) (by simp only [push_cast, seval]) (by simp only [push_cast, seval]) ?_
        refine back_f ?_
        refine rs 1 [] [] (by kernel_rfl) allP_nil ?_
        refine rf [(0, .sl mem.length (fl mem)), (4, .ptr 0 0), (5, iS t19q7), (7, iS r170), (17, .sl ops.length (fl ops)), (18, iS ((ops.length : Nat) : Int)), (19, iS t19q7)] [(0, .row 28 [iS 0, iS 0]), (1, .row 50 (Enc.cells (ix ops t19q7)))] 2 (by kernel_rfl) ?_
        refine wk_id ?_
        refine seq_np ?_
        refine reg_f ?_
        refine rs 2 [] [] (by kernel_rfl) allP_nil ?_
        refine rf [(0, .sl mem.length (fl mem)), (4, .ptr 0 0), (5, iS t19q7), (7, iS r170), (17, .sl ops.length (fl ops)), (18, iS ((ops.length : Nat) : Int)), (19, iS t19q7), (29, bS (r170 != 0))] [(0, .row 28 [iS 0, iS 0]), (1, .row 50 (Enc.cells (ix ops t19q7)))] 2 (by kernel_rfl) ?_
        refine wk_id ?_
        refine cond_sx h (by kernel_rfl) (fun g173 h => ?_) (fun g173 h => ?_)
        · refine seq_np ?_
          refine reg_f ?_
          refine rs 2 [] [] (by kernel_rfl) allP_nil ?_
          obtain ⟨r172, hr172, h⟩ := bind_sx h
          refine run_call 29 [iS r170, iS t19q7] (some 32) (by kernel_rfl) ?_
          refine call_0 (cell_fault_spec r170 t19q7 r172 hr172) (by simp only [push_cast, seval]) (by simp only [push_cast, seval]) ?_
          refine back_f ?_
          refine rs 1 [] [] (by kernel_rfl) allP_nil ?_
          refine rf [(4, .ptr 0 0)] [(0, .row 28 (Enc.cells r172)), (1, .row 50 (Enc.cells (ix ops t19q7)))] 2 (by kernel_rfl) ?_
          refine wk_id ?_
          refine rt_cast ht2 ?_
          obtain ⟨r0, h, e0⟩ := map_sx h
          have e1 := hr2 r0 e0.symm
          subst r0
          obtain rfl := Option.some.inj h
          refine ret_at (.agg (Enc.cells r172)) (by kernel_rfl) ?_
          exact ret_e [] [] (by simp only [push_cast, seval]) (by simp only [push_cast, seval]) rfl rfl rfl
        · refine wk_id ?_
          refine wk_id ?_
          refine reg_f ?_
          refine rs 2 [] [] (by kernel_rfl) allP_nil ?_
          refine rf [(0, .sl mem.length (fl mem)), (4, .ptr 0 0), (17, .sl ops.length (fl ops)), (18, iS ((ops.length : Nat) : Int)), (19, iS (IntKind.i64.wrap (t19q7 + 1)))] [(0, .row 28 [iS 0, iS 0]), (1, .row 50 (Enc.cells (ix ops t19q7)))] 2 (by kernel_rfl) ?_
          exact hn2 ((IntKind.i64.wrap (t19q7 + 1))) _ _ _ (Option.some.inj h).symm (leSt_m [(0, 0)] [] (by simp only [push_cast, seval]) (by simp only [push_cast, seval]) rfl rfl rfl)
      · change R2 (.exit 0) _ _ _
        refine ex_cast hx2 (id := 0) ?_
        obtain ⟨r0, h, e0⟩ := map_sx h
        have e1 := hr2 r0 e0.symm
        subst r0
        refine wk_id ?_
        refine wk_id ?_
        refine seq_np ?_
        refine reg_f ?_
        refine rs 2 [] [] (by kernel_rfl) allP_nil ?_
        refine rf [(4, .ptr 0 0)] [(0, .row 28 [iS 0, iS 0])] 1 (by kernel_rfl) ?_
        refine wk_id ?_
        obtain rfl := Option.some.inj h
        refine ret_at (.agg [iS 0, iS 0]) (by kernel_rfl) ?_
        exact ret_e [] [] (by simp only [push_cast, seval]) (by simp only [push_cast, seval]) rfl rfl rfl

set_option maxRecDepth 100000 in
set_option maxHeartbeats 200000000 in
theorem slices_Clone_int_spec (s : (List Int)) (r : (List Int)) (h : slices_Clone_int s = some r) : SpecW Try.prog 32 [.sl s.length (fl s)] [] 0 (fun x h n => x = .own 0 0 r.length ∧ h = [(0, .row 3 (fl r))] ∧ n = 1) := by
  unfold slices_Clone_int at h
  refine spec_of (draw_ok _) Try.func32 rfl (by decide) rfl (by kernel_rfl) ?_
  refine seq_np ?_
  refine reg_f ?_
  refine rs 1 [] [] (by kernel_rfl) allP_nil ?_
  refine rf [(0, .sl s.length (fl s))] [] 0 (by kernel_rfl) ?_
  refine wk_id ?_
  refine seq_np ?_
  refine seq_np ?_
  refine reg_f ?_
  refine rs 1 [] [] (by kernel_rfl) allP_nil ?_
  refine run_nil s.length (some 4) (by kernel_rfl) (fun g185 => ?_) ?_
  · obtain rfl : s = [] := List.eq_nil_of_length_eq_zero g185
    replace h : (some ([])) = some r := by simpa using h
    refine rf [(0, .sl ([] : List Int).length (fl ([] : List Int))), (4, bS true)] [] 0 (by kernel_rfl) ?_
    refine wk_id ?_
    refine cond_t (by kernel_rfl) ?_
    refine seq_np ?_
    refine reg_f ?_
    refine rs 1 [] [] (by kernel_rfl) allP_nil ?_
    refine rf [(2, .v (.slice none 0 0))] [] 0 (by kernel_rfl) ?_
    refine wk_id ?_
    obtain rfl := Option.some.inj h
    refine ret_at (.v (.slice none 0 0)) (by kernel_rfl) ?_
    exact ret_e [] [] (by simp only [push_cast, seval]) (by simp only [push_cast, seval]) rfl rfl rfl
  · refine rf [(0, .sl s.length (fl s)), (4, bS false)] [] 0 (by kernel_rfl) ?_
    refine wk_id ?_
    refine cond_f (by kernel_rfl) ?_
    refine wk_id ?_
    refine chk_sx h (fun g184 h => ?_)
    refine seq_np ?_
    refine reg_f ?_
    refine run_mk0 Int (some 5) 3 (by kernel_rfl) ?_
    have k183 : (([] : List Int) ++ s).length * 8 ≤ 140737488355328 := by first | simpa only [Bool.and_eq_true, decide_eq_true_eq, bne_iff_ne, ne_eq] using g184 | (simp at g184 ⊢; omega)
    refine rs 3 [none, some ⟨.own 1 0 (([] : List Int) ++ s).length, [(1, .row 3 (fl (([] : List Int) ++ s))), (0, .dead)], 2, [0]⟩] _ (by kernel_rfl) (allP_cons (ob_app (P := Try.prog) ([] : List Int) s 1 8 rfl (fl s) s.length rfl rfl ((fl s).length = s.length * 1) (app_sl s 1 rfl) 3 (by kernel_rfl) (by decide) k183 0 1 []) allP_nil) ?_
    refine rf [(2, .own 1 0 (([] : List Int) ++ s).length)] [(0, .dead), (1, .row 3 (fl (([] : List Int) ++ s)))] 2 (by kernel_rfl) ?_
    refine wk_id ?_
    obtain rfl := Option.some.inj h
    refine ret_at (.own 1 0 (([] : List Int) ++ s).length) (by kernel_rfl) ?_
    exact ret_e [(0, 1)] [] (by simp only [push_cast, seval]) (by simp only [push_cast, seval]) rfl rfl rfl

set_option maxRecDepth 100000 in
set_option maxHeartbeats 200000000 in
theorem cell_does_spec (r : Unit) (h : cell_does = some r) : SpecW Try.prog 42 [] [] 0 (fun x h n => x = .mp 0 ∧ h = [(0, .map [(.int .i64 1, .v (.func (.func 47) #[] #[])), (.int .i64 2, .v (.func (.func 48) #[] #[])), (.int .i64 3, .v (.func (.func 49) #[] #[])), (.int .i64 4, .v (.func (.func 50) #[] #[])), (.int .i64 5, .v (.func (.func 51) #[] #[]))])] ∧ n = 1) := by
  unfold cell_does at h
  refine spec_of (draw_ok _) Try.func42 rfl (by decide) rfl (by kernel_rfl) ?_
  refine seq_np ?_
  refine reg_f ?_
  refine rs 1 [] [] (by kernel_rfl) allP_nil ?_
  refine rf [] [] 0 (by kernel_rfl) ?_
  refine wk_id ?_
  refine seq_np ?_
  refine reg_f ?_
  refine rs 8 [none, some ⟨.any, [(0, .map [(.int .i64 1, .v (.func (.func 47) #[] #[]))])], 1, [0]⟩, some ⟨.any, [(0, .map [(.int .i64 1, .v (.func (.func 47) #[] #[])), (.int .i64 2, .v (.func (.func 48) #[] #[]))])], 1, [0]⟩, some ⟨.any, [(0, .map [(.int .i64 1, .v (.func (.func 47) #[] #[])), (.int .i64 2, .v (.func (.func 48) #[] #[])), (.int .i64 3, .v (.func (.func 49) #[] #[]))])], 1, [0]⟩, some ⟨.any, [(0, .map [(.int .i64 1, .v (.func (.func 47) #[] #[])), (.int .i64 2, .v (.func (.func 48) #[] #[])), (.int .i64 3, .v (.func (.func 49) #[] #[])), (.int .i64 4, .v (.func (.func 50) #[] #[]))])], 1, [0]⟩, some ⟨.any, [(0, .map [(.int .i64 1, .v (.func (.func 47) #[] #[])), (.int .i64 2, .v (.func (.func 48) #[] #[])), (.int .i64 3, .v (.func (.func 49) #[] #[])), (.int .i64 4, .v (.func (.func 50) #[] #[])), (.int .i64 5, .v (.func (.func 51) #[] #[]))])], 1, [0]⟩] _ (by kernel_rfl) (allP_cons (ob_insL (.int .i64) (.int .i64 5) (.v (.func (.func 51) #[] #[])) [(.int .i64 1, .v (.func (.func 47) #[] #[])), (.int .i64 2, .v (.func (.func 48) #[] #[])), (.int .i64 3, .v (.func (.func 49) #[] #[])), (.int .i64 4, .v (.func (.func 50) #[] #[]))] [(.int .i64 1, .v (.func (.func 47) #[] #[])), (.int .i64 2, .v (.func (.func 48) #[] #[])), (.int .i64 3, .v (.func (.func 49) #[] #[])), (.int .i64 4, .v (.func (.func 50) #[] #[])), (.int .i64 5, .v (.func (.func 51) #[] #[]))] 0 1 rfl rfl rfl) (allP_cons (ob_insL (.int .i64) (.int .i64 4) (.v (.func (.func 50) #[] #[])) [(.int .i64 1, .v (.func (.func 47) #[] #[])), (.int .i64 2, .v (.func (.func 48) #[] #[])), (.int .i64 3, .v (.func (.func 49) #[] #[]))] [(.int .i64 1, .v (.func (.func 47) #[] #[])), (.int .i64 2, .v (.func (.func 48) #[] #[])), (.int .i64 3, .v (.func (.func 49) #[] #[])), (.int .i64 4, .v (.func (.func 50) #[] #[]))] 0 1 rfl rfl rfl) (allP_cons (ob_insL (.int .i64) (.int .i64 3) (.v (.func (.func 49) #[] #[])) [(.int .i64 1, .v (.func (.func 47) #[] #[])), (.int .i64 2, .v (.func (.func 48) #[] #[]))] [(.int .i64 1, .v (.func (.func 47) #[] #[])), (.int .i64 2, .v (.func (.func 48) #[] #[])), (.int .i64 3, .v (.func (.func 49) #[] #[]))] 0 1 rfl rfl rfl) (allP_cons (ob_insL (.int .i64) (.int .i64 2) (.v (.func (.func 48) #[] #[])) [(.int .i64 1, .v (.func (.func 47) #[] #[]))] [(.int .i64 1, .v (.func (.func 47) #[] #[])), (.int .i64 2, .v (.func (.func 48) #[] #[]))] 0 1 rfl rfl rfl) (allP_cons (ob_insL (.int .i64) (.int .i64 1) (.v (.func (.func 47) #[] #[])) [] [(.int .i64 1, .v (.func (.func 47) #[] #[]))] 0 1 rfl rfl rfl) allP_nil))))) ?_
  refine rf [(0, .mp 0)] [(0, .map [(.int .i64 1, .v (.func (.func 47) #[] #[])), (.int .i64 2, .v (.func (.func 48) #[] #[])), (.int .i64 3, .v (.func (.func 49) #[] #[])), (.int .i64 4, .v (.func (.func 50) #[] #[])), (.int .i64 5, .v (.func (.func 51) #[] #[]))])] 1 (by kernel_rfl) ?_
  refine wk_id ?_
  obtain rfl := Option.some.inj h
  refine ret_at (.mp 0) (by kernel_rfl) ?_
  exact ret_e [(0, 0)] [] (by simp only [push_cast, seval]) (by simp only [push_cast, seval]) rfl rfl rfl

set_option maxRecDepth 100000 in
set_option maxHeartbeats 200000000 in
theorem cell_does_1_spec (cp : Int) (xa : Int) (b : Int) (c0 : (List Int)) (r : Int × (List Int)) (h : cell_does_1 cp xa b c0 = some r) : SpecW Try.prog 47 [.ptr 0 (0 + (cp).toNat * 1), iS xa, iS b] [(0, .row 3 (fl c0))] 1 (fun x h n => x = iS r.1 ∧ h = [(0, .row 3 (fl r.2))] ∧ n = 1) := by
  unfold cell_does_1 at h
  refine spec_of (draw_ok _) Try.func47 rfl (by decide) rfl (by kernel_rfl) ?_
  refine chk_sx h (fun g203 h => ?_)
  have k202 : 0 ≤ cp ∧ cp < ((c0.length : Nat) : Int) := of_decide_eq_true g203
  refine seq_np ?_
  refine reg_f ?_
  refine rs 1 [] [] (by kernel_rfl) allP_nil ?_
  refine rf [(0, .ptr 0 (0 + (cp).toNat * 1))] [(0, .row 3 (fl c0))] 1 (by kernel_rfl) ?_
  refine wk_id ?_
  refine seq_np ?_
  refine reg_f ?_
  refine rs 4 [none, none, some ⟨iS (ix c0 cp), [], 1, [0]⟩] _ (by kernel_rfl) (allP_cons (ob_ld c0 cp 1 0 (0 + (cp).toNat * 1) k202 rfl (by decide) (by first | rfl | omega) (dflS Try.prog 3) (iS (ix c0 cp)) rfl 1 [0]) allP_nil) ?_
  refine rf [(6, iS (ix c0 cp))] [(0, .row 3 (fl c0))] 1 (by kernel_rfl) ?_
  refine wk_id ?_
  obtain rfl := Option.some.inj h
  refine ret_at (iS (ix c0 cp)) (by kernel_rfl) ?_
  exact ret_e [(0, 0)] [] (by simp only [push_cast, seval]) (by simp only [push_cast, seval]) rfl rfl rfl

set_option maxRecDepth 100000 in
set_option maxHeartbeats 200000000 in
theorem cell_does_2_spec (cp : Int) (xa : Int) (b : Int) (c0 : (List Int)) (r : Int × (List Int)) (h : cell_does_2 cp xa b c0 = some r) : SpecW Try.prog 48 [.ptr 0 (0 + (cp).toNat * 1), iS xa, iS b] [(0, .row 3 (fl c0))] 1 (fun x h n => x = iS r.1 ∧ h = [(0, .row 3 (fl r.2))] ∧ n = 1) := by
  unfold cell_does_2 at h
  refine spec_of (draw_ok _) Try.func48 rfl (by decide) rfl (by kernel_rfl) ?_
  refine chk_sx h (fun g212 h => ?_)
  have k211 : 0 ≤ cp ∧ cp < ((c0.length : Nat) : Int) := of_decide_eq_true g212
  refine seq_np ?_
  refine reg_f ?_
  refine rs 1 [] [] (by kernel_rfl) allP_nil ?_
  refine rf [(0, .ptr 0 (0 + (cp).toNat * 1)), (1, iS xa)] [(0, .row 3 (fl c0))] 1 (by kernel_rfl) ?_
  refine wk_id ?_
  refine seq_np ?_
  refine reg_f ?_
  refine rs 4 [none, none, none, some ⟨.any, [(0, .row 3 (fl (c0.set cp.toNat xa)))], 1, [0]⟩] _ (by kernel_rfl) (allP_cons (ob_st (P := Try.prog) c0 cp 1 0 (0 + (cp).toNat * 1) k211 rfl [iS xa] xa (Nat.le_of_ble_eq_true rfl) (by first | rfl | omega) rfl 0 1 3 3 (by kernel_rfl) rfl) allP_nil) ?_
  refine rf [] [(0, .row 3 (fl (c0.set cp.toNat xa)))] 1 (by kernel_rfl) ?_
  refine wk_id ?_
  refine seq_np ?_
  refine reg_f ?_
  refine rs 1 [] [] (by kernel_rfl) allP_nil ?_
  refine rf [(6, iS 0)] [(0, .row 3 (fl (c0.set cp.toNat xa)))] 1 (by kernel_rfl) ?_
  refine wk_id ?_
  obtain rfl := Option.some.inj h
  refine ret_at (iS 0) (by kernel_rfl) ?_
  exact ret_e [(0, 0)] [] (by simp only [push_cast, seval]) (by simp only [push_cast, seval]) rfl rfl rfl

set_option maxRecDepth 100000 in
set_option maxHeartbeats 200000000 in
theorem cell_does_3_spec (cp : Int) (xa : Int) (b : Int) (c0 : (List Int)) (r : Int × (List Int)) (h : cell_does_3 cp xa b c0 = some r) : SpecW Try.prog 49 [.ptr 0 (0 + (cp).toNat * 1), iS xa, iS b] [(0, .row 3 (fl c0))] 1 (fun x h n => x = iS r.1 ∧ h = [(0, .row 3 (fl r.2))] ∧ n = 1) := by
  unfold cell_does_3 at h
  refine spec_of (draw_ok _) Try.func49 rfl (by decide) rfl (by kernel_rfl) ?_
  refine chk_sx h (fun g221 h => ?_)
  have k220 : 0 ≤ cp ∧ cp < ((c0.length : Nat) : Int) := of_decide_eq_true g221
  refine seq_np ?_
  refine reg_f ?_
  refine rs 1 [] [] (by kernel_rfl) allP_nil ?_
  refine rf [(0, .ptr 0 (0 + (cp).toNat * 1)), (1, iS xa)] [(0, .row 3 (fl c0))] 1 (by kernel_rfl) ?_
  refine wk_id ?_
  refine seq_np ?_
  refine reg_f ?_
  refine rs 7 [none, none, some ⟨iS (ix c0 cp), [], 1, [0]⟩, none, none, none, some ⟨.any, [(0, .row 3 (fl (c0.set cp.toNat (IntKind.i64.wrap ((ix c0 cp) + xa)))))], 1, [0]⟩] _ (by kernel_rfl) (allP_cons (ob_st (P := Try.prog) c0 cp 1 0 (0 + (cp).toNat * 1) k220 rfl [iS (IntKind.i64.wrap ((ix c0 cp) + xa))] (IntKind.i64.wrap ((ix c0 cp) + xa)) (Nat.le_of_ble_eq_true rfl) (by first | rfl | omega) rfl 0 1 3 3 (by kernel_rfl) rfl) (allP_cons (ob_ld c0 cp 1 0 (0 + (cp).toNat * 1) k220 rfl (by decide) (by first | rfl | omega) (dflS Try.prog 3) (iS (ix c0 cp)) rfl 1 [0]) allP_nil)) ?_
  refine rf [(0, .ptr 0 (0 + (cp).toNat * 1))] [(0, .row 3 (fl (c0.set cp.toNat (IntKind.i64.wrap ((ix c0 cp) + xa)))))] 1 (by kernel_rfl) ?_
  refine wk_id ?_
  refine seq_np ?_
  refine reg_f ?_
  refine rs 4 [none, none, some ⟨iS (ix (c0.set cp.toNat (IntKind.i64.wrap ((ix c0 cp) + xa))) cp), [], 1, [0]⟩] _ (by kernel_rfl) (allP_cons (ob_ld (c0.set cp.toNat (IntKind.i64.wrap ((ix c0 cp) + xa))) cp 1 0 (0 + (cp).toNat * 1) (by rw [List.length_set]; exact k220) rfl (by decide) (by first | rfl | omega) (dflS Try.prog 3) (iS (ix (c0.set cp.toNat (IntKind.i64.wrap ((ix c0 cp) + xa))) cp)) rfl 1 [0]) allP_nil) ?_
  refine rf [(6, iS (ix (c0.set cp.toNat (IntKind.i64.wrap ((ix c0 cp) + xa))) cp))] [(0, .row 3 (fl (c0.set cp.toNat (IntKind.i64.wrap ((ix c0 cp) + xa)))))] 1 (by kernel_rfl) ?_
  refine wk_id ?_
  obtain rfl := Option.some.inj h
  refine ret_at (iS (ix (c0.set cp.toNat (IntKind.i64.wrap ((ix c0 cp) + xa))) cp)) (by kernel_rfl) ?_
  exact ret_e [(0, 0)] [] (by simp only [push_cast, seval]) (by simp only [push_cast, seval]) rfl rfl rfl

set_option maxRecDepth 100000 in
set_option maxHeartbeats 200000000 in
theorem cell_does_4_spec (cp : Int) (xa : Int) (b : Int) (c0 : (List Int)) (r : Int × (List Int)) (h : cell_does_4 cp xa b c0 = some r) : SpecW Try.prog 50 [.ptr 0 (0 + (cp).toNat * 1), iS xa, iS b] [(0, .row 3 (fl c0))] 1 (fun x h n => x = iS r.1 ∧ h = [(0, .row 3 (fl r.2))] ∧ n = 1) := by
  unfold cell_does_4 at h
  refine spec_of (draw_ok _) Try.func50 rfl (by decide) rfl (by kernel_rfl) ?_
  refine chk_sx h (fun g230 h => ?_)
  have k229 : 0 ≤ cp ∧ cp < ((c0.length : Nat) : Int) := of_decide_eq_true g230
  refine seq_np ?_
  refine reg_f ?_
  refine rs 1 [] [] (by kernel_rfl) allP_nil ?_
  refine rf [(0, .ptr 0 (0 + (cp).toNat * 1)), (1, iS xa)] [(0, .row 3 (fl c0))] 1 (by kernel_rfl) ?_
  refine wk_id ?_
  refine seq_np ?_
  refine reg_f ?_
  refine rs 4 [none, none, some ⟨iS (ix c0 cp), [], 1, [0]⟩] _ (by kernel_rfl) (allP_cons (ob_ld c0 cp 1 0 (0 + (cp).toNat * 1) k229 rfl (by decide) (by first | rfl | omega) (dflS Try.prog 3) (iS (ix c0 cp)) rfl 1 [0]) allP_nil) ?_
  refine rf [(0, .ptr 0 (0 + (cp).toNat * 1)), (1, iS xa), (7, iS (ix c0 cp))] [(0, .row 3 (fl c0))] 1 (by kernel_rfl) ?_
  refine wk_id ?_
  refine seq_np ?_
  refine reg_f ?_
  refine rs 4 [none, none, none, some ⟨.any, [(0, .row 3 (fl (c0.set cp.toNat xa)))], 1, [0]⟩] _ (by kernel_rfl) (allP_cons (ob_st (P := Try.prog) c0 cp 1 0 (0 + (cp).toNat * 1) k229 rfl [iS xa] xa (Nat.le_of_ble_eq_true rfl) (by first | rfl | omega) rfl 0 1 3 3 (by kernel_rfl) rfl) allP_nil) ?_
  refine rf [(7, iS (ix c0 cp))] [(0, .row 3 (fl (c0.set cp.toNat xa)))] 1 (by kernel_rfl) ?_
  refine wk_id ?_
  refine seq_np ?_
  refine reg_f ?_
  refine rs 2 [] [] (by kernel_rfl) allP_nil ?_
  refine rf [(6, iS (ix c0 cp))] [(0, .row 3 (fl (c0.set cp.toNat xa)))] 1 (by kernel_rfl) ?_
  refine wk_id ?_
  obtain rfl := Option.some.inj h
  refine ret_at (iS (ix c0 cp)) (by kernel_rfl) ?_
  exact ret_e [(0, 0)] [] (by simp only [push_cast, seval]) (by simp only [push_cast, seval]) rfl rfl rfl

set_option maxRecDepth 100000 in
set_option maxHeartbeats 200000000 in
theorem cell_does_5_spec (cp : Int) (xa : Int) (b : Int) (c0 : (List Int)) (r : Int × (List Int)) (h : cell_does_5 cp xa b c0 = some r) : SpecW Try.prog 51 [.ptr 0 (0 + (cp).toNat * 1), iS xa, iS b] [(0, .row 3 (fl c0))] 1 (fun x h n => x = iS r.1 ∧ h = [(0, .row 3 (fl r.2))] ∧ n = 1) := by
  unfold cell_does_5 at h
  refine spec_of (draw_ok _) Try.func51 rfl (by decide) rfl (by kernel_rfl) ?_
  refine chk_sx h (fun g239 h => ?_)
  have k238 : 0 ≤ cp ∧ cp < ((c0.length : Nat) : Int) := of_decide_eq_true g239
  refine seq_np ?_
  refine reg_f ?_
  refine rs 1 [] [] (by kernel_rfl) allP_nil ?_
  refine rf [(0, .ptr 0 (0 + (cp).toNat * 1)), (1, iS xa), (2, iS b)] [(0, .row 3 (fl c0))] 1 (by kernel_rfl) ?_
  refine wk_id ?_
  refine seq_np ?_
  refine seq_np ?_
  refine reg_f ?_
  refine rs 5 [none, none, some ⟨iS (ix c0 cp), [], 1, [0]⟩] _ (by kernel_rfl) (allP_cons (ob_ld c0 cp 1 0 (0 + (cp).toNat * 1) k238 rfl (by decide) (by first | rfl | omega) (dflS Try.prog 3) (iS (ix c0 cp)) rfl 1 [0]) allP_nil) ?_
  refine rf [(0, .ptr 0 (0 + (cp).toNat * 1)), (2, iS b), (11, bS ((ix c0 cp) != xa))] [(0, .row 3 (fl c0))] 1 (by kernel_rfl) ?_
  refine wk_id ?_
  refine cond_sx h (by kernel_rfl) (fun g242 h => ?_) (fun g242 h => ?_)
  · refine seq_np ?_
    refine reg_f ?_
    refine rs 1 [] [] (by kernel_rfl) allP_nil ?_
    refine rf [(6, iS 0)] [(0, .row 3 (fl c0))] 1 (by kernel_rfl) ?_
    refine wk_id ?_
    obtain rfl := Option.some.inj h
    refine ret_at (iS 0) (by kernel_rfl) ?_
    exact ret_e [(0, 0)] [] (by simp only [push_cast, seval]) (by simp only [push_cast, seval]) rfl rfl rfl
  · refine wk_id ?_
    refine seq_np ?_
    refine reg_f ?_
    refine rs 4 [none, none, none, some ⟨.any, [(0, .row 3 (fl (c0.set cp.toNat b)))], 1, [0]⟩] _ (by kernel_rfl) (allP_cons (ob_st (P := Try.prog) c0 cp 1 0 (0 + (cp).toNat * 1) k238 rfl [iS b] b (Nat.le_of_ble_eq_true rfl) (by first | rfl | omega) rfl 0 1 3 3 (by kernel_rfl) rfl) allP_nil) ?_
    refine rf [] [(0, .row 3 (fl (c0.set cp.toNat b)))] 1 (by kernel_rfl) ?_
    refine wk_id ?_
    refine seq_np ?_
    refine reg_f ?_
    refine rs 1 [] [] (by kernel_rfl) allP_nil ?_
    refine rf [(6, iS 1)] [(0, .row 3 (fl (c0.set cp.toNat b)))] 1 (by kernel_rfl) ?_
    refine wk_id ?_
    obtain rfl := Option.some.inj h
    refine ret_at (iS 1) (by kernel_rfl) ?_
    exact ret_e [(0, 0)] [] (by simp only [push_cast, seval]) (by simp only [push_cast, seval]) rfl rfl rfl

set_option maxRecDepth 100000 in
set_option maxHeartbeats 200000000 in
theorem cell_Do_1_spec (xo : GOp) (c0 : (List Int)) (r : Int × (List Int)) (h : cell_Do_1 xo c0 = some r) : SpecW Try.prog 33 [.own 0 0 c0.length, .agg (Enc.cells xo)] [(0, .row 3 (fl c0))] 1 (fun x h n => x = iS r.1 ∧ h = [(0, .row 3 (fl r.2))] ∧ n = 1) := by
  unfold cell_Do_1 at h
  refine spec_of (draw_ok _) Try.func33 rfl (by decide) rfl (by kernel_rfl) ?_
  refine seq_np ?_
  refine reg_f ?_
  refine rs 2 [] [] (by kernel_rfl) allP_nil ?_
  refine rf [(0, .own 0 0 c0.length), (3, .ptr 1 0)] [(0, .row 3 (fl c0)), (1, .row 50 (Enc.cells xo))] 2 (by kernel_rfl) ?_
  refine wk_id ?_
  refine split_s h (fun g247 h => ?_) (fun g248 h => ?_)
  · refine seq_np ?_
    refine reg_t ?_
    obtain ⟨r254, hr254, h⟩ := bind_sx h
    refine call_x (cell_does_spec r254 hr254) (args := []) (dst := (some 5)) (by kernel_rfl) [(0, .row 3 (fl c0)), (1, .row 50 (Enc.cells xo))] 2 (by kernel_rfl) [] [] (.mp 2) [(2, .map [(.int .i64 1, .v (.func (.func 47) #[] #[])), (.int .i64 2, .v (.func (.func 48) #[] #[])), (.int .i64 3, .v (.func (.func 49) #[] #[])), (.int .i64 4, .v (.func (.func 50) #[] #[])), (.int .i64 5, .v (.func (.func 51) #[] #[]))])] (by simp only [push_cast, seval]) (by simp only [push_cast, seval]) (by kernel_rfl) (.inl rfl) (by simp only [push_cast, seval]) (by simp only [push_cast, seval]) ?_
    refine rs 2 [] [] (by kernel_rfl) allP_nil ?_
    refine run_at 7 .i64 xo.Kind 1 g247 (by kernel_rfl) ?_
    refine chk_sx h (fun g256 h => ?_)
    have k255 : 0 ≤ xo.At ∧ xo.At < ((c0.length : Nat) : Int) := by first | simpa only [Bool.and_eq_true, decide_eq_true_eq, bne_iff_ne, ne_eq] using g256 | (simp at g256 ⊢; omega)
    refine rs 9 [some ⟨.v (.func (.func 47) #[] #[]), [], 6, [2]⟩, none, none, none, some ⟨.ptr 0 (0 + (xo.At).toNat * 1), [], 10, [0]⟩] _ (by kernel_rfl) (allP_cons (ob_ix_o 0 c0.length 0 1 10 xo.At k255) (allP_cons (ob_lookL (.int .i64) (.int .i64 1) (.v (.func (.func 47) #[] #[])) [(.int .i64 1, .v (.func (.func 47) #[] #[])), (.int .i64 2, .v (.func (.func 48) #[] #[])), (.int .i64 3, .v (.func (.func 49) #[] #[])), (.int .i64 4, .v (.func (.func 50) #[] #[])), (.int .i64 5, .v (.func (.func 51) #[] #[]))] 2 6 rfl rfl) allP_nil)) ?_
    obtain ⟨r257, hr257, h⟩ := bind_sx h
    refine call_x (cell_does_1_spec xo.At xo.A xo.B c0 r257 hr257) (args := [.ptr 0 (0 + (xo.At).toNat * 1), iS xo.A, iS xo.B]) (dst := (some 17)) (by kernel_rfl) [(0, .row 3 (fl c0)), (1, .row 50 (Enc.cells xo)), (2, .map [(.int .i64 1, .v (.func (.func 47) #[] #[])), (.int .i64 2, .v (.func (.func 48) #[] #[])), (.int .i64 3, .v (.func (.func 49) #[] #[])), (.int .i64 4, .v (.func (.func 50) #[] #[])), (.int .i64 5, .v (.func (.func 51) #[] #[]))])] 15 (by kernel_rfl) [(0, 0)] [] (iS r257.1) [(0, .row 3 (fl r257.2)), (0, .dead)] (by simp only [push_cast, seval]) (by simp only [push_cast, seval]) (by kernel_rfl) (.inl rfl) (by simp only [push_cast, seval]) (by simp only [push_cast, seval]) ?_
    refine rs 1 [] [] (by kernel_rfl) allP_nil ?_
    refine rt [(4, iS r257.1)] [(0, .row 3 (fl r257.2)), (1, .row 50 (Enc.cells xo)), (2, .map [(.int .i64 1, .v (.func (.func 47) #[] #[])), (.int .i64 2, .v (.func (.func 48) #[] #[])), (.int .i64 3, .v (.func (.func 49) #[] #[])), (.int .i64 4, .v (.func (.func 50) #[] #[])), (.int .i64 5, .v (.func (.func 51) #[] #[]))])] 18 follows (by kernel_rfl) ?_
    refine wk_id ?_
    obtain rfl := Option.some.inj h
    refine ret_at (iS r257.1) (by kernel_rfl) ?_
    exact ret_e [(0, 0)] [] (by simp only [push_cast, seval]) (by simp only [push_cast, seval]) rfl rfl rfl
  refine split_s h (fun g259 h => ?_) (fun g260 h => ?_)
  · refine seq_np ?_
    refine reg_t ?_
    obtain ⟨r266, hr266, h⟩ := bind_sx h
    refine call_x (cell_does_spec r266 hr266) (args := []) (dst := (some 5)) (by kernel_rfl) [(0, .row 3 (fl c0)), (1, .row 50 (Enc.cells xo))] 2 (by kernel_rfl) [] [] (.mp 2) [(2, .map [(.int .i64 1, .v (.func (.func 47) #[] #[])), (.int .i64 2, .v (.func (.func 48) #[] #[])), (.int .i64 3, .v (.func (.func 49) #[] #[])), (.int .i64 4, .v (.func (.func 50) #[] #[])), (.int .i64 5, .v (.func (.func 51) #[] #[]))])] (by simp only [push_cast, seval]) (by simp only [push_cast, seval]) (by kernel_rfl) (.inl rfl) (by simp only [push_cast, seval]) (by simp only [push_cast, seval]) ?_
    refine rs 2 [] [] (by kernel_rfl) allP_nil ?_
    refine run_at 7 .i64 xo.Kind 2 g259 (by kernel_rfl) ?_
    refine chk_sx h (fun g268 h => ?_)
    have k267 : 0 ≤ xo.At ∧ xo.At < ((c0.length : Nat) : Int) := by first | simpa only [Bool.and_eq_true, decide_eq_true_eq, bne_iff_ne, ne_eq] using g268 | (simp at g268 ⊢; omega)
    refine rs 9 [some ⟨.v (.func (.func 48) #[] #[]), [], 6, [2]⟩, none, none, none, some ⟨.ptr 0 (0 + (xo.At).toNat * 1), [], 10, [0]⟩] _ (by kernel_rfl) (allP_cons (ob_ix_o 0 c0.length 0 1 10 xo.At k267) (allP_cons (ob_lookL (.int .i64) (.int .i64 2) (.v (.func (.func 48) #[] #[])) [(.int .i64 1, .v (.func (.func 47) #[] #[])), (.int .i64 2, .v (.func (.func 48) #[] #[])), (.int .i64 3, .v (.func (.func 49) #[] #[])), (.int .i64 4, .v (.func (.func 50) #[] #[])), (.int .i64 5, .v (.func (.func 51) #[] #[]))] 2 6 rfl rfl) allP_nil)) ?_
    obtain ⟨r269, hr269, h⟩ := bind_sx h
    refine call_x (cell_does_2_spec xo.At xo.A xo.B c0 r269 hr269) (args := [.ptr 0 (0 + (xo.At).toNat * 1), iS xo.A, iS xo.B]) (dst := (some 17)) (by kernel_rfl) [(0, .row 3 (fl c0)), (1, .row 50 (Enc.cells xo)), (2, .map [(.int .i64 1, .v (.func (.func 47) #[] #[])), (.int .i64 2, .v (.func (.func 48) #[] #[])), (.int .i64 3, .v (.func (.func 49) #[] #[])), (.int .i64 4, .v (.func (.func 50) #[] #[])), (.int .i64 5, .v (.func (.func 51) #[] #[]))])] 15 (by kernel_rfl) [(0, 0)] [] (iS r269.1) [(0, .row 3 (fl r269.2)), (0, .dead)] (by simp only [push_cast, seval]) (by simp only [push_cast, seval]) (by kernel_rfl) (.inl rfl) (by simp only [push_cast, seval]) (by simp only [push_cast, seval]) ?_
    refine rs 1 [] [] (by kernel_rfl) allP_nil ?_
    refine rt [(4, iS r269.1)] [(0, .row 3 (fl r269.2)), (1, .row 50 (Enc.cells xo)), (2, .map [(.int .i64 1, .v (.func (.func 47) #[] #[])), (.int .i64 2, .v (.func (.func 48) #[] #[])), (.int .i64 3, .v (.func (.func 49) #[] #[])), (.int .i64 4, .v (.func (.func 50) #[] #[])), (.int .i64 5, .v (.func (.func 51) #[] #[]))])] 18 follows (by kernel_rfl) ?_
    refine wk_id ?_
    obtain rfl := Option.some.inj h
    refine ret_at (iS r269.1) (by kernel_rfl) ?_
    exact ret_e [(0, 0)] [] (by simp only [push_cast, seval]) (by simp only [push_cast, seval]) rfl rfl rfl
  refine split_s h (fun g271 h => ?_) (fun g272 h => ?_)
  · refine seq_np ?_
    refine reg_t ?_
    obtain ⟨r278, hr278, h⟩ := bind_sx h
    refine call_x (cell_does_spec r278 hr278) (args := []) (dst := (some 5)) (by kernel_rfl) [(0, .row 3 (fl c0)), (1, .row 50 (Enc.cells xo))] 2 (by kernel_rfl) [] [] (.mp 2) [(2, .map [(.int .i64 1, .v (.func (.func 47) #[] #[])), (.int .i64 2, .v (.func (.func 48) #[] #[])), (.int .i64 3, .v (.func (.func 49) #[] #[])), (.int .i64 4, .v (.func (.func 50) #[] #[])), (.int .i64 5, .v (.func (.func 51) #[] #[]))])] (by simp only [push_cast, seval]) (by simp only [push_cast, seval]) (by kernel_rfl) (.inl rfl) (by simp only [push_cast, seval]) (by simp only [push_cast, seval]) ?_
    refine rs 2 [] [] (by kernel_rfl) allP_nil ?_
    refine run_at 7 .i64 xo.Kind 3 g271 (by kernel_rfl) ?_
    refine chk_sx h (fun g280 h => ?_)
    have k279 : 0 ≤ xo.At ∧ xo.At < ((c0.length : Nat) : Int) := by first | simpa only [Bool.and_eq_true, decide_eq_true_eq, bne_iff_ne, ne_eq] using g280 | (simp at g280 ⊢; omega)
    refine rs 9 [some ⟨.v (.func (.func 49) #[] #[]), [], 6, [2]⟩, none, none, none, some ⟨.ptr 0 (0 + (xo.At).toNat * 1), [], 10, [0]⟩] _ (by kernel_rfl) (allP_cons (ob_ix_o 0 c0.length 0 1 10 xo.At k279) (allP_cons (ob_lookL (.int .i64) (.int .i64 3) (.v (.func (.func 49) #[] #[])) [(.int .i64 1, .v (.func (.func 47) #[] #[])), (.int .i64 2, .v (.func (.func 48) #[] #[])), (.int .i64 3, .v (.func (.func 49) #[] #[])), (.int .i64 4, .v (.func (.func 50) #[] #[])), (.int .i64 5, .v (.func (.func 51) #[] #[]))] 2 6 rfl rfl) allP_nil)) ?_
    obtain ⟨r281, hr281, h⟩ := bind_sx h
    refine call_x (cell_does_3_spec xo.At xo.A xo.B c0 r281 hr281) (args := [.ptr 0 (0 + (xo.At).toNat * 1), iS xo.A, iS xo.B]) (dst := (some 17)) (by kernel_rfl) [(0, .row 3 (fl c0)), (1, .row 50 (Enc.cells xo)), (2, .map [(.int .i64 1, .v (.func (.func 47) #[] #[])), (.int .i64 2, .v (.func (.func 48) #[] #[])), (.int .i64 3, .v (.func (.func 49) #[] #[])), (.int .i64 4, .v (.func (.func 50) #[] #[])), (.int .i64 5, .v (.func (.func 51) #[] #[]))])] 15 (by kernel_rfl) [(0, 0)] [] (iS r281.1) [(0, .row 3 (fl r281.2)), (0, .dead)] (by simp only [push_cast, seval]) (by simp only [push_cast, seval]) (by kernel_rfl) (.inl rfl) (by simp only [push_cast, seval]) (by simp only [push_cast, seval]) ?_
    refine rs 1 [] [] (by kernel_rfl) allP_nil ?_
    refine rt [(4, iS r281.1)] [(0, .row 3 (fl r281.2)), (1, .row 50 (Enc.cells xo)), (2, .map [(.int .i64 1, .v (.func (.func 47) #[] #[])), (.int .i64 2, .v (.func (.func 48) #[] #[])), (.int .i64 3, .v (.func (.func 49) #[] #[])), (.int .i64 4, .v (.func (.func 50) #[] #[])), (.int .i64 5, .v (.func (.func 51) #[] #[]))])] 18 follows (by kernel_rfl) ?_
    refine wk_id ?_
    obtain rfl := Option.some.inj h
    refine ret_at (iS r281.1) (by kernel_rfl) ?_
    exact ret_e [(0, 0)] [] (by simp only [push_cast, seval]) (by simp only [push_cast, seval]) rfl rfl rfl
  refine split_s h (fun g283 h => ?_) (fun g284 h => ?_)
  · refine seq_np ?_
    refine reg_t ?_
    obtain ⟨r290, hr290, h⟩ := bind_sx h
    refine call_x (cell_does_spec r290 hr290) (args := []) (dst := (some 5)) (by kernel_rfl) [(0, .row 3 (fl c0)), (1, .row 50 (Enc.cells xo))] 2 (by kernel_rfl) [] [] (.mp 2) [(2, .map [(.int .i64 1, .v (.func (.func 47) #[] #[])), (.int .i64 2, .v (.func (.func 48) #[] #[])), (.int .i64 3, .v (.func (.func 49) #[] #[])), (.int .i64 4, .v (.func (.func 50) #[] #[])), (.int .i64 5, .v (.func (.func 51) #[] #[]))])] (by simp only [push_cast, seval]) (by simp only [push_cast, seval]) (by kernel_rfl) (.inl rfl) (by simp only [push_cast, seval]) (by simp only [push_cast, seval]) ?_
    refine rs 2 [] [] (by kernel_rfl) allP_nil ?_
    refine run_at 7 .i64 xo.Kind 4 g283 (by kernel_rfl) ?_
    refine chk_sx h (fun g292 h => ?_)
    have k291 : 0 ≤ xo.At ∧ xo.At < ((c0.length : Nat) : Int) := by first | simpa only [Bool.and_eq_true, decide_eq_true_eq, bne_iff_ne, ne_eq] using g292 | (simp at g292 ⊢; omega)
    refine rs 9 [some ⟨.v (.func (.func 50) #[] #[]), [], 6, [2]⟩, none, none, none, some ⟨.ptr 0 (0 + (xo.At).toNat * 1), [], 10, [0]⟩] _ (by kernel_rfl) (allP_cons (ob_ix_o 0 c0.length 0 1 10 xo.At k291) (allP_cons (ob_lookL (.int .i64) (.int .i64 4) (.v (.func (.func 50) #[] #[])) [(.int .i64 1, .v (.func (.func 47) #[] #[])), (.int .i64 2, .v (.func (.func 48) #[] #[])), (.int .i64 3, .v (.func (.func 49) #[] #[])), (.int .i64 4, .v (.func (.func 50) #[] #[])), (.int .i64 5, .v (.func (.func 51) #[] #[]))] 2 6 rfl rfl) allP_nil)) ?_
    obtain ⟨r293, hr293, h⟩ := bind_sx h
    refine call_x (cell_does_4_spec xo.At xo.A xo.B c0 r293 hr293) (args := [.ptr 0 (0 + (xo.At).toNat * 1), iS xo.A, iS xo.B]) (dst := (some 17)) (by kernel_rfl) [(0, .row 3 (fl c0)), (1, .row 50 (Enc.cells xo)), (2, .map [(.int .i64 1, .v (.func (.func 47) #[] #[])), (.int .i64 2, .v (.func (.func 48) #[] #[])), (.int .i64 3, .v (.func (.func 49) #[] #[])), (.int .i64 4, .v (.func (.func 50) #[] #[])), (.int .i64 5, .v (.func (.func 51) #[] #[]))])] 15 (by kernel_rfl) [(0, 0)] [] (iS r293.1) [(0, .row 3 (fl r293.2)), (0, .dead)] (by simp only [push_cast, seval]) (by simp only [push_cast, seval]) (by kernel_rfl) (.inl rfl) (by simp only [push_cast, seval]) (by simp only [push_cast, seval]) ?_
    refine rs 1 [] [] (by kernel_rfl) allP_nil ?_
    refine rt [(4, iS r293.1)] [(0, .row 3 (fl r293.2)), (1, .row 50 (Enc.cells xo)), (2, .map [(.int .i64 1, .v (.func (.func 47) #[] #[])), (.int .i64 2, .v (.func (.func 48) #[] #[])), (.int .i64 3, .v (.func (.func 49) #[] #[])), (.int .i64 4, .v (.func (.func 50) #[] #[])), (.int .i64 5, .v (.func (.func 51) #[] #[]))])] 18 follows (by kernel_rfl) ?_
    refine wk_id ?_
    obtain rfl := Option.some.inj h
    refine ret_at (iS r293.1) (by kernel_rfl) ?_
    exact ret_e [(0, 0)] [] (by simp only [push_cast, seval]) (by simp only [push_cast, seval]) rfl rfl rfl
  refine split_s h (fun g295 h => ?_) (fun g296 h => ?_)
  · refine seq_np ?_
    refine reg_t ?_
    obtain ⟨r302, hr302, h⟩ := bind_sx h
    refine call_x (cell_does_spec r302 hr302) (args := []) (dst := (some 5)) (by kernel_rfl) [(0, .row 3 (fl c0)), (1, .row 50 (Enc.cells xo))] 2 (by kernel_rfl) [] [] (.mp 2) [(2, .map [(.int .i64 1, .v (.func (.func 47) #[] #[])), (.int .i64 2, .v (.func (.func 48) #[] #[])), (.int .i64 3, .v (.func (.func 49) #[] #[])), (.int .i64 4, .v (.func (.func 50) #[] #[])), (.int .i64 5, .v (.func (.func 51) #[] #[]))])] (by simp only [push_cast, seval]) (by simp only [push_cast, seval]) (by kernel_rfl) (.inl rfl) (by simp only [push_cast, seval]) (by simp only [push_cast, seval]) ?_
    refine rs 2 [] [] (by kernel_rfl) allP_nil ?_
    refine run_at 7 .i64 xo.Kind 5 g295 (by kernel_rfl) ?_
    refine chk_sx h (fun g304 h => ?_)
    have k303 : 0 ≤ xo.At ∧ xo.At < ((c0.length : Nat) : Int) := by first | simpa only [Bool.and_eq_true, decide_eq_true_eq, bne_iff_ne, ne_eq] using g304 | (simp at g304 ⊢; omega)
    refine rs 9 [some ⟨.v (.func (.func 51) #[] #[]), [], 6, [2]⟩, none, none, none, some ⟨.ptr 0 (0 + (xo.At).toNat * 1), [], 10, [0]⟩] _ (by kernel_rfl) (allP_cons (ob_ix_o 0 c0.length 0 1 10 xo.At k303) (allP_cons (ob_lookL (.int .i64) (.int .i64 5) (.v (.func (.func 51) #[] #[])) [(.int .i64 1, .v (.func (.func 47) #[] #[])), (.int .i64 2, .v (.func (.func 48) #[] #[])), (.int .i64 3, .v (.func (.func 49) #[] #[])), (.int .i64 4, .v (.func (.func 50) #[] #[])), (.int .i64 5, .v (.func (.func 51) #[] #[]))] 2 6 rfl rfl) allP_nil)) ?_
    obtain ⟨r305, hr305, h⟩ := bind_sx h
    refine call_x (cell_does_5_spec xo.At xo.A xo.B c0 r305 hr305) (args := [.ptr 0 (0 + (xo.At).toNat * 1), iS xo.A, iS xo.B]) (dst := (some 17)) (by kernel_rfl) [(0, .row 3 (fl c0)), (1, .row 50 (Enc.cells xo)), (2, .map [(.int .i64 1, .v (.func (.func 47) #[] #[])), (.int .i64 2, .v (.func (.func 48) #[] #[])), (.int .i64 3, .v (.func (.func 49) #[] #[])), (.int .i64 4, .v (.func (.func 50) #[] #[])), (.int .i64 5, .v (.func (.func 51) #[] #[]))])] 15 (by kernel_rfl) [(0, 0)] [] (iS r305.1) [(0, .row 3 (fl r305.2)), (0, .dead)] (by simp only [push_cast, seval]) (by simp only [push_cast, seval]) (by kernel_rfl) (.inl rfl) (by simp only [push_cast, seval]) (by simp only [push_cast, seval]) ?_
    refine rs 1 [] [] (by kernel_rfl) allP_nil ?_
    refine rt [(4, iS r305.1)] [(0, .row 3 (fl r305.2)), (1, .row 50 (Enc.cells xo)), (2, .map [(.int .i64 1, .v (.func (.func 47) #[] #[])), (.int .i64 2, .v (.func (.func 48) #[] #[])), (.int .i64 3, .v (.func (.func 49) #[] #[])), (.int .i64 4, .v (.func (.func 50) #[] #[])), (.int .i64 5, .v (.func (.func 51) #[] #[]))])] 18 follows (by kernel_rfl) ?_
    refine wk_id ?_
    obtain rfl := Option.some.inj h
    refine ret_at (iS r305.1) (by kernel_rfl) ?_
    exact ret_e [(0, 0)] [] (by simp only [push_cast, seval]) (by simp only [push_cast, seval]) rfl rfl rfl
  refine seq_np ?_
  refine reg_t ?_
  obtain ⟨r308, hr308, h⟩ := bind_sx h
  refine call_x (cell_does_spec r308 hr308) (args := []) (dst := (some 5)) (by kernel_rfl) [(0, .row 3 (fl c0)), (1, .row 50 (Enc.cells xo))] 2 (by kernel_rfl) [] [] (.mp 2) [(2, .map [(.int .i64 1, .v (.func (.func 47) #[] #[])), (.int .i64 2, .v (.func (.func 48) #[] #[])), (.int .i64 3, .v (.func (.func 49) #[] #[])), (.int .i64 4, .v (.func (.func 50) #[] #[])), (.int .i64 5, .v (.func (.func 51) #[] #[]))])] (by simp only [push_cast, seval]) (by simp only [push_cast, seval]) (by kernel_rfl) (.inl rfl) (by simp only [push_cast, seval]) (by simp only [push_cast, seval]) ?_
  cases h

set_option maxRecDepth 100000 in
set_option maxHeartbeats 200000000 in
theorem taskmilllaw_cellBegun_spec (r : Bool) (h : taskmilllaw_cellBegun = some r) : SpecW Try.prog 10 [] [] 0 (fun x h n => x = bS r ∧ h = [] ∧ n = 0) := by
  unfold taskmilllaw_cellBegun at h
  obtain rfl := Option.some.inj h
  exact closed_call follows 10000 1000 (by kernel_rfl)

set_option maxRecDepth 100000 in
set_option maxHeartbeats 200000000 in
theorem cell_Mix_spec (mem : (List Int)) (tasks : (List (List GOp))) (picks : (List Int)) (r : Fault × (List Int) × (List (List Int))) (h : cell_Mix mem tasks picks = some r) : SpecW Try.prog 27 [.sl mem.length (fl mem), .sl tasks.length (fl tasks), .sl picks.length (fl picks)] [] 0 (fun x h n => x = .tup [.own 0 0 r.2.1.length, .own 1 0 r.2.2.length, .agg (Enc.cells r.1)] ∧ h = [(0, .row 3 (fl r.2.1)), (1, .row 22 (flD dLListInt [2] r.2.2)), ((.s 2 0), .fam (famD dLListInt 0 r.2.2))] ∧ n = 3) := by
  unfold cell_Mix at h
  refine spec_of (draw_ok _) Try.func27 rfl (by decide) rfl (by kernel_rfl) ?_
  refine seq_np ?_
  refine reg_f ?_
  refine rs 3 [] [] (by kernel_rfl) allP_nil ?_
  refine rf [(0, .sl mem.length (fl mem)), (1, .sl tasks.length (fl tasks)), (2, .sl picks.length (fl picks)), (8, .ptr 0 0)] [(0, .row 28 [iS 0, iS 0])] 1 (by kernel_rfl) ?_
  refine wk_id ?_
  refine seq_np ?_
  refine seq_cut (A := Unit) (fun _ => ([(0, .sl mem.length (fl mem)), (1, .sl tasks.length (fl tasks)), (2, .sl picks.length (fl picks)), (8, .ptr 0 0), (26, bS ((decide ((64 : Int) < ((tasks.length : Nat) : Int))) || (decide ((5000 : Int) < ((picks.length : Nat) : Int)))))], [(0, .row 28 [iS 0, iS 0])], 1)) (fun _ => True) (fun K1560 hK1560 => ?_) (fun _ _ => ?_)
  · refine reg_f ?_
    refine rs 4 [] [] (by kernel_rfl) allP_nil ?_
    refine run_split 22 (decide ((64 : Int) < ((tasks.length : Nat) : Int))) (.inl (by kernel_rfl)) (fun g1561 => ?_) (fun g1561 => ?_)
    · refine rs 4 [] [] (by kernel_rfl) allP_nil ?_
      refine rf [(0, .sl mem.length (fl mem)), (1, .sl tasks.length (fl tasks)), (2, .sl picks.length (fl picks)), (8, .ptr 0 0), (26, bS true)] [(0, .row 28 [iS 0, iS 0])] 1 (by kernel_rfl) ?_
      exact hK1560 () _ _ _ trivial (leSt_m [(0, 0)] [] (by (try simp only [g1561]) <;> simp only [push_cast, leL_flD, renL_flD, seval]) (by (try simp only [g1561]) <;> simp only [push_cast, leL_flD, renL_flD, seval]) rfl rfl rfl)
    · refine rs 4 [] [] (by kernel_rfl) allP_nil ?_
      refine rf [(0, .sl mem.length (fl mem)), (1, .sl tasks.length (fl tasks)), (2, .sl picks.length (fl picks)), (8, .ptr 0 0), (26, bS (decide ((5000 : Int) < ((picks.length : Nat) : Int))))] [(0, .row 28 [iS 0, iS 0])] 1 (by kernel_rfl) ?_
      exact hK1560 () _ _ _ trivial (leSt_m [(0, 0)] [] (by (try simp only [g1561]) <;> simp only [push_cast, leL_flD, renL_flD, seval]) (by (try simp only [g1561]) <;> simp only [push_cast, leL_flD, renL_flD, seval]) rfl rfl rfl)
  · dsimp only
    refine cond_sx h (by kernel_rfl) (fun g1975 h => ?_) (fun g1975 h => ?_)
    · refine seq_np ?_
      refine reg_f ?_
      obtain ⟨r1563, hr1563, h⟩ := bind_sx h
      refine run_call 29 [iS 2, iS 0] (some 27) (by kernel_rfl) ?_
      refine call_0 (cell_fault_spec 2 0 r1563 hr1563) (by simp only [push_cast, leL_flD, renL_flD, seval]) (by simp only [push_cast, leL_flD, renL_flD, seval]) ?_
      refine back_f ?_
      refine rs 3 [] [] (by kernel_rfl) allP_nil ?_
      refine rf [(6, .v (.slice none 0 0)), (7, .v (.slice none 0 0)), (8, .ptr 0 0)] [(0, .row 28 (Enc.cells r1563))] 1 (by kernel_rfl) ?_
      refine wk_id ?_
      obtain rfl := Option.some.inj h
      refine ret_at (.tup [.v (.slice none 0 0), .v (.slice none 0 0), .agg (Enc.cells r1563)]) (by kernel_rfl) ?_
      exact ret_e [] [] (by simp only [push_cast, leL_flD, renL_flD, seval]) (by simp only [push_cast, leL_flD, renL_flD, seval]) rfl rfl rfl
    · refine wk_id ?_
      refine seq_np ?_
      refine seq_np ?_
      refine reg_f ?_
      refine rs 3 [] [] (by kernel_rfl) allP_nil ?_
      refine rf [(0, .sl mem.length (fl mem)), (1, .sl tasks.length (fl tasks)), (2, .sl picks.length (fl picks)), (8, .ptr 0 0), (28, .sl tasks.length (fl tasks)), (29, iS ((tasks.length : Nat) : Int)), (30, iS 0)] [(0, .row 28 [iS 0, iS 0])] 1 (by kernel_rfl) ?_
      refine wk_id ?_
      refine block_np ?_
      refine loop_sx (S := Int) (fun a => ([(0, .sl mem.length (fl mem)), (1, .sl tasks.length (fl tasks)), (2, .sl picks.length (fl picks)), (8, .ptr 0 0), (28, .sl tasks.length (fl tasks)), (29, iS ((tasks.length : Nat) : Int)), (30, iS a)], [(0, .row 28 [iS 0, iS 0])], 1)) h (leSt_m [(0, 0)] [] (by simp only [push_cast, leL_flD, renL_flD, seval]) (by simp only [push_cast, leL_flD, renL_flD, seval]) rfl rfl rfl) ?_
      rintro t30q7 o4 R4 h hr4 hn4 hx4 ht4
      try dsimp only at h hn4 ⊢
      unfold cell_Mix_l3 at h
      try dsimp only at h
      refine seq_np ?_
      refine reg_f ?_
      refine rs 1 [] [] (by kernel_rfl) allP_nil ?_
      refine rf [(0, .sl mem.length (fl mem)), (1, .sl tasks.length (fl tasks)), (2, .sl picks.length (fl picks)), (8, .ptr 0 0), (28, .sl tasks.length (fl tasks)), (29, iS ((tasks.length : Nat) : Int)), (30, iS t30q7), (31, bS (decide (t30q7 < ((tasks.length : Nat) : Int))))] [(0, .row 28 [iS 0, iS 0])] 1 (by kernel_rfl) ?_
      refine wk_id ?_
      refine seq_np ?_
      refine cond_sx h (by kernel_rfl) (fun g1974 h => ?_) (fun g1974 h => ?_)
      · refine wk_id ?_
        refine seq_np ?_
        refine block_np ?_
        refine chk_sx h (fun g1619 h => ?_)
        refine seq_np ?_
        refine reg_f ?_
        have k1618 : 0 ≤ t30q7 ∧ t30q7 < ((tasks.length : Nat) : Int) := by first | simpa only [Bool.and_eq_true, decide_eq_true_eq, bne_iff_ne, ne_eq] using g1619 | (simp at g1619 ⊢; omega)
        refine rs 3 [some ⟨.iptr (fl tasks) ((t30q7).toNat * 1), [], 1, []⟩, some ⟨.sl (ix tasks t30q7).length (fl (ix tasks t30q7)), [], 1, []⟩] _ (by kernel_rfl) (allP_cons (ob_ld tasks t30q7 1 0 ((t30q7).toNat * 1) k1618 rfl (by decide) (by first | rfl | omega) (dflS Try.prog 39) (.sl (ix tasks t30q7).length (fl (ix tasks t30q7))) rfl 1 []) (allP_cons (ob_ix_l tasks 1 1 t30q7 k1618) allP_nil)) ?_
        refine rf [(0, .sl mem.length (fl mem)), (1, .sl tasks.length (fl tasks)), (2, .sl picks.length (fl picks)), (8, .ptr 0 0), (10, .sl (ix tasks t30q7).length (fl (ix tasks t30q7))), (28, .sl tasks.length (fl tasks)), (29, iS ((tasks.length : Nat) : Int)), (30, iS t30q7)] [(0, .row 28 [iS 0, iS 0])] 1 (by kernel_rfl) ?_
        refine wk_id ?_
        refine seq_np ?_
        refine reg_f ?_
        refine rs 2 [] [] (by kernel_rfl) allP_nil ?_
        obtain ⟨r1621, hr1621, h⟩ := bind_sx h
        refine run_call 21 [.sl mem.length (fl mem), .sl (ix tasks t30q7).length (fl (ix tasks t30q7))] (some 36) (by kernel_rfl) ?_
        refine call_0 (cell_Check_spec mem (ix tasks t30q7) r1621 hr1621) (by simp only [push_cast, leL_flD, renL_flD, seval]) (by simp only [push_cast, leL_flD, renL_flD, seval]) ?_
        refine back_f ?_
        refine rs 2 [] [] (by kernel_rfl) allP_nil ?_
        refine rf [(0, .sl mem.length (fl mem)), (1, .sl tasks.length (fl tasks)), (2, .sl picks.length (fl picks)), (8, .ptr 0 0), (11, .ptr 1 0), (28, .sl tasks.length (fl tasks)), (29, iS ((tasks.length : Nat) : Int)), (30, iS t30q7)] [(0, .row 28 [iS 0, iS 0]), (1, .row 28 (Enc.cells r1621))] 2 (by kernel_rfl) ?_
        refine wk_id ?_
        refine seq_np ?_
        refine reg_f ?_
        refine rs 3 [] [] (by kernel_rfl) allP_nil ?_
        refine rf [(0, .sl mem.length (fl mem)), (1, .sl tasks.length (fl tasks)), (2, .sl picks.length (fl picks)), (8, .ptr 0 0), (11, .ptr 1 0), (28, .sl tasks.length (fl tasks)), (29, iS ((tasks.length : Nat) : Int)), (30, iS t30q7), (39, bS (r1621.Code != 0))] [(0, .row 28 [iS 0, iS 0]), (1, .row 28 (Enc.cells r1621))] 2 (by kernel_rfl) ?_
        refine wk_id ?_
        refine cond_sx h (by kernel_rfl) (fun g1622 h => ?_) (fun g1622 h => ?_)
        · refine seq_np ?_
          refine reg_t ?_
          refine rs 4 [] [] (by kernel_rfl) allP_nil ?_
          refine rt [(6, .v (.slice none 0 0)), (7, .v (.slice none 0 0)), (8, .ptr 0 0)] [(0, .row 28 (Enc.cells r1621)), (1, .row 28 (Enc.cells r1621))] 6 follows (by kernel_rfl) ?_
          refine wk_id ?_
          refine rt_cast ht4 ?_
          obtain ⟨r0, h, e0⟩ := map_sx h
          have e1 := hr4 r0 e0.symm
          subst r0
          obtain rfl := Option.some.inj h
          refine ret_at (.tup [.v (.slice none 0 0), .v (.slice none 0 0), .agg (Enc.cells r1621)]) (by kernel_rfl) ?_
          exact ret_e [] [] (by simp only [push_cast, leL_flD, renL_flD, seval]) (by simp only [push_cast, leL_flD, renL_flD, seval]) rfl rfl rfl
        · refine wk_id ?_
          refine wk_id ?_
          refine reg_f ?_
          refine rs 2 [] [] (by kernel_rfl) allP_nil ?_
          refine rf [(0, .sl mem.length (fl mem)), (1, .sl tasks.length (fl tasks)), (2, .sl picks.length (fl picks)), (8, .ptr 0 0), (28, .sl tasks.length (fl tasks)), (29, iS ((tasks.length : Nat) : Int)), (30, iS (IntKind.i64.wrap (t30q7 + 1)))] [(0, .row 28 [iS 0, iS 0]), (1, .row 28 (Enc.cells r1621))] 2 (by kernel_rfl) ?_
          exact hn4 ((IntKind.i64.wrap (t30q7 + 1))) _ _ _ (Option.some.inj h).symm (leSt_m [(0, 0)] [] (by simp only [push_cast, leL_flD, renL_flD, seval]) (by simp only [push_cast, leL_flD, renL_flD, seval]) rfl rfl rfl)
      · change R4 (.exit 0) _ _ _
        refine ex_cast hx4 (id := 0) ?_
        obtain ⟨r0, h, e0⟩ := map_sx h
        have e1 := hr4 r0 e0.symm
        subst r0
        refine wk_id ?_
        refine wk_id ?_
        refine seq_np ?_
        refine seq_np ?_
        refine reg_f ?_
        refine rs 3 [] [] (by kernel_rfl) allP_nil ?_
        refine rf [(0, .sl mem.length (fl mem)), (1, .sl tasks.length (fl tasks)), (2, .sl picks.length (fl picks)), (8, .ptr 0 0), (42, .sl picks.length (fl picks)), (43, iS ((picks.length : Nat) : Int)), (44, iS 0)] [(0, .row 28 [iS 0, iS 0])] 1 (by kernel_rfl) ?_
        refine wk_id ?_
        refine block_np ?_
        refine loop_sx (S := Int) (fun a => ([(0, .sl mem.length (fl mem)), (1, .sl tasks.length (fl tasks)), (2, .sl picks.length (fl picks)), (8, .ptr 0 0), (42, .sl picks.length (fl picks)), (43, iS ((picks.length : Nat) : Int)), (44, iS a)], [(0, .row 28 [iS 0, iS 0])], 1)) h (leSt_m [(0, 0)] [] (by simp only [push_cast, leL_flD, renL_flD, seval]) (by simp only [push_cast, leL_flD, renL_flD, seval]) rfl rfl rfl) ?_
        rintro t44q7 o5 R5 h hr5 hn5 hx5 ht5
        try dsimp only at h hn5 ⊢
        unfold cell_Mix_l2 at h
        try dsimp only at h
        refine seq_np ?_
        refine reg_f ?_
        refine rs 1 [] [] (by kernel_rfl) allP_nil ?_
        refine rf [(0, .sl mem.length (fl mem)), (1, .sl tasks.length (fl tasks)), (2, .sl picks.length (fl picks)), (8, .ptr 0 0), (42, .sl picks.length (fl picks)), (43, iS ((picks.length : Nat) : Int)), (44, iS t44q7), (45, bS (decide (t44q7 < ((picks.length : Nat) : Int))))] [(0, .row 28 [iS 0, iS 0])] 1 (by kernel_rfl) ?_
        refine wk_id ?_
        refine seq_np ?_
        refine cond_sx h (by kernel_rfl) (fun g1973 h => ?_) (fun g1973 h => ?_)
        · refine wk_id ?_
          refine seq_np ?_
          refine block_np ?_
          refine chk_sx h (fun g1688 h => ?_)
          refine seq_np ?_
          refine reg_f ?_
          have k1687 : 0 ≤ t44q7 ∧ t44q7 < ((picks.length : Nat) : Int) := by first | simpa only [Bool.and_eq_true, decide_eq_true_eq, bne_iff_ne, ne_eq] using g1688 | (simp at g1688 ⊢; omega)
          refine rs 5 [none, some ⟨.iptr (fl picks) ((t44q7).toNat * 1), [], 1, []⟩, some ⟨iS (ix picks t44q7), [], 1, []⟩] _ (by kernel_rfl) (allP_cons (ob_ld picks t44q7 1 0 ((t44q7).toNat * 1) k1687 rfl (by decide) (by first | rfl | omega) (dflS Try.prog 3) (iS (ix picks t44q7)) rfl 1 []) (allP_cons (ob_ix_l picks 1 1 t44q7 k1687) allP_nil)) ?_
          refine rf [(0, .sl mem.length (fl mem)), (1, .sl tasks.length (fl tasks)), (2, .sl picks.length (fl picks)), (8, .ptr 0 0), (12, iS t44q7), (13, iS (ix picks t44q7)), (42, .sl picks.length (fl picks)), (43, iS ((picks.length : Nat) : Int)), (44, iS t44q7)] [(0, .row 28 [iS 0, iS 0])] 1 (by kernel_rfl) ?_
          refine wk_id ?_
          refine seq_cut (A := Unit) (fun _ => ([(0, .sl mem.length (fl mem)), (1, .sl tasks.length (fl tasks)), (2, .sl picks.length (fl picks)), (8, .ptr 0 0), (12, iS t44q7), (42, .sl picks.length (fl picks)), (43, iS ((picks.length : Nat) : Int)), (44, iS t44q7), (56, bS ((decide ((ix picks t44q7) < 0)) || (decide (((tasks.length : Nat) : Int) ≤ (ix picks t44q7)))))], [(0, .row 28 [iS 0, iS 0])], 1)) (fun _ => True) (fun K1690 hK1690 => ?_) (fun _ _ => ?_)
          · refine reg_f ?_
            refine rs 3 [] [] (by kernel_rfl) allP_nil ?_
            refine run_split 51 (decide ((ix picks t44q7) < 0)) (.inl (by kernel_rfl)) (fun g1691 => ?_) (fun g1691 => ?_)
            · refine rs 5 [] [] (by kernel_rfl) allP_nil ?_
              refine rf [(0, .sl mem.length (fl mem)), (1, .sl tasks.length (fl tasks)), (2, .sl picks.length (fl picks)), (8, .ptr 0 0), (12, iS t44q7), (42, .sl picks.length (fl picks)), (43, iS ((picks.length : Nat) : Int)), (44, iS t44q7), (56, bS true)] [(0, .row 28 [iS 0, iS 0])] 1 (by kernel_rfl) ?_
              exact hK1690 () _ _ _ trivial (leSt_m [(0, 0)] [] (by (try simp only [g1691]) <;> simp only [push_cast, leL_flD, renL_flD, seval]) (by (try simp only [g1691]) <;> simp only [push_cast, leL_flD, renL_flD, seval]) rfl rfl rfl)
            · refine rs 5 [] [] (by kernel_rfl) allP_nil ?_
              refine rf [(0, .sl mem.length (fl mem)), (1, .sl tasks.length (fl tasks)), (2, .sl picks.length (fl picks)), (8, .ptr 0 0), (12, iS t44q7), (42, .sl picks.length (fl picks)), (43, iS ((picks.length : Nat) : Int)), (44, iS t44q7), (56, bS (decide (((tasks.length : Nat) : Int) ≤ (ix picks t44q7))))] [(0, .row 28 [iS 0, iS 0])] 1 (by kernel_rfl) ?_
              exact hK1690 () _ _ _ trivial (leSt_m [(0, 0)] [] (by (try simp only [g1691]) <;> simp only [push_cast, leL_flD, renL_flD, seval]) (by (try simp only [g1691]) <;> simp only [push_cast, leL_flD, renL_flD, seval]) rfl rfl rfl)
          · dsimp only
            refine cond_sx h (by kernel_rfl) (fun g1694 h => ?_) (fun g1694 h => ?_)
            · refine seq_np ?_
              refine reg_f ?_
              refine rs 1 [] [] (by kernel_rfl) allP_nil ?_
              obtain ⟨r1693, hr1693, h⟩ := bind_sx h
              refine run_call 29 [iS 3, iS t44q7] (some 58) (by kernel_rfl) ?_
              refine call_0 (cell_fault_spec 3 t44q7 r1693 hr1693) (by simp only [push_cast, leL_flD, renL_flD, seval]) (by simp only [push_cast, leL_flD, renL_flD, seval]) ?_
              refine back_f ?_
              refine rs 3 [] [] (by kernel_rfl) allP_nil ?_
              refine rf [(6, .v (.slice none 0 0)), (7, .v (.slice none 0 0)), (8, .ptr 0 0)] [(0, .row 28 (Enc.cells r1693))] 1 (by kernel_rfl) ?_
              refine wk_id ?_
              refine rt_cast ht5 ?_
              obtain ⟨r0, h, e0⟩ := map_sx h
              have e1 := hr5 r0 e0.symm
              subst r0
              obtain rfl := Option.some.inj h
              refine ret_at (.tup [.v (.slice none 0 0), .v (.slice none 0 0), .agg (Enc.cells r1693)]) (by kernel_rfl) ?_
              exact ret_e [] [] (by simp only [push_cast, leL_flD, renL_flD, seval]) (by simp only [push_cast, leL_flD, renL_flD, seval]) rfl rfl rfl
            · refine wk_id ?_
              refine wk_id ?_
              refine reg_f ?_
              refine rs 2 [] [] (by kernel_rfl) allP_nil ?_
              refine rf [(0, .sl mem.length (fl mem)), (1, .sl tasks.length (fl tasks)), (2, .sl picks.length (fl picks)), (8, .ptr 0 0), (42, .sl picks.length (fl picks)), (43, iS ((picks.length : Nat) : Int)), (44, iS (IntKind.i64.wrap (t44q7 + 1)))] [(0, .row 28 [iS 0, iS 0])] 1 (by kernel_rfl) ?_
              exact hn5 ((IntKind.i64.wrap (t44q7 + 1))) _ _ _ (Option.some.inj h).symm (leSt_m [(0, 0)] [] (by simp only [push_cast, leL_flD, renL_flD, seval]) (by simp only [push_cast, leL_flD, renL_flD, seval]) rfl rfl rfl)
        · change R5 (.exit 2) _ _ _
          refine ex_cast hx5 (id := 2) ?_
          obtain ⟨r0, h, e0⟩ := map_sx h
          have e1 := hr5 r0 e0.symm
          subst r0
          refine wk_id ?_
          refine wk_id ?_
          refine seq_np ?_
          refine reg_f ?_
          refine rs 1 [] [] (by kernel_rfl) allP_nil ?_
          obtain ⟨r1696, hr1696, h⟩ := bind_sx h
          refine call_x (slices_Clone_int_spec mem r1696 hr1696) (args := [.sl mem.length (fl mem)]) (dst := (some 61)) (by kernel_rfl) [(0, .row 28 [iS 0, iS 0])] 1 (by kernel_rfl) [] [] (.own 1 0 r1696.length) [(1, .row 3 (fl r1696))] (by simp only [push_cast, leL_flD, renL_flD, seval]) (by simp only [push_cast, leL_flD, renL_flD, seval]) (by kernel_rfl) (.inl rfl) (by simp only [push_cast, leL_flD, renL_flD, seval]) (by simp only [push_cast, leL_flD, renL_flD, seval]) ?_
          refine rs 1 [] [] (by kernel_rfl) allP_nil ?_
          refine rf [(1, .sl tasks.length (fl tasks)), (2, .sl picks.length (fl picks)), (8, .ptr 0 0), (14, .own 1 0 r1696.length)] [(0, .row 28 [iS 0, iS 0]), (1, .row 3 (fl r1696))] 2 (by kernel_rfl) ?_
          refine wk_id ?_
          refine chk_sx h (fun g1700 h => ?_)
          refine seq_np ?_
          refine reg_f ?_
          have k1699 : 0 ≤ ((tasks.length : Nat) : Int) ∧ ((tasks.length : Nat) : Int) ≤ 4611686018427387904 ∧ (24 : Int) * ((tasks.length : Nat) : Int) ≤ 140737488355328 := by first | simpa only [Bool.and_eq_true, decide_eq_true_eq, bne_iff_ne, ne_eq] using g1700 | (simp at g1700 ⊢; omega)
          refine rs 2 [] [] (by kernel_rfl) allP_nil ?_
          refine run_opG (some 64) _ ⟨.own 2 0 (List.replicate (((tasks.length : Nat) : Int)).toNat (default : (List Int))).length, [(2, .row 22 (flN dLListInt (nA (List.replicate 1 none) (List.replicate 1 none) (-1)) 0 (List.replicate (((tasks.length : Nat) : Int)).toNat (default : (List Int)))))], 3, []⟩ [((.s 3 0), .fam (famD dLListInt 0 (List.replicate (((tasks.length : Nat) : Int)).toNat (default : (List Int))))), (2, .row 22 (flD dLListInt [3] (List.replicate (((tasks.length : Nat) : Int)).toNat (default : (List Int)))))] 1 [2] [] (by kernel_rfl) (ob_mkN (P := Try.prog) dLListInt ((tasks.length : Nat) : Int) 22 24 (by kernel_rfl) [.v (.slice none 0 0)] rfl 1 rfl (by decide) k1699 1 2) (ghost_A 3 dLListInt (List.replicate (((tasks.length : Nat) : Int)).toNat (default : (List Int))) 2 22 [none] [none] (-1) (flD dLListInt [3] (List.replicate (((tasks.length : Nat) : Int)).toNat (default : (List Int)))) 0 none none (by kernel_rfl) (flN_done dLListInt [3] (-1) (List.replicate (((tasks.length : Nat) : Int)).toNat (default : (List Int))) rfl) (by kernel_rfl) (offN_rep _ rfl _) (S_rep (fun a => nilLeaf dLListInt 0 a) _)) (by kernel_rfl) ?_
          refine rs 1 [] [] (by kernel_rfl) allP_nil ?_
          refine rf [(1, .sl tasks.length (fl tasks)), (2, .sl picks.length (fl picks)), (8, .ptr 0 0), (14, .own 1 0 r1696.length), (15, .own 2 0 (List.replicate (((tasks.length : Nat) : Int)).toNat (default : (List Int))).length)] [(0, .row 28 [iS 0, iS 0]), (1, .row 3 (fl r1696)), (2, .row 22 (flD dLListInt [3] (List.replicate (((tasks.length : Nat) : Int)).toNat (default : (List Int))))), ((.s 3 0), .fam (famD dLListInt 0 (List.replicate (((tasks.length : Nat) : Int)).toNat (default : (List Int)))))] 4 (by kernel_rfl) ?_
          refine wk_id ?_
          refine seq_np ?_
          refine seq_np ?_
          refine reg_f ?_
          refine rs 3 [] [] (by kernel_rfl) allP_nil ?_
          refine rf [(1, .sl tasks.length (fl tasks)), (8, .ptr 0 0), (14, .own 1 0 r1696.length), (15, .own 2 0 (List.replicate (((tasks.length : Nat) : Int)).toNat (default : (List Int))).length), (65, .sl picks.length (fl picks)), (66, iS ((picks.length : Nat) : Int)), (67, iS 0)] [(0, .row 28 [iS 0, iS 0]), (1, .row 3 (fl r1696)), (2, .row 22 (flD dLListInt [3] (List.replicate (((tasks.length : Nat) : Int)).toNat (default : (List Int))))), ((.s 3 0), .fam (famD dLListInt 0 (List.replicate (((tasks.length : Nat) : Int)).toNat (default : (List Int)))))] 4 (by kernel_rfl) ?_
          refine wk_id ?_
          refine block_np ?_
          refine loop_sx (S := Int × (List Int) × (List (List Int))) (fun a => ([(1, .sl tasks.length (fl tasks)), (8, .ptr 0 0), (14, .own 1 0 a.2.1.length), (15, .own 2 0 a.2.2.length), (65, .sl picks.length (fl picks)), (66, iS ((picks.length : Nat) : Int)), (67, iS a.1)], [(0, .row 28 [iS 0, iS 0]), (1, .row 3 (fl a.2.1)), (2, .row 22 (flD dLListInt [3] a.2.2)), ((.s 3 0), .fam (famD dLListInt 0 a.2.2))], 4)) h (leSt_m [(0, 0), (1, 1), (2, 2), ((.s 3 0), (.s 3 0))] [] (by simp only [push_cast, leL_flD, renL_flD, seval]) (by simp only [push_cast, leL_flD, renL_flD, seval]) rfl rfl rfl) ?_
          rintro ⟨t67q7, c1q23, c2q18⟩ o6 R6 h hr6 hn6 hx6 ht6
          try dsimp only at h hn6 ⊢
          unfold cell_Mix_l1 at h
          try dsimp only at h
          refine seq_np ?_
          refine reg_f ?_
          refine rs 1 [] [] (by kernel_rfl) allP_nil ?_
          refine rf [(1, .sl tasks.length (fl tasks)), (8, .ptr 0 0), (14, .own 1 0 c1q23.length), (15, .own 2 0 c2q18.length), (65, .sl picks.length (fl picks)), (66, iS ((picks.length : Nat) : Int)), (67, iS t67q7), (68, bS (decide (t67q7 < ((picks.length : Nat) : Int))))] [(0, .row 28 [iS 0, iS 0]), (1, .row 3 (fl c1q23)), (2, .row 22 (flD dLListInt [3] c2q18)), ((.s 3 0), .fam (famD dLListInt 0 c2q18))] 4 (by kernel_rfl) ?_
          refine wk_id ?_
          refine seq_np ?_
          refine cond_sx h (by kernel_rfl) (fun g1972 h => ?_) (fun g1972 h => ?_)
          · refine wk_id ?_
            refine seq_np ?_
            refine block_cut (A := (List Int) × (List (List Int))) (fun a => ([(1, .sl tasks.length (fl tasks)), (8, .ptr 0 0), (14, .own 1 0 a.1.length), (15, .own 2 0 a.2.length), (65, .sl picks.length (fl picks)), (66, iS ((picks.length : Nat) : Int)), (67, iS t67q7)], [(0, .row 28 [iS 0, iS 0]), (1, .row 3 (fl a.1)), (2, .row 22 (flD dLListInt [3] a.2)), ((.s 3 0), .fam (famD dLListInt 0 a.2))], 4)) (fun a => (cell_Mix_j1 tasks picks t67q7 a.1 a.2) = some o6) (fun K1932 hK1932 => ?_) ?_
            · refine chk_sx h (fun g1936 h => ?_)
              refine seq_np ?_
              refine reg_f ?_
              have k1935 : 0 ≤ t67q7 ∧ t67q7 < ((picks.length : Nat) : Int) := by first | simpa only [Bool.and_eq_true, decide_eq_true_eq, bne_iff_ne, ne_eq] using g1936 | (simp at g1936 ⊢; omega)
              refine rs 3 [some ⟨.iptr (fl picks) ((t67q7).toNat * 1), [], 4, []⟩, some ⟨iS (ix picks t67q7), [], 4, []⟩] _ (by kernel_rfl) (allP_cons (ob_ld picks t67q7 1 0 ((t67q7).toNat * 1) k1935 rfl (by decide) (by first | rfl | omega) (dflS Try.prog 3) (iS (ix picks t67q7)) rfl 4 []) (allP_cons (ob_ix_l picks 1 4 t67q7 k1935) allP_nil)) ?_
              refine rf [(1, .sl tasks.length (fl tasks)), (8, .ptr 0 0), (14, .own 1 0 c1q23.length), (15, .own 2 0 c2q18.length), (17, iS (ix picks t67q7)), (65, .sl picks.length (fl picks)), (66, iS ((picks.length : Nat) : Int)), (67, iS t67q7)] [(0, .row 28 [iS 0, iS 0]), (1, .row 3 (fl c1q23)), (2, .row 22 (flD dLListInt [3] c2q18)), ((.s 3 0), .fam (famD dLListInt 0 c2q18))] 4 (by kernel_rfl) ?_
              refine wk_id ?_
              refine chk_sx h (fun g1940 h => ?_)
              refine seq_np ?_
              refine reg_f ?_
              have k1939 : 0 ≤ (ix picks t67q7) ∧ (ix picks t67q7) < ((c2q18.length : Nat) : Int) := by first | simpa only [Bool.and_eq_true, decide_eq_true_eq, bne_iff_ne, ne_eq] using g1940 | (simp at g1940 ⊢; omega)
              refine rs 6 [none, none, some ⟨.ptr 2 (0 + ((ix picks t67q7)).toNat * 1), [], 4, [2]⟩, some ⟨.own (.s 3 (ix picks t67q7)) 0 (ixD c2q18 (ix picks t67q7)).length, [], 4, [2]⟩] _ (by kernel_rfl) (allP_cons (ob_ldD dLListInt [3] c2q18 (ix picks t67q7) 1 0 (0 + ((ix picks t67q7)).toNat * 1) k1939 rfl (by decide) (by first | rfl | omega) (dflS Try.prog 22) (.own (.s 3 (ix picks t67q7)) 0 (ixD c2q18 (ix picks t67q7)).length) rfl 4 [2]) (allP_cons (ob_ix_o 2 c2q18.length 0 1 4 (ix picks t67q7) k1939) allP_nil)) ?_
              refine rf [(1, .sl tasks.length (fl tasks)), (8, .ptr 0 0), (14, .own 1 0 c1q23.length), (15, .own 2 0 c2q18.length), (17, iS (ix picks t67q7)), (18, iS (((ixD c2q18 (ix picks t67q7)).length : Nat) : Int)), (65, .sl picks.length (fl picks)), (66, iS ((picks.length : Nat) : Int)), (67, iS t67q7)] [(0, .row 28 [iS 0, iS 0]), (1, .row 3 (fl c1q23)), (2, .row 22 (flD dLListInt [3] c2q18)), ((.s 3 0), .fam (famD dLListInt 0 c2q18))] 4 (by kernel_rfl) ?_
              refine wk_id ?_
              refine chk_sx h (fun g1944 h => ?_)
              refine seq_np ?_
              refine reg_f ?_
              have k1943 : 0 ≤ (ix picks t67q7) ∧ (ix picks t67q7) < ((tasks.length : Nat) : Int) := by first | simpa only [Bool.and_eq_true, decide_eq_true_eq, bne_iff_ne, ne_eq] using g1944 | (simp at g1944 ⊢; omega)
              refine rs 7 [none, none, none, some ⟨.iptr (fl tasks) (((ix picks t67q7)).toNat * 1), [], 4, []⟩, some ⟨.sl (ix tasks (ix picks t67q7)).length (fl (ix tasks (ix picks t67q7))), [], 4, []⟩] _ (by kernel_rfl) (allP_cons (ob_ld tasks (ix picks t67q7) 1 0 (((ix picks t67q7)).toNat * 1) k1943 rfl (by decide) (by first | rfl | omega) (dflS Try.prog 39) (.sl (ix tasks (ix picks t67q7)).length (fl (ix tasks (ix picks t67q7)))) rfl 4 []) (allP_cons (ob_ix_l tasks 1 4 (ix picks t67q7) k1943) allP_nil)) ?_
              refine rf [(1, .sl tasks.length (fl tasks)), (8, .ptr 0 0), (14, .own 1 0 c1q23.length), (15, .own 2 0 c2q18.length), (17, iS (ix picks t67q7)), (18, iS (((ixD c2q18 (ix picks t67q7)).length : Nat) : Int)), (65, .sl picks.length (fl picks)), (66, iS ((picks.length : Nat) : Int)), (67, iS t67q7), (82, bS (decide ((((ixD c2q18 (ix picks t67q7)).length : Nat) : Int) < (((ix tasks (ix picks t67q7)).length : Nat) : Int))))] [(0, .row 28 [iS 0, iS 0]), (1, .row 3 (fl c1q23)), (2, .row 22 (flD dLListInt [3] c2q18)), ((.s 3 0), .fam (famD dLListInt 0 c2q18))] 4 (by kernel_rfl) ?_
              refine wk_id ?_
              refine cond_sx h (by kernel_rfl) (fun g1971 h => ?_) (fun g1971 h => ?_)
              · refine chk_sx h (fun g1959 h => ?_)
                refine chk_sx h (fun g1961 h => ?_)
                refine chk_sx h (fun g1963 h => ?_)
                refine reg_t ?_
                have k1958 : 0 ≤ (ix picks t67q7) ∧ (ix picks t67q7) < ((c2q18.length : Nat) : Int) := by first | simpa only [Bool.and_eq_true, decide_eq_true_eq, bne_iff_ne, ne_eq] using g1959 | (simp at g1959 ⊢; omega)
                have k1960 : 0 ≤ (ix picks t67q7) ∧ (ix picks t67q7) < ((tasks.length : Nat) : Int) := by first | simpa only [Bool.and_eq_true, decide_eq_true_eq, bne_iff_ne, ne_eq] using g1961 | (simp at g1961 ⊢; omega)
                have k1962 : 0 ≤ (((ixD c2q18 (ix picks t67q7)).length : Nat) : Int) ∧ (((ixD c2q18 (ix picks t67q7)).length : Nat) : Int) < (((ix tasks (ix picks t67q7)).length : Nat) : Int) := by first | simpa only [Bool.and_eq_true, decide_eq_true_eq, bne_iff_ne, ne_eq] using g1963 | (simp at g1963 ⊢; omega)
                refine rs 14 [none, none, none, none, some ⟨.ptr 2 (0 + ((ix picks t67q7)).toNat * 1), [], 8, [2]⟩, some ⟨.own (.s 3 (ix picks t67q7)) 0 (ixD c2q18 (ix picks t67q7)).length, [], 9, [2]⟩, none, none, none, some ⟨.iptr (fl tasks) (((ix picks t67q7)).toNat * 1), [], 13, []⟩, some ⟨.sl (ix tasks (ix picks t67q7)).length (fl (ix tasks (ix picks t67q7))), [], 14, []⟩, none, some ⟨.iptr (fl (ix tasks (ix picks t67q7))) (((((ixD c2q18 (ix picks t67q7)).length : Nat) : Int)).toNat * 4), [], 16, []⟩, some ⟨.agg (Enc.cells (ix (ix tasks (ix picks t67q7)) (((ixD c2q18 (ix picks t67q7)).length : Nat) : Int))), [], 17, []⟩] _ (by kernel_rfl) (allP_cons (ob_ldw (ix tasks (ix picks t67q7)) (((ixD c2q18 (ix picks t67q7)).length : Nat) : Int) 4 (((((ixD c2q18 (ix picks t67q7)).length : Nat) : Int)).toNat * 4) k1962 rfl (by first | rfl | omega) (Enc.cells (ix (ix tasks (ix picks t67q7)) (((ixD c2q18 (ix picks t67q7)).length : Nat) : Int))) rfl 17 []) (allP_cons (ob_ix_l (ix tasks (ix picks t67q7)) 4 16 (((ixD c2q18 (ix picks t67q7)).length : Nat) : Int) k1962) (allP_cons (ob_ld tasks (ix picks t67q7) 1 0 (((ix picks t67q7)).toNat * 1) k1960 rfl (by decide) (by first | rfl | omega) (dflS Try.prog 39) (.sl (ix tasks (ix picks t67q7)).length (fl (ix tasks (ix picks t67q7)))) rfl 14 []) (allP_cons (ob_ix_l tasks 1 13 (ix picks t67q7) k1960) (allP_cons (ob_ldD dLListInt [3] c2q18 (ix picks t67q7) 1 0 (0 + ((ix picks t67q7)).toNat * 1) k1958 rfl (by decide) (by first | rfl | omega) (dflS Try.prog 22) (.own (.s 3 (ix picks t67q7)) 0 (ixD c2q18 (ix picks t67q7)).length) rfl 9 [2]) (allP_cons (ob_ix_o 2 c2q18.length 0 1 8 (ix picks t67q7) k1958) allP_nil)))))) ?_
                obtain ⟨r1964, hr1964, h⟩ := bind_sx h
                refine call_x (cell_Do_1_spec (ix (ix tasks (ix picks t67q7)) (((ixD c2q18 (ix picks t67q7)).length : Nat) : Int)) c1q23 r1964 hr1964) (args := [.own 1 0 c1q23.length, .agg (Enc.cells (ix (ix tasks (ix picks t67q7)) (((ixD c2q18 (ix picks t67q7)).length : Nat) : Int)))]) (dst := (some 97)) (by kernel_rfl) [(0, .row 28 [iS 0, iS 0]), (1, .row 3 (fl c1q23)), (2, .row 22 (flD dLListInt [3] c2q18)), ((.s 3 0), .fam (famD dLListInt 0 c2q18))] 18 (by kernel_rfl) [(0, 1)] [] (iS r1964.1) [(1, .row 3 (fl r1964.2)), (1, .dead)] (by simp only [push_cast, leL_flD, renL_flD, seval]) (by simp only [push_cast, leL_flD, renL_flD, seval]) (by kernel_rfl) (.inl rfl) (by simp only [push_cast, leL_flD, renL_flD, seval]) (by simp only [push_cast, leL_flD, renL_flD, seval]) ?_
                refine chk_sx h (fun g1966 h => ?_)
                have e1965 : c1q23.length = r1964.2.length := (of_decide_eq_true g1966).symm
                refine run_eqF 14 (.own 1 0 c1q23.length) (.own 1 0 r1964.2.length) (congrArg (fun nq => (.own 1 0 nq : SV)) (show c1q23.length = r1964.2.length from e1965)) (by kernel_rfl) ?_
                refine chk_sx h (fun g1968 h => ?_)
                have k1967 : ((ixD c2q18 (ix picks t67q7)) ++ ([r1964.1] : List Int)).length * 8 ≤ 140737488355328 := by first | simpa only [Bool.and_eq_true, decide_eq_true_eq, bne_iff_ne, ne_eq] using g1968 | (simp at g1968 ⊢; omega)
                refine chk_sx h (fun g1970 h => ?_)
                have k1969 : 0 ≤ (ix picks t67q7) ∧ (ix picks t67q7) < ((c2q18.length : Nat) : Int) := by first | simpa only [Bool.and_eq_true, decide_eq_true_eq, bne_iff_ne, ne_eq] using g1970 | (simp at g1970 ⊢; omega)
                refine rs 3 [none, some ⟨.own 22 0 ((ixD c2q18 (ix picks t67q7)) ++ ([r1964.1] : List Int)).length, [(22, .row 3 (fl ((ixD c2q18 (ix picks t67q7)) ++ ([r1964.1] : List Int)))), ((.s 3 0), .fam (upI (famD dLListInt 0 c2q18) (ix picks t67q7) (.dead)))], 23, [(.s 3 0), 20]⟩, some ⟨.ptr 2 (0 + ((ix picks t67q7)).toNat * 1), [], 24, [2]⟩] _ (by kernel_rfl) (allP_cons (ob_ix_o 2 c2q18.length 0 1 24 (ix picks t67q7) k1969) (allP_cons (ob_appM (P := Try.prog) dLListInt 0 c2q18 (ix picks t67q7) 3 (ixD c2q18 (ix picks t67q7)) ([r1964.1] : List Int) 1 8 rfl (appCells (fl ([r1964.1] : List Int)) 0 (([r1964.1] : List Int).length * 1)) ([r1964.1] : List Int).length (app_own ([r1964.1] : List Int) 1 rfl) rfl (0 + ([r1964.1] : List Int).length * 1 ≤ (fl ([r1964.1] : List Int)).length) (app_own_le ([r1964.1] : List Int) 1 rfl) 3 (by kernel_rfl) (by decide) k1967 22 [20]) allP_nil)) ?_
                refine run_opGb none _ ⟨.any, [(2, .row 22 (flN dLListInt (nA [(some 3)] [(some (Nm.t 22))] (ix picks t67q7)) 0 (c2q18.set (ix picks t67q7).toNat (((ixD c2q18 (ix picks t67q7)) ++ ([r1964.1] : List Int)) : (List Int)))))], 25, [2]⟩ [((.s 25 0), .fam (famD dLListInt 0 (c2q18.set (ix picks t67q7).toNat (((ixD c2q18 (ix picks t67q7)) ++ ([r1964.1] : List Int)) : (List Int))))), (2, .row 22 (flD dLListInt [25] (c2q18.set (ix picks t67q7).toNat (((ixD c2q18 (ix picks t67q7)) ++ ([r1964.1] : List Int)) : (List Int))))), ((.s 3 0), .dead), (22, .dead)] 1 [2, (.s 3 0), 22] [(.s 3 0), 22] (by kernel_rfl) (ob_stN (P := Try.prog) dLListInt [3] [(some (Nm.t 22))] c2q18 (ix picks t67q7) 1 0 (0 + ((ix picks t67q7)).toNat * 1) k1969 rfl [.own 22 0 ((ixD c2q18 (ix picks t67q7)) ++ ([r1964.1] : List Int)).length] (((ixD c2q18 (ix picks t67q7)) ++ ([r1964.1] : List Int)) : (List Int)) (Nat.le_of_ble_eq_true rfl) (by first | rfl | omega) rfl rfl 2 25 22 22 (by kernel_rfl) rfl) (ghost_A 25 dLListInt (c2q18.set (ix picks t67q7).toNat (((ixD c2q18 (ix picks t67q7)) ++ ([r1964.1] : List Int)) : (List Int))) 2 22 [(some 3)] [(some (Nm.t 22))] (ix picks t67q7) (flD dLListInt [25] (c2q18.set (ix picks t67q7).toNat (((ixD c2q18 (ix picks t67q7)) ++ ([r1964.1] : List Int)) : (List Int)))) 0 (some 3) (some 22) (by kernel_rfl) (flN_done dLListInt [25] (ix picks t67q7) (c2q18.set (ix picks t67q7).toNat (((ixD c2q18 (ix picks t67q7)) ++ ([r1964.1] : List Int)) : (List Int))) rfl) (by kernel_rfl) ⟨_, (by kernel_rfl), (off_hole c2q18 (ix picks t67q7) (((ixD c2q18 (ix picks t67q7)) ++ ([r1964.1] : List Int)) : (List Int)) k1969 (.dead))⟩ (S_set (fun a => getH _ (.t 22) = chD dLListInt 0 a) k1969 rfl)) (by kernel_rfl) (And.intro (born_fam (upI (famD dLListInt 0 c2q18) (ix picks t67q7) (.dead)) (by kernel_rfl)) (And.intro (by kernel_rfl) trivial)) ?_
                refine run_eqF 15 (.own 2 0 c2q18.length) (.own 2 0 (c2q18.set (ix picks t67q7).toNat (((ixD c2q18 (ix picks t67q7)) ++ ([r1964.1] : List Int)) : (List Int))).length) (congrArg (fun nq => (.own 2 0 nq : SV)) (show c2q18.length = (c2q18.set (ix picks t67q7).toNat (((ixD c2q18 (ix picks t67q7)) ++ ([r1964.1] : List Int)) : (List Int))).length from (List.length_set ..).symm)) (by kernel_rfl) ?_
                refine rt [(1, .sl tasks.length (fl tasks)), (8, .ptr 0 0), (14, .own 1 0 r1964.2.length), (15, .own 2 0 (c2q18.set (ix picks t67q7).toNat (((ixD c2q18 (ix picks t67q7)) ++ ([r1964.1] : List Int)) : (List Int))).length), (65, .sl picks.length (fl picks)), (66, iS ((picks.length : Nat) : Int)), (67, iS t67q7)] [(0, .row 28 [iS 0, iS 0]), (1, .row 3 (fl r1964.2)), (2, .row 22 (flD dLListInt [25] (c2q18.set (ix picks t67q7).toNat (((ixD c2q18 (ix picks t67q7)) ++ ([r1964.1] : List Int)) : (List Int))))), ((.s 3 0), .dead), (20, .row 3 (fl ([r1964.1] : List Int))), (22, .dead), ((.s 25 0), .fam (famD dLListInt 0 (c2q18.set (ix picks t67q7).toNat (((ixD c2q18 (ix picks t67q7)) ++ ([r1964.1] : List Int)) : (List Int)))))] 27 follows (by kernel_rfl) ?_
                exact hK1932 (r1964.2, (c2q18.set (ix picks t67q7).toNat (((ixD c2q18 (ix picks t67q7)) ++ ([r1964.1] : List Int)) : (List Int)))) _ _ _ h (leSt_m [(0, 0), (1, 1), (2, 2), ((.s 3 0), (.s 25 0))] [] (by simp only [push_cast, leL_flD, renL_flD, seval]) (by simp only [push_cast, leL_flD, renL_flD, seval]) rfl rfl rfl)
              · exact hK1932 (c1q23, c2q18) _ _ _ h (leSt_m [(0, 0), (1, 1), (2, 2), ((.s 3 0), (.s 3 0))] [] (by simp only [push_cast, leL_flD, renL_flD, seval]) (by simp only [push_cast, leL_flD, renL_flD, seval]) rfl rfl rfl)
            · rintro ⟨c1q25, c2q20⟩ h
              try dsimp only at h ⊢
              unfold cell_Mix_j1 at h
              refine wk_id ?_
              refine reg_f ?_
              refine rs 2 [] [] (by kernel_rfl) allP_nil ?_
              refine rf [(1, .sl tasks.length (fl tasks)), (8, .ptr 0 0), (14, .own 1 0 c1q25.length), (15, .own 2 0 c2q20.length), (65, .sl picks.length (fl picks)), (66, iS ((picks.length : Nat) : Int)), (67, iS (IntKind.i64.wrap (t67q7 + 1)))] [(0, .row 28 [iS 0, iS 0]), (1, .row 3 (fl c1q25)), (2, .row 22 (flD dLListInt [3] c2q20)), ((.s 3 0), .fam (famD dLListInt 0 c2q20))] 4 (by kernel_rfl) ?_
              exact hn6 ((IntKind.i64.wrap (t67q7 + 1)), c1q25, c2q20) _ _ _ (Option.some.inj h).symm (leSt_m [(0, 0), (1, 1), (2, 2), ((.s 3 0), (.s 3 0))] [] (by simp only [push_cast, leL_flD, renL_flD, seval]) (by simp only [push_cast, leL_flD, renL_flD, seval]) rfl rfl rfl)
          · change R6 (.exit 4) _ _ _
            refine ex_cast hx6 (id := 4) ?_
            obtain ⟨r0, h, e0⟩ := map_sx h
            have e1 := hr6 r0 e0.symm
            subst r0
            refine wk_id ?_
            refine wk_id ?_
            refine seq_np ?_
            refine reg_f ?_
            refine rs 6 [] [] (by kernel_rfl) allP_nil ?_
            refine rf [(6, .own 1 0 c1q23.length), (7, .own 2 0 c2q18.length), (8, .ptr 0 0)] [(0, .row 28 [iS 0, iS 0]), (1, .row 3 (fl c1q23)), (2, .row 22 (flD dLListInt [3] c2q18)), ((.s 3 0), .fam (famD dLListInt 0 c2q18))] 4 (by kernel_rfl) ?_
            refine wk_id ?_
            obtain rfl := Option.some.inj h
            refine ret_at (.tup [.own 1 0 c1q23.length, .own 2 0 c2q18.length, .agg [iS 0, iS 0]]) (by kernel_rfl) ?_
            exact ret_e [(0, 1), (1, 2), ((.s 2 0), (.s 3 0))] [] (by simp only [push_cast, leL_flD, renL_flD, seval]) (by simp only [push_cast, leL_flD, renL_flD, seval]) rfl rfl rfl

set_option maxRecDepth 100000 in
set_option maxHeartbeats 200000000 in
theorem taskmilllaw_CellWins_spec (xhave : Int) (wants : (List Int)) (picks : (List Int)) (r : Bool) (h : taskmilllaw_CellWins xhave wants picks = some r) : SpecW Try.prog 8 [iS xhave, .sl wants.length (fl wants), .sl picks.length (fl picks)] [] 0 (fun x h n => x = bS r ∧ h = [] ∧ n = 0) := by
  unfold taskmilllaw_CellWins at h
  refine spec_of (draw_ok _) Try.func8 rfl (by decide) rfl (by kernel_rfl) ?_
  refine seq_np ?_
  refine reg_f ?_
  refine rs 1 [] [] (by kernel_rfl) allP_nil ?_
  refine rf [(0, iS xhave), (1, .sl wants.length (fl wants)), (2, .sl picks.length (fl picks))] [] 0 (by kernel_rfl) ?_
  refine wk_id ?_
  refine seq_np ?_
  refine seq_np ?_
  refine reg_f ?_
  obtain ⟨r3087, hr3087, h⟩ := bind_sx h
  refine run_call 10 [] (some 17) (by kernel_rfl) ?_
  refine call_0 (taskmilllaw_cellBegun_spec r3087 hr3087) (by simp only [push_cast, leL_flD, renL_flD, seval]) (by simp only [push_cast, leL_flD, renL_flD, seval]) ?_
  refine back_f ?_
  refine rs 1 [] [] (by kernel_rfl) allP_nil ?_
  refine rf [(0, iS xhave), (1, .sl wants.length (fl wants)), (2, .sl picks.length (fl picks)), (18, bS (!r3087))] [] 0 (by kernel_rfl) ?_
  refine wk_id ?_
  refine cond_sx h (by kernel_rfl) (fun g3557 h => ?_) (fun g3557 h => ?_)
  · refine seq_np ?_
    refine reg_f ?_
    refine rs 1 [] [] (by kernel_rfl) allP_nil ?_
    refine rf [(6, bS false)] [] 0 (by kernel_rfl) ?_
    refine wk_id ?_
    obtain rfl := Option.some.inj h
    refine ret_at (bS false) (by kernel_rfl) ?_
    exact ret_e [] [] (by simp only [push_cast, leL_flD, renL_flD, seval]) (by simp only [push_cast, leL_flD, renL_flD, seval]) rfl rfl rfl
  · refine wk_id ?_
    refine seq_np ?_
    refine seq_cut (A := Unit) (fun _ => ([(0, iS xhave), (1, .sl wants.length (fl wants)), (2, .sl picks.length (fl picks)), (31, bS ((decide (((wants.length : Nat) : Int) < 1)) || ((decide ((64 : Int) < ((wants.length : Nat) : Int))) || (decide ((4000 : Int) < ((picks.length : Nat) : Int))))))], [], 0)) (fun _ => True) (fun K3093 hK3093 => ?_) (fun _ _ => ?_)
    · refine reg_f ?_
      refine rs 4 [] [] (by kernel_rfl) allP_nil ?_
      refine run_split 22 (decide (((wants.length : Nat) : Int) < 1)) (.inl (by kernel_rfl)) (fun g3094 => ?_) (fun g3094 => ?_)
      · refine rs 9 [] [] (by kernel_rfl) allP_nil ?_
        refine rf [(0, iS xhave), (1, .sl wants.length (fl wants)), (2, .sl picks.length (fl picks)), (31, bS true)] [] 0 (by kernel_rfl) ?_
        exact hK3093 () _ _ _ trivial (leSt_m [] [] (by (try simp only [g3094]) <;> simp only [push_cast, leL_flD, renL_flD, seval]) (by (try simp only [g3094]) <;> simp only [push_cast, leL_flD, renL_flD, seval]) rfl rfl rfl)
      · refine rs 5 [] [] (by kernel_rfl) allP_nil ?_
        refine run_split 27 (decide ((64 : Int) < ((wants.length : Nat) : Int))) (.inl (by kernel_rfl)) (fun g3095 => ?_) (fun g3095 => ?_)
        · refine rs 4 [] [] (by kernel_rfl) allP_nil ?_
          refine rf [(0, iS xhave), (1, .sl wants.length (fl wants)), (2, .sl picks.length (fl picks)), (31, bS true)] [] 0 (by kernel_rfl) ?_
          exact hK3093 () _ _ _ trivial (leSt_m [] [] (by first | ((try simp only [g3094, g3095]) <;> simp only [push_cast, leL_flD, renL_flD, seval]; done) | ((try simp only [g3094]); (try simp only [g3095]); simp only [push_cast, leL_flD, renL_flD, seval]; done) | (exfalso; clear h; simp_all; done)) (by first | ((try simp only [g3094, g3095]) <;> simp only [push_cast, leL_flD, renL_flD, seval]; done) | ((try simp only [g3094]); (try simp only [g3095]); simp only [push_cast, leL_flD, renL_flD, seval]; done) | (exfalso; clear h; simp_all; done)) rfl rfl rfl)
        · refine rs 4 [] [] (by kernel_rfl) allP_nil ?_
          refine rf [(0, iS xhave), (1, .sl wants.length (fl wants)), (2, .sl picks.length (fl picks)), (31, bS (decide ((4000 : Int) < ((picks.length : Nat) : Int))))] [] 0 (by kernel_rfl) ?_
          exact hK3093 () _ _ _ trivial (leSt_m [] [] (by first | ((try simp only [g3094, g3095]) <;> simp only [push_cast, leL_flD, renL_flD, seval]; done) | ((try simp only [g3094]); (try simp only [g3095]); simp only [push_cast, leL_flD, renL_flD, seval]; done) | (exfalso; clear h; simp_all; done)) (by first | ((try simp only [g3094, g3095]) <;> simp only [push_cast, leL_flD, renL_flD, seval]; done) | ((try simp only [g3094]); (try simp only [g3095]); simp only [push_cast, leL_flD, renL_flD, seval]; done) | (exfalso; clear h; simp_all; done)) rfl rfl rfl)
    · dsimp only
      refine cond_sx h (by kernel_rfl) (fun g3556 h => ?_) (fun g3556 h => ?_)
      · refine seq_np ?_
        refine reg_f ?_
        refine rs 1 [] [] (by kernel_rfl) allP_nil ?_
        refine rf [(6, bS true)] [] 0 (by kernel_rfl) ?_
        refine wk_id ?_
        obtain rfl := Option.some.inj h
        refine ret_at (bS true) (by kernel_rfl) ?_
        exact ret_e [] [] (by simp only [push_cast, leL_flD, renL_flD, seval]) (by simp only [push_cast, leL_flD, renL_flD, seval]) rfl rfl rfl
      · refine wk_id ?_
        refine seq_np ?_
        refine reg_f ?_
        refine rs 1 [] [] (by kernel_rfl) allP_nil ?_
        refine rf [(0, iS xhave), (1, .sl wants.length (fl wants)), (2, .sl picks.length (fl picks)), (7, .v (.slice none 0 0))] [] 0 (by kernel_rfl) ?_
        refine wk_id ?_
        refine seq_np ?_
        refine seq_np ?_
        refine reg_f ?_
        refine rs 1 [] [] (by kernel_rfl) allP_nil ?_
        refine rf [(0, iS xhave), (1, .sl wants.length (fl wants)), (2, .sl picks.length (fl picks)), (7, .v (.slice none 0 0)), (8, iS 0)] [] 0 (by kernel_rfl) ?_
        refine wk_id ?_
        refine block_np ?_
        refine loop_sx (S := Int × (List (List GOp))) (fun a => ([(0, iS xhave), (1, .sl wants.length (fl wants)), (2, .sl picks.length (fl picks)), (7, .own 0 0 a.2.length), (8, iS a.1)], [(0, .row 39 (flD dLListGOp [1] a.2)), ((.s 1 0), .fam (famD dLListGOp 0 a.2))], 2)) h (leSt_m [] [] (by simp only [push_cast, leL_flD, renL_flD, seval]) (by simp only [push_cast, leL_flD, renL_flD, seval]) rfl rfl rfl) ?_
        rintro ⟨i13, c0q10⟩ o5 R5 h hr5 hn5 hx5 ht5
        try dsimp only at h hn5 ⊢
        unfold taskmilllaw_CellWins_l4 at h
        try dsimp only at h
        refine seq_np ?_
        refine seq_np ?_
        refine reg_f ?_
        refine rs 4 [] [] (by kernel_rfl) allP_nil ?_
        refine rf [(0, iS xhave), (1, .sl wants.length (fl wants)), (2, .sl picks.length (fl picks)), (7, .own 0 0 c0q10.length), (8, iS i13), (35, bS (decide (i13 < ((wants.length : Nat) : Int))))] [(0, .row 39 (flD dLListGOp [1] c0q10)), ((.s 1 0), .fam (famD dLListGOp 0 c0q10))] 2 (by kernel_rfl) ?_
        refine wk_id ?_
        refine cond_sx h (by kernel_rfl) (fun g3555 h => ?_) (fun g3555 h => ?_)
        · refine wk_id ?_
          refine seq_np ?_
          refine block_np ?_
          refine seq_np ?_
          refine chk_sx h (fun g3184 h => ?_)
          refine seq_np ?_
          refine reg_f ?_
          have k3183 : 0 ≤ i13 ∧ i13 < ((wants.length : Nat) : Int) := by first | simpa only [Bool.and_eq_true, decide_eq_true_eq, bne_iff_ne, ne_eq] using g3184 | (simp at g3184 ⊢; omega)
          refine rs 6 [none, none, some ⟨.iptr (fl wants) ((i13).toNat * 1), [], 2, []⟩, some ⟨iS (ix wants i13), [], 2, []⟩] _ (by kernel_rfl) (allP_cons (ob_ld wants i13 1 0 ((i13).toNat * 1) k3183 rfl (by decide) (by first | rfl | omega) (dflS Try.prog 3) (iS (ix wants i13)) rfl 2 []) (allP_cons (ob_ix_l wants 1 2 i13 k3183) allP_nil)) ?_
          refine rf [(0, iS xhave), (1, .sl wants.length (fl wants)), (2, .sl picks.length (fl picks)), (7, .own 0 0 c0q10.length), (8, iS i13), (43, bS ((ix wants i13) == xhave))] [(0, .row 39 (flD dLListGOp [1] c0q10)), ((.s 1 0), .fam (famD dLListGOp 0 c0q10))] 2 (by kernel_rfl) ?_
          refine wk_id ?_
          refine cond_sx h (by kernel_rfl) (fun g3193 h => ?_) (fun g3193 h => ?_)
          · refine seq_np ?_
            refine reg_f ?_
            refine rs 1 [] [] (by kernel_rfl) allP_nil ?_
            refine rf [(6, bS true)] [(0, .row 39 (flD dLListGOp [1] c0q10)), ((.s 1 0), .fam (famD dLListGOp 0 c0q10))] 2 (by kernel_rfl) ?_
            refine wk_id ?_
            refine rt_cast ht5 ?_
            obtain ⟨r0, h, e0⟩ := map_sx h
            have e1 := hr5 r0 e0.symm
            subst r0
            obtain rfl := Option.some.inj h
            refine ret_at (bS true) (by kernel_rfl) ?_
            exact ret_e [] [] (by simp only [push_cast, leL_flD, renL_flD, seval]) (by simp only [push_cast, leL_flD, renL_flD, seval]) rfl rfl rfl
          · refine wk_id ?_
            refine chk_sx h (fun g3190 h => ?_)
            refine chk_sx h (fun g3192 h => ?_)
            refine reg_f ?_
            have k3189 : 0 ≤ i13 ∧ i13 < ((wants.length : Nat) : Int) := by first | simpa only [Bool.and_eq_true, decide_eq_true_eq, bne_iff_ne, ne_eq] using g3190 | (simp at g3190 ⊢; omega)
            have k3191 : (c0q10 ++ [(([(GOp.mk 5 0 xhave (ix wants i13))] : List GOp) : (List GOp))]).length * 24 ≤ 140737488355328 := by first | simpa only [Bool.and_eq_true, decide_eq_true_eq, bne_iff_ne, ne_eq] using g3192 | (simp at g3192 ⊢; omega)
            refine rs 9 [none, none, none, none, some ⟨.iptr (fl wants) ((i13).toNat * 1), [], 2, []⟩, some ⟨iS (ix wants i13), [], 2, []⟩] _ (by kernel_rfl) (allP_cons (ob_ld wants i13 1 0 ((i13).toNat * 1) k3189 rfl (by decide) (by first | rfl | omega) (dflS Try.prog 3) (iS (ix wants i13)) rfl 2 []) (allP_cons (ob_ix_l wants 1 2 i13 k3189) allP_nil)) ?_
            refine run_opG (some 53) _ ⟨.own 4 0 (c0q10 ++ [(([(GOp.mk 5 0 xhave (ix wants i13))] : List GOp) : (List GOp))]).length, [(4, .row 39 (flN dLListGOp (nA [(some 1)] [(some (Nm.t 2))] ((c0q10.length : Nat) : Int)) 0 (c0q10 ++ [(([(GOp.mk 5 0 xhave (ix wants i13))] : List GOp) : (List GOp))]))), (0, .dead)], 5, [0, 3]⟩ [((.s 5 0), .fam (famD dLListGOp 0 (c0q10 ++ [(([(GOp.mk 5 0 xhave (ix wants i13))] : List GOp) : (List GOp))]))), (4, .row 39 (flD dLListGOp [5] (c0q10 ++ [(([(GOp.mk 5 0 xhave (ix wants i13))] : List GOp) : (List GOp))]))), ((.s 1 0), .dead), (2, .dead)] 1 [4, (.s 1 0), 2] [(.s 1 0), 2] (by kernel_rfl) (ob_appN (P := Try.prog) dLListGOp [1] [(some (Nm.t 2))] c0q10 (([(GOp.mk 5 0 xhave (ix wants i13))] : List GOp) : (List GOp)) 1 24 rfl (appCells ([.own 2 0 ([(GOp.mk 5 0 xhave (ix wants i13))] : List GOp).length] : List SV) 0 (1 * 1)) rfl rfl rfl (0 + 1 * 1 ≤ ([.own 2 0 ([(GOp.mk 5 0 xhave (ix wants i13))] : List GOp).length] : List SV).length) (by first | exact (Nat.le_of_ble_eq_true rfl : 0 + 1 * 1 ≤ ([.own 2 0 ([(GOp.mk 5 0 xhave (ix wants i13))] : List GOp).length] : List SV).length) | decide) 39 (by kernel_rfl) (by decide) k3191 0 4 [3]) (ghost_A 5 dLListGOp (c0q10 ++ [(([(GOp.mk 5 0 xhave (ix wants i13))] : List GOp) : (List GOp))]) 4 39 [(some 1)] [(some (Nm.t 2))] ((c0q10.length : Nat) : Int) (flD dLListGOp [5] (c0q10 ++ [(([(GOp.mk 5 0 xhave (ix wants i13))] : List GOp) : (List GOp))])) 0 (some 1) (some 2) (by kernel_rfl) (flN_done dLListGOp [5] ((c0q10.length : Nat) : Int) (c0q10 ++ [(([(GOp.mk 5 0 xhave (ix wants i13))] : List GOp) : (List GOp))]) rfl) (by kernel_rfl) ⟨_, (by kernel_rfl), off_app _ _⟩ (S_app (fun a => getH _ (.t 2) = chD dLListGOp 0 a) rfl)) (by kernel_rfl) ?_
            refine rs 1 [] [] (by kernel_rfl) allP_nil ?_
            refine rf [(0, iS xhave), (1, .sl wants.length (fl wants)), (2, .sl picks.length (fl picks)), (7, .own 4 0 (c0q10 ++ [(([(GOp.mk 5 0 xhave (ix wants i13))] : List GOp) : (List GOp))]).length), (8, iS i13)] [(0, .dead), ((.s 1 0), .dead), (2, .dead), (3, .row 39 [.own 2 0 ([(GOp.mk 5 0 xhave (ix wants i13))] : List GOp).length]), (4, .row 39 (flD dLListGOp [5] (c0q10 ++ [(([(GOp.mk 5 0 xhave (ix wants i13))] : List GOp) : (List GOp))]))), ((.s 5 0), .fam (famD dLListGOp 0 (c0q10 ++ [(([(GOp.mk 5 0 xhave (ix wants i13))] : List GOp) : (List GOp))])))] 6 (by kernel_rfl) ?_
            refine wk_id ?_
            refine wk_id ?_
            refine reg_f ?_
            refine rs 3 [] [] (by kernel_rfl) allP_nil ?_
            refine rf [(0, iS xhave), (1, .sl wants.length (fl wants)), (2, .sl picks.length (fl picks)), (7, .own 4 0 (c0q10 ++ [(([(GOp.mk 5 0 xhave (ix wants i13))] : List GOp) : (List GOp))]).length), (8, iS (IntKind.i64.wrap (i13 + 1)))] [(0, .dead), ((.s 1 0), .dead), (2, .dead), (3, .row 39 [.own 2 0 ([(GOp.mk 5 0 xhave (ix wants i13))] : List GOp).length]), (4, .row 39 (flD dLListGOp [5] (c0q10 ++ [(([(GOp.mk 5 0 xhave (ix wants i13))] : List GOp) : (List GOp))]))), ((.s 5 0), .fam (famD dLListGOp 0 (c0q10 ++ [(([(GOp.mk 5 0 xhave (ix wants i13))] : List GOp) : (List GOp))])))] 6 (by kernel_rfl) ?_
            exact hn5 ((IntKind.i64.wrap (i13 + 1)), (c0q10 ++ [(([(GOp.mk 5 0 xhave (ix wants i13))] : List GOp) : (List GOp))])) _ _ _ (Option.some.inj h).symm (leSt_m [(0, 4), ((.s 1 0), (.s 5 0))] [] (by simp only [push_cast, leL_flD, renL_flD, seval]) (by simp only [push_cast, leL_flD, renL_flD, seval]) rfl rfl rfl)
        · change R5 (.exit 0) _ _ _
          refine ex_cast hx5 (id := 0) ?_
          obtain ⟨r0, h, e0⟩ := map_sx h
          have e1 := hr5 r0 e0.symm
          subst r0
          refine wk_id ?_
          refine wk_id ?_
          refine seq_np ?_
          refine seq_np ?_
          refine reg_f ?_
          refine rs 1 [] [] (by kernel_rfl) allP_nil ?_
          refine rf [(0, iS xhave), (1, .sl wants.length (fl wants)), (2, .sl picks.length (fl picks)), (7, .own 0 0 c0q10.length), (9, iS 0)] [(0, .row 39 (flD dLListGOp [1] c0q10)), ((.s 1 0), .fam (famD dLListGOp 0 c0q10))] 2 (by kernel_rfl) ?_
          refine wk_id ?_
          refine block_np ?_
          refine loop_sx (S := Int) (fun a => ([(0, iS xhave), (1, .sl wants.length (fl wants)), (2, .sl picks.length (fl picks)), (7, .own 0 0 c0q10.length), (9, iS a)], [(0, .row 39 (flD dLListGOp [1] c0q10)), ((.s 1 0), .fam (famD dLListGOp 0 c0q10))], 2)) h (leSt_m [(0, 0), ((.s 1 0), (.s 1 0))] [] (by simp only [push_cast, leL_flD, renL_flD, seval]) (by simp only [push_cast, leL_flD, renL_flD, seval]) rfl rfl rfl) ?_
          rintro i19 o6 R6 h hr6 hn6 hx6 ht6
          try dsimp only at h hn6 ⊢
          unfold taskmilllaw_CellWins_l3 at h
          try dsimp only at h
          refine seq_np ?_
          refine seq_np ?_
          refine reg_f ?_
          refine rs 4 [] [] (by kernel_rfl) allP_nil ?_
          refine rf [(0, iS xhave), (1, .sl wants.length (fl wants)), (2, .sl picks.length (fl picks)), (7, .own 0 0 c0q10.length), (9, iS i19), (57, bS (decide (i19 < ((picks.length : Nat) : Int))))] [(0, .row 39 (flD dLListGOp [1] c0q10)), ((.s 1 0), .fam (famD dLListGOp 0 c0q10))] 2 (by kernel_rfl) ?_
          refine wk_id ?_
          refine cond_sx h (by kernel_rfl) (fun g3554 h => ?_) (fun g3554 h => ?_)
          · refine wk_id ?_
            refine seq_np ?_
            refine block_np ?_
            refine chk_sx h (fun g3273 h => ?_)
            refine chk_sx h (fun g3276 h => ?_)
            refine seq_cut (A := Unit) (fun _ => ([(0, iS xhave), (1, .sl wants.length (fl wants)), (2, .sl picks.length (fl picks)), (7, .own 0 0 c0q10.length), (9, iS i19), (73, bS ((decide ((ix picks i19) < 0)) || (decide (((wants.length : Nat) : Int) ≤ (ix picks i19)))))], [(0, .row 39 (flD dLListGOp [1] c0q10)), ((.s 1 0), .fam (famD dLListGOp 0 c0q10))], 2)) (fun _ => True) (fun K3271 hK3271 => ?_) (fun _ _ => ?_)
            · refine reg_f ?_
              have k3272 : 0 ≤ i19 ∧ i19 < ((picks.length : Nat) : Int) := by first | simpa only [Bool.and_eq_true, decide_eq_true_eq, bne_iff_ne, ne_eq] using g3273 | (simp at g3273 ⊢; omega)
              refine rs 6 [none, none, some ⟨.iptr (fl picks) ((i19).toNat * 1), [], 2, []⟩, some ⟨iS (ix picks i19), [], 2, []⟩] _ (by kernel_rfl) (allP_cons (ob_ld picks i19 1 0 ((i19).toNat * 1) k3272 rfl (by decide) (by first | rfl | omega) (dflS Try.prog 3) (iS (ix picks i19)) rfl 2 []) (allP_cons (ob_ix_l picks 1 2 i19 k3272) allP_nil)) ?_
              refine run_split 65 (decide ((ix picks i19) < 0)) (.inl (by kernel_rfl)) (fun g3274 => ?_) (fun g3274 => ?_)
              · refine rs 8 [] [] (by kernel_rfl) allP_nil ?_
                refine rf [(0, iS xhave), (1, .sl wants.length (fl wants)), (2, .sl picks.length (fl picks)), (7, .own 0 0 c0q10.length), (9, iS i19), (73, bS true)] [(0, .row 39 (flD dLListGOp [1] c0q10)), ((.s 1 0), .fam (famD dLListGOp 0 c0q10))] 2 (by kernel_rfl) ?_
                exact hK3271 () _ _ _ trivial (leSt_m [(0, 0), ((.s 1 0), (.s 1 0))] [] (by (try simp only [g3274]) <;> simp only [push_cast, leL_flD, renL_flD, seval]) (by (try simp only [g3274]) <;> simp only [push_cast, leL_flD, renL_flD, seval]) rfl rfl rfl)
              · have k3275 : 0 ≤ i19 ∧ i19 < ((picks.length : Nat) : Int) := by have e := or_use g3276 (by first | ((try simp only [g3274]) <;> rfl) | ((try simp only [g3274]); rfl) | (exfalso; clear h; simp_all; done)); first | simpa only [Bool.and_eq_true, decide_eq_true_eq, bne_iff_ne, ne_eq] using e | (simp at e ⊢; omega)
                refine rs 8 [none, none, some ⟨.iptr (fl picks) ((i19).toNat * 1), [], 2, []⟩, some ⟨iS (ix picks i19), [], 2, []⟩] _ (by kernel_rfl) (allP_cons (ob_ld picks i19 1 0 ((i19).toNat * 1) k3275 rfl (by decide) (by first | rfl | omega) (dflS Try.prog 3) (iS (ix picks i19)) rfl 2 []) (allP_cons (ob_ix_l picks 1 2 i19 k3275) allP_nil)) ?_
                refine rf [(0, iS xhave), (1, .sl wants.length (fl wants)), (2, .sl picks.length (fl picks)), (7, .own 0 0 c0q10.length), (9, iS i19), (73, bS (decide (((wants.length : Nat) : Int) ≤ (ix picks i19))))] [(0, .row 39 (flD dLListGOp [1] c0q10)), ((.s 1 0), .fam (famD dLListGOp 0 c0q10))] 2 (by kernel_rfl) ?_
                exact hK3271 () _ _ _ trivial (leSt_m [(0, 0), ((.s 1 0), (.s 1 0))] [] (by (try simp only [g3274]) <;> simp only [push_cast, leL_flD, renL_flD, seval]) (by (try simp only [g3274]) <;> simp only [push_cast, leL_flD, renL_flD, seval]) rfl rfl rfl)
            · dsimp only
              refine cond_sx h (by kernel_rfl) (fun g3277 h => ?_) (fun g3277 h => ?_)
              · refine seq_np ?_
                refine reg_f ?_
                refine rs 1 [] [] (by kernel_rfl) allP_nil ?_
                refine rf [(6, bS true)] [(0, .row 39 (flD dLListGOp [1] c0q10)), ((.s 1 0), .fam (famD dLListGOp 0 c0q10))] 2 (by kernel_rfl) ?_
                refine wk_id ?_
                refine rt_cast ht6 ?_
                obtain ⟨r0, h, e0⟩ := map_sx h
                have e1 := hr6 r0 e0.symm
                subst r0
                obtain rfl := Option.some.inj h
                refine ret_at (bS true) (by kernel_rfl) ?_
                exact ret_e [] [] (by simp only [push_cast, leL_flD, renL_flD, seval]) (by simp only [push_cast, leL_flD, renL_flD, seval]) rfl rfl rfl
              · refine wk_id ?_
                refine wk_id ?_
                refine reg_f ?_
                refine rs 3 [] [] (by kernel_rfl) allP_nil ?_
                refine rf [(0, iS xhave), (1, .sl wants.length (fl wants)), (2, .sl picks.length (fl picks)), (7, .own 0 0 c0q10.length), (9, iS (IntKind.i64.wrap (i19 + 1)))] [(0, .row 39 (flD dLListGOp [1] c0q10)), ((.s 1 0), .fam (famD dLListGOp 0 c0q10))] 2 (by kernel_rfl) ?_
                exact hn6 ((IntKind.i64.wrap (i19 + 1))) _ _ _ (Option.some.inj h).symm (leSt_m [(0, 0), ((.s 1 0), (.s 1 0))] [] (by simp only [push_cast, leL_flD, renL_flD, seval]) (by simp only [push_cast, leL_flD, renL_flD, seval]) rfl rfl rfl)
          · change R6 (.exit 2) _ _ _
            refine ex_cast hx6 (id := 2) ?_
            obtain ⟨r0, h, e0⟩ := map_sx h
            have e1 := hr6 r0 e0.symm
            subst r0
            refine wk_id ?_
            refine wk_id ?_
            refine seq_np ?_
            refine reg_f ?_
            refine rs 1 [] [] (by kernel_rfl) allP_nil ?_
            obtain ⟨r3279, hr3279, h⟩ := bind_sx h
            refine call_x (taskmilllaw_own_spec picks r3279 hr3279) (args := [.sl picks.length (fl picks)]) (dst := (some 75)) (by kernel_rfl) [(0, .row 39 (flD dLListGOp [1] c0q10)), ((.s 1 0), .fam (famD dLListGOp 0 c0q10))] 2 (by kernel_rfl) [] [] (.own 2 0 r3279.length) [(2, .row 3 (fl r3279))] (by simp only [push_cast, leL_flD, renL_flD, seval]) (by simp only [push_cast, leL_flD, renL_flD, seval]) (by kernel_rfl) (.inl rfl) (by simp only [push_cast, leL_flD, renL_flD, seval]) (by simp only [push_cast, leL_flD, renL_flD, seval]) ?_
            refine rs 1 [] [] (by kernel_rfl) allP_nil ?_
            refine rf [(0, iS xhave), (1, .sl wants.length (fl wants)), (7, .own 0 0 c0q10.length), (10, .own 2 0 r3279.length)] [(0, .row 39 (flD dLListGOp [1] c0q10)), ((.s 1 0), .fam (famD dLListGOp 0 c0q10)), (2, .row 3 (fl r3279))] 3 (by kernel_rfl) ?_
            refine wk_id ?_
            refine seq_np ?_
            refine seq_np ?_
            refine reg_f ?_
            refine rs 1 [] [] (by kernel_rfl) allP_nil ?_
            refine rf [(0, iS xhave), (1, .sl wants.length (fl wants)), (7, .own 0 0 c0q10.length), (10, .own 2 0 r3279.length), (11, iS 0)] [(0, .row 39 (flD dLListGOp [1] c0q10)), ((.s 1 0), .fam (famD dLListGOp 0 c0q10)), (2, .row 3 (fl r3279))] 3 (by kernel_rfl) ?_
            refine wk_id ?_
            refine block_np ?_
            refine loop_sx (S := Int × (List Int)) (fun a => ([(0, iS xhave), (1, .sl wants.length (fl wants)), (7, .own 0 0 c0q10.length), (10, .own 1 0 a.2.length), (11, iS a.1)], [(0, .row 39 (flD dLListGOp [2] c0q10)), (1, .row 3 (fl a.2)), ((.s 2 0), .fam (famD dLListGOp 0 c0q10))], 3)) h (leSt_m [(0, 0), (1, 2), ((.s 2 0), (.s 1 0))] [] (by simp only [push_cast, leL_flD, renL_flD, seval]) (by simp only [push_cast, leL_flD, renL_flD, seval]) rfl rfl rfl) ?_
            rintro ⟨i25, c1q14⟩ o7 R7 h hr7 hn7 hx7 ht7
            try dsimp only at h hn7 ⊢
            unfold taskmilllaw_CellWins_l2 at h
            try dsimp only at h
            refine seq_np ?_
            refine seq_np ?_
            refine reg_f ?_
            refine rs 4 [] [] (by kernel_rfl) allP_nil ?_
            refine rf [(0, iS xhave), (1, .sl wants.length (fl wants)), (7, .own 0 0 c0q10.length), (10, .own 1 0 c1q14.length), (11, iS i25), (79, bS (decide (i25 < ((wants.length : Nat) : Int))))] [(0, .row 39 (flD dLListGOp [2] c0q10)), (1, .row 3 (fl c1q14)), ((.s 2 0), .fam (famD dLListGOp 0 c0q10))] 3 (by kernel_rfl) ?_
            refine wk_id ?_
            refine cond_sx h (by kernel_rfl) (fun g3553 h => ?_) (fun g3553 h => ?_)
            · refine wk_id ?_
              refine seq_np ?_
              refine block_np ?_
              refine chk_sx h (fun g3315 h => ?_)
              refine reg_f ?_
              have k3314 : (c1q14 ++ ([i25] : List Int)).length * 8 ≤ 140737488355328 := by first | simpa only [Bool.and_eq_true, decide_eq_true_eq, bne_iff_ne, ne_eq] using g3315 | (simp at g3315 ⊢; omega)
              refine rs 5 [none, none, none, some ⟨.own 4 0 (c1q14 ++ ([i25] : List Int)).length, [(4, .row 3 (fl (c1q14 ++ ([i25] : List Int)))), (1, .dead)], 5, [1, 3]⟩] _ (by kernel_rfl) (allP_cons (ob_app (P := Try.prog) c1q14 ([i25] : List Int) 1 8 rfl (appCells (fl ([i25] : List Int)) 0 (([i25] : List Int).length * 1)) ([i25] : List Int).length (app_own ([i25] : List Int) 1 rfl) rfl (0 + ([i25] : List Int).length * 1 ≤ (fl ([i25] : List Int)).length) (app_own_le ([i25] : List Int) 1 rfl) 3 (by kernel_rfl) (by decide) k3314 1 4 [3]) allP_nil) ?_
              refine rf [(0, iS xhave), (1, .sl wants.length (fl wants)), (7, .own 0 0 c0q10.length), (10, .own 4 0 (c1q14 ++ ([i25] : List Int)).length), (11, iS i25)] [(0, .row 39 (flD dLListGOp [2] c0q10)), (1, .dead), ((.s 2 0), .fam (famD dLListGOp 0 c0q10)), (3, .row 3 (fl ([i25] : List Int))), (4, .row 3 (fl (c1q14 ++ ([i25] : List Int))))] 5 (by kernel_rfl) ?_
              refine wk_id ?_
              refine wk_id ?_
              refine reg_f ?_
              refine rs 3 [] [] (by kernel_rfl) allP_nil ?_
              refine rf [(0, iS xhave), (1, .sl wants.length (fl wants)), (7, .own 0 0 c0q10.length), (10, .own 4 0 (c1q14 ++ ([i25] : List Int)).length), (11, iS (IntKind.i64.wrap (i25 + 1)))] [(0, .row 39 (flD dLListGOp [2] c0q10)), (1, .dead), ((.s 2 0), .fam (famD dLListGOp 0 c0q10)), (3, .row 3 (fl ([i25] : List Int))), (4, .row 3 (fl (c1q14 ++ ([i25] : List Int))))] 5 (by kernel_rfl) ?_
              exact hn7 ((IntKind.i64.wrap (i25 + 1)), (c1q14 ++ ([i25] : List Int))) _ _ _ (Option.some.inj h).symm (leSt_m [(0, 0), (1, 4), ((.s 2 0), (.s 2 0))] [] (by simp only [push_cast, leL_flD, renL_flD, seval]) (by simp only [push_cast, leL_flD, renL_flD, seval]) rfl rfl rfl)
            · change R7 (.exit 4) _ _ _
              refine ex_cast hx7 (id := 4) ?_
              obtain ⟨r0, h, e0⟩ := map_sx h
              have e1 := hr7 r0 e0.symm
              subst r0
              refine wk_id ?_
              refine wk_mk [(0, iS xhave), (1, .sl wants.length (fl wants)), (7, .own 0 0 c0q10.length), (10, .sl c1q14.length (fl c1q14)), (11, iS i25), (79, bS (decide (i25 < ((wants.length : Nat) : Int))))] [(0, .row 39 (flD dLListGOp [2] c0q10)), ((.s 2 0), .fam (famD dLListGOp 0 c0q10))] 3 (leSt_m [(0, 0), ((.s 2 0), (.s 2 0))] [1] (by simp only [leS_frz, leS_cut, leL_flD, renL_flD, push_cast, seval]) (by simp only [leS_frz, leS_cut, leL_flD, renL_flD, push_cast, seval]) rfl rfl rfl) ?_
              refine seq_np ?_
              refine reg_f ?_
              refine rs 4 [] [] (by kernel_rfl) allP_nil ?_
              obtain ⟨r3317, hr3317, h⟩ := bind_sx h
              refine call_x (SpecW.give (SpecW.giveG (cell_Mix_spec ([xhave] : List Int) c0q10 c1q14 r3317 hr3317) [Nm.t 0, (.s 1 0)] 2 [(0, .row 39 (flD dLListGOp [1] c0q10)), ((.s 1 0), .fam (famD dLListGOp 0 c0q10))] [.sl ([xhave] : List Int).length (fl ([xhave] : List Int)), .own 0 0 c0q10.length, .sl c1q14.length (fl c1q14)] [] (.tup [.own 2 0 r3317.2.1.length, .own 3 0 r3317.2.2.length, .agg (Enc.cells r3317.1)]) [(2, .row 3 (fl r3317.2.1)), (3, .row 22 (flD dLListInt [4] r3317.2.2)), ((.s 4 0), .fam (famD dLListInt 0 r3317.2.2))] (by decide) (by simp only [↓leS_frzD dLListGOp [1] c0q10, leS_frz, leL_flD, renL_flD, push_cast, seval]) (by simp only [push_cast, leL_flD, renL_flD, seval]) (by simp only [push_cast, leL_flD, renL_flD, seval]) (by simp only [push_cast, leL_flD, renL_flD, seval]) rfl (by first | (simp only [push_cast, leL_flD, renL_flD, seval]; done) | (simp only [push_cast, leL_flD, renL_flD, seval]; kernel_rfl) | kernel_rfl) (by first | (simp only [push_cast, leL_flD, renL_flD, seval]; done) | (simp only [push_cast, leL_flD, renL_flD, seval]; kernel_rfl) | kernel_rfl) rfl) [(0, .row 39 (flD dLListGOp [1] c0q10)), ((.s 1 0), .fam (famD dLListGOp 0 c0q10)), (2, .row 3 (fl ([xhave] : List Int)))] [.own 2 0 ([xhave] : List Int).length, .own 0 0 c0q10.length, .sl c1q14.length (fl c1q14)] [(0, 0), ((.s 1 0), (.s 1 0))] (.tup [.own 5 0 r3317.2.1.length, .own 6 0 r3317.2.2.length, .agg (Enc.cells r3317.1)]) [(5, .row 3 (fl r3317.2.1)), (6, .row 22 (flD dLListInt [7] r3317.2.2)), ((.s 7 0), .fam (famD dLListInt 0 r3317.2.2)), (0, .dead), ((.s 1 0), .dead)] (by first | simp only [push_cast, leL_flD, renL_flD, seval] | simp only [push_cast, List.mem_singleton, true_and, and_true, leL_flD, renL_flD, seval]) (by simp only [push_cast, leL_flD, renL_flD, seval]) (by simp only [push_cast, leL_flD, renL_flD, seval]) (by simp only [push_cast, leL_flD, renL_flD, seval]) rfl (by first | (simp only [push_cast, leL_flD, renL_flD, seval]; done) | (simp only [push_cast, leL_flD, renL_flD, seval]; kernel_rfl) | kernel_rfl) (by first | (simp only [push_cast, leL_flD, renL_flD, seval]; done) | (simp only [push_cast, leL_flD, renL_flD, seval]; kernel_rfl) | kernel_rfl) rfl (hfam := (And.intro trivial (And.intro (fun _ => Or.inl rfl) trivial)))) (args := [.own 3 0 ([xhave] : List Int).length, .own 0 0 c0q10.length, .sl c1q14.length (fl c1q14)]) (dst := (some 91)) (by kernel_rfl) [(0, .row 39 (flD dLListGOp [2] c0q10)), ((.s 2 0), .fam (famD dLListGOp 0 c0q10)), (3, .row 3 (fl ([xhave] : List Int)))] 4 (by kernel_rfl) [(0, 0), ((.s 1 0), (.s 2 0)), (2, 3)] [] (.tup [.own 9 0 r3317.2.1.length, .own 10 0 r3317.2.2.length, .agg (Enc.cells r3317.1)]) [(9, .row 3 (fl r3317.2.1)), (10, .row 22 (flD dLListInt [11] r3317.2.2)), ((.s 11 0), .fam (famD dLListInt 0 r3317.2.2)), (0, .dead), ((.s 2 0), .dead), (0, .dead), ((.s 2 0), .dead), (3, .dead)] (by simp only [push_cast, leL_flD, renL_flD, seval]) (by simp only [push_cast, leL_flD, renL_flD, seval]) (by kernel_rfl) (.inl rfl) (by first | (simp only [push_cast, leL_flD, renL_flD, seval]; done) | (simp only [push_cast, leL_flD, renL_flD, seval]; kernel_rfl) | kernel_rfl) (by first | (simp only [push_cast, leL_flD, renL_flD, seval]; done) | (simp only [push_cast, leL_flD, renL_flD, seval]; kernel_rfl) | kernel_rfl) ?_ (hfam := (And.intro trivial (And.intro (fun _ => Or.inl rfl) (And.intro trivial trivial))))
              refine rs 8 [] [] (by kernel_rfl) allP_nil ?_
              refine rf [(1, .sl wants.length (fl wants)), (10, .sl c1q14.length (fl c1q14)), (12, .own 9 0 r3317.2.1.length), (13, .own 10 0 r3317.2.2.length), (14, .ptr 12 0)] [(0, .dead), ((.s 2 0), .dead), (3, .dead), (9, .row 3 (fl r3317.2.1)), (10, .row 22 (flD dLListInt [11] r3317.2.2)), ((.s 11 0), .fam (famD dLListInt 0 r3317.2.2)), (12, .row 28 (Enc.cells r3317.1))] 13 (by kernel_rfl) ?_
              refine wk_id ?_
              refine seq_np ?_
              refine seq_cut (A := Unit) (fun _ => ([(1, .sl wants.length (fl wants)), (10, .sl c1q14.length (fl c1q14)), (12, .own 9 0 r3317.2.1.length), (13, .own 10 0 r3317.2.2.length), (109, bS ((r3317.1.Code != 0) || ((((r3317.2.2.length : Nat) : Int) != ((wants.length : Nat) : Int)) || (((r3317.2.1.length : Nat) : Int) != 1))))], [(9, .row 3 (fl r3317.2.1)), (10, .row 22 (flD dLListInt [11] r3317.2.2)), ((.s 11 0), .fam (famD dLListInt 0 r3317.2.2)), (12, .row 28 (Enc.cells r3317.1))], 13)) (fun _ => True) (fun K3323 hK3323 => ?_) (fun _ _ => ?_)
              · refine reg_f ?_
                refine rs 4 [] [] (by kernel_rfl) allP_nil ?_
                refine run_split 98 (r3317.1.Code != 0) (.inl (by kernel_rfl)) (fun g3324 => ?_) (fun g3324 => ?_)
                · refine rs 11 [] [] (by kernel_rfl) allP_nil ?_
                  refine rf [(1, .sl wants.length (fl wants)), (10, .sl c1q14.length (fl c1q14)), (12, .own 9 0 r3317.2.1.length), (13, .own 10 0 r3317.2.2.length), (109, bS true)] [(0, .dead), ((.s 2 0), .dead), (3, .dead), (9, .row 3 (fl r3317.2.1)), (10, .row 22 (flD dLListInt [11] r3317.2.2)), ((.s 11 0), .fam (famD dLListInt 0 r3317.2.2)), (12, .row 28 (Enc.cells r3317.1))] 13 (by kernel_rfl) ?_
                  exact hK3323 () _ _ _ trivial (leSt_m [(9, 9), (10, 10), ((.s 11 0), (.s 11 0)), (12, 12)] [] (by (try simp only [g3324]) <;> simp only [push_cast, leL_flD, renL_flD, seval]) (by (try simp only [g3324]) <;> simp only [push_cast, leL_flD, renL_flD, seval]) rfl rfl rfl)
                · refine rs 7 [] [] (by kernel_rfl) allP_nil ?_
                  refine run_split 105 (((r3317.2.2.length : Nat) : Int) != ((wants.length : Nat) : Int)) (.inl (by kernel_rfl)) (fun g3325 => ?_) (fun g3325 => ?_)
                  · refine rs 4 [] [] (by kernel_rfl) allP_nil ?_
                    refine rf [(1, .sl wants.length (fl wants)), (10, .sl c1q14.length (fl c1q14)), (12, .own 9 0 r3317.2.1.length), (13, .own 10 0 r3317.2.2.length), (109, bS true)] [(0, .dead), ((.s 2 0), .dead), (3, .dead), (9, .row 3 (fl r3317.2.1)), (10, .row 22 (flD dLListInt [11] r3317.2.2)), ((.s 11 0), .fam (famD dLListInt 0 r3317.2.2)), (12, .row 28 (Enc.cells r3317.1))] 13 (by kernel_rfl) ?_
                    exact hK3323 () _ _ _ trivial (leSt_m [(9, 9), (10, 10), ((.s 11 0), (.s 11 0)), (12, 12)] [] (by first | ((try simp only [g3324, g3325]) <;> simp only [push_cast, leL_flD, renL_flD, seval]; done) | ((try simp only [g3324]); (try simp only [g3325]); simp only [push_cast, leL_flD, renL_flD, seval]; done) | (exfalso; clear h; simp_all; done)) (by first | ((try simp only [g3324, g3325]) <;> simp only [push_cast, leL_flD, renL_flD, seval]; done) | ((try simp only [g3324]); (try simp only [g3325]); simp only [push_cast, leL_flD, renL_flD, seval]; done) | (exfalso; clear h; simp_all; done)) rfl rfl rfl)
                  · refine rs 4 [] [] (by kernel_rfl) allP_nil ?_
                    refine rf [(1, .sl wants.length (fl wants)), (10, .sl c1q14.length (fl c1q14)), (12, .own 9 0 r3317.2.1.length), (13, .own 10 0 r3317.2.2.length), (109, bS (((r3317.2.1.length : Nat) : Int) != 1))] [(0, .dead), ((.s 2 0), .dead), (3, .dead), (9, .row 3 (fl r3317.2.1)), (10, .row 22 (flD dLListInt [11] r3317.2.2)), ((.s 11 0), .fam (famD dLListInt 0 r3317.2.2)), (12, .row 28 (Enc.cells r3317.1))] 13 (by kernel_rfl) ?_
                    exact hK3323 () _ _ _ trivial (leSt_m [(9, 9), (10, 10), ((.s 11 0), (.s 11 0)), (12, 12)] [] (by first | ((try simp only [g3324, g3325]) <;> simp only [push_cast, leL_flD, renL_flD, seval]; done) | ((try simp only [g3324]); (try simp only [g3325]); simp only [push_cast, leL_flD, renL_flD, seval]; done) | (exfalso; clear h; simp_all; done)) (by first | ((try simp only [g3324, g3325]) <;> simp only [push_cast, leL_flD, renL_flD, seval]; done) | ((try simp only [g3324]); (try simp only [g3325]); simp only [push_cast, leL_flD, renL_flD, seval]; done) | (exfalso; clear h; simp_all; done)) rfl rfl rfl)
              · dsimp only
                refine cond_sx h (by kernel_rfl) (fun g3552 h => ?_) (fun g3552 h => ?_)
                · refine seq_np ?_
                  refine reg_f ?_
                  refine rs 1 [] [] (by kernel_rfl) allP_nil ?_
                  refine rf [(6, bS false)] [(9, .row 3 (fl r3317.2.1)), (10, .row 22 (flD dLListInt [11] r3317.2.2)), ((.s 11 0), .fam (famD dLListInt 0 r3317.2.2)), (12, .row 28 (Enc.cells r3317.1))] 13 (by kernel_rfl) ?_
                  refine wk_id ?_
                  obtain rfl := Option.some.inj h
                  refine ret_at (bS false) (by kernel_rfl) ?_
                  exact ret_e [] [] (by simp only [push_cast, leL_flD, renL_flD, seval]) (by simp only [push_cast, leL_flD, renL_flD, seval]) rfl rfl rfl
                · refine wk_id ?_
                  refine seq_np ?_
                  refine reg_f ?_
                  refine rs 1 [] [] (by kernel_rfl) allP_nil ?_
                  refine rf [(1, .sl wants.length (fl wants)), (10, .sl c1q14.length (fl c1q14)), (12, .own 9 0 r3317.2.1.length), (13, .own 10 0 r3317.2.2.length), (15, iS (-1))] [(9, .row 3 (fl r3317.2.1)), (10, .row 22 (flD dLListInt [11] r3317.2.2)), ((.s 11 0), .fam (famD dLListInt 0 r3317.2.2)), (12, .row 28 (Enc.cells r3317.1))] 13 (by kernel_rfl) ?_
                  refine wk_id ?_
                  refine seq_np ?_
                  refine seq_np ?_
                  refine reg_f ?_
                  refine rs 1 [] [] (by kernel_rfl) allP_nil ?_
                  refine rf [(1, .sl wants.length (fl wants)), (10, .sl c1q14.length (fl c1q14)), (12, .own 9 0 r3317.2.1.length), (13, .own 10 0 r3317.2.2.length), (15, iS (-1)), (16, iS 0)] [(9, .row 3 (fl r3317.2.1)), (10, .row 22 (flD dLListInt [11] r3317.2.2)), ((.s 11 0), .fam (famD dLListInt 0 r3317.2.2)), (12, .row 28 (Enc.cells r3317.1))] 13 (by kernel_rfl) ?_
                  refine wk_id ?_
                  refine block_np ?_
                  refine loop_sx (S := Int × Int × (List Int) × (List (List Int))) (fun a => ([(1, .sl wants.length (fl wants)), (10, .sl c1q14.length (fl c1q14)), (12, .own 0 0 a.2.2.1.length), (13, .own 1 0 a.2.2.2.length), (15, iS a.1), (16, iS a.2.1)], [(0, .row 3 (fl a.2.2.1)), (1, .row 22 (flD dLListInt [2] a.2.2.2)), ((.s 2 0), .fam (famD dLListInt 0 a.2.2.2))], 3)) h (leSt_m [(0, 9), (1, 10), ((.s 2 0), (.s 11 0))] [] (by simp only [push_cast, leL_flD, renL_flD, seval]) (by simp only [push_cast, leL_flD, renL_flD, seval]) rfl rfl rfl) ?_
                  rintro ⟨won18, i31, c0q19, c1q23⟩ o8 R8 h hr8 hn8 hx8 ht8
                  try dsimp only at h hn8 ⊢
                  unfold taskmilllaw_CellWins_l1 at h
                  try dsimp only at h
                  refine seq_np ?_
                  refine seq_np ?_
                  refine reg_f ?_
                  refine rs 4 [] [] (by kernel_rfl) allP_nil ?_
                  refine rf [(1, .sl wants.length (fl wants)), (10, .sl c1q14.length (fl c1q14)), (12, .own 0 0 c0q19.length), (13, .own 1 0 c1q23.length), (15, iS won18), (16, iS i31), (113, bS (decide (i31 < ((c1q23.length : Nat) : Int))))] [(0, .row 3 (fl c0q19)), (1, .row 22 (flD dLListInt [2] c1q23)), ((.s 2 0), .fam (famD dLListInt 0 c1q23))] 3 (by kernel_rfl) ?_
                  refine wk_id ?_
                  refine cond_sx h (by kernel_rfl) (fun g3551 h => ?_) (fun g3551 h => ?_)
                  · refine wk_id ?_
                    refine seq_np ?_
                    refine block_cut (A := Int) (fun a => ([(1, .sl wants.length (fl wants)), (10, .sl c1q14.length (fl c1q14)), (12, .own 0 0 c0q19.length), (13, .own 1 0 c1q23.length), (15, iS a), (16, iS i31)], [(0, .row 3 (fl c0q19)), (1, .row 22 (flD dLListInt [2] c1q23)), ((.s 2 0), .fam (famD dLListInt 0 c1q23))], 3)) (fun a => (taskmilllaw_CellWins_j1 wants c1q14 i31 c0q19 c1q23 a) = some o8) (fun K3497 hK3497 => ?_) ?_
                    · refine seq_np ?_
                      refine chk_sx h (fun g3517 h => ?_)
                      refine chk_sx h (fun g3520 h => ?_)
                      refine chk_sx h (fun g3522 h => ?_)
                      refine seq_cut (A := Unit) (fun _ => ([(1, .sl wants.length (fl wants)), (10, .sl c1q14.length (fl c1q14)), (12, .own 0 0 c0q19.length), (13, .own 1 0 c1q23.length), (15, iS won18), (16, iS i31), (134, bS (((((ixD c1q23 i31).length : Nat) : Int) != 1) || (((ix (ixD c1q23 i31) (0 : Int)) == 1) && (decide ((0 : Int) ≤ won18)))))], [(0, .row 3 (fl c0q19)), (1, .row 22 (flD dLListInt [2] c1q23)), ((.s 2 0), .fam (famD dLListInt 0 c1q23))], 3)) (fun _ => True) (fun K3515 hK3515 => ?_) (fun _ _ => ?_)
                      · refine reg_f ?_
                        have k3516 : 0 ≤ i31 ∧ i31 < ((c1q23.length : Nat) : Int) := by first | simpa only [Bool.and_eq_true, decide_eq_true_eq, bne_iff_ne, ne_eq] using g3517 | (simp at g3517 ⊢; omega)
                        refine rs 7 [none, none, some ⟨.ptr 1 (0 + (i31).toNat * 1), [], 3, [1]⟩, some ⟨.own (.s 2 i31) 0 (ixD c1q23 i31).length, [], 3, [1]⟩] _ (by kernel_rfl) (allP_cons (ob_ldD dLListInt [2] c1q23 i31 1 0 (0 + (i31).toNat * 1) k3516 rfl (by decide) (by first | rfl | omega) (dflS Try.prog 22) (.own (.s 2 i31) 0 (ixD c1q23 i31).length) rfl 3 [1]) (allP_cons (ob_ix_o 1 c1q23.length 0 1 3 i31 k3516) allP_nil)) ?_
                        refine run_split 122 ((((ixD c1q23 i31).length : Nat) : Int) != 1) (.inl (by kernel_rfl)) (fun g3518 => ?_) (fun g3518 => ?_)
                        · refine rs 12 [] [] (by kernel_rfl) allP_nil ?_
                          refine rf [(1, .sl wants.length (fl wants)), (10, .sl c1q14.length (fl c1q14)), (12, .own 0 0 c0q19.length), (13, .own 1 0 c1q23.length), (15, iS won18), (16, iS i31), (134, bS true)] [(0, .row 3 (fl c0q19)), (1, .row 22 (flD dLListInt [2] c1q23)), ((.s 2 0), .fam (famD dLListInt 0 c1q23))] 3 (by kernel_rfl) ?_
                          exact hK3515 () _ _ _ trivial (leSt_m [(0, 0), (1, 1), ((.s 2 0), (.s 2 0))] [] (by (try simp only [g3518]) <;> simp only [push_cast, leL_flD, renL_flD, seval]) (by (try simp only [g3518]) <;> simp only [push_cast, leL_flD, renL_flD, seval]) rfl rfl rfl)
                        · have k3519 : 0 ≤ i31 ∧ i31 < ((c1q23.length : Nat) : Int) := by have e := or_use g3520 (by first | ((try simp only [g3518]) <;> rfl) | ((try simp only [g3518]); rfl) | (exfalso; clear h; simp_all; done)); first | simpa only [Bool.and_eq_true, decide_eq_true_eq, bne_iff_ne, ne_eq] using e | (simp at e ⊢; omega)
                          have k3521 : 0 ≤ (0 : Int) ∧ (0 : Int) < (((ixD c1q23 i31).length : Nat) : Int) := by have e := or_use g3522 (by first | ((try simp only [g3518]) <;> rfl) | ((try simp only [g3518]); rfl) | (exfalso; clear h; simp_all; done)); first | simpa only [Bool.and_eq_true, decide_eq_true_eq, bne_iff_ne, ne_eq] using e | (simp at e ⊢; omega)
                          refine rs 8 [none, none, some ⟨.ptr 1 (0 + (i31).toNat * 1), [], 3, [1]⟩, some ⟨.own (.s 2 i31) 0 (ixD c1q23 i31).length, [], 3, [1]⟩, some ⟨.ptr (.s 2 i31) (0 + ((0 : Int)).toNat * 1), [], 3, [(.s 2 0)]⟩, some ⟨iS (ix (ixD c1q23 i31) (0 : Int)), [], 3, [(.s 2 0)]⟩] _ (by kernel_rfl) (allP_cons (ob_ld (ixD c1q23 i31) (0 : Int) 1 0 (0 + ((0 : Int)).toNat * 1) k3521 rfl (by decide) (by first | rfl | omega) (dflS Try.prog 3) (iS (ix (ixD c1q23 i31) (0 : Int))) rfl 3 [(.s 2 0)]) (allP_cons (ob_ix_o (.s 2 i31) (ixD c1q23 i31).length 0 1 3 0 k3521) (allP_cons (ob_ldD dLListInt [2] c1q23 i31 1 0 (0 + (i31).toNat * 1) k3519 rfl (by decide) (by first | rfl | omega) (dflS Try.prog 22) (.own (.s 2 i31) 0 (ixD c1q23 i31).length) rfl 3 [1]) (allP_cons (ob_ix_o 1 c1q23.length 0 1 3 i31 k3519) allP_nil)))) ?_
                          refine run_split 130 ((ix (ixD c1q23 i31) (0 : Int)) == 1) (.inr (by kernel_rfl)) (fun g3523 => ?_) (fun g3523 => ?_)
                          · refine rs 4 [] [] (by kernel_rfl) allP_nil ?_
                            refine rf [(1, .sl wants.length (fl wants)), (10, .sl c1q14.length (fl c1q14)), (12, .own 0 0 c0q19.length), (13, .own 1 0 c1q23.length), (15, iS won18), (16, iS i31), (134, bS (decide ((0 : Int) ≤ won18)))] [(0, .row 3 (fl c0q19)), (1, .row 22 (flD dLListInt [2] c1q23)), ((.s 2 0), .fam (famD dLListInt 0 c1q23))] 3 (by kernel_rfl) ?_
                            exact hK3515 () _ _ _ trivial (leSt_m [(0, 0), (1, 1), ((.s 2 0), (.s 2 0))] [] (by first | ((try simp only [g3518, g3523]) <;> simp only [push_cast, leL_flD, renL_flD, seval]; done) | ((try simp only [g3518]); (try simp only [g3523]); simp only [push_cast, leL_flD, renL_flD, seval]; done) | (exfalso; clear h; simp_all; done)) (by first | ((try simp only [g3518, g3523]) <;> simp only [push_cast, leL_flD, renL_flD, seval]; done) | ((try simp only [g3518]); (try simp only [g3523]); simp only [push_cast, leL_flD, renL_flD, seval]; done) | (exfalso; clear h; simp_all; done)) rfl rfl rfl)
                          · refine rs 4 [] [] (by kernel_rfl) allP_nil ?_
                            refine rf [(1, .sl wants.length (fl wants)), (10, .sl c1q14.length (fl c1q14)), (12, .own 0 0 c0q19.length), (13, .own 1 0 c1q23.length), (15, iS won18), (16, iS i31), (134, bS false)] [(0, .row 3 (fl c0q19)), (1, .row 22 (flD dLListInt [2] c1q23)), ((.s 2 0), .fam (famD dLListInt 0 c1q23))] 3 (by kernel_rfl) ?_
                            exact hK3515 () _ _ _ trivial (leSt_m [(0, 0), (1, 1), ((.s 2 0), (.s 2 0))] [] (by first | ((try simp only [g3518, g3523]) <;> simp only [push_cast, leL_flD, renL_flD, seval]; done) | ((try simp only [g3518]); (try simp only [g3523]); simp only [push_cast, leL_flD, renL_flD, seval]; done) | (exfalso; clear h; simp_all; done)) (by first | ((try simp only [g3518, g3523]) <;> simp only [push_cast, leL_flD, renL_flD, seval]; done) | ((try simp only [g3518]); (try simp only [g3523]); simp only [push_cast, leL_flD, renL_flD, seval]; done) | (exfalso; clear h; simp_all; done)) rfl rfl rfl)
                      · dsimp only
                        refine cond_sx h (by kernel_rfl) (fun g3533 h => ?_) (fun g3533 h => ?_)
                        · refine seq_np ?_
                          refine reg_f ?_
                          refine rs 1 [] [] (by kernel_rfl) allP_nil ?_
                          refine rf [(6, bS false)] [(0, .row 3 (fl c0q19)), (1, .row 22 (flD dLListInt [2] c1q23)), ((.s 2 0), .fam (famD dLListInt 0 c1q23))] 3 (by kernel_rfl) ?_
                          refine wk_id ?_
                          refine rt_cast ht8 ?_
                          obtain ⟨r0, h, e0⟩ := map_sx h
                          have e1 := hr8 r0 e0.symm
                          subst r0
                          obtain rfl := Option.some.inj h
                          refine ret_at (bS false) (by kernel_rfl) ?_
                          exact ret_e [] [] (by simp only [push_cast, leL_flD, renL_flD, seval]) (by simp only [push_cast, leL_flD, renL_flD, seval]) rfl rfl rfl
                        · refine wk_id ?_
                          refine chk_sx h (fun g3529 h => ?_)
                          refine chk_sx h (fun g3531 h => ?_)
                          refine seq_np ?_
                          refine reg_f ?_
                          have k3528 : 0 ≤ i31 ∧ i31 < ((c1q23.length : Nat) : Int) := by first | simpa only [Bool.and_eq_true, decide_eq_true_eq, bne_iff_ne, ne_eq] using g3529 | (simp at g3529 ⊢; omega)
                          have k3530 : 0 ≤ (0 : Int) ∧ (0 : Int) < (((ixD c1q23 i31).length : Nat) : Int) := by first | simpa only [Bool.and_eq_true, decide_eq_true_eq, bne_iff_ne, ne_eq] using g3531 | (simp at g3531 ⊢; omega)
                          refine rs 7 [none, none, some ⟨.ptr 1 (0 + (i31).toNat * 1), [], 3, [1]⟩, some ⟨.own (.s 2 i31) 0 (ixD c1q23 i31).length, [], 3, [1]⟩, some ⟨.ptr (.s 2 i31) (0 + ((0 : Int)).toNat * 1), [], 3, [(.s 2 0)]⟩, some ⟨iS (ix (ixD c1q23 i31) (0 : Int)), [], 3, [(.s 2 0)]⟩] _ (by kernel_rfl) (allP_cons (ob_ld (ixD c1q23 i31) (0 : Int) 1 0 (0 + ((0 : Int)).toNat * 1) k3530 rfl (by decide) (by first | rfl | omega) (dflS Try.prog 3) (iS (ix (ixD c1q23 i31) (0 : Int))) rfl 3 [(.s 2 0)]) (allP_cons (ob_ix_o (.s 2 i31) (ixD c1q23 i31).length 0 1 3 0 k3530) (allP_cons (ob_ldD dLListInt [2] c1q23 i31 1 0 (0 + (i31).toNat * 1) k3528 rfl (by decide) (by first | rfl | omega) (dflS Try.prog 22) (.own (.s 2 i31) 0 (ixD c1q23 i31).length) rfl 3 [1]) (allP_cons (ob_ix_o 1 c1q23.length 0 1 3 i31 k3528) allP_nil)))) ?_
                          refine rf [(1, .sl wants.length (fl wants)), (10, .sl c1q14.length (fl c1q14)), (12, .own 0 0 c0q19.length), (13, .own 1 0 c1q23.length), (15, iS won18), (16, iS i31), (141, bS ((ix (ixD c1q23 i31) (0 : Int)) == 1))] [(0, .row 3 (fl c0q19)), (1, .row 22 (flD dLListInt [2] c1q23)), ((.s 2 0), .fam (famD dLListInt 0 c1q23))] 3 (by kernel_rfl) ?_
                          refine wk_id ?_
                          refine cond_sx h (by kernel_rfl) (fun g3532 h => ?_) (fun g3532 h => ?_)
                          · refine reg_f ?_
                            refine rs 2 [] [] (by kernel_rfl) allP_nil ?_
                            refine rf [(1, .sl wants.length (fl wants)), (10, .sl c1q14.length (fl c1q14)), (12, .own 0 0 c0q19.length), (13, .own 1 0 c1q23.length), (15, iS i31), (16, iS i31)] [(0, .row 3 (fl c0q19)), (1, .row 22 (flD dLListInt [2] c1q23)), ((.s 2 0), .fam (famD dLListInt 0 c1q23))] 3 (by kernel_rfl) ?_
                            exact hK3497 (i31) _ _ _ h (leSt_m [(0, 0), (1, 1), ((.s 2 0), (.s 2 0))] [] (by simp only [push_cast, leL_flD, renL_flD, seval]) (by simp only [push_cast, leL_flD, renL_flD, seval]) rfl rfl rfl)
                          · exact hK3497 (won18) _ _ _ h (leSt_m [(0, 0), (1, 1), ((.s 2 0), (.s 2 0))] [] (by simp only [push_cast, leL_flD, renL_flD, seval]) (by simp only [push_cast, leL_flD, renL_flD, seval]) rfl rfl rfl)
                    · rintro won20 h
                      try dsimp only at h ⊢
                      unfold taskmilllaw_CellWins_j1 at h
                      refine wk_id ?_
                      refine reg_f ?_
                      refine rs 3 [] [] (by kernel_rfl) allP_nil ?_
                      refine rf [(1, .sl wants.length (fl wants)), (10, .sl c1q14.length (fl c1q14)), (12, .own 0 0 c0q19.length), (13, .own 1 0 c1q23.length), (15, iS won20), (16, iS (IntKind.i64.wrap (i31 + 1)))] [(0, .row 3 (fl c0q19)), (1, .row 22 (flD dLListInt [2] c1q23)), ((.s 2 0), .fam (famD dLListInt 0 c1q23))] 3 (by kernel_rfl) ?_
                      exact hn8 (won20, (IntKind.i64.wrap (i31 + 1)), c0q19, c1q23) _ _ _ (Option.some.inj h).symm (leSt_m [(0, 0), (1, 1), ((.s 2 0), (.s 2 0))] [] (by simp only [push_cast, leL_flD, renL_flD, seval]) (by simp only [push_cast, leL_flD, renL_flD, seval]) rfl rfl rfl)
                  · change R8 (.exit 6) _ _ _
                    refine ex_cast hx8 (id := 6) ?_
                    obtain ⟨r0, h, e0⟩ := map_sx h
                    have e1 := hr8 r0 e0.symm
                    subst r0
                    refine wk_id ?_
                    refine wk_id ?_
                    refine chk_sx h (fun g3545 h => ?_)
                    refine chk_sx h (fun g3547 h => ?_)
                    refine chk_sx h (fun g3550 h => ?_)
                    refine seq_cut (A := Unit) (fun _ => ([(6, bS ((decide ((0 : Int) ≤ won18)) && (((ix c0q19 (0 : Int)) == (ix wants won18)) && (won18 == (ix c1q14 (0 : Int))))))], [(0, .row 3 (fl c0q19)), (1, .row 22 (flD dLListInt [2] c1q23)), ((.s 2 0), .fam (famD dLListInt 0 c1q23))], 23)) (fun _ => True) (fun K3542 hK3542 => ?_) (fun _ _ => ?_)
                    · refine reg_t ?_
                      refine rs 3 [] [] (by kernel_rfl) allP_nil ?_
                      refine run_split 145 (decide ((0 : Int) ≤ won18)) (.inl (by kernel_rfl)) (fun g3543 => ?_) (fun g3543 => ?_)
                      · have k3544 : 0 ≤ (0 : Int) ∧ (0 : Int) < ((c0q19.length : Nat) : Int) := by have e := or_use g3545 (by first | ((try simp only [g3543]) <;> rfl) | ((try simp only [g3543]); rfl) | (exfalso; clear h; simp_all; done)); first | simpa only [Bool.and_eq_true, decide_eq_true_eq, bne_iff_ne, ne_eq] using e | (simp at e ⊢; omega)
                        have k3546 : 0 ≤ won18 ∧ won18 < ((wants.length : Nat) : Int) := by have e := or_use g3547 (by first | ((try simp only [g3543]) <;> rfl) | ((try simp only [g3543]); rfl) | (exfalso; clear h; simp_all; done)); first | simpa only [Bool.and_eq_true, decide_eq_true_eq, bne_iff_ne, ne_eq] using e | (simp at e ⊢; omega)
                        refine rs 10 [none, some ⟨.ptr 0 (0 + ((0 : Int)).toNat * 1), [], 7, [0]⟩, some ⟨iS (ix c0q19 (0 : Int)), [], 8, [0]⟩, none, none, some ⟨.iptr (fl wants) ((won18).toNat * 1), [], 11, []⟩, some ⟨iS (ix wants won18), [], 12, []⟩] _ (by kernel_rfl) (allP_cons (ob_ld wants won18 1 0 ((won18).toNat * 1) k3546 rfl (by decide) (by first | rfl | omega) (dflS Try.prog 3) (iS (ix wants won18)) rfl 12 []) (allP_cons (ob_ix_l wants 1 11 won18 k3546) (allP_cons (ob_ld c0q19 (0 : Int) 1 0 (0 + ((0 : Int)).toNat * 1) k3544 rfl (by decide) (by first | rfl | omega) (dflS Try.prog 3) (iS (ix c0q19 (0 : Int))) rfl 8 [0]) (allP_cons (ob_ix_o 0 c0q19.length 0 1 7 0 k3544) allP_nil)))) ?_
                        refine run_split 155 ((ix c0q19 (0 : Int)) == (ix wants won18)) (.inl (by kernel_rfl)) (fun g3548 => ?_) (fun g3548 => ?_)
                        · have k3549 : 0 ≤ (0 : Int) ∧ (0 : Int) < ((c1q14.length : Nat) : Int) := by have e := or_use g3550 (by first | ((try simp only [g3543, g3548]) <;> rfl) | ((try simp only [g3543]); (try simp only [g3548]); rfl) | (exfalso; clear h; simp_all; done)); first | simpa only [Bool.and_eq_true, decide_eq_true_eq, bne_iff_ne, ne_eq] using e | (simp at e ⊢; omega)
                          refine rs 7 [none, none, some ⟨.iptr (fl c1q14) (((0 : Int)).toNat * 1), [], 18, []⟩, some ⟨iS (ix c1q14 (0 : Int)), [], 19, []⟩] _ (by kernel_rfl) (allP_cons (ob_ld c1q14 (0 : Int) 1 0 (((0 : Int)).toNat * 1) k3549 rfl (by decide) (by first | rfl | omega) (dflS Try.prog 3) (iS (ix c1q14 (0 : Int))) rfl 19 []) (allP_cons (ob_ix_l c1q14 1 18 0 k3549) allP_nil)) ?_
                          refine rt [(6, bS (won18 == (ix c1q14 (0 : Int))))] [(0, .row 3 (fl c0q19)), (1, .row 22 (flD dLListInt [2] c1q23)), ((.s 2 0), .fam (famD dLListInt 0 c1q23))] 23 follows (by kernel_rfl) ?_
                          exact hK3542 () _ _ _ trivial (leSt_m [(0, 0), (1, 1), ((.s 2 0), (.s 2 0))] [] (by first | ((try simp only [g3543, g3548]) <;> simp only [push_cast, leL_flD, renL_flD, seval]; done) | ((try simp only [g3543]); (try simp only [g3548]); simp only [push_cast, leL_flD, renL_flD, seval]; done) | (exfalso; clear h; simp_all; done)) (by first | ((try simp only [g3543, g3548]) <;> simp only [push_cast, leL_flD, renL_flD, seval]; done) | ((try simp only [g3543]); (try simp only [g3548]); simp only [push_cast, leL_flD, renL_flD, seval]; done) | (exfalso; clear h; simp_all; done)) rfl rfl rfl)
                        · refine rs 7 [] [] (by kernel_rfl) allP_nil ?_
                          refine rt [(6, bS false)] [(0, .row 3 (fl c0q19)), (1, .row 22 (flD dLListInt [2] c1q23)), ((.s 2 0), .fam (famD dLListInt 0 c1q23))] 23 follows (by kernel_rfl) ?_
                          exact hK3542 () _ _ _ trivial (leSt_m [(0, 0), (1, 1), ((.s 2 0), (.s 2 0))] [] (by first | ((try simp only [g3543, g3548]) <;> simp only [push_cast, leL_flD, renL_flD, seval]; done) | ((try simp only [g3543]); (try simp only [g3548]); simp only [push_cast, leL_flD, renL_flD, seval]; done) | (exfalso; clear h; simp_all; done)) (by first | ((try simp only [g3543, g3548]) <;> simp only [push_cast, leL_flD, renL_flD, seval]; done) | ((try simp only [g3543]); (try simp only [g3548]); simp only [push_cast, leL_flD, renL_flD, seval]; done) | (exfalso; clear h; simp_all; done)) rfl rfl rfl)
                      · refine rs 17 [] [] (by kernel_rfl) allP_nil ?_
                        refine rt [(6, bS false)] [(0, .row 3 (fl c0q19)), (1, .row 22 (flD dLListInt [2] c1q23)), ((.s 2 0), .fam (famD dLListInt 0 c1q23))] 23 follows (by kernel_rfl) ?_
                        exact hK3542 () _ _ _ trivial (leSt_m [(0, 0), (1, 1), ((.s 2 0), (.s 2 0))] [] (by (try simp only [g3543]) <;> simp only [push_cast, leL_flD, renL_flD, seval]) (by (try simp only [g3543]) <;> simp only [push_cast, leL_flD, renL_flD, seval]) rfl rfl rfl)
                    · dsimp only
                      obtain rfl := Option.some.inj h
                      refine ret_at (bS ((decide ((0 : Int) ≤ won18)) && (((ix c0q19 (0 : Int)) == (ix wants won18)) && (won18 == (ix c1q14 (0 : Int)))))) (by kernel_rfl) ?_
                      exact ret_e [] [] (by simp only [push_cast, leL_flD, renL_flD, seval]) (by simp only [push_cast, leL_flD, renL_flD, seval]) rfl rfl rfl

end Go.Proofs.Ytolmbmgjpcdngaa
