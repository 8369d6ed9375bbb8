/-
  What laws of the chapter cell compute, and lemmas on it.
  No conditions.
-/
import Derived.Test.YtolmbmgjpcdngaaProg
import Derived.Test.YtolmbmgjpcdngaacellG
set_option linter.unusedSimpArgs false
set_option linter.unusedVariables false
namespace Go.Proofs.Ytolmbmgjpcdngaa
open Go Go.Sx
attribute [local irreducible] Wk RunAt
theorem follows : Try.prog.follows .mixedOrders = true := by kernel_rfl
set_option maxRecDepth 100000 in
set_option maxHeartbeats 200000000 in
theorem taskmilllaw_ownOps_spec (l : (List GOp)) (r : (List GOp)) (h : taskmilllaw_ownOps l = some r) : SpecW Try.prog 20 [.sl l.length (fl l)] [] 0 (fun x h n => x = .own 0 0 r.length ∧ h = [(0, .row 50 (fl r))] ∧ n = 1) := by
  unfold taskmilllaw_ownOps at h
  refine spec_of (draw_ok _) Try.func20 rfl (by decide) rfl (by kernel_rfl) ?_
  refine seq_np ?_
  refine reg_f ?_
  refine rs 1 [] [] (by kernel_rfl) allP_nil ?_
  refine rf [(0, .sl l.length (fl l))] [] 0 (by kernel_rfl) ?_
  refine wk_id ?_
  refine chk_sx h (fun g13 h => ?_)
  refine seq_np ?_
  refine reg_f ?_
  have k12 : l.length * 32 ≤ 140737488355328 := by first | simpa only [Bool.and_eq_true, decide_eq_true_eq, bne_iff_ne, ne_eq] using g13 | (simp at g13 ⊢; omega)
  refine rs 3 [none, some ⟨.own 0 0 l.length, [(0, .row 50 (fl l))], 1, []⟩] _ (by kernel_rfl) (allP_cons (ob_app0 (P := Try.prog) l 4 32 rfl (fl l) l.length rfl rfl ((fl l).length = l.length * 4) (app_sl l 4 rfl) 50 (by kernel_rfl) (by decide) k12 0 []) allP_nil) ?_
  refine rf [(2, .own 0 0 l.length)] [(0, .row 50 (fl l))] 1 (by kernel_rfl) ?_
  refine wk_id ?_
  obtain rfl := Option.some.inj h
  refine ret_at (.own 0 0 l.length) (by kernel_rfl) ?_
  exact ret_e [(0, 0)] [] (by simp only [push_cast, seval]) (by simp only [push_cast, seval]) rfl rfl rfl

set_option maxRecDepth 100000 in
set_option maxHeartbeats 200000000 in
theorem cell_fault_spec (code : Int) (xat : Int) (r : Fault) (h : cell_fault code xat = some r) : SpecW Try.prog 29 [iS code, iS xat] [] 0 (fun x h n => x = .agg (Enc.cells r) ∧ h = [] ∧ n = 0) := by
  unfold cell_fault at h
  refine spec_of (draw_ok _) Try.func29 rfl (by decide) rfl (by kernel_rfl) ?_
  refine seq_np ?_
  refine reg_f ?_
  refine rs 1 [] [] (by kernel_rfl) allP_nil ?_
  refine rf [(0, iS code), (1, iS xat), (4, .ptr 0 0)] [(0, .row 28 [iS 0, iS 0])] 1 (by kernel_rfl) ?_
  refine wk_id ?_
  refine seq_np ?_
  refine reg_f ?_
  refine rs 4 [] [] (by kernel_rfl) allP_nil ?_
  refine rf [(4, .ptr 0 0)] [(0, .row 28 [iS code, iS xat])] 1 (by kernel_rfl) ?_
  refine wk_id ?_
  obtain rfl := Option.some.inj h
  refine ret_at (.agg [iS code, iS xat]) (by kernel_rfl) ?_
  exact ret_e [] [] (by simp only [push_cast, seval]) (by simp only [push_cast, seval]) rfl rfl rfl

set_option maxRecDepth 100000 in
set_option maxHeartbeats 200000000 in
theorem cell_one_spec (xo : GOp) (cells : Int) (r : Int) (h : cell_one xo cells = some r) : SpecW Try.prog 39 [.agg (Enc.cells xo), iS cells] [] 0 (fun x h n => x = iS r ∧ h = [] ∧ n = 0) := by
  unfold cell_one at h
  refine spec_of (draw_ok _) Try.func39 rfl (by decide) rfl (by kernel_rfl) ?_
  refine seq_np ?_
  refine reg_f ?_
  refine rs 2 [] [] (by kernel_rfl) allP_nil ?_
  refine rf [(1, iS cells), (2, .ptr 0 0)] [(0, .row 50 (Enc.cells xo))] 1 (by kernel_rfl) ?_
  refine wk_id ?_
  refine seq_np ?_
  refine seq_np ?_
  refine reg_f ?_
  refine rs 2 [] [] (by kernel_rfl) allP_nil ?_
  refine rf [(1, iS cells), (2, .ptr 0 0), (6, iS xo.Kind)] [(0, .row 50 (Enc.cells xo))] 1 (by kernel_rfl) ?_
  refine wk_id ?_
  refine block_cut (A := Unit) (fun a => ([(1, iS cells), (2, .ptr 0 0)], [(0, .row 50 (Enc.cells xo))], 1)) (fun a => (cell_one_j1 xo cells) = some r) (fun K58 hK58 => ?_) ?_
  · refine seq_np ?_
    refine reg_f ?_
    refine rs 2 [] [] (by kernel_rfl) allP_nil ?_
    refine rf [(1, iS cells), (2, .ptr 0 0), (6, iS xo.Kind), (7, bS (xo.Kind == 1))] [(0, .row 50 (Enc.cells xo))] 1 (by kernel_rfl) ?_
    refine wk_id ?_
    refine cond_sx h (by kernel_rfl) (fun g72 h => ?_) (fun g72 h => ?_)
    · refine seq_cut (A := Unit) (fun _ => ([(1, iS cells), (2, .ptr 0 0), (16, bS ((xo.A != 0) || (xo.B != 0)))], [(0, .row 50 (Enc.cells xo))], 1)) (fun _ => True) (fun K60 hK60 => ?_) (fun _ _ => ?_)
      · refine reg_f ?_
        refine rs 4 [] [] (by kernel_rfl) allP_nil ?_
        refine run_split 12 (xo.A != 0) (.inl (by kernel_rfl)) (fun g61 => ?_) (fun g61 => ?_)
        · refine rs 4 [] [] (by kernel_rfl) allP_nil ?_
          refine rf [(1, iS cells), (2, .ptr 0 0), (16, bS true)] [(0, .row 50 (Enc.cells xo))] 1 (by kernel_rfl) ?_
          exact hK60 () _ _ _ trivial (leSt_m [(0, 0)] [] (by (try simp only [g61]) <;> simp only [push_cast, seval]) (by (try simp only [g61]) <;> simp only [push_cast, seval]) rfl rfl rfl)
        · refine rs 4 [] [] (by kernel_rfl) allP_nil ?_
          refine rf [(1, iS cells), (2, .ptr 0 0), (16, bS (xo.B != 0))] [(0, .row 50 (Enc.cells xo))] 1 (by kernel_rfl) ?_
          exact hK60 () _ _ _ trivial (leSt_m [(0, 0)] [] (by (try simp only [g61]) <;> simp only [push_cast, seval]) (by (try simp only [g61]) <;> simp only [push_cast, seval]) rfl rfl rfl)
      · dsimp only
        refine cond_sx h (by kernel_rfl) (fun g62 h => ?_) (fun g62 h => ?_)
        · refine seq_np ?_
          refine reg_f ?_
          refine rs 1 [] [] (by kernel_rfl) allP_nil ?_
          refine rf [(4, iS 5)] [(0, .row 50 (Enc.cells xo))] 1 (by kernel_rfl) ?_
          refine wk_id ?_
          obtain rfl := Option.some.inj h
          refine ret_at (iS 5) (by kernel_rfl) ?_
          exact ret_e [] [] (by simp only [push_cast, seval]) (by simp only [push_cast, seval]) rfl rfl rfl
        · exact hK58 () _ _ _ h (leSt_m [(0, 0)] [] (by simp only [push_cast, seval]) (by simp only [push_cast, seval]) rfl rfl rfl)
    · refine seq_cut (A := Bool) (fun a => ([(1, iS cells), (2, .ptr 0 0), (6, iS xo.Kind), (17, bS a)], [(0, .row 50 (Enc.cells xo))], 1)) (fun a => (cell_one_j2 xo cells a) = some r) (fun K66 hK66 => ?_) ?_
      · refine seq_np ?_
        refine reg_f ?_
        refine rs 2 [] [] (by kernel_rfl) allP_nil ?_
        refine rf [(1, iS cells), (2, .ptr 0 0), (6, iS xo.Kind), (17, bS (xo.Kind == 2))] [(0, .row 50 (Enc.cells xo))] 1 (by kernel_rfl) ?_
        refine wk_id ?_
        refine cond_sx h (by kernel_rfl) (fun g68 h => ?_) (fun g68 h => ?_)
        · exact hK66 ((xo.Kind == 2)) _ _ _ h (leSt_m [(0, 0)] [] (by simp only [push_cast, seval]) (by simp only [push_cast, seval]) rfl rfl rfl)
        · refine seq_np ?_
          refine reg_f ?_
          refine rs 2 [] [] (by kernel_rfl) allP_nil ?_
          refine rf [(1, iS cells), (2, .ptr 0 0), (6, iS xo.Kind), (17, bS (xo.Kind == 3))] [(0, .row 50 (Enc.cells xo))] 1 (by kernel_rfl) ?_
          refine wk_id ?_
          refine cond_sx h (by kernel_rfl) (fun g67 h => ?_) (fun g67 h => ?_)
          · exact hK66 ((xo.Kind == 3)) _ _ _ h (leSt_m [(0, 0)] [] (by simp only [push_cast, seval]) (by simp only [push_cast, seval]) rfl rfl rfl)
          · refine reg_f ?_
            refine rs 2 [] [] (by kernel_rfl) allP_nil ?_
            refine rf [(1, iS cells), (2, .ptr 0 0), (6, iS xo.Kind), (17, bS (xo.Kind == 4))] [(0, .row 50 (Enc.cells xo))] 1 (by kernel_rfl) ?_
            exact hK66 ((xo.Kind == 4)) _ _ _ h (leSt_m [(0, 0)] [] (by simp only [push_cast, seval]) (by simp only [push_cast, seval]) rfl rfl rfl)
      · rintro t17q3 h
        try dsimp only at h ⊢
        unfold cell_one_j2 at h
        refine cond_sx h (by kernel_rfl) (fun g71 h => ?_) (fun g71 h => ?_)
        · refine seq_np ?_
          refine reg_f ?_
          refine rs 3 [] [] (by kernel_rfl) allP_nil ?_
          refine rf [(1, iS cells), (2, .ptr 0 0), (23, bS (xo.B != 0))] [(0, .row 50 (Enc.cells xo))] 1 (by kernel_rfl) ?_
          refine wk_id ?_
          refine cond_sx h (by kernel_rfl) (fun g69 h => ?_) (fun g69 h => ?_)
          · refine seq_np ?_
            refine reg_f ?_
            refine rs 1 [] [] (by kernel_rfl) allP_nil ?_
            refine rf [(4, iS 5)] [(0, .row 50 (Enc.cells xo))] 1 (by kernel_rfl) ?_
            refine wk_id ?_
            obtain rfl := Option.some.inj h
            refine ret_at (iS 5) (by kernel_rfl) ?_
            exact ret_e [] [] (by simp only [push_cast, seval]) (by simp only [push_cast, seval]) rfl rfl rfl
          · exact hK58 () _ _ _ h (leSt_m [(0, 0)] [] (by simp only [push_cast, seval]) (by simp only [push_cast, seval]) rfl rfl rfl)
        · refine seq_np ?_
          refine reg_f ?_
          refine rs 2 [] [] (by kernel_rfl) allP_nil ?_
          refine rf [(1, iS cells), (2, .ptr 0 0), (24, bS (xo.Kind == 5))] [(0, .row 50 (Enc.cells xo))] 1 (by kernel_rfl) ?_
          refine wk_id ?_
          refine cond_sx h (by kernel_rfl) (fun g70 h => ?_) (fun g70 h => ?_)
          · exact hK58 () _ _ _ h (leSt_m [(0, 0)] [] (by simp only [push_cast, seval]) (by simp only [push_cast, seval]) rfl rfl rfl)
          · refine seq_np ?_
            refine reg_f ?_
            refine rs 1 [] [] (by kernel_rfl) allP_nil ?_
            refine rf [(4, iS 4)] [(0, .row 50 (Enc.cells xo))] 1 (by kernel_rfl) ?_
            refine wk_id ?_
            obtain rfl := Option.some.inj h
            refine ret_at (iS 4) (by kernel_rfl) ?_
            exact ret_e [] [] (by simp only [push_cast, seval]) (by simp only [push_cast, seval]) rfl rfl rfl
  · rintro _ h
    try dsimp only at h ⊢
    unfold cell_one_j1 at h
    refine wk_id ?_
    refine seq_np ?_
    refine seq_cut (A := Unit) (fun _ => ([(34, bS ((decide (xo.At < 0)) || (decide (cells ≤ xo.At))))], [(0, .row 50 (Enc.cells xo))], 1)) (fun _ => True) (fun K76 hK76 => ?_) (fun _ _ => ?_)
    · refine reg_f ?_
      refine rs 4 [] [] (by kernel_rfl) allP_nil ?_
      refine run_split 29 (decide (xo.At < 0)) (.inl (by kernel_rfl)) (fun g77 => ?_) (fun g77 => ?_)
      · refine rs 5 [] [] (by kernel_rfl) allP_nil ?_
        refine rf [(34, bS true)] [(0, .row 50 (Enc.cells xo))] 1 (by kernel_rfl) ?_
        exact hK76 () _ _ _ trivial (leSt_m [(0, 0)] [] (by (try simp only [g77]) <;> simp only [push_cast, seval]) (by (try simp only [g77]) <;> simp only [push_cast, seval]) rfl rfl rfl)
      · refine rs 5 [] [] (by kernel_rfl) allP_nil ?_
        refine rf [(34, bS (decide (cells ≤ xo.At)))] [(0, .row 50 (Enc.cells xo))] 1 (by kernel_rfl) ?_
        exact hK76 () _ _ _ trivial (leSt_m [(0, 0)] [] (by (try simp only [g77]) <;> simp only [push_cast, seval]) (by (try simp only [g77]) <;> simp only [push_cast, seval]) rfl rfl rfl)
    · dsimp only
      refine cond_sx h (by kernel_rfl) (fun g78 h => ?_) (fun g78 h => ?_)
      · refine seq_np ?_
        refine reg_f ?_
        refine rs 1 [] [] (by kernel_rfl) allP_nil ?_
        refine rf [(4, iS 3)] [(0, .row 50 (Enc.cells xo))] 1 (by kernel_rfl) ?_
        refine wk_id ?_
        obtain rfl := Option.some.inj h
        refine ret_at (iS 3) (by kernel_rfl) ?_
        exact ret_e [] [] (by simp only [push_cast, seval]) (by simp only [push_cast, seval]) rfl rfl rfl
      · refine wk_id ?_
        refine seq_np ?_
        refine reg_f ?_
        refine rs 1 [] [] (by kernel_rfl) allP_nil ?_
        refine rf [(4, iS 0)] [(0, .row 50 (Enc.cells xo))] 1 (by kernel_rfl) ?_
        refine wk_id ?_
        obtain rfl := Option.some.inj h
        refine ret_at (iS 0) (by kernel_rfl) ?_
        exact ret_e [] [] (by simp only [push_cast, seval]) (by simp only [push_cast, seval]) rfl rfl rfl

set_option maxRecDepth 100000 in
set_option maxHeartbeats 200000000 in
theorem cell_Check_spec (mem : (List Int)) (ops : (List GOp)) (r : Fault) (h : cell_Check mem ops = some r) : SpecW Try.prog 21 [.sl mem.length (fl mem), .sl ops.length (fl ops)] [] 0 (fun x h n => x = .agg (Enc.cells r) ∧ h = [] ∧ n = 0) := by
  unfold cell_Check at h
  refine spec_of (draw_ok _) Try.func21 rfl (by decide) rfl (by kernel_rfl) ?_
  refine seq_np ?_
  refine reg_f ?_
  refine rs 1 [] [] (by kernel_rfl) allP_nil ?_
  refine rf [(0, .sl mem.length (fl mem)), (1, .sl ops.length (fl ops)), (4, .ptr 0 0)] [(0, .row 28 [iS 0, iS 0])] 1 (by kernel_rfl) ?_
  refine wk_id ?_
  refine seq_np ?_
  refine seq_cut (A := Unit) (fun _ => ([(0, .sl mem.length (fl mem)), (1, .sl ops.length (fl ops)), (4, .ptr 0 0), (15, bS ((decide ((32 : Int) < ((mem.length : Nat) : Int))) || (decide ((5000 : Int) < ((ops.length : Nat) : Int)))))], [(0, .row 28 [iS 0, iS 0])], 1)) (fun _ => True) (fun K99 hK99 => ?_) (fun _ _ => ?_)
  · refine reg_f ?_
    refine rs 4 [] [] (by kernel_rfl) allP_nil ?_
    refine run_split 11 (decide ((32 : Int) < ((mem.length : Nat) : Int))) (.inl (by kernel_rfl)) (fun g100 => ?_) (fun g100 => ?_)
    · refine rs 4 [] [] (by kernel_rfl) allP_nil ?_
      refine rf [(0, .sl mem.length (fl mem)), (1, .sl ops.length (fl ops)), (4, .ptr 0 0), (15, bS true)] [(0, .row 28 [iS 0, iS 0])] 1 (by kernel_rfl) ?_
      exact hK99 () _ _ _ trivial (leSt_m [(0, 0)] [] (by (try simp only [g100]) <;> simp only [push_cast, seval]) (by (try simp only [g100]) <;> simp only [push_cast, seval]) rfl rfl rfl)
    · refine rs 4 [] [] (by kernel_rfl) allP_nil ?_
      refine rf [(0, .sl mem.length (fl mem)), (1, .sl ops.length (fl ops)), (4, .ptr 0 0), (15, bS (decide ((5000 : Int) < ((ops.length : Nat) : Int))))] [(0, .row 28 [iS 0, iS 0])] 1 (by kernel_rfl) ?_
      exact hK99 () _ _ _ trivial (leSt_m [(0, 0)] [] (by (try simp only [g100]) <;> simp only [push_cast, seval]) (by (try simp only [g100]) <;> simp only [push_cast, seval]) rfl rfl rfl)
  · dsimp only
    refine cond_sx h (by kernel_rfl) (fun g175 h => ?_) (fun g175 h => ?_)
    · refine seq_np ?_
      refine reg_f ?_
      obtain ⟨r102, hr102, h⟩ := bind_sx h
      refine run_call 29 [iS 2, iS 0] (some 16) (by kernel_rfl) ?_
      refine call_0 (cell_fault_spec 2 0 r102 hr102) (by simp only [push_cast, seval]) (by simp only [push_cast, seval]) ?_
      refine back_f ?_
      refine rs 1 [] [] (by kernel_rfl) allP_nil ?_
      refine rf [(4, .ptr 0 0)] [(0, .row 28 (Enc.cells r102))] 1 (by kernel_rfl) ?_
      refine wk_id ?_
      obtain rfl := Option.some.inj h
      refine ret_at (.agg (Enc.cells r102)) (by kernel_rfl) ?_
      exact ret_e [] [] (by simp only [push_cast, seval]) (by simp only [push_cast, seval]) rfl rfl rfl
    · refine wk_id ?_
      refine seq_np ?_
      refine seq_np ?_
      refine reg_f ?_
      refine rs 3 [] [] (by kernel_rfl) allP_nil ?_
      refine rf [(0, .sl mem.length (fl mem)), (4, .ptr 0 0), (17, .sl ops.length (fl ops)), (18, iS ((ops.length : Nat) : Int)), (19, iS 0)] [(0, .row 28 [iS 0, iS 0])] 1 (by kernel_rfl) ?_
      refine wk_id ?_
      refine block_np ?_
      refine loop_sx (S := Int) (fun a => ([(0, .sl mem.length (fl mem)), (4, .ptr 0 0), (17, .sl ops.length (fl ops)), (18, iS ((ops.length : Nat) : Int)), (19, iS a)], [(0, .row 28 [iS 0, iS 0])], 1)) h (leSt_m [(0, 0)] [] (by simp only [push_cast, seval]) (by simp only [push_cast, seval]) rfl rfl rfl) ?_
      rintro t19q7 o2 R2 h hr2 hn2 hx2 ht2
      try dsimp only at h hn2 ⊢
      unfold cell_Check_l1 at h
      try dsimp only at h
      refine seq_np ?_
      refine reg_f ?_
      refine rs 1 [] [] (by kernel_rfl) allP_nil ?_
      refine rf [(0, .sl mem.length (fl mem)), (4, .ptr 0 0), (17, .sl ops.length (fl ops)), (18, iS ((ops.length : Nat) : Int)), (19, iS t19q7), (20, bS (decide (t19q7 < ((ops.length : Nat) : Int))))] [(0, .row 28 [iS 0, iS 0])] 1 (by kernel_rfl) ?_
      refine wk_id ?_
      refine seq_np ?_
      refine cond_sx h (by kernel_rfl) (fun g174 h => ?_) (fun g174 h => ?_)
      · refine wk_id ?_
        refine seq_np ?_
        refine block_np ?_
        refine chk_sx h (fun g168 h => ?_)
        refine seq_np ?_
        refine reg_f ?_
        have k167 : 0 ≤ t19q7 ∧ t19q7 < ((ops.length : Nat) : Int) := by first | simpa only [Bool.and_eq_true, decide_eq_true_eq, bne_iff_ne, ne_eq] using g168 | (simp at g168 ⊢; omega)
        refine rs 6 [none, some ⟨.iptr (fl ops) ((t19q7).toNat * 4), [], 1, []⟩, some ⟨.agg (Enc.cells (ix ops t19q7)), [], 1, []⟩] _ (by kernel_rfl) (allP_cons (ob_ldw ops t19q7 4 ((t19q7).toNat * 4) k167 rfl (by first | rfl | omega) (Enc.cells (ix ops t19q7)) rfl 1 []) (allP_cons (ob_ix_l ops 4 1 t19q7 k167) allP_nil)) ?_
        refine rf [(0, .sl mem.length (fl mem)), (4, .ptr 0 0), (5, iS t19q7), (6, .ptr 1 0), (17, .sl ops.length (fl ops)), (18, iS ((ops.length : Nat) : Int)), (19, iS t19q7)] [(0, .row 28 [iS 0, iS 0]), (1, .row 50 (Enc.cells (ix ops t19q7)))] 2 (by kernel_rfl) ?_
        refine wk_id ?_
        refine seq_np ?_
        refine reg_f ?_
        refine rs 3 [] [] (by kernel_rfl) allP_nil ?_
        obtain ⟨r170, hr170, h⟩ := bind_sx h
        refine run_call 39 [.agg (Enc.cells (ix ops t19q7)), iS ((mem.length : Nat) : Int)] (some 27) (by kernel_rfl) ?_
        refine call_0 (cell_one_spec (ix ops t19q7) ((mem.length : Nat) : Int) r170 hr170) (by simp only [push_cast, seval]) (by simp only [push_cast, seval]) ?_
        refine back_f ?_
        refine rs 1 [] [] (by kernel_rfl) allP_nil ?_
        refine rf [(0, .sl mem.length (fl mem)), (4, .ptr 0 0), (5, iS t19q7), (7, iS r170), (17, .sl ops.length (fl ops)), (18, iS ((ops.length : Nat) : Int)), (19, iS t19q7)] [(0, .row 28 [iS 0, iS 0]), (1, .row 50 (Enc.cells (ix ops t19q7)))] 2 (by kernel_rfl) ?_
        refine wk_id ?_
        refine seq_np ?_
        refine reg_f ?_
        refine rs 2 [] [] (by kernel_rfl) allP_nil ?_
        refine rf [(0, .sl mem.length (fl mem)), (4, .ptr 0 0), (5, iS t19q7), (7, iS r170), (17, .sl ops.length (fl ops)), (18, iS ((ops.length : Nat) : Int)), (19, iS t19q7), (29, bS (r170 != 0))] [(0, .row 28 [iS 0, iS 0]), (1, .row 50 (Enc.cells (ix ops t19q7)))] 2 (by kernel_rfl) ?_
        refine wk_id ?_
        refine cond_sx h (by kernel_rfl) (fun g173 h => ?_) (fun g173 h => ?_)
        · refine seq_np ?_
          refine reg_f ?_
          refine rs 2 [] [] (by kernel_rfl) allP_nil ?_
          obtain ⟨r172, hr172, h⟩ := bind_sx h
          refine run_call 29 [iS r170, iS t19q7] (some 32) (by kernel_rfl) ?_
          refine call_0 (cell_fault_spec r170 t19q7 r172 hr172) (by simp only [push_cast, seval]) (by simp only [push_cast, seval]) ?_
          refine back_f ?_
          refine rs 1 [] [] (by kernel_rfl) allP_nil ?_
          refine rf [(4, .ptr 0 0)] [(0, .row 28 (Enc.cells r172)), (1, .row 50 (Enc.cells (ix ops t19q7)))] 2 (by kernel_rfl) ?_
          refine wk_id ?_
          refine rt_cast ht2 ?_
          obtain ⟨r0, h, e0⟩ := map_sx h
          have e1 := hr2 r0 e0.symm
          subst r0
          obtain rfl := Option.some.inj h
          refine ret_at (.agg (Enc.cells r172)) (by kernel_rfl) ?_
          exact ret_e [] [] (by simp only [push_cast, seval]) (by simp only [push_cast, seval]) rfl rfl rfl
        · refine wk_id ?_
          refine wk_id ?_
          refine reg_f ?_
          refine rs 2 [] [] (by kernel_rfl) allP_nil ?_
          refine rf [(0, .sl mem.length (fl mem)), (4, .ptr 0 0), (17, .sl ops.length (fl ops)), (18, iS ((ops.length : Nat) : Int)), (19, iS (IntKind.i64.wrap (t19q7 + 1)))] [(0, .row 28 [iS 0, iS 0]), (1, .row 50 (Enc.cells (ix ops t19q7)))] 2 (by kernel_rfl) ?_
          exact hn2 ((IntKind.i64.wrap (t19q7 + 1))) _ _ _ (Option.some.inj h).symm (leSt_m [(0, 0)] [] (by simp only [push_cast, seval]) (by simp only [push_cast, seval]) rfl rfl rfl)
      · change R2 (.exit 0) _ _ _
        refine ex_cast hx2 (id := 0) ?_
        obtain ⟨r0, h, e0⟩ := map_sx h
        have e1 := hr2 r0 e0.symm
        subst r0
        refine wk_id ?_
        refine wk_id ?_
        refine seq_np ?_
        refine reg_f ?_
        refine rs 2 [] [] (by kernel_rfl) allP_nil ?_
        refine rf [(4, .ptr 0 0)] [(0, .row 28 [iS 0, iS 0])] 1 (by kernel_rfl) ?_
        refine wk_id ?_
        obtain rfl := Option.some.inj h
        refine ret_at (.agg [iS 0, iS 0]) (by kernel_rfl) ?_
        exact ret_e [] [] (by simp only [push_cast, seval]) (by simp only [push_cast, seval]) rfl rfl rfl

set_option maxRecDepth 100000 in
set_option maxHeartbeats 200000000 in
theorem slices_Clone_int_spec (s : (List Int)) (r : (List Int)) (h : slices_Clone_int s = some r) : SpecW Try.prog 32 [.sl s.length (fl s)] [] 0 (fun x h n => x = .own 0 0 r.length ∧ h = [(0, .row 3 (fl r))] ∧ n = 1) := by
  unfold slices_Clone_int at h
  refine spec_of (draw_ok _) Try.func32 rfl (by decide) rfl (by kernel_rfl) ?_
  refine seq_np ?_
  refine reg_f ?_
  refine rs 1 [] [] (by kernel_rfl) allP_nil ?_
  refine rf [(0, .sl s.length (fl s))] [] 0 (by kernel_rfl) ?_
  refine wk_id ?_
  refine seq_np ?_
  refine seq_np ?_
  refine reg_f ?_
  refine rs 1 [] [] (by kernel_rfl) allP_nil ?_
  refine run_nil s.length (some 4) (by kernel_rfl) (fun g185 => ?_) ?_
  · obtain rfl : s = [] := List.eq_nil_of_length_eq_zero g185
    replace h : (some ([])) = some r := by simpa using h
    refine rf [(0, .sl ([] : List Int).length (fl ([] : List Int))), (4, bS true)] [] 0 (by kernel_rfl) ?_
    refine wk_id ?_
    refine cond_t (by kernel_rfl) ?_
    refine seq_np ?_
    refine reg_f ?_
    refine rs 1 [] [] (by kernel_rfl) allP_nil ?_
    refine rf [(2, .v (.slice none 0 0))] [] 0 (by kernel_rfl) ?_
    refine wk_id ?_
    obtain rfl := Option.some.inj h
    refine ret_at (.v (.slice none 0 0)) (by kernel_rfl) ?_
    exact ret_e [] [] (by simp only [push_cast, seval]) (by simp only [push_cast, seval]) rfl rfl rfl
  · refine rf [(0, .sl s.length (fl s)), (4, bS false)] [] 0 (by kernel_rfl) ?_
    refine wk_id ?_
    refine cond_f (by kernel_rfl) ?_
    refine wk_id ?_
    refine chk_sx h (fun g184 h => ?_)
    refine seq_np ?_
    refine reg_f ?_
    refine run_mk0 Int (some 5) 3 (by kernel_rfl) ?_
    have k183 : (([] : List Int) ++ s).length * 8 ≤ 140737488355328 := by first | simpa only [Bool.and_eq_true, decide_eq_true_eq, bne_iff_ne, ne_eq] using g184 | (simp at g184 ⊢; omega)
    refine rs 3 [none, some ⟨.own 1 0 (([] : List Int) ++ s).length, [(1, .row 3 (fl (([] : List Int) ++ s))), (0, .dead)], 2, [0]⟩] _ (by kernel_rfl) (allP_cons (ob_app (P := Try.prog) ([] : List Int) s 1 8 rfl (fl s) s.length rfl rfl ((fl s).length = s.length * 1) (app_sl s 1 rfl) 3 (by kernel_rfl) (by decide) k183 0 1 []) allP_nil) ?_
    refine rf [(2, .own 1 0 (([] : List Int) ++ s).length)] [(0, .dead), (1, .row 3 (fl (([] : List Int) ++ s)))] 2 (by kernel_rfl) ?_
    refine wk_id ?_
    obtain rfl := Option.some.inj h
    refine ret_at (.own 1 0 (([] : List Int) ++ s).length) (by kernel_rfl) ?_
    exact ret_e [(0, 1)] [] (by simp only [push_cast, seval]) (by simp only [push_cast, seval]) rfl rfl rfl

set_option maxRecDepth 100000 in
set_option maxHeartbeats 200000000 in
theorem cell_does_spec (r : Unit) (h : cell_does = some r) : SpecW Try.prog 42 [] [] 0 (fun x h n => x = .mp 0 ∧ h = [(0, .map [(.int .i64 1, .v (.func (.func 47) #[] #[])), (.int .i64 2, .v (.func (.func 48) #[] #[])), (.int .i64 3, .v (.func (.func 49) #[] #[])), (.int .i64 4, .v (.func (.func 50) #[] #[])), (.int .i64 5, .v (.func (.func 51) #[] #[]))])] ∧ n = 1) := by
  unfold cell_does at h
  refine spec_of (draw_ok _) Try.func42 rfl (by decide) rfl (by kernel_rfl) ?_
  refine seq_np ?_
  refine reg_f ?_
  refine rs 1 [] [] (by kernel_rfl) allP_nil ?_
  refine rf [] [] 0 (by kernel_rfl) ?_
  refine wk_id ?_
  refine seq_np ?_
  refine reg_f ?_
  refine rs 8 [none, some ⟨.any, [(0, .map [(.int .i64 1, .v (.func (.func 47) #[] #[]))])], 1, [0]⟩, some ⟨.any, [(0, .map [(.int .i64 1, .v (.func (.func 47) #[] #[])), (.int .i64 2, .v (.func (.func 48) #[] #[]))])], 1, [0]⟩, some ⟨.any, [(0, .map [(.int .i64 1, .v (.func (.func 47) #[] #[])), (.int .i64 2, .v (.func (.func 48) #[] #[])), (.int .i64 3, .v (.func (.func 49) #[] #[]))])], 1, [0]⟩, some ⟨.any, [(0, .map [(.int .i64 1, .v (.func (.func 47) #[] #[])), (.int .i64 2, .v (.func (.func 48) #[] #[])), (.int .i64 3, .v (.func (.func 49) #[] #[])), (.int .i64 4, .v (.func (.func 50) #[] #[]))])], 1, [0]⟩, some ⟨.any, [(0, .map [(.int .i64 1, .v (.func (.func 47) #[] #[])), (.int .i64 2, .v (.func (.func 48) #[] #[])), (.int .i64 3, .v (.func (.func 49) #[] #[])), (.int .i64 4, .v (.func (.func 50) #[] #[])), (.int .i64 5, .v (.func (.func 51) #[] #[]))])], 1, [0]⟩] _ (by kernel_rfl) (allP_cons (ob_insL (.int .i64) (.int .i64 5) (.v (.func (.func 51) #[] #[])) [(.int .i64 1, .v (.func (.func 47) #[] #[])), (.int .i64 2, .v (.func (.func 48) #[] #[])), (.int .i64 3, .v (.func (.func 49) #[] #[])), (.int .i64 4, .v (.func (.func 50) #[] #[]))] [(.int .i64 1, .v (.func (.func 47) #[] #[])), (.int .i64 2, .v (.func (.func 48) #[] #[])), (.int .i64 3, .v (.func (.func 49) #[] #[])), (.int .i64 4, .v (.func (.func 50) #[] #[])), (.int .i64 5, .v (.func (.func 51) #[] #[]))] 0 1 rfl rfl rfl) (allP_cons (ob_insL (.int .i64) (.int .i64 4) (.v (.func (.func 50) #[] #[])) [(.int .i64 1, .v (.func (.func 47) #[] #[])), (.int .i64 2, .v (.func (.func 48) #[] #[])), (.int .i64 3, .v (.func (.func 49) #[] #[]))] [(.int .i64 1, .v (.func (.func 47) #[] #[])), (.int .i64 2, .v (.func (.func 48) #[] #[])), (.int .i64 3, .v (.func (.func 49) #[] #[])), (.int .i64 4, .v (.func (.func 50) #[] #[]))] 0 1 rfl rfl rfl) (allP_cons (ob_insL (.int .i64) (.int .i64 3) (.v (.func (.func 49) #[] #[])) [(.int .i64 1, .v (.func (.func 47) #[] #[])), (.int .i64 2, .v (.func (.func 48) #[] #[]))] [(.int .i64 1, .v (.func (.func 47) #[] #[])), (.int .i64 2, .v (.func (.func 48) #[] #[])), (.int .i64 3, .v (.func (.func 49) #[] #[]))] 0 1 rfl rfl rfl) (allP_cons (ob_insL (.int .i64) (.int .i64 2) (.v (.func (.func 48) #[] #[])) [(.int .i64 1, .v (.func (.func 47) #[] #[]))] [(.int .i64 1, .v (.func (.func 47) #[] #[])), (.int .i64 2, .v (.func (.func 48) #[] #[]))] 0 1 rfl rfl rfl) (allP_cons (ob_insL (.int .i64) (.int .i64 1) (.v (.func (.func 47) #[] #[])) [] [(.int .i64 1, .v (.func (.func 47) #[] #[]))] 0 1 rfl rfl rfl) allP_nil))))) ?_
  refine rf [(0, .mp 0)] [(0, .map [(.int .i64 1, .v (.func (.func 47) #[] #[])), (.int .i64 2, .v (.func (.func 48) #[] #[])), (.int .i64 3, .v (.func (.func 49) #[] #[])), (.int .i64 4, .v (.func (.func 50) #[] #[])), (.int .i64 5, .v (.func (.func 51) #[] #[]))])] 1 (by kernel_rfl) ?_
  refine wk_id ?_
  obtain rfl := Option.some.inj h
  refine ret_at (.mp 0) (by kernel_rfl) ?_
  exact ret_e [(0, 0)] [] (by simp only [push_cast, seval]) (by simp only [push_cast, seval]) rfl rfl rfl

set_option maxRecDepth 100000 in
set_option maxHeartbeats 200000000 in
theorem cell_does_1_spec (cp : Int) (xa : Int) (b : Int) (c0 : (List Int)) (r : Int × (List Int)) (h : cell_does_1 cp xa b c0 = some r) : SpecW Try.prog 47 [.ptr 0 (0 + (cp).toNat * 1), iS xa, iS b] [(0, .row 3 (fl c0))] 1 (fun x h n => x = iS r.1 ∧ h = [(0, .row 3 (fl r.2))] ∧ n = 1) := by
  unfold cell_does_1 at h
  refine spec_of (draw_ok _) Try.func47 rfl (by decide) rfl (by kernel_rfl) ?_
  refine chk_sx h (fun g203 h => ?_)
  have k202 : 0 ≤ cp ∧ cp < ((c0.length : Nat) : Int) := of_decide_eq_true g203
  refine seq_np ?_
  refine reg_f ?_
  refine rs 1 [] [] (by kernel_rfl) allP_nil ?_
  refine rf [(0, .ptr 0 (0 + (cp).toNat * 1))] [(0, .row 3 (fl c0))] 1 (by kernel_rfl) ?_
  refine wk_id ?_
  refine seq_np ?_
  refine reg_f ?_
  refine rs 4 [none, none, some ⟨iS (ix c0 cp), [], 1, [0]⟩] _ (by kernel_rfl) (allP_cons (ob_ld c0 cp 1 0 (0 + (cp).toNat * 1) k202 rfl (by decide) (by first | rfl | omega) (dflS Try.prog 3) (iS (ix c0 cp)) rfl 1 [0]) allP_nil) ?_
  refine rf [(6, iS (ix c0 cp))] [(0, .row 3 (fl c0))] 1 (by kernel_rfl) ?_
  refine wk_id ?_
  obtain rfl := Option.some.inj h
  refine ret_at (iS (ix c0 cp)) (by kernel_rfl) ?_
  exact ret_e [(0, 0)] [] (by simp only [push_cast, seval]) (by simp only [push_cast, seval]) rfl rfl rfl

set_option maxRecDepth 100000 in
set_option maxHeartbeats 200000000 in
theorem cell_does_2_spec (cp : Int) (xa : Int) (b : Int) (c0 : (List Int)) (r : Int × (List Int)) (h : cell_does_2 cp xa b c0 = some r) : SpecW Try.prog 48 [.ptr 0 (0 + (cp).toNat * 1), iS xa, iS b] [(0, .row 3 (fl c0))] 1 (fun x h n => x = iS r.1 ∧ h = [(0, .row 3 (fl r.2))] ∧ n = 1) := by
  unfold cell_does_2 at h
  refine spec_of (draw_ok _) Try.func48 rfl (by decide) rfl (by kernel_rfl) ?_
  refine chk_sx h (fun g212 h => ?_)
  have k211 : 0 ≤ cp ∧ cp < ((c0.length : Nat) : Int) := of_decide_eq_true g212
  refine seq_np ?_
  refine reg_f ?_
  refine rs 1 [] [] (by kernel_rfl) allP_nil ?_
  refine rf [(0, .ptr 0 (0 + (cp).toNat * 1)), (1, iS xa)] [(0, .row 3 (fl c0))] 1 (by kernel_rfl) ?_
  refine wk_id ?_
  refine seq_np ?_
  refine reg_f ?_
  refine rs 4 [none, none, none, some ⟨.any, [(0, .row 3 (fl (c0.set cp.toNat xa)))], 1, [0]⟩] _ (by kernel_rfl) (allP_cons (ob_st (P := Try.prog) c0 cp 1 0 (0 + (cp).toNat * 1) k211 rfl [iS xa] xa (Nat.le_of_ble_eq_true rfl) (by first | rfl | omega) rfl 0 1 3 3 (by kernel_rfl) rfl) allP_nil) ?_
  refine rf [] [(0, .row 3 (fl (c0.set cp.toNat xa)))] 1 (by kernel_rfl) ?_
  refine wk_id ?_
  refine seq_np ?_
  refine reg_f ?_
  refine rs 1 [] [] (by kernel_rfl) allP_nil ?_
  refine rf [(6, iS 0)] [(0, .row 3 (fl (c0.set cp.toNat xa)))] 1 (by kernel_rfl) ?_
  refine wk_id ?_
  obtain rfl := Option.some.inj h
  refine ret_at (iS 0) (by kernel_rfl) ?_
  exact ret_e [(0, 0)] [] (by simp only [push_cast, seval]) (by simp only [push_cast, seval]) rfl rfl rfl

set_option maxRecDepth 100000 in
set_option maxHeartbeats 200000000 in
theorem cell_does_3_spec (cp : Int) (xa : Int) (b : Int) (c0 : (List Int)) (r : Int × (List Int)) (h : cell_does_3 cp xa b c0 = some r) : SpecW Try.prog 49 [.ptr 0 (0 + (cp).toNat * 1), iS xa, iS b] [(0, .row 3 (fl c0))] 1 (fun x h n => x = iS r.1 ∧ h = [(0, .row 3 (fl r.2))] ∧ n = 1) := by
  unfold cell_does_3 at h
  refine spec_of (draw_ok _) Try.func49 rfl (by decide) rfl (by kernel_rfl) ?_
  refine chk_sx h (fun g221 h => ?_)
  have k220 : 0 ≤ cp ∧ cp < ((c0.length : Nat) : Int) := of_decide_eq_true g221
  refine seq_np ?_
  refine reg_f ?_
  refine rs 1 [] [] (by kernel_rfl) allP_nil ?_
  refine rf [(0, .ptr 0 (0 + (cp).toNat * 1)), (1, iS xa)] [(0, .row 3 (fl c0))] 1 (by kernel_rfl) ?_
  refine wk_id ?_
  refine seq_np ?_
  refine reg_f ?_
  refine rs 7 [none, none, some ⟨iS (ix c0 cp), [], 1, [0]⟩, none, none, none, some ⟨.any, [(0, .row 3 (fl (c0.set cp.toNat (IntKind.i64.wrap ((ix c0 cp) + xa)))))], 1, [0]⟩] _ (by kernel_rfl) (allP_cons (ob_st (P := Try.prog) c0 cp 1 0 (0 + (cp).toNat * 1) k220 rfl [iS (IntKind.i64.wrap ((ix c0 cp) + xa))] (IntKind.i64.wrap ((ix c0 cp) + xa)) (Nat.le_of_ble_eq_true rfl) (by first | rfl | omega) rfl 0 1 3 3 (by kernel_rfl) rfl) (allP_cons (ob_ld c0 cp 1 0 (0 + (cp).toNat * 1) k220 rfl (by decide) (by first | rfl | omega) (dflS Try.prog 3) (iS (ix c0 cp)) rfl 1 [0]) allP_nil)) ?_
  refine rf [(0, .ptr 0 (0 + (cp).toNat * 1))] [(0, .row 3 (fl (c0.set cp.toNat (IntKind.i64.wrap ((ix c0 cp) + xa)))))] 1 (by kernel_rfl) ?_
  refine wk_id ?_
  refine seq_np ?_
  refine reg_f ?_
  refine rs 4 [none, none, some ⟨iS (ix (c0.set cp.toNat (IntKind.i64.wrap ((ix c0 cp) + xa))) cp), [], 1, [0]⟩] _ (by kernel_rfl) (allP_cons (ob_ld (c0.set cp.toNat (IntKind.i64.wrap ((ix c0 cp) + xa))) cp 1 0 (0 + (cp).toNat * 1) (by rw [List.length_set]; exact k220) rfl (by decide) (by first | rfl | omega) (dflS Try.prog 3) (iS (ix (c0.set cp.toNat (IntKind.i64.wrap ((ix c0 cp) + xa))) cp)) rfl 1 [0]) allP_nil) ?_
  refine rf [(6, iS (ix (c0.set cp.toNat (IntKind.i64.wrap ((ix c0 cp) + xa))) cp))] [(0, .row 3 (fl (c0.set cp.toNat (IntKind.i64.wrap ((ix c0 cp) + xa)))))] 1 (by kernel_rfl) ?_
  refine wk_id ?_
  obtain rfl := Option.some.inj h
  refine ret_at (iS (ix (c0.set cp.toNat (IntKind.i64.wrap ((ix c0 cp) + xa))) cp)) (by kernel_rfl) ?_
  exact ret_e [(0, 0)] [] (by simp only [push_cast, seval]) (by simp only [push_cast, seval]) rfl rfl rfl

set_option maxRecDepth 100000 in
set_option maxHeartbeats 200000000 in
theorem cell_does_4_spec (cp : Int) (xa : Int) (b : Int) (c0 : (List Int)) (r : Int × (List Int)) (h : cell_does_4 cp xa b c0 = some r) : SpecW Try.prog 50 [.ptr 0 (0 + (cp).toNat * 1), iS xa, iS b] [(0, .row 3 (fl c0))] 1 (fun x h n => x = iS r.1 ∧ h = [(0, .row 3 (fl r.2))] ∧ n = 1) := by
  unfold cell_does_4 at h
  refine spec_of (draw_ok _) Try.func50 rfl (by decide) rfl (by kernel_rfl) ?_
  refine chk_sx h (fun g230 h => ?_)
  have k229 : 0 ≤ cp ∧ cp < ((c0.length : Nat) : Int) := of_decide_eq_true g230
  refine seq_np ?_
  refine reg_f ?_
  refine rs 1 [] [] (by kernel_rfl) allP_nil ?_
  refine rf [(0, .ptr 0 (0 + (cp).toNat * 1)), (1, iS xa)] [(0, .row 3 (fl c0))] 1 (by kernel_rfl) ?_
  refine wk_id ?_
  refine seq_np ?_
  refine reg_f ?_
  refine rs 4 [none, none, some ⟨iS (ix c0 cp), [], 1, [0]⟩] _ (by kernel_rfl) (allP_cons (ob_ld c0 cp 1 0 (0 + (cp).toNat * 1) k229 rfl (by decide) (by first | rfl | omega) (dflS Try.prog 3) (iS (ix c0 cp)) rfl 1 [0]) allP_nil) ?_
  refine rf [(0, .ptr 0 (0 + (cp).toNat * 1)), (1, iS xa), (7, iS (ix c0 cp))] [(0, .row 3 (fl c0))] 1 (by kernel_rfl) ?_
  refine wk_id ?_
  refine seq_np ?_
  refine reg_f ?_
  refine rs 4 [none, none, none, some ⟨.any, [(0, .row 3 (fl (c0.set cp.toNat xa)))], 1, [0]⟩] _ (by kernel_rfl) (allP_cons (ob_st (P := Try.prog) c0 cp 1 0 (0 + (cp).toNat * 1) k229 rfl [iS xa] xa (Nat.le_of_ble_eq_true rfl) (by first | rfl | omega) rfl 0 1 3 3 (by kernel_rfl) rfl) allP_nil) ?_
  refine rf [(7, iS (ix c0 cp))] [(0, .row 3 (fl (c0.set cp.toNat xa)))] 1 (by kernel_rfl) ?_
  refine wk_id ?_
  refine seq_np ?_
  refine reg_f ?_
  refine rs 2 [] [] (by kernel_rfl) allP_nil ?_
  refine rf [(6, iS (ix c0 cp))] [(0, .row 3 (fl (c0.set cp.toNat xa)))] 1 (by kernel_rfl) ?_
  refine wk_id ?_
  obtain rfl := Option.some.inj h
  refine ret_at (iS (ix c0 cp)) (by kernel_rfl) ?_
  exact ret_e [(0, 0)] [] (by simp only [push_cast, seval]) (by simp only [push_cast, seval]) rfl rfl rfl

set_option maxRecDepth 100000 in
set_option maxHeartbeats 200000000 in
theorem cell_does_5_spec (cp : Int) (xa : Int) (b : Int) (c0 : (List Int)) (r : Int × (List Int)) (h : cell_does_5 cp xa b c0 = some r) : SpecW Try.prog 51 [.ptr 0 (0 + (cp).toNat * 1), iS xa, iS b] [(0, .row 3 (fl c0))] 1 (fun x h n => x = iS r.1 ∧ h = [(0, .row 3 (fl r.2))] ∧ n = 1) := by
  unfold cell_does_5 at h
  refine spec_of (draw_ok _) Try.func51 rfl (by decide) rfl (by kernel_rfl) ?_
  refine chk_sx h (fun g239 h => ?_)
  have k238 : 0 ≤ cp ∧ cp < ((c0.length : Nat) : Int) := of_decide_eq_true g239
  refine seq_np ?_
  refine reg_f ?_
  refine rs 1 [] [] (by kernel_rfl) allP_nil ?_
  refine rf [(0, .ptr 0 (0 + (cp).toNat * 1)), (1, iS xa), (2, iS b)] [(0, .row 3 (fl c0))] 1 (by kernel_rfl) ?_
  refine wk_id ?_
  refine seq_np ?_
  refine seq_np ?_
  refine reg_f ?_
  refine rs 5 [none, none, some ⟨iS (ix c0 cp), [], 1, [0]⟩] _ (by kernel_rfl) (allP_cons (ob_ld c0 cp 1 0 (0 + (cp).toNat * 1) k238 rfl (by decide) (by first | rfl | omega) (dflS Try.prog 3) (iS (ix c0 cp)) rfl 1 [0]) allP_nil) ?_
  refine rf [(0, .ptr 0 (0 + (cp).toNat * 1)), (2, iS b), (11, bS ((ix c0 cp) != xa))] [(0, .row 3 (fl c0))] 1 (by kernel_rfl) ?_
  refine wk_id ?_
  refine cond_sx h (by kernel_rfl) (fun g242 h => ?_) (fun g242 h => ?_)
  · refine seq_np ?_
    refine reg_f ?_
    refine rs 1 [] [] (by kernel_rfl) allP_nil ?_
    refine rf [(6, iS 0)] [(0, .row 3 (fl c0))] 1 (by kernel_rfl) ?_
    refine wk_id ?_
    obtain rfl := Option.some.inj h
    refine ret_at (iS 0) (by kernel_rfl) ?_
    exact ret_e [(0, 0)] [] (by simp only [push_cast, seval]) (by simp only [push_cast, seval]) rfl rfl rfl
  · refine wk_id ?_
    refine seq_np ?_
    refine reg_f ?_
    refine rs 4 [none, none, none, some ⟨.any, [(0, .row 3 (fl (c0.set cp.toNat b)))], 1, [0]⟩] _ (by kernel_rfl) (allP_cons (ob_st (P := Try.prog) c0 cp 1 0 (0 + (cp).toNat * 1) k238 rfl [iS b] b (Nat.le_of_ble_eq_true rfl) (by first | rfl | omega) rfl 0 1 3 3 (by kernel_rfl) rfl) allP_nil) ?_
    refine rf [] [(0, .row 3 (fl (c0.set cp.toNat b)))] 1 (by kernel_rfl) ?_
    refine wk_id ?_
    refine seq_np ?_
    refine reg_f ?_
    refine rs 1 [] [] (by kernel_rfl) allP_nil ?_
    refine rf [(6, iS 1)] [(0, .row 3 (fl (c0.set cp.toNat b)))] 1 (by kernel_rfl) ?_
    refine wk_id ?_
    obtain rfl := Option.some.inj h
    refine ret_at (iS 1) (by kernel_rfl) ?_
    exact ret_e [(0, 0)] [] (by simp only [push_cast, seval]) (by simp only [push_cast, seval]) rfl rfl rfl

set_option maxRecDepth 100000 in
set_option maxHeartbeats 200000000 in
theorem cell_Do_1_spec (xo : GOp) (c0 : (List Int)) (r : Int × (List Int)) (h : cell_Do_1 xo c0 = some r) : SpecW Try.prog 33 [.own 0 0 c0.length, .agg (Enc.cells xo)] [(0, .row 3 (fl c0))] 1 (fun x h n => x = iS r.1 ∧ h = [(0, .row 3 (fl r.2))] ∧ n = 1) := by
  unfold cell_Do_1 at h
  refine spec_of (draw_ok _) Try.func33 rfl (by decide) rfl (by kernel_rfl) ?_
  refine seq_np ?_
  refine reg_f ?_
  refine rs 2 [] [] (by kernel_rfl) allP_nil ?_
  refine rf [(0, .own 0 0 c0.length), (3, .ptr 1 0)] [(0, .row 3 (fl c0)), (1, .row 50 (Enc.cells xo))] 2 (by kernel_rfl) ?_
  refine wk_id ?_
  refine split_s h (fun g247 h => ?_) (fun g248 h => ?_)
  · refine seq_np ?_
    refine reg_t ?_
    obtain ⟨r254, hr254, h⟩ := bind_sx h
    refine call_x (cell_does_spec r254 hr254) (args := []) (dst := (some 5)) (by kernel_rfl) [(0, .row 3 (fl c0)), (1, .row 50 (Enc.cells xo))] 2 (by kernel_rfl) [] [] (.mp 2) [(2, .map [(.int .i64 1, .v (.func (.func 47) #[] #[])), (.int .i64 2, .v (.func (.func 48) #[] #[])), (.int .i64 3, .v (.func (.func 49) #[] #[])), (.int .i64 4, .v (.func (.func 50) #[] #[])), (.int .i64 5, .v (.func (.func 51) #[] #[]))])] (by simp only [push_cast, seval]) (by simp only [push_cast, seval]) (by kernel_rfl) (.inl rfl) (by simp only [push_cast, seval]) (by simp only [push_cast, seval]) ?_
    refine rs 2 [] [] (by kernel_rfl) allP_nil ?_
    refine run_at 7 .i64 xo.Kind 1 g247 (by kernel_rfl) ?_
    refine chk_sx h (fun g256 h => ?_)
    have k255 : 0 ≤ xo.At ∧ xo.At < ((c0.length : Nat) : Int) := by first | simpa only [Bool.and_eq_true, decide_eq_true_eq, bne_iff_ne, ne_eq] using g256 | (simp at g256 ⊢; omega)
    refine rs 9 [some ⟨.v (.func (.func 47) #[] #[]), [], 6, [2]⟩, none, none, none, some ⟨.ptr 0 (0 + (xo.At).toNat * 1), [], 10, [0]⟩] _ (by kernel_rfl) (allP_cons (ob_ix_o 0 c0.length 0 1 10 xo.At k255) (allP_cons (ob_lookL (.int .i64) (.int .i64 1) (.v (.func (.func 47) #[] #[])) [(.int .i64 1, .v (.func (.func 47) #[] #[])), (.int .i64 2, .v (.func (.func 48) #[] #[])), (.int .i64 3, .v (.func (.func 49) #[] #[])), (.int .i64 4, .v (.func (.func 50) #[] #[])), (.int .i64 5, .v (.func (.func 51) #[] #[]))] 2 6 rfl rfl) allP_nil)) ?_
    obtain ⟨r257, hr257, h⟩ := bind_sx h
    refine call_x (cell_does_1_spec xo.At xo.A xo.B c0 r257 hr257) (args := [.ptr 0 (0 + (xo.At).toNat * 1), iS xo.A, iS xo.B]) (dst := (some 17)) (by kernel_rfl) [(0, .row 3 (fl c0)), (1, .row 50 (Enc.cells xo)), (2, .map [(.int .i64 1, .v (.func (.func 47) #[] #[])), (.int .i64 2, .v (.func (.func 48) #[] #[])), (.int .i64 3, .v (.func (.func 49) #[] #[])), (.int .i64 4, .v (.func (.func 50) #[] #[])), (.int .i64 5, .v (.func (.func 51) #[] #[]))])] 15 (by kernel_rfl) [(0, 0)] [] (iS r257.1) [(0, .row 3 (fl r257.2)), (0, .dead)] (by simp only [push_cast, seval]) (by simp only [push_cast, seval]) (by kernel_rfl) (.inl rfl) (by simp only [push_cast, seval]) (by simp only [push_cast, seval]) ?_
    refine rs 1 [] [] (by kernel_rfl) allP_nil ?_
    refine rt [(4, iS r257.1)] [(0, .row 3 (fl r257.2)), (1, .row 50 (Enc.cells xo)), (2, .map [(.int .i64 1, .v (.func (.func 47) #[] #[])), (.int .i64 2, .v (.func (.func 48) #[] #[])), (.int .i64 3, .v (.func (.func 49) #[] #[])), (.int .i64 4, .v (.func (.func 50) #[] #[])), (.int .i64 5, .v (.func (.func 51) #[] #[]))])] 18 follows (by kernel_rfl) ?_
    refine wk_id ?_
    obtain rfl := Option.some.inj h
    refine ret_at (iS r257.1) (by kernel_rfl) ?_
    exact ret_e [(0, 0)] [] (by simp only [push_cast, seval]) (by simp only [push_cast, seval]) rfl rfl rfl
  refine split_s h (fun g259 h => ?_) (fun g260 h => ?_)
  · refine seq_np ?_
    refine reg_t ?_
    obtain ⟨r266, hr266, h⟩ := bind_sx h
    refine call_x (cell_does_spec r266 hr266) (args := []) (dst := (some 5)) (by kernel_rfl) [(0, .row 3 (fl c0)), (1, .row 50 (Enc.cells xo))] 2 (by kernel_rfl) [] [] (.mp 2) [(2, .map [(.int .i64 1, .v (.func (.func 47) #[] #[])), (.int .i64 2, .v (.func (.func 48) #[] #[])), (.int .i64 3, .v (.func (.func 49) #[] #[])), (.int .i64 4, .v (.func (.func 50) #[] #[])), (.int .i64 5, .v (.func (.func 51) #[] #[]))])] (by simp only [push_cast, seval]) (by simp only [push_cast, seval]) (by kernel_rfl) (.inl rfl) (by simp only [push_cast, seval]) (by simp only [push_cast, seval]) ?_
    refine rs 2 [] [] (by kernel_rfl) allP_nil ?_
    refine run_at 7 .i64 xo.Kind 2 g259 (by kernel_rfl) ?_
    refine chk_sx h (fun g268 h => ?_)
    have k267 : 0 ≤ xo.At ∧ xo.At < ((c0.length : Nat) : Int) := by first | simpa only [Bool.and_eq_true, decide_eq_true_eq, bne_iff_ne, ne_eq] using g268 | (simp at g268 ⊢; omega)
    refine rs 9 [some ⟨.v (.func (.func 48) #[] #[]), [], 6, [2]⟩, none, none, none, some ⟨.ptr 0 (0 + (xo.At).toNat * 1), [], 10, [0]⟩] _ (by kernel_rfl) (allP_cons (ob_ix_o 0 c0.length 0 1 10 xo.At k267) (allP_cons (ob_lookL (.int .i64) (.int .i64 2) (.v (.func (.func 48) #[] #[])) [(.int .i64 1, .v (.func (.func 47) #[] #[])), (.int .i64 2, .v (.func (.func 48) #[] #[])), (.int .i64 3, .v (.func (.func 49) #[] #[])), (.int .i64 4, .v (.func (.func 50) #[] #[])), (.int .i64 5, .v (.func (.func 51) #[] #[]))] 2 6 rfl rfl) allP_nil)) ?_
    obtain ⟨r269, hr269, h⟩ := bind_sx h
    refine call_x (cell_does_2_spec xo.At xo.A xo.B c0 r269 hr269) (args := [.ptr 0 (0 + (xo.At).toNat * 1), iS xo.A, iS xo.B]) (dst := (some 17)) (by kernel_rfl) [(0, .row 3 (fl c0)), (1, .row 50 (Enc.cells xo)), (2, .map [(.int .i64 1, .v (.func (.func 47) #[] #[])), (.int .i64 2, .v (.func (.func 48) #[] #[])), (.int .i64 3, .v (.func (.func 49) #[] #[])), (.int .i64 4, .v (.func (.func 50) #[] #[])), (.int .i64 5, .v (.func (.func 51) #[] #[]))])] 15 (by kernel_rfl) [(0, 0)] [] (iS r269.1) [(0, .row 3 (fl r269.2)), (0, .dead)] (by simp only [push_cast, seval]) (by simp only [push_cast, seval]) (by kernel_rfl) (.inl rfl) (by simp only [push_cast, seval]) (by simp only [push_cast, seval]) ?_
    refine rs 1 [] [] (by kernel_rfl) allP_nil ?_
    refine rt [(4, iS r269.1)] [(0, .row 3 (fl r269.2)), (1, .row 50 (Enc.cells xo)), (2, .map [(.int .i64 1, .v (.func (.func 47) #[] #[])), (.int .i64 2, .v (.func (.func 48) #[] #[])), (.int .i64 3, .v (.func (.func 49) #[] #[])), (.int .i64 4, .v (.func (.func 50) #[] #[])), (.int .i64 5, .v (.func (.func 51) #[] #[]))])] 18 follows (by kernel_rfl) ?_
    refine wk_id ?_
    obtain rfl := Option.some.inj h
    refine ret_at (iS r269.1) (by kernel_rfl) ?_
    exact ret_e [(0, 0)] [] (by simp only [push_cast, seval]) (by simp only [push_cast, seval]) rfl rfl rfl
  refine split_s h (fun g271 h => ?_) (fun g272 h => ?_)
  · refine seq_np ?_
    refine reg_t ?_
    obtain ⟨r278, hr278, h⟩ := bind_sx h
    refine call_x (cell_does_spec r278 hr278) (args := []) (dst := (some 5)) (by kernel_rfl) [(0, .row 3 (fl c0)), (1, .row 50 (Enc.cells xo))] 2 (by kernel_rfl) [] [] (.mp 2) [(2, .map [(.int .i64 1, .v (.func (.func 47) #[] #[])), (.int .i64 2, .v (.func (.func 48) #[] #[])), (.int .i64 3, .v (.func (.func 49) #[] #[])), (.int .i64 4, .v (.func (.func 50) #[] #[])), (.int .i64 5, .v (.func (.func 51) #[] #[]))])] (by simp only [push_cast, seval]) (by simp only [push_cast, seval]) (by kernel_rfl) (.inl rfl) (by simp only [push_cast, seval]) (by simp only [push_cast, seval]) ?_
    refine rs 2 [] [] (by kernel_rfl) allP_nil ?_
    refine run_at 7 .i64 xo.Kind 3 g271 (by kernel_rfl) ?_
    refine chk_sx h (fun g280 h => ?_)
    have k279 : 0 ≤ xo.At ∧ xo.At < ((c0.length : Nat) : Int) := by first | simpa only [Bool.and_eq_true, decide_eq_true_eq, bne_iff_ne, ne_eq] using g280 | (simp at g280 ⊢; omega)
    refine rs 9 [some ⟨.v (.func (.func 49) #[] #[]), [], 6, [2]⟩, none, none, none, some ⟨.ptr 0 (0 + (xo.At).toNat * 1), [], 10, [0]⟩] _ (by kernel_rfl) (allP_cons (ob_ix_o 0 c0.length 0 1 10 xo.At k279) (allP_cons (ob_lookL (.int .i64) (.int .i64 3) (.v (.func (.func 49) #[] #[])) [(.int .i64 1, .v (.func (.func 47) #[] #[])), (.int .i64 2, .v (.func (.func 48) #[] #[])), (.int .i64 3, .v (.func (.func 49) #[] #[])), (.int .i64 4, .v (.func (.func 50) #[] #[])), (.int .i64 5, .v (.func (.func 51) #[] #[]))] 2 6 rfl rfl) allP_nil)) ?_
    obtain ⟨r281, hr281, h⟩ := bind_sx h
    refine call_x (cell_does_3_spec xo.At xo.A xo.B c0 r281 hr281) (args := [.ptr 0 (0 + (xo.At).toNat * 1), iS xo.A, iS xo.B]) (dst := (some 17)) (by kernel_rfl) [(0, .row 3 (fl c0)), (1, .row 50 (Enc.cells xo)), (2, .map [(.int .i64 1, .v (.func (.func 47) #[] #[])), (.int .i64 2, .v (.func (.func 48) #[] #[])), (.int .i64 3, .v (.func (.func 49) #[] #[])), (.int .i64 4, .v (.func (.func 50) #[] #[])), (.int .i64 5, .v (.func (.func 51) #[] #[]))])] 15 (by kernel_rfl) [(0, 0)] [] (iS r281.1) [(0, .row 3 (fl r281.2)), (0, .dead)] (by simp only [push_cast, seval]) (by simp only [push_cast, seval]) (by kernel_rfl) (.inl rfl) (by simp only [push_cast, seval]) (by simp only [push_cast, seval]) ?_
    refine rs 1 [] [] (by kernel_rfl) allP_nil ?_
    refine rt [(4, iS r281.1)] [(0, .row 3 (fl r281.2)), (1, .row 50 (Enc.cells xo)), (2, .map [(.int .i64 1, .v (.func (.func 47) #[] #[])), (.int .i64 2, .v (.func (.func 48) #[] #[])), (.int .i64 3, .v (.func (.func 49) #[] #[])), (.int .i64 4, .v (.func (.func 50) #[] #[])), (.int .i64 5, .v (.func (.func 51) #[] #[]))])] 18 follows (by kernel_rfl) ?_
    refine wk_id ?_
    obtain rfl := Option.some.inj h
    refine ret_at (iS r281.1) (by kernel_rfl) ?_
    exact ret_e [(0, 0)] [] (by simp only [push_cast, seval]) (by simp only [push_cast, seval]) rfl rfl rfl
  refine split_s h (fun g283 h => ?_) (fun g284 h => ?_)
  · refine seq_np ?_
    refine reg_t ?_
    obtain ⟨r290, hr290, h⟩ := bind_sx h
    refine call_x (cell_does_spec r290 hr290) (args := []) (dst := (some 5)) (by kernel_rfl) [(0, .row 3 (fl c0)), (1, .row 50 (Enc.cells xo))] 2 (by kernel_rfl) [] [] (.mp 2) [(2, .map [(.int .i64 1, .v (.func (.func 47) #[] #[])), (.int .i64 2, .v (.func (.func 48) #[] #[])), (.int .i64 3, .v (.func (.func 49) #[] #[])), (.int .i64 4, .v (.func (.func 50) #[] #[])), (.int .i64 5, .v (.func (.func 51) #[] #[]))])] (by simp only [push_cast, seval]) (by simp only [push_cast, seval]) (by kernel_rfl) (.inl rfl) (by simp only [push_cast, seval]) (by simp only [push_cast, seval]) ?_
    refine rs 2 [] [] (by kernel_rfl) allP_nil ?_
    refine run_at 7 .i64 xo.Kind 4 g283 (by kernel_rfl) ?_
    refine chk_sx h (fun g292 h => ?_)
    have k291 : 0 ≤ xo.At ∧ xo.At < ((c0.length : Nat) : Int) := by first | simpa only [Bool.and_eq_true, decide_eq_true_eq, bne_iff_ne, ne_eq] using g292 | (simp at g292 ⊢; omega)
    refine rs 9 [some ⟨.v (.func (.func 50) #[] #[]), [], 6, [2]⟩, none, none, none, some ⟨.ptr 0 (0 + (xo.At).toNat * 1), [], 10, [0]⟩] _ (by kernel_rfl) (allP_cons (ob_ix_o 0 c0.length 0 1 10 xo.At k291) (allP_cons (ob_lookL (.int .i64) (.int .i64 4) (.v (.func (.func 50) #[] #[])) [(.int .i64 1, .v (.func (.func 47) #[] #[])), (.int .i64 2, .v (.func (.func 48) #[] #[])), (.int .i64 3, .v (.func (.func 49) #[] #[])), (.int .i64 4, .v (.func (.func 50) #[] #[])), (.int .i64 5, .v (.func (.func 51) #[] #[]))] 2 6 rfl rfl) allP_nil)) ?_
    obtain ⟨r293, hr293, h⟩ := bind_sx h
    refine call_x (cell_does_4_spec xo.At xo.A xo.B c0 r293 hr293) (args := [.ptr 0 (0 + (xo.At).toNat * 1), iS xo.A, iS xo.B]) (dst := (some 17)) (by kernel_rfl) [(0, .row 3 (fl c0)), (1, .row 50 (Enc.cells xo)), (2, .map [(.int .i64 1, .v (.func (.func 47) #[] #[])), (.int .i64 2, .v (.func (.func 48) #[] #[])), (.int .i64 3, .v (.func (.func 49) #[] #[])), (.int .i64 4, .v (.func (.func 50) #[] #[])), (.int .i64 5, .v (.func (.func 51) #[] #[]))])] 15 (by kernel_rfl) [(0, 0)] [] (iS r293.1) [(0, .row 3 (fl r293.2)), (0, .dead)] (by simp only [push_cast, seval]) (by simp only [push_cast, seval]) (by kernel_rfl) (.inl rfl) (by simp only [push_cast, seval]) (by simp only [push_cast, seval]) ?_
    refine rs 1 [] [] (by kernel_rfl) allP_nil ?_
    refine rt [(4, iS r293.1)] [(0, .row 3 (fl r293.2)), (1, .row 50 (Enc.cells xo)), (2, .map [(.int .i64 1, .v (.func (.func 47) #[] #[])), (.int .i64 2, .v (.func (.func 48) #[] #[])), (.int .i64 3, .v (.func (.func 49) #[] #[])), (.int .i64 4, .v (.func (.func 50) #[] #[])), (.int .i64 5, .v (.func (.func 51) #[] #[]))])] 18 follows (by kernel_rfl) ?_
    refine wk_id ?_
    obtain rfl := Option.some.inj h
    refine ret_at (iS r293.1) (by kernel_rfl) ?_
    exact ret_e [(0, 0)] [] (by simp only [push_cast, seval]) (by simp only [push_cast, seval]) rfl rfl rfl
  refine split_s h (fun g295 h => ?_) (fun g296 h => ?_)
  · refine seq_np ?_
    refine reg_t ?_
    obtain ⟨r302, hr302, h⟩ := bind_sx h
    refine call_x (cell_does_spec r302 hr302) (args := []) (dst := (some 5)) (by kernel_rfl) [(0, .row 3 (fl c0)), (1, .row 50 (Enc.cells xo))] 2 (by kernel_rfl) [] [] (.mp 2) [(2, .map [(.int .i64 1, .v (.func (.func 47) #[] #[])), (.int .i64 2, .v (.func (.func 48) #[] #[])), (.int .i64 3, .v (.func (.func 49) #[] #[])), (.int .i64 4, .v (.func (.func 50) #[] #[])), (.int .i64 5, .v (.func (.func 51) #[] #[]))])] (by simp only [push_cast, seval]) (by simp only [push_cast, seval]) (by kernel_rfl) (.inl rfl) (by simp only [push_cast, seval]) (by simp only [push_cast, seval]) ?_
    refine rs 2 [] [] (by kernel_rfl) allP_nil ?_
    refine run_at 7 .i64 xo.Kind 5 g295 (by kernel_rfl) ?_
    refine chk_sx h (fun g304 h => ?_)
    have k303 : 0 ≤ xo.At ∧ xo.At < ((c0.length : Nat) : Int) := by first | simpa only [Bool.and_eq_true, decide_eq_true_eq, bne_iff_ne, ne_eq] using g304 | (simp at g304 ⊢; omega)
    refine rs 9 [some ⟨.v (.func (.func 51) #[] #[]), [], 6, [2]⟩, none, none, none, some ⟨.ptr 0 (0 + (xo.At).toNat * 1), [], 10, [0]⟩] _ (by kernel_rfl) (allP_cons (ob_ix_o 0 c0.length 0 1 10 xo.At k303) (allP_cons (ob_lookL (.int .i64) (.int .i64 5) (.v (.func (.func 51) #[] #[])) [(.int .i64 1, .v (.func (.func 47) #[] #[])), (.int .i64 2, .v (.func (.func 48) #[] #[])), (.int .i64 3, .v (.func (.func 49) #[] #[])), (.int .i64 4, .v (.func (.func 50) #[] #[])), (.int .i64 5, .v (.func (.func 51) #[] #[]))] 2 6 rfl rfl) allP_nil)) ?_
    obtain ⟨r305, hr305, h⟩ := bind_sx h
    refine call_x (cell_does_5_spec xo.At xo.A xo.B c0 r305 hr305) (args := [.ptr 0 (0 + (xo.At).toNat * 1), iS xo.A, iS xo.B]) (dst := (some 17)) (by kernel_rfl) [(0, .row 3 (fl c0)), (1, .row 50 (Enc.cells xo)), (2, .map [(.int .i64 1, .v (.func (.func 47) #[] #[])), (.int .i64 2, .v (.func (.func 48) #[] #[])), (.int .i64 3, .v (.func (.func 49) #[] #[])), (.int .i64 4, .v (.func (.func 50) #[] #[])), (.int .i64 5, .v (.func (.func 51) #[] #[]))])] 15 (by kernel_rfl) [(0, 0)] [] (iS r305.1) [(0, .row 3 (fl r305.2)), (0, .dead)] (by simp only [push_cast, seval]) (by simp only [push_cast, seval]) (by kernel_rfl) (.inl rfl) (by simp only [push_cast, seval]) (by simp only [push_cast, seval]) ?_
    refine rs 1 [] [] (by kernel_rfl) allP_nil ?_
    refine rt [(4, iS r305.1)] [(0, .row 3 (fl r305.2)), (1, .row 50 (Enc.cells xo)), (2, .map [(.int .i64 1, .v (.func (.func 47) #[] #[])), (.int .i64 2, .v (.func (.func 48) #[] #[])), (.int .i64 3, .v (.func (.func 49) #[] #[])), (.int .i64 4, .v (.func (.func 50) #[] #[])), (.int .i64 5, .v (.func (.func 51) #[] #[]))])] 18 follows (by kernel_rfl) ?_
    refine wk_id ?_
    obtain rfl := Option.some.inj h
    refine ret_at (iS r305.1) (by kernel_rfl) ?_
    exact ret_e [(0, 0)] [] (by simp only [push_cast, seval]) (by simp only [push_cast, seval]) rfl rfl rfl
  refine seq_np ?_
  refine reg_t ?_
  obtain ⟨r308, hr308, h⟩ := bind_sx h
  refine call_x (cell_does_spec r308 hr308) (args := []) (dst := (some 5)) (by kernel_rfl) [(0, .row 3 (fl c0)), (1, .row 50 (Enc.cells xo))] 2 (by kernel_rfl) [] [] (.mp 2) [(2, .map [(.int .i64 1, .v (.func (.func 47) #[] #[])), (.int .i64 2, .v (.func (.func 48) #[] #[])), (.int .i64 3, .v (.func (.func 49) #[] #[])), (.int .i64 4, .v (.func (.func 50) #[] #[])), (.int .i64 5, .v (.func (.func 51) #[] #[]))])] (by simp only [push_cast, seval]) (by simp only [push_cast, seval]) (by kernel_rfl) (.inl rfl) (by simp only [push_cast, seval]) (by simp only [push_cast, seval]) ?_
  cases h

set_option maxRecDepth 100000 in
set_option maxHeartbeats 200000000 in
theorem cell_Run_spec (mem : (List Int)) (ops : (List GOp)) (r : Fault × (List Int) × (List Int)) (h : cell_Run mem ops = some r) : SpecW Try.prog 22 [.sl mem.length (fl mem), .sl ops.length (fl ops)] [] 0 (fun x h n => x = .tup [.own 0 0 r.2.1.length, .own 1 0 r.2.2.length, .agg (Enc.cells r.1)] ∧ h = [(0, .row 3 (fl r.2.1)), (1, .row 3 (fl r.2.2))] ∧ n = 2) := by
  unfold cell_Run at h
  refine spec_of (draw_ok _) Try.func22 rfl (by decide) rfl (by kernel_rfl) ?_
  refine seq_np ?_
  refine reg_f ?_
  refine rs 3 [] [] (by kernel_rfl) allP_nil ?_
  refine rf [(0, .sl mem.length (fl mem)), (1, .sl ops.length (fl ops)), (6, .ptr 0 0)] [(0, .row 28 [iS 0, iS 0])] 1 (by kernel_rfl) ?_
  refine wk_id ?_
  refine seq_np ?_
  refine seq_np ?_
  refine reg_f ?_
  refine rs 2 [] [] (by kernel_rfl) allP_nil ?_
  obtain ⟨r334, hr334, h⟩ := bind_sx h
  refine run_call 21 [.sl mem.length (fl mem), .sl ops.length (fl ops)] (some 14) (by kernel_rfl) ?_
  refine call_0 (cell_Check_spec mem ops r334 hr334) (by simp only [push_cast, seval]) (by simp only [push_cast, seval]) ?_
  refine back_f ?_
  refine rs 2 [] [] (by kernel_rfl) allP_nil ?_
  refine rf [(0, .sl mem.length (fl mem)), (1, .sl ops.length (fl ops)), (6, .ptr 0 0), (7, .ptr 1 0)] [(0, .row 28 [iS 0, iS 0]), (1, .row 28 (Enc.cells r334))] 2 (by kernel_rfl) ?_
  refine wk_id ?_
  refine seq_np ?_
  refine reg_f ?_
  refine rs 3 [] [] (by kernel_rfl) allP_nil ?_
  refine rf [(0, .sl mem.length (fl mem)), (1, .sl ops.length (fl ops)), (6, .ptr 0 0), (7, .ptr 1 0), (17, bS (r334.Code != 0))] [(0, .row 28 [iS 0, iS 0]), (1, .row 28 (Enc.cells r334))] 2 (by kernel_rfl) ?_
  refine wk_id ?_
  refine cond_sx h (by kernel_rfl) (fun g434 h => ?_) (fun g434 h => ?_)
  · refine seq_np ?_
    refine reg_t ?_
    refine rs 4 [] [] (by kernel_rfl) allP_nil ?_
    refine rt [(4, .v (.slice none 0 0)), (5, .v (.slice none 0 0)), (6, .ptr 0 0)] [(0, .row 28 (Enc.cells r334)), (1, .row 28 (Enc.cells r334))] 6 follows (by kernel_rfl) ?_
    refine wk_id ?_
    obtain rfl := Option.some.inj h
    refine ret_at (.tup [.v (.slice none 0 0), .v (.slice none 0 0), .agg (Enc.cells r334)]) (by kernel_rfl) ?_
    exact ret_e [] [] (by simp only [push_cast, seval]) (by simp only [push_cast, seval]) rfl rfl rfl
  · refine wk_id ?_
    refine seq_np ?_
    refine reg_f ?_
    refine rs 1 [] [] (by kernel_rfl) allP_nil ?_
    obtain ⟨r336, hr336, h⟩ := bind_sx h
    refine call_x (slices_Clone_int_spec mem r336 hr336) (args := [.sl mem.length (fl mem)]) (dst := (some 20)) (by kernel_rfl) [(0, .row 28 [iS 0, iS 0]), (1, .row 28 (Enc.cells r334))] 2 (by kernel_rfl) [] [] (.own 2 0 r336.length) [(2, .row 3 (fl r336))] (by simp only [push_cast, seval]) (by simp only [push_cast, seval]) (by kernel_rfl) (.inl rfl) (by simp only [push_cast, seval]) (by simp only [push_cast, seval]) ?_
    refine rs 1 [] [] (by kernel_rfl) allP_nil ?_
    refine rf [(1, .sl ops.length (fl ops)), (6, .ptr 0 0), (8, .own 2 0 r336.length)] [(0, .row 28 [iS 0, iS 0]), (1, .row 28 (Enc.cells r334)), (2, .row 3 (fl r336))] 3 (by kernel_rfl) ?_
    refine wk_id ?_
    refine seq_np ?_
    refine reg_f ?_
    refine rs 1 [] [] (by kernel_rfl) allP_nil ?_
    refine rf [(1, .sl ops.length (fl ops)), (6, .ptr 0 0), (8, .own 2 0 r336.length), (9, .v (.slice none 0 0))] [(0, .row 28 [iS 0, iS 0]), (1, .row 28 (Enc.cells r334)), (2, .row 3 (fl r336))] 3 (by kernel_rfl) ?_
    refine wk_id ?_
    refine seq_np ?_
    refine seq_np ?_
    refine reg_f ?_
    refine rs 3 [] [] (by kernel_rfl) allP_nil ?_
    refine rf [(6, .ptr 0 0), (8, .own 2 0 r336.length), (9, .v (.slice none 0 0)), (21, .sl ops.length (fl ops)), (22, iS ((ops.length : Nat) : Int)), (23, iS 0)] [(0, .row 28 [iS 0, iS 0]), (1, .row 28 (Enc.cells r334)), (2, .row 3 (fl r336))] 3 (by kernel_rfl) ?_
    refine wk_id ?_
    refine block_np ?_
    refine loop_sx (S := Int × (List Int) × (List Int)) (fun a => ([(6, .ptr 0 0), (8, .own 1 0 a.2.1.length), (9, .own 2 0 a.2.2.length), (21, .sl ops.length (fl ops)), (22, iS ((ops.length : Nat) : Int)), (23, iS a.1)], [(0, .row 28 [iS 0, iS 0]), (1, .row 3 (fl a.2.1)), (2, .row 3 (fl a.2.2))], 3)) h (leSt_m [(0, 0), (1, 2)] [] (by simp only [push_cast, seval]) (by simp only [push_cast, seval]) rfl rfl rfl) ?_
    rintro ⟨t23q7, c1q12, c2q7⟩ o2 R2 h hr2 hn2 hx2 ht2
    try dsimp only at h hn2 ⊢
    unfold cell_Run_l1 at h
    try dsimp only at h
    refine seq_np ?_
    refine reg_f ?_
    refine rs 1 [] [] (by kernel_rfl) allP_nil ?_
    refine rf [(6, .ptr 0 0), (8, .own 1 0 c1q12.length), (9, .own 2 0 c2q7.length), (21, .sl ops.length (fl ops)), (22, iS ((ops.length : Nat) : Int)), (23, iS t23q7), (24, bS (decide (t23q7 < ((ops.length : Nat) : Int))))] [(0, .row 28 [iS 0, iS 0]), (1, .row 3 (fl c1q12)), (2, .row 3 (fl c2q7))] 3 (by kernel_rfl) ?_
    refine wk_id ?_
    refine seq_np ?_
    refine cond_sx h (by kernel_rfl) (fun g433 h => ?_) (fun g433 h => ?_)
    · refine wk_id ?_
      refine seq_np ?_
      refine block_np ?_
      refine chk_sx h (fun g422 h => ?_)
      refine seq_np ?_
      refine reg_f ?_
      have k421 : 0 ≤ t23q7 ∧ t23q7 < ((ops.length : Nat) : Int) := by first | simpa only [Bool.and_eq_true, decide_eq_true_eq, bne_iff_ne, ne_eq] using g422 | (simp at g422 ⊢; omega)
      refine rs 4 [some ⟨.iptr (fl ops) ((t23q7).toNat * 4), [], 3, []⟩, some ⟨.agg (Enc.cells (ix ops t23q7)), [], 3, []⟩] _ (by kernel_rfl) (allP_cons (ob_ldw ops t23q7 4 ((t23q7).toNat * 4) k421 rfl (by first | rfl | omega) (Enc.cells (ix ops t23q7)) rfl 3 []) (allP_cons (ob_ix_l ops 4 3 t23q7 k421) allP_nil)) ?_
      refine rf [(6, .ptr 0 0), (8, .own 1 0 c1q12.length), (9, .own 2 0 c2q7.length), (11, .ptr 3 0), (21, .sl ops.length (fl ops)), (22, iS ((ops.length : Nat) : Int)), (23, iS t23q7)] [(0, .row 28 [iS 0, iS 0]), (1, .row 3 (fl c1q12)), (2, .row 3 (fl c2q7)), (3, .row 50 (Enc.cells (ix ops t23q7)))] 4 (by kernel_rfl) ?_
      refine wk_id ?_
      refine reg_f ?_
      refine rs 3 [] [] (by kernel_rfl) allP_nil ?_
      obtain ⟨r428, hr428, h⟩ := bind_sx h
      refine call_x (cell_Do_1_spec (ix ops t23q7) c1q12 r428 hr428) (args := [.own 1 0 c1q12.length, .agg (Enc.cells (ix ops t23q7))]) (dst := (some 30)) (by kernel_rfl) [(0, .row 28 [iS 0, iS 0]), (1, .row 3 (fl c1q12)), (2, .row 3 (fl c2q7)), (3, .row 50 (Enc.cells (ix ops t23q7)))] 4 (by kernel_rfl) [(0, 1)] [] (iS r428.1) [(1, .row 3 (fl r428.2)), (1, .dead)] (by simp only [push_cast, seval]) (by simp only [push_cast, seval]) (by kernel_rfl) (.inl rfl) (by simp only [push_cast, seval]) (by simp only [push_cast, seval]) ?_
      refine chk_sx h (fun g430 h => ?_)
      have e429 : c1q12.length = r428.2.length := (of_decide_eq_true g430).symm
      refine run_eqF 8 (.own 1 0 c1q12.length) (.own 1 0 r428.2.length) (congrArg (fun nq => (.own 1 0 nq : SV)) (show c1q12.length = r428.2.length from e429)) (by kernel_rfl) ?_
      refine chk_sx h (fun g432 h => ?_)
      have k431 : (c2q7 ++ ([r428.1] : List Int)).length * 8 ≤ 140737488355328 := by first | simpa only [Bool.and_eq_true, decide_eq_true_eq, bne_iff_ne, ne_eq] using g432 | (simp at g432 ⊢; omega)
      refine rs 3 [none, some ⟨.own 6 0 (c2q7 ++ ([r428.1] : List Int)).length, [(6, .row 3 (fl (c2q7 ++ ([r428.1] : List Int)))), (2, .dead)], 7, [2, 5]⟩] _ (by kernel_rfl) (allP_cons (ob_app (P := Try.prog) c2q7 ([r428.1] : List Int) 1 8 rfl (appCells (fl ([r428.1] : List Int)) 0 (([r428.1] : List Int).length * 1)) ([r428.1] : List Int).length (app_own ([r428.1] : List Int) 1 rfl) rfl (0 + ([r428.1] : List Int).length * 1 ≤ (fl ([r428.1] : List Int)).length) (app_own_le ([r428.1] : List Int) 1 rfl) 3 (by kernel_rfl) (by decide) k431 2 6 [5]) allP_nil) ?_
      refine rf [(6, .ptr 0 0), (8, .own 1 0 r428.2.length), (9, .own 6 0 (c2q7 ++ ([r428.1] : List Int)).length), (21, .sl ops.length (fl ops)), (22, iS ((ops.length : Nat) : Int)), (23, iS t23q7)] [(0, .row 28 [iS 0, iS 0]), (1, .row 3 (fl r428.2)), (2, .dead), (3, .row 50 (Enc.cells (ix ops t23q7))), (5, .row 3 (fl ([r428.1] : List Int))), (6, .row 3 (fl (c2q7 ++ ([r428.1] : List Int))))] 7 (by kernel_rfl) ?_
      refine wk_id ?_
      refine wk_id ?_
      refine reg_f ?_
      refine rs 2 [] [] (by kernel_rfl) allP_nil ?_
      refine rf [(6, .ptr 0 0), (8, .own 1 0 r428.2.length), (9, .own 6 0 (c2q7 ++ ([r428.1] : List Int)).length), (21, .sl ops.length (fl ops)), (22, iS ((ops.length : Nat) : Int)), (23, iS (IntKind.i64.wrap (t23q7 + 1)))] [(0, .row 28 [iS 0, iS 0]), (1, .row 3 (fl r428.2)), (2, .dead), (3, .row 50 (Enc.cells (ix ops t23q7))), (5, .row 3 (fl ([r428.1] : List Int))), (6, .row 3 (fl (c2q7 ++ ([r428.1] : List Int))))] 7 (by kernel_rfl) ?_
      exact hn2 ((IntKind.i64.wrap (t23q7 + 1)), r428.2, (c2q7 ++ ([r428.1] : List Int))) _ _ _ (Option.some.inj h).symm (leSt_m [(0, 0), (1, 1), (2, 6)] [] (by simp only [push_cast, seval]) (by simp only [push_cast, seval]) rfl rfl rfl)
    · change R2 (.exit 0) _ _ _
      refine ex_cast hx2 (id := 0) ?_
      obtain ⟨r0, h, e0⟩ := map_sx h
      have e1 := hr2 r0 e0.symm
      subst r0
      refine wk_id ?_
      refine wk_id ?_
      refine seq_np ?_
      refine reg_f ?_
      refine rs 6 [] [] (by kernel_rfl) allP_nil ?_
      refine rf [(4, .own 1 0 c1q12.length), (5, .own 2 0 c2q7.length), (6, .ptr 0 0)] [(0, .row 28 [iS 0, iS 0]), (1, .row 3 (fl c1q12)), (2, .row 3 (fl c2q7))] 3 (by kernel_rfl) ?_
      refine wk_id ?_
      obtain rfl := Option.some.inj h
      refine ret_at (.tup [.own 1 0 c1q12.length, .own 2 0 c2q7.length, .agg [iS 0, iS 0]]) (by kernel_rfl) ?_
      exact ret_e [(0, 1), (1, 2)] [] (by simp only [push_cast, seval]) (by simp only [push_cast, seval]) rfl rfl rfl

set_option maxRecDepth 100000 in
set_option maxHeartbeats 200000000 in
theorem taskmillref_F_spec (code : Int) (xat : Int) (r : Fault) (h : taskmillref_F code xat = some r) : SpecW Try.prog 14 [iS code, iS xat] [] 0 (fun x h n => x = .agg (Enc.cells r) ∧ h = [] ∧ n = 0) := by
  unfold taskmillref_F at h
  refine spec_of (draw_ok _) Try.func14 rfl (by decide) rfl (by kernel_rfl) ?_
  refine seq_np ?_
  refine reg_f ?_
  refine rs 1 [] [] (by kernel_rfl) allP_nil ?_
  refine rf [(0, iS code), (1, iS xat), (4, .ptr 0 0)] [(0, .row 28 [iS 0, iS 0])] 1 (by kernel_rfl) ?_
  refine wk_id ?_
  refine seq_np ?_
  refine reg_f ?_
  refine rs 4 [] [] (by kernel_rfl) allP_nil ?_
  refine rf [(4, .ptr 0 0)] [(0, .row 28 [iS code, iS xat])] 1 (by kernel_rfl) ?_
  refine wk_id ?_
  obtain rfl := Option.some.inj h
  refine ret_at (.agg [iS code, iS xat]) (by kernel_rfl) ?_
  exact ret_e [] [] (by simp only [push_cast, seval]) (by simp only [push_cast, seval]) rfl rfl rfl

set_option maxRecDepth 100000 in
set_option maxHeartbeats 200000000 in
theorem taskmillref_OpsFault_spec (mem : (List Int)) (ops : (List GOp)) (r : Fault) (h : taskmillref_OpsFault mem ops = some r) : SpecW Try.prog 23 [.sl mem.length (fl mem), .sl ops.length (fl ops)] [] 0 (fun x h n => x = .agg (Enc.cells r) ∧ h = [] ∧ n = 0) := by
  unfold taskmillref_OpsFault at h
  refine spec_of (draw_ok _) Try.func23 rfl (by decide) rfl (by kernel_rfl) ?_
  refine seq_np ?_
  refine reg_f ?_
  refine rs 1 [] [] (by kernel_rfl) allP_nil ?_
  refine rf [(0, .sl mem.length (fl mem)), (1, .sl ops.length (fl ops)), (4, .ptr 0 0)] [(0, .row 28 [iS 0, iS 0])] 1 (by kernel_rfl) ?_
  refine wk_id ?_
  refine seq_np ?_
  refine seq_cut (A := Unit) (fun _ => ([(0, .sl mem.length (fl mem)), (1, .sl ops.length (fl ops)), (4, .ptr 0 0), (14, bS ((decide ((32 : Int) < ((mem.length : Nat) : Int))) || (decide ((5000 : Int) < ((ops.length : Nat) : Int)))))], [(0, .row 28 [iS 0, iS 0])], 1)) (fun _ => True) (fun K489 hK489 => ?_) (fun _ _ => ?_)
  · refine reg_f ?_
    refine rs 4 [] [] (by kernel_rfl) allP_nil ?_
    refine run_split 10 (decide ((32 : Int) < ((mem.length : Nat) : Int))) (.inl (by kernel_rfl)) (fun g490 => ?_) (fun g490 => ?_)
    · refine rs 4 [] [] (by kernel_rfl) allP_nil ?_
      refine rf [(0, .sl mem.length (fl mem)), (1, .sl ops.length (fl ops)), (4, .ptr 0 0), (14, bS true)] [(0, .row 28 [iS 0, iS 0])] 1 (by kernel_rfl) ?_
      exact hK489 () _ _ _ trivial (leSt_m [(0, 0)] [] (by (try simp only [g490]) <;> simp only [push_cast, seval]) (by (try simp only [g490]) <;> simp only [push_cast, seval]) rfl rfl rfl)
    · refine rs 4 [] [] (by kernel_rfl) allP_nil ?_
      refine rf [(0, .sl mem.length (fl mem)), (1, .sl ops.length (fl ops)), (4, .ptr 0 0), (14, bS (decide ((5000 : Int) < ((ops.length : Nat) : Int))))] [(0, .row 28 [iS 0, iS 0])] 1 (by kernel_rfl) ?_
      exact hK489 () _ _ _ trivial (leSt_m [(0, 0)] [] (by (try simp only [g490]) <;> simp only [push_cast, seval]) (by (try simp only [g490]) <;> simp only [push_cast, seval]) rfl rfl rfl)
  · dsimp only
    refine cond_sx h (by kernel_rfl) (fun g683 h => ?_) (fun g683 h => ?_)
    · refine seq_np ?_
      refine reg_f ?_
      obtain ⟨r492, hr492, h⟩ := bind_sx h
      refine run_call 14 [iS 2, iS 0] (some 15) (by kernel_rfl) ?_
      refine call_0 (taskmillref_F_spec 2 0 r492 hr492) (by simp only [push_cast, seval]) (by simp only [push_cast, seval]) ?_
      refine back_f ?_
      refine rs 1 [] [] (by kernel_rfl) allP_nil ?_
      refine rf [(4, .ptr 0 0)] [(0, .row 28 (Enc.cells r492))] 1 (by kernel_rfl) ?_
      refine wk_id ?_
      obtain rfl := Option.some.inj h
      refine ret_at (.agg (Enc.cells r492)) (by kernel_rfl) ?_
      exact ret_e [] [] (by simp only [push_cast, seval]) (by simp only [push_cast, seval]) rfl rfl rfl
    · refine wk_id ?_
      refine seq_np ?_
      refine seq_np ?_
      refine reg_f ?_
      refine rs 1 [] [] (by kernel_rfl) allP_nil ?_
      refine rf [(0, .sl mem.length (fl mem)), (1, .sl ops.length (fl ops)), (4, .ptr 0 0), (5, iS 0)] [(0, .row 28 [iS 0, iS 0])] 1 (by kernel_rfl) ?_
      refine wk_id ?_
      refine block_np ?_
      refine loop_sx (S := Int) (fun a => ([(0, .sl mem.length (fl mem)), (1, .sl ops.length (fl ops)), (4, .ptr 0 0), (5, iS a)], [(0, .row 28 [iS 0, iS 0])], 1)) h (leSt_m [(0, 0)] [] (by simp only [push_cast, seval]) (by simp only [push_cast, seval]) rfl rfl rfl) ?_
      rintro i7 o2 R2 h hr2 hn2 hx2 ht2
      try dsimp only at h hn2 ⊢
      unfold taskmillref_OpsFault_l1 at h
      try dsimp only at h
      refine seq_np ?_
      refine seq_np ?_
      refine reg_f ?_
      refine rs 4 [] [] (by kernel_rfl) allP_nil ?_
      refine rf [(0, .sl mem.length (fl mem)), (1, .sl ops.length (fl ops)), (4, .ptr 0 0), (5, iS i7), (19, bS (decide (i7 < ((ops.length : Nat) : Int))))] [(0, .row 28 [iS 0, iS 0])] 1 (by kernel_rfl) ?_
      refine wk_id ?_
      refine cond_sx h (by kernel_rfl) (fun g682 h => ?_) (fun g682 h => ?_)
      · refine wk_id ?_
        refine seq_np ?_
        refine block_np ?_
        refine chk_sx h (fun g648 h => ?_)
        refine seq_np ?_
        refine reg_f ?_
        have k647 : 0 ≤ i7 ∧ i7 < ((ops.length : Nat) : Int) := by first | simpa only [Bool.and_eq_true, decide_eq_true_eq, bne_iff_ne, ne_eq] using g648 | (simp at g648 ⊢; omega)
        refine rs 6 [none, none, some ⟨.iptr (fl ops) ((i7).toNat * 4), [], 1, []⟩, some ⟨.agg (Enc.cells (ix ops i7)), [], 1, []⟩] _ (by kernel_rfl) (allP_cons (ob_ldw ops i7 4 ((i7).toNat * 4) k647 rfl (by first | rfl | omega) (Enc.cells (ix ops i7)) rfl 1 []) (allP_cons (ob_ix_l ops 4 1 i7 k647) allP_nil)) ?_
        refine rf [(0, .sl mem.length (fl mem)), (1, .sl ops.length (fl ops)), (4, .ptr 0 0), (5, iS i7), (6, .ptr 1 0)] [(0, .row 28 [iS 0, iS 0]), (1, .row 50 (Enc.cells (ix ops i7)))] 2 (by kernel_rfl) ?_
        refine wk_id ?_
        refine seq_np ?_
        refine seq_cut (A := Unit) (fun _ => ([(0, .sl mem.length (fl mem)), (1, .sl ops.length (fl ops)), (4, .ptr 0 0), (5, iS i7), (6, .ptr 1 0), (33, bS ((decide ((ix ops i7).Kind < 1)) || (decide ((5 : Int) < (ix ops i7).Kind))))], [(0, .row 28 [iS 0, iS 0]), (1, .row 50 (Enc.cells (ix ops i7)))], 2)) (fun _ => True) (fun K653 hK653 => ?_) (fun _ _ => ?_)
        · refine reg_f ?_
          refine rs 4 [] [] (by kernel_rfl) allP_nil ?_
          refine run_split 29 (decide ((ix ops i7).Kind < 1)) (.inl (by kernel_rfl)) (fun g654 => ?_) (fun g654 => ?_)
          · refine rs 4 [] [] (by kernel_rfl) allP_nil ?_
            refine rf [(0, .sl mem.length (fl mem)), (1, .sl ops.length (fl ops)), (4, .ptr 0 0), (5, iS i7), (6, .ptr 1 0), (33, bS true)] [(0, .row 28 [iS 0, iS 0]), (1, .row 50 (Enc.cells (ix ops i7)))] 2 (by kernel_rfl) ?_
            exact hK653 () _ _ _ trivial (leSt_m [(0, 0), (1, 1)] [] (by (try simp only [g654]) <;> simp only [push_cast, seval]) (by (try simp only [g654]) <;> simp only [push_cast, seval]) rfl rfl rfl)
          · refine rs 4 [] [] (by kernel_rfl) allP_nil ?_
            refine rf [(0, .sl mem.length (fl mem)), (1, .sl ops.length (fl ops)), (4, .ptr 0 0), (5, iS i7), (6, .ptr 1 0), (33, bS (decide ((5 : Int) < (ix ops i7).Kind)))] [(0, .row 28 [iS 0, iS 0]), (1, .row 50 (Enc.cells (ix ops i7)))] 2 (by kernel_rfl) ?_
            exact hK653 () _ _ _ trivial (leSt_m [(0, 0), (1, 1)] [] (by (try simp only [g654]) <;> simp only [push_cast, seval]) (by (try simp only [g654]) <;> simp only [push_cast, seval]) rfl rfl rfl)
        · dsimp only
          refine cond_sx h (by kernel_rfl) (fun g681 h => ?_) (fun g681 h => ?_)
          · refine seq_np ?_
            refine reg_f ?_
            refine rs 1 [] [] (by kernel_rfl) allP_nil ?_
            obtain ⟨r656, hr656, h⟩ := bind_sx h
            refine run_call 14 [iS 4, iS i7] (some 35) (by kernel_rfl) ?_
            refine call_0 (taskmillref_F_spec 4 i7 r656 hr656) (by simp only [push_cast, seval]) (by simp only [push_cast, seval]) ?_
            refine back_f ?_
            refine rs 1 [] [] (by kernel_rfl) allP_nil ?_
            refine rf [(4, .ptr 0 0)] [(0, .row 28 (Enc.cells r656)), (1, .row 50 (Enc.cells (ix ops i7)))] 2 (by kernel_rfl) ?_
            refine wk_id ?_
            refine rt_cast ht2 ?_
            obtain ⟨r0, h, e0⟩ := map_sx h
            have e1 := hr2 r0 e0.symm
            subst r0
            obtain rfl := Option.some.inj h
            refine ret_at (.agg (Enc.cells r656)) (by kernel_rfl) ?_
            exact ret_e [] [] (by simp only [push_cast, seval]) (by simp only [push_cast, seval]) rfl rfl rfl
          · refine wk_id ?_
            refine seq_np ?_
            refine seq_cut (A := Unit) (fun _ => ([(0, .sl mem.length (fl mem)), (1, .sl ops.length (fl ops)), (4, .ptr 0 0), (5, iS i7), (6, .ptr 1 0), (53, bS (bif ((ix ops i7).Kind == 1) then (((ix ops i7).A != 0) || (((ix ops i7).Kind != 5) && ((ix ops i7).B != 0))) else (((ix ops i7).Kind != 5) && ((ix ops i7).B != 0))))], [(0, .row 28 [iS 0, iS 0]), (1, .row 50 (Enc.cells (ix ops i7)))], 2)) (fun _ => True) (fun K667 hK667 => ?_) (fun _ _ => ?_)
            · refine reg_f ?_
              refine rs 4 [] [] (by kernel_rfl) allP_nil ?_
              refine run_split 39 ((ix ops i7).Kind == 1) (.inl (by kernel_rfl)) (fun g668 => ?_) (fun g668 => ?_)
              · refine rs 5 [] [] (by kernel_rfl) allP_nil ?_
                refine run_split 44 ((ix ops i7).A != 0) (.inl (by kernel_rfl)) (fun g669 => ?_) (fun g669 => ?_)
                · refine rs 9 [] [] (by kernel_rfl) allP_nil ?_
                  refine rf [(0, .sl mem.length (fl mem)), (1, .sl ops.length (fl ops)), (4, .ptr 0 0), (5, iS i7), (6, .ptr 1 0), (53, bS true)] [(0, .row 28 [iS 0, iS 0]), (1, .row 50 (Enc.cells (ix ops i7)))] 2 (by kernel_rfl) ?_
                  exact hK667 () _ _ _ trivial (leSt_m [(0, 0), (1, 1)] [] (by first | ((try simp only [g668, g669]) <;> simp only [push_cast, seval]; done) | ((try simp only [g668]); (try simp only [g669]); simp only [push_cast, seval]; done) | (exfalso; clear h; simp_all; done)) (by first | ((try simp only [g668, g669]) <;> simp only [push_cast, seval]; done) | ((try simp only [g668]); (try simp only [g669]); simp only [push_cast, seval]; done) | (exfalso; clear h; simp_all; done)) rfl rfl rfl)
                · refine rs 4 [] [] (by kernel_rfl) allP_nil ?_
                  refine run_split 48 ((ix ops i7).Kind != 5) (.inr (by kernel_rfl)) (fun g670 => ?_) (fun g670 => ?_)
                  · refine rn 13 [(0, .sl mem.length (fl mem)), (1, .sl ops.length (fl ops)), (4, .ptr 0 0), (5, iS i7), (6, .ptr 1 0), (44, bS false), (48, .gd true (bS true))] [(0, .row 28 [iS 0, iS 0]), (1, .row 50 (Enc.cells (ix ops i7)))] 2 (by kernel_rfl) ?_
                    refine rs 5 [] [] (by kernel_rfl) allP_nil ?_
                    refine rf [(0, .sl mem.length (fl mem)), (1, .sl ops.length (fl ops)), (4, .ptr 0 0), (5, iS i7), (6, .ptr 1 0), (53, bS ((ix ops i7).B != 0))] [(0, .row 28 [iS 0, iS 0]), (1, .row 50 (Enc.cells (ix ops i7)))] 2 (by kernel_rfl) ?_
                    exact hK667 () _ _ _ trivial (leSt_m [(0, 0), (1, 1)] [] (by first | ((try simp only [g668, g669, g670]) <;> simp only [push_cast, seval]; done) | ((try simp only [g668]); (try simp only [g669]); (try simp only [g670]); simp only [push_cast, seval]; done) | (exfalso; clear h; simp_all; done)) (by first | ((try simp only [g668, g669, g670]) <;> simp only [push_cast, seval]; done) | ((try simp only [g668]); (try simp only [g669]); (try simp only [g670]); simp only [push_cast, seval]; done) | (exfalso; clear h; simp_all; done)) rfl rfl rfl)
                  · refine rn 13 [(0, .sl mem.length (fl mem)), (1, .sl ops.length (fl ops)), (4, .ptr 0 0), (5, iS i7), (6, .ptr 1 0), (44, bS false), (48, .gd true (bS false))] [(0, .row 28 [iS 0, iS 0]), (1, .row 50 (Enc.cells (ix ops i7)))] 2 (by kernel_rfl) ?_
                    refine rs 5 [] [] (by kernel_rfl) allP_nil ?_
                    refine rf [(0, .sl mem.length (fl mem)), (1, .sl ops.length (fl ops)), (4, .ptr 0 0), (5, iS i7), (6, .ptr 1 0), (53, bS false)] [(0, .row 28 [iS 0, iS 0]), (1, .row 50 (Enc.cells (ix ops i7)))] 2 (by kernel_rfl) ?_
                    exact hK667 () _ _ _ trivial (leSt_m [(0, 0), (1, 1)] [] (by first | ((try simp only [g668, g669, g670]) <;> simp only [push_cast, seval]; done) | ((try simp only [g668]); (try simp only [g669]); (try simp only [g670]); simp only [push_cast, seval]; done) | (exfalso; clear h; simp_all; done)) (by first | ((try simp only [g668, g669, g670]) <;> simp only [push_cast, seval]; done) | ((try simp only [g668]); (try simp only [g669]); (try simp only [g670]); simp only [push_cast, seval]; done) | (exfalso; clear h; simp_all; done)) rfl rfl rfl)
              · refine rs 9 [] [] (by kernel_rfl) allP_nil ?_
                refine run_split 48 ((ix ops i7).Kind != 5) (.inr (by kernel_rfl)) (fun g671 => ?_) (fun g671 => ?_)
                · refine rs 5 [] [] (by kernel_rfl) allP_nil ?_
                  refine rf [(0, .sl mem.length (fl mem)), (1, .sl ops.length (fl ops)), (4, .ptr 0 0), (5, iS i7), (6, .ptr 1 0), (53, bS ((ix ops i7).B != 0))] [(0, .row 28 [iS 0, iS 0]), (1, .row 50 (Enc.cells (ix ops i7)))] 2 (by kernel_rfl) ?_
                  exact hK667 () _ _ _ trivial (leSt_m [(0, 0), (1, 1)] [] (by first | ((try simp only [g668, g671]) <;> simp only [push_cast, seval]; done) | ((try simp only [g668]); (try simp only [g671]); simp only [push_cast, seval]; done) | (exfalso; clear h; simp_all; done)) (by first | ((try simp only [g668, g671]) <;> simp only [push_cast, seval]; done) | ((try simp only [g668]); (try simp only [g671]); simp only [push_cast, seval]; done) | (exfalso; clear h; simp_all; done)) rfl rfl rfl)
                · refine rs 5 [] [] (by kernel_rfl) allP_nil ?_
                  refine rf [(0, .sl mem.length (fl mem)), (1, .sl ops.length (fl ops)), (4, .ptr 0 0), (5, iS i7), (6, .ptr 1 0), (53, bS false)] [(0, .row 28 [iS 0, iS 0]), (1, .row 50 (Enc.cells (ix ops i7)))] 2 (by kernel_rfl) ?_
                  exact hK667 () _ _ _ trivial (leSt_m [(0, 0), (1, 1)] [] (by first | ((try simp only [g668, g671]) <;> simp only [push_cast, seval]; done) | ((try simp only [g668]); (try simp only [g671]); simp only [push_cast, seval]; done) | (exfalso; clear h; simp_all; done)) (by first | ((try simp only [g668, g671]) <;> simp only [push_cast, seval]; done) | ((try simp only [g668]); (try simp only [g671]); simp only [push_cast, seval]; done) | (exfalso; clear h; simp_all; done)) rfl rfl rfl)
            · dsimp only
              refine cond_sx h (by kernel_rfl) (fun g680 h => ?_) (fun g680 h => ?_)
              · refine seq_np ?_
                refine reg_f ?_
                refine rs 1 [] [] (by kernel_rfl) allP_nil ?_
                obtain ⟨r673, hr673, h⟩ := bind_sx h
                refine run_call 14 [iS 5, iS i7] (some 55) (by kernel_rfl) ?_
                refine call_0 (taskmillref_F_spec 5 i7 r673 hr673) (by simp only [push_cast, seval]) (by simp only [push_cast, seval]) ?_
                refine back_f ?_
                refine rs 1 [] [] (by kernel_rfl) allP_nil ?_
                refine rf [(4, .ptr 0 0)] [(0, .row 28 (Enc.cells r673)), (1, .row 50 (Enc.cells (ix ops i7)))] 2 (by kernel_rfl) ?_
                refine wk_id ?_
                refine rt_cast ht2 ?_
                obtain ⟨r0, h, e0⟩ := map_sx h
                have e1 := hr2 r0 e0.symm
                subst r0
                obtain rfl := Option.some.inj h
                refine ret_at (.agg (Enc.cells r673)) (by kernel_rfl) ?_
                exact ret_e [] [] (by simp only [push_cast, seval]) (by simp only [push_cast, seval]) rfl rfl rfl
              · refine wk_id ?_
                refine seq_cut (A := Unit) (fun _ => ([(0, .sl mem.length (fl mem)), (1, .sl ops.length (fl ops)), (4, .ptr 0 0), (5, iS i7), (65, bS ((decide ((ix ops i7).At < 0)) || (decide (((mem.length : Nat) : Int) ≤ (ix ops i7).At))))], [(0, .row 28 [iS 0, iS 0]), (1, .row 50 (Enc.cells (ix ops i7)))], 2)) (fun _ => True) (fun K675 hK675 => ?_) (fun _ _ => ?_)
                · refine reg_f ?_
                  refine rs 4 [] [] (by kernel_rfl) allP_nil ?_
                  refine run_split 59 (decide ((ix ops i7).At < 0)) (.inl (by kernel_rfl)) (fun g676 => ?_) (fun g676 => ?_)
                  · refine rs 6 [] [] (by kernel_rfl) allP_nil ?_
                    refine rf [(0, .sl mem.length (fl mem)), (1, .sl ops.length (fl ops)), (4, .ptr 0 0), (5, iS i7), (65, bS true)] [(0, .row 28 [iS 0, iS 0]), (1, .row 50 (Enc.cells (ix ops i7)))] 2 (by kernel_rfl) ?_
                    exact hK675 () _ _ _ trivial (leSt_m [(0, 0), (1, 1)] [] (by (try simp only [g676]) <;> simp only [push_cast, seval]) (by (try simp only [g676]) <;> simp only [push_cast, seval]) rfl rfl rfl)
                  · refine rs 6 [] [] (by kernel_rfl) allP_nil ?_
                    refine rf [(0, .sl mem.length (fl mem)), (1, .sl ops.length (fl ops)), (4, .ptr 0 0), (5, iS i7), (65, bS (decide (((mem.length : Nat) : Int) ≤ (ix ops i7).At)))] [(0, .row 28 [iS 0, iS 0]), (1, .row 50 (Enc.cells (ix ops i7)))] 2 (by kernel_rfl) ?_
                    exact hK675 () _ _ _ trivial (leSt_m [(0, 0), (1, 1)] [] (by (try simp only [g676]) <;> simp only [push_cast, seval]) (by (try simp only [g676]) <;> simp only [push_cast, seval]) rfl rfl rfl)
                · dsimp only
                  refine cond_sx h (by kernel_rfl) (fun g679 h => ?_) (fun g679 h => ?_)
                  · refine seq_np ?_
                    refine reg_f ?_
                    refine rs 1 [] [] (by kernel_rfl) allP_nil ?_
                    obtain ⟨r678, hr678, h⟩ := bind_sx h
                    refine run_call 14 [iS 3, iS i7] (some 67) (by kernel_rfl) ?_
                    refine call_0 (taskmillref_F_spec 3 i7 r678 hr678) (by simp only [push_cast, seval]) (by simp only [push_cast, seval]) ?_
                    refine back_f ?_
                    refine rs 1 [] [] (by kernel_rfl) allP_nil ?_
                    refine rf [(4, .ptr 0 0)] [(0, .row 28 (Enc.cells r678)), (1, .row 50 (Enc.cells (ix ops i7)))] 2 (by kernel_rfl) ?_
                    refine wk_id ?_
                    refine rt_cast ht2 ?_
                    obtain ⟨r0, h, e0⟩ := map_sx h
                    have e1 := hr2 r0 e0.symm
                    subst r0
                    obtain rfl := Option.some.inj h
                    refine ret_at (.agg (Enc.cells r678)) (by kernel_rfl) ?_
                    exact ret_e [] [] (by simp only [push_cast, seval]) (by simp only [push_cast, seval]) rfl rfl rfl
                  · refine wk_id ?_
                    refine wk_id ?_
                    refine reg_f ?_
                    refine rs 3 [] [] (by kernel_rfl) allP_nil ?_
                    refine rf [(0, .sl mem.length (fl mem)), (1, .sl ops.length (fl ops)), (4, .ptr 0 0), (5, iS (IntKind.i64.wrap (i7 + 1)))] [(0, .row 28 [iS 0, iS 0]), (1, .row 50 (Enc.cells (ix ops i7)))] 2 (by kernel_rfl) ?_
                    exact hn2 ((IntKind.i64.wrap (i7 + 1))) _ _ _ (Option.some.inj h).symm (leSt_m [(0, 0)] [] (by simp only [push_cast, seval]) (by simp only [push_cast, seval]) rfl rfl rfl)
      · change R2 (.exit 0) _ _ _
        refine ex_cast hx2 (id := 0) ?_
        obtain ⟨r0, h, e0⟩ := map_sx h
        have e1 := hr2 r0 e0.symm
        subst r0
        refine wk_id ?_
        refine wk_id ?_
        refine seq_np ?_
        refine reg_f ?_
        refine rs 2 [] [] (by kernel_rfl) allP_nil ?_
        refine rf [(4, .ptr 0 0)] [(0, .row 28 [iS 0, iS 0])] 1 (by kernel_rfl) ?_
        refine wk_id ?_
        obtain rfl := Option.some.inj h
        refine ret_at (.agg [iS 0, iS 0]) (by kernel_rfl) ?_
        exact ret_e [] [] (by simp only [push_cast, seval]) (by simp only [push_cast, seval]) rfl rfl rfl

set_option maxRecDepth 100000 in
set_option maxHeartbeats 200000000 in
theorem taskmilllaw_cellBegun_spec (r : Bool) (h : taskmilllaw_cellBegun = some r) : SpecW Try.prog 10 [] [] 0 (fun x h n => x = bS r ∧ h = [] ∧ n = 0) := by
  unfold taskmilllaw_cellBegun at h
  obtain rfl := Option.some.inj h
  exact closed_call follows 10000 1000 (by kernel_rfl)

set_option maxRecDepth 100000 in
set_option maxHeartbeats 200000000 in
theorem taskmillref_Ints_spec (xa : (List Int)) (b : (List Int)) (r : Bool) (h : taskmillref_Ints xa b = some r) : SpecW Try.prog 24 [.sl xa.length (fl xa), .sl b.length (fl b)] [] 0 (fun x h n => x = bS r ∧ h = [] ∧ n = 0) := by
  unfold taskmillref_Ints at h
  refine spec_of (draw_ok _) Try.func24 rfl (by decide) rfl (by kernel_rfl) ?_
  refine seq_np ?_
  refine reg_f ?_
  refine rs 1 [] [] (by kernel_rfl) allP_nil ?_
  refine rf [(0, .sl xa.length (fl xa)), (1, .sl b.length (fl b))] [] 0 (by kernel_rfl) ?_
  refine wk_id ?_
  refine seq_np ?_
  refine seq_np ?_
  refine reg_f ?_
  refine rs 5 [] [] (by kernel_rfl) allP_nil ?_
  refine rf [(0, .sl xa.length (fl xa)), (1, .sl b.length (fl b)), (10, bS (((xa.length : Nat) : Int) != ((b.length : Nat) : Int)))] [] 0 (by kernel_rfl) ?_
  refine wk_id ?_
  refine cond_sx h (by kernel_rfl) (fun g782 h => ?_) (fun g782 h => ?_)
  · refine seq_np ?_
    refine reg_f ?_
    refine rs 1 [] [] (by kernel_rfl) allP_nil ?_
    refine rf [(4, bS false)] [] 0 (by kernel_rfl) ?_
    refine wk_id ?_
    obtain rfl := Option.some.inj h
    refine ret_at (bS false) (by kernel_rfl) ?_
    exact ret_e [] [] (by simp only [push_cast, seval]) (by simp only [push_cast, seval]) rfl rfl rfl
  · refine wk_id ?_
    refine seq_np ?_
    refine seq_np ?_
    refine reg_f ?_
    refine rs 1 [] [] (by kernel_rfl) allP_nil ?_
    refine rf [(0, .sl xa.length (fl xa)), (1, .sl b.length (fl b)), (5, iS 0)] [] 0 (by kernel_rfl) ?_
    refine wk_id ?_
    refine block_np ?_
    refine loop_sx (S := Int) (fun a => ([(0, .sl xa.length (fl xa)), (1, .sl b.length (fl b)), (5, iS a)], [], 0)) h (leSt_m [] [] (by simp only [push_cast, seval]) (by simp only [push_cast, seval]) rfl rfl rfl) ?_
    rintro i7 o2 R2 h hr2 hn2 hx2 ht2
    try dsimp only at h hn2 ⊢
    unfold taskmillref_Ints_l1 at h
    try dsimp only at h
    refine seq_np ?_
    refine seq_np ?_
    refine reg_f ?_
    refine rs 4 [] [] (by kernel_rfl) allP_nil ?_
    refine rf [(0, .sl xa.length (fl xa)), (1, .sl b.length (fl b)), (5, iS i7), (14, bS (decide (i7 < ((xa.length : Nat) : Int))))] [] 0 (by kernel_rfl) ?_
    refine wk_id ?_
    refine cond_sx h (by kernel_rfl) (fun g781 h => ?_) (fun g781 h => ?_)
    · refine wk_id ?_
      refine seq_np ?_
      refine block_np ?_
      refine chk_sx h (fun g777 h => ?_)
      refine chk_sx h (fun g779 h => ?_)
      refine seq_np ?_
      refine reg_t ?_
      have k776 : 0 ≤ i7 ∧ i7 < ((xa.length : Nat) : Int) := by first | simpa only [Bool.and_eq_true, decide_eq_true_eq, bne_iff_ne, ne_eq] using g777 | (simp at g777 ⊢; omega)
      have k778 : 0 ≤ i7 ∧ i7 < ((b.length : Nat) : Int) := by first | simpa only [Bool.and_eq_true, decide_eq_true_eq, bne_iff_ne, ne_eq] using g779 | (simp at g779 ⊢; omega)
      refine rs 9 [none, none, some ⟨.iptr (fl xa) ((i7).toNat * 1), [], 2, []⟩, some ⟨iS (ix xa i7), [], 3, []⟩, none, none, some ⟨.iptr (fl b) ((i7).toNat * 1), [], 6, []⟩, some ⟨iS (ix b i7), [], 7, []⟩] _ (by kernel_rfl) (allP_cons (ob_ld b i7 1 0 ((i7).toNat * 1) k778 rfl (by decide) (by first | rfl | omega) (dflS Try.prog 3) (iS (ix b i7)) rfl 7 []) (allP_cons (ob_ix_l b 1 6 i7 k778) (allP_cons (ob_ld xa i7 1 0 ((i7).toNat * 1) k776 rfl (by decide) (by first | rfl | omega) (dflS Try.prog 3) (iS (ix xa i7)) rfl 3 []) (allP_cons (ob_ix_l xa 1 2 i7 k776) allP_nil)))) ?_
      refine rt [(0, .sl xa.length (fl xa)), (1, .sl b.length (fl b)), (5, iS i7), (25, bS ((ix xa i7) != (ix b i7)))] [] 9 follows (by kernel_rfl) ?_
      refine wk_id ?_
      refine cond_sx h (by kernel_rfl) (fun g780 h => ?_) (fun g780 h => ?_)
      · refine seq_np ?_
        refine reg_f ?_
        refine rs 1 [] [] (by kernel_rfl) allP_nil ?_
        refine rf [(4, bS false)] [] 9 (by kernel_rfl) ?_
        refine wk_id ?_
        refine rt_cast ht2 ?_
        obtain ⟨r0, h, e0⟩ := map_sx h
        have e1 := hr2 r0 e0.symm
        subst r0
        obtain rfl := Option.some.inj h
        refine ret_at (bS false) (by kernel_rfl) ?_
        exact ret_e [] [] (by simp only [push_cast, seval]) (by simp only [push_cast, seval]) rfl rfl rfl
      · refine wk_id ?_
        refine wk_id ?_
        refine reg_f ?_
        refine rs 3 [] [] (by kernel_rfl) allP_nil ?_
        refine rf [(0, .sl xa.length (fl xa)), (1, .sl b.length (fl b)), (5, iS (IntKind.i64.wrap (i7 + 1)))] [] 9 (by kernel_rfl) ?_
        exact hn2 ((IntKind.i64.wrap (i7 + 1))) _ _ _ (Option.some.inj h).symm (leSt_m [] [] (by simp only [push_cast, seval]) (by simp only [push_cast, seval]) rfl rfl rfl)
    · change R2 (.exit 0) _ _ _
      refine ex_cast hx2 (id := 0) ?_
      obtain ⟨r0, h, e0⟩ := map_sx h
      have e1 := hr2 r0 e0.symm
      subst r0
      refine wk_id ?_
      refine wk_id ?_
      refine seq_np ?_
      refine reg_f ?_
      refine rs 1 [] [] (by kernel_rfl) allP_nil ?_
      refine rf [(4, bS true)] [] 0 (by kernel_rfl) ?_
      refine wk_id ?_
      obtain rfl := Option.some.inj h
      refine ret_at (bS true) (by kernel_rfl) ?_
      exact ret_e [] [] (by simp only [push_cast, seval]) (by simp only [push_cast, seval]) rfl rfl rfl

set_option maxRecDepth 100000 in
set_option maxHeartbeats 200000000 in
theorem taskmilllaw_CellPlaces_spec (mem : (List Int)) (ops : (List GOp)) (i : Int) (r : Bool) (h : taskmilllaw_CellPlaces mem ops i = some r) : SpecW Try.prog 6 [.sl mem.length (fl mem), .sl ops.length (fl ops), iS i] [] 0 (fun x h n => x = bS r ∧ h = [] ∧ n = 0) := by
  unfold taskmilllaw_CellPlaces at h
  refine spec_of (draw_ok _) Try.func6 rfl (by decide) rfl (by kernel_rfl) ?_
  refine seq_np ?_
  refine reg_f ?_
  refine rs 1 [] [] (by kernel_rfl) allP_nil ?_
  refine rf [(0, .sl mem.length (fl mem)), (1, .sl ops.length (fl ops)), (2, iS i)] [] 0 (by kernel_rfl) ?_
  refine wk_id ?_
  refine seq_np ?_
  refine seq_np ?_
  refine reg_f ?_
  obtain ⟨r1288, hr1288, h⟩ := bind_sx h
  refine run_call 10 [] (some 17) (by kernel_rfl) ?_
  refine call_0 (taskmilllaw_cellBegun_spec r1288 hr1288) (by simp only [push_cast, seval]) (by simp only [push_cast, seval]) ?_
  refine back_f ?_
  refine rs 1 [] [] (by kernel_rfl) allP_nil ?_
  refine rf [(0, .sl mem.length (fl mem)), (1, .sl ops.length (fl ops)), (2, iS i), (18, bS (!r1288))] [] 0 (by kernel_rfl) ?_
  refine wk_id ?_
  refine cond_sx h (by kernel_rfl) (fun g1374 h => ?_) (fun g1374 h => ?_)
  · refine seq_np ?_
    refine reg_f ?_
    refine rs 1 [] [] (by kernel_rfl) allP_nil ?_
    refine rf [(6, bS false)] [] 0 (by kernel_rfl) ?_
    refine wk_id ?_
    obtain rfl := Option.some.inj h
    refine ret_at (bS false) (by kernel_rfl) ?_
    exact ret_e [] [] (by simp only [push_cast, seval]) (by simp only [push_cast, seval]) rfl rfl rfl
  · refine wk_id ?_
    refine seq_np ?_
    refine seq_cut (A := Bool) (fun a => ([(0, .sl mem.length (fl mem)), (1, .sl ops.length (fl ops)), (2, iS i), (34, bS a)], [], 0)) (fun a => (taskmilllaw_CellPlaces_j2 mem ops i a) = some r) (fun K1299 hK1299 => ?_) ?_
    · refine reg_f ?_
      refine rs 2 [] [] (by kernel_rfl) allP_nil ?_
      obtain ⟨r1300, hr1300, h⟩ := bind_sx h
      refine run_call 23 [.sl mem.length (fl mem), .sl ops.length (fl ops)] (some 21) (by kernel_rfl) ?_
      refine call_0 (taskmillref_OpsFault_spec mem ops r1300 hr1300) (by simp only [push_cast, seval]) (by simp only [push_cast, seval]) ?_
      refine back_f ?_
      refine rs 3 [] [] (by kernel_rfl) allP_nil ?_
      refine run_br h 24 (.inl (by kernel_rfl)) (fun g1301 h => ?_) (fun g1301 h => ?_)
      · refine rs 10 [] [] (by kernel_rfl) allP_nil ?_
        refine rf [(0, .sl mem.length (fl mem)), (1, .sl ops.length (fl ops)), (2, iS i), (34, bS true)] [] 0 (by kernel_rfl) ?_
        exact hK1299 (true) _ _ _ h (leSt_m [] [] (by (try simp only [g1301]) <;> simp only [push_cast, seval]) (by (try simp only [g1301]) <;> simp only [push_cast, seval]) rfl rfl rfl)
      · refine rs 4 [] [] (by kernel_rfl) allP_nil ?_
        refine run_br h 28 (.inl (by kernel_rfl)) (fun g1302 h => ?_) (fun g1302 h => ?_)
        · refine rn 10 [(0, .sl mem.length (fl mem)), (1, .sl ops.length (fl ops)), (2, iS i), (28, bS true)] [] 0 (by kernel_rfl) ?_
          refine rs 6 [] [] (by kernel_rfl) allP_nil ?_
          refine rf [(0, .sl mem.length (fl mem)), (1, .sl ops.length (fl ops)), (2, iS i), (34, bS true)] [] 0 (by kernel_rfl) ?_
          exact hK1299 (true) _ _ _ h (leSt_m [] [] (by first | ((try simp only [g1301, g1302]) <;> simp only [push_cast, seval]; done) | ((try simp only [g1301]); (try simp only [g1302]); simp only [push_cast, seval]; done) | (exfalso; clear h; simp_all; done)) (by first | ((try simp only [g1301, g1302]) <;> simp only [push_cast, seval]; done) | ((try simp only [g1301]); (try simp only [g1302]); simp only [push_cast, seval]; done) | (exfalso; clear h; simp_all; done)) rfl rfl rfl)
        · refine rn 10 [(0, .sl mem.length (fl mem)), (1, .sl ops.length (fl ops)), (2, iS i), (28, bS false)] [] 0 (by kernel_rfl) ?_
          refine rs 6 [] [] (by kernel_rfl) allP_nil ?_
          refine rf [(0, .sl mem.length (fl mem)), (1, .sl ops.length (fl ops)), (2, iS i), (34, bS (decide ((IntKind.i64.wrap (((ops.length : Nat) : Int) - 1)) ≤ i)))] [] 0 (by kernel_rfl) ?_
          exact hK1299 ((decide ((IntKind.i64.wrap (((ops.length : Nat) : Int) - 1)) ≤ i))) _ _ _ h (leSt_m [] [] (by first | ((try simp only [g1301, g1302]) <;> simp only [push_cast, seval]; done) | ((try simp only [g1301]); (try simp only [g1302]); simp only [push_cast, seval]; done) | (exfalso; clear h; simp_all; done)) (by first | ((try simp only [g1301, g1302]) <;> simp only [push_cast, seval]; done) | ((try simp only [g1301]); (try simp only [g1302]); simp only [push_cast, seval]; done) | (exfalso; clear h; simp_all; done)) rfl rfl rfl)
    · rintro t34q2 h
      try dsimp only at h ⊢
      unfold taskmilllaw_CellPlaces_j2 at h
      refine cond_sx h (by kernel_rfl) (fun g1373 h => ?_) (fun g1373 h => ?_)
      · refine seq_np ?_
        refine reg_f ?_
        refine rs 1 [] [] (by kernel_rfl) allP_nil ?_
        refine rf [(6, bS true)] [] 0 (by kernel_rfl) ?_
        refine wk_id ?_
        obtain rfl := Option.some.inj h
        refine ret_at (bS true) (by kernel_rfl) ?_
        exact ret_e [] [] (by simp only [push_cast, seval]) (by simp only [push_cast, seval]) rfl rfl rfl
      · refine wk_id ?_
        refine chk_sx h (fun g1308 h => ?_)
        refine chk_sx h (fun g1310 h => ?_)
        refine seq_np ?_
        refine reg_t ?_
        have k1307 : 0 ≤ i ∧ i < ((ops.length : Nat) : Int) := by first | simpa only [Bool.and_eq_true, decide_eq_true_eq, bne_iff_ne, ne_eq] using g1308 | (simp at g1308 ⊢; omega)
        have k1309 : 0 ≤ (IntKind.i64.wrap (i + 1)) ∧ (IntKind.i64.wrap (i + 1)) < ((ops.length : Nat) : Int) := by first | simpa only [Bool.and_eq_true, decide_eq_true_eq, bne_iff_ne, ne_eq] using g1310 | (simp at g1310 ⊢; omega)
        refine rs 13 [none, none, some ⟨.iptr (fl ops) ((i).toNat * 4), [], 2, []⟩, some ⟨.agg (Enc.cells (ix ops i)), [], 3, []⟩, none, none, none, some ⟨.iptr (fl ops) (((IntKind.i64.wrap (i + 1))).toNat * 4), [], 7, []⟩, some ⟨.agg (Enc.cells (ix ops (IntKind.i64.wrap (i + 1)))), [], 8, []⟩] _ (by kernel_rfl) (allP_cons (ob_ldw ops (IntKind.i64.wrap (i + 1)) 4 (((IntKind.i64.wrap (i + 1))).toNat * 4) k1309 rfl (by first | rfl | omega) (Enc.cells (ix ops (IntKind.i64.wrap (i + 1)))) rfl 8 []) (allP_cons (ob_ix_l ops 4 7 (IntKind.i64.wrap (i + 1)) k1309) (allP_cons (ob_ldw ops i 4 ((i).toNat * 4) k1307 rfl (by first | rfl | omega) (Enc.cells (ix ops i)) rfl 3 []) (allP_cons (ob_ix_l ops 4 2 i k1307) allP_nil)))) ?_
        refine rt [(0, .sl mem.length (fl mem)), (1, .sl ops.length (fl ops)), (2, iS i), (7, .ptr 9 0), (8, .ptr 11 0)] [(9, .row 50 (Enc.cells (ix ops i))), (11, .row 50 (Enc.cells (ix ops (IntKind.i64.wrap (i + 1)))))] 15 follows (by kernel_rfl) ?_
        refine wk_id ?_
        refine seq_cut (A := Unit) (fun _ => ([(0, .sl mem.length (fl mem)), (1, .sl ops.length (fl ops)), (2, iS i), (7, .ptr 9 0), (8, .ptr 11 0), (9, bS (((ix ops i).Kind == 3) && ((ix ops (IntKind.i64.wrap (i + 1))).Kind == 3)))], [(9, .row 50 (Enc.cells (ix ops i))), (11, .row 50 (Enc.cells (ix ops (IntKind.i64.wrap (i + 1)))))], 15)) (fun _ => True) (fun K1312 hK1312 => ?_) (fun _ _ => ?_)
        · refine reg_f ?_
          refine rs 4 [] [] (by kernel_rfl) allP_nil ?_
          refine run_split 47 ((ix ops i).Kind == 3) (.inl (by kernel_rfl)) (fun g1313 => ?_) (fun g1313 => ?_)
          · refine rs 5 [] [] (by kernel_rfl) allP_nil ?_
            refine rf [(0, .sl mem.length (fl mem)), (1, .sl ops.length (fl ops)), (2, iS i), (7, .ptr 9 0), (8, .ptr 11 0), (9, bS ((ix ops (IntKind.i64.wrap (i + 1))).Kind == 3))] [(9, .row 50 (Enc.cells (ix ops i))), (11, .row 50 (Enc.cells (ix ops (IntKind.i64.wrap (i + 1)))))] 15 (by kernel_rfl) ?_
            exact hK1312 () _ _ _ trivial (leSt_m [(9, 9), (11, 11)] [] (by (try simp only [g1313]) <;> simp only [push_cast, seval]) (by (try simp only [g1313]) <;> simp only [push_cast, seval]) rfl rfl rfl)
          · refine rs 5 [] [] (by kernel_rfl) allP_nil ?_
            refine rf [(0, .sl mem.length (fl mem)), (1, .sl ops.length (fl ops)), (2, iS i), (7, .ptr 9 0), (8, .ptr 11 0), (9, bS false)] [(9, .row 50 (Enc.cells (ix ops i))), (11, .row 50 (Enc.cells (ix ops (IntKind.i64.wrap (i + 1)))))] 15 (by kernel_rfl) ?_
            exact hK1312 () _ _ _ trivial (leSt_m [(9, 9), (11, 11)] [] (by (try simp only [g1313]) <;> simp only [push_cast, seval]) (by (try simp only [g1313]) <;> simp only [push_cast, seval]) rfl rfl rfl)
        · dsimp only
          refine seq_np ?_
          refine seq_cut (A := Unit) (fun _ => ([(0, .sl mem.length (fl mem)), (1, .sl ops.length (fl ops)), (2, iS i), (7, .ptr 9 0), (8, .ptr 11 0), (60, bS (((ix ops i).At == (ix ops (IntKind.i64.wrap (i + 1))).At) && (!(((ix ops i).Kind == 3) && ((ix ops (IntKind.i64.wrap (i + 1))).Kind == 3)))))], [(9, .row 50 (Enc.cells (ix ops i))), (11, .row 50 (Enc.cells (ix ops (IntKind.i64.wrap (i + 1)))))], 15)) (fun _ => True) (fun K1317 hK1317 => ?_) (fun _ _ => ?_)
          · refine reg_f ?_
            refine rs 6 [] [] (by kernel_rfl) allP_nil ?_
            refine run_split 57 ((ix ops i).At == (ix ops (IntKind.i64.wrap (i + 1))).At) (.inl (by kernel_rfl)) (fun g1318 => ?_) (fun g1318 => ?_)
            · refine rs 3 [] [] (by kernel_rfl) allP_nil ?_
              refine rf [(0, .sl mem.length (fl mem)), (1, .sl ops.length (fl ops)), (2, iS i), (7, .ptr 9 0), (8, .ptr 11 0), (60, bS (!(((ix ops i).Kind == 3) && ((ix ops (IntKind.i64.wrap (i + 1))).Kind == 3))))] [(9, .row 50 (Enc.cells (ix ops i))), (11, .row 50 (Enc.cells (ix ops (IntKind.i64.wrap (i + 1)))))] 15 (by kernel_rfl) ?_
              exact hK1317 () _ _ _ trivial (leSt_m [(9, 9), (11, 11)] [] (by (try simp only [g1318]) <;> simp only [push_cast, seval]) (by (try simp only [g1318]) <;> simp only [push_cast, seval]) rfl rfl rfl)
            · refine rs 3 [] [] (by kernel_rfl) allP_nil ?_
              refine rf [(0, .sl mem.length (fl mem)), (1, .sl ops.length (fl ops)), (2, iS i), (7, .ptr 9 0), (8, .ptr 11 0), (60, bS false)] [(9, .row 50 (Enc.cells (ix ops i))), (11, .row 50 (Enc.cells (ix ops (IntKind.i64.wrap (i + 1)))))] 15 (by kernel_rfl) ?_
              exact hK1317 () _ _ _ trivial (leSt_m [(9, 9), (11, 11)] [] (by (try simp only [g1318]) <;> simp only [push_cast, seval]) (by (try simp only [g1318]) <;> simp only [push_cast, seval]) rfl rfl rfl)
          · dsimp only
            refine cond_sx h (by kernel_rfl) (fun g1372 h => ?_) (fun g1372 h => ?_)
            · refine seq_np ?_
              refine reg_f ?_
              refine rs 1 [] [] (by kernel_rfl) allP_nil ?_
              refine rf [(6, bS true)] [(9, .row 50 (Enc.cells (ix ops i))), (11, .row 50 (Enc.cells (ix ops (IntKind.i64.wrap (i + 1)))))] 15 (by kernel_rfl) ?_
              refine wk_id ?_
              obtain rfl := Option.some.inj h
              refine ret_at (bS true) (by kernel_rfl) ?_
              exact ret_e [] [] (by simp only [push_cast, seval]) (by simp only [push_cast, seval]) rfl rfl rfl
            · refine wk_id ?_
              refine seq_np ?_
              refine reg_f ?_
              refine rs 1 [] [] (by kernel_rfl) allP_nil ?_
              obtain ⟨r1320, hr1320, h⟩ := bind_sx h
              refine call_x (taskmilllaw_ownOps_spec ops r1320 hr1320) (args := [.sl ops.length (fl ops)]) (dst := (some 62)) (by kernel_rfl) [(9, .row 50 (Enc.cells (ix ops i))), (11, .row 50 (Enc.cells (ix ops (IntKind.i64.wrap (i + 1)))))] 15 (by kernel_rfl) [] [] (.own 15 0 r1320.length) [(15, .row 50 (fl r1320))] (by simp only [push_cast, seval]) (by simp only [push_cast, seval]) (by kernel_rfl) (.inl rfl) (by simp only [push_cast, seval]) (by simp only [push_cast, seval]) ?_
              refine rs 1 [] [] (by kernel_rfl) allP_nil ?_
              refine rf [(0, .sl mem.length (fl mem)), (1, .sl ops.length (fl ops)), (2, iS i), (7, .ptr 9 0), (8, .ptr 11 0), (10, .own 15 0 r1320.length)] [(9, .row 50 (Enc.cells (ix ops i))), (11, .row 50 (Enc.cells (ix ops (IntKind.i64.wrap (i + 1))))), (15, .row 50 (fl r1320))] 16 (by kernel_rfl) ?_
              refine wk_id ?_
              refine chk_sx h (fun g1326 h => ?_)
              refine chk_sx h (fun g1328 h => ?_)
              refine seq_np ?_
              refine reg_t ?_
              have k1325 : 0 ≤ i ∧ i < ((r1320.length : Nat) : Int) := by first | simpa only [Bool.and_eq_true, decide_eq_true_eq, bne_iff_ne, ne_eq] using g1326 | (simp at g1326 ⊢; omega)
              refine rs 9 [none, none, none, none, none, none, none, some ⟨.ptr 15 (0 + (i).toNat * 4), [], 23, [15]⟩, some ⟨.any, [(15, .row 50 (fl (r1320.set i.toNat ((ix ops (IntKind.i64.wrap (i + 1))) : GOp))))], 24, [15]⟩] _ (by kernel_rfl) (allP_cons (ob_st (P := Try.prog) r1320 i 4 0 (0 + (i).toNat * 4) k1325 rfl [iS (ix ops (IntKind.i64.wrap (i + 1))).Kind, iS (ix ops (IntKind.i64.wrap (i + 1))).At, iS (ix ops (IntKind.i64.wrap (i + 1))).A, iS (ix ops (IntKind.i64.wrap (i + 1))).B] ((ix ops (IntKind.i64.wrap (i + 1))) : GOp) (Nat.le_of_ble_eq_true rfl) (by first | rfl | omega) rfl 15 24 50 50 (by kernel_rfl) rfl) (allP_cons (ob_ix_o 15 r1320.length 0 4 23 i k1325) allP_nil)) ?_
              refine run_eqF 10 (.own 15 0 r1320.length) (.own 15 0 (r1320.set i.toNat ((ix ops (IntKind.i64.wrap (i + 1))) : GOp)).length) (congrArg (fun nq => (.own 15 0 nq : SV)) (show r1320.length = (r1320.set i.toNat ((ix ops (IntKind.i64.wrap (i + 1))) : GOp)).length from (List.length_set ..).symm)) (by kernel_rfl) ?_
              refine run_eqF 65 (.own 15 0 r1320.length) (.own 15 0 (r1320.set i.toNat ((ix ops (IntKind.i64.wrap (i + 1))) : GOp)).length) (congrArg (fun nq => (.own 15 0 nq : SV)) (show r1320.length = (r1320.set i.toNat ((ix ops (IntKind.i64.wrap (i + 1))) : GOp)).length from (List.length_set ..).symm)) (by kernel_rfl) ?_
              have k1327 : 0 ≤ (IntKind.i64.wrap (i + 1)) ∧ (IntKind.i64.wrap (i + 1)) < (((r1320.set i.toNat ((ix ops (IntKind.i64.wrap (i + 1))) : GOp)).length : Nat) : Int) := by first | simpa only [Bool.and_eq_true, decide_eq_true_eq, bne_iff_ne, ne_eq] using g1328 | (simp at g1328 ⊢; omega)
              refine rs 2 [some ⟨.ptr 15 (0 + ((IntKind.i64.wrap (i + 1))).toNat * 4), [], 25, [15]⟩, some ⟨.any, [(15, .row 50 (fl ((r1320.set i.toNat ((ix ops (IntKind.i64.wrap (i + 1))) : GOp)).set (IntKind.i64.wrap (i + 1)).toNat ((ix ops i) : GOp))))], 26, [15]⟩] _ (by kernel_rfl) (allP_cons (ob_st (P := Try.prog) (r1320.set i.toNat ((ix ops (IntKind.i64.wrap (i + 1))) : GOp)) (IntKind.i64.wrap (i + 1)) 4 0 (0 + ((IntKind.i64.wrap (i + 1))).toNat * 4) k1327 rfl [iS (ix ops i).Kind, iS (ix ops i).At, iS (ix ops i).A, iS (ix ops i).B] ((ix ops i) : GOp) (Nat.le_of_ble_eq_true rfl) (by first | rfl | omega) rfl 15 26 50 50 (by kernel_rfl) rfl) (allP_cons (ob_ix_o 15 (r1320.set i.toNat ((ix ops (IntKind.i64.wrap (i + 1))) : GOp)).length 0 4 25 (IntKind.i64.wrap (i + 1)) k1327) allP_nil)) ?_
              refine run_eqF 10 (.own 15 0 (r1320.set i.toNat ((ix ops (IntKind.i64.wrap (i + 1))) : GOp)).length) (.own 15 0 ((r1320.set i.toNat ((ix ops (IntKind.i64.wrap (i + 1))) : GOp)).set (IntKind.i64.wrap (i + 1)).toNat ((ix ops i) : GOp)).length) (congrArg (fun nq => (.own 15 0 nq : SV)) (show (r1320.set i.toNat ((ix ops (IntKind.i64.wrap (i + 1))) : GOp)).length = ((r1320.set i.toNat ((ix ops (IntKind.i64.wrap (i + 1))) : GOp)).set (IntKind.i64.wrap (i + 1)).toNat ((ix ops i) : GOp)).length from (List.length_set ..).symm)) (by kernel_rfl) ?_
              refine rt [(0, .sl mem.length (fl mem)), (1, .sl ops.length (fl ops)), (2, iS i), (7, .ptr 9 0), (8, .ptr 11 0), (10, .own 15 0 ((r1320.set i.toNat ((ix ops (IntKind.i64.wrap (i + 1))) : GOp)).set (IntKind.i64.wrap (i + 1)).toNat ((ix ops i) : GOp)).length)] [(9, .row 50 (Enc.cells (ix ops i))), (11, .row 50 (Enc.cells (ix ops (IntKind.i64.wrap (i + 1))))), (15, .row 50 (fl ((r1320.set i.toNat ((ix ops (IntKind.i64.wrap (i + 1))) : GOp)).set (IntKind.i64.wrap (i + 1)).toNat ((ix ops i) : GOp))))] 27 follows (by kernel_rfl) ?_
              refine wk_id ?_
              refine seq_np ?_
              refine reg_f ?_
              refine rs 2 [] [] (by kernel_rfl) allP_nil ?_
              obtain ⟨r1330, hr1330, h⟩ := bind_sx h
              refine call_x (cell_Run_spec mem ops r1330 hr1330) (args := [.sl mem.length (fl mem), .sl ops.length (fl ops)]) (dst := (some 75)) (by kernel_rfl) [(9, .row 50 (Enc.cells (ix ops i))), (11, .row 50 (Enc.cells (ix ops (IntKind.i64.wrap (i + 1))))), (15, .row 50 (fl ((r1320.set i.toNat ((ix ops (IntKind.i64.wrap (i + 1))) : GOp)).set (IntKind.i64.wrap (i + 1)).toNat ((ix ops i) : GOp))))] 27 (by kernel_rfl) [] [] (.tup [.own 27 0 r1330.2.1.length, .own 28 0 r1330.2.2.length, .agg (Enc.cells r1330.1)]) [(27, .row 3 (fl r1330.2.1)), (28, .row 3 (fl r1330.2.2))] (by simp only [push_cast, seval]) (by simp only [push_cast, seval]) (by kernel_rfl) (.inl rfl) (by simp only [push_cast, seval]) (by simp only [push_cast, seval]) ?_
              refine rs 8 [] [] (by kernel_rfl) allP_nil ?_
              refine rf [(0, .sl mem.length (fl mem)), (2, iS i), (7, .ptr 9 0), (8, .ptr 11 0), (10, .own 15 0 ((r1320.set i.toNat ((ix ops (IntKind.i64.wrap (i + 1))) : GOp)).set (IntKind.i64.wrap (i + 1)).toNat ((ix ops i) : GOp)).length), (11, .own 27 0 r1330.2.1.length), (12, .own 28 0 r1330.2.2.length), (13, .ptr 29 0)] [(9, .row 50 (Enc.cells (ix ops i))), (11, .row 50 (Enc.cells (ix ops (IntKind.i64.wrap (i + 1))))), (15, .row 50 (fl ((r1320.set i.toNat ((ix ops (IntKind.i64.wrap (i + 1))) : GOp)).set (IntKind.i64.wrap (i + 1)).toNat ((ix ops i) : GOp)))), (27, .row 3 (fl r1330.2.1)), (28, .row 3 (fl r1330.2.2)), (29, .row 28 (Enc.cells r1330.1))] 30 (by kernel_rfl) ?_
              refine wk_id ?_
              refine seq_np ?_
              refine reg_f ?_
              refine rs 2 [] [] (by kernel_rfl) allP_nil ?_
              obtain ⟨r1332, hr1332, h⟩ := bind_sx h
              refine call_x (cell_Run_spec mem ((r1320.set i.toNat ((ix ops (IntKind.i64.wrap (i + 1))) : GOp)).set (IntKind.i64.wrap (i + 1)).toNat ((ix ops i) : GOp)) r1332 hr1332) (args := [.sl mem.length (fl mem), .own 15 0 ((r1320.set i.toNat ((ix ops (IntKind.i64.wrap (i + 1))) : GOp)).set (IntKind.i64.wrap (i + 1)).toNat ((ix ops i) : GOp)).length]) (dst := (some 82)) (by kernel_rfl) [(9, .row 50 (Enc.cells (ix ops i))), (11, .row 50 (Enc.cells (ix ops (IntKind.i64.wrap (i + 1))))), (15, .row 50 (fl ((r1320.set i.toNat ((ix ops (IntKind.i64.wrap (i + 1))) : GOp)).set (IntKind.i64.wrap (i + 1)).toNat ((ix ops i) : GOp)))), (27, .row 3 (fl r1330.2.1)), (28, .row 3 (fl r1330.2.2)), (29, .row 28 (Enc.cells r1330.1))] 30 (by kernel_rfl) [] [15] (.tup [.own 30 0 r1332.2.1.length, .own 31 0 r1332.2.2.length, .agg (Enc.cells r1332.1)]) [(30, .row 3 (fl r1332.2.1)), (31, .row 3 (fl r1332.2.2))] (by simp only [push_cast, seval]) (by simp only [push_cast, seval]) (by kernel_rfl) (.inr ⟨by simp only [push_cast, seval], by simp only [push_cast, seval]⟩) (by simp only [push_cast, seval]) (by simp only [push_cast, seval]) ?_
              refine rs 8 [] [] (by kernel_rfl) allP_nil ?_
              refine rf [(2, iS i), (7, .ptr 9 0), (8, .ptr 11 0), (11, .own 27 0 r1330.2.1.length), (12, .own 28 0 r1330.2.2.length), (13, .ptr 29 0), (14, .own 30 0 r1332.2.1.length), (15, .own 31 0 r1332.2.2.length), (16, .ptr 32 0)] [(9, .row 50 (Enc.cells (ix ops i))), (11, .row 50 (Enc.cells (ix ops (IntKind.i64.wrap (i + 1))))), (15, .row 50 (fl ((r1320.set i.toNat ((ix ops (IntKind.i64.wrap (i + 1))) : GOp)).set (IntKind.i64.wrap (i + 1)).toNat ((ix ops i) : GOp)))), (27, .row 3 (fl r1330.2.1)), (28, .row 3 (fl r1330.2.2)), (29, .row 28 (Enc.cells r1330.1)), (30, .row 3 (fl r1332.2.1)), (31, .row 3 (fl r1332.2.2)), (32, .row 28 (Enc.cells r1332.1))] 33 (by kernel_rfl) ?_
              refine wk_id ?_
              refine seq_np ?_
              refine seq_cut (A := Bool × (List Int) × (List Int)) (fun a => ([(2, iS i), (7, .ptr 0 0), (8, .ptr 1 0), (12, .own 2 0 a.2.1.length), (15, .own 3 0 a.2.2.length), (106, bS a.1)], [(0, .row 50 (Enc.cells (ix ops i))), (1, .row 50 (Enc.cells (ix ops (IntKind.i64.wrap (i + 1))))), (2, .row 3 (fl a.2.1)), (3, .row 3 (fl a.2.2))], 4)) (fun a => (taskmilllaw_CellPlaces_j1 ops i a.1 a.2.1 a.2.2) = some r) (fun K1345 hK1345 => ?_) ?_
              · refine reg_f ?_
                refine rs 4 [] [] (by kernel_rfl) allP_nil ?_
                refine run_br h 89 (.inl (by kernel_rfl)) (fun g1346 h => ?_) (fun g1346 h => ?_)
                · refine rs 17 [] [] (by kernel_rfl) allP_nil ?_
                  refine rf [(2, iS i), (7, .ptr 9 0), (8, .ptr 11 0), (12, .own 28 0 r1330.2.2.length), (15, .own 31 0 r1332.2.2.length), (106, bS true)] [(9, .row 50 (Enc.cells (ix ops i))), (11, .row 50 (Enc.cells (ix ops (IntKind.i64.wrap (i + 1))))), (15, .row 50 (fl ((r1320.set i.toNat ((ix ops (IntKind.i64.wrap (i + 1))) : GOp)).set (IntKind.i64.wrap (i + 1)).toNat ((ix ops i) : GOp)))), (27, .row 3 (fl r1330.2.1)), (28, .row 3 (fl r1330.2.2)), (29, .row 28 (Enc.cells r1330.1)), (30, .row 3 (fl r1332.2.1)), (31, .row 3 (fl r1332.2.2)), (32, .row 28 (Enc.cells r1332.1))] 33 (by kernel_rfl) ?_
                  exact hK1345 (true, r1330.2.2, r1332.2.2) _ _ _ h (leSt_m [(0, 9), (1, 11), (2, 28), (3, 31)] [] (by (try simp only [g1346]) <;> simp only [push_cast, seval]) (by (try simp only [g1346]) <;> simp only [push_cast, seval]) rfl rfl rfl)
                · refine rs 5 [] [] (by kernel_rfl) allP_nil ?_
                  refine run_br h 94 (.inl (by kernel_rfl)) (fun g1347 h => ?_) (fun g1347 h => ?_)
                  · refine rs 12 [] [] (by kernel_rfl) allP_nil ?_
                    refine rf [(2, iS i), (7, .ptr 9 0), (8, .ptr 11 0), (12, .own 28 0 r1330.2.2.length), (15, .own 31 0 r1332.2.2.length), (106, bS true)] [(9, .row 50 (Enc.cells (ix ops i))), (11, .row 50 (Enc.cells (ix ops (IntKind.i64.wrap (i + 1))))), (15, .row 50 (fl ((r1320.set i.toNat ((ix ops (IntKind.i64.wrap (i + 1))) : GOp)).set (IntKind.i64.wrap (i + 1)).toNat ((ix ops i) : GOp)))), (27, .row 3 (fl r1330.2.1)), (28, .row 3 (fl r1330.2.2)), (29, .row 28 (Enc.cells r1330.1)), (30, .row 3 (fl r1332.2.1)), (31, .row 3 (fl r1332.2.2)), (32, .row 28 (Enc.cells r1332.1))] 33 (by kernel_rfl) ?_
                    exact hK1345 (true, r1330.2.2, r1332.2.2) _ _ _ h (leSt_m [(0, 9), (1, 11), (2, 28), (3, 31)] [] (by first | ((try simp only [g1346, g1347]) <;> simp only [push_cast, seval]; done) | ((try simp only [g1346]); (try simp only [g1347]); simp only [push_cast, seval]; done) | (exfalso; clear h; simp_all; done)) (by first | ((try simp only [g1346, g1347]) <;> simp only [push_cast, seval]; done) | ((try simp only [g1346]); (try simp only [g1347]); simp only [push_cast, seval]; done) | (exfalso; clear h; simp_all; done)) rfl rfl rfl)
                  · refine rs 7 [] [] (by kernel_rfl) allP_nil ?_
                    refine run_br h 101 (.inl (by kernel_rfl)) (fun g1348 h => ?_) (fun g1348 h => ?_)
                    · refine rn 16 [(2, iS i), (7, .ptr 9 0), (8, .ptr 11 0), (11, .own 27 0 r1330.2.1.length), (12, .own 28 0 r1330.2.2.length), (14, .own 30 0 r1332.2.1.length), (15, .own 31 0 r1332.2.2.length), (101, bS true)] [(9, .row 50 (Enc.cells (ix ops i))), (11, .row 50 (Enc.cells (ix ops (IntKind.i64.wrap (i + 1))))), (15, .row 50 (fl ((r1320.set i.toNat ((ix ops (IntKind.i64.wrap (i + 1))) : GOp)).set (IntKind.i64.wrap (i + 1)).toNat ((ix ops i) : GOp)))), (27, .row 3 (fl r1330.2.1)), (28, .row 3 (fl r1330.2.2)), (29, .row 28 (Enc.cells r1330.1)), (30, .row 3 (fl r1332.2.1)), (31, .row 3 (fl r1332.2.2)), (32, .row 28 (Enc.cells r1332.1))] 33 (by kernel_rfl) ?_
                      refine rs 5 [] [] (by kernel_rfl) allP_nil ?_
                      refine rf [(2, iS i), (7, .ptr 9 0), (8, .ptr 11 0), (12, .own 28 0 r1330.2.2.length), (15, .own 31 0 r1332.2.2.length), (106, bS true)] [(9, .row 50 (Enc.cells (ix ops i))), (11, .row 50 (Enc.cells (ix ops (IntKind.i64.wrap (i + 1))))), (15, .row 50 (fl ((r1320.set i.toNat ((ix ops (IntKind.i64.wrap (i + 1))) : GOp)).set (IntKind.i64.wrap (i + 1)).toNat ((ix ops i) : GOp)))), (27, .row 3 (fl r1330.2.1)), (28, .row 3 (fl r1330.2.2)), (29, .row 28 (Enc.cells r1330.1)), (30, .row 3 (fl r1332.2.1)), (31, .row 3 (fl r1332.2.2)), (32, .row 28 (Enc.cells r1332.1))] 33 (by kernel_rfl) ?_
                      exact hK1345 (true, r1330.2.2, r1332.2.2) _ _ _ h (leSt_m [(0, 9), (1, 11), (2, 28), (3, 31)] [] (by first | ((try simp only [g1346, g1347, g1348]) <;> simp only [push_cast, seval]; done) | ((try simp only [g1346]); (try simp only [g1347]); (try simp only [g1348]); simp only [push_cast, seval]; done) | (exfalso; clear h; simp_all; done)) (by first | ((try simp only [g1346, g1347, g1348]) <;> simp only [push_cast, seval]; done) | ((try simp only [g1346]); (try simp only [g1347]); (try simp only [g1348]); simp only [push_cast, seval]; done) | (exfalso; clear h; simp_all; done)) rfl rfl rfl)
                    · refine rn 16 [(2, iS i), (7, .ptr 9 0), (8, .ptr 11 0), (11, .own 27 0 r1330.2.1.length), (12, .own 28 0 r1330.2.2.length), (14, .own 30 0 r1332.2.1.length), (15, .own 31 0 r1332.2.2.length), (101, bS false)] [(9, .row 50 (Enc.cells (ix ops i))), (11, .row 50 (Enc.cells (ix ops (IntKind.i64.wrap (i + 1))))), (15, .row 50 (fl ((r1320.set i.toNat ((ix ops (IntKind.i64.wrap (i + 1))) : GOp)).set (IntKind.i64.wrap (i + 1)).toNat ((ix ops i) : GOp)))), (27, .row 3 (fl r1330.2.1)), (28, .row 3 (fl r1330.2.2)), (29, .row 28 (Enc.cells r1330.1)), (30, .row 3 (fl r1332.2.1)), (31, .row 3 (fl r1332.2.2)), (32, .row 28 (Enc.cells r1332.1))] 33 (by kernel_rfl) ?_
                      refine rs 2 [] [] (by kernel_rfl) allP_nil ?_
                      obtain ⟨r1349, hr1349, h⟩ := bind_sx h
                      refine call_x (taskmillref_Ints_spec r1330.2.1 r1332.2.1 r1349 hr1349) (args := [.own 27 0 r1330.2.1.length, .own 30 0 r1332.2.1.length]) (dst := (some 104)) (by kernel_rfl) [(9, .row 50 (Enc.cells (ix ops i))), (11, .row 50 (Enc.cells (ix ops (IntKind.i64.wrap (i + 1))))), (15, .row 50 (fl ((r1320.set i.toNat ((ix ops (IntKind.i64.wrap (i + 1))) : GOp)).set (IntKind.i64.wrap (i + 1)).toNat ((ix ops i) : GOp)))), (27, .row 3 (fl r1330.2.1)), (28, .row 3 (fl r1330.2.2)), (29, .row 28 (Enc.cells r1330.1)), (30, .row 3 (fl r1332.2.1)), (31, .row 3 (fl r1332.2.2)), (32, .row 28 (Enc.cells r1332.1))] 33 (by kernel_rfl) [] [27, 30] (bS r1349) [] (by simp only [push_cast, seval]) (by simp only [push_cast, seval]) (by kernel_rfl) (.inr ⟨by simp only [push_cast, seval], by simp only [push_cast, seval]⟩) (by simp only [push_cast, seval]) (by simp only [push_cast, seval]) ?_
                      refine rs 2 [] [] (by kernel_rfl) allP_nil ?_
                      refine rf [(2, iS i), (7, .ptr 9 0), (8, .ptr 11 0), (12, .own 28 0 r1330.2.2.length), (15, .own 31 0 r1332.2.2.length), (106, bS (!r1349))] [(9, .row 50 (Enc.cells (ix ops i))), (11, .row 50 (Enc.cells (ix ops (IntKind.i64.wrap (i + 1))))), (15, .row 50 (fl ((r1320.set i.toNat ((ix ops (IntKind.i64.wrap (i + 1))) : GOp)).set (IntKind.i64.wrap (i + 1)).toNat ((ix ops i) : GOp)))), (27, .row 3 (fl r1330.2.1)), (28, .row 3 (fl r1330.2.2)), (29, .row 28 (Enc.cells r1330.1)), (30, .row 3 (fl r1332.2.1)), (31, .row 3 (fl r1332.2.2)), (32, .row 28 (Enc.cells r1332.1))] 33 (by kernel_rfl) ?_
                      exact hK1345 ((!r1349), r1330.2.2, r1332.2.2) _ _ _ h (leSt_m [(0, 9), (1, 11), (2, 28), (3, 31)] [] (by first | ((try simp only [g1346, g1347, g1348]) <;> simp only [push_cast, seval]; done) | ((try simp only [g1346]); (try simp only [g1347]); (try simp only [g1348]); simp only [push_cast, seval]; done) | (exfalso; clear h; simp_all; done)) (by first | ((try simp only [g1346, g1347, g1348]) <;> simp only [push_cast, seval]; done) | ((try simp only [g1346]); (try simp only [g1347]); (try simp only [g1348]); simp only [push_cast, seval]; done) | (exfalso; clear h; simp_all; done)) rfl rfl rfl)
              · rintro ⟨t106q2, c2q2, c3q2⟩ h
                try dsimp only at h ⊢
                unfold taskmilllaw_CellPlaces_j1 at h
                refine cond_sx h (by kernel_rfl) (fun g1371 h => ?_) (fun g1371 h => ?_)
                · refine seq_np ?_
                  refine reg_f ?_
                  refine rs 1 [] [] (by kernel_rfl) allP_nil ?_
                  refine rf [(6, bS false)] [(0, .row 50 (Enc.cells (ix ops i))), (1, .row 50 (Enc.cells (ix ops (IntKind.i64.wrap (i + 1))))), (2, .row 3 (fl c2q2)), (3, .row 3 (fl c3q2))] 4 (by kernel_rfl) ?_
                  refine wk_id ?_
                  obtain rfl := Option.some.inj h
                  refine ret_at (bS false) (by kernel_rfl) ?_
                  exact ret_e [] [] (by simp only [push_cast, seval]) (by simp only [push_cast, seval]) rfl rfl rfl
                · refine wk_id ?_
                  refine chk_sx h (fun g1363 h => ?_)
                  refine chk_sx h (fun g1365 h => ?_)
                  refine chk_sx h (fun g1368 h => ?_)
                  refine chk_sx h (fun g1370 h => ?_)
                  refine seq_cut (A := Unit) (fun _ => ([(6, bS (((ix ops i).At == (ix ops (IntKind.i64.wrap (i + 1))).At) || (((ix c2q2 i) == (ix c3q2 (IntKind.i64.wrap (i + 1)))) && ((ix c2q2 (IntKind.i64.wrap (i + 1))) == (ix c3q2 i)))))], [(0, .row 50 (Enc.cells (ix ops i))), (1, .row 50 (Enc.cells (ix ops (IntKind.i64.wrap (i + 1))))), (2, .row 3 (fl c2q2)), (3, .row 3 (fl c3q2))], 34)) (fun _ => True) (fun K1360 hK1360 => ?_) (fun _ _ => ?_)
                  · refine reg_t ?_
                    refine rs 6 [] [] (by kernel_rfl) allP_nil ?_
                    refine run_split 112 ((ix ops i).At == (ix ops (IntKind.i64.wrap (i + 1))).At) (.inl (by kernel_rfl)) (fun g1361 => ?_) (fun g1361 => ?_)
                    · refine rs 24 [] [] (by kernel_rfl) allP_nil ?_
                      refine rt [(6, bS true)] [(0, .row 50 (Enc.cells (ix ops i))), (1, .row 50 (Enc.cells (ix ops (IntKind.i64.wrap (i + 1))))), (2, .row 3 (fl c2q2)), (3, .row 3 (fl c3q2))] 34 follows (by kernel_rfl) ?_
                      exact hK1360 () _ _ _ trivial (leSt_m [(0, 0), (1, 1), (2, 2), (3, 3)] [] (by (try simp only [g1361]) <;> simp only [push_cast, seval]) (by (try simp only [g1361]) <;> simp only [push_cast, seval]) rfl rfl rfl)
                    · have k1362 : 0 ≤ i ∧ i < ((c2q2.length : Nat) : Int) := by have e := or_use g1363 (by first | ((try simp only [g1361]) <;> rfl) | ((try simp only [g1361]); rfl) | (exfalso; clear h; simp_all; done)); first | simpa only [Bool.and_eq_true, decide_eq_true_eq, bne_iff_ne, ne_eq] using e | (simp at e ⊢; omega)
                      have k1364 : 0 ≤ (IntKind.i64.wrap (i + 1)) ∧ (IntKind.i64.wrap (i + 1)) < ((c3q2.length : Nat) : Int) := by have e := or_use g1365 (by first | ((try simp only [g1361]) <;> rfl) | ((try simp only [g1361]); rfl) | (exfalso; clear h; simp_all; done)); first | simpa only [Bool.and_eq_true, decide_eq_true_eq, bne_iff_ne, ne_eq] using e | (simp at e ⊢; omega)
                      refine rs 11 [none, none, some ⟨.ptr 2 (0 + (i).toNat * 1), [], 12, [2]⟩, some ⟨iS (ix c2q2 i), [], 13, [2]⟩, none, none, none, some ⟨.ptr 3 (0 + ((IntKind.i64.wrap (i + 1))).toNat * 1), [], 17, [3]⟩, some ⟨iS (ix c3q2 (IntKind.i64.wrap (i + 1))), [], 18, [3]⟩] _ (by kernel_rfl) (allP_cons (ob_ld c3q2 (IntKind.i64.wrap (i + 1)) 1 0 (0 + ((IntKind.i64.wrap (i + 1))).toNat * 1) k1364 rfl (by decide) (by first | rfl | omega) (dflS Try.prog 3) (iS (ix c3q2 (IntKind.i64.wrap (i + 1)))) rfl 18 [3]) (allP_cons (ob_ix_o 3 c3q2.length 0 1 17 (IntKind.i64.wrap (i + 1)) k1364) (allP_cons (ob_ld c2q2 i 1 0 (0 + (i).toNat * 1) k1362 rfl (by decide) (by first | rfl | omega) (dflS Try.prog 3) (iS (ix c2q2 i)) rfl 13 [2]) (allP_cons (ob_ix_o 2 c2q2.length 0 1 12 i k1362) allP_nil)))) ?_
                      refine run_split 123 ((ix c2q2 i) == (ix c3q2 (IntKind.i64.wrap (i + 1)))) (.inr (by kernel_rfl)) (fun g1366 => ?_) (fun g1366 => ?_)
                      · have k1367 : 0 ≤ (IntKind.i64.wrap (i + 1)) ∧ (IntKind.i64.wrap (i + 1)) < ((c2q2.length : Nat) : Int) := by have e := or_use g1368 (by first | ((try simp only [g1361, g1366]) <;> rfl) | ((try simp only [g1361]); (try simp only [g1366]); rfl) | (exfalso; clear h; simp_all; done)); first | simpa only [Bool.and_eq_true, decide_eq_true_eq, bne_iff_ne, ne_eq] using e | (simp at e ⊢; omega)
                        have k1369 : 0 ≤ i ∧ i < ((c3q2.length : Nat) : Int) := by have e := or_use g1370 (by first | ((try simp only [g1361, g1366]) <;> rfl) | ((try simp only [g1361]); (try simp only [g1366]); rfl) | (exfalso; clear h; simp_all; done)); first | simpa only [Bool.and_eq_true, decide_eq_true_eq, bne_iff_ne, ne_eq] using e | (simp at e ⊢; omega)
                        refine rs 13 [none, none, none, some ⟨.ptr 2 (0 + ((IntKind.i64.wrap (i + 1))).toNat * 1), [], 24, [2]⟩, some ⟨iS (ix c2q2 (IntKind.i64.wrap (i + 1))), [], 25, [2]⟩, none, none, some ⟨.ptr 3 (0 + (i).toNat * 1), [], 28, [3]⟩, some ⟨iS (ix c3q2 i), [], 29, [3]⟩] _ (by kernel_rfl) (allP_cons (ob_ld c3q2 i 1 0 (0 + (i).toNat * 1) k1369 rfl (by decide) (by first | rfl | omega) (dflS Try.prog 3) (iS (ix c3q2 i)) rfl 29 [3]) (allP_cons (ob_ix_o 3 c3q2.length 0 1 28 i k1369) (allP_cons (ob_ld c2q2 (IntKind.i64.wrap (i + 1)) 1 0 (0 + ((IntKind.i64.wrap (i + 1))).toNat * 1) k1367 rfl (by decide) (by first | rfl | omega) (dflS Try.prog 3) (iS (ix c2q2 (IntKind.i64.wrap (i + 1)))) rfl 25 [2]) (allP_cons (ob_ix_o 2 c2q2.length 0 1 24 (IntKind.i64.wrap (i + 1)) k1367) allP_nil)))) ?_
                        refine rt [(6, bS ((ix c2q2 (IntKind.i64.wrap (i + 1))) == (ix c3q2 i)))] [(0, .row 50 (Enc.cells (ix ops i))), (1, .row 50 (Enc.cells (ix ops (IntKind.i64.wrap (i + 1))))), (2, .row 3 (fl c2q2)), (3, .row 3 (fl c3q2))] 34 follows (by kernel_rfl) ?_
                        exact hK1360 () _ _ _ trivial (leSt_m [(0, 0), (1, 1), (2, 2), (3, 3)] [] (by first | ((try simp only [g1361, g1366]) <;> simp only [push_cast, seval]; done) | ((try simp only [g1361]); (try simp only [g1366]); simp only [push_cast, seval]; done) | (exfalso; clear h; simp_all; done)) (by first | ((try simp only [g1361, g1366]) <;> simp only [push_cast, seval]; done) | ((try simp only [g1361]); (try simp only [g1366]); simp only [push_cast, seval]; done) | (exfalso; clear h; simp_all; done)) rfl rfl rfl)
                      · refine rs 13 [] [] (by kernel_rfl) allP_nil ?_
                        refine rt [(6, bS false)] [(0, .row 50 (Enc.cells (ix ops i))), (1, .row 50 (Enc.cells (ix ops (IntKind.i64.wrap (i + 1))))), (2, .row 3 (fl c2q2)), (3, .row 3 (fl c3q2))] 34 follows (by kernel_rfl) ?_
                        exact hK1360 () _ _ _ trivial (leSt_m [(0, 0), (1, 1), (2, 2), (3, 3)] [] (by first | ((try simp only [g1361, g1366]) <;> simp only [push_cast, seval]; done) | ((try simp only [g1361]); (try simp only [g1366]); simp only [push_cast, seval]; done) | (exfalso; clear h; simp_all; done)) (by first | ((try simp only [g1361, g1366]) <;> simp only [push_cast, seval]; done) | ((try simp only [g1361]); (try simp only [g1366]); simp only [push_cast, seval]; done) | (exfalso; clear h; simp_all; done)) rfl rfl rfl)
                  · dsimp only
                    obtain rfl := Option.some.inj h
                    refine ret_at (bS (((ix ops i).At == (ix ops (IntKind.i64.wrap (i + 1))).At) || (((ix c2q2 i) == (ix c3q2 (IntKind.i64.wrap (i + 1)))) && ((ix c2q2 (IntKind.i64.wrap (i + 1))) == (ix c3q2 i))))) (by kernel_rfl) ?_
                    exact ret_e [] [] (by simp only [push_cast, seval]) (by simp only [push_cast, seval]) rfl rfl rfl

end Go.Proofs.Ytolmbmgjpcdngaa
