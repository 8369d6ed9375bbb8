/-
  What laws of the chapter cell compute, and lemmas on it.
  No conditions.
-/
import Derived.Test.YtolmbmgjpcdngaaProg
import Derived.Test.YtolmbmgjpcdngaacellG
set_option linter.unusedSimpArgs false
set_option linter.unusedVariables false
namespace Go.Proofs.Ytolmbmgjpcdngaa
open Go Go.Sx
attribute [local irreducible] Wk RunAt
theorem follows : Try.prog.follows .mixedOrders = true := by kernel_rfl
set_option maxRecDepth 100000 in
set_option maxHeartbeats 200000000 in
theorem taskmilllaw_own_spec (l : (List Int)) (r : (List Int)) (h : taskmilllaw_own l = some r) : SpecW Try.prog 13 [.sl l.length (fl l)] [] 0 (fun x h n => x = .own 0 0 r.length ∧ h = [(0, .row 3 (fl r))] ∧ n = 1) := by
  unfold taskmilllaw_own at h
  refine spec_of (draw_ok _) Try.func13 rfl (by decide) rfl (by kernel_rfl) ?_
  refine seq_np ?_
  refine reg_f ?_
  refine rs 1 [] [] (by kernel_rfl) allP_nil ?_
  refine rf [(0, .sl l.length (fl l))] [] 0 (by kernel_rfl) ?_
  refine wk_id ?_
  refine chk_sx h (fun g6 h => ?_)
  refine seq_np ?_
  refine reg_f ?_
  have k5 : l.length * 8 ≤ 140737488355328 := by first | simpa only [Bool.and_eq_true, decide_eq_true_eq, bne_iff_ne, ne_eq] using g6 | (simp at g6 ⊢; omega)
  refine rs 3 [none, some ⟨.own 0 0 l.length, [(0, .row 3 (fl l))], 1, []⟩] _ (by kernel_rfl) (allP_cons (ob_app0 (P := Try.prog) l 1 8 rfl (fl l) l.length rfl rfl ((fl l).length = l.length * 1) (app_sl l 1 rfl) 3 (by kernel_rfl) (by decide) k5 0 []) allP_nil) ?_
  refine rf [(2, .own 0 0 l.length)] [(0, .row 3 (fl l))] 1 (by kernel_rfl) ?_
  refine wk_id ?_
  obtain rfl := Option.some.inj h
  refine ret_at (.own 0 0 l.length) (by kernel_rfl) ?_
  exact ret_e [(0, 0)] [] (by simp only [push_cast, seval]) (by simp only [push_cast, seval]) rfl rfl rfl

set_option maxRecDepth 100000 in
set_option maxHeartbeats 200000000 in
theorem taskmilllaw_ownOps_spec (l : (List GOp)) (r : (List GOp)) (h : taskmilllaw_ownOps l = some r) : SpecW Try.prog 20 [.sl l.length (fl l)] [] 0 (fun x h n => x = .own 0 0 r.length ∧ h = [(0, .row 50 (fl r))] ∧ n = 1) := by
  unfold taskmilllaw_ownOps at h
  refine spec_of (draw_ok _) Try.func20 rfl (by decide) rfl (by kernel_rfl) ?_
  refine seq_np ?_
  refine reg_f ?_
  refine rs 1 [] [] (by kernel_rfl) allP_nil ?_
  refine rf [(0, .sl l.length (fl l))] [] 0 (by kernel_rfl) ?_
  refine wk_id ?_
  refine chk_sx h (fun g13 h => ?_)
  refine seq_np ?_
  refine reg_f ?_
  have k12 : l.length * 32 ≤ 140737488355328 := by first | simpa only [Bool.and_eq_true, decide_eq_true_eq, bne_iff_ne, ne_eq] using g13 | (simp at g13 ⊢; omega)
  refine rs 3 [none, some ⟨.own 0 0 l.length, [(0, .row 50 (fl l))], 1, []⟩] _ (by kernel_rfl) (allP_cons (ob_app0 (P := Try.prog) l 4 32 rfl (fl l) l.length rfl rfl ((fl l).length = l.length * 4) (app_sl l 4 rfl) 50 (by kernel_rfl) (by decide) k12 0 []) allP_nil) ?_
  refine rf [(2, .own 0 0 l.length)] [(0, .row 50 (fl l))] 1 (by kernel_rfl) ?_
  refine wk_id ?_
  obtain rfl := Option.some.inj h
  refine ret_at (.own 0 0 l.length) (by kernel_rfl) ?_
  exact ret_e [(0, 0)] [] (by simp only [push_cast, seval]) (by simp only [push_cast, seval]) rfl rfl rfl

set_option maxRecDepth 100000 in
set_option maxHeartbeats 200000000 in
theorem cell_fault_spec (code : Int) (xat : Int) (r : Fault) (h : cell_fault code xat = some r) : SpecW Try.prog 29 [iS code, iS xat] [] 0 (fun x h n => x = .agg (Enc.cells r) ∧ h = [] ∧ n = 0) := by
  unfold cell_fault at h
  refine spec_of (draw_ok _) Try.func29 rfl (by decide) rfl (by kernel_rfl) ?_
  refine seq_np ?_
  refine reg_f ?_
  refine rs 1 [] [] (by kernel_rfl) allP_nil ?_
  refine rf [(0, iS code), (1, iS xat), (4, .ptr 0 0)] [(0, .row 28 [iS 0, iS 0])] 1 (by kernel_rfl) ?_
  refine wk_id ?_
  refine seq_np ?_
  refine reg_f ?_
  refine rs 4 [] [] (by kernel_rfl) allP_nil ?_
  refine rf [(4, .ptr 0 0)] [(0, .row 28 [iS code, iS xat])] 1 (by kernel_rfl) ?_
  refine wk_id ?_
  obtain rfl := Option.some.inj h
  refine ret_at (.agg [iS code, iS xat]) (by kernel_rfl) ?_
  exact ret_e [] [] (by simp only [push_cast, seval]) (by simp only [push_cast, seval]) rfl rfl rfl

set_option maxRecDepth 100000 in
set_option maxHeartbeats 200000000 in
theorem cell_one_spec (xo : GOp) (cells : Int) (r : Int) (h : cell_one xo cells = some r) : SpecW Try.prog 39 [.agg (Enc.cells xo), iS cells] [] 0 (fun x h n => x = iS r ∧ h = [] ∧ n = 0) := by
  unfold cell_one at h
  refine spec_of (draw_ok _) Try.func39 rfl (by decide) rfl (by kernel_rfl) ?_
  refine seq_np ?_
  refine reg_f ?_
  refine rs 2 [] [] (by kernel_rfl) allP_nil ?_
  refine rf [(1, iS cells), (2, .ptr 0 0)] [(0, .row 50 (Enc.cells xo))] 1 (by kernel_rfl) ?_
  refine wk_id ?_
  refine seq_np ?_
  refine seq_np ?_
  refine reg_f ?_
  refine rs 2 [] [] (by kernel_rfl) allP_nil ?_
  refine rf [(1, iS cells), (2, .ptr 0 0), (6, iS xo.Kind)] [(0, .row 50 (Enc.cells xo))] 1 (by kernel_rfl) ?_
  refine wk_id ?_
  refine block_cut (A := Unit) (fun a => ([(1, iS cells), (2, .ptr 0 0)], [(0, .row 50 (Enc.cells xo))], 1)) (fun a => (cell_one_j1 xo cells) = some r) (fun K58 hK58 => ?_) ?_
  · refine seq_np ?_
    refine reg_f ?_
    refine rs 2 [] [] (by kernel_rfl) allP_nil ?_
    refine rf [(1, iS cells), (2, .ptr 0 0), (6, iS xo.Kind), (7, bS (xo.Kind == 1))] [(0, .row 50 (Enc.cells xo))] 1 (by kernel_rfl) ?_
    refine wk_id ?_
    refine cond_sx h (by kernel_rfl) (fun g72 h => ?_) (fun g72 h => ?_)
    · refine seq_cut (A := Unit) (fun _ => ([(1, iS cells), (2, .ptr 0 0), (16, bS ((xo.A != 0) || (xo.B != 0)))], [(0, .row 50 (Enc.cells xo))], 1)) (fun _ => True) (fun K60 hK60 => ?_) (fun _ _ => ?_)
      · refine reg_f ?_
        refine rs 4 [] [] (by kernel_rfl) allP_nil ?_
        refine run_split 12 (xo.A != 0) (.inl (by kernel_rfl)) (fun g61 => ?_) (fun g61 => ?_)
        · refine rs 4 [] [] (by kernel_rfl) allP_nil ?_
          refine rf [(1, iS cells), (2, .ptr 0 0), (16, bS true)] [(0, .row 50 (Enc.cells xo))] 1 (by kernel_rfl) ?_
          exact hK60 () _ _ _ trivial (leSt_m [(0, 0)] [] (by (try simp only [g61]) <;> simp only [push_cast, seval]) (by (try simp only [g61]) <;> simp only [push_cast, seval]) rfl rfl rfl)
        · refine rs 4 [] [] (by kernel_rfl) allP_nil ?_
          refine rf [(1, iS cells), (2, .ptr 0 0), (16, bS (xo.B != 0))] [(0, .row 50 (Enc.cells xo))] 1 (by kernel_rfl) ?_
          exact hK60 () _ _ _ trivial (leSt_m [(0, 0)] [] (by (try simp only [g61]) <;> simp only [push_cast, seval]) (by (try simp only [g61]) <;> simp only [push_cast, seval]) rfl rfl rfl)
      · dsimp only
        refine cond_sx h (by kernel_rfl) (fun g62 h => ?_) (fun g62 h => ?_)
        · refine seq_np ?_
          refine reg_f ?_
          refine rs 1 [] [] (by kernel_rfl) allP_nil ?_
          refine rf [(4, iS 5)] [(0, .row 50 (Enc.cells xo))] 1 (by kernel_rfl) ?_
          refine wk_id ?_
          obtain rfl := Option.some.inj h
          refine ret_at (iS 5) (by kernel_rfl) ?_
          exact ret_e [] [] (by simp only [push_cast, seval]) (by simp only [push_cast, seval]) rfl rfl rfl
        · exact hK58 () _ _ _ h (leSt_m [(0, 0)] [] (by simp only [push_cast, seval]) (by simp only [push_cast, seval]) rfl rfl rfl)
    · refine seq_cut (A := Bool) (fun a => ([(1, iS cells), (2, .ptr 0 0), (6, iS xo.Kind), (17, bS a)], [(0, .row 50 (Enc.cells xo))], 1)) (fun a => (cell_one_j2 xo cells a) = some r) (fun K66 hK66 => ?_) ?_
      · refine seq_np ?_
        refine reg_f ?_
        refine rs 2 [] [] (by kernel_rfl) allP_nil ?_
        refine rf [(1, iS cells), (2, .ptr 0 0), (6, iS xo.Kind), (17, bS (xo.Kind == 2))] [(0, .row 50 (Enc.cells xo))] 1 (by kernel_rfl) ?_
        refine wk_id ?_
        refine cond_sx h (by kernel_rfl) (fun g68 h => ?_) (fun g68 h => ?_)
        · exact hK66 ((xo.Kind == 2)) _ _ _ h (leSt_m [(0, 0)] [] (by simp only [push_cast, seval]) (by simp only [push_cast, seval]) rfl rfl rfl)
        · refine seq_np ?_
          refine reg_f ?_
          refine rs 2 [] [] (by kernel_rfl) allP_nil ?_
          refine rf [(1, iS cells), (2, .ptr 0 0), (6, iS xo.Kind), (17, bS (xo.Kind == 3))] [(0, .row 50 (Enc.cells xo))] 1 (by kernel_rfl) ?_
          refine wk_id ?_
          refine cond_sx h (by kernel_rfl) (fun g67 h => ?_) (fun g67 h => ?_)
          · exact hK66 ((xo.Kind == 3)) _ _ _ h (leSt_m [(0, 0)] [] (by simp only [push_cast, seval]) (by simp only [push_cast, seval]) rfl rfl rfl)
          · refine reg_f ?_
            refine rs 2 [] [] (by kernel_rfl) allP_nil ?_
            refine rf [(1, iS cells), (2, .ptr 0 0), (6, iS xo.Kind), (17, bS (xo.Kind == 4))] [(0, .row 50 (Enc.cells xo))] 1 (by kernel_rfl) ?_
            exact hK66 ((xo.Kind == 4)) _ _ _ h (leSt_m [(0, 0)] [] (by simp only [push_cast, seval]) (by simp only [push_cast, seval]) rfl rfl rfl)
      · rintro t17q3 h
        try dsimp only at h ⊢
        unfold cell_one_j2 at h
        refine cond_sx h (by kernel_rfl) (fun g71 h => ?_) (fun g71 h => ?_)
        · refine seq_np ?_
          refine reg_f ?_
          refine rs 3 [] [] (by kernel_rfl) allP_nil ?_
          refine rf [(1, iS cells), (2, .ptr 0 0), (23, bS (xo.B != 0))] [(0, .row 50 (Enc.cells xo))] 1 (by kernel_rfl) ?_
          refine wk_id ?_
          refine cond_sx h (by kernel_rfl) (fun g69 h => ?_) (fun g69 h => ?_)
          · refine seq_np ?_
            refine reg_f ?_
            refine rs 1 [] [] (by kernel_rfl) allP_nil ?_
            refine rf [(4, iS 5)] [(0, .row 50 (Enc.cells xo))] 1 (by kernel_rfl) ?_
            refine wk_id ?_
            obtain rfl := Option.some.inj h
            refine ret_at (iS 5) (by kernel_rfl) ?_
            exact ret_e [] [] (by simp only [push_cast, seval]) (by simp only [push_cast, seval]) rfl rfl rfl
          · exact hK58 () _ _ _ h (leSt_m [(0, 0)] [] (by simp only [push_cast, seval]) (by simp only [push_cast, seval]) rfl rfl rfl)
        · refine seq_np ?_
          refine reg_f ?_
          refine rs 2 [] [] (by kernel_rfl) allP_nil ?_
          refine rf [(1, iS cells), (2, .ptr 0 0), (24, bS (xo.Kind == 5))] [(0, .row 50 (Enc.cells xo))] 1 (by kernel_rfl) ?_
          refine wk_id ?_
          refine cond_sx h (by kernel_rfl) (fun g70 h => ?_) (fun g70 h => ?_)
          · exact hK58 () _ _ _ h (leSt_m [(0, 0)] [] (by simp only [push_cast, seval]) (by simp only [push_cast, seval]) rfl rfl rfl)
          · refine seq_np ?_
            refine reg_f ?_
            refine rs 1 [] [] (by kernel_rfl) allP_nil ?_
            refine rf [(4, iS 4)] [(0, .row 50 (Enc.cells xo))] 1 (by kernel_rfl) ?_
            refine wk_id ?_
            obtain rfl := Option.some.inj h
            refine ret_at (iS 4) (by kernel_rfl) ?_
            exact ret_e [] [] (by simp only [push_cast, seval]) (by simp only [push_cast, seval]) rfl rfl rfl
  · rintro _ h
    try dsimp only at h ⊢
    unfold cell_one_j1 at h
    refine wk_id ?_
    refine seq_np ?_
    refine seq_cut (A := Unit) (fun _ => ([(34, bS ((decide (xo.At < 0)) || (decide (cells ≤ xo.At))))], [(0, .row 50 (Enc.cells xo))], 1)) (fun _ => True) (fun K76 hK76 => ?_) (fun _ _ => ?_)
    · refine reg_f ?_
      refine rs 4 [] [] (by kernel_rfl) allP_nil ?_
      refine run_split 29 (decide (xo.At < 0)) (.inl (by kernel_rfl)) (fun g77 => ?_) (fun g77 => ?_)
      · refine rs 5 [] [] (by kernel_rfl) allP_nil ?_
        refine rf [(34, bS true)] [(0, .row 50 (Enc.cells xo))] 1 (by kernel_rfl) ?_
        exact hK76 () _ _ _ trivial (leSt_m [(0, 0)] [] (by (try simp only [g77]) <;> simp only [push_cast, seval]) (by (try simp only [g77]) <;> simp only [push_cast, seval]) rfl rfl rfl)
      · refine rs 5 [] [] (by kernel_rfl) allP_nil ?_
        refine rf [(34, bS (decide (cells ≤ xo.At)))] [(0, .row 50 (Enc.cells xo))] 1 (by kernel_rfl) ?_
        exact hK76 () _ _ _ trivial (leSt_m [(0, 0)] [] (by (try simp only [g77]) <;> simp only [push_cast, seval]) (by (try simp only [g77]) <;> simp only [push_cast, seval]) rfl rfl rfl)
    · dsimp only
      refine cond_sx h (by kernel_rfl) (fun g78 h => ?_) (fun g78 h => ?_)
      · refine seq_np ?_
        refine reg_f ?_
        refine rs 1 [] [] (by kernel_rfl) allP_nil ?_
        refine rf [(4, iS 3)] [(0, .row 50 (Enc.cells xo))] 1 (by kernel_rfl) ?_
        refine wk_id ?_
        obtain rfl := Option.some.inj h
        refine ret_at (iS 3) (by kernel_rfl) ?_
        exact ret_e [] [] (by simp only [push_cast, seval]) (by simp only [push_cast, seval]) rfl rfl rfl
      · refine wk_id ?_
        refine seq_np ?_
        refine reg_f ?_
        refine rs 1 [] [] (by kernel_rfl) allP_nil ?_
        refine rf [(4, iS 0)] [(0, .row 50 (Enc.cells xo))] 1 (by kernel_rfl) ?_
        refine wk_id ?_
        obtain rfl := Option.some.inj h
        refine ret_at (iS 0) (by kernel_rfl) ?_
        exact ret_e [] [] (by simp only [push_cast, seval]) (by simp only [push_cast, seval]) rfl rfl rfl

set_option maxRecDepth 100000 in
set_option maxHeartbeats 200000000 in
theorem cell_Check_spec (mem : (List Int)) (ops : (List GOp)) (r : Fault) (h : cell_Check mem ops = some r) : SpecW Try.prog 21 [.sl mem.length (fl mem), .sl ops.length (fl ops)] [] 0 (fun x h n => x = .agg (Enc.cells r) ∧ h = [] ∧ n = 0) := by
  unfold cell_Check at h
  refine spec_of (draw_ok _) Try.func21 rfl (by decide) rfl (by kernel_rfl) ?_
  refine seq_np ?_
  refine reg_f ?_
  refine rs 1 [] [] (by kernel_rfl) allP_nil ?_
  refine rf [(0, .sl mem.length (fl mem)), (1, .sl ops.length (fl ops)), (4, .ptr 0 0)] [(0, .row 28 [iS 0, iS 0])] 1 (by kernel_rfl) ?_
  refine wk_id ?_
  refine seq_np ?_
  refine seq_cut (A := Unit) (fun _ => ([(0, .sl mem.length (fl mem)), (1, .sl ops.length (fl ops)), (4, .ptr 0 0), (15, bS ((decide ((32 : Int) < ((mem.length : Nat) : Int))) || (decide ((5000 : Int) < ((ops.length : Nat) : Int)))))], [(0, .row 28 [iS 0, iS 0])], 1)) (fun _ => True) (fun K99 hK99 => ?_) (fun _ _ => ?_)
  · refine reg_f ?_
    refine rs 4 [] [] (by kernel_rfl) allP_nil ?_
    refine run_split 11 (decide ((32 : Int) < ((mem.length : Nat) : Int))) (.inl (by kernel_rfl)) (fun g100 => ?_) (fun g100 => ?_)
    · refine rs 4 [] [] (by kernel_rfl) allP_nil ?_
      refine rf [(0, .sl mem.length (fl mem)), (1, .sl ops.length (fl ops)), (4, .ptr 0 0), (15, bS true)] [(0, .row 28 [iS 0, iS 0])] 1 (by kernel_rfl) ?_
      exact hK99 () _ _ _ trivial (leSt_m [(0, 0)] [] (by (try simp only [g100]) <;> simp only [push_cast, seval]) (by (try simp only [g100]) <;> simp only [push_cast, seval]) rfl rfl rfl)
    · refine rs 4 [] [] (by kernel_rfl) allP_nil ?_
      refine rf [(0, .sl mem.length (fl mem)), (1, .sl ops.length (fl ops)), (4, .ptr 0 0), (15, bS (decide ((5000 : Int) < ((ops.length : Nat) : Int))))] [(0, .row 28 [iS 0, iS 0])] 1 (by kernel_rfl) ?_
      exact hK99 () _ _ _ trivial (leSt_m [(0, 0)] [] (by (try simp only [g100]) <;> simp only [push_cast, seval]) (by (try simp only [g100]) <;> simp only [push_cast, seval]) rfl rfl rfl)
  · dsimp only
    refine cond_sx h (by kernel_rfl) (fun g175 h => ?_) (fun g175 h => ?_)
    · refine seq_np ?_
      refine reg_f ?_
      obtain ⟨r102, hr102, h⟩ := bind_sx h
      refine run_call 29 [iS 2, iS 0] (some 16) (by kernel_rfl) ?_
      refine call_0 (cell_fault_spec 2 0 r102 hr102) (by simp only [push_cast, seval]) (by simp only [push_cast, seval]) ?_
      refine back_f ?_
      refine rs 1 [] [] (by kernel_rfl) allP_nil ?_
      refine rf [(4, .ptr 0 0)] [(0, .row 28 (Enc.cells r102))] 1 (by kernel_rfl) ?_
      refine wk_id ?_
      obtain rfl := Option.some.inj h
      refine ret_at (.agg (Enc.cells r102)) (by kernel_rfl) ?_
      exact ret_e [] [] (by simp only [push_cast, seval]) (by simp only [push_cast, seval]) rfl rfl rfl
    · refine wk_id ?_
      refine seq_np ?_
      refine seq_np ?_
      refine reg_f ?_
      refine rs 3 [] [] (by kernel_rfl) allP_nil ?_
      refine rf [(0, .sl mem.length (fl mem)), (4, .ptr 0 0), (17, .sl ops.length (fl ops)), (18, iS ((ops.length : Nat) : Int)), (19, iS 0)] [(0, .row 28 [iS 0, iS 0])] 1 (by kernel_rfl) ?_
      refine wk_id ?_
      refine block_np ?_
      refine loop_sx (S := Int) (fun a => ([(0, .sl mem.length (fl mem)), (4, .ptr 0 0), (17, .sl ops.length (fl ops)), (18, iS ((ops.length : Nat) : Int)), (19, iS a)], [(0, .row 28 [iS 0, iS 0])], 1)) h (leSt_m [(0, 0)] [] (by simp only [push_cast, seval]) (by simp only [push_cast, seval]) rfl rfl rfl) ?_
      rintro t19q7 o2 R2 h hr2 hn2 hx2 ht2
      try dsimp only at h hn2 ⊢
      unfold cell_Check_l1 at h
      try dsimp only at h
      refine seq_np ?_
      refine reg_f ?_
      refine rs 1 [] [] (by kernel_rfl) allP_nil ?_
      refine rf [(0, .sl mem.length (fl mem)), (4, .ptr 0 0), (17, .sl ops.length (fl ops)), (18, iS ((ops.length : Nat) : Int)), (19, iS t19q7), (20, bS (decide (t19q7 < ((ops.length : Nat) : Int))))] [(0, .row 28 [iS 0, iS 0])] 1 (by kernel_rfl) ?_
      refine wk_id ?_
      refine seq_np ?_
      refine cond_sx h (by kernel_rfl) (fun g174 h => ?_) (fun g174 h => ?_)
      · refine wk_id ?_
        refine seq_np ?_
        refine block_np ?_
        refine chk_sx h (fun g168 h => ?_)
        refine seq_np ?_
        refine reg_f ?_
        have k167 : 0 ≤ t19q7 ∧ t19q7 < ((ops.length : Nat) : Int) := by first | simpa only [Bool.and_eq_true, decide_eq_true_eq, bne_iff_ne, ne_eq] using g168 | (simp at g168 ⊢; omega)
        refine rs 6 [none, some ⟨.iptr (fl ops) ((t19q7).toNat * 4), [], 1, []⟩, some ⟨.agg (Enc.cells (ix ops t19q7)), [], 1, []⟩] _ (by kernel_rfl) (allP_cons (ob_ldw ops t19q7 4 ((t19q7).toNat * 4) k167 rfl (by first | rfl | omega) (Enc.cells (ix ops t19q7)) rfl 1 []) (allP_cons (ob_ix_l ops 4 1 t19q7 k167) allP_nil)) ?_
        refine rf [(0, .sl mem.length (fl mem)), (4, .ptr 0 0), (5, iS t19q7), (6, .ptr 1 0), (17, .sl ops.length (fl ops)), (18, iS ((ops.length : Nat) : Int)), (19, iS t19q7)] [(0, .row 28 [iS 0, iS 0]), (1, .row 50 (Enc.cells (ix ops t19q7)))] 2 (by kernel_rfl) ?_
        refine wk_id ?_
        refine seq_np ?_
        refine reg_f ?_
        refine rs 3 [] [] (by kernel_rfl) allP_nil ?_
        obtain ⟨r170, hr170, h⟩ := bind_sx h
        refine run_call 39 [.agg (Enc.cells (ix ops t19q7)), iS ((mem.length : Nat) : Int)] (some 27) (by kernel_rfl) ?_
        refine call_0 (cell_one_spec (ix ops t19q7) ((mem.length : Nat) : Int) r170 hr170) (by simp only [push_cast, seval]) (by simp only [push_cast, seval]) ?_
        refine back_f ?_
        refine rs 1 [] [] (by kernel_rfl) allP_nil ?_
        refine rf [(0, .sl mem.length (fl mem)), (4, .ptr 0 0), (5, iS t19q7), (7, iS r170), (17, .sl ops.length (fl ops)), (18, iS ((ops.length : Nat) : Int)), (19, iS t19q7)] [(0, .row 28 [iS 0, iS 0]), (1, .row 50 (Enc.cells (ix ops t19q7)))] 2 (by kernel_rfl) ?_
        refine wk_id ?_
        refine seq_np ?_
        refine reg_f ?_
        refine rs 2 [] [] (by kernel_rfl) allP_nil ?_
        refine rf [(0, .sl mem.length (fl mem)), (4, .ptr 0 0), (5, iS t19q7), (7, iS r170), (17, .sl ops.length (fl ops)), (18, iS ((ops.length : Nat) : Int)), (19, iS t19q7), (29, bS (r170 != 0))] [(0, .row 28 [iS 0, iS 0]), (1, .row 50 (Enc.cells (ix ops t19q7)))] 2 (by kernel_rfl) ?_
        refine wk_id ?_
        refine cond_sx h (by kernel_rfl) (fun g173 h => ?_) (fun g173 h => ?_)
        · refine seq_np ?_
          refine reg_f ?_
          refine rs 2 [] [] (by kernel_rfl) allP_nil ?_
          obtain ⟨r172, hr172, h⟩ := bind_sx h
          refine run_call 29 [iS r170, iS t19q7] (some 32) (by kernel_rfl) ?_
          refine call_0 (cell_fault_spec r170 t19q7 r172 hr172) (by simp only [push_cast, seval]) (by simp only [push_cast, seval]) ?_
          refine back_f ?_
          refine rs 1 [] [] (by kernel_rfl) allP_nil ?_
          refine rf [(4, .ptr 0 0)] [(0, .row 28 (Enc.cells r172)), (1, .row 50 (Enc.cells (ix ops t19q7)))] 2 (by kernel_rfl) ?_
          refine wk_id ?_
          refine rt_cast ht2 ?_
          obtain ⟨r0, h, e0⟩ := map_sx h
          have e1 := hr2 r0 e0.symm
          subst r0
          obtain rfl := Option.some.inj h
          refine ret_at (.agg (Enc.cells r172)) (by kernel_rfl) ?_
          exact ret_e [] [] (by simp only [push_cast, seval]) (by simp only [push_cast, seval]) rfl rfl rfl
        · refine wk_id ?_
          refine wk_id ?_
          refine reg_f ?_
          refine rs 2 [] [] (by kernel_rfl) allP_nil ?_
          refine rf [(0, .sl mem.length (fl mem)), (4, .ptr 0 0), (17, .sl ops.length (fl ops)), (18, iS ((ops.length : Nat) : Int)), (19, iS (IntKind.i64.wrap (t19q7 + 1)))] [(0, .row 28 [iS 0, iS 0]), (1, .row 50 (Enc.cells (ix ops t19q7)))] 2 (by kernel_rfl) ?_
          exact hn2 ((IntKind.i64.wrap (t19q7 + 1))) _ _ _ (Option.some.inj h).symm (leSt_m [(0, 0)] [] (by simp only [push_cast, seval]) (by simp only [push_cast, seval]) rfl rfl rfl)
      · change R2 (.exit 0) _ _ _
        refine ex_cast hx2 (id := 0) ?_
        obtain ⟨r0, h, e0⟩ := map_sx h
        have e1 := hr2 r0 e0.symm
        subst r0
        refine wk_id ?_
        refine wk_id ?_
        refine seq_np ?_
        refine reg_f ?_
        refine rs 2 [] [] (by kernel_rfl) allP_nil ?_
        refine rf [(4, .ptr 0 0)] [(0, .row 28 [iS 0, iS 0])] 1 (by kernel_rfl) ?_
        refine wk_id ?_
        obtain rfl := Option.some.inj h
        refine ret_at (.agg [iS 0, iS 0]) (by kernel_rfl) ?_
        exact ret_e [] [] (by simp only [push_cast, seval]) (by simp only [push_cast, seval]) rfl rfl rfl

set_option maxRecDepth 100000 in
set_option maxHeartbeats 200000000 in
theorem slices_Clone_int_spec (s : (List Int)) (r : (List Int)) (h : slices_Clone_int s = some r) : SpecW Try.prog 32 [.sl s.length (fl s)] [] 0 (fun x h n => x = .own 0 0 r.length ∧ h = [(0, .row 3 (fl r))] ∧ n = 1) := by
  unfold slices_Clone_int at h
  refine spec_of (draw_ok _) Try.func32 rfl (by decide) rfl (by kernel_rfl) ?_
  refine seq_np ?_
  refine reg_f ?_
  refine rs 1 [] [] (by kernel_rfl) allP_nil ?_
  refine rf [(0, .sl s.length (fl s))] [] 0 (by kernel_rfl) ?_
  refine wk_id ?_
  refine seq_np ?_
  refine seq_np ?_
  refine reg_f ?_
  refine rs 1 [] [] (by kernel_rfl) allP_nil ?_
  refine run_nil s.length (some 4) (by kernel_rfl) (fun g185 => ?_) ?_
  · obtain rfl : s = [] := List.eq_nil_of_length_eq_zero g185
    replace h : (some ([])) = some r := by simpa using h
    refine rf [(0, .sl ([] : List Int).length (fl ([] : List Int))), (4, bS true)] [] 0 (by kernel_rfl) ?_
    refine wk_id ?_
    refine cond_t (by kernel_rfl) ?_
    refine seq_np ?_
    refine reg_f ?_
    refine rs 1 [] [] (by kernel_rfl) allP_nil ?_
    refine rf [(2, .v (.slice none 0 0))] [] 0 (by kernel_rfl) ?_
    refine wk_id ?_
    obtain rfl := Option.some.inj h
    refine ret_at (.v (.slice none 0 0)) (by kernel_rfl) ?_
    exact ret_e [] [] (by simp only [push_cast, seval]) (by simp only [push_cast, seval]) rfl rfl rfl
  · refine rf [(0, .sl s.length (fl s)), (4, bS false)] [] 0 (by kernel_rfl) ?_
    refine wk_id ?_
    refine cond_f (by kernel_rfl) ?_
    refine wk_id ?_
    refine chk_sx h (fun g184 h => ?_)
    refine seq_np ?_
    refine reg_f ?_
    refine run_mk0 Int (some 5) 3 (by kernel_rfl) ?_
    have k183 : (([] : List Int) ++ s).length * 8 ≤ 140737488355328 := by first | simpa only [Bool.and_eq_true, decide_eq_true_eq, bne_iff_ne, ne_eq] using g184 | (simp at g184 ⊢; omega)
    refine rs 3 [none, some ⟨.own 1 0 (([] : List Int) ++ s).length, [(1, .row 3 (fl (([] : List Int) ++ s))), (0, .dead)], 2, [0]⟩] _ (by kernel_rfl) (allP_cons (ob_app (P := Try.prog) ([] : List Int) s 1 8 rfl (fl s) s.length rfl rfl ((fl s).length = s.length * 1) (app_sl s 1 rfl) 3 (by kernel_rfl) (by decide) k183 0 1 []) allP_nil) ?_
    refine rf [(2, .own 1 0 (([] : List Int) ++ s).length)] [(0, .dead), (1, .row 3 (fl (([] : List Int) ++ s)))] 2 (by kernel_rfl) ?_
    refine wk_id ?_
    obtain rfl := Option.some.inj h
    refine ret_at (.own 1 0 (([] : List Int) ++ s).length) (by kernel_rfl) ?_
    exact ret_e [(0, 1)] [] (by simp only [push_cast, seval]) (by simp only [push_cast, seval]) rfl rfl rfl

set_option maxRecDepth 100000 in
set_option maxHeartbeats 200000000 in
theorem cell_does_spec (r : Unit) (h : cell_does = some r) : SpecW Try.prog 42 [] [] 0 (fun x h n => x = .mp 0 ∧ h = [(0, .map [(.int .i64 1, .v (.func (.func 47) #[] #[])), (.int .i64 2, .v (.func (.func 48) #[] #[])), (.int .i64 3, .v (.func (.func 49) #[] #[])), (.int .i64 4, .v (.func (.func 50) #[] #[])), (.int .i64 5, .v (.func (.func 51) #[] #[]))])] ∧ n = 1) := by
  unfold cell_does at h
  refine spec_of (draw_ok _) Try.func42 rfl (by decide) rfl (by kernel_rfl) ?_
  refine seq_np ?_
  refine reg_f ?_
  refine rs 1 [] [] (by kernel_rfl) allP_nil ?_
  refine rf [] [] 0 (by kernel_rfl) ?_
  refine wk_id ?_
  refine seq_np ?_
  refine reg_f ?_
  refine rs 8 [none, some ⟨.any, [(0, .map [(.int .i64 1, .v (.func (.func 47) #[] #[]))])], 1, [0]⟩, some ⟨.any, [(0, .map [(.int .i64 1, .v (.func (.func 47) #[] #[])), (.int .i64 2, .v (.func (.func 48) #[] #[]))])], 1, [0]⟩, some ⟨.any, [(0, .map [(.int .i64 1, .v (.func (.func 47) #[] #[])), (.int .i64 2, .v (.func (.func 48) #[] #[])), (.int .i64 3, .v (.func (.func 49) #[] #[]))])], 1, [0]⟩, some ⟨.any, [(0, .map [(.int .i64 1, .v (.func (.func 47) #[] #[])), (.int .i64 2, .v (.func (.func 48) #[] #[])), (.int .i64 3, .v (.func (.func 49) #[] #[])), (.int .i64 4, .v (.func (.func 50) #[] #[]))])], 1, [0]⟩, some ⟨.any, [(0, .map [(.int .i64 1, .v (.func (.func 47) #[] #[])), (.int .i64 2, .v (.func (.func 48) #[] #[])), (.int .i64 3, .v (.func (.func 49) #[] #[])), (.int .i64 4, .v (.func (.func 50) #[] #[])), (.int .i64 5, .v (.func (.func 51) #[] #[]))])], 1, [0]⟩] _ (by kernel_rfl) (allP_cons (ob_insL (.int .i64) (.int .i64 5) (.v (.func (.func 51) #[] #[])) [(.int .i64 1, .v (.func (.func 47) #[] #[])), (.int .i64 2, .v (.func (.func 48) #[] #[])), (.int .i64 3, .v (.func (.func 49) #[] #[])), (.int .i64 4, .v (.func (.func 50) #[] #[]))] [(.int .i64 1, .v (.func (.func 47) #[] #[])), (.int .i64 2, .v (.func (.func 48) #[] #[])), (.int .i64 3, .v (.func (.func 49) #[] #[])), (.int .i64 4, .v (.func (.func 50) #[] #[])), (.int .i64 5, .v (.func (.func 51) #[] #[]))] 0 1 rfl rfl rfl) (allP_cons (ob_insL (.int .i64) (.int .i64 4) (.v (.func (.func 50) #[] #[])) [(.int .i64 1, .v (.func (.func 47) #[] #[])), (.int .i64 2, .v (.func (.func 48) #[] #[])), (.int .i64 3, .v (.func (.func 49) #[] #[]))] [(.int .i64 1, .v (.func (.func 47) #[] #[])), (.int .i64 2, .v (.func (.func 48) #[] #[])), (.int .i64 3, .v (.func (.func 49) #[] #[])), (.int .i64 4, .v (.func (.func 50) #[] #[]))] 0 1 rfl rfl rfl) (allP_cons (ob_insL (.int .i64) (.int .i64 3) (.v (.func (.func 49) #[] #[])) [(.int .i64 1, .v (.func (.func 47) #[] #[])), (.int .i64 2, .v (.func (.func 48) #[] #[]))] [(.int .i64 1, .v (.func (.func 47) #[] #[])), (.int .i64 2, .v (.func (.func 48) #[] #[])), (.int .i64 3, .v (.func (.func 49) #[] #[]))] 0 1 rfl rfl rfl) (allP_cons (ob_insL (.int .i64) (.int .i64 2) (.v (.func (.func 48) #[] #[])) [(.int .i64 1, .v (.func (.func 47) #[] #[]))] [(.int .i64 1, .v (.func (.func 47) #[] #[])), (.int .i64 2, .v (.func (.func 48) #[] #[]))] 0 1 rfl rfl rfl) (allP_cons (ob_insL (.int .i64) (.int .i64 1) (.v (.func (.func 47) #[] #[])) [] [(.int .i64 1, .v (.func (.func 47) #[] #[]))] 0 1 rfl rfl rfl) allP_nil))))) ?_
  refine rf [(0, .mp 0)] [(0, .map [(.int .i64 1, .v (.func (.func 47) #[] #[])), (.int .i64 2, .v (.func (.func 48) #[] #[])), (.int .i64 3, .v (.func (.func 49) #[] #[])), (.int .i64 4, .v (.func (.func 50) #[] #[])), (.int .i64 5, .v (.func (.func 51) #[] #[]))])] 1 (by kernel_rfl) ?_
  refine wk_id ?_
  obtain rfl := Option.some.inj h
  refine ret_at (.mp 0) (by kernel_rfl) ?_
  exact ret_e [(0, 0)] [] (by simp only [push_cast, seval]) (by simp only [push_cast, seval]) rfl rfl rfl

set_option maxRecDepth 100000 in
set_option maxHeartbeats 200000000 in
theorem cell_does_1_spec (cp : Int) (xa : Int) (b : Int) (c0 : (List Int)) (r : Int × (List Int)) (h : cell_does_1 cp xa b c0 = some r) : SpecW Try.prog 47 [.ptr 0 (0 + (cp).toNat * 1), iS xa, iS b] [(0, .row 3 (fl c0))] 1 (fun x h n => x = iS r.1 ∧ h = [(0, .row 3 (fl r.2))] ∧ n = 1) := by
  unfold cell_does_1 at h
  refine spec_of (draw_ok _) Try.func47 rfl (by decide) rfl (by kernel_rfl) ?_
  refine chk_sx h (fun g203 h => ?_)
  have k202 : 0 ≤ cp ∧ cp < ((c0.length : Nat) : Int) := of_decide_eq_true g203
  refine seq_np ?_
  refine reg_f ?_
  refine rs 1 [] [] (by kernel_rfl) allP_nil ?_
  refine rf [(0, .ptr 0 (0 + (cp).toNat * 1))] [(0, .row 3 (fl c0))] 1 (by kernel_rfl) ?_
  refine wk_id ?_
  refine seq_np ?_
  refine reg_f ?_
  refine rs 4 [none, none, some ⟨iS (ix c0 cp), [], 1, [0]⟩] _ (by kernel_rfl) (allP_cons (ob_ld c0 cp 1 0 (0 + (cp).toNat * 1) k202 rfl (by decide) (by first | rfl | omega) (dflS Try.prog 3) (iS (ix c0 cp)) rfl 1 [0]) allP_nil) ?_
  refine rf [(6, iS (ix c0 cp))] [(0, .row 3 (fl c0))] 1 (by kernel_rfl) ?_
  refine wk_id ?_
  obtain rfl := Option.some.inj h
  refine ret_at (iS (ix c0 cp)) (by kernel_rfl) ?_
  exact ret_e [(0, 0)] [] (by simp only [push_cast, seval]) (by simp only [push_cast, seval]) rfl rfl rfl

set_option maxRecDepth 100000 in
set_option maxHeartbeats 200000000 in
theorem cell_does_2_spec (cp : Int) (xa : Int) (b : Int) (c0 : (List Int)) (r : Int × (List Int)) (h : cell_does_2 cp xa b c0 = some r) : SpecW Try.prog 48 [.ptr 0 (0 + (cp).toNat * 1), iS xa, iS b] [(0, .row 3 (fl c0))] 1 (fun x h n => x = iS r.1 ∧ h = [(0, .row 3 (fl r.2))] ∧ n = 1) := by
  unfold cell_does_2 at h
  refine spec_of (draw_ok _) Try.func48 rfl (by decide) rfl (by kernel_rfl) ?_
  refine chk_sx h (fun g212 h => ?_)
  have k211 : 0 ≤ cp ∧ cp < ((c0.length : Nat) : Int) := of_decide_eq_true g212
  refine seq_np ?_
  refine reg_f ?_
  refine rs 1 [] [] (by kernel_rfl) allP_nil ?_
  refine rf [(0, .ptr 0 (0 + (cp).toNat * 1)), (1, iS xa)] [(0, .row 3 (fl c0))] 1 (by kernel_rfl) ?_
  refine wk_id ?_
  refine seq_np ?_
  refine reg_f ?_
  refine rs 4 [none, none, none, some ⟨.any, [(0, .row 3 (fl (c0.set cp.toNat xa)))], 1, [0]⟩] _ (by kernel_rfl) (allP_cons (ob_st (P := Try.prog) c0 cp 1 0 (0 + (cp).toNat * 1) k211 rfl [iS xa] xa (Nat.le_of_ble_eq_true rfl) (by first | rfl | omega) rfl 0 1 3 3 (by kernel_rfl) rfl) allP_nil) ?_
  refine rf [] [(0, .row 3 (fl (c0.set cp.toNat xa)))] 1 (by kernel_rfl) ?_
  refine wk_id ?_
  refine seq_np ?_
  refine reg_f ?_
  refine rs 1 [] [] (by kernel_rfl) allP_nil ?_
  refine rf [(6, iS 0)] [(0, .row 3 (fl (c0.set cp.toNat xa)))] 1 (by kernel_rfl) ?_
  refine wk_id ?_
  obtain rfl := Option.some.inj h
  refine ret_at (iS 0) (by kernel_rfl) ?_
  exact ret_e [(0, 0)] [] (by simp only [push_cast, seval]) (by simp only [push_cast, seval]) rfl rfl rfl

set_option maxRecDepth 100000 in
set_option maxHeartbeats 200000000 in
theorem cell_does_3_spec (cp : Int) (xa : Int) (b : Int) (c0 : (List Int)) (r : Int × (List Int)) (h : cell_does_3 cp xa b c0 = some r) : SpecW Try.prog 49 [.ptr 0 (0 + (cp).toNat * 1), iS xa, iS b] [(0, .row 3 (fl c0))] 1 (fun x h n => x = iS r.1 ∧ h = [(0, .row 3 (fl r.2))] ∧ n = 1) := by
  unfold cell_does_3 at h
  refine spec_of (draw_ok _) Try.func49 rfl (by decide) rfl (by kernel_rfl) ?_
  refine chk_sx h (fun g221 h => ?_)
  have k220 : 0 ≤ cp ∧ cp < ((c0.length : Nat) : Int) := of_decide_eq_true g221
  refine seq_np ?_
  refine reg_f ?_
  refine rs 1 [] [] (by kernel_rfl) allP_nil ?_
  refine rf [(0, .ptr 0 (0 + (cp).toNat * 1)), (1, iS xa)] [(0, .row 3 (fl c0))] 1 (by kernel_rfl) ?_
  refine wk_id ?_
  refine seq_np ?_
  refine reg_f ?_
  refine rs 7 [none, none, some ⟨iS (ix c0 cp), [], 1, [0]⟩, none, none, none, some ⟨.any, [(0, .row 3 (fl (c0.set cp.toNat (IntKind.i64.wrap ((ix c0 cp) + xa)))))], 1, [0]⟩] _ (by kernel_rfl) (allP_cons (ob_st (P := Try.prog) c0 cp 1 0 (0 + (cp).toNat * 1) k220 rfl [iS (IntKind.i64.wrap ((ix c0 cp) + xa))] (IntKind.i64.wrap ((ix c0 cp) + xa)) (Nat.le_of_ble_eq_true rfl) (by first | rfl | omega) rfl 0 1 3 3 (by kernel_rfl) rfl) (allP_cons (ob_ld c0 cp 1 0 (0 + (cp).toNat * 1) k220 rfl (by decide) (by first | rfl | omega) (dflS Try.prog 3) (iS (ix c0 cp)) rfl 1 [0]) allP_nil)) ?_
  refine rf [(0, .ptr 0 (0 + (cp).toNat * 1))] [(0, .row 3 (fl (c0.set cp.toNat (IntKind.i64.wrap ((ix c0 cp) + xa)))))] 1 (by kernel_rfl) ?_
  refine wk_id ?_
  refine seq_np ?_
  refine reg_f ?_
  refine rs 4 [none, none, some ⟨iS (ix (c0.set cp.toNat (IntKind.i64.wrap ((ix c0 cp) + xa))) cp), [], 1, [0]⟩] _ (by kernel_rfl) (allP_cons (ob_ld (c0.set cp.toNat (IntKind.i64.wrap ((ix c0 cp) + xa))) cp 1 0 (0 + (cp).toNat * 1) (by rw [List.length_set]; exact k220) rfl (by decide) (by first | rfl | omega) (dflS Try.prog 3) (iS (ix (c0.set cp.toNat (IntKind.i64.wrap ((ix c0 cp) + xa))) cp)) rfl 1 [0]) allP_nil) ?_
  refine rf [(6, iS (ix (c0.set cp.toNat (IntKind.i64.wrap ((ix c0 cp) + xa))) cp))] [(0, .row 3 (fl (c0.set cp.toNat (IntKind.i64.wrap ((ix c0 cp) + xa)))))] 1 (by kernel_rfl) ?_
  refine wk_id ?_
  obtain rfl := Option.some.inj h
  refine ret_at (iS (ix (c0.set cp.toNat (IntKind.i64.wrap ((ix c0 cp) + xa))) cp)) (by kernel_rfl) ?_
  exact ret_e [(0, 0)] [] (by simp only [push_cast, seval]) (by simp only [push_cast, seval]) rfl rfl rfl

set_option maxRecDepth 100000 in
set_option maxHeartbeats 200000000 in
theorem cell_does_4_spec (cp : Int) (xa : Int) (b : Int) (c0 : (List Int)) (r : Int × (List Int)) (h : cell_does_4 cp xa b c0 = some r) : SpecW Try.prog 50 [.ptr 0 (0 + (cp).toNat * 1), iS xa, iS b] [(0, .row 3 (fl c0))] 1 (fun x h n => x = iS r.1 ∧ h = [(0, .row 3 (fl r.2))] ∧ n = 1) := by
  unfold cell_does_4 at h
  refine spec_of (draw_ok _) Try.func50 rfl (by decide) rfl (by kernel_rfl) ?_
  refine chk_sx h (fun g230 h => ?_)
  have k229 : 0 ≤ cp ∧ cp < ((c0.length : Nat) : Int) := of_decide_eq_true g230
  refine seq_np ?_
  refine reg_f ?_
  refine rs 1 [] [] (by kernel_rfl) allP_nil ?_
  refine rf [(0, .ptr 0 (0 + (cp).toNat * 1)), (1, iS xa)] [(0, .row 3 (fl c0))] 1 (by kernel_rfl) ?_
  refine wk_id ?_
  refine seq_np ?_
  refine reg_f ?_
  refine rs 4 [none, none, some ⟨iS (ix c0 cp), [], 1, [0]⟩] _ (by kernel_rfl) (allP_cons (ob_ld c0 cp 1 0 (0 + (cp).toNat * 1) k229 rfl (by decide) (by first | rfl | omega) (dflS Try.prog 3) (iS (ix c0 cp)) rfl 1 [0]) allP_nil) ?_
  refine rf [(0, .ptr 0 (0 + (cp).toNat * 1)), (1, iS xa), (7, iS (ix c0 cp))] [(0, .row 3 (fl c0))] 1 (by kernel_rfl) ?_
  refine wk_id ?_
  refine seq_np ?_
  refine reg_f ?_
  refine rs 4 [none, none, none, some ⟨.any, [(0, .row 3 (fl (c0.set cp.toNat xa)))], 1, [0]⟩] _ (by kernel_rfl) (allP_cons (ob_st (P := Try.prog) c0 cp 1 0 (0 + (cp).toNat * 1) k229 rfl [iS xa] xa (Nat.le_of_ble_eq_true rfl) (by first | rfl | omega) rfl 0 1 3 3 (by kernel_rfl) rfl) allP_nil) ?_
  refine rf [(7, iS (ix c0 cp))] [(0, .row 3 (fl (c0.set cp.toNat xa)))] 1 (by kernel_rfl) ?_
  refine wk_id ?_
  refine seq_np ?_
  refine reg_f ?_
  refine rs 2 [] [] (by kernel_rfl) allP_nil ?_
  refine rf [(6, iS (ix c0 cp))] [(0, .row 3 (fl (c0.set cp.toNat xa)))] 1 (by kernel_rfl) ?_
  refine wk_id ?_
  obtain rfl := Option.some.inj h
  refine ret_at (iS (ix c0 cp)) (by kernel_rfl) ?_
  exact ret_e [(0, 0)] [] (by simp only [push_cast, seval]) (by simp only [push_cast, seval]) rfl rfl rfl

set_option maxRecDepth 100000 in
set_option maxHeartbeats 200000000 in
theorem cell_does_5_spec (cp : Int) (xa : Int) (b : Int) (c0 : (List Int)) (r : Int × (List Int)) (h : cell_does_5 cp xa b c0 = some r) : SpecW Try.prog 51 [.ptr 0 (0 + (cp).toNat * 1), iS xa, iS b] [(0, .row 3 (fl c0))] 1 (fun x h n => x = iS r.1 ∧ h = [(0, .row 3 (fl r.2))] ∧ n = 1) := by
  unfold cell_does_5 at h
  refine spec_of (draw_ok _) Try.func51 rfl (by decide) rfl (by kernel_rfl) ?_
  refine chk_sx h (fun g239 h => ?_)
  have k238 : 0 ≤ cp ∧ cp < ((c0.length : Nat) : Int) := of_decide_eq_true g239
  refine seq_np ?_
  refine reg_f ?_
  refine rs 1 [] [] (by kernel_rfl) allP_nil ?_
  refine rf [(0, .ptr 0 (0 + (cp).toNat * 1)), (1, iS xa), (2, iS b)] [(0, .row 3 (fl c0))] 1 (by kernel_rfl) ?_
  refine wk_id ?_
  refine seq_np ?_
  refine seq_np ?_
  refine reg_f ?_
  refine rs 5 [none, none, some ⟨iS (ix c0 cp), [], 1, [0]⟩] _ (by kernel_rfl) (allP_cons (ob_ld c0 cp 1 0 (0 + (cp).toNat * 1) k238 rfl (by decide) (by first | rfl | omega) (dflS Try.prog 3) (iS (ix c0 cp)) rfl 1 [0]) allP_nil) ?_
  refine rf [(0, .ptr 0 (0 + (cp).toNat * 1)), (2, iS b), (11, bS ((ix c0 cp) != xa))] [(0, .row 3 (fl c0))] 1 (by kernel_rfl) ?_
  refine wk_id ?_
  refine cond_sx h (by kernel_rfl) (fun g242 h => ?_) (fun g242 h => ?_)
  · refine seq_np ?_
    refine reg_f ?_
    refine rs 1 [] [] (by kernel_rfl) allP_nil ?_
    refine rf [(6, iS 0)] [(0, .row 3 (fl c0))] 1 (by kernel_rfl) ?_
    refine wk_id ?_
    obtain rfl := Option.some.inj h
    refine ret_at (iS 0) (by kernel_rfl) ?_
    exact ret_e [(0, 0)] [] (by simp only [push_cast, seval]) (by simp only [push_cast, seval]) rfl rfl rfl
  · refine wk_id ?_
    refine seq_np ?_
    refine reg_f ?_
    refine rs 4 [none, none, none, some ⟨.any, [(0, .row 3 (fl (c0.set cp.toNat b)))], 1, [0]⟩] _ (by kernel_rfl) (allP_cons (ob_st (P := Try.prog) c0 cp 1 0 (0 + (cp).toNat * 1) k238 rfl [iS b] b (Nat.le_of_ble_eq_true rfl) (by first | rfl | omega) rfl 0 1 3 3 (by kernel_rfl) rfl) allP_nil) ?_
    refine rf [] [(0, .row 3 (fl (c0.set cp.toNat b)))] 1 (by kernel_rfl) ?_
    refine wk_id ?_
    refine seq_np ?_
    refine reg_f ?_
    refine rs 1 [] [] (by kernel_rfl) allP_nil ?_
    refine rf [(6, iS 1)] [(0, .row 3 (fl (c0.set cp.toNat b)))] 1 (by kernel_rfl) ?_
    refine wk_id ?_
    obtain rfl := Option.some.inj h
    refine ret_at (iS 1) (by kernel_rfl) ?_
    exact ret_e [(0, 0)] [] (by simp only [push_cast, seval]) (by simp only [push_cast, seval]) rfl rfl rfl

set_option maxRecDepth 100000 in
set_option maxHeartbeats 200000000 in
theorem cell_Do_1_spec (xo : GOp) (c0 : (List Int)) (r : Int × (List Int)) (h : cell_Do_1 xo c0 = some r) : SpecW Try.prog 33 [.own 0 0 c0.length, .agg (Enc.cells xo)] [(0, .row 3 (fl c0))] 1 (fun x h n => x = iS r.1 ∧ h = [(0, .row 3 (fl r.2))] ∧ n = 1) := by
  unfold cell_Do_1 at h
  refine spec_of (draw_ok _) Try.func33 rfl (by decide) rfl (by kernel_rfl) ?_
  refine seq_np ?_
  refine reg_f ?_
  refine rs 2 [] [] (by kernel_rfl) allP_nil ?_
  refine rf [(0, .own 0 0 c0.length), (3, .ptr 1 0)] [(0, .row 3 (fl c0)), (1, .row 50 (Enc.cells xo))] 2 (by kernel_rfl) ?_
  refine wk_id ?_
  refine split_s h (fun g247 h => ?_) (fun g248 h => ?_)
  · refine seq_np ?_
    refine reg_t ?_
    obtain ⟨r254, hr254, h⟩ := bind_sx h
    refine call_x (cell_does_spec r254 hr254) (args := []) (dst := (some 5)) (by kernel_rfl) [(0, .row 3 (fl c0)), (1, .row 50 (Enc.cells xo))] 2 (by kernel_rfl) [] [] (.mp 2) [(2, .map [(.int .i64 1, .v (.func (.func 47) #[] #[])), (.int .i64 2, .v (.func (.func 48) #[] #[])), (.int .i64 3, .v (.func (.func 49) #[] #[])), (.int .i64 4, .v (.func (.func 50) #[] #[])), (.int .i64 5, .v (.func (.func 51) #[] #[]))])] (by simp only [push_cast, seval]) (by simp only [push_cast, seval]) (by kernel_rfl) (.inl rfl) (by simp only [push_cast, seval]) (by simp only [push_cast, seval]) ?_
    refine rs 2 [] [] (by kernel_rfl) allP_nil ?_
    refine run_at 7 .i64 xo.Kind 1 g247 (by kernel_rfl) ?_
    refine chk_sx h (fun g256 h => ?_)
    have k255 : 0 ≤ xo.At ∧ xo.At < ((c0.length : Nat) : Int) := by first | simpa only [Bool.and_eq_true, decide_eq_true_eq, bne_iff_ne, ne_eq] using g256 | (simp at g256 ⊢; omega)
    refine rs 9 [some ⟨.v (.func (.func 47) #[] #[]), [], 6, [2]⟩, none, none, none, some ⟨.ptr 0 (0 + (xo.At).toNat * 1), [], 10, [0]⟩] _ (by kernel_rfl) (allP_cons (ob_ix_o 0 c0.length 0 1 10 xo.At k255) (allP_cons (ob_lookL (.int .i64) (.int .i64 1) (.v (.func (.func 47) #[] #[])) [(.int .i64 1, .v (.func (.func 47) #[] #[])), (.int .i64 2, .v (.func (.func 48) #[] #[])), (.int .i64 3, .v (.func (.func 49) #[] #[])), (.int .i64 4, .v (.func (.func 50) #[] #[])), (.int .i64 5, .v (.func (.func 51) #[] #[]))] 2 6 rfl rfl) allP_nil)) ?_
    obtain ⟨r257, hr257, h⟩ := bind_sx h
    refine call_x (cell_does_1_spec xo.At xo.A xo.B c0 r257 hr257) (args := [.ptr 0 (0 + (xo.At).toNat * 1), iS xo.A, iS xo.B]) (dst := (some 17)) (by kernel_rfl) [(0, .row 3 (fl c0)), (1, .row 50 (Enc.cells xo)), (2, .map [(.int .i64 1, .v (.func (.func 47) #[] #[])), (.int .i64 2, .v (.func (.func 48) #[] #[])), (.int .i64 3, .v (.func (.func 49) #[] #[])), (.int .i64 4, .v (.func (.func 50) #[] #[])), (.int .i64 5, .v (.func (.func 51) #[] #[]))])] 15 (by kernel_rfl) [(0, 0)] [] (iS r257.1) [(0, .row 3 (fl r257.2)), (0, .dead)] (by simp only [push_cast, seval]) (by simp only [push_cast, seval]) (by kernel_rfl) (.inl rfl) (by simp only [push_cast, seval]) (by simp only [push_cast, seval]) ?_
    refine rs 1 [] [] (by kernel_rfl) allP_nil ?_
    refine rt [(4, iS r257.1)] [(0, .row 3 (fl r257.2)), (1, .row 50 (Enc.cells xo)), (2, .map [(.int .i64 1, .v (.func (.func 47) #[] #[])), (.int .i64 2, .v (.func (.func 48) #[] #[])), (.int .i64 3, .v (.func (.func 49) #[] #[])), (.int .i64 4, .v (.func (.func 50) #[] #[])), (.int .i64 5, .v (.func (.func 51) #[] #[]))])] 18 follows (by kernel_rfl) ?_
    refine wk_id ?_
    obtain rfl := Option.some.inj h
    refine ret_at (iS r257.1) (by kernel_rfl) ?_
    exact ret_e [(0, 0)] [] (by simp only [push_cast, seval]) (by simp only [push_cast, seval]) rfl rfl rfl
  refine split_s h (fun g259 h => ?_) (fun g260 h => ?_)
  · refine seq_np ?_
    refine reg_t ?_
    obtain ⟨r266, hr266, h⟩ := bind_sx h
    refine call_x (cell_does_spec r266 hr266) (args := []) (dst := (some 5)) (by kernel_rfl) [(0, .row 3 (fl c0)), (1, .row 50 (Enc.cells xo))] 2 (by kernel_rfl) [] [] (.mp 2) [(2, .map [(.int .i64 1, .v (.func (.func 47) #[] #[])), (.int .i64 2, .v (.func (.func 48) #[] #[])), (.int .i64 3, .v (.func (.func 49) #[] #[])), (.int .i64 4, .v (.func (.func 50) #[] #[])), (.int .i64 5, .v (.func (.func 51) #[] #[]))])] (by simp only [push_cast, seval]) (by simp only [push_cast, seval]) (by kernel_rfl) (.inl rfl) (by simp only [push_cast, seval]) (by simp only [push_cast, seval]) ?_
    refine rs 2 [] [] (by kernel_rfl) allP_nil ?_
    refine run_at 7 .i64 xo.Kind 2 g259 (by kernel_rfl) ?_
    refine chk_sx h (fun g268 h => ?_)
    have k267 : 0 ≤ xo.At ∧ xo.At < ((c0.length : Nat) : Int) := by first | simpa only [Bool.and_eq_true, decide_eq_true_eq, bne_iff_ne, ne_eq] using g268 | (simp at g268 ⊢; omega)
    refine rs 9 [some ⟨.v (.func (.func 48) #[] #[]), [], 6, [2]⟩, none, none, none, some ⟨.ptr 0 (0 + (xo.At).toNat * 1), [], 10, [0]⟩] _ (by kernel_rfl) (allP_cons (ob_ix_o 0 c0.length 0 1 10 xo.At k267) (allP_cons (ob_lookL (.int .i64) (.int .i64 2) (.v (.func (.func 48) #[] #[])) [(.int .i64 1, .v (.func (.func 47) #[] #[])), (.int .i64 2, .v (.func (.func 48) #[] #[])), (.int .i64 3, .v (.func (.func 49) #[] #[])), (.int .i64 4, .v (.func (.func 50) #[] #[])), (.int .i64 5, .v (.func (.func 51) #[] #[]))] 2 6 rfl rfl) allP_nil)) ?_
    obtain ⟨r269, hr269, h⟩ := bind_sx h
    refine call_x (cell_does_2_spec xo.At xo.A xo.B c0 r269 hr269) (args := [.ptr 0 (0 + (xo.At).toNat * 1), iS xo.A, iS xo.B]) (dst := (some 17)) (by kernel_rfl) [(0, .row 3 (fl c0)), (1, .row 50 (Enc.cells xo)), (2, .map [(.int .i64 1, .v (.func (.func 47) #[] #[])), (.int .i64 2, .v (.func (.func 48) #[] #[])), (.int .i64 3, .v (.func (.func 49) #[] #[])), (.int .i64 4, .v (.func (.func 50) #[] #[])), (.int .i64 5, .v (.func (.func 51) #[] #[]))])] 15 (by kernel_rfl) [(0, 0)] [] (iS r269.1) [(0, .row 3 (fl r269.2)), (0, .dead)] (by simp only [push_cast, seval]) (by simp only [push_cast, seval]) (by kernel_rfl) (.inl rfl) (by simp only [push_cast, seval]) (by simp only [push_cast, seval]) ?_
    refine rs 1 [] [] (by kernel_rfl) allP_nil ?_
    refine rt [(4, iS r269.1)] [(0, .row 3 (fl r269.2)), (1, .row 50 (Enc.cells xo)), (2, .map [(.int .i64 1, .v (.func (.func 47) #[] #[])), (.int .i64 2, .v (.func (.func 48) #[] #[])), (.int .i64 3, .v (.func (.func 49) #[] #[])), (.int .i64 4, .v (.func (.func 50) #[] #[])), (.int .i64 5, .v (.func (.func 51) #[] #[]))])] 18 follows (by kernel_rfl) ?_
    refine wk_id ?_
    obtain rfl := Option.some.inj h
    refine ret_at (iS r269.1) (by kernel_rfl) ?_
    exact ret_e [(0, 0)] [] (by simp only [push_cast, seval]) (by simp only [push_cast, seval]) rfl rfl rfl
  refine split_s h (fun g271 h => ?_) (fun g272 h => ?_)
  · refine seq_np ?_
    refine reg_t ?_
    obtain ⟨r278, hr278, h⟩ := bind_sx h
    refine call_x (cell_does_spec r278 hr278) (args := []) (dst := (some 5)) (by kernel_rfl) [(0, .row 3 (fl c0)), (1, .row 50 (Enc.cells xo))] 2 (by kernel_rfl) [] [] (.mp 2) [(2, .map [(.int .i64 1, .v (.func (.func 47) #[] #[])), (.int .i64 2, .v (.func (.func 48) #[] #[])), (.int .i64 3, .v (.func (.func 49) #[] #[])), (.int .i64 4, .v (.func (.func 50) #[] #[])), (.int .i64 5, .v (.func (.func 51) #[] #[]))])] (by simp only [push_cast, seval]) (by simp only [push_cast, seval]) (by kernel_rfl) (.inl rfl) (by simp only [push_cast, seval]) (by simp only [push_cast, seval]) ?_
    refine rs 2 [] [] (by kernel_rfl) allP_nil ?_
    refine run_at 7 .i64 xo.Kind 3 g271 (by kernel_rfl) ?_
    refine chk_sx h (fun g280 h => ?_)
    have k279 : 0 ≤ xo.At ∧ xo.At < ((c0.length : Nat) : Int) := by first | simpa only [Bool.and_eq_true, decide_eq_true_eq, bne_iff_ne, ne_eq] using g280 | (simp at g280 ⊢; omega)
    refine rs 9 [some ⟨.v (.func (.func 49) #[] #[]), [], 6, [2]⟩, none, none, none, some ⟨.ptr 0 (0 + (xo.At).toNat * 1), [], 10, [0]⟩] _ (by kernel_rfl) (allP_cons (ob_ix_o 0 c0.length 0 1 10 xo.At k279) (allP_cons (ob_lookL (.int .i64) (.int .i64 3) (.v (.func (.func 49) #[] #[])) [(.int .i64 1, .v (.func (.func 47) #[] #[])), (.int .i64 2, .v (.func (.func 48) #[] #[])), (.int .i64 3, .v (.func (.func 49) #[] #[])), (.int .i64 4, .v (.func (.func 50) #[] #[])), (.int .i64 5, .v (.func (.func 51) #[] #[]))] 2 6 rfl rfl) allP_nil)) ?_
    obtain ⟨r281, hr281, h⟩ := bind_sx h
    refine call_x (cell_does_3_spec xo.At xo.A xo.B c0 r281 hr281) (args := [.ptr 0 (0 + (xo.At).toNat * 1), iS xo.A, iS xo.B]) (dst := (some 17)) (by kernel_rfl) [(0, .row 3 (fl c0)), (1, .row 50 (Enc.cells xo)), (2, .map [(.int .i64 1, .v (.func (.func 47) #[] #[])), (.int .i64 2, .v (.func (.func 48) #[] #[])), (.int .i64 3, .v (.func (.func 49) #[] #[])), (.int .i64 4, .v (.func (.func 50) #[] #[])), (.int .i64 5, .v (.func (.func 51) #[] #[]))])] 15 (by kernel_rfl) [(0, 0)] [] (iS r281.1) [(0, .row 3 (fl r281.2)), (0, .dead)] (by simp only [push_cast, seval]) (by simp only [push_cast, seval]) (by kernel_rfl) (.inl rfl) (by simp only [push_cast, seval]) (by simp only [push_cast, seval]) ?_
    refine rs 1 [] [] (by kernel_rfl) allP_nil ?_
    refine rt [(4, iS r281.1)] [(0, .row 3 (fl r281.2)), (1, .row 50 (Enc.cells xo)), (2, .map [(.int .i64 1, .v (.func (.func 47) #[] #[])), (.int .i64 2, .v (.func (.func 48) #[] #[])), (.int .i64 3, .v (.func (.func 49) #[] #[])), (.int .i64 4, .v (.func (.func 50) #[] #[])), (.int .i64 5, .v (.func (.func 51) #[] #[]))])] 18 follows (by kernel_rfl) ?_
    refine wk_id ?_
    obtain rfl := Option.some.inj h
    refine ret_at (iS r281.1) (by kernel_rfl) ?_
    exact ret_e [(0, 0)] [] (by simp only [push_cast, seval]) (by simp only [push_cast, seval]) rfl rfl rfl
  refine split_s h (fun g283 h => ?_) (fun g284 h => ?_)
  · refine seq_np ?_
    refine reg_t ?_
    obtain ⟨r290, hr290, h⟩ := bind_sx h
    refine call_x (cell_does_spec r290 hr290) (args := []) (dst := (some 5)) (by kernel_rfl) [(0, .row 3 (fl c0)), (1, .row 50 (Enc.cells xo))] 2 (by kernel_rfl) [] [] (.mp 2) [(2, .map [(.int .i64 1, .v (.func (.func 47) #[] #[])), (.int .i64 2, .v (.func (.func 48) #[] #[])), (.int .i64 3, .v (.func (.func 49) #[] #[])), (.int .i64 4, .v (.func (.func 50) #[] #[])), (.int .i64 5, .v (.func (.func 51) #[] #[]))])] (by simp only [push_cast, seval]) (by simp only [push_cast, seval]) (by kernel_rfl) (.inl rfl) (by simp only [push_cast, seval]) (by simp only [push_cast, seval]) ?_
    refine rs 2 [] [] (by kernel_rfl) allP_nil ?_
    refine run_at 7 .i64 xo.Kind 4 g283 (by kernel_rfl) ?_
    refine chk_sx h (fun g292 h => ?_)
    have k291 : 0 ≤ xo.At ∧ xo.At < ((c0.length : Nat) : Int) := by first | simpa only [Bool.and_eq_true, decide_eq_true_eq, bne_iff_ne, ne_eq] using g292 | (simp at g292 ⊢; omega)
    refine rs 9 [some ⟨.v (.func (.func 50) #[] #[]), [], 6, [2]⟩, none, none, none, some ⟨.ptr 0 (0 + (xo.At).toNat * 1), [], 10, [0]⟩] _ (by kernel_rfl) (allP_cons (ob_ix_o 0 c0.length 0 1 10 xo.At k291) (allP_cons (ob_lookL (.int .i64) (.int .i64 4) (.v (.func (.func 50) #[] #[])) [(.int .i64 1, .v (.func (.func 47) #[] #[])), (.int .i64 2, .v (.func (.func 48) #[] #[])), (.int .i64 3, .v (.func (.func 49) #[] #[])), (.int .i64 4, .v (.func (.func 50) #[] #[])), (.int .i64 5, .v (.func (.func 51) #[] #[]))] 2 6 rfl rfl) allP_nil)) ?_
    obtain ⟨r293, hr293, h⟩ := bind_sx h
    refine call_x (cell_does_4_spec xo.At xo.A xo.B c0 r293 hr293) (args := [.ptr 0 (0 + (xo.At).toNat * 1), iS xo.A, iS xo.B]) (dst := (some 17)) (by kernel_rfl) [(0, .row 3 (fl c0)), (1, .row 50 (Enc.cells xo)), (2, .map [(.int .i64 1, .v (.func (.func 47) #[] #[])), (.int .i64 2, .v (.func (.func 48) #[] #[])), (.int .i64 3, .v (.func (.func 49) #[] #[])), (.int .i64 4, .v (.func (.func 50) #[] #[])), (.int .i64 5, .v (.func (.func 51) #[] #[]))])] 15 (by kernel_rfl) [(0, 0)] [] (iS r293.1) [(0, .row 3 (fl r293.2)), (0, .dead)] (by simp only [push_cast, seval]) (by simp only [push_cast, seval]) (by kernel_rfl) (.inl rfl) (by simp only [push_cast, seval]) (by simp only [push_cast, seval]) ?_
    refine rs 1 [] [] (by kernel_rfl) allP_nil ?_
    refine rt [(4, iS r293.1)] [(0, .row 3 (fl r293.2)), (1, .row 50 (Enc.cells xo)), (2, .map [(.int .i64 1, .v (.func (.func 47) #[] #[])), (.int .i64 2, .v (.func (.func 48) #[] #[])), (.int .i64 3, .v (.func (.func 49) #[] #[])), (.int .i64 4, .v (.func (.func 50) #[] #[])), (.int .i64 5, .v (.func (.func 51) #[] #[]))])] 18 follows (by kernel_rfl) ?_
    refine wk_id ?_
    obtain rfl := Option.some.inj h
    refine ret_at (iS r293.1) (by kernel_rfl) ?_
    exact ret_e [(0, 0)] [] (by simp only [push_cast, seval]) (by simp only [push_cast, seval]) rfl rfl rfl
  refine split_s h (fun g295 h => ?_) (fun g296 h => ?_)
  · refine seq_np ?_
    refine reg_t ?_
    obtain ⟨r302, hr302, h⟩ := bind_sx h
    refine call_x (cell_does_spec r302 hr302) (args := []) (dst := (some 5)) (by kernel_rfl) [(0, .row 3 (fl c0)), (1, .row 50 (Enc.cells xo))] 2 (by kernel_rfl) [] [] (.mp 2) [(2, .map [(.int .i64 1, .v (.func (.func 47) #[] #[])), (.int .i64 2, .v (.func (.func 48) #[] #[])), (.int .i64 3, .v (.func (.func 49) #[] #[])), (.int .i64 4, .v (.func (.func 50) #[] #[])), (.int .i64 5, .v (.func (.func 51) #[] #[]))])] (by simp only [push_cast, seval]) (by simp only [push_cast, seval]) (by kernel_rfl) (.inl rfl) (by simp only [push_cast, seval]) (by simp only [push_cast, seval]) ?_
    refine rs 2 [] [] (by kernel_rfl) allP_nil ?_
    refine run_at 7 .i64 xo.Kind 5 g295 (by kernel_rfl) ?_
    refine chk_sx h (fun g304 h => ?_)
    have k303 : 0 ≤ xo.At ∧ xo.At < ((c0.length : Nat) : Int) := by first | simpa only [Bool.and_eq_true, decide_eq_true_eq, bne_iff_ne, ne_eq] using g304 | (simp at g304 ⊢; omega)
    refine rs 9 [some ⟨.v (.func (.func 51) #[] #[]), [], 6, [2]⟩, none, none, none, some ⟨.ptr 0 (0 + (xo.At).toNat * 1), [], 10, [0]⟩] _ (by kernel_rfl) (allP_cons (ob_ix_o 0 c0.length 0 1 10 xo.At k303) (allP_cons (ob_lookL (.int .i64) (.int .i64 5) (.v (.func (.func 51) #[] #[])) [(.int .i64 1, .v (.func (.func 47) #[] #[])), (.int .i64 2, .v (.func (.func 48) #[] #[])), (.int .i64 3, .v (.func (.func 49) #[] #[])), (.int .i64 4, .v (.func (.func 50) #[] #[])), (.int .i64 5, .v (.func (.func 51) #[] #[]))] 2 6 rfl rfl) allP_nil)) ?_
    obtain ⟨r305, hr305, h⟩ := bind_sx h
    refine call_x (cell_does_5_spec xo.At xo.A xo.B c0 r305 hr305) (args := [.ptr 0 (0 + (xo.At).toNat * 1), iS xo.A, iS xo.B]) (dst := (some 17)) (by kernel_rfl) [(0, .row 3 (fl c0)), (1, .row 50 (Enc.cells xo)), (2, .map [(.int .i64 1, .v (.func (.func 47) #[] #[])), (.int .i64 2, .v (.func (.func 48) #[] #[])), (.int .i64 3, .v (.func (.func 49) #[] #[])), (.int .i64 4, .v (.func (.func 50) #[] #[])), (.int .i64 5, .v (.func (.func 51) #[] #[]))])] 15 (by kernel_rfl) [(0, 0)] [] (iS r305.1) [(0, .row 3 (fl r305.2)), (0, .dead)] (by simp only [push_cast, seval]) (by simp only [push_cast, seval]) (by kernel_rfl) (.inl rfl) (by simp only [push_cast, seval]) (by simp only [push_cast, seval]) ?_
    refine rs 1 [] [] (by kernel_rfl) allP_nil ?_
    refine rt [(4, iS r305.1)] [(0, .row 3 (fl r305.2)), (1, .row 50 (Enc.cells xo)), (2, .map [(.int .i64 1, .v (.func (.func 47) #[] #[])), (.int .i64 2, .v (.func (.func 48) #[] #[])), (.int .i64 3, .v (.func (.func 49) #[] #[])), (.int .i64 4, .v (.func (.func 50) #[] #[])), (.int .i64 5, .v (.func (.func 51) #[] #[]))])] 18 follows (by kernel_rfl) ?_
    refine wk_id ?_
    obtain rfl := Option.some.inj h
    refine ret_at (iS r305.1) (by kernel_rfl) ?_
    exact ret_e [(0, 0)] [] (by simp only [push_cast, seval]) (by simp only [push_cast, seval]) rfl rfl rfl
  refine seq_np ?_
  refine reg_t ?_
  obtain ⟨r308, hr308, h⟩ := bind_sx h
  refine call_x (cell_does_spec r308 hr308) (args := []) (dst := (some 5)) (by kernel_rfl) [(0, .row 3 (fl c0)), (1, .row 50 (Enc.cells xo))] 2 (by kernel_rfl) [] [] (.mp 2) [(2, .map [(.int .i64 1, .v (.func (.func 47) #[] #[])), (.int .i64 2, .v (.func (.func 48) #[] #[])), (.int .i64 3, .v (.func (.func 49) #[] #[])), (.int .i64 4, .v (.func (.func 50) #[] #[])), (.int .i64 5, .v (.func (.func 51) #[] #[]))])] (by simp only [push_cast, seval]) (by simp only [push_cast, seval]) (by kernel_rfl) (.inl rfl) (by simp only [push_cast, seval]) (by simp only [push_cast, seval]) ?_
  cases h

set_option maxRecDepth 100000 in
set_option maxHeartbeats 200000000 in
theorem cell_Run_spec (mem : (List Int)) (ops : (List GOp)) (r : Fault × (List Int) × (List Int)) (h : cell_Run mem ops = some r) : SpecW Try.prog 22 [.sl mem.length (fl mem), .sl ops.length (fl ops)] [] 0 (fun x h n => x = .tup [.own 0 0 r.2.1.length, .own 1 0 r.2.2.length, .agg (Enc.cells r.1)] ∧ h = [(0, .row 3 (fl r.2.1)), (1, .row 3 (fl r.2.2))] ∧ n = 2) := by
  unfold cell_Run at h
  refine spec_of (draw_ok _) Try.func22 rfl (by decide) rfl (by kernel_rfl) ?_
  refine seq_np ?_
  refine reg_f ?_
  refine rs 3 [] [] (by kernel_rfl) allP_nil ?_
  refine rf [(0, .sl mem.length (fl mem)), (1, .sl ops.length (fl ops)), (6, .ptr 0 0)] [(0, .row 28 [iS 0, iS 0])] 1 (by kernel_rfl) ?_
  refine wk_id ?_
  refine seq_np ?_
  refine seq_np ?_
  refine reg_f ?_
  refine rs 2 [] [] (by kernel_rfl) allP_nil ?_
  obtain ⟨r334, hr334, h⟩ := bind_sx h
  refine run_call 21 [.sl mem.length (fl mem), .sl ops.length (fl ops)] (some 14) (by kernel_rfl) ?_
  refine call_0 (cell_Check_spec mem ops r334 hr334) (by simp only [push_cast, seval]) (by simp only [push_cast, seval]) ?_
  refine back_f ?_
  refine rs 2 [] [] (by kernel_rfl) allP_nil ?_
  refine rf [(0, .sl mem.length (fl mem)), (1, .sl ops.length (fl ops)), (6, .ptr 0 0), (7, .ptr 1 0)] [(0, .row 28 [iS 0, iS 0]), (1, .row 28 (Enc.cells r334))] 2 (by kernel_rfl) ?_
  refine wk_id ?_
  refine seq_np ?_
  refine reg_f ?_
  refine rs 3 [] [] (by kernel_rfl) allP_nil ?_
  refine rf [(0, .sl mem.length (fl mem)), (1, .sl ops.length (fl ops)), (6, .ptr 0 0), (7, .ptr 1 0), (17, bS (r334.Code != 0))] [(0, .row 28 [iS 0, iS 0]), (1, .row 28 (Enc.cells r334))] 2 (by kernel_rfl) ?_
  refine wk_id ?_
  refine cond_sx h (by kernel_rfl) (fun g434 h => ?_) (fun g434 h => ?_)
  · refine seq_np ?_
    refine reg_t ?_
    refine rs 4 [] [] (by kernel_rfl) allP_nil ?_
    refine rt [(4, .v (.slice none 0 0)), (5, .v (.slice none 0 0)), (6, .ptr 0 0)] [(0, .row 28 (Enc.cells r334)), (1, .row 28 (Enc.cells r334))] 6 follows (by kernel_rfl) ?_
    refine wk_id ?_
    obtain rfl := Option.some.inj h
    refine ret_at (.tup [.v (.slice none 0 0), .v (.slice none 0 0), .agg (Enc.cells r334)]) (by kernel_rfl) ?_
    exact ret_e [] [] (by simp only [push_cast, seval]) (by simp only [push_cast, seval]) rfl rfl rfl
  · refine wk_id ?_
    refine seq_np ?_
    refine reg_f ?_
    refine rs 1 [] [] (by kernel_rfl) allP_nil ?_
    obtain ⟨r336, hr336, h⟩ := bind_sx h
    refine call_x (slices_Clone_int_spec mem r336 hr336) (args := [.sl mem.length (fl mem)]) (dst := (some 20)) (by kernel_rfl) [(0, .row 28 [iS 0, iS 0]), (1, .row 28 (Enc.cells r334))] 2 (by kernel_rfl) [] [] (.own 2 0 r336.length) [(2, .row 3 (fl r336))] (by simp only [push_cast, seval]) (by simp only [push_cast, seval]) (by kernel_rfl) (.inl rfl) (by simp only [push_cast, seval]) (by simp only [push_cast, seval]) ?_
    refine rs 1 [] [] (by kernel_rfl) allP_nil ?_
    refine rf [(1, .sl ops.length (fl ops)), (6, .ptr 0 0), (8, .own 2 0 r336.length)] [(0, .row 28 [iS 0, iS 0]), (1, .row 28 (Enc.cells r334)), (2, .row 3 (fl r336))] 3 (by kernel_rfl) ?_
    refine wk_id ?_
    refine seq_np ?_
    refine reg_f ?_
    refine rs 1 [] [] (by kernel_rfl) allP_nil ?_
    refine rf [(1, .sl ops.length (fl ops)), (6, .ptr 0 0), (8, .own 2 0 r336.length), (9, .v (.slice none 0 0))] [(0, .row 28 [iS 0, iS 0]), (1, .row 28 (Enc.cells r334)), (2, .row 3 (fl r336))] 3 (by kernel_rfl) ?_
    refine wk_id ?_
    refine seq_np ?_
    refine seq_np ?_
    refine reg_f ?_
    refine rs 3 [] [] (by kernel_rfl) allP_nil ?_
    refine rf [(6, .ptr 0 0), (8, .own 2 0 r336.length), (9, .v (.slice none 0 0)), (21, .sl ops.length (fl ops)), (22, iS ((ops.length : Nat) : Int)), (23, iS 0)] [(0, .row 28 [iS 0, iS 0]), (1, .row 28 (Enc.cells r334)), (2, .row 3 (fl r336))] 3 (by kernel_rfl) ?_
    refine wk_id ?_
    refine block_np ?_
    refine loop_sx (S := Int × (List Int) × (List Int)) (fun a => ([(6, .ptr 0 0), (8, .own 1 0 a.2.1.length), (9, .own 2 0 a.2.2.length), (21, .sl ops.length (fl ops)), (22, iS ((ops.length : Nat) : Int)), (23, iS a.1)], [(0, .row 28 [iS 0, iS 0]), (1, .row 3 (fl a.2.1)), (2, .row 3 (fl a.2.2))], 3)) h (leSt_m [(0, 0), (1, 2)] [] (by simp only [push_cast, seval]) (by simp only [push_cast, seval]) rfl rfl rfl) ?_
    rintro ⟨t23q7, c1q12, c2q7⟩ o2 R2 h hr2 hn2 hx2 ht2
    try dsimp only at h hn2 ⊢
    unfold cell_Run_l1 at h
    try dsimp only at h
    refine seq_np ?_
    refine reg_f ?_
    refine rs 1 [] [] (by kernel_rfl) allP_nil ?_
    refine rf [(6, .ptr 0 0), (8, .own 1 0 c1q12.length), (9, .own 2 0 c2q7.length), (21, .sl ops.length (fl ops)), (22, iS ((ops.length : Nat) : Int)), (23, iS t23q7), (24, bS (decide (t23q7 < ((ops.length : Nat) : Int))))] [(0, .row 28 [iS 0, iS 0]), (1, .row 3 (fl c1q12)), (2, .row 3 (fl c2q7))] 3 (by kernel_rfl) ?_
    refine wk_id ?_
    refine seq_np ?_
    refine cond_sx h (by kernel_rfl) (fun g433 h => ?_) (fun g433 h => ?_)
    · refine wk_id ?_
      refine seq_np ?_
      refine block_np ?_
      refine chk_sx h (fun g422 h => ?_)
      refine seq_np ?_
      refine reg_f ?_
      have k421 : 0 ≤ t23q7 ∧ t23q7 < ((ops.length : Nat) : Int) := by first | simpa only [Bool.and_eq_true, decide_eq_true_eq, bne_iff_ne, ne_eq] using g422 | (simp at g422 ⊢; omega)
      refine rs 4 [some ⟨.iptr (fl ops) ((t23q7).toNat * 4), [], 3, []⟩, some ⟨.agg (Enc.cells (ix ops t23q7)), [], 3, []⟩] _ (by kernel_rfl) (allP_cons (ob_ldw ops t23q7 4 ((t23q7).toNat * 4) k421 rfl (by first | rfl | omega) (Enc.cells (ix ops t23q7)) rfl 3 []) (allP_cons (ob_ix_l ops 4 3 t23q7 k421) allP_nil)) ?_
      refine rf [(6, .ptr 0 0), (8, .own 1 0 c1q12.length), (9, .own 2 0 c2q7.length), (11, .ptr 3 0), (21, .sl ops.length (fl ops)), (22, iS ((ops.length : Nat) : Int)), (23, iS t23q7)] [(0, .row 28 [iS 0, iS 0]), (1, .row 3 (fl c1q12)), (2, .row 3 (fl c2q7)), (3, .row 50 (Enc.cells (ix ops t23q7)))] 4 (by kernel_rfl) ?_
      refine wk_id ?_
      refine reg_f ?_
      refine rs 3 [] [] (by kernel_rfl) allP_nil ?_
      obtain ⟨r428, hr428, h⟩ := bind_sx h
      refine call_x (cell_Do_1_spec (ix ops t23q7) c1q12 r428 hr428) (args := [.own 1 0 c1q12.length, .agg (Enc.cells (ix ops t23q7))]) (dst := (some 30)) (by kernel_rfl) [(0, .row 28 [iS 0, iS 0]), (1, .row 3 (fl c1q12)), (2, .row 3 (fl c2q7)), (3, .row 50 (Enc.cells (ix ops t23q7)))] 4 (by kernel_rfl) [(0, 1)] [] (iS r428.1) [(1, .row 3 (fl r428.2)), (1, .dead)] (by simp only [push_cast, seval]) (by simp only [push_cast, seval]) (by kernel_rfl) (.inl rfl) (by simp only [push_cast, seval]) (by simp only [push_cast, seval]) ?_
      refine chk_sx h (fun g430 h => ?_)
      have e429 : c1q12.length = r428.2.length := (of_decide_eq_true g430).symm
      refine run_eqF 8 (.own 1 0 c1q12.length) (.own 1 0 r428.2.length) (congrArg (fun nq => (.own 1 0 nq : SV)) (show c1q12.length = r428.2.length from e429)) (by kernel_rfl) ?_
      refine chk_sx h (fun g432 h => ?_)
      have k431 : (c2q7 ++ ([r428.1] : List Int)).length * 8 ≤ 140737488355328 := by first | simpa only [Bool.and_eq_true, decide_eq_true_eq, bne_iff_ne, ne_eq] using g432 | (simp at g432 ⊢; omega)
      refine rs 3 [none, some ⟨.own 6 0 (c2q7 ++ ([r428.1] : List Int)).length, [(6, .row 3 (fl (c2q7 ++ ([r428.1] : List Int)))), (2, .dead)], 7, [2, 5]⟩] _ (by kernel_rfl) (allP_cons (ob_app (P := Try.prog) c2q7 ([r428.1] : List Int) 1 8 rfl (appCells (fl ([r428.1] : List Int)) 0 (([r428.1] : List Int).length * 1)) ([r428.1] : List Int).length (app_own ([r428.1] : List Int) 1 rfl) rfl (0 + ([r428.1] : List Int).length * 1 ≤ (fl ([r428.1] : List Int)).length) (app_own_le ([r428.1] : List Int) 1 rfl) 3 (by kernel_rfl) (by decide) k431 2 6 [5]) allP_nil) ?_
      refine rf [(6, .ptr 0 0), (8, .own 1 0 r428.2.length), (9, .own 6 0 (c2q7 ++ ([r428.1] : List Int)).length), (21, .sl ops.length (fl ops)), (22, iS ((ops.length : Nat) : Int)), (23, iS t23q7)] [(0, .row 28 [iS 0, iS 0]), (1, .row 3 (fl r428.2)), (2, .dead), (3, .row 50 (Enc.cells (ix ops t23q7))), (5, .row 3 (fl ([r428.1] : List Int))), (6, .row 3 (fl (c2q7 ++ ([r428.1] : List Int))))] 7 (by kernel_rfl) ?_
      refine wk_id ?_
      refine wk_id ?_
      refine reg_f ?_
      refine rs 2 [] [] (by kernel_rfl) allP_nil ?_
      refine rf [(6, .ptr 0 0), (8, .own 1 0 r428.2.length), (9, .own 6 0 (c2q7 ++ ([r428.1] : List Int)).length), (21, .sl ops.length (fl ops)), (22, iS ((ops.length : Nat) : Int)), (23, iS (IntKind.i64.wrap (t23q7 + 1)))] [(0, .row 28 [iS 0, iS 0]), (1, .row 3 (fl r428.2)), (2, .dead), (3, .row 50 (Enc.cells (ix ops t23q7))), (5, .row 3 (fl ([r428.1] : List Int))), (6, .row 3 (fl (c2q7 ++ ([r428.1] : List Int))))] 7 (by kernel_rfl) ?_
      exact hn2 ((IntKind.i64.wrap (t23q7 + 1)), r428.2, (c2q7 ++ ([r428.1] : List Int))) _ _ _ (Option.some.inj h).symm (leSt_m [(0, 0), (1, 1), (2, 6)] [] (by simp only [push_cast, seval]) (by simp only [push_cast, seval]) rfl rfl rfl)
    · change R2 (.exit 0) _ _ _
      refine ex_cast hx2 (id := 0) ?_
      obtain ⟨r0, h, e0⟩ := map_sx h
      have e1 := hr2 r0 e0.symm
      subst r0
      refine wk_id ?_
      refine wk_id ?_
      refine seq_np ?_
      refine reg_f ?_
      refine rs 6 [] [] (by kernel_rfl) allP_nil ?_
      refine rf [(4, .own 1 0 c1q12.length), (5, .own 2 0 c2q7.length), (6, .ptr 0 0)] [(0, .row 28 [iS 0, iS 0]), (1, .row 3 (fl c1q12)), (2, .row 3 (fl c2q7))] 3 (by kernel_rfl) ?_
      refine wk_id ?_
      obtain rfl := Option.some.inj h
      refine ret_at (.tup [.own 1 0 c1q12.length, .own 2 0 c2q7.length, .agg [iS 0, iS 0]]) (by kernel_rfl) ?_
      exact ret_e [(0, 1), (1, 2)] [] (by simp only [push_cast, seval]) (by simp only [push_cast, seval]) rfl rfl rfl

set_option maxRecDepth 100000 in
set_option maxHeartbeats 200000000 in
theorem taskmillref_F_spec (code : Int) (xat : Int) (r : Fault) (h : taskmillref_F code xat = some r) : SpecW Try.prog 14 [iS code, iS xat] [] 0 (fun x h n => x = .agg (Enc.cells r) ∧ h = [] ∧ n = 0) := by
  unfold taskmillref_F at h
  refine spec_of (draw_ok _) Try.func14 rfl (by decide) rfl (by kernel_rfl) ?_
  refine seq_np ?_
  refine reg_f ?_
  refine rs 1 [] [] (by kernel_rfl) allP_nil ?_
  refine rf [(0, iS code), (1, iS xat), (4, .ptr 0 0)] [(0, .row 28 [iS 0, iS 0])] 1 (by kernel_rfl) ?_
  refine wk_id ?_
  refine seq_np ?_
  refine reg_f ?_
  refine rs 4 [] [] (by kernel_rfl) allP_nil ?_
  refine rf [(4, .ptr 0 0)] [(0, .row 28 [iS code, iS xat])] 1 (by kernel_rfl) ?_
  refine wk_id ?_
  obtain rfl := Option.some.inj h
  refine ret_at (.agg [iS code, iS xat]) (by kernel_rfl) ?_
  exact ret_e [] [] (by simp only [push_cast, seval]) (by simp only [push_cast, seval]) rfl rfl rfl

set_option maxRecDepth 100000 in
set_option maxHeartbeats 200000000 in
theorem taskmillref_OpsFault_spec (mem : (List Int)) (ops : (List GOp)) (r : Fault) (h : taskmillref_OpsFault mem ops = some r) : SpecW Try.prog 23 [.sl mem.length (fl mem), .sl ops.length (fl ops)] [] 0 (fun x h n => x = .agg (Enc.cells r) ∧ h = [] ∧ n = 0) := by
  unfold taskmillref_OpsFault at h
  refine spec_of (draw_ok _) Try.func23 rfl (by decide) rfl (by kernel_rfl) ?_
  refine seq_np ?_
  refine reg_f ?_
  refine rs 1 [] [] (by kernel_rfl) allP_nil ?_
  refine rf [(0, .sl mem.length (fl mem)), (1, .sl ops.length (fl ops)), (4, .ptr 0 0)] [(0, .row 28 [iS 0, iS 0])] 1 (by kernel_rfl) ?_
  refine wk_id ?_
  refine seq_np ?_
  refine seq_cut (A := Unit) (fun _ => ([(0, .sl mem.length (fl mem)), (1, .sl ops.length (fl ops)), (4, .ptr 0 0), (14, bS ((decide ((32 : Int) < ((mem.length : Nat) : Int))) || (decide ((5000 : Int) < ((ops.length : Nat) : Int)))))], [(0, .row 28 [iS 0, iS 0])], 1)) (fun _ => True) (fun K489 hK489 => ?_) (fun _ _ => ?_)
  · refine reg_f ?_
    refine rs 4 [] [] (by kernel_rfl) allP_nil ?_
    refine run_split 10 (decide ((32 : Int) < ((mem.length : Nat) : Int))) (.inl (by kernel_rfl)) (fun g490 => ?_) (fun g490 => ?_)
    · refine rs 4 [] [] (by kernel_rfl) allP_nil ?_
      refine rf [(0, .sl mem.length (fl mem)), (1, .sl ops.length (fl ops)), (4, .ptr 0 0), (14, bS true)] [(0, .row 28 [iS 0, iS 0])] 1 (by kernel_rfl) ?_
      exact hK489 () _ _ _ trivial (leSt_m [(0, 0)] [] (by (try simp only [g490]) <;> simp only [push_cast, seval]) (by (try simp only [g490]) <;> simp only [push_cast, seval]) rfl rfl rfl)
    · refine rs 4 [] [] (by kernel_rfl) allP_nil ?_
      refine rf [(0, .sl mem.length (fl mem)), (1, .sl ops.length (fl ops)), (4, .ptr 0 0), (14, bS (decide ((5000 : Int) < ((ops.length : Nat) : Int))))] [(0, .row 28 [iS 0, iS 0])] 1 (by kernel_rfl) ?_
      exact hK489 () _ _ _ trivial (leSt_m [(0, 0)] [] (by (try simp only [g490]) <;> simp only [push_cast, seval]) (by (try simp only [g490]) <;> simp only [push_cast, seval]) rfl rfl rfl)
  · dsimp only
    refine cond_sx h (by kernel_rfl) (fun g683 h => ?_) (fun g683 h => ?_)
    · refine seq_np ?_
      refine reg_f ?_
      obtain ⟨r492, hr492, h⟩ := bind_sx h
      refine run_call 14 [iS 2, iS 0] (some 15) (by kernel_rfl) ?_
      refine call_0 (taskmillref_F_spec 2 0 r492 hr492) (by simp only [push_cast, seval]) (by simp only [push_cast, seval]) ?_
      refine back_f ?_
      refine rs 1 [] [] (by kernel_rfl) allP_nil ?_
      refine rf [(4, .ptr 0 0)] [(0, .row 28 (Enc.cells r492))] 1 (by kernel_rfl) ?_
      refine wk_id ?_
      obtain rfl := Option.some.inj h
      refine ret_at (.agg (Enc.cells r492)) (by kernel_rfl) ?_
      exact ret_e [] [] (by simp only [push_cast, seval]) (by simp only [push_cast, seval]) rfl rfl rfl
    · refine wk_id ?_
      refine seq_np ?_
      refine seq_np ?_
      refine reg_f ?_
      refine rs 1 [] [] (by kernel_rfl) allP_nil ?_
      refine rf [(0, .sl mem.length (fl mem)), (1, .sl ops.length (fl ops)), (4, .ptr 0 0), (5, iS 0)] [(0, .row 28 [iS 0, iS 0])] 1 (by kernel_rfl) ?_
      refine wk_id ?_
      refine block_np ?_
      refine loop_sx (S := Int) (fun a => ([(0, .sl mem.length (fl mem)), (1, .sl ops.length (fl ops)), (4, .ptr 0 0), (5, iS a)], [(0, .row 28 [iS 0, iS 0])], 1)) h (leSt_m [(0, 0)] [] (by simp only [push_cast, seval]) (by simp only [push_cast, seval]) rfl rfl rfl) ?_
      rintro i7 o2 R2 h hr2 hn2 hx2 ht2
      try dsimp only at h hn2 ⊢
      unfold taskmillref_OpsFault_l1 at h
      try dsimp only at h
      refine seq_np ?_
      refine seq_np ?_
      refine reg_f ?_
      refine rs 4 [] [] (by kernel_rfl) allP_nil ?_
      refine rf [(0, .sl mem.length (fl mem)), (1, .sl ops.length (fl ops)), (4, .ptr 0 0), (5, iS i7), (19, bS (decide (i7 < ((ops.length : Nat) : Int))))] [(0, .row 28 [iS 0, iS 0])] 1 (by kernel_rfl) ?_
      refine wk_id ?_
      refine cond_sx h (by kernel_rfl) (fun g682 h => ?_) (fun g682 h => ?_)
      · refine wk_id ?_
        refine seq_np ?_
        refine block_np ?_
        refine chk_sx h (fun g648 h => ?_)
        refine seq_np ?_
        refine reg_f ?_
        have k647 : 0 ≤ i7 ∧ i7 < ((ops.length : Nat) : Int) := by first | simpa only [Bool.and_eq_true, decide_eq_true_eq, bne_iff_ne, ne_eq] using g648 | (simp at g648 ⊢; omega)
        refine rs 6 [none, none, some ⟨.iptr (fl ops) ((i7).toNat * 4), [], 1, []⟩, some ⟨.agg (Enc.cells (ix ops i7)), [], 1, []⟩] _ (by kernel_rfl) (allP_cons (ob_ldw ops i7 4 ((i7).toNat * 4) k647 rfl (by first | rfl | omega) (Enc.cells (ix ops i7)) rfl 1 []) (allP_cons (ob_ix_l ops 4 1 i7 k647) allP_nil)) ?_
        refine rf [(0, .sl mem.length (fl mem)), (1, .sl ops.length (fl ops)), (4, .ptr 0 0), (5, iS i7), (6, .ptr 1 0)] [(0, .row 28 [iS 0, iS 0]), (1, .row 50 (Enc.cells (ix ops i7)))] 2 (by kernel_rfl) ?_
        refine wk_id ?_
        refine seq_np ?_
        refine seq_cut (A := Unit) (fun _ => ([(0, .sl mem.length (fl mem)), (1, .sl ops.length (fl ops)), (4, .ptr 0 0), (5, iS i7), (6, .ptr 1 0), (33, bS ((decide ((ix ops i7).Kind < 1)) || (decide ((5 : Int) < (ix ops i7).Kind))))], [(0, .row 28 [iS 0, iS 0]), (1, .row 50 (Enc.cells (ix ops i7)))], 2)) (fun _ => True) (fun K653 hK653 => ?_) (fun _ _ => ?_)
        · refine reg_f ?_
          refine rs 4 [] [] (by kernel_rfl) allP_nil ?_
          refine run_split 29 (decide ((ix ops i7).Kind < 1)) (.inl (by kernel_rfl)) (fun g654 => ?_) (fun g654 => ?_)
          · refine rs 4 [] [] (by kernel_rfl) allP_nil ?_
            refine rf [(0, .sl mem.length (fl mem)), (1, .sl ops.length (fl ops)), (4, .ptr 0 0), (5, iS i7), (6, .ptr 1 0), (33, bS true)] [(0, .row 28 [iS 0, iS 0]), (1, .row 50 (Enc.cells (ix ops i7)))] 2 (by kernel_rfl) ?_
            exact hK653 () _ _ _ trivial (leSt_m [(0, 0), (1, 1)] [] (by (try simp only [g654]) <;> simp only [push_cast, seval]) (by (try simp only [g654]) <;> simp only [push_cast, seval]) rfl rfl rfl)
          · refine rs 4 [] [] (by kernel_rfl) allP_nil ?_
            refine rf [(0, .sl mem.length (fl mem)), (1, .sl ops.length (fl ops)), (4, .ptr 0 0), (5, iS i7), (6, .ptr 1 0), (33, bS (decide ((5 : Int) < (ix ops i7).Kind)))] [(0, .row 28 [iS 0, iS 0]), (1, .row 50 (Enc.cells (ix ops i7)))] 2 (by kernel_rfl) ?_
            exact hK653 () _ _ _ trivial (leSt_m [(0, 0), (1, 1)] [] (by (try simp only [g654]) <;> simp only [push_cast, seval]) (by (try simp only [g654]) <;> simp only [push_cast, seval]) rfl rfl rfl)
        · dsimp only
          refine cond_sx h (by kernel_rfl) (fun g681 h => ?_) (fun g681 h => ?_)
          · refine seq_np ?_
            refine reg_f ?_
            refine rs 1 [] [] (by kernel_rfl) allP_nil ?_
            obtain ⟨r656, hr656, h⟩ := bind_sx h
            refine run_call 14 [iS 4, iS i7] (some 35) (by kernel_rfl) ?_
            refine call_0 (taskmillref_F_spec 4 i7 r656 hr656) (by simp only [push_cast, seval]) (by simp only [push_cast, seval]) ?_
            refine back_f ?_
            refine rs 1 [] [] (by kernel_rfl) allP_nil ?_
            refine rf [(4, .ptr 0 0)] [(0, .row 28 (Enc.cells r656)), (1, .row 50 (Enc.cells (ix ops i7)))] 2 (by kernel_rfl) ?_
            refine wk_id ?_
            refine rt_cast ht2 ?_
            obtain ⟨r0, h, e0⟩ := map_sx h
            have e1 := hr2 r0 e0.symm
            subst r0
            obtain rfl := Option.some.inj h
            refine ret_at (.agg (Enc.cells r656)) (by kernel_rfl) ?_
            exact ret_e [] [] (by simp only [push_cast, seval]) (by simp only [push_cast, seval]) rfl rfl rfl
          · refine wk_id ?_
            refine seq_np ?_
            refine seq_cut (A := Unit) (fun _ => ([(0, .sl mem.length (fl mem)), (1, .sl ops.length (fl ops)), (4, .ptr 0 0), (5, iS i7), (6, .ptr 1 0), (53, bS (bif ((ix ops i7).Kind == 1) then (((ix ops i7).A != 0) || (((ix ops i7).Kind != 5) && ((ix ops i7).B != 0))) else (((ix ops i7).Kind != 5) && ((ix ops i7).B != 0))))], [(0, .row 28 [iS 0, iS 0]), (1, .row 50 (Enc.cells (ix ops i7)))], 2)) (fun _ => True) (fun K667 hK667 => ?_) (fun _ _ => ?_)
            · refine reg_f ?_
              refine rs 4 [] [] (by kernel_rfl) allP_nil ?_
              refine run_split 39 ((ix ops i7).Kind == 1) (.inl (by kernel_rfl)) (fun g668 => ?_) (fun g668 => ?_)
              · refine rs 5 [] [] (by kernel_rfl) allP_nil ?_
                refine run_split 44 ((ix ops i7).A != 0) (.inl (by kernel_rfl)) (fun g669 => ?_) (fun g669 => ?_)
                · refine rs 9 [] [] (by kernel_rfl) allP_nil ?_
                  refine rf [(0, .sl mem.length (fl mem)), (1, .sl ops.length (fl ops)), (4, .ptr 0 0), (5, iS i7), (6, .ptr 1 0), (53, bS true)] [(0, .row 28 [iS 0, iS 0]), (1, .row 50 (Enc.cells (ix ops i7)))] 2 (by kernel_rfl) ?_
                  exact hK667 () _ _ _ trivial (leSt_m [(0, 0), (1, 1)] [] (by first | ((try simp only [g668, g669]) <;> simp only [push_cast, seval]; done) | ((try simp only [g668]); (try simp only [g669]); simp only [push_cast, seval]; done) | (exfalso; clear h; simp_all; done)) (by first | ((try simp only [g668, g669]) <;> simp only [push_cast, seval]; done) | ((try simp only [g668]); (try simp only [g669]); simp only [push_cast, seval]; done) | (exfalso; clear h; simp_all; done)) rfl rfl rfl)
                · refine rs 4 [] [] (by kernel_rfl) allP_nil ?_
                  refine run_split 48 ((ix ops i7).Kind != 5) (.inr (by kernel_rfl)) (fun g670 => ?_) (fun g670 => ?_)
                  · refine rn 13 [(0, .sl mem.length (fl mem)), (1, .sl ops.length (fl ops)), (4, .ptr 0 0), (5, iS i7), (6, .ptr 1 0), (44, bS false), (48, .gd true (bS true))] [(0, .row 28 [iS 0, iS 0]), (1, .row 50 (Enc.cells (ix ops i7)))] 2 (by kernel_rfl) ?_
                    refine rs 5 [] [] (by kernel_rfl) allP_nil ?_
                    refine rf [(0, .sl mem.length (fl mem)), (1, .sl ops.length (fl ops)), (4, .ptr 0 0), (5, iS i7), (6, .ptr 1 0), (53, bS ((ix ops i7).B != 0))] [(0, .row 28 [iS 0, iS 0]), (1, .row 50 (Enc.cells (ix ops i7)))] 2 (by kernel_rfl) ?_
                    exact hK667 () _ _ _ trivial (leSt_m [(0, 0), (1, 1)] [] (by first | ((try simp only [g668, g669, g670]) <;> simp only [push_cast, seval]; done) | ((try simp only [g668]); (try simp only [g669]); (try simp only [g670]); simp only [push_cast, seval]; done) | (exfalso; clear h; simp_all; done)) (by first | ((try simp only [g668, g669, g670]) <;> simp only [push_cast, seval]; done) | ((try simp only [g668]); (try simp only [g669]); (try simp only [g670]); simp only [push_cast, seval]; done) | (exfalso; clear h; simp_all; done)) rfl rfl rfl)
                  · refine rn 13 [(0, .sl mem.length (fl mem)), (1, .sl ops.length (fl ops)), (4, .ptr 0 0), (5, iS i7), (6, .ptr 1 0), (44, bS false), (48, .gd true (bS false))] [(0, .row 28 [iS 0, iS 0]), (1, .row 50 (Enc.cells (ix ops i7)))] 2 (by kernel_rfl) ?_
                    refine rs 5 [] [] (by kernel_rfl) allP_nil ?_
                    refine rf [(0, .sl mem.length (fl mem)), (1, .sl ops.length (fl ops)), (4, .ptr 0 0), (5, iS i7), (6, .ptr 1 0), (53, bS false)] [(0, .row 28 [iS 0, iS 0]), (1, .row 50 (Enc.cells (ix ops i7)))] 2 (by kernel_rfl) ?_
                    exact hK667 () _ _ _ trivial (leSt_m [(0, 0), (1, 1)] [] (by first | ((try simp only [g668, g669, g670]) <;> simp only [push_cast, seval]; done) | ((try simp only [g668]); (try simp only [g669]); (try simp only [g670]); simp only [push_cast, seval]; done) | (exfalso; clear h; simp_all; done)) (by first | ((try simp only [g668, g669, g670]) <;> simp only [push_cast, seval]; done) | ((try simp only [g668]); (try simp only [g669]); (try simp only [g670]); simp only [push_cast, seval]; done) | (exfalso; clear h; simp_all; done)) rfl rfl rfl)
              · refine rs 9 [] [] (by kernel_rfl) allP_nil ?_
                refine run_split 48 ((ix ops i7).Kind != 5) (.inr (by kernel_rfl)) (fun g671 => ?_) (fun g671 => ?_)
                · refine rs 5 [] [] (by kernel_rfl) allP_nil ?_
                  refine rf [(0, .sl mem.length (fl mem)), (1, .sl ops.length (fl ops)), (4, .ptr 0 0), (5, iS i7), (6, .ptr 1 0), (53, bS ((ix ops i7).B != 0))] [(0, .row 28 [iS 0, iS 0]), (1, .row 50 (Enc.cells (ix ops i7)))] 2 (by kernel_rfl) ?_
                  exact hK667 () _ _ _ trivial (leSt_m [(0, 0), (1, 1)] [] (by first | ((try simp only [g668, g671]) <;> simp only [push_cast, seval]; done) | ((try simp only [g668]); (try simp only [g671]); simp only [push_cast, seval]; done) | (exfalso; clear h; simp_all; done)) (by first | ((try simp only [g668, g671]) <;> simp only [push_cast, seval]; done) | ((try simp only [g668]); (try simp only [g671]); simp only [push_cast, seval]; done) | (exfalso; clear h; simp_all; done)) rfl rfl rfl)
                · refine rs 5 [] [] (by kernel_rfl) allP_nil ?_
                  refine rf [(0, .sl mem.length (fl mem)), (1, .sl ops.length (fl ops)), (4, .ptr 0 0), (5, iS i7), (6, .ptr 1 0), (53, bS false)] [(0, .row 28 [iS 0, iS 0]), (1, .row 50 (Enc.cells (ix ops i7)))] 2 (by kernel_rfl) ?_
                  exact hK667 () _ _ _ trivial (leSt_m [(0, 0), (1, 1)] [] (by first | ((try simp only [g668, g671]) <;> simp only [push_cast, seval]; done) | ((try simp only [g668]); (try simp only [g671]); simp only [push_cast, seval]; done) | (exfalso; clear h; simp_all; done)) (by first | ((try simp only [g668, g671]) <;> simp only [push_cast, seval]; done) | ((try simp only [g668]); (try simp only [g671]); simp only [push_cast, seval]; done) | (exfalso; clear h; simp_all; done)) rfl rfl rfl)
            · dsimp only
              refine cond_sx h (by kernel_rfl) (fun g680 h => ?_) (fun g680 h => ?_)
              · refine seq_np ?_
                refine reg_f ?_
                refine rs 1 [] [] (by kernel_rfl) allP_nil ?_
                obtain ⟨r673, hr673, h⟩ := bind_sx h
                refine run_call 14 [iS 5, iS i7] (some 55) (by kernel_rfl) ?_
                refine call_0 (taskmillref_F_spec 5 i7 r673 hr673) (by simp only [push_cast, seval]) (by simp only [push_cast, seval]) ?_
                refine back_f ?_
                refine rs 1 [] [] (by kernel_rfl) allP_nil ?_
                refine rf [(4, .ptr 0 0)] [(0, .row 28 (Enc.cells r673)), (1, .row 50 (Enc.cells (ix ops i7)))] 2 (by kernel_rfl) ?_
                refine wk_id ?_
                refine rt_cast ht2 ?_
                obtain ⟨r0, h, e0⟩ := map_sx h
                have e1 := hr2 r0 e0.symm
                subst r0
                obtain rfl := Option.some.inj h
                refine ret_at (.agg (Enc.cells r673)) (by kernel_rfl) ?_
                exact ret_e [] [] (by simp only [push_cast, seval]) (by simp only [push_cast, seval]) rfl rfl rfl
              · refine wk_id ?_
                refine seq_cut (A := Unit) (fun _ => ([(0, .sl mem.length (fl mem)), (1, .sl ops.length (fl ops)), (4, .ptr 0 0), (5, iS i7), (65, bS ((decide ((ix ops i7).At < 0)) || (decide (((mem.length : Nat) : Int) ≤ (ix ops i7).At))))], [(0, .row 28 [iS 0, iS 0]), (1, .row 50 (Enc.cells (ix ops i7)))], 2)) (fun _ => True) (fun K675 hK675 => ?_) (fun _ _ => ?_)
                · refine reg_f ?_
                  refine rs 4 [] [] (by kernel_rfl) allP_nil ?_
                  refine run_split 59 (decide ((ix ops i7).At < 0)) (.inl (by kernel_rfl)) (fun g676 => ?_) (fun g676 => ?_)
                  · refine rs 6 [] [] (by kernel_rfl) allP_nil ?_
                    refine rf [(0, .sl mem.length (fl mem)), (1, .sl ops.length (fl ops)), (4, .ptr 0 0), (5, iS i7), (65, bS true)] [(0, .row 28 [iS 0, iS 0]), (1, .row 50 (Enc.cells (ix ops i7)))] 2 (by kernel_rfl) ?_
                    exact hK675 () _ _ _ trivial (leSt_m [(0, 0), (1, 1)] [] (by (try simp only [g676]) <;> simp only [push_cast, seval]) (by (try simp only [g676]) <;> simp only [push_cast, seval]) rfl rfl rfl)
                  · refine rs 6 [] [] (by kernel_rfl) allP_nil ?_
                    refine rf [(0, .sl mem.length (fl mem)), (1, .sl ops.length (fl ops)), (4, .ptr 0 0), (5, iS i7), (65, bS (decide (((mem.length : Nat) : Int) ≤ (ix ops i7).At)))] [(0, .row 28 [iS 0, iS 0]), (1, .row 50 (Enc.cells (ix ops i7)))] 2 (by kernel_rfl) ?_
                    exact hK675 () _ _ _ trivial (leSt_m [(0, 0), (1, 1)] [] (by (try simp only [g676]) <;> simp only [push_cast, seval]) (by (try simp only [g676]) <;> simp only [push_cast, seval]) rfl rfl rfl)
                · dsimp only
                  refine cond_sx h (by kernel_rfl) (fun g679 h => ?_) (fun g679 h => ?_)
                  · refine seq_np ?_
                    refine reg_f ?_
                    refine rs 1 [] [] (by kernel_rfl) allP_nil ?_
                    obtain ⟨r678, hr678, h⟩ := bind_sx h
                    refine run_call 14 [iS 3, iS i7] (some 67) (by kernel_rfl) ?_
                    refine call_0 (taskmillref_F_spec 3 i7 r678 hr678) (by simp only [push_cast, seval]) (by simp only [push_cast, seval]) ?_
                    refine back_f ?_
                    refine rs 1 [] [] (by kernel_rfl) allP_nil ?_
                    refine rf [(4, .ptr 0 0)] [(0, .row 28 (Enc.cells r678)), (1, .row 50 (Enc.cells (ix ops i7)))] 2 (by kernel_rfl) ?_
                    refine wk_id ?_
                    refine rt_cast ht2 ?_
                    obtain ⟨r0, h, e0⟩ := map_sx h
                    have e1 := hr2 r0 e0.symm
                    subst r0
                    obtain rfl := Option.some.inj h
                    refine ret_at (.agg (Enc.cells r678)) (by kernel_rfl) ?_
                    exact ret_e [] [] (by simp only [push_cast, seval]) (by simp only [push_cast, seval]) rfl rfl rfl
                  · refine wk_id ?_
                    refine wk_id ?_
                    refine reg_f ?_
                    refine rs 3 [] [] (by kernel_rfl) allP_nil ?_
                    refine rf [(0, .sl mem.length (fl mem)), (1, .sl ops.length (fl ops)), (4, .ptr 0 0), (5, iS (IntKind.i64.wrap (i7 + 1)))] [(0, .row 28 [iS 0, iS 0]), (1, .row 50 (Enc.cells (ix ops i7)))] 2 (by kernel_rfl) ?_
                    exact hn2 ((IntKind.i64.wrap (i7 + 1))) _ _ _ (Option.some.inj h).symm (leSt_m [(0, 0)] [] (by simp only [push_cast, seval]) (by simp only [push_cast, seval]) rfl rfl rfl)
      · change R2 (.exit 0) _ _ _
        refine ex_cast hx2 (id := 0) ?_
        obtain ⟨r0, h, e0⟩ := map_sx h
        have e1 := hr2 r0 e0.symm
        subst r0
        refine wk_id ?_
        refine wk_id ?_
        refine seq_np ?_
        refine reg_f ?_
        refine rs 2 [] [] (by kernel_rfl) allP_nil ?_
        refine rf [(4, .ptr 0 0)] [(0, .row 28 [iS 0, iS 0])] 1 (by kernel_rfl) ?_
        refine wk_id ?_
        obtain rfl := Option.some.inj h
        refine ret_at (.agg [iS 0, iS 0]) (by kernel_rfl) ?_
        exact ret_e [] [] (by simp only [push_cast, seval]) (by simp only [push_cast, seval]) rfl rfl rfl

set_option maxRecDepth 100000 in
set_option maxHeartbeats 200000000 in
theorem taskmilllaw_cellBegun_spec (r : Bool) (h : taskmilllaw_cellBegun = some r) : SpecW Try.prog 10 [] [] 0 (fun x h n => x = bS r ∧ h = [] ∧ n = 0) := by
  unfold taskmilllaw_cellBegun at h
  obtain rfl := Option.some.inj h
  exact closed_call follows 10000 1000 (by kernel_rfl)

set_option maxRecDepth 100000 in
set_option maxHeartbeats 200000000 in
theorem taskmillref_Ints_spec (xa : (List Int)) (b : (List Int)) (r : Bool) (h : taskmillref_Ints xa b = some r) : SpecW Try.prog 24 [.sl xa.length (fl xa), .sl b.length (fl b)] [] 0 (fun x h n => x = bS r ∧ h = [] ∧ n = 0) := by
  unfold taskmillref_Ints at h
  refine spec_of (draw_ok _) Try.func24 rfl (by decide) rfl (by kernel_rfl) ?_
  refine seq_np ?_
  refine reg_f ?_
  refine rs 1 [] [] (by kernel_rfl) allP_nil ?_
  refine rf [(0, .sl xa.length (fl xa)), (1, .sl b.length (fl b))] [] 0 (by kernel_rfl) ?_
  refine wk_id ?_
  refine seq_np ?_
  refine seq_np ?_
  refine reg_f ?_
  refine rs 5 [] [] (by kernel_rfl) allP_nil ?_
  refine rf [(0, .sl xa.length (fl xa)), (1, .sl b.length (fl b)), (10, bS (((xa.length : Nat) : Int) != ((b.length : Nat) : Int)))] [] 0 (by kernel_rfl) ?_
  refine wk_id ?_
  refine cond_sx h (by kernel_rfl) (fun g782 h => ?_) (fun g782 h => ?_)
  · refine seq_np ?_
    refine reg_f ?_
    refine rs 1 [] [] (by kernel_rfl) allP_nil ?_
    refine rf [(4, bS false)] [] 0 (by kernel_rfl) ?_
    refine wk_id ?_
    obtain rfl := Option.some.inj h
    refine ret_at (bS false) (by kernel_rfl) ?_
    exact ret_e [] [] (by simp only [push_cast, seval]) (by simp only [push_cast, seval]) rfl rfl rfl
  · refine wk_id ?_
    refine seq_np ?_
    refine seq_np ?_
    refine reg_f ?_
    refine rs 1 [] [] (by kernel_rfl) allP_nil ?_
    refine rf [(0, .sl xa.length (fl xa)), (1, .sl b.length (fl b)), (5, iS 0)] [] 0 (by kernel_rfl) ?_
    refine wk_id ?_
    refine block_np ?_
    refine loop_sx (S := Int) (fun a => ([(0, .sl xa.length (fl xa)), (1, .sl b.length (fl b)), (5, iS a)], [], 0)) h (leSt_m [] [] (by simp only [push_cast, seval]) (by simp only [push_cast, seval]) rfl rfl rfl) ?_
    rintro i7 o2 R2 h hr2 hn2 hx2 ht2
    try dsimp only at h hn2 ⊢
    unfold taskmillref_Ints_l1 at h
    try dsimp only at h
    refine seq_np ?_
    refine seq_np ?_
    refine reg_f ?_
    refine rs 4 [] [] (by kernel_rfl) allP_nil ?_
    refine rf [(0, .sl xa.length (fl xa)), (1, .sl b.length (fl b)), (5, iS i7), (14, bS (decide (i7 < ((xa.length : Nat) : Int))))] [] 0 (by kernel_rfl) ?_
    refine wk_id ?_
    refine cond_sx h (by kernel_rfl) (fun g781 h => ?_) (fun g781 h => ?_)
    · refine wk_id ?_
      refine seq_np ?_
      refine block_np ?_
      refine chk_sx h (fun g777 h => ?_)
      refine chk_sx h (fun g779 h => ?_)
      refine seq_np ?_
      refine reg_t ?_
      have k776 : 0 ≤ i7 ∧ i7 < ((xa.length : Nat) : Int) := by first | simpa only [Bool.and_eq_true, decide_eq_true_eq, bne_iff_ne, ne_eq] using g777 | (simp at g777 ⊢; omega)
      have k778 : 0 ≤ i7 ∧ i7 < ((b.length : Nat) : Int) := by first | simpa only [Bool.and_eq_true, decide_eq_true_eq, bne_iff_ne, ne_eq] using g779 | (simp at g779 ⊢; omega)
      refine rs 9 [none, none, some ⟨.iptr (fl xa) ((i7).toNat * 1), [], 2, []⟩, some ⟨iS (ix xa i7), [], 3, []⟩, none, none, some ⟨.iptr (fl b) ((i7).toNat * 1), [], 6, []⟩, some ⟨iS (ix b i7), [], 7, []⟩] _ (by kernel_rfl) (allP_cons (ob_ld b i7 1 0 ((i7).toNat * 1) k778 rfl (by decide) (by first | rfl | omega) (dflS Try.prog 3) (iS (ix b i7)) rfl 7 []) (allP_cons (ob_ix_l b 1 6 i7 k778) (allP_cons (ob_ld xa i7 1 0 ((i7).toNat * 1) k776 rfl (by decide) (by first | rfl | omega) (dflS Try.prog 3) (iS (ix xa i7)) rfl 3 []) (allP_cons (ob_ix_l xa 1 2 i7 k776) allP_nil)))) ?_
      refine rt [(0, .sl xa.length (fl xa)), (1, .sl b.length (fl b)), (5, iS i7), (25, bS ((ix xa i7) != (ix b i7)))] [] 9 follows (by kernel_rfl) ?_
      refine wk_id ?_
      refine cond_sx h (by kernel_rfl) (fun g780 h => ?_) (fun g780 h => ?_)
      · refine seq_np ?_
        refine reg_f ?_
        refine rs 1 [] [] (by kernel_rfl) allP_nil ?_
        refine rf [(4, bS false)] [] 9 (by kernel_rfl) ?_
        refine wk_id ?_
        refine rt_cast ht2 ?_
        obtain ⟨r0, h, e0⟩ := map_sx h
        have e1 := hr2 r0 e0.symm
        subst r0
        obtain rfl := Option.some.inj h
        refine ret_at (bS false) (by kernel_rfl) ?_
        exact ret_e [] [] (by simp only [push_cast, seval]) (by simp only [push_cast, seval]) rfl rfl rfl
      · refine wk_id ?_
        refine wk_id ?_
        refine reg_f ?_
        refine rs 3 [] [] (by kernel_rfl) allP_nil ?_
        refine rf [(0, .sl xa.length (fl xa)), (1, .sl b.length (fl b)), (5, iS (IntKind.i64.wrap (i7 + 1)))] [] 9 (by kernel_rfl) ?_
        exact hn2 ((IntKind.i64.wrap (i7 + 1))) _ _ _ (Option.some.inj h).symm (leSt_m [] [] (by simp only [push_cast, seval]) (by simp only [push_cast, seval]) rfl rfl rfl)
    · change R2 (.exit 0) _ _ _
      refine ex_cast hx2 (id := 0) ?_
      obtain ⟨r0, h, e0⟩ := map_sx h
      have e1 := hr2 r0 e0.symm
      subst r0
      refine wk_id ?_
      refine wk_id ?_
      refine seq_np ?_
      refine reg_f ?_
      refine rs 1 [] [] (by kernel_rfl) allP_nil ?_
      refine rf [(4, bS true)] [] 0 (by kernel_rfl) ?_
      refine wk_id ?_
      obtain rfl := Option.some.inj h
      refine ret_at (bS true) (by kernel_rfl) ?_
      exact ret_e [] [] (by simp only [push_cast, seval]) (by simp only [push_cast, seval]) rfl rfl rfl

set_option maxRecDepth 100000 in
set_option maxHeartbeats 200000000 in
theorem taskmilllaw_sameOps_spec (xa : (List GOp)) (b : (List GOp)) (r : Bool) (h : taskmilllaw_sameOps xa b = some r) : SpecW Try.prog 25 [.sl xa.length (fl xa), .sl b.length (fl b)] [] 0 (fun x h n => x = bS r ∧ h = [] ∧ n = 0) := by
  unfold taskmilllaw_sameOps at h
  refine spec_of (draw_ok _) Try.func25 rfl (by decide) rfl (by kernel_rfl) ?_
  refine seq_np ?_
  refine reg_f ?_
  refine rs 1 [] [] (by kernel_rfl) allP_nil ?_
  refine rf [(0, .sl xa.length (fl xa)), (1, .sl b.length (fl b))] [] 0 (by kernel_rfl) ?_
  refine wk_id ?_
  refine seq_np ?_
  refine seq_np ?_
  refine reg_f ?_
  refine rs 5 [] [] (by kernel_rfl) allP_nil ?_
  refine rf [(0, .sl xa.length (fl xa)), (1, .sl b.length (fl b)), (10, bS (((xa.length : Nat) : Int) != ((b.length : Nat) : Int)))] [] 0 (by kernel_rfl) ?_
  refine wk_id ?_
  refine cond_sx h (by kernel_rfl) (fun g878 h => ?_) (fun g878 h => ?_)
  · refine seq_np ?_
    refine reg_f ?_
    refine rs 1 [] [] (by kernel_rfl) allP_nil ?_
    refine rf [(4, bS false)] [] 0 (by kernel_rfl) ?_
    refine wk_id ?_
    obtain rfl := Option.some.inj h
    refine ret_at (bS false) (by kernel_rfl) ?_
    exact ret_e [] [] (by simp only [push_cast, seval]) (by simp only [push_cast, seval]) rfl rfl rfl
  · refine wk_id ?_
    refine seq_np ?_
    refine seq_np ?_
    refine reg_f ?_
    refine rs 1 [] [] (by kernel_rfl) allP_nil ?_
    refine rf [(0, .sl xa.length (fl xa)), (1, .sl b.length (fl b)), (5, iS 0)] [] 0 (by kernel_rfl) ?_
    refine wk_id ?_
    refine block_np ?_
    refine loop_sx (S := Int) (fun a => ([(0, .sl xa.length (fl xa)), (1, .sl b.length (fl b)), (5, iS a)], [], 0)) h (leSt_m [] [] (by simp only [push_cast, seval]) (by simp only [push_cast, seval]) rfl rfl rfl) ?_
    rintro i7 o2 R2 h hr2 hn2 hx2 ht2
    try dsimp only at h hn2 ⊢
    unfold taskmilllaw_sameOps_l1 at h
    try dsimp only at h
    refine seq_np ?_
    refine seq_np ?_
    refine reg_f ?_
    refine rs 4 [] [] (by kernel_rfl) allP_nil ?_
    refine rf [(0, .sl xa.length (fl xa)), (1, .sl b.length (fl b)), (5, iS i7), (14, bS (decide (i7 < ((xa.length : Nat) : Int))))] [] 0 (by kernel_rfl) ?_
    refine wk_id ?_
    refine cond_sx h (by kernel_rfl) (fun g877 h => ?_) (fun g877 h => ?_)
    · refine wk_id ?_
      refine seq_np ?_
      refine block_np ?_
      refine chk_sx h (fun g873 h => ?_)
      refine chk_sx h (fun g875 h => ?_)
      refine seq_np ?_
      refine reg_t ?_
      have k872 : 0 ≤ i7 ∧ i7 < ((xa.length : Nat) : Int) := by first | simpa only [Bool.and_eq_true, decide_eq_true_eq, bne_iff_ne, ne_eq] using g873 | (simp at g873 ⊢; omega)
      have k874 : 0 ≤ i7 ∧ i7 < ((b.length : Nat) : Int) := by first | simpa only [Bool.and_eq_true, decide_eq_true_eq, bne_iff_ne, ne_eq] using g875 | (simp at g875 ⊢; omega)
      refine rs 9 [none, none, some ⟨.iptr (fl xa) ((i7).toNat * 4), [], 2, []⟩, some ⟨.agg (Enc.cells (ix xa i7)), [], 3, []⟩, none, none, some ⟨.iptr (fl b) ((i7).toNat * 4), [], 6, []⟩, some ⟨.agg (Enc.cells (ix b i7)), [], 7, []⟩] _ (by kernel_rfl) (allP_cons (ob_ldw b i7 4 ((i7).toNat * 4) k874 rfl (by first | rfl | omega) (Enc.cells (ix b i7)) rfl 7 []) (allP_cons (ob_ix_l b 4 6 i7 k874) (allP_cons (ob_ldw xa i7 4 ((i7).toNat * 4) k872 rfl (by first | rfl | omega) (Enc.cells (ix xa i7)) rfl 3 []) (allP_cons (ob_ix_l xa 4 2 i7 k872) allP_nil)))) ?_
      refine rt [(0, .sl xa.length (fl xa)), (1, .sl b.length (fl b)), (5, iS i7), (25, bS (!(((ix xa i7).Kind == (ix b i7).Kind) && (((ix xa i7).At == (ix b i7).At) && (((ix xa i7).A == (ix b i7).A) && (((ix xa i7).B == (ix b i7).B) && true))))))] [] 9 follows (by kernel_rfl) ?_
      refine wk_id ?_
      refine cond_sx h (by kernel_rfl) (fun g876 h => ?_) (fun g876 h => ?_)
      · refine seq_np ?_
        refine reg_f ?_
        refine rs 1 [] [] (by kernel_rfl) allP_nil ?_
        refine rf [(4, bS false)] [] 9 (by kernel_rfl) ?_
        refine wk_id ?_
        refine rt_cast ht2 ?_
        obtain ⟨r0, h, e0⟩ := map_sx h
        have e1 := hr2 r0 e0.symm
        subst r0
        obtain rfl := Option.some.inj h
        refine ret_at (bS false) (by kernel_rfl) ?_
        exact ret_e [] [] (by simp only [push_cast, seval]) (by simp only [push_cast, seval]) rfl rfl rfl
      · refine wk_id ?_
        refine wk_id ?_
        refine reg_f ?_
        refine rs 3 [] [] (by kernel_rfl) allP_nil ?_
        refine rf [(0, .sl xa.length (fl xa)), (1, .sl b.length (fl b)), (5, iS (IntKind.i64.wrap (i7 + 1)))] [] 9 (by kernel_rfl) ?_
        exact hn2 ((IntKind.i64.wrap (i7 + 1))) _ _ _ (Option.some.inj h).symm (leSt_m [] [] (by simp only [push_cast, seval]) (by simp only [push_cast, seval]) rfl rfl rfl)
    · change R2 (.exit 0) _ _ _
      refine ex_cast hx2 (id := 0) ?_
      obtain ⟨r0, h, e0⟩ := map_sx h
      have e1 := hr2 r0 e0.symm
      subst r0
      refine wk_id ?_
      refine wk_id ?_
      refine seq_np ?_
      refine reg_f ?_
      refine rs 1 [] [] (by kernel_rfl) allP_nil ?_
      refine rf [(4, bS true)] [] 0 (by kernel_rfl) ?_
      refine wk_id ?_
      obtain rfl := Option.some.inj h
      refine ret_at (bS true) (by kernel_rfl) ?_
      exact ret_e [] [] (by simp only [push_cast, seval]) (by simp only [push_cast, seval]) rfl rfl rfl

set_option maxRecDepth 100000 in
set_option maxHeartbeats 200000000 in
theorem taskmillref_Done_spec (c : Int) (xo : GOp) (r : Int × Int) (h : taskmillref_Done c xo = some r) : SpecW Try.prog 40 [iS c, .agg (Enc.cells xo)] [] 0 (fun x h n => x = .tup [iS r.1, iS r.2] ∧ h = [] ∧ n = 0) := by
  unfold taskmillref_Done at h
  refine spec_of (draw_ok _) Try.func40 rfl (by decide) rfl (by kernel_rfl) ?_
  refine seq_np ?_
  refine reg_f ?_
  refine rs 3 [] [] (by kernel_rfl) allP_nil ?_
  refine rf [(0, iS c), (3, .ptr 0 0)] [(0, .row 50 (Enc.cells xo))] 1 (by kernel_rfl) ?_
  refine wk_id ?_
  refine seq_np ?_
  refine seq_np ?_
  refine reg_f ?_
  refine rs 2 [] [] (by kernel_rfl) allP_nil ?_
  refine rf [(0, iS c), (3, .ptr 0 0), (7, iS xo.Kind)] [(0, .row 50 (Enc.cells xo))] 1 (by kernel_rfl) ?_
  refine wk_id ?_
  refine block_np ?_
  refine seq_np ?_
  refine reg_f ?_
  refine rs 2 [] [] (by kernel_rfl) allP_nil ?_
  refine rf [(0, iS c), (3, .ptr 0 0), (7, iS xo.Kind), (8, bS (xo.Kind == 1))] [(0, .row 50 (Enc.cells xo))] 1 (by kernel_rfl) ?_
  refine wk_id ?_
  refine cond_sx h (by kernel_rfl) (fun g912 h => ?_) (fun g912 h => ?_)
  · refine seq_np ?_
    refine reg_f ?_
    refine rs 4 [] [] (by kernel_rfl) allP_nil ?_
    refine rf [(4, iS c), (5, iS c)] [(0, .row 50 (Enc.cells xo))] 1 (by kernel_rfl) ?_
    refine wk_id ?_
    obtain rfl := Option.some.inj h
    refine ret_at (.tup [iS c, iS c]) (by kernel_rfl) ?_
    exact ret_e [] [] (by simp only [push_cast, seval]) (by simp only [push_cast, seval]) rfl rfl rfl
  · refine seq_np ?_
    refine reg_f ?_
    refine rs 2 [] [] (by kernel_rfl) allP_nil ?_
    refine rf [(0, iS c), (3, .ptr 0 0), (7, iS xo.Kind), (12, bS (xo.Kind == 2))] [(0, .row 50 (Enc.cells xo))] 1 (by kernel_rfl) ?_
    refine wk_id ?_
    refine cond_sx h (by kernel_rfl) (fun g911 h => ?_) (fun g911 h => ?_)
    · refine seq_np ?_
      refine reg_f ?_
      refine rs 4 [] [] (by kernel_rfl) allP_nil ?_
      refine rf [(4, iS xo.A), (5, iS 0)] [(0, .row 50 (Enc.cells xo))] 1 (by kernel_rfl) ?_
      refine wk_id ?_
      obtain rfl := Option.some.inj h
      refine ret_at (.tup [iS xo.A, iS 0]) (by kernel_rfl) ?_
      exact ret_e [] [] (by simp only [push_cast, seval]) (by simp only [push_cast, seval]) rfl rfl rfl
    · refine seq_np ?_
      refine reg_f ?_
      refine rs 2 [] [] (by kernel_rfl) allP_nil ?_
      refine rf [(0, iS c), (3, .ptr 0 0), (7, iS xo.Kind), (16, bS (xo.Kind == 3))] [(0, .row 50 (Enc.cells xo))] 1 (by kernel_rfl) ?_
      refine wk_id ?_
      refine cond_sx h (by kernel_rfl) (fun g910 h => ?_) (fun g910 h => ?_)
      · refine seq_np ?_
        refine reg_t ?_
        refine rs 10 [] [] (by kernel_rfl) allP_nil ?_
        refine rt [(4, iS (IntKind.i64.wrap (c + xo.A))), (5, iS (IntKind.i64.wrap (c + xo.A)))] [(0, .row 50 (Enc.cells xo))] 11 follows (by kernel_rfl) ?_
        refine wk_id ?_
        obtain rfl := Option.some.inj h
        refine ret_at (.tup [iS (IntKind.i64.wrap (c + xo.A)), iS (IntKind.i64.wrap (c + xo.A))]) (by kernel_rfl) ?_
        exact ret_e [] [] (by simp only [push_cast, seval]) (by simp only [push_cast, seval]) rfl rfl rfl
      · refine seq_np ?_
        refine reg_f ?_
        refine rs 2 [] [] (by kernel_rfl) allP_nil ?_
        refine rf [(0, iS c), (3, .ptr 0 0), (26, bS (xo.Kind == 4))] [(0, .row 50 (Enc.cells xo))] 1 (by kernel_rfl) ?_
        refine wk_id ?_
        refine cond_sx h (by kernel_rfl) (fun g909 h => ?_) (fun g909 h => ?_)
        · refine seq_np ?_
          refine reg_f ?_
          refine rs 5 [] [] (by kernel_rfl) allP_nil ?_
          refine rf [(4, iS xo.A), (5, iS c)] [(0, .row 50 (Enc.cells xo))] 1 (by kernel_rfl) ?_
          refine wk_id ?_
          obtain rfl := Option.some.inj h
          refine ret_at (.tup [iS xo.A, iS c]) (by kernel_rfl) ?_
          exact ret_e [] [] (by simp only [push_cast, seval]) (by simp only [push_cast, seval]) rfl rfl rfl
        · refine wk_id ?_
          refine wk_id ?_
          refine seq_np ?_
          refine seq_np ?_
          refine reg_f ?_
          refine rs 4 [] [] (by kernel_rfl) allP_nil ?_
          refine rf [(0, iS c), (3, .ptr 0 0), (34, bS (c == xo.A))] [(0, .row 50 (Enc.cells xo))] 1 (by kernel_rfl) ?_
          refine wk_id ?_
          refine cond_sx h (by kernel_rfl) (fun g908 h => ?_) (fun g908 h => ?_)
          · refine seq_np ?_
            refine reg_f ?_
            refine rs 4 [] [] (by kernel_rfl) allP_nil ?_
            refine rf [(4, iS xo.B), (5, iS 1)] [(0, .row 50 (Enc.cells xo))] 1 (by kernel_rfl) ?_
            refine wk_id ?_
            obtain rfl := Option.some.inj h
            refine ret_at (.tup [iS xo.B, iS 1]) (by kernel_rfl) ?_
            exact ret_e [] [] (by simp only [push_cast, seval]) (by simp only [push_cast, seval]) rfl rfl rfl
          · refine wk_id ?_
            refine seq_np ?_
            refine reg_f ?_
            refine rs 3 [] [] (by kernel_rfl) allP_nil ?_
            refine rf [(4, iS c), (5, iS 0)] [(0, .row 50 (Enc.cells xo))] 1 (by kernel_rfl) ?_
            refine wk_id ?_
            obtain rfl := Option.some.inj h
            refine ret_at (.tup [iS c, iS 0]) (by kernel_rfl) ?_
            exact ret_e [] [] (by simp only [push_cast, seval]) (by simp only [push_cast, seval]) rfl rfl rfl

set_option maxRecDepth 100000 in
set_option maxHeartbeats 200000000 in
theorem taskmillref_Ran_spec (mem : (List Int)) (ops : (List GOp)) (r : (List Int) × (List Int)) (h : taskmillref_Ran mem ops = some r) : SpecW Try.prog 26 [.sl mem.length (fl mem), .sl ops.length (fl ops)] [] 0 (fun x h n => x = .tup [.own 0 0 r.1.length, .own 1 0 r.2.length] ∧ h = [(0, .row 3 (fl r.1)), (1, .row 3 (fl r.2))] ∧ n = 2) := by
  unfold taskmillref_Ran at h
  refine spec_of (draw_ok _) Try.func26 rfl (by decide) rfl (by kernel_rfl) ?_
  refine seq_np ?_
  refine reg_f ?_
  refine rs 2 [] [] (by kernel_rfl) allP_nil ?_
  refine rf [(0, .sl mem.length (fl mem)), (1, .sl ops.length (fl ops))] [] 0 (by kernel_rfl) ?_
  refine wk_id ?_
  refine chk_sx h (fun g952 h => ?_)
  refine seq_np ?_
  refine reg_f ?_
  have k951 : mem.length * 8 ≤ 140737488355328 := by first | simpa only [Bool.and_eq_true, decide_eq_true_eq, bne_iff_ne, ne_eq] using g952 | (simp at g952 ⊢; omega)
  refine rs 3 [none, some ⟨.own 0 0 mem.length, [(0, .row 3 (fl mem))], 1, []⟩] _ (by kernel_rfl) (allP_cons (ob_app0 (P := Try.prog) mem 1 8 rfl (fl mem) mem.length rfl rfl ((fl mem).length = mem.length * 1) (app_sl mem 1 rfl) 3 (by kernel_rfl) (by decide) k951 0 []) allP_nil) ?_
  refine rf [(1, .sl ops.length (fl ops)), (6, .own 0 0 mem.length)] [(0, .row 3 (fl mem))] 1 (by kernel_rfl) ?_
  refine wk_id ?_
  refine seq_np ?_
  refine reg_f ?_
  refine rs 1 [] [] (by kernel_rfl) allP_nil ?_
  refine rf [(1, .sl ops.length (fl ops)), (6, .own 0 0 mem.length), (7, .v (.slice none 0 0))] [(0, .row 3 (fl mem))] 1 (by kernel_rfl) ?_
  refine wk_id ?_
  refine seq_np ?_
  refine seq_np ?_
  refine reg_f ?_
  refine rs 1 [] [] (by kernel_rfl) allP_nil ?_
  refine rf [(1, .sl ops.length (fl ops)), (6, .own 0 0 mem.length), (7, .v (.slice none 0 0)), (8, iS 0)] [(0, .row 3 (fl mem))] 1 (by kernel_rfl) ?_
  refine wk_id ?_
  refine block_np ?_
  refine loop_sx (S := Int × (List Int) × (List Int)) (fun a => ([(1, .sl ops.length (fl ops)), (6, .own 0 0 a.2.1.length), (7, .own 1 0 a.2.2.length), (8, iS a.1)], [(0, .row 3 (fl a.2.1)), (1, .row 3 (fl a.2.2))], 2)) h (leSt_m [(0, 0)] [] (by simp only [push_cast, seval]) (by simp only [push_cast, seval]) rfl rfl rfl) ?_
  rintro ⟨i7, c0q8, c1q8⟩ o2 R2 h hr2 hn2 hx2 ht2
  try dsimp only at h hn2 ⊢
  unfold taskmillref_Ran_l1 at h
  try dsimp only at h
  refine seq_np ?_
  refine seq_np ?_
  refine reg_f ?_
  refine rs 4 [] [] (by kernel_rfl) allP_nil ?_
  refine rf [(1, .sl ops.length (fl ops)), (6, .own 0 0 c0q8.length), (7, .own 1 0 c1q8.length), (8, iS i7), (16, bS (decide (i7 < ((ops.length : Nat) : Int))))] [(0, .row 3 (fl c0q8)), (1, .row 3 (fl c1q8))] 2 (by kernel_rfl) ?_
  refine wk_id ?_
  refine cond_sx h (by kernel_rfl) (fun g1121 h => ?_) (fun g1121 h => ?_)
  · refine wk_id ?_
    refine seq_np ?_
    refine block_np ?_
    refine chk_sx h (fun g1103 h => ?_)
    refine chk_sx h (fun g1105 h => ?_)
    refine chk_sx h (fun g1107 h => ?_)
    refine seq_np ?_
    refine reg_t ?_
    have k1102 : 0 ≤ i7 ∧ i7 < ((ops.length : Nat) : Int) := by first | simpa only [Bool.and_eq_true, decide_eq_true_eq, bne_iff_ne, ne_eq] using g1103 | (simp at g1103 ⊢; omega)
    have k1104 : 0 ≤ (ix ops i7).At ∧ (ix ops i7).At < ((c0q8.length : Nat) : Int) := by first | simpa only [Bool.and_eq_true, decide_eq_true_eq, bne_iff_ne, ne_eq] using g1105 | (simp at g1105 ⊢; omega)
    have k1106 : 0 ≤ i7 ∧ i7 < ((ops.length : Nat) : Int) := by first | simpa only [Bool.and_eq_true, decide_eq_true_eq, bne_iff_ne, ne_eq] using g1107 | (simp at g1107 ⊢; omega)
    refine rs 12 [none, none, none, some ⟨.iptr (fl ops) ((i7).toNat * 4), [], 5, []⟩, none, some ⟨iS (ix ops i7).At, [], 7, []⟩, some ⟨.ptr 0 (0 + ((ix ops i7).At).toNat * 1), [], 8, [0]⟩, some ⟨iS (ix c0q8 (ix ops i7).At), [], 9, [0]⟩, none, none, some ⟨.iptr (fl ops) ((i7).toNat * 4), [], 12, []⟩, some ⟨.agg (Enc.cells (ix ops i7)), [], 13, []⟩] _ (by kernel_rfl) (allP_cons (ob_ldw ops i7 4 ((i7).toNat * 4) k1106 rfl (by first | rfl | omega) (Enc.cells (ix ops i7)) rfl 13 []) (allP_cons (ob_ix_l ops 4 12 i7 k1106) (allP_cons (ob_ld c0q8 (ix ops i7).At 1 0 (0 + ((ix ops i7).At).toNat * 1) k1104 rfl (by decide) (by first | rfl | omega) (dflS Try.prog 3) (iS (ix c0q8 (ix ops i7).At)) rfl 9 [0]) (allP_cons (ob_ix_o 0 c0q8.length 0 1 8 (ix ops i7).At k1104) (allP_cons (ob_ld ops i7 4 1 (((i7).toNat * 4) + 1) k1102 rfl (by decide) (by first | rfl | omega) (dflS Try.prog 3) (iS (ix ops i7).At) rfl 7 []) (allP_cons (ob_ix_l ops 4 5 i7 k1102) allP_nil)))))) ?_
    obtain ⟨r1108, hr1108, h⟩ := bind_sx h
    refine run_call 40 [iS (ix c0q8 (ix ops i7).At), .agg (Enc.cells (ix ops i7))] (some 32) (by kernel_rfl) ?_
    refine callE_0 (taskmillref_Done_spec (ix c0q8 (ix ops i7).At) (ix ops i7) r1108 hr1108) (by simp only [push_cast, seval]) (by simp only [push_cast, seval]) ?_
    refine back_t ?_
    refine rs 5 [] [] (by kernel_rfl) allP_nil ?_
    refine rt [(1, .sl ops.length (fl ops)), (6, .own 0 0 c0q8.length), (7, .own 1 0 c1q8.length), (8, iS i7), (9, iS r1108.1), (10, iS r1108.2)] [(0, .row 3 (fl c0q8)), (1, .row 3 (fl c1q8))] 20 follows (by kernel_rfl) ?_
    refine wk_id ?_
    refine chk_sx h (fun g1114 h => ?_)
    refine chk_sx h (fun g1116 h => ?_)
    refine seq_np ?_
    refine reg_f ?_
    have k1113 : 0 ≤ i7 ∧ i7 < ((ops.length : Nat) : Int) := by first | simpa only [Bool.and_eq_true, decide_eq_true_eq, bne_iff_ne, ne_eq] using g1114 | (simp at g1114 ⊢; omega)
    have k1115 : 0 ≤ (ix ops i7).At ∧ (ix ops i7).At < ((c0q8.length : Nat) : Int) := by first | simpa only [Bool.and_eq_true, decide_eq_true_eq, bne_iff_ne, ne_eq] using g1116 | (simp at g1116 ⊢; omega)
    refine rs 9 [none, none, none, some ⟨.iptr (fl ops) ((i7).toNat * 4), [], 20, []⟩, none, some ⟨iS (ix ops i7).At, [], 20, []⟩, none, some ⟨.ptr 0 (0 + ((ix ops i7).At).toNat * 1), [], 20, [0]⟩, some ⟨.any, [(0, .row 3 (fl (c0q8.set (ix ops i7).At.toNat r1108.1)))], 20, [0]⟩] _ (by kernel_rfl) (allP_cons (ob_st (P := Try.prog) c0q8 (ix ops i7).At 1 0 (0 + ((ix ops i7).At).toNat * 1) k1115 rfl [iS r1108.1] r1108.1 (Nat.le_of_ble_eq_true rfl) (by first | rfl | omega) rfl 0 20 3 3 (by kernel_rfl) rfl) (allP_cons (ob_ix_o 0 c0q8.length 0 1 20 (ix ops i7).At k1115) (allP_cons (ob_ld ops i7 4 1 (((i7).toNat * 4) + 1) k1113 rfl (by decide) (by first | rfl | omega) (dflS Try.prog 3) (iS (ix ops i7).At) rfl 20 []) (allP_cons (ob_ix_l ops 4 20 i7 k1113) allP_nil)))) ?_
    refine run_eqF 6 (.own 0 0 c0q8.length) (.own 0 0 (c0q8.set (ix ops i7).At.toNat r1108.1).length) (congrArg (fun nq => (.own 0 0 nq : SV)) (show c0q8.length = (c0q8.set (ix ops i7).At.toNat r1108.1).length from (List.length_set ..).symm)) (by kernel_rfl) ?_
    refine rf [(1, .sl ops.length (fl ops)), (6, .own 0 0 (c0q8.set (ix ops i7).At.toNat r1108.1).length), (7, .own 1 0 c1q8.length), (8, iS i7), (10, iS r1108.2)] [(0, .row 3 (fl (c0q8.set (ix ops i7).At.toNat r1108.1))), (1, .row 3 (fl c1q8))] 20 (by kernel_rfl) ?_
    refine wk_id ?_
    refine chk_sx h (fun g1120 h => ?_)
    refine reg_f ?_
    have k1119 : (c1q8 ++ ([r1108.2] : List Int)).length * 8 ≤ 140737488355328 := by first | simpa only [Bool.and_eq_true, decide_eq_true_eq, bne_iff_ne, ne_eq] using g1120 | (simp at g1120 ⊢; omega)
    refine rs 5 [none, none, none, some ⟨.own 21 0 (c1q8 ++ ([r1108.2] : List Int)).length, [(21, .row 3 (fl (c1q8 ++ ([r1108.2] : List Int)))), (1, .dead)], 22, [1, 20]⟩] _ (by kernel_rfl) (allP_cons (ob_app (P := Try.prog) c1q8 ([r1108.2] : List Int) 1 8 rfl (appCells (fl ([r1108.2] : List Int)) 0 (([r1108.2] : List Int).length * 1)) ([r1108.2] : List Int).length (app_own ([r1108.2] : List Int) 1 rfl) rfl (0 + ([r1108.2] : List Int).length * 1 ≤ (fl ([r1108.2] : List Int)).length) (app_own_le ([r1108.2] : List Int) 1 rfl) 3 (by kernel_rfl) (by decide) k1119 1 21 [20]) allP_nil) ?_
    refine rf [(1, .sl ops.length (fl ops)), (6, .own 0 0 (c0q8.set (ix ops i7).At.toNat r1108.1).length), (7, .own 21 0 (c1q8 ++ ([r1108.2] : List Int)).length), (8, iS i7)] [(0, .row 3 (fl (c0q8.set (ix ops i7).At.toNat r1108.1))), (1, .dead), (20, .row 3 (fl ([r1108.2] : List Int))), (21, .row 3 (fl (c1q8 ++ ([r1108.2] : List Int))))] 22 (by kernel_rfl) ?_
    refine wk_id ?_
    refine wk_id ?_
    refine reg_f ?_
    refine rs 3 [] [] (by kernel_rfl) allP_nil ?_
    refine rf [(1, .sl ops.length (fl ops)), (6, .own 0 0 (c0q8.set (ix ops i7).At.toNat r1108.1).length), (7, .own 21 0 (c1q8 ++ ([r1108.2] : List Int)).length), (8, iS (IntKind.i64.wrap (i7 + 1)))] [(0, .row 3 (fl (c0q8.set (ix ops i7).At.toNat r1108.1))), (1, .dead), (20, .row 3 (fl ([r1108.2] : List Int))), (21, .row 3 (fl (c1q8 ++ ([r1108.2] : List Int))))] 22 (by kernel_rfl) ?_
    exact hn2 ((IntKind.i64.wrap (i7 + 1)), (c0q8.set (ix ops i7).At.toNat r1108.1), (c1q8 ++ ([r1108.2] : List Int))) _ _ _ (Option.some.inj h).symm (leSt_m [(0, 0), (1, 21)] [] (by simp only [push_cast, seval]) (by simp only [push_cast, seval]) rfl rfl rfl)
  · change R2 (.exit 0) _ _ _
    refine ex_cast hx2 (id := 0) ?_
    obtain ⟨r0, h, e0⟩ := map_sx h
    have e1 := hr2 r0 e0.symm
    subst r0
    refine wk_id ?_
    refine wk_id ?_
    refine seq_np ?_
    refine reg_f ?_
    refine rs 4 [] [] (by kernel_rfl) allP_nil ?_
    refine rf [(4, .own 0 0 c0q8.length), (5, .own 1 0 c1q8.length)] [(0, .row 3 (fl c0q8)), (1, .row 3 (fl c1q8))] 2 (by kernel_rfl) ?_
    refine wk_id ?_
    obtain rfl := Option.some.inj h
    refine ret_at (.tup [.own 0 0 c0q8.length, .own 1 0 c1q8.length]) (by kernel_rfl) ?_
    exact ret_e [(0, 0), (1, 1)] [] (by simp only [push_cast, seval]) (by simp only [push_cast, seval]) rfl rfl rfl

set_option maxRecDepth 100000 in
set_option maxHeartbeats 200000000 in
theorem taskmilllaw_CellRuns_spec (mem : (List Int)) (ops : (List GOp)) (r : Bool) (h : taskmilllaw_CellRuns mem ops = some r) : SpecW Try.prog 4 [.sl mem.length (fl mem), .sl ops.length (fl ops)] [] 0 (fun x h n => x = bS r ∧ h = [] ∧ n = 0) := by
  unfold taskmilllaw_CellRuns at h
  refine spec_of (draw_ok _) Try.func4 rfl (by decide) rfl (by kernel_rfl) ?_
  refine seq_np ?_
  refine reg_f ?_
  refine rs 1 [] [] (by kernel_rfl) allP_nil ?_
  refine rf [(0, .sl mem.length (fl mem)), (1, .sl ops.length (fl ops))] [] 0 (by kernel_rfl) ?_
  refine wk_id ?_
  refine seq_np ?_
  refine reg_f ?_
  refine rs 1 [] [] (by kernel_rfl) allP_nil ?_
  obtain ⟨r1130, hr1130, h⟩ := bind_sx h
  refine call_x (taskmilllaw_own_spec mem r1130 hr1130) (args := [.sl mem.length (fl mem)]) (dst := (some 15)) (by kernel_rfl) [] 0 (by kernel_rfl) [] [] (.own 0 0 r1130.length) [(0, .row 3 (fl r1130))] (by simp only [push_cast, seval]) (by simp only [push_cast, seval]) (by kernel_rfl) (.inl rfl) (by simp only [push_cast, seval]) (by simp only [push_cast, seval]) ?_
  refine rs 1 [] [] (by kernel_rfl) allP_nil ?_
  obtain ⟨r1131, hr1131, h⟩ := bind_sx h
  refine call_x (taskmilllaw_ownOps_spec ops r1131 hr1131) (args := [.sl ops.length (fl ops)]) (dst := (some 17)) (by kernel_rfl) [(0, .row 3 (fl r1130))] 1 (by kernel_rfl) [] [] (.own 1 0 r1131.length) [(1, .row 50 (fl r1131))] (by simp only [push_cast, seval]) (by simp only [push_cast, seval]) (by kernel_rfl) (.inl rfl) (by simp only [push_cast, seval]) (by simp only [push_cast, seval]) ?_
  refine rs 2 [] [] (by kernel_rfl) allP_nil ?_
  refine rf [(0, .sl mem.length (fl mem)), (1, .sl ops.length (fl ops)), (5, .own 0 0 r1130.length), (6, .own 1 0 r1131.length)] [(0, .row 3 (fl r1130)), (1, .row 50 (fl r1131))] 2 (by kernel_rfl) ?_
  refine wk_id ?_
  refine seq_np ?_
  refine reg_f ?_
  refine rs 2 [] [] (by kernel_rfl) allP_nil ?_
  obtain ⟨r1133, hr1133, h⟩ := bind_sx h
  refine call_x (cell_Check_spec r1130 r1131 r1133 hr1133) (args := [.own 0 0 r1130.length, .own 1 0 r1131.length]) (dst := (some 20)) (by kernel_rfl) [(0, .row 3 (fl r1130)), (1, .row 50 (fl r1131))] 2 (by kernel_rfl) [] [0, 1] (.agg (Enc.cells r1133)) [] (by simp only [push_cast, seval]) (by simp only [push_cast, seval]) (by kernel_rfl) (.inr ⟨by simp only [push_cast, seval], by simp only [push_cast, seval]⟩) (by simp only [push_cast, seval]) (by simp only [push_cast, seval]) ?_
  refine rs 2 [] [] (by kernel_rfl) allP_nil ?_
  refine rf [(0, .sl mem.length (fl mem)), (1, .sl ops.length (fl ops)), (5, .own 0 0 r1130.length), (6, .own 1 0 r1131.length), (7, .ptr 2 0)] [(0, .row 3 (fl r1130)), (1, .row 50 (fl r1131)), (2, .row 28 (Enc.cells r1133))] 3 (by kernel_rfl) ?_
  refine wk_id ?_
  refine seq_np ?_
  refine reg_f ?_
  refine rs 2 [] [] (by kernel_rfl) allP_nil ?_
  obtain ⟨r1135, hr1135, h⟩ := bind_sx h
  refine call_x (cell_Run_spec r1130 r1131 r1135 hr1135) (args := [.own 0 0 r1130.length, .own 1 0 r1131.length]) (dst := (some 24)) (by kernel_rfl) [(0, .row 3 (fl r1130)), (1, .row 50 (fl r1131)), (2, .row 28 (Enc.cells r1133))] 3 (by kernel_rfl) [] [0, 1] (.tup [.own 3 0 r1135.2.1.length, .own 4 0 r1135.2.2.length, .agg (Enc.cells r1135.1)]) [(3, .row 3 (fl r1135.2.1)), (4, .row 3 (fl r1135.2.2))] (by simp only [push_cast, seval]) (by simp only [push_cast, seval]) (by kernel_rfl) (.inr ⟨by simp only [push_cast, seval], by simp only [push_cast, seval]⟩) (by simp only [push_cast, seval]) (by simp only [push_cast, seval]) ?_
  refine rs 8 [] [] (by kernel_rfl) allP_nil ?_
  refine rf [(0, .sl mem.length (fl mem)), (1, .sl ops.length (fl ops)), (5, .own 0 0 r1130.length), (6, .own 1 0 r1131.length), (7, .ptr 2 0), (8, .own 3 0 r1135.2.1.length), (9, .own 4 0 r1135.2.2.length), (10, .ptr 5 0)] [(0, .row 3 (fl r1130)), (1, .row 50 (fl r1131)), (2, .row 28 (Enc.cells r1133)), (3, .row 3 (fl r1135.2.1)), (4, .row 3 (fl r1135.2.2)), (5, .row 28 (Enc.cells r1135.1))] 6 (by kernel_rfl) ?_
  refine wk_id ?_
  refine seq_np ?_
  refine reg_f ?_
  refine rs 2 [] [] (by kernel_rfl) allP_nil ?_
  obtain ⟨r1137, hr1137, h⟩ := bind_sx h
  refine run_call 23 [.sl mem.length (fl mem), .sl ops.length (fl ops)] (some 30) (by kernel_rfl) ?_
  refine call_0 (taskmillref_OpsFault_spec mem ops r1137 hr1137) (by simp only [push_cast, seval]) (by simp only [push_cast, seval]) ?_
  refine back_f ?_
  refine rs 2 [] [] (by kernel_rfl) allP_nil ?_
  refine rf [(0, .sl mem.length (fl mem)), (1, .sl ops.length (fl ops)), (5, .own 0 0 r1130.length), (6, .own 1 0 r1131.length), (7, .ptr 2 0), (8, .own 3 0 r1135.2.1.length), (9, .own 4 0 r1135.2.2.length), (10, .ptr 5 0), (11, .ptr 6 0)] [(0, .row 3 (fl r1130)), (1, .row 50 (fl r1131)), (2, .row 28 (Enc.cells r1133)), (3, .row 3 (fl r1135.2.1)), (4, .row 3 (fl r1135.2.2)), (5, .row 28 (Enc.cells r1135.1)), (6, .row 28 (Enc.cells r1137))] 7 (by kernel_rfl) ?_
  refine wk_id ?_
  refine seq_np ?_
  refine seq_cut (A := Bool × (List Int) × (List Int) × Fault) (fun a => ([(0, .sl mem.length (fl mem)), (1, .sl ops.length (fl ops)), (8, .own 0 0 a.2.1.length), (9, .own 1 0 a.2.2.1.length), (11, .ptr 2 0), (54, bS a.1)], [(0, .row 3 (fl a.2.1)), (1, .row 3 (fl a.2.2.1)), (2, .row 28 (Enc.cells a.2.2.2))], 3)) (fun a => (taskmilllaw_CellRuns_j2 mem ops a.1 a.2.1 a.2.2.1 a.2.2.2) = some r) (fun K1156 hK1156 => ?_) ?_
  · refine reg_f ?_
    obtain ⟨r1157, hr1157, h⟩ := bind_sx h
    refine run_call 10 [] (some 31) (by kernel_rfl) ?_
    refine call_0 (taskmilllaw_cellBegun_spec r1157 hr1157) (by simp only [push_cast, seval]) (by simp only [push_cast, seval]) ?_
    refine back_f ?_
    refine rs 2 [] [] (by kernel_rfl) allP_nil ?_
    refine run_br h 33 (.inl (by kernel_rfl)) (fun g1158 h => ?_) (fun g1158 h => ?_)
    · refine rs 21 [] [] (by kernel_rfl) allP_nil ?_
      refine rf [(0, .sl mem.length (fl mem)), (1, .sl ops.length (fl ops)), (8, .own 3 0 r1135.2.1.length), (9, .own 4 0 r1135.2.2.length), (11, .ptr 6 0), (54, bS true)] [(0, .row 3 (fl r1130)), (1, .row 50 (fl r1131)), (2, .row 28 (Enc.cells r1133)), (3, .row 3 (fl r1135.2.1)), (4, .row 3 (fl r1135.2.2)), (5, .row 28 (Enc.cells r1135.1)), (6, .row 28 (Enc.cells r1137))] 7 (by kernel_rfl) ?_
      exact hK1156 (true, r1135.2.1, r1135.2.2, r1137) _ _ _ h (leSt_m [(0, 3), (1, 4), (2, 6)] [] (by (try simp only [g1158]) <;> simp only [push_cast, seval]) (by (try simp only [g1158]) <;> simp only [push_cast, seval]) rfl rfl rfl)
    · refine rs 5 [] [] (by kernel_rfl) allP_nil ?_
      refine run_br h 38 (.inl (by kernel_rfl)) (fun g1159 h => ?_) (fun g1159 h => ?_)
      · refine rn 8 [(0, .sl mem.length (fl mem)), (1, .sl ops.length (fl ops)), (5, .own 0 0 r1130.length), (6, .own 1 0 r1131.length), (8, .own 3 0 r1135.2.1.length), (9, .own 4 0 r1135.2.2.length), (10, .ptr 5 0), (11, .ptr 6 0), (38, bS true)] [(0, .row 3 (fl r1130)), (1, .row 50 (fl r1131)), (2, .row 28 (Enc.cells r1133)), (3, .row 3 (fl r1135.2.1)), (4, .row 3 (fl r1135.2.2)), (5, .row 28 (Enc.cells r1135.1)), (6, .row 28 (Enc.cells r1137))] 7 (by kernel_rfl) ?_
        refine rs 16 [] [] (by kernel_rfl) allP_nil ?_
        refine rf [(0, .sl mem.length (fl mem)), (1, .sl ops.length (fl ops)), (8, .own 3 0 r1135.2.1.length), (9, .own 4 0 r1135.2.2.length), (11, .ptr 6 0), (54, bS true)] [(0, .row 3 (fl r1130)), (1, .row 50 (fl r1131)), (2, .row 28 (Enc.cells r1133)), (3, .row 3 (fl r1135.2.1)), (4, .row 3 (fl r1135.2.2)), (5, .row 28 (Enc.cells r1135.1)), (6, .row 28 (Enc.cells r1137))] 7 (by kernel_rfl) ?_
        exact hK1156 (true, r1135.2.1, r1135.2.2, r1137) _ _ _ h (leSt_m [(0, 3), (1, 4), (2, 6)] [] (by first | ((try simp only [g1158, g1159]) <;> simp only [push_cast, seval]; done) | ((try simp only [g1158]); (try simp only [g1159]); simp only [push_cast, seval]; done) | (exfalso; clear h; simp_all; done)) (by first | ((try simp only [g1158, g1159]) <;> simp only [push_cast, seval]; done) | ((try simp only [g1158]); (try simp only [g1159]); simp only [push_cast, seval]; done) | (exfalso; clear h; simp_all; done)) rfl rfl rfl)
      · refine rn 8 [(0, .sl mem.length (fl mem)), (1, .sl ops.length (fl ops)), (5, .own 0 0 r1130.length), (6, .own 1 0 r1131.length), (8, .own 3 0 r1135.2.1.length), (9, .own 4 0 r1135.2.2.length), (10, .ptr 5 0), (11, .ptr 6 0), (38, bS false)] [(0, .row 3 (fl r1130)), (1, .row 50 (fl r1131)), (2, .row 28 (Enc.cells r1133)), (3, .row 3 (fl r1135.2.1)), (4, .row 3 (fl r1135.2.2)), (5, .row 28 (Enc.cells r1135.1)), (6, .row 28 (Enc.cells r1137))] 7 (by kernel_rfl) ?_
        refine rs 5 [] [] (by kernel_rfl) allP_nil ?_
        refine run_br h 43 (.inl (by kernel_rfl)) (fun g1160 h => ?_) (fun g1160 h => ?_)
        · refine rs 11 [] [] (by kernel_rfl) allP_nil ?_
          refine rf [(0, .sl mem.length (fl mem)), (1, .sl ops.length (fl ops)), (8, .own 3 0 r1135.2.1.length), (9, .own 4 0 r1135.2.2.length), (11, .ptr 6 0), (54, bS true)] [(0, .row 3 (fl r1130)), (1, .row 50 (fl r1131)), (2, .row 28 (Enc.cells r1133)), (3, .row 3 (fl r1135.2.1)), (4, .row 3 (fl r1135.2.2)), (5, .row 28 (Enc.cells r1135.1)), (6, .row 28 (Enc.cells r1137))] 7 (by kernel_rfl) ?_
          exact hK1156 (true, r1135.2.1, r1135.2.2, r1137) _ _ _ h (leSt_m [(0, 3), (1, 4), (2, 6)] [] (by first | ((try simp only [g1158, g1159, g1160]) <;> simp only [push_cast, seval]; done) | ((try simp only [g1158]); (try simp only [g1159]); (try simp only [g1160]); simp only [push_cast, seval]; done) | (exfalso; clear h; simp_all; done)) (by first | ((try simp only [g1158, g1159, g1160]) <;> simp only [push_cast, seval]; done) | ((try simp only [g1158]); (try simp only [g1159]); (try simp only [g1160]); simp only [push_cast, seval]; done) | (exfalso; clear h; simp_all; done)) rfl rfl rfl)
        · refine rs 2 [] [] (by kernel_rfl) allP_nil ?_
          obtain ⟨r1161, hr1161, h⟩ := bind_sx h
          refine call_x (taskmillref_Ints_spec r1130 mem r1161 hr1161) (args := [.own 0 0 r1130.length, .sl mem.length (fl mem)]) (dst := (some 46)) (by kernel_rfl) [(0, .row 3 (fl r1130)), (1, .row 50 (fl r1131)), (2, .row 28 (Enc.cells r1133)), (3, .row 3 (fl r1135.2.1)), (4, .row 3 (fl r1135.2.2)), (5, .row 28 (Enc.cells r1135.1)), (6, .row 28 (Enc.cells r1137))] 7 (by kernel_rfl) [] [0] (bS r1161) [] (by simp only [push_cast, seval]) (by simp only [push_cast, seval]) (by kernel_rfl) (.inr ⟨by simp only [push_cast, seval], by simp only [push_cast, seval]⟩) (by simp only [push_cast, seval]) (by simp only [push_cast, seval]) ?_
          refine rs 3 [] [] (by kernel_rfl) allP_nil ?_
          refine run_br h 49 (.inl (by kernel_rfl)) (fun g1162 h => ?_) (fun g1162 h => ?_)
          · refine rn 19 [(0, .sl mem.length (fl mem)), (1, .sl ops.length (fl ops)), (6, .own 1 0 r1131.length), (8, .own 3 0 r1135.2.1.length), (9, .own 4 0 r1135.2.2.length), (11, .ptr 6 0), (49, bS true)] [(0, .row 3 (fl r1130)), (1, .row 50 (fl r1131)), (2, .row 28 (Enc.cells r1133)), (3, .row 3 (fl r1135.2.1)), (4, .row 3 (fl r1135.2.2)), (5, .row 28 (Enc.cells r1135.1)), (6, .row 28 (Enc.cells r1137))] 7 (by kernel_rfl) ?_
            refine rs 5 [] [] (by kernel_rfl) allP_nil ?_
            refine rf [(0, .sl mem.length (fl mem)), (1, .sl ops.length (fl ops)), (8, .own 3 0 r1135.2.1.length), (9, .own 4 0 r1135.2.2.length), (11, .ptr 6 0), (54, bS true)] [(0, .row 3 (fl r1130)), (1, .row 50 (fl r1131)), (2, .row 28 (Enc.cells r1133)), (3, .row 3 (fl r1135.2.1)), (4, .row 3 (fl r1135.2.2)), (5, .row 28 (Enc.cells r1135.1)), (6, .row 28 (Enc.cells r1137))] 7 (by kernel_rfl) ?_
            exact hK1156 (true, r1135.2.1, r1135.2.2, r1137) _ _ _ h (leSt_m [(0, 3), (1, 4), (2, 6)] [] (by first | ((try simp only [g1158, g1159, g1160, g1162]) <;> simp only [push_cast, seval]; done) | ((try simp only [g1158]); (try simp only [g1159]); (try simp only [g1160]); (try simp only [g1162]); simp only [push_cast, seval]; done) | (exfalso; clear h; simp_all; done)) (by first | ((try simp only [g1158, g1159, g1160, g1162]) <;> simp only [push_cast, seval]; done) | ((try simp only [g1158]); (try simp only [g1159]); (try simp only [g1160]); (try simp only [g1162]); simp only [push_cast, seval]; done) | (exfalso; clear h; simp_all; done)) rfl rfl rfl)
          · refine rn 19 [(0, .sl mem.length (fl mem)), (1, .sl ops.length (fl ops)), (6, .own 1 0 r1131.length), (8, .own 3 0 r1135.2.1.length), (9, .own 4 0 r1135.2.2.length), (11, .ptr 6 0), (49, bS false)] [(0, .row 3 (fl r1130)), (1, .row 50 (fl r1131)), (2, .row 28 (Enc.cells r1133)), (3, .row 3 (fl r1135.2.1)), (4, .row 3 (fl r1135.2.2)), (5, .row 28 (Enc.cells r1135.1)), (6, .row 28 (Enc.cells r1137))] 7 (by kernel_rfl) ?_
            refine rs 2 [] [] (by kernel_rfl) allP_nil ?_
            obtain ⟨r1163, hr1163, h⟩ := bind_sx h
            refine call_x (taskmilllaw_sameOps_spec r1131 ops r1163 hr1163) (args := [.own 1 0 r1131.length, .sl ops.length (fl ops)]) (dst := (some 52)) (by kernel_rfl) [(0, .row 3 (fl r1130)), (1, .row 50 (fl r1131)), (2, .row 28 (Enc.cells r1133)), (3, .row 3 (fl r1135.2.1)), (4, .row 3 (fl r1135.2.2)), (5, .row 28 (Enc.cells r1135.1)), (6, .row 28 (Enc.cells r1137))] 7 (by kernel_rfl) [] [1] (bS r1163) [] (by simp only [push_cast, seval]) (by simp only [push_cast, seval]) (by kernel_rfl) (.inr ⟨by simp only [push_cast, seval], by simp only [push_cast, seval]⟩) (by simp only [push_cast, seval]) (by simp only [push_cast, seval]) ?_
            refine rs 2 [] [] (by kernel_rfl) allP_nil ?_
            refine rf [(0, .sl mem.length (fl mem)), (1, .sl ops.length (fl ops)), (8, .own 3 0 r1135.2.1.length), (9, .own 4 0 r1135.2.2.length), (11, .ptr 6 0), (54, bS (!r1163))] [(0, .row 3 (fl r1130)), (1, .row 50 (fl r1131)), (2, .row 28 (Enc.cells r1133)), (3, .row 3 (fl r1135.2.1)), (4, .row 3 (fl r1135.2.2)), (5, .row 28 (Enc.cells r1135.1)), (6, .row 28 (Enc.cells r1137))] 7 (by kernel_rfl) ?_
            exact hK1156 ((!r1163), r1135.2.1, r1135.2.2, r1137) _ _ _ h (leSt_m [(0, 3), (1, 4), (2, 6)] [] (by first | ((try simp only [g1158, g1159, g1160, g1162]) <;> simp only [push_cast, seval]; done) | ((try simp only [g1158]); (try simp only [g1159]); (try simp only [g1160]); (try simp only [g1162]); simp only [push_cast, seval]; done) | (exfalso; clear h; simp_all; done)) (by first | ((try simp only [g1158, g1159, g1160, g1162]) <;> simp only [push_cast, seval]; done) | ((try simp only [g1158]); (try simp only [g1159]); (try simp only [g1160]); (try simp only [g1162]); simp only [push_cast, seval]; done) | (exfalso; clear h; simp_all; done)) rfl rfl rfl)
  · rintro ⟨t54q2, c0q2, c1q2, c2q2⟩ h
    try dsimp only at h ⊢
    unfold taskmilllaw_CellRuns_j2 at h
    refine cond_sx h (by kernel_rfl) (fun g1180 h => ?_) (fun g1180 h => ?_)
    · refine seq_np ?_
      refine reg_f ?_
      refine rs 1 [] [] (by kernel_rfl) allP_nil ?_
      refine rf [(4, bS false)] [(0, .row 3 (fl c0q2)), (1, .row 3 (fl c1q2)), (2, .row 28 (Enc.cells c2q2))] 3 (by kernel_rfl) ?_
      refine wk_id ?_
      obtain rfl := Option.some.inj h
      refine ret_at (bS false) (by kernel_rfl) ?_
      exact ret_e [] [] (by simp only [push_cast, seval]) (by simp only [push_cast, seval]) rfl rfl rfl
    · refine wk_id ?_
      refine seq_np ?_
      refine seq_np ?_
      refine reg_f ?_
      refine rs 3 [] [] (by kernel_rfl) allP_nil ?_
      refine rf [(0, .sl mem.length (fl mem)), (1, .sl ops.length (fl ops)), (8, .own 0 0 c0q2.length), (9, .own 1 0 c1q2.length), (57, bS (c2q2.Code != 0))] [(0, .row 3 (fl c0q2)), (1, .row 3 (fl c1q2)), (2, .row 28 (Enc.cells c2q2))] 3 (by kernel_rfl) ?_
      refine wk_id ?_
      refine cond_sx h (by kernel_rfl) (fun g1179 h => ?_) (fun g1179 h => ?_)
      · refine seq_cut (A := Unit) (fun _ => ([(4, bS ((((c0q2.length : Nat) : Int) == 0) && (((c1q2.length : Nat) : Int) == 0)))], [(0, .row 3 (fl c0q2)), (1, .row 3 (fl c1q2)), (2, .row 28 (Enc.cells c2q2))], 3)) (fun _ => True) (fun K1167 hK1167 => ?_) (fun _ _ => ?_)
        · refine reg_f ?_
          refine rs 4 [] [] (by kernel_rfl) allP_nil ?_
          refine run_split 61 (((c0q2.length : Nat) : Int) == 0) (.inl (by kernel_rfl)) (fun g1168 => ?_) (fun g1168 => ?_)
          · refine rs 5 [] [] (by kernel_rfl) allP_nil ?_
            refine rf [(4, bS (((c1q2.length : Nat) : Int) == 0))] [(0, .row 3 (fl c0q2)), (1, .row 3 (fl c1q2)), (2, .row 28 (Enc.cells c2q2))] 3 (by kernel_rfl) ?_
            exact hK1167 () _ _ _ trivial (leSt_m [(0, 0), (1, 1), (2, 2)] [] (by (try simp only [g1168]) <;> simp only [push_cast, seval]) (by (try simp only [g1168]) <;> simp only [push_cast, seval]) rfl rfl rfl)
          · refine rs 5 [] [] (by kernel_rfl) allP_nil ?_
            refine rf [(4, bS false)] [(0, .row 3 (fl c0q2)), (1, .row 3 (fl c1q2)), (2, .row 28 (Enc.cells c2q2))] 3 (by kernel_rfl) ?_
            exact hK1167 () _ _ _ trivial (leSt_m [(0, 0), (1, 1), (2, 2)] [] (by (try simp only [g1168]) <;> simp only [push_cast, seval]) (by (try simp only [g1168]) <;> simp only [push_cast, seval]) rfl rfl rfl)
        · dsimp only
          obtain rfl := Option.some.inj h
          refine ret_at (bS ((((c0q2.length : Nat) : Int) == 0) && (((c1q2.length : Nat) : Int) == 0))) (by kernel_rfl) ?_
          exact ret_e [] [] (by simp only [push_cast, seval]) (by simp only [push_cast, seval]) rfl rfl rfl
      · refine wk_id ?_
        refine seq_np ?_
        refine reg_f ?_
        refine rs 2 [] [] (by kernel_rfl) allP_nil ?_
        obtain ⟨r1170, hr1170, h⟩ := bind_sx h
        refine call_x (taskmillref_Ran_spec mem ops r1170 hr1170) (args := [.sl mem.length (fl mem), .sl ops.length (fl ops)]) (dst := (some 69)) (by kernel_rfl) [(0, .row 3 (fl c0q2)), (1, .row 3 (fl c1q2)), (2, .row 28 (Enc.cells c2q2))] 3 (by kernel_rfl) [] [] (.tup [.own 3 0 r1170.1.length, .own 4 0 r1170.2.length]) [(3, .row 3 (fl r1170.1)), (4, .row 3 (fl r1170.2))] (by simp only [push_cast, seval]) (by simp only [push_cast, seval]) (by kernel_rfl) (.inl rfl) (by simp only [push_cast, seval]) (by simp only [push_cast, seval]) ?_
        refine rs 5 [] [] (by kernel_rfl) allP_nil ?_
        refine rf [(8, .own 0 0 c0q2.length), (9, .own 1 0 c1q2.length), (12, .own 3 0 r1170.1.length), (13, .own 4 0 r1170.2.length)] [(0, .row 3 (fl c0q2)), (1, .row 3 (fl c1q2)), (2, .row 28 (Enc.cells c2q2)), (3, .row 3 (fl r1170.1)), (4, .row 3 (fl r1170.2))] 5 (by kernel_rfl) ?_
        refine wk_id ?_
        refine seq_cut (A := Bool) (fun a => ([(4, bS a)], [], 0)) (fun a => (taskmilllaw_CellRuns_j1 a) = some r) (fun K1175 hK1175 => ?_) ?_
        · refine reg_f ?_
          refine rs 2 [] [] (by kernel_rfl) allP_nil ?_
          obtain ⟨r1176, hr1176, h⟩ := bind_sx h
          refine call_x (taskmillref_Ints_spec c0q2 r1170.1 r1176 hr1176) (args := [.own 0 0 c0q2.length, .own 3 0 r1170.1.length]) (dst := (some 74)) (by kernel_rfl) [(0, .row 3 (fl c0q2)), (1, .row 3 (fl c1q2)), (2, .row 28 (Enc.cells c2q2)), (3, .row 3 (fl r1170.1)), (4, .row 3 (fl r1170.2))] 5 (by kernel_rfl) [] [0, 3] (bS r1176) [] (by simp only [push_cast, seval]) (by simp only [push_cast, seval]) (by kernel_rfl) (.inr ⟨by simp only [push_cast, seval], by simp only [push_cast, seval]⟩) (by simp only [push_cast, seval]) (by simp only [push_cast, seval]) ?_
          refine rs 1 [] [] (by kernel_rfl) allP_nil ?_
          refine run_br h 75 (.inl (by kernel_rfl)) (fun g1177 h => ?_) (fun g1177 h => ?_)
          · refine rs 2 [] [] (by kernel_rfl) allP_nil ?_
            obtain ⟨r1178, hr1178, h⟩ := bind_sx h
            refine call_x (taskmillref_Ints_spec c1q2 r1170.2 r1178 hr1178) (args := [.own 1 0 c1q2.length, .own 4 0 r1170.2.length]) (dst := (some 78)) (by kernel_rfl) [(0, .row 3 (fl c0q2)), (1, .row 3 (fl c1q2)), (2, .row 28 (Enc.cells c2q2)), (3, .row 3 (fl r1170.1)), (4, .row 3 (fl r1170.2))] 5 (by kernel_rfl) [] [1, 4] (bS r1178) [] (by simp only [push_cast, seval]) (by simp only [push_cast, seval]) (by kernel_rfl) (.inr ⟨by simp only [push_cast, seval], by simp only [push_cast, seval]⟩) (by simp only [push_cast, seval]) (by simp only [push_cast, seval]) ?_
            refine rs 2 [] [] (by kernel_rfl) allP_nil ?_
            refine rf [(4, bS r1178)] [(0, .row 3 (fl c0q2)), (1, .row 3 (fl c1q2)), (2, .row 28 (Enc.cells c2q2)), (3, .row 3 (fl r1170.1)), (4, .row 3 (fl r1170.2))] 5 (by kernel_rfl) ?_
            exact hK1175 (r1178) _ _ _ h (leSt_m [] [] (by (try simp only [g1177]) <;> simp only [push_cast, seval]) (by (try simp only [g1177]) <;> simp only [push_cast, seval]) rfl rfl rfl)
          · refine rs 5 [] [] (by kernel_rfl) allP_nil ?_
            refine rf [(4, bS false)] [(0, .row 3 (fl c0q2)), (1, .row 3 (fl c1q2)), (2, .row 28 (Enc.cells c2q2)), (3, .row 3 (fl r1170.1)), (4, .row 3 (fl r1170.2))] 5 (by kernel_rfl) ?_
            exact hK1175 (false) _ _ _ h (leSt_m [] [] (by (try simp only [g1177]) <;> simp only [push_cast, seval]) (by (try simp only [g1177]) <;> simp only [push_cast, seval]) rfl rfl rfl)
        · rintro t4q1 h
          try dsimp only at h ⊢
          unfold taskmilllaw_CellRuns_j1 at h
          obtain rfl := Option.some.inj h
          refine ret_at (bS t4q1) (by kernel_rfl) ?_
          exact ret_e [] [] (by simp only [push_cast, seval]) (by simp only [push_cast, seval]) rfl rfl rfl

end Go.Proofs.Ytolmbmgjpcdngaa
