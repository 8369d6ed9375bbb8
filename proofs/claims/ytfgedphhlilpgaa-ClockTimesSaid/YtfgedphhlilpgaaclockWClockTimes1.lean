/-
  What laws of the chapter clock compute, and lemmas on it.
  No conditions.
-/
import Derived.Test.YtfgedphhlilpgaaProg
import Derived.Test.YtfgedphhlilpgaaclockG
set_option linter.unusedSimpArgs false
set_option linter.unusedVariables false
namespace Go.Proofs.Ytfgedphhlilpgaa
open Go Go.Sx
attribute [local irreducible] Wk RunAt
theorem follows : Try.prog.follows .mixedOrders = true := by kernel_rfl
set_option maxRecDepth 100000 in
set_option maxHeartbeats 200000000 in
theorem clock_fault_spec (code : Int) (xat : Int) (r : Fault) (h : clock_fault code xat = some r) : SpecW Try.prog 23 [iS code, iS xat] [] 0 (fun x h n => x = .agg (Enc.cells r) ∧ h = [] ∧ n = 0) := by
  unfold clock_fault at h
  refine spec_of (draw_ok _) Try.func23 rfl (by decide) rfl (by kernel_rfl) ?_
  refine seq_np ?_
  refine reg_f ?_
  refine rs 1 [] [] (by kernel_rfl) allP_nil ?_
  refine rf [(0, iS code), (1, iS xat), (4, .ptr 0 0)] [(0, .row 28 [iS 0, iS 0])] 1 (by kernel_rfl) ?_
  refine wk_id ?_
  refine seq_np ?_
  refine reg_f ?_
  refine rs 4 [] [] (by kernel_rfl) allP_nil ?_
  refine rf [(4, .ptr 0 0)] [(0, .row 28 [iS code, iS xat])] 1 (by kernel_rfl) ?_
  refine wk_id ?_
  obtain rfl := Option.some.inj h
  refine ret_at (.agg [iS code, iS xat]) (by kernel_rfl) ?_
  exact ret_e [] [] (by simp only [push_cast, seval]) (by simp only [push_cast, seval]) rfl rfl rfl

set_option maxRecDepth 100000 in
set_option maxHeartbeats 200000000 in
theorem cmp_isNaN_int_spec (x : Int) (r : Bool) (h : cmp_isNaN_int x = some r) : SpecW Try.prog 39 [iS x] [] 0 (fun x h n => x = bS r ∧ h = [] ∧ n = 0) := by
  unfold cmp_isNaN_int at h
  refine spec_of (draw_ok _) Try.func39 rfl (by decide) rfl (by kernel_rfl) ?_
  refine seq_np ?_
  refine reg_f ?_
  refine rs 1 [] [] (by kernel_rfl) allP_nil ?_
  refine rf [(0, iS x)] [] 0 (by kernel_rfl) ?_
  refine wk_id ?_
  refine seq_np ?_
  refine reg_f ?_
  refine rs 4 [] [] (by kernel_rfl) allP_nil ?_
  refine rf [(2, bS (x != x))] [] 0 (by kernel_rfl) ?_
  refine wk_id ?_
  obtain rfl := Option.some.inj h
  refine ret_at (bS (x != x)) (by kernel_rfl) ?_
  exact ret_e [] [] (by simp only [push_cast, seval]) (by simp only [push_cast, seval]) rfl rfl rfl

set_option maxRecDepth 100000 in
set_option maxHeartbeats 200000000 in
theorem cmp_Compare_int_spec (x : Int) (y : Int) (r : Int) (h : cmp_Compare_int x y = some r) : SpecW Try.prog 36 [iS x, iS y] [] 0 (fun x h n => x = iS r ∧ h = [] ∧ n = 0) := by
  unfold cmp_Compare_int at h
  refine spec_of (draw_ok _) Try.func36 rfl (by decide) rfl (by kernel_rfl) ?_
  refine seq_np ?_
  refine reg_f ?_
  refine rs 1 [] [] (by kernel_rfl) allP_nil ?_
  refine rf [(0, iS x), (1, iS y)] [] 0 (by kernel_rfl) ?_
  refine wk_id ?_
  refine seq_np ?_
  refine reg_f ?_
  refine rs 1 [] [] (by kernel_rfl) allP_nil ?_
  obtain ⟨r41, hr41, h⟩ := bind_sx h
  refine run_call 39 [iS x] (some 8) (by kernel_rfl) ?_
  refine call_0 (cmp_isNaN_int_spec x r41 hr41) (by simp only [push_cast, seval]) (by simp only [push_cast, seval]) ?_
  refine back_f ?_
  refine rs 1 [] [] (by kernel_rfl) allP_nil ?_
  refine rf [(0, iS x), (1, iS y), (5, bS r41)] [] 0 (by kernel_rfl) ?_
  refine wk_id ?_
  refine seq_np ?_
  refine reg_f ?_
  refine rs 1 [] [] (by kernel_rfl) allP_nil ?_
  obtain ⟨r43, hr43, h⟩ := bind_sx h
  refine run_call 39 [iS y] (some 10) (by kernel_rfl) ?_
  refine call_0 (cmp_isNaN_int_spec y r43 hr43) (by simp only [push_cast, seval]) (by simp only [push_cast, seval]) ?_
  refine back_f ?_
  refine rs 1 [] [] (by kernel_rfl) allP_nil ?_
  refine rf [(0, iS x), (1, iS y), (5, bS r41), (6, bS r43)] [] 0 (by kernel_rfl) ?_
  refine wk_id ?_
  refine seq_np ?_
  refine seq_np ?_
  refine reg_f ?_
  refine rs 1 [] [] (by kernel_rfl) allP_nil ?_
  refine rf [(0, iS x), (1, iS y), (6, bS r43), (11, bS r41)] [] 0 (by kernel_rfl) ?_
  refine wk_id ?_
  refine cond_sx h (by kernel_rfl) (fun g54 h => ?_) (fun g54 h => ?_)
  · refine seq_np ?_
    refine seq_np ?_
    refine reg_f ?_
    refine rs 1 [] [] (by kernel_rfl) allP_nil ?_
    refine rf [(12, bS r43)] [] 0 (by kernel_rfl) ?_
    refine wk_id ?_
    refine cond_sx h (by kernel_rfl) (fun g47 h => ?_) (fun g47 h => ?_)
    · refine seq_np ?_
      refine reg_f ?_
      refine rs 1 [] [] (by kernel_rfl) allP_nil ?_
      refine rf [(4, iS 0)] [] 0 (by kernel_rfl) ?_
      refine wk_id ?_
      obtain rfl := Option.some.inj h
      refine ret_at (iS 0) (by kernel_rfl) ?_
      exact ret_e [] [] (by simp only [push_cast, seval]) (by simp only [push_cast, seval]) rfl rfl rfl
    · refine wk_id ?_
      refine seq_np ?_
      refine reg_f ?_
      refine rs 1 [] [] (by kernel_rfl) allP_nil ?_
      refine rf [(4, iS (-1))] [] 0 (by kernel_rfl) ?_
      refine wk_id ?_
      obtain rfl := Option.some.inj h
      refine ret_at (iS (-1)) (by kernel_rfl) ?_
      exact ret_e [] [] (by simp only [push_cast, seval]) (by simp only [push_cast, seval]) rfl rfl rfl
  · refine wk_id ?_
    refine seq_np ?_
    refine seq_np ?_
    refine reg_f ?_
    refine rs 1 [] [] (by kernel_rfl) allP_nil ?_
    refine rf [(0, iS x), (1, iS y), (13, bS r43)] [] 0 (by kernel_rfl) ?_
    refine wk_id ?_
    refine cond_sx h (by kernel_rfl) (fun g53 h => ?_) (fun g53 h => ?_)
    · refine seq_np ?_
      refine reg_f ?_
      refine rs 1 [] [] (by kernel_rfl) allP_nil ?_
      refine rf [(4, iS 1)] [] 0 (by kernel_rfl) ?_
      refine wk_id ?_
      obtain rfl := Option.some.inj h
      refine ret_at (iS 1) (by kernel_rfl) ?_
      exact ret_e [] [] (by simp only [push_cast, seval]) (by simp only [push_cast, seval]) rfl rfl rfl
    · refine wk_id ?_
      refine seq_np ?_
      refine seq_np ?_
      refine reg_f ?_
      refine rs 3 [] [] (by kernel_rfl) allP_nil ?_
      refine rf [(0, iS x), (1, iS y), (16, bS (decide (x < y)))] [] 0 (by kernel_rfl) ?_
      refine wk_id ?_
      refine cond_sx h (by kernel_rfl) (fun g52 h => ?_) (fun g52 h => ?_)
      · refine seq_np ?_
        refine reg_f ?_
        refine rs 1 [] [] (by kernel_rfl) allP_nil ?_
        refine rf [(4, iS (-1))] [] 0 (by kernel_rfl) ?_
        refine wk_id ?_
        obtain rfl := Option.some.inj h
        refine ret_at (iS (-1)) (by kernel_rfl) ?_
        exact ret_e [] [] (by simp only [push_cast, seval]) (by simp only [push_cast, seval]) rfl rfl rfl
      · refine wk_id ?_
        refine seq_np ?_
        refine seq_np ?_
        refine reg_f ?_
        refine rs 3 [] [] (by kernel_rfl) allP_nil ?_
        refine rf [(19, bS (decide (y < x)))] [] 0 (by kernel_rfl) ?_
        refine wk_id ?_
        refine cond_sx h (by kernel_rfl) (fun g51 h => ?_) (fun g51 h => ?_)
        · refine seq_np ?_
          refine reg_f ?_
          refine rs 1 [] [] (by kernel_rfl) allP_nil ?_
          refine rf [(4, iS 1)] [] 0 (by kernel_rfl) ?_
          refine wk_id ?_
          obtain rfl := Option.some.inj h
          refine ret_at (iS 1) (by kernel_rfl) ?_
          exact ret_e [] [] (by simp only [push_cast, seval]) (by simp only [push_cast, seval]) rfl rfl rfl
        · refine wk_id ?_
          refine seq_np ?_
          refine reg_f ?_
          refine rs 1 [] [] (by kernel_rfl) allP_nil ?_
          refine rf [(4, iS 0)] [] 0 (by kernel_rfl) ?_
          refine wk_id ?_
          obtain rfl := Option.some.inj h
          refine ret_at (iS 0) (by kernel_rfl) ?_
          exact ret_e [] [] (by simp only [push_cast, seval]) (by simp only [push_cast, seval]) rfl rfl rfl

set_option maxRecDepth 100000 in
set_option maxHeartbeats 200000000 in
theorem cmp_Or_int_spec (vals : (List Int)) (r : Int) (h : cmp_Or_int vals = some r) : SpecW Try.prog 35 [.sl vals.length (fl vals)] [] 0 (fun x h n => x = iS r ∧ h = [] ∧ n = 0) := by
  unfold cmp_Or_int at h
  refine spec_of (draw_ok _) Try.func35 rfl (by decide) rfl (by kernel_rfl) ?_
  refine seq_np ?_
  refine reg_f ?_
  refine rs 1 [] [] (by kernel_rfl) allP_nil ?_
  refine rf [(0, .sl vals.length (fl vals))] [] 0 (by kernel_rfl) ?_
  refine wk_id ?_
  refine seq_np ?_
  refine reg_f ?_
  refine rs 1 [] [] (by kernel_rfl) allP_nil ?_
  refine rf [(0, .sl vals.length (fl vals)), (3, iS 0)] [] 0 (by kernel_rfl) ?_
  refine wk_id ?_
  refine seq_np ?_
  refine seq_np ?_
  refine reg_f ?_
  refine rs 3 [] [] (by kernel_rfl) allP_nil ?_
  refine rf [(3, iS 0), (6, .sl vals.length (fl vals)), (7, iS ((vals.length : Nat) : Int)), (8, iS 0)] [] 0 (by kernel_rfl) ?_
  refine wk_id ?_
  refine block_np ?_
  refine loop_sx (S := Int) (fun a => ([(3, iS 0), (6, .sl vals.length (fl vals)), (7, iS ((vals.length : Nat) : Int)), (8, iS a)], [], 0)) h (leSt_m [] [] (by simp only [push_cast, seval]) (by simp only [push_cast, seval]) rfl rfl rfl) ?_
  rintro t8q7 o2 R2 h hr2 hn2 hx2 ht2
  try dsimp only at h hn2 ⊢
  unfold cmp_Or_int_l1 at h
  try dsimp only at h
  refine seq_np ?_
  refine reg_f ?_
  refine rs 1 [] [] (by kernel_rfl) allP_nil ?_
  refine rf [(3, iS 0), (6, .sl vals.length (fl vals)), (7, iS ((vals.length : Nat) : Int)), (8, iS t8q7), (9, bS (decide (t8q7 < ((vals.length : Nat) : Int))))] [] 0 (by kernel_rfl) ?_
  refine wk_id ?_
  refine seq_np ?_
  refine cond_sx h (by kernel_rfl) (fun g117 h => ?_) (fun g117 h => ?_)
  · refine wk_id ?_
    refine seq_np ?_
    refine block_np ?_
    refine chk_sx h (fun g115 h => ?_)
    refine seq_np ?_
    refine reg_f ?_
    have k114 : 0 ≤ t8q7 ∧ t8q7 < ((vals.length : Nat) : Int) := by first | simpa only [Bool.and_eq_true, decide_eq_true_eq, bne_iff_ne, ne_eq] using g115 | (simp at g115 ⊢; omega)
    refine rs 3 [some ⟨.iptr (fl vals) ((t8q7).toNat * 1), [], 0, []⟩, some ⟨iS (ix vals t8q7), [], 0, []⟩] _ (by kernel_rfl) (allP_cons (ob_ld vals t8q7 1 0 ((t8q7).toNat * 1) k114 rfl (by decide) (by first | rfl | omega) (dflS Try.prog 3) (iS (ix vals t8q7)) rfl 0 []) (allP_cons (ob_ix_l vals 1 0 t8q7 k114) allP_nil)) ?_
    refine rf [(3, iS 0), (5, iS (ix vals t8q7)), (6, .sl vals.length (fl vals)), (7, iS ((vals.length : Nat) : Int)), (8, iS t8q7)] [] 0 (by kernel_rfl) ?_
    refine wk_id ?_
    refine seq_np ?_
    refine reg_f ?_
    refine rs 3 [] [] (by kernel_rfl) allP_nil ?_
    refine rf [(3, iS 0), (5, iS (ix vals t8q7)), (6, .sl vals.length (fl vals)), (7, iS ((vals.length : Nat) : Int)), (8, iS t8q7), (14, bS ((ix vals t8q7) != 0))] [] 0 (by kernel_rfl) ?_
    refine wk_id ?_
    refine cond_sx h (by kernel_rfl) (fun g116 h => ?_) (fun g116 h => ?_)
    · refine seq_np ?_
      refine reg_f ?_
      refine rs 2 [] [] (by kernel_rfl) allP_nil ?_
      refine rf [(2, iS (ix vals t8q7))] [] 0 (by kernel_rfl) ?_
      refine wk_id ?_
      refine rt_cast ht2 ?_
      obtain ⟨r0, h, e0⟩ := map_sx h
      have e1 := hr2 r0 e0.symm
      subst r0
      obtain rfl := Option.some.inj h
      refine ret_at (iS (ix vals t8q7)) (by kernel_rfl) ?_
      exact ret_e [] [] (by simp only [push_cast, seval]) (by simp only [push_cast, seval]) rfl rfl rfl
    · refine wk_id ?_
      refine wk_id ?_
      refine reg_f ?_
      refine rs 2 [] [] (by kernel_rfl) allP_nil ?_
      refine rf [(3, iS 0), (6, .sl vals.length (fl vals)), (7, iS ((vals.length : Nat) : Int)), (8, iS (IntKind.i64.wrap (t8q7 + 1)))] [] 0 (by kernel_rfl) ?_
      exact hn2 ((IntKind.i64.wrap (t8q7 + 1))) _ _ _ (Option.some.inj h).symm (leSt_m [] [] (by simp only [push_cast, seval]) (by simp only [push_cast, seval]) rfl rfl rfl)
  · change R2 (.exit 0) _ _ _
    refine ex_cast hx2 (id := 0) ?_
    obtain ⟨r0, h, e0⟩ := map_sx h
    have e1 := hr2 r0 e0.symm
    subst r0
    refine wk_id ?_
    refine wk_id ?_
    refine seq_np ?_
    refine reg_f ?_
    refine rs 2 [] [] (by kernel_rfl) allP_nil ?_
    refine rf [(2, iS 0)] [] 0 (by kernel_rfl) ?_
    refine wk_id ?_
    obtain rfl := Option.some.inj h
    refine ret_at (iS 0) (by kernel_rfl) ?_
    exact ret_e [] [] (by simp only [push_cast, seval]) (by simp only [push_cast, seval]) rfl rfl rfl

set_option maxRecDepth 100000 in
set_option maxHeartbeats 200000000 in
theorem clock_order_spec (xa : Alarm) (b : Alarm) (r : Int) (h : clock_order xa b = some r) : SpecW Try.prog 29 [.agg (Enc.cells xa), .agg (Enc.cells b)] [] 0 (fun x h n => x = iS r ∧ h = [] ∧ n = 0) := by
  unfold clock_order at h
  refine spec_of (draw_ok _) Try.func29 rfl (by decide) rfl (by kernel_rfl) ?_
  refine seq_np ?_
  refine reg_f ?_
  refine rs 3 [] [] (by kernel_rfl) allP_nil ?_
  refine rf [(2, .ptr 0 0), (3, .ptr 1 0)] [(0, .row 54 (Enc.cells xa)), (1, .row 54 (Enc.cells b))] 2 (by kernel_rfl) ?_
  refine wk_id ?_
  refine seq_np ?_
  refine reg_t ?_
  refine rs 4 [] [] (by kernel_rfl) allP_nil ?_
  obtain ⟨r122, hr122, h⟩ := bind_sx h
  refine run_call 36 [iS xa.When, iS b.When] (some 9) (by kernel_rfl) ?_
  refine callE_0 (cmp_Compare_int_spec xa.When b.When r122 hr122) (by simp only [push_cast, seval]) (by simp only [push_cast, seval]) ?_
  refine back_t ?_
  refine rs 4 [] [] (by kernel_rfl) allP_nil ?_
  obtain ⟨r123, hr123, h⟩ := bind_sx h
  refine run_call 36 [iS xa.Seq, iS b.Seq] (some 14) (by kernel_rfl) ?_
  refine callE_0 (cmp_Compare_int_spec xa.Seq b.Seq r123 hr123) (by simp only [push_cast, seval]) (by simp only [push_cast, seval]) ?_
  refine back_t ?_
  refine rs 1 [] [] (by kernel_rfl) allP_nil ?_
  obtain ⟨r124, hr124, h⟩ := bind_sx h
  refine call_x (cmp_Or_int_spec ([r122, r123] : List Int) r124 hr124) (args := [.own 12 0 ([r122, r123] : List Int).length]) (dst := (some 16)) (by kernel_rfl) [(0, .row 54 (Enc.cells xa)), (1, .row 54 (Enc.cells b)), (12, .row 3 (fl ([r122, r123] : List Int)))] 14 (by kernel_rfl) [] [12] (iS r124) [] (by simp only [push_cast, seval]) (by simp only [push_cast, seval]) (by kernel_rfl) (.inr ⟨by simp only [push_cast, seval], by simp only [push_cast, seval]⟩) (by simp only [push_cast, seval]) (by simp only [push_cast, seval]) ?_
  refine rs 1 [] [] (by kernel_rfl) allP_nil ?_
  refine rt [(4, iS r124)] [(0, .row 54 (Enc.cells xa)), (1, .row 54 (Enc.cells b)), (12, .row 3 (fl ([r122, r123] : List Int)))] 16 follows (by kernel_rfl) ?_
  refine wk_id ?_
  obtain rfl := Option.some.inj h
  refine ret_at (iS r124) (by kernel_rfl) ?_
  exact ret_e [] [] (by simp only [push_cast, seval]) (by simp only [push_cast, seval]) rfl rfl rfl

set_option maxRecDepth 100000 in
set_option maxHeartbeats 200000000 in
theorem clock_Check_spec (c : Clock) (r : Fault) (h : clock_Check c = some r) : SpecW Try.prog 20 [.agg (Enc.cells c)] [] 0 (fun x h n => x = .agg (Enc.cells r) ∧ h = [] ∧ n = 0) := by
  unfold clock_Check at h
  refine spec_of (draw_ok _) Try.func20 rfl (by decide) rfl (by kernel_rfl) ?_
  refine seq_np ?_
  refine reg_f ?_
  refine rs 2 [] [] (by kernel_rfl) allP_nil ?_
  refine rf [(1, .ptr 0 0), (2, .ptr 1 0)] [(0, .row 24 (Enc.cells c)), (1, .row 28 [iS 0, iS 0])] 2 (by kernel_rfl) ?_
  refine wk_id ?_
  refine seq_np ?_
  refine seq_np ?_
  refine reg_f ?_
  refine rs 4 [] [] (by kernel_rfl) allP_nil ?_
  refine rf [(1, .ptr 0 0), (2, .ptr 1 0), (10, bS (decide ((5000 : Int) < ((c.List.length : Nat) : Int))))] [(0, .row 24 (Enc.cells c)), (1, .row 28 [iS 0, iS 0])] 2 (by kernel_rfl) ?_
  refine wk_id ?_
  refine cond_sx h (by kernel_rfl) (fun g428 h => ?_) (fun g428 h => ?_)
  · refine seq_np ?_
    refine reg_f ?_
    obtain ⟨r157, hr157, h⟩ := bind_sx h
    refine run_call 23 [iS 2, iS 0] (some 11) (by kernel_rfl) ?_
    refine call_0 (clock_fault_spec 2 0 r157 hr157) (by simp only [push_cast, seval]) (by simp only [push_cast, seval]) ?_
    refine back_f ?_
    refine rs 1 [] [] (by kernel_rfl) allP_nil ?_
    refine rf [(2, .ptr 1 0)] [(0, .row 24 (Enc.cells c)), (1, .row 28 (Enc.cells r157))] 2 (by kernel_rfl) ?_
    refine wk_id ?_
    obtain rfl := Option.some.inj h
    refine ret_at (.agg (Enc.cells r157)) (by kernel_rfl) ?_
    exact ret_e [] [] (by simp only [push_cast, seval]) (by simp only [push_cast, seval]) rfl rfl rfl
  · refine wk_id ?_
    refine seq_np ?_
    refine seq_cut (A := Unit) (fun _ => ([(1, .ptr 0 0), (2, .ptr 1 0), (25, bS ((decide ((min c.Now c.Next) < 0)) || (decide ((1000000000 : Int) < (max c.Now c.Next)))))], [(0, .row 24 (Enc.cells c)), (1, .row 28 [iS 0, iS 0])], 2)) (fun _ => True) (fun K162 hK162 => ?_) (fun _ _ => ?_)
    · refine reg_f ?_
      refine rs 7 [] [] (by kernel_rfl) allP_nil ?_
      refine run_split 18 (decide ((min c.Now c.Next) < 0)) (.inl (by kernel_rfl)) (fun g163 => ?_) (fun g163 => ?_)
      · refine rs 7 [] [] (by kernel_rfl) allP_nil ?_
        refine rf [(1, .ptr 0 0), (2, .ptr 1 0), (25, bS true)] [(0, .row 24 (Enc.cells c)), (1, .row 28 [iS 0, iS 0])] 2 (by kernel_rfl) ?_
        exact hK162 () _ _ _ trivial (leSt_m [(0, 0), (1, 1)] [] (by (try simp only [g163]) <;> simp only [push_cast, seval]) (by (try simp only [g163]) <;> simp only [push_cast, seval]) rfl rfl rfl)
      · refine rs 7 [] [] (by kernel_rfl) allP_nil ?_
        refine rf [(1, .ptr 0 0), (2, .ptr 1 0), (25, bS (decide ((1000000000 : Int) < (max c.Now c.Next))))] [(0, .row 24 (Enc.cells c)), (1, .row 28 [iS 0, iS 0])] 2 (by kernel_rfl) ?_
        exact hK162 () _ _ _ trivial (leSt_m [(0, 0), (1, 1)] [] (by (try simp only [g163]) <;> simp only [push_cast, seval]) (by (try simp only [g163]) <;> simp only [push_cast, seval]) rfl rfl rfl)
    · dsimp only
      refine cond_sx h (by kernel_rfl) (fun g427 h => ?_) (fun g427 h => ?_)
      · refine seq_np ?_
        refine reg_f ?_
        obtain ⟨r165, hr165, h⟩ := bind_sx h
        refine run_call 23 [iS 3, iS 0] (some 26) (by kernel_rfl) ?_
        refine call_0 (clock_fault_spec 3 0 r165 hr165) (by simp only [push_cast, seval]) (by simp only [push_cast, seval]) ?_
        refine back_f ?_
        refine rs 1 [] [] (by kernel_rfl) allP_nil ?_
        refine rf [(2, .ptr 1 0)] [(0, .row 24 (Enc.cells c)), (1, .row 28 (Enc.cells r165))] 2 (by kernel_rfl) ?_
        refine wk_id ?_
        obtain rfl := Option.some.inj h
        refine ret_at (.agg (Enc.cells r165)) (by kernel_rfl) ?_
        exact ret_e [] [] (by simp only [push_cast, seval]) (by simp only [push_cast, seval]) rfl rfl rfl
      · refine wk_id ?_
        refine seq_np ?_
        refine reg_f ?_
        refine rs 4 [] [] (by kernel_rfl) allP_nil ?_
        refine rf [(1, .ptr 0 0), (2, .ptr 1 0), (3, .mp 2), (4, .mp 3)] [(0, .row 24 (Enc.cells c)), (1, .row 28 [iS 0, iS 0]), (2, .map (mi [])), (3, .map (mi []))] 4 (by kernel_rfl) ?_
        refine wk_id ?_
        refine seq_np ?_
        refine seq_np ?_
        refine reg_f ?_
        refine rs 4 [] [] (by kernel_rfl) allP_nil ?_
        refine rf [(1, .ptr 0 0), (2, .ptr 1 0), (3, .mp 2), (4, .mp 3), (30, .sl c.List.length (fl c.List)), (31, iS ((c.List.length : Nat) : Int)), (32, iS 0)] [(0, .row 24 (Enc.cells c)), (1, .row 28 [iS 0, iS 0]), (2, .map (mi [])), (3, .map (mi []))] 4 (by kernel_rfl) ?_
        refine wk_id ?_
        refine block_np ?_
        refine loop_sx (S := Int × (List (Int × Int)) × (List (Int × Int))) (fun a => ([(1, .ptr 0 0), (2, .ptr 1 0), (3, .mp 2), (4, .mp 3), (30, .sl c.List.length (fl c.List)), (31, iS ((c.List.length : Nat) : Int)), (32, iS a.1)], [(0, .row 24 (Enc.cells c)), (1, .row 28 [iS 0, iS 0]), (2, .map (mi a.2.1)), (3, .map (mi a.2.2))], 4)) h (leSt_m [(0, 0), (1, 1), (2, 2), (3, 3)] [] (by simp only [push_cast, seval]) (by simp only [push_cast, seval]) rfl rfl rfl) ?_
        rintro ⟨t32q7, c2q7, c3q7⟩ o2 R2 h hr2 hn2 hx2 ht2
        try dsimp only at h hn2 ⊢
        unfold clock_Check_l1 at h
        try dsimp only at h
        refine seq_np ?_
        refine reg_f ?_
        refine rs 1 [] [] (by kernel_rfl) allP_nil ?_
        refine rf [(1, .ptr 0 0), (2, .ptr 1 0), (3, .mp 2), (4, .mp 3), (30, .sl c.List.length (fl c.List)), (31, iS ((c.List.length : Nat) : Int)), (32, iS t32q7), (33, bS (decide (t32q7 < ((c.List.length : Nat) : Int))))] [(0, .row 24 (Enc.cells c)), (1, .row 28 [iS 0, iS 0]), (2, .map (mi c2q7)), (3, .map (mi c3q7))] 4 (by kernel_rfl) ?_
        refine wk_id ?_
        refine seq_np ?_
        refine cond_sx h (by kernel_rfl) (fun g426 h => ?_) (fun g426 h => ?_)
        · refine wk_id ?_
          refine seq_np ?_
          refine block_np ?_
          refine chk_sx h (fun g357 h => ?_)
          refine seq_np ?_
          refine reg_f ?_
          have k356 : 0 ≤ t32q7 ∧ t32q7 < ((c.List.length : Nat) : Int) := by first | simpa only [Bool.and_eq_true, decide_eq_true_eq, bne_iff_ne, ne_eq] using g357 | (simp at g357 ⊢; omega)
          refine rs 6 [none, some ⟨.iptr (fl c.List) ((t32q7).toNat * 4), [], 4, []⟩, some ⟨.agg (Enc.cells (ix c.List t32q7)), [], 4, []⟩] _ (by kernel_rfl) (allP_cons (ob_ldw c.List t32q7 4 ((t32q7).toNat * 4) k356 rfl (by first | rfl | omega) [iS (ix c.List t32q7).Id, iS (ix c.List t32q7).When, iS (ix c.List t32q7).Period, iS (ix c.List t32q7).Seq] rfl 4 []) (allP_cons (ob_ix_l c.List 4 4 t32q7 k356) allP_nil)) ?_
          refine rf [(1, .ptr 0 0), (2, .ptr 1 0), (3, .mp 2), (4, .mp 3), (5, iS t32q7), (6, .ptr 4 0), (30, .sl c.List.length (fl c.List)), (31, iS ((c.List.length : Nat) : Int)), (32, iS t32q7)] [(0, .row 24 (Enc.cells c)), (1, .row 28 [iS 0, iS 0]), (2, .map (mi c2q7)), (3, .map (mi c3q7)), (4, .row 54 (Enc.cells (ix c.List t32q7)))] 5 (by kernel_rfl) ?_
          refine wk_id ?_
          refine seq_np ?_
          refine block_np ?_
          refine seq_cut (A := Unit) (fun _ => ([(1, .ptr 0 0), (2, .ptr 1 0), (3, .mp 2), (4, .mp 3), (5, iS t32q7), (6, .ptr 4 0), (30, .sl c.List.length (fl c.List)), (31, iS ((c.List.length : Nat) : Int)), (32, iS t32q7), (37, bS ((decide ((ix c.List t32q7).Id < 1)) || ((decide ((ix c.List t32q7).When ≤ c.Now)) || ((decide ((2000000000 : Int) < (ix c.List t32q7).When)) || ((decide ((ix c.List t32q7).Period < 0)) || ((decide ((1000000000 : Int) < (ix c.List t32q7).Period)) || ((decide ((ix c.List t32q7).Seq < 0)) || (decide (c.Next ≤ (ix c.List t32q7).Seq)))))))))], [(0, .row 24 (Enc.cells c)), (1, .row 28 [iS 0, iS 0]), (2, .map (mi c2q7)), (3, .map (mi c3q7)), (4, .row 54 (Enc.cells (ix c.List t32q7)))], 5)) (fun _ => True) (fun K400 hK400 => ?_) (fun _ _ => ?_)
          · refine reg_f ?_
            refine rs 4 [] [] (by kernel_rfl) allP_nil ?_
            refine run_split 41 (decide ((ix c.List t32q7).Id < 1)) (.inl (by kernel_rfl)) (fun g401 => ?_) (fun g401 => ?_)
            · refine rs 34 [] [] (by kernel_rfl) allP_nil ?_
              refine rf [(1, .ptr 0 0), (2, .ptr 1 0), (3, .mp 2), (4, .mp 3), (5, iS t32q7), (6, .ptr 4 0), (30, .sl c.List.length (fl c.List)), (31, iS ((c.List.length : Nat) : Int)), (32, iS t32q7), (37, bS true)] [(0, .row 24 (Enc.cells c)), (1, .row 28 [iS 0, iS 0]), (2, .map (mi c2q7)), (3, .map (mi c3q7)), (4, .row 54 (Enc.cells (ix c.List t32q7)))] 5 (by kernel_rfl) ?_
              exact hK400 () _ _ _ trivial (leSt_m [(0, 0), (1, 1), (2, 2), (3, 3), (4, 4)] [] (by (try simp only [g401]) <;> simp only [push_cast, seval]) (by (try simp only [g401]) <;> simp only [push_cast, seval]) rfl rfl rfl)
            · refine rs 7 [] [] (by kernel_rfl) allP_nil ?_
              refine run_split 48 (decide ((ix c.List t32q7).When ≤ c.Now)) (.inl (by kernel_rfl)) (fun g402 => ?_) (fun g402 => ?_)
              · refine rs 27 [] [] (by kernel_rfl) allP_nil ?_
                refine rf [(1, .ptr 0 0), (2, .ptr 1 0), (3, .mp 2), (4, .mp 3), (5, iS t32q7), (6, .ptr 4 0), (30, .sl c.List.length (fl c.List)), (31, iS ((c.List.length : Nat) : Int)), (32, iS t32q7), (37, bS true)] [(0, .row 24 (Enc.cells c)), (1, .row 28 [iS 0, iS 0]), (2, .map (mi c2q7)), (3, .map (mi c3q7)), (4, .row 54 (Enc.cells (ix c.List t32q7)))] 5 (by kernel_rfl) ?_
                exact hK400 () _ _ _ trivial (leSt_m [(0, 0), (1, 1), (2, 2), (3, 3), (4, 4)] [] (by first | ((try simp only [g401, g402]) <;> simp only [push_cast, seval]; done) | ((try simp only [g401]); (try simp only [g402]); simp only [push_cast, seval]; done) | (exfalso; clear h; simp_all; done)) (by first | ((try simp only [g401, g402]) <;> simp only [push_cast, seval]; done) | ((try simp only [g401]); (try simp only [g402]); simp only [push_cast, seval]; done) | (exfalso; clear h; simp_all; done)) rfl rfl rfl)
              · refine rs 5 [] [] (by kernel_rfl) allP_nil ?_
                refine run_split 53 (decide ((2000000000 : Int) < (ix c.List t32q7).When)) (.inl (by kernel_rfl)) (fun g403 => ?_) (fun g403 => ?_)
                · refine rn 16 [(1, .ptr 0 0), (2, .ptr 1 0), (3, .mp 2), (4, .mp 3), (5, iS t32q7), (6, .ptr 4 0), (30, .sl c.List.length (fl c.List)), (31, iS ((c.List.length : Nat) : Int)), (32, iS t32q7), (53, bS true)] [(0, .row 24 (Enc.cells c)), (1, .row 28 [iS 0, iS 0]), (2, .map (mi c2q7)), (3, .map (mi c3q7)), (4, .row 54 (Enc.cells (ix c.List t32q7)))] 5 (by kernel_rfl) ?_
                  refine rs 22 [] [] (by kernel_rfl) allP_nil ?_
                  refine rf [(1, .ptr 0 0), (2, .ptr 1 0), (3, .mp 2), (4, .mp 3), (5, iS t32q7), (6, .ptr 4 0), (30, .sl c.List.length (fl c.List)), (31, iS ((c.List.length : Nat) : Int)), (32, iS t32q7), (37, bS true)] [(0, .row 24 (Enc.cells c)), (1, .row 28 [iS 0, iS 0]), (2, .map (mi c2q7)), (3, .map (mi c3q7)), (4, .row 54 (Enc.cells (ix c.List t32q7)))] 5 (by kernel_rfl) ?_
                  exact hK400 () _ _ _ trivial (leSt_m [(0, 0), (1, 1), (2, 2), (3, 3), (4, 4)] [] (by first | ((try simp only [g401, g402, g403]) <;> simp only [push_cast, seval]; done) | ((try simp only [g401]); (try simp only [g402]); (try simp only [g403]); simp only [push_cast, seval]; done) | (exfalso; clear h; simp_all; done)) (by first | ((try simp only [g401, g402, g403]) <;> simp only [push_cast, seval]; done) | ((try simp only [g401]); (try simp only [g402]); (try simp only [g403]); simp only [push_cast, seval]; done) | (exfalso; clear h; simp_all; done)) rfl rfl rfl)
                · refine rn 16 [(1, .ptr 0 0), (2, .ptr 1 0), (3, .mp 2), (4, .mp 3), (5, iS t32q7), (6, .ptr 4 0), (30, .sl c.List.length (fl c.List)), (31, iS ((c.List.length : Nat) : Int)), (32, iS t32q7), (53, bS false)] [(0, .row 24 (Enc.cells c)), (1, .row 28 [iS 0, iS 0]), (2, .map (mi c2q7)), (3, .map (mi c3q7)), (4, .row 54 (Enc.cells (ix c.List t32q7)))] 5 (by kernel_rfl) ?_
                  refine rs 5 [] [] (by kernel_rfl) allP_nil ?_
                  refine run_split 58 (decide ((ix c.List t32q7).Period < 0)) (.inl (by kernel_rfl)) (fun g404 => ?_) (fun g404 => ?_)
                  · refine rs 17 [] [] (by kernel_rfl) allP_nil ?_
                    refine rf [(1, .ptr 0 0), (2, .ptr 1 0), (3, .mp 2), (4, .mp 3), (5, iS t32q7), (6, .ptr 4 0), (30, .sl c.List.length (fl c.List)), (31, iS ((c.List.length : Nat) : Int)), (32, iS t32q7), (37, bS true)] [(0, .row 24 (Enc.cells c)), (1, .row 28 [iS 0, iS 0]), (2, .map (mi c2q7)), (3, .map (mi c3q7)), (4, .row 54 (Enc.cells (ix c.List t32q7)))] 5 (by kernel_rfl) ?_
                    exact hK400 () _ _ _ trivial (leSt_m [(0, 0), (1, 1), (2, 2), (3, 3), (4, 4)] [] (by first | ((try simp only [g401, g402, g403, g404]) <;> simp only [push_cast, seval]; done) | ((try simp only [g401]); (try simp only [g402]); (try simp only [g403]); (try simp only [g404]); simp only [push_cast, seval]; done) | (exfalso; clear h; simp_all; done)) (by first | ((try simp only [g401, g402, g403, g404]) <;> simp only [push_cast, seval]; done) | ((try simp only [g401]); (try simp only [g402]); (try simp only [g403]); (try simp only [g404]); simp only [push_cast, seval]; done) | (exfalso; clear h; simp_all; done)) rfl rfl rfl)
                  · refine rs 5 [] [] (by kernel_rfl) allP_nil ?_
                    refine run_split 63 (decide ((1000000000 : Int) < (ix c.List t32q7).Period)) (.inl (by kernel_rfl)) (fun g405 => ?_) (fun g405 => ?_)
                    · refine rs 12 [] [] (by kernel_rfl) allP_nil ?_
                      refine rf [(1, .ptr 0 0), (2, .ptr 1 0), (3, .mp 2), (4, .mp 3), (5, iS t32q7), (6, .ptr 4 0), (30, .sl c.List.length (fl c.List)), (31, iS ((c.List.length : Nat) : Int)), (32, iS t32q7), (37, bS true)] [(0, .row 24 (Enc.cells c)), (1, .row 28 [iS 0, iS 0]), (2, .map (mi c2q7)), (3, .map (mi c3q7)), (4, .row 54 (Enc.cells (ix c.List t32q7)))] 5 (by kernel_rfl) ?_
                      exact hK400 () _ _ _ trivial (leSt_m [(0, 0), (1, 1), (2, 2), (3, 3), (4, 4)] [] (by first | ((try simp only [g401, g402, g403, g404, g405]) <;> simp only [push_cast, seval]; done) | ((try simp only [g401]); (try simp only [g402]); (try simp only [g403]); (try simp only [g404]); (try simp only [g405]); simp only [push_cast, seval]; done) | (exfalso; clear h; simp_all; done)) (by first | ((try simp only [g401, g402, g403, g404, g405]) <;> simp only [push_cast, seval]; done) | ((try simp only [g401]); (try simp only [g402]); (try simp only [g403]); (try simp only [g404]); (try simp only [g405]); simp only [push_cast, seval]; done) | (exfalso; clear h; simp_all; done)) rfl rfl rfl)
                    · refine rs 5 [] [] (by kernel_rfl) allP_nil ?_
                      refine run_split 68 (decide ((ix c.List t32q7).Seq < 0)) (.inl (by kernel_rfl)) (fun g406 => ?_) (fun g406 => ?_)
                      · refine rn 31 [(1, .ptr 0 0), (2, .ptr 1 0), (3, .mp 2), (4, .mp 3), (5, iS t32q7), (6, .ptr 4 0), (30, .sl c.List.length (fl c.List)), (31, iS ((c.List.length : Nat) : Int)), (32, iS t32q7), (68, bS true)] [(0, .row 24 (Enc.cells c)), (1, .row 28 [iS 0, iS 0]), (2, .map (mi c2q7)), (3, .map (mi c3q7)), (4, .row 54 (Enc.cells (ix c.List t32q7)))] 5 (by kernel_rfl) ?_
                        refine rs 7 [] [] (by kernel_rfl) allP_nil ?_
                        refine rf [(1, .ptr 0 0), (2, .ptr 1 0), (3, .mp 2), (4, .mp 3), (5, iS t32q7), (6, .ptr 4 0), (30, .sl c.List.length (fl c.List)), (31, iS ((c.List.length : Nat) : Int)), (32, iS t32q7), (37, bS true)] [(0, .row 24 (Enc.cells c)), (1, .row 28 [iS 0, iS 0]), (2, .map (mi c2q7)), (3, .map (mi c3q7)), (4, .row 54 (Enc.cells (ix c.List t32q7)))] 5 (by kernel_rfl) ?_
                        exact hK400 () _ _ _ trivial (leSt_m [(0, 0), (1, 1), (2, 2), (3, 3), (4, 4)] [] (by first | ((try simp only [g401, g402, g403, g404, g405, g406]) <;> simp only [push_cast, seval]; done) | ((try simp only [g401]); (try simp only [g402]); (try simp only [g403]); (try simp only [g404]); (try simp only [g405]); (try simp only [g406]); simp only [push_cast, seval]; done) | (exfalso; clear h; simp_all; done)) (by first | ((try simp only [g401, g402, g403, g404, g405, g406]) <;> simp only [push_cast, seval]; done) | ((try simp only [g401]); (try simp only [g402]); (try simp only [g403]); (try simp only [g404]); (try simp only [g405]); (try simp only [g406]); simp only [push_cast, seval]; done) | (exfalso; clear h; simp_all; done)) rfl rfl rfl)
                      · refine rn 31 [(1, .ptr 0 0), (2, .ptr 1 0), (3, .mp 2), (4, .mp 3), (5, iS t32q7), (6, .ptr 4 0), (30, .sl c.List.length (fl c.List)), (31, iS ((c.List.length : Nat) : Int)), (32, iS t32q7), (68, bS false)] [(0, .row 24 (Enc.cells c)), (1, .row 28 [iS 0, iS 0]), (2, .map (mi c2q7)), (3, .map (mi c3q7)), (4, .row 54 (Enc.cells (ix c.List t32q7)))] 5 (by kernel_rfl) ?_
                        refine rs 7 [] [] (by kernel_rfl) allP_nil ?_
                        refine rf [(1, .ptr 0 0), (2, .ptr 1 0), (3, .mp 2), (4, .mp 3), (5, iS t32q7), (6, .ptr 4 0), (30, .sl c.List.length (fl c.List)), (31, iS ((c.List.length : Nat) : Int)), (32, iS t32q7), (37, bS (decide (c.Next ≤ (ix c.List t32q7).Seq)))] [(0, .row 24 (Enc.cells c)), (1, .row 28 [iS 0, iS 0]), (2, .map (mi c2q7)), (3, .map (mi c3q7)), (4, .row 54 (Enc.cells (ix c.List t32q7)))] 5 (by kernel_rfl) ?_
                        exact hK400 () _ _ _ trivial (leSt_m [(0, 0), (1, 1), (2, 2), (3, 3), (4, 4)] [] (by first | ((try simp only [g401, g402, g403, g404, g405, g406]) <;> simp only [push_cast, seval]; done) | ((try simp only [g401]); (try simp only [g402]); (try simp only [g403]); (try simp only [g404]); (try simp only [g405]); (try simp only [g406]); simp only [push_cast, seval]; done) | (exfalso; clear h; simp_all; done)) (by first | ((try simp only [g401, g402, g403, g404, g405, g406]) <;> simp only [push_cast, seval]; done) | ((try simp only [g401]); (try simp only [g402]); (try simp only [g403]); (try simp only [g404]); (try simp only [g405]); (try simp only [g406]); simp only [push_cast, seval]; done) | (exfalso; clear h; simp_all; done)) rfl rfl rfl)
          · dsimp only
            refine cond_sx h (by kernel_rfl) (fun g425 h => ?_) (fun g425 h => ?_)
            · refine seq_np ?_
              refine reg_f ?_
              refine rs 2 [] [] (by kernel_rfl) allP_nil ?_
              obtain ⟨r408, hr408, h⟩ := bind_sx h
              refine run_call 23 [iS 3, iS (IntKind.i64.wrap (t32q7 + 1))] (some 77) (by kernel_rfl) ?_
              refine call_0 (clock_fault_spec 3 (IntKind.i64.wrap (t32q7 + 1)) r408 hr408) (by simp only [push_cast, seval]) (by simp only [push_cast, seval]) ?_
              refine back_f ?_
              refine rs 1 [] [] (by kernel_rfl) allP_nil ?_
              refine rf [(2, .ptr 1 0)] [(0, .row 24 (Enc.cells c)), (1, .row 28 (Enc.cells r408)), (2, .map (mi c2q7)), (3, .map (mi c3q7)), (4, .row 54 (Enc.cells (ix c.List t32q7)))] 5 (by kernel_rfl) ?_
              refine wk_id ?_
              refine rt_cast ht2 ?_
              obtain ⟨r0, h, e0⟩ := map_sx h
              have e1 := hr2 r0 e0.symm
              subst r0
              obtain rfl := Option.some.inj h
              refine ret_at (.agg (Enc.cells r408)) (by kernel_rfl) ?_
              exact ret_e [] [] (by simp only [push_cast, seval]) (by simp only [push_cast, seval]) rfl rfl rfl
            · refine seq_np ?_
              refine reg_f ?_
              refine rs 11 [none, none, none, some ⟨iS (miGet c2q7 (ix c.List t32q7).Id), [], 5, [2]⟩, none, none, none, some ⟨iS (miGet c3q7 (ix c.List t32q7).Seq), [], 5, [3]⟩] _ (by kernel_rfl) (allP_cons (ob_look (.int .i64) rfl (ix c.List t32q7).Seq c3q7 3 5) (allP_cons (ob_look (.int .i64) rfl (ix c.List t32q7).Id c2q7 2 5) allP_nil)) ?_
              refine rf [(1, .ptr 0 0), (2, .ptr 1 0), (3, .mp 2), (4, .mp 3), (5, iS t32q7), (6, .ptr 4 0), (30, .sl c.List.length (fl c.List)), (31, iS ((c.List.length : Nat) : Int)), (32, iS t32q7), (78, bS (decide ((0 : Int) < (IntKind.i64.wrap ((miGet c2q7 (ix c.List t32q7).Id) + (miGet c3q7 (ix c.List t32q7).Seq))))))] [(0, .row 24 (Enc.cells c)), (1, .row 28 [iS 0, iS 0]), (2, .map (mi c2q7)), (3, .map (mi c3q7)), (4, .row 54 (Enc.cells (ix c.List t32q7)))] 5 (by kernel_rfl) ?_
              refine wk_id ?_
              refine cond_sx h (by kernel_rfl) (fun g424 h => ?_) (fun g424 h => ?_)
              · refine seq_np ?_
                refine reg_f ?_
                refine rs 2 [] [] (by kernel_rfl) allP_nil ?_
                obtain ⟨r410, hr410, h⟩ := bind_sx h
                refine run_call 23 [iS 10, iS (IntKind.i64.wrap (t32q7 + 1))] (some 91) (by kernel_rfl) ?_
                refine call_0 (clock_fault_spec 10 (IntKind.i64.wrap (t32q7 + 1)) r410 hr410) (by simp only [push_cast, seval]) (by simp only [push_cast, seval]) ?_
                refine back_f ?_
                refine rs 1 [] [] (by kernel_rfl) allP_nil ?_
                refine rf [(2, .ptr 1 0)] [(0, .row 24 (Enc.cells c)), (1, .row 28 (Enc.cells r410)), (2, .map (mi c2q7)), (3, .map (mi c3q7)), (4, .row 54 (Enc.cells (ix c.List t32q7)))] 5 (by kernel_rfl) ?_
                refine wk_id ?_
                refine rt_cast ht2 ?_
                obtain ⟨r0, h, e0⟩ := map_sx h
                have e1 := hr2 r0 e0.symm
                subst r0
                obtain rfl := Option.some.inj h
                refine ret_at (.agg (Enc.cells r410)) (by kernel_rfl) ?_
                exact ret_e [] [] (by simp only [push_cast, seval]) (by simp only [push_cast, seval]) rfl rfl rfl
              · refine seq_cut (A := Bool) (fun a => ([(1, .ptr 0 0), (2, .ptr 1 0), (3, .mp 2), (4, .mp 3), (5, iS t32q7), (6, .ptr 4 0), (30, .sl c.List.length (fl c.List)), (31, iS ((c.List.length : Nat) : Int)), (32, iS t32q7), (92, bS a)], [(0, .row 24 (Enc.cells c)), (1, .row 28 [iS 0, iS 0]), (2, .map (mi c2q7)), (3, .map (mi c3q7)), (4, .row 54 (Enc.cells (ix c.List t32q7)))], 5)) (fun a => (clock_Check_j1 c t32q7 c2q7 c3q7 a) = some o2) (fun K416 hK416 => ?_) ?_
                · refine reg_t ?_
                  refine rs 3 [] [] (by kernel_rfl) allP_nil ?_
                  refine run_br h 95 (.inl (by kernel_rfl)) (fun g417 h => ?_) (fun g417 h => ?_)
                  · refine chk_sx h (fun g419 h => ?_)
                    have k418 : 0 ≤ (IntKind.i64.wrap (t32q7 - 1)) ∧ (IntKind.i64.wrap (t32q7 - 1)) < ((c.List.length : Nat) : Int) := by first | simpa only [Bool.and_eq_true, decide_eq_true_eq, bne_iff_ne, ne_eq] using g419 | (simp at g419 ⊢; omega)
                    refine rs 7 [none, none, none, none, some ⟨.iptr (fl c.List) (((IntKind.i64.wrap (t32q7 - 1))).toNat * 4), [], 12, []⟩, some ⟨.agg (Enc.cells (ix c.List (IntKind.i64.wrap (t32q7 - 1)))), [], 13, []⟩] _ (by kernel_rfl) (allP_cons (ob_ldw c.List (IntKind.i64.wrap (t32q7 - 1)) 4 (((IntKind.i64.wrap (t32q7 - 1))).toNat * 4) k418 rfl (by first | rfl | omega) [iS (ix c.List (IntKind.i64.wrap (t32q7 - 1))).Id, iS (ix c.List (IntKind.i64.wrap (t32q7 - 1))).When, iS (ix c.List (IntKind.i64.wrap (t32q7 - 1))).Period, iS (ix c.List (IntKind.i64.wrap (t32q7 - 1))).Seq] rfl 13 []) (allP_cons (ob_ix_l c.List 4 12 (IntKind.i64.wrap (t32q7 - 1)) k418) allP_nil)) ?_
                    obtain ⟨r420, hr420, h⟩ := bind_sx h
                    refine run_call 29 [.agg (Enc.cells (ix c.List (IntKind.i64.wrap (t32q7 - 1)))), .agg (Enc.cells (ix c.List t32q7))] (some 103) (by kernel_rfl) ?_
                    refine callE_0 (clock_order_spec (ix c.List (IntKind.i64.wrap (t32q7 - 1))) (ix c.List t32q7) r420 hr420) (by simp only [push_cast, seval]) (by simp only [push_cast, seval]) ?_
                    refine back_t ?_
                    refine rs 3 [] [] (by kernel_rfl) allP_nil ?_
                    refine rt [(1, .ptr 0 0), (2, .ptr 1 0), (3, .mp 2), (4, .mp 3), (5, iS t32q7), (6, .ptr 4 0), (30, .sl c.List.length (fl c.List)), (31, iS ((c.List.length : Nat) : Int)), (32, iS t32q7), (92, bS (decide ((0 : Int) < r420)))] [(0, .row 24 (Enc.cells c)), (1, .row 28 [iS 0, iS 0]), (2, .map (mi c2q7)), (3, .map (mi c3q7)), (4, .row 54 (Enc.cells (ix c.List t32q7)))] 19 follows (by kernel_rfl) ?_
                    exact hK416 ((decide ((0 : Int) < r420))) _ _ _ h (leSt_m [(0, 0), (1, 1), (2, 2), (3, 3), (4, 4)] [] (by (try simp only [g417]) <;> simp only [push_cast, seval]) (by (try simp only [g417]) <;> simp only [push_cast, seval]) rfl rfl rfl)
                  · refine rs 11 [] [] (by kernel_rfl) allP_nil ?_
                    refine rt [(1, .ptr 0 0), (2, .ptr 1 0), (3, .mp 2), (4, .mp 3), (5, iS t32q7), (6, .ptr 4 0), (30, .sl c.List.length (fl c.List)), (31, iS ((c.List.length : Nat) : Int)), (32, iS t32q7), (92, bS false)] [(0, .row 24 (Enc.cells c)), (1, .row 28 [iS 0, iS 0]), (2, .map (mi c2q7)), (3, .map (mi c3q7)), (4, .row 54 (Enc.cells (ix c.List t32q7)))] 19 follows (by kernel_rfl) ?_
                    exact hK416 (false) _ _ _ h (leSt_m [(0, 0), (1, 1), (2, 2), (3, 3), (4, 4)] [] (by (try simp only [g417]) <;> simp only [push_cast, seval]) (by (try simp only [g417]) <;> simp only [push_cast, seval]) rfl rfl rfl)
                · rintro t92q11 h
                  try dsimp only at h ⊢
                  unfold clock_Check_j1 at h
                  refine cond_sx h (by kernel_rfl) (fun g423 h => ?_) (fun g423 h => ?_)
                  · refine seq_np ?_
                    refine reg_f ?_
                    refine rs 2 [] [] (by kernel_rfl) allP_nil ?_
                    obtain ⟨r422, hr422, h⟩ := bind_sx h
                    refine run_call 23 [iS 5, iS (IntKind.i64.wrap (t32q7 + 1))] (some 108) (by kernel_rfl) ?_
                    refine call_0 (clock_fault_spec 5 (IntKind.i64.wrap (t32q7 + 1)) r422 hr422) (by simp only [push_cast, seval]) (by simp only [push_cast, seval]) ?_
                    refine back_f ?_
                    refine rs 1 [] [] (by kernel_rfl) allP_nil ?_
                    refine rf [(2, .ptr 1 0)] [(0, .row 24 (Enc.cells c)), (1, .row 28 (Enc.cells r422)), (2, .map (mi c2q7)), (3, .map (mi c3q7)), (4, .row 54 (Enc.cells (ix c.List t32q7)))] 5 (by kernel_rfl) ?_
                    refine wk_id ?_
                    refine rt_cast ht2 ?_
                    obtain ⟨r0, h, e0⟩ := map_sx h
                    have e1 := hr2 r0 e0.symm
                    subst r0
                    obtain rfl := Option.some.inj h
                    refine ret_at (.agg (Enc.cells r422)) (by kernel_rfl) ?_
                    exact ret_e [] [] (by simp only [push_cast, seval]) (by simp only [push_cast, seval]) rfl rfl rfl
                  · refine wk_id ?_
                    refine wk_id ?_
                    refine reg_t ?_
                    refine rs 8 [none, none, none, none, none, none, some ⟨.any, [(2, .map (mi (miSet c2q7 (ix c.List t32q7).Id 1)))], 11, [2]⟩, some ⟨.any, [(3, .map (mi (miSet c3q7 (ix c.List t32q7).Seq 1)))], 12, [3]⟩] _ (by kernel_rfl) (allP_cons (ob_mset (.int .i64) rfl (ix c.List t32q7).Seq 1 c3q7 3 12) (allP_cons (ob_mset (.int .i64) rfl (ix c.List t32q7).Id 1 c2q7 2 11) allP_nil)) ?_
                    refine rt [(1, .ptr 0 0), (2, .ptr 1 0), (3, .mp 2), (4, .mp 3), (30, .sl c.List.length (fl c.List)), (31, iS ((c.List.length : Nat) : Int)), (32, iS t32q7)] [(0, .row 24 (Enc.cells c)), (1, .row 28 [iS 0, iS 0]), (2, .map (mi (miSet c2q7 (ix c.List t32q7).Id 1))), (3, .map (mi (miSet c3q7 (ix c.List t32q7).Seq 1))), (4, .row 54 (Enc.cells (ix c.List t32q7)))] 13 follows (by kernel_rfl) ?_
                    refine wk_id ?_
                    refine wk_id ?_
                    refine reg_f ?_
                    refine rs 2 [] [] (by kernel_rfl) allP_nil ?_
                    refine rf [(1, .ptr 0 0), (2, .ptr 1 0), (3, .mp 2), (4, .mp 3), (30, .sl c.List.length (fl c.List)), (31, iS ((c.List.length : Nat) : Int)), (32, iS (IntKind.i64.wrap (t32q7 + 1)))] [(0, .row 24 (Enc.cells c)), (1, .row 28 [iS 0, iS 0]), (2, .map (mi (miSet c2q7 (ix c.List t32q7).Id 1))), (3, .map (mi (miSet c3q7 (ix c.List t32q7).Seq 1))), (4, .row 54 (Enc.cells (ix c.List t32q7)))] 13 (by kernel_rfl) ?_
                    exact hn2 ((IntKind.i64.wrap (t32q7 + 1)), (miSet c2q7 (ix c.List t32q7).Id 1), (miSet c3q7 (ix c.List t32q7).Seq 1)) _ _ _ (Option.some.inj h).symm (leSt_m [(0, 0), (1, 1), (2, 2), (3, 3)] [] (by simp only [push_cast, seval]) (by simp only [push_cast, seval]) rfl rfl rfl)
        · change R2 (.exit 0) _ _ _
          refine ex_cast hx2 (id := 0) ?_
          obtain ⟨r0, h, e0⟩ := map_sx h
          have e1 := hr2 r0 e0.symm
          subst r0
          refine wk_id ?_
          refine wk_id ?_
          refine seq_np ?_
          refine reg_f ?_
          refine rs 2 [] [] (by kernel_rfl) allP_nil ?_
          refine rf [(2, .ptr 1 0)] [(0, .row 24 (Enc.cells c)), (1, .row 28 [iS 0, iS 0]), (2, .map (mi c2q7)), (3, .map (mi c3q7))] 4 (by kernel_rfl) ?_
          refine wk_id ?_
          obtain rfl := Option.some.inj h
          refine ret_at (.agg [iS 0, iS 0]) (by kernel_rfl) ?_
          exact ret_e [] [] (by simp only [push_cast, seval]) (by simp only [push_cast, seval]) rfl rfl rfl

set_option maxRecDepth 100000 in
set_option maxHeartbeats 200000000 in
theorem slices_Clone_Alarm_spec (s : (List Alarm)) (r : (List Alarm)) (h : slices_Clone_Alarm s = some r) : SpecW Try.prog 30 [.sl s.length (fl s)] [] 0 (fun x h n => x = .own 0 0 r.length ∧ h = [(0, .row 54 (fl r))] ∧ n = 1) := by
  unfold slices_Clone_Alarm at h
  refine spec_of (draw_ok _) Try.func30 rfl (by decide) rfl (by kernel_rfl) ?_
  refine seq_np ?_
  refine reg_f ?_
  refine rs 1 [] [] (by kernel_rfl) allP_nil ?_
  refine rf [(0, .sl s.length (fl s))] [] 0 (by kernel_rfl) ?_
  refine wk_id ?_
  refine seq_np ?_
  refine seq_np ?_
  refine reg_f ?_
  refine rs 1 [] [] (by kernel_rfl) allP_nil ?_
  refine run_nil s.length (some 4) (by kernel_rfl) (fun g443 => ?_) ?_
  · obtain rfl : s = [] := List.eq_nil_of_length_eq_zero g443
    replace h : (some ([])) = some r := by simpa using h
    refine rf [(0, .sl ([] : List Alarm).length (fl ([] : List Alarm))), (4, bS true)] [] 0 (by kernel_rfl) ?_
    refine wk_id ?_
    refine cond_t (by kernel_rfl) ?_
    refine seq_np ?_
    refine reg_f ?_
    refine rs 1 [] [] (by kernel_rfl) allP_nil ?_
    refine rf [(2, .v (.slice none 0 0))] [] 0 (by kernel_rfl) ?_
    refine wk_id ?_
    obtain rfl := Option.some.inj h
    refine ret_at (.v (.slice none 0 0)) (by kernel_rfl) ?_
    exact ret_e [] [] (by simp only [push_cast, seval]) (by simp only [push_cast, seval]) rfl rfl rfl
  · refine rf [(0, .sl s.length (fl s)), (4, bS false)] [] 0 (by kernel_rfl) ?_
    refine wk_id ?_
    refine cond_f (by kernel_rfl) ?_
    refine wk_id ?_
    refine chk_sx h (fun g442 h => ?_)
    refine seq_np ?_
    refine reg_f ?_
    refine run_mk0 Alarm (some 5) 54 (by kernel_rfl) ?_
    have k441 : (([] : List Alarm) ++ s).length * 32 ≤ 140737488355328 := by first | simpa only [Bool.and_eq_true, decide_eq_true_eq, bne_iff_ne, ne_eq] using g442 | (simp at g442 ⊢; omega)
    refine rs 3 [none, some ⟨.own 1 0 (([] : List Alarm) ++ s).length, [(1, .row 54 (fl (([] : List Alarm) ++ s))), (0, .dead)], 2, [0]⟩] _ (by kernel_rfl) (allP_cons (ob_app (P := Try.prog) ([] : List Alarm) s 4 32 rfl (fl s) s.length rfl rfl ((fl s).length = s.length * 4) (app_sl s 4 rfl) 54 (by kernel_rfl) (by decide) k441 0 1 []) allP_nil) ?_
    refine rf [(2, .own 1 0 (([] : List Alarm) ++ s).length)] [(0, .dead), (1, .row 54 (fl (([] : List Alarm) ++ s)))] 2 (by kernel_rfl) ?_
    refine wk_id ?_
    obtain rfl := Option.some.inj h
    refine ret_at (.own 1 0 (([] : List Alarm) ++ s).length) (by kernel_rfl) ?_
    exact ret_e [(0, 1)] [] (by simp only [push_cast, seval]) (by simp only [push_cast, seval]) rfl rfl rfl

set_option maxRecDepth 100000 in
set_option maxHeartbeats 200000000 in
theorem clock_copied_spec (c : Clock) (r : Int × Int × (List Alarm)) (h : clock_copied c = some r) : SpecW Try.prog 24 [.agg (Enc.cells c)] [] 0 (fun x h n => x = .agg [iS r.1, iS r.2.1, .own 0 0 r.2.2.length] ∧ h = [(0, .row 54 (fl r.2.2))] ∧ n = 1) := by
  unfold clock_copied at h
  refine spec_of (draw_ok _) Try.func24 rfl (by decide) rfl (by kernel_rfl) ?_
  refine seq_np ?_
  refine reg_f ?_
  refine rs 2 [] [] (by kernel_rfl) allP_nil ?_
  refine rf [(1, .ptr 0 0), (2, .ptr 1 0)] [(0, .row 24 (Enc.cells c)), (1, .row 24 [iS 0, iS 0, .v (.slice none 0 0)])] 2 (by kernel_rfl) ?_
  refine wk_id ?_
  refine seq_np ?_
  refine reg_t ?_
  refine rs 6 [] [] (by kernel_rfl) allP_nil ?_
  obtain ⟨r446, hr446, h⟩ := bind_sx h
  refine call_x (slices_Clone_Alarm_spec c.List r446 hr446) (args := [.sl c.List.length (fl c.List)]) (dst := (some 9)) (by kernel_rfl) [(0, .row 24 (Enc.cells c)), (1, .row 24 [iS 0, iS 0, .v (.slice none 0 0)])] 8 (by kernel_rfl) [] [] (.own 8 0 r446.length) [(8, .row 54 (fl r446))] (by simp only [push_cast, seval]) (by simp only [push_cast, seval]) (by kernel_rfl) (.inl rfl) (by simp only [push_cast, seval]) (by simp only [push_cast, seval]) ?_
  refine rs 2 [] [] (by kernel_rfl) allP_nil ?_
  refine rt [(2, .ptr 1 0)] [(0, .row 24 (Enc.cells c)), (1, .row 24 [iS c.Now, iS c.Next, .own 8 0 r446.length]), (8, .row 54 (fl r446))] 12 follows (by kernel_rfl) ?_
  refine wk_id ?_
  obtain rfl := Option.some.inj h
  refine ret_at (.agg [iS c.Now, iS c.Next, .own 8 0 r446.length]) (by kernel_rfl) ?_
  exact ret_e [(0, 8)] [] (by simp only [push_cast, seval]) (by simp only [push_cast, seval]) rfl rfl rfl

set_option maxRecDepth 100000 in
set_option maxHeartbeats 200000000 in
theorem clock_find_1_spec (xa : Alarm) (c0 : Int) (r : Bool × Int) (h : clock_find_1 xa c0 = some r) : SpecW Try.prog 34 [.agg (Enc.cells xa), .ptr 0 0] [(0, .row 3 [iS c0])] 1 (fun x h n => x = bS r.1 ∧ h = [(0, .row 3 [iS r.2])] ∧ n = 1) := by
  unfold clock_find_1 at h
  refine spec_of (draw_ok _) Try.func34 rfl (by decide) rfl (by kernel_rfl) ?_
  refine seq_np ?_
  refine reg_f ?_
  refine rs 2 [] [] (by kernel_rfl) allP_nil ?_
  refine rf [(1, .ptr 0 0), (2, .ptr 1 0)] [(0, .row 3 [iS c0]), (1, .row 54 (Enc.cells xa))] 2 (by kernel_rfl) ?_
  refine wk_id ?_
  refine seq_np ?_
  refine reg_f ?_
  refine rs 5 [] [] (by kernel_rfl) allP_nil ?_
  refine rf [(3, bS (xa.Id == c0))] [(0, .row 3 [iS c0]), (1, .row 54 (Enc.cells xa))] 2 (by kernel_rfl) ?_
  refine wk_id ?_
  obtain rfl := Option.some.inj h
  refine ret_at (bS (xa.Id == c0)) (by kernel_rfl) ?_
  exact ret_e [(0, 0)] [] (by simp only [push_cast, seval]) (by simp only [push_cast, seval]) rfl rfl rfl

set_option maxRecDepth 100000 in
set_option maxHeartbeats 200000000 in
theorem slices_IndexFunc_Alarm_spec (s : (List Alarm)) (c0 : Int) (r : Int × Int) (h : slices_IndexFunc_Alarm s c0 = some r) : SpecW Try.prog 33 [.sl s.length (fl s), .clo 34 [.ptr 0 0]] [(0, .row 3 [iS c0])] 1 (fun x h n => x = iS r.1 ∧ h = [(0, .row 3 [iS r.2])] ∧ n = 1) := by
  unfold slices_IndexFunc_Alarm at h
  refine spec_of (draw_ok _) Try.func33 rfl (by decide) rfl (by kernel_rfl) ?_
  refine seq_np ?_
  refine reg_f ?_
  refine rs 1 [] [] (by kernel_rfl) allP_nil ?_
  refine rf [(0, .sl s.length (fl s)), (1, .clo 34 [.ptr 0 0])] [(0, .row 3 [iS c0])] 1 (by kernel_rfl) ?_
  refine wk_id ?_
  refine seq_np ?_
  refine seq_np ?_
  refine reg_f ?_
  refine rs 3 [] [] (by kernel_rfl) allP_nil ?_
  refine rf [(0, .sl s.length (fl s)), (1, .clo 34 [.ptr 0 0]), (7, iS ((s.length : Nat) : Int)), (8, iS 0)] [(0, .row 3 [iS c0])] 1 (by kernel_rfl) ?_
  refine wk_id ?_
  refine block_np ?_
  refine loop_sx (S := Int × Int) (fun a => ([(0, .sl s.length (fl s)), (1, .clo 34 [.ptr 0 0]), (7, iS ((s.length : Nat) : Int)), (8, iS a.1)], [(0, .row 3 [iS a.2])], 1)) h (leSt_m [(0, 0)] [] (by simp only [push_cast, seval]) (by simp only [push_cast, seval]) rfl rfl rfl) ?_
  rintro ⟨t8q7, c0q9⟩ o2 R2 h hr2 hn2 hx2 ht2
  try dsimp only at h hn2 ⊢
  unfold slices_IndexFunc_Alarm_l1 at h
  try dsimp only at h
  refine seq_np ?_
  refine reg_f ?_
  refine rs 1 [] [] (by kernel_rfl) allP_nil ?_
  refine rf [(0, .sl s.length (fl s)), (1, .clo 34 [.ptr 0 0]), (7, iS ((s.length : Nat) : Int)), (8, iS t8q7), (9, bS (decide (t8q7 < ((s.length : Nat) : Int))))] [(0, .row 3 [iS c0q9])] 1 (by kernel_rfl) ?_
  refine wk_id ?_
  refine seq_np ?_
  refine cond_sx h (by kernel_rfl) (fun g523 h => ?_) (fun g523 h => ?_)
  · refine wk_id ?_
    refine seq_np ?_
    refine block_np ?_
    refine seq_np ?_
    refine reg_f ?_
    refine rs 2 [] [] (by kernel_rfl) allP_nil ?_
    refine rf [(0, .sl s.length (fl s)), (1, .clo 34 [.ptr 0 0]), (5, iS t8q7), (7, iS ((s.length : Nat) : Int)), (8, iS t8q7)] [(0, .row 3 [iS c0q9])] 1 (by kernel_rfl) ?_
    refine wk_id ?_
    refine chk_sx h (fun g520 h => ?_)
    refine seq_np ?_
    refine reg_f ?_
    have k519 : 0 ≤ t8q7 ∧ t8q7 < ((s.length : Nat) : Int) := by first | simpa only [Bool.and_eq_true, decide_eq_true_eq, bne_iff_ne, ne_eq] using g520 | (simp at g520 ⊢; omega)
    refine rs 5 [none, none, none, some ⟨.iptr (fl s) ((t8q7).toNat * 4), [], 1, []⟩, some ⟨.agg (Enc.cells (ix s t8q7)), [], 1, []⟩] _ (by kernel_rfl) (allP_cons (ob_ldw s t8q7 4 ((t8q7).toNat * 4) k519 rfl (by first | rfl | omega) [iS (ix s t8q7).Id, iS (ix s t8q7).When, iS (ix s t8q7).Period, iS (ix s t8q7).Seq] rfl 1 []) (allP_cons (ob_ix_l s 4 1 t8q7 k519) allP_nil)) ?_
    obtain ⟨r521, hr521, h⟩ := bind_sx h
    refine call_x (clock_find_1_spec (ix s t8q7) c0q9 r521 hr521) (args := [.agg (Enc.cells (ix s t8q7)), .ptr 0 0]) (dst := (some 16)) (by kernel_rfl) [(0, .row 3 [iS c0q9])] 1 (by kernel_rfl) [(0, 0)] [] (bS r521.1) [(0, .row 3 [iS r521.2]), (0, .dead)] (by simp only [push_cast, seval]) (by simp only [push_cast, seval]) (by kernel_rfl) (.inl rfl) (by simp only [push_cast, seval]) (by simp only [push_cast, seval]) ?_
    refine rf [(0, .sl s.length (fl s)), (1, .clo 34 [.ptr 0 0]), (5, iS t8q7), (7, iS ((s.length : Nat) : Int)), (8, iS t8q7), (16, bS r521.1)] [(0, .row 3 [iS r521.2])] 2 (by kernel_rfl) ?_
    refine wk_id ?_
    refine cond_sx h (by kernel_rfl) (fun g522 h => ?_) (fun g522 h => ?_)
    · refine seq_np ?_
      refine reg_f ?_
      refine rs 2 [] [] (by kernel_rfl) allP_nil ?_
      refine rf [(4, iS t8q7)] [(0, .row 3 [iS r521.2])] 2 (by kernel_rfl) ?_
      refine wk_id ?_
      refine rt_cast ht2 ?_
      obtain ⟨r0, h, e0⟩ := map_sx h
      have e1 := hr2 r0 e0.symm
      subst r0
      obtain rfl := Option.some.inj h
      refine ret_at (iS t8q7) (by kernel_rfl) ?_
      exact ret_e [(0, 0)] [] (by simp only [push_cast, seval]) (by simp only [push_cast, seval]) rfl rfl rfl
    · refine wk_id ?_
      refine wk_id ?_
      refine reg_f ?_
      refine rs 2 [] [] (by kernel_rfl) allP_nil ?_
      refine rf [(0, .sl s.length (fl s)), (1, .clo 34 [.ptr 0 0]), (7, iS ((s.length : Nat) : Int)), (8, iS (IntKind.i64.wrap (t8q7 + 1)))] [(0, .row 3 [iS r521.2])] 2 (by kernel_rfl) ?_
      exact hn2 ((IntKind.i64.wrap (t8q7 + 1)), r521.2) _ _ _ (Option.some.inj h).symm (leSt_m [(0, 0)] [] (by simp only [push_cast, seval]) (by simp only [push_cast, seval]) rfl rfl rfl)
  · change R2 (.exit 0) _ _ _
    refine ex_cast hx2 (id := 0) ?_
    obtain ⟨r0, h, e0⟩ := map_sx h
    have e1 := hr2 r0 e0.symm
    subst r0
    refine wk_id ?_
    refine wk_id ?_
    refine seq_np ?_
    refine reg_f ?_
    refine rs 1 [] [] (by kernel_rfl) allP_nil ?_
    refine rf [(4, iS (-1))] [(0, .row 3 [iS c0q9])] 1 (by kernel_rfl) ?_
    refine wk_id ?_
    obtain rfl := Option.some.inj h
    refine ret_at (iS (-1)) (by kernel_rfl) ?_
    exact ret_e [(0, 0)] [] (by simp only [push_cast, seval]) (by simp only [push_cast, seval]) rfl rfl rfl

set_option maxRecDepth 100000 in
set_option maxHeartbeats 200000000 in
theorem clock_find_spec (c : Clock) (xid : Int) (r : Int) (h : clock_find c xid = some r) : SpecW Try.prog 28 [.agg (Enc.cells c), iS xid] [] 0 (fun x h n => x = iS r ∧ h = [] ∧ n = 0) := by
  unfold clock_find at h
  refine spec_of (draw_ok _) Try.func28 rfl (by decide) rfl (by kernel_rfl) ?_
  refine seq_np ?_
  refine reg_f ?_
  refine rs 3 [] [] (by kernel_rfl) allP_nil ?_
  refine rf [(2, .ptr 0 0), (3, .ptr 1 0)] [(0, .row 24 (Enc.cells c)), (1, .row 3 [iS xid])] 2 (by kernel_rfl) ?_
  refine wk_id ?_
  refine seq_np ?_
  refine reg_f ?_
  refine rs 3 [] [] (by kernel_rfl) allP_nil ?_
  obtain ⟨r526, hr526, h⟩ := bind_sx h
  refine call_x (slices_IndexFunc_Alarm_spec c.List xid r526 hr526) (args := [.sl c.List.length (fl c.List), .clo 34 [.ptr 1 0]]) (dst := (some 8)) (by kernel_rfl) [(0, .row 24 (Enc.cells c)), (1, .row 3 [iS xid])] 2 (by kernel_rfl) [(0, 1)] [] (iS r526.1) [(1, .row 3 [iS r526.2]), (1, .dead)] (by simp only [push_cast, seval]) (by simp only [push_cast, seval]) (by kernel_rfl) (.inl rfl) (by simp only [push_cast, seval]) (by simp only [push_cast, seval]) ?_
  refine rs 1 [] [] (by kernel_rfl) allP_nil ?_
  refine rf [(4, iS r526.1)] [(0, .row 24 (Enc.cells c)), (1, .row 3 [iS r526.2])] 3 (by kernel_rfl) ?_
  refine wk_id ?_
  obtain rfl := Option.some.inj h
  refine ret_at (iS r526.1) (by kernel_rfl) ?_
  exact ret_e [] [] (by simp only [push_cast, seval]) (by simp only [push_cast, seval]) rfl rfl rfl

set_option maxRecDepth 100000 in
set_option maxHeartbeats 200000000 in
theorem slices_Delete_Alarm_1_spec (i : Int) (j : Int) (c0 : (List Alarm)) (r : (List Alarm)) (h : slices_Delete_Alarm_1 i j c0 = some r) : SpecW Try.prog 25 [.own 0 0 c0.length, iS i, iS j] [(0, .row 54 (fl c0))] 1 (fun x h n => x = .own 0 0 r.length ∧ h = [(0, .row 54 (fl r))] ∧ n = 1) := by
  unfold slices_Delete_Alarm_1 at h
  refine spec_of (draw_ok _) Try.func25 rfl (by decide) rfl (by kernel_rfl) ?_
  refine seq_np ?_
  refine reg_f ?_
  refine rs 1 [] [] (by kernel_rfl) allP_nil ?_
  refine rf [(0, .own 0 0 c0.length), (1, iS i), (2, iS j)] [(0, .row 54 (fl c0))] 1 (by kernel_rfl) ?_
  refine wk_id ?_
  refine chk_sx h (fun g561 h => ?_)
  refine seq_np ?_
  refine reg_f ?_
  have k560 : 0 ≤ i ∧ i ≤ j ∧ j ≤ ((c0.length : Nat) : Int) := by first | simpa only [Bool.and_eq_true, decide_eq_true_eq, bne_iff_ne, ne_eq] using g561 | (simp at g561 ⊢; omega)
  refine rs 5 [] [] (by kernel_rfl) allP_nil ?_
  refine run_bchk (some 13) [0] c0.length i j ((c0.length : Nat) : Int) (by kernel_rfl) ⟨k560.1, k560.2.1, by omega, by omega⟩ ?_
  refine rf [(0, .own 0 0 c0.length), (1, iS i), (2, iS j)] [(0, .row 54 (fl c0))] 1 (by kernel_rfl) ?_
  refine wk_id ?_
  refine seq_np ?_
  refine seq_np ?_
  refine reg_f ?_
  refine rs 3 [] [] (by kernel_rfl) allP_nil ?_
  refine rf [(0, .own 0 0 c0.length), (1, iS i), (2, iS j), (16, bS (i == j))] [(0, .row 54 (fl c0))] 1 (by kernel_rfl) ?_
  refine wk_id ?_
  refine cond_sx h (by kernel_rfl) (fun g603 h => ?_) (fun g603 h => ?_)
  · refine seq_np ?_
    refine reg_f ?_
    refine rs 2 [] [] (by kernel_rfl) allP_nil ?_
    refine rf [(6, .own 0 0 c0.length)] [(0, .row 54 (fl c0))] 1 (by kernel_rfl) ?_
    refine wk_id ?_
    obtain rfl := Option.some.inj h
    refine ret_at (.own 0 0 c0.length) (by kernel_rfl) ?_
    exact ret_e [(0, 0)] [] (by simp only [push_cast, seval]) (by simp only [push_cast, seval]) rfl rfl rfl
  · refine wk_id ?_
    refine seq_np ?_
    refine reg_f ?_
    refine rs 3 [] [] (by kernel_rfl) allP_nil ?_
    refine rf [(0, .own 0 0 c0.length), (1, iS i), (2, iS j), (7, iS ((c0.length : Nat) : Int))] [(0, .row 54 (fl c0))] 1 (by kernel_rfl) ?_
    refine wk_id ?_
    refine chk_sx h (fun g576 h => ?_)
    refine chk_sx h (fun g579 h => ?_)
    refine seq_np ?_
    refine reg_t ?_
    have k575 : 0 ≤ (0 : Int) ∧ (0 : Int) ≤ i ∧ i ≤ ((c0.length : Nat) : Int) := by first | simpa only [Bool.and_eq_true, decide_eq_true_eq, bne_iff_ne, ne_eq] using g576 | (simp at g576 ⊢; omega)
    have f577 : (cut c0 (0 : Int) i).length = (i).toNat - ((0 : Int)).toNat ∧ 0 ≤ (0 : Int) ∧ (0 : Int) ≤ i ∧ i ≤ ((c0.length : Nat) : Int) := ⟨cut_len _ _ _ k575, k575⟩
    have k578 : 0 ≤ j ∧ j ≤ ((c0.length : Nat) : Int) ∧ ((c0.length : Nat) : Int) ≤ ((c0.length : Nat) : Int) := by first | simpa only [Bool.and_eq_true, decide_eq_true_eq, bne_iff_ne, ne_eq] using g579 | (simp at g579 ⊢; omega)
    have f580 : (cut c0 j ((c0.length : Nat) : Int)).length = (((c0.length : Nat) : Int)).toNat - (j).toNat ∧ 0 ≤ j ∧ j ≤ ((c0.length : Nat) : Int) ∧ ((c0.length : Nat) : Int) ≤ ((c0.length : Nat) : Int) := ⟨cut_len _ _ _ k578, k578⟩
    refine rs 6 [none, none, some ⟨.own 0 (((0 : Int)).toNat * 4) (cut c0 (0 : Int) i).length, [], 3, [0]⟩, none, none, some ⟨.own 0 ((j).toNat * 4) (cut c0 j ((c0.length : Nat) : Int)).length, [], 6, [0]⟩] _ (by kernel_rfl) (allP_cons (ob_cutP (P := Try.prog) c0 j ((c0.length : Nat) : Int) 4 6 0 54 (by kernel_rfl) k578) (allP_cons (ob_cutP (P := Try.prog) c0 (0 : Int) i 4 3 0 54 (by kernel_rfl) k575) allP_nil)) ?_
    have k583 : i + ((((cut c0 j ((c0.length : Nat) : Int))).length : Nat) : Int) ≤ ((c0.length : Nat) : Int) := by omega
    have k582 : (putL c0 (cut c0 j ((c0.length : Nat) : Int)) (i).toNat).length = c0.length := putL_len (by omega)
    refine run_appIn c0 (cut c0 j ((c0.length : Nat) : Int)) (some 26) 0 (((0 : Int)).toNat * 4) (cut c0 (0 : Int) i).length 4 (cut c0 j ((c0.length : Nat) : Int)).length 54 22 (.own 0 ((j).toNat * 4) (cut c0 j ((c0.length : Nat) : Int)).length) (appCells (fl c0) ((j).toNat * 4) ((cut c0 j ((c0.length : Nat) : Int)).length * 4)) [0] (((j).toNat * 4) + (cut c0 j ((c0.length : Nat) : Int)).length * 4 ≤ (fl c0).length) (0 : Int) i (by kernel_rfl) (by kernel_rfl) (app_cut_le c0 j ((c0.length : Nat) : Int) 4 rfl k578) (app_cut c0 j ((c0.length : Nat) : Int) 4 rfl) rfl rfl (by decide) (by first | rfl | simp) f577 k583 ?_
    have f581 : ((cut c0 (0 : Int) i).length + (cut c0 j ((c0.length : Nat) : Int)).length) = ((i + (((cut c0 j ((c0.length : Nat) : Int)).length : Nat) : Int))).toNat - ((0 : Int)).toNat ∧ 0 ≤ (0 : Int) ∧ (0 : Int) ≤ (i + (((cut c0 j ((c0.length : Nat) : Int)).length : Nat) : Int)) ∧ (i + (((cut c0 j ((c0.length : Nat) : Int)).length : Nat) : Int)) ≤ (((putL c0 (cut c0 j ((c0.length : Nat) : Int)) (i).toNat).length : Nat) : Int) := by omega
    have f584 : (cut c0 (0 : Int) i).length = (i).toNat - ((0 : Int)).toNat ∧ 0 ≤ (0 : Int) ∧ (0 : Int) ≤ i ∧ i ≤ (((putL c0 (cut c0 j ((c0.length : Nat) : Int)) (i).toNat).length : Nat) : Int) := ⟨f577.1, f577.2.1, f577.2.2.1, by rw [k582]; exact f577.2.2.2⟩
    have f585 : (cut c0 j ((c0.length : Nat) : Int)).length = (((c0.length : Nat) : Int)).toNat - (j).toNat ∧ 0 ≤ j ∧ j ≤ ((c0.length : Nat) : Int) ∧ ((c0.length : Nat) : Int) ≤ (((putL c0 (cut c0 j ((c0.length : Nat) : Int)) (i).toNat).length : Nat) : Int) := ⟨f580.1, f580.2.1, f580.2.2.1, by rw [k582]; exact f580.2.2.2⟩
    refine run_eqF 0 (.own 0 0 c0.length) (.own 0 0 (putL c0 (cut c0 j ((c0.length : Nat) : Int)) (i).toNat).length) (congrArg (fun nq => (.own 0 0 nq : SV)) (show c0.length = (putL c0 (cut c0 j ((c0.length : Nat) : Int)) (i).toNat).length from k582.symm)) (by kernel_rfl) ?_
    have t586 : (cut (putL c0 (cut c0 j ((c0.length : Nat) : Int)) (i).toNat) 0 (i + (((cut c0 j ((c0.length : Nat) : Int)).length : Nat) : Int))).length = ((cut c0 (0 : Int) i).length + (cut c0 j ((c0.length : Nat) : Int)).length) := by rw [cut_len _ _ _ f581.2]; exact f581.1.symm
    refine rs 1 [] [] (by kernel_rfl) allP_nil ?_
    refine rt [(0, .own 0 (((0 : Int)).toNat * 4) ((cut c0 (0 : Int) i).length + (cut c0 j ((c0.length : Nat) : Int)).length)), (7, iS ((c0.length : Nat) : Int))] [(0, .row 54 (fl (putL c0 (cut c0 j ((c0.length : Nat) : Int)) (i).toNat)))] 9 follows (by kernel_rfl) ?_
    refine wk_id ?_
    refine seq_np ?_
    refine reg_f ?_
    refine rs 4 [] [] (by kernel_rfl) allP_nil ?_
    have k596 : 0 ≤ ((((cut c0 (0 : Int) i).length + (cut c0 j ((c0.length : Nat) : Int)).length) : Nat) : Int) ∧ ((((cut c0 (0 : Int) i).length + (cut c0 j ((c0.length : Nat) : Int)).length) : Nat) : Int) ≤ ((c0.length : Nat) : Int) ∧ (0 : Int) + ((c0.length : Nat) : Int) ≤ (((putL c0 (cut c0 j ((c0.length : Nat) : Int)) (i).toNat).length : Nat) : Int) := by omega
    have f595 : ((((c0.length : Nat) : Int)).toNat - (((((cut c0 (0 : Int) i).length + (cut c0 j ((c0.length : Nat) : Int)).length) : Nat) : Int)).toNat) = (((c0.length : Nat) : Int)).toNat - (((((cut c0 (0 : Int) i).length + (cut c0 j ((c0.length : Nat) : Int)).length) : Nat) : Int)).toNat ∧ 0 ≤ ((((cut c0 (0 : Int) i).length + (cut c0 j ((c0.length : Nat) : Int)).length) : Nat) : Int) ∧ ((((cut c0 (0 : Int) i).length + (cut c0 j ((c0.length : Nat) : Int)).length) : Nat) : Int) ≤ ((c0.length : Nat) : Int) ∧ ((c0.length : Nat) : Int) ≤ (((putL c0 (cut c0 j ((c0.length : Nat) : Int)) (i).toNat).length : Nat) : Int) := by omega
    refine run_sub (putL c0 (cut c0 j ((c0.length : Nat) : Int)) (i).toNat) (some 31) 0 (((0 : Int)).toNat * 4) ((cut c0 (0 : Int) i).length + (cut c0 j ((c0.length : Nat) : Int)).length) 4 54 ((((cut c0 (0 : Int) i).length + (cut c0 j ((c0.length : Nat) : Int)).length) : Nat) : Int) ((c0.length : Nat) : Int) (0 : Int) (by kernel_rfl) rfl (by decide) (by first | rfl | simp) f581.2.1 k596 ((((((cut c0 (0 : Int) i).length + (cut c0 j ((c0.length : Nat) : Int)).length) : Nat) : Int)).toNat * 4) ((((c0.length : Nat) : Int)).toNat - (((((cut c0 (0 : Int) i).length + (cut c0 j ((c0.length : Nat) : Int)).length) : Nat) : Int)).toNat) (by first | rfl | rw [Int.zero_add]) rfl ?_
    have k597 : (wipe (putL c0 (cut c0 j ((c0.length : Nat) : Int)) (i).toNat) ((((cut c0 (0 : Int) i).length + (cut c0 j ((c0.length : Nat) : Int)).length) : Nat) : Int) ((c0.length : Nat) : Int)).length = (putL c0 (cut c0 j ((c0.length : Nat) : Int)) (i).toNat).length := wipe_len (by omega)
    refine run_clr (putL c0 (cut c0 j ((c0.length : Nat) : Int)) (i).toNat) none 0 ((((((cut c0 (0 : Int) i).length + (cut c0 j ((c0.length : Nat) : Int)).length) : Nat) : Int)).toNat * 4) ((((c0.length : Nat) : Int)).toNat - (((((cut c0 (0 : Int) i).length + (cut c0 j ((c0.length : Nat) : Int)).length) : Nat) : Int)).toNat) 4 54 [.v (.int .i64 0), .v (.int .i64 0), .v (.int .i64 0), .v (.int .i64 0)] ((((cut c0 (0 : Int) i).length + (cut c0 j ((c0.length : Nat) : Int)).length) : Nat) : Int) ((c0.length : Nat) : Int) (by kernel_rfl) rfl rfl (by decide) (by first | rfl | simp) f595 ?_
    have f598 : (cut c0 (0 : Int) i).length = (i).toNat - ((0 : Int)).toNat ∧ 0 ≤ (0 : Int) ∧ (0 : Int) ≤ i ∧ i ≤ (((wipe (putL c0 (cut c0 j ((c0.length : Nat) : Int)) (i).toNat) ((((cut c0 (0 : Int) i).length + (cut c0 j ((c0.length : Nat) : Int)).length) : Nat) : Int) ((c0.length : Nat) : Int)).length : Nat) : Int) := ⟨f584.1, f584.2.1, f584.2.2.1, by rw [k597]; exact f584.2.2.2⟩
    have f599 : (cut c0 j ((c0.length : Nat) : Int)).length = (((c0.length : Nat) : Int)).toNat - (j).toNat ∧ 0 ≤ j ∧ j ≤ ((c0.length : Nat) : Int) ∧ ((c0.length : Nat) : Int) ≤ (((wipe (putL c0 (cut c0 j ((c0.length : Nat) : Int)) (i).toNat) ((((cut c0 (0 : Int) i).length + (cut c0 j ((c0.length : Nat) : Int)).length) : Nat) : Int) ((c0.length : Nat) : Int)).length : Nat) : Int) := ⟨f585.1, f585.2.1, f585.2.2.1, by rw [k597]; exact f585.2.2.2⟩
    have f600 : ((cut c0 (0 : Int) i).length + (cut c0 j ((c0.length : Nat) : Int)).length) = ((i + (((cut c0 j ((c0.length : Nat) : Int)).length : Nat) : Int))).toNat - ((0 : Int)).toNat ∧ 0 ≤ (0 : Int) ∧ (0 : Int) ≤ (i + (((cut c0 j ((c0.length : Nat) : Int)).length : Nat) : Int)) ∧ (i + (((cut c0 j ((c0.length : Nat) : Int)).length : Nat) : Int)) ≤ (((wipe (putL c0 (cut c0 j ((c0.length : Nat) : Int)) (i).toNat) ((((cut c0 (0 : Int) i).length + (cut c0 j ((c0.length : Nat) : Int)).length) : Nat) : Int) ((c0.length : Nat) : Int)).length : Nat) : Int) := ⟨f581.1, f581.2.1, f581.2.2.1, by rw [k597]; exact f581.2.2.2⟩
    have t601 : (cut (wipe (putL c0 (cut c0 j ((c0.length : Nat) : Int)) (i).toNat) ((((cut c0 (0 : Int) i).length + (cut c0 j ((c0.length : Nat) : Int)).length) : Nat) : Int) ((c0.length : Nat) : Int)) 0 (i + (((cut c0 j ((c0.length : Nat) : Int)).length : Nat) : Int))).length = ((cut c0 (0 : Int) i).length + (cut c0 j ((c0.length : Nat) : Int)).length) := by rw [cut_len _ _ _ f600.2]; exact f600.1.symm
    have f602 : ((((c0.length : Nat) : Int)).toNat - (((((cut c0 (0 : Int) i).length + (cut c0 j ((c0.length : Nat) : Int)).length) : Nat) : Int)).toNat) = (((c0.length : Nat) : Int)).toNat - (((((cut c0 (0 : Int) i).length + (cut c0 j ((c0.length : Nat) : Int)).length) : Nat) : Int)).toNat ∧ 0 ≤ ((((cut c0 (0 : Int) i).length + (cut c0 j ((c0.length : Nat) : Int)).length) : Nat) : Int) ∧ ((((cut c0 (0 : Int) i).length + (cut c0 j ((c0.length : Nat) : Int)).length) : Nat) : Int) ≤ ((c0.length : Nat) : Int) ∧ ((c0.length : Nat) : Int) ≤ (((wipe (putL c0 (cut c0 j ((c0.length : Nat) : Int)) (i).toNat) ((((cut c0 (0 : Int) i).length + (cut c0 j ((c0.length : Nat) : Int)).length) : Nat) : Int) ((c0.length : Nat) : Int)).length : Nat) : Int) := ⟨f595.1, f595.2.1, f595.2.2.1, by rw [k597]; exact f595.2.2.2⟩
    refine rf [(0, .own 0 (((0 : Int)).toNat * 4) ((cut c0 (0 : Int) i).length + (cut c0 j ((c0.length : Nat) : Int)).length))] [(0, .row 54 (fl (wipe (putL c0 (cut c0 j ((c0.length : Nat) : Int)) (i).toNat) ((((cut c0 (0 : Int) i).length + (cut c0 j ((c0.length : Nat) : Int)).length) : Nat) : Int) ((c0.length : Nat) : Int))))] 9 (by kernel_rfl) ?_
    refine wk_id ?_
    refine seq_np ?_
    refine reg_f ?_
    refine rs 2 [] [] (by kernel_rfl) allP_nil ?_
    refine rf [(6, .own 0 (((0 : Int)).toNat * 4) ((cut c0 (0 : Int) i).length + (cut c0 j ((c0.length : Nat) : Int)).length))] [(0, .row 54 (fl (wipe (putL c0 (cut c0 j ((c0.length : Nat) : Int)) (i).toNat) ((((cut c0 (0 : Int) i).length + (cut c0 j ((c0.length : Nat) : Int)).length) : Nat) : Int) ((c0.length : Nat) : Int))))] 9 (by kernel_rfl) ?_
    refine wk_id ?_
    obtain rfl := Option.some.inj h
    refine ret_at (.own 0 (((0 : Int)).toNat * 4) ((cut c0 (0 : Int) i).length + (cut c0 j ((c0.length : Nat) : Int)).length)) (by kernel_rfl) ?_
    exact ret_e [(0, 0)] [] (by (try simp only [t601]) <;> simp only [push_cast, seval]) (by (try simp only [t601]) <;> simp only [push_cast, seval]) rfl rfl rfl

set_option maxRecDepth 100000 in
set_option maxHeartbeats 200000000 in
theorem slices_BinarySearchFunc_Alarm_spec (x : (List Alarm)) (target : Alarm) (r : Int × Bool) (h : slices_BinarySearchFunc_Alarm x target = some r) : SpecW Try.prog 31 [.sl x.length (fl x), .agg (Enc.cells target), .v (.func (.func 29) #[] #[])] [] 0 (fun x h n => x = .tup [iS r.1, bS r.2] ∧ h = [] ∧ n = 0) := by
  unfold slices_BinarySearchFunc_Alarm at h
  refine spec_of (draw_ok _) Try.func31 rfl (by decide) rfl (by kernel_rfl) ?_
  refine seq_np ?_
  refine reg_f ?_
  refine rs 3 [] [] (by kernel_rfl) allP_nil ?_
  refine rf [(0, .sl x.length (fl x)), (2, .v (.func (.func 29) #[] #[])), (4, .ptr 0 0)] [(0, .row 54 (Enc.cells target))] 1 (by kernel_rfl) ?_
  refine wk_id ?_
  refine seq_np ?_
  refine reg_f ?_
  refine rs 3 [] [] (by kernel_rfl) allP_nil ?_
  refine rf [(0, .sl x.length (fl x)), (2, .v (.func (.func 29) #[] #[])), (4, .ptr 0 0), (8, iS ((x.length : Nat) : Int))] [(0, .row 54 (Enc.cells target))] 1 (by kernel_rfl) ?_
  refine wk_id ?_
  refine seq_np ?_
  refine reg_f ?_
  refine rs 3 [] [] (by kernel_rfl) allP_nil ?_
  refine rf [(0, .sl x.length (fl x)), (2, .v (.func (.func 29) #[] #[])), (4, .ptr 0 0), (8, iS ((x.length : Nat) : Int)), (9, iS 0), (10, iS ((x.length : Nat) : Int))] [(0, .row 54 (Enc.cells target))] 1 (by kernel_rfl) ?_
  refine wk_id ?_
  refine seq_np ?_
  refine block_np ?_
  refine loop_sx (S := Int × Int) (fun a => ([(0, .sl x.length (fl x)), (2, .v (.func (.func 29) #[] #[])), (4, .ptr 0 0), (8, iS ((x.length : Nat) : Int)), (9, iS a.1), (10, iS a.2)], [(0, .row 54 (Enc.cells target))], 1)) h (leSt_m [(0, 0)] [] (by simp only [push_cast, seval]) (by simp only [push_cast, seval]) rfl rfl rfl) ?_
  rintro ⟨i18, j18⟩ o2 R2 h hr2 hn2 hx2 ht2
  try dsimp only at h hn2 ⊢
  unfold slices_BinarySearchFunc_Alarm_l1 at h
  try dsimp only at h
  refine seq_np ?_
  refine seq_np ?_
  refine reg_f ?_
  refine rs 3 [] [] (by kernel_rfl) allP_nil ?_
  refine rf [(0, .sl x.length (fl x)), (2, .v (.func (.func 29) #[] #[])), (4, .ptr 0 0), (8, iS ((x.length : Nat) : Int)), (9, iS i18), (10, iS j18), (17, bS (decide (i18 < j18)))] [(0, .row 54 (Enc.cells target))] 1 (by kernel_rfl) ?_
  refine wk_id ?_
  refine cond_sx h (by kernel_rfl) (fun g717 h => ?_) (fun g717 h => ?_)
  · refine wk_id ?_
    refine block_np ?_
    refine seq_np ?_
    refine reg_f ?_
    refine rs 7 [] [] (by kernel_rfl) allP_nil ?_
    refine rf [(0, .sl x.length (fl x)), (2, .v (.func (.func 29) #[] #[])), (4, .ptr 0 0), (8, iS ((x.length : Nat) : Int)), (9, iS i18), (10, iS j18), (11, iS (IntKind.i64.wrap (Int.fdiv (IntKind.u64.wrap (IntKind.i64.wrap (i18 + j18))) (2 ^ (min ((1 : Int)).toNat (IntKind.u64).bits)))))] [(0, .row 54 (Enc.cells target))] 1 (by kernel_rfl) ?_
    refine wk_id ?_
    refine chk_sx h (fun g704 h => ?_)
    refine seq_np ?_
    refine reg_t ?_
    have k703 : 0 ≤ (IntKind.i64.wrap (Int.fdiv (IntKind.u64.wrap (IntKind.i64.wrap (i18 + j18))) (2 ^ (min ((1 : Int)).toNat (IntKind.u64).bits)))) ∧ (IntKind.i64.wrap (Int.fdiv (IntKind.u64.wrap (IntKind.i64.wrap (i18 + j18))) (2 ^ (min ((1 : Int)).toNat (IntKind.u64).bits)))) < ((x.length : Nat) : Int) := by first | simpa only [Bool.and_eq_true, decide_eq_true_eq, bne_iff_ne, ne_eq] using g704 | (simp at g704 ⊢; omega)
    refine rs 6 [none, none, none, some ⟨.iptr (fl x) (((IntKind.i64.wrap (Int.fdiv (IntKind.u64.wrap (IntKind.i64.wrap (i18 + j18))) (2 ^ (min ((1 : Int)).toNat (IntKind.u64).bits))))).toNat * 4), [], 4, []⟩, some ⟨.agg (Enc.cells (ix x (IntKind.i64.wrap (Int.fdiv (IntKind.u64.wrap (IntKind.i64.wrap (i18 + j18))) (2 ^ (min ((1 : Int)).toNat (IntKind.u64).bits)))))), [], 5, []⟩] _ (by kernel_rfl) (allP_cons (ob_ldw x (IntKind.i64.wrap (Int.fdiv (IntKind.u64.wrap (IntKind.i64.wrap (i18 + j18))) (2 ^ (min ((1 : Int)).toNat (IntKind.u64).bits)))) 4 (((IntKind.i64.wrap (Int.fdiv (IntKind.u64.wrap (IntKind.i64.wrap (i18 + j18))) (2 ^ (min ((1 : Int)).toNat (IntKind.u64).bits))))).toNat * 4) k703 rfl (by first | rfl | omega) [iS (ix x (IntKind.i64.wrap (Int.fdiv (IntKind.u64.wrap (IntKind.i64.wrap (i18 + j18))) (2 ^ (min ((1 : Int)).toNat (IntKind.u64).bits))))).Id, iS (ix x (IntKind.i64.wrap (Int.fdiv (IntKind.u64.wrap (IntKind.i64.wrap (i18 + j18))) (2 ^ (min ((1 : Int)).toNat (IntKind.u64).bits))))).When, iS (ix x (IntKind.i64.wrap (Int.fdiv (IntKind.u64.wrap (IntKind.i64.wrap (i18 + j18))) (2 ^ (min ((1 : Int)).toNat (IntKind.u64).bits))))).Period, iS (ix x (IntKind.i64.wrap (Int.fdiv (IntKind.u64.wrap (IntKind.i64.wrap (i18 + j18))) (2 ^ (min ((1 : Int)).toNat (IntKind.u64).bits))))).Seq] rfl 5 []) (allP_cons (ob_ix_l x 4 4 (IntKind.i64.wrap (Int.fdiv (IntKind.u64.wrap (IntKind.i64.wrap (i18 + j18))) (2 ^ (min ((1 : Int)).toNat (IntKind.u64).bits)))) k703) allP_nil)) ?_
    obtain ⟨r705, hr705, h⟩ := bind_sx h
    refine run_call 29 [.agg (Enc.cells (ix x (IntKind.i64.wrap (Int.fdiv (IntKind.u64.wrap (IntKind.i64.wrap (i18 + j18))) (2 ^ (min ((1 : Int)).toNat (IntKind.u64).bits)))))), .agg (Enc.cells target)] (some 30) (by kernel_rfl) ?_
    refine callE_0 (clock_order_spec (ix x (IntKind.i64.wrap (Int.fdiv (IntKind.u64.wrap (IntKind.i64.wrap (i18 + j18))) (2 ^ (min ((1 : Int)).toNat (IntKind.u64).bits))))) target r705 hr705) (by simp only [push_cast, seval]) (by simp only [push_cast, seval]) ?_
    refine back_t ?_
    refine rs 1 [] [] (by kernel_rfl) allP_nil ?_
    refine rt [(0, .sl x.length (fl x)), (2, .v (.func (.func 29) #[] #[])), (4, .ptr 0 0), (8, iS ((x.length : Nat) : Int)), (9, iS i18), (10, iS j18), (11, iS (IntKind.i64.wrap (Int.fdiv (IntKind.u64.wrap (IntKind.i64.wrap (i18 + j18))) (2 ^ (min ((1 : Int)).toNat (IntKind.u64).bits))))), (31, bS (decide (r705 < 0)))] [(0, .row 54 (Enc.cells target))] 9 follows (by kernel_rfl) ?_
    refine wk_id ?_
    refine cond_sx h (by kernel_rfl) (fun g706 h => ?_) (fun g706 h => ?_)
    · refine reg_f ?_
      refine rs 3 [] [] (by kernel_rfl) allP_nil ?_
      refine rf [(0, .sl x.length (fl x)), (2, .v (.func (.func 29) #[] #[])), (4, .ptr 0 0), (8, iS ((x.length : Nat) : Int)), (9, iS (IntKind.i64.wrap ((IntKind.i64.wrap (Int.fdiv (IntKind.u64.wrap (IntKind.i64.wrap (i18 + j18))) (2 ^ (min ((1 : Int)).toNat (IntKind.u64).bits)))) + 1))), (10, iS j18)] [(0, .row 54 (Enc.cells target))] 9 (by kernel_rfl) ?_
      refine wk_id ?_
      exact hn2 ((IntKind.i64.wrap ((IntKind.i64.wrap (Int.fdiv (IntKind.u64.wrap (IntKind.i64.wrap (i18 + j18))) (2 ^ (min ((1 : Int)).toNat (IntKind.u64).bits)))) + 1)), j18) _ _ _ (Option.some.inj h).symm (leSt_m [(0, 0)] [] (by simp only [push_cast, seval]) (by simp only [push_cast, seval]) rfl rfl rfl)
    · refine reg_f ?_
      refine rs 2 [] [] (by kernel_rfl) allP_nil ?_
      refine rf [(0, .sl x.length (fl x)), (2, .v (.func (.func 29) #[] #[])), (4, .ptr 0 0), (8, iS ((x.length : Nat) : Int)), (9, iS i18), (10, iS (IntKind.i64.wrap (Int.fdiv (IntKind.u64.wrap (IntKind.i64.wrap (i18 + j18))) (2 ^ (min ((1 : Int)).toNat (IntKind.u64).bits)))))] [(0, .row 54 (Enc.cells target))] 9 (by kernel_rfl) ?_
      refine wk_id ?_
      exact hn2 (i18, (IntKind.i64.wrap (Int.fdiv (IntKind.u64.wrap (IntKind.i64.wrap (i18 + j18))) (2 ^ (min ((1 : Int)).toNat (IntKind.u64).bits))))) _ _ _ (Option.some.inj h).symm (leSt_m [(0, 0)] [] (by simp only [push_cast, seval]) (by simp only [push_cast, seval]) rfl rfl rfl)
  · change R2 (.exit 0) _ _ _
    refine ex_cast hx2 (id := 0) ?_
    obtain ⟨r0, h, e0⟩ := map_sx h
    have e1 := hr2 r0 e0.symm
    subst r0
    refine wk_id ?_
    refine wk_id ?_
    refine seq_cut (A := Bool) (fun a => ([(6, iS i18), (7, bS a)], [], 0)) (fun a => (slices_BinarySearchFunc_Alarm_j1 i18 a) = some r) (fun K712 hK712 => ?_) ?_
    · refine reg_t ?_
      refine rs 5 [] [] (by kernel_rfl) allP_nil ?_
      refine run_br h 39 (.inl (by kernel_rfl)) (fun g713 h => ?_) (fun g713 h => ?_)
      · refine chk_sx h (fun g715 h => ?_)
        have k714 : 0 ≤ i18 ∧ i18 < ((x.length : Nat) : Int) := by first | simpa only [Bool.and_eq_true, decide_eq_true_eq, bne_iff_ne, ne_eq] using g715 | (simp at g715 ⊢; omega)
        refine rs 6 [none, none, none, some ⟨.iptr (fl x) ((i18).toNat * 4), [], 9, []⟩, some ⟨.agg (Enc.cells (ix x i18)), [], 10, []⟩] _ (by kernel_rfl) (allP_cons (ob_ldw x i18 4 ((i18).toNat * 4) k714 rfl (by first | rfl | omega) [iS (ix x i18).Id, iS (ix x i18).When, iS (ix x i18).Period, iS (ix x i18).Seq] rfl 10 []) (allP_cons (ob_ix_l x 4 9 i18 k714) allP_nil)) ?_
        obtain ⟨r716, hr716, h⟩ := bind_sx h
        refine run_call 29 [.agg (Enc.cells (ix x i18)), .agg (Enc.cells target)] (some 46) (by kernel_rfl) ?_
        refine callE_0 (clock_order_spec (ix x i18) target r716 hr716) (by simp only [push_cast, seval]) (by simp only [push_cast, seval]) ?_
        refine back_t ?_
        refine rs 4 [] [] (by kernel_rfl) allP_nil ?_
        refine rt [(6, iS i18), (7, bS (r716 == 0))] [(0, .row 54 (Enc.cells target))] 17 follows (by kernel_rfl) ?_
        exact hK712 ((r716 == 0)) _ _ _ h (leSt_m [] [] (by (try simp only [g713]) <;> simp only [push_cast, seval]) (by (try simp only [g713]) <;> simp only [push_cast, seval]) rfl rfl rfl)
      · refine rs 11 [] [] (by kernel_rfl) allP_nil ?_
        refine rt [(6, iS i18), (7, bS false)] [(0, .row 54 (Enc.cells target))] 17 follows (by kernel_rfl) ?_
        exact hK712 (false) _ _ _ h (leSt_m [] [] (by (try simp only [g713]) <;> simp only [push_cast, seval]) (by (try simp only [g713]) <;> simp only [push_cast, seval]) rfl rfl rfl)
    · rintro t7q1 h
      try dsimp only at h ⊢
      unfold slices_BinarySearchFunc_Alarm_j1 at h
      obtain rfl := Option.some.inj h
      refine ret_at (.tup [iS i18, bS t7q1]) (by kernel_rfl) ?_
      exact ret_e [] [] (by simp only [push_cast, seval]) (by simp only [push_cast, seval]) rfl rfl rfl

set_option maxRecDepth 100000 in
set_option maxHeartbeats 200000000 in
theorem slices_Insert_Alarm_shift_spec (b off n c i vc : Nat) (va : Option Addr) (w W1 W2 : World) (x1 x2 : Value) (hi : i < n) (hroom : n + 1 ≤ c) (hc63 : c ≤ 9223372036854775807)
    (hov : ∀ lb cb, (callFunc 37 #[.slice va 1 vc, .slice (some ⟨b, off + (i + 1) * 4, none⟩) lb cb]).run Try.prog w = .ok (.value (.bool false)) w)
    (hcp1 : ∀ ty dc sc, (Builtin.copy_ #[22, 22] ty #[.slice (some ⟨b, off + (i + 1) * 4, none⟩) (n - i) dc, .slice (some ⟨b, off + i * 4, none⟩) (n + 1 - i) sc]).run Try.prog w.drew = .ok x1 W1)
    (hcp2 : ∀ ty dc, (Builtin.copy_ #[22, 22] ty #[.slice (some ⟨b, off + i * 4, none⟩) (n + 1 - i) dc, .slice va 1 vc]).run Try.prog W1 = .ok x2 W2) :
    Calls Try.prog 32 #[.slice (some ⟨b, off, none⟩) n c, .int .i64 i, .slice va 1 vc] w fun e w' => e = .returned (.slice (some ⟨b, off, none⟩) (n + 1) c) ∧ w' = W2 := by
  have mixed := follows
  have hw1 : IntKind.i64.wrap ((i : Int) + 1) = (i : Int) + 1 := by rw [IntKind.wrap_i64]; omega
  have hw2 : IntKind.i64.wrap ((n : Int) + 1) = (n : Int) + 1 := by rw [IntKind.wrap_i64]; omega
  have hz2 : ¬ ((i : Int) = (n : Int)) := by omega
  have hb1 : (0 : Int) ≤ (i : Int) + 1 := by omega
  have hin : i ≤ n := by omega
  have htn : ((i : Int) + 1).toNat = i + 1 := by omega
  have hb3 : (i : Int) ≤ (n : Int) + 1 := by omega
  have hb4 : ¬ (c = i) := by omega
  have hb5 : ¬ (c = i + 1) := by omega
  go_enter Try.func32, Try.ntmps32
  go_wp2_with (simp only [hov])
  go_region_law_o (refine Go.Proofs.step_copy_runI rfl _ _ 22 22 rfl _ _ (by simp [Act.eval, Act.put]) (by simp [Act.eval, Act.put]) (hcp1 _ _ _) ?_)
  go_wp2_with (at_builtin; refine Go.Proofs.wpList_copy_runI _ rfl _ _ 22 22 rfl _ _ rfl rfl (hcp2 _ _) ?_)
  go_ret
  exact ⟨rfl, rfl⟩
set_option maxRecDepth 100000 in
set_option maxHeartbeats 4000000 in
theorem slices_Insert_Alarm_grow_spec (b off n c i vc : Nat) (va : Option Addr) (nb g : Nat) (w W0 W1 W2 : World) (x1 x2 : Value) (hi : i < n) (hnc : n ≤ c) (hroom : c < n + 1) (hc63 : n + 1 ≤ g) (hg63 : g ≤ 9223372036854775807)
    (hap : ∀ ty, (Builtin.append_ #[22, 3] ty #[.slice (some ⟨b, off, none⟩) i c, .int .i64 ((n : Int) + 1 - i)]).run Try.prog w = .ok (.slice (some ⟨nb, 0, none⟩) (n + 1) g) W0)
    (hcp1 : ∀ ty dc, (Builtin.copy_ #[22, 22] ty #[.slice (some ⟨nb, i * 4, none⟩) (n + 1 - i) dc, .slice va 1 vc]).run Try.prog W0 = .ok x1 W1)
    (hcp2 : ∀ ty dc sc, (Builtin.copy_ #[22, 22] ty #[.slice (some ⟨nb, (i + 1) * 4, none⟩) (n - i) dc, .slice (some ⟨b, off + i * 4, none⟩) (n - i) sc]).run Try.prog W1.drew = .ok x2 W2) :
    Calls Try.prog 32 #[.slice (some ⟨b, off, none⟩) n c, .int .i64 i, .slice va 1 vc] w fun e w' => e = .returned (.slice (some ⟨nb, 0, none⟩) (n + 1) g) ∧ w' = W2 := by
  have mixed := follows
  have hw1 : IntKind.i64.wrap ((i : Int) + 1) = (i : Int) + 1 := by rw [IntKind.wrap_i64]; omega
  have hw2 : IntKind.i64.wrap ((n : Int) + 1) = (n : Int) + 1 := by rw [IntKind.wrap_i64]; omega
  have hz2 : ¬ ((i : Int) = (n : Int)) := by omega
  have hb1 : (0 : Int) ≤ (i : Int) + 1 := by omega
  have hin : i ≤ n := by omega
  have htn : ((i : Int) + 1).toNat = i + 1 := by omega
  have hb3 : (i : Int) ≤ (n : Int) + 1 := by omega
  have hb4 : ¬ (c = i) := by omega
  have hz3 : (c : Int) < (n : Int) + 1 := by omega
  have hb5 : ¬ (g = i) := by omega
  have hb6 : i ≤ g := by omega
  have hb7 : ¬ (g = i + 1) := by omega
  go_enter Try.func32, Try.ntmps32
  go_wp2_with (at_builtin; first | refine Go.Lib.wpList_append_run _ rfl _ _ _ _ rfl _ _ rfl rfl _ _ (hap _) ?_ | refine Go.Proofs.wpList_copy_runI _ rfl _ _ 22 22 rfl _ _ rfl rfl (hcp1 _ _) ?_)
  go_region_law_o (refine Go.Proofs.step_copy_runI rfl _ _ 22 22 rfl _ _ (by simp [Act.eval, Act.put]) (by simp [Act.eval, Act.put]) (hcp2 _ _ _) ?_)
  go_wp2
  go_ret
  exact ⟨rfl, rfl⟩
set_option maxRecDepth 100000 in
set_option maxHeartbeats 4000000 in
theorem slices_Insert_Alarm_end_spec (a : Option Addr) (n c vc : Nat) (va : Option Addr) (w W1 : World) (x : Value) (hnc : n ≤ c) (hc63 : c ≤ 9223372036854775807) (hnil : a = none → n = 0)
    (hap : (Builtin.append_ #[22, 22] 22 #[.slice a n c, .slice va 1 vc]).run Try.prog w = .ok x W1) :
    Calls Try.prog 32 #[.slice a n c, .int .i64 n, .slice va 1 vc] w fun e w' => e = .returned x ∧ w' = W1 := by
  have mixed := follows
  go_enter Try.func32, Try.ntmps32
  cases a with
  | none =>
    have := hnil rfl
    subst this
    go_wp2_with (at_builtin; refine Go.Lib.wpList_append_run _ rfl _ _ _ _ rfl _ _ rfl rfl _ _ hap ?_)
    all_goals (go_ret; exact ⟨rfl, rfl⟩)
  | some a =>
    obtain ⟨ab, ao, asp⟩ := a
    go_wp2_with (at_builtin; refine Go.Lib.wpList_append_run _ rfl _ _ _ _ rfl _ _ rfl rfl _ _ hap ?_)
    all_goals (go_ret; exact ⟨rfl, rfl⟩)
set_option maxRecDepth 100000 in
set_option maxHeartbeats 4000000 in
theorem slices_Insert_Alarm_spec (i : Int) (c0 : (List Alarm)) (c1 : (List Alarm)) (r : List Alarm) (h : slices_Insert_Alarm i c0 c1 = some r) : SpecW Try.prog 32 [.own 0 0 c0.length, iS i, .own 1 0 c1.length] [(0, .row 54 (fl c0)), (1, .row 54 (fl c1))] 2 (fun x h n => x = .own 2 0 r.length ∧ h = [(0, .dead), (1, .dead), (2, .row 54 (fl r))] ∧ n = 3) := by
  unfold slices_Insert_Alarm at h
  obtain ⟨⟨h1, h2, h3, h4⟩, rfl⟩ := bif_some h
  refine insert_spec (α := Alarm) (fO := 37) (tS := 22) (tI := 3) (tB := 4) (by kernel_rfl) (by decide) (by kernel_rfl) (by kernel_rfl) (by decide) (fn_of Try.func32 (by kernel_rfl) (by kernel_rfl)) ?_ ?_ ?_ ?_ c0 c1 i h1 h2 h3 h4
  · intro x y w h
    rw [run_callFunc_extern Try.func37 (by kernel_rfl) (by kernel_rfl) (by kernel_rfl) (e := Extern.SlicesOverlaps.overlaps #[22, 22] #[4]) (by kernel_rfl), h]
    rfl
  · (try rw [(show Enc.sz Alarm = 4 from rfl)]); (try simp only [Nat.mul_one]); exact slices_Insert_Alarm_shift_spec
  · (try rw [(show Enc.sz Alarm = 4 from rfl)]); (try simp only [Nat.mul_one]); exact slices_Insert_Alarm_grow_spec
  · exact slices_Insert_Alarm_end_spec

set_option maxRecDepth 100000 in
set_option maxHeartbeats 200000000 in
theorem clock_put_spec (xa : Alarm) (c0_Now : Int) (c0_Next : Int) (c1 : (List Alarm)) (r : Int × Int × (List Alarm)) (h : clock_put xa c0_Now c0_Next c1 = some r) : SpecW Try.prog 26 [.ptr 0 0, .agg (Enc.cells xa)] [(0, .row 24 [iS c0_Now, iS c0_Next, .own 1 0 c1.length]), (1, .row 54 (fl c1))] 2 (fun x h n => x = .tup [] ∧ h = [(0, .row 24 [iS r.1, iS r.2.1, .own 2 0 r.2.2.length]), (1, .dead), (2, .row 54 (fl r.2.2))] ∧ n = 3) := by
  unfold clock_put at h
  refine spec_of (draw_ok _) Try.func26 rfl (by decide) rfl (by kernel_rfl) ?_
  refine seq_np ?_
  refine reg_f ?_
  refine rs 1 [] [] (by kernel_rfl) allP_nil ?_
  refine rf [(0, .ptr 0 0), (3, .ptr 2 0)] [(0, .row 24 [iS c0_Now, iS c0_Next, .own 1 0 c1.length]), (1, .row 54 (fl c1)), (2, .row 54 (Enc.cells xa))] 3 (by kernel_rfl) ?_
  refine wk_id ?_
  refine seq_np ?_
  refine reg_f ?_
  refine rs 6 [] [] (by kernel_rfl) allP_nil ?_
  refine rf [(0, .ptr 0 0), (3, .ptr 2 0)] [(0, .row 24 [iS c0_Now, iS c0_Next, .own 1 0 c1.length]), (1, .row 54 (fl c1)), (2, .row 54 [iS xa.Id, iS xa.When, iS xa.Period, iS c0_Next])] 3 (by kernel_rfl) ?_
  refine wk_id ?_
  refine seq_np ?_
  refine reg_f ?_
  refine rs 8 [] [] (by kernel_rfl) allP_nil ?_
  refine rf [(0, .ptr 0 0), (3, .ptr 2 0)] [(0, .row 24 [iS c0_Now, iS (IntKind.i64.wrap (c0_Next + 1)), .own 1 0 c1.length]), (1, .row 54 (fl c1)), (2, .row 54 [iS xa.Id, iS xa.When, iS xa.Period, iS c0_Next])] 3 (by kernel_rfl) ?_
  refine wk_id ?_
  refine seq_np ?_
  refine reg_t ?_
  refine rs 5 [] [] (by kernel_rfl) allP_nil ?_
  obtain ⟨r721, hr721, h⟩ := bind_sx h
  refine call_x (slices_BinarySearchFunc_Alarm_spec c1 (Alarm.mk xa.Id xa.When xa.Period c0_Next) r721 hr721) (args := [.own 1 0 c1.length, .agg [iS xa.Id, iS xa.When, iS xa.Period, iS c0_Next], .v (.func (.func 29) #[] #[])]) (dst := (some 24)) (by kernel_rfl) [(0, .row 24 [iS c0_Now, iS (IntKind.i64.wrap (c0_Next + 1)), .own 1 0 c1.length]), (1, .row 54 (fl c1)), (2, .row 54 [iS xa.Id, iS xa.When, iS xa.Period, iS c0_Next])] 8 (by kernel_rfl) [] [1] (.tup [iS r721.1, bS r721.2]) [] (by simp only [push_cast, seval]) (by simp only [push_cast, seval]) (by kernel_rfl) (.inr ⟨by simp only [push_cast, seval], by simp only [push_cast, seval]⟩) (by simp only [push_cast, seval]) (by simp only [push_cast, seval]) ?_
  refine rs 5 [] [] (by kernel_rfl) allP_nil ?_
  refine rt [(0, .ptr 0 0), (3, .ptr 2 0), (4, iS r721.1)] [(0, .row 24 [iS c0_Now, iS (IntKind.i64.wrap (c0_Next + 1)), .own 1 0 c1.length]), (1, .row 54 (fl c1)), (2, .row 54 [iS xa.Id, iS xa.When, iS xa.Period, iS c0_Next])] 14 follows (by kernel_rfl) ?_
  refine wk_id ?_
  refine reg_t ?_
  refine rs 8 [] [] (by kernel_rfl) allP_nil ?_
  obtain ⟨r723, hr723, h⟩ := bind_sx h
  refine call_x (slices_Insert_Alarm_spec r721.1 c1 ([(Alarm.mk xa.Id xa.When xa.Period c0_Next)] : List Alarm) r723 hr723) (args := [.own 1 0 c1.length, iS r721.1, .own 21 0 ([(Alarm.mk xa.Id xa.When xa.Period c0_Next)] : List Alarm).length]) (dst := (some 35)) (by kernel_rfl) [(0, .row 24 [iS c0_Now, iS (IntKind.i64.wrap (c0_Next + 1)), .own 1 0 c1.length]), (1, .row 54 (fl c1)), (2, .row 54 [iS xa.Id, iS xa.When, iS xa.Period, iS c0_Next]), (21, .row 54 (fl ([(Alarm.mk xa.Id xa.When xa.Period c0_Next)] : List Alarm)))] 23 (by kernel_rfl) [(0, 1), (1, 21)] [] (.own 25 0 r723.length) [(1, .dead), (21, .dead), (25, .row 54 (fl r723)), (1, .dead), (21, .dead)] (by simp only [push_cast, seval]) (by simp only [push_cast, seval]) (by kernel_rfl) (.inl rfl) (by simp only [push_cast, seval]) (by simp only [push_cast, seval]) ?_
  refine rs 3 [] [] (by kernel_rfl) allP_nil ?_
  refine rt [] [(0, .row 24 [iS c0_Now, iS (IntKind.i64.wrap (c0_Next + 1)), .own 25 0 r723.length]), (1, .dead), (2, .row 54 [iS xa.Id, iS xa.When, iS xa.Period, iS c0_Next]), (21, .dead), (25, .row 54 (fl r723))] 30 follows (by kernel_rfl) ?_
  obtain rfl := Option.some.inj h
  refine ret_an (.tup []) (by kernel_rfl) ?_
  exact ret_e [(0, 0), (2, 25)] [] (by simp only [push_cast, seval]) (by simp only [push_cast, seval]) rfl rfl rfl

set_option maxRecDepth 100000 in
set_option maxHeartbeats 200000000 in
theorem clock_Set_spec (c : Clock) (xid : Int) (after : Int) (period : Int) (r : Int × Int × Bool × Fault × (List Alarm)) (h : clock_Set c xid after period = some r) : SpecW Try.prog 16 [.agg (Enc.cells c), iS xid, iS after, iS period] [] 0 (fun x h n => x = .tup [.agg [iS r.1, iS r.2.1, .own 0 0 r.2.2.2.2.length], bS r.2.2.1, .agg (Enc.cells r.2.2.2.1)] ∧ h = [(0, .row 54 (fl r.2.2.2.2))] ∧ n = 1) := by
  unfold clock_Set at h
  refine spec_of (draw_ok _) Try.func16 rfl (by decide) rfl (by kernel_rfl) ?_
  refine seq_np ?_
  refine reg_f ?_
  refine rs 4 [] [] (by kernel_rfl) allP_nil ?_
  refine rf [(1, iS xid), (2, iS after), (3, iS period), (4, .ptr 0 0), (8, .ptr 1 0), (10, .ptr 2 0)] [(0, .row 24 (Enc.cells c)), (1, .row 24 [iS 0, iS 0, .v (.slice none 0 0)]), (2, .row 28 [iS 0, iS 0])] 3 (by kernel_rfl) ?_
  refine wk_id ?_
  refine seq_np ?_
  refine seq_np ?_
  refine reg_f ?_
  refine rs 1 [] [] (by kernel_rfl) allP_nil ?_
  obtain ⟨r728, hr728, h⟩ := bind_sx h
  refine run_call 20 [.agg (Enc.cells c)] (some 15) (by kernel_rfl) ?_
  refine call_0 (clock_Check_spec c r728 hr728) (by simp only [push_cast, seval]) (by simp only [push_cast, seval]) ?_
  refine back_f ?_
  refine rs 2 [] [] (by kernel_rfl) allP_nil ?_
  refine rf [(1, iS xid), (2, iS after), (3, iS period), (4, .ptr 0 0), (8, .ptr 1 0), (10, .ptr 2 0), (11, .ptr 3 0)] [(0, .row 24 (Enc.cells c)), (1, .row 24 [iS 0, iS 0, .v (.slice none 0 0)]), (2, .row 28 [iS 0, iS 0]), (3, .row 28 (Enc.cells r728))] 4 (by kernel_rfl) ?_
  refine wk_id ?_
  refine seq_np ?_
  refine reg_f ?_
  refine rs 3 [] [] (by kernel_rfl) allP_nil ?_
  refine rf [(1, iS xid), (2, iS after), (3, iS period), (4, .ptr 0 0), (8, .ptr 1 0), (10, .ptr 2 0), (11, .ptr 3 0), (18, bS (r728.Code != 0))] [(0, .row 24 (Enc.cells c)), (1, .row 24 [iS 0, iS 0, .v (.slice none 0 0)]), (2, .row 28 [iS 0, iS 0]), (3, .row 28 (Enc.cells r728))] 4 (by kernel_rfl) ?_
  refine wk_id ?_
  refine cond_sx h (by kernel_rfl) (fun g772 h => ?_) (fun g772 h => ?_)
  · refine seq_np ?_
    refine reg_t ?_
    refine rs 5 [] [] (by kernel_rfl) allP_nil ?_
    refine rt [(8, .ptr 1 0), (9, bS false), (10, .ptr 2 0)] [(0, .row 24 (Enc.cells c)), (1, .row 24 [iS 0, iS 0, .v (.slice none 0 0)]), (2, .row 28 (Enc.cells r728)), (3, .row 28 (Enc.cells r728))] 9 follows (by kernel_rfl) ?_
    refine wk_id ?_
    obtain rfl := Option.some.inj h
    refine ret_at (.tup [.agg [iS 0, iS 0, .v (.slice none 0 0)], bS false, .agg (Enc.cells r728)]) (by kernel_rfl) ?_
    exact ret_e [] [] (by simp only [push_cast, seval]) (by simp only [push_cast, seval]) rfl rfl rfl
  · refine wk_id ?_
    refine seq_np ?_
    refine seq_cut (A := Unit) (fun _ => ([(1, iS xid), (2, iS after), (3, iS period), (4, .ptr 0 0), (8, .ptr 1 0), (10, .ptr 2 0), (38, bS ((decide (xid < 1)) || ((decide (after < 1)) || ((decide ((1000000000 : Int) < after)) || ((decide (period < 0)) || (decide ((1000000000 : Int) < period)))))))], [(0, .row 24 (Enc.cells c)), (1, .row 24 [iS 0, iS 0, .v (.slice none 0 0)]), (2, .row 28 [iS 0, iS 0]), (3, .row 28 (Enc.cells r728))], 4)) (fun _ => True) (fun K739 hK739 => ?_) (fun _ _ => ?_)
    · refine reg_f ?_
      refine rs 3 [] [] (by kernel_rfl) allP_nil ?_
      refine run_split 23 (decide (xid < 1)) (.inl (by kernel_rfl)) (fun g740 => ?_) (fun g740 => ?_)
      · refine rs 15 [] [] (by kernel_rfl) allP_nil ?_
        refine rf [(1, iS xid), (2, iS after), (3, iS period), (4, .ptr 0 0), (8, .ptr 1 0), (10, .ptr 2 0), (38, bS true)] [(0, .row 24 (Enc.cells c)), (1, .row 24 [iS 0, iS 0, .v (.slice none 0 0)]), (2, .row 28 [iS 0, iS 0]), (3, .row 28 (Enc.cells r728))] 4 (by kernel_rfl) ?_
        exact hK739 () _ _ _ trivial (leSt_m [(0, 0), (1, 1), (2, 2), (3, 3)] [] (by (try simp only [g740]) <;> simp only [push_cast, seval]) (by (try simp only [g740]) <;> simp only [push_cast, seval]) rfl rfl rfl)
      · refine rs 4 [] [] (by kernel_rfl) allP_nil ?_
        refine run_split 27 (decide (after < 1)) (.inl (by kernel_rfl)) (fun g741 => ?_) (fun g741 => ?_)
        · refine rs 11 [] [] (by kernel_rfl) allP_nil ?_
          refine rf [(1, iS xid), (2, iS after), (3, iS period), (4, .ptr 0 0), (8, .ptr 1 0), (10, .ptr 2 0), (38, bS true)] [(0, .row 24 (Enc.cells c)), (1, .row 24 [iS 0, iS 0, .v (.slice none 0 0)]), (2, .row 28 [iS 0, iS 0]), (3, .row 28 (Enc.cells r728))] 4 (by kernel_rfl) ?_
          exact hK739 () _ _ _ trivial (leSt_m [(0, 0), (1, 1), (2, 2), (3, 3)] [] (by first | ((try simp only [g740, g741]) <;> simp only [push_cast, seval]; done) | ((try simp only [g740]); (try simp only [g741]); simp only [push_cast, seval]; done) | (exfalso; clear h; simp_all; done)) (by first | ((try simp only [g740, g741]) <;> simp only [push_cast, seval]; done) | ((try simp only [g740]); (try simp only [g741]); simp only [push_cast, seval]; done) | (exfalso; clear h; simp_all; done)) rfl rfl rfl)
        · refine rs 4 [] [] (by kernel_rfl) allP_nil ?_
          refine run_split 31 (decide ((1000000000 : Int) < after)) (.inl (by kernel_rfl)) (fun g742 => ?_) (fun g742 => ?_)
          · refine rn 11 [(1, iS xid), (2, iS after), (3, iS period), (4, .ptr 0 0), (8, .ptr 1 0), (10, .ptr 2 0), (31, bS true)] [(0, .row 24 (Enc.cells c)), (1, .row 24 [iS 0, iS 0, .v (.slice none 0 0)]), (2, .row 28 [iS 0, iS 0]), (3, .row 28 (Enc.cells r728))] 4 (by kernel_rfl) ?_
            refine rs 7 [] [] (by kernel_rfl) allP_nil ?_
            refine rf [(1, iS xid), (2, iS after), (3, iS period), (4, .ptr 0 0), (8, .ptr 1 0), (10, .ptr 2 0), (38, bS true)] [(0, .row 24 (Enc.cells c)), (1, .row 24 [iS 0, iS 0, .v (.slice none 0 0)]), (2, .row 28 [iS 0, iS 0]), (3, .row 28 (Enc.cells r728))] 4 (by kernel_rfl) ?_
            exact hK739 () _ _ _ trivial (leSt_m [(0, 0), (1, 1), (2, 2), (3, 3)] [] (by first | ((try simp only [g740, g741, g742]) <;> simp only [push_cast, seval]; done) | ((try simp only [g740]); (try simp only [g741]); (try simp only [g742]); simp only [push_cast, seval]; done) | (exfalso; clear h; simp_all; done)) (by first | ((try simp only [g740, g741, g742]) <;> simp only [push_cast, seval]; done) | ((try simp only [g740]); (try simp only [g741]); (try simp only [g742]); simp only [push_cast, seval]; done) | (exfalso; clear h; simp_all; done)) rfl rfl rfl)
          · refine rn 11 [(1, iS xid), (2, iS after), (3, iS period), (4, .ptr 0 0), (8, .ptr 1 0), (10, .ptr 2 0), (31, bS false)] [(0, .row 24 (Enc.cells c)), (1, .row 24 [iS 0, iS 0, .v (.slice none 0 0)]), (2, .row 28 [iS 0, iS 0]), (3, .row 28 (Enc.cells r728))] 4 (by kernel_rfl) ?_
            refine rs 4 [] [] (by kernel_rfl) allP_nil ?_
            refine run_split 35 (decide (period < 0)) (.inl (by kernel_rfl)) (fun g743 => ?_) (fun g743 => ?_)
            · refine rs 3 [] [] (by kernel_rfl) allP_nil ?_
              refine rf [(1, iS xid), (2, iS after), (3, iS period), (4, .ptr 0 0), (8, .ptr 1 0), (10, .ptr 2 0), (38, bS true)] [(0, .row 24 (Enc.cells c)), (1, .row 24 [iS 0, iS 0, .v (.slice none 0 0)]), (2, .row 28 [iS 0, iS 0]), (3, .row 28 (Enc.cells r728))] 4 (by kernel_rfl) ?_
              exact hK739 () _ _ _ trivial (leSt_m [(0, 0), (1, 1), (2, 2), (3, 3)] [] (by first | ((try simp only [g740, g741, g742, g743]) <;> simp only [push_cast, seval]; done) | ((try simp only [g740]); (try simp only [g741]); (try simp only [g742]); (try simp only [g743]); simp only [push_cast, seval]; done) | (exfalso; clear h; simp_all; done)) (by first | ((try simp only [g740, g741, g742, g743]) <;> simp only [push_cast, seval]; done) | ((try simp only [g740]); (try simp only [g741]); (try simp only [g742]); (try simp only [g743]); simp only [push_cast, seval]; done) | (exfalso; clear h; simp_all; done)) rfl rfl rfl)
            · refine rs 3 [] [] (by kernel_rfl) allP_nil ?_
              refine rf [(1, iS xid), (2, iS after), (3, iS period), (4, .ptr 0 0), (8, .ptr 1 0), (10, .ptr 2 0), (38, bS (decide ((1000000000 : Int) < period)))] [(0, .row 24 (Enc.cells c)), (1, .row 24 [iS 0, iS 0, .v (.slice none 0 0)]), (2, .row 28 [iS 0, iS 0]), (3, .row 28 (Enc.cells r728))] 4 (by kernel_rfl) ?_
              exact hK739 () _ _ _ trivial (leSt_m [(0, 0), (1, 1), (2, 2), (3, 3)] [] (by first | ((try simp only [g740, g741, g742, g743]) <;> simp only [push_cast, seval]; done) | ((try simp only [g740]); (try simp only [g741]); (try simp only [g742]); (try simp only [g743]); simp only [push_cast, seval]; done) | (exfalso; clear h; simp_all; done)) (by first | ((try simp only [g740, g741, g742, g743]) <;> simp only [push_cast, seval]; done) | ((try simp only [g740]); (try simp only [g741]); (try simp only [g742]); (try simp only [g743]); simp only [push_cast, seval]; done) | (exfalso; clear h; simp_all; done)) rfl rfl rfl)
    · dsimp only
      refine cond_sx h (by kernel_rfl) (fun g771 h => ?_) (fun g771 h => ?_)
      · refine seq_np ?_
        refine reg_f ?_
        refine rs 1 [] [] (by kernel_rfl) allP_nil ?_
        obtain ⟨r745, hr745, h⟩ := bind_sx h
        refine run_call 23 [iS 3, iS (-1)] (some 40) (by kernel_rfl) ?_
        refine call_0 (clock_fault_spec 3 (-1) r745 hr745) (by simp only [push_cast, seval]) (by simp only [push_cast, seval]) ?_
        refine back_f ?_
        refine rs 3 [] [] (by kernel_rfl) allP_nil ?_
        refine rf [(8, .ptr 1 0), (9, bS false), (10, .ptr 2 0)] [(0, .row 24 (Enc.cells c)), (1, .row 24 [iS 0, iS 0, .v (.slice none 0 0)]), (2, .row 28 (Enc.cells r745)), (3, .row 28 (Enc.cells r728))] 4 (by kernel_rfl) ?_
        refine wk_id ?_
        obtain rfl := Option.some.inj h
        refine ret_at (.tup [.agg [iS 0, iS 0, .v (.slice none 0 0)], bS false, .agg (Enc.cells r745)]) (by kernel_rfl) ?_
        exact ret_e [] [] (by simp only [push_cast, seval]) (by simp only [push_cast, seval]) rfl rfl rfl
      · refine wk_id ?_
        refine seq_np ?_
        refine reg_f ?_
        refine rs 1 [] [] (by kernel_rfl) allP_nil ?_
        obtain ⟨r747, hr747, h⟩ := bind_sx h
        refine call_x (clock_copied_spec c r747 hr747) (args := [.agg (Enc.cells c)]) (dst := (some 42)) (by kernel_rfl) [(0, .row 24 (Enc.cells c)), (1, .row 24 [iS 0, iS 0, .v (.slice none 0 0)]), (2, .row 28 [iS 0, iS 0]), (3, .row 28 (Enc.cells r728))] 4 (by kernel_rfl) [] [] (.agg [iS r747.1, iS r747.2.1, .own 4 0 r747.2.2.length]) [(4, .row 54 (fl r747.2.2))] (by simp only [push_cast, seval]) (by simp only [push_cast, seval]) (by kernel_rfl) (.inl rfl) (by simp only [push_cast, seval]) (by simp only [push_cast, seval]) ?_
        refine rs 2 [] [] (by kernel_rfl) allP_nil ?_
        refine rf [(1, iS xid), (2, iS after), (3, iS period), (4, .ptr 0 0), (8, .ptr 1 0), (10, .ptr 2 0), (12, .ptr 5 0)] [(0, .row 24 (Enc.cells c)), (1, .row 24 [iS 0, iS 0, .v (.slice none 0 0)]), (2, .row 28 [iS 0, iS 0]), (3, .row 28 (Enc.cells r728)), (4, .row 54 (fl r747.2.2)), (5, .row 24 [iS r747.1, iS r747.2.1, .own 4 0 r747.2.2.length])] 6 (by kernel_rfl) ?_
        refine wk_id ?_
        refine seq_np ?_
        refine reg_f ?_
        refine rs 2 [] [] (by kernel_rfl) allP_nil ?_
        obtain ⟨r749, hr749, h⟩ := bind_sx h
        refine call_x (clock_find_spec (Clock.mk r747.1 r747.2.1 r747.2.2) xid r749 hr749) (args := [.agg [iS r747.1, iS r747.2.1, .own 4 0 r747.2.2.length], iS xid]) (dst := (some 45)) (by kernel_rfl) [(0, .row 24 (Enc.cells c)), (1, .row 24 [iS 0, iS 0, .v (.slice none 0 0)]), (2, .row 28 [iS 0, iS 0]), (3, .row 28 (Enc.cells r728)), (4, .row 54 (fl r747.2.2)), (5, .row 24 [iS r747.1, iS r747.2.1, .own 4 0 r747.2.2.length])] 6 (by kernel_rfl) [] [4] (iS r749) [] (by simp only [push_cast, seval]) (by simp only [push_cast, seval]) (by kernel_rfl) (.inr ⟨by simp only [push_cast, seval], by simp only [push_cast, seval]⟩) (by simp only [push_cast, seval]) (by simp only [push_cast, seval]) ?_
        refine rs 1 [] [] (by kernel_rfl) allP_nil ?_
        refine rf [(1, iS xid), (2, iS after), (3, iS period), (4, .ptr 0 0), (8, .ptr 1 0), (10, .ptr 2 0), (12, .ptr 5 0), (13, iS r749)] [(0, .row 24 (Enc.cells c)), (1, .row 24 [iS 0, iS 0, .v (.slice none 0 0)]), (2, .row 28 [iS 0, iS 0]), (3, .row 28 (Enc.cells r728)), (4, .row 54 (fl r747.2.2)), (5, .row 24 [iS r747.1, iS r747.2.1, .own 4 0 r747.2.2.length])] 6 (by kernel_rfl) ?_
        refine wk_id ?_
        refine seq_cut (A := Int × Int × Int × (List Alarm)) (fun a => ([(1, iS xid), (2, iS after), (3, iS period), (4, .ptr 0 0), (8, .ptr 1 0), (10, .ptr 2 0), (12, .ptr 3 0), (13, iS a.1)], [(0, .row 24 (Enc.cells c)), (1, .row 24 [iS 0, iS 0, .v (.slice none 0 0)]), (2, .row 28 [iS 0, iS 0]), (3, .row 24 [iS a.2.1, iS a.2.2.1, .own 4 0 a.2.2.2.length]), (4, .row 54 (fl a.2.2.2))], 5)) (fun a => (clock_Set_j1 c xid after period a.1 a.2.1 a.2.2.1 a.2.2.2) = some r) (fun K754 hK754 => ?_) ?_
        · refine seq_np ?_
          refine reg_f ?_
          refine rs 2 [] [] (by kernel_rfl) allP_nil ?_
          refine rf [(1, iS xid), (2, iS after), (3, iS period), (4, .ptr 0 0), (8, .ptr 1 0), (10, .ptr 2 0), (12, .ptr 5 0), (13, iS r749), (47, bS (decide ((0 : Int) ≤ r749)))] [(0, .row 24 (Enc.cells c)), (1, .row 24 [iS 0, iS 0, .v (.slice none 0 0)]), (2, .row 28 [iS 0, iS 0]), (3, .row 28 (Enc.cells r728)), (4, .row 54 (fl r747.2.2)), (5, .row 24 [iS r747.1, iS r747.2.1, .own 4 0 r747.2.2.length])] 6 (by kernel_rfl) ?_
          refine wk_id ?_
          refine cond_sx h (by kernel_rfl) (fun g759 h => ?_) (fun g759 h => ?_)
          · refine reg_f ?_
            refine rs 5 [] [] (by kernel_rfl) allP_nil ?_
            obtain ⟨r757, hr757, h⟩ := bind_sx h
            refine call_x (slices_Delete_Alarm_1_spec r749 (IntKind.i64.wrap (r749 + 1)) r747.2.2 r757 hr757) (args := [.own 4 0 r747.2.2.length, iS r749, iS (IntKind.i64.wrap (r749 + 1))]) (dst := (some 53)) (by kernel_rfl) [(0, .row 24 (Enc.cells c)), (1, .row 24 [iS 0, iS 0, .v (.slice none 0 0)]), (2, .row 28 [iS 0, iS 0]), (3, .row 28 (Enc.cells r728)), (4, .row 54 (fl r747.2.2)), (5, .row 24 [iS r747.1, iS r747.2.1, .own 4 0 r747.2.2.length])] 6 (by kernel_rfl) [(0, 4)] [] (.own 4 0 r757.length) [(4, .row 54 (fl r757)), (4, .dead)] (by simp only [push_cast, seval]) (by simp only [push_cast, seval]) (by kernel_rfl) (.inl rfl) (by simp only [push_cast, seval]) (by simp only [push_cast, seval]) ?_
            refine rs 2 [] [] (by kernel_rfl) allP_nil ?_
            refine rf [(1, iS xid), (2, iS after), (3, iS period), (4, .ptr 0 0), (8, .ptr 1 0), (10, .ptr 2 0), (12, .ptr 5 0), (13, iS r749)] [(0, .row 24 (Enc.cells c)), (1, .row 24 [iS 0, iS 0, .v (.slice none 0 0)]), (2, .row 28 [iS 0, iS 0]), (3, .row 28 (Enc.cells r728)), (4, .row 54 (fl r757)), (5, .row 24 [iS r747.1, iS r747.2.1, .own 4 0 r757.length])] 7 (by kernel_rfl) ?_
            exact hK754 (r749, r747.1, r747.2.1, r757) _ _ _ h (leSt_m [(0, 0), (1, 1), (2, 2), (3, 5), (4, 4)] [] (by simp only [push_cast, seval]) (by simp only [push_cast, seval]) rfl rfl rfl)
          · exact hK754 (r749, r747.1, r747.2.1, r747.2.2) _ _ _ h (leSt_m [(0, 0), (1, 1), (2, 2), (3, 5), (4, 4)] [] (by simp only [push_cast, seval]) (by simp only [push_cast, seval]) rfl rfl rfl)
        · rintro ⟨i1, c3_Now1, c3_Next1, c4q1⟩ h
          try dsimp only at h ⊢
          unfold clock_Set_j1 at h
          refine seq_np ?_
          refine seq_cut (A := Unit) (fun _ => ([(1, iS xid), (2, iS after), (3, iS period), (4, .ptr 0 0), (8, .ptr 1 0), (10, .ptr 2 0), (12, .ptr 3 0), (13, iS i1), (63, bS ((((c4q1.length : Nat) : Int) == 5000) || (c3_Next1 == 1000000000)))], [(0, .row 24 (Enc.cells c)), (1, .row 24 [iS 0, iS 0, .v (.slice none 0 0)]), (2, .row 28 [iS 0, iS 0]), (3, .row 24 [iS c3_Now1, iS c3_Next1, .own 4 0 c4q1.length]), (4, .row 54 (fl c4q1))], 5)) (fun _ => True) (fun K764 hK764 => ?_) (fun _ _ => ?_)
          · refine reg_f ?_
            refine rs 5 [] [] (by kernel_rfl) allP_nil ?_
            refine run_split 59 (((c4q1.length : Nat) : Int) == 5000) (.inl (by kernel_rfl)) (fun g765 => ?_) (fun g765 => ?_)
            · refine rs 4 [] [] (by kernel_rfl) allP_nil ?_
              refine rf [(1, iS xid), (2, iS after), (3, iS period), (4, .ptr 0 0), (8, .ptr 1 0), (10, .ptr 2 0), (12, .ptr 3 0), (13, iS i1), (63, bS true)] [(0, .row 24 (Enc.cells c)), (1, .row 24 [iS 0, iS 0, .v (.slice none 0 0)]), (2, .row 28 [iS 0, iS 0]), (3, .row 24 [iS c3_Now1, iS c3_Next1, .own 4 0 c4q1.length]), (4, .row 54 (fl c4q1))] 5 (by kernel_rfl) ?_
              exact hK764 () _ _ _ trivial (leSt_m [(0, 0), (1, 1), (2, 2), (3, 3), (4, 4)] [] (by (try simp only [g765]) <;> simp only [push_cast, seval]) (by (try simp only [g765]) <;> simp only [push_cast, seval]) rfl rfl rfl)
            · refine rs 4 [] [] (by kernel_rfl) allP_nil ?_
              refine rf [(1, iS xid), (2, iS after), (3, iS period), (4, .ptr 0 0), (8, .ptr 1 0), (10, .ptr 2 0), (12, .ptr 3 0), (13, iS i1), (63, bS (c3_Next1 == 1000000000))] [(0, .row 24 (Enc.cells c)), (1, .row 24 [iS 0, iS 0, .v (.slice none 0 0)]), (2, .row 28 [iS 0, iS 0]), (3, .row 24 [iS c3_Now1, iS c3_Next1, .own 4 0 c4q1.length]), (4, .row 54 (fl c4q1))] 5 (by kernel_rfl) ?_
              exact hK764 () _ _ _ trivial (leSt_m [(0, 0), (1, 1), (2, 2), (3, 3), (4, 4)] [] (by (try simp only [g765]) <;> simp only [push_cast, seval]) (by (try simp only [g765]) <;> simp only [push_cast, seval]) rfl rfl rfl)
          · dsimp only
            refine cond_sx h (by kernel_rfl) (fun g770 h => ?_) (fun g770 h => ?_)
            · refine seq_np ?_
              refine reg_f ?_
              refine rs 1 [] [] (by kernel_rfl) allP_nil ?_
              obtain ⟨r767, hr767, h⟩ := bind_sx h
              refine run_call 23 [iS 9, iS 0] (some 65) (by kernel_rfl) ?_
              refine call_0 (clock_fault_spec 9 0 r767 hr767) (by simp only [push_cast, seval]) (by simp only [push_cast, seval]) ?_
              refine back_f ?_
              refine rs 3 [] [] (by kernel_rfl) allP_nil ?_
              refine rf [(8, .ptr 1 0), (9, bS false), (10, .ptr 2 0)] [(0, .row 24 (Enc.cells c)), (1, .row 24 [iS 0, iS 0, .v (.slice none 0 0)]), (2, .row 28 (Enc.cells r767)), (3, .row 24 [iS c3_Now1, iS c3_Next1, .own 4 0 c4q1.length]), (4, .row 54 (fl c4q1))] 5 (by kernel_rfl) ?_
              refine wk_id ?_
              obtain rfl := Option.some.inj h
              refine ret_at (.tup [.agg [iS 0, iS 0, .v (.slice none 0 0)], bS false, .agg (Enc.cells r767)]) (by kernel_rfl) ?_
              exact ret_e [] [] (by simp only [push_cast, seval]) (by simp only [push_cast, seval]) rfl rfl rfl
            · refine wk_id ?_
              refine seq_np ?_
              refine reg_f ?_
              refine rs 7 [] [] (by kernel_rfl) allP_nil ?_
              obtain ⟨r769, hr769, h⟩ := bind_sx h
              refine call_x (clock_put_spec (Alarm.mk xid (IntKind.i64.wrap (c.Now + after)) period 0) c3_Now1 c3_Next1 c4q1 r769 hr769) (args := [.ptr 3 0, .agg [iS xid, iS (IntKind.i64.wrap (c.Now + after)), iS period, iS 0]]) (dst := (some 73)) (by kernel_rfl) [(0, .row 24 (Enc.cells c)), (1, .row 24 [iS 0, iS 0, .v (.slice none 0 0)]), (2, .row 28 [iS 0, iS 0]), (3, .row 24 [iS c3_Now1, iS c3_Next1, .own 4 0 c4q1.length]), (4, .row 54 (fl c4q1))] 5 (by kernel_rfl) [(0, 3), (1, 4)] [] (.tup []) [(3, .row 24 [iS r769.1, iS r769.2.1, .own 7 0 r769.2.2.length]), (4, .dead), (7, .row 54 (fl r769.2.2)), (3, .dead), (4, .dead)] (by simp only [push_cast, seval]) (by simp only [push_cast, seval]) (by kernel_rfl) (.inl rfl) (by simp only [push_cast, seval]) (by simp only [push_cast, seval]) ?_
              refine rf [(8, .ptr 1 0), (10, .ptr 2 0), (12, .ptr 3 0), (13, iS i1)] [(0, .row 24 (Enc.cells c)), (1, .row 24 [iS 0, iS 0, .v (.slice none 0 0)]), (2, .row 28 [iS 0, iS 0]), (3, .row 24 [iS r769.1, iS r769.2.1, .own 7 0 r769.2.2.length]), (4, .dead), (7, .row 54 (fl r769.2.2))] 8 (by kernel_rfl) ?_
              refine wk_id ?_
              refine seq_np ?_
              refine reg_f ?_
              refine rs 7 [] [] (by kernel_rfl) allP_nil ?_
              refine rf [(8, .ptr 1 0), (9, bS (decide ((0 : Int) ≤ i1))), (10, .ptr 2 0)] [(0, .row 24 (Enc.cells c)), (1, .row 24 [iS r769.1, iS r769.2.1, .own 7 0 r769.2.2.length]), (2, .row 28 [iS 0, iS 0]), (3, .row 24 [iS r769.1, iS r769.2.1, .own 7 0 r769.2.2.length]), (4, .dead), (7, .row 54 (fl r769.2.2))] 8 (by kernel_rfl) ?_
              refine wk_id ?_
              obtain rfl := Option.some.inj h
              refine ret_at (.tup [.agg [iS r769.1, iS r769.2.1, .own 7 0 r769.2.2.length], bS (decide ((0 : Int) ≤ i1)), .agg [iS 0, iS 0]]) (by kernel_rfl) ?_
              exact ret_e [(0, 7)] [] (by simp only [push_cast, seval]) (by simp only [push_cast, seval]) rfl rfl rfl

set_option maxRecDepth 100000 in
set_option maxHeartbeats 200000000 in
theorem clock_Pass_spec (c : Clock) (ticks : Int) (r : Int × Int × Fault × (List Alarm) × (List S43)) (h : clock_Pass c ticks = some r) : SpecW Try.prog 9 [.agg (Enc.cells c), iS ticks] [] 0 (fun x h n => x = .tup [.agg [iS r.1, iS r.2.1, .own 0 0 r.2.2.2.1.length], .own 1 0 r.2.2.2.2.length, .agg (Enc.cells r.2.2.1)] ∧ h = [(0, .row 54 (fl r.2.2.2.1)), (1, .row 43 (fl r.2.2.2.2))] ∧ n = 2) := by
  unfold clock_Pass at h
  refine spec_of (draw_ok _) Try.func9 rfl (by decide) rfl (by kernel_rfl) ?_
  refine seq_np ?_
  refine reg_f ?_
  refine rs 4 [] [] (by kernel_rfl) allP_nil ?_
  refine rf [(1, iS ticks), (2, .ptr 0 0), (4, .ptr 1 0), (6, .ptr 2 0)] [(0, .row 24 (Enc.cells c)), (1, .row 24 [iS 0, iS 0, .v (.slice none 0 0)]), (2, .row 28 [iS 0, iS 0])] 3 (by kernel_rfl) ?_
  refine wk_id ?_
  refine seq_np ?_
  refine seq_np ?_
  refine reg_f ?_
  refine rs 1 [] [] (by kernel_rfl) allP_nil ?_
  obtain ⟨r840, hr840, h⟩ := bind_sx h
  refine run_call 20 [.agg (Enc.cells c)] (some 13) (by kernel_rfl) ?_
  refine call_0 (clock_Check_spec c r840 hr840) (by simp only [push_cast, seval]) (by simp only [push_cast, seval]) ?_
  refine back_f ?_
  refine rs 2 [] [] (by kernel_rfl) allP_nil ?_
  refine rf [(1, iS ticks), (2, .ptr 0 0), (4, .ptr 1 0), (6, .ptr 2 0), (7, .ptr 3 0)] [(0, .row 24 (Enc.cells c)), (1, .row 24 [iS 0, iS 0, .v (.slice none 0 0)]), (2, .row 28 [iS 0, iS 0]), (3, .row 28 (Enc.cells r840))] 4 (by kernel_rfl) ?_
  refine wk_id ?_
  refine seq_np ?_
  refine reg_f ?_
  refine rs 3 [] [] (by kernel_rfl) allP_nil ?_
  refine rf [(1, iS ticks), (2, .ptr 0 0), (4, .ptr 1 0), (6, .ptr 2 0), (7, .ptr 3 0), (16, bS (r840.Code != 0))] [(0, .row 24 (Enc.cells c)), (1, .row 24 [iS 0, iS 0, .v (.slice none 0 0)]), (2, .row 28 [iS 0, iS 0]), (3, .row 28 (Enc.cells r840))] 4 (by kernel_rfl) ?_
  refine wk_id ?_
  refine cond_sx h (by kernel_rfl) (fun g1045 h => ?_) (fun g1045 h => ?_)
  · refine seq_np ?_
    refine reg_t ?_
    refine rs 5 [] [] (by kernel_rfl) allP_nil ?_
    refine rt [(4, .ptr 1 0), (5, .v (.slice none 0 0)), (6, .ptr 2 0)] [(0, .row 24 (Enc.cells c)), (1, .row 24 [iS 0, iS 0, .v (.slice none 0 0)]), (2, .row 28 (Enc.cells r840)), (3, .row 28 (Enc.cells r840))] 9 follows (by kernel_rfl) ?_
    refine wk_id ?_
    obtain rfl := Option.some.inj h
    refine ret_at (.tup [.agg [iS 0, iS 0, .v (.slice none 0 0)], .v (.slice none 0 0), .agg (Enc.cells r840)]) (by kernel_rfl) ?_
    exact ret_e [] [] (by simp only [push_cast, seval]) (by simp only [push_cast, seval]) rfl rfl rfl
  · refine wk_id ?_
    refine seq_np ?_
    refine seq_cut (A := Unit) (fun _ => ([(1, iS ticks), (2, .ptr 0 0), (4, .ptr 1 0), (6, .ptr 2 0), (24, bS ((decide (ticks < 0)) || (decide ((1000000000 : Int) < ticks))))], [(0, .row 24 (Enc.cells c)), (1, .row 24 [iS 0, iS 0, .v (.slice none 0 0)]), (2, .row 28 [iS 0, iS 0]), (3, .row 28 (Enc.cells r840))], 4)) (fun _ => True) (fun K845 hK845 => ?_) (fun _ _ => ?_)
    · refine reg_f ?_
      refine rs 3 [] [] (by kernel_rfl) allP_nil ?_
      refine run_split 21 (decide (ticks < 0)) (.inl (by kernel_rfl)) (fun g846 => ?_) (fun g846 => ?_)
      · refine rs 3 [] [] (by kernel_rfl) allP_nil ?_
        refine rf [(1, iS ticks), (2, .ptr 0 0), (4, .ptr 1 0), (6, .ptr 2 0), (24, bS true)] [(0, .row 24 (Enc.cells c)), (1, .row 24 [iS 0, iS 0, .v (.slice none 0 0)]), (2, .row 28 [iS 0, iS 0]), (3, .row 28 (Enc.cells r840))] 4 (by kernel_rfl) ?_
        exact hK845 () _ _ _ trivial (leSt_m [(0, 0), (1, 1), (2, 2), (3, 3)] [] (by (try simp only [g846]) <;> simp only [push_cast, seval]) (by (try simp only [g846]) <;> simp only [push_cast, seval]) rfl rfl rfl)
      · refine rs 3 [] [] (by kernel_rfl) allP_nil ?_
        refine rf [(1, iS ticks), (2, .ptr 0 0), (4, .ptr 1 0), (6, .ptr 2 0), (24, bS (decide ((1000000000 : Int) < ticks)))] [(0, .row 24 (Enc.cells c)), (1, .row 24 [iS 0, iS 0, .v (.slice none 0 0)]), (2, .row 28 [iS 0, iS 0]), (3, .row 28 (Enc.cells r840))] 4 (by kernel_rfl) ?_
        exact hK845 () _ _ _ trivial (leSt_m [(0, 0), (1, 1), (2, 2), (3, 3)] [] (by (try simp only [g846]) <;> simp only [push_cast, seval]) (by (try simp only [g846]) <;> simp only [push_cast, seval]) rfl rfl rfl)
    · dsimp only
      refine cond_sx h (by kernel_rfl) (fun g1044 h => ?_) (fun g1044 h => ?_)
      · refine seq_np ?_
        refine reg_f ?_
        refine rs 1 [] [] (by kernel_rfl) allP_nil ?_
        obtain ⟨r848, hr848, h⟩ := bind_sx h
        refine run_call 23 [iS 3, iS (-1)] (some 26) (by kernel_rfl) ?_
        refine call_0 (clock_fault_spec 3 (-1) r848 hr848) (by simp only [push_cast, seval]) (by simp only [push_cast, seval]) ?_
        refine back_f ?_
        refine rs 3 [] [] (by kernel_rfl) allP_nil ?_
        refine rf [(4, .ptr 1 0), (5, .v (.slice none 0 0)), (6, .ptr 2 0)] [(0, .row 24 (Enc.cells c)), (1, .row 24 [iS 0, iS 0, .v (.slice none 0 0)]), (2, .row 28 (Enc.cells r848)), (3, .row 28 (Enc.cells r840))] 4 (by kernel_rfl) ?_
        refine wk_id ?_
        obtain rfl := Option.some.inj h
        refine ret_at (.tup [.agg [iS 0, iS 0, .v (.slice none 0 0)], .v (.slice none 0 0), .agg (Enc.cells r848)]) (by kernel_rfl) ?_
        exact ret_e [] [] (by simp only [push_cast, seval]) (by simp only [push_cast, seval]) rfl rfl rfl
      · refine wk_id ?_
        refine seq_np ?_
        refine seq_np ?_
        refine reg_f ?_
        refine rs 5 [] [] (by kernel_rfl) allP_nil ?_
        refine rf [(1, iS ticks), (2, .ptr 0 0), (4, .ptr 1 0), (6, .ptr 2 0), (31, bS (decide ((1000000000 : Int) < (IntKind.i64.wrap (c.Now + ticks)))))] [(0, .row 24 (Enc.cells c)), (1, .row 24 [iS 0, iS 0, .v (.slice none 0 0)]), (2, .row 28 [iS 0, iS 0]), (3, .row 28 (Enc.cells r840))] 4 (by kernel_rfl) ?_
        refine wk_id ?_
        refine cond_sx h (by kernel_rfl) (fun g1043 h => ?_) (fun g1043 h => ?_)
        · refine seq_np ?_
          refine reg_f ?_
          refine rs 1 [] [] (by kernel_rfl) allP_nil ?_
          obtain ⟨r852, hr852, h⟩ := bind_sx h
          refine run_call 23 [iS 9, iS 0] (some 33) (by kernel_rfl) ?_
          refine call_0 (clock_fault_spec 9 0 r852 hr852) (by simp only [push_cast, seval]) (by simp only [push_cast, seval]) ?_
          refine back_f ?_
          refine rs 3 [] [] (by kernel_rfl) allP_nil ?_
          refine rf [(4, .ptr 1 0), (5, .v (.slice none 0 0)), (6, .ptr 2 0)] [(0, .row 24 (Enc.cells c)), (1, .row 24 [iS 0, iS 0, .v (.slice none 0 0)]), (2, .row 28 (Enc.cells r852)), (3, .row 28 (Enc.cells r840))] 4 (by kernel_rfl) ?_
          refine wk_id ?_
          obtain rfl := Option.some.inj h
          refine ret_at (.tup [.agg [iS 0, iS 0, .v (.slice none 0 0)], .v (.slice none 0 0), .agg (Enc.cells r852)]) (by kernel_rfl) ?_
          exact ret_e [] [] (by simp only [push_cast, seval]) (by simp only [push_cast, seval]) rfl rfl rfl
        · refine wk_id ?_
          refine seq_np ?_
          refine reg_f ?_
          refine rs 1 [] [] (by kernel_rfl) allP_nil ?_
          obtain ⟨r854, hr854, h⟩ := bind_sx h
          refine call_x (clock_copied_spec c r854 hr854) (args := [.agg (Enc.cells c)]) (dst := (some 35)) (by kernel_rfl) [(0, .row 24 (Enc.cells c)), (1, .row 24 [iS 0, iS 0, .v (.slice none 0 0)]), (2, .row 28 [iS 0, iS 0]), (3, .row 28 (Enc.cells r840))] 4 (by kernel_rfl) [] [] (.agg [iS r854.1, iS r854.2.1, .own 4 0 r854.2.2.length]) [(4, .row 54 (fl r854.2.2))] (by simp only [push_cast, seval]) (by simp only [push_cast, seval]) (by kernel_rfl) (.inl rfl) (by simp only [push_cast, seval]) (by simp only [push_cast, seval]) ?_
          refine rs 2 [] [] (by kernel_rfl) allP_nil ?_
          refine rf [(1, iS ticks), (2, .ptr 0 0), (4, .ptr 1 0), (6, .ptr 2 0), (8, .ptr 5 0)] [(0, .row 24 (Enc.cells c)), (1, .row 24 [iS 0, iS 0, .v (.slice none 0 0)]), (2, .row 28 [iS 0, iS 0]), (3, .row 28 (Enc.cells r840)), (4, .row 54 (fl r854.2.2)), (5, .row 24 [iS r854.1, iS r854.2.1, .own 4 0 r854.2.2.length])] 6 (by kernel_rfl) ?_
          refine wk_id ?_
          refine seq_np ?_
          refine reg_f ?_
          refine rs 5 [] [] (by kernel_rfl) allP_nil ?_
          refine rf [(4, .ptr 1 0), (6, .ptr 2 0), (8, .ptr 5 0), (9, iS (IntKind.i64.wrap (c.Now + ticks)))] [(0, .row 24 (Enc.cells c)), (1, .row 24 [iS 0, iS 0, .v (.slice none 0 0)]), (2, .row 28 [iS 0, iS 0]), (3, .row 28 (Enc.cells r840)), (4, .row 54 (fl r854.2.2)), (5, .row 24 [iS r854.1, iS r854.2.1, .own 4 0 r854.2.2.length])] 6 (by kernel_rfl) ?_
          refine wk_id ?_
          refine seq_np ?_
          refine reg_f ?_
          refine rs 1 [] [] (by kernel_rfl) allP_nil ?_
          refine rf [(4, .ptr 1 0), (6, .ptr 2 0), (8, .ptr 5 0), (9, iS (IntKind.i64.wrap (c.Now + ticks))), (10, .v (.slice none 0 0))] [(0, .row 24 (Enc.cells c)), (1, .row 24 [iS 0, iS 0, .v (.slice none 0 0)]), (2, .row 28 [iS 0, iS 0]), (3, .row 28 (Enc.cells r840)), (4, .row 54 (fl r854.2.2)), (5, .row 24 [iS r854.1, iS r854.2.1, .own 4 0 r854.2.2.length])] 6 (by kernel_rfl) ?_
          refine wk_id ?_
          refine seq_np ?_
          refine block_np ?_
          refine loop_sx (S := Int × Int × (List S43) × (List Alarm)) (fun a => ([(4, .ptr 0 0), (6, .ptr 1 0), (8, .ptr 2 0), (9, iS (IntKind.i64.wrap (c.Now + ticks))), (10, .own 3 0 a.2.2.1.length)], [(0, .row 24 [iS 0, iS 0, .v (.slice none 0 0)]), (1, .row 28 [iS 0, iS 0]), (2, .row 24 [iS a.1, iS a.2.1, .own 4 0 a.2.2.2.length]), (3, .row 43 (fl a.2.2.1)), (4, .row 54 (fl a.2.2.2))], 5)) h (leSt_m [(0, 1), (1, 2), (2, 5), (4, 4)] [] (by simp only [push_cast, seval]) (by simp only [push_cast, seval]) rfl rfl rfl) ?_
          rintro ⟨c2_Now22, c2_Next22, c3q11, c4q18⟩ o2 R2 h hr2 hn2 hx2 ht2
          try dsimp only at h hn2 ⊢
          unfold clock_Pass_l1 at h
          try dsimp only at h
          refine seq_np ?_
          refine chk_sx h (fun g1012 h => ?_)
          refine seq_cut (A := Unit) (fun _ => ([(4, .ptr 0 0), (6, .ptr 1 0), (8, .ptr 2 0), (9, iS (IntKind.i64.wrap (c.Now + ticks))), (10, .own 3 0 c3q11.length), (52, bS ((decide ((0 : Int) < ((c4q18.length : Nat) : Int))) && (decide ((ix c4q18 (0 : Int)).When ≤ (IntKind.i64.wrap (c.Now + ticks))))))], [(0, .row 24 [iS 0, iS 0, .v (.slice none 0 0)]), (1, .row 28 [iS 0, iS 0]), (2, .row 24 [iS c2_Now22, iS c2_Next22, .own 4 0 c4q18.length]), (3, .row 43 (fl c3q11)), (4, .row 54 (fl c4q18))], 5)) (fun _ => True) (fun K1009 hK1009 => ?_) (fun _ _ => ?_)
          · refine reg_f ?_
            refine rs 5 [] [] (by kernel_rfl) allP_nil ?_
            refine run_split 44 (decide ((0 : Int) < ((c4q18.length : Nat) : Int))) (.inl (by kernel_rfl)) (fun g1010 => ?_) (fun g1010 => ?_)
            · have k1011 : 0 ≤ (0 : Int) ∧ (0 : Int) < ((c4q18.length : Nat) : Int) := by have e := or_use g1012 (by first | ((try simp only [g1010]) <;> rfl) | ((try simp only [g1010]); rfl) | (exfalso; clear h; simp_all; done)); first | simpa only [Bool.and_eq_true, decide_eq_true_eq, bne_iff_ne, ne_eq] using e | (simp at e ⊢; omega)
              refine rs 8 [none, none, some ⟨.ptr 4 (0 + ((0 : Int)).toNat * 4), [], 5, [4]⟩, none, some ⟨iS (ix c4q18 (0 : Int)).When, [], 5, [4]⟩] _ (by kernel_rfl) (allP_cons (ob_ld c4q18 (0 : Int) 4 1 ((0 + ((0 : Int)).toNat * 4) + 1) k1011 rfl (by decide) (by first | rfl | omega) (dflS Try.prog 3) (iS (ix c4q18 (0 : Int)).When) rfl 5 [4]) (allP_cons (ob_ix_o 4 c4q18.length 0 4 5 0 k1011) allP_nil)) ?_
              refine rf [(4, .ptr 0 0), (6, .ptr 1 0), (8, .ptr 2 0), (9, iS (IntKind.i64.wrap (c.Now + ticks))), (10, .own 3 0 c3q11.length), (52, bS (decide ((ix c4q18 (0 : Int)).When ≤ (IntKind.i64.wrap (c.Now + ticks)))))] [(0, .row 24 [iS 0, iS 0, .v (.slice none 0 0)]), (1, .row 28 [iS 0, iS 0]), (2, .row 24 [iS c2_Now22, iS c2_Next22, .own 4 0 c4q18.length]), (3, .row 43 (fl c3q11)), (4, .row 54 (fl c4q18))] 5 (by kernel_rfl) ?_
              exact hK1009 () _ _ _ trivial (leSt_m [(0, 0), (1, 1), (2, 2), (3, 3), (4, 4)] [] (by (try simp only [g1010]) <;> simp only [push_cast, seval]) (by (try simp only [g1010]) <;> simp only [push_cast, seval]) rfl rfl rfl)
            · refine rs 8 [] [] (by kernel_rfl) allP_nil ?_
              refine rf [(4, .ptr 0 0), (6, .ptr 1 0), (8, .ptr 2 0), (9, iS (IntKind.i64.wrap (c.Now + ticks))), (10, .own 3 0 c3q11.length), (52, bS false)] [(0, .row 24 [iS 0, iS 0, .v (.slice none 0 0)]), (1, .row 28 [iS 0, iS 0]), (2, .row 24 [iS c2_Now22, iS c2_Next22, .own 4 0 c4q18.length]), (3, .row 43 (fl c3q11)), (4, .row 54 (fl c4q18))] 5 (by kernel_rfl) ?_
              exact hK1009 () _ _ _ trivial (leSt_m [(0, 0), (1, 1), (2, 2), (3, 3), (4, 4)] [] (by (try simp only [g1010]) <;> simp only [push_cast, seval]) (by (try simp only [g1010]) <;> simp only [push_cast, seval]) rfl rfl rfl)
          · dsimp only
            refine cond_sx h (by kernel_rfl) (fun g1042 h => ?_) (fun g1042 h => ?_)
            · refine wk_id ?_
              refine block_np ?_
              refine chk_sx h (fun g1016 h => ?_)
              refine seq_np ?_
              refine reg_f ?_
              have k1015 : 0 ≤ (0 : Int) ∧ (0 : Int) < ((c4q18.length : Nat) : Int) := by first | simpa only [Bool.and_eq_true, decide_eq_true_eq, bne_iff_ne, ne_eq] using g1016 | (simp at g1016 ⊢; omega)
              refine rs 6 [none, none, some ⟨.ptr 4 (0 + ((0 : Int)).toNat * 4), [], 5, [4]⟩, some ⟨.agg (Enc.cells (ix c4q18 (0 : Int))), [], 5, [4]⟩] _ (by kernel_rfl) (allP_cons (ob_ldw c4q18 (0 : Int) 4 (0 + ((0 : Int)).toNat * 4) k1015 rfl (by first | rfl | omega) [iS (ix c4q18 (0 : Int)).Id, iS (ix c4q18 (0 : Int)).When, iS (ix c4q18 (0 : Int)).Period, iS (ix c4q18 (0 : Int)).Seq] rfl 5 [4]) (allP_cons (ob_ix_o 4 c4q18.length 0 4 5 0 k1015) allP_nil)) ?_
              refine rf [(4, .ptr 0 0), (6, .ptr 1 0), (8, .ptr 2 0), (9, iS (IntKind.i64.wrap (c.Now + ticks))), (10, .own 3 0 c3q11.length), (11, .ptr 5 0)] [(0, .row 24 [iS 0, iS 0, .v (.slice none 0 0)]), (1, .row 28 [iS 0, iS 0]), (2, .row 24 [iS c2_Now22, iS c2_Next22, .own 4 0 c4q18.length]), (3, .row 43 (fl c3q11)), (4, .row 54 (fl c4q18)), (5, .row 54 (Enc.cells (ix c4q18 (0 : Int))))] 6 (by kernel_rfl) ?_
              refine wk_id ?_
              refine seq_np ?_
              refine reg_f ?_
              refine rs 2 [] [] (by kernel_rfl) allP_nil ?_
              obtain ⟨r1019, hr1019, h⟩ := bind_sx h
              refine call_x (slices_Delete_Alarm_1_spec 0 1 c4q18 r1019 hr1019) (args := [.own 4 0 c4q18.length, iS 0, iS 1]) (dst := (some 59)) (by kernel_rfl) [(0, .row 24 [iS 0, iS 0, .v (.slice none 0 0)]), (1, .row 28 [iS 0, iS 0]), (2, .row 24 [iS c2_Now22, iS c2_Next22, .own 4 0 c4q18.length]), (3, .row 43 (fl c3q11)), (4, .row 54 (fl c4q18)), (5, .row 54 (Enc.cells (ix c4q18 (0 : Int))))] 6 (by kernel_rfl) [(0, 4)] [] (.own 4 0 r1019.length) [(4, .row 54 (fl r1019)), (4, .dead)] (by simp only [push_cast, seval]) (by simp only [push_cast, seval]) (by kernel_rfl) (.inl rfl) (by simp only [push_cast, seval]) (by simp only [push_cast, seval]) ?_
              refine rs 2 [] [] (by kernel_rfl) allP_nil ?_
              refine rf [(4, .ptr 0 0), (6, .ptr 1 0), (8, .ptr 2 0), (9, iS (IntKind.i64.wrap (c.Now + ticks))), (10, .own 3 0 c3q11.length), (11, .ptr 5 0)] [(0, .row 24 [iS 0, iS 0, .v (.slice none 0 0)]), (1, .row 28 [iS 0, iS 0]), (2, .row 24 [iS c2_Now22, iS c2_Next22, .own 4 0 r1019.length]), (3, .row 43 (fl c3q11)), (4, .row 54 (fl r1019)), (5, .row 54 (Enc.cells (ix c4q18 (0 : Int))))] 7 (by kernel_rfl) ?_
              refine wk_id ?_
              refine seq_np ?_
              refine chk_sx h (fun g1030 h => ?_)
              refine seq_np ?_
              refine reg_f ?_
              have k1029 : (c3q11 ++ ([(S43.mk (ix c4q18 (0 : Int)).When (ix c4q18 (0 : Int)).Id)] : List S43)).length * 16 ≤ 140737488355328 := by first | simpa only [Bool.and_eq_true, decide_eq_true_eq, bne_iff_ne, ne_eq] using g1030 | (simp at g1030 ⊢; omega)
              refine rs 9 [none, none, none, none, none, none, none, some ⟨.own 8 0 (c3q11 ++ ([(S43.mk (ix c4q18 (0 : Int)).When (ix c4q18 (0 : Int)).Id)] : List S43)).length, [(8, .row 43 (fl (c3q11 ++ ([(S43.mk (ix c4q18 (0 : Int)).When (ix c4q18 (0 : Int)).Id)] : List S43)))), (3, .dead)], 9, [3, 7]⟩] _ (by kernel_rfl) (allP_cons (ob_app (P := Try.prog) c3q11 ([(S43.mk (ix c4q18 (0 : Int)).When (ix c4q18 (0 : Int)).Id)] : List S43) 2 16 rfl (appCells (fl ([(S43.mk (ix c4q18 (0 : Int)).When (ix c4q18 (0 : Int)).Id)] : List S43)) 0 (([(S43.mk (ix c4q18 (0 : Int)).When (ix c4q18 (0 : Int)).Id)] : List S43).length * 2)) ([(S43.mk (ix c4q18 (0 : Int)).When (ix c4q18 (0 : Int)).Id)] : List S43).length (app_own ([(S43.mk (ix c4q18 (0 : Int)).When (ix c4q18 (0 : Int)).Id)] : List S43) 2 rfl) rfl (0 + ([(S43.mk (ix c4q18 (0 : Int)).When (ix c4q18 (0 : Int)).Id)] : List S43).length * 2 ≤ (fl ([(S43.mk (ix c4q18 (0 : Int)).When (ix c4q18 (0 : Int)).Id)] : List S43)).length) (app_own_le ([(S43.mk (ix c4q18 (0 : Int)).When (ix c4q18 (0 : Int)).Id)] : List S43) 2 rfl) 43 (by kernel_rfl) (by decide) k1029 3 8 [7]) allP_nil) ?_
              refine rf [(4, .ptr 0 0), (6, .ptr 1 0), (8, .ptr 2 0), (9, iS (IntKind.i64.wrap (c.Now + ticks))), (10, .own 8 0 (c3q11 ++ ([(S43.mk (ix c4q18 (0 : Int)).When (ix c4q18 (0 : Int)).Id)] : List S43)).length), (11, .ptr 5 0)] [(0, .row 24 [iS 0, iS 0, .v (.slice none 0 0)]), (1, .row 28 [iS 0, iS 0]), (2, .row 24 [iS c2_Now22, iS c2_Next22, .own 4 0 r1019.length]), (3, .dead), (4, .row 54 (fl r1019)), (5, .row 54 (Enc.cells (ix c4q18 (0 : Int)))), (7, .row 43 (fl ([(S43.mk (ix c4q18 (0 : Int)).When (ix c4q18 (0 : Int)).Id)] : List S43))), (8, .row 43 (fl (c3q11 ++ ([(S43.mk (ix c4q18 (0 : Int)).When (ix c4q18 (0 : Int)).Id)] : List S43))))] 9 (by kernel_rfl) ?_
              refine wk_id ?_
              refine seq_cut (A := Unit) (fun _ => ([(4, .ptr 0 0), (6, .ptr 1 0), (8, .ptr 2 0), (9, iS (IntKind.i64.wrap (c.Now + ticks))), (10, .own 8 0 (c3q11 ++ ([(S43.mk (ix c4q18 (0 : Int)).When (ix c4q18 (0 : Int)).Id)] : List S43)).length), (11, .ptr 5 0), (81, bS ((decide ((5000 : Int) < (((c3q11 ++ ([(S43.mk (ix c4q18 (0 : Int)).When (ix c4q18 (0 : Int)).Id)] : List S43)).length : Nat) : Int))) || ((decide ((0 : Int) < (ix c4q18 (0 : Int)).Period)) && (c2_Next22 == 1000000000))))], [(0, .row 24 [iS 0, iS 0, .v (.slice none 0 0)]), (1, .row 28 [iS 0, iS 0]), (2, .row 24 [iS c2_Now22, iS c2_Next22, .own 4 0 r1019.length]), (4, .row 54 (fl r1019)), (5, .row 54 (Enc.cells (ix c4q18 (0 : Int)))), (7, .row 43 (fl ([(S43.mk (ix c4q18 (0 : Int)).When (ix c4q18 (0 : Int)).Id)] : List S43))), (8, .row 43 (fl (c3q11 ++ ([(S43.mk (ix c4q18 (0 : Int)).When (ix c4q18 (0 : Int)).Id)] : List S43))))], 9)) (fun _ => True) (fun K1033 hK1033 => ?_) (fun _ _ => ?_)
              · refine reg_f ?_
                refine rs 4 [] [] (by kernel_rfl) allP_nil ?_
                refine run_split 72 (decide ((5000 : Int) < (((c3q11 ++ ([(S43.mk (ix c4q18 (0 : Int)).When (ix c4q18 (0 : Int)).Id)] : List S43)).length : Nat) : Int))) (.inl (by kernel_rfl)) (fun g1034 => ?_) (fun g1034 => ?_)
                · refine rs 9 [] [] (by kernel_rfl) allP_nil ?_
                  refine rf [(4, .ptr 0 0), (6, .ptr 1 0), (8, .ptr 2 0), (9, iS (IntKind.i64.wrap (c.Now + ticks))), (10, .own 8 0 (c3q11 ++ ([(S43.mk (ix c4q18 (0 : Int)).When (ix c4q18 (0 : Int)).Id)] : List S43)).length), (11, .ptr 5 0), (81, bS true)] [(0, .row 24 [iS 0, iS 0, .v (.slice none 0 0)]), (1, .row 28 [iS 0, iS 0]), (2, .row 24 [iS c2_Now22, iS c2_Next22, .own 4 0 r1019.length]), (3, .dead), (4, .row 54 (fl r1019)), (5, .row 54 (Enc.cells (ix c4q18 (0 : Int)))), (7, .row 43 (fl ([(S43.mk (ix c4q18 (0 : Int)).When (ix c4q18 (0 : Int)).Id)] : List S43))), (8, .row 43 (fl (c3q11 ++ ([(S43.mk (ix c4q18 (0 : Int)).When (ix c4q18 (0 : Int)).Id)] : List S43))))] 9 (by kernel_rfl) ?_
                  exact hK1033 () _ _ _ trivial (leSt_m [(0, 0), (1, 1), (2, 2), (4, 4), (5, 5), (7, 7), (8, 8)] [] (by (try simp only [g1034]) <;> simp only [push_cast, seval]) (by (try simp only [g1034]) <;> simp only [push_cast, seval]) rfl rfl rfl)
                · refine rs 4 [] [] (by kernel_rfl) allP_nil ?_
                  refine run_split 76 (decide ((0 : Int) < (ix c4q18 (0 : Int)).Period)) (.inr (by kernel_rfl)) (fun g1035 => ?_) (fun g1035 => ?_)
                  · refine rs 5 [] [] (by kernel_rfl) allP_nil ?_
                    refine rf [(4, .ptr 0 0), (6, .ptr 1 0), (8, .ptr 2 0), (9, iS (IntKind.i64.wrap (c.Now + ticks))), (10, .own 8 0 (c3q11 ++ ([(S43.mk (ix c4q18 (0 : Int)).When (ix c4q18 (0 : Int)).Id)] : List S43)).length), (11, .ptr 5 0), (81, bS (c2_Next22 == 1000000000))] [(0, .row 24 [iS 0, iS 0, .v (.slice none 0 0)]), (1, .row 28 [iS 0, iS 0]), (2, .row 24 [iS c2_Now22, iS c2_Next22, .own 4 0 r1019.length]), (3, .dead), (4, .row 54 (fl r1019)), (5, .row 54 (Enc.cells (ix c4q18 (0 : Int)))), (7, .row 43 (fl ([(S43.mk (ix c4q18 (0 : Int)).When (ix c4q18 (0 : Int)).Id)] : List S43))), (8, .row 43 (fl (c3q11 ++ ([(S43.mk (ix c4q18 (0 : Int)).When (ix c4q18 (0 : Int)).Id)] : List S43))))] 9 (by kernel_rfl) ?_
                    exact hK1033 () _ _ _ trivial (leSt_m [(0, 0), (1, 1), (2, 2), (4, 4), (5, 5), (7, 7), (8, 8)] [] (by first | ((try simp only [g1034, g1035]) <;> simp only [push_cast, seval]; done) | ((try simp only [g1034]); (try simp only [g1035]); simp only [push_cast, seval]; done) | (exfalso; clear h; simp_all; done)) (by first | ((try simp only [g1034, g1035]) <;> simp only [push_cast, seval]; done) | ((try simp only [g1034]); (try simp only [g1035]); simp only [push_cast, seval]; done) | (exfalso; clear h; simp_all; done)) rfl rfl rfl)
                  · refine rs 5 [] [] (by kernel_rfl) allP_nil ?_
                    refine rf [(4, .ptr 0 0), (6, .ptr 1 0), (8, .ptr 2 0), (9, iS (IntKind.i64.wrap (c.Now + ticks))), (10, .own 8 0 (c3q11 ++ ([(S43.mk (ix c4q18 (0 : Int)).When (ix c4q18 (0 : Int)).Id)] : List S43)).length), (11, .ptr 5 0), (81, bS false)] [(0, .row 24 [iS 0, iS 0, .v (.slice none 0 0)]), (1, .row 28 [iS 0, iS 0]), (2, .row 24 [iS c2_Now22, iS c2_Next22, .own 4 0 r1019.length]), (3, .dead), (4, .row 54 (fl r1019)), (5, .row 54 (Enc.cells (ix c4q18 (0 : Int)))), (7, .row 43 (fl ([(S43.mk (ix c4q18 (0 : Int)).When (ix c4q18 (0 : Int)).Id)] : List S43))), (8, .row 43 (fl (c3q11 ++ ([(S43.mk (ix c4q18 (0 : Int)).When (ix c4q18 (0 : Int)).Id)] : List S43))))] 9 (by kernel_rfl) ?_
                    exact hK1033 () _ _ _ trivial (leSt_m [(0, 0), (1, 1), (2, 2), (4, 4), (5, 5), (7, 7), (8, 8)] [] (by first | ((try simp only [g1034, g1035]) <;> simp only [push_cast, seval]; done) | ((try simp only [g1034]); (try simp only [g1035]); simp only [push_cast, seval]; done) | (exfalso; clear h; simp_all; done)) (by first | ((try simp only [g1034, g1035]) <;> simp only [push_cast, seval]; done) | ((try simp only [g1034]); (try simp only [g1035]); simp only [push_cast, seval]; done) | (exfalso; clear h; simp_all; done)) rfl rfl rfl)
              · dsimp only
                refine cond_sx h (by kernel_rfl) (fun g1041 h => ?_) (fun g1041 h => ?_)
                · refine seq_np ?_
                  refine reg_f ?_
                  refine rs 1 [] [] (by kernel_rfl) allP_nil ?_
                  obtain ⟨r1037, hr1037, h⟩ := bind_sx h
                  refine run_call 23 [iS 9, iS 0] (some 83) (by kernel_rfl) ?_
                  refine call_0 (clock_fault_spec 9 0 r1037 hr1037) (by simp only [push_cast, seval]) (by simp only [push_cast, seval]) ?_
                  refine back_f ?_
                  refine rs 3 [] [] (by kernel_rfl) allP_nil ?_
                  refine rf [(4, .ptr 0 0), (5, .v (.slice none 0 0)), (6, .ptr 1 0)] [(0, .row 24 [iS 0, iS 0, .v (.slice none 0 0)]), (1, .row 28 (Enc.cells r1037)), (2, .row 24 [iS c2_Now22, iS c2_Next22, .own 4 0 r1019.length]), (4, .row 54 (fl r1019)), (5, .row 54 (Enc.cells (ix c4q18 (0 : Int)))), (7, .row 43 (fl ([(S43.mk (ix c4q18 (0 : Int)).When (ix c4q18 (0 : Int)).Id)] : List S43))), (8, .row 43 (fl (c3q11 ++ ([(S43.mk (ix c4q18 (0 : Int)).When (ix c4q18 (0 : Int)).Id)] : List S43))))] 9 (by kernel_rfl) ?_
                  refine wk_id ?_
                  refine rt_cast ht2 ?_
                  obtain ⟨r0, h, e0⟩ := map_sx h
                  have e1 := hr2 r0 e0.symm
                  subst r0
                  obtain rfl := Option.some.inj h
                  refine ret_at (.tup [.agg [iS 0, iS 0, .v (.slice none 0 0)], .v (.slice none 0 0), .agg (Enc.cells r1037)]) (by kernel_rfl) ?_
                  exact ret_e [] [] (by simp only [push_cast, seval]) (by simp only [push_cast, seval]) rfl rfl rfl
                · refine wk_id ?_
                  refine seq_np ?_
                  refine reg_f ?_
                  refine rs 3 [] [] (by kernel_rfl) allP_nil ?_
                  refine rf [(4, .ptr 0 0), (6, .ptr 1 0), (8, .ptr 2 0), (9, iS (IntKind.i64.wrap (c.Now + ticks))), (10, .own 8 0 (c3q11 ++ ([(S43.mk (ix c4q18 (0 : Int)).When (ix c4q18 (0 : Int)).Id)] : List S43)).length), (11, .ptr 5 0), (86, bS (decide ((0 : Int) < (ix c4q18 (0 : Int)).Period)))] [(0, .row 24 [iS 0, iS 0, .v (.slice none 0 0)]), (1, .row 28 [iS 0, iS 0]), (2, .row 24 [iS c2_Now22, iS c2_Next22, .own 4 0 r1019.length]), (4, .row 54 (fl r1019)), (5, .row 54 (Enc.cells (ix c4q18 (0 : Int)))), (7, .row 43 (fl ([(S43.mk (ix c4q18 (0 : Int)).When (ix c4q18 (0 : Int)).Id)] : List S43))), (8, .row 43 (fl (c3q11 ++ ([(S43.mk (ix c4q18 (0 : Int)).When (ix c4q18 (0 : Int)).Id)] : List S43))))] 9 (by kernel_rfl) ?_
                  refine wk_id ?_
                  refine cond_sx h (by kernel_rfl) (fun g1040 h => ?_) (fun g1040 h => ?_)
                  · refine seq_np ?_
                    refine reg_f ?_
                    refine rs 7 [] [] (by kernel_rfl) allP_nil ?_
                    refine rf [(4, .ptr 0 0), (6, .ptr 1 0), (8, .ptr 2 0), (9, iS (IntKind.i64.wrap (c.Now + ticks))), (10, .own 8 0 (c3q11 ++ ([(S43.mk (ix c4q18 (0 : Int)).When (ix c4q18 (0 : Int)).Id)] : List S43)).length), (11, .ptr 5 0)] [(0, .row 24 [iS 0, iS 0, .v (.slice none 0 0)]), (1, .row 28 [iS 0, iS 0]), (2, .row 24 [iS c2_Now22, iS c2_Next22, .own 4 0 r1019.length]), (4, .row 54 (fl r1019)), (5, .row 54 [iS (ix c4q18 (0 : Int)).Id, iS (IntKind.i64.wrap ((ix c4q18 (0 : Int)).When + (ix c4q18 (0 : Int)).Period)), iS (ix c4q18 (0 : Int)).Period, iS (ix c4q18 (0 : Int)).Seq]), (7, .row 43 (fl ([(S43.mk (ix c4q18 (0 : Int)).When (ix c4q18 (0 : Int)).Id)] : List S43))), (8, .row 43 (fl (c3q11 ++ ([(S43.mk (ix c4q18 (0 : Int)).When (ix c4q18 (0 : Int)).Id)] : List S43))))] 9 (by kernel_rfl) ?_
                    refine wk_id ?_
                    refine reg_f ?_
                    refine rs 1 [] [] (by kernel_rfl) allP_nil ?_
                    obtain ⟨r1039, hr1039, h⟩ := bind_sx h
                    refine call_x (clock_put_spec (Alarm.mk (ix c4q18 (0 : Int)).Id (IntKind.i64.wrap ((ix c4q18 (0 : Int)).When + (ix c4q18 (0 : Int)).Period)) (ix c4q18 (0 : Int)).Period (ix c4q18 (0 : Int)).Seq) c2_Now22 c2_Next22 r1019 r1039 hr1039) (args := [.ptr 2 0, .agg [iS (ix c4q18 (0 : Int)).Id, iS (IntKind.i64.wrap ((ix c4q18 (0 : Int)).When + (ix c4q18 (0 : Int)).Period)), iS (ix c4q18 (0 : Int)).Period, iS (ix c4q18 (0 : Int)).Seq]]) (dst := (some 94)) (by kernel_rfl) [(0, .row 24 [iS 0, iS 0, .v (.slice none 0 0)]), (1, .row 28 [iS 0, iS 0]), (2, .row 24 [iS c2_Now22, iS c2_Next22, .own 4 0 r1019.length]), (4, .row 54 (fl r1019)), (5, .row 54 [iS (ix c4q18 (0 : Int)).Id, iS (IntKind.i64.wrap ((ix c4q18 (0 : Int)).When + (ix c4q18 (0 : Int)).Period)), iS (ix c4q18 (0 : Int)).Period, iS (ix c4q18 (0 : Int)).Seq]), (7, .row 43 (fl ([(S43.mk (ix c4q18 (0 : Int)).When (ix c4q18 (0 : Int)).Id)] : List S43))), (8, .row 43 (fl (c3q11 ++ ([(S43.mk (ix c4q18 (0 : Int)).When (ix c4q18 (0 : Int)).Id)] : List S43))))] 9 (by kernel_rfl) [(0, 2), (1, 4)] [] (.tup []) [(2, .row 24 [iS r1039.1, iS r1039.2.1, .own 11 0 r1039.2.2.length]), (4, .dead), (11, .row 54 (fl r1039.2.2)), (2, .dead), (4, .dead)] (by simp only [push_cast, seval]) (by simp only [push_cast, seval]) (by kernel_rfl) (.inl rfl) (by simp only [push_cast, seval]) (by simp only [push_cast, seval]) ?_
                    refine rf [(4, .ptr 0 0), (6, .ptr 1 0), (8, .ptr 2 0), (9, iS (IntKind.i64.wrap (c.Now + ticks))), (10, .own 8 0 (c3q11 ++ ([(S43.mk (ix c4q18 (0 : Int)).When (ix c4q18 (0 : Int)).Id)] : List S43)).length)] [(0, .row 24 [iS 0, iS 0, .v (.slice none 0 0)]), (1, .row 28 [iS 0, iS 0]), (2, .row 24 [iS r1039.1, iS r1039.2.1, .own 11 0 r1039.2.2.length]), (4, .dead), (5, .row 54 [iS (ix c4q18 (0 : Int)).Id, iS (IntKind.i64.wrap ((ix c4q18 (0 : Int)).When + (ix c4q18 (0 : Int)).Period)), iS (ix c4q18 (0 : Int)).Period, iS (ix c4q18 (0 : Int)).Seq]), (7, .row 43 (fl ([(S43.mk (ix c4q18 (0 : Int)).When (ix c4q18 (0 : Int)).Id)] : List S43))), (8, .row 43 (fl (c3q11 ++ ([(S43.mk (ix c4q18 (0 : Int)).When (ix c4q18 (0 : Int)).Id)] : List S43)))), (11, .row 54 (fl r1039.2.2))] 12 (by kernel_rfl) ?_
                    refine wk_id ?_
                    exact hn2 (r1039.1, r1039.2.1, (c3q11 ++ ([(S43.mk (ix c4q18 (0 : Int)).When (ix c4q18 (0 : Int)).Id)] : List S43)), r1039.2.2) _ _ _ (Option.some.inj h).symm (leSt_m [(0, 0), (1, 1), (2, 2), (3, 8), (4, 11)] [] (by simp only [push_cast, seval]) (by simp only [push_cast, seval]) rfl rfl rfl)
                  · refine wk_id ?_
                    exact hn2 (c2_Now22, c2_Next22, (c3q11 ++ ([(S43.mk (ix c4q18 (0 : Int)).When (ix c4q18 (0 : Int)).Id)] : List S43)), r1019) _ _ _ (Option.some.inj h).symm (leSt_m [(0, 0), (1, 1), (2, 2), (3, 8), (4, 4)] [] (by simp only [push_cast, seval]) (by simp only [push_cast, seval]) rfl rfl rfl)
            · change R2 (.exit 0) _ _ _
              refine ex_cast hx2 (id := 0) ?_
              obtain ⟨r0, h, e0⟩ := map_sx h
              have e1 := hr2 r0 e0.symm
              subst r0
              refine wk_id ?_
              refine wk_id ?_
              refine seq_np ?_
              refine reg_f ?_
              refine rs 3 [] [] (by kernel_rfl) allP_nil ?_
              refine rf [(4, .ptr 0 0), (6, .ptr 1 0), (8, .ptr 2 0), (10, .own 3 0 c3q11.length)] [(0, .row 24 [iS 0, iS 0, .v (.slice none 0 0)]), (1, .row 28 [iS 0, iS 0]), (2, .row 24 [iS (IntKind.i64.wrap (c.Now + ticks)), iS c2_Next22, .own 4 0 c4q18.length]), (3, .row 43 (fl c3q11)), (4, .row 54 (fl c4q18))] 5 (by kernel_rfl) ?_
              refine wk_id ?_
              refine seq_np ?_
              refine reg_f ?_
              refine rs 6 [] [] (by kernel_rfl) allP_nil ?_
              refine rf [(4, .ptr 0 0), (5, .own 3 0 c3q11.length), (6, .ptr 1 0)] [(0, .row 24 [iS (IntKind.i64.wrap (c.Now + ticks)), iS c2_Next22, .own 4 0 c4q18.length]), (1, .row 28 [iS 0, iS 0]), (2, .row 24 [iS (IntKind.i64.wrap (c.Now + ticks)), iS c2_Next22, .own 4 0 c4q18.length]), (3, .row 43 (fl c3q11)), (4, .row 54 (fl c4q18))] 5 (by kernel_rfl) ?_
              refine wk_id ?_
              obtain rfl := Option.some.inj h
              refine ret_at (.tup [.agg [iS (IntKind.i64.wrap (c.Now + ticks)), iS c2_Next22, .own 4 0 c4q18.length], .own 3 0 c3q11.length, .agg [iS 0, iS 0]]) (by kernel_rfl) ?_
              exact ret_e [(0, 4), (1, 3)] [] (by simp only [push_cast, seval]) (by simp only [push_cast, seval]) rfl rfl rfl

set_option maxRecDepth 100000 in
set_option maxHeartbeats 200000000 in
theorem taskmillref_SameOff_spec (xa : (List S43)) (b : (List S43)) (r : Bool) (h : taskmillref_SameOff xa b = some r) : SpecW Try.prog 15 [.sl xa.length (fl xa), .sl b.length (fl b)] [] 0 (fun x h n => x = bS r ∧ h = [] ∧ n = 0) := by
  unfold taskmillref_SameOff at h
  refine spec_of (draw_ok _) Try.func15 rfl (by decide) rfl (by kernel_rfl) ?_
  refine seq_np ?_
  refine reg_f ?_
  refine rs 1 [] [] (by kernel_rfl) allP_nil ?_
  refine rf [(0, .sl xa.length (fl xa)), (1, .sl b.length (fl b))] [] 0 (by kernel_rfl) ?_
  refine wk_id ?_
  refine seq_np ?_
  refine seq_np ?_
  refine reg_f ?_
  refine rs 5 [] [] (by kernel_rfl) allP_nil ?_
  refine rf [(0, .sl xa.length (fl xa)), (1, .sl b.length (fl b)), (10, bS (((xa.length : Nat) : Int) != ((b.length : Nat) : Int)))] [] 0 (by kernel_rfl) ?_
  refine wk_id ?_
  refine cond_sx h (by kernel_rfl) (fun g1142 h => ?_) (fun g1142 h => ?_)
  · refine seq_np ?_
    refine reg_f ?_
    refine rs 1 [] [] (by kernel_rfl) allP_nil ?_
    refine rf [(4, bS false)] [] 0 (by kernel_rfl) ?_
    refine wk_id ?_
    obtain rfl := Option.some.inj h
    refine ret_at (bS false) (by kernel_rfl) ?_
    exact ret_e [] [] (by simp only [push_cast, seval]) (by simp only [push_cast, seval]) rfl rfl rfl
  · refine wk_id ?_
    refine seq_np ?_
    refine seq_np ?_
    refine reg_f ?_
    refine rs 1 [] [] (by kernel_rfl) allP_nil ?_
    refine rf [(0, .sl xa.length (fl xa)), (1, .sl b.length (fl b)), (5, iS 0)] [] 0 (by kernel_rfl) ?_
    refine wk_id ?_
    refine block_np ?_
    refine loop_sx (S := Int) (fun a => ([(0, .sl xa.length (fl xa)), (1, .sl b.length (fl b)), (5, iS a)], [], 0)) h (leSt_m [] [] (by simp only [push_cast, seval]) (by simp only [push_cast, seval]) rfl rfl rfl) ?_
    rintro i7 o2 R2 h hr2 hn2 hx2 ht2
    try dsimp only at h hn2 ⊢
    unfold taskmillref_SameOff_l1 at h
    try dsimp only at h
    refine seq_np ?_
    refine seq_np ?_
    refine reg_f ?_
    refine rs 4 [] [] (by kernel_rfl) allP_nil ?_
    refine rf [(0, .sl xa.length (fl xa)), (1, .sl b.length (fl b)), (5, iS i7), (14, bS (decide (i7 < ((xa.length : Nat) : Int))))] [] 0 (by kernel_rfl) ?_
    refine wk_id ?_
    refine cond_sx h (by kernel_rfl) (fun g1141 h => ?_) (fun g1141 h => ?_)
    · refine wk_id ?_
      refine seq_np ?_
      refine block_np ?_
      refine chk_sx h (fun g1137 h => ?_)
      refine chk_sx h (fun g1139 h => ?_)
      refine seq_np ?_
      refine reg_t ?_
      have k1136 : 0 ≤ i7 ∧ i7 < ((xa.length : Nat) : Int) := by first | simpa only [Bool.and_eq_true, decide_eq_true_eq, bne_iff_ne, ne_eq] using g1137 | (simp at g1137 ⊢; omega)
      have k1138 : 0 ≤ i7 ∧ i7 < ((b.length : Nat) : Int) := by first | simpa only [Bool.and_eq_true, decide_eq_true_eq, bne_iff_ne, ne_eq] using g1139 | (simp at g1139 ⊢; omega)
      refine rs 9 [none, none, some ⟨.iptr (fl xa) ((i7).toNat * 2), [], 2, []⟩, some ⟨.agg (Enc.cells (ix xa i7)), [], 3, []⟩, none, none, some ⟨.iptr (fl b) ((i7).toNat * 2), [], 6, []⟩, some ⟨.agg (Enc.cells (ix b i7)), [], 7, []⟩] _ (by kernel_rfl) (allP_cons (ob_ldw b i7 2 ((i7).toNat * 2) k1138 rfl (by first | rfl | omega) [iS (ix b i7).e0, iS (ix b i7).e1] rfl 7 []) (allP_cons (ob_ix_l b 2 6 i7 k1138) (allP_cons (ob_ldw xa i7 2 ((i7).toNat * 2) k1136 rfl (by first | rfl | omega) [iS (ix xa i7).e0, iS (ix xa i7).e1] rfl 3 []) (allP_cons (ob_ix_l xa 2 2 i7 k1136) allP_nil)))) ?_
      refine rt [(0, .sl xa.length (fl xa)), (1, .sl b.length (fl b)), (5, iS i7), (25, bS (!(((ix xa i7).e0 == (ix b i7).e0) && (((ix xa i7).e1 == (ix b i7).e1) && true))))] [] 9 follows (by kernel_rfl) ?_
      refine wk_id ?_
      refine cond_sx h (by kernel_rfl) (fun g1140 h => ?_) (fun g1140 h => ?_)
      · refine seq_np ?_
        refine reg_f ?_
        refine rs 1 [] [] (by kernel_rfl) allP_nil ?_
        refine rf [(4, bS false)] [] 9 (by kernel_rfl) ?_
        refine wk_id ?_
        refine rt_cast ht2 ?_
        obtain ⟨r0, h, e0⟩ := map_sx h
        have e1 := hr2 r0 e0.symm
        subst r0
        obtain rfl := Option.some.inj h
        refine ret_at (bS false) (by kernel_rfl) ?_
        exact ret_e [] [] (by simp only [push_cast, seval]) (by simp only [push_cast, seval]) rfl rfl rfl
      · refine wk_id ?_
        refine wk_id ?_
        refine reg_f ?_
        refine rs 3 [] [] (by kernel_rfl) allP_nil ?_
        refine rf [(0, .sl xa.length (fl xa)), (1, .sl b.length (fl b)), (5, iS (IntKind.i64.wrap (i7 + 1)))] [] 9 (by kernel_rfl) ?_
        exact hn2 ((IntKind.i64.wrap (i7 + 1))) _ _ _ (Option.some.inj h).symm (leSt_m [] [] (by simp only [push_cast, seval]) (by simp only [push_cast, seval]) rfl rfl rfl)
    · change R2 (.exit 0) _ _ _
      refine ex_cast hx2 (id := 0) ?_
      obtain ⟨r0, h, e0⟩ := map_sx h
      have e1 := hr2 r0 e0.symm
      subst r0
      refine wk_id ?_
      refine wk_id ?_
      refine seq_np ?_
      refine reg_f ?_
      refine rs 1 [] [] (by kernel_rfl) allP_nil ?_
      refine rf [(4, bS true)] [] 0 (by kernel_rfl) ?_
      refine wk_id ?_
      obtain rfl := Option.some.inj h
      refine ret_at (bS true) (by kernel_rfl) ?_
      exact ret_e [] [] (by simp only [push_cast, seval]) (by simp only [push_cast, seval]) rfl rfl rfl

set_option maxRecDepth 100000 in
set_option maxHeartbeats 200000000 in
theorem taskmilllaw_clockBegun_spec (r : Bool) (h : taskmilllaw_clockBegun = some r) : SpecW Try.prog 8 [] [] 0 (fun x h n => x = bS r ∧ h = [] ∧ n = 0) := by
  unfold taskmilllaw_clockBegun at h
  refine spec_of (draw_ok _) Try.func8 rfl (by decide) rfl (by kernel_rfl) ?_
  refine seq_np ?_
  refine reg_f ?_
  refine rs 1 [] [] (by kernel_rfl) allP_nil ?_
  refine rf [] [] 0 (by kernel_rfl) ?_
  refine wk_id ?_
  refine seq_np ?_
  refine reg_f ?_
  refine rs 1 [] [] (by kernel_rfl) allP_nil ?_
  obtain ⟨r1147, hr1147, h⟩ := bind_sx h
  refine call_x (clock_Set_spec (Clock.mk 0 0 []) 1 2 3 r1147 hr1147) (args := [.agg [iS 0, iS 0, .v (.slice none 0 0)], iS 1, iS 2, iS 3]) (dst := (some 9)) (by kernel_rfl) [] 0 (by kernel_rfl) [] [] (.tup [.agg [iS r1147.1, iS r1147.2.1, .own 0 0 r1147.2.2.2.2.length], bS r1147.2.2.1, .agg (Enc.cells r1147.2.2.2.1)]) [(0, .row 54 (fl r1147.2.2.2.2))] (by simp only [push_cast, seval]) (by simp only [push_cast, seval]) (by kernel_rfl) (.inl rfl) (by simp only [push_cast, seval]) (by simp only [push_cast, seval]) ?_
  refine rs 9 [] [] (by kernel_rfl) allP_nil ?_
  refine rf [(1, .ptr 1 0), (3, .ptr 2 0)] [(0, .row 54 (fl r1147.2.2.2.2)), (1, .row 24 [iS r1147.1, iS r1147.2.1, .own 0 0 r1147.2.2.2.2.length]), (2, .row 28 (Enc.cells r1147.2.2.2.1))] 3 (by kernel_rfl) ?_
  refine wk_id ?_
  refine seq_np ?_
  refine reg_f ?_
  refine rs 1 [] [] (by kernel_rfl) allP_nil ?_
  obtain ⟨r1149, hr1149, h⟩ := bind_sx h
  refine call_x (clock_Pass_spec (Clock.mk r1147.1 r1147.2.1 r1147.2.2.2.2) 9 r1149 hr1149) (args := [.agg [iS r1147.1, iS r1147.2.1, .own 0 0 r1147.2.2.2.2.length], iS 9]) (dst := (some 15)) (by kernel_rfl) [(0, .row 54 (fl r1147.2.2.2.2)), (1, .row 24 [iS r1147.1, iS r1147.2.1, .own 0 0 r1147.2.2.2.2.length]), (2, .row 28 (Enc.cells r1147.2.2.2.1))] 3 (by kernel_rfl) [] [0] (.tup [.agg [iS r1149.1, iS r1149.2.1, .own 3 0 r1149.2.2.2.1.length], .own 4 0 r1149.2.2.2.2.length, .agg (Enc.cells r1149.2.2.1)]) [(3, .row 54 (fl r1149.2.2.2.1)), (4, .row 43 (fl r1149.2.2.2.2))] (by simp only [push_cast, seval]) (by simp only [push_cast, seval]) (by kernel_rfl) (.inr ⟨by simp only [push_cast, seval], by simp only [push_cast, seval]⟩) (by simp only [push_cast, seval]) (by simp only [push_cast, seval]) ?_
  refine rs 9 [] [] (by kernel_rfl) allP_nil ?_
  refine rf [(3, .ptr 2 0), (5, .own 4 0 r1149.2.2.2.2.length), (6, .ptr 6 0)] [(0, .row 54 (fl r1147.2.2.2.2)), (1, .row 24 [iS r1147.1, iS r1147.2.1, .own 0 0 r1147.2.2.2.2.length]), (2, .row 28 (Enc.cells r1147.2.2.2.1)), (3, .row 54 (fl r1149.2.2.2.1)), (4, .row 43 (fl r1149.2.2.2.2)), (5, .row 24 [iS r1149.1, iS r1149.2.1, .own 3 0 r1149.2.2.2.1.length]), (6, .row 28 (Enc.cells r1149.2.2.1))] 7 (by kernel_rfl) ?_
  refine wk_id ?_
  refine seq_cut (A := Bool) (fun a => ([(0, bS a)], [], 0)) (fun a => (taskmilllaw_clockBegun_j1 a) = some r) (fun K1154 hK1154 => ?_) ?_
  · refine reg_f ?_
    refine rs 4 [] [] (by kernel_rfl) allP_nil ?_
    refine run_br h 22 (.inl (by kernel_rfl)) (fun g1155 h => ?_) (fun g1155 h => ?_)
    · refine rs 5 [] [] (by kernel_rfl) allP_nil ?_
      refine run_br h 27 (.inl (by kernel_rfl)) (fun g1156 h => ?_) (fun g1156 h => ?_)
      · refine rs 5 [] [] (by kernel_rfl) allP_nil ?_
        obtain ⟨r1157, hr1157, h⟩ := bind_sx h
        refine call_x (taskmillref_SameOff_spec r1149.2.2.2.2 ([(S43.mk 2 1), (S43.mk 5 1), (S43.mk 8 1)] : List S43) r1157 hr1157) (args := [.own 4 0 r1149.2.2.2.2.length, .own 7 0 ([(S43.mk 2 1), (S43.mk 5 1), (S43.mk 8 1)] : List S43).length]) (dst := (some 33)) (by kernel_rfl) [(0, .row 54 (fl r1147.2.2.2.2)), (1, .row 24 [iS r1147.1, iS r1147.2.1, .own 0 0 r1147.2.2.2.2.length]), (2, .row 28 (Enc.cells r1147.2.2.2.1)), (3, .row 54 (fl r1149.2.2.2.1)), (4, .row 43 (fl r1149.2.2.2.2)), (5, .row 24 [iS r1149.1, iS r1149.2.1, .own 3 0 r1149.2.2.2.1.length]), (6, .row 28 (Enc.cells r1149.2.2.1)), (7, .row 43 (fl ([(S43.mk 2 1), (S43.mk 5 1), (S43.mk 8 1)] : List S43)))] 8 (by kernel_rfl) [] [4, 7] (bS r1157) [] (by simp only [push_cast, seval]) (by simp only [push_cast, seval]) (by kernel_rfl) (.inr ⟨by simp only [push_cast, seval], by simp only [push_cast, seval]⟩) (by simp only [push_cast, seval]) (by simp only [push_cast, seval]) ?_
        refine rs 2 [] [] (by kernel_rfl) allP_nil ?_
        refine rf [(0, bS r1157)] [(0, .row 54 (fl r1147.2.2.2.2)), (1, .row 24 [iS r1147.1, iS r1147.2.1, .own 0 0 r1147.2.2.2.2.length]), (2, .row 28 (Enc.cells r1147.2.2.2.1)), (3, .row 54 (fl r1149.2.2.2.1)), (4, .row 43 (fl r1149.2.2.2.2)), (5, .row 24 [iS r1149.1, iS r1149.2.1, .own 3 0 r1149.2.2.2.1.length]), (6, .row 28 (Enc.cells r1149.2.2.1)), (7, .row 43 (fl ([(S43.mk 2 1), (S43.mk 5 1), (S43.mk 8 1)] : List S43)))] 8 (by kernel_rfl) ?_
        exact hK1154 (r1157) _ _ _ h (leSt_m [] [] (by first | ((try simp only [g1155, g1156]) <;> simp only [push_cast, seval]; done) | ((try simp only [g1155]); (try simp only [g1156]); simp only [push_cast, seval]; done) | (exfalso; clear h; simp_all; done)) (by first | ((try simp only [g1155, g1156]) <;> simp only [push_cast, seval]; done) | ((try simp only [g1155]); (try simp only [g1156]); simp only [push_cast, seval]; done) | (exfalso; clear h; simp_all; done)) rfl rfl rfl)
      · refine rs 8 [] [] (by kernel_rfl) allP_nil ?_
        refine rf [(0, bS false)] [(0, .row 54 (fl r1147.2.2.2.2)), (1, .row 24 [iS r1147.1, iS r1147.2.1, .own 0 0 r1147.2.2.2.2.length]), (2, .row 28 (Enc.cells r1147.2.2.2.1)), (3, .row 54 (fl r1149.2.2.2.1)), (4, .row 43 (fl r1149.2.2.2.2)), (5, .row 24 [iS r1149.1, iS r1149.2.1, .own 3 0 r1149.2.2.2.1.length]), (6, .row 28 (Enc.cells r1149.2.2.1))] 7 (by kernel_rfl) ?_
        exact hK1154 (false) _ _ _ h (leSt_m [] [] (by first | ((try simp only [g1155, g1156]) <;> simp only [push_cast, seval]; done) | ((try simp only [g1155]); (try simp only [g1156]); simp only [push_cast, seval]; done) | (exfalso; clear h; simp_all; done)) (by first | ((try simp only [g1155, g1156]) <;> simp only [push_cast, seval]; done) | ((try simp only [g1155]); (try simp only [g1156]); simp only [push_cast, seval]; done) | (exfalso; clear h; simp_all; done)) rfl rfl rfl)
    · refine rs 13 [] [] (by kernel_rfl) allP_nil ?_
      refine rf [(0, bS false)] [(0, .row 54 (fl r1147.2.2.2.2)), (1, .row 24 [iS r1147.1, iS r1147.2.1, .own 0 0 r1147.2.2.2.2.length]), (2, .row 28 (Enc.cells r1147.2.2.2.1)), (3, .row 54 (fl r1149.2.2.2.1)), (4, .row 43 (fl r1149.2.2.2.2)), (5, .row 24 [iS r1149.1, iS r1149.2.1, .own 3 0 r1149.2.2.2.1.length]), (6, .row 28 (Enc.cells r1149.2.2.1))] 7 (by kernel_rfl) ?_
      exact hK1154 (false) _ _ _ h (leSt_m [] [] (by (try simp only [g1155]) <;> simp only [push_cast, seval]) (by (try simp only [g1155]) <;> simp only [push_cast, seval]) rfl rfl rfl)
  · rintro t0q1 h
    try dsimp only at h ⊢
    unfold taskmilllaw_clockBegun_j1 at h
    obtain rfl := Option.some.inj h
    refine ret_at (bS t0q1) (by kernel_rfl) ?_
    exact ret_e [] [] (by simp only [push_cast, seval]) (by simp only [push_cast, seval]) rfl rfl rfl

set_option maxRecDepth 100000 in
set_option maxHeartbeats 200000000 in
theorem taskmillref_F_spec (code : Int) (xat : Int) (r : Fault) (h : taskmillref_F code xat = some r) : SpecW Try.prog 12 [iS code, iS xat] [] 0 (fun x h n => x = .agg (Enc.cells r) ∧ h = [] ∧ n = 0) := by
  unfold taskmillref_F at h
  refine spec_of (draw_ok _) Try.func12 rfl (by decide) rfl (by kernel_rfl) ?_
  refine seq_np ?_
  refine reg_f ?_
  refine rs 1 [] [] (by kernel_rfl) allP_nil ?_
  refine rf [(0, iS code), (1, iS xat), (4, .ptr 0 0)] [(0, .row 28 [iS 0, iS 0])] 1 (by kernel_rfl) ?_
  refine wk_id ?_
  refine seq_np ?_
  refine reg_f ?_
  refine rs 4 [] [] (by kernel_rfl) allP_nil ?_
  refine rf [(4, .ptr 0 0)] [(0, .row 28 [iS code, iS xat])] 1 (by kernel_rfl) ?_
  refine wk_id ?_
  obtain rfl := Option.some.inj h
  refine ret_at (.agg [iS code, iS xat]) (by kernel_rfl) ?_
  exact ret_e [] [] (by simp only [push_cast, seval]) (by simp only [push_cast, seval]) rfl rfl rfl

set_option maxRecDepth 100000 in
set_option maxHeartbeats 200000000 in
theorem clock_Stop_spec (c : Clock) (xid : Int) (r : Int × Int × Bool × Fault × (List Alarm)) (h : clock_Stop c xid = some r) : SpecW Try.prog 18 [.agg (Enc.cells c), iS xid] [] 0 (fun x h n => x = .tup [.agg [iS r.1, iS r.2.1, .own 0 0 r.2.2.2.2.length], bS r.2.2.1, .agg (Enc.cells r.2.2.2.1)] ∧ h = [(0, .row 54 (fl r.2.2.2.2))] ∧ n = 1) := by
  unfold clock_Stop at h
  refine spec_of (draw_ok _) Try.func18 rfl (by decide) rfl (by kernel_rfl) ?_
  refine seq_np ?_
  refine reg_f ?_
  refine rs 4 [] [] (by kernel_rfl) allP_nil ?_
  refine rf [(1, iS xid), (2, .ptr 0 0), (4, .ptr 1 0), (6, .ptr 2 0)] [(0, .row 24 (Enc.cells c)), (1, .row 24 [iS 0, iS 0, .v (.slice none 0 0)]), (2, .row 28 [iS 0, iS 0])] 3 (by kernel_rfl) ?_
  refine wk_id ?_
  refine seq_np ?_
  refine seq_np ?_
  refine reg_f ?_
  refine rs 1 [] [] (by kernel_rfl) allP_nil ?_
  obtain ⟨r3355, hr3355, h⟩ := bind_sx h
  refine run_call 20 [.agg (Enc.cells c)] (some 11) (by kernel_rfl) ?_
  refine call_0 (clock_Check_spec c r3355 hr3355) (by simp only [push_cast, seval]) (by simp only [push_cast, seval]) ?_
  refine back_f ?_
  refine rs 2 [] [] (by kernel_rfl) allP_nil ?_
  refine rf [(1, iS xid), (2, .ptr 0 0), (4, .ptr 1 0), (6, .ptr 2 0), (7, .ptr 3 0)] [(0, .row 24 (Enc.cells c)), (1, .row 24 [iS 0, iS 0, .v (.slice none 0 0)]), (2, .row 28 [iS 0, iS 0]), (3, .row 28 (Enc.cells r3355))] 4 (by kernel_rfl) ?_
  refine wk_id ?_
  refine seq_np ?_
  refine reg_f ?_
  refine rs 3 [] [] (by kernel_rfl) allP_nil ?_
  refine rf [(1, iS xid), (2, .ptr 0 0), (4, .ptr 1 0), (6, .ptr 2 0), (7, .ptr 3 0), (14, bS (r3355.Code != 0))] [(0, .row 24 (Enc.cells c)), (1, .row 24 [iS 0, iS 0, .v (.slice none 0 0)]), (2, .row 28 [iS 0, iS 0]), (3, .row 28 (Enc.cells r3355))] 4 (by kernel_rfl) ?_
  refine wk_id ?_
  refine cond_sx h (by kernel_rfl) (fun g3370 h => ?_) (fun g3370 h => ?_)
  · refine seq_np ?_
    refine reg_t ?_
    refine rs 5 [] [] (by kernel_rfl) allP_nil ?_
    refine rt [(4, .ptr 1 0), (5, bS false), (6, .ptr 2 0)] [(0, .row 24 (Enc.cells c)), (1, .row 24 [iS 0, iS 0, .v (.slice none 0 0)]), (2, .row 28 (Enc.cells r3355)), (3, .row 28 (Enc.cells r3355))] 9 follows (by kernel_rfl) ?_
    refine wk_id ?_
    obtain rfl := Option.some.inj h
    refine ret_at (.tup [.agg [iS 0, iS 0, .v (.slice none 0 0)], bS false, .agg (Enc.cells r3355)]) (by kernel_rfl) ?_
    exact ret_e [] [] (by simp only [push_cast, seval]) (by simp only [push_cast, seval]) rfl rfl rfl
  · refine wk_id ?_
    refine seq_np ?_
    refine reg_f ?_
    refine rs 1 [] [] (by kernel_rfl) allP_nil ?_
    obtain ⟨r3357, hr3357, h⟩ := bind_sx h
    refine call_x (clock_copied_spec c r3357 hr3357) (args := [.agg (Enc.cells c)]) (dst := (some 18)) (by kernel_rfl) [(0, .row 24 (Enc.cells c)), (1, .row 24 [iS 0, iS 0, .v (.slice none 0 0)]), (2, .row 28 [iS 0, iS 0]), (3, .row 28 (Enc.cells r3355))] 4 (by kernel_rfl) [] [] (.agg [iS r3357.1, iS r3357.2.1, .own 4 0 r3357.2.2.length]) [(4, .row 54 (fl r3357.2.2))] (by simp only [push_cast, seval]) (by simp only [push_cast, seval]) (by kernel_rfl) (.inl rfl) (by simp only [push_cast, seval]) (by simp only [push_cast, seval]) ?_
    refine rs 2 [] [] (by kernel_rfl) allP_nil ?_
    refine rf [(1, iS xid), (4, .ptr 1 0), (6, .ptr 2 0), (8, .ptr 5 0)] [(0, .row 24 (Enc.cells c)), (1, .row 24 [iS 0, iS 0, .v (.slice none 0 0)]), (2, .row 28 [iS 0, iS 0]), (3, .row 28 (Enc.cells r3355)), (4, .row 54 (fl r3357.2.2)), (5, .row 24 [iS r3357.1, iS r3357.2.1, .own 4 0 r3357.2.2.length])] 6 (by kernel_rfl) ?_
    refine wk_id ?_
    refine seq_np ?_
    refine reg_f ?_
    refine rs 2 [] [] (by kernel_rfl) allP_nil ?_
    obtain ⟨r3359, hr3359, h⟩ := bind_sx h
    refine call_x (clock_find_spec (Clock.mk r3357.1 r3357.2.1 r3357.2.2) xid r3359 hr3359) (args := [.agg [iS r3357.1, iS r3357.2.1, .own 4 0 r3357.2.2.length], iS xid]) (dst := (some 21)) (by kernel_rfl) [(0, .row 24 (Enc.cells c)), (1, .row 24 [iS 0, iS 0, .v (.slice none 0 0)]), (2, .row 28 [iS 0, iS 0]), (3, .row 28 (Enc.cells r3355)), (4, .row 54 (fl r3357.2.2)), (5, .row 24 [iS r3357.1, iS r3357.2.1, .own 4 0 r3357.2.2.length])] 6 (by kernel_rfl) [] [4] (iS r3359) [] (by simp only [push_cast, seval]) (by simp only [push_cast, seval]) (by kernel_rfl) (.inr ⟨by simp only [push_cast, seval], by simp only [push_cast, seval]⟩) (by simp only [push_cast, seval]) (by simp only [push_cast, seval]) ?_
    refine rs 1 [] [] (by kernel_rfl) allP_nil ?_
    refine rf [(4, .ptr 1 0), (6, .ptr 2 0), (8, .ptr 5 0), (9, iS r3359)] [(0, .row 24 (Enc.cells c)), (1, .row 24 [iS 0, iS 0, .v (.slice none 0 0)]), (2, .row 28 [iS 0, iS 0]), (3, .row 28 (Enc.cells r3355)), (4, .row 54 (fl r3357.2.2)), (5, .row 24 [iS r3357.1, iS r3357.2.1, .own 4 0 r3357.2.2.length])] 6 (by kernel_rfl) ?_
    refine wk_id ?_
    refine seq_cut (A := Int × Int × Int × (List Alarm)) (fun a => ([(4, .ptr 0 0), (6, .ptr 1 0), (8, .ptr 2 0), (9, iS a.1)], [(0, .row 24 [iS 0, iS 0, .v (.slice none 0 0)]), (1, .row 28 [iS 0, iS 0]), (2, .row 24 [iS a.2.1, iS a.2.2.1, .own 3 0 a.2.2.2.length]), (3, .row 54 (fl a.2.2.2))], 4)) (fun a => (clock_Stop_j1 a.1 a.2.1 a.2.2.1 a.2.2.2) = some r) (fun K3364 hK3364 => ?_) ?_
    · refine seq_np ?_
      refine reg_f ?_
      refine rs 2 [] [] (by kernel_rfl) allP_nil ?_
      refine rf [(4, .ptr 1 0), (6, .ptr 2 0), (8, .ptr 5 0), (9, iS r3359), (23, bS (decide ((0 : Int) ≤ r3359)))] [(0, .row 24 (Enc.cells c)), (1, .row 24 [iS 0, iS 0, .v (.slice none 0 0)]), (2, .row 28 [iS 0, iS 0]), (3, .row 28 (Enc.cells r3355)), (4, .row 54 (fl r3357.2.2)), (5, .row 24 [iS r3357.1, iS r3357.2.1, .own 4 0 r3357.2.2.length])] 6 (by kernel_rfl) ?_
      refine wk_id ?_
      refine cond_sx h (by kernel_rfl) (fun g3369 h => ?_) (fun g3369 h => ?_)
      · refine reg_f ?_
        refine rs 5 [] [] (by kernel_rfl) allP_nil ?_
        obtain ⟨r3367, hr3367, h⟩ := bind_sx h
        refine call_x (slices_Delete_Alarm_1_spec r3359 (IntKind.i64.wrap (r3359 + 1)) r3357.2.2 r3367 hr3367) (args := [.own 4 0 r3357.2.2.length, iS r3359, iS (IntKind.i64.wrap (r3359 + 1))]) (dst := (some 29)) (by kernel_rfl) [(0, .row 24 (Enc.cells c)), (1, .row 24 [iS 0, iS 0, .v (.slice none 0 0)]), (2, .row 28 [iS 0, iS 0]), (3, .row 28 (Enc.cells r3355)), (4, .row 54 (fl r3357.2.2)), (5, .row 24 [iS r3357.1, iS r3357.2.1, .own 4 0 r3357.2.2.length])] 6 (by kernel_rfl) [(0, 4)] [] (.own 4 0 r3367.length) [(4, .row 54 (fl r3367)), (4, .dead)] (by simp only [push_cast, seval]) (by simp only [push_cast, seval]) (by kernel_rfl) (.inl rfl) (by simp only [push_cast, seval]) (by simp only [push_cast, seval]) ?_
        refine rs 2 [] [] (by kernel_rfl) allP_nil ?_
        refine rf [(4, .ptr 1 0), (6, .ptr 2 0), (8, .ptr 5 0), (9, iS r3359)] [(0, .row 24 (Enc.cells c)), (1, .row 24 [iS 0, iS 0, .v (.slice none 0 0)]), (2, .row 28 [iS 0, iS 0]), (3, .row 28 (Enc.cells r3355)), (4, .row 54 (fl r3367)), (5, .row 24 [iS r3357.1, iS r3357.2.1, .own 4 0 r3367.length])] 7 (by kernel_rfl) ?_
        exact hK3364 (r3359, r3357.1, r3357.2.1, r3367) _ _ _ h (leSt_m [(0, 1), (1, 2), (2, 5), (3, 4)] [] (by simp only [push_cast, seval]) (by simp only [push_cast, seval]) rfl rfl rfl)
      · exact hK3364 (r3359, r3357.1, r3357.2.1, r3357.2.2) _ _ _ h (leSt_m [(0, 1), (1, 2), (2, 5), (3, 4)] [] (by simp only [push_cast, seval]) (by simp only [push_cast, seval]) rfl rfl rfl)
    · rintro ⟨i1, c2_Now1, c2_Next1, c3q1⟩ h
      try dsimp only at h ⊢
      unfold clock_Stop_j1 at h
      refine seq_np ?_
      refine reg_f ?_
      refine rs 7 [] [] (by kernel_rfl) allP_nil ?_
      refine rf [(4, .ptr 0 0), (5, bS (decide ((0 : Int) ≤ i1))), (6, .ptr 1 0)] [(0, .row 24 [iS c2_Now1, iS c2_Next1, .own 3 0 c3q1.length]), (1, .row 28 [iS 0, iS 0]), (2, .row 24 [iS c2_Now1, iS c2_Next1, .own 3 0 c3q1.length]), (3, .row 54 (fl c3q1))] 4 (by kernel_rfl) ?_
      refine wk_id ?_
      obtain rfl := Option.some.inj h
      refine ret_at (.tup [.agg [iS c2_Now1, iS c2_Next1, .own 3 0 c3q1.length], bS (decide ((0 : Int) ≤ i1)), .agg [iS 0, iS 0]]) (by kernel_rfl) ?_
      exact ret_e [(0, 3)] [] (by simp only [push_cast, seval]) (by simp only [push_cast, seval]) rfl rfl rfl

set_option maxRecDepth 100000 in
set_option maxHeartbeats 200000000 in
theorem taskmilllaw_ClockTimes_spec (c : Clock) (xid : Int) (after : Int) (period : Int) (ticks : Int) (r : Bool) (h : taskmilllaw_ClockTimes c xid after period ticks = some r) : SpecW Try.prog 6 [.agg (Enc.cells c), iS xid, iS after, iS period, iS ticks] [] 0 (fun x h n => x = bS r ∧ h = [] ∧ n = 0) := by
  unfold taskmilllaw_ClockTimes at h
  refine spec_of (draw_ok _) Try.func6 rfl (by decide) rfl (by kernel_rfl) ?_
  refine seq_np ?_
  refine reg_f ?_
  refine rs 2 [] [] (by kernel_rfl) allP_nil ?_
  refine rf [(1, iS xid), (2, iS after), (3, iS period), (4, iS ticks), (5, .ptr 0 0)] [(0, .row 24 (Enc.cells c))] 1 (by kernel_rfl) ?_
  refine wk_id ?_
  refine seq_np ?_
  refine seq_np ?_
  refine reg_f ?_
  obtain ⟨r3392, hr3392, h⟩ := bind_sx h
  refine run_call 8 [] (some 24) (by kernel_rfl) ?_
  refine call_0 (taskmilllaw_clockBegun_spec r3392 hr3392) (by simp only [push_cast, seval]) (by simp only [push_cast, seval]) ?_
  refine back_f ?_
  refine rs 1 [] [] (by kernel_rfl) allP_nil ?_
  refine rf [(1, iS xid), (2, iS after), (3, iS period), (4, iS ticks), (5, .ptr 0 0), (25, bS (!r3392))] [(0, .row 24 (Enc.cells c))] 1 (by kernel_rfl) ?_
  refine wk_id ?_
  refine cond_sx h (by kernel_rfl) (fun g3735 h => ?_) (fun g3735 h => ?_)
  · refine seq_np ?_
    refine reg_f ?_
    refine rs 1 [] [] (by kernel_rfl) allP_nil ?_
    refine rf [(10, bS false)] [(0, .row 24 (Enc.cells c))] 1 (by kernel_rfl) ?_
    refine wk_id ?_
    obtain rfl := Option.some.inj h
    refine ret_at (bS false) (by kernel_rfl) ?_
    exact ret_e [] [] (by simp only [push_cast, seval]) (by simp only [push_cast, seval]) rfl rfl rfl
  · refine wk_id ?_
    refine seq_np ?_
    refine seq_cut (A := Unit) (fun _ => ([(1, iS xid), (2, iS after), (3, iS period), (4, iS ticks), (5, .ptr 0 0), (37, bS ((decide ((100 : Int) < ((c.List.length : Nat) : Int))) || ((decide (ticks < 0)) || (decide ((2000 : Int) < ticks)))))], [(0, .row 24 (Enc.cells c))], 1)) (fun _ => True) (fun K3398 hK3398 => ?_) (fun _ _ => ?_)
    · refine reg_f ?_
      refine rs 5 [] [] (by kernel_rfl) allP_nil ?_
      refine run_split 30 (decide ((100 : Int) < ((c.List.length : Nat) : Int))) (.inl (by kernel_rfl)) (fun g3399 => ?_) (fun g3399 => ?_)
      · refine rs 7 [] [] (by kernel_rfl) allP_nil ?_
        refine rf [(1, iS xid), (2, iS after), (3, iS period), (4, iS ticks), (5, .ptr 0 0), (37, bS true)] [(0, .row 24 (Enc.cells c))] 1 (by kernel_rfl) ?_
        exact hK3398 () _ _ _ trivial (leSt_m [(0, 0)] [] (by (try simp only [g3399]) <;> simp only [push_cast, seval]) (by (try simp only [g3399]) <;> simp only [push_cast, seval]) rfl rfl rfl)
      · refine rs 4 [] [] (by kernel_rfl) allP_nil ?_
        refine run_split 34 (decide (ticks < 0)) (.inl (by kernel_rfl)) (fun g3400 => ?_) (fun g3400 => ?_)
        · refine rs 3 [] [] (by kernel_rfl) allP_nil ?_
          refine rf [(1, iS xid), (2, iS after), (3, iS period), (4, iS ticks), (5, .ptr 0 0), (37, bS true)] [(0, .row 24 (Enc.cells c))] 1 (by kernel_rfl) ?_
          exact hK3398 () _ _ _ trivial (leSt_m [(0, 0)] [] (by first | ((try simp only [g3399, g3400]) <;> simp only [push_cast, seval]; done) | ((try simp only [g3399]); (try simp only [g3400]); simp only [push_cast, seval]; done) | (exfalso; clear h; simp_all; done)) (by first | ((try simp only [g3399, g3400]) <;> simp only [push_cast, seval]; done) | ((try simp only [g3399]); (try simp only [g3400]); simp only [push_cast, seval]; done) | (exfalso; clear h; simp_all; done)) rfl rfl rfl)
        · refine rs 3 [] [] (by kernel_rfl) allP_nil ?_
          refine rf [(1, iS xid), (2, iS after), (3, iS period), (4, iS ticks), (5, .ptr 0 0), (37, bS (decide ((2000 : Int) < ticks)))] [(0, .row 24 (Enc.cells c))] 1 (by kernel_rfl) ?_
          exact hK3398 () _ _ _ trivial (leSt_m [(0, 0)] [] (by first | ((try simp only [g3399, g3400]) <;> simp only [push_cast, seval]; done) | ((try simp only [g3399]); (try simp only [g3400]); simp only [push_cast, seval]; done) | (exfalso; clear h; simp_all; done)) (by first | ((try simp only [g3399, g3400]) <;> simp only [push_cast, seval]; done) | ((try simp only [g3399]); (try simp only [g3400]); simp only [push_cast, seval]; done) | (exfalso; clear h; simp_all; done)) rfl rfl rfl)
    · dsimp only
      refine cond_sx h (by kernel_rfl) (fun g3734 h => ?_) (fun g3734 h => ?_)
      · refine seq_np ?_
        refine reg_f ?_
        refine rs 1 [] [] (by kernel_rfl) allP_nil ?_
        refine rf [(10, bS true)] [(0, .row 24 (Enc.cells c))] 1 (by kernel_rfl) ?_
        refine wk_id ?_
        obtain rfl := Option.some.inj h
        refine ret_at (bS true) (by kernel_rfl) ?_
        exact ret_e [] [] (by simp only [push_cast, seval]) (by simp only [push_cast, seval]) rfl rfl rfl
      · refine wk_id ?_
        refine seq_np ?_
        refine reg_f ?_
        refine rs 4 [] [] (by kernel_rfl) allP_nil ?_
        obtain ⟨r3402, hr3402, h⟩ := bind_sx h
        refine call_x (clock_Set_spec c xid after period r3402 hr3402) (args := [.agg (Enc.cells c), iS xid, iS after, iS period]) (dst := (some 43)) (by kernel_rfl) [(0, .row 24 (Enc.cells c))] 1 (by kernel_rfl) [] [] (.tup [.agg [iS r3402.1, iS r3402.2.1, .own 1 0 r3402.2.2.2.2.length], bS r3402.2.2.1, .agg (Enc.cells r3402.2.2.2.1)]) [(1, .row 54 (fl r3402.2.2.2.2))] (by simp only [push_cast, seval]) (by simp only [push_cast, seval]) (by kernel_rfl) (.inl rfl) (by simp only [push_cast, seval]) (by simp only [push_cast, seval]) ?_
        refine rs 9 [] [] (by kernel_rfl) allP_nil ?_
        refine rf [(1, iS xid), (2, iS after), (3, iS period), (4, iS ticks), (5, .ptr 0 0), (11, .ptr 2 0), (13, .ptr 3 0)] [(0, .row 24 (Enc.cells c)), (1, .row 54 (fl r3402.2.2.2.2)), (2, .row 24 [iS r3402.1, iS r3402.2.1, .own 1 0 r3402.2.2.2.2.length]), (3, .row 28 (Enc.cells r3402.2.2.2.1))] 4 (by kernel_rfl) ?_
        refine wk_id ?_
        refine seq_np ?_
        refine seq_np ?_
        refine reg_f ?_
        refine rs 3 [] [] (by kernel_rfl) allP_nil ?_
        refine rf [(1, iS xid), (2, iS after), (3, iS period), (4, iS ticks), (5, .ptr 0 0), (11, .ptr 2 0), (13, .ptr 3 0), (49, bS (r3402.2.2.2.1.Code != 0))] [(0, .row 24 (Enc.cells c)), (1, .row 54 (fl r3402.2.2.2.2)), (2, .row 24 [iS r3402.1, iS r3402.2.1, .own 1 0 r3402.2.2.2.2.length]), (3, .row 28 (Enc.cells r3402.2.2.2.1))] 4 (by kernel_rfl) ?_
        refine wk_id ?_
        refine cond_sx h (by kernel_rfl) (fun g3733 h => ?_) (fun g3733 h => ?_)
        · refine seq_np ?_
          refine reg_f ?_
          refine rs 1 [] [] (by kernel_rfl) allP_nil ?_
          refine rf [(10, bS true)] [(0, .row 24 (Enc.cells c)), (1, .row 54 (fl r3402.2.2.2.2)), (2, .row 24 [iS r3402.1, iS r3402.2.1, .own 1 0 r3402.2.2.2.2.length]), (3, .row 28 (Enc.cells r3402.2.2.2.1))] 4 (by kernel_rfl) ?_
          refine wk_id ?_
          obtain rfl := Option.some.inj h
          refine ret_at (bS true) (by kernel_rfl) ?_
          exact ret_e [] [] (by simp only [push_cast, seval]) (by simp only [push_cast, seval]) rfl rfl rfl
        · refine wk_id ?_
          refine seq_np ?_
          refine reg_f ?_
          refine rs 2 [] [] (by kernel_rfl) allP_nil ?_
          obtain ⟨r3405, hr3405, h⟩ := bind_sx h
          refine call_x (clock_Pass_spec (Clock.mk r3402.1 r3402.2.1 r3402.2.2.2.2) ticks r3405 hr3405) (args := [.agg [iS r3402.1, iS r3402.2.1, .own 1 0 r3402.2.2.2.2.length], iS ticks]) (dst := (some 53)) (by kernel_rfl) [(0, .row 24 (Enc.cells c)), (1, .row 54 (fl r3402.2.2.2.2)), (2, .row 24 [iS r3402.1, iS r3402.2.1, .own 1 0 r3402.2.2.2.2.length]), (3, .row 28 (Enc.cells r3402.2.2.2.1))] 4 (by kernel_rfl) [] [1] (.tup [.agg [iS r3405.1, iS r3405.2.1, .own 4 0 r3405.2.2.2.1.length], .own 5 0 r3405.2.2.2.2.length, .agg (Enc.cells r3405.2.2.1)]) [(4, .row 54 (fl r3405.2.2.2.1)), (5, .row 43 (fl r3405.2.2.2.2))] (by simp only [push_cast, seval]) (by simp only [push_cast, seval]) (by kernel_rfl) (.inr ⟨by simp only [push_cast, seval], by simp only [push_cast, seval]⟩) (by simp only [push_cast, seval]) (by simp only [push_cast, seval]) ?_
          refine rs 8 [] [] (by kernel_rfl) allP_nil ?_
          refine rf [(1, iS xid), (2, iS after), (3, iS period), (4, iS ticks), (5, .ptr 0 0), (13, .ptr 3 0), (14, .ptr 6 0), (15, .own 5 0 r3405.2.2.2.2.length)] [(0, .row 24 (Enc.cells c)), (1, .row 54 (fl r3402.2.2.2.2)), (2, .row 24 [iS r3402.1, iS r3402.2.1, .own 1 0 r3402.2.2.2.2.length]), (3, .row 28 (Enc.cells r3405.2.2.1)), (4, .row 54 (fl r3405.2.2.2.1)), (5, .row 43 (fl r3405.2.2.2.2)), (6, .row 24 [iS r3405.1, iS r3405.2.1, .own 4 0 r3405.2.2.2.1.length])] 7 (by kernel_rfl) ?_
          refine wk_id ?_
          refine seq_np ?_
          refine seq_np ?_
          refine reg_f ?_
          refine rs 3 [] [] (by kernel_rfl) allP_nil ?_
          refine rf [(1, iS xid), (2, iS after), (3, iS period), (4, iS ticks), (5, .ptr 0 0), (13, .ptr 3 0), (14, .ptr 6 0), (15, .own 5 0 r3405.2.2.2.2.length), (59, bS (r3405.2.2.1.Code != 0))] [(0, .row 24 (Enc.cells c)), (1, .row 54 (fl r3402.2.2.2.2)), (2, .row 24 [iS r3402.1, iS r3402.2.1, .own 1 0 r3402.2.2.2.2.length]), (3, .row 28 (Enc.cells r3405.2.2.1)), (4, .row 54 (fl r3405.2.2.2.1)), (5, .row 43 (fl r3405.2.2.2.2)), (6, .row 24 [iS r3405.1, iS r3405.2.1, .own 4 0 r3405.2.2.2.1.length])] 7 (by kernel_rfl) ?_
          refine wk_id ?_
          refine cond_sx h (by kernel_rfl) (fun g3732 h => ?_) (fun g3732 h => ?_)
          · refine seq_np ?_
            refine reg_t ?_
            refine rs 1 [] [] (by kernel_rfl) allP_nil ?_
            obtain ⟨r3409, hr3409, h⟩ := bind_sx h
            refine run_call 12 [iS 9, iS 0] (some 61) (by kernel_rfl) ?_
            refine callE_0 (taskmillref_F_spec 9 0 r3409 hr3409) (by simp only [push_cast, seval]) (by simp only [push_cast, seval]) ?_
            refine back_t ?_
            refine rs 2 [] [] (by kernel_rfl) allP_nil ?_
            refine rt [(10, bS ((r3405.2.2.1.Code == r3409.Code) && ((r3405.2.2.1.At == r3409.At) && true)))] [(0, .row 24 (Enc.cells c)), (1, .row 54 (fl r3402.2.2.2.2)), (2, .row 24 [iS r3402.1, iS r3402.2.1, .own 1 0 r3402.2.2.2.2.length]), (3, .row 28 (Enc.cells r3405.2.2.1)), (4, .row 54 (fl r3405.2.2.2.1)), (5, .row 43 (fl r3405.2.2.2.2)), (6, .row 24 [iS r3405.1, iS r3405.2.1, .own 4 0 r3405.2.2.2.1.length])] 11 follows (by kernel_rfl) ?_
            refine wk_id ?_
            obtain rfl := Option.some.inj h
            refine ret_at (bS ((r3405.2.2.1.Code == r3409.Code) && ((r3405.2.2.1.At == r3409.At) && true))) (by kernel_rfl) ?_
            exact ret_e [] [] (by simp only [push_cast, seval]) (by simp only [push_cast, seval]) rfl rfl rfl
          · refine wk_id ?_
            refine seq_np ?_
            refine reg_f ?_
            refine rs 5 [] [] (by kernel_rfl) allP_nil ?_
            refine rf [(1, iS xid), (3, iS period), (4, iS ticks), (5, .ptr 0 0), (13, .ptr 3 0), (14, .ptr 6 0), (15, .own 5 0 r3405.2.2.2.2.length), (16, iS (IntKind.i64.wrap (c.Now + after)))] [(0, .row 24 (Enc.cells c)), (1, .row 54 (fl r3402.2.2.2.2)), (2, .row 24 [iS r3402.1, iS r3402.2.1, .own 1 0 r3402.2.2.2.2.length]), (3, .row 28 (Enc.cells r3405.2.2.1)), (4, .row 54 (fl r3405.2.2.2.1)), (5, .row 43 (fl r3405.2.2.2.2)), (6, .row 24 [iS r3405.1, iS r3405.2.1, .own 4 0 r3405.2.2.2.1.length])] 7 (by kernel_rfl) ?_
            refine wk_id ?_
            refine seq_np ?_
            refine reg_f ?_
            refine rs 1 [] [] (by kernel_rfl) allP_nil ?_
            refine rf [(1, iS xid), (3, iS period), (4, iS ticks), (5, .ptr 0 0), (13, .ptr 3 0), (14, .ptr 6 0), (15, .own 5 0 r3405.2.2.2.2.length), (16, iS (IntKind.i64.wrap (c.Now + after))), (17, iS 0)] [(0, .row 24 (Enc.cells c)), (1, .row 54 (fl r3402.2.2.2.2)), (2, .row 24 [iS r3402.1, iS r3402.2.1, .own 1 0 r3402.2.2.2.2.length]), (3, .row 28 (Enc.cells r3405.2.2.1)), (4, .row 54 (fl r3405.2.2.2.1)), (5, .row 43 (fl r3405.2.2.2.2)), (6, .row 24 [iS r3405.1, iS r3405.2.1, .own 4 0 r3405.2.2.2.1.length])] 7 (by kernel_rfl) ?_
            refine wk_id ?_
            refine seq_np ?_
            refine seq_np ?_
            refine reg_f ?_
            refine rs 1 [] [] (by kernel_rfl) allP_nil ?_
            refine rf [(1, iS xid), (3, iS period), (4, iS ticks), (5, .ptr 0 0), (13, .ptr 3 0), (14, .ptr 6 0), (15, .own 5 0 r3405.2.2.2.2.length), (16, iS (IntKind.i64.wrap (c.Now + after))), (17, iS 0), (18, iS 0)] [(0, .row 24 (Enc.cells c)), (1, .row 54 (fl r3402.2.2.2.2)), (2, .row 24 [iS r3402.1, iS r3402.2.1, .own 1 0 r3402.2.2.2.2.length]), (3, .row 28 (Enc.cells r3405.2.2.1)), (4, .row 54 (fl r3405.2.2.2.1)), (5, .row 43 (fl r3405.2.2.2.2)), (6, .row 24 [iS r3405.1, iS r3405.2.1, .own 4 0 r3405.2.2.2.1.length])] 7 (by kernel_rfl) ?_
            refine wk_id ?_
            refine block_np ?_
            refine loop_sx (S := Int × Int × Int × Fault × Int × Int × (List S43) × (List Alarm)) (fun a => ([(1, iS xid), (3, iS period), (4, iS ticks), (5, .ptr 0 0), (13, .ptr 1 0), (14, .ptr 2 0), (15, .own 3 0 a.2.2.2.2.2.2.1.length), (16, iS a.1), (17, iS a.2.1), (18, iS a.2.2.1)], [(0, .row 24 (Enc.cells c)), (1, .row 28 (Enc.cells a.2.2.2.1)), (2, .row 24 [iS a.2.2.2.2.1, iS a.2.2.2.2.2.1, .own 4 0 a.2.2.2.2.2.2.2.length]), (3, .row 43 (fl a.2.2.2.2.2.2.1)), (4, .row 54 (fl a.2.2.2.2.2.2.2))], 5)) h (leSt_m [(0, 0), (1, 3), (2, 6), (3, 5), (4, 4)] [] (by simp only [push_cast, seval]) (by simp only [push_cast, seval]) rfl rfl rfl) ?_
            rintro ⟨when18, last7, i9, c1q11, c2_Now11, c2_Next11, c3q11, c4q11⟩ o3 R3 h hr3 hn3 hx3 ht3
            try dsimp only at h hn3 ⊢
            unfold taskmilllaw_ClockTimes_l2 at h
            try dsimp only at h
            refine seq_np ?_
            refine seq_np ?_
            refine reg_f ?_
            refine rs 4 [] [] (by kernel_rfl) allP_nil ?_
            refine rf [(1, iS xid), (3, iS period), (4, iS ticks), (5, .ptr 0 0), (13, .ptr 1 0), (14, .ptr 2 0), (15, .own 3 0 c3q11.length), (16, iS when18), (17, iS last7), (18, iS i9), (70, bS (decide (i9 < ((c3q11.length : Nat) : Int))))] [(0, .row 24 (Enc.cells c)), (1, .row 28 (Enc.cells c1q11)), (2, .row 24 [iS c2_Now11, iS c2_Next11, .own 4 0 c4q11.length]), (3, .row 43 (fl c3q11)), (4, .row 54 (fl c4q11))] 5 (by kernel_rfl) ?_
            refine wk_id ?_
            refine cond_sx h (by kernel_rfl) (fun g3731 h => ?_) (fun g3731 h => ?_)
            · refine wk_id ?_
              refine seq_np ?_
              refine block_cut (A := Int) (fun a => ([(1, iS xid), (3, iS period), (4, iS ticks), (5, .ptr 0 0), (13, .ptr 1 0), (14, .ptr 2 0), (15, .own 3 0 c3q11.length), (16, iS a), (17, iS (ix c3q11 i9).e0), (18, iS i9)], [(0, .row 24 (Enc.cells c)), (1, .row 28 (Enc.cells c1q11)), (2, .row 24 [iS c2_Now11, iS c2_Next11, .own 4 0 c4q11.length]), (3, .row 43 (fl c3q11)), (4, .row 54 (fl c4q11))], 5)) (fun a => (taskmilllaw_ClockTimes_j1 c xid period ticks i9 c1q11 c2_Now11 c2_Next11 c3q11 c4q11 a) = some o3) (fun K3621 hK3621 => ?_) ?_
              · refine seq_np ?_
                refine chk_sx h (fun g3641 h => ?_)
                refine chk_sx h (fun g3644 h => ?_)
                refine chk_sx h (fun g3647 h => ?_)
                refine seq_cut (A := Unit) (fun _ => ([(1, iS xid), (3, iS period), (4, iS ticks), (5, .ptr 0 0), (13, .ptr 1 0), (14, .ptr 2 0), (15, .own 3 0 c3q11.length), (16, iS when18), (18, iS i9), (101, bS ((decide ((ix c3q11 i9).e0 < last7)) || ((decide ((ix c3q11 i9).e0 ≤ c.Now)) || (decide ((IntKind.i64.wrap (c.Now + ticks)) < (ix c3q11 i9).e0)))))], [(0, .row 24 (Enc.cells c)), (1, .row 28 (Enc.cells c1q11)), (2, .row 24 [iS c2_Now11, iS c2_Next11, .own 4 0 c4q11.length]), (3, .row 43 (fl c3q11)), (4, .row 54 (fl c4q11))], 34)) (fun _ => True) (fun K3639 hK3639 => ?_) (fun _ _ => ?_)
                · refine reg_t ?_
                  have k3640 : 0 ≤ i9 ∧ i9 < ((c3q11.length : Nat) : Int) := by first | simpa only [Bool.and_eq_true, decide_eq_true_eq, bne_iff_ne, ne_eq] using g3641 | (simp at g3641 ⊢; omega)
                  refine rs 8 [none, none, some ⟨.ptr 3 (0 + (i9).toNat * 2), [], 7, [3]⟩, none, some ⟨iS (ix c3q11 i9).e0, [], 9, [3]⟩] _ (by kernel_rfl) (allP_cons (ob_ld c3q11 i9 2 0 ((0 + (i9).toNat * 2) + 0) k3640 rfl (by decide) (by first | rfl | omega) (dflS Try.prog 3) (iS (ix c3q11 i9).e0) rfl 9 [3]) (allP_cons (ob_ix_o 3 c3q11.length 0 2 7 i9 k3640) allP_nil)) ?_
                  refine run_split 80 (decide ((ix c3q11 i9).e0 < last7)) (.inl (by kernel_rfl)) (fun g3642 => ?_) (fun g3642 => ?_)
                  · refine rs 21 [] [] (by kernel_rfl) allP_nil ?_
                    refine rt [(1, iS xid), (3, iS period), (4, iS ticks), (5, .ptr 0 0), (13, .ptr 1 0), (14, .ptr 2 0), (15, .own 3 0 c3q11.length), (16, iS when18), (18, iS i9), (101, bS true)] [(0, .row 24 (Enc.cells c)), (1, .row 28 (Enc.cells c1q11)), (2, .row 24 [iS c2_Now11, iS c2_Next11, .own 4 0 c4q11.length]), (3, .row 43 (fl c3q11)), (4, .row 54 (fl c4q11))] 34 follows (by kernel_rfl) ?_
                    exact hK3639 () _ _ _ trivial (leSt_m [(0, 0), (1, 1), (2, 2), (3, 3), (4, 4)] [] (by (try simp only [g3642]) <;> simp only [push_cast, seval]) (by (try simp only [g3642]) <;> simp only [push_cast, seval]) rfl rfl rfl)
                  · have k3643 : 0 ≤ i9 ∧ i9 < ((c3q11.length : Nat) : Int) := by have e := or_use g3644 (by first | ((try simp only [g3642]) <;> rfl) | ((try simp only [g3642]); rfl) | (exfalso; clear h; simp_all; done)); first | simpa only [Bool.and_eq_true, decide_eq_true_eq, bne_iff_ne, ne_eq] using e | (simp at e ⊢; omega)
                    refine rs 10 [none, none, some ⟨.ptr 3 (0 + (i9).toNat * 2), [], 15, [3]⟩, none, some ⟨iS (ix c3q11 i9).e0, [], 17, [3]⟩] _ (by kernel_rfl) (allP_cons (ob_ld c3q11 i9 2 0 ((0 + (i9).toNat * 2) + 0) k3643 rfl (by decide) (by first | rfl | omega) (dflS Try.prog 3) (iS (ix c3q11 i9).e0) rfl 17 [3]) (allP_cons (ob_ix_o 3 c3q11.length 0 2 15 i9 k3643) allP_nil)) ?_
                    refine run_split 90 (decide ((ix c3q11 i9).e0 ≤ c.Now)) (.inl (by kernel_rfl)) (fun g3645 => ?_) (fun g3645 => ?_)
                    · refine rs 11 [] [] (by kernel_rfl) allP_nil ?_
                      refine rt [(1, iS xid), (3, iS period), (4, iS ticks), (5, .ptr 0 0), (13, .ptr 1 0), (14, .ptr 2 0), (15, .own 3 0 c3q11.length), (16, iS when18), (18, iS i9), (101, bS true)] [(0, .row 24 (Enc.cells c)), (1, .row 28 (Enc.cells c1q11)), (2, .row 24 [iS c2_Now11, iS c2_Next11, .own 4 0 c4q11.length]), (3, .row 43 (fl c3q11)), (4, .row 54 (fl c4q11))] 34 follows (by kernel_rfl) ?_
                      exact hK3639 () _ _ _ trivial (leSt_m [(0, 0), (1, 1), (2, 2), (3, 3), (4, 4)] [] (by first | ((try simp only [g3642, g3645]) <;> simp only [push_cast, seval]; done) | ((try simp only [g3642]); (try simp only [g3645]); simp only [push_cast, seval]; done) | (exfalso; clear h; simp_all; done)) (by first | ((try simp only [g3642, g3645]) <;> simp only [push_cast, seval]; done) | ((try simp only [g3642]); (try simp only [g3645]); simp only [push_cast, seval]; done) | (exfalso; clear h; simp_all; done)) rfl rfl rfl)
                    · have k3646 : 0 ≤ i9 ∧ i9 < ((c3q11.length : Nat) : Int) := by have e := or_use g3647 (by first | ((try simp only [g3642, g3645]) <;> rfl) | ((try simp only [g3642]); (try simp only [g3645]); rfl) | (exfalso; clear h; simp_all; done)); first | simpa only [Bool.and_eq_true, decide_eq_true_eq, bne_iff_ne, ne_eq] using e | (simp at e ⊢; omega)
                      refine rs 11 [none, none, some ⟨.ptr 3 (0 + (i9).toNat * 2), [], 25, [3]⟩, none, some ⟨iS (ix c3q11 i9).e0, [], 27, [3]⟩] _ (by kernel_rfl) (allP_cons (ob_ld c3q11 i9 2 0 ((0 + (i9).toNat * 2) + 0) k3646 rfl (by decide) (by first | rfl | omega) (dflS Try.prog 3) (iS (ix c3q11 i9).e0) rfl 27 [3]) (allP_cons (ob_ix_o 3 c3q11.length 0 2 25 i9 k3646) allP_nil)) ?_
                      refine rt [(1, iS xid), (3, iS period), (4, iS ticks), (5, .ptr 0 0), (13, .ptr 1 0), (14, .ptr 2 0), (15, .own 3 0 c3q11.length), (16, iS when18), (18, iS i9), (101, bS (decide ((IntKind.i64.wrap (c.Now + ticks)) < (ix c3q11 i9).e0)))] [(0, .row 24 (Enc.cells c)), (1, .row 28 (Enc.cells c1q11)), (2, .row 24 [iS c2_Now11, iS c2_Next11, .own 4 0 c4q11.length]), (3, .row 43 (fl c3q11)), (4, .row 54 (fl c4q11))] 34 follows (by kernel_rfl) ?_
                      exact hK3639 () _ _ _ trivial (leSt_m [(0, 0), (1, 1), (2, 2), (3, 3), (4, 4)] [] (by first | ((try simp only [g3642, g3645]) <;> simp only [push_cast, seval]; done) | ((try simp only [g3642]); (try simp only [g3645]); simp only [push_cast, seval]; done) | (exfalso; clear h; simp_all; done)) (by first | ((try simp only [g3642, g3645]) <;> simp only [push_cast, seval]; done) | ((try simp only [g3642]); (try simp only [g3645]); simp only [push_cast, seval]; done) | (exfalso; clear h; simp_all; done)) rfl rfl rfl)
                · dsimp only
                  refine cond_sx h (by kernel_rfl) (fun g3669 h => ?_) (fun g3669 h => ?_)
                  · refine seq_np ?_
                    refine reg_f ?_
                    refine rs 1 [] [] (by kernel_rfl) allP_nil ?_
                    refine rf [(10, bS false)] [(0, .row 24 (Enc.cells c)), (1, .row 28 (Enc.cells c1q11)), (2, .row 24 [iS c2_Now11, iS c2_Next11, .own 4 0 c4q11.length]), (3, .row 43 (fl c3q11)), (4, .row 54 (fl c4q11))] 34 (by kernel_rfl) ?_
                    refine wk_id ?_
                    refine rt_cast ht3 ?_
                    obtain ⟨r0, h, e0⟩ := map_sx h
                    have e1 := hr3 r0 e0.symm
                    subst r0
                    obtain rfl := Option.some.inj h
                    refine ret_at (bS false) (by kernel_rfl) ?_
                    exact ret_e [] [] (by simp only [push_cast, seval]) (by simp only [push_cast, seval]) rfl rfl rfl
                  · refine wk_id ?_
                    refine chk_sx h (fun g3651 h => ?_)
                    refine seq_np ?_
                    refine reg_f ?_
                    have k3650 : 0 ≤ i9 ∧ i9 < ((c3q11.length : Nat) : Int) := by first | simpa only [Bool.and_eq_true, decide_eq_true_eq, bne_iff_ne, ne_eq] using g3651 | (simp at g3651 ⊢; omega)
                    refine rs 6 [none, none, some ⟨.ptr 3 (0 + (i9).toNat * 2), [], 34, [3]⟩, none, some ⟨iS (ix c3q11 i9).e0, [], 34, [3]⟩] _ (by kernel_rfl) (allP_cons (ob_ld c3q11 i9 2 0 ((0 + (i9).toNat * 2) + 0) k3650 rfl (by decide) (by first | rfl | omega) (dflS Try.prog 3) (iS (ix c3q11 i9).e0) rfl 34 [3]) (allP_cons (ob_ix_o 3 c3q11.length 0 2 34 i9 k3650) allP_nil)) ?_
                    refine rf [(1, iS xid), (3, iS period), (4, iS ticks), (5, .ptr 0 0), (13, .ptr 1 0), (14, .ptr 2 0), (15, .own 3 0 c3q11.length), (16, iS when18), (17, iS (ix c3q11 i9).e0), (18, iS i9)] [(0, .row 24 (Enc.cells c)), (1, .row 28 (Enc.cells c1q11)), (2, .row 24 [iS c2_Now11, iS c2_Next11, .own 4 0 c4q11.length]), (3, .row 43 (fl c3q11)), (4, .row 54 (fl c4q11))] 34 (by kernel_rfl) ?_
                    refine wk_id ?_
                    refine seq_np ?_
                    refine chk_sx h (fun g3658 h => ?_)
                    refine seq_np ?_
                    refine reg_f ?_
                    have k3657 : 0 ≤ i9 ∧ i9 < ((c3q11.length : Nat) : Int) := by first | simpa only [Bool.and_eq_true, decide_eq_true_eq, bne_iff_ne, ne_eq] using g3658 | (simp at g3658 ⊢; omega)
                    refine rs 7 [none, none, some ⟨.ptr 3 (0 + (i9).toNat * 2), [], 34, [3]⟩, none, some ⟨iS (ix c3q11 i9).e1, [], 34, [3]⟩] _ (by kernel_rfl) (allP_cons (ob_ld c3q11 i9 2 1 ((0 + (i9).toNat * 2) + 1) k3657 rfl (by decide) (by first | rfl | omega) (dflS Try.prog 3) (iS (ix c3q11 i9).e1) rfl 34 [3]) (allP_cons (ob_ix_o 3 c3q11.length 0 2 34 i9 k3657) allP_nil)) ?_
                    refine rf [(1, iS xid), (3, iS period), (4, iS ticks), (5, .ptr 0 0), (13, .ptr 1 0), (14, .ptr 2 0), (15, .own 3 0 c3q11.length), (16, iS when18), (17, iS (ix c3q11 i9).e0), (18, iS i9), (113, bS ((ix c3q11 i9).e1 != xid))] [(0, .row 24 (Enc.cells c)), (1, .row 28 (Enc.cells c1q11)), (2, .row 24 [iS c2_Now11, iS c2_Next11, .own 4 0 c4q11.length]), (3, .row 43 (fl c3q11)), (4, .row 54 (fl c4q11))] 34 (by kernel_rfl) ?_
                    refine wk_id ?_
                    refine cond_sx h (by kernel_rfl) (fun g3668 h => ?_) (fun g3668 h => ?_)
                    · exact hK3621 (when18) _ _ _ h (leSt_m [(0, 0), (1, 1), (2, 2), (3, 3), (4, 4)] [] (by simp only [push_cast, seval]) (by simp only [push_cast, seval]) rfl rfl rfl)
                    · refine wk_id ?_
                      refine seq_np ?_
                      refine chk_sx h (fun g3665 h => ?_)
                      refine seq_np ?_
                      refine reg_f ?_
                      have k3664 : 0 ≤ i9 ∧ i9 < ((c3q11.length : Nat) : Int) := by first | simpa only [Bool.and_eq_true, decide_eq_true_eq, bne_iff_ne, ne_eq] using g3665 | (simp at g3665 ⊢; omega)
                      refine rs 7 [none, none, some ⟨.ptr 3 (0 + (i9).toNat * 2), [], 34, [3]⟩, none, some ⟨iS (ix c3q11 i9).e0, [], 34, [3]⟩] _ (by kernel_rfl) (allP_cons (ob_ld c3q11 i9 2 0 ((0 + (i9).toNat * 2) + 0) k3664 rfl (by decide) (by first | rfl | omega) (dflS Try.prog 3) (iS (ix c3q11 i9).e0) rfl 34 [3]) (allP_cons (ob_ix_o 3 c3q11.length 0 2 34 i9 k3664) allP_nil)) ?_
                      refine rf [(1, iS xid), (3, iS period), (4, iS ticks), (5, .ptr 0 0), (13, .ptr 1 0), (14, .ptr 2 0), (15, .own 3 0 c3q11.length), (16, iS when18), (17, iS (ix c3q11 i9).e0), (18, iS i9), (120, bS ((ix c3q11 i9).e0 != when18))] [(0, .row 24 (Enc.cells c)), (1, .row 28 (Enc.cells c1q11)), (2, .row 24 [iS c2_Now11, iS c2_Next11, .own 4 0 c4q11.length]), (3, .row 43 (fl c3q11)), (4, .row 54 (fl c4q11))] 34 (by kernel_rfl) ?_
                      refine wk_id ?_
                      refine cond_sx h (by kernel_rfl) (fun g3667 h => ?_) (fun g3667 h => ?_)
                      · refine seq_np ?_
                        refine reg_f ?_
                        refine rs 1 [] [] (by kernel_rfl) allP_nil ?_
                        refine rf [(10, bS false)] [(0, .row 24 (Enc.cells c)), (1, .row 28 (Enc.cells c1q11)), (2, .row 24 [iS c2_Now11, iS c2_Next11, .own 4 0 c4q11.length]), (3, .row 43 (fl c3q11)), (4, .row 54 (fl c4q11))] 34 (by kernel_rfl) ?_
                        refine wk_id ?_
                        refine rt_cast ht3 ?_
                        obtain ⟨r0, h, e0⟩ := map_sx h
                        have e1 := hr3 r0 e0.symm
                        subst r0
                        obtain rfl := Option.some.inj h
                        refine ret_at (bS false) (by kernel_rfl) ?_
                        exact ret_e [] [] (by simp only [push_cast, seval]) (by simp only [push_cast, seval]) rfl rfl rfl
                      · refine wk_id ?_
                        refine seq_np ?_
                        refine reg_f ?_
                        refine rs 4 [] [] (by kernel_rfl) allP_nil ?_
                        refine rf [(1, iS xid), (3, iS period), (4, iS ticks), (5, .ptr 0 0), (13, .ptr 1 0), (14, .ptr 2 0), (15, .own 3 0 c3q11.length), (16, iS (IntKind.i64.wrap (when18 + period))), (17, iS (ix c3q11 i9).e0), (18, iS i9)] [(0, .row 24 (Enc.cells c)), (1, .row 28 (Enc.cells c1q11)), (2, .row 24 [iS c2_Now11, iS c2_Next11, .own 4 0 c4q11.length]), (3, .row 43 (fl c3q11)), (4, .row 54 (fl c4q11))] 34 (by kernel_rfl) ?_
                        refine wk_id ?_
                        refine seq_np ?_
                        refine reg_f ?_
                        refine rs 2 [] [] (by kernel_rfl) allP_nil ?_
                        refine rf [(1, iS xid), (3, iS period), (4, iS ticks), (5, .ptr 0 0), (13, .ptr 1 0), (14, .ptr 2 0), (15, .own 3 0 c3q11.length), (16, iS (IntKind.i64.wrap (when18 + period))), (17, iS (ix c3q11 i9).e0), (18, iS i9), (125, bS (period == 0))] [(0, .row 24 (Enc.cells c)), (1, .row 28 (Enc.cells c1q11)), (2, .row 24 [iS c2_Now11, iS c2_Next11, .own 4 0 c4q11.length]), (3, .row 43 (fl c3q11)), (4, .row 54 (fl c4q11))] 34 (by kernel_rfl) ?_
                        refine wk_id ?_
                        refine cond_sx h (by kernel_rfl) (fun g3666 h => ?_) (fun g3666 h => ?_)
                        · refine reg_f ?_
                          refine rs 6 [] [] (by kernel_rfl) allP_nil ?_
                          refine rf [(1, iS xid), (3, iS period), (4, iS ticks), (5, .ptr 0 0), (13, .ptr 1 0), (14, .ptr 2 0), (15, .own 3 0 c3q11.length), (16, iS (IntKind.i64.wrap ((IntKind.i64.wrap (c.Now + ticks)) + 1))), (17, iS (ix c3q11 i9).e0), (18, iS i9)] [(0, .row 24 (Enc.cells c)), (1, .row 28 (Enc.cells c1q11)), (2, .row 24 [iS c2_Now11, iS c2_Next11, .own 4 0 c4q11.length]), (3, .row 43 (fl c3q11)), (4, .row 54 (fl c4q11))] 34 (by kernel_rfl) ?_
                          exact hK3621 ((IntKind.i64.wrap ((IntKind.i64.wrap (c.Now + ticks)) + 1))) _ _ _ h (leSt_m [(0, 0), (1, 1), (2, 2), (3, 3), (4, 4)] [] (by simp only [push_cast, seval]) (by simp only [push_cast, seval]) rfl rfl rfl)
                        · exact hK3621 ((IntKind.i64.wrap (when18 + period))) _ _ _ h (leSt_m [(0, 0), (1, 1), (2, 2), (3, 3), (4, 4)] [] (by simp only [push_cast, seval]) (by simp only [push_cast, seval]) rfl rfl rfl)
              · rintro when20 h
                try dsimp only at h ⊢
                unfold taskmilllaw_ClockTimes_j1 at h
                refine wk_id ?_
                refine reg_f ?_
                refine rs 3 [] [] (by kernel_rfl) allP_nil ?_
                refine rf [(1, iS xid), (3, iS period), (4, iS ticks), (5, .ptr 0 0), (13, .ptr 1 0), (14, .ptr 2 0), (15, .own 3 0 c3q11.length), (16, iS when20), (17, iS (ix c3q11 i9).e0), (18, iS (IntKind.i64.wrap (i9 + 1)))] [(0, .row 24 (Enc.cells c)), (1, .row 28 (Enc.cells c1q11)), (2, .row 24 [iS c2_Now11, iS c2_Next11, .own 4 0 c4q11.length]), (3, .row 43 (fl c3q11)), (4, .row 54 (fl c4q11))] 5 (by kernel_rfl) ?_
                exact hn3 (when20, (ix c3q11 i9).e0, (IntKind.i64.wrap (i9 + 1)), c1q11, c2_Now11, c2_Next11, c3q11, c4q11) _ _ _ (Option.some.inj h).symm (leSt_m [(0, 0), (1, 1), (2, 2), (3, 3), (4, 4)] [] (by simp only [push_cast, seval]) (by simp only [push_cast, seval]) rfl rfl rfl)
            · change R3 (.exit 0) _ _ _
              refine ex_cast hx3 (id := 0) ?_
              obtain ⟨r0, h, e0⟩ := map_sx h
              have e1 := hr3 r0 e0.symm
              subst r0
              refine wk_id ?_
              refine wk_id ?_
              refine seq_np ?_
              refine seq_np ?_
              refine reg_f ?_
              refine rs 6 [] [] (by kernel_rfl) allP_nil ?_
              refine rf [(1, iS xid), (4, iS ticks), (13, .ptr 1 0), (14, .ptr 2 0), (136, bS (decide (when18 ≤ (IntKind.i64.wrap (c.Now + ticks)))))] [(0, .row 24 (Enc.cells c)), (1, .row 28 (Enc.cells c1q11)), (2, .row 24 [iS c2_Now11, iS c2_Next11, .own 4 0 c4q11.length]), (3, .row 43 (fl c3q11)), (4, .row 54 (fl c4q11))] 5 (by kernel_rfl) ?_
              refine wk_id ?_
              refine cond_sx h (by kernel_rfl) (fun g3730 h => ?_) (fun g3730 h => ?_)
              · refine seq_np ?_
                refine reg_f ?_
                refine rs 1 [] [] (by kernel_rfl) allP_nil ?_
                refine rf [(10, bS false)] [(0, .row 24 (Enc.cells c)), (1, .row 28 (Enc.cells c1q11)), (2, .row 24 [iS c2_Now11, iS c2_Next11, .own 4 0 c4q11.length]), (3, .row 43 (fl c3q11)), (4, .row 54 (fl c4q11))] 5 (by kernel_rfl) ?_
                refine wk_id ?_
                obtain rfl := Option.some.inj h
                refine ret_at (bS false) (by kernel_rfl) ?_
                exact ret_e [] [] (by simp only [push_cast, seval]) (by simp only [push_cast, seval]) rfl rfl rfl
              · refine wk_id ?_
                refine seq_np ?_
                refine reg_f ?_
                refine rs 2 [] [] (by kernel_rfl) allP_nil ?_
                obtain ⟨r3672, hr3672, h⟩ := bind_sx h
                refine call_x (clock_Stop_spec (Clock.mk c2_Now11 c2_Next11 c4q11) xid r3672 hr3672) (args := [.agg [iS c2_Now11, iS c2_Next11, .own 4 0 c4q11.length], iS xid]) (dst := (some 140)) (by kernel_rfl) [(0, .row 24 (Enc.cells c)), (1, .row 28 (Enc.cells c1q11)), (2, .row 24 [iS c2_Now11, iS c2_Next11, .own 4 0 c4q11.length]), (3, .row 43 (fl c3q11)), (4, .row 54 (fl c4q11))] 5 (by kernel_rfl) [] [4] (.tup [.agg [iS r3672.1, iS r3672.2.1, .own 5 0 r3672.2.2.2.2.length], bS r3672.2.2.1, .agg (Enc.cells r3672.2.2.2.1)]) [(5, .row 54 (fl r3672.2.2.2.2))] (by simp only [push_cast, seval]) (by simp only [push_cast, seval]) (by kernel_rfl) (.inr ⟨by simp only [push_cast, seval], by simp only [push_cast, seval]⟩) (by simp only [push_cast, seval]) (by simp only [push_cast, seval]) ?_
                refine rs 8 [] [] (by kernel_rfl) allP_nil ?_
                refine rf [(1, iS xid), (4, iS ticks), (13, .ptr 1 0), (19, .ptr 6 0)] [(0, .row 24 (Enc.cells c)), (1, .row 28 (Enc.cells r3672.2.2.2.1)), (2, .row 24 [iS c2_Now11, iS c2_Next11, .own 4 0 c4q11.length]), (3, .row 43 (fl c3q11)), (4, .row 54 (fl c4q11)), (5, .row 54 (fl r3672.2.2.2.2)), (6, .row 24 [iS r3672.1, iS r3672.2.1, .own 5 0 r3672.2.2.2.2.length])] 7 (by kernel_rfl) ?_
                refine wk_id ?_
                refine seq_np ?_
                refine seq_np ?_
                refine reg_f ?_
                refine rs 3 [] [] (by kernel_rfl) allP_nil ?_
                refine rf [(1, iS xid), (4, iS ticks), (13, .ptr 1 0), (19, .ptr 6 0), (146, bS (r3672.2.2.2.1.Code != 0))] [(0, .row 24 (Enc.cells c)), (1, .row 28 (Enc.cells r3672.2.2.2.1)), (2, .row 24 [iS c2_Now11, iS c2_Next11, .own 4 0 c4q11.length]), (3, .row 43 (fl c3q11)), (4, .row 54 (fl c4q11)), (5, .row 54 (fl r3672.2.2.2.2)), (6, .row 24 [iS r3672.1, iS r3672.2.1, .own 5 0 r3672.2.2.2.2.length])] 7 (by kernel_rfl) ?_
                refine wk_id ?_
                refine cond_sx h (by kernel_rfl) (fun g3729 h => ?_) (fun g3729 h => ?_)
                · refine seq_np ?_
                  refine reg_f ?_
                  refine rs 1 [] [] (by kernel_rfl) allP_nil ?_
                  refine rf [(10, bS false)] [(0, .row 24 (Enc.cells c)), (1, .row 28 (Enc.cells r3672.2.2.2.1)), (2, .row 24 [iS c2_Now11, iS c2_Next11, .own 4 0 c4q11.length]), (3, .row 43 (fl c3q11)), (4, .row 54 (fl c4q11)), (5, .row 54 (fl r3672.2.2.2.2)), (6, .row 24 [iS r3672.1, iS r3672.2.1, .own 5 0 r3672.2.2.2.2.length])] 7 (by kernel_rfl) ?_
                  refine wk_id ?_
                  obtain rfl := Option.some.inj h
                  refine ret_at (bS false) (by kernel_rfl) ?_
                  exact ret_e [] [] (by simp only [push_cast, seval]) (by simp only [push_cast, seval]) rfl rfl rfl
                · refine wk_id ?_
                  refine seq_np ?_
                  refine reg_f ?_
                  refine rs 2 [] [] (by kernel_rfl) allP_nil ?_
                  obtain ⟨r3675, hr3675, h⟩ := bind_sx h
                  refine call_x (clock_Pass_spec (Clock.mk r3672.1 r3672.2.1 r3672.2.2.2.2) ticks r3675 hr3675) (args := [.agg [iS r3672.1, iS r3672.2.1, .own 5 0 r3672.2.2.2.2.length], iS ticks]) (dst := (some 150)) (by kernel_rfl) [(0, .row 24 (Enc.cells c)), (1, .row 28 (Enc.cells r3672.2.2.2.1)), (2, .row 24 [iS c2_Now11, iS c2_Next11, .own 4 0 c4q11.length]), (3, .row 43 (fl c3q11)), (4, .row 54 (fl c4q11)), (5, .row 54 (fl r3672.2.2.2.2)), (6, .row 24 [iS r3672.1, iS r3672.2.1, .own 5 0 r3672.2.2.2.2.length])] 7 (by kernel_rfl) [] [5] (.tup [.agg [iS r3675.1, iS r3675.2.1, .own 7 0 r3675.2.2.2.1.length], .own 8 0 r3675.2.2.2.2.length, .agg (Enc.cells r3675.2.2.1)]) [(7, .row 54 (fl r3675.2.2.2.1)), (8, .row 43 (fl r3675.2.2.2.2))] (by simp only [push_cast, seval]) (by simp only [push_cast, seval]) (by kernel_rfl) (.inr ⟨by simp only [push_cast, seval], by simp only [push_cast, seval]⟩) (by simp only [push_cast, seval]) (by simp only [push_cast, seval]) ?_
                  refine rs 8 [] [] (by kernel_rfl) allP_nil ?_
                  refine rf [(1, iS xid), (13, .ptr 1 0), (22, .own 8 0 r3675.2.2.2.2.length)] [(0, .row 24 (Enc.cells c)), (1, .row 28 (Enc.cells r3675.2.2.1)), (2, .row 24 [iS c2_Now11, iS c2_Next11, .own 4 0 c4q11.length]), (3, .row 43 (fl c3q11)), (4, .row 54 (fl c4q11)), (5, .row 54 (fl r3672.2.2.2.2)), (6, .row 24 [iS r3672.1, iS r3672.2.1, .own 5 0 r3672.2.2.2.2.length]), (7, .row 54 (fl r3675.2.2.2.1)), (8, .row 43 (fl r3675.2.2.2.2)), (9, .row 24 [iS r3675.1, iS r3675.2.1, .own 7 0 r3675.2.2.2.1.length])] 10 (by kernel_rfl) ?_
                  refine wk_id ?_
                  refine seq_np ?_
                  refine seq_np ?_
                  refine reg_f ?_
                  refine rs 3 [] [] (by kernel_rfl) allP_nil ?_
                  refine rf [(1, iS xid), (13, .ptr 1 0), (22, .own 8 0 r3675.2.2.2.2.length), (156, bS (r3675.2.2.1.Code != 0))] [(0, .row 24 (Enc.cells c)), (1, .row 28 (Enc.cells r3675.2.2.1)), (2, .row 24 [iS c2_Now11, iS c2_Next11, .own 4 0 c4q11.length]), (3, .row 43 (fl c3q11)), (4, .row 54 (fl c4q11)), (5, .row 54 (fl r3672.2.2.2.2)), (6, .row 24 [iS r3672.1, iS r3672.2.1, .own 5 0 r3672.2.2.2.2.length]), (7, .row 54 (fl r3675.2.2.2.1)), (8, .row 43 (fl r3675.2.2.2.2)), (9, .row 24 [iS r3675.1, iS r3675.2.1, .own 7 0 r3675.2.2.2.1.length])] 10 (by kernel_rfl) ?_
                  refine wk_id ?_
                  refine cond_sx h (by kernel_rfl) (fun g3728 h => ?_) (fun g3728 h => ?_)
                  · refine seq_np ?_
                    refine reg_t ?_
                    refine rs 1 [] [] (by kernel_rfl) allP_nil ?_
                    obtain ⟨r3679, hr3679, h⟩ := bind_sx h
                    refine run_call 12 [iS 9, iS 0] (some 158) (by kernel_rfl) ?_
                    refine callE_0 (taskmillref_F_spec 9 0 r3679 hr3679) (by simp only [push_cast, seval]) (by simp only [push_cast, seval]) ?_
                    refine back_t ?_
                    refine rs 2 [] [] (by kernel_rfl) allP_nil ?_
                    refine rt [(10, bS ((r3675.2.2.1.Code == r3679.Code) && ((r3675.2.2.1.At == r3679.At) && true)))] [(0, .row 24 (Enc.cells c)), (1, .row 28 (Enc.cells r3675.2.2.1)), (2, .row 24 [iS c2_Now11, iS c2_Next11, .own 4 0 c4q11.length]), (3, .row 43 (fl c3q11)), (4, .row 54 (fl c4q11)), (5, .row 54 (fl r3672.2.2.2.2)), (6, .row 24 [iS r3672.1, iS r3672.2.1, .own 5 0 r3672.2.2.2.2.length]), (7, .row 54 (fl r3675.2.2.2.1)), (8, .row 43 (fl r3675.2.2.2.2)), (9, .row 24 [iS r3675.1, iS r3675.2.1, .own 7 0 r3675.2.2.2.1.length])] 14 follows (by kernel_rfl) ?_
                    refine wk_id ?_
                    obtain rfl := Option.some.inj h
                    refine ret_at (bS ((r3675.2.2.1.Code == r3679.Code) && ((r3675.2.2.1.At == r3679.At) && true))) (by kernel_rfl) ?_
                    exact ret_e [] [] (by simp only [push_cast, seval]) (by simp only [push_cast, seval]) rfl rfl rfl
                  · refine wk_id ?_
                    refine seq_np ?_
                    refine seq_np ?_
                    refine reg_f ?_
                    refine rs 1 [] [] (by kernel_rfl) allP_nil ?_
                    refine rf [(1, iS xid), (22, .own 8 0 r3675.2.2.2.2.length), (23, iS 0)] [(0, .row 24 (Enc.cells c)), (1, .row 28 (Enc.cells r3675.2.2.1)), (2, .row 24 [iS c2_Now11, iS c2_Next11, .own 4 0 c4q11.length]), (3, .row 43 (fl c3q11)), (4, .row 54 (fl c4q11)), (5, .row 54 (fl r3672.2.2.2.2)), (6, .row 24 [iS r3672.1, iS r3672.2.1, .own 5 0 r3672.2.2.2.2.length]), (7, .row 54 (fl r3675.2.2.2.1)), (8, .row 43 (fl r3675.2.2.2.2)), (9, .row 24 [iS r3675.1, iS r3675.2.1, .own 7 0 r3675.2.2.2.1.length])] 10 (by kernel_rfl) ?_
                    refine wk_id ?_
                    refine block_np ?_
                    refine loop_sx (S := Int × (List S43)) (fun a => ([(1, iS xid), (22, .own 0 0 a.2.length), (23, iS a.1)], [(0, .row 43 (fl a.2))], 1)) h (leSt_m [(0, 8)] [] (by simp only [push_cast, seval]) (by simp only [push_cast, seval]) rfl rfl rfl) ?_
                    rintro ⟨i15, c0q11⟩ o4 R4 h hr4 hn4 hx4 ht4
                    try dsimp only at h hn4 ⊢
                    unfold taskmilllaw_ClockTimes_l1 at h
                    try dsimp only at h
                    refine seq_np ?_
                    refine seq_np ?_
                    refine reg_f ?_
                    refine rs 4 [] [] (by kernel_rfl) allP_nil ?_
                    refine rf [(1, iS xid), (22, .own 0 0 c0q11.length), (23, iS i15), (163, bS (decide (i15 < ((c0q11.length : Nat) : Int))))] [(0, .row 43 (fl c0q11))] 1 (by kernel_rfl) ?_
                    refine wk_id ?_
                    refine cond_sx h (by kernel_rfl) (fun g3727 h => ?_) (fun g3727 h => ?_)
                    · refine wk_id ?_
                      refine seq_np ?_
                      refine block_np ?_
                      refine chk_sx h (fun g3725 h => ?_)
                      refine seq_np ?_
                      refine reg_f ?_
                      have k3724 : 0 ≤ i15 ∧ i15 < ((c0q11.length : Nat) : Int) := by first | simpa only [Bool.and_eq_true, decide_eq_true_eq, bne_iff_ne, ne_eq] using g3725 | (simp at g3725 ⊢; omega)
                      refine rs 7 [none, none, some ⟨.ptr 0 (0 + (i15).toNat * 2), [], 1, [0]⟩, none, some ⟨iS (ix c0q11 i15).e1, [], 1, [0]⟩] _ (by kernel_rfl) (allP_cons (ob_ld c0q11 i15 2 1 ((0 + (i15).toNat * 2) + 1) k3724 rfl (by decide) (by first | rfl | omega) (dflS Try.prog 3) (iS (ix c0q11 i15).e1) rfl 1 [0]) (allP_cons (ob_ix_o 0 c0q11.length 0 2 1 i15 k3724) allP_nil)) ?_
                      refine rf [(1, iS xid), (22, .own 0 0 c0q11.length), (23, iS i15), (172, bS ((ix c0q11 i15).e1 == xid))] [(0, .row 43 (fl c0q11))] 1 (by kernel_rfl) ?_
                      refine wk_id ?_
                      refine cond_sx h (by kernel_rfl) (fun g3726 h => ?_) (fun g3726 h => ?_)
                      · refine seq_np ?_
                        refine reg_f ?_
                        refine rs 1 [] [] (by kernel_rfl) allP_nil ?_
                        refine rf [(10, bS false)] [(0, .row 43 (fl c0q11))] 1 (by kernel_rfl) ?_
                        refine wk_id ?_
                        refine rt_cast ht4 ?_
                        obtain ⟨r0, h, e0⟩ := map_sx h
                        have e1 := hr4 r0 e0.symm
                        subst r0
                        obtain rfl := Option.some.inj h
                        refine ret_at (bS false) (by kernel_rfl) ?_
                        exact ret_e [] [] (by simp only [push_cast, seval]) (by simp only [push_cast, seval]) rfl rfl rfl
                      · refine wk_id ?_
                        refine wk_id ?_
                        refine reg_f ?_
                        refine rs 3 [] [] (by kernel_rfl) allP_nil ?_
                        refine rf [(1, iS xid), (22, .own 0 0 c0q11.length), (23, iS (IntKind.i64.wrap (i15 + 1)))] [(0, .row 43 (fl c0q11))] 1 (by kernel_rfl) ?_
                        exact hn4 ((IntKind.i64.wrap (i15 + 1)), c0q11) _ _ _ (Option.some.inj h).symm (leSt_m [(0, 0)] [] (by simp only [push_cast, seval]) (by simp only [push_cast, seval]) rfl rfl rfl)
                    · change R4 (.exit 2) _ _ _
                      refine ex_cast hx4 (id := 2) ?_
                      obtain ⟨r0, h, e0⟩ := map_sx h
                      have e1 := hr4 r0 e0.symm
                      subst r0
                      refine wk_id ?_
                      refine wk_id ?_
                      refine seq_np ?_
                      refine reg_f ?_
                      refine rs 1 [] [] (by kernel_rfl) allP_nil ?_
                      refine rf [(10, bS true)] [(0, .row 43 (fl c0q11))] 1 (by kernel_rfl) ?_
                      refine wk_id ?_
                      obtain rfl := Option.some.inj h
                      refine ret_at (bS true) (by kernel_rfl) ?_
                      exact ret_e [] [] (by simp only [push_cast, seval]) (by simp only [push_cast, seval]) rfl rfl rfl

end Go.Proofs.Ytfgedphhlilpgaa
