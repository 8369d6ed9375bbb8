/-
 What laws of the chapter pick compute, and lemmas on it.
 No conditions.
-/
import Derived.Test.YtcpmhpobhnakeaaProg
import Derived.Test.YtcpmhpobhnakeaapickG
set_option linter.unusedSimpArgs false
set_option linter.unusedVariables false
namespace Go.Proofs.Ytcpmhpobhnakeaa
open Go Go.Sx
attribute [local irreducible] Wk RunAt
theorem follows : Try.prog.follows .mixedOrders = true := by kernel_rfl
set_option maxRecDepth 100000 in
set_option maxHeartbeats 200000000 in
theorem pick_fault_spec (code : Int) (xat : Int) (r : Fault) (h : pick_fault code xat = some r) : SpecW Try.prog 42 [iS code, iS xat] [] 0 (fun x h n => x = .agg (Enc.cells r) ∧ h = [] ∧ n = 0) := by
 unfold pick_fault at h
 refine spec_of (draw_ok _) Try.func42 rfl (by decide) rfl (by kernel_rfl) ?_
 refine seq_np ?_
 refine reg_f ?_
 refine rs 1 [] [] (by kernel_rfl) allP_nil ?_
 refine rf [(0, iS code), (1, iS xat), (4, .ptr 0 0)] [(0, .row 29 [iS 0, iS 0])] 1 (by kernel_rfl) ?_
 refine wk_id ?_
 refine seq_np ?_
 refine reg_f ?_
 refine rs 4 [] [] (by kernel_rfl) allP_nil ?_
 refine rf [(4, .ptr 0 0)] [(0, .row 29 [iS code, iS xat])] 1 (by kernel_rfl) ?_
 refine wk_id ?_
 obtain rfl := Option.some.inj h
 refine ret_at (.agg [iS code, iS xat]) (by kernel_rfl) ?_
 exact ret_e [] [] (by simp only [push_cast, seval]) (by simp only [push_cast, seval]) rfl rfl rfl

set_option maxRecDepth 100000 in
set_option maxHeartbeats 200000000 in
theorem pipe_fault_spec (code : Int) (xat : Int) (r : Fault) (h : pipe_fault code xat = some r) : SpecW Try.prog 62 [iS code, iS xat] [] 0 (fun x h n => x = .agg (Enc.cells r) ∧ h = [] ∧ n = 0) := by
 unfold pipe_fault at h
 refine spec_of (draw_ok _) Try.func62 rfl (by decide) rfl (by kernel_rfl) ?_
 refine seq_np ?_
 refine reg_f ?_
 refine rs 1 [] [] (by kernel_rfl) allP_nil ?_
 refine rf [(0, iS code), (1, iS xat), (4, .ptr 0 0)] [(0, .row 29 [iS 0, iS 0])] 1 (by kernel_rfl) ?_
 refine wk_id ?_
 refine seq_np ?_
 refine reg_f ?_
 refine rs 4 [] [] (by kernel_rfl) allP_nil ?_
 refine rf [(4, .ptr 0 0)] [(0, .row 29 [iS code, iS xat])] 1 (by kernel_rfl) ?_
 refine wk_id ?_
 obtain rfl := Option.some.inj h
 refine ret_at (.agg [iS code, iS xat]) (by kernel_rfl) ?_
 exact ret_e [] [] (by simp only [push_cast, seval]) (by simp only [push_cast, seval]) rfl rfl rfl

set_option maxRecDepth 100000 in
set_option maxHeartbeats 200000000 in
theorem pipe_posts_spec (l : (List GPost)) (c0 : (List (Int × Int))) (r : Int × (List (Int × Int))) (h : pipe_posts l c0 = some r) : SpecW Try.prog 63 [.sl l.length (fl l), .mp 0] [(0, .map (mi c0))] 1 (fun x h n => x = iS r.1 ∧ h = [(0, .map (mi r.2))] ∧ n = 1) := by
 unfold pipe_posts at h
 refine spec_of (draw_ok _) Try.func63 rfl (by decide) rfl (by kernel_rfl) ?_
 refine seq_np ?_
 refine reg_f ?_
 refine rs 1 [] [] (by kernel_rfl) allP_nil ?_
 refine rf [(0, .sl l.length (fl l)), (1, .mp 0)] [(0, .map (mi c0))] 1 (by kernel_rfl) ?_
 refine wk_id ?_
 refine seq_np ?_
 refine seq_np ?_
 refine reg_f ?_
 refine rs 3 [] [] (by kernel_rfl) allP_nil ?_
 refine rf [(1, .mp 0), (7, .sl l.length (fl l)), (8, iS ((l.length : Nat) : Int)), (9, iS 0)] [(0, .map (mi c0))] 1 (by kernel_rfl) ?_
 refine wk_id ?_
 refine block_np ?_
 refine loop_sx (S := Int × (List (Int × Int))) (fun a => ([(1, .mp 0), (7, .sl l.length (fl l)), (8, iS ((l.length : Nat) : Int)), (9, iS a.1)], [(0, .map (mi a.2))], 1)) h (leSt_m [(0, 0)] [] (by simp only [push_cast, seval]) (by simp only [push_cast, seval]) rfl rfl rfl) ?_
 rintro ⟨t9q7, c0q9⟩ o2 R2 h hr2 hn2 hx2 ht2
 try dsimp only at h hn2 ⊢
 unfold pipe_posts_l1 at h
 try dsimp only at h
 refine seq_np ?_
 refine reg_f ?_
 refine rs 1 [] [] (by kernel_rfl) allP_nil ?_
 refine rf [(1, .mp 0), (7, .sl l.length (fl l)), (8, iS ((l.length : Nat) : Int)), (9, iS t9q7), (10, bS (decide (t9q7 < ((l.length : Nat) : Int))))] [(0, .map (mi c0q9))] 1 (by kernel_rfl) ?_
 refine wk_id ?_
 refine seq_np ?_
 refine cond_sx h (by kernel_rfl) (fun g116 h => ?_) (fun g116 h => ?_)
 ·refine wk_id ?_
  refine seq_np ?_
  refine block_np ?_
  refine chk_sx h (fun g107 h => ?_)
  refine seq_np ?_
  refine reg_f ?_
  have k106 : 0 ≤ t9q7 ∧ t9q7 < ((l.length : Nat) : Int) := by first | simpa only [Bool.and_eq_true, decide_eq_true_eq, bne_iff_ne, ne_eq] using g107 | (simp at g107 ⊢; omega)
  refine rs 4 [some ⟨.iptr (fl l) ((t9q7).toNat * 3), [], 1, []⟩, some ⟨.agg (Enc.cells (ix l t9q7)), [], 1, []⟩] _ (by kernel_rfl) (allP_cons (ob_ldw l t9q7 3 ((t9q7).toNat * 3) k106 rfl (by first | rfl | omega) [iS (ix l t9q7).Task, iS (ix l t9q7).Case, iS (ix l t9q7).Value] rfl 1 []) (allP_cons (ob_ix_l l 3 1 t9q7 k106) allP_nil)) ?_
  refine rf [(1, .mp 0), (6, .ptr 1 0), (7, .sl l.length (fl l)), (8, iS ((l.length : Nat) : Int)), (9, iS t9q7)] [(0, .map (mi c0q9)), (1, .row 92 (Enc.cells (ix l t9q7)))] 2 (by kernel_rfl) ?_
  refine wk_id ?_
  refine seq_np ?_
  refine seq_cut (A := Unit) (fun _ => ([(1, .mp 0), (6, .ptr 1 0), (7, .sl l.length (fl l)), (8, iS ((l.length : Nat) : Int)), (9, iS t9q7), (20, bS ((decide ((ix l t9q7).Task < 1)) || (decide ((ix l t9q7).Case < 0))))], [(0, .map (mi c0q9)), (1, .row 92 (Enc.cells (ix l t9q7)))], 2)) (fun _ => True) (fun K111 hK111 => ?_) (fun _ _ => ?_)
  ·refine reg_f ?_
   refine rs 4 [] [] (by kernel_rfl) allP_nil ?_
   refine run_split 16 (decide ((ix l t9q7).Task < 1)) (.inl (by kernel_rfl)) (fun g112 => ?_) (fun g112 => ?_)
   ·refine rs 4 [] [] (by kernel_rfl) allP_nil ?_
    refine rf [(1, .mp 0), (6, .ptr 1 0), (7, .sl l.length (fl l)), (8, iS ((l.length : Nat) : Int)), (9, iS t9q7), (20, bS true)] [(0, .map (mi c0q9)), (1, .row 92 (Enc.cells (ix l t9q7)))] 2 (by kernel_rfl) ?_
    exact hK111 () _ _ _ trivial (leSt_m [(0, 0), (1, 1)] [] (by (try simp only [g112]) <;> simp only [push_cast, seval]) (by (try simp only [g112]) <;> simp only [push_cast, seval]) rfl rfl rfl)
   ·refine rs 4 [] [] (by kernel_rfl) allP_nil ?_
    refine rf [(1, .mp 0), (6, .ptr 1 0), (7, .sl l.length (fl l)), (8, iS ((l.length : Nat) : Int)), (9, iS t9q7), (20, bS (decide ((ix l t9q7).Case < 0)))] [(0, .map (mi c0q9)), (1, .row 92 (Enc.cells (ix l t9q7)))] 2 (by kernel_rfl) ?_
    exact hK111 () _ _ _ trivial (leSt_m [(0, 0), (1, 1)] [] (by (try simp only [g112]) <;> simp only [push_cast, seval]) (by (try simp only [g112]) <;> simp only [push_cast, seval]) rfl rfl rfl)
  ·dsimp only
   refine cond_sx h (by kernel_rfl) (fun g115 h => ?_) (fun g115 h => ?_)
   ·refine seq_np ?_
    refine reg_f ?_
    refine rs 1 [] [] (by kernel_rfl) allP_nil ?_
    refine rf [(4, iS 3)] [(0, .map (mi c0q9)), (1, .row 92 (Enc.cells (ix l t9q7)))] 2 (by kernel_rfl) ?_
    refine wk_id ?_
    refine rt_cast ht2 ?_
    obtain ⟨r0, h, e0⟩ := map_sx h
    have e1 := hr2 r0 e0.symm
    subst r0
    obtain rfl := Option.some.inj h
    refine ret_at (iS 3) (by kernel_rfl) ?_
    exact ret_e [(0, 0)] [] (by simp only [push_cast, seval]) (by simp only [push_cast, seval]) rfl rfl rfl
   ·refine wk_id ?_
    refine seq_np ?_
    refine seq_np ?_
    refine reg_f ?_
    refine rs 5 [none, none, none, some ⟨iS (miGet c0q9 (ix l t9q7).Task), [], 2, [0]⟩] _ (by kernel_rfl) (allP_cons (ob_look (.int .i64) rfl (ix l t9q7).Task c0q9 0 2) allP_nil) ?_
    refine rf [(1, .mp 0), (6, .ptr 1 0), (7, .sl l.length (fl l)), (8, iS ((l.length : Nat) : Int)), (9, iS t9q7), (25, bS (decide ((0 : Int) < (miGet c0q9 (ix l t9q7).Task))))] [(0, .map (mi c0q9)), (1, .row 92 (Enc.cells (ix l t9q7)))] 2 (by kernel_rfl) ?_
    refine wk_id ?_
    refine cond_sx h (by kernel_rfl) (fun g114 h => ?_) (fun g114 h => ?_)
    ·refine seq_np ?_
     refine reg_f ?_
     refine rs 1 [] [] (by kernel_rfl) allP_nil ?_
     refine rf [(4, iS 10)] [(0, .map (mi c0q9)), (1, .row 92 (Enc.cells (ix l t9q7)))] 2 (by kernel_rfl) ?_
     refine wk_id ?_
     refine rt_cast ht2 ?_
     obtain ⟨r0, h, e0⟩ := map_sx h
     have e1 := hr2 r0 e0.symm
     subst r0
     obtain rfl := Option.some.inj h
     refine ret_at (iS 10) (by kernel_rfl) ?_
     exact ret_e [(0, 0)] [] (by simp only [push_cast, seval]) (by simp only [push_cast, seval]) rfl rfl rfl
    ·refine wk_id ?_
     refine reg_f ?_
     refine rs 4 [none, none, none, some ⟨.any, [(0, .map (mi (miSet c0q9 (ix l t9q7).Task 1)))], 2, [0]⟩] _ (by kernel_rfl) (allP_cons (ob_mset (.int .i64) rfl (ix l t9q7).Task 1 c0q9 0 2) allP_nil) ?_
     refine rf [(1, .mp 0), (7, .sl l.length (fl l)), (8, iS ((l.length : Nat) : Int)), (9, iS t9q7)] [(0, .map (mi (miSet c0q9 (ix l t9q7).Task 1))), (1, .row 92 (Enc.cells (ix l t9q7)))] 2 (by kernel_rfl) ?_
     refine wk_id ?_
     refine wk_id ?_
     refine reg_f ?_
     refine rs 2 [] [] (by kernel_rfl) allP_nil ?_
     refine rf [(1, .mp 0), (7, .sl l.length (fl l)), (8, iS ((l.length : Nat) : Int)), (9, iS (IntKind.i64.wrap (t9q7 + 1)))] [(0, .map (mi (miSet c0q9 (ix l t9q7).Task 1))), (1, .row 92 (Enc.cells (ix l t9q7)))] 2 (by kernel_rfl) ?_
     exact hn2 ((IntKind.i64.wrap (t9q7 + 1)), (miSet c0q9 (ix l t9q7).Task 1)) _ _ _ (Option.some.inj h).symm (leSt_m [(0, 0)] [] (by simp only [push_cast, seval]) (by simp only [push_cast, seval]) rfl rfl rfl)
 ·change R2 (.exit 0) _ _ _
  refine ex_cast hx2 (id := 0) ?_
  obtain ⟨r0, h, e0⟩ := map_sx h
  have e1 := hr2 r0 e0.symm
  subst r0
  refine wk_id ?_
  refine wk_id ?_
  refine seq_np ?_
  refine reg_f ?_
  refine rs 1 [] [] (by kernel_rfl) allP_nil ?_
  refine rf [(4, iS 0)] [(0, .map (mi c0q9))] 1 (by kernel_rfl) ?_
  refine wk_id ?_
  obtain rfl := Option.some.inj h
  refine ret_at (iS 0) (by kernel_rfl) ?_
  exact ret_e [(0, 0)] [] (by simp only [push_cast, seval]) (by simp only [push_cast, seval]) rfl rfl rfl

set_option maxRecDepth 100000 in
set_option maxHeartbeats 200000000 in
theorem pipe_Check_spec (p : Pipe) (r : Fault) (h : pipe_Check p = some r) : SpecW Try.prog 43 [.agg (Enc.cells p)] [] 0 (fun x h n => x = .agg (Enc.cells r) ∧ h = [] ∧ n = 0) := by
 unfold pipe_Check at h
 refine spec_of (draw_ok _) Try.func43 rfl (by decide) rfl (by kernel_rfl) ?_
 refine seq_np ?_
 refine reg_f ?_
 refine rs 2 [] [] (by kernel_rfl) allP_nil ?_
 refine rf [(1, .ptr 0 0), (2, .ptr 1 0)] [(0, .row 57 (Enc.cells p)), (1, .row 29 [iS 0, iS 0])] 2 (by kernel_rfl) ?_
 refine wk_id ?_
 refine seq_np ?_
 refine seq_np ?_
 refine reg_f ?_
 refine rs 12 [] [] (by kernel_rfl) allP_nil ?_
 refine rf [(1, .ptr 0 0), (2, .ptr 1 0), (19, bS (decide ((5000 : Int) < (IntKind.i64.wrap ((IntKind.i64.wrap (((p.Items.length : Nat) : Int) + ((p.Senders.length : Nat) : Int))) + ((p.Getters.length : Nat) : Int))))))] [(0, .row 57 (Enc.cells p)), (1, .row 29 [iS 0, iS 0])] 2 (by kernel_rfl) ?_
 refine wk_id ?_
 refine cond_sx h (by kernel_rfl) (fun g263 h => ?_) (fun g263 h => ?_)
 ·refine seq_np ?_
  refine reg_f ?_
  obtain ⟨r142, hr142, h⟩ := bind_sx h
  refine run_call 62 [iS 2, iS 0] (some 20) (by kernel_rfl) ?_
  refine call_0 (pipe_fault_spec 2 0 r142 hr142) (by simp only [push_cast, seval]) (by simp only [push_cast, seval]) ?_
  refine back_f ?_
  refine rs 1 [] [] (by kernel_rfl) allP_nil ?_
  refine rf [(2, .ptr 1 0)] [(0, .row 57 (Enc.cells p)), (1, .row 29 (Enc.cells r142))] 2 (by kernel_rfl) ?_
  refine wk_id ?_
  obtain rfl := Option.some.inj h
  refine ret_at (.agg (Enc.cells r142)) (by kernel_rfl) ?_
  exact ret_e [] [] (by simp only [push_cast, seval]) (by simp only [push_cast, seval]) rfl rfl rfl
 ·refine wk_id ?_
  refine seq_np ?_
  refine seq_cut (A := Unit) (fun _ => ([(1, .ptr 0 0), (2, .ptr 1 0), (28, bS ((decide (p.Cap < 0)) || (decide ((1000 : Int) < p.Cap))))], [(0, .row 57 (Enc.cells p)), (1, .row 29 [iS 0, iS 0])], 2)) (fun _ => True) (fun K147 hK147 => ?_) (fun _ _ => ?_)
  ·refine reg_f ?_
   refine rs 4 [] [] (by kernel_rfl) allP_nil ?_
   refine run_split 24 (decide (p.Cap < 0)) (.inl (by kernel_rfl)) (fun g148 => ?_) (fun g148 => ?_)
   ·refine rs 4 [] [] (by kernel_rfl) allP_nil ?_
    refine rf [(1, .ptr 0 0), (2, .ptr 1 0), (28, bS true)] [(0, .row 57 (Enc.cells p)), (1, .row 29 [iS 0, iS 0])] 2 (by kernel_rfl) ?_
    exact hK147 () _ _ _ trivial (leSt_m [(0, 0), (1, 1)] [] (by (try simp only [g148]) <;> simp only [push_cast, seval]) (by (try simp only [g148]) <;> simp only [push_cast, seval]) rfl rfl rfl)
   ·refine rs 4 [] [] (by kernel_rfl) allP_nil ?_
    refine rf [(1, .ptr 0 0), (2, .ptr 1 0), (28, bS (decide ((1000 : Int) < p.Cap)))] [(0, .row 57 (Enc.cells p)), (1, .row 29 [iS 0, iS 0])] 2 (by kernel_rfl) ?_
    exact hK147 () _ _ _ trivial (leSt_m [(0, 0), (1, 1)] [] (by (try simp only [g148]) <;> simp only [push_cast, seval]) (by (try simp only [g148]) <;> simp only [push_cast, seval]) rfl rfl rfl)
  ·dsimp only
   refine cond_sx h (by kernel_rfl) (fun g262 h => ?_) (fun g262 h => ?_)
   ·refine seq_np ?_
    refine reg_f ?_
    obtain ⟨r150, hr150, h⟩ := bind_sx h
    refine run_call 62 [iS 3, iS 0] (some 29) (by kernel_rfl) ?_
    refine call_0 (pipe_fault_spec 3 0 r150 hr150) (by simp only [push_cast, seval]) (by simp only [push_cast, seval]) ?_
    refine back_f ?_
    refine rs 1 [] [] (by kernel_rfl) allP_nil ?_
    refine rf [(2, .ptr 1 0)] [(0, .row 57 (Enc.cells p)), (1, .row 29 (Enc.cells r150))] 2 (by kernel_rfl) ?_
    refine wk_id ?_
    obtain rfl := Option.some.inj h
    refine ret_at (.agg (Enc.cells r150)) (by kernel_rfl) ?_
    exact ret_e [] [] (by simp only [push_cast, seval]) (by simp only [push_cast, seval]) rfl rfl rfl
   ·refine wk_id ?_
    refine seq_np ?_
    refine seq_np ?_
    refine reg_f ?_
    refine rs 6 [] [] (by kernel_rfl) allP_nil ?_
    refine rf [(1, .ptr 0 0), (2, .ptr 1 0), (35, bS (decide (p.Cap < ((p.Items.length : Nat) : Int))))] [(0, .row 57 (Enc.cells p)), (1, .row 29 [iS 0, iS 0])] 2 (by kernel_rfl) ?_
    refine wk_id ?_
    refine cond_sx h (by kernel_rfl) (fun g261 h => ?_) (fun g261 h => ?_)
    ·refine seq_np ?_
     refine reg_f ?_
     obtain ⟨r154, hr154, h⟩ := bind_sx h
     refine run_call 62 [iS 8, iS 0] (some 36) (by kernel_rfl) ?_
     refine call_0 (pipe_fault_spec 8 0 r154 hr154) (by simp only [push_cast, seval]) (by simp only [push_cast, seval]) ?_
     refine back_f ?_
     refine rs 1 [] [] (by kernel_rfl) allP_nil ?_
     refine rf [(2, .ptr 1 0)] [(0, .row 57 (Enc.cells p)), (1, .row 29 (Enc.cells r154))] 2 (by kernel_rfl) ?_
     refine wk_id ?_
     obtain rfl := Option.some.inj h
     refine ret_at (.agg (Enc.cells r154)) (by kernel_rfl) ?_
     exact ret_e [] [] (by simp only [push_cast, seval]) (by simp only [push_cast, seval]) rfl rfl rfl
    ·refine wk_id ?_
     refine seq_np ?_
     refine seq_cut (A := Unit) (fun _ => ([(1, .ptr 0 0), (2, .ptr 1 0), (74, bS (bif (decide ((0 : Int) < ((p.Senders.length : Nat) : Int))) then (p.Closed || ((decide (((p.Items.length : Nat) : Int) < p.Cap)) || ((decide ((0 : Int) < ((p.Getters.length : Nat) : Int))) || ((decide ((0 : Int) < ((p.Getters.length : Nat) : Int))) && (p.Closed || (decide ((0 : Int) < ((p.Items.length : Nat) : Int)))))))) else ((decide ((0 : Int) < ((p.Getters.length : Nat) : Int))) && (p.Closed || (decide ((0 : Int) < ((p.Items.length : Nat) : Int)))))))], [(0, .row 57 (Enc.cells p)), (1, .row 29 [iS 0, iS 0])], 2)) (fun _ => True) (fun K173 hK173 => ?_) (fun _ _ => ?_)
     ·refine reg_f ?_
      refine rs 5 [] [] (by kernel_rfl) allP_nil ?_
      refine run_split 41 (decide ((0 : Int) < ((p.Senders.length : Nat) : Int))) (.inl (by kernel_rfl)) (fun g174 => ?_) (fun g174 => ?_)
      ·refine rs 3 [] [] (by kernel_rfl) allP_nil ?_
       refine run_split 44 p.Closed (.inr (by kernel_rfl)) (fun g175 => ?_) (fun g175 => ?_)
       ·refine rs 30 [] [] (by kernel_rfl) allP_nil ?_
        refine rf [(1, .ptr 0 0), (2, .ptr 1 0), (74, bS true)] [(0, .row 57 (Enc.cells p)), (1, .row 29 [iS 0, iS 0])] 2 (by kernel_rfl) ?_
        exact hK173 () _ _ _ trivial (leSt_m [(0, 0), (1, 1)] [] (by first | ((try simp only [g174, g175]) <;> simp only [push_cast, seval]; done) | ((try simp only [g174]); (try simp only [g175]); simp only [push_cast, seval]; done) | (exfalso; clear h; simp_all; done)) (by first | ((try simp only [g174, g175]) <;> simp only [push_cast, seval]; done) | ((try simp only [g174]); (try simp only [g175]); simp only [push_cast, seval]; done) | (exfalso; clear h; simp_all; done)) rfl rfl rfl)
       ·refine rs 8 [] [] (by kernel_rfl) allP_nil ?_
        refine run_split 52 (decide (((p.Items.length : Nat) : Int) < p.Cap)) (.inr (by kernel_rfl)) (fun g176 => ?_) (fun g176 => ?_)
        ·refine rn 16 [(1, .ptr 0 0), (2, .ptr 1 0), (41, bS true), (52, .gd true (bS true))] [(0, .row 57 (Enc.cells p)), (1, .row 29 [iS 0, iS 0])] 2 (by kernel_rfl) ?_
         refine rs 22 [] [] (by kernel_rfl) allP_nil ?_
         refine rf [(1, .ptr 0 0), (2, .ptr 1 0), (74, bS true)] [(0, .row 57 (Enc.cells p)), (1, .row 29 [iS 0, iS 0])] 2 (by kernel_rfl) ?_
         exact hK173 () _ _ _ trivial (leSt_m [(0, 0), (1, 1)] [] (by first | ((try simp only [g174, g175, g176]) <;> simp only [push_cast, seval]; done) | ((try simp only [g174]); (try simp only [g175]); (try simp only [g176]); simp only [push_cast, seval]; done) | (exfalso; clear h; simp_all; done)) (by first | ((try simp only [g174, g175, g176]) <;> simp only [push_cast, seval]; done) | ((try simp only [g174]); (try simp only [g175]); (try simp only [g176]); simp only [push_cast, seval]; done) | (exfalso; clear h; simp_all; done)) rfl rfl rfl)
        ·refine rn 16 [(1, .ptr 0 0), (2, .ptr 1 0), (41, bS true), (52, .gd true (bS false))] [(0, .row 57 (Enc.cells p)), (1, .row 29 [iS 0, iS 0])] 2 (by kernel_rfl) ?_
         refine rs 7 [] [] (by kernel_rfl) allP_nil ?_
         refine run_split 59 (decide ((0 : Int) < ((p.Getters.length : Nat) : Int))) (.inl (by kernel_rfl)) (fun g177 => ?_) (fun g177 => ?_)
         ·refine rs 15 [] [] (by kernel_rfl) allP_nil ?_
          refine rf [(1, .ptr 0 0), (2, .ptr 1 0), (74, bS true)] [(0, .row 57 (Enc.cells p)), (1, .row 29 [iS 0, iS 0])] 2 (by kernel_rfl) ?_
          exact hK173 () _ _ _ trivial (leSt_m [(0, 0), (1, 1)] [] (by first | ((try simp only [g174, g175, g176, g177]) <;> simp only [push_cast, seval]; done) | ((try simp only [g174]); (try simp only [g175]); (try simp only [g176]); (try simp only [g177]); simp only [push_cast, seval]; done) | (exfalso; clear h; simp_all; done)) (by first | ((try simp only [g174, g175, g176, g177]) <;> simp only [push_cast, seval]; done) | ((try simp only [g174]); (try simp only [g175]); (try simp only [g176]); (try simp only [g177]); simp only [push_cast, seval]; done) | (exfalso; clear h; simp_all; done)) rfl rfl rfl)
         ·refine rs 5 [] [] (by kernel_rfl) allP_nil ?_
          refine run_split 64 (decide ((0 : Int) < ((p.Getters.length : Nat) : Int))) (.inr (by kernel_rfl)) (fun g178 => ?_) (fun g178 => ?_)
          ·refine rs 3 [] [] (by kernel_rfl) allP_nil ?_
           refine run_split 67 p.Closed (.inr (by kernel_rfl)) (fun g179 => ?_) (fun g179 => ?_)
           ·refine rn 31 [(1, .ptr 0 0), (2, .ptr 1 0), (59, bS false), (64, .gd true (bS true)), (67, .gd true (bS true))] [(0, .row 57 (Enc.cells p)), (1, .row 29 [iS 0, iS 0])] 2 (by kernel_rfl) ?_
            refine rs 7 [] [] (by kernel_rfl) allP_nil ?_
            refine rf [(1, .ptr 0 0), (2, .ptr 1 0), (74, bS true)] [(0, .row 57 (Enc.cells p)), (1, .row 29 [iS 0, iS 0])] 2 (by kernel_rfl) ?_
            exact hK173 () _ _ _ trivial (leSt_m [(0, 0), (1, 1)] [] (by first | ((try simp only [g174, g175, g176, g177, g178, g179]) <;> simp only [push_cast, seval]; done) | ((try simp only [g174]); (try simp only [g175]); (try simp only [g176]); (try simp only [g177]); (try simp only [g178]); (try simp only [g179]); simp only [push_cast, seval]; done) | (exfalso; clear h; simp_all; done)) (by first | ((try simp only [g174, g175, g176, g177, g178, g179]) <;> simp only [push_cast, seval]; done) | ((try simp only [g174]); (try simp only [g175]); (try simp only [g176]); (try simp only [g177]); (try simp only [g178]); (try simp only [g179]); simp only [push_cast, seval]; done) | (exfalso; clear h; simp_all; done)) rfl rfl rfl)
           ·refine rn 31 [(1, .ptr 0 0), (2, .ptr 1 0), (59, bS false), (64, .gd true (bS true)), (67, .gd true (bS false))] [(0, .row 57 (Enc.cells p)), (1, .row 29 [iS 0, iS 0])] 2 (by kernel_rfl) ?_
            refine rs 7 [] [] (by kernel_rfl) allP_nil ?_
            refine rf [(1, .ptr 0 0), (2, .ptr 1 0), (74, bS (decide ((0 : Int) < ((p.Items.length : Nat) : Int))))] [(0, .row 57 (Enc.cells p)), (1, .row 29 [iS 0, iS 0])] 2 (by kernel_rfl) ?_
            exact hK173 () _ _ _ trivial (leSt_m [(0, 0), (1, 1)] [] (by first | ((try simp only [g174, g175, g176, g177, g178, g179]) <;> simp only [push_cast, seval]; done) | ((try simp only [g174]); (try simp only [g175]); (try simp only [g176]); (try simp only [g177]); (try simp only [g178]); (try simp only [g179]); simp only [push_cast, seval]; done) | (exfalso; clear h; simp_all; done)) (by first | ((try simp only [g174, g175, g176, g177, g178, g179]) <;> simp only [push_cast, seval]; done) | ((try simp only [g174]); (try simp only [g175]); (try simp only [g176]); (try simp only [g177]); (try simp only [g178]); (try simp only [g179]); simp only [push_cast, seval]; done) | (exfalso; clear h; simp_all; done)) rfl rfl rfl)
          ·refine rs 10 [] [] (by kernel_rfl) allP_nil ?_
           refine rf [(1, .ptr 0 0), (2, .ptr 1 0), (74, bS false)] [(0, .row 57 (Enc.cells p)), (1, .row 29 [iS 0, iS 0])] 2 (by kernel_rfl) ?_
           exact hK173 () _ _ _ trivial (leSt_m [(0, 0), (1, 1)] [] (by first | ((try simp only [g174, g175, g176, g177, g178]) <;> simp only [push_cast, seval]; done) | ((try simp only [g174]); (try simp only [g175]); (try simp only [g176]); (try simp only [g177]); (try simp only [g178]); simp only [push_cast, seval]; done) | (exfalso; clear h; simp_all; done)) (by first | ((try simp only [g174, g175, g176, g177, g178]) <;> simp only [push_cast, seval]; done) | ((try simp only [g174]); (try simp only [g175]); (try simp only [g176]); (try simp only [g177]); (try simp only [g178]); simp only [push_cast, seval]; done) | (exfalso; clear h; simp_all; done)) rfl rfl rfl)
      ·refine rs 23 [] [] (by kernel_rfl) allP_nil ?_
       refine run_split 64 (decide ((0 : Int) < ((p.Getters.length : Nat) : Int))) (.inr (by kernel_rfl)) (fun g180 => ?_) (fun g180 => ?_)
       ·refine rs 3 [] [] (by kernel_rfl) allP_nil ?_
        refine run_split 67 p.Closed (.inr (by kernel_rfl)) (fun g181 => ?_) (fun g181 => ?_)
        ·refine rn 31 [(1, .ptr 0 0), (2, .ptr 1 0), (59, bS false), (64, .gd true (bS true)), (67, .gd true (bS true))] [(0, .row 57 (Enc.cells p)), (1, .row 29 [iS 0, iS 0])] 2 (by kernel_rfl) ?_
         refine rs 7 [] [] (by kernel_rfl) allP_nil ?_
         refine rf [(1, .ptr 0 0), (2, .ptr 1 0), (74, bS true)] [(0, .row 57 (Enc.cells p)), (1, .row 29 [iS 0, iS 0])] 2 (by kernel_rfl) ?_
         exact hK173 () _ _ _ trivial (leSt_m [(0, 0), (1, 1)] [] (by first | ((try simp only [g174, g180, g181]) <;> simp only [push_cast, seval]; done) | ((try simp only [g174]); (try simp only [g180]); (try simp only [g181]); simp only [push_cast, seval]; done) | (exfalso; clear h; simp_all; done)) (by first | ((try simp only [g174, g180, g181]) <;> simp only [push_cast, seval]; done) | ((try simp only [g174]); (try simp only [g180]); (try simp only [g181]); simp only [push_cast, seval]; done) | (exfalso; clear h; simp_all; done)) rfl rfl rfl)
        ·refine rn 31 [(1, .ptr 0 0), (2, .ptr 1 0), (59, bS false), (64, .gd true (bS true)), (67, .gd true (bS false))] [(0, .row 57 (Enc.cells p)), (1, .row 29 [iS 0, iS 0])] 2 (by kernel_rfl) ?_
         refine rs 7 [] [] (by kernel_rfl) allP_nil ?_
         refine rf [(1, .ptr 0 0), (2, .ptr 1 0), (74, bS (decide ((0 : Int) < ((p.Items.length : Nat) : Int))))] [(0, .row 57 (Enc.cells p)), (1, .row 29 [iS 0, iS 0])] 2 (by kernel_rfl) ?_
         exact hK173 () _ _ _ trivial (leSt_m [(0, 0), (1, 1)] [] (by first | ((try simp only [g174, g180, g181]) <;> simp only [push_cast, seval]; done) | ((try simp only [g174]); (try simp only [g180]); (try simp only [g181]); simp only [push_cast, seval]; done) | (exfalso; clear h; simp_all; done)) (by first | ((try simp only [g174, g180, g181]) <;> simp only [push_cast, seval]; done) | ((try simp only [g174]); (try simp only [g180]); (try simp only [g181]); simp only [push_cast, seval]; done) | (exfalso; clear h; simp_all; done)) rfl rfl rfl)
       ·refine rs 10 [] [] (by kernel_rfl) allP_nil ?_
        refine rf [(1, .ptr 0 0), (2, .ptr 1 0), (74, bS false)] [(0, .row 57 (Enc.cells p)), (1, .row 29 [iS 0, iS 0])] 2 (by kernel_rfl) ?_
        exact hK173 () _ _ _ trivial (leSt_m [(0, 0), (1, 1)] [] (by first | ((try simp only [g174, g180]) <;> simp only [push_cast, seval]; done) | ((try simp only [g174]); (try simp only [g180]); simp only [push_cast, seval]; done) | (exfalso; clear h; simp_all; done)) (by first | ((try simp only [g174, g180]) <;> simp only [push_cast, seval]; done) | ((try simp only [g174]); (try simp only [g180]); simp only [push_cast, seval]; done) | (exfalso; clear h; simp_all; done)) rfl rfl rfl)
     ·dsimp only
      refine cond_sx h (by kernel_rfl) (fun g260 h => ?_) (fun g260 h => ?_)
      ·refine seq_np ?_
       refine reg_f ?_
       obtain ⟨r183, hr183, h⟩ := bind_sx h
       refine run_call 62 [iS 5, iS 0] (some 75) (by kernel_rfl) ?_
       refine call_0 (pipe_fault_spec 5 0 r183 hr183) (by simp only [push_cast, seval]) (by simp only [push_cast, seval]) ?_
       refine back_f ?_
       refine rs 1 [] [] (by kernel_rfl) allP_nil ?_
       refine rf [(2, .ptr 1 0)] [(0, .row 57 (Enc.cells p)), (1, .row 29 (Enc.cells r183))] 2 (by kernel_rfl) ?_
       refine wk_id ?_
       obtain rfl := Option.some.inj h
       refine ret_at (.agg (Enc.cells r183)) (by kernel_rfl) ?_
       exact ret_e [] [] (by simp only [push_cast, seval]) (by simp only [push_cast, seval]) rfl rfl rfl
      ·refine wk_id ?_
       refine seq_np ?_
       refine reg_f ?_
       refine rs 2 [] [] (by kernel_rfl) allP_nil ?_
       refine rf [(1, .ptr 0 0), (2, .ptr 1 0), (3, .mp 2)] [(0, .row 57 (Enc.cells p)), (1, .row 29 [iS 0, iS 0]), (2, .map (mi []))] 3 (by kernel_rfl) ?_
       refine wk_id ?_
       refine seq_np ?_
       refine seq_np ?_
       refine reg_f ?_
       refine rs 3 [] [] (by kernel_rfl) allP_nil ?_
       obtain ⟨r188, hr188, h⟩ := bind_sx h
       refine call_x (pipe_posts_spec p.Senders [] r188 hr188) (args := [.sl p.Senders.length (fl p.Senders), .mp 2]) (dst := (some 80)) (by kernel_rfl) [(0, .row 57 (Enc.cells p)), (1, .row 29 [iS 0, iS 0]), (2, .map (mi []))] 3 (by kernel_rfl) [(0, 2)] [] (iS r188.1) [(2, .map (mi r188.2)), (2, .dead)] (by simp only [push_cast, seval]) (by simp only [push_cast, seval]) (by kernel_rfl) (.inl rfl) (by simp only [push_cast, seval]) (by simp only [push_cast, seval]) ?_
       refine rs 1 [] [] (by kernel_rfl) allP_nil ?_
       refine rf [(1, .ptr 0 0), (2, .ptr 1 0), (3, .mp 2), (4, iS r188.1)] [(0, .row 57 (Enc.cells p)), (1, .row 29 [iS 0, iS 0]), (2, .map (mi r188.2))] 4 (by kernel_rfl) ?_
       refine wk_id ?_
       refine seq_np ?_
       refine reg_f ?_
       refine rs 2 [] [] (by kernel_rfl) allP_nil ?_
       refine rf [(1, .ptr 0 0), (2, .ptr 1 0), (3, .mp 2), (4, iS r188.1), (82, bS (r188.1 != 0))] [(0, .row 57 (Enc.cells p)), (1, .row 29 [iS 0, iS 0]), (2, .map (mi r188.2))] 4 (by kernel_rfl) ?_
       refine wk_id ?_
       refine cond_sx h (by kernel_rfl) (fun g259 h => ?_) (fun g259 h => ?_)
       ·refine seq_np ?_
        refine reg_f ?_
        refine rs 1 [] [] (by kernel_rfl) allP_nil ?_
        obtain ⟨r190, hr190, h⟩ := bind_sx h
        refine run_call 62 [iS r188.1, iS 1] (some 84) (by kernel_rfl) ?_
        refine call_0 (pipe_fault_spec r188.1 1 r190 hr190) (by simp only [push_cast, seval]) (by simp only [push_cast, seval]) ?_
        refine back_f ?_
        refine rs 1 [] [] (by kernel_rfl) allP_nil ?_
        refine rf [(2, .ptr 1 0)] [(0, .row 57 (Enc.cells p)), (1, .row 29 (Enc.cells r190)), (2, .map (mi r188.2))] 4 (by kernel_rfl) ?_
        refine wk_id ?_
        obtain rfl := Option.some.inj h
        refine ret_at (.agg (Enc.cells r190)) (by kernel_rfl) ?_
        exact ret_e [] [] (by simp only [push_cast, seval]) (by simp only [push_cast, seval]) rfl rfl rfl
       ·refine wk_id ?_
        refine seq_np ?_
        refine seq_np ?_
        refine reg_f ?_
        refine rs 3 [] [] (by kernel_rfl) allP_nil ?_
        obtain ⟨r195, hr195, h⟩ := bind_sx h
        refine call_x (pipe_posts_spec p.Getters r188.2 r195 hr195) (args := [.sl p.Getters.length (fl p.Getters), .mp 2]) (dst := (some 88)) (by kernel_rfl) [(0, .row 57 (Enc.cells p)), (1, .row 29 [iS 0, iS 0]), (2, .map (mi r188.2))] 4 (by kernel_rfl) [(0, 2)] [] (iS r195.1) [(2, .map (mi r195.2)), (2, .dead)] (by simp only [push_cast, seval]) (by simp only [push_cast, seval]) (by kernel_rfl) (.inl rfl) (by simp only [push_cast, seval]) (by simp only [push_cast, seval]) ?_
        refine rs 1 [] [] (by kernel_rfl) allP_nil ?_
        refine rf [(1, .ptr 0 0), (2, .ptr 1 0), (5, iS r195.1)] [(0, .row 57 (Enc.cells p)), (1, .row 29 [iS 0, iS 0]), (2, .map (mi r195.2))] 5 (by kernel_rfl) ?_
        refine wk_id ?_
        refine seq_np ?_
        refine reg_f ?_
        refine rs 2 [] [] (by kernel_rfl) allP_nil ?_
        refine rf [(1, .ptr 0 0), (2, .ptr 1 0), (5, iS r195.1), (90, bS (r195.1 != 0))] [(0, .row 57 (Enc.cells p)), (1, .row 29 [iS 0, iS 0]), (2, .map (mi r195.2))] 5 (by kernel_rfl) ?_
        refine wk_id ?_
        refine cond_sx h (by kernel_rfl) (fun g258 h => ?_) (fun g258 h => ?_)
        ·refine seq_np ?_
         refine reg_f ?_
         refine rs 1 [] [] (by kernel_rfl) allP_nil ?_
         obtain ⟨r197, hr197, h⟩ := bind_sx h
         refine run_call 62 [iS r195.1, iS 2] (some 92) (by kernel_rfl) ?_
         refine call_0 (pipe_fault_spec r195.1 2 r197 hr197) (by simp only [push_cast, seval]) (by simp only [push_cast, seval]) ?_
         refine back_f ?_
         refine rs 1 [] [] (by kernel_rfl) allP_nil ?_
         refine rf [(2, .ptr 1 0)] [(0, .row 57 (Enc.cells p)), (1, .row 29 (Enc.cells r197)), (2, .map (mi r195.2))] 5 (by kernel_rfl) ?_
         refine wk_id ?_
         obtain rfl := Option.some.inj h
         refine ret_at (.agg (Enc.cells r197)) (by kernel_rfl) ?_
         exact ret_e [] [] (by simp only [push_cast, seval]) (by simp only [push_cast, seval]) rfl rfl rfl
        ·refine wk_id ?_
         refine seq_np ?_
         refine seq_np ?_
         refine reg_f ?_
         refine rs 4 [] [] (by kernel_rfl) allP_nil ?_
         refine rf [(2, .ptr 1 0), (94, .sl p.Getters.length (fl p.Getters)), (95, iS ((p.Getters.length : Nat) : Int)), (96, iS 0)] [(0, .row 57 (Enc.cells p)), (1, .row 29 [iS 0, iS 0]), (2, .map (mi r195.2))] 5 (by kernel_rfl) ?_
         refine wk_id ?_
         refine block_np ?_
         refine loop_sx (S := Int) (fun a => ([(2, .ptr 0 0), (94, .sl p.Getters.length (fl p.Getters)), (95, iS ((p.Getters.length : Nat) : Int)), (96, iS a)], [(0, .row 29 [iS 0, iS 0])], 1)) h (leSt_m [(0, 1)] [] (by simp only [push_cast, seval]) (by simp only [push_cast, seval]) rfl rfl rfl) ?_
         rintro t96q7 o2 R2 h hr2 hn2 hx2 ht2
         try dsimp only at h hn2 ⊢
         unfold pipe_Check_l1 at h
         try dsimp only at h
         refine seq_np ?_
         refine reg_f ?_
         refine rs 1 [] [] (by kernel_rfl) allP_nil ?_
         refine rf [(2, .ptr 0 0), (94, .sl p.Getters.length (fl p.Getters)), (95, iS ((p.Getters.length : Nat) : Int)), (96, iS t96q7), (97, bS (decide (t96q7 < ((p.Getters.length : Nat) : Int))))] [(0, .row 29 [iS 0, iS 0])] 1 (by kernel_rfl) ?_
         refine wk_id ?_
         refine seq_np ?_
         refine cond_sx h (by kernel_rfl) (fun g257 h => ?_) (fun g257 h => ?_)
         ·refine wk_id ?_
          refine seq_np ?_
          refine block_np ?_
          refine chk_sx h (fun g253 h => ?_)
          refine seq_np ?_
          refine reg_f ?_
          have k252 : 0 ≤ t96q7 ∧ t96q7 < ((p.Getters.length : Nat) : Int) := by first | simpa only [Bool.and_eq_true, decide_eq_true_eq, bne_iff_ne, ne_eq] using g253 | (simp at g253 ⊢; omega)
          refine rs 4 [some ⟨.iptr (fl p.Getters) ((t96q7).toNat * 3), [], 1, []⟩, some ⟨.agg (Enc.cells (ix p.Getters t96q7)), [], 1, []⟩] _ (by kernel_rfl) (allP_cons (ob_ldw p.Getters t96q7 3 ((t96q7).toNat * 3) k252 rfl (by first | rfl | omega) [iS (ix p.Getters t96q7).Task, iS (ix p.Getters t96q7).Case, iS (ix p.Getters t96q7).Value] rfl 1 []) (allP_cons (ob_ix_l p.Getters 3 1 t96q7 k252) allP_nil)) ?_
          refine rf [(2, .ptr 0 0), (7, .ptr 1 0), (94, .sl p.Getters.length (fl p.Getters)), (95, iS ((p.Getters.length : Nat) : Int)), (96, iS t96q7)] [(0, .row 29 [iS 0, iS 0]), (1, .row 92 (Enc.cells (ix p.Getters t96q7)))] 2 (by kernel_rfl) ?_
          refine wk_id ?_
          refine seq_np ?_
          refine reg_f ?_
          refine rs 3 [] [] (by kernel_rfl) allP_nil ?_
          refine rf [(2, .ptr 0 0), (94, .sl p.Getters.length (fl p.Getters)), (95, iS ((p.Getters.length : Nat) : Int)), (96, iS t96q7), (102, bS ((ix p.Getters t96q7).Value != 0))] [(0, .row 29 [iS 0, iS 0]), (1, .row 92 (Enc.cells (ix p.Getters t96q7)))] 2 (by kernel_rfl) ?_
          refine wk_id ?_
          refine cond_sx h (by kernel_rfl) (fun g256 h => ?_) (fun g256 h => ?_)
          ·refine seq_np ?_
           refine reg_f ?_
           obtain ⟨r255, hr255, h⟩ := bind_sx h
           refine run_call 62 [iS 5, iS 2] (some 103) (by kernel_rfl) ?_
           refine call_0 (pipe_fault_spec 5 2 r255 hr255) (by simp only [push_cast, seval]) (by simp only [push_cast, seval]) ?_
           refine back_f ?_
           refine rs 1 [] [] (by kernel_rfl) allP_nil ?_
           refine rf [(2, .ptr 0 0)] [(0, .row 29 (Enc.cells r255)), (1, .row 92 (Enc.cells (ix p.Getters t96q7)))] 2 (by kernel_rfl) ?_
           refine wk_id ?_
           refine rt_cast ht2 ?_
           obtain ⟨r0, h, e0⟩ := map_sx h
           have e1 := hr2 r0 e0.symm
           subst r0
           obtain rfl := Option.some.inj h
           refine ret_at (.agg (Enc.cells r255)) (by kernel_rfl) ?_
           exact ret_e [] [] (by simp only [push_cast, seval]) (by simp only [push_cast, seval]) rfl rfl rfl
          ·refine wk_id ?_
           refine wk_id ?_
           refine reg_f ?_
           refine rs 2 [] [] (by kernel_rfl) allP_nil ?_
           refine rf [(2, .ptr 0 0), (94, .sl p.Getters.length (fl p.Getters)), (95, iS ((p.Getters.length : Nat) : Int)), (96, iS (IntKind.i64.wrap (t96q7 + 1)))] [(0, .row 29 [iS 0, iS 0]), (1, .row 92 (Enc.cells (ix p.Getters t96q7)))] 2 (by kernel_rfl) ?_
           exact hn2 ((IntKind.i64.wrap (t96q7 + 1))) _ _ _ (Option.some.inj h).symm (leSt_m [(0, 0)] [] (by simp only [push_cast, seval]) (by simp only [push_cast, seval]) rfl rfl rfl)
         ·change R2 (.exit 0) _ _ _
          refine ex_cast hx2 (id := 0) ?_
          obtain ⟨r0, h, e0⟩ := map_sx h
          have e1 := hr2 r0 e0.symm
          subst r0
          refine wk_id ?_
          refine wk_id ?_
          refine seq_np ?_
          refine reg_f ?_
          refine rs 2 [] [] (by kernel_rfl) allP_nil ?_
          refine rf [(2, .ptr 0 0)] [(0, .row 29 [iS 0, iS 0])] 1 (by kernel_rfl) ?_
          refine wk_id ?_
          obtain rfl := Option.some.inj h
          refine ret_at (.agg [iS 0, iS 0]) (by kernel_rfl) ?_
          exact ret_e [] [] (by simp only [push_cast, seval]) (by simp only [push_cast, seval]) rfl rfl rfl

set_option maxRecDepth 100000 in
set_option maxHeartbeats 200000000 in
theorem pick_Check_spec (l : (List Pipe)) (r : Fault) (h : pick_Check l = some r) : SpecW Try.prog 12 [.sl l.length (fl l)] [] 0 (fun x h n => x = .agg (Enc.cells r) ∧ h = [] ∧ n = 0) := by
 unfold pick_Check at h
 refine spec_of (draw_ok _) Try.func12 rfl (by decide) rfl (by kernel_rfl) ?_
 refine seq_np ?_
 refine reg_f ?_
 refine rs 1 [] [] (by kernel_rfl) allP_nil ?_
 refine rf [(0, .sl l.length (fl l)), (2, .ptr 0 0)] [(0, .row 29 [iS 0, iS 0])] 1 (by kernel_rfl) ?_
 refine wk_id ?_
 refine seq_np ?_
 refine seq_np ?_
 refine reg_f ?_
 refine rs 3 [] [] (by kernel_rfl) allP_nil ?_
 refine rf [(0, .sl l.length (fl l)), (2, .ptr 0 0), (8, bS (decide ((20 : Int) < ((l.length : Nat) : Int))))] [(0, .row 29 [iS 0, iS 0])] 1 (by kernel_rfl) ?_
 refine wk_id ?_
 refine cond_sx h (by kernel_rfl) (fun g356 h => ?_) (fun g356 h => ?_)
 ·refine seq_np ?_
  refine reg_f ?_
  obtain ⟨r283, hr283, h⟩ := bind_sx h
  refine run_call 42 [iS 2, iS 0] (some 9) (by kernel_rfl) ?_
  refine call_0 (pick_fault_spec 2 0 r283 hr283) (by simp only [push_cast, seval]) (by simp only [push_cast, seval]) ?_
  refine back_f ?_
  refine rs 1 [] [] (by kernel_rfl) allP_nil ?_
  refine rf [(2, .ptr 0 0)] [(0, .row 29 (Enc.cells r283))] 1 (by kernel_rfl) ?_
  refine wk_id ?_
  obtain rfl := Option.some.inj h
  refine ret_at (.agg (Enc.cells r283)) (by kernel_rfl) ?_
  exact ret_e [] [] (by simp only [push_cast, seval]) (by simp only [push_cast, seval]) rfl rfl rfl
 ·refine wk_id ?_
  refine seq_np ?_
  refine seq_np ?_
  refine reg_f ?_
  refine rs 3 [] [] (by kernel_rfl) allP_nil ?_
  refine rf [(2, .ptr 0 0), (10, .sl l.length (fl l)), (11, iS ((l.length : Nat) : Int)), (12, iS 0)] [(0, .row 29 [iS 0, iS 0])] 1 (by kernel_rfl) ?_
  refine wk_id ?_
  refine block_np ?_
  refine loop_sx (S := Int) (fun a => ([(2, .ptr 0 0), (10, .sl l.length (fl l)), (11, iS ((l.length : Nat) : Int)), (12, iS a)], [(0, .row 29 [iS 0, iS 0])], 1)) h (leSt_m [(0, 0)] [] (by simp only [push_cast, seval]) (by simp only [push_cast, seval]) rfl rfl rfl) ?_
  rintro t12q7 o2 R2 h hr2 hn2 hx2 ht2
  try dsimp only at h hn2 ⊢
  unfold pick_Check_l1 at h
  try dsimp only at h
  refine seq_np ?_
  refine reg_f ?_
  refine rs 1 [] [] (by kernel_rfl) allP_nil ?_
  refine rf [(2, .ptr 0 0), (10, .sl l.length (fl l)), (11, iS ((l.length : Nat) : Int)), (12, iS t12q7), (13, bS (decide (t12q7 < ((l.length : Nat) : Int))))] [(0, .row 29 [iS 0, iS 0])] 1 (by kernel_rfl) ?_
  refine wk_id ?_
  refine seq_np ?_
  refine cond_sx h (by kernel_rfl) (fun g355 h => ?_) (fun g355 h => ?_)
  ·refine wk_id ?_
   refine seq_np ?_
   refine block_np ?_
   refine chk_sx h (fun g349 h => ?_)
   refine seq_np ?_
   refine reg_f ?_
   have k348 : 0 ≤ t12q7 ∧ t12q7 < ((l.length : Nat) : Int) := by first | simpa only [Bool.and_eq_true, decide_eq_true_eq, bne_iff_ne, ne_eq] using g349 | (simp at g349 ⊢; omega)
   refine rs 6 [none, some ⟨.iptr (fl l) ((t12q7).toNat * 5), [], 1, []⟩, some ⟨.agg (Enc.cells (ix l t12q7)), [], 1, []⟩] _ (by kernel_rfl) (allP_cons (ob_ldw l t12q7 5 ((t12q7).toNat * 5) k348 rfl (by first | rfl | omega) [iS (ix l t12q7).Cap, .sl (ix l t12q7).Items.length (fl (ix l t12q7).Items), bS (ix l t12q7).Closed, .sl (ix l t12q7).Senders.length (fl (ix l t12q7).Senders), .sl (ix l t12q7).Getters.length (fl (ix l t12q7).Getters)] rfl 1 []) (allP_cons (ob_ix_l l 5 1 t12q7 k348) allP_nil)) ?_
   refine rf [(2, .ptr 0 0), (3, iS t12q7), (4, .ptr 1 0), (10, .sl l.length (fl l)), (11, iS ((l.length : Nat) : Int)), (12, iS t12q7)] [(0, .row 29 [iS 0, iS 0]), (1, .row 57 (Enc.cells (ix l t12q7)))] 2 (by kernel_rfl) ?_
   refine wk_id ?_
   refine seq_np ?_
   refine reg_f ?_
   refine rs 1 [] [] (by kernel_rfl) allP_nil ?_
   obtain ⟨r351, hr351, h⟩ := bind_sx h
   refine run_call 43 [.agg (Enc.cells (ix l t12q7))] (some 18) (by kernel_rfl) ?_
   refine call_0 (pipe_Check_spec (ix l t12q7) r351 hr351) (by simp only [push_cast, seval]) (by simp only [push_cast, seval]) ?_
   refine back_f ?_
   refine rs 2 [] [] (by kernel_rfl) allP_nil ?_
   refine rf [(2, .ptr 0 0), (3, iS t12q7), (5, .ptr 2 0), (10, .sl l.length (fl l)), (11, iS ((l.length : Nat) : Int)), (12, iS t12q7)] [(0, .row 29 [iS 0, iS 0]), (1, .row 57 (Enc.cells (ix l t12q7))), (2, .row 29 (Enc.cells r351))] 3 (by kernel_rfl) ?_
   refine wk_id ?_
   refine seq_np ?_
   refine reg_f ?_
   refine rs 3 [] [] (by kernel_rfl) allP_nil ?_
   refine rf [(2, .ptr 0 0), (3, iS t12q7), (5, .ptr 2 0), (10, .sl l.length (fl l)), (11, iS ((l.length : Nat) : Int)), (12, iS t12q7), (21, bS (r351.Code != 0))] [(0, .row 29 [iS 0, iS 0]), (1, .row 57 (Enc.cells (ix l t12q7))), (2, .row 29 (Enc.cells r351))] 3 (by kernel_rfl) ?_
   refine wk_id ?_
   refine cond_sx h (by kernel_rfl) (fun g354 h => ?_) (fun g354 h => ?_)
   ·refine seq_np ?_
    refine reg_f ?_
    refine rs 3 [] [] (by kernel_rfl) allP_nil ?_
    obtain ⟨r353, hr353, h⟩ := bind_sx h
    refine run_call 42 [iS r351.Code, iS t12q7] (some 25) (by kernel_rfl) ?_
    refine call_0 (pick_fault_spec r351.Code t12q7 r353 hr353) (by simp only [push_cast, seval]) (by simp only [push_cast, seval]) ?_
    refine back_f ?_
    refine rs 1 [] [] (by kernel_rfl) allP_nil ?_
    refine rf [(2, .ptr 0 0)] [(0, .row 29 (Enc.cells r353)), (1, .row 57 (Enc.cells (ix l t12q7))), (2, .row 29 (Enc.cells r351))] 3 (by kernel_rfl) ?_
    refine wk_id ?_
    refine rt_cast ht2 ?_
    obtain ⟨r0, h, e0⟩ := map_sx h
    have e1 := hr2 r0 e0.symm
    subst r0
    obtain rfl := Option.some.inj h
    refine ret_at (.agg (Enc.cells r353)) (by kernel_rfl) ?_
    exact ret_e [] [] (by simp only [push_cast, seval]) (by simp only [push_cast, seval]) rfl rfl rfl
   ·refine wk_id ?_
    refine wk_id ?_
    refine reg_f ?_
    refine rs 2 [] [] (by kernel_rfl) allP_nil ?_
    refine rf [(2, .ptr 0 0), (10, .sl l.length (fl l)), (11, iS ((l.length : Nat) : Int)), (12, iS (IntKind.i64.wrap (t12q7 + 1)))] [(0, .row 29 [iS 0, iS 0]), (1, .row 57 (Enc.cells (ix l t12q7))), (2, .row 29 (Enc.cells r351))] 3 (by kernel_rfl) ?_
    exact hn2 ((IntKind.i64.wrap (t12q7 + 1))) _ _ _ (Option.some.inj h).symm (leSt_m [(0, 0)] [] (by simp only [push_cast, seval]) (by simp only [push_cast, seval]) rfl rfl rfl)
  ·change R2 (.exit 0) _ _ _
   refine ex_cast hx2 (id := 0) ?_
   obtain ⟨r0, h, e0⟩ := map_sx h
   have e1 := hr2 r0 e0.symm
   subst r0
   refine wk_id ?_
   refine wk_id ?_
   refine seq_np ?_
   refine reg_f ?_
   refine rs 2 [] [] (by kernel_rfl) allP_nil ?_
   refine rf [(2, .ptr 0 0)] [(0, .row 29 [iS 0, iS 0])] 1 (by kernel_rfl) ?_
   refine wk_id ?_
   obtain rfl := Option.some.inj h
   refine ret_at (.agg [iS 0, iS 0]) (by kernel_rfl) ?_
   exact ret_e [] [] (by simp only [push_cast, seval]) (by simp only [push_cast, seval]) rfl rfl rfl

set_option maxRecDepth 100000 in
set_option maxHeartbeats 200000000 in
theorem slices_Clone_int_spec (s : (List Int)) (r : (List Int)) (h : slices_Clone_int s = some r) : SpecW Try.prog 64 [.sl s.length (fl s)] [] 0 (fun x h n => x = .own 0 0 r.length ∧ h = [(0, .row 3 (fl r))] ∧ n = 1) := by
 unfold slices_Clone_int at h
 refine spec_of (draw_ok _) Try.func64 rfl (by decide) rfl (by kernel_rfl) ?_
 refine seq_np ?_
 refine reg_f ?_
 refine rs 1 [] [] (by kernel_rfl) allP_nil ?_
 refine rf [(0, .sl s.length (fl s))] [] 0 (by kernel_rfl) ?_
 refine wk_id ?_
 refine seq_np ?_
 refine seq_np ?_
 refine reg_f ?_
 refine rs 1 [] [] (by kernel_rfl) allP_nil ?_
 refine run_nil s.length (some 4) (by kernel_rfl) (fun g368 => ?_) ?_
 ·obtain rfl : s = [] := List.eq_nil_of_length_eq_zero g368
  replace h : (some ([])) = some r := by simpa using h
  refine rf [(0, .sl ([] : List Int).length (fl ([] : List Int))), (4, bS true)] [] 0 (by kernel_rfl) ?_
  refine wk_id ?_
  refine cond_t (by kernel_rfl) ?_
  refine seq_np ?_
  refine reg_f ?_
  refine rs 1 [] [] (by kernel_rfl) allP_nil ?_
  refine rf [(2, .v (.slice none 0 0))] [] 0 (by kernel_rfl) ?_
  refine wk_id ?_
  obtain rfl := Option.some.inj h
  refine ret_at (.v (.slice none 0 0)) (by kernel_rfl) ?_
  exact ret_e [] [] (by simp only [push_cast, seval]) (by simp only [push_cast, seval]) rfl rfl rfl
 ·refine rf [(0, .sl s.length (fl s)), (4, bS false)] [] 0 (by kernel_rfl) ?_
  refine wk_id ?_
  refine cond_f (by kernel_rfl) ?_
  refine wk_id ?_
  refine chk_sx h (fun g367 h => ?_)
  refine seq_np ?_
  refine reg_f ?_
  refine run_mk0 Int (some 5) 3 (by kernel_rfl) ?_
  have k366 : (([] : List Int) ++ s).length * 8 ≤ 140737488355328 := by first | simpa only [Bool.and_eq_true, decide_eq_true_eq, bne_iff_ne, ne_eq] using g367 | (simp at g367 ⊢; omega)
  refine rs 3 [none, some ⟨.own 1 0 (([] : List Int) ++ s).length, [(1, .row 3 (fl (([] : List Int) ++ s))), (0, .dead)], 2, [0]⟩] _ (by kernel_rfl) (allP_cons (ob_app (P := Try.prog) ([] : List Int) s 1 8 rfl (fl s) s.length rfl rfl ((fl s).length = s.length * 1) (app_sl s 1 rfl) 3 (by kernel_rfl) (by decide) k366 0 1 []) allP_nil) ?_
  refine rf [(2, .own 1 0 (([] : List Int) ++ s).length)] [(0, .dead), (1, .row 3 (fl (([] : List Int) ++ s)))] 2 (by kernel_rfl) ?_
  refine wk_id ?_
  obtain rfl := Option.some.inj h
  refine ret_at (.own 1 0 (([] : List Int) ++ s).length) (by kernel_rfl) ?_
  exact ret_e [(0, 1)] [] (by simp only [push_cast, seval]) (by simp only [push_cast, seval]) rfl rfl rfl

set_option maxRecDepth 100000 in
set_option maxHeartbeats 200000000 in
theorem slices_Clone_Post_spec (s : (List GPost)) (r : (List GPost)) (h : slices_Clone_Post s = some r) : SpecW Try.prog 70 [.sl s.length (fl s)] [] 0 (fun x h n => x = .own 0 0 r.length ∧ h = [(0, .row 92 (fl r))] ∧ n = 1) := by
 unfold slices_Clone_Post at h
 refine spec_of (draw_ok _) Try.func70 rfl (by decide) rfl (by kernel_rfl) ?_
 refine seq_np ?_
 refine reg_f ?_
 refine rs 1 [] [] (by kernel_rfl) allP_nil ?_
 refine rf [(0, .sl s.length (fl s))] [] 0 (by kernel_rfl) ?_
 refine wk_id ?_
 refine seq_np ?_
 refine seq_np ?_
 refine reg_f ?_
 refine rs 1 [] [] (by kernel_rfl) allP_nil ?_
 refine run_nil s.length (some 4) (by kernel_rfl) (fun g376 => ?_) ?_
 ·obtain rfl : s = [] := List.eq_nil_of_length_eq_zero g376
  replace h : (some ([])) = some r := by simpa using h
  refine rf [(0, .sl ([] : List GPost).length (fl ([] : List GPost))), (4, bS true)] [] 0 (by kernel_rfl) ?_
  refine wk_id ?_
  refine cond_t (by kernel_rfl) ?_
  refine seq_np ?_
  refine reg_f ?_
  refine rs 1 [] [] (by kernel_rfl) allP_nil ?_
  refine rf [(2, .v (.slice none 0 0))] [] 0 (by kernel_rfl) ?_
  refine wk_id ?_
  obtain rfl := Option.some.inj h
  refine ret_at (.v (.slice none 0 0)) (by kernel_rfl) ?_
  exact ret_e [] [] (by simp only [push_cast, seval]) (by simp only [push_cast, seval]) rfl rfl rfl
 ·refine rf [(0, .sl s.length (fl s)), (4, bS false)] [] 0 (by kernel_rfl) ?_
  refine wk_id ?_
  refine cond_f (by kernel_rfl) ?_
  refine wk_id ?_
  refine chk_sx h (fun g375 h => ?_)
  refine seq_np ?_
  refine reg_f ?_
  refine run_mk0 GPost (some 5) 92 (by kernel_rfl) ?_
  have k374 : (([] : List GPost) ++ s).length * 24 ≤ 140737488355328 := by first | simpa only [Bool.and_eq_true, decide_eq_true_eq, bne_iff_ne, ne_eq] using g375 | (simp at g375 ⊢; omega)
  refine rs 3 [none, some ⟨.own 1 0 (([] : List GPost) ++ s).length, [(1, .row 92 (fl (([] : List GPost) ++ s))), (0, .dead)], 2, [0]⟩] _ (by kernel_rfl) (allP_cons (ob_app (P := Try.prog) ([] : List GPost) s 3 24 rfl (fl s) s.length rfl rfl ((fl s).length = s.length * 3) (app_sl s 3 rfl) 92 (by kernel_rfl) (by decide) k374 0 1 []) allP_nil) ?_
  refine rf [(2, .own 1 0 (([] : List GPost) ++ s).length)] [(0, .dead), (1, .row 92 (fl (([] : List GPost) ++ s)))] 2 (by kernel_rfl) ?_
  refine wk_id ?_
  obtain rfl := Option.some.inj h
  refine ret_at (.own 1 0 (([] : List GPost) ++ s).length) (by kernel_rfl) ?_
  exact ret_e [(0, 1)] [] (by simp only [push_cast, seval]) (by simp only [push_cast, seval]) rfl rfl rfl

set_option maxRecDepth 100000 in
set_option maxHeartbeats 200000000 in
theorem pipe_Copy_spec (p : Pipe) (r : Int × Bool × (List Int) × (List GPost) × (List GPost)) (h : pipe_Copy p = some r) : SpecW Try.prog 57 [.agg (Enc.cells p)] [] 0 (fun x h n => x = .agg [iS r.1, .own 0 0 r.2.2.1.length, bS r.2.1, .own 1 0 r.2.2.2.1.length, .own 2 0 r.2.2.2.2.length] ∧ h = [(0, .row 3 (fl r.2.2.1)), (1, .row 92 (fl r.2.2.2.1)), (2, .row 92 (fl r.2.2.2.2))] ∧ n = 3) := by
 unfold pipe_Copy at h
 refine spec_of (draw_ok _) Try.func57 rfl (by decide) rfl (by kernel_rfl) ?_
 refine seq_np ?_
 refine reg_f ?_
 refine rs 2 [] [] (by kernel_rfl) allP_nil ?_
 refine rf [(1, .ptr 0 0), (2, .ptr 1 0)] [(0, .row 57 (Enc.cells p)), (1, .row 57 [iS 0, .v (.slice none 0 0), bS false, .v (.slice none 0 0), .v (.slice none 0 0)])] 2 (by kernel_rfl) ?_
 refine wk_id ?_
 refine seq_np ?_
 refine reg_t ?_
 refine rs 6 [] [] (by kernel_rfl) allP_nil ?_
 obtain ⟨r382, hr382, h⟩ := bind_sx h
 refine call_x (slices_Clone_int_spec p.Items r382 hr382) (args := [.sl p.Items.length (fl p.Items)]) (dst := (some 9)) (by kernel_rfl) [(0, .row 57 (Enc.cells p)), (1, .row 57 [iS 0, .v (.slice none 0 0), bS false, .v (.slice none 0 0), .v (.slice none 0 0)])] 8 (by kernel_rfl) [] [] (.own 8 0 r382.length) [(8, .row 3 (fl r382))] (by simp only [push_cast, seval]) (by simp only [push_cast, seval]) (by kernel_rfl) (.inl rfl) (by simp only [push_cast, seval]) (by simp only [push_cast, seval]) ?_
 refine rs 2 [] [] (by kernel_rfl) allP_nil ?_
 obtain ⟨r383, hr383, h⟩ := bind_sx h
 refine call_x (slices_Clone_Post_spec p.Senders r383 hr383) (args := [.sl p.Senders.length (fl p.Senders)]) (dst := (some 12)) (by kernel_rfl) [(0, .row 57 (Enc.cells p)), (1, .row 57 [iS 0, .v (.slice none 0 0), bS false, .v (.slice none 0 0), .v (.slice none 0 0)]), (8, .row 3 (fl r382))] 12 (by kernel_rfl) [] [] (.own 12 0 r383.length) [(12, .row 92 (fl r383))] (by simp only [push_cast, seval]) (by simp only [push_cast, seval]) (by kernel_rfl) (.inl rfl) (by simp only [push_cast, seval]) (by simp only [push_cast, seval]) ?_
 refine rs 2 [] [] (by kernel_rfl) allP_nil ?_
 obtain ⟨r384, hr384, h⟩ := bind_sx h
 refine call_x (slices_Clone_Post_spec p.Getters r384 hr384) (args := [.sl p.Getters.length (fl p.Getters)]) (dst := (some 15)) (by kernel_rfl) [(0, .row 57 (Enc.cells p)), (1, .row 57 [iS 0, .v (.slice none 0 0), bS false, .v (.slice none 0 0), .v (.slice none 0 0)]), (8, .row 3 (fl r382)), (12, .row 92 (fl r383))] 16 (by kernel_rfl) [] [] (.own 16 0 r384.length) [(16, .row 92 (fl r384))] (by simp only [push_cast, seval]) (by simp only [push_cast, seval]) (by kernel_rfl) (.inl rfl) (by simp only [push_cast, seval]) (by simp only [push_cast, seval]) ?_
 refine rs 2 [] [] (by kernel_rfl) allP_nil ?_
 refine rt [(2, .ptr 1 0)] [(0, .row 57 (Enc.cells p)), (1, .row 57 [iS p.Cap, .own 8 0 r382.length, bS p.Closed, .own 12 0 r383.length, .own 16 0 r384.length]), (8, .row 3 (fl r382)), (12, .row 92 (fl r383)), (16, .row 92 (fl r384))] 20 follows (by kernel_rfl) ?_
 refine wk_id ?_
 obtain rfl := Option.some.inj h
 refine ret_at (.agg [iS p.Cap, .own 8 0 r382.length, bS p.Closed, .own 12 0 r383.length, .own 16 0 r384.length]) (by kernel_rfl) ?_
 exact ret_e [(0, 8), (1, 12), (2, 16)] [] (by simp only [push_cast, seval]) (by simp only [push_cast, seval]) rfl rfl rfl

set_option maxRecDepth 100000 in
set_option maxHeartbeats 200000000 in
theorem pick_copied_spec (l : (List Pipe)) (r : (List Pipe)) (h : pick_copied l = some r) : SpecW Try.prog 44 [.sl l.length (fl l)] [] 0 (fun x h n => x = .own 0 0 r.length ∧ h = [(0, .row 57 (flD dPipe [1, 2, 3] r)), ((.s 1 0), .fam (famD dPipe 0 r)), ((.s 2 0), .fam (famD dPipe 1 r)), ((.s 3 0), .fam (famD dPipe 2 r))] ∧ n = 4) := by
 unfold pick_copied at h
 refine spec_of (draw_ok _) Try.func44 rfl (by decide) rfl (by kernel_rfl) ?_
 refine seq_np ?_
 refine reg_f ?_
 refine rs 1 [] [] (by kernel_rfl) allP_nil ?_
 refine rf [(0, .sl l.length (fl l))] [] 0 (by kernel_rfl) ?_
 refine wk_id ?_
 refine seq_np ?_
 refine reg_f ?_
 refine rs 1 [] [] (by kernel_rfl) allP_nil ?_
 refine rf [(0, .sl l.length (fl l)), (3, .v (.slice none 0 0))] [] 0 (by kernel_rfl) ?_
 refine wk_id ?_
 refine seq_np ?_
 refine seq_np ?_
 refine reg_f ?_
 refine rs 3 [] [] (by kernel_rfl) allP_nil ?_
 refine rf [(3, .v (.slice none 0 0)), (6, .sl l.length (fl l)), (7, iS ((l.length : Nat) : Int)), (8, iS 0)] [] 0 (by kernel_rfl) ?_
 refine wk_id ?_
 refine block_np ?_
 refine loop_sx (S := Int × (List Pipe)) (fun a => ([(3, .own 0 0 a.2.length), (6, .sl l.length (fl l)), (7, iS ((l.length : Nat) : Int)), (8, iS a.1)], [(0, .row 57 (flD dPipe [1, 2, 3] a.2)), ((.s 1 0), .fam (famD dPipe 0 a.2)), ((.s 2 0), .fam (famD dPipe 1 a.2)), ((.s 3 0), .fam (famD dPipe 2 a.2))], 4)) h (leSt_m [] [] (by simp only [push_cast, leL_flD, renL_flD, seval]) (by simp only [push_cast, leL_flD, renL_flD, seval]) rfl rfl rfl) ?_
 rintro ⟨t8q7, c0q8⟩ o2 R2 h hr2 hn2 hx2 ht2
 try dsimp only at h hn2 ⊢
 unfold pick_copied_l1 at h
 try dsimp only at h
 refine seq_np ?_
 refine reg_f ?_
 refine rs 1 [] [] (by kernel_rfl) allP_nil ?_
 refine rf [(3, .own 0 0 c0q8.length), (6, .sl l.length (fl l)), (7, iS ((l.length : Nat) : Int)), (8, iS t8q7), (9, bS (decide (t8q7 < ((l.length : Nat) : Int))))] [(0, .row 57 (flD dPipe [1, 2, 3] c0q8)), ((.s 1 0), .fam (famD dPipe 0 c0q8)), ((.s 2 0), .fam (famD dPipe 1 c0q8)), ((.s 3 0), .fam (famD dPipe 2 c0q8))] 4 (by kernel_rfl) ?_
 refine wk_id ?_
 refine seq_np ?_
 refine cond_sx h (by kernel_rfl) (fun g473 h => ?_) (fun g473 h => ?_)
 ·refine wk_id ?_
  refine seq_np ?_
  refine block_np ?_
  refine chk_sx h (fun g466 h => ?_)
  refine seq_np ?_
  refine reg_f ?_
  have k465 : 0 ≤ t8q7 ∧ t8q7 < ((l.length : Nat) : Int) := by first | simpa only [Bool.and_eq_true, decide_eq_true_eq, bne_iff_ne, ne_eq] using g466 | (simp at g466 ⊢; omega)
  refine rs 4 [some ⟨.iptr (fl l) ((t8q7).toNat * 5), [], 4, []⟩, some ⟨.agg (Enc.cells (ix l t8q7)), [], 4, []⟩] _ (by kernel_rfl) (allP_cons (ob_ldw l t8q7 5 ((t8q7).toNat * 5) k465 rfl (by first | rfl | omega) [iS (ix l t8q7).Cap, .sl (ix l t8q7).Items.length (fl (ix l t8q7).Items), bS (ix l t8q7).Closed, .sl (ix l t8q7).Senders.length (fl (ix l t8q7).Senders), .sl (ix l t8q7).Getters.length (fl (ix l t8q7).Getters)] rfl 4 []) (allP_cons (ob_ix_l l 5 4 t8q7 k465) allP_nil)) ?_
  refine rf [(3, .own 0 0 c0q8.length), (5, .ptr 4 0), (6, .sl l.length (fl l)), (7, iS ((l.length : Nat) : Int)), (8, iS t8q7)] [(0, .row 57 (flD dPipe [1, 2, 3] c0q8)), ((.s 1 0), .fam (famD dPipe 0 c0q8)), ((.s 2 0), .fam (famD dPipe 1 c0q8)), ((.s 3 0), .fam (famD dPipe 2 c0q8)), (4, .row 57 (Enc.cells (ix l t8q7)))] 5 (by kernel_rfl) ?_
  refine wk_id ?_
  refine reg_f ?_
  refine rs 2 [] [] (by kernel_rfl) allP_nil ?_
  obtain ⟨r470, hr470, h⟩ := bind_sx h
  refine call_x (pipe_Copy_spec (ix l t8q7) r470 hr470) (args := [.agg (Enc.cells (ix l t8q7))]) (dst := (some 14)) (by kernel_rfl) [(0, .row 57 (flD dPipe [1, 2, 3] c0q8)), ((.s 1 0), .fam (famD dPipe 0 c0q8)), ((.s 2 0), .fam (famD dPipe 1 c0q8)), ((.s 3 0), .fam (famD dPipe 2 c0q8)), (4, .row 57 (Enc.cells (ix l t8q7)))] 5 (by kernel_rfl) [] [] (.agg [iS r470.1, .own 5 0 r470.2.2.1.length, bS r470.2.1, .own 6 0 r470.2.2.2.1.length, .own 7 0 r470.2.2.2.2.length]) [(5, .row 3 (fl r470.2.2.1)), (6, .row 92 (fl r470.2.2.2.1)), (7, .row 92 (fl r470.2.2.2.2))] (by simp only [push_cast, leL_flD, renL_flD, seval]) (by simp only [push_cast, leL_flD, renL_flD, seval]) (by kernel_rfl) (.inl rfl) (by simp only [push_cast, leL_flD, renL_flD, seval]) (by simp only [push_cast, leL_flD, renL_flD, seval]) ?_
  refine chk_sx h (fun g472 h => ?_)
  have k471 : (c0q8 ++ [(Pipe.mk r470.1 r470.2.2.1 r470.2.1 r470.2.2.2.1 r470.2.2.2.2)]).length * 88 ≤ 140737488355328 := by first | simpa only [Bool.and_eq_true, decide_eq_true_eq, bne_iff_ne, ne_eq] using g472 | (simp at g472 ⊢; omega)
  refine rs 1 [] [] (by kernel_rfl) allP_nil ?_
  refine run_opG (some 16) _ ⟨.own 9 0 (c0q8 ++ [(Pipe.mk r470.1 r470.2.2.1 r470.2.1 r470.2.2.2.1 r470.2.2.2.2)]).length, [(9, .row 57 (flN dPipe (nA [(some 1), (some 2), (some 3)] [(some (Nm.t 5)), (some (Nm.t 6)), (some (Nm.t 7))] ((c0q8.length : Nat) : Int)) 0 (c0q8 ++ [(Pipe.mk r470.1 r470.2.2.1 r470.2.1 r470.2.2.2.1 r470.2.2.2.2)]))), (0, .dead)], 10, [0, 8]⟩ [((.s 12 0), .fam (famD dPipe 2 (c0q8 ++ [(Pipe.mk r470.1 r470.2.2.1 r470.2.1 r470.2.2.2.1 r470.2.2.2.2)]))), (9, .row 57 (flD dPipe [10, 11, 12] (c0q8 ++ [(Pipe.mk r470.1 r470.2.2.1 r470.2.1 r470.2.2.2.1 r470.2.2.2.2)]))), ((.s 3 0), .dead), (7, .dead), ((.s 11 0), .fam (famD dPipe 1 (c0q8 ++ [(Pipe.mk r470.1 r470.2.2.1 r470.2.1 r470.2.2.2.1 r470.2.2.2.2)]))), (9, .row 57 (flN dPipe (nA [(some 10), (some 11), (some 3)] [(some (.s 10 ((c0q8.length : Nat) : Int))), (some (.s 11 ((c0q8.length : Nat) : Int))), (some (Nm.t 7))] ((c0q8.length : Nat) : Int)) 0 (c0q8 ++ [(Pipe.mk r470.1 r470.2.2.1 r470.2.1 r470.2.2.2.1 r470.2.2.2.2)]))), ((.s 2 0), .dead), (6, .dead), ((.s 10 0), .fam (famD dPipe 0 (c0q8 ++ [(Pipe.mk r470.1 r470.2.2.1 r470.2.1 r470.2.2.2.1 r470.2.2.2.2)]))), (9, .row 57 (flN dPipe (nA [(some 10), (some 2), (some 3)] [(some (.s 10 ((c0q8.length : Nat) : Int))), (some (Nm.t 6)), (some (Nm.t 7))] ((c0q8.length : Nat) : Int)) 0 (c0q8 ++ [(Pipe.mk r470.1 r470.2.2.1 r470.2.1 r470.2.2.2.1 r470.2.2.2.2)]))), ((.s 1 0), .dead), (5, .dead)] 3 [9, (.s 1 0), 5, 9, (.s 2 0), 6, 9, (.s 3 0), 7] [(.s 1 0), 5, (.s 2 0), 6, (.s 3 0), 7] (by kernel_rfl) (ob_appN (P := Try.prog) dPipe [1, 2, 3] [(some (Nm.t 5)), (some (Nm.t 6)), (some (Nm.t 7))] c0q8 (Pipe.mk r470.1 r470.2.2.1 r470.2.1 r470.2.2.2.1 r470.2.2.2.2) 5 88 rfl (appCells ([iS r470.1, .own 5 0 r470.2.2.1.length, bS r470.2.1, .own 6 0 r470.2.2.2.1.length, .own 7 0 r470.2.2.2.2.length] : List SV) 0 (1 * 5)) rfl rfl rfl (0 + 1 * 5 ≤ ([iS r470.1, .own 5 0 r470.2.2.1.length, bS r470.2.1, .own 6 0 r470.2.2.2.1.length, .own 7 0 r470.2.2.2.2.length] : List SV).length) (by first | exact (Nat.le_of_ble_eq_true rfl : 0 + 1 * 5 ≤ ([iS r470.1, .own 5 0 r470.2.2.1.length, bS r470.2.1, .own 6 0 r470.2.2.2.1.length, .own 7 0 r470.2.2.2.2.length] : List SV).length) | decide) 57 (by kernel_rfl) (by decide) k471 0 9 [8]) (Ghost.cat (q1 := 2) (q2 := 1) (r1 := [9, (.s 1 0), 5, 9, (.s 2 0), 6]) (r2 := [9, (.s 3 0), 7]) (u1 := [((.s 11 0), .fam (famD dPipe 1 (c0q8 ++ [(Pipe.mk r470.1 r470.2.2.1 r470.2.1 r470.2.2.2.1 r470.2.2.2.2)]))), (9, .row 57 (flN dPipe (nA [(some 10), (some 11), (some 3)] [(some (.s 10 ((c0q8.length : Nat) : Int))), (some (.s 11 ((c0q8.length : Nat) : Int))), (some (Nm.t 7))] ((c0q8.length : Nat) : Int)) 0 (c0q8 ++ [(Pipe.mk r470.1 r470.2.2.1 r470.2.1 r470.2.2.2.1 r470.2.2.2.2)]))), ((.s 2 0), .dead), (6, .dead), ((.s 10 0), .fam (famD dPipe 0 (c0q8 ++ [(Pipe.mk r470.1 r470.2.2.1 r470.2.1 r470.2.2.2.1 r470.2.2.2.2)]))), (9, .row 57 (flN dPipe (nA [(some 10), (some 2), (some 3)] [(some (.s 10 ((c0q8.length : Nat) : Int))), (some (Nm.t 6)), (some (Nm.t 7))] ((c0q8.length : Nat) : Int)) 0 (c0q8 ++ [(Pipe.mk r470.1 r470.2.2.1 r470.2.1 r470.2.2.2.1 r470.2.2.2.2)]))), ((.s 1 0), .dead), (5, .dead)]) (u2 := [((.s 12 0), .fam (famD dPipe 2 (c0q8 ++ [(Pipe.mk r470.1 r470.2.2.1 r470.2.1 r470.2.2.2.1 r470.2.2.2.2)]))), (9, .row 57 (flD dPipe [10, 11, 12] (c0q8 ++ [(Pipe.mk r470.1 r470.2.2.1 r470.2.1 r470.2.2.2.1 r470.2.2.2.2)]))), ((.s 3 0), .dead), (7, .dead)]) (Ghost.cat (q1 := 1) (q2 := 1) (r1 := [9, (.s 1 0), 5]) (r2 := [9, (.s 2 0), 6]) (u1 := [((.s 10 0), .fam (famD dPipe 0 (c0q8 ++ [(Pipe.mk r470.1 r470.2.2.1 r470.2.1 r470.2.2.2.1 r470.2.2.2.2)]))), (9, .row 57 (flN dPipe (nA [(some 10), (some 2), (some 3)] [(some (.s 10 ((c0q8.length : Nat) : Int))), (some (Nm.t 6)), (some (Nm.t 7))] ((c0q8.length : Nat) : Int)) 0 (c0q8 ++ [(Pipe.mk r470.1 r470.2.2.1 r470.2.1 r470.2.2.2.1 r470.2.2.2.2)]))), ((.s 1 0), .dead), (5, .dead)]) (u2 := [((.s 11 0), .fam (famD dPipe 1 (c0q8 ++ [(Pipe.mk r470.1 r470.2.2.1 r470.2.1 r470.2.2.2.1 r470.2.2.2.2)]))), (9, .row 57 (flN dPipe (nA [(some 10), (some 11), (some 3)] [(some (.s 10 ((c0q8.length : Nat) : Int))), (some (.s 11 ((c0q8.length : Nat) : Int))), (some (Nm.t 7))] ((c0q8.length : Nat) : Int)) 0 (c0q8 ++ [(Pipe.mk r470.1 r470.2.2.1 r470.2.1 r470.2.2.2.1 r470.2.2.2.2)]))), ((.s 2 0), .dead), (6, .dead)]) (ghost_A 10 dPipe (c0q8 ++ [(Pipe.mk r470.1 r470.2.2.1 r470.2.1 r470.2.2.2.1 r470.2.2.2.2)]) 9 57 [(some 1), (some 2), (some 3)] [(some (Nm.t 5)), (some (Nm.t 6)), (some (Nm.t 7))] ((c0q8.length : Nat) : Int) (flN dPipe (nA [(some 10), (some 2), (some 3)] [(some (.s 10 ((c0q8.length : Nat) : Int))), (some (Nm.t 6)), (some (Nm.t 7))] ((c0q8.length : Nat) : Int)) 0 (c0q8 ++ [(Pipe.mk r470.1 r470.2.2.1 r470.2.1 r470.2.2.2.1 r470.2.2.2.2)])) 0 (some 1) (some 5) (by kernel_rfl) rfl (by kernel_rfl) ⟨_, (by kernel_rfl), off_app _ _⟩ (S_app (fun a => getH _ (.t 5) = chD dPipe 0 a) rfl)) (ghost_A 11 dPipe (c0q8 ++ [(Pipe.mk r470.1 r470.2.2.1 r470.2.1 r470.2.2.2.1 r470.2.2.2.2)]) 9 57 [(some 10), (some 2), (some 3)] [(some (.s 10 ((c0q8.length : Nat) : Int))), (some (Nm.t 6)), (some (Nm.t 7))] ((c0q8.length : Nat) : Int) (flN dPipe (nA [(some 10), (some 11), (some 3)] [(some (.s 10 ((c0q8.length : Nat) : Int))), (some (.s 11 ((c0q8.length : Nat) : Int))), (some (Nm.t 7))] ((c0q8.length : Nat) : Int)) 0 (c0q8 ++ [(Pipe.mk r470.1 r470.2.2.1 r470.2.1 r470.2.2.2.1 r470.2.2.2.2)])) 1 (some 2) (some 6) (by kernel_rfl) rfl (by kernel_rfl) ⟨_, (by kernel_rfl), off_app _ _⟩ (S_app (fun a => getH _ (.t 6) = chD dPipe 1 a) rfl)) rfl rfl rfl rfl) (ghost_A 12 dPipe (c0q8 ++ [(Pipe.mk r470.1 r470.2.2.1 r470.2.1 r470.2.2.2.1 r470.2.2.2.2)]) 9 57 [(some 10), (some 11), (some 3)] [(some (.s 10 ((c0q8.length : Nat) : Int))), (some (.s 11 ((c0q8.length : Nat) : Int))), (some (Nm.t 7))] ((c0q8.length : Nat) : Int) (flD dPipe [10, 11, 12] (c0q8 ++ [(Pipe.mk r470.1 r470.2.2.1 r470.2.1 r470.2.2.2.1 r470.2.2.2.2)])) 2 (some 3) (some 7) (by kernel_rfl) (flN_done dPipe [10, 11, 12] ((c0q8.length : Nat) : Int) (c0q8 ++ [(Pipe.mk r470.1 r470.2.2.1 r470.2.1 r470.2.2.2.1 r470.2.2.2.2)]) rfl) (by kernel_rfl) ⟨_, (by kernel_rfl), off_app _ _⟩ (S_app (fun a => getH _ (.t 7) = chD dPipe 2 a) rfl)) rfl rfl rfl rfl) (by kernel_rfl) ?_
  refine rs 1 [] [] (by kernel_rfl) allP_nil ?_
  refine rf [(3, .own 9 0 (c0q8 ++ [(Pipe.mk r470.1 r470.2.2.1 r470.2.1 r470.2.2.2.1 r470.2.2.2.2)]).length), (6, .sl l.length (fl l)), (7, iS ((l.length : Nat) : Int)), (8, iS t8q7)] [(0, .dead), ((.s 1 0), .dead), ((.s 2 0), .dead), ((.s 3 0), .dead), (4, .row 57 (Enc.cells (ix l t8q7))), (5, .dead), (6, .dead), (7, .dead), (8, .row 57 [iS r470.1, .own 5 0 r470.2.2.1.length, bS r470.2.1, .own 6 0 r470.2.2.2.1.length, .own 7 0 r470.2.2.2.2.length]), (9, .row 57 (flD dPipe [10, 11, 12] (c0q8 ++ [(Pipe.mk r470.1 r470.2.2.1 r470.2.1 r470.2.2.2.1 r470.2.2.2.2)]))), ((.s 10 0), .fam (famD dPipe 0 (c0q8 ++ [(Pipe.mk r470.1 r470.2.2.1 r470.2.1 r470.2.2.2.1 r470.2.2.2.2)]))), ((.s 11 0), .fam (famD dPipe 1 (c0q8 ++ [(Pipe.mk r470.1 r470.2.2.1 r470.2.1 r470.2.2.2.1 r470.2.2.2.2)]))), ((.s 12 0), .fam (famD dPipe 2 (c0q8 ++ [(Pipe.mk r470.1 r470.2.2.1 r470.2.1 r470.2.2.2.1 r470.2.2.2.2)])))] 13 (by kernel_rfl) ?_
  refine wk_id ?_
  refine wk_id ?_
  refine reg_f ?_
  refine rs 2 [] [] (by kernel_rfl) allP_nil ?_
  refine rf [(3, .own 9 0 (c0q8 ++ [(Pipe.mk r470.1 r470.2.2.1 r470.2.1 r470.2.2.2.1 r470.2.2.2.2)]).length), (6, .sl l.length (fl l)), (7, iS ((l.length : Nat) : Int)), (8, iS (IntKind.i64.wrap (t8q7 + 1)))] [(0, .dead), ((.s 1 0), .dead), ((.s 2 0), .dead), ((.s 3 0), .dead), (4, .row 57 (Enc.cells (ix l t8q7))), (5, .dead), (6, .dead), (7, .dead), (8, .row 57 [iS r470.1, .own 5 0 r470.2.2.1.length, bS r470.2.1, .own 6 0 r470.2.2.2.1.length, .own 7 0 r470.2.2.2.2.length]), (9, .row 57 (flD dPipe [10, 11, 12] (c0q8 ++ [(Pipe.mk r470.1 r470.2.2.1 r470.2.1 r470.2.2.2.1 r470.2.2.2.2)]))), ((.s 10 0), .fam (famD dPipe 0 (c0q8 ++ [(Pipe.mk r470.1 r470.2.2.1 r470.2.1 r470.2.2.2.1 r470.2.2.2.2)]))), ((.s 11 0), .fam (famD dPipe 1 (c0q8 ++ [(Pipe.mk r470.1 r470.2.2.1 r470.2.1 r470.2.2.2.1 r470.2.2.2.2)]))), ((.s 12 0), .fam (famD dPipe 2 (c0q8 ++ [(Pipe.mk r470.1 r470.2.2.1 r470.2.1 r470.2.2.2.1 r470.2.2.2.2)])))] 13 (by kernel_rfl) ?_
  exact hn2 ((IntKind.i64.wrap (t8q7 + 1)), (c0q8 ++ [(Pipe.mk r470.1 r470.2.2.1 r470.2.1 r470.2.2.2.1 r470.2.2.2.2)])) _ _ _ (Option.some.inj h).symm (leSt_m [(0, 9), ((.s 1 0), (.s 10 0)), ((.s 2 0), (.s 11 0)), ((.s 3 0), (.s 12 0))] [] (by simp only [push_cast, leL_flD, renL_flD, seval]) (by simp only [push_cast, leL_flD, renL_flD, seval]) rfl rfl rfl)
 ·change R2 (.exit 0) _ _ _
  refine ex_cast hx2 (id := 0) ?_
  obtain ⟨r0, h, e0⟩ := map_sx h
  have e1 := hr2 r0 e0.symm
  subst r0
  refine wk_id ?_
  refine wk_id ?_
  refine seq_np ?_
  refine reg_f ?_
  refine rs 2 [] [] (by kernel_rfl) allP_nil ?_
  refine rf [(2, .own 0 0 c0q8.length)] [(0, .row 57 (flD dPipe [1, 2, 3] c0q8)), ((.s 1 0), .fam (famD dPipe 0 c0q8)), ((.s 2 0), .fam (famD dPipe 1 c0q8)), ((.s 3 0), .fam (famD dPipe 2 c0q8))] 4 (by kernel_rfl) ?_
  refine wk_id ?_
  obtain rfl := Option.some.inj h
  refine ret_at (.own 0 0 c0q8.length) (by kernel_rfl) ?_
  exact ret_e [(0, 0), ((.s 1 0), (.s 1 0)), ((.s 2 0), (.s 2 0)), ((.s 3 0), (.s 3 0))] [] (by simp only [push_cast, leL_flD, renL_flD, seval]) (by simp only [push_cast, leL_flD, renL_flD, seval]) rfl rfl rfl

set_option maxRecDepth 100000 in
set_option maxHeartbeats 200000000 in
theorem pipe_Waits_1_spec (x : GPost) (t1 : Int) (r : Bool) (h : pipe_Waits_1 x t1 = some r) : SpecW Try.prog 76 [.agg (Enc.cells x), .iptr [iS t1] 0] [] 0 (fun x h n => x = bS r ∧ h = [] ∧ n = 0) := by
 unfold pipe_Waits_1 at h
 refine spec_of (draw_ok _) Try.func76 rfl (by decide) rfl (by kernel_rfl) ?_
 refine seq_np ?_
 refine reg_f ?_
 refine rs 2 [] [] (by kernel_rfl) allP_nil ?_
 refine rf [(1, .iptr [iS t1] 0), (2, .ptr 0 0)] [(0, .row 92 (Enc.cells x))] 1 (by kernel_rfl) ?_
 refine wk_id ?_
 refine seq_np ?_
 refine reg_f ?_
 refine rs 5 [] [] (by kernel_rfl) allP_nil ?_
 refine rf [(3, bS (x.Task == t1))] [(0, .row 92 (Enc.cells x))] 1 (by kernel_rfl) ?_
 refine wk_id ?_
 obtain rfl := Option.some.inj h
 refine ret_at (bS (x.Task == t1)) (by kernel_rfl) ?_
 exact ret_e [] [] (by simp only [push_cast, leL_flD, renL_flD, seval]) (by simp only [push_cast, leL_flD, renL_flD, seval]) rfl rfl rfl

set_option maxRecDepth 100000 in
set_option maxHeartbeats 200000000 in
theorem slices_IndexFunc_Post_spec (s : (List GPost)) (f : Int) (r : Int) (h : slices_IndexFunc_Post s f = some r) : SpecW Try.prog 89 [.sl s.length (fl s), .clo 76 [.iptr [iS f] 0]] [] 0 (fun x h n => x = iS r ∧ h = [] ∧ n = 0) := by
 unfold slices_IndexFunc_Post at h
 refine spec_of (draw_ok _) Try.func89 rfl (by decide) rfl (by kernel_rfl) ?_
 refine seq_np ?_
 refine reg_f ?_
 refine rs 1 [] [] (by kernel_rfl) allP_nil ?_
 refine rf [(0, .sl s.length (fl s)), (1, .clo 76 [.iptr [iS f] 0])] [] 0 (by kernel_rfl) ?_
 refine wk_id ?_
 refine seq_np ?_
 refine seq_np ?_
 refine reg_f ?_
 refine rs 3 [] [] (by kernel_rfl) allP_nil ?_
 refine rf [(0, .sl s.length (fl s)), (1, .clo 76 [.iptr [iS f] 0]), (7, iS ((s.length : Nat) : Int)), (8, iS 0)] [] 0 (by kernel_rfl) ?_
 refine wk_id ?_
 refine block_np ?_
 refine loop_sx (S := Int) (fun a => ([(0, .sl s.length (fl s)), (1, .clo 76 [.iptr [iS f] 0]), (7, iS ((s.length : Nat) : Int)), (8, iS a)], [], 0)) h (leSt_m [] [] (by simp only [push_cast, leL_flD, renL_flD, seval]) (by simp only [push_cast, leL_flD, renL_flD, seval]) rfl rfl rfl) ?_
 rintro t8q7 o2 R2 h hr2 hn2 hx2 ht2
 try dsimp only at h hn2 ⊢
 unfold slices_IndexFunc_Post_l1 at h
 try dsimp only at h
 refine seq_np ?_
 refine reg_f ?_
 refine rs 1 [] [] (by kernel_rfl) allP_nil ?_
 refine rf [(0, .sl s.length (fl s)), (1, .clo 76 [.iptr [iS f] 0]), (7, iS ((s.length : Nat) : Int)), (8, iS t8q7), (9, bS (decide (t8q7 < ((s.length : Nat) : Int))))] [] 0 (by kernel_rfl) ?_
 refine wk_id ?_
 refine seq_np ?_
 refine cond_sx h (by kernel_rfl) (fun g555 h => ?_) (fun g555 h => ?_)
 ·refine wk_id ?_
  refine seq_np ?_
  refine block_np ?_
  refine seq_np ?_
  refine reg_f ?_
  refine rs 2 [] [] (by kernel_rfl) allP_nil ?_
  refine rf [(0, .sl s.length (fl s)), (1, .clo 76 [.iptr [iS f] 0]), (5, iS t8q7), (7, iS ((s.length : Nat) : Int)), (8, iS t8q7)] [] 0 (by kernel_rfl) ?_
  refine wk_id ?_
  refine chk_sx h (fun g552 h => ?_)
  refine seq_np ?_
  refine reg_f ?_
  have k551 : 0 ≤ t8q7 ∧ t8q7 < ((s.length : Nat) : Int) := by first | simpa only [Bool.and_eq_true, decide_eq_true_eq, bne_iff_ne, ne_eq] using g552 | (simp at g552 ⊢; omega)
  refine rs 5 [none, none, none, some ⟨.iptr (fl s) ((t8q7).toNat * 3), [], 0, []⟩, some ⟨.agg (Enc.cells (ix s t8q7)), [], 0, []⟩] _ (by kernel_rfl) (allP_cons (ob_ldw s t8q7 3 ((t8q7).toNat * 3) k551 rfl (by first | rfl | omega) [iS (ix s t8q7).Task, iS (ix s t8q7).Case, iS (ix s t8q7).Value] rfl 0 []) (allP_cons (ob_ix_l s 3 0 t8q7 k551) allP_nil)) ?_
  obtain ⟨r553, hr553, h⟩ := bind_sx h
  refine run_call 76 [.agg (Enc.cells (ix s t8q7)), .iptr [iS f] 0] (some 16) (by kernel_rfl) ?_
  refine call_0 (pipe_Waits_1_spec (ix s t8q7) f r553 hr553) (by simp only [push_cast, leL_flD, renL_flD, seval]) (by simp only [push_cast, leL_flD, renL_flD, seval]) ?_
  refine back_f ?_
  refine rf [(0, .sl s.length (fl s)), (1, .clo 76 [.iptr [iS f] 0]), (5, iS t8q7), (7, iS ((s.length : Nat) : Int)), (8, iS t8q7), (16, bS r553)] [] 0 (by kernel_rfl) ?_
  refine wk_id ?_
  refine cond_sx h (by kernel_rfl) (fun g554 h => ?_) (fun g554 h => ?_)
  ·refine seq_np ?_
   refine reg_f ?_
   refine rs 2 [] [] (by kernel_rfl) allP_nil ?_
   refine rf [(4, iS t8q7)] [] 0 (by kernel_rfl) ?_
   refine wk_id ?_
   refine rt_cast ht2 ?_
   obtain ⟨r0, h, e0⟩ := map_sx h
   have e1 := hr2 r0 e0.symm
   subst r0
   obtain rfl := Option.some.inj h
   refine ret_at (iS t8q7) (by kernel_rfl) ?_
   exact ret_e [] [] (by simp only [push_cast, leL_flD, renL_flD, seval]) (by simp only [push_cast, leL_flD, renL_flD, seval]) rfl rfl rfl
  ·refine wk_id ?_
   refine wk_id ?_
   refine reg_f ?_
   refine rs 2 [] [] (by kernel_rfl) allP_nil ?_
   refine rf [(0, .sl s.length (fl s)), (1, .clo 76 [.iptr [iS f] 0]), (7, iS ((s.length : Nat) : Int)), (8, iS (IntKind.i64.wrap (t8q7 + 1)))] [] 0 (by kernel_rfl) ?_
   exact hn2 ((IntKind.i64.wrap (t8q7 + 1))) _ _ _ (Option.some.inj h).symm (leSt_m [] [] (by simp only [push_cast, leL_flD, renL_flD, seval]) (by simp only [push_cast, leL_flD, renL_flD, seval]) rfl rfl rfl)
 ·change R2 (.exit 0) _ _ _
  refine ex_cast hx2 (id := 0) ?_
  obtain ⟨r0, h, e0⟩ := map_sx h
  have e1 := hr2 r0 e0.symm
  subst r0
  refine wk_id ?_
  refine wk_id ?_
  refine seq_np ?_
  refine reg_f ?_
  refine rs 1 [] [] (by kernel_rfl) allP_nil ?_
  refine rf [(4, iS (-1))] [] 0 (by kernel_rfl) ?_
  refine wk_id ?_
  obtain rfl := Option.some.inj h
  refine ret_at (iS (-1)) (by kernel_rfl) ?_
  exact ret_e [] [] (by simp only [push_cast, leL_flD, renL_flD, seval]) (by simp only [push_cast, leL_flD, renL_flD, seval]) rfl rfl rfl

set_option maxRecDepth 100000 in
set_option maxHeartbeats 200000000 in
theorem slices_ContainsFunc_Post_spec (s : (List GPost)) (f : Int) (r : Bool) (h : slices_ContainsFunc_Post s f = some r) : SpecW Try.prog 77 [.sl s.length (fl s), .clo 76 [.iptr [iS f] 0]] [] 0 (fun x h n => x = bS r ∧ h = [] ∧ n = 0) := by
 unfold slices_ContainsFunc_Post at h
 refine spec_of (draw_ok _) Try.func77 rfl (by decide) rfl (by kernel_rfl) ?_
 refine seq_np ?_
 refine reg_f ?_
 refine rs 1 [] [] (by kernel_rfl) allP_nil ?_
 refine rf [(0, .sl s.length (fl s)), (1, .clo 76 [.iptr [iS f] 0])] [] 0 (by kernel_rfl) ?_
 refine wk_id ?_
 refine seq_np ?_
 refine reg_f ?_
 refine rs 2 [] [] (by kernel_rfl) allP_nil ?_
 obtain ⟨r558, hr558, h⟩ := bind_sx h
 refine run_call 89 [.sl s.length (fl s), .clo 76 [.iptr [iS f] 0]] (some 7) (by kernel_rfl) ?_
 refine call_0 (slices_IndexFunc_Post_spec s f r558 hr558) (by simp only [push_cast, leL_flD, renL_flD, seval]) (by simp only [push_cast, leL_flD, renL_flD, seval]) ?_
 refine back_f ?_
 refine rs 2 [] [] (by kernel_rfl) allP_nil ?_
 refine rf [(4, bS (decide ((0 : Int) ≤ r558)))] [] 0 (by kernel_rfl) ?_
 refine wk_id ?_
 obtain rfl := Option.some.inj h
 refine ret_at (bS (decide ((0 : Int) ≤ r558))) (by kernel_rfl) ?_
 exact ret_e [] [] (by simp only [push_cast, leL_flD, renL_flD, seval]) (by simp only [push_cast, leL_flD, renL_flD, seval]) rfl rfl rfl

set_option maxRecDepth 100000 in
set_option maxHeartbeats 200000000 in
theorem pipe_Waits_spec (p : Pipe) (task : Int) (r : Bool) (h : pipe_Waits p task = some r) : SpecW Try.prog 69 [.agg (Enc.cells p), iS task] [] 0 (fun x h n => x = bS r ∧ h = [] ∧ n = 0) := by
 unfold pipe_Waits at h
 refine spec_of (draw_ok _) Try.func69 rfl (by decide) rfl (by kernel_rfl) ?_
 refine seq_np ?_
 refine reg_f ?_
 refine rs 3 [] [] (by kernel_rfl) allP_nil ?_
 refine rf [(2, .ptr 0 0), (3, .ptr 1 0)] [(0, .row 57 (Enc.cells p)), (1, .row 3 [iS task])] 2 (by kernel_rfl) ?_
 refine wk_id ?_
 refine seq_np ?_
 refine reg_f ?_
 refine rs 2 [] [] (by kernel_rfl) allP_nil ?_
 refine rf [(2, .ptr 0 0), (5, .clo 76 [.ptr 1 0])] [(0, .row 57 (Enc.cells p)), (1, .row 3 [iS task])] 2 (by kernel_rfl) ?_
 refine wk_id ?_
 refine seq_cut (A := Bool) (fun a => ([(4, bS a)], [], 0)) (fun a => (pipe_Waits_j1 a) = some r) (fun K568 hK568 => ?_) ?_
 ·refine reg_f ?_
  refine rs 3 [] [] (by kernel_rfl) allP_nil ?_
  obtain ⟨r569, hr569, h⟩ := bind_sx h
  refine call_x (slices_ContainsFunc_Post_spec p.Senders task r569 hr569) (args := [.sl p.Senders.length (fl p.Senders), .clo 76 [.ptr 1 0]]) (dst := (some 10)) (by kernel_rfl) [(0, .row 57 (Enc.cells p)), (1, .row 3 [iS task])] 2 (by kernel_rfl) [] [1] (bS r569) [] (by simp only [push_cast, leL_flD, renL_flD, seval]) (by simp only [push_cast, leL_flD, renL_flD, seval]) (by kernel_rfl) (.inr ⟨by simp only [push_cast, leL_flD, renL_flD, seval], by simp only [push_cast, leL_flD, renL_flD, seval]⟩) (by simp only [push_cast, leL_flD, renL_flD, seval]) (by simp only [push_cast, leL_flD, renL_flD, seval]) ?_
  refine rs 1 [] [] (by kernel_rfl) allP_nil ?_
  refine run_br h 11 (.inl (by kernel_rfl)) (fun g570 h => ?_) (fun g570 h => ?_)
  ·refine rs 6 [] [] (by kernel_rfl) allP_nil ?_
   refine rf [(4, bS true)] [(0, .row 57 (Enc.cells p)), (1, .row 3 [iS task])] 2 (by kernel_rfl) ?_
   exact hK568 (true) _ _ _ h (leSt_m [] [] (by (try simp only [g570]) <;> simp only [push_cast, leL_flD, renL_flD, seval]) (by (try simp only [g570]) <;> simp only [push_cast, leL_flD, renL_flD, seval]) rfl rfl rfl)
  ·refine rs 3 [] [] (by kernel_rfl) allP_nil ?_
   obtain ⟨r571, hr571, h⟩ := bind_sx h
   refine call_x (slices_ContainsFunc_Post_spec p.Getters task r571 hr571) (args := [.sl p.Getters.length (fl p.Getters), .clo 76 [.ptr 1 0]]) (dst := (some 15)) (by kernel_rfl) [(0, .row 57 (Enc.cells p)), (1, .row 3 [iS task])] 2 (by kernel_rfl) [] [1] (bS r571) [] (by simp only [push_cast, leL_flD, renL_flD, seval]) (by simp only [push_cast, leL_flD, renL_flD, seval]) (by kernel_rfl) (.inr ⟨by simp only [push_cast, leL_flD, renL_flD, seval], by simp only [push_cast, leL_flD, renL_flD, seval]⟩) (by simp only [push_cast, leL_flD, renL_flD, seval]) (by simp only [push_cast, leL_flD, renL_flD, seval]) ?_
   refine rs 2 [] [] (by kernel_rfl) allP_nil ?_
   refine rf [(4, bS r571)] [(0, .row 57 (Enc.cells p)), (1, .row 3 [iS task])] 2 (by kernel_rfl) ?_
   exact hK568 (r571) _ _ _ h (leSt_m [] [] (by (try simp only [g570]) <;> simp only [push_cast, leL_flD, renL_flD, seval]) (by (try simp only [g570]) <;> simp only [push_cast, leL_flD, renL_flD, seval]) rfl rfl rfl)
 ·rintro t4q1 h
  try dsimp only at h ⊢
  unfold pipe_Waits_j1 at h
  obtain rfl := Option.some.inj h
  refine ret_at (bS t4q1) (by kernel_rfl) ?_
  exact ret_e [] [] (by simp only [push_cast, leL_flD, renL_flD, seval]) (by simp only [push_cast, leL_flD, renL_flD, seval]) rfl rfl rfl

set_option maxRecDepth 100000 in
set_option maxHeartbeats 200000000 in
theorem pick_hub_waits_1_spec (p : Pipe) (t1 : Int) (r : Bool) (h : pick_hub_waits_1 p t1 = some r) : SpecW Try.prog 68 [.agg (Enc.cells p), .iptr [iS t1] 0] [] 0 (fun x h n => x = bS r ∧ h = [] ∧ n = 0) := by
 unfold pick_hub_waits_1 at h
 refine spec_of (draw_ok _) Try.func68 rfl (by decide) rfl (by kernel_rfl) ?_
 refine seq_np ?_
 refine reg_f ?_
 refine rs 2 [] [] (by kernel_rfl) allP_nil ?_
 refine rf [(1, .iptr [iS t1] 0), (2, .ptr 0 0)] [(0, .row 57 (Enc.cells p))] 1 (by kernel_rfl) ?_
 refine wk_id ?_
 refine seq_np ?_
 refine reg_f ?_
 refine rs 2 [] [] (by kernel_rfl) allP_nil ?_
 obtain ⟨r574, hr574, h⟩ := bind_sx h
 refine run_call 69 [.agg (Enc.cells p), iS t1] (some 6) (by kernel_rfl) ?_
 refine call_0 (pipe_Waits_spec p t1 r574 hr574) (by simp only [push_cast, leL_flD, renL_flD, seval]) (by simp only [push_cast, leL_flD, renL_flD, seval]) ?_
 refine back_f ?_
 refine rs 1 [] [] (by kernel_rfl) allP_nil ?_
 refine rf [(3, bS r574)] [(0, .row 57 (Enc.cells p))] 1 (by kernel_rfl) ?_
 refine wk_id ?_
 obtain rfl := Option.some.inj h
 refine ret_at (bS r574) (by kernel_rfl) ?_
 exact ret_e [] [] (by simp only [push_cast, leL_flD, renL_flD, seval]) (by simp only [push_cast, leL_flD, renL_flD, seval]) rfl rfl rfl

set_option maxRecDepth 100000 in
set_option maxHeartbeats 200000000 in
theorem slices_IndexFunc_Pipe_spec (s : (List Pipe)) (f : Int) (r : Int) (h : slices_IndexFunc_Pipe s f = some r) : SpecW Try.prog 75 [.sl s.length (fl s), .clo 68 [.iptr [iS f] 0]] [] 0 (fun x h n => x = iS r ∧ h = [] ∧ n = 0) := by
 unfold slices_IndexFunc_Pipe at h
 refine spec_of (draw_ok _) Try.func75 rfl (by decide) rfl (by kernel_rfl) ?_
 refine seq_np ?_
 refine reg_f ?_
 refine rs 1 [] [] (by kernel_rfl) allP_nil ?_
 refine rf [(0, .sl s.length (fl s)), (1, .clo 68 [.iptr [iS f] 0])] [] 0 (by kernel_rfl) ?_
 refine wk_id ?_
 refine seq_np ?_
 refine seq_np ?_
 refine reg_f ?_
 refine rs 3 [] [] (by kernel_rfl) allP_nil ?_
 refine rf [(0, .sl s.length (fl s)), (1, .clo 68 [.iptr [iS f] 0]), (7, iS ((s.length : Nat) : Int)), (8, iS 0)] [] 0 (by kernel_rfl) ?_
 refine wk_id ?_
 refine block_np ?_
 refine loop_sx (S := Int) (fun a => ([(0, .sl s.length (fl s)), (1, .clo 68 [.iptr [iS f] 0]), (7, iS ((s.length : Nat) : Int)), (8, iS a)], [], 0)) h (leSt_m [] [] (by simp only [push_cast, leL_flD, renL_flD, seval]) (by simp only [push_cast, leL_flD, renL_flD, seval]) rfl rfl rfl) ?_
 rintro t8q7 o2 R2 h hr2 hn2 hx2 ht2
 try dsimp only at h hn2 ⊢
 unfold slices_IndexFunc_Pipe_l1 at h
 try dsimp only at h
 refine seq_np ?_
 refine reg_f ?_
 refine rs 1 [] [] (by kernel_rfl) allP_nil ?_
 refine rf [(0, .sl s.length (fl s)), (1, .clo 68 [.iptr [iS f] 0]), (7, iS ((s.length : Nat) : Int)), (8, iS t8q7), (9, bS (decide (t8q7 < ((s.length : Nat) : Int))))] [] 0 (by kernel_rfl) ?_
 refine wk_id ?_
 refine seq_np ?_
 refine cond_sx h (by kernel_rfl) (fun g647 h => ?_) (fun g647 h => ?_)
 ·refine wk_id ?_
  refine seq_np ?_
  refine block_np ?_
  refine seq_np ?_
  refine reg_f ?_
  refine rs 2 [] [] (by kernel_rfl) allP_nil ?_
  refine rf [(0, .sl s.length (fl s)), (1, .clo 68 [.iptr [iS f] 0]), (5, iS t8q7), (7, iS ((s.length : Nat) : Int)), (8, iS t8q7)] [] 0 (by kernel_rfl) ?_
  refine wk_id ?_
  refine chk_sx h (fun g644 h => ?_)
  refine seq_np ?_
  refine reg_f ?_
  have k643 : 0 ≤ t8q7 ∧ t8q7 < ((s.length : Nat) : Int) := by first | simpa only [Bool.and_eq_true, decide_eq_true_eq, bne_iff_ne, ne_eq] using g644 | (simp at g644 ⊢; omega)
  refine rs 5 [none, none, none, some ⟨.iptr (fl s) ((t8q7).toNat * 5), [], 0, []⟩, some ⟨.agg (Enc.cells (ix s t8q7)), [], 0, []⟩] _ (by kernel_rfl) (allP_cons (ob_ldw s t8q7 5 ((t8q7).toNat * 5) k643 rfl (by first | rfl | omega) [iS (ix s t8q7).Cap, .sl (ix s t8q7).Items.length (fl (ix s t8q7).Items), bS (ix s t8q7).Closed, .sl (ix s t8q7).Senders.length (fl (ix s t8q7).Senders), .sl (ix s t8q7).Getters.length (fl (ix s t8q7).Getters)] rfl 0 []) (allP_cons (ob_ix_l s 5 0 t8q7 k643) allP_nil)) ?_
  obtain ⟨r645, hr645, h⟩ := bind_sx h
  refine run_call 68 [.agg (Enc.cells (ix s t8q7)), .iptr [iS f] 0] (some 16) (by kernel_rfl) ?_
  refine call_0 (pick_hub_waits_1_spec (ix s t8q7) f r645 hr645) (by simp only [push_cast, leL_flD, renL_flD, seval]) (by simp only [push_cast, leL_flD, renL_flD, seval]) ?_
  refine back_f ?_
  refine rf [(0, .sl s.length (fl s)), (1, .clo 68 [.iptr [iS f] 0]), (5, iS t8q7), (7, iS ((s.length : Nat) : Int)), (8, iS t8q7), (16, bS r645)] [] 0 (by kernel_rfl) ?_
  refine wk_id ?_
  refine cond_sx h (by kernel_rfl) (fun g646 h => ?_) (fun g646 h => ?_)
  ·refine seq_np ?_
   refine reg_f ?_
   refine rs 2 [] [] (by kernel_rfl) allP_nil ?_
   refine rf [(4, iS t8q7)] [] 0 (by kernel_rfl) ?_
   refine wk_id ?_
   refine rt_cast ht2 ?_
   obtain ⟨r0, h, e0⟩ := map_sx h
   have e1 := hr2 r0 e0.symm
   subst r0
   obtain rfl := Option.some.inj h
   refine ret_at (iS t8q7) (by kernel_rfl) ?_
   exact ret_e [] [] (by simp only [push_cast, leL_flD, renL_flD, seval]) (by simp only [push_cast, leL_flD, renL_flD, seval]) rfl rfl rfl
  ·refine wk_id ?_
   refine wk_id ?_
   refine reg_f ?_
   refine rs 2 [] [] (by kernel_rfl) allP_nil ?_
   refine rf [(0, .sl s.length (fl s)), (1, .clo 68 [.iptr [iS f] 0]), (7, iS ((s.length : Nat) : Int)), (8, iS (IntKind.i64.wrap (t8q7 + 1)))] [] 0 (by kernel_rfl) ?_
   exact hn2 ((IntKind.i64.wrap (t8q7 + 1))) _ _ _ (Option.some.inj h).symm (leSt_m [] [] (by simp only [push_cast, leL_flD, renL_flD, seval]) (by simp only [push_cast, leL_flD, renL_flD, seval]) rfl rfl rfl)
 ·change R2 (.exit 0) _ _ _
  refine ex_cast hx2 (id := 0) ?_
  obtain ⟨r0, h, e0⟩ := map_sx h
  have e1 := hr2 r0 e0.symm
  subst r0
  refine wk_id ?_
  refine wk_id ?_
  refine seq_np ?_
  refine reg_f ?_
  refine rs 1 [] [] (by kernel_rfl) allP_nil ?_
  refine rf [(4, iS (-1))] [] 0 (by kernel_rfl) ?_
  refine wk_id ?_
  obtain rfl := Option.some.inj h
  refine ret_at (iS (-1)) (by kernel_rfl) ?_
  exact ret_e [] [] (by simp only [push_cast, leL_flD, renL_flD, seval]) (by simp only [push_cast, leL_flD, renL_flD, seval]) rfl rfl rfl

set_option maxRecDepth 100000 in
set_option maxHeartbeats 200000000 in
theorem slices_ContainsFunc_Pipe_spec (s : (List Pipe)) (f : Int) (r : Bool) (h : slices_ContainsFunc_Pipe s f = some r) : SpecW Try.prog 67 [.sl s.length (fl s), .clo 68 [.iptr [iS f] 0]] [] 0 (fun x h n => x = bS r ∧ h = [] ∧ n = 0) := by
 unfold slices_ContainsFunc_Pipe at h
 refine spec_of (draw_ok _) Try.func67 rfl (by decide) rfl (by kernel_rfl) ?_
 refine seq_np ?_
 refine reg_f ?_
 refine rs 1 [] [] (by kernel_rfl) allP_nil ?_
 refine rf [(0, .sl s.length (fl s)), (1, .clo 68 [.iptr [iS f] 0])] [] 0 (by kernel_rfl) ?_
 refine wk_id ?_
 refine seq_np ?_
 refine reg_f ?_
 refine rs 2 [] [] (by kernel_rfl) allP_nil ?_
 obtain ⟨r650, hr650, h⟩ := bind_sx h
 refine run_call 75 [.sl s.length (fl s), .clo 68 [.iptr [iS f] 0]] (some 7) (by kernel_rfl) ?_
 refine call_0 (slices_IndexFunc_Pipe_spec s f r650 hr650) (by simp only [push_cast, leL_flD, renL_flD, seval]) (by simp only [push_cast, leL_flD, renL_flD, seval]) ?_
 refine back_f ?_
 refine rs 2 [] [] (by kernel_rfl) allP_nil ?_
 refine rf [(4, bS (decide ((0 : Int) ≤ r650)))] [] 0 (by kernel_rfl) ?_
 refine wk_id ?_
 obtain rfl := Option.some.inj h
 refine ret_at (bS (decide ((0 : Int) ≤ r650))) (by kernel_rfl) ?_
 exact ret_e [] [] (by simp only [push_cast, leL_flD, renL_flD, seval]) (by simp only [push_cast, leL_flD, renL_flD, seval]) rfl rfl rfl

set_option maxRecDepth 100000 in
set_option maxHeartbeats 200000000 in
theorem pick_hub_waits_spec (xh : (List Pipe)) (task : Int) (r : Bool) (h : pick_hub_waits xh task = some r) : SpecW Try.prog 55 [.sl xh.length (fl xh), iS task] [] 0 (fun x h n => x = bS r ∧ h = [] ∧ n = 0) := by
 unfold pick_hub_waits at h
 refine spec_of (draw_ok _) Try.func55 rfl (by decide) rfl (by kernel_rfl) ?_
 refine seq_np ?_
 refine reg_f ?_
 refine rs 2 [] [] (by kernel_rfl) allP_nil ?_
 refine rf [(0, .sl xh.length (fl xh)), (3, .ptr 0 0)] [(0, .row 3 [iS task])] 1 (by kernel_rfl) ?_
 refine wk_id ?_
 refine seq_np ?_
 refine reg_f ?_
 refine rs 2 [] [] (by kernel_rfl) allP_nil ?_
 obtain ⟨r653, hr653, h⟩ := bind_sx h
 refine call_x (slices_ContainsFunc_Pipe_spec xh task r653 hr653) (args := [.sl xh.length (fl xh), .clo 68 [.ptr 0 0]]) (dst := (some 7)) (by kernel_rfl) [(0, .row 3 [iS task])] 1 (by kernel_rfl) [] [0] (bS r653) [] (by simp only [push_cast, leL_flD, renL_flD, seval]) (by simp only [push_cast, leL_flD, renL_flD, seval]) (by kernel_rfl) (.inr ⟨by simp only [push_cast, leL_flD, renL_flD, seval], by simp only [push_cast, leL_flD, renL_flD, seval]⟩) (by simp only [push_cast, leL_flD, renL_flD, seval]) (by simp only [push_cast, leL_flD, renL_flD, seval]) ?_
 refine rs 1 [] [] (by kernel_rfl) allP_nil ?_
 refine rf [(4, bS r653)] [(0, .row 3 [iS task])] 1 (by kernel_rfl) ?_
 refine wk_id ?_
 obtain rfl := Option.some.inj h
 refine ret_at (bS r653) (by kernel_rfl) ?_
 exact ret_e [] [] (by simp only [push_cast, leL_flD, renL_flD, seval]) (by simp only [push_cast, leL_flD, renL_flD, seval]) rfl rfl rfl

set_option maxRecDepth 100000 in
set_option maxHeartbeats 200000000 in
def laysSortI_spec_ren : Go.Shelf.Ren := ⟨fun | 189 => 65 | 125 => 72 | 257 => 71 | 128 => 87 | 129 => 88 | 294 => 78 | 295 => 79 | 296 => 80 | 297 => 81 | 298 => 82 | 299 => 83 | 216 => 84 | 300 => 85 | 301 => 86 | 328 => 90 | 329 => 91 | 330 => 92 | 331 => 93 | 332 => 94 | 215 => 95 | 343 => 96 | n => n, fun | 28 => 24 | 3 => 3 | 46 => 109 | 0 => 0 | 51 => 124 | 53 => 126 | 4 => 4 | 183 => 116 | 182 => 115 | 131 => 121 | 5 => 5 | 9 => 9 | 218 => 128 | 222 => 132 | 228 => 134 | 229 => 135 | n => n, fun | n => n⟩
theorem laysSortI_spec : Go.Proofs.Lays.n189 Try.prog laysSortI_spec_ren where
 mixed := by kernel_rfl
 f125 := Try.func72.trans (congrArg some (by kernel_rfl))
 f128 := Try.func87.trans (congrArg some (by kernel_rfl))
 f129 := Try.func88.trans (congrArg some (by kernel_rfl))
 f189 := Try.func65.trans (congrArg some (by kernel_rfl))
 f215 := Try.func95.trans (congrArg some (by kernel_rfl))
 f216 := Try.func84.trans (congrArg some (by kernel_rfl))
 f257 := Try.func71.trans (congrArg some (by kernel_rfl))
 f294 := Try.func78.trans (congrArg some (by kernel_rfl))
 f295 := Try.func79.trans (congrArg some (by kernel_rfl))
 f296 := Try.func80.trans (congrArg some (by kernel_rfl))
 f297 := Try.func81.trans (congrArg some (by kernel_rfl))
 f298 := Try.func82.trans (congrArg some (by kernel_rfl))
 f299 := Try.func83.trans (congrArg some (by kernel_rfl))
 f300 := Try.func85.trans (congrArg some (by kernel_rfl))
 f301 := Try.func86.trans (congrArg some (by kernel_rfl))
 f328 := Try.func90.trans (congrArg some (by kernel_rfl))
 f329 := Try.func91.trans (congrArg some (by kernel_rfl))
 f330 := Try.func92.trans (congrArg some (by kernel_rfl))
 f331 := Try.func93.trans (congrArg some (by kernel_rfl))
 f332 := Try.func94.trans (congrArg some (by kernel_rfl))
 f343 := Try.func96.trans (congrArg some (by kernel_rfl))
 t0 := Try.underlying0
 a0 := Try.isAgg0
 z0 := Try.sizeOf0
 v0 := Try.zeroValue0
 t3 := Try.underlying3
 a3 := Try.isAgg3
 z3 := Try.sizeOf3
 v3 := Try.zeroValue3
 t4 := Try.underlying4
 a4 := Try.isAgg4
 z4 := Try.sizeOf4
 v4 := Try.zeroValue4
 t5 := Try.underlying5
 a5 := Try.isAgg5
 z5 := Try.sizeOf5
 v5 := Try.zeroValue5
 t9 := Try.underlying9
 a9 := Try.isAgg9
 z9 := Try.sizeOf9
 v9 := Try.zeroValue9
 t28 := Try.underlying24
 a28 := Try.isAgg24
 z28 := Try.sizeOf24
 v28 := Try.zeroValue24
 t46 := Try.underlying109
 a46 := Try.isAgg109
 z46 := Try.sizeOf109
 v46 := Try.zeroValue109
 t51 := Try.underlying124
 a51 := Try.isAgg124
 z51 := Try.sizeOf124
 v51 := Try.zeroValue124
 t53 := Try.underlying126
 a53 := Try.isAgg126
 z53 := Try.sizeOf126
 v53 := Try.zeroValue126
 t131 := Try.underlying121
 a131 := Try.isAgg121
 z131 := Try.sizeOf121
 v131 := Try.zeroValue121
 t182 := Try.underlying115
 a182 := Try.isAgg115
 z182 := Try.sizeOf115
 v182 := Try.zeroValue115
 t183 := Try.underlying116
 a183 := Try.isAgg116
 z183 := Try.sizeOf116
 v183 := Try.zeroValue116
 t218 := Try.underlying128
 a218 := Try.isAgg128
 z218 := Try.sizeOf128
 v218 := Try.zeroValue128
 t222 := Try.underlying132
 a222 := Try.isAgg132
 z222 := Try.sizeOf132
 v222 := Try.zeroValue132
 t228 := Try.underlying134
 a228 := Try.isAgg134
 z228 := Try.sizeOf134
 v228 := Try.zeroValue134
 t229 := Try.underlying135
 a229 := Try.isAgg135
 z229 := Try.sizeOf135
 v229 := Try.zeroValue135
set_option maxRecDepth 100000 in
set_option maxHeartbeats 4000000 in
theorem slices_Sort_int_spec (c0 : (List Int)) (r : List Int) (h : slices_Sort_int c0 = some r) : SpecW Try.prog 65 [.own 0 0 c0.length] [(0, .row 3 (fl c0))] 1 (fun x h n => x = .tup [] ∧ h = [(0, .row 3 (fl r))] ∧ n = 1) := by
 unfold slices_Sort_int at h
 obtain ⟨h1, rfl⟩ := bif_some h
 exact sortI_spec (P := Try.prog) (by kernel_rfl) (fn_of Try.func65 (by kernel_rfl) (by kernel_rfl)) (fun b o c zs w hh hb hz => Go.Proofs.Any.slices_Sort_int laysSortI_spec b o c zs w hh hb hz) (fun p c w => Go.Proofs.Any.slices_Sort_int_none laysSortI_spec p c w) c0 h1

set_option maxRecDepth 100000 in
set_option maxHeartbeats 200000000 in
theorem pick_hub_look_spec (xh : (List Pipe)) (task : Int) (cases : (List GCase)) (order : (List Int)) (r : Fault) (h : pick_hub_look xh task cases order = some r) : SpecW Try.prog 45 [.sl xh.length (fl xh), iS task, .sl cases.length (fl cases), .sl order.length (fl order)] [] 0 (fun x h n => x = .agg (Enc.cells r) ∧ h = [] ∧ n = 0) := by
 unfold pick_hub_look at h
 refine spec_of (draw_ok _) Try.func45 rfl (by decide) rfl (by kernel_rfl) ?_
 refine seq_np ?_
 refine reg_f ?_
 refine rs 1 [] [] (by kernel_rfl) allP_nil ?_
 refine rf [(0, .sl xh.length (fl xh)), (1, iS task), (2, .sl cases.length (fl cases)), (3, .sl order.length (fl order)), (8, .ptr 0 0)] [(0, .row 29 [iS 0, iS 0])] 1 (by kernel_rfl) ?_
 refine wk_id ?_
 refine seq_np ?_
 refine seq_np ?_
 refine reg_f ?_
 refine rs 2 [] [] (by kernel_rfl) allP_nil ?_
 refine rf [(0, .sl xh.length (fl xh)), (1, iS task), (2, .sl cases.length (fl cases)), (3, .sl order.length (fl order)), (8, .ptr 0 0), (17, bS (decide (task < 1)))] [(0, .row 29 [iS 0, iS 0])] 1 (by kernel_rfl) ?_
 refine wk_id ?_
 refine cond_sx h (by kernel_rfl) (fun g1051 h => ?_) (fun g1051 h => ?_)
 ·refine seq_np ?_
  refine reg_f ?_
  obtain ⟨r739, hr739, h⟩ := bind_sx h
  refine run_call 42 [iS 3, iS (-1)] (some 18) (by kernel_rfl) ?_
  refine call_0 (pick_fault_spec 3 (-1) r739 hr739) (by simp only [push_cast, leL_flD, renL_flD, seval]) (by simp only [push_cast, leL_flD, renL_flD, seval]) ?_
  refine back_f ?_
  refine rs 1 [] [] (by kernel_rfl) allP_nil ?_
  refine rf [(8, .ptr 0 0)] [(0, .row 29 (Enc.cells r739))] 1 (by kernel_rfl) ?_
  refine wk_id ?_
  obtain rfl := Option.some.inj h
  refine ret_at (.agg (Enc.cells r739)) (by kernel_rfl) ?_
  exact ret_e [] [] (by simp only [push_cast, leL_flD, renL_flD, seval]) (by simp only [push_cast, leL_flD, renL_flD, seval]) rfl rfl rfl
 ·refine wk_id ?_
  refine seq_np ?_
  refine seq_np ?_
  refine reg_f ?_
  refine rs 2 [] [] (by kernel_rfl) allP_nil ?_
  obtain ⟨r744, hr744, h⟩ := bind_sx h
  refine run_call 55 [.sl xh.length (fl xh), iS task] (some 21) (by kernel_rfl) ?_
  refine call_0 (pick_hub_waits_spec xh task r744 hr744) (by simp only [push_cast, leL_flD, renL_flD, seval]) (by simp only [push_cast, leL_flD, renL_flD, seval]) ?_
  refine back_f ?_
  refine rf [(0, .sl xh.length (fl xh)), (2, .sl cases.length (fl cases)), (3, .sl order.length (fl order)), (8, .ptr 0 0), (21, bS r744)] [(0, .row 29 [iS 0, iS 0])] 1 (by kernel_rfl) ?_
  refine wk_id ?_
  refine cond_sx h (by kernel_rfl) (fun g1050 h => ?_) (fun g1050 h => ?_)
  ·refine seq_np ?_
   refine reg_f ?_
   obtain ⟨r746, hr746, h⟩ := bind_sx h
   refine run_call 42 [iS 10, iS (-1)] (some 22) (by kernel_rfl) ?_
   refine call_0 (pick_fault_spec 10 (-1) r746 hr746) (by simp only [push_cast, leL_flD, renL_flD, seval]) (by simp only [push_cast, leL_flD, renL_flD, seval]) ?_
   refine back_f ?_
   refine rs 1 [] [] (by kernel_rfl) allP_nil ?_
   refine rf [(8, .ptr 0 0)] [(0, .row 29 (Enc.cells r746))] 1 (by kernel_rfl) ?_
   refine wk_id ?_
   obtain rfl := Option.some.inj h
   refine ret_at (.agg (Enc.cells r746)) (by kernel_rfl) ?_
   exact ret_e [] [] (by simp only [push_cast, leL_flD, renL_flD, seval]) (by simp only [push_cast, leL_flD, renL_flD, seval]) rfl rfl rfl
  ·refine wk_id ?_
   refine seq_np ?_
   refine seq_np ?_
   refine reg_f ?_
   refine rs 3 [] [] (by kernel_rfl) allP_nil ?_
   refine rf [(0, .sl xh.length (fl xh)), (2, .sl cases.length (fl cases)), (3, .sl order.length (fl order)), (8, .ptr 0 0), (25, bS (decide ((20 : Int) < ((cases.length : Nat) : Int))))] [(0, .row 29 [iS 0, iS 0])] 1 (by kernel_rfl) ?_
   refine wk_id ?_
   refine cond_sx h (by kernel_rfl) (fun g1049 h => ?_) (fun g1049 h => ?_)
   ·refine seq_np ?_
    refine reg_f ?_
    obtain ⟨r750, hr750, h⟩ := bind_sx h
    refine run_call 42 [iS 2, iS (-1)] (some 26) (by kernel_rfl) ?_
    refine call_0 (pick_fault_spec 2 (-1) r750 hr750) (by simp only [push_cast, leL_flD, renL_flD, seval]) (by simp only [push_cast, leL_flD, renL_flD, seval]) ?_
    refine back_f ?_
    refine rs 1 [] [] (by kernel_rfl) allP_nil ?_
    refine rf [(8, .ptr 0 0)] [(0, .row 29 (Enc.cells r750))] 1 (by kernel_rfl) ?_
    refine wk_id ?_
    obtain rfl := Option.some.inj h
    refine ret_at (.agg (Enc.cells r750)) (by kernel_rfl) ?_
    exact ret_e [] [] (by simp only [push_cast, leL_flD, renL_flD, seval]) (by simp only [push_cast, leL_flD, renL_flD, seval]) rfl rfl rfl
   ·refine wk_id ?_
    refine seq_np ?_
    refine reg_f ?_
    refine rs 2 [] [] (by kernel_rfl) allP_nil ?_
    refine rf [(0, .sl xh.length (fl xh)), (2, .sl cases.length (fl cases)), (3, .sl order.length (fl order)), (8, .ptr 0 0), (9, .mp 1)] [(0, .row 29 [iS 0, iS 0]), (1, .map (mi []))] 2 (by kernel_rfl) ?_
    refine wk_id ?_
    refine seq_np ?_
    refine seq_np ?_
    refine reg_f ?_
    refine rs 3 [] [] (by kernel_rfl) allP_nil ?_
    refine rf [(0, .sl xh.length (fl xh)), (2, .sl cases.length (fl cases)), (3, .sl order.length (fl order)), (8, .ptr 0 0), (9, .mp 1), (28, .sl cases.length (fl cases)), (29, iS ((cases.length : Nat) : Int)), (30, iS 0)] [(0, .row 29 [iS 0, iS 0]), (1, .map (mi []))] 2 (by kernel_rfl) ?_
    refine wk_id ?_
    refine block_np ?_
    refine loop_sx (S := Int × (List (Int × Int))) (fun a => ([(0, .sl xh.length (fl xh)), (2, .sl cases.length (fl cases)), (3, .sl order.length (fl order)), (8, .ptr 0 0), (9, .mp 1), (28, .sl cases.length (fl cases)), (29, iS ((cases.length : Nat) : Int)), (30, iS a.1)], [(0, .row 29 [iS 0, iS 0]), (1, .map (mi a.2))], 2)) h (leSt_m [(0, 0), (1, 1)] [] (by simp only [push_cast, leL_flD, renL_flD, seval]) (by simp only [push_cast, leL_flD, renL_flD, seval]) rfl rfl rfl) ?_
    rintro ⟨t30q7, c1q21⟩ o3 R3 h hr3 hn3 hx3 ht3
    try dsimp only at h hn3 ⊢
    unfold pick_hub_look_l2 at h
    try dsimp only at h
    refine seq_np ?_
    refine reg_f ?_
    refine rs 1 [] [] (by kernel_rfl) allP_nil ?_
    refine rf [(0, .sl xh.length (fl xh)), (2, .sl cases.length (fl cases)), (3, .sl order.length (fl order)), (8, .ptr 0 0), (9, .mp 1), (28, .sl cases.length (fl cases)), (29, iS ((cases.length : Nat) : Int)), (30, iS t30q7), (31, bS (decide (t30q7 < ((cases.length : Nat) : Int))))] [(0, .row 29 [iS 0, iS 0]), (1, .map (mi c1q21))] 2 (by kernel_rfl) ?_
    refine wk_id ?_
    refine seq_np ?_
    refine cond_sx h (by kernel_rfl) (fun g1048 h => ?_) (fun g1048 h => ?_)
    ·refine wk_id ?_
     refine seq_np ?_
     refine block_np ?_
     refine chk_sx h (fun g936 h => ?_)
     refine seq_np ?_
     refine reg_f ?_
     have k935 : 0 ≤ t30q7 ∧ t30q7 < ((cases.length : Nat) : Int) := by first | simpa only [Bool.and_eq_true, decide_eq_true_eq, bne_iff_ne, ne_eq] using g936 | (simp at g936 ⊢; omega)
     refine rs 6 [none, some ⟨.iptr (fl cases) ((t30q7).toNat * 3), [], 2, []⟩, some ⟨.agg (Enc.cells (ix cases t30q7)), [], 2, []⟩] _ (by kernel_rfl) (allP_cons (ob_ldw cases t30q7 3 ((t30q7).toNat * 3) k935 rfl (by first | rfl | omega) [iS (ix cases t30q7).Pipe, bS (ix cases t30q7).Send, iS (ix cases t30q7).Value] rfl 2 []) (allP_cons (ob_ix_l cases 3 2 t30q7 k935) allP_nil)) ?_
     refine rf [(0, .sl xh.length (fl xh)), (2, .sl cases.length (fl cases)), (3, .sl order.length (fl order)), (8, .ptr 0 0), (9, .mp 1), (10, iS t30q7), (11, .ptr 2 0), (28, .sl cases.length (fl cases)), (29, iS ((cases.length : Nat) : Int)), (30, iS t30q7)] [(0, .row 29 [iS 0, iS 0]), (1, .map (mi c1q21)), (2, .row 49 (Enc.cells (ix cases t30q7)))] 3 (by kernel_rfl) ?_
     refine wk_id ?_
     refine block_cut (A := (List (Int × Int))) (fun a => ([(0, .sl xh.length (fl xh)), (2, .sl cases.length (fl cases)), (3, .sl order.length (fl order)), (8, .ptr 0 0), (9, .mp 1), (28, .sl cases.length (fl cases)), (29, iS ((cases.length : Nat) : Int)), (30, iS t30q7)], [(0, .row 29 [iS 0, iS 0]), (1, .map (mi a))], 2)) (fun a => (pick_hub_look_j1 xh cases order t30q7 a) = some o3) (fun K951 hK951 => ?_) ?_
     ·refine seq_cut (A := Unit) (fun _ => ([(0, .sl xh.length (fl xh)), (2, .sl cases.length (fl cases)), (3, .sl order.length (fl order)), (8, .ptr 0 0), (9, .mp 1), (10, iS t30q7), (11, .ptr 2 0), (28, .sl cases.length (fl cases)), (29, iS ((cases.length : Nat) : Int)), (30, iS t30q7), (35, bS ((decide ((ix cases t30q7).Pipe < (-1))) || (decide (((xh.length : Nat) : Int) ≤ (ix cases t30q7).Pipe))))], [(0, .row 29 [iS 0, iS 0]), (1, .map (mi c1q21)), (2, .row 49 (Enc.cells (ix cases t30q7)))], 3)) (fun _ => True) (fun K953 hK953 => ?_) (fun _ _ => ?_)
      ·refine reg_f ?_
       refine rs 4 [] [] (by kernel_rfl) allP_nil ?_
       refine run_split 39 (decide ((ix cases t30q7).Pipe < (-1))) (.inl (by kernel_rfl)) (fun g954 => ?_) (fun g954 => ?_)
       ·refine rs 7 [] [] (by kernel_rfl) allP_nil ?_
        refine rf [(0, .sl xh.length (fl xh)), (2, .sl cases.length (fl cases)), (3, .sl order.length (fl order)), (8, .ptr 0 0), (9, .mp 1), (10, iS t30q7), (11, .ptr 2 0), (28, .sl cases.length (fl cases)), (29, iS ((cases.length : Nat) : Int)), (30, iS t30q7), (35, bS true)] [(0, .row 29 [iS 0, iS 0]), (1, .map (mi c1q21)), (2, .row 49 (Enc.cells (ix cases t30q7)))] 3 (by kernel_rfl) ?_
        exact hK953 () _ _ _ trivial (leSt_m [(0, 0), (1, 1), (2, 2)] [] (by (try simp only [g954]) <;> simp only [push_cast, leL_flD, renL_flD, seval]) (by (try simp only [g954]) <;> simp only [push_cast, leL_flD, renL_flD, seval]) rfl rfl rfl)
       ·refine rs 7 [] [] (by kernel_rfl) allP_nil ?_
        refine rf [(0, .sl xh.length (fl xh)), (2, .sl cases.length (fl cases)), (3, .sl order.length (fl order)), (8, .ptr 0 0), (9, .mp 1), (10, iS t30q7), (11, .ptr 2 0), (28, .sl cases.length (fl cases)), (29, iS ((cases.length : Nat) : Int)), (30, iS t30q7), (35, bS (decide (((xh.length : Nat) : Int) ≤ (ix cases t30q7).Pipe)))] [(0, .row 29 [iS 0, iS 0]), (1, .map (mi c1q21)), (2, .row 49 (Enc.cells (ix cases t30q7)))] 3 (by kernel_rfl) ?_
        exact hK953 () _ _ _ trivial (leSt_m [(0, 0), (1, 1), (2, 2)] [] (by (try simp only [g954]) <;> simp only [push_cast, leL_flD, renL_flD, seval]) (by (try simp only [g954]) <;> simp only [push_cast, leL_flD, renL_flD, seval]) rfl rfl rfl)
      ·dsimp only
       refine cond_sx h (by kernel_rfl) (fun g974 h => ?_) (fun g974 h => ?_)
       ·refine seq_np ?_
        refine reg_f ?_
        refine rs 1 [] [] (by kernel_rfl) allP_nil ?_
        obtain ⟨r956, hr956, h⟩ := bind_sx h
        refine run_call 42 [iS 3, iS t30q7] (some 47) (by kernel_rfl) ?_
        refine call_0 (pick_fault_spec 3 t30q7 r956 hr956) (by simp only [push_cast, leL_flD, renL_flD, seval]) (by simp only [push_cast, leL_flD, renL_flD, seval]) ?_
        refine back_f ?_
        refine rs 1 [] [] (by kernel_rfl) allP_nil ?_
        refine rf [(8, .ptr 0 0)] [(0, .row 29 (Enc.cells r956)), (1, .map (mi c1q21)), (2, .row 49 (Enc.cells (ix cases t30q7)))] 3 (by kernel_rfl) ?_
        refine wk_id ?_
        refine rt_cast ht3 ?_
        obtain ⟨r0, h, e0⟩ := map_sx h
        have e1 := hr3 r0 e0.symm
        subst r0
        obtain rfl := Option.some.inj h
        refine ret_at (.agg (Enc.cells r956)) (by kernel_rfl) ?_
        exact ret_e [] [] (by simp only [push_cast, leL_flD, renL_flD, seval]) (by simp only [push_cast, leL_flD, renL_flD, seval]) rfl rfl rfl
       ·refine seq_np ?_
        refine reg_f ?_
        refine rs 6 [none, none, none, some ⟨iS (miGet c1q21 (ix cases t30q7).Pipe), [], 3, [1]⟩] _ (by kernel_rfl) (allP_cons (ob_look (.int .i64) rfl (ix cases t30q7).Pipe c1q21 1 3) allP_nil) ?_
        refine rf [(0, .sl xh.length (fl xh)), (2, .sl cases.length (fl cases)), (3, .sl order.length (fl order)), (8, .ptr 0 0), (9, .mp 1), (10, iS t30q7), (11, .ptr 2 0), (28, .sl cases.length (fl cases)), (29, iS ((cases.length : Nat) : Int)), (30, iS t30q7), (48, bS (decide ((0 : Int) < (miGet c1q21 (ix cases t30q7).Pipe))))] [(0, .row 29 [iS 0, iS 0]), (1, .map (mi c1q21)), (2, .row 49 (Enc.cells (ix cases t30q7)))] 3 (by kernel_rfl) ?_
        refine wk_id ?_
        refine cond_sx h (by kernel_rfl) (fun g973 h => ?_) (fun g973 h => ?_)
        ·refine seq_np ?_
         refine reg_f ?_
         refine rs 1 [] [] (by kernel_rfl) allP_nil ?_
         obtain ⟨r958, hr958, h⟩ := bind_sx h
         refine run_call 42 [iS 10, iS t30q7] (some 55) (by kernel_rfl) ?_
         refine call_0 (pick_fault_spec 10 t30q7 r958 hr958) (by simp only [push_cast, leL_flD, renL_flD, seval]) (by simp only [push_cast, leL_flD, renL_flD, seval]) ?_
         refine back_f ?_
         refine rs 1 [] [] (by kernel_rfl) allP_nil ?_
         refine rf [(8, .ptr 0 0)] [(0, .row 29 (Enc.cells r958)), (1, .map (mi c1q21)), (2, .row 49 (Enc.cells (ix cases t30q7)))] 3 (by kernel_rfl) ?_
         refine wk_id ?_
         refine rt_cast ht3 ?_
         obtain ⟨r0, h, e0⟩ := map_sx h
         have e1 := hr3 r0 e0.symm
         subst r0
         obtain rfl := Option.some.inj h
         refine ret_at (.agg (Enc.cells r958)) (by kernel_rfl) ?_
         exact ret_e [] [] (by simp only [push_cast, leL_flD, renL_flD, seval]) (by simp only [push_cast, leL_flD, renL_flD, seval]) rfl rfl rfl
        ·refine seq_cut (A := Unit) (fun _ => ([(0, .sl xh.length (fl xh)), (2, .sl cases.length (fl cases)), (3, .sl order.length (fl order)), (8, .ptr 0 0), (9, .mp 1), (10, iS t30q7), (11, .ptr 2 0), (28, .sl cases.length (fl cases)), (29, iS ((cases.length : Nat) : Int)), (30, iS t30q7), (56, bS ((!(ix cases t30q7).Send) && ((ix cases t30q7).Value != 0)))], [(0, .row 29 [iS 0, iS 0]), (1, .map (mi c1q21)), (2, .row 49 (Enc.cells (ix cases t30q7)))], 3)) (fun _ => True) (fun K960 hK960 => ?_) (fun _ _ => ?_)
         ·refine reg_f ?_
          refine rs 4 [] [] (by kernel_rfl) allP_nil ?_
          refine run_split 60 (!(ix cases t30q7).Send) (.inl (by kernel_rfl)) (fun g961 => ?_) (fun g961 => ?_)
          ·refine rs 5 [] [] (by kernel_rfl) allP_nil ?_
           refine rf [(0, .sl xh.length (fl xh)), (2, .sl cases.length (fl cases)), (3, .sl order.length (fl order)), (8, .ptr 0 0), (9, .mp 1), (10, iS t30q7), (11, .ptr 2 0), (28, .sl cases.length (fl cases)), (29, iS ((cases.length : Nat) : Int)), (30, iS t30q7), (56, bS ((ix cases t30q7).Value != 0))] [(0, .row 29 [iS 0, iS 0]), (1, .map (mi c1q21)), (2, .row 49 (Enc.cells (ix cases t30q7)))] 3 (by kernel_rfl) ?_
           exact hK960 () _ _ _ trivial (leSt_m [(0, 0), (1, 1), (2, 2)] [] (by (try simp only [g961]) <;> simp only [push_cast, leL_flD, renL_flD, seval]) (by (try simp only [g961]) <;> simp only [push_cast, leL_flD, renL_flD, seval]) rfl rfl rfl)
          ·refine rs 5 [] [] (by kernel_rfl) allP_nil ?_
           refine rf [(0, .sl xh.length (fl xh)), (2, .sl cases.length (fl cases)), (3, .sl order.length (fl order)), (8, .ptr 0 0), (9, .mp 1), (10, iS t30q7), (11, .ptr 2 0), (28, .sl cases.length (fl cases)), (29, iS ((cases.length : Nat) : Int)), (30, iS t30q7), (56, bS false)] [(0, .row 29 [iS 0, iS 0]), (1, .map (mi c1q21)), (2, .row 49 (Enc.cells (ix cases t30q7)))] 3 (by kernel_rfl) ?_
           exact hK960 () _ _ _ trivial (leSt_m [(0, 0), (1, 1), (2, 2)] [] (by (try simp only [g961]) <;> simp only [push_cast, leL_flD, renL_flD, seval]) (by (try simp only [g961]) <;> simp only [push_cast, leL_flD, renL_flD, seval]) rfl rfl rfl)
         ·dsimp only
          refine cond_sx h (by kernel_rfl) (fun g972 h => ?_) (fun g972 h => ?_)
          ·refine seq_np ?_
           refine reg_f ?_
           refine rs 1 [] [] (by kernel_rfl) allP_nil ?_
           obtain ⟨r963, hr963, h⟩ := bind_sx h
           refine run_call 42 [iS 5, iS t30q7] (some 66) (by kernel_rfl) ?_
           refine call_0 (pick_fault_spec 5 t30q7 r963 hr963) (by simp only [push_cast, leL_flD, renL_flD, seval]) (by simp only [push_cast, leL_flD, renL_flD, seval]) ?_
           refine back_f ?_
           refine rs 1 [] [] (by kernel_rfl) allP_nil ?_
           refine rf [(8, .ptr 0 0)] [(0, .row 29 (Enc.cells r963)), (1, .map (mi c1q21)), (2, .row 49 (Enc.cells (ix cases t30q7)))] 3 (by kernel_rfl) ?_
           refine wk_id ?_
           refine rt_cast ht3 ?_
           obtain ⟨r0, h, e0⟩ := map_sx h
           have e1 := hr3 r0 e0.symm
           subst r0
           obtain rfl := Option.some.inj h
           refine ret_at (.agg (Enc.cells r963)) (by kernel_rfl) ?_
           exact ret_e [] [] (by simp only [push_cast, leL_flD, renL_flD, seval]) (by simp only [push_cast, leL_flD, renL_flD, seval]) rfl rfl rfl
          ·refine seq_np ?_
           refine reg_f ?_
           refine rs 4 [] [] (by kernel_rfl) allP_nil ?_
           refine rf [(0, .sl xh.length (fl xh)), (2, .sl cases.length (fl cases)), (3, .sl order.length (fl order)), (8, .ptr 0 0), (9, .mp 1), (10, iS t30q7), (11, .ptr 2 0), (28, .sl cases.length (fl cases)), (29, iS ((cases.length : Nat) : Int)), (30, iS t30q7), (67, bS (decide ((0 : Int) ≤ (ix cases t30q7).Pipe)))] [(0, .row 29 [iS 0, iS 0]), (1, .map (mi c1q21)), (2, .row 49 (Enc.cells (ix cases t30q7)))] 3 (by kernel_rfl) ?_
           refine wk_id ?_
           refine cond_sx h (by kernel_rfl) (fun g971 h => ?_) (fun g971 h => ?_)
           ·refine seq_np ?_
            refine reg_f ?_
            refine rs 4 [none, none, none, some ⟨.any, [(1, .map (mi (miSet c1q21 (ix cases t30q7).Pipe 1)))], 3, [1]⟩] _ (by kernel_rfl) (allP_cons (ob_mset (.int .i64) rfl (ix cases t30q7).Pipe 1 c1q21 1 3) allP_nil) ?_
            refine rf [(0, .sl xh.length (fl xh)), (2, .sl cases.length (fl cases)), (3, .sl order.length (fl order)), (8, .ptr 0 0), (9, .mp 1), (10, iS t30q7), (11, .ptr 2 0), (28, .sl cases.length (fl cases)), (29, iS ((cases.length : Nat) : Int)), (30, iS t30q7)] [(0, .row 29 [iS 0, iS 0]), (1, .map (mi (miSet c1q21 (ix cases t30q7).Pipe 1))), (2, .row 49 (Enc.cells (ix cases t30q7)))] 3 (by kernel_rfl) ?_
            refine wk_id ?_
            refine chk_sx h (fun g967 h => ?_)
            refine seq_np ?_
            refine reg_f ?_
            have k966 : 0 ≤ (ix cases t30q7).Pipe ∧ (ix cases t30q7).Pipe < ((xh.length : Nat) : Int) := by first | simpa only [Bool.and_eq_true, decide_eq_true_eq, bne_iff_ne, ne_eq] using g967 | (simp at g967 ⊢; omega)
            refine rs 7 [none, none, none, some ⟨.iptr (fl xh) (((ix cases t30q7).Pipe).toNat * 5), [], 3, []⟩, some ⟨.agg (Enc.cells (ix xh (ix cases t30q7).Pipe)), [], 3, []⟩] _ (by kernel_rfl) (allP_cons (ob_ldw xh (ix cases t30q7).Pipe 5 (((ix cases t30q7).Pipe).toNat * 5) k966 rfl (by first | rfl | omega) [iS (ix xh (ix cases t30q7).Pipe).Cap, .sl (ix xh (ix cases t30q7).Pipe).Items.length (fl (ix xh (ix cases t30q7).Pipe).Items), bS (ix xh (ix cases t30q7).Pipe).Closed, .sl (ix xh (ix cases t30q7).Pipe).Senders.length (fl (ix xh (ix cases t30q7).Pipe).Senders), .sl (ix xh (ix cases t30q7).Pipe).Getters.length (fl (ix xh (ix cases t30q7).Pipe).Getters)] rfl 3 []) (allP_cons (ob_ix_l xh 5 3 (ix cases t30q7).Pipe k966) allP_nil)) ?_
            refine rf [(0, .sl xh.length (fl xh)), (2, .sl cases.length (fl cases)), (3, .sl order.length (fl order)), (8, .ptr 0 0), (9, .mp 1), (10, iS t30q7), (12, .ptr 3 0), (28, .sl cases.length (fl cases)), (29, iS ((cases.length : Nat) : Int)), (30, iS t30q7)] [(0, .row 29 [iS 0, iS 0]), (1, .map (mi (miSet c1q21 (ix cases t30q7).Pipe 1))), (2, .row 49 (Enc.cells (ix cases t30q7))), (3, .row 57 (Enc.cells (ix xh (ix cases t30q7).Pipe)))] 4 (by kernel_rfl) ?_
            refine wk_id ?_
            refine seq_np ?_
            refine reg_f ?_
            refine rs 12 [] [] (by kernel_rfl) allP_nil ?_
            refine rf [(0, .sl xh.length (fl xh)), (2, .sl cases.length (fl cases)), (3, .sl order.length (fl order)), (8, .ptr 0 0), (9, .mp 1), (10, iS t30q7), (28, .sl cases.length (fl cases)), (29, iS ((cases.length : Nat) : Int)), (30, iS t30q7), (90, bS ((IntKind.i64.wrap ((IntKind.i64.wrap ((((ix xh (ix cases t30q7).Pipe).Items.length : Nat) : Int) + (((ix xh (ix cases t30q7).Pipe).Senders.length : Nat) : Int))) + (((ix xh (ix cases t30q7).Pipe).Getters.length : Nat) : Int))) == 5000))] [(0, .row 29 [iS 0, iS 0]), (1, .map (mi (miSet c1q21 (ix cases t30q7).Pipe 1))), (2, .row 49 (Enc.cells (ix cases t30q7))), (3, .row 57 (Enc.cells (ix xh (ix cases t30q7).Pipe)))] 4 (by kernel_rfl) ?_
            refine wk_id ?_
            refine cond_sx h (by kernel_rfl) (fun g970 h => ?_) (fun g970 h => ?_)
            ·refine seq_np ?_
             refine reg_f ?_
             refine rs 1 [] [] (by kernel_rfl) allP_nil ?_
             obtain ⟨r969, hr969, h⟩ := bind_sx h
             refine run_call 42 [iS 9, iS t30q7] (some 92) (by kernel_rfl) ?_
             refine call_0 (pick_fault_spec 9 t30q7 r969 hr969) (by simp only [push_cast, leL_flD, renL_flD, seval]) (by simp only [push_cast, leL_flD, renL_flD, seval]) ?_
             refine back_f ?_
             refine rs 1 [] [] (by kernel_rfl) allP_nil ?_
             refine rf [(8, .ptr 0 0)] [(0, .row 29 (Enc.cells r969)), (1, .map (mi (miSet c1q21 (ix cases t30q7).Pipe 1))), (2, .row 49 (Enc.cells (ix cases t30q7))), (3, .row 57 (Enc.cells (ix xh (ix cases t30q7).Pipe)))] 4 (by kernel_rfl) ?_
             refine wk_id ?_
             refine rt_cast ht3 ?_
             obtain ⟨r0, h, e0⟩ := map_sx h
             have e1 := hr3 r0 e0.symm
             subst r0
             obtain rfl := Option.some.inj h
             refine ret_at (.agg (Enc.cells r969)) (by kernel_rfl) ?_
             exact ret_e [] [] (by simp only [push_cast, leL_flD, renL_flD, seval]) (by simp only [push_cast, leL_flD, renL_flD, seval]) rfl rfl rfl
            ·exact hK951 ((miSet c1q21 (ix cases t30q7).Pipe 1)) _ _ _ h (leSt_m [(0, 0), (1, 1)] [] (by simp only [push_cast, leL_flD, renL_flD, seval]) (by simp only [push_cast, leL_flD, renL_flD, seval]) rfl rfl rfl)
           ·exact hK951 (c1q21) _ _ _ h (leSt_m [(0, 0), (1, 1)] [] (by simp only [push_cast, leL_flD, renL_flD, seval]) (by simp only [push_cast, leL_flD, renL_flD, seval]) rfl rfl rfl)
     ·rintro c1q24 h
      try dsimp only at h ⊢
      unfold pick_hub_look_j1 at h
      refine wk_id ?_
      refine wk_id ?_
      refine reg_f ?_
      refine rs 2 [] [] (by kernel_rfl) allP_nil ?_
      refine rf [(0, .sl xh.length (fl xh)), (2, .sl cases.length (fl cases)), (3, .sl order.length (fl order)), (8, .ptr 0 0), (9, .mp 1), (28, .sl cases.length (fl cases)), (29, iS ((cases.length : Nat) : Int)), (30, iS (IntKind.i64.wrap (t30q7 + 1)))] [(0, .row 29 [iS 0, iS 0]), (1, .map (mi c1q24))] 2 (by kernel_rfl) ?_
      exact hn3 ((IntKind.i64.wrap (t30q7 + 1)), c1q24) _ _ _ (Option.some.inj h).symm (leSt_m [(0, 0), (1, 1)] [] (by simp only [push_cast, leL_flD, renL_flD, seval]) (by simp only [push_cast, leL_flD, renL_flD, seval]) rfl rfl rfl)
    ·change R3 (.exit 0) _ _ _
     refine ex_cast hx3 (id := 0) ?_
     obtain ⟨r0, h, e0⟩ := map_sx h
     have e1 := hr3 r0 e0.symm
     subst r0
     refine wk_id ?_
     refine wk_id ?_
     refine seq_np ?_
     refine reg_f ?_
     refine rs 1 [] [] (by kernel_rfl) allP_nil ?_
     obtain ⟨r976, hr976, h⟩ := bind_sx h
     refine call_x (slices_Clone_int_spec order r976 hr976) (args := [.sl order.length (fl order)]) (dst := (some 95)) (by kernel_rfl) [(0, .row 29 [iS 0, iS 0]), (1, .map (mi c1q21))] 2 (by kernel_rfl) [] [] (.own 2 0 r976.length) [(2, .row 3 (fl r976))] (by simp only [push_cast, leL_flD, renL_flD, seval]) (by simp only [push_cast, leL_flD, renL_flD, seval]) (by kernel_rfl) (.inl rfl) (by simp only [push_cast, leL_flD, renL_flD, seval]) (by simp only [push_cast, leL_flD, renL_flD, seval]) ?_
     refine rs 1 [] [] (by kernel_rfl) allP_nil ?_
     refine rf [(2, .sl cases.length (fl cases)), (3, .sl order.length (fl order)), (8, .ptr 0 0), (13, .own 2 0 r976.length)] [(0, .row 29 [iS 0, iS 0]), (1, .map (mi c1q21)), (2, .row 3 (fl r976))] 3 (by kernel_rfl) ?_
     refine wk_id ?_
     refine seq_np ?_
     refine reg_f ?_
     refine rs 1 [] [] (by kernel_rfl) allP_nil ?_
     obtain ⟨r980, hr980, h⟩ := bind_sx h
     refine call_x (slices_Sort_int_spec r976 r980 hr980) (args := [.own 2 0 r976.length]) (dst := (some 97)) (by kernel_rfl) [(0, .row 29 [iS 0, iS 0]), (1, .map (mi c1q21)), (2, .row 3 (fl r976))] 3 (by kernel_rfl) [(0, 2)] [] (.tup []) [(2, .row 3 (fl r980)), (2, .dead)] (by simp only [push_cast, leL_flD, renL_flD, seval]) (by simp only [push_cast, leL_flD, renL_flD, seval]) (by kernel_rfl) (.inl rfl) (by simp only [push_cast, leL_flD, renL_flD, seval]) (by simp only [push_cast, leL_flD, renL_flD, seval]) ?_
     refine chk_sx h (fun g982 h => ?_)
     have e981 : r976.length = r980.length := (of_decide_eq_true g982).symm
     refine run_eqF 13 (.own 2 0 r976.length) (.own 2 0 r980.length) (congrArg (fun nq => (.own 2 0 nq : SV)) (show r976.length = r980.length from e981)) (by kernel_rfl) ?_
     refine rf [(2, .sl cases.length (fl cases)), (3, .sl order.length (fl order)), (8, .ptr 0 0), (13, .own 2 0 r980.length)] [(0, .row 29 [iS 0, iS 0]), (1, .map (mi c1q21)), (2, .row 3 (fl r980))] 4 (by kernel_rfl) ?_
     refine wk_id ?_
     refine seq_np ?_
     refine seq_np ?_
     refine reg_f ?_
     refine rs 3 [] [] (by kernel_rfl) allP_nil ?_
     refine rf [(2, .sl cases.length (fl cases)), (3, .sl order.length (fl order)), (8, .ptr 0 0), (98, .own 2 0 r980.length), (99, iS ((r980.length : Nat) : Int)), (100, iS 0)] [(0, .row 29 [iS 0, iS 0]), (1, .map (mi c1q21)), (2, .row 3 (fl r980))] 4 (by kernel_rfl) ?_
     refine wk_id ?_
     refine block_np ?_
     refine loop_sx (S := Int × Int × (List Int)) (fun a => ([(2, .sl cases.length (fl cases)), (3, .sl order.length (fl order)), (8, .ptr 0 0), (98, .own 1 0 a.2.2.length), (99, iS a.1), (100, iS a.2.1)], [(0, .row 29 [iS 0, iS 0]), (1, .row 3 (fl a.2.2))], 2)) h (leSt_m [(0, 0), (1, 2)] [] (by simp only [push_cast, leL_flD, renL_flD, seval]) (by simp only [push_cast, leL_flD, renL_flD, seval]) rfl rfl rfl) ?_
     rintro ⟨t99q11, t100q7, c1q33⟩ o4 R4 h hr4 hn4 hx4 ht4
     try dsimp only at h hn4 ⊢
     unfold pick_hub_look_l1 at h
     try dsimp only at h
     refine seq_np ?_
     refine reg_f ?_
     refine rs 1 [] [] (by kernel_rfl) allP_nil ?_
     refine rf [(2, .sl cases.length (fl cases)), (3, .sl order.length (fl order)), (8, .ptr 0 0), (98, .own 1 0 c1q33.length), (99, iS t99q11), (100, iS t100q7), (101, bS (decide (t100q7 < t99q11)))] [(0, .row 29 [iS 0, iS 0]), (1, .row 3 (fl c1q33))] 2 (by kernel_rfl) ?_
     refine wk_id ?_
     refine seq_np ?_
     refine cond_sx h (by kernel_rfl) (fun g1047 h => ?_) (fun g1047 h => ?_)
     ·refine wk_id ?_
      refine seq_np ?_
      refine block_np ?_
      refine chk_sx h (fun g1038 h => ?_)
      refine seq_np ?_
      refine reg_f ?_
      have k1037 : 0 ≤ t100q7 ∧ t100q7 < ((c1q33.length : Nat) : Int) := by first | simpa only [Bool.and_eq_true, decide_eq_true_eq, bne_iff_ne, ne_eq] using g1038 | (simp at g1038 ⊢; omega)
      refine rs 5 [none, some ⟨.ptr 1 (0 + (t100q7).toNat * 1), [], 2, [1]⟩, some ⟨iS (ix c1q33 t100q7), [], 2, [1]⟩] _ (by kernel_rfl) (allP_cons (ob_ld c1q33 t100q7 1 0 (0 + (t100q7).toNat * 1) k1037 rfl (by decide) (by first | rfl | omega) (dflS Try.prog 3) (iS (ix c1q33 t100q7)) rfl 2 [1]) (allP_cons (ob_ix_o 1 c1q33.length 0 1 2 t100q7 k1037) allP_nil)) ?_
      refine rf [(2, .sl cases.length (fl cases)), (3, .sl order.length (fl order)), (8, .ptr 0 0), (14, iS t100q7), (15, iS (ix c1q33 t100q7)), (98, .own 1 0 c1q33.length), (99, iS t99q11), (100, iS t100q7)] [(0, .row 29 [iS 0, iS 0]), (1, .row 3 (fl c1q33))] 2 (by kernel_rfl) ?_
      refine wk_id ?_
      refine seq_np ?_
      refine reg_f ?_
      refine rs 3 [] [] (by kernel_rfl) allP_nil ?_
      refine rf [(2, .sl cases.length (fl cases)), (3, .sl order.length (fl order)), (8, .ptr 0 0), (98, .own 1 0 c1q33.length), (99, iS t99q11), (100, iS t100q7), (107, bS (t100q7 != (ix c1q33 t100q7)))] [(0, .row 29 [iS 0, iS 0]), (1, .row 3 (fl c1q33))] 2 (by kernel_rfl) ?_
      refine wk_id ?_
      refine cond_sx h (by kernel_rfl) (fun g1041 h => ?_) (fun g1041 h => ?_)
      ·refine seq_np ?_
       refine reg_f ?_
       obtain ⟨r1040, hr1040, h⟩ := bind_sx h
       refine run_call 42 [iS 8, iS (-1)] (some 108) (by kernel_rfl) ?_
       refine call_0 (pick_fault_spec 8 (-1) r1040 hr1040) (by simp only [push_cast, leL_flD, renL_flD, seval]) (by simp only [push_cast, leL_flD, renL_flD, seval]) ?_
       refine back_f ?_
       refine rs 1 [] [] (by kernel_rfl) allP_nil ?_
       refine rf [(8, .ptr 0 0)] [(0, .row 29 (Enc.cells r1040)), (1, .row 3 (fl c1q33))] 2 (by kernel_rfl) ?_
       refine wk_id ?_
       refine rt_cast ht4 ?_
       obtain ⟨r0, h, e0⟩ := map_sx h
       have e1 := hr4 r0 e0.symm
       subst r0
       obtain rfl := Option.some.inj h
       refine ret_at (.agg (Enc.cells r1040)) (by kernel_rfl) ?_
       exact ret_e [] [] (by simp only [push_cast, leL_flD, renL_flD, seval]) (by simp only [push_cast, leL_flD, renL_flD, seval]) rfl rfl rfl
      ·refine wk_id ?_
       refine wk_id ?_
       refine reg_f ?_
       refine rs 2 [] [] (by kernel_rfl) allP_nil ?_
       refine rf [(2, .sl cases.length (fl cases)), (3, .sl order.length (fl order)), (8, .ptr 0 0), (98, .own 1 0 c1q33.length), (99, iS t99q11), (100, iS (IntKind.i64.wrap (t100q7 + 1)))] [(0, .row 29 [iS 0, iS 0]), (1, .row 3 (fl c1q33))] 2 (by kernel_rfl) ?_
       exact hn4 (t99q11, (IntKind.i64.wrap (t100q7 + 1)), c1q33) _ _ _ (Option.some.inj h).symm (leSt_m [(0, 0), (1, 1)] [] (by simp only [push_cast, leL_flD, renL_flD, seval]) (by simp only [push_cast, leL_flD, renL_flD, seval]) rfl rfl rfl)
     ·change R4 (.exit 3) _ _ _
      refine ex_cast hx4 (id := 3) ?_
      obtain ⟨r0, h, e0⟩ := map_sx h
      have e1 := hr4 r0 e0.symm
      subst r0
      refine wk_id ?_
      refine wk_id ?_
      refine seq_np ?_
      refine seq_np ?_
      refine reg_f ?_
      refine rs 5 [] [] (by kernel_rfl) allP_nil ?_
      refine rf [(8, .ptr 0 0), (114, bS (((order.length : Nat) : Int) != ((cases.length : Nat) : Int)))] [(0, .row 29 [iS 0, iS 0]), (1, .row 3 (fl c1q33))] 2 (by kernel_rfl) ?_
      refine wk_id ?_
      refine cond_sx h (by kernel_rfl) (fun g1046 h => ?_) (fun g1046 h => ?_)
      ·refine seq_np ?_
       refine reg_f ?_
       obtain ⟨r1045, hr1045, h⟩ := bind_sx h
       refine run_call 42 [iS 8, iS (-1)] (some 115) (by kernel_rfl) ?_
       refine call_0 (pick_fault_spec 8 (-1) r1045 hr1045) (by simp only [push_cast, leL_flD, renL_flD, seval]) (by simp only [push_cast, leL_flD, renL_flD, seval]) ?_
       refine back_f ?_
       refine rs 1 [] [] (by kernel_rfl) allP_nil ?_
       refine rf [(8, .ptr 0 0)] [(0, .row 29 (Enc.cells r1045)), (1, .row 3 (fl c1q33))] 2 (by kernel_rfl) ?_
       refine wk_id ?_
       obtain rfl := Option.some.inj h
       refine ret_at (.agg (Enc.cells r1045)) (by kernel_rfl) ?_
       exact ret_e [] [] (by simp only [push_cast, leL_flD, renL_flD, seval]) (by simp only [push_cast, leL_flD, renL_flD, seval]) rfl rfl rfl
      ·refine wk_id ?_
       refine seq_np ?_
       refine reg_f ?_
       refine rs 2 [] [] (by kernel_rfl) allP_nil ?_
       refine rf [(8, .ptr 0 0)] [(0, .row 29 [iS 0, iS 0]), (1, .row 3 (fl c1q33))] 2 (by kernel_rfl) ?_
       refine wk_id ?_
       obtain rfl := Option.some.inj h
       refine ret_at (.agg [iS 0, iS 0]) (by kernel_rfl) ?_
       exact ret_e [] [] (by simp only [push_cast, leL_flD, renL_flD, seval]) (by simp only [push_cast, leL_flD, renL_flD, seval]) rfl rfl rfl

set_option maxRecDepth 100000 in
set_option maxHeartbeats 200000000 in
theorem pipe_Put_spec (pp : Int) (x : GPost) (c0 : (List Pipe)) (r : Bool × Bool × Bool × Int × Int × (List GWake) × (List Pipe)) (h : pipe_Put pp x c0 = some r) : SpecW Try.prog 59 [.ptr 0 (0 + (pp).toNat * 5), .agg (Enc.cells x)] [(0, .row 57 (flD dPipe [1, 2, 3] c0)), ((.s 1 0), .fam (famD dPipe 0 c0)), ((.s 2 0), .fam (famD dPipe 1 c0)), ((.s 3 0), .fam (famD dPipe 2 c0))] 4 (fun x h n => x = .agg [bS r.1, bS r.2.1, bS r.2.2.1, iS r.2.2.2.1, iS r.2.2.2.2.1, .own 4 0 r.2.2.2.2.2.1.length] ∧ h = [(0, .row 57 (flD dPipe [5, 2, 6] r.2.2.2.2.2.2)), ((.s 1 0), .dead), ((.s 2 0), .fam (famD dPipe 1 r.2.2.2.2.2.2)), ((.s 3 0), .dead), (4, .row 64 (fl r.2.2.2.2.2.1)), ((.s 5 0), .fam (famD dPipe 0 r.2.2.2.2.2.2)), ((.s 6 0), .fam (famD dPipe 2 r.2.2.2.2.2.2))] ∧ n = 7) := by
 unfold pipe_Put at h
 refine spec_of (draw_ok _) Try.func59 rfl (by decide) rfl (by kernel_rfl) ?_
 refine chk_sx h (fun g1066 h => ?_)
 have k1065 : 0 ≤ pp ∧ pp < ((c0.length : Nat) : Int) := of_decide_eq_true g1066
 refine seq_np ?_
 refine reg_f ?_
 refine rs 2 [] [] (by kernel_rfl) allP_nil ?_
 refine rf [(0, .ptr 0 (0 + (pp).toNat * 5)), (3, .ptr 4 0), (4, .ptr 5 0)] [(0, .row 57 (flD dPipe [1, 2, 3] c0)), ((.s 1 0), .fam (famD dPipe 0 c0)), ((.s 2 0), .fam (famD dPipe 1 c0)), ((.s 3 0), .fam (famD dPipe 2 c0)), (4, .row 92 (Enc.cells x)), (5, .row 33 [bS false, bS false, bS false, iS 0, iS 0, .v (.slice none 0 0)])] 6 (by kernel_rfl) ?_
 refine wk_id ?_
 refine seq_np ?_
 refine block_np ?_
 refine seq_np ?_
 refine reg_f ?_
 refine rs 5 [none, none, none, some ⟨bS (ixD c0 pp).Closed, [], 6, [0]⟩] _ (by kernel_rfl) (allP_cons (ob_ldD dPipe [1, 2, 3] c0 pp 5 2 ((0 + (pp).toNat * 5) + 2) k1065 rfl (by decide) (by first | rfl | omega) (dflS Try.prog 4) (bS (ixD c0 pp).Closed) rfl 6 [0]) allP_nil) ?_
 refine rf [(0, .ptr 0 (0 + (pp).toNat * 5)), (3, .ptr 4 0), (4, .ptr 5 0), (6, bS (ixD c0 pp).Closed)] [(0, .row 57 (flD dPipe [1, 2, 3] c0)), ((.s 1 0), .fam (famD dPipe 0 c0)), ((.s 2 0), .fam (famD dPipe 1 c0)), ((.s 3 0), .fam (famD dPipe 2 c0)), (4, .row 92 (Enc.cells x)), (5, .row 33 [bS false, bS false, bS false, iS 0, iS 0, .v (.slice none 0 0)])] 6 (by kernel_rfl) ?_
 refine wk_id ?_
 refine cond_sx h (by kernel_rfl) (fun g1108 h => ?_) (fun g1108 h => ?_)
 ·refine seq_np ?_
  refine reg_f ?_
  refine rs 4 [] [] (by kernel_rfl) allP_nil ?_
  refine rf [(4, .ptr 5 0)] [(0, .row 57 (flD dPipe [1, 2, 3] c0)), ((.s 1 0), .fam (famD dPipe 0 c0)), ((.s 2 0), .fam (famD dPipe 1 c0)), ((.s 3 0), .fam (famD dPipe 2 c0)), (4, .row 92 (Enc.cells x)), (5, .row 33 [bS true, bS true, bS false, iS 0, iS x.Case, .v (.slice none 0 0)])] 6 (by kernel_rfl) ?_
  refine wk_id ?_
  obtain rfl := Option.some.inj h
  refine ret_at (.agg [bS true, bS true, bS false, iS 0, iS x.Case, .v (.slice none 0 0)]) (by kernel_rfl) ?_
  exact ret_e [(0, 0), ((.s 2 0), (.s 2 0)), ((.s 5 0), (.s 1 0)), ((.s 6 0), (.s 3 0))] [] (by simp only [push_cast, leL_flD, renL_flD, seval]) (by simp only [push_cast, leL_flD, renL_flD, seval]) rfl rfl rfl
 ·refine seq_np ?_
  refine reg_f ?_
  refine rs 7 [none, none, none, some ⟨.own (.s 3 pp) 0 (ixD c0 pp).Getters.length, [], 6, [0]⟩] _ (by kernel_rfl) (allP_cons (ob_ldD dPipe [1, 2, 3] c0 pp 5 4 ((0 + (pp).toNat * 5) + 4) k1065 rfl (by decide) (by first | rfl | omega) (dflS Try.prog 55) (.own (.s 3 pp) 0 (ixD c0 pp).Getters.length) rfl 6 [0]) allP_nil) ?_
  refine rf [(0, .ptr 0 (0 + (pp).toNat * 5)), (3, .ptr 4 0), (4, .ptr 5 0), (14, bS (decide ((0 : Int) < (((ixD c0 pp).Getters.length : Nat) : Int))))] [(0, .row 57 (flD dPipe [1, 2, 3] c0)), ((.s 1 0), .fam (famD dPipe 0 c0)), ((.s 2 0), .fam (famD dPipe 1 c0)), ((.s 3 0), .fam (famD dPipe 2 c0)), (4, .row 92 (Enc.cells x)), (5, .row 33 [bS false, bS false, bS false, iS 0, iS 0, .v (.slice none 0 0)])] 6 (by kernel_rfl) ?_
  refine wk_id ?_
  refine cond_sx h (by kernel_rfl) (fun g1107 h => ?_) (fun g1107 h => ?_)
  ·refine chk_sx h (fun g1097 h => ?_)
   refine seq_np ?_
   refine reg_f ?_
   have k1096 : 0 ≤ (0 : Int) ∧ (0 : Int) < (((ixD c0 pp).Getters.length : Nat) : Int) := by first | simpa only [Bool.and_eq_true, decide_eq_true_eq, bne_iff_ne, ne_eq] using g1097 | (simp at g1097 ⊢; omega)
   refine rs 8 [none, none, none, some ⟨.own (.s 3 pp) 0 (ixD c0 pp).Getters.length, [], 6, [0]⟩, some ⟨.ptr (.s 3 pp) (0 + ((0 : Int)).toNat * 3), [], 6, [(.s 3 0)]⟩, some ⟨.agg (Enc.cells (ix (ixD c0 pp).Getters (0 : Int))), [], 6, [(.s 3 0)]⟩] _ (by kernel_rfl) (allP_cons (ob_ldw (ixD c0 pp).Getters (0 : Int) 3 (0 + ((0 : Int)).toNat * 3) k1096 rfl (by first | rfl | omega) [iS (ix (ixD c0 pp).Getters (0 : Int)).Task, iS (ix (ixD c0 pp).Getters (0 : Int)).Case, iS (ix (ixD c0 pp).Getters (0 : Int)).Value] rfl 6 [(.s 3 0)]) (allP_cons (ob_ix_o (.s 3 pp) (ixD c0 pp).Getters.length 0 3 6 0 k1096) (allP_cons (ob_ldD dPipe [1, 2, 3] c0 pp 5 4 ((0 + (pp).toNat * 5) + 4) k1065 rfl (by decide) (by first | rfl | omega) (dflS Try.prog 55) (.own (.s 3 pp) 0 (ixD c0 pp).Getters.length) rfl 6 [0]) allP_nil))) ?_
   refine rf [(0, .ptr 0 (0 + (pp).toNat * 5)), (3, .ptr 4 0), (4, .ptr 5 0), (5, .ptr 6 0)] [(0, .row 57 (flD dPipe [1, 2, 3] c0)), ((.s 1 0), .fam (famD dPipe 0 c0)), ((.s 2 0), .fam (famD dPipe 1 c0)), ((.s 3 0), .fam (famD dPipe 2 c0)), (4, .row 92 (Enc.cells x)), (5, .row 33 [bS false, bS false, bS false, iS 0, iS 0, .v (.slice none 0 0)]), (6, .row 92 (Enc.cells (ix (ixD c0 pp).Getters (0 : Int))))] 7 (by kernel_rfl) ?_
   refine wk_id ?_
   refine chk_sx h (fun g1101 h => ?_)
   refine seq_np ?_
   refine reg_f ?_
   have k1100 : 0 ≤ (1 : Int) ∧ (1 : Int) ≤ (((ixD c0 pp).Getters.length : Nat) : Int) ∧ (((ixD c0 pp).Getters.length : Nat) : Int) ≤ (((ixD c0 pp).Getters.length : Nat) : Int) := by first | simpa only [Bool.and_eq_true, decide_eq_true_eq, bne_iff_ne, ne_eq] using g1101 | (simp at g1101 ⊢; omega)
   refine rs 5 [none, none, none, none, some ⟨.own (.s 3 pp) 0 (ixD c0 pp).Getters.length, [], 7, [0]⟩] _ (by kernel_rfl) (allP_cons (ob_ldD dPipe [1, 2, 3] c0 pp 5 4 ((0 + (pp).toNat * 5) + 4) k1065 rfl (by decide) (by first | rfl | omega) (dflS Try.prog 55) (.own (.s 3 pp) 0 (ixD c0 pp).Getters.length) rfl 7 [0]) allP_nil) ?_
   refine run_cutO (ixD c0 pp).Getters (some 32) (.s 3 pp) 3 92 (1 : Int) (((ixD c0 pp).Getters.length : Nat) : Int) (by kernel_rfl) rfl k1100 ?_
   refine rs 2 [] [] (by kernel_rfl) allP_nil ?_
   refine run_opGb none _ ⟨.any, [(0, .row 57 (flN dPipe (nA [(some 1), (some 2), (some 3)] [(some (.s 1 pp)), (some (.s 2 pp)), (some (Nm.t 7))] pp) 0 (c0.set pp.toNat ({ (ixD c0 pp) with Getters := (cut (ixD c0 pp).Getters (1 : Int) (((ixD c0 pp).Getters.length : Nat) : Int)) } : Pipe))))], 8, [0]⟩ [((.s 8 0), .fam (famD dPipe 2 (c0.set pp.toNat ({ (ixD c0 pp) with Getters := (cut (ixD c0 pp).Getters (1 : Int) (((ixD c0 pp).Getters.length : Nat) : Int)) } : Pipe)))), (0, .row 57 (flD dPipe [1, 2, 8] (c0.set pp.toNat ({ (ixD c0 pp) with Getters := (cut (ixD c0 pp).Getters (1 : Int) (((ixD c0 pp).Getters.length : Nat) : Int)) } : Pipe)))), ((.s 3 0), .dead), (7, .dead)] 1 [0, (.s 3 0), 7] [(.s 3 0), 7] (by kernel_rfl) (ob_stN (P := Try.prog) dPipe [1, 2, 3] [(some (.s 1 pp)), (some (.s 2 pp)), (some (Nm.t 7))] c0 pp 5 4 ((0 + (pp).toNat * 5) + 4) k1065 rfl [.own 7 0 (cut (ixD c0 pp).Getters (1 : Int) (((ixD c0 pp).Getters.length : Nat) : Int)).length] ({ (ixD c0 pp) with Getters := (cut (ixD c0 pp).Getters (1 : Int) (((ixD c0 pp).Getters.length : Nat) : Int)) } : Pipe) (Nat.le_of_ble_eq_true rfl) (by first | rfl | omega) rfl rfl 0 8 57 55 (by kernel_rfl) rfl) (ghost_A 8 dPipe (c0.set pp.toNat ({ (ixD c0 pp) with Getters := (cut (ixD c0 pp).Getters (1 : Int) (((ixD c0 pp).Getters.length : Nat) : Int)) } : Pipe)) 0 57 [(some 1), (some 2), (some 3)] [(some (.s 1 pp)), (some (.s 2 pp)), (some (Nm.t 7))] pp (flD dPipe [1, 2, 8] (c0.set pp.toNat ({ (ixD c0 pp) with Getters := (cut (ixD c0 pp).Getters (1 : Int) (((ixD c0 pp).Getters.length : Nat) : Int)) } : Pipe))) 2 (some 3) (some 7) (by kernel_rfl) (flN_done dPipe [1, 2, 8] pp (c0.set pp.toNat ({ (ixD c0 pp) with Getters := (cut (ixD c0 pp).Getters (1 : Int) (((ixD c0 pp).Getters.length : Nat) : Int)) } : Pipe)) rfl) (by kernel_rfl) ⟨_, (by kernel_rfl), (off_hole c0 pp ({ (ixD c0 pp) with Getters := (cut (ixD c0 pp).Getters (1 : Int) (((ixD c0 pp).Getters.length : Nat) : Int)) } : Pipe) k1065 (.dead))⟩ (S_set (fun a => getH _ (.t 7) = chD dPipe 2 a) k1065 rfl)) (by kernel_rfl) (And.intro (born_fam (upI (famD dPipe 2 c0) pp (.dead)) (by kernel_rfl)) (And.intro (by kernel_rfl) trivial)) ?_
   refine run_eqS 1 (famD dPipe 0 c0) (famD dPipe 0 (c0.set pp.toNat ({ (ixD c0 pp) with Getters := (cut (ixD c0 pp).Getters (1 : Int) (((ixD c0 pp).Getters.length : Nat) : Int)) } : Pipe))) (famD_same k1065 ({ (ixD c0 pp) with Getters := (cut (ixD c0 pp).Getters (1 : Int) (((ixD c0 pp).Getters.length : Nat) : Int)) } : Pipe) rfl) (by kernel_rfl) ?_
   refine run_eqS 2 (famD dPipe 1 c0) (famD dPipe 1 (c0.set pp.toNat ({ (ixD c0 pp) with Getters := (cut (ixD c0 pp).Getters (1 : Int) (((ixD c0 pp).Getters.length : Nat) : Int)) } : Pipe))) (famD_same k1065 ({ (ixD c0 pp) with Getters := (cut (ixD c0 pp).Getters (1 : Int) (((ixD c0 pp).Getters.length : Nat) : Int)) } : Pipe) rfl) (by kernel_rfl) ?_
   refine rf [(3, .ptr 4 0), (4, .ptr 5 0), (5, .ptr 6 0)] [(0, .row 57 (flD dPipe [1, 2, 8] (c0.set pp.toNat ({ (ixD c0 pp) with Getters := (cut (ixD c0 pp).Getters (1 : Int) (((ixD c0 pp).Getters.length : Nat) : Int)) } : Pipe)))), ((.s 1 0), .fam (famD dPipe 0 (c0.set pp.toNat ({ (ixD c0 pp) with Getters := (cut (ixD c0 pp).Getters (1 : Int) (((ixD c0 pp).Getters.length : Nat) : Int)) } : Pipe)))), ((.s 2 0), .fam (famD dPipe 1 (c0.set pp.toNat ({ (ixD c0 pp) with Getters := (cut (ixD c0 pp).Getters (1 : Int) (((ixD c0 pp).Getters.length : Nat) : Int)) } : Pipe)))), ((.s 3 0), .dead), (4, .row 92 (Enc.cells x)), (5, .row 33 [bS false, bS false, bS false, iS 0, iS 0, .v (.slice none 0 0)]), (6, .row 92 (Enc.cells (ix (ixD c0 pp).Getters (0 : Int)))), (7, .dead), ((.s 8 0), .fam (famD dPipe 2 (c0.set pp.toNat ({ (ixD c0 pp) with Getters := (cut (ixD c0 pp).Getters (1 : Int) (((ixD c0 pp).Getters.length : Nat) : Int)) } : Pipe))))] 9 (by kernel_rfl) ?_
   refine wk_id ?_
   refine seq_np ?_
   refine reg_f ?_
   refine rs 12 [] [] (by kernel_rfl) allP_nil ?_
   refine rf [(4, .ptr 5 0)] [(0, .row 57 (flD dPipe [1, 2, 8] (c0.set pp.toNat ({ (ixD c0 pp) with Getters := (cut (ixD c0 pp).Getters (1 : Int) (((ixD c0 pp).Getters.length : Nat) : Int)) } : Pipe)))), ((.s 1 0), .fam (famD dPipe 0 (c0.set pp.toNat ({ (ixD c0 pp) with Getters := (cut (ixD c0 pp).Getters (1 : Int) (((ixD c0 pp).Getters.length : Nat) : Int)) } : Pipe)))), ((.s 2 0), .fam (famD dPipe 1 (c0.set pp.toNat ({ (ixD c0 pp) with Getters := (cut (ixD c0 pp).Getters (1 : Int) (((ixD c0 pp).Getters.length : Nat) : Int)) } : Pipe)))), ((.s 3 0), .dead), (4, .row 92 (Enc.cells x)), (5, .row 33 [bS true, bS false, bS false, iS 0, iS x.Case, .own 9 0 ([(GWake.mk (ix (ixD c0 pp).Getters (0 : Int)).Task (ix (ixD c0 pp).Getters (0 : Int)).Case x.Value true false)] : List GWake).length]), (6, .row 92 (Enc.cells (ix (ixD c0 pp).Getters (0 : Int)))), (7, .dead), ((.s 8 0), .fam (famD dPipe 2 (c0.set pp.toNat ({ (ixD c0 pp) with Getters := (cut (ixD c0 pp).Getters (1 : Int) (((ixD c0 pp).Getters.length : Nat) : Int)) } : Pipe)))), (9, .row 64 (fl ([(GWake.mk (ix (ixD c0 pp).Getters (0 : Int)).Task (ix (ixD c0 pp).Getters (0 : Int)).Case x.Value true false)] : List GWake)))] 10 (by kernel_rfl) ?_
   refine wk_id ?_
   obtain rfl := Option.some.inj h
   refine ret_at (.agg [bS true, bS false, bS false, iS 0, iS x.Case, .own 9 0 ([(GWake.mk (ix (ixD c0 pp).Getters (0 : Int)).Task (ix (ixD c0 pp).Getters (0 : Int)).Case x.Value true false)] : List GWake).length]) (by kernel_rfl) ?_
   exact ret_e [(0, 0), ((.s 2 0), (.s 2 0)), (4, 9), ((.s 5 0), (.s 1 0)), ((.s 6 0), (.s 8 0))] [] (by simp only [push_cast, leL_flD, renL_flD, seval]) (by simp only [push_cast, leL_flD, renL_flD, seval]) rfl rfl rfl
  ·refine seq_np ?_
   refine reg_t ?_
   refine rs 11 [none, none, none, some ⟨.own (.s 1 pp) 0 (ixD c0 pp).Items.length, [], 9, [0]⟩, none, none, none, none, some ⟨iS (ixD c0 pp).Cap, [], 14, [0]⟩] _ (by kernel_rfl) (allP_cons (ob_ldD dPipe [1, 2, 3] c0 pp 5 0 ((0 + (pp).toNat * 5) + 0) k1065 rfl (by decide) (by first | rfl | omega) (dflS Try.prog 3) (iS (ixD c0 pp).Cap) rfl 14 [0]) (allP_cons (ob_ldD dPipe [1, 2, 3] c0 pp 5 1 ((0 + (pp).toNat * 5) + 1) k1065 rfl (by decide) (by first | rfl | omega) (dflS Try.prog 24) (.own (.s 1 pp) 0 (ixD c0 pp).Items.length) rfl 9 [0]) allP_nil)) ?_
   refine rt [(0, .ptr 0 (0 + (pp).toNat * 5)), (3, .ptr 4 0), (4, .ptr 5 0), (46, bS (decide ((((ixD c0 pp).Items.length : Nat) : Int) < (ixD c0 pp).Cap)))] [(0, .row 57 (flD dPipe [1, 2, 3] c0)), ((.s 1 0), .fam (famD dPipe 0 c0)), ((.s 2 0), .fam (famD dPipe 1 c0)), ((.s 3 0), .fam (famD dPipe 2 c0)), (4, .row 92 (Enc.cells x)), (5, .row 33 [bS false, bS false, bS false, iS 0, iS 0, .v (.slice none 0 0)])] 17 follows (by kernel_rfl) ?_
   refine wk_id ?_
   refine cond_sx h (by kernel_rfl) (fun g1106 h => ?_) (fun g1106 h => ?_)
   ·refine chk_sx h (fun g1105 h => ?_)
    refine seq_np ?_
    refine reg_t ?_
    have k1104 : ((ixD c0 pp).Items ++ ([x.Value] : List Int)).length * 8 ≤ 140737488355328 := by first | simpa only [Bool.and_eq_true, decide_eq_true_eq, bne_iff_ne, ne_eq] using g1105 | (simp at g1105 ⊢; omega)
    refine rs 11 [none, none, none, none, some ⟨.own (.s 1 pp) 0 (ixD c0 pp).Items.length, [], 21, [0]⟩, none, none, none, some ⟨.own 26 0 ((ixD c0 pp).Items ++ ([x.Value] : List Int)).length, [(26, .row 3 (fl ((ixD c0 pp).Items ++ ([x.Value] : List Int)))), ((.s 1 0), .fam (upI (famD dPipe 0 c0) pp (.dead)))], 27, [(.s 1 0), 24]⟩] _ (by kernel_rfl) (allP_cons (ob_appM (P := Try.prog) dPipe 0 c0 pp 1 (ixD c0 pp).Items ([x.Value] : List Int) 1 8 rfl (appCells (fl ([x.Value] : List Int)) 0 (([x.Value] : List Int).length * 1)) ([x.Value] : List Int).length (app_own ([x.Value] : List Int) 1 rfl) rfl (0 + ([x.Value] : List Int).length * 1 ≤ (fl ([x.Value] : List Int)).length) (app_own_le ([x.Value] : List Int) 1 rfl) 3 (by kernel_rfl) (by decide) k1104 26 [24]) (allP_cons (ob_ldD dPipe [1, 2, 3] c0 pp 5 1 ((0 + (pp).toNat * 5) + 1) k1065 rfl (by decide) (by first | rfl | omega) (dflS Try.prog 24) (.own (.s 1 pp) 0 (ixD c0 pp).Items.length) rfl 21 [0]) allP_nil)) ?_
    refine run_opGb none _ ⟨.any, [(0, .row 57 (flN dPipe (nA [(some 1), (some 2), (some 3)] [(some (Nm.t 26)), (some (.s 2 pp)), (some (.s 3 pp))] pp) 0 (c0.set pp.toNat ({ (ixD c0 pp) with Items := ((ixD c0 pp).Items ++ ([x.Value] : List Int)) } : Pipe))))], 30, [0]⟩ [((.s 30 0), .fam (famD dPipe 0 (c0.set pp.toNat ({ (ixD c0 pp) with Items := ((ixD c0 pp).Items ++ ([x.Value] : List Int)) } : Pipe)))), (0, .row 57 (flD dPipe [30, 2, 3] (c0.set pp.toNat ({ (ixD c0 pp) with Items := ((ixD c0 pp).Items ++ ([x.Value] : List Int)) } : Pipe)))), ((.s 1 0), .dead), (26, .dead)] 1 [0, (.s 1 0), 26] [(.s 1 0), 26] (by kernel_rfl) (ob_stN (P := Try.prog) dPipe [1, 2, 3] [(some (Nm.t 26)), (some (.s 2 pp)), (some (.s 3 pp))] c0 pp 5 1 ((0 + (pp).toNat * 5) + 1) k1065 rfl [.own 26 0 ((ixD c0 pp).Items ++ ([x.Value] : List Int)).length] ({ (ixD c0 pp) with Items := ((ixD c0 pp).Items ++ ([x.Value] : List Int)) } : Pipe) (Nat.le_of_ble_eq_true rfl) (by first | rfl | omega) rfl rfl 0 30 57 24 (by kernel_rfl) rfl) (ghost_A 30 dPipe (c0.set pp.toNat ({ (ixD c0 pp) with Items := ((ixD c0 pp).Items ++ ([x.Value] : List Int)) } : Pipe)) 0 57 [(some 1), (some 2), (some 3)] [(some (Nm.t 26)), (some (.s 2 pp)), (some (.s 3 pp))] pp (flD dPipe [30, 2, 3] (c0.set pp.toNat ({ (ixD c0 pp) with Items := ((ixD c0 pp).Items ++ ([x.Value] : List Int)) } : Pipe))) 0 (some 1) (some 26) (by kernel_rfl) (flN_done dPipe [30, 2, 3] pp (c0.set pp.toNat ({ (ixD c0 pp) with Items := ((ixD c0 pp).Items ++ ([x.Value] : List Int)) } : Pipe)) rfl) (by kernel_rfl) ⟨_, (by kernel_rfl), (off_hole c0 pp ({ (ixD c0 pp) with Items := ((ixD c0 pp).Items ++ ([x.Value] : List Int)) } : Pipe) k1065 (.dead))⟩ (S_set (fun a => getH _ (.t 26) = chD dPipe 0 a) k1065 rfl)) (by kernel_rfl) (And.intro (born_fam (upI (famD dPipe 0 c0) pp (.dead)) (by kernel_rfl)) (And.intro (by kernel_rfl) trivial)) ?_
    refine run_eqS 2 (famD dPipe 1 c0) (famD dPipe 1 (c0.set pp.toNat ({ (ixD c0 pp) with Items := ((ixD c0 pp).Items ++ ([x.Value] : List Int)) } : Pipe))) (famD_same k1065 ({ (ixD c0 pp) with Items := ((ixD c0 pp).Items ++ ([x.Value] : List Int)) } : Pipe) rfl) (by kernel_rfl) ?_
    refine run_eqS 3 (famD dPipe 2 c0) (famD dPipe 2 (c0.set pp.toNat ({ (ixD c0 pp) with Items := ((ixD c0 pp).Items ++ ([x.Value] : List Int)) } : Pipe))) (famD_same k1065 ({ (ixD c0 pp) with Items := ((ixD c0 pp).Items ++ ([x.Value] : List Int)) } : Pipe) rfl) (by kernel_rfl) ?_
    refine rt [(3, .ptr 4 0), (4, .ptr 5 0)] [(0, .row 57 (flD dPipe [30, 2, 3] (c0.set pp.toNat ({ (ixD c0 pp) with Items := ((ixD c0 pp).Items ++ ([x.Value] : List Int)) } : Pipe)))), ((.s 1 0), .dead), ((.s 2 0), .fam (famD dPipe 1 (c0.set pp.toNat ({ (ixD c0 pp) with Items := ((ixD c0 pp).Items ++ ([x.Value] : List Int)) } : Pipe)))), ((.s 3 0), .fam (famD dPipe 2 (c0.set pp.toNat ({ (ixD c0 pp) with Items := ((ixD c0 pp).Items ++ ([x.Value] : List Int)) } : Pipe)))), (4, .row 92 (Enc.cells x)), (5, .row 33 [bS false, bS false, bS false, iS 0, iS 0, .v (.slice none 0 0)]), (24, .row 3 (fl ([x.Value] : List Int))), (26, .dead), ((.s 30 0), .fam (famD dPipe 0 (c0.set pp.toNat ({ (ixD c0 pp) with Items := ((ixD c0 pp).Items ++ ([x.Value] : List Int)) } : Pipe))))] 32 follows (by kernel_rfl) ?_
    refine wk_id ?_
    refine seq_np ?_
    refine reg_f ?_
    refine rs 4 [] [] (by kernel_rfl) allP_nil ?_
    refine rf [(4, .ptr 5 0)] [(0, .row 57 (flD dPipe [30, 2, 3] (c0.set pp.toNat ({ (ixD c0 pp) with Items := ((ixD c0 pp).Items ++ ([x.Value] : List Int)) } : Pipe)))), ((.s 1 0), .dead), ((.s 2 0), .fam (famD dPipe 1 (c0.set pp.toNat ({ (ixD c0 pp) with Items := ((ixD c0 pp).Items ++ ([x.Value] : List Int)) } : Pipe)))), ((.s 3 0), .fam (famD dPipe 2 (c0.set pp.toNat ({ (ixD c0 pp) with Items := ((ixD c0 pp).Items ++ ([x.Value] : List Int)) } : Pipe)))), (4, .row 92 (Enc.cells x)), (5, .row 33 [bS true, bS false, bS false, iS 0, iS x.Case, .v (.slice none 0 0)]), (24, .row 3 (fl ([x.Value] : List Int))), (26, .dead), ((.s 30 0), .fam (famD dPipe 0 (c0.set pp.toNat ({ (ixD c0 pp) with Items := ((ixD c0 pp).Items ++ ([x.Value] : List Int)) } : Pipe))))] 32 (by kernel_rfl) ?_
    refine wk_id ?_
    obtain rfl := Option.some.inj h
    refine ret_at (.agg [bS true, bS false, bS false, iS 0, iS x.Case, .v (.slice none 0 0)]) (by kernel_rfl) ?_
    exact ret_e [(0, 0), ((.s 2 0), (.s 2 0)), ((.s 5 0), (.s 30 0)), ((.s 6 0), (.s 3 0))] [] (by simp only [push_cast, leL_flD, renL_flD, seval]) (by simp only [push_cast, leL_flD, renL_flD, seval]) rfl rfl rfl
   ·refine wk_id ?_
    refine wk_id ?_
    refine seq_np ?_
    refine reg_f ?_
    refine rs 2 [] [] (by kernel_rfl) allP_nil ?_
    refine rf [(4, .ptr 5 0)] [(0, .row 57 (flD dPipe [1, 2, 3] c0)), ((.s 1 0), .fam (famD dPipe 0 c0)), ((.s 2 0), .fam (famD dPipe 1 c0)), ((.s 3 0), .fam (famD dPipe 2 c0)), (4, .row 92 (Enc.cells x)), (5, .row 33 [bS false, bS false, bS false, iS 0, iS 0, .v (.slice none 0 0)])] 17 (by kernel_rfl) ?_
    refine wk_id ?_
    obtain rfl := Option.some.inj h
    refine ret_at (.agg [bS false, bS false, bS false, iS 0, iS 0, .v (.slice none 0 0)]) (by kernel_rfl) ?_
    exact ret_e [(0, 0), ((.s 2 0), (.s 2 0)), ((.s 5 0), (.s 1 0)), ((.s 6 0), (.s 3 0))] [] (by simp only [push_cast, leL_flD, renL_flD, seval]) (by simp only [push_cast, leL_flD, renL_flD, seval]) rfl rfl rfl

set_option maxRecDepth 100000 in
set_option maxHeartbeats 200000000 in
theorem pipe_Got_spec (pp : Int) (x : GPost) (c0 : (List Pipe)) (r : Bool × Bool × Bool × Int × Int × (List GWake) × (List Pipe)) (h : pipe_Got pp x c0 = some r) : SpecW Try.prog 58 [.ptr 0 (0 + (pp).toNat * 5), .agg (Enc.cells x)] [(0, .row 57 (flD dPipe [1, 2, 3] c0)), ((.s 1 0), .fam (famD dPipe 0 c0)), ((.s 2 0), .fam (famD dPipe 1 c0)), ((.s 3 0), .fam (famD dPipe 2 c0))] 4 (fun x h n => x = .agg [bS r.1, bS r.2.1, bS r.2.2.1, iS r.2.2.2.1, iS r.2.2.2.2.1, .own 4 0 r.2.2.2.2.2.1.length] ∧ h = [(0, .row 57 (flD dPipe [5, 6, 3] r.2.2.2.2.2.2)), ((.s 1 0), .dead), ((.s 2 0), .dead), ((.s 3 0), .fam (famD dPipe 2 r.2.2.2.2.2.2)), (4, .row 64 (fl r.2.2.2.2.2.1)), ((.s 5 0), .fam (famD dPipe 0 r.2.2.2.2.2.2)), ((.s 6 0), .fam (famD dPipe 1 r.2.2.2.2.2.2))] ∧ n = 7) := by
 unfold pipe_Got at h
 refine spec_of (draw_ok _) Try.func58 rfl (by decide) rfl (by kernel_rfl) ?_
 refine chk_sx h (fun g1115 h => ?_)
 have k1114 : 0 ≤ pp ∧ pp < ((c0.length : Nat) : Int) := of_decide_eq_true g1115
 refine seq_np ?_
 refine reg_f ?_
 refine rs 2 [] [] (by kernel_rfl) allP_nil ?_
 refine rf [(0, .ptr 0 (0 + (pp).toNat * 5)), (3, .ptr 4 0), (4, .ptr 5 0)] [(0, .row 57 (flD dPipe [1, 2, 3] c0)), ((.s 1 0), .fam (famD dPipe 0 c0)), ((.s 2 0), .fam (famD dPipe 1 c0)), ((.s 3 0), .fam (famD dPipe 2 c0)), (4, .row 92 (Enc.cells x)), (5, .row 33 [bS false, bS false, bS false, iS 0, iS 0, .v (.slice none 0 0)])] 6 (by kernel_rfl) ?_
 refine wk_id ?_
 refine seq_np ?_
 refine reg_f ?_
 refine rs 5 [] [] (by kernel_rfl) allP_nil ?_
 refine rf [(0, .ptr 0 (0 + (pp).toNat * 5)), (3, .ptr 4 0), (4, .ptr 5 0), (5, .ptr 6 0)] [(0, .row 57 (flD dPipe [1, 2, 3] c0)), ((.s 1 0), .fam (famD dPipe 0 c0)), ((.s 2 0), .fam (famD dPipe 1 c0)), ((.s 3 0), .fam (famD dPipe 2 c0)), (4, .row 92 (Enc.cells x)), (5, .row 33 [bS false, bS false, bS false, iS 0, iS 0, .v (.slice none 0 0)]), (6, .row 33 [bS true, bS false, bS true, iS 0, iS x.Case, .v (.slice none 0 0)])] 7 (by kernel_rfl) ?_
 refine wk_id ?_
 refine seq_cut (A := (List Pipe) × (List GWake)) (fun a => ([(0, .ptr 0 (0 + (pp).toNat * 5)), (3, .ptr 4 0), (4, .ptr 5 0), (5, .ptr 6 0)], [(0, .row 57 (flD dPipe [7, 8, 3] a.1)), ((.s 1 0), .dead), ((.s 2 0), .dead), ((.s 3 0), .fam (famD dPipe 2 a.1)), (4, .row 92 (Enc.cells x)), (5, .row 33 [bS false, bS false, bS false, iS 0, iS 0, .v (.slice none 0 0)]), (6, .row 33 [bS true, bS false, bS true, iS 0, iS x.Case, .own 9 0 a.2.length]), ((.s 7 0), .fam (famD dPipe 0 a.1)), ((.s 8 0), .fam (famD dPipe 1 a.1)), (9, .row 64 (fl a.2))], 10)) (fun a => (pipe_Got_j1 pp x a.1 a.2) = some r) (fun K1141 hK1141 => ?_) ?_
 ·refine seq_np ?_
  refine reg_f ?_
  refine rs 6 [none, none, none, some ⟨.own (.s 2 pp) 0 (ixD c0 pp).Senders.length, [], 7, [0]⟩] _ (by kernel_rfl) (allP_cons (ob_ldD dPipe [1, 2, 3] c0 pp 5 3 ((0 + (pp).toNat * 5) + 3) k1114 rfl (by decide) (by first | rfl | omega) (dflS Try.prog 55) (.own (.s 2 pp) 0 (ixD c0 pp).Senders.length) rfl 7 [0]) allP_nil) ?_
  refine rf [(0, .ptr 0 (0 + (pp).toNat * 5)), (3, .ptr 4 0), (4, .ptr 5 0), (5, .ptr 6 0), (15, bS (decide ((0 : Int) < (((ixD c0 pp).Senders.length : Nat) : Int))))] [(0, .row 57 (flD dPipe [1, 2, 3] c0)), ((.s 1 0), .fam (famD dPipe 0 c0)), ((.s 2 0), .fam (famD dPipe 1 c0)), ((.s 3 0), .fam (famD dPipe 2 c0)), (4, .row 92 (Enc.cells x)), (5, .row 33 [bS false, bS false, bS false, iS 0, iS 0, .v (.slice none 0 0)]), (6, .row 33 [bS true, bS false, bS true, iS 0, iS x.Case, .v (.slice none 0 0)])] 7 (by kernel_rfl) ?_
  refine wk_id ?_
  refine cond_sx h (by kernel_rfl) (fun g1154 h => ?_) (fun g1154 h => ?_)
  ·refine chk_sx h (fun g1145 h => ?_)
   refine seq_np ?_
   refine reg_f ?_
   have k1144 : 0 ≤ (0 : Int) ∧ (0 : Int) < (((ixD c0 pp).Senders.length : Nat) : Int) := by first | simpa only [Bool.and_eq_true, decide_eq_true_eq, bne_iff_ne, ne_eq] using g1145 | (simp at g1145 ⊢; omega)
   refine rs 8 [none, none, none, some ⟨.own (.s 2 pp) 0 (ixD c0 pp).Senders.length, [], 7, [0]⟩, some ⟨.ptr (.s 2 pp) (0 + ((0 : Int)).toNat * 3), [], 7, [(.s 2 0)]⟩, some ⟨.agg (Enc.cells (ix (ixD c0 pp).Senders (0 : Int))), [], 7, [(.s 2 0)]⟩] _ (by kernel_rfl) (allP_cons (ob_ldw (ixD c0 pp).Senders (0 : Int) 3 (0 + ((0 : Int)).toNat * 3) k1144 rfl (by first | rfl | omega) [iS (ix (ixD c0 pp).Senders (0 : Int)).Task, iS (ix (ixD c0 pp).Senders (0 : Int)).Case, iS (ix (ixD c0 pp).Senders (0 : Int)).Value] rfl 7 [(.s 2 0)]) (allP_cons (ob_ix_o (.s 2 pp) (ixD c0 pp).Senders.length 0 3 7 0 k1144) (allP_cons (ob_ldD dPipe [1, 2, 3] c0 pp 5 3 ((0 + (pp).toNat * 5) + 3) k1114 rfl (by decide) (by first | rfl | omega) (dflS Try.prog 55) (.own (.s 2 pp) 0 (ixD c0 pp).Senders.length) rfl 7 [0]) allP_nil))) ?_
   refine rf [(0, .ptr 0 (0 + (pp).toNat * 5)), (3, .ptr 4 0), (4, .ptr 5 0), (5, .ptr 6 0), (6, .ptr 7 0)] [(0, .row 57 (flD dPipe [1, 2, 3] c0)), ((.s 1 0), .fam (famD dPipe 0 c0)), ((.s 2 0), .fam (famD dPipe 1 c0)), ((.s 3 0), .fam (famD dPipe 2 c0)), (4, .row 92 (Enc.cells x)), (5, .row 33 [bS false, bS false, bS false, iS 0, iS 0, .v (.slice none 0 0)]), (6, .row 33 [bS true, bS false, bS true, iS 0, iS x.Case, .v (.slice none 0 0)]), (7, .row 92 (Enc.cells (ix (ixD c0 pp).Senders (0 : Int))))] 8 (by kernel_rfl) ?_
   refine wk_id ?_
   refine chk_sx h (fun g1149 h => ?_)
   refine seq_np ?_
   refine reg_f ?_
   have k1148 : 0 ≤ (1 : Int) ∧ (1 : Int) ≤ (((ixD c0 pp).Senders.length : Nat) : Int) ∧ (((ixD c0 pp).Senders.length : Nat) : Int) ≤ (((ixD c0 pp).Senders.length : Nat) : Int) := by first | simpa only [Bool.and_eq_true, decide_eq_true_eq, bne_iff_ne, ne_eq] using g1149 | (simp at g1149 ⊢; omega)
   refine rs 5 [none, none, none, none, some ⟨.own (.s 2 pp) 0 (ixD c0 pp).Senders.length, [], 8, [0]⟩] _ (by kernel_rfl) (allP_cons (ob_ldD dPipe [1, 2, 3] c0 pp 5 3 ((0 + (pp).toNat * 5) + 3) k1114 rfl (by decide) (by first | rfl | omega) (dflS Try.prog 55) (.own (.s 2 pp) 0 (ixD c0 pp).Senders.length) rfl 8 [0]) allP_nil) ?_
   refine run_cutO (ixD c0 pp).Senders (some 27) (.s 2 pp) 3 92 (1 : Int) (((ixD c0 pp).Senders.length : Nat) : Int) (by kernel_rfl) rfl k1148 ?_
   refine rs 2 [] [] (by kernel_rfl) allP_nil ?_
   refine run_opGb none _ ⟨.any, [(0, .row 57 (flN dPipe (nA [(some 1), (some 2), (some 3)] [(some (.s 1 pp)), (some (Nm.t 8)), (some (.s 3 pp))] pp) 0 (c0.set pp.toNat ({ (ixD c0 pp) with Senders := (cut (ixD c0 pp).Senders (1 : Int) (((ixD c0 pp).Senders.length : Nat) : Int)) } : Pipe))))], 9, [0]⟩ [((.s 9 0), .fam (famD dPipe 1 (c0.set pp.toNat ({ (ixD c0 pp) with Senders := (cut (ixD c0 pp).Senders (1 : Int) (((ixD c0 pp).Senders.length : Nat) : Int)) } : Pipe)))), (0, .row 57 (flD dPipe [1, 9, 3] (c0.set pp.toNat ({ (ixD c0 pp) with Senders := (cut (ixD c0 pp).Senders (1 : Int) (((ixD c0 pp).Senders.length : Nat) : Int)) } : Pipe)))), ((.s 2 0), .dead), (8, .dead)] 1 [0, (.s 2 0), 8] [(.s 2 0), 8] (by kernel_rfl) (ob_stN (P := Try.prog) dPipe [1, 2, 3] [(some (.s 1 pp)), (some (Nm.t 8)), (some (.s 3 pp))] c0 pp 5 3 ((0 + (pp).toNat * 5) + 3) k1114 rfl [.own 8 0 (cut (ixD c0 pp).Senders (1 : Int) (((ixD c0 pp).Senders.length : Nat) : Int)).length] ({ (ixD c0 pp) with Senders := (cut (ixD c0 pp).Senders (1 : Int) (((ixD c0 pp).Senders.length : Nat) : Int)) } : Pipe) (Nat.le_of_ble_eq_true rfl) (by first | rfl | omega) rfl rfl 0 9 57 55 (by kernel_rfl) rfl) (ghost_A 9 dPipe (c0.set pp.toNat ({ (ixD c0 pp) with Senders := (cut (ixD c0 pp).Senders (1 : Int) (((ixD c0 pp).Senders.length : Nat) : Int)) } : Pipe)) 0 57 [(some 1), (some 2), (some 3)] [(some (.s 1 pp)), (some (Nm.t 8)), (some (.s 3 pp))] pp (flD dPipe [1, 9, 3] (c0.set pp.toNat ({ (ixD c0 pp) with Senders := (cut (ixD c0 pp).Senders (1 : Int) (((ixD c0 pp).Senders.length : Nat) : Int)) } : Pipe))) 1 (some 2) (some 8) (by kernel_rfl) (flN_done dPipe [1, 9, 3] pp (c0.set pp.toNat ({ (ixD c0 pp) with Senders := (cut (ixD c0 pp).Senders (1 : Int) (((ixD c0 pp).Senders.length : Nat) : Int)) } : Pipe)) rfl) (by kernel_rfl) ⟨_, (by kernel_rfl), (off_hole c0 pp ({ (ixD c0 pp) with Senders := (cut (ixD c0 pp).Senders (1 : Int) (((ixD c0 pp).Senders.length : Nat) : Int)) } : Pipe) k1114 (.dead))⟩ (S_set (fun a => getH _ (.t 8) = chD dPipe 1 a) k1114 rfl)) (by kernel_rfl) (And.intro (born_fam (upI (famD dPipe 1 c0) pp (.dead)) (by kernel_rfl)) (And.intro (by kernel_rfl) trivial)) ?_
   refine run_eqS 1 (famD dPipe 0 c0) (famD dPipe 0 (c0.set pp.toNat ({ (ixD c0 pp) with Senders := (cut (ixD c0 pp).Senders (1 : Int) (((ixD c0 pp).Senders.length : Nat) : Int)) } : Pipe))) (famD_same k1114 ({ (ixD c0 pp) with Senders := (cut (ixD c0 pp).Senders (1 : Int) (((ixD c0 pp).Senders.length : Nat) : Int)) } : Pipe) rfl) (by kernel_rfl) ?_
   refine run_eqS 3 (famD dPipe 2 c0) (famD dPipe 2 (c0.set pp.toNat ({ (ixD c0 pp) with Senders := (cut (ixD c0 pp).Senders (1 : Int) (((ixD c0 pp).Senders.length : Nat) : Int)) } : Pipe))) (famD_same k1114 ({ (ixD c0 pp) with Senders := (cut (ixD c0 pp).Senders (1 : Int) (((ixD c0 pp).Senders.length : Nat) : Int)) } : Pipe) rfl) (by kernel_rfl) ?_
   refine rf [(0, .ptr 0 (0 + (pp).toNat * 5)), (3, .ptr 4 0), (4, .ptr 5 0), (5, .ptr 6 0), (6, .ptr 7 0)] [(0, .row 57 (flD dPipe [1, 9, 3] (c0.set pp.toNat ({ (ixD c0 pp) with Senders := (cut (ixD c0 pp).Senders (1 : Int) (((ixD c0 pp).Senders.length : Nat) : Int)) } : Pipe)))), ((.s 1 0), .fam (famD dPipe 0 (c0.set pp.toNat ({ (ixD c0 pp) with Senders := (cut (ixD c0 pp).Senders (1 : Int) (((ixD c0 pp).Senders.length : Nat) : Int)) } : Pipe)))), ((.s 2 0), .dead), ((.s 3 0), .fam (famD dPipe 2 (c0.set pp.toNat ({ (ixD c0 pp) with Senders := (cut (ixD c0 pp).Senders (1 : Int) (((ixD c0 pp).Senders.length : Nat) : Int)) } : Pipe)))), (4, .row 92 (Enc.cells x)), (5, .row 33 [bS false, bS false, bS false, iS 0, iS 0, .v (.slice none 0 0)]), (6, .row 33 [bS true, bS false, bS true, iS 0, iS x.Case, .v (.slice none 0 0)]), (7, .row 92 (Enc.cells (ix (ixD c0 pp).Senders (0 : Int)))), (8, .dead), ((.s 9 0), .fam (famD dPipe 1 (c0.set pp.toNat ({ (ixD c0 pp) with Senders := (cut (ixD c0 pp).Senders (1 : Int) (((ixD c0 pp).Senders.length : Nat) : Int)) } : Pipe))))] 10 (by kernel_rfl) ?_
   refine wk_id ?_
   refine chk_sx h (fun g1153 h => ?_)
   refine seq_np ?_
   refine reg_t ?_
   have k1152 : ((ixD (c0.set pp.toNat ({ (ixD c0 pp) with Senders := (cut (ixD c0 pp).Senders (1 : Int) (((ixD c0 pp).Senders.length : Nat) : Int)) } : Pipe)) pp).Items ++ ([(ix (ixD c0 pp).Senders (0 : Int)).Value] : List Int)).length * 8 ≤ 140737488355328 := by first | simpa only [Bool.and_eq_true, decide_eq_true_eq, bne_iff_ne, ne_eq] using g1153 | (simp at g1153 ⊢; omega)
   refine rs 11 [none, none, none, none, some ⟨.own (.s 1 pp) 0 (ixD (c0.set pp.toNat ({ (ixD c0 pp) with Senders := (cut (ixD c0 pp).Senders (1 : Int) (((ixD c0 pp).Senders.length : Nat) : Int)) } : Pipe)) pp).Items.length, [], 14, [0]⟩, none, none, none, some ⟨.own 19 0 ((ixD (c0.set pp.toNat ({ (ixD c0 pp) with Senders := (cut (ixD c0 pp).Senders (1 : Int) (((ixD c0 pp).Senders.length : Nat) : Int)) } : Pipe)) pp).Items ++ ([(ix (ixD c0 pp).Senders (0 : Int)).Value] : List Int)).length, [(19, .row 3 (fl ((ixD (c0.set pp.toNat ({ (ixD c0 pp) with Senders := (cut (ixD c0 pp).Senders (1 : Int) (((ixD c0 pp).Senders.length : Nat) : Int)) } : Pipe)) pp).Items ++ ([(ix (ixD c0 pp).Senders (0 : Int)).Value] : List Int)))), ((.s 1 0), .fam (upI (famD dPipe 0 (c0.set pp.toNat ({ (ixD c0 pp) with Senders := (cut (ixD c0 pp).Senders (1 : Int) (((ixD c0 pp).Senders.length : Nat) : Int)) } : Pipe))) pp (.dead)))], 20, [(.s 1 0), 17]⟩] _ (by kernel_rfl) (allP_cons (ob_appM (P := Try.prog) dPipe 0 (c0.set pp.toNat ({ (ixD c0 pp) with Senders := (cut (ixD c0 pp).Senders (1 : Int) (((ixD c0 pp).Senders.length : Nat) : Int)) } : Pipe)) pp 1 (ixD (c0.set pp.toNat ({ (ixD c0 pp) with Senders := (cut (ixD c0 pp).Senders (1 : Int) (((ixD c0 pp).Senders.length : Nat) : Int)) } : Pipe)) pp).Items ([(ix (ixD c0 pp).Senders (0 : Int)).Value] : List Int) 1 8 rfl (appCells (fl ([(ix (ixD c0 pp).Senders (0 : Int)).Value] : List Int)) 0 (([(ix (ixD c0 pp).Senders (0 : Int)).Value] : List Int).length * 1)) ([(ix (ixD c0 pp).Senders (0 : Int)).Value] : List Int).length (app_own ([(ix (ixD c0 pp).Senders (0 : Int)).Value] : List Int) 1 rfl) rfl (0 + ([(ix (ixD c0 pp).Senders (0 : Int)).Value] : List Int).length * 1 ≤ (fl ([(ix (ixD c0 pp).Senders (0 : Int)).Value] : List Int)).length) (app_own_le ([(ix (ixD c0 pp).Senders (0 : Int)).Value] : List Int) 1 rfl) 3 (by kernel_rfl) (by decide) k1152 19 [17]) (allP_cons (ob_ldD dPipe [1, 9, 3] (c0.set pp.toNat ({ (ixD c0 pp) with Senders := (cut (ixD c0 pp).Senders (1 : Int) (((ixD c0 pp).Senders.length : Nat) : Int)) } : Pipe)) pp 5 1 ((0 + (pp).toNat * 5) + 1) (by rw [List.length_set]; exact k1114) rfl (by decide) (by first | rfl | omega) (dflS Try.prog 24) (.own (.s 1 pp) 0 (ixD (c0.set pp.toNat ({ (ixD c0 pp) with Senders := (cut (ixD c0 pp).Senders (1 : Int) (((ixD c0 pp).Senders.length : Nat) : Int)) } : Pipe)) pp).Items.length) rfl 14 [0]) allP_nil)) ?_
   refine run_opGb none _ ⟨.any, [(0, .row 57 (flN dPipe (nA [(some 1), (some 9), (some 3)] [(some (Nm.t 19)), (some (.s 9 pp)), (some (.s 3 pp))] pp) 0 ((c0.set pp.toNat ({ (ixD c0 pp) with Senders := (cut (ixD c0 pp).Senders (1 : Int) (((ixD c0 pp).Senders.length : Nat) : Int)) } : Pipe)).set pp.toNat ({ (ixD (c0.set pp.toNat ({ (ixD c0 pp) with Senders := (cut (ixD c0 pp).Senders (1 : Int) (((ixD c0 pp).Senders.length : Nat) : Int)) } : Pipe)) pp) with Items := ((ixD (c0.set pp.toNat ({ (ixD c0 pp) with Senders := (cut (ixD c0 pp).Senders (1 : Int) (((ixD c0 pp).Senders.length : Nat) : Int)) } : Pipe)) pp).Items ++ ([(ix (ixD c0 pp).Senders (0 : Int)).Value] : List Int)) } : Pipe))))], 23, [0]⟩ [((.s 23 0), .fam (famD dPipe 0 ((c0.set pp.toNat ({ (ixD c0 pp) with Senders := (cut (ixD c0 pp).Senders (1 : Int) (((ixD c0 pp).Senders.length : Nat) : Int)) } : Pipe)).set pp.toNat ({ (ixD (c0.set pp.toNat ({ (ixD c0 pp) with Senders := (cut (ixD c0 pp).Senders (1 : Int) (((ixD c0 pp).Senders.length : Nat) : Int)) } : Pipe)) pp) with Items := ((ixD (c0.set pp.toNat ({ (ixD c0 pp) with Senders := (cut (ixD c0 pp).Senders (1 : Int) (((ixD c0 pp).Senders.length : Nat) : Int)) } : Pipe)) pp).Items ++ ([(ix (ixD c0 pp).Senders (0 : Int)).Value] : List Int)) } : Pipe)))), (0, .row 57 (flD dPipe [23, 9, 3] ((c0.set pp.toNat ({ (ixD c0 pp) with Senders := (cut (ixD c0 pp).Senders (1 : Int) (((ixD c0 pp).Senders.length : Nat) : Int)) } : Pipe)).set pp.toNat ({ (ixD (c0.set pp.toNat ({ (ixD c0 pp) with Senders := (cut (ixD c0 pp).Senders (1 : Int) (((ixD c0 pp).Senders.length : Nat) : Int)) } : Pipe)) pp) with Items := ((ixD (c0.set pp.toNat ({ (ixD c0 pp) with Senders := (cut (ixD c0 pp).Senders (1 : Int) (((ixD c0 pp).Senders.length : Nat) : Int)) } : Pipe)) pp).Items ++ ([(ix (ixD c0 pp).Senders (0 : Int)).Value] : List Int)) } : Pipe)))), ((.s 1 0), .dead), (19, .dead)] 1 [0, (.s 1 0), 19] [(.s 1 0), 19] (by kernel_rfl) (ob_stN (P := Try.prog) dPipe [1, 9, 3] [(some (Nm.t 19)), (some (.s 9 pp)), (some (.s 3 pp))] (c0.set pp.toNat ({ (ixD c0 pp) with Senders := (cut (ixD c0 pp).Senders (1 : Int) (((ixD c0 pp).Senders.length : Nat) : Int)) } : Pipe)) pp 5 1 ((0 + (pp).toNat * 5) + 1) (by rw [List.length_set]; exact k1114) rfl [.own 19 0 ((ixD (c0.set pp.toNat ({ (ixD c0 pp) with Senders := (cut (ixD c0 pp).Senders (1 : Int) (((ixD c0 pp).Senders.length : Nat) : Int)) } : Pipe)) pp).Items ++ ([(ix (ixD c0 pp).Senders (0 : Int)).Value] : List Int)).length] ({ (ixD (c0.set pp.toNat ({ (ixD c0 pp) with Senders := (cut (ixD c0 pp).Senders (1 : Int) (((ixD c0 pp).Senders.length : Nat) : Int)) } : Pipe)) pp) with Items := ((ixD (c0.set pp.toNat ({ (ixD c0 pp) with Senders := (cut (ixD c0 pp).Senders (1 : Int) (((ixD c0 pp).Senders.length : Nat) : Int)) } : Pipe)) pp).Items ++ ([(ix (ixD c0 pp).Senders (0 : Int)).Value] : List Int)) } : Pipe) (Nat.le_of_ble_eq_true rfl) (by first | rfl | omega) rfl rfl 0 23 57 24 (by kernel_rfl) rfl) (ghost_A 23 dPipe ((c0.set pp.toNat ({ (ixD c0 pp) with Senders := (cut (ixD c0 pp).Senders (1 : Int) (((ixD c0 pp).Senders.length : Nat) : Int)) } : Pipe)).set pp.toNat ({ (ixD (c0.set pp.toNat ({ (ixD c0 pp) with Senders := (cut (ixD c0 pp).Senders (1 : Int) (((ixD c0 pp).Senders.length : Nat) : Int)) } : Pipe)) pp) with Items := ((ixD (c0.set pp.toNat ({ (ixD c0 pp) with Senders := (cut (ixD c0 pp).Senders (1 : Int) (((ixD c0 pp).Senders.length : Nat) : Int)) } : Pipe)) pp).Items ++ ([(ix (ixD c0 pp).Senders (0 : Int)).Value] : List Int)) } : Pipe)) 0 57 [(some 1), (some 9), (some 3)] [(some (Nm.t 19)), (some (.s 9 pp)), (some (.s 3 pp))] pp (flD dPipe [23, 9, 3] ((c0.set pp.toNat ({ (ixD c0 pp) with Senders := (cut (ixD c0 pp).Senders (1 : Int) (((ixD c0 pp).Senders.length : Nat) : Int)) } : Pipe)).set pp.toNat ({ (ixD (c0.set pp.toNat ({ (ixD c0 pp) with Senders := (cut (ixD c0 pp).Senders (1 : Int) (((ixD c0 pp).Senders.length : Nat) : Int)) } : Pipe)) pp) with Items := ((ixD (c0.set pp.toNat ({ (ixD c0 pp) with Senders := (cut (ixD c0 pp).Senders (1 : Int) (((ixD c0 pp).Senders.length : Nat) : Int)) } : Pipe)) pp).Items ++ ([(ix (ixD c0 pp).Senders (0 : Int)).Value] : List Int)) } : Pipe))) 0 (some 1) (some 19) (by kernel_rfl) (flN_done dPipe [23, 9, 3] pp ((c0.set pp.toNat ({ (ixD c0 pp) with Senders := (cut (ixD c0 pp).Senders (1 : Int) (((ixD c0 pp).Senders.length : Nat) : Int)) } : Pipe)).set pp.toNat ({ (ixD (c0.set pp.toNat ({ (ixD c0 pp) with Senders := (cut (ixD c0 pp).Senders (1 : Int) (((ixD c0 pp).Senders.length : Nat) : Int)) } : Pipe)) pp) with Items := ((ixD (c0.set pp.toNat ({ (ixD c0 pp) with Senders := (cut (ixD c0 pp).Senders (1 : Int) (((ixD c0 pp).Senders.length : Nat) : Int)) } : Pipe)) pp).Items ++ ([(ix (ixD c0 pp).Senders (0 : Int)).Value] : List Int)) } : Pipe)) rfl) (by kernel_rfl) ⟨_, (by kernel_rfl), (off_hole (c0.set pp.toNat ({ (ixD c0 pp) with Senders := (cut (ixD c0 pp).Senders (1 : Int) (((ixD c0 pp).Senders.length : Nat) : Int)) } : Pipe)) pp ({ (ixD (c0.set pp.toNat ({ (ixD c0 pp) with Senders := (cut (ixD c0 pp).Senders (1 : Int) (((ixD c0 pp).Senders.length : Nat) : Int)) } : Pipe)) pp) with Items := ((ixD (c0.set pp.toNat ({ (ixD c0 pp) with Senders := (cut (ixD c0 pp).Senders (1 : Int) (((ixD c0 pp).Senders.length : Nat) : Int)) } : Pipe)) pp).Items ++ ([(ix (ixD c0 pp).Senders (0 : Int)).Value] : List Int)) } : Pipe) (by rw [List.length_set]; exact k1114) (.dead))⟩ (S_set (fun a => getH _ (.t 19) = chD dPipe 0 a) (by rw [List.length_set]; exact k1114) rfl)) (by kernel_rfl) (And.intro (born_fam (upI (famD dPipe 0 (c0.set pp.toNat ({ (ixD c0 pp) with Senders := (cut (ixD c0 pp).Senders (1 : Int) (((ixD c0 pp).Senders.length : Nat) : Int)) } : Pipe))) pp (.dead)) (by kernel_rfl)) (And.intro (by kernel_rfl) trivial)) ?_
   refine run_eqS 9 (famD dPipe 1 (c0.set pp.toNat ({ (ixD c0 pp) with Senders := (cut (ixD c0 pp).Senders (1 : Int) (((ixD c0 pp).Senders.length : Nat) : Int)) } : Pipe))) (famD dPipe 1 ((c0.set pp.toNat ({ (ixD c0 pp) with Senders := (cut (ixD c0 pp).Senders (1 : Int) (((ixD c0 pp).Senders.length : Nat) : Int)) } : Pipe)).set pp.toNat ({ (ixD (c0.set pp.toNat ({ (ixD c0 pp) with Senders := (cut (ixD c0 pp).Senders (1 : Int) (((ixD c0 pp).Senders.length : Nat) : Int)) } : Pipe)) pp) with Items := ((ixD (c0.set pp.toNat ({ (ixD c0 pp) with Senders := (cut (ixD c0 pp).Senders (1 : Int) (((ixD c0 pp).Senders.length : Nat) : Int)) } : Pipe)) pp).Items ++ ([(ix (ixD c0 pp).Senders (0 : Int)).Value] : List Int)) } : Pipe))) (famD_same (by rw [List.length_set]; exact k1114) ({ (ixD (c0.set pp.toNat ({ (ixD c0 pp) with Senders := (cut (ixD c0 pp).Senders (1 : Int) (((ixD c0 pp).Senders.length : Nat) : Int)) } : Pipe)) pp) with Items := ((ixD (c0.set pp.toNat ({ (ixD c0 pp) with Senders := (cut (ixD c0 pp).Senders (1 : Int) (((ixD c0 pp).Senders.length : Nat) : Int)) } : Pipe)) pp).Items ++ ([(ix (ixD c0 pp).Senders (0 : Int)).Value] : List Int)) } : Pipe) rfl) (by kernel_rfl) ?_
   refine run_eqS 3 (famD dPipe 2 (c0.set pp.toNat ({ (ixD c0 pp) with Senders := (cut (ixD c0 pp).Senders (1 : Int) (((ixD c0 pp).Senders.length : Nat) : Int)) } : Pipe))) (famD dPipe 2 ((c0.set pp.toNat ({ (ixD c0 pp) with Senders := (cut (ixD c0 pp).Senders (1 : Int) (((ixD c0 pp).Senders.length : Nat) : Int)) } : Pipe)).set pp.toNat ({ (ixD (c0.set pp.toNat ({ (ixD c0 pp) with Senders := (cut (ixD c0 pp).Senders (1 : Int) (((ixD c0 pp).Senders.length : Nat) : Int)) } : Pipe)) pp) with Items := ((ixD (c0.set pp.toNat ({ (ixD c0 pp) with Senders := (cut (ixD c0 pp).Senders (1 : Int) (((ixD c0 pp).Senders.length : Nat) : Int)) } : Pipe)) pp).Items ++ ([(ix (ixD c0 pp).Senders (0 : Int)).Value] : List Int)) } : Pipe))) (famD_same (by rw [List.length_set]; exact k1114) ({ (ixD (c0.set pp.toNat ({ (ixD c0 pp) with Senders := (cut (ixD c0 pp).Senders (1 : Int) (((ixD c0 pp).Senders.length : Nat) : Int)) } : Pipe)) pp) with Items := ((ixD (c0.set pp.toNat ({ (ixD c0 pp) with Senders := (cut (ixD c0 pp).Senders (1 : Int) (((ixD c0 pp).Senders.length : Nat) : Int)) } : Pipe)) pp).Items ++ ([(ix (ixD c0 pp).Senders (0 : Int)).Value] : List Int)) } : Pipe) rfl) (by kernel_rfl) ?_
   refine rt [(0, .ptr 0 (0 + (pp).toNat * 5)), (3, .ptr 4 0), (4, .ptr 5 0), (5, .ptr 6 0), (6, .ptr 7 0)] [(0, .row 57 (flD dPipe [23, 9, 3] ((c0.set pp.toNat ({ (ixD c0 pp) with Senders := (cut (ixD c0 pp).Senders (1 : Int) (((ixD c0 pp).Senders.length : Nat) : Int)) } : Pipe)).set pp.toNat ({ (ixD (c0.set pp.toNat ({ (ixD c0 pp) with Senders := (cut (ixD c0 pp).Senders (1 : Int) (((ixD c0 pp).Senders.length : Nat) : Int)) } : Pipe)) pp) with Items := ((ixD (c0.set pp.toNat ({ (ixD c0 pp) with Senders := (cut (ixD c0 pp).Senders (1 : Int) (((ixD c0 pp).Senders.length : Nat) : Int)) } : Pipe)) pp).Items ++ ([(ix (ixD c0 pp).Senders (0 : Int)).Value] : List Int)) } : Pipe)))), ((.s 1 0), .dead), ((.s 2 0), .dead), ((.s 3 0), .fam (famD dPipe 2 ((c0.set pp.toNat ({ (ixD c0 pp) with Senders := (cut (ixD c0 pp).Senders (1 : Int) (((ixD c0 pp).Senders.length : Nat) : Int)) } : Pipe)).set pp.toNat ({ (ixD (c0.set pp.toNat ({ (ixD c0 pp) with Senders := (cut (ixD c0 pp).Senders (1 : Int) (((ixD c0 pp).Senders.length : Nat) : Int)) } : Pipe)) pp) with Items := ((ixD (c0.set pp.toNat ({ (ixD c0 pp) with Senders := (cut (ixD c0 pp).Senders (1 : Int) (((ixD c0 pp).Senders.length : Nat) : Int)) } : Pipe)) pp).Items ++ ([(ix (ixD c0 pp).Senders (0 : Int)).Value] : List Int)) } : Pipe)))), (4, .row 92 (Enc.cells x)), (5, .row 33 [bS false, bS false, bS false, iS 0, iS 0, .v (.slice none 0 0)]), (6, .row 33 [bS true, bS false, bS true, iS 0, iS x.Case, .v (.slice none 0 0)]), (7, .row 92 (Enc.cells (ix (ixD c0 pp).Senders (0 : Int)))), (8, .dead), ((.s 9 0), .fam (famD dPipe 1 ((c0.set pp.toNat ({ (ixD c0 pp) with Senders := (cut (ixD c0 pp).Senders (1 : Int) (((ixD c0 pp).Senders.length : Nat) : Int)) } : Pipe)).set pp.toNat ({ (ixD (c0.set pp.toNat ({ (ixD c0 pp) with Senders := (cut (ixD c0 pp).Senders (1 : Int) (((ixD c0 pp).Senders.length : Nat) : Int)) } : Pipe)) pp) with Items := ((ixD (c0.set pp.toNat ({ (ixD c0 pp) with Senders := (cut (ixD c0 pp).Senders (1 : Int) (((ixD c0 pp).Senders.length : Nat) : Int)) } : Pipe)) pp).Items ++ ([(ix (ixD c0 pp).Senders (0 : Int)).Value] : List Int)) } : Pipe)))), (17, .row 3 (fl ([(ix (ixD c0 pp).Senders (0 : Int)).Value] : List Int))), (19, .dead), ((.s 23 0), .fam (famD dPipe 0 ((c0.set pp.toNat ({ (ixD c0 pp) with Senders := (cut (ixD c0 pp).Senders (1 : Int) (((ixD c0 pp).Senders.length : Nat) : Int)) } : Pipe)).set pp.toNat ({ (ixD (c0.set pp.toNat ({ (ixD c0 pp) with Senders := (cut (ixD c0 pp).Senders (1 : Int) (((ixD c0 pp).Senders.length : Nat) : Int)) } : Pipe)) pp) with Items := ((ixD (c0.set pp.toNat ({ (ixD c0 pp) with Senders := (cut (ixD c0 pp).Senders (1 : Int) (((ixD c0 pp).Senders.length : Nat) : Int)) } : Pipe)) pp).Items ++ ([(ix (ixD c0 pp).Senders (0 : Int)).Value] : List Int)) } : Pipe))))] 25 follows (by kernel_rfl) ?_
   refine wk_id ?_
   refine reg_f ?_
   refine rs 8 [] [] (by kernel_rfl) allP_nil ?_
   refine rf [(0, .ptr 0 (0 + (pp).toNat * 5)), (3, .ptr 4 0), (4, .ptr 5 0), (5, .ptr 6 0)] [(0, .row 57 (flD dPipe [23, 9, 3] ((c0.set pp.toNat ({ (ixD c0 pp) with Senders := (cut (ixD c0 pp).Senders (1 : Int) (((ixD c0 pp).Senders.length : Nat) : Int)) } : Pipe)).set pp.toNat ({ (ixD (c0.set pp.toNat ({ (ixD c0 pp) with Senders := (cut (ixD c0 pp).Senders (1 : Int) (((ixD c0 pp).Senders.length : Nat) : Int)) } : Pipe)) pp) with Items := ((ixD (c0.set pp.toNat ({ (ixD c0 pp) with Senders := (cut (ixD c0 pp).Senders (1 : Int) (((ixD c0 pp).Senders.length : Nat) : Int)) } : Pipe)) pp).Items ++ ([(ix (ixD c0 pp).Senders (0 : Int)).Value] : List Int)) } : Pipe)))), ((.s 1 0), .dead), ((.s 2 0), .dead), ((.s 3 0), .fam (famD dPipe 2 ((c0.set pp.toNat ({ (ixD c0 pp) with Senders := (cut (ixD c0 pp).Senders (1 : Int) (((ixD c0 pp).Senders.length : Nat) : Int)) } : Pipe)).set pp.toNat ({ (ixD (c0.set pp.toNat ({ (ixD c0 pp) with Senders := (cut (ixD c0 pp).Senders (1 : Int) (((ixD c0 pp).Senders.length : Nat) : Int)) } : Pipe)) pp) with Items := ((ixD (c0.set pp.toNat ({ (ixD c0 pp) with Senders := (cut (ixD c0 pp).Senders (1 : Int) (((ixD c0 pp).Senders.length : Nat) : Int)) } : Pipe)) pp).Items ++ ([(ix (ixD c0 pp).Senders (0 : Int)).Value] : List Int)) } : Pipe)))), (4, .row 92 (Enc.cells x)), (5, .row 33 [bS false, bS false, bS false, iS 0, iS 0, .v (.slice none 0 0)]), (6, .row 33 [bS true, bS false, bS true, iS 0, iS x.Case, .own 25 0 ([(GWake.mk (ix (ixD c0 pp).Senders (0 : Int)).Task (ix (ixD c0 pp).Senders (0 : Int)).Case 0 false false)] : List GWake).length]), (7, .row 92 (Enc.cells (ix (ixD c0 pp).Senders (0 : Int)))), (8, .dead), ((.s 9 0), .fam (famD dPipe 1 ((c0.set pp.toNat ({ (ixD c0 pp) with Senders := (cut (ixD c0 pp).Senders (1 : Int) (((ixD c0 pp).Senders.length : Nat) : Int)) } : Pipe)).set pp.toNat ({ (ixD (c0.set pp.toNat ({ (ixD c0 pp) with Senders := (cut (ixD c0 pp).Senders (1 : Int) (((ixD c0 pp).Senders.length : Nat) : Int)) } : Pipe)) pp) with Items := ((ixD (c0.set pp.toNat ({ (ixD c0 pp) with Senders := (cut (ixD c0 pp).Senders (1 : Int) (((ixD c0 pp).Senders.length : Nat) : Int)) } : Pipe)) pp).Items ++ ([(ix (ixD c0 pp).Senders (0 : Int)).Value] : List Int)) } : Pipe)))), (17, .row 3 (fl ([(ix (ixD c0 pp).Senders (0 : Int)).Value] : List Int))), (19, .dead), ((.s 23 0), .fam (famD dPipe 0 ((c0.set pp.toNat ({ (ixD c0 pp) with Senders := (cut (ixD c0 pp).Senders (1 : Int) (((ixD c0 pp).Senders.length : Nat) : Int)) } : Pipe)).set pp.toNat ({ (ixD (c0.set pp.toNat ({ (ixD c0 pp) with Senders := (cut (ixD c0 pp).Senders (1 : Int) (((ixD c0 pp).Senders.length : Nat) : Int)) } : Pipe)) pp) with Items := ((ixD (c0.set pp.toNat ({ (ixD c0 pp) with Senders := (cut (ixD c0 pp).Senders (1 : Int) (((ixD c0 pp).Senders.length : Nat) : Int)) } : Pipe)) pp).Items ++ ([(ix (ixD c0 pp).Senders (0 : Int)).Value] : List Int)) } : Pipe)))), (25, .row 64 (fl ([(GWake.mk (ix (ixD c0 pp).Senders (0 : Int)).Task (ix (ixD c0 pp).Senders (0 : Int)).Case 0 false false)] : List GWake)))] 26 (by kernel_rfl) ?_
   exact hK1141 (((c0.set pp.toNat ({ (ixD c0 pp) with Senders := (cut (ixD c0 pp).Senders (1 : Int) (((ixD c0 pp).Senders.length : Nat) : Int)) } : Pipe)).set pp.toNat ({ (ixD (c0.set pp.toNat ({ (ixD c0 pp) with Senders := (cut (ixD c0 pp).Senders (1 : Int) (((ixD c0 pp).Senders.length : Nat) : Int)) } : Pipe)) pp) with Items := ((ixD (c0.set pp.toNat ({ (ixD c0 pp) with Senders := (cut (ixD c0 pp).Senders (1 : Int) (((ixD c0 pp).Senders.length : Nat) : Int)) } : Pipe)) pp).Items ++ ([(ix (ixD c0 pp).Senders (0 : Int)).Value] : List Int)) } : Pipe)), ([(GWake.mk (ix (ixD c0 pp).Senders (0 : Int)).Task (ix (ixD c0 pp).Senders (0 : Int)).Case 0 false false)] : List GWake)) _ _ _ h (leSt_m [(0, 0), ((.s 3 0), (.s 3 0)), (4, 4), (5, 5), (6, 6), ((.s 7 0), (.s 23 0)), ((.s 8 0), (.s 9 0)), (9, 25)] [] (by simp only [push_cast, leL_flD, renL_flD, seval]) (by simp only [push_cast, leL_flD, renL_flD, seval]) rfl rfl rfl)
  ·exact hK1141 (c0, []) _ _ _ h (leSt_m [(0, 0), ((.s 3 0), (.s 3 0)), (4, 4), (5, 5), (6, 6), ((.s 7 0), (.s 1 0)), ((.s 8 0), (.s 2 0))] [] (by simp only [push_cast, leL_flD, renL_flD, seval]) (by simp only [push_cast, leL_flD, renL_flD, seval]) rfl rfl rfl)
 ·rintro ⟨c0q3, c9q1⟩ h
  try dsimp only at h ⊢
  unfold pipe_Got_j1 at h
  refine seq_np ?_
  refine chk_sx h (fun g1165 h => ?_)
  refine seq_np ?_
  refine reg_f ?_
  have k1164 : 0 ≤ pp ∧ pp < ((c0q3.length : Nat) : Int) := by first | simpa only [Bool.and_eq_true, decide_eq_true_eq, bne_iff_ne, ne_eq] using g1165 | (simp at g1165 ⊢; omega)
  refine rs 6 [none, none, none, some ⟨.own (.s 7 pp) 0 (ixD c0q3 pp).Items.length, [], 10, [0]⟩] _ (by kernel_rfl) (allP_cons (ob_ldD dPipe [7, 8, 3] c0q3 pp 5 1 ((0 + (pp).toNat * 5) + 1) k1164 rfl (by decide) (by first | rfl | omega) (dflS Try.prog 24) (.own (.s 7 pp) 0 (ixD c0q3 pp).Items.length) rfl 10 [0]) allP_nil) ?_
  refine rf [(0, .ptr 0 (0 + (pp).toNat * 5)), (3, .ptr 4 0), (4, .ptr 5 0), (5, .ptr 6 0), (53, bS (decide ((0 : Int) < (((ixD c0q3 pp).Items.length : Nat) : Int))))] [(0, .row 57 (flD dPipe [7, 8, 3] c0q3)), ((.s 1 0), .dead), ((.s 2 0), .dead), ((.s 3 0), .fam (famD dPipe 2 c0q3)), (4, .row 92 (Enc.cells x)), (5, .row 33 [bS false, bS false, bS false, iS 0, iS 0, .v (.slice none 0 0)]), (6, .row 33 [bS true, bS false, bS true, iS 0, iS x.Case, .own 9 0 c9q1.length]), ((.s 7 0), .fam (famD dPipe 0 c0q3)), ((.s 8 0), .fam (famD dPipe 1 c0q3)), (9, .row 64 (fl c9q1))] 10 (by kernel_rfl) ?_
  refine wk_id ?_
  refine cond_sx h (by kernel_rfl) (fun g1176 h => ?_) (fun g1176 h => ?_)
  ·refine chk_sx h (fun g1169 h => ?_)
   refine seq_np ?_
   refine reg_f ?_
   have k1168 : 0 ≤ (0 : Int) ∧ (0 : Int) < (((ixD c0q3 pp).Items.length : Nat) : Int) := by first | simpa only [Bool.and_eq_true, decide_eq_true_eq, bne_iff_ne, ne_eq] using g1169 | (simp at g1169 ⊢; omega)
   refine rs 8 [none, none, none, some ⟨.own (.s 7 pp) 0 (ixD c0q3 pp).Items.length, [], 10, [0]⟩, some ⟨.ptr (.s 7 pp) (0 + ((0 : Int)).toNat * 1), [], 10, [(.s 7 0)]⟩, some ⟨iS (ix (ixD c0q3 pp).Items (0 : Int)), [], 10, [(.s 7 0)]⟩] _ (by kernel_rfl) (allP_cons (ob_ld (ixD c0q3 pp).Items (0 : Int) 1 0 (0 + ((0 : Int)).toNat * 1) k1168 rfl (by decide) (by first | rfl | omega) (dflS Try.prog 3) (iS (ix (ixD c0q3 pp).Items (0 : Int))) rfl 10 [(.s 7 0)]) (allP_cons (ob_ix_o (.s 7 pp) (ixD c0q3 pp).Items.length 0 1 10 0 k1168) (allP_cons (ob_ldD dPipe [7, 8, 3] c0q3 pp 5 1 ((0 + (pp).toNat * 5) + 1) k1164 rfl (by decide) (by first | rfl | omega) (dflS Try.prog 24) (.own (.s 7 pp) 0 (ixD c0q3 pp).Items.length) rfl 10 [0]) allP_nil))) ?_
   refine rf [(0, .ptr 0 (0 + (pp).toNat * 5)), (4, .ptr 5 0), (5, .ptr 6 0)] [(0, .row 57 (flD dPipe [7, 8, 3] c0q3)), ((.s 1 0), .dead), ((.s 2 0), .dead), ((.s 3 0), .fam (famD dPipe 2 c0q3)), (4, .row 92 (Enc.cells x)), (5, .row 33 [bS false, bS false, bS false, iS 0, iS 0, .v (.slice none 0 0)]), (6, .row 33 [bS true, bS false, bS true, iS (ix (ixD c0q3 pp).Items (0 : Int)), iS x.Case, .own 9 0 c9q1.length]), ((.s 7 0), .fam (famD dPipe 0 c0q3)), ((.s 8 0), .fam (famD dPipe 1 c0q3)), (9, .row 64 (fl c9q1))] 10 (by kernel_rfl) ?_
   refine wk_id ?_
   refine chk_sx h (fun g1173 h => ?_)
   refine seq_np ?_
   refine reg_f ?_
   have k1172 : 0 ≤ (1 : Int) ∧ (1 : Int) ≤ (((ixD c0q3 pp).Items.length : Nat) : Int) ∧ (((ixD c0q3 pp).Items.length : Nat) : Int) ≤ (((ixD c0q3 pp).Items.length : Nat) : Int) := by first | simpa only [Bool.and_eq_true, decide_eq_true_eq, bne_iff_ne, ne_eq] using g1173 | (simp at g1173 ⊢; omega)
   refine rs 5 [none, none, none, none, some ⟨.own (.s 7 pp) 0 (ixD c0q3 pp).Items.length, [], 10, [0]⟩] _ (by kernel_rfl) (allP_cons (ob_ldD dPipe [7, 8, 3] c0q3 pp 5 1 ((0 + (pp).toNat * 5) + 1) k1164 rfl (by decide) (by first | rfl | omega) (dflS Try.prog 24) (.own (.s 7 pp) 0 (ixD c0q3 pp).Items.length) rfl 10 [0]) allP_nil) ?_
   refine run_cutO (ixD c0q3 pp).Items (some 66) (.s 7 pp) 1 3 (1 : Int) (((ixD c0q3 pp).Items.length : Nat) : Int) (by kernel_rfl) rfl k1172 ?_
   refine rs 2 [] [] (by kernel_rfl) allP_nil ?_
   refine run_opGb none _ ⟨.any, [(0, .row 57 (flN dPipe (nA [(some 7), (some 8), (some 3)] [(some (Nm.t 10)), (some (.s 8 pp)), (some (.s 3 pp))] pp) 0 (c0q3.set pp.toNat ({ (ixD c0q3 pp) with Items := (cut (ixD c0q3 pp).Items (1 : Int) (((ixD c0q3 pp).Items.length : Nat) : Int)) } : Pipe))))], 11, [0]⟩ [((.s 11 0), .fam (famD dPipe 0 (c0q3.set pp.toNat ({ (ixD c0q3 pp) with Items := (cut (ixD c0q3 pp).Items (1 : Int) (((ixD c0q3 pp).Items.length : Nat) : Int)) } : Pipe)))), (0, .row 57 (flD dPipe [11, 8, 3] (c0q3.set pp.toNat ({ (ixD c0q3 pp) with Items := (cut (ixD c0q3 pp).Items (1 : Int) (((ixD c0q3 pp).Items.length : Nat) : Int)) } : Pipe)))), ((.s 7 0), .dead), (10, .dead)] 1 [0, (.s 7 0), 10] [(.s 7 0), 10] (by kernel_rfl) (ob_stN (P := Try.prog) dPipe [7, 8, 3] [(some (Nm.t 10)), (some (.s 8 pp)), (some (.s 3 pp))] c0q3 pp 5 1 ((0 + (pp).toNat * 5) + 1) k1164 rfl [.own 10 0 (cut (ixD c0q3 pp).Items (1 : Int) (((ixD c0q3 pp).Items.length : Nat) : Int)).length] ({ (ixD c0q3 pp) with Items := (cut (ixD c0q3 pp).Items (1 : Int) (((ixD c0q3 pp).Items.length : Nat) : Int)) } : Pipe) (Nat.le_of_ble_eq_true rfl) (by first | rfl | omega) rfl rfl 0 11 57 24 (by kernel_rfl) rfl) (ghost_A 11 dPipe (c0q3.set pp.toNat ({ (ixD c0q3 pp) with Items := (cut (ixD c0q3 pp).Items (1 : Int) (((ixD c0q3 pp).Items.length : Nat) : Int)) } : Pipe)) 0 57 [(some 7), (some 8), (some 3)] [(some (Nm.t 10)), (some (.s 8 pp)), (some (.s 3 pp))] pp (flD dPipe [11, 8, 3] (c0q3.set pp.toNat ({ (ixD c0q3 pp) with Items := (cut (ixD c0q3 pp).Items (1 : Int) (((ixD c0q3 pp).Items.length : Nat) : Int)) } : Pipe))) 0 (some 7) (some 10) (by kernel_rfl) (flN_done dPipe [11, 8, 3] pp (c0q3.set pp.toNat ({ (ixD c0q3 pp) with Items := (cut (ixD c0q3 pp).Items (1 : Int) (((ixD c0q3 pp).Items.length : Nat) : Int)) } : Pipe)) rfl) (by kernel_rfl) ⟨_, (by kernel_rfl), (off_hole c0q3 pp ({ (ixD c0q3 pp) with Items := (cut (ixD c0q3 pp).Items (1 : Int) (((ixD c0q3 pp).Items.length : Nat) : Int)) } : Pipe) k1164 (.dead))⟩ (S_set (fun a => getH _ (.t 10) = chD dPipe 0 a) k1164 rfl)) (by kernel_rfl) (And.intro (born_fam (upI (famD dPipe 0 c0q3) pp (.dead)) (by kernel_rfl)) (And.intro (by kernel_rfl) trivial)) ?_
   refine run_eqS 8 (famD dPipe 1 c0q3) (famD dPipe 1 (c0q3.set pp.toNat ({ (ixD c0q3 pp) with Items := (cut (ixD c0q3 pp).Items (1 : Int) (((ixD c0q3 pp).Items.length : Nat) : Int)) } : Pipe))) (famD_same k1164 ({ (ixD c0q3 pp) with Items := (cut (ixD c0q3 pp).Items (1 : Int) (((ixD c0q3 pp).Items.length : Nat) : Int)) } : Pipe) rfl) (by kernel_rfl) ?_
   refine run_eqS 3 (famD dPipe 2 c0q3) (famD dPipe 2 (c0q3.set pp.toNat ({ (ixD c0q3 pp) with Items := (cut (ixD c0q3 pp).Items (1 : Int) (((ixD c0q3 pp).Items.length : Nat) : Int)) } : Pipe))) (famD_same k1164 ({ (ixD c0q3 pp) with Items := (cut (ixD c0q3 pp).Items (1 : Int) (((ixD c0q3 pp).Items.length : Nat) : Int)) } : Pipe) rfl) (by kernel_rfl) ?_
   refine rf [(4, .ptr 5 0), (5, .ptr 6 0)] [(0, .row 57 (flD dPipe [11, 8, 3] (c0q3.set pp.toNat ({ (ixD c0q3 pp) with Items := (cut (ixD c0q3 pp).Items (1 : Int) (((ixD c0q3 pp).Items.length : Nat) : Int)) } : Pipe)))), ((.s 1 0), .dead), ((.s 2 0), .dead), ((.s 3 0), .fam (famD dPipe 2 (c0q3.set pp.toNat ({ (ixD c0q3 pp) with Items := (cut (ixD c0q3 pp).Items (1 : Int) (((ixD c0q3 pp).Items.length : Nat) : Int)) } : Pipe)))), (4, .row 92 (Enc.cells x)), (5, .row 33 [bS false, bS false, bS false, iS 0, iS 0, .v (.slice none 0 0)]), (6, .row 33 [bS true, bS false, bS true, iS (ix (ixD c0q3 pp).Items (0 : Int)), iS x.Case, .own 9 0 c9q1.length]), ((.s 7 0), .dead), ((.s 8 0), .fam (famD dPipe 1 (c0q3.set pp.toNat ({ (ixD c0q3 pp) with Items := (cut (ixD c0q3 pp).Items (1 : Int) (((ixD c0q3 pp).Items.length : Nat) : Int)) } : Pipe)))), (9, .row 64 (fl c9q1)), (10, .dead), ((.s 11 0), .fam (famD dPipe 0 (c0q3.set pp.toNat ({ (ixD c0q3 pp) with Items := (cut (ixD c0q3 pp).Items (1 : Int) (((ixD c0q3 pp).Items.length : Nat) : Int)) } : Pipe))))] 12 (by kernel_rfl) ?_
   refine wk_id ?_
   refine seq_np ?_
   refine reg_f ?_
   refine rs 2 [] [] (by kernel_rfl) allP_nil ?_
   refine rf [(4, .ptr 5 0)] [(0, .row 57 (flD dPipe [11, 8, 3] (c0q3.set pp.toNat ({ (ixD c0q3 pp) with Items := (cut (ixD c0q3 pp).Items (1 : Int) (((ixD c0q3 pp).Items.length : Nat) : Int)) } : Pipe)))), ((.s 1 0), .dead), ((.s 2 0), .dead), ((.s 3 0), .fam (famD dPipe 2 (c0q3.set pp.toNat ({ (ixD c0q3 pp) with Items := (cut (ixD c0q3 pp).Items (1 : Int) (((ixD c0q3 pp).Items.length : Nat) : Int)) } : Pipe)))), (4, .row 92 (Enc.cells x)), (5, .row 33 [bS true, bS false, bS true, iS (ix (ixD c0q3 pp).Items (0 : Int)), iS x.Case, .own 9 0 c9q1.length]), (6, .row 33 [bS true, bS false, bS true, iS (ix (ixD c0q3 pp).Items (0 : Int)), iS x.Case, .own 9 0 c9q1.length]), ((.s 7 0), .dead), ((.s 8 0), .fam (famD dPipe 1 (c0q3.set pp.toNat ({ (ixD c0q3 pp) with Items := (cut (ixD c0q3 pp).Items (1 : Int) (((ixD c0q3 pp).Items.length : Nat) : Int)) } : Pipe)))), (9, .row 64 (fl c9q1)), (10, .dead), ((.s 11 0), .fam (famD dPipe 0 (c0q3.set pp.toNat ({ (ixD c0q3 pp) with Items := (cut (ixD c0q3 pp).Items (1 : Int) (((ixD c0q3 pp).Items.length : Nat) : Int)) } : Pipe))))] 12 (by kernel_rfl) ?_
   refine wk_id ?_
   obtain rfl := Option.some.inj h
   refine ret_at (.agg [bS true, bS false, bS true, iS (ix (ixD c0q3 pp).Items (0 : Int)), iS x.Case, .own 9 0 c9q1.length]) (by kernel_rfl) ?_
   exact ret_e [(0, 0), ((.s 3 0), (.s 3 0)), (4, 9), ((.s 5 0), (.s 11 0)), ((.s 6 0), (.s 8 0))] [] (by simp only [push_cast, leL_flD, renL_flD, seval]) (by simp only [push_cast, leL_flD, renL_flD, seval]) rfl rfl rfl
  ·refine wk_id ?_
   refine seq_np ?_
   refine seq_np ?_
   refine reg_f ?_
   refine rs 4 [none, none, none, some ⟨bS (ixD c0q3 pp).Closed, [], 10, [0]⟩] _ (by kernel_rfl) (allP_cons (ob_ldD dPipe [7, 8, 3] c0q3 pp 5 2 ((0 + (pp).toNat * 5) + 2) k1164 rfl (by decide) (by first | rfl | omega) (dflS Try.prog 4) (bS (ixD c0q3 pp).Closed) rfl 10 [0]) allP_nil) ?_
   refine rf [(3, .ptr 4 0), (4, .ptr 5 0), (73, bS (ixD c0q3 pp).Closed)] [(0, .row 57 (flD dPipe [7, 8, 3] c0q3)), ((.s 1 0), .dead), ((.s 2 0), .dead), ((.s 3 0), .fam (famD dPipe 2 c0q3)), (4, .row 92 (Enc.cells x)), (5, .row 33 [bS false, bS false, bS false, iS 0, iS 0, .v (.slice none 0 0)]), (6, .row 33 [bS true, bS false, bS true, iS 0, iS x.Case, .own 9 0 c9q1.length]), ((.s 7 0), .fam (famD dPipe 0 c0q3)), ((.s 8 0), .fam (famD dPipe 1 c0q3)), (9, .row 64 (fl c9q1))] 10 (by kernel_rfl) ?_
   refine wk_id ?_
   refine cond_sx h (by kernel_rfl) (fun g1175 h => ?_) (fun g1175 h => ?_)
   ·refine seq_np ?_
    refine reg_f ?_
    refine rs 4 [] [] (by kernel_rfl) allP_nil ?_
    refine rf [(4, .ptr 5 0)] [(0, .row 57 (flD dPipe [7, 8, 3] c0q3)), ((.s 1 0), .dead), ((.s 2 0), .dead), ((.s 3 0), .fam (famD dPipe 2 c0q3)), (4, .row 92 (Enc.cells x)), (5, .row 33 [bS true, bS false, bS false, iS 0, iS x.Case, .v (.slice none 0 0)]), (6, .row 33 [bS true, bS false, bS true, iS 0, iS x.Case, .own 9 0 c9q1.length]), ((.s 7 0), .fam (famD dPipe 0 c0q3)), ((.s 8 0), .fam (famD dPipe 1 c0q3)), (9, .row 64 (fl c9q1))] 10 (by kernel_rfl) ?_
    refine wk_id ?_
    obtain rfl := Option.some.inj h
    refine ret_at (.agg [bS true, bS false, bS false, iS 0, iS x.Case, .v (.slice none 0 0)]) (by kernel_rfl) ?_
    exact ret_e [(0, 0), ((.s 3 0), (.s 3 0)), ((.s 5 0), (.s 7 0)), ((.s 6 0), (.s 8 0))] [] (by simp only [push_cast, leL_flD, renL_flD, seval]) (by simp only [push_cast, leL_flD, renL_flD, seval]) rfl rfl rfl
   ·refine wk_id ?_
    refine seq_np ?_
    refine reg_f ?_
    refine rs 2 [] [] (by kernel_rfl) allP_nil ?_
    refine rf [(4, .ptr 5 0)] [(0, .row 57 (flD dPipe [7, 8, 3] c0q3)), ((.s 1 0), .dead), ((.s 2 0), .dead), ((.s 3 0), .fam (famD dPipe 2 c0q3)), (4, .row 92 (Enc.cells x)), (5, .row 33 [bS false, bS false, bS false, iS 0, iS 0, .v (.slice none 0 0)]), (6, .row 33 [bS true, bS false, bS true, iS 0, iS x.Case, .own 9 0 c9q1.length]), ((.s 7 0), .fam (famD dPipe 0 c0q3)), ((.s 8 0), .fam (famD dPipe 1 c0q3)), (9, .row 64 (fl c9q1))] 10 (by kernel_rfl) ?_
    refine wk_id ?_
    obtain rfl := Option.some.inj h
    refine ret_at (.agg [bS false, bS false, bS false, iS 0, iS 0, .v (.slice none 0 0)]) (by kernel_rfl) ?_
    exact ret_e [(0, 0), ((.s 3 0), (.s 3 0)), ((.s 5 0), (.s 7 0)), ((.s 6 0), (.s 8 0))] [] (by simp only [push_cast, leL_flD, renL_flD, seval]) (by simp only [push_cast, leL_flD, renL_flD, seval]) rfl rfl rfl

set_option maxRecDepth 100000 in
set_option maxHeartbeats 200000000 in
theorem pick_hub_once_1_spec (task : Int) (k : Int) (c : GCase) (c0 : (List Pipe)) (r : Bool × Bool × Bool × Int × Int × (List GWake) × (List Pipe)) (h : pick_hub_once_1 task k c c0 = some r) : SpecW Try.prog 46 [.own 0 0 c0.length, iS task, iS k, .agg (Enc.cells c)] [(0, .row 57 (flD dPipe [1, 2, 3] c0)), ((.s 1 0), .fam (famD dPipe 0 c0)), ((.s 2 0), .fam (famD dPipe 1 c0)), ((.s 3 0), .fam (famD dPipe 2 c0))] 4 (fun x h n => x = .agg [bS r.1, bS r.2.1, bS r.2.2.1, iS r.2.2.2.1, iS r.2.2.2.2.1, .own 4 0 r.2.2.2.2.2.1.length] ∧ h = [(0, .row 57 (flD dPipe [5, 6, 7] r.2.2.2.2.2.2)), ((.s 1 0), .dead), ((.s 2 0), .dead), ((.s 3 0), .dead), (4, .row 64 (fl r.2.2.2.2.2.1)), ((.s 5 0), .fam (famD dPipe 0 r.2.2.2.2.2.2)), ((.s 6 0), .fam (famD dPipe 1 r.2.2.2.2.2.2)), ((.s 7 0), .fam (famD dPipe 2 r.2.2.2.2.2.2))] ∧ n = 8) := by
 unfold pick_hub_once_1 at h
 refine spec_of (draw_ok _) Try.func46 rfl (by decide) rfl (by kernel_rfl) ?_
 refine seq_np ?_
 refine reg_f ?_
 refine rs 2 [] [] (by kernel_rfl) allP_nil ?_
 refine rf [(0, .own 0 0 c0.length), (1, iS task), (2, iS k), (7, .ptr 4 0), (8, .ptr 5 0)] [(0, .row 57 (flD dPipe [1, 2, 3] c0)), ((.s 1 0), .fam (famD dPipe 0 c0)), ((.s 2 0), .fam (famD dPipe 1 c0)), ((.s 3 0), .fam (famD dPipe 2 c0)), (4, .row 49 (Enc.cells c)), (5, .row 33 [bS false, bS false, bS false, iS 0, iS 0, .v (.slice none 0 0)])] 6 (by kernel_rfl) ?_
 refine wk_id ?_
 refine seq_np ?_
 refine seq_np ?_
 refine reg_f ?_
 refine rs 3 [] [] (by kernel_rfl) allP_nil ?_
 refine rf [(0, .own 0 0 c0.length), (1, iS task), (2, iS k), (7, .ptr 4 0), (8, .ptr 5 0), (12, bS (decide (c.Pipe < 0)))] [(0, .row 57 (flD dPipe [1, 2, 3] c0)), ((.s 1 0), .fam (famD dPipe 0 c0)), ((.s 2 0), .fam (famD dPipe 1 c0)), ((.s 3 0), .fam (famD dPipe 2 c0)), (4, .row 49 (Enc.cells c)), (5, .row 33 [bS false, bS false, bS false, iS 0, iS 0, .v (.slice none 0 0)])] 6 (by kernel_rfl) ?_
 refine wk_id ?_
 refine cond_sx h (by kernel_rfl) (fun g1202 h => ?_) (fun g1202 h => ?_)
 ·refine seq_np ?_
  refine reg_f ?_
  refine rs 2 [] [] (by kernel_rfl) allP_nil ?_
  refine rf [(8, .ptr 5 0)] [(0, .row 57 (flD dPipe [1, 2, 3] c0)), ((.s 1 0), .fam (famD dPipe 0 c0)), ((.s 2 0), .fam (famD dPipe 1 c0)), ((.s 3 0), .fam (famD dPipe 2 c0)), (4, .row 49 (Enc.cells c)), (5, .row 33 [bS false, bS false, bS false, iS 0, iS 0, .v (.slice none 0 0)])] 6 (by kernel_rfl) ?_
  refine wk_id ?_
  obtain rfl := Option.some.inj h
  refine ret_at (.agg [bS false, bS false, bS false, iS 0, iS 0, .v (.slice none 0 0)]) (by kernel_rfl) ?_
  exact ret_e [(0, 0), ((.s 5 0), (.s 1 0)), ((.s 6 0), (.s 2 0)), ((.s 7 0), (.s 3 0))] [] (by simp only [push_cast, leL_flD, renL_flD, seval]) (by simp only [push_cast, leL_flD, renL_flD, seval]) rfl rfl rfl
 ·refine wk_id ?_
  refine seq_np ?_
  refine reg_f ?_
  refine rs 7 [] [] (by kernel_rfl) allP_nil ?_
  refine rf [(0, .own 0 0 c0.length), (7, .ptr 4 0), (8, .ptr 5 0), (9, .ptr 6 0)] [(0, .row 57 (flD dPipe [1, 2, 3] c0)), ((.s 1 0), .fam (famD dPipe 0 c0)), ((.s 2 0), .fam (famD dPipe 1 c0)), ((.s 3 0), .fam (famD dPipe 2 c0)), (4, .row 49 (Enc.cells c)), (5, .row 33 [bS false, bS false, bS false, iS 0, iS 0, .v (.slice none 0 0)]), (6, .row 92 [iS task, iS k, iS c.Value])] 7 (by kernel_rfl) ?_
  refine wk_id ?_
  refine seq_np ?_
  refine seq_np ?_
  refine reg_f ?_
  refine rs 2 [] [] (by kernel_rfl) allP_nil ?_
  refine rf [(0, .own 0 0 c0.length), (7, .ptr 4 0), (8, .ptr 5 0), (9, .ptr 6 0), (20, bS c.Send)] [(0, .row 57 (flD dPipe [1, 2, 3] c0)), ((.s 1 0), .fam (famD dPipe 0 c0)), ((.s 2 0), .fam (famD dPipe 1 c0)), ((.s 3 0), .fam (famD dPipe 2 c0)), (4, .row 49 (Enc.cells c)), (5, .row 33 [bS false, bS false, bS false, iS 0, iS 0, .v (.slice none 0 0)]), (6, .row 92 [iS task, iS k, iS c.Value])] 7 (by kernel_rfl) ?_
  refine wk_id ?_
  refine cond_sx h (by kernel_rfl) (fun g1201 h => ?_) (fun g1201 h => ?_)
  ·refine chk_sx h (fun g1190 h => ?_)
   refine seq_np ?_
   refine reg_t ?_
   have k1189 : 0 ≤ c.Pipe ∧ c.Pipe < ((c0.length : Nat) : Int) := by first | simpa only [Bool.and_eq_true, decide_eq_true_eq, bne_iff_ne, ne_eq] using g1190 | (simp at g1190 ⊢; omega)
   refine rs 5 [none, none, none, some ⟨.ptr 0 (0 + (c.Pipe).toNat * 5), [], 10, [0]⟩] _ (by kernel_rfl) (allP_cons (ob_ix_o 0 c0.length 0 5 10 c.Pipe k1189) allP_nil) ?_
   obtain ⟨r1191, hr1191, h⟩ := bind_sx h
   refine call_x (pipe_Put_spec c.Pipe (GPost.mk task k c.Value) c0 r1191 hr1191) (args := [.ptr 0 (0 + (c.Pipe).toNat * 5), .agg [iS task, iS k, iS c.Value]]) (dst := (some 26)) (by kernel_rfl) [(0, .row 57 (flD dPipe [1, 2, 3] c0)), ((.s 1 0), .fam (famD dPipe 0 c0)), ((.s 2 0), .fam (famD dPipe 1 c0)), ((.s 3 0), .fam (famD dPipe 2 c0)), (4, .row 49 (Enc.cells c)), (5, .row 33 [bS false, bS false, bS false, iS 0, iS 0, .v (.slice none 0 0)]), (6, .row 92 [iS task, iS k, iS c.Value])] 12 (by kernel_rfl) [(0, 0), ((.s 1 0), (.s 1 0)), ((.s 2 0), (.s 2 0)), ((.s 3 0), (.s 3 0))] [] (.agg [bS r1191.1, bS r1191.2.1, bS r1191.2.2.1, iS r1191.2.2.2.1, iS r1191.2.2.2.2.1, .own 16 0 r1191.2.2.2.2.2.1.length]) [(0, .row 57 (flD dPipe [17, 2, 18] r1191.2.2.2.2.2.2)), ((.s 1 0), .dead), ((.s 2 0), .fam (famD dPipe 1 r1191.2.2.2.2.2.2)), ((.s 3 0), .dead), (16, .row 64 (fl r1191.2.2.2.2.2.1)), ((.s 17 0), .fam (famD dPipe 0 r1191.2.2.2.2.2.2)), ((.s 18 0), .fam (famD dPipe 2 r1191.2.2.2.2.2.2)), (0, .dead), ((.s 1 0), .dead), ((.s 2 0), .dead), ((.s 3 0), .dead)] (by simp only [push_cast, leL_flD, renL_flD, seval]) (by simp only [push_cast, leL_flD, renL_flD, seval]) (by kernel_rfl) (.inl rfl) (by first | (simp only [push_cast, leL_flD, renL_flD, seval]; done) | (simp only [push_cast, leL_flD, renL_flD, seval]; kernel_rfl) | kernel_rfl) (by first | (simp only [push_cast, leL_flD, renL_flD, seval]; done) | (simp only [push_cast, leL_flD, renL_flD, seval]; kernel_rfl) | kernel_rfl) ?_ (hfam := (And.intro trivial (And.intro (fun _ => Or.inl rfl) (And.intro (fun _ => Or.inl rfl) (And.intro (fun _ => Or.inl rfl) trivial)))))
   refine rs 1 [] [] (by kernel_rfl) allP_nil ?_
   refine rt [(8, .ptr 5 0)] [(0, .row 57 (flD dPipe [17, 2, 18] r1191.2.2.2.2.2.2)), ((.s 1 0), .dead), ((.s 2 0), .fam (famD dPipe 1 r1191.2.2.2.2.2.2)), ((.s 3 0), .dead), (4, .row 49 (Enc.cells c)), (5, .row 33 [bS r1191.1, bS r1191.2.1, bS r1191.2.2.1, iS r1191.2.2.2.1, iS r1191.2.2.2.2.1, .own 16 0 r1191.2.2.2.2.2.1.length]), (6, .row 92 [iS task, iS k, iS c.Value]), (16, .row 64 (fl r1191.2.2.2.2.2.1)), ((.s 17 0), .fam (famD dPipe 0 r1191.2.2.2.2.2.2)), ((.s 18 0), .fam (famD dPipe 2 r1191.2.2.2.2.2.2))] 21 follows (by kernel_rfl) ?_
   refine wk_id ?_
   obtain rfl := Option.some.inj h
   refine ret_at (.agg [bS r1191.1, bS r1191.2.1, bS r1191.2.2.1, iS r1191.2.2.2.1, iS r1191.2.2.2.2.1, .own 16 0 r1191.2.2.2.2.2.1.length]) (by kernel_rfl) ?_
   exact ret_e [(0, 0), (4, 16), ((.s 5 0), (.s 17 0)), ((.s 6 0), (.s 2 0)), ((.s 7 0), (.s 18 0))] [] (by simp only [push_cast, leL_flD, renL_flD, seval]) (by simp only [push_cast, leL_flD, renL_flD, seval]) rfl rfl rfl
  ·refine wk_id ?_
   refine chk_sx h (fun g1198 h => ?_)
   refine seq_np ?_
   refine reg_t ?_
   have k1197 : 0 ≤ c.Pipe ∧ c.Pipe < ((c0.length : Nat) : Int) := by first | simpa only [Bool.and_eq_true, decide_eq_true_eq, bne_iff_ne, ne_eq] using g1198 | (simp at g1198 ⊢; omega)
   refine rs 5 [none, none, none, some ⟨.ptr 0 (0 + (c.Pipe).toNat * 5), [], 10, [0]⟩] _ (by kernel_rfl) (allP_cons (ob_ix_o 0 c0.length 0 5 10 c.Pipe k1197) allP_nil) ?_
   obtain ⟨r1199, hr1199, h⟩ := bind_sx h
   refine call_x (pipe_Got_spec c.Pipe (GPost.mk task k c.Value) c0 r1199 hr1199) (args := [.ptr 0 (0 + (c.Pipe).toNat * 5), .agg [iS task, iS k, iS c.Value]]) (dst := (some 32)) (by kernel_rfl) [(0, .row 57 (flD dPipe [1, 2, 3] c0)), ((.s 1 0), .fam (famD dPipe 0 c0)), ((.s 2 0), .fam (famD dPipe 1 c0)), ((.s 3 0), .fam (famD dPipe 2 c0)), (4, .row 49 (Enc.cells c)), (5, .row 33 [bS false, bS false, bS false, iS 0, iS 0, .v (.slice none 0 0)]), (6, .row 92 [iS task, iS k, iS c.Value])] 12 (by kernel_rfl) [(0, 0), ((.s 1 0), (.s 1 0)), ((.s 2 0), (.s 2 0)), ((.s 3 0), (.s 3 0))] [] (.agg [bS r1199.1, bS r1199.2.1, bS r1199.2.2.1, iS r1199.2.2.2.1, iS r1199.2.2.2.2.1, .own 16 0 r1199.2.2.2.2.2.1.length]) [(0, .row 57 (flD dPipe [17, 18, 3] r1199.2.2.2.2.2.2)), ((.s 1 0), .dead), ((.s 2 0), .dead), ((.s 3 0), .fam (famD dPipe 2 r1199.2.2.2.2.2.2)), (16, .row 64 (fl r1199.2.2.2.2.2.1)), ((.s 17 0), .fam (famD dPipe 0 r1199.2.2.2.2.2.2)), ((.s 18 0), .fam (famD dPipe 1 r1199.2.2.2.2.2.2)), (0, .dead), ((.s 1 0), .dead), ((.s 2 0), .dead), ((.s 3 0), .dead)] (by simp only [push_cast, leL_flD, renL_flD, seval]) (by simp only [push_cast, leL_flD, renL_flD, seval]) (by kernel_rfl) (.inl rfl) (by first | (simp only [push_cast, leL_flD, renL_flD, seval]; done) | (simp only [push_cast, leL_flD, renL_flD, seval]; kernel_rfl) | kernel_rfl) (by first | (simp only [push_cast, leL_flD, renL_flD, seval]; done) | (simp only [push_cast, leL_flD, renL_flD, seval]; kernel_rfl) | kernel_rfl) ?_ (hfam := (And.intro trivial (And.intro (fun _ => Or.inl rfl) (And.intro (fun _ => Or.inl rfl) (And.intro (fun _ => Or.inl rfl) trivial)))))
   refine rs 1 [] [] (by kernel_rfl) allP_nil ?_
   refine rt [(8, .ptr 5 0)] [(0, .row 57 (flD dPipe [17, 18, 3] r1199.2.2.2.2.2.2)), ((.s 1 0), .dead), ((.s 2 0), .dead), ((.s 3 0), .fam (famD dPipe 2 r1199.2.2.2.2.2.2)), (4, .row 49 (Enc.cells c)), (5, .row 33 [bS r1199.1, bS r1199.2.1, bS r1199.2.2.1, iS r1199.2.2.2.1, iS r1199.2.2.2.2.1, .own 16 0 r1199.2.2.2.2.2.1.length]), (6, .row 92 [iS task, iS k, iS c.Value]), (16, .row 64 (fl r1199.2.2.2.2.2.1)), ((.s 17 0), .fam (famD dPipe 0 r1199.2.2.2.2.2.2)), ((.s 18 0), .fam (famD dPipe 1 r1199.2.2.2.2.2.2))] 21 follows (by kernel_rfl) ?_
   refine wk_id ?_
   obtain rfl := Option.some.inj h
   refine ret_at (.agg [bS r1199.1, bS r1199.2.1, bS r1199.2.2.1, iS r1199.2.2.2.1, iS r1199.2.2.2.2.1, .own 16 0 r1199.2.2.2.2.2.1.length]) (by kernel_rfl) ?_
   exact ret_e [(0, 0), (4, 16), ((.s 5 0), (.s 17 0)), ((.s 6 0), (.s 18 0)), ((.s 7 0), (.s 3 0))] [] (by simp only [push_cast, leL_flD, renL_flD, seval]) (by simp only [push_cast, leL_flD, renL_flD, seval]) rfl rfl rfl

set_option maxRecDepth 100000 in
set_option maxHeartbeats 200000000 in
theorem pipe_Without_1_spec (x : GPost) (t1 : Int) (r : Bool) (h : pipe_Without_1 x t1 = some r) : SpecW Try.prog 73 [.agg (Enc.cells x), .iptr [iS t1] 0] [] 0 (fun x h n => x = bS r ∧ h = [] ∧ n = 0) := by
 unfold pipe_Without_1 at h
 refine spec_of (draw_ok _) Try.func73 rfl (by decide) rfl (by kernel_rfl) ?_
 refine seq_np ?_
 refine reg_f ?_
 refine rs 2 [] [] (by kernel_rfl) allP_nil ?_
 refine rf [(1, .iptr [iS t1] 0), (2, .ptr 0 0)] [(0, .row 92 (Enc.cells x))] 1 (by kernel_rfl) ?_
 refine wk_id ?_
 refine seq_np ?_
 refine reg_f ?_
 refine rs 5 [] [] (by kernel_rfl) allP_nil ?_
 refine rf [(3, bS (x.Task == t1))] [(0, .row 92 (Enc.cells x))] 1 (by kernel_rfl) ?_
 refine wk_id ?_
 obtain rfl := Option.some.inj h
 refine ret_at (bS (x.Task == t1)) (by kernel_rfl) ?_
 exact ret_e [] [] (by simp only [push_cast, leL_flD, renL_flD, seval]) (by simp only [push_cast, leL_flD, renL_flD, seval]) rfl rfl rfl

set_option maxRecDepth 100000 in
set_option maxHeartbeats 200000000 in
theorem slices_IndexFunc_Post_1_spec (s : (List GPost)) (f : Int) (r : Int) (h : slices_IndexFunc_Post_1 s f = some r) : SpecW Try.prog 89 [.sl s.length (fl s), .clo 73 [.iptr [iS f] 0]] [] 0 (fun x h n => x = iS r ∧ h = [] ∧ n = 0) := by
 unfold slices_IndexFunc_Post_1 at h
 refine spec_of (draw_ok _) Try.func89 rfl (by decide) rfl (by kernel_rfl) ?_
 refine seq_np ?_
 refine reg_f ?_
 refine rs 1 [] [] (by kernel_rfl) allP_nil ?_
 refine rf [(0, .sl s.length (fl s)), (1, .clo 73 [.iptr [iS f] 0])] [] 0 (by kernel_rfl) ?_
 refine wk_id ?_
 refine seq_np ?_
 refine seq_np ?_
 refine reg_f ?_
 refine rs 3 [] [] (by kernel_rfl) allP_nil ?_
 refine rf [(0, .sl s.length (fl s)), (1, .clo 73 [.iptr [iS f] 0]), (7, iS ((s.length : Nat) : Int)), (8, iS 0)] [] 0 (by kernel_rfl) ?_
 refine wk_id ?_
 refine block_np ?_
 refine loop_sx (S := Int) (fun a => ([(0, .sl s.length (fl s)), (1, .clo 73 [.iptr [iS f] 0]), (7, iS ((s.length : Nat) : Int)), (8, iS a)], [], 0)) h (leSt_m [] [] (by simp only [push_cast, leL_flD, renL_flD, seval]) (by simp only [push_cast, leL_flD, renL_flD, seval]) rfl rfl rfl) ?_
 rintro t8q7 o2 R2 h hr2 hn2 hx2 ht2
 try dsimp only at h hn2 ⊢
 unfold slices_IndexFunc_Post_1_l1 at h
 try dsimp only at h
 refine seq_np ?_
 refine reg_f ?_
 refine rs 1 [] [] (by kernel_rfl) allP_nil ?_
 refine rf [(0, .sl s.length (fl s)), (1, .clo 73 [.iptr [iS f] 0]), (7, iS ((s.length : Nat) : Int)), (8, iS t8q7), (9, bS (decide (t8q7 < ((s.length : Nat) : Int))))] [] 0 (by kernel_rfl) ?_
 refine wk_id ?_
 refine seq_np ?_
 refine cond_sx h (by kernel_rfl) (fun g1295 h => ?_) (fun g1295 h => ?_)
 ·refine wk_id ?_
  refine seq_np ?_
  refine block_np ?_
  refine seq_np ?_
  refine reg_f ?_
  refine rs 2 [] [] (by kernel_rfl) allP_nil ?_
  refine rf [(0, .sl s.length (fl s)), (1, .clo 73 [.iptr [iS f] 0]), (5, iS t8q7), (7, iS ((s.length : Nat) : Int)), (8, iS t8q7)] [] 0 (by kernel_rfl) ?_
  refine wk_id ?_
  refine chk_sx h (fun g1292 h => ?_)
  refine seq_np ?_
  refine reg_f ?_
  have k1291 : 0 ≤ t8q7 ∧ t8q7 < ((s.length : Nat) : Int) := by first | simpa only [Bool.and_eq_true, decide_eq_true_eq, bne_iff_ne, ne_eq] using g1292 | (simp at g1292 ⊢; omega)
  refine rs 5 [none, none, none, some ⟨.iptr (fl s) ((t8q7).toNat * 3), [], 0, []⟩, some ⟨.agg (Enc.cells (ix s t8q7)), [], 0, []⟩] _ (by kernel_rfl) (allP_cons (ob_ldw s t8q7 3 ((t8q7).toNat * 3) k1291 rfl (by first | rfl | omega) [iS (ix s t8q7).Task, iS (ix s t8q7).Case, iS (ix s t8q7).Value] rfl 0 []) (allP_cons (ob_ix_l s 3 0 t8q7 k1291) allP_nil)) ?_
  obtain ⟨r1293, hr1293, h⟩ := bind_sx h
  refine run_call 73 [.agg (Enc.cells (ix s t8q7)), .iptr [iS f] 0] (some 16) (by kernel_rfl) ?_
  refine call_0 (pipe_Without_1_spec (ix s t8q7) f r1293 hr1293) (by simp only [push_cast, leL_flD, renL_flD, seval]) (by simp only [push_cast, leL_flD, renL_flD, seval]) ?_
  refine back_f ?_
  refine rf [(0, .sl s.length (fl s)), (1, .clo 73 [.iptr [iS f] 0]), (5, iS t8q7), (7, iS ((s.length : Nat) : Int)), (8, iS t8q7), (16, bS r1293)] [] 0 (by kernel_rfl) ?_
  refine wk_id ?_
  refine cond_sx h (by kernel_rfl) (fun g1294 h => ?_) (fun g1294 h => ?_)
  ·refine seq_np ?_
   refine reg_f ?_
   refine rs 2 [] [] (by kernel_rfl) allP_nil ?_
   refine rf [(4, iS t8q7)] [] 0 (by kernel_rfl) ?_
   refine wk_id ?_
   refine rt_cast ht2 ?_
   obtain ⟨r0, h, e0⟩ := map_sx h
   have e1 := hr2 r0 e0.symm
   subst r0
   obtain rfl := Option.some.inj h
   refine ret_at (iS t8q7) (by kernel_rfl) ?_
   exact ret_e [] [] (by simp only [push_cast, leL_flD, renL_flD, seval]) (by simp only [push_cast, leL_flD, renL_flD, seval]) rfl rfl rfl
  ·refine wk_id ?_
   refine wk_id ?_
   refine reg_f ?_
   refine rs 2 [] [] (by kernel_rfl) allP_nil ?_
   refine rf [(0, .sl s.length (fl s)), (1, .clo 73 [.iptr [iS f] 0]), (7, iS ((s.length : Nat) : Int)), (8, iS (IntKind.i64.wrap (t8q7 + 1)))] [] 0 (by kernel_rfl) ?_
   exact hn2 ((IntKind.i64.wrap (t8q7 + 1))) _ _ _ (Option.some.inj h).symm (leSt_m [] [] (by simp only [push_cast, leL_flD, renL_flD, seval]) (by simp only [push_cast, leL_flD, renL_flD, seval]) rfl rfl rfl)
 ·change R2 (.exit 0) _ _ _
  refine ex_cast hx2 (id := 0) ?_
  obtain ⟨r0, h, e0⟩ := map_sx h
  have e1 := hr2 r0 e0.symm
  subst r0
  refine wk_id ?_
  refine wk_id ?_
  refine seq_np ?_
  refine reg_f ?_
  refine rs 1 [] [] (by kernel_rfl) allP_nil ?_
  refine rf [(4, iS (-1))] [] 0 (by kernel_rfl) ?_
  refine wk_id ?_
  obtain rfl := Option.some.inj h
  refine ret_at (iS (-1)) (by kernel_rfl) ?_
  exact ret_e [] [] (by simp only [push_cast, leL_flD, renL_flD, seval]) (by simp only [push_cast, leL_flD, renL_flD, seval]) rfl rfl rfl

set_option maxRecDepth 100000 in
set_option maxHeartbeats 200000000 in
theorem slices_DeleteFunc_Post_2_spec (c0 : (List GPost)) (c1 : Int) (r : (List GPost) × Int) (h : slices_DeleteFunc_Post_2 c0 c1 = some r) : SpecW Try.prog 74 [.own 0 0 c0.length, .clo 73 [.ptr 1 0]] [(0, .row 92 (fl c0)), (1, .row 3 [iS c1])] 2 (fun x h n => x = .own 2 0 r.1.length ∧ h = [(0, .dead), (1, .row 3 [iS r.2]), (2, .row 92 (fl r.1))] ∧ n = 3) := by
 unfold slices_DeleteFunc_Post_2 at h
 refine spec_of (draw_ok _) Try.func74 rfl (by decide) rfl (by kernel_rfl) ?_
 refine seq_np ?_
 refine reg_f ?_
 refine rs 1 [] [] (by kernel_rfl) allP_nil ?_
 refine rf [(0, .own 0 0 c0.length), (1, .clo 73 [.ptr 1 0])] [(0, .row 92 (fl c0)), (1, .row 3 [iS c1])] 2 (by kernel_rfl) ?_
 refine wk_id ?_
 refine seq_np ?_
 refine reg_f ?_
 refine rs 2 [] [] (by kernel_rfl) allP_nil ?_
 obtain ⟨r1350, hr1350, h⟩ := bind_sx h
 refine call_x (slices_IndexFunc_Post_1_spec c0 c1 r1350 hr1350) (args := [.own 0 0 c0.length, .clo 73 [.ptr 1 0]]) (dst := (some 10)) (by kernel_rfl) [(0, .row 92 (fl c0)), (1, .row 3 [iS c1])] 2 (by kernel_rfl) [] [0, 1] (iS r1350) [] (by simp only [push_cast, leL_flD, renL_flD, seval]) (by simp only [push_cast, leL_flD, renL_flD, seval]) (by kernel_rfl) (.inr ⟨by simp only [push_cast, leL_flD, renL_flD, seval], by simp only [push_cast, leL_flD, renL_flD, seval]⟩) (by simp only [push_cast, leL_flD, renL_flD, seval]) (by simp only [push_cast, leL_flD, renL_flD, seval]) ?_
 refine rs 1 [] [] (by kernel_rfl) allP_nil ?_
 refine rf [(0, .own 0 0 c0.length), (1, .clo 73 [.ptr 1 0]), (5, iS r1350)] [(0, .row 92 (fl c0)), (1, .row 3 [iS c1])] 2 (by kernel_rfl) ?_
 refine wk_id ?_
 refine seq_np ?_
 refine seq_np ?_
 refine reg_f ?_
 refine rs 2 [] [] (by kernel_rfl) allP_nil ?_
 refine rf [(0, .own 0 0 c0.length), (1, .clo 73 [.ptr 1 0]), (5, iS r1350), (12, bS (r1350 == (-1)))] [(0, .row 92 (fl c0)), (1, .row 3 [iS c1])] 2 (by kernel_rfl) ?_
 refine wk_id ?_
 refine cond_sx h (by kernel_rfl) (fun g1470 h => ?_) (fun g1470 h => ?_)
 ·refine seq_np ?_
  refine reg_f ?_
  refine rs 2 [] [] (by kernel_rfl) allP_nil ?_
  refine rf [(4, .own 0 0 c0.length)] [(0, .row 92 (fl c0)), (1, .row 3 [iS c1])] 2 (by kernel_rfl) ?_
  refine wk_id ?_
  obtain rfl := Option.some.inj h
  refine ret_at (.own 0 0 c0.length) (by kernel_rfl) ?_
  exact ret_e [(1, 1), (2, 0)] [] (by simp only [push_cast, leL_flD, renL_flD, seval]) (by simp only [push_cast, leL_flD, renL_flD, seval]) rfl rfl rfl
 ·refine wk_id ?_
  refine seq_np ?_
  refine seq_np ?_
  refine reg_f ?_
  refine rs 3 [] [] (by kernel_rfl) allP_nil ?_
  refine rf [(0, .own 0 0 c0.length), (1, .clo 73 [.ptr 1 0]), (5, iS r1350), (6, iS (IntKind.i64.wrap (r1350 + 1)))] [(0, .row 92 (fl c0)), (1, .row 3 [iS c1])] 2 (by kernel_rfl) ?_
  refine wk_id ?_
  refine block_np ?_
  refine loop_sx (S := Int × Int × (List GPost)) (fun a => ([(0, .own 0 0 a.2.2.length), (1, .clo 73 [.ptr 1 0]), (5, iS a.1), (6, iS a.2.1)], [(0, .row 92 (fl a.2.2)), (1, .row 3 [iS c1])], 2)) h (leSt_m [(0, 0), (1, 1)] [] (by simp only [push_cast, leL_flD, renL_flD, seval]) (by simp only [push_cast, leL_flD, renL_flD, seval]) rfl rfl rfl) ?_
  rintro ⟨i22, j11, c0q19⟩ o2 R2 h hr2 hn2 hx2 ht2
  try dsimp only at h hn2 ⊢
  unfold slices_DeleteFunc_Post_2_l1 at h
  try dsimp only at h
  refine seq_np ?_
  refine seq_np ?_
  refine reg_f ?_
  refine rs 4 [] [] (by kernel_rfl) allP_nil ?_
  refine rf [(0, .own 0 0 c0q19.length), (1, .clo 73 [.ptr 1 0]), (5, iS i22), (6, iS j11), (19, bS (decide (j11 < ((c0q19.length : Nat) : Int))))] [(0, .row 92 (fl c0q19)), (1, .row 3 [iS c1])] 2 (by kernel_rfl) ?_
  refine wk_id ?_
  refine cond_sx h (by kernel_rfl) (fun g1469 h => ?_) (fun g1469 h => ?_)
  ·refine wk_id ?_
   refine seq_np ?_
   refine block_cut (A := Int × (List GPost)) (fun a => ([(0, .own 0 0 a.2.length), (1, .clo 73 [.ptr 1 0]), (5, iS a.1), (6, iS j11)], [(0, .row 92 (fl a.2)), (1, .row 3 [iS c1])], 2)) (fun a => (slices_DeleteFunc_Post_2_j1 c1 j11 a.1 a.2) = some o2) (fun K1443 hK1443 => ?_) ?_
   ·refine chk_sx h (fun g1447 h => ?_)
    refine seq_np ?_
    refine reg_f ?_
    have k1446 : 0 ≤ j11 ∧ j11 < ((c0q19.length : Nat) : Int) := by first | simpa only [Bool.and_eq_true, decide_eq_true_eq, bne_iff_ne, ne_eq] using g1447 | (simp at g1447 ⊢; omega)
    refine rs 6 [none, none, some ⟨.ptr 0 (0 + (j11).toNat * 3), [], 2, [0]⟩, some ⟨.agg (Enc.cells (ix c0q19 j11)), [], 2, [0]⟩] _ (by kernel_rfl) (allP_cons (ob_ldw c0q19 j11 3 (0 + (j11).toNat * 3) k1446 rfl (by first | rfl | omega) [iS (ix c0q19 j11).Task, iS (ix c0q19 j11).Case, iS (ix c0q19 j11).Value] rfl 2 [0]) (allP_cons (ob_ix_o 0 c0q19.length 0 3 2 j11 k1446) allP_nil)) ?_
    refine rf [(0, .own 0 0 c0q19.length), (1, .clo 73 [.ptr 1 0]), (5, iS i22), (6, iS j11), (7, .ptr 2 0)] [(0, .row 92 (fl c0q19)), (1, .row 3 [iS c1]), (2, .row 92 (Enc.cells (ix c0q19 j11)))] 3 (by kernel_rfl) ?_
    refine wk_id ?_
    refine seq_np ?_
    refine reg_f ?_
    refine rs 2 [] [] (by kernel_rfl) allP_nil ?_
    obtain ⟨r1449, hr1449, h⟩ := bind_sx h
    refine call_x (pipe_Without_1_spec (ix c0q19 j11) c1 r1449 hr1449) (args := [.agg (Enc.cells (ix c0q19 j11)), .ptr 1 0]) (dst := (some 28)) (by kernel_rfl) [(0, .row 92 (fl c0q19)), (1, .row 3 [iS c1]), (2, .row 92 (Enc.cells (ix c0q19 j11)))] 3 (by kernel_rfl) [] [1] (bS r1449) [] (by simp only [push_cast, leL_flD, renL_flD, seval]) (by simp only [push_cast, leL_flD, renL_flD, seval]) (by kernel_rfl) (.inr ⟨by simp only [push_cast, leL_flD, renL_flD, seval], by simp only [push_cast, leL_flD, renL_flD, seval]⟩) (by simp only [push_cast, leL_flD, renL_flD, seval]) (by simp only [push_cast, leL_flD, renL_flD, seval]) ?_
    refine rs 1 [] [] (by kernel_rfl) allP_nil ?_
    refine rf [(0, .own 0 0 c0q19.length), (1, .clo 73 [.ptr 1 0]), (5, iS i22), (6, iS j11), (7, .ptr 2 0), (29, bS (!r1449))] [(0, .row 92 (fl c0q19)), (1, .row 3 [iS c1]), (2, .row 92 (Enc.cells (ix c0q19 j11)))] 3 (by kernel_rfl) ?_
    refine wk_id ?_
    refine cond_sx h (by kernel_rfl) (fun g1454 h => ?_) (fun g1454 h => ?_)
    ·refine chk_sx h (fun g1453 h => ?_)
     refine seq_np ?_
     refine reg_f ?_
     have k1452 : 0 ≤ i22 ∧ i22 < ((c0q19.length : Nat) : Int) := by first | simpa only [Bool.and_eq_true, decide_eq_true_eq, bne_iff_ne, ne_eq] using g1453 | (simp at g1453 ⊢; omega)
     refine rs 5 [none, none, none, some ⟨.ptr 0 (0 + (i22).toNat * 3), [], 3, [0]⟩, some ⟨.any, [(0, .row 92 (fl (c0q19.set i22.toNat ((ix c0q19 j11) : GPost))))], 3, [0]⟩] _ (by kernel_rfl) (allP_cons (ob_st (P := Try.prog) c0q19 i22 3 0 (0 + (i22).toNat * 3) k1452 rfl [iS (ix c0q19 j11).Task, iS (ix c0q19 j11).Case, iS (ix c0q19 j11).Value] ((ix c0q19 j11) : GPost) (Nat.le_of_ble_eq_true rfl) (by first | rfl | omega) rfl 0 3 92 92 (by kernel_rfl) rfl) (allP_cons (ob_ix_o 0 c0q19.length 0 3 3 i22 k1452) allP_nil)) ?_
     refine run_eqF 0 (.own 0 0 c0q19.length) (.own 0 0 (c0q19.set i22.toNat ((ix c0q19 j11) : GPost)).length) (congrArg (fun nq => (.own 0 0 nq : SV)) (show c0q19.length = (c0q19.set i22.toNat ((ix c0q19 j11) : GPost)).length from (List.length_set ..).symm)) (by kernel_rfl) ?_
     refine rf [(0, .own 0 0 (c0q19.set i22.toNat ((ix c0q19 j11) : GPost)).length), (1, .clo 73 [.ptr 1 0]), (5, iS i22), (6, iS j11)] [(0, .row 92 (fl (c0q19.set i22.toNat ((ix c0q19 j11) : GPost)))), (1, .row 3 [iS c1]), (2, .row 92 (Enc.cells (ix c0q19 j11)))] 3 (by kernel_rfl) ?_
     refine wk_id ?_
     refine reg_f ?_
     refine rs 3 [] [] (by kernel_rfl) allP_nil ?_
     refine rf [(0, .own 0 0 (c0q19.set i22.toNat ((ix c0q19 j11) : GPost)).length), (1, .clo 73 [.ptr 1 0]), (5, iS (IntKind.i64.wrap (i22 + 1))), (6, iS j11)] [(0, .row 92 (fl (c0q19.set i22.toNat ((ix c0q19 j11) : GPost)))), (1, .row 3 [iS c1]), (2, .row 92 (Enc.cells (ix c0q19 j11)))] 3 (by kernel_rfl) ?_
     exact hK1443 ((IntKind.i64.wrap (i22 + 1)), (c0q19.set i22.toNat ((ix c0q19 j11) : GPost))) _ _ _ h (leSt_m [(0, 0), (1, 1)] [] (by simp only [push_cast, leL_flD, renL_flD, seval]) (by simp only [push_cast, leL_flD, renL_flD, seval]) rfl rfl rfl)
    ·exact hK1443 (i22, c0q19) _ _ _ h (leSt_m [(0, 0), (1, 1)] [] (by simp only [push_cast, leL_flD, renL_flD, seval]) (by simp only [push_cast, leL_flD, renL_flD, seval]) rfl rfl rfl)
   ·rintro ⟨i24, c0q21⟩ h
    try dsimp only at h ⊢
    unfold slices_DeleteFunc_Post_2_j1 at h
    refine wk_id ?_
    refine reg_f ?_
    refine rs 3 [] [] (by kernel_rfl) allP_nil ?_
    refine rf [(0, .own 0 0 c0q21.length), (1, .clo 73 [.ptr 1 0]), (5, iS i24), (6, iS (IntKind.i64.wrap (j11 + 1)))] [(0, .row 92 (fl c0q21)), (1, .row 3 [iS c1])] 2 (by kernel_rfl) ?_
    exact hn2 (i24, (IntKind.i64.wrap (j11 + 1)), c0q21) _ _ _ (Option.some.inj h).symm (leSt_m [(0, 0), (1, 1)] [] (by simp only [push_cast, leL_flD, renL_flD, seval]) (by simp only [push_cast, leL_flD, renL_flD, seval]) rfl rfl rfl)
  ·change R2 (.exit 0) _ _ _
   refine ex_cast hx2 (id := 0) ?_
   obtain ⟨r0, h, e0⟩ := map_sx h
   have e1 := hr2 r0 e0.symm
   subst r0
   refine wk_id ?_
   refine wk_id ?_
   refine chk_sx h (fun g1461 h => ?_)
   refine seq_np ?_
   refine reg_f ?_
   have k1460 : 0 ≤ i22 ∧ i22 ≤ ((c0q19.length : Nat) : Int) ∧ ((c0q19.length : Nat) : Int) ≤ ((c0q19.length : Nat) : Int) := by first | simpa only [Bool.and_eq_true, decide_eq_true_eq, bne_iff_ne, ne_eq] using g1461 | (simp at g1461 ⊢; omega)
   have f1462 : (cut c0q19 i22 ((c0q19.length : Nat) : Int)).length = (((c0q19.length : Nat) : Int)).toNat - (i22).toNat ∧ 0 ≤ i22 ∧ i22 ≤ ((c0q19.length : Nat) : Int) ∧ ((c0q19.length : Nat) : Int) ≤ ((c0q19.length : Nat) : Int) := ⟨cut_len _ _ _ k1460, k1460⟩
   refine rs 3 [none, none, some ⟨.own 0 ((i22).toNat * 3) (cut c0q19 i22 ((c0q19.length : Nat) : Int)).length, [], 2, [0]⟩] _ (by kernel_rfl) (allP_cons (ob_cutP (P := Try.prog) c0q19 i22 ((c0q19.length : Nat) : Int) 3 2 0 92 (by kernel_rfl) k1460) allP_nil) ?_
   have k1463 : (wipe c0q19 i22 ((c0q19.length : Nat) : Int)).length = c0q19.length := wipe_len (by omega)
   refine run_clr c0q19 none 0 ((i22).toNat * 3) (cut c0q19 i22 ((c0q19.length : Nat) : Int)).length 3 92 [.v (.int .i64 0), .v (.int .i64 0), .v (.int .i64 0)] i22 ((c0q19.length : Nat) : Int) (by kernel_rfl) rfl rfl (by decide) (by first | rfl | simp) f1462 ?_
   have f1464 : (cut c0q19 i22 ((c0q19.length : Nat) : Int)).length = (((c0q19.length : Nat) : Int)).toNat - (i22).toNat ∧ 0 ≤ i22 ∧ i22 ≤ ((c0q19.length : Nat) : Int) ∧ ((c0q19.length : Nat) : Int) ≤ (((wipe c0q19 i22 ((c0q19.length : Nat) : Int)).length : Nat) : Int) := ⟨f1462.1, f1462.2.1, f1462.2.2.1, by rw [k1463]; exact f1462.2.2.2⟩
   refine run_eqF 0 (.own 0 0 c0q19.length) (.own 0 0 (wipe c0q19 i22 ((c0q19.length : Nat) : Int)).length) (congrArg (fun nq => (.own 0 0 nq : SV)) (show c0q19.length = (wipe c0q19 i22 ((c0q19.length : Nat) : Int)).length from k1463.symm)) (by kernel_rfl) ?_
   refine rf [(0, .own 0 0 (wipe c0q19 i22 ((c0q19.length : Nat) : Int)).length), (5, iS i22)] [(0, .row 92 (fl (wipe c0q19 i22 ((c0q19.length : Nat) : Int)))), (1, .row 3 [iS c1])] 2 (by kernel_rfl) ?_
   refine wk_id ?_
   refine chk_sx h (fun g1468 h => ?_)
   refine seq_np ?_
   refine reg_f ?_
   have k1467 : 0 ≤ (0 : Int) ∧ (0 : Int) ≤ i22 ∧ i22 ≤ (((wipe c0q19 i22 ((c0q19.length : Nat) : Int)).length : Nat) : Int) := by first | simpa only [Bool.and_eq_true, decide_eq_true_eq, bne_iff_ne, ne_eq] using g1468 | (simp at g1468 ⊢; omega)
   refine rs 2 [] [] (by kernel_rfl) allP_nil ?_
   refine run_cutO (wipe c0q19 i22 ((c0q19.length : Nat) : Int)) (some 41) 0 3 92 (0 : Int) i22 (by kernel_rfl) rfl k1467 ?_
   refine rs 1 [] [] (by kernel_rfl) allP_nil ?_
   refine rf [(4, .own 2 0 (cut (wipe c0q19 i22 ((c0q19.length : Nat) : Int)) (0 : Int) i22).length)] [(0, .dead), (1, .row 3 [iS c1]), (2, .row 92 (fl (cut (wipe c0q19 i22 ((c0q19.length : Nat) : Int)) (0 : Int) i22)))] 3 (by kernel_rfl) ?_
   refine wk_id ?_
   obtain rfl := Option.some.inj h
   refine ret_at (.own 2 0 (cut (wipe c0q19 i22 ((c0q19.length : Nat) : Int)) (0 : Int) i22).length) (by kernel_rfl) ?_
   exact ret_e [(1, 1), (2, 2)] [] (by simp only [push_cast, leL_flD, renL_flD, seval]) (by simp only [push_cast, leL_flD, renL_flD, seval]) rfl rfl rfl

set_option maxRecDepth 100000 in
set_option maxHeartbeats 200000000 in
theorem pipe_Without_spec (pp : Int) (task : Int) (c0 : (List Pipe)) (r : (List Pipe)) (h : pipe_Without pp task c0 = some r) : SpecW Try.prog 66 [.ptr 0 (0 + (pp).toNat * 5), iS task] [(0, .row 57 (flD dPipe [1, 2, 3] c0)), ((.s 1 0), .fam (famD dPipe 0 c0)), ((.s 2 0), .fam (famD dPipe 1 c0)), ((.s 3 0), .fam (famD dPipe 2 c0))] 4 (fun x h n => x = .tup [] ∧ h = [(0, .row 57 (flD dPipe [1, 4, 5] r)), ((.s 1 0), .fam (famD dPipe 0 r)), ((.s 2 0), .dead), ((.s 3 0), .dead), ((.s 4 0), .fam (famD dPipe 1 r)), ((.s 5 0), .fam (famD dPipe 2 r))] ∧ n = 6) := by
 unfold pipe_Without at h
 refine spec_of (draw_ok _) Try.func66 rfl (by decide) rfl (by kernel_rfl) ?_
 refine chk_sx h (fun g1219 h => ?_)
 have k1218 : 0 ≤ pp ∧ pp < ((c0.length : Nat) : Int) := of_decide_eq_true g1219
 refine seq_np ?_
 refine reg_f ?_
 refine rs 1 [] [] (by kernel_rfl) allP_nil ?_
 refine rf [(0, .ptr 0 (0 + (pp).toNat * 5)), (3, .ptr 4 0)] [(0, .row 57 (flD dPipe [1, 2, 3] c0)), ((.s 1 0), .fam (famD dPipe 0 c0)), ((.s 2 0), .fam (famD dPipe 1 c0)), ((.s 3 0), .fam (famD dPipe 2 c0)), (4, .row 3 [iS task])] 5 (by kernel_rfl) ?_
 refine wk_id ?_
 refine seq_np ?_
 refine reg_f ?_
 refine rs 2 [] [] (by kernel_rfl) allP_nil ?_
 refine rf [(0, .ptr 0 (0 + (pp).toNat * 5)), (4, .clo 73 [.ptr 4 0])] [(0, .row 57 (flD dPipe [1, 2, 3] c0)), ((.s 1 0), .fam (famD dPipe 0 c0)), ((.s 2 0), .fam (famD dPipe 1 c0)), ((.s 3 0), .fam (famD dPipe 2 c0)), (4, .row 3 [iS task])] 5 (by kernel_rfl) ?_
 refine wk_id ?_
 refine reg_t ?_
 refine rs 7 [none, none, none, none, none, some ⟨.own (.s 2 pp) 0 (ixD c0 pp).Senders.length, [], 10, [0]⟩] _ (by kernel_rfl) (allP_cons (ob_ldD dPipe [1, 2, 3] c0 pp 5 3 ((0 + (pp).toNat * 5) + 3) k1218 rfl (by decide) (by first | rfl | omega) (dflS Try.prog 55) (.own (.s 2 pp) 0 (ixD c0 pp).Senders.length) rfl 10 [0]) allP_nil) ?_
 obtain ⟨r1475, hr1475, h⟩ := bind_sx h
 refine call_x (slices_DeleteFunc_Post_2_spec (ixD c0 pp).Senders task r1475 hr1475) (args := [.own (.s 2 pp) 0 (ixD c0 pp).Senders.length, .clo 73 [.ptr 4 0]]) (dst := (some 13)) (by kernel_rfl) [(0, .row 57 (flD dPipe [1, 2, 3] c0)), ((.s 1 0), .fam (famD dPipe 0 c0)), ((.s 2 0), .fam (famD dPipe 1 c0)), ((.s 3 0), .fam (famD dPipe 2 c0)), (4, .row 3 [iS task])] 12 (by kernel_rfl) [(0, (.s 2 pp)), (1, 4)] [] (.own 14 0 r1475.1.length) [((.s 2 0), .fam (upI (famD dPipe 1 c0) pp (.dead))), (4, .row 3 [iS r1475.2]), (14, .row 92 (fl r1475.1)), ((.s 2 0), .fam (upI (famD dPipe 1 c0) pp (.dead))), (4, .dead)] (by simp only [push_cast, leL_flD, renL_flD, seval]) (by simp only [push_cast, leL_flD, renL_flD, seval]) (by kernel_rfl) (.inl rfl) (by first | (simp only [push_cast, leL_flD, renL_flD, seval]; done) | (simp only [push_cast, leL_flD, renL_flD, seval]; kernel_rfl) | kernel_rfl) (by first | (simp only [push_cast, leL_flD, renL_flD, seval]; done) | (simp only [push_cast, leL_flD, renL_flD, seval]; kernel_rfl) | kernel_rfl) ?_
 refine rs 5 [none, none, none, some ⟨.own (.s 3 pp) 0 (ixD c0 pp).Getters.length, [], 19, [0]⟩] _ (by kernel_rfl) (allP_cons (ob_ldD dPipe [1, 2, 3] c0 pp 5 4 ((0 + (pp).toNat * 5) + 4) k1218 rfl (by decide) (by first | rfl | omega) (dflS Try.prog 55) (.own (.s 3 pp) 0 (ixD c0 pp).Getters.length) rfl 19 [0]) allP_nil) ?_
 obtain ⟨r1476, hr1476, h⟩ := bind_sx h
 refine call_x (slices_DeleteFunc_Post_2_spec (ixD c0 pp).Getters r1475.2 r1476 hr1476) (args := [.own (.s 3 pp) 0 (ixD c0 pp).Getters.length, .clo 73 [.ptr 4 0]]) (dst := (some 19)) (by kernel_rfl) [(0, .row 57 (flD dPipe [1, 2, 3] c0)), ((.s 1 0), .fam (famD dPipe 0 c0)), ((.s 2 0), .fam (upI (famD dPipe 1 c0) pp (.dead))), ((.s 3 0), .fam (famD dPipe 2 c0)), (4, .row 3 [iS r1475.2]), (14, .row 92 (fl r1475.1))] 21 (by kernel_rfl) [(0, (.s 3 pp)), (1, 4)] [] (.own 23 0 r1476.1.length) [((.s 3 0), .fam (upI (famD dPipe 2 c0) pp (.dead))), (4, .row 3 [iS r1476.2]), (23, .row 92 (fl r1476.1)), ((.s 3 0), .fam (upI (famD dPipe 2 c0) pp (.dead))), (4, .dead)] (by simp only [push_cast, leL_flD, renL_flD, seval]) (by simp only [push_cast, leL_flD, renL_flD, seval]) (by kernel_rfl) (.inl rfl) (by first | (simp only [push_cast, leL_flD, renL_flD, seval]; done) | (simp only [push_cast, leL_flD, renL_flD, seval]; kernel_rfl) | kernel_rfl) (by first | (simp only [push_cast, leL_flD, renL_flD, seval]; done) | (simp only [push_cast, leL_flD, renL_flD, seval]; kernel_rfl) | kernel_rfl) ?_
 refine rs 2 [] [] (by kernel_rfl) allP_nil ?_
 refine run_opGb none _ ⟨.any, [(0, .row 57 (flN dPipe (nA [(some 1), (some 2), (some 3)] [(some (.s 1 pp)), (some (Nm.t 14)), (some (.s 3 pp))] pp) 0 (c0.set pp.toNat ({ (ixD c0 pp) with Senders := r1475.1 } : Pipe))))], 27, [0]⟩ [((.s 27 0), .fam (famD dPipe 1 (c0.set pp.toNat ({ (ixD c0 pp) with Senders := r1475.1 } : Pipe)))), (0, .row 57 (flD dPipe [1, 27, 3] (c0.set pp.toNat ({ (ixD c0 pp) with Senders := r1475.1 } : Pipe)))), ((.s 2 0), .dead), (14, .dead)] 1 [0, (.s 2 0), 14] [(.s 2 0), 14] (by kernel_rfl) (ob_stN (P := Try.prog) dPipe [1, 2, 3] [(some (.s 1 pp)), (some (Nm.t 14)), (some (.s 3 pp))] c0 pp 5 3 ((0 + (pp).toNat * 5) + 3) k1218 rfl [.own 14 0 r1475.1.length] ({ (ixD c0 pp) with Senders := r1475.1 } : Pipe) (Nat.le_of_ble_eq_true rfl) (by first | rfl | omega) rfl rfl 0 27 57 55 (by kernel_rfl) rfl) (ghost_A 27 dPipe (c0.set pp.toNat ({ (ixD c0 pp) with Senders := r1475.1 } : Pipe)) 0 57 [(some 1), (some 2), (some 3)] [(some (.s 1 pp)), (some (Nm.t 14)), (some (.s 3 pp))] pp (flD dPipe [1, 27, 3] (c0.set pp.toNat ({ (ixD c0 pp) with Senders := r1475.1 } : Pipe))) 1 (some 2) (some 14) (by kernel_rfl) (flN_done dPipe [1, 27, 3] pp (c0.set pp.toNat ({ (ixD c0 pp) with Senders := r1475.1 } : Pipe)) rfl) (by kernel_rfl) ⟨_, (by kernel_rfl), (off_hole c0 pp ({ (ixD c0 pp) with Senders := r1475.1 } : Pipe) k1218 (.dead))⟩ (S_set (fun a => getH _ (.t 14) = chD dPipe 1 a) k1218 rfl)) (by kernel_rfl) (And.intro (born_fam (upI (famD dPipe 1 c0) pp (.dead)) (by kernel_rfl)) (And.intro (by kernel_rfl) trivial)) ?_
 refine run_eqS 3 (upI (famD dPipe 2 c0) pp (.dead)) (upI (famD dPipe 2 (c0.set pp.toNat ({ (ixD c0 pp) with Senders := r1475.1 } : Pipe))) pp (.dead)) (congrArg (fun g => upI g pp (.dead)) (famD_same k1218 ({ (ixD c0 pp) with Senders := r1475.1 } : Pipe) rfl)) (by kernel_rfl) ?_
 refine run_eqS 1 (famD dPipe 0 c0) (famD dPipe 0 (c0.set pp.toNat ({ (ixD c0 pp) with Senders := r1475.1 } : Pipe))) (famD_same k1218 ({ (ixD c0 pp) with Senders := r1475.1 } : Pipe) rfl) (by kernel_rfl) ?_
 refine rn 17 [(7, .ptr 0 (0 + (pp).toNat * 5)), (19, .own 23 0 r1476.1.length)] [(0, .row 57 (flD dPipe [1, 27, 3] (c0.set pp.toNat ({ (ixD c0 pp) with Senders := r1475.1 } : Pipe)))), ((.s 1 0), .fam (famD dPipe 0 (c0.set pp.toNat ({ (ixD c0 pp) with Senders := r1475.1 } : Pipe)))), ((.s 2 0), .dead), ((.s 3 0), .fam (upI (famD dPipe 2 (c0.set pp.toNat ({ (ixD c0 pp) with Senders := r1475.1 } : Pipe))) pp (.dead))), (4, .row 3 [iS r1476.2]), (14, .dead), (23, .row 92 (fl r1476.1)), ((.s 27 0), .fam (famD dPipe 1 (c0.set pp.toNat ({ (ixD c0 pp) with Senders := r1475.1 } : Pipe))))] 29 (by kernel_rfl) ?_
 refine rs 2 [] [] (by kernel_rfl) allP_nil ?_
 refine run_opGb none _ ⟨.any, [(0, .row 57 (flN dPipe (nA [(some 1), (some 27), (some 3)] [(some (.s 1 pp)), (some (.s 27 pp)), (some (Nm.t 23))] pp) 0 ((c0.set pp.toNat ({ (ixD c0 pp) with Senders := r1475.1 } : Pipe)).set pp.toNat ({ (ixD (c0.set pp.toNat ({ (ixD c0 pp) with Senders := r1475.1 } : Pipe)) pp) with Getters := r1476.1 } : Pipe))))], 31, [0]⟩ [((.s 31 0), .fam (famD dPipe 2 ((c0.set pp.toNat ({ (ixD c0 pp) with Senders := r1475.1 } : Pipe)).set pp.toNat ({ (ixD (c0.set pp.toNat ({ (ixD c0 pp) with Senders := r1475.1 } : Pipe)) pp) with Getters := r1476.1 } : Pipe)))), (0, .row 57 (flD dPipe [1, 27, 31] ((c0.set pp.toNat ({ (ixD c0 pp) with Senders := r1475.1 } : Pipe)).set pp.toNat ({ (ixD (c0.set pp.toNat ({ (ixD c0 pp) with Senders := r1475.1 } : Pipe)) pp) with Getters := r1476.1 } : Pipe)))), ((.s 3 0), .dead), (23, .dead)] 1 [0, (.s 3 0), 23] [(.s 3 0), 23] (by kernel_rfl) (ob_stN (P := Try.prog) dPipe [1, 27, 3] [(some (.s 1 pp)), (some (.s 27 pp)), (some (Nm.t 23))] (c0.set pp.toNat ({ (ixD c0 pp) with Senders := r1475.1 } : Pipe)) pp 5 4 ((0 + (pp).toNat * 5) + 4) (by rw [List.length_set]; exact k1218) rfl [.own 23 0 r1476.1.length] ({ (ixD (c0.set pp.toNat ({ (ixD c0 pp) with Senders := r1475.1 } : Pipe)) pp) with Getters := r1476.1 } : Pipe) (Nat.le_of_ble_eq_true rfl) (by first | rfl | omega) rfl rfl 0 31 57 55 (by kernel_rfl) rfl) (ghost_A 31 dPipe ((c0.set pp.toNat ({ (ixD c0 pp) with Senders := r1475.1 } : Pipe)).set pp.toNat ({ (ixD (c0.set pp.toNat ({ (ixD c0 pp) with Senders := r1475.1 } : Pipe)) pp) with Getters := r1476.1 } : Pipe)) 0 57 [(some 1), (some 27), (some 3)] [(some (.s 1 pp)), (some (.s 27 pp)), (some (Nm.t 23))] pp (flD dPipe [1, 27, 31] ((c0.set pp.toNat ({ (ixD c0 pp) with Senders := r1475.1 } : Pipe)).set pp.toNat ({ (ixD (c0.set pp.toNat ({ (ixD c0 pp) with Senders := r1475.1 } : Pipe)) pp) with Getters := r1476.1 } : Pipe))) 2 (some 3) (some 23) (by kernel_rfl) (flN_done dPipe [1, 27, 31] pp ((c0.set pp.toNat ({ (ixD c0 pp) with Senders := r1475.1 } : Pipe)).set pp.toNat ({ (ixD (c0.set pp.toNat ({ (ixD c0 pp) with Senders := r1475.1 } : Pipe)) pp) with Getters := r1476.1 } : Pipe)) rfl) (by kernel_rfl) ⟨_, (by kernel_rfl), (off_hole (c0.set pp.toNat ({ (ixD c0 pp) with Senders := r1475.1 } : Pipe)) pp ({ (ixD (c0.set pp.toNat ({ (ixD c0 pp) with Senders := r1475.1 } : Pipe)) pp) with Getters := r1476.1 } : Pipe) (by rw [List.length_set]; exact k1218) (.dead))⟩ (S_set (fun a => getH _ (.t 23) = chD dPipe 2 a) (by rw [List.length_set]; exact k1218) rfl)) (by kernel_rfl) (And.intro (born_fam (upI (famD dPipe 2 (c0.set pp.toNat ({ (ixD c0 pp) with Senders := r1475.1 } : Pipe))) pp (.dead)) (by kernel_rfl)) (And.intro (by kernel_rfl) trivial)) ?_
 refine run_eqS 1 (famD dPipe 0 (c0.set pp.toNat ({ (ixD c0 pp) with Senders := r1475.1 } : Pipe))) (famD dPipe 0 ((c0.set pp.toNat ({ (ixD c0 pp) with Senders := r1475.1 } : Pipe)).set pp.toNat ({ (ixD (c0.set pp.toNat ({ (ixD c0 pp) with Senders := r1475.1 } : Pipe)) pp) with Getters := r1476.1 } : Pipe))) (famD_same (by rw [List.length_set]; exact k1218) ({ (ixD (c0.set pp.toNat ({ (ixD c0 pp) with Senders := r1475.1 } : Pipe)) pp) with Getters := r1476.1 } : Pipe) rfl) (by kernel_rfl) ?_
 refine run_eqS 27 (famD dPipe 1 (c0.set pp.toNat ({ (ixD c0 pp) with Senders := r1475.1 } : Pipe))) (famD dPipe 1 ((c0.set pp.toNat ({ (ixD c0 pp) with Senders := r1475.1 } : Pipe)).set pp.toNat ({ (ixD (c0.set pp.toNat ({ (ixD c0 pp) with Senders := r1475.1 } : Pipe)) pp) with Getters := r1476.1 } : Pipe))) (famD_same (by rw [List.length_set]; exact k1218) ({ (ixD (c0.set pp.toNat ({ (ixD c0 pp) with Senders := r1475.1 } : Pipe)) pp) with Getters := r1476.1 } : Pipe) rfl) (by kernel_rfl) ?_
 refine rt [] [(0, .row 57 (flD dPipe [1, 27, 31] ((c0.set pp.toNat ({ (ixD c0 pp) with Senders := r1475.1 } : Pipe)).set pp.toNat ({ (ixD (c0.set pp.toNat ({ (ixD c0 pp) with Senders := r1475.1 } : Pipe)) pp) with Getters := r1476.1 } : Pipe)))), ((.s 1 0), .fam (famD dPipe 0 ((c0.set pp.toNat ({ (ixD c0 pp) with Senders := r1475.1 } : Pipe)).set pp.toNat ({ (ixD (c0.set pp.toNat ({ (ixD c0 pp) with Senders := r1475.1 } : Pipe)) pp) with Getters := r1476.1 } : Pipe)))), ((.s 2 0), .dead), ((.s 3 0), .dead), (4, .row 3 [iS r1476.2]), (14, .dead), (23, .dead), ((.s 27 0), .fam (famD dPipe 1 ((c0.set pp.toNat ({ (ixD c0 pp) with Senders := r1475.1 } : Pipe)).set pp.toNat ({ (ixD (c0.set pp.toNat ({ (ixD c0 pp) with Senders := r1475.1 } : Pipe)) pp) with Getters := r1476.1 } : Pipe)))), ((.s 31 0), .fam (famD dPipe 2 ((c0.set pp.toNat ({ (ixD c0 pp) with Senders := r1475.1 } : Pipe)).set pp.toNat ({ (ixD (c0.set pp.toNat ({ (ixD c0 pp) with Senders := r1475.1 } : Pipe)) pp) with Getters := r1476.1 } : Pipe))))] 33 follows (by kernel_rfl) ?_
 obtain rfl := Option.some.inj h
 refine ret_an (.tup []) (by kernel_rfl) ?_
 exact ret_e [(0, 0), ((.s 1 0), (.s 1 0)), ((.s 4 0), (.s 27 0)), ((.s 5 0), (.s 31 0))] [] (by simp only [push_cast, leL_flD, renL_flD, seval]) (by simp only [push_cast, leL_flD, renL_flD, seval]) rfl rfl rfl

set_option maxRecDepth 100000 in
set_option maxHeartbeats 200000000 in
theorem pick_hub_wake_1_spec (c0 : (List Pipe)) (c4 : (List GWake)) (r : (List Pipe) × (List GWake)) (h : pick_hub_wake_1 c0 c4 = some r) : SpecW Try.prog 47 [.own 0 0 c0.length, .own 4 0 c4.length] [(0, .row 57 (flD dPipe [1, 2, 3] c0)), ((.s 1 0), .fam (famD dPipe 0 c0)), ((.s 2 0), .fam (famD dPipe 1 c0)), ((.s 3 0), .fam (famD dPipe 2 c0)), (4, .row 64 (fl c4))] 5 (fun x h n => x = .tup [] ∧ h = [(0, .row 57 (flD dPipe [1, 5, 6] r.1)), ((.s 1 0), .fam (famD dPipe 0 r.1)), ((.s 2 0), .dead), ((.s 3 0), .dead), (4, .row 64 (fl r.2)), ((.s 5 0), .fam (famD dPipe 1 r.1)), ((.s 6 0), .fam (famD dPipe 2 r.1))] ∧ n = 7) := by
 unfold pick_hub_wake_1 at h
 refine spec_of (draw_ok _) Try.func47 rfl (by decide) rfl (by kernel_rfl) ?_
 refine seq_np ?_
 refine reg_f ?_
 refine rs 3 [] [] (by kernel_rfl) allP_nil ?_
 refine rf [(0, .own 0 0 c0.length), (7, .own 4 0 c4.length), (8, iS ((c4.length : Nat) : Int)), (9, iS 0)] [(0, .row 57 (flD dPipe [1, 2, 3] c0)), ((.s 1 0), .fam (famD dPipe 0 c0)), ((.s 2 0), .fam (famD dPipe 1 c0)), ((.s 3 0), .fam (famD dPipe 2 c0)), (4, .row 64 (fl c4))] 5 (by kernel_rfl) ?_
 refine wk_id ?_
 refine block_np ?_
 refine loop_sx (S := Int × (List Pipe)) (fun a => ([(0, .own 0 0 a.2.length), (7, .own 4 0 c4.length), (8, iS ((c4.length : Nat) : Int)), (9, iS a.1)], [(0, .row 57 (flD dPipe [1, 5, 6] a.2)), ((.s 1 0), .fam (famD dPipe 0 a.2)), ((.s 2 0), .dead), ((.s 3 0), .dead), (4, .row 64 (fl c4)), ((.s 5 0), .fam (famD dPipe 1 a.2)), ((.s 6 0), .fam (famD dPipe 2 a.2))], 7)) h (leSt_m [(0, 0), ((.s 1 0), (.s 1 0)), (4, 4), ((.s 5 0), (.s 2 0)), ((.s 6 0), (.s 3 0))] [] (by simp only [push_cast, leL_flD, renL_flD, seval]) (by simp only [push_cast, leL_flD, renL_flD, seval]) rfl rfl rfl) ?_
 rintro ⟨t9q3, c0q15⟩ o3 R3 h hr3 hn3 hx3 ht3
 try dsimp only at h hn3 ⊢
 unfold pick_hub_wake_1_l2 at h
 try dsimp only at h
 refine seq_np ?_
 refine reg_f ?_
 refine rs 1 [] [] (by kernel_rfl) allP_nil ?_
 refine rf [(0, .own 0 0 c0q15.length), (7, .own 4 0 c4.length), (8, iS ((c4.length : Nat) : Int)), (9, iS t9q3), (10, bS (decide (t9q3 < ((c4.length : Nat) : Int))))] [(0, .row 57 (flD dPipe [1, 5, 6] c0q15)), ((.s 1 0), .fam (famD dPipe 0 c0q15)), ((.s 2 0), .dead), ((.s 3 0), .dead), (4, .row 64 (fl c4)), ((.s 5 0), .fam (famD dPipe 1 c0q15)), ((.s 6 0), .fam (famD dPipe 2 c0q15))] 7 (by kernel_rfl) ?_
 refine wk_id ?_
 refine seq_np ?_
 refine cond_sx h (by kernel_rfl) (fun g1684 h => ?_) (fun g1684 h => ?_)
 ·refine wk_id ?_
  refine seq_np ?_
  refine block_np ?_
  refine chk_sx h (fun g1629 h => ?_)
  refine seq_np ?_
  refine reg_f ?_
  have k1628 : 0 ≤ t9q3 ∧ t9q3 < ((c4.length : Nat) : Int) := by first | simpa only [Bool.and_eq_true, decide_eq_true_eq, bne_iff_ne, ne_eq] using g1629 | (simp at g1629 ⊢; omega)
  refine rs 4 [some ⟨.ptr 4 (0 + (t9q3).toNat * 5), [], 7, [4]⟩, some ⟨.agg (Enc.cells (ix c4 t9q3)), [], 7, [4]⟩] _ (by kernel_rfl) (allP_cons (ob_ldw c4 t9q3 5 (0 + (t9q3).toNat * 5) k1628 rfl (by first | rfl | omega) [iS (ix c4 t9q3).Task, iS (ix c4 t9q3).Case, iS (ix c4 t9q3).Value, bS (ix c4 t9q3).Ok, bS (ix c4 t9q3).Panic] rfl 7 [4]) (allP_cons (ob_ix_o 4 c4.length 0 5 7 t9q3 k1628) allP_nil)) ?_
  refine rf [(0, .own 0 0 c0q15.length), (5, .ptr 7 0), (7, .own 4 0 c4.length), (8, iS ((c4.length : Nat) : Int)), (9, iS t9q3)] [(0, .row 57 (flD dPipe [1, 5, 6] c0q15)), ((.s 1 0), .fam (famD dPipe 0 c0q15)), ((.s 2 0), .dead), ((.s 3 0), .dead), (4, .row 64 (fl c4)), ((.s 5 0), .fam (famD dPipe 1 c0q15)), ((.s 6 0), .fam (famD dPipe 2 c0q15)), (7, .row 64 (Enc.cells (ix c4 t9q3)))] 8 (by kernel_rfl) ?_
  refine wk_id ?_
  refine seq_np ?_
  refine reg_f ?_
  refine rs 3 [] [] (by kernel_rfl) allP_nil ?_
  refine rf [(0, .own 0 0 c0q15.length), (5, .ptr 7 0), (7, .own 4 0 c4.length), (8, iS ((c4.length : Nat) : Int)), (9, iS t9q3), (14, iS ((c0q15.length : Nat) : Int)), (15, iS 0)] [(0, .row 57 (flD dPipe [1, 5, 6] c0q15)), ((.s 1 0), .fam (famD dPipe 0 c0q15)), ((.s 2 0), .dead), ((.s 3 0), .dead), (4, .row 64 (fl c4)), ((.s 5 0), .fam (famD dPipe 1 c0q15)), ((.s 6 0), .fam (famD dPipe 2 c0q15)), (7, .row 64 (Enc.cells (ix c4 t9q3)))] 8 (by kernel_rfl) ?_
  refine wk_id ?_
  refine block_np ?_
  refine loop_sx (S := Int × (List Pipe)) (fun a => ([(0, .own 0 0 a.2.length), (5, .ptr 5 0), (7, .own 4 0 c4.length), (8, iS ((c4.length : Nat) : Int)), (9, iS t9q3), (14, iS ((c0q15.length : Nat) : Int)), (15, iS a.1)], [(0, .row 57 (flD dPipe [1, 6, 7] a.2)), ((.s 1 0), .fam (famD dPipe 0 a.2)), ((.s 2 0), .dead), ((.s 3 0), .dead), (4, .row 64 (fl c4)), (5, .row 64 (Enc.cells (ix c4 t9q3))), ((.s 6 0), .fam (famD dPipe 1 a.2)), ((.s 7 0), .fam (famD dPipe 2 a.2))], 8)) h (leSt_m [(0, 0), ((.s 1 0), (.s 1 0)), (4, 4), (5, 7), ((.s 6 0), (.s 5 0)), ((.s 7 0), (.s 6 0))] [] (by simp only [push_cast, leL_flD, renL_flD, seval]) (by simp only [push_cast, leL_flD, renL_flD, seval]) rfl rfl rfl) ?_
  rintro ⟨t15q17, c0q23⟩ o4 R4 h hr4 hn4 hx4 ht4
  try dsimp only at h hn4 ⊢
  unfold pick_hub_wake_1_l1 at h
  try dsimp only at h
  refine seq_np ?_
  refine reg_f ?_
  refine rs 1 [] [] (by kernel_rfl) allP_nil ?_
  refine rf [(0, .own 0 0 c0q23.length), (5, .ptr 5 0), (7, .own 4 0 c4.length), (8, iS ((c4.length : Nat) : Int)), (9, iS t9q3), (14, iS ((c0q15.length : Nat) : Int)), (15, iS t15q17), (16, bS (decide (t15q17 < ((c0q15.length : Nat) : Int))))] [(0, .row 57 (flD dPipe [1, 6, 7] c0q23)), ((.s 1 0), .fam (famD dPipe 0 c0q23)), ((.s 2 0), .dead), ((.s 3 0), .dead), (4, .row 64 (fl c4)), (5, .row 64 (Enc.cells (ix c4 t9q3))), ((.s 6 0), .fam (famD dPipe 1 c0q23)), ((.s 7 0), .fam (famD dPipe 2 c0q23))] 8 (by kernel_rfl) ?_
  refine wk_id ?_
  refine seq_np ?_
  refine cond_sx h (by kernel_rfl) (fun g1683 h => ?_) (fun g1683 h => ?_)
  ·refine wk_id ?_
   refine seq_np ?_
   refine block_np ?_
   refine seq_np ?_
   refine reg_f ?_
   refine rs 2 [] [] (by kernel_rfl) allP_nil ?_
   refine rf [(0, .own 0 0 c0q23.length), (5, .ptr 5 0), (6, iS t15q17), (7, .own 4 0 c4.length), (8, iS ((c4.length : Nat) : Int)), (9, iS t9q3), (14, iS ((c0q15.length : Nat) : Int)), (15, iS t15q17)] [(0, .row 57 (flD dPipe [1, 6, 7] c0q23)), ((.s 1 0), .fam (famD dPipe 0 c0q23)), ((.s 2 0), .dead), ((.s 3 0), .dead), (4, .row 64 (fl c4)), (5, .row 64 (Enc.cells (ix c4 t9q3))), ((.s 6 0), .fam (famD dPipe 1 c0q23)), ((.s 7 0), .fam (famD dPipe 2 c0q23))] 8 (by kernel_rfl) ?_
   refine wk_id ?_
   refine chk_sx h (fun g1679 h => ?_)
   refine reg_t ?_
   have k1678 : 0 ≤ t15q17 ∧ t15q17 < ((c0q23.length : Nat) : Int) := by first | simpa only [Bool.and_eq_true, decide_eq_true_eq, bne_iff_ne, ne_eq] using g1679 | (simp at g1679 ⊢; omega)
   refine rs 5 [none, none, some ⟨.ptr 0 (0 + (t15q17).toNat * 5), [], 10, [0]⟩] _ (by kernel_rfl) (allP_cons (ob_ix_o 0 c0q23.length 0 5 10 t15q17 k1678) allP_nil) ?_
   obtain ⟨r1680, hr1680, h⟩ := bind_sx h
   refine call_x (pipe_Without_spec t15q17 (ix c4 t9q3).Task c0q23 r1680 hr1680) (args := [.ptr 0 (0 + (t15q17).toNat * 5), iS (ix c4 t9q3).Task]) (dst := (some 23)) (by kernel_rfl) [(0, .row 57 (flD dPipe [1, 6, 7] c0q23)), ((.s 1 0), .fam (famD dPipe 0 c0q23)), ((.s 2 0), .dead), ((.s 3 0), .dead), (4, .row 64 (fl c4)), (5, .row 64 (Enc.cells (ix c4 t9q3))), ((.s 6 0), .fam (famD dPipe 1 c0q23)), ((.s 7 0), .fam (famD dPipe 2 c0q23))] 13 (by kernel_rfl) [(0, 0), ((.s 1 0), (.s 1 0)), ((.s 2 0), (.s 6 0)), ((.s 3 0), (.s 7 0))] [] (.tup []) [(0, .row 57 (flD dPipe [1, 17, 18] r1680)), ((.s 1 0), .fam (famD dPipe 0 r1680)), ((.s 6 0), .dead), ((.s 7 0), .dead), ((.s 17 0), .fam (famD dPipe 1 r1680)), ((.s 18 0), .fam (famD dPipe 2 r1680)), (0, .dead), ((.s 1 0), .dead), ((.s 6 0), .dead), ((.s 7 0), .dead)] (by simp only [push_cast, leL_flD, renL_flD, seval]) (by simp only [push_cast, leL_flD, renL_flD, seval]) (by kernel_rfl) (.inl rfl) (by first | (simp only [push_cast, leL_flD, renL_flD, seval]; done) | (simp only [push_cast, leL_flD, renL_flD, seval]; kernel_rfl) | kernel_rfl) (by first | (simp only [push_cast, leL_flD, renL_flD, seval]; done) | (simp only [push_cast, leL_flD, renL_flD, seval]; kernel_rfl) | kernel_rfl) ?_ (hfam := (And.intro trivial (And.intro (fun _ => Or.inl rfl) (And.intro (fun _ => Or.inl rfl) (And.intro (fun _ => Or.inl rfl) trivial)))))
   refine chk_sx h (fun g1682 h => ?_)
   have e1681 : c0q23.length = r1680.length := (of_decide_eq_true g1682).symm
   refine run_eqF 0 (.own 0 0 c0q23.length) (.own 0 0 r1680.length) (congrArg (fun nq => (.own 0 0 nq : SV)) (show c0q23.length = r1680.length from e1681)) (by kernel_rfl) ?_
   refine rt [(0, .own 0 0 r1680.length), (5, .ptr 5 0), (7, .own 4 0 c4.length), (8, iS ((c4.length : Nat) : Int)), (9, iS t9q3), (14, iS ((c0q15.length : Nat) : Int)), (15, iS t15q17)] [(0, .row 57 (flD dPipe [1, 17, 18] r1680)), ((.s 1 0), .fam (famD dPipe 0 r1680)), ((.s 2 0), .dead), ((.s 3 0), .dead), (4, .row 64 (fl c4)), (5, .row 64 (Enc.cells (ix c4 t9q3))), ((.s 6 0), .dead), ((.s 7 0), .dead), ((.s 17 0), .fam (famD dPipe 1 r1680)), ((.s 18 0), .fam (famD dPipe 2 r1680))] 20 follows (by kernel_rfl) ?_
   refine wk_id ?_
   refine wk_id ?_
   refine reg_f ?_
   refine rs 2 [] [] (by kernel_rfl) allP_nil ?_
   refine rf [(0, .own 0 0 r1680.length), (5, .ptr 5 0), (7, .own 4 0 c4.length), (8, iS ((c4.length : Nat) : Int)), (9, iS t9q3), (14, iS ((c0q15.length : Nat) : Int)), (15, iS (IntKind.i64.wrap (t15q17 + 1)))] [(0, .row 57 (flD dPipe [1, 17, 18] r1680)), ((.s 1 0), .fam (famD dPipe 0 r1680)), ((.s 2 0), .dead), ((.s 3 0), .dead), (4, .row 64 (fl c4)), (5, .row 64 (Enc.cells (ix c4 t9q3))), ((.s 6 0), .dead), ((.s 7 0), .dead), ((.s 17 0), .fam (famD dPipe 1 r1680)), ((.s 18 0), .fam (famD dPipe 2 r1680))] 20 (by kernel_rfl) ?_
   exact hn4 ((IntKind.i64.wrap (t15q17 + 1)), r1680) _ _ _ (Option.some.inj h).symm (leSt_m [(0, 0), ((.s 1 0), (.s 1 0)), (4, 4), (5, 5), ((.s 6 0), (.s 17 0)), ((.s 7 0), (.s 18 0))] [] (by simp only [push_cast, leL_flD, renL_flD, seval]) (by simp only [push_cast, leL_flD, renL_flD, seval]) rfl rfl rfl)
  ·change R4 (.exit 2) _ _ _
   refine ex_cast hx4 (id := 2) ?_
   obtain ⟨r0, h, e0⟩ := map_sx h
   have e1 := hr4 r0 e0.symm
   subst r0
   refine wk_id ?_
   refine wk_id ?_
   refine wk_id ?_
   refine reg_f ?_
   refine rs 2 [] [] (by kernel_rfl) allP_nil ?_
   refine rf [(0, .own 0 0 c0q23.length), (7, .own 4 0 c4.length), (8, iS ((c4.length : Nat) : Int)), (9, iS (IntKind.i64.wrap (t9q3 + 1)))] [(0, .row 57 (flD dPipe [1, 6, 7] c0q23)), ((.s 1 0), .fam (famD dPipe 0 c0q23)), ((.s 2 0), .dead), ((.s 3 0), .dead), (4, .row 64 (fl c4)), (5, .row 64 (Enc.cells (ix c4 t9q3))), ((.s 6 0), .fam (famD dPipe 1 c0q23)), ((.s 7 0), .fam (famD dPipe 2 c0q23))] 8 (by kernel_rfl) ?_
   exact hn3 ((IntKind.i64.wrap (t9q3 + 1)), c0q23) _ _ _ (Option.some.inj h).symm (leSt_m [(0, 0), ((.s 1 0), (.s 1 0)), (4, 4), ((.s 5 0), (.s 6 0)), ((.s 6 0), (.s 7 0))] [] (by simp only [push_cast, leL_flD, renL_flD, seval]) (by simp only [push_cast, leL_flD, renL_flD, seval]) rfl rfl rfl)
 ·change R3 (.exit 0) _ _ _
  refine ex_cast hx3 (id := 0) ?_
  obtain ⟨r0, h, e0⟩ := map_sx h
  have e1 := hr3 r0 e0.symm
  subst r0
  refine wk_id ?_
  obtain rfl := Option.some.inj h
  refine ret_an (.tup []) (by kernel_rfl) ?_
  exact ret_e [(0, 0), ((.s 1 0), (.s 1 0)), (4, 4), ((.s 5 0), (.s 5 0)), ((.s 6 0), (.s 6 0))] [] (by simp only [push_cast, leL_flD, renL_flD, seval]) (by simp only [push_cast, leL_flD, renL_flD, seval]) rfl rfl rfl

end Go.Proofs.Ytcpmhpobhnakeaa
