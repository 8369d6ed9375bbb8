/-
  What laws of the chapter pipe compute, and lemmas on it.
  No conditions.
-/
import Derived.Test.YtconaimaibephaaProg
import Derived.Test.YtconaimaibephaapipeG
set_option linter.unusedSimpArgs false
set_option linter.unusedVariables false
namespace Go.Proofs.Ytconaimaibephaa
open Go Go.Sx
attribute [local irreducible] Wk RunAt
theorem follows : Try.prog.follows .mixedOrders = true := by kernel_rfl
set_option maxRecDepth 100000 in
set_option maxHeartbeats 200000000 in
theorem pipe_fault_spec (code : Int) (xat : Int) (r : Fault) (h : pipe_fault code xat = some r) : SpecW Try.prog 34 [iS code, iS xat] [] 0 (fun x h n => x = .agg (Enc.cells r) ∧ h = [] ∧ n = 0) := by
  unfold pipe_fault at h
  refine spec_of (draw_ok _) Try.func34 rfl (by decide) rfl (by kernel_rfl) ?_
  refine seq_np ?_
  refine reg_f ?_
  refine rs 1 [] [] (by kernel_rfl) allP_nil ?_
  refine rf [(0, iS code), (1, iS xat), (4, .ptr 0 0)] [(0, .row 30 [iS 0, iS 0])] 1 (by kernel_rfl) ?_
  refine wk_id ?_
  refine seq_np ?_
  refine reg_f ?_
  refine rs 4 [] [] (by kernel_rfl) allP_nil ?_
  refine rf [(4, .ptr 0 0)] [(0, .row 30 [iS code, iS xat])] 1 (by kernel_rfl) ?_
  refine wk_id ?_
  obtain rfl := Option.some.inj h
  refine ret_at (.agg [iS code, iS xat]) (by kernel_rfl) ?_
  exact ret_e [] [] (by simp only [push_cast, seval]) (by simp only [push_cast, seval]) rfl rfl rfl

set_option maxRecDepth 100000 in
set_option maxHeartbeats 200000000 in
theorem pipe_posts_spec (l : (List GPost)) (c0 : (List (Int × Int))) (r : Int × (List (Int × Int))) (h : pipe_posts l c0 = some r) : SpecW Try.prog 35 [.sl l.length (fl l), .mp 0] [(0, .map (mi c0))] 1 (fun x h n => x = iS r.1 ∧ h = [(0, .map (mi r.2))] ∧ n = 1) := by
  unfold pipe_posts at h
  refine spec_of (draw_ok _) Try.func35 rfl (by decide) rfl (by kernel_rfl) ?_
  refine seq_np ?_
  refine reg_f ?_
  refine rs 1 [] [] (by kernel_rfl) allP_nil ?_
  refine rf [(0, .sl l.length (fl l)), (1, .mp 0)] [(0, .map (mi c0))] 1 (by kernel_rfl) ?_
  refine wk_id ?_
  refine seq_np ?_
  refine seq_np ?_
  refine reg_f ?_
  refine rs 3 [] [] (by kernel_rfl) allP_nil ?_
  refine rf [(1, .mp 0), (7, .sl l.length (fl l)), (8, iS ((l.length : Nat) : Int)), (9, iS 0)] [(0, .map (mi c0))] 1 (by kernel_rfl) ?_
  refine wk_id ?_
  refine block_np ?_
  refine loop_sx (S := Int × (List (Int × Int))) (fun a => ([(1, .mp 0), (7, .sl l.length (fl l)), (8, iS ((l.length : Nat) : Int)), (9, iS a.1)], [(0, .map (mi a.2))], 1)) h (leSt_m [(0, 0)] [] (by simp only [push_cast, seval]) (by simp only [push_cast, seval]) rfl rfl rfl) ?_
  rintro ⟨t9q7, c0q9⟩ o2 R2 h hr2 hn2 hx2 ht2
  try dsimp only at h hn2 ⊢
  unfold pipe_posts_l1 at h
  try dsimp only at h
  refine seq_np ?_
  refine reg_f ?_
  refine rs 1 [] [] (by kernel_rfl) allP_nil ?_
  refine rf [(1, .mp 0), (7, .sl l.length (fl l)), (8, iS ((l.length : Nat) : Int)), (9, iS t9q7), (10, bS (decide (t9q7 < ((l.length : Nat) : Int))))] [(0, .map (mi c0q9))] 1 (by kernel_rfl) ?_
  refine wk_id ?_
  refine seq_np ?_
  refine cond_sx h (by kernel_rfl) (fun g111 h => ?_) (fun g111 h => ?_)
  · refine wk_id ?_
    refine seq_np ?_
    refine block_np ?_
    refine chk_sx h (fun g102 h => ?_)
    refine seq_np ?_
    refine reg_f ?_
    have k101 : 0 ≤ t9q7 ∧ t9q7 < ((l.length : Nat) : Int) := by first | simpa only [Bool.and_eq_true, decide_eq_true_eq, bne_iff_ne, ne_eq] using g102 | (simp at g102 ⊢; omega)
    refine rs 4 [some ⟨.iptr (fl l) ((t9q7).toNat * 3), [], 1, []⟩, some ⟨.agg (Enc.cells (ix l t9q7)), [], 1, []⟩] _ (by kernel_rfl) (allP_cons (ob_ldw l t9q7 3 ((t9q7).toNat * 3) k101 rfl (by first | rfl | omega) [iS (ix l t9q7).Task, iS (ix l t9q7).Case, iS (ix l t9q7).Value] rfl 1 []) (allP_cons (ob_ix_l l 3 1 t9q7 k101) allP_nil)) ?_
    refine rf [(1, .mp 0), (6, .ptr 1 0), (7, .sl l.length (fl l)), (8, iS ((l.length : Nat) : Int)), (9, iS t9q7)] [(0, .map (mi c0q9)), (1, .row 39 (Enc.cells (ix l t9q7)))] 2 (by kernel_rfl) ?_
    refine wk_id ?_
    refine seq_np ?_
    refine seq_cut (A := Unit) (fun _ => ([(1, .mp 0), (6, .ptr 1 0), (7, .sl l.length (fl l)), (8, iS ((l.length : Nat) : Int)), (9, iS t9q7), (20, bS ((decide ((ix l t9q7).Task < 1)) || (decide ((ix l t9q7).Case < 0))))], [(0, .map (mi c0q9)), (1, .row 39 (Enc.cells (ix l t9q7)))], 2)) (fun _ => True) (fun K106 hK106 => ?_) (fun _ _ => ?_)
    · refine reg_f ?_
      refine rs 4 [] [] (by kernel_rfl) allP_nil ?_
      refine run_split 16 (decide ((ix l t9q7).Task < 1)) (.inl (by kernel_rfl)) (fun g107 => ?_) (fun g107 => ?_)
      · refine rs 4 [] [] (by kernel_rfl) allP_nil ?_
        refine rf [(1, .mp 0), (6, .ptr 1 0), (7, .sl l.length (fl l)), (8, iS ((l.length : Nat) : Int)), (9, iS t9q7), (20, bS true)] [(0, .map (mi c0q9)), (1, .row 39 (Enc.cells (ix l t9q7)))] 2 (by kernel_rfl) ?_
        exact hK106 () _ _ _ trivial (leSt_m [(0, 0), (1, 1)] [] (by (try simp only [g107]) <;> simp only [push_cast, seval]) (by (try simp only [g107]) <;> simp only [push_cast, seval]) rfl rfl rfl)
      · refine rs 4 [] [] (by kernel_rfl) allP_nil ?_
        refine rf [(1, .mp 0), (6, .ptr 1 0), (7, .sl l.length (fl l)), (8, iS ((l.length : Nat) : Int)), (9, iS t9q7), (20, bS (decide ((ix l t9q7).Case < 0)))] [(0, .map (mi c0q9)), (1, .row 39 (Enc.cells (ix l t9q7)))] 2 (by kernel_rfl) ?_
        exact hK106 () _ _ _ trivial (leSt_m [(0, 0), (1, 1)] [] (by (try simp only [g107]) <;> simp only [push_cast, seval]) (by (try simp only [g107]) <;> simp only [push_cast, seval]) rfl rfl rfl)
    · dsimp only
      refine cond_sx h (by kernel_rfl) (fun g110 h => ?_) (fun g110 h => ?_)
      · refine seq_np ?_
        refine reg_f ?_
        refine rs 1 [] [] (by kernel_rfl) allP_nil ?_
        refine rf [(4, iS 3)] [(0, .map (mi c0q9)), (1, .row 39 (Enc.cells (ix l t9q7)))] 2 (by kernel_rfl) ?_
        refine wk_id ?_
        refine rt_cast ht2 ?_
        obtain ⟨r0, h, e0⟩ := map_sx h
        have e1 := hr2 r0 e0.symm
        subst r0
        obtain rfl := Option.some.inj h
        refine ret_at (iS 3) (by kernel_rfl) ?_
        exact ret_e [(0, 0)] [] (by simp only [push_cast, seval]) (by simp only [push_cast, seval]) rfl rfl rfl
      · refine wk_id ?_
        refine seq_np ?_
        refine seq_np ?_
        refine reg_f ?_
        refine rs 5 [none, none, none, some ⟨iS (miGet c0q9 (ix l t9q7).Task), [], 2, [0]⟩] _ (by kernel_rfl) (allP_cons (ob_look (.int .i64) rfl (ix l t9q7).Task c0q9 0 2) allP_nil) ?_
        refine rf [(1, .mp 0), (6, .ptr 1 0), (7, .sl l.length (fl l)), (8, iS ((l.length : Nat) : Int)), (9, iS t9q7), (25, bS (decide ((0 : Int) < (miGet c0q9 (ix l t9q7).Task))))] [(0, .map (mi c0q9)), (1, .row 39 (Enc.cells (ix l t9q7)))] 2 (by kernel_rfl) ?_
        refine wk_id ?_
        refine cond_sx h (by kernel_rfl) (fun g109 h => ?_) (fun g109 h => ?_)
        · refine seq_np ?_
          refine reg_f ?_
          refine rs 1 [] [] (by kernel_rfl) allP_nil ?_
          refine rf [(4, iS 10)] [(0, .map (mi c0q9)), (1, .row 39 (Enc.cells (ix l t9q7)))] 2 (by kernel_rfl) ?_
          refine wk_id ?_
          refine rt_cast ht2 ?_
          obtain ⟨r0, h, e0⟩ := map_sx h
          have e1 := hr2 r0 e0.symm
          subst r0
          obtain rfl := Option.some.inj h
          refine ret_at (iS 10) (by kernel_rfl) ?_
          exact ret_e [(0, 0)] [] (by simp only [push_cast, seval]) (by simp only [push_cast, seval]) rfl rfl rfl
        · refine wk_id ?_
          refine reg_f ?_
          refine rs 4 [none, none, none, some ⟨.any, [(0, .map (mi (miSet c0q9 (ix l t9q7).Task 1)))], 2, [0]⟩] _ (by kernel_rfl) (allP_cons (ob_mset (.int .i64) rfl (ix l t9q7).Task 1 c0q9 0 2) allP_nil) ?_
          refine rf [(1, .mp 0), (7, .sl l.length (fl l)), (8, iS ((l.length : Nat) : Int)), (9, iS t9q7)] [(0, .map (mi (miSet c0q9 (ix l t9q7).Task 1))), (1, .row 39 (Enc.cells (ix l t9q7)))] 2 (by kernel_rfl) ?_
          refine wk_id ?_
          refine wk_id ?_
          refine reg_f ?_
          refine rs 2 [] [] (by kernel_rfl) allP_nil ?_
          refine rf [(1, .mp 0), (7, .sl l.length (fl l)), (8, iS ((l.length : Nat) : Int)), (9, iS (IntKind.i64.wrap (t9q7 + 1)))] [(0, .map (mi (miSet c0q9 (ix l t9q7).Task 1))), (1, .row 39 (Enc.cells (ix l t9q7)))] 2 (by kernel_rfl) ?_
          exact hn2 ((IntKind.i64.wrap (t9q7 + 1)), (miSet c0q9 (ix l t9q7).Task 1)) _ _ _ (Option.some.inj h).symm (leSt_m [(0, 0)] [] (by simp only [push_cast, seval]) (by simp only [push_cast, seval]) rfl rfl rfl)
  · change R2 (.exit 0) _ _ _
    refine ex_cast hx2 (id := 0) ?_
    obtain ⟨r0, h, e0⟩ := map_sx h
    have e1 := hr2 r0 e0.symm
    subst r0
    refine wk_id ?_
    refine wk_id ?_
    refine seq_np ?_
    refine reg_f ?_
    refine rs 1 [] [] (by kernel_rfl) allP_nil ?_
    refine rf [(4, iS 0)] [(0, .map (mi c0q9))] 1 (by kernel_rfl) ?_
    refine wk_id ?_
    obtain rfl := Option.some.inj h
    refine ret_at (iS 0) (by kernel_rfl) ?_
    exact ret_e [(0, 0)] [] (by simp only [push_cast, seval]) (by simp only [push_cast, seval]) rfl rfl rfl

set_option maxRecDepth 100000 in
set_option maxHeartbeats 200000000 in
theorem pipe_Check_spec (p : Pipe) (r : Fault) (h : pipe_Check p = some r) : SpecW Try.prog 13 [.agg (Enc.cells p)] [] 0 (fun x h n => x = .agg (Enc.cells r) ∧ h = [] ∧ n = 0) := by
  unfold pipe_Check at h
  refine spec_of (draw_ok _) Try.func13 rfl (by decide) rfl (by kernel_rfl) ?_
  refine seq_np ?_
  refine reg_f ?_
  refine rs 2 [] [] (by kernel_rfl) allP_nil ?_
  refine rf [(1, .ptr 0 0), (2, .ptr 1 0)] [(0, .row 25 (Enc.cells p)), (1, .row 30 [iS 0, iS 0])] 2 (by kernel_rfl) ?_
  refine wk_id ?_
  refine seq_np ?_
  refine seq_np ?_
  refine reg_f ?_
  refine rs 12 [] [] (by kernel_rfl) allP_nil ?_
  refine rf [(1, .ptr 0 0), (2, .ptr 1 0), (19, bS (decide ((5000 : Int) < (IntKind.i64.wrap ((IntKind.i64.wrap (((p.Items.length : Nat) : Int) + ((p.Senders.length : Nat) : Int))) + ((p.Getters.length : Nat) : Int))))))] [(0, .row 25 (Enc.cells p)), (1, .row 30 [iS 0, iS 0])] 2 (by kernel_rfl) ?_
  refine wk_id ?_
  refine cond_sx h (by kernel_rfl) (fun g258 h => ?_) (fun g258 h => ?_)
  · refine seq_np ?_
    refine reg_f ?_
    obtain ⟨r137, hr137, h⟩ := bind_sx h
    refine run_call 34 [iS 2, iS 0] (some 20) (by kernel_rfl) ?_
    refine call_0 (pipe_fault_spec 2 0 r137 hr137) (by simp only [push_cast, seval]) (by simp only [push_cast, seval]) ?_
    refine back_f ?_
    refine rs 1 [] [] (by kernel_rfl) allP_nil ?_
    refine rf [(2, .ptr 1 0)] [(0, .row 25 (Enc.cells p)), (1, .row 30 (Enc.cells r137))] 2 (by kernel_rfl) ?_
    refine wk_id ?_
    obtain rfl := Option.some.inj h
    refine ret_at (.agg (Enc.cells r137)) (by kernel_rfl) ?_
    exact ret_e [] [] (by simp only [push_cast, seval]) (by simp only [push_cast, seval]) rfl rfl rfl
  · refine wk_id ?_
    refine seq_np ?_
    refine seq_cut (A := Unit) (fun _ => ([(1, .ptr 0 0), (2, .ptr 1 0), (28, bS ((decide (p.Cap < 0)) || (decide ((1000 : Int) < p.Cap))))], [(0, .row 25 (Enc.cells p)), (1, .row 30 [iS 0, iS 0])], 2)) (fun _ => True) (fun K142 hK142 => ?_) (fun _ _ => ?_)
    · refine reg_f ?_
      refine rs 4 [] [] (by kernel_rfl) allP_nil ?_
      refine run_split 24 (decide (p.Cap < 0)) (.inl (by kernel_rfl)) (fun g143 => ?_) (fun g143 => ?_)
      · refine rs 4 [] [] (by kernel_rfl) allP_nil ?_
        refine rf [(1, .ptr 0 0), (2, .ptr 1 0), (28, bS true)] [(0, .row 25 (Enc.cells p)), (1, .row 30 [iS 0, iS 0])] 2 (by kernel_rfl) ?_
        exact hK142 () _ _ _ trivial (leSt_m [(0, 0), (1, 1)] [] (by (try simp only [g143]) <;> simp only [push_cast, seval]) (by (try simp only [g143]) <;> simp only [push_cast, seval]) rfl rfl rfl)
      · refine rs 4 [] [] (by kernel_rfl) allP_nil ?_
        refine rf [(1, .ptr 0 0), (2, .ptr 1 0), (28, bS (decide ((1000 : Int) < p.Cap)))] [(0, .row 25 (Enc.cells p)), (1, .row 30 [iS 0, iS 0])] 2 (by kernel_rfl) ?_
        exact hK142 () _ _ _ trivial (leSt_m [(0, 0), (1, 1)] [] (by (try simp only [g143]) <;> simp only [push_cast, seval]) (by (try simp only [g143]) <;> simp only [push_cast, seval]) rfl rfl rfl)
    · dsimp only
      refine cond_sx h (by kernel_rfl) (fun g257 h => ?_) (fun g257 h => ?_)
      · refine seq_np ?_
        refine reg_f ?_
        obtain ⟨r145, hr145, h⟩ := bind_sx h
        refine run_call 34 [iS 3, iS 0] (some 29) (by kernel_rfl) ?_
        refine call_0 (pipe_fault_spec 3 0 r145 hr145) (by simp only [push_cast, seval]) (by simp only [push_cast, seval]) ?_
        refine back_f ?_
        refine rs 1 [] [] (by kernel_rfl) allP_nil ?_
        refine rf [(2, .ptr 1 0)] [(0, .row 25 (Enc.cells p)), (1, .row 30 (Enc.cells r145))] 2 (by kernel_rfl) ?_
        refine wk_id ?_
        obtain rfl := Option.some.inj h
        refine ret_at (.agg (Enc.cells r145)) (by kernel_rfl) ?_
        exact ret_e [] [] (by simp only [push_cast, seval]) (by simp only [push_cast, seval]) rfl rfl rfl
      · refine wk_id ?_
        refine seq_np ?_
        refine seq_np ?_
        refine reg_f ?_
        refine rs 6 [] [] (by kernel_rfl) allP_nil ?_
        refine rf [(1, .ptr 0 0), (2, .ptr 1 0), (35, bS (decide (p.Cap < ((p.Items.length : Nat) : Int))))] [(0, .row 25 (Enc.cells p)), (1, .row 30 [iS 0, iS 0])] 2 (by kernel_rfl) ?_
        refine wk_id ?_
        refine cond_sx h (by kernel_rfl) (fun g256 h => ?_) (fun g256 h => ?_)
        · refine seq_np ?_
          refine reg_f ?_
          obtain ⟨r149, hr149, h⟩ := bind_sx h
          refine run_call 34 [iS 8, iS 0] (some 36) (by kernel_rfl) ?_
          refine call_0 (pipe_fault_spec 8 0 r149 hr149) (by simp only [push_cast, seval]) (by simp only [push_cast, seval]) ?_
          refine back_f ?_
          refine rs 1 [] [] (by kernel_rfl) allP_nil ?_
          refine rf [(2, .ptr 1 0)] [(0, .row 25 (Enc.cells p)), (1, .row 30 (Enc.cells r149))] 2 (by kernel_rfl) ?_
          refine wk_id ?_
          obtain rfl := Option.some.inj h
          refine ret_at (.agg (Enc.cells r149)) (by kernel_rfl) ?_
          exact ret_e [] [] (by simp only [push_cast, seval]) (by simp only [push_cast, seval]) rfl rfl rfl
        · refine wk_id ?_
          refine seq_np ?_
          refine seq_cut (A := Unit) (fun _ => ([(1, .ptr 0 0), (2, .ptr 1 0), (74, bS (bif (decide ((0 : Int) < ((p.Senders.length : Nat) : Int))) then (p.Closed || ((decide (((p.Items.length : Nat) : Int) < p.Cap)) || ((decide ((0 : Int) < ((p.Getters.length : Nat) : Int))) || ((decide ((0 : Int) < ((p.Getters.length : Nat) : Int))) && (p.Closed || (decide ((0 : Int) < ((p.Items.length : Nat) : Int)))))))) else ((decide ((0 : Int) < ((p.Getters.length : Nat) : Int))) && (p.Closed || (decide ((0 : Int) < ((p.Items.length : Nat) : Int)))))))], [(0, .row 25 (Enc.cells p)), (1, .row 30 [iS 0, iS 0])], 2)) (fun _ => True) (fun K168 hK168 => ?_) (fun _ _ => ?_)
          · refine reg_f ?_
            refine rs 5 [] [] (by kernel_rfl) allP_nil ?_
            refine run_split 41 (decide ((0 : Int) < ((p.Senders.length : Nat) : Int))) (.inl (by kernel_rfl)) (fun g169 => ?_) (fun g169 => ?_)
            · refine rs 3 [] [] (by kernel_rfl) allP_nil ?_
              refine run_split 44 p.Closed (.inr (by kernel_rfl)) (fun g170 => ?_) (fun g170 => ?_)
              · refine rs 30 [] [] (by kernel_rfl) allP_nil ?_
                refine rf [(1, .ptr 0 0), (2, .ptr 1 0), (74, bS true)] [(0, .row 25 (Enc.cells p)), (1, .row 30 [iS 0, iS 0])] 2 (by kernel_rfl) ?_
                exact hK168 () _ _ _ trivial (leSt_m [(0, 0), (1, 1)] [] (by first | ((try simp only [g169, g170]) <;> simp only [push_cast, seval]; done) | ((try simp only [g169]); (try simp only [g170]); simp only [push_cast, seval]; done) | (exfalso; clear h; simp_all; done)) (by first | ((try simp only [g169, g170]) <;> simp only [push_cast, seval]; done) | ((try simp only [g169]); (try simp only [g170]); simp only [push_cast, seval]; done) | (exfalso; clear h; simp_all; done)) rfl rfl rfl)
              · refine rs 8 [] [] (by kernel_rfl) allP_nil ?_
                refine run_split 52 (decide (((p.Items.length : Nat) : Int) < p.Cap)) (.inr (by kernel_rfl)) (fun g171 => ?_) (fun g171 => ?_)
                · refine rn 16 [(1, .ptr 0 0), (2, .ptr 1 0), (41, bS true), (52, .gd true (bS true))] [(0, .row 25 (Enc.cells p)), (1, .row 30 [iS 0, iS 0])] 2 (by kernel_rfl) ?_
                  refine rs 22 [] [] (by kernel_rfl) allP_nil ?_
                  refine rf [(1, .ptr 0 0), (2, .ptr 1 0), (74, bS true)] [(0, .row 25 (Enc.cells p)), (1, .row 30 [iS 0, iS 0])] 2 (by kernel_rfl) ?_
                  exact hK168 () _ _ _ trivial (leSt_m [(0, 0), (1, 1)] [] (by first | ((try simp only [g169, g170, g171]) <;> simp only [push_cast, seval]; done) | ((try simp only [g169]); (try simp only [g170]); (try simp only [g171]); simp only [push_cast, seval]; done) | (exfalso; clear h; simp_all; done)) (by first | ((try simp only [g169, g170, g171]) <;> simp only [push_cast, seval]; done) | ((try simp only [g169]); (try simp only [g170]); (try simp only [g171]); simp only [push_cast, seval]; done) | (exfalso; clear h; simp_all; done)) rfl rfl rfl)
                · refine rn 16 [(1, .ptr 0 0), (2, .ptr 1 0), (41, bS true), (52, .gd true (bS false))] [(0, .row 25 (Enc.cells p)), (1, .row 30 [iS 0, iS 0])] 2 (by kernel_rfl) ?_
                  refine rs 7 [] [] (by kernel_rfl) allP_nil ?_
                  refine run_split 59 (decide ((0 : Int) < ((p.Getters.length : Nat) : Int))) (.inl (by kernel_rfl)) (fun g172 => ?_) (fun g172 => ?_)
                  · refine rs 15 [] [] (by kernel_rfl) allP_nil ?_
                    refine rf [(1, .ptr 0 0), (2, .ptr 1 0), (74, bS true)] [(0, .row 25 (Enc.cells p)), (1, .row 30 [iS 0, iS 0])] 2 (by kernel_rfl) ?_
                    exact hK168 () _ _ _ trivial (leSt_m [(0, 0), (1, 1)] [] (by first | ((try simp only [g169, g170, g171, g172]) <;> simp only [push_cast, seval]; done) | ((try simp only [g169]); (try simp only [g170]); (try simp only [g171]); (try simp only [g172]); simp only [push_cast, seval]; done) | (exfalso; clear h; simp_all; done)) (by first | ((try simp only [g169, g170, g171, g172]) <;> simp only [push_cast, seval]; done) | ((try simp only [g169]); (try simp only [g170]); (try simp only [g171]); (try simp only [g172]); simp only [push_cast, seval]; done) | (exfalso; clear h; simp_all; done)) rfl rfl rfl)
                  · refine rs 5 [] [] (by kernel_rfl) allP_nil ?_
                    refine run_split 64 (decide ((0 : Int) < ((p.Getters.length : Nat) : Int))) (.inr (by kernel_rfl)) (fun g173 => ?_) (fun g173 => ?_)
                    · refine rs 3 [] [] (by kernel_rfl) allP_nil ?_
                      refine run_split 67 p.Closed (.inr (by kernel_rfl)) (fun g174 => ?_) (fun g174 => ?_)
                      · refine rn 31 [(1, .ptr 0 0), (2, .ptr 1 0), (59, bS false), (64, .gd true (bS true)), (67, .gd true (bS true))] [(0, .row 25 (Enc.cells p)), (1, .row 30 [iS 0, iS 0])] 2 (by kernel_rfl) ?_
                        refine rs 7 [] [] (by kernel_rfl) allP_nil ?_
                        refine rf [(1, .ptr 0 0), (2, .ptr 1 0), (74, bS true)] [(0, .row 25 (Enc.cells p)), (1, .row 30 [iS 0, iS 0])] 2 (by kernel_rfl) ?_
                        exact hK168 () _ _ _ trivial (leSt_m [(0, 0), (1, 1)] [] (by first | ((try simp only [g169, g170, g171, g172, g173, g174]) <;> simp only [push_cast, seval]; done) | ((try simp only [g169]); (try simp only [g170]); (try simp only [g171]); (try simp only [g172]); (try simp only [g173]); (try simp only [g174]); simp only [push_cast, seval]; done) | (exfalso; clear h; simp_all; done)) (by first | ((try simp only [g169, g170, g171, g172, g173, g174]) <;> simp only [push_cast, seval]; done) | ((try simp only [g169]); (try simp only [g170]); (try simp only [g171]); (try simp only [g172]); (try simp only [g173]); (try simp only [g174]); simp only [push_cast, seval]; done) | (exfalso; clear h; simp_all; done)) rfl rfl rfl)
                      · refine rn 31 [(1, .ptr 0 0), (2, .ptr 1 0), (59, bS false), (64, .gd true (bS true)), (67, .gd true (bS false))] [(0, .row 25 (Enc.cells p)), (1, .row 30 [iS 0, iS 0])] 2 (by kernel_rfl) ?_
                        refine rs 7 [] [] (by kernel_rfl) allP_nil ?_
                        refine rf [(1, .ptr 0 0), (2, .ptr 1 0), (74, bS (decide ((0 : Int) < ((p.Items.length : Nat) : Int))))] [(0, .row 25 (Enc.cells p)), (1, .row 30 [iS 0, iS 0])] 2 (by kernel_rfl) ?_
                        exact hK168 () _ _ _ trivial (leSt_m [(0, 0), (1, 1)] [] (by first | ((try simp only [g169, g170, g171, g172, g173, g174]) <;> simp only [push_cast, seval]; done) | ((try simp only [g169]); (try simp only [g170]); (try simp only [g171]); (try simp only [g172]); (try simp only [g173]); (try simp only [g174]); simp only [push_cast, seval]; done) | (exfalso; clear h; simp_all; done)) (by first | ((try simp only [g169, g170, g171, g172, g173, g174]) <;> simp only [push_cast, seval]; done) | ((try simp only [g169]); (try simp only [g170]); (try simp only [g171]); (try simp only [g172]); (try simp only [g173]); (try simp only [g174]); simp only [push_cast, seval]; done) | (exfalso; clear h; simp_all; done)) rfl rfl rfl)
                    · refine rs 10 [] [] (by kernel_rfl) allP_nil ?_
                      refine rf [(1, .ptr 0 0), (2, .ptr 1 0), (74, bS false)] [(0, .row 25 (Enc.cells p)), (1, .row 30 [iS 0, iS 0])] 2 (by kernel_rfl) ?_
                      exact hK168 () _ _ _ trivial (leSt_m [(0, 0), (1, 1)] [] (by first | ((try simp only [g169, g170, g171, g172, g173]) <;> simp only [push_cast, seval]; done) | ((try simp only [g169]); (try simp only [g170]); (try simp only [g171]); (try simp only [g172]); (try simp only [g173]); simp only [push_cast, seval]; done) | (exfalso; clear h; simp_all; done)) (by first | ((try simp only [g169, g170, g171, g172, g173]) <;> simp only [push_cast, seval]; done) | ((try simp only [g169]); (try simp only [g170]); (try simp only [g171]); (try simp only [g172]); (try simp only [g173]); simp only [push_cast, seval]; done) | (exfalso; clear h; simp_all; done)) rfl rfl rfl)
            · refine rs 23 [] [] (by kernel_rfl) allP_nil ?_
              refine run_split 64 (decide ((0 : Int) < ((p.Getters.length : Nat) : Int))) (.inr (by kernel_rfl)) (fun g175 => ?_) (fun g175 => ?_)
              · refine rs 3 [] [] (by kernel_rfl) allP_nil ?_
                refine run_split 67 p.Closed (.inr (by kernel_rfl)) (fun g176 => ?_) (fun g176 => ?_)
                · refine rn 31 [(1, .ptr 0 0), (2, .ptr 1 0), (59, bS false), (64, .gd true (bS true)), (67, .gd true (bS true))] [(0, .row 25 (Enc.cells p)), (1, .row 30 [iS 0, iS 0])] 2 (by kernel_rfl) ?_
                  refine rs 7 [] [] (by kernel_rfl) allP_nil ?_
                  refine rf [(1, .ptr 0 0), (2, .ptr 1 0), (74, bS true)] [(0, .row 25 (Enc.cells p)), (1, .row 30 [iS 0, iS 0])] 2 (by kernel_rfl) ?_
                  exact hK168 () _ _ _ trivial (leSt_m [(0, 0), (1, 1)] [] (by first | ((try simp only [g169, g175, g176]) <;> simp only [push_cast, seval]; done) | ((try simp only [g169]); (try simp only [g175]); (try simp only [g176]); simp only [push_cast, seval]; done) | (exfalso; clear h; simp_all; done)) (by first | ((try simp only [g169, g175, g176]) <;> simp only [push_cast, seval]; done) | ((try simp only [g169]); (try simp only [g175]); (try simp only [g176]); simp only [push_cast, seval]; done) | (exfalso; clear h; simp_all; done)) rfl rfl rfl)
                · refine rn 31 [(1, .ptr 0 0), (2, .ptr 1 0), (59, bS false), (64, .gd true (bS true)), (67, .gd true (bS false))] [(0, .row 25 (Enc.cells p)), (1, .row 30 [iS 0, iS 0])] 2 (by kernel_rfl) ?_
                  refine rs 7 [] [] (by kernel_rfl) allP_nil ?_
                  refine rf [(1, .ptr 0 0), (2, .ptr 1 0), (74, bS (decide ((0 : Int) < ((p.Items.length : Nat) : Int))))] [(0, .row 25 (Enc.cells p)), (1, .row 30 [iS 0, iS 0])] 2 (by kernel_rfl) ?_
                  exact hK168 () _ _ _ trivial (leSt_m [(0, 0), (1, 1)] [] (by first | ((try simp only [g169, g175, g176]) <;> simp only [push_cast, seval]; done) | ((try simp only [g169]); (try simp only [g175]); (try simp only [g176]); simp only [push_cast, seval]; done) | (exfalso; clear h; simp_all; done)) (by first | ((try simp only [g169, g175, g176]) <;> simp only [push_cast, seval]; done) | ((try simp only [g169]); (try simp only [g175]); (try simp only [g176]); simp only [push_cast, seval]; done) | (exfalso; clear h; simp_all; done)) rfl rfl rfl)
              · refine rs 10 [] [] (by kernel_rfl) allP_nil ?_
                refine rf [(1, .ptr 0 0), (2, .ptr 1 0), (74, bS false)] [(0, .row 25 (Enc.cells p)), (1, .row 30 [iS 0, iS 0])] 2 (by kernel_rfl) ?_
                exact hK168 () _ _ _ trivial (leSt_m [(0, 0), (1, 1)] [] (by first | ((try simp only [g169, g175]) <;> simp only [push_cast, seval]; done) | ((try simp only [g169]); (try simp only [g175]); simp only [push_cast, seval]; done) | (exfalso; clear h; simp_all; done)) (by first | ((try simp only [g169, g175]) <;> simp only [push_cast, seval]; done) | ((try simp only [g169]); (try simp only [g175]); simp only [push_cast, seval]; done) | (exfalso; clear h; simp_all; done)) rfl rfl rfl)
          · dsimp only
            refine cond_sx h (by kernel_rfl) (fun g255 h => ?_) (fun g255 h => ?_)
            · refine seq_np ?_
              refine reg_f ?_
              obtain ⟨r178, hr178, h⟩ := bind_sx h
              refine run_call 34 [iS 5, iS 0] (some 75) (by kernel_rfl) ?_
              refine call_0 (pipe_fault_spec 5 0 r178 hr178) (by simp only [push_cast, seval]) (by simp only [push_cast, seval]) ?_
              refine back_f ?_
              refine rs 1 [] [] (by kernel_rfl) allP_nil ?_
              refine rf [(2, .ptr 1 0)] [(0, .row 25 (Enc.cells p)), (1, .row 30 (Enc.cells r178))] 2 (by kernel_rfl) ?_
              refine wk_id ?_
              obtain rfl := Option.some.inj h
              refine ret_at (.agg (Enc.cells r178)) (by kernel_rfl) ?_
              exact ret_e [] [] (by simp only [push_cast, seval]) (by simp only [push_cast, seval]) rfl rfl rfl
            · refine wk_id ?_
              refine seq_np ?_
              refine reg_f ?_
              refine rs 2 [] [] (by kernel_rfl) allP_nil ?_
              refine rf [(1, .ptr 0 0), (2, .ptr 1 0), (3, .mp 2)] [(0, .row 25 (Enc.cells p)), (1, .row 30 [iS 0, iS 0]), (2, .map (mi []))] 3 (by kernel_rfl) ?_
              refine wk_id ?_
              refine seq_np ?_
              refine seq_np ?_
              refine reg_f ?_
              refine rs 3 [] [] (by kernel_rfl) allP_nil ?_
              obtain ⟨r183, hr183, h⟩ := bind_sx h
              refine call_x (pipe_posts_spec p.Senders [] r183 hr183) (args := [.sl p.Senders.length (fl p.Senders), .mp 2]) (dst := (some 80)) (by kernel_rfl) [(0, .row 25 (Enc.cells p)), (1, .row 30 [iS 0, iS 0]), (2, .map (mi []))] 3 (by kernel_rfl) [(0, 2)] [] (iS r183.1) [(2, .map (mi r183.2)), (2, .dead)] (by simp only [push_cast, seval]) (by simp only [push_cast, seval]) (by kernel_rfl) (.inl rfl) (by simp only [push_cast, seval]) (by simp only [push_cast, seval]) ?_
              refine rs 1 [] [] (by kernel_rfl) allP_nil ?_
              refine rf [(1, .ptr 0 0), (2, .ptr 1 0), (3, .mp 2), (4, iS r183.1)] [(0, .row 25 (Enc.cells p)), (1, .row 30 [iS 0, iS 0]), (2, .map (mi r183.2))] 4 (by kernel_rfl) ?_
              refine wk_id ?_
              refine seq_np ?_
              refine reg_f ?_
              refine rs 2 [] [] (by kernel_rfl) allP_nil ?_
              refine rf [(1, .ptr 0 0), (2, .ptr 1 0), (3, .mp 2), (4, iS r183.1), (82, bS (r183.1 != 0))] [(0, .row 25 (Enc.cells p)), (1, .row 30 [iS 0, iS 0]), (2, .map (mi r183.2))] 4 (by kernel_rfl) ?_
              refine wk_id ?_
              refine cond_sx h (by kernel_rfl) (fun g254 h => ?_) (fun g254 h => ?_)
              · refine seq_np ?_
                refine reg_f ?_
                refine rs 1 [] [] (by kernel_rfl) allP_nil ?_
                obtain ⟨r185, hr185, h⟩ := bind_sx h
                refine run_call 34 [iS r183.1, iS 1] (some 84) (by kernel_rfl) ?_
                refine call_0 (pipe_fault_spec r183.1 1 r185 hr185) (by simp only [push_cast, seval]) (by simp only [push_cast, seval]) ?_
                refine back_f ?_
                refine rs 1 [] [] (by kernel_rfl) allP_nil ?_
                refine rf [(2, .ptr 1 0)] [(0, .row 25 (Enc.cells p)), (1, .row 30 (Enc.cells r185)), (2, .map (mi r183.2))] 4 (by kernel_rfl) ?_
                refine wk_id ?_
                obtain rfl := Option.some.inj h
                refine ret_at (.agg (Enc.cells r185)) (by kernel_rfl) ?_
                exact ret_e [] [] (by simp only [push_cast, seval]) (by simp only [push_cast, seval]) rfl rfl rfl
              · refine wk_id ?_
                refine seq_np ?_
                refine seq_np ?_
                refine reg_f ?_
                refine rs 3 [] [] (by kernel_rfl) allP_nil ?_
                obtain ⟨r190, hr190, h⟩ := bind_sx h
                refine call_x (pipe_posts_spec p.Getters r183.2 r190 hr190) (args := [.sl p.Getters.length (fl p.Getters), .mp 2]) (dst := (some 88)) (by kernel_rfl) [(0, .row 25 (Enc.cells p)), (1, .row 30 [iS 0, iS 0]), (2, .map (mi r183.2))] 4 (by kernel_rfl) [(0, 2)] [] (iS r190.1) [(2, .map (mi r190.2)), (2, .dead)] (by simp only [push_cast, seval]) (by simp only [push_cast, seval]) (by kernel_rfl) (.inl rfl) (by simp only [push_cast, seval]) (by simp only [push_cast, seval]) ?_
                refine rs 1 [] [] (by kernel_rfl) allP_nil ?_
                refine rf [(1, .ptr 0 0), (2, .ptr 1 0), (5, iS r190.1)] [(0, .row 25 (Enc.cells p)), (1, .row 30 [iS 0, iS 0]), (2, .map (mi r190.2))] 5 (by kernel_rfl) ?_
                refine wk_id ?_
                refine seq_np ?_
                refine reg_f ?_
                refine rs 2 [] [] (by kernel_rfl) allP_nil ?_
                refine rf [(1, .ptr 0 0), (2, .ptr 1 0), (5, iS r190.1), (90, bS (r190.1 != 0))] [(0, .row 25 (Enc.cells p)), (1, .row 30 [iS 0, iS 0]), (2, .map (mi r190.2))] 5 (by kernel_rfl) ?_
                refine wk_id ?_
                refine cond_sx h (by kernel_rfl) (fun g253 h => ?_) (fun g253 h => ?_)
                · refine seq_np ?_
                  refine reg_f ?_
                  refine rs 1 [] [] (by kernel_rfl) allP_nil ?_
                  obtain ⟨r192, hr192, h⟩ := bind_sx h
                  refine run_call 34 [iS r190.1, iS 2] (some 92) (by kernel_rfl) ?_
                  refine call_0 (pipe_fault_spec r190.1 2 r192 hr192) (by simp only [push_cast, seval]) (by simp only [push_cast, seval]) ?_
                  refine back_f ?_
                  refine rs 1 [] [] (by kernel_rfl) allP_nil ?_
                  refine rf [(2, .ptr 1 0)] [(0, .row 25 (Enc.cells p)), (1, .row 30 (Enc.cells r192)), (2, .map (mi r190.2))] 5 (by kernel_rfl) ?_
                  refine wk_id ?_
                  obtain rfl := Option.some.inj h
                  refine ret_at (.agg (Enc.cells r192)) (by kernel_rfl) ?_
                  exact ret_e [] [] (by simp only [push_cast, seval]) (by simp only [push_cast, seval]) rfl rfl rfl
                · refine wk_id ?_
                  refine seq_np ?_
                  refine seq_np ?_
                  refine reg_f ?_
                  refine rs 4 [] [] (by kernel_rfl) allP_nil ?_
                  refine rf [(2, .ptr 1 0), (94, .sl p.Getters.length (fl p.Getters)), (95, iS ((p.Getters.length : Nat) : Int)), (96, iS 0)] [(0, .row 25 (Enc.cells p)), (1, .row 30 [iS 0, iS 0]), (2, .map (mi r190.2))] 5 (by kernel_rfl) ?_
                  refine wk_id ?_
                  refine block_np ?_
                  refine loop_sx (S := Int) (fun a => ([(2, .ptr 0 0), (94, .sl p.Getters.length (fl p.Getters)), (95, iS ((p.Getters.length : Nat) : Int)), (96, iS a)], [(0, .row 30 [iS 0, iS 0])], 1)) h (leSt_m [(0, 1)] [] (by simp only [push_cast, seval]) (by simp only [push_cast, seval]) rfl rfl rfl) ?_
                  rintro t96q7 o2 R2 h hr2 hn2 hx2 ht2
                  try dsimp only at h hn2 ⊢
                  unfold pipe_Check_l1 at h
                  try dsimp only at h
                  refine seq_np ?_
                  refine reg_f ?_
                  refine rs 1 [] [] (by kernel_rfl) allP_nil ?_
                  refine rf [(2, .ptr 0 0), (94, .sl p.Getters.length (fl p.Getters)), (95, iS ((p.Getters.length : Nat) : Int)), (96, iS t96q7), (97, bS (decide (t96q7 < ((p.Getters.length : Nat) : Int))))] [(0, .row 30 [iS 0, iS 0])] 1 (by kernel_rfl) ?_
                  refine wk_id ?_
                  refine seq_np ?_
                  refine cond_sx h (by kernel_rfl) (fun g252 h => ?_) (fun g252 h => ?_)
                  · refine wk_id ?_
                    refine seq_np ?_
                    refine block_np ?_
                    refine chk_sx h (fun g248 h => ?_)
                    refine seq_np ?_
                    refine reg_f ?_
                    have k247 : 0 ≤ t96q7 ∧ t96q7 < ((p.Getters.length : Nat) : Int) := by first | simpa only [Bool.and_eq_true, decide_eq_true_eq, bne_iff_ne, ne_eq] using g248 | (simp at g248 ⊢; omega)
                    refine rs 4 [some ⟨.iptr (fl p.Getters) ((t96q7).toNat * 3), [], 1, []⟩, some ⟨.agg (Enc.cells (ix p.Getters t96q7)), [], 1, []⟩] _ (by kernel_rfl) (allP_cons (ob_ldw p.Getters t96q7 3 ((t96q7).toNat * 3) k247 rfl (by first | rfl | omega) [iS (ix p.Getters t96q7).Task, iS (ix p.Getters t96q7).Case, iS (ix p.Getters t96q7).Value] rfl 1 []) (allP_cons (ob_ix_l p.Getters 3 1 t96q7 k247) allP_nil)) ?_
                    refine rf [(2, .ptr 0 0), (7, .ptr 1 0), (94, .sl p.Getters.length (fl p.Getters)), (95, iS ((p.Getters.length : Nat) : Int)), (96, iS t96q7)] [(0, .row 30 [iS 0, iS 0]), (1, .row 39 (Enc.cells (ix p.Getters t96q7)))] 2 (by kernel_rfl) ?_
                    refine wk_id ?_
                    refine seq_np ?_
                    refine reg_f ?_
                    refine rs 3 [] [] (by kernel_rfl) allP_nil ?_
                    refine rf [(2, .ptr 0 0), (94, .sl p.Getters.length (fl p.Getters)), (95, iS ((p.Getters.length : Nat) : Int)), (96, iS t96q7), (102, bS ((ix p.Getters t96q7).Value != 0))] [(0, .row 30 [iS 0, iS 0]), (1, .row 39 (Enc.cells (ix p.Getters t96q7)))] 2 (by kernel_rfl) ?_
                    refine wk_id ?_
                    refine cond_sx h (by kernel_rfl) (fun g251 h => ?_) (fun g251 h => ?_)
                    · refine seq_np ?_
                      refine reg_f ?_
                      obtain ⟨r250, hr250, h⟩ := bind_sx h
                      refine run_call 34 [iS 5, iS 2] (some 103) (by kernel_rfl) ?_
                      refine call_0 (pipe_fault_spec 5 2 r250 hr250) (by simp only [push_cast, seval]) (by simp only [push_cast, seval]) ?_
                      refine back_f ?_
                      refine rs 1 [] [] (by kernel_rfl) allP_nil ?_
                      refine rf [(2, .ptr 0 0)] [(0, .row 30 (Enc.cells r250)), (1, .row 39 (Enc.cells (ix p.Getters t96q7)))] 2 (by kernel_rfl) ?_
                      refine wk_id ?_
                      refine rt_cast ht2 ?_
                      obtain ⟨r0, h, e0⟩ := map_sx h
                      have e1 := hr2 r0 e0.symm
                      subst r0
                      obtain rfl := Option.some.inj h
                      refine ret_at (.agg (Enc.cells r250)) (by kernel_rfl) ?_
                      exact ret_e [] [] (by simp only [push_cast, seval]) (by simp only [push_cast, seval]) rfl rfl rfl
                    · refine wk_id ?_
                      refine wk_id ?_
                      refine reg_f ?_
                      refine rs 2 [] [] (by kernel_rfl) allP_nil ?_
                      refine rf [(2, .ptr 0 0), (94, .sl p.Getters.length (fl p.Getters)), (95, iS ((p.Getters.length : Nat) : Int)), (96, iS (IntKind.i64.wrap (t96q7 + 1)))] [(0, .row 30 [iS 0, iS 0]), (1, .row 39 (Enc.cells (ix p.Getters t96q7)))] 2 (by kernel_rfl) ?_
                      exact hn2 ((IntKind.i64.wrap (t96q7 + 1))) _ _ _ (Option.some.inj h).symm (leSt_m [(0, 0)] [] (by simp only [push_cast, seval]) (by simp only [push_cast, seval]) rfl rfl rfl)
                  · change R2 (.exit 0) _ _ _
                    refine ex_cast hx2 (id := 0) ?_
                    obtain ⟨r0, h, e0⟩ := map_sx h
                    have e1 := hr2 r0 e0.symm
                    subst r0
                    refine wk_id ?_
                    refine wk_id ?_
                    refine seq_np ?_
                    refine reg_f ?_
                    refine rs 2 [] [] (by kernel_rfl) allP_nil ?_
                    refine rf [(2, .ptr 0 0)] [(0, .row 30 [iS 0, iS 0])] 1 (by kernel_rfl) ?_
                    refine wk_id ?_
                    obtain rfl := Option.some.inj h
                    refine ret_at (.agg [iS 0, iS 0]) (by kernel_rfl) ?_
                    exact ret_e [] [] (by simp only [push_cast, seval]) (by simp only [push_cast, seval]) rfl rfl rfl

set_option maxRecDepth 100000 in
set_option maxHeartbeats 200000000 in
theorem pipe_Waits_1_spec (x : GPost) (c0 : Int) (r : Bool × Int) (h : pipe_Waits_1 x c0 = some r) : SpecW Try.prog 47 [.agg (Enc.cells x), .ptr 0 0] [(0, .row 3 [iS c0])] 1 (fun x h n => x = bS r.1 ∧ h = [(0, .row 3 [iS r.2])] ∧ n = 1) := by
  unfold pipe_Waits_1 at h
  refine spec_of (draw_ok _) Try.func47 rfl (by decide) rfl (by kernel_rfl) ?_
  refine seq_np ?_
  refine reg_f ?_
  refine rs 2 [] [] (by kernel_rfl) allP_nil ?_
  refine rf [(1, .ptr 0 0), (2, .ptr 1 0)] [(0, .row 3 [iS c0]), (1, .row 39 (Enc.cells x))] 2 (by kernel_rfl) ?_
  refine wk_id ?_
  refine seq_np ?_
  refine reg_f ?_
  refine rs 5 [] [] (by kernel_rfl) allP_nil ?_
  refine rf [(3, bS (x.Task == c0))] [(0, .row 3 [iS c0]), (1, .row 39 (Enc.cells x))] 2 (by kernel_rfl) ?_
  refine wk_id ?_
  obtain rfl := Option.some.inj h
  refine ret_at (bS (x.Task == c0)) (by kernel_rfl) ?_
  exact ret_e [(0, 0)] [] (by simp only [push_cast, seval]) (by simp only [push_cast, seval]) rfl rfl rfl

set_option maxRecDepth 100000 in
set_option maxHeartbeats 200000000 in
theorem slices_IndexFunc_Post_spec (s : (List GPost)) (c0 : Int) (r : Int × Int) (h : slices_IndexFunc_Post s c0 = some r) : SpecW Try.prog 51 [.sl s.length (fl s), .clo 47 [.ptr 0 0]] [(0, .row 3 [iS c0])] 1 (fun x h n => x = iS r.1 ∧ h = [(0, .row 3 [iS r.2])] ∧ n = 1) := by
  unfold slices_IndexFunc_Post at h
  refine spec_of (draw_ok _) Try.func51 rfl (by decide) rfl (by kernel_rfl) ?_
  refine seq_np ?_
  refine reg_f ?_
  refine rs 1 [] [] (by kernel_rfl) allP_nil ?_
  refine rf [(0, .sl s.length (fl s)), (1, .clo 47 [.ptr 0 0])] [(0, .row 3 [iS c0])] 1 (by kernel_rfl) ?_
  refine wk_id ?_
  refine seq_np ?_
  refine seq_np ?_
  refine reg_f ?_
  refine rs 3 [] [] (by kernel_rfl) allP_nil ?_
  refine rf [(0, .sl s.length (fl s)), (1, .clo 47 [.ptr 0 0]), (7, iS ((s.length : Nat) : Int)), (8, iS 0)] [(0, .row 3 [iS c0])] 1 (by kernel_rfl) ?_
  refine wk_id ?_
  refine block_np ?_
  refine loop_sx (S := Int × Int) (fun a => ([(0, .sl s.length (fl s)), (1, .clo 47 [.ptr 0 0]), (7, iS ((s.length : Nat) : Int)), (8, iS a.1)], [(0, .row 3 [iS a.2])], 1)) h (leSt_m [(0, 0)] [] (by simp only [push_cast, seval]) (by simp only [push_cast, seval]) rfl rfl rfl) ?_
  rintro ⟨t8q7, c0q9⟩ o2 R2 h hr2 hn2 hx2 ht2
  try dsimp only at h hn2 ⊢
  unfold slices_IndexFunc_Post_l1 at h
  try dsimp only at h
  refine seq_np ?_
  refine reg_f ?_
  refine rs 1 [] [] (by kernel_rfl) allP_nil ?_
  refine rf [(0, .sl s.length (fl s)), (1, .clo 47 [.ptr 0 0]), (7, iS ((s.length : Nat) : Int)), (8, iS t8q7), (9, bS (decide (t8q7 < ((s.length : Nat) : Int))))] [(0, .row 3 [iS c0q9])] 1 (by kernel_rfl) ?_
  refine wk_id ?_
  refine seq_np ?_
  refine cond_sx h (by kernel_rfl) (fun g338 h => ?_) (fun g338 h => ?_)
  · refine wk_id ?_
    refine seq_np ?_
    refine block_np ?_
    refine seq_np ?_
    refine reg_f ?_
    refine rs 2 [] [] (by kernel_rfl) allP_nil ?_
    refine rf [(0, .sl s.length (fl s)), (1, .clo 47 [.ptr 0 0]), (5, iS t8q7), (7, iS ((s.length : Nat) : Int)), (8, iS t8q7)] [(0, .row 3 [iS c0q9])] 1 (by kernel_rfl) ?_
    refine wk_id ?_
    refine chk_sx h (fun g335 h => ?_)
    refine seq_np ?_
    refine reg_f ?_
    have k334 : 0 ≤ t8q7 ∧ t8q7 < ((s.length : Nat) : Int) := by first | simpa only [Bool.and_eq_true, decide_eq_true_eq, bne_iff_ne, ne_eq] using g335 | (simp at g335 ⊢; omega)
    refine rs 5 [none, none, none, some ⟨.iptr (fl s) ((t8q7).toNat * 3), [], 1, []⟩, some ⟨.agg (Enc.cells (ix s t8q7)), [], 1, []⟩] _ (by kernel_rfl) (allP_cons (ob_ldw s t8q7 3 ((t8q7).toNat * 3) k334 rfl (by first | rfl | omega) [iS (ix s t8q7).Task, iS (ix s t8q7).Case, iS (ix s t8q7).Value] rfl 1 []) (allP_cons (ob_ix_l s 3 1 t8q7 k334) allP_nil)) ?_
    obtain ⟨r336, hr336, h⟩ := bind_sx h
    refine call_x (pipe_Waits_1_spec (ix s t8q7) c0q9 r336 hr336) (args := [.agg (Enc.cells (ix s t8q7)), .ptr 0 0]) (dst := (some 16)) (by kernel_rfl) [(0, .row 3 [iS c0q9])] 1 (by kernel_rfl) [(0, 0)] [] (bS r336.1) [(0, .row 3 [iS r336.2]), (0, .dead)] (by simp only [push_cast, seval]) (by simp only [push_cast, seval]) (by kernel_rfl) (.inl rfl) (by simp only [push_cast, seval]) (by simp only [push_cast, seval]) ?_
    refine rf [(0, .sl s.length (fl s)), (1, .clo 47 [.ptr 0 0]), (5, iS t8q7), (7, iS ((s.length : Nat) : Int)), (8, iS t8q7), (16, bS r336.1)] [(0, .row 3 [iS r336.2])] 2 (by kernel_rfl) ?_
    refine wk_id ?_
    refine cond_sx h (by kernel_rfl) (fun g337 h => ?_) (fun g337 h => ?_)
    · refine seq_np ?_
      refine reg_f ?_
      refine rs 2 [] [] (by kernel_rfl) allP_nil ?_
      refine rf [(4, iS t8q7)] [(0, .row 3 [iS r336.2])] 2 (by kernel_rfl) ?_
      refine wk_id ?_
      refine rt_cast ht2 ?_
      obtain ⟨r0, h, e0⟩ := map_sx h
      have e1 := hr2 r0 e0.symm
      subst r0
      obtain rfl := Option.some.inj h
      refine ret_at (iS t8q7) (by kernel_rfl) ?_
      exact ret_e [(0, 0)] [] (by simp only [push_cast, seval]) (by simp only [push_cast, seval]) rfl rfl rfl
    · refine wk_id ?_
      refine wk_id ?_
      refine reg_f ?_
      refine rs 2 [] [] (by kernel_rfl) allP_nil ?_
      refine rf [(0, .sl s.length (fl s)), (1, .clo 47 [.ptr 0 0]), (7, iS ((s.length : Nat) : Int)), (8, iS (IntKind.i64.wrap (t8q7 + 1)))] [(0, .row 3 [iS r336.2])] 2 (by kernel_rfl) ?_
      exact hn2 ((IntKind.i64.wrap (t8q7 + 1)), r336.2) _ _ _ (Option.some.inj h).symm (leSt_m [(0, 0)] [] (by simp only [push_cast, seval]) (by simp only [push_cast, seval]) rfl rfl rfl)
  · change R2 (.exit 0) _ _ _
    refine ex_cast hx2 (id := 0) ?_
    obtain ⟨r0, h, e0⟩ := map_sx h
    have e1 := hr2 r0 e0.symm
    subst r0
    refine wk_id ?_
    refine wk_id ?_
    refine seq_np ?_
    refine reg_f ?_
    refine rs 1 [] [] (by kernel_rfl) allP_nil ?_
    refine rf [(4, iS (-1))] [(0, .row 3 [iS c0q9])] 1 (by kernel_rfl) ?_
    refine wk_id ?_
    obtain rfl := Option.some.inj h
    refine ret_at (iS (-1)) (by kernel_rfl) ?_
    exact ret_e [(0, 0)] [] (by simp only [push_cast, seval]) (by simp only [push_cast, seval]) rfl rfl rfl

set_option maxRecDepth 100000 in
set_option maxHeartbeats 200000000 in
theorem slices_ContainsFunc_Post_spec (s : (List GPost)) (c0 : Int) (r : Bool × Int) (h : slices_ContainsFunc_Post s c0 = some r) : SpecW Try.prog 48 [.sl s.length (fl s), .clo 47 [.ptr 0 0]] [(0, .row 3 [iS c0])] 1 (fun x h n => x = bS r.1 ∧ h = [(0, .row 3 [iS r.2])] ∧ n = 1) := by
  unfold slices_ContainsFunc_Post at h
  refine spec_of (draw_ok _) Try.func48 rfl (by decide) rfl (by kernel_rfl) ?_
  refine seq_np ?_
  refine reg_f ?_
  refine rs 1 [] [] (by kernel_rfl) allP_nil ?_
  refine rf [(0, .sl s.length (fl s)), (1, .clo 47 [.ptr 0 0])] [(0, .row 3 [iS c0])] 1 (by kernel_rfl) ?_
  refine wk_id ?_
  refine seq_np ?_
  refine reg_f ?_
  refine rs 2 [] [] (by kernel_rfl) allP_nil ?_
  obtain ⟨r341, hr341, h⟩ := bind_sx h
  refine call_x (slices_IndexFunc_Post_spec s c0 r341 hr341) (args := [.sl s.length (fl s), .clo 47 [.ptr 0 0]]) (dst := (some 7)) (by kernel_rfl) [(0, .row 3 [iS c0])] 1 (by kernel_rfl) [(0, 0)] [] (iS r341.1) [(0, .row 3 [iS r341.2]), (0, .dead)] (by simp only [push_cast, seval]) (by simp only [push_cast, seval]) (by kernel_rfl) (.inl rfl) (by simp only [push_cast, seval]) (by simp only [push_cast, seval]) ?_
  refine rs 2 [] [] (by kernel_rfl) allP_nil ?_
  refine rf [(4, bS (decide ((0 : Int) ≤ r341.1)))] [(0, .row 3 [iS r341.2])] 2 (by kernel_rfl) ?_
  refine wk_id ?_
  obtain rfl := Option.some.inj h
  refine ret_at (bS (decide ((0 : Int) ≤ r341.1))) (by kernel_rfl) ?_
  exact ret_e [(0, 0)] [] (by simp only [push_cast, seval]) (by simp only [push_cast, seval]) rfl rfl rfl

set_option maxRecDepth 100000 in
set_option maxHeartbeats 200000000 in
theorem pipe_Waits_spec (p : Pipe) (task : Int) (r : Bool) (h : pipe_Waits p task = some r) : SpecW Try.prog 43 [.agg (Enc.cells p), iS task] [] 0 (fun x h n => x = bS r ∧ h = [] ∧ n = 0) := by
  unfold pipe_Waits at h
  refine spec_of (draw_ok _) Try.func43 rfl (by decide) rfl (by kernel_rfl) ?_
  refine seq_np ?_
  refine reg_f ?_
  refine rs 3 [] [] (by kernel_rfl) allP_nil ?_
  refine rf [(2, .ptr 0 0), (3, .ptr 1 0)] [(0, .row 25 (Enc.cells p)), (1, .row 3 [iS task])] 2 (by kernel_rfl) ?_
  refine wk_id ?_
  refine seq_np ?_
  refine reg_f ?_
  refine rs 2 [] [] (by kernel_rfl) allP_nil ?_
  refine rf [(2, .ptr 0 0), (5, .clo 47 [.ptr 1 0])] [(0, .row 25 (Enc.cells p)), (1, .row 3 [iS task])] 2 (by kernel_rfl) ?_
  refine wk_id ?_
  refine seq_cut (A := Bool) (fun a => ([(4, bS a)], [], 0)) (fun a => (pipe_Waits_j1 a) = some r) (fun K351 hK351 => ?_) ?_
  · refine reg_f ?_
    refine rs 3 [] [] (by kernel_rfl) allP_nil ?_
    obtain ⟨r352, hr352, h⟩ := bind_sx h
    refine call_x (slices_ContainsFunc_Post_spec p.Senders task r352 hr352) (args := [.sl p.Senders.length (fl p.Senders), .clo 47 [.ptr 1 0]]) (dst := (some 10)) (by kernel_rfl) [(0, .row 25 (Enc.cells p)), (1, .row 3 [iS task])] 2 (by kernel_rfl) [(0, 1)] [] (bS r352.1) [(1, .row 3 [iS r352.2]), (1, .dead)] (by simp only [push_cast, seval]) (by simp only [push_cast, seval]) (by kernel_rfl) (.inl rfl) (by simp only [push_cast, seval]) (by simp only [push_cast, seval]) ?_
    refine rs 1 [] [] (by kernel_rfl) allP_nil ?_
    refine run_br h 11 (.inl (by kernel_rfl)) (fun g353 h => ?_) (fun g353 h => ?_)
    · refine rs 6 [] [] (by kernel_rfl) allP_nil ?_
      refine rf [(4, bS true)] [(0, .row 25 (Enc.cells p)), (1, .row 3 [iS r352.2])] 3 (by kernel_rfl) ?_
      exact hK351 (true) _ _ _ h (leSt_m [] [] (by (try simp only [g353]) <;> simp only [push_cast, seval]) (by (try simp only [g353]) <;> simp only [push_cast, seval]) rfl rfl rfl)
    · refine rs 3 [] [] (by kernel_rfl) allP_nil ?_
      obtain ⟨r354, hr354, h⟩ := bind_sx h
      refine call_x (slices_ContainsFunc_Post_spec p.Getters r352.2 r354 hr354) (args := [.sl p.Getters.length (fl p.Getters), .clo 47 [.ptr 1 0]]) (dst := (some 15)) (by kernel_rfl) [(0, .row 25 (Enc.cells p)), (1, .row 3 [iS r352.2])] 3 (by kernel_rfl) [(0, 1)] [] (bS r354.1) [(1, .row 3 [iS r354.2]), (1, .dead)] (by simp only [push_cast, seval]) (by simp only [push_cast, seval]) (by kernel_rfl) (.inl rfl) (by simp only [push_cast, seval]) (by simp only [push_cast, seval]) ?_
      refine rs 2 [] [] (by kernel_rfl) allP_nil ?_
      refine rf [(4, bS r354.1)] [(0, .row 25 (Enc.cells p)), (1, .row 3 [iS r354.2])] 4 (by kernel_rfl) ?_
      exact hK351 (r354.1) _ _ _ h (leSt_m [] [] (by (try simp only [g353]) <;> simp only [push_cast, seval]) (by (try simp only [g353]) <;> simp only [push_cast, seval]) rfl rfl rfl)
  · rintro t4q1 h
    try dsimp only at h ⊢
    unfold pipe_Waits_j1 at h
    obtain rfl := Option.some.inj h
    refine ret_at (bS t4q1) (by kernel_rfl) ?_
    exact ret_e [] [] (by simp only [push_cast, seval]) (by simp only [push_cast, seval]) rfl rfl rfl

set_option maxRecDepth 100000 in
set_option maxHeartbeats 200000000 in
theorem pipe_begin_spec (p : Pipe) (task : Int) (r : Fault) (h : pipe_begin p task = some r) : SpecW Try.prog 36 [.agg (Enc.cells p), iS task] [] 0 (fun x h n => x = .agg (Enc.cells r) ∧ h = [] ∧ n = 0) := by
  unfold pipe_begin at h
  refine spec_of (draw_ok _) Try.func36 rfl (by decide) rfl (by kernel_rfl) ?_
  refine seq_np ?_
  refine reg_f ?_
  refine rs 2 [] [] (by kernel_rfl) allP_nil ?_
  refine rf [(1, iS task), (2, .ptr 0 0), (4, .ptr 1 0)] [(0, .row 25 (Enc.cells p)), (1, .row 30 [iS 0, iS 0])] 2 (by kernel_rfl) ?_
  refine wk_id ?_
  refine seq_np ?_
  refine seq_np ?_
  refine reg_f ?_
  refine rs 1 [] [] (by kernel_rfl) allP_nil ?_
  obtain ⟨r363, hr363, h⟩ := bind_sx h
  refine run_call 13 [.agg (Enc.cells p)] (some 7) (by kernel_rfl) ?_
  refine call_0 (pipe_Check_spec p r363 hr363) (by simp only [push_cast, seval]) (by simp only [push_cast, seval]) ?_
  refine back_f ?_
  refine rs 2 [] [] (by kernel_rfl) allP_nil ?_
  refine rf [(1, iS task), (2, .ptr 0 0), (4, .ptr 1 0), (5, .ptr 2 0)] [(0, .row 25 (Enc.cells p)), (1, .row 30 [iS 0, iS 0]), (2, .row 30 (Enc.cells r363))] 3 (by kernel_rfl) ?_
  refine wk_id ?_
  refine seq_np ?_
  refine reg_f ?_
  refine rs 3 [] [] (by kernel_rfl) allP_nil ?_
  refine rf [(1, iS task), (2, .ptr 0 0), (4, .ptr 1 0), (5, .ptr 2 0), (10, bS (r363.Code != 0))] [(0, .row 25 (Enc.cells p)), (1, .row 30 [iS 0, iS 0]), (2, .row 30 (Enc.cells r363))] 3 (by kernel_rfl) ?_
  refine wk_id ?_
  refine cond_sx h (by kernel_rfl) (fun g382 h => ?_) (fun g382 h => ?_)
  · refine seq_np ?_
    refine reg_f ?_
    refine rs 2 [] [] (by kernel_rfl) allP_nil ?_
    refine rf [(4, .ptr 1 0)] [(0, .row 25 (Enc.cells p)), (1, .row 30 (Enc.cells r363)), (2, .row 30 (Enc.cells r363))] 3 (by kernel_rfl) ?_
    refine wk_id ?_
    obtain rfl := Option.some.inj h
    refine ret_at (.agg (Enc.cells r363)) (by kernel_rfl) ?_
    exact ret_e [] [] (by simp only [push_cast, seval]) (by simp only [push_cast, seval]) rfl rfl rfl
  · refine wk_id ?_
    refine seq_np ?_
    refine seq_np ?_
    refine reg_f ?_
    refine rs 2 [] [] (by kernel_rfl) allP_nil ?_
    refine rf [(1, iS task), (2, .ptr 0 0), (4, .ptr 1 0), (13, bS (decide (task < 1)))] [(0, .row 25 (Enc.cells p)), (1, .row 30 [iS 0, iS 0]), (2, .row 30 (Enc.cells r363))] 3 (by kernel_rfl) ?_
    refine wk_id ?_
    refine cond_sx h (by kernel_rfl) (fun g381 h => ?_) (fun g381 h => ?_)
    · refine seq_np ?_
      refine reg_f ?_
      obtain ⟨r367, hr367, h⟩ := bind_sx h
      refine run_call 34 [iS 3, iS (-1)] (some 14) (by kernel_rfl) ?_
      refine call_0 (pipe_fault_spec 3 (-1) r367 hr367) (by simp only [push_cast, seval]) (by simp only [push_cast, seval]) ?_
      refine back_f ?_
      refine rs 1 [] [] (by kernel_rfl) allP_nil ?_
      refine rf [(4, .ptr 1 0)] [(0, .row 25 (Enc.cells p)), (1, .row 30 (Enc.cells r367)), (2, .row 30 (Enc.cells r363))] 3 (by kernel_rfl) ?_
      refine wk_id ?_
      obtain rfl := Option.some.inj h
      refine ret_at (.agg (Enc.cells r367)) (by kernel_rfl) ?_
      exact ret_e [] [] (by simp only [push_cast, seval]) (by simp only [push_cast, seval]) rfl rfl rfl
    · refine wk_id ?_
      refine seq_np ?_
      refine seq_np ?_
      refine reg_f ?_
      refine rs 2 [] [] (by kernel_rfl) allP_nil ?_
      obtain ⟨r372, hr372, h⟩ := bind_sx h
      refine run_call 43 [.agg (Enc.cells p), iS task] (some 17) (by kernel_rfl) ?_
      refine call_0 (pipe_Waits_spec p task r372 hr372) (by simp only [push_cast, seval]) (by simp only [push_cast, seval]) ?_
      refine back_f ?_
      refine rf [(2, .ptr 0 0), (4, .ptr 1 0), (17, bS r372)] [(0, .row 25 (Enc.cells p)), (1, .row 30 [iS 0, iS 0]), (2, .row 30 (Enc.cells r363))] 3 (by kernel_rfl) ?_
      refine wk_id ?_
      refine cond_sx h (by kernel_rfl) (fun g380 h => ?_) (fun g380 h => ?_)
      · refine seq_np ?_
        refine reg_f ?_
        obtain ⟨r374, hr374, h⟩ := bind_sx h
        refine run_call 34 [iS 10, iS (-1)] (some 18) (by kernel_rfl) ?_
        refine call_0 (pipe_fault_spec 10 (-1) r374 hr374) (by simp only [push_cast, seval]) (by simp only [push_cast, seval]) ?_
        refine back_f ?_
        refine rs 1 [] [] (by kernel_rfl) allP_nil ?_
        refine rf [(4, .ptr 1 0)] [(0, .row 25 (Enc.cells p)), (1, .row 30 (Enc.cells r374)), (2, .row 30 (Enc.cells r363))] 3 (by kernel_rfl) ?_
        refine wk_id ?_
        obtain rfl := Option.some.inj h
        refine ret_at (.agg (Enc.cells r374)) (by kernel_rfl) ?_
        exact ret_e [] [] (by simp only [push_cast, seval]) (by simp only [push_cast, seval]) rfl rfl rfl
      · refine wk_id ?_
        refine seq_np ?_
        refine seq_np ?_
        refine reg_f ?_
        refine rs 12 [] [] (by kernel_rfl) allP_nil ?_
        refine rf [(4, .ptr 1 0), (30, bS ((IntKind.i64.wrap ((IntKind.i64.wrap (((p.Items.length : Nat) : Int) + ((p.Senders.length : Nat) : Int))) + ((p.Getters.length : Nat) : Int))) == 5000))] [(0, .row 25 (Enc.cells p)), (1, .row 30 [iS 0, iS 0]), (2, .row 30 (Enc.cells r363))] 3 (by kernel_rfl) ?_
        refine wk_id ?_
        refine cond_sx h (by kernel_rfl) (fun g379 h => ?_) (fun g379 h => ?_)
        · refine seq_np ?_
          refine reg_f ?_
          obtain ⟨r378, hr378, h⟩ := bind_sx h
          refine run_call 34 [iS 9, iS 0] (some 31) (by kernel_rfl) ?_
          refine call_0 (pipe_fault_spec 9 0 r378 hr378) (by simp only [push_cast, seval]) (by simp only [push_cast, seval]) ?_
          refine back_f ?_
          refine rs 1 [] [] (by kernel_rfl) allP_nil ?_
          refine rf [(4, .ptr 1 0)] [(0, .row 25 (Enc.cells p)), (1, .row 30 (Enc.cells r378)), (2, .row 30 (Enc.cells r363))] 3 (by kernel_rfl) ?_
          refine wk_id ?_
          obtain rfl := Option.some.inj h
          refine ret_at (.agg (Enc.cells r378)) (by kernel_rfl) ?_
          exact ret_e [] [] (by simp only [push_cast, seval]) (by simp only [push_cast, seval]) rfl rfl rfl
        · refine wk_id ?_
          refine seq_np ?_
          refine reg_f ?_
          refine rs 2 [] [] (by kernel_rfl) allP_nil ?_
          refine rf [(4, .ptr 1 0)] [(0, .row 25 (Enc.cells p)), (1, .row 30 [iS 0, iS 0]), (2, .row 30 (Enc.cells r363))] 3 (by kernel_rfl) ?_
          refine wk_id ?_
          obtain rfl := Option.some.inj h
          refine ret_at (.agg [iS 0, iS 0]) (by kernel_rfl) ?_
          exact ret_e [] [] (by simp only [push_cast, seval]) (by simp only [push_cast, seval]) rfl rfl rfl

set_option maxRecDepth 100000 in
set_option maxHeartbeats 200000000 in
theorem slices_Clone_int_spec (s : (List Int)) (r : (List Int)) (h : slices_Clone_int s = some r) : SpecW Try.prog 45 [.sl s.length (fl s)] [] 0 (fun x h n => x = .own 0 0 r.length ∧ h = [(0, .row 3 (fl r))] ∧ n = 1) := by
  unfold slices_Clone_int at h
  refine spec_of (draw_ok _) Try.func45 rfl (by decide) rfl (by kernel_rfl) ?_
  refine seq_np ?_
  refine reg_f ?_
  refine rs 1 [] [] (by kernel_rfl) allP_nil ?_
  refine rf [(0, .sl s.length (fl s))] [] 0 (by kernel_rfl) ?_
  refine wk_id ?_
  refine seq_np ?_
  refine seq_np ?_
  refine reg_f ?_
  refine rs 1 [] [] (by kernel_rfl) allP_nil ?_
  refine run_nil s.length (some 4) (by kernel_rfl) (fun g391 => ?_) ?_
  · obtain rfl : s = [] := List.eq_nil_of_length_eq_zero g391
    replace h : (some ([])) = some r := by simpa using h
    refine rf [(0, .sl ([] : List Int).length (fl ([] : List Int))), (4, bS true)] [] 0 (by kernel_rfl) ?_
    refine wk_id ?_
    refine cond_t (by kernel_rfl) ?_
    refine seq_np ?_
    refine reg_f ?_
    refine rs 1 [] [] (by kernel_rfl) allP_nil ?_
    refine rf [(2, .v (.slice none 0 0))] [] 0 (by kernel_rfl) ?_
    refine wk_id ?_
    obtain rfl := Option.some.inj h
    refine ret_at (.v (.slice none 0 0)) (by kernel_rfl) ?_
    exact ret_e [] [] (by simp only [push_cast, seval]) (by simp only [push_cast, seval]) rfl rfl rfl
  · refine rf [(0, .sl s.length (fl s)), (4, bS false)] [] 0 (by kernel_rfl) ?_
    refine wk_id ?_
    refine cond_f (by kernel_rfl) ?_
    refine wk_id ?_
    refine chk_sx h (fun g390 h => ?_)
    refine seq_np ?_
    refine reg_f ?_
    refine run_mk0 Int (some 5) 3 (by kernel_rfl) ?_
    have k389 : (([] : List Int) ++ s).length * 8 ≤ 140737488355328 := by first | simpa only [Bool.and_eq_true, decide_eq_true_eq, bne_iff_ne, ne_eq] using g390 | (simp at g390 ⊢; omega)
    refine rs 3 [none, some ⟨.own 1 0 (([] : List Int) ++ s).length, [(1, .row 3 (fl (([] : List Int) ++ s))), (0, .dead)], 2, [0]⟩] _ (by kernel_rfl) (allP_cons (ob_app (P := Try.prog) ([] : List Int) s 1 8 rfl (fl s) s.length rfl rfl ((fl s).length = s.length * 1) (app_sl s 1 rfl) 3 (by kernel_rfl) (by decide) k389 0 1 []) allP_nil) ?_
    refine rf [(2, .own 1 0 (([] : List Int) ++ s).length)] [(0, .dead), (1, .row 3 (fl (([] : List Int) ++ s)))] 2 (by kernel_rfl) ?_
    refine wk_id ?_
    obtain rfl := Option.some.inj h
    refine ret_at (.own 1 0 (([] : List Int) ++ s).length) (by kernel_rfl) ?_
    exact ret_e [(0, 1)] [] (by simp only [push_cast, seval]) (by simp only [push_cast, seval]) rfl rfl rfl

set_option maxRecDepth 100000 in
set_option maxHeartbeats 200000000 in
theorem slices_Clone_Post_spec (s : (List GPost)) (r : (List GPost)) (h : slices_Clone_Post s = some r) : SpecW Try.prog 46 [.sl s.length (fl s)] [] 0 (fun x h n => x = .own 0 0 r.length ∧ h = [(0, .row 39 (fl r))] ∧ n = 1) := by
  unfold slices_Clone_Post at h
  refine spec_of (draw_ok _) Try.func46 rfl (by decide) rfl (by kernel_rfl) ?_
  refine seq_np ?_
  refine reg_f ?_
  refine rs 1 [] [] (by kernel_rfl) allP_nil ?_
  refine rf [(0, .sl s.length (fl s))] [] 0 (by kernel_rfl) ?_
  refine wk_id ?_
  refine seq_np ?_
  refine seq_np ?_
  refine reg_f ?_
  refine rs 1 [] [] (by kernel_rfl) allP_nil ?_
  refine run_nil s.length (some 4) (by kernel_rfl) (fun g399 => ?_) ?_
  · obtain rfl : s = [] := List.eq_nil_of_length_eq_zero g399
    replace h : (some ([])) = some r := by simpa using h
    refine rf [(0, .sl ([] : List GPost).length (fl ([] : List GPost))), (4, bS true)] [] 0 (by kernel_rfl) ?_
    refine wk_id ?_
    refine cond_t (by kernel_rfl) ?_
    refine seq_np ?_
    refine reg_f ?_
    refine rs 1 [] [] (by kernel_rfl) allP_nil ?_
    refine rf [(2, .v (.slice none 0 0))] [] 0 (by kernel_rfl) ?_
    refine wk_id ?_
    obtain rfl := Option.some.inj h
    refine ret_at (.v (.slice none 0 0)) (by kernel_rfl) ?_
    exact ret_e [] [] (by simp only [push_cast, seval]) (by simp only [push_cast, seval]) rfl rfl rfl
  · refine rf [(0, .sl s.length (fl s)), (4, bS false)] [] 0 (by kernel_rfl) ?_
    refine wk_id ?_
    refine cond_f (by kernel_rfl) ?_
    refine wk_id ?_
    refine chk_sx h (fun g398 h => ?_)
    refine seq_np ?_
    refine reg_f ?_
    refine run_mk0 GPost (some 5) 39 (by kernel_rfl) ?_
    have k397 : (([] : List GPost) ++ s).length * 24 ≤ 140737488355328 := by first | simpa only [Bool.and_eq_true, decide_eq_true_eq, bne_iff_ne, ne_eq] using g398 | (simp at g398 ⊢; omega)
    refine rs 3 [none, some ⟨.own 1 0 (([] : List GPost) ++ s).length, [(1, .row 39 (fl (([] : List GPost) ++ s))), (0, .dead)], 2, [0]⟩] _ (by kernel_rfl) (allP_cons (ob_app (P := Try.prog) ([] : List GPost) s 3 24 rfl (fl s) s.length rfl rfl ((fl s).length = s.length * 3) (app_sl s 3 rfl) 39 (by kernel_rfl) (by decide) k397 0 1 []) allP_nil) ?_
    refine rf [(2, .own 1 0 (([] : List GPost) ++ s).length)] [(0, .dead), (1, .row 39 (fl (([] : List GPost) ++ s)))] 2 (by kernel_rfl) ?_
    refine wk_id ?_
    obtain rfl := Option.some.inj h
    refine ret_at (.own 1 0 (([] : List GPost) ++ s).length) (by kernel_rfl) ?_
    exact ret_e [(0, 1)] [] (by simp only [push_cast, seval]) (by simp only [push_cast, seval]) rfl rfl rfl

set_option maxRecDepth 100000 in
set_option maxHeartbeats 200000000 in
theorem pipe_Copy_spec (p : Pipe) (r : Int × Bool × (List Int) × (List GPost) × (List GPost)) (h : pipe_Copy p = some r) : SpecW Try.prog 37 [.agg (Enc.cells p)] [] 0 (fun x h n => x = .agg [iS r.1, .own 0 0 r.2.2.1.length, bS r.2.1, .own 1 0 r.2.2.2.1.length, .own 2 0 r.2.2.2.2.length] ∧ h = [(0, .row 3 (fl r.2.2.1)), (1, .row 39 (fl r.2.2.2.1)), (2, .row 39 (fl r.2.2.2.2))] ∧ n = 3) := by
  unfold pipe_Copy at h
  refine spec_of (draw_ok _) Try.func37 rfl (by decide) rfl (by kernel_rfl) ?_
  refine seq_np ?_
  refine reg_f ?_
  refine rs 2 [] [] (by kernel_rfl) allP_nil ?_
  refine rf [(1, .ptr 0 0), (2, .ptr 1 0)] [(0, .row 25 (Enc.cells p)), (1, .row 25 [iS 0, .v (.slice none 0 0), bS false, .v (.slice none 0 0), .v (.slice none 0 0)])] 2 (by kernel_rfl) ?_
  refine wk_id ?_
  refine seq_np ?_
  refine reg_t ?_
  refine rs 6 [] [] (by kernel_rfl) allP_nil ?_
  obtain ⟨r405, hr405, h⟩ := bind_sx h
  refine call_x (slices_Clone_int_spec p.Items r405 hr405) (args := [.sl p.Items.length (fl p.Items)]) (dst := (some 9)) (by kernel_rfl) [(0, .row 25 (Enc.cells p)), (1, .row 25 [iS 0, .v (.slice none 0 0), bS false, .v (.slice none 0 0), .v (.slice none 0 0)])] 8 (by kernel_rfl) [] [] (.own 8 0 r405.length) [(8, .row 3 (fl r405))] (by simp only [push_cast, seval]) (by simp only [push_cast, seval]) (by kernel_rfl) (.inl rfl) (by simp only [push_cast, seval]) (by simp only [push_cast, seval]) ?_
  refine rs 2 [] [] (by kernel_rfl) allP_nil ?_
  obtain ⟨r406, hr406, h⟩ := bind_sx h
  refine call_x (slices_Clone_Post_spec p.Senders r406 hr406) (args := [.sl p.Senders.length (fl p.Senders)]) (dst := (some 12)) (by kernel_rfl) [(0, .row 25 (Enc.cells p)), (1, .row 25 [iS 0, .v (.slice none 0 0), bS false, .v (.slice none 0 0), .v (.slice none 0 0)]), (8, .row 3 (fl r405))] 12 (by kernel_rfl) [] [] (.own 12 0 r406.length) [(12, .row 39 (fl r406))] (by simp only [push_cast, seval]) (by simp only [push_cast, seval]) (by kernel_rfl) (.inl rfl) (by simp only [push_cast, seval]) (by simp only [push_cast, seval]) ?_
  refine rs 2 [] [] (by kernel_rfl) allP_nil ?_
  obtain ⟨r407, hr407, h⟩ := bind_sx h
  refine call_x (slices_Clone_Post_spec p.Getters r407 hr407) (args := [.sl p.Getters.length (fl p.Getters)]) (dst := (some 15)) (by kernel_rfl) [(0, .row 25 (Enc.cells p)), (1, .row 25 [iS 0, .v (.slice none 0 0), bS false, .v (.slice none 0 0), .v (.slice none 0 0)]), (8, .row 3 (fl r405)), (12, .row 39 (fl r406))] 16 (by kernel_rfl) [] [] (.own 16 0 r407.length) [(16, .row 39 (fl r407))] (by simp only [push_cast, seval]) (by simp only [push_cast, seval]) (by kernel_rfl) (.inl rfl) (by simp only [push_cast, seval]) (by simp only [push_cast, seval]) ?_
  refine rs 2 [] [] (by kernel_rfl) allP_nil ?_
  refine rt [(2, .ptr 1 0)] [(0, .row 25 (Enc.cells p)), (1, .row 25 [iS p.Cap, .own 8 0 r405.length, bS p.Closed, .own 12 0 r406.length, .own 16 0 r407.length]), (8, .row 3 (fl r405)), (12, .row 39 (fl r406)), (16, .row 39 (fl r407))] 20 follows (by kernel_rfl) ?_
  refine wk_id ?_
  obtain rfl := Option.some.inj h
  refine ret_at (.agg [iS p.Cap, .own 8 0 r405.length, bS p.Closed, .own 12 0 r406.length, .own 16 0 r407.length]) (by kernel_rfl) ?_
  exact ret_e [(0, 8), (1, 12), (2, 16)] [] (by simp only [push_cast, seval]) (by simp only [push_cast, seval]) rfl rfl rfl

set_option maxRecDepth 100000 in
set_option maxHeartbeats 200000000 in
theorem pipe_Got_spec (x : GPost) (c0_Cap : Int) (c0_Closed : Bool) (c1 : (List Int)) (c2 : (List GPost)) (c3 : (List GPost)) (r : Bool × Bool × Bool × Int × Int × (List GWake) × Int × Bool × (List Int) × (List GPost) × (List GPost)) (h : pipe_Got x c0_Cap c0_Closed c1 c2 c3 = some r) : SpecW Try.prog 41 [.ptr 0 0, .agg (Enc.cells x)] [(0, .row 25 [iS c0_Cap, .own 1 0 c1.length, bS c0_Closed, .own 2 0 c2.length, .own 3 0 c3.length]), (1, .row 3 (fl c1)), (2, .row 39 (fl c2)), (3, .row 39 (fl c3))] 4 (fun x h n => x = .agg [bS r.1, bS r.2.1, bS r.2.2.1, iS r.2.2.2.1, iS r.2.2.2.2.1, .own 4 0 r.2.2.2.2.2.1.length] ∧ h = [(0, .row 25 [iS r.2.2.2.2.2.2.1, .own 5 0 r.2.2.2.2.2.2.2.2.1.length, bS r.2.2.2.2.2.2.2.1, .own 6 0 r.2.2.2.2.2.2.2.2.2.1.length, .own 3 0 r.2.2.2.2.2.2.2.2.2.2.length]), (1, .dead), (2, .dead), (3, .row 39 (fl r.2.2.2.2.2.2.2.2.2.2)), (4, .row 64 (fl r.2.2.2.2.2.1)), (5, .row 3 (fl r.2.2.2.2.2.2.2.2.1)), (6, .row 39 (fl r.2.2.2.2.2.2.2.2.2.1))] ∧ n = 7) := by
  unfold pipe_Got at h
  refine spec_of (draw_ok _) Try.func41 rfl (by decide) rfl (by kernel_rfl) ?_
  refine seq_np ?_
  refine reg_f ?_
  refine rs 2 [] [] (by kernel_rfl) allP_nil ?_
  refine rf [(0, .ptr 0 0), (3, .ptr 4 0), (4, .ptr 5 0)] [(0, .row 25 [iS c0_Cap, .own 1 0 c1.length, bS c0_Closed, .own 2 0 c2.length, .own 3 0 c3.length]), (1, .row 3 (fl c1)), (2, .row 39 (fl c2)), (3, .row 39 (fl c3)), (4, .row 39 (Enc.cells x)), (5, .row 34 [bS false, bS false, bS false, iS 0, iS 0, .v (.slice none 0 0)])] 6 (by kernel_rfl) ?_
  refine wk_id ?_
  refine seq_np ?_
  refine reg_f ?_
  refine rs 5 [] [] (by kernel_rfl) allP_nil ?_
  refine rf [(0, .ptr 0 0), (3, .ptr 4 0), (4, .ptr 5 0), (5, .ptr 6 0)] [(0, .row 25 [iS c0_Cap, .own 1 0 c1.length, bS c0_Closed, .own 2 0 c2.length, .own 3 0 c3.length]), (1, .row 3 (fl c1)), (2, .row 39 (fl c2)), (3, .row 39 (fl c3)), (4, .row 39 (Enc.cells x)), (5, .row 34 [bS false, bS false, bS false, iS 0, iS 0, .v (.slice none 0 0)]), (6, .row 34 [bS true, bS false, bS true, iS 0, iS x.Case, .v (.slice none 0 0)])] 7 (by kernel_rfl) ?_
  refine wk_id ?_
  refine seq_cut (A := (List Int) × (List GPost) × (List GWake)) (fun a => ([(0, .ptr 0 0), (3, .ptr 4 0), (4, .ptr 5 0), (5, .ptr 6 0)], [(0, .row 25 [iS c0_Cap, .own 7 0 a.1.length, bS c0_Closed, .own 8 0 a.2.1.length, .own 3 0 c3.length]), (1, .dead), (2, .dead), (3, .row 39 (fl c3)), (4, .row 39 (Enc.cells x)), (5, .row 34 [bS false, bS false, bS false, iS 0, iS 0, .v (.slice none 0 0)]), (6, .row 34 [bS true, bS false, bS true, iS 0, iS x.Case, .own 9 0 a.2.2.length]), (7, .row 3 (fl a.1)), (8, .row 39 (fl a.2.1)), (9, .row 64 (fl a.2.2))], 10)) (fun a => (pipe_Got_j1 x c0_Cap c0_Closed c3 a.1 a.2.1 a.2.2) = some r) (fun K432 hK432 => ?_) ?_
  · refine seq_np ?_
    refine reg_f ?_
    refine rs 6 [] [] (by kernel_rfl) allP_nil ?_
    refine rf [(0, .ptr 0 0), (3, .ptr 4 0), (4, .ptr 5 0), (5, .ptr 6 0), (15, bS (decide ((0 : Int) < ((c2.length : Nat) : Int))))] [(0, .row 25 [iS c0_Cap, .own 1 0 c1.length, bS c0_Closed, .own 2 0 c2.length, .own 3 0 c3.length]), (1, .row 3 (fl c1)), (2, .row 39 (fl c2)), (3, .row 39 (fl c3)), (4, .row 39 (Enc.cells x)), (5, .row 34 [bS false, bS false, bS false, iS 0, iS 0, .v (.slice none 0 0)]), (6, .row 34 [bS true, bS false, bS true, iS 0, iS x.Case, .v (.slice none 0 0)])] 7 (by kernel_rfl) ?_
    refine wk_id ?_
    refine cond_sx h (by kernel_rfl) (fun g445 h => ?_) (fun g445 h => ?_)
    · refine chk_sx h (fun g436 h => ?_)
      refine seq_np ?_
      refine reg_f ?_
      have k435 : 0 ≤ (0 : Int) ∧ (0 : Int) < ((c2.length : Nat) : Int) := by first | simpa only [Bool.and_eq_true, decide_eq_true_eq, bne_iff_ne, ne_eq] using g436 | (simp at g436 ⊢; omega)
      refine rs 8 [none, none, none, none, some ⟨.ptr 2 (0 + ((0 : Int)).toNat * 3), [], 7, [2]⟩, some ⟨.agg (Enc.cells (ix c2 (0 : Int))), [], 7, [2]⟩] _ (by kernel_rfl) (allP_cons (ob_ldw c2 (0 : Int) 3 (0 + ((0 : Int)).toNat * 3) k435 rfl (by first | rfl | omega) [iS (ix c2 (0 : Int)).Task, iS (ix c2 (0 : Int)).Case, iS (ix c2 (0 : Int)).Value] rfl 7 [2]) (allP_cons (ob_ix_o 2 c2.length 0 3 7 0 k435) allP_nil)) ?_
      refine rf [(0, .ptr 0 0), (3, .ptr 4 0), (4, .ptr 5 0), (5, .ptr 6 0), (6, .ptr 7 0)] [(0, .row 25 [iS c0_Cap, .own 1 0 c1.length, bS c0_Closed, .own 2 0 c2.length, .own 3 0 c3.length]), (1, .row 3 (fl c1)), (2, .row 39 (fl c2)), (3, .row 39 (fl c3)), (4, .row 39 (Enc.cells x)), (5, .row 34 [bS false, bS false, bS false, iS 0, iS 0, .v (.slice none 0 0)]), (6, .row 34 [bS true, bS false, bS true, iS 0, iS x.Case, .v (.slice none 0 0)]), (7, .row 39 (Enc.cells (ix c2 (0 : Int))))] 8 (by kernel_rfl) ?_
      refine wk_id ?_
      refine chk_sx h (fun g440 h => ?_)
      refine seq_np ?_
      refine reg_f ?_
      have k439 : 0 ≤ (1 : Int) ∧ (1 : Int) ≤ ((c2.length : Nat) : Int) ∧ ((c2.length : Nat) : Int) ≤ ((c2.length : Nat) : Int) := by first | simpa only [Bool.and_eq_true, decide_eq_true_eq, bne_iff_ne, ne_eq] using g440 | (simp at g440 ⊢; omega)
      refine rs 5 [] [] (by kernel_rfl) allP_nil ?_
      refine run_cutO c2 (some 27) 2 3 39 (1 : Int) ((c2.length : Nat) : Int) (by kernel_rfl) rfl k439 ?_
      refine rs 3 [] [] (by kernel_rfl) allP_nil ?_
      refine rf [(0, .ptr 0 0), (3, .ptr 4 0), (4, .ptr 5 0), (5, .ptr 6 0), (6, .ptr 7 0)] [(0, .row 25 [iS c0_Cap, .own 1 0 c1.length, bS c0_Closed, .own 8 0 (cut c2 (1 : Int) ((c2.length : Nat) : Int)).length, .own 3 0 c3.length]), (1, .row 3 (fl c1)), (2, .dead), (3, .row 39 (fl c3)), (4, .row 39 (Enc.cells x)), (5, .row 34 [bS false, bS false, bS false, iS 0, iS 0, .v (.slice none 0 0)]), (6, .row 34 [bS true, bS false, bS true, iS 0, iS x.Case, .v (.slice none 0 0)]), (7, .row 39 (Enc.cells (ix c2 (0 : Int)))), (8, .row 39 (fl (cut c2 (1 : Int) ((c2.length : Nat) : Int))))] 9 (by kernel_rfl) ?_
      refine wk_id ?_
      refine chk_sx h (fun g444 h => ?_)
      refine seq_np ?_
      refine reg_t ?_
      have k443 : (c1 ++ ([(ix c2 (0 : Int)).Value] : List Int)).length * 8 ≤ 140737488355328 := by first | simpa only [Bool.and_eq_true, decide_eq_true_eq, bne_iff_ne, ne_eq] using g444 | (simp at g444 ⊢; omega)
      refine rs 12 [none, none, none, none, none, none, none, none, some ⟨.own 18 0 (c1 ++ ([(ix c2 (0 : Int)).Value] : List Int)).length, [(18, .row 3 (fl (c1 ++ ([(ix c2 (0 : Int)).Value] : List Int)))), (1, .dead)], 19, [1, 16]⟩] _ (by kernel_rfl) (allP_cons (ob_app (P := Try.prog) c1 ([(ix c2 (0 : Int)).Value] : List Int) 1 8 rfl (appCells (fl ([(ix c2 (0 : Int)).Value] : List Int)) 0 (([(ix c2 (0 : Int)).Value] : List Int).length * 1)) ([(ix c2 (0 : Int)).Value] : List Int).length (app_own ([(ix c2 (0 : Int)).Value] : List Int) 1 rfl) rfl (0 + ([(ix c2 (0 : Int)).Value] : List Int).length * 1 ≤ (fl ([(ix c2 (0 : Int)).Value] : List Int)).length) (app_own_le ([(ix c2 (0 : Int)).Value] : List Int) 1 rfl) 3 (by kernel_rfl) (by decide) k443 1 18 [16]) allP_nil) ?_
      refine rt [(0, .ptr 0 0), (3, .ptr 4 0), (4, .ptr 5 0), (5, .ptr 6 0), (6, .ptr 7 0)] [(0, .row 25 [iS c0_Cap, .own 18 0 (c1 ++ ([(ix c2 (0 : Int)).Value] : List Int)).length, bS c0_Closed, .own 8 0 (cut c2 (1 : Int) ((c2.length : Nat) : Int)).length, .own 3 0 c3.length]), (1, .dead), (2, .dead), (3, .row 39 (fl c3)), (4, .row 39 (Enc.cells x)), (5, .row 34 [bS false, bS false, bS false, iS 0, iS 0, .v (.slice none 0 0)]), (6, .row 34 [bS true, bS false, bS true, iS 0, iS x.Case, .v (.slice none 0 0)]), (7, .row 39 (Enc.cells (ix c2 (0 : Int)))), (8, .row 39 (fl (cut c2 (1 : Int) ((c2.length : Nat) : Int)))), (16, .row 3 (fl ([(ix c2 (0 : Int)).Value] : List Int))), (18, .row 3 (fl (c1 ++ ([(ix c2 (0 : Int)).Value] : List Int))))] 23 follows (by kernel_rfl) ?_
      refine wk_id ?_
      refine reg_f ?_
      refine rs 8 [] [] (by kernel_rfl) allP_nil ?_
      refine rf [(0, .ptr 0 0), (3, .ptr 4 0), (4, .ptr 5 0), (5, .ptr 6 0)] [(0, .row 25 [iS c0_Cap, .own 18 0 (c1 ++ ([(ix c2 (0 : Int)).Value] : List Int)).length, bS c0_Closed, .own 8 0 (cut c2 (1 : Int) ((c2.length : Nat) : Int)).length, .own 3 0 c3.length]), (1, .dead), (2, .dead), (3, .row 39 (fl c3)), (4, .row 39 (Enc.cells x)), (5, .row 34 [bS false, bS false, bS false, iS 0, iS 0, .v (.slice none 0 0)]), (6, .row 34 [bS true, bS false, bS true, iS 0, iS x.Case, .own 23 0 ([(GWake.mk (ix c2 (0 : Int)).Task (ix c2 (0 : Int)).Case 0 false false)] : List GWake).length]), (7, .row 39 (Enc.cells (ix c2 (0 : Int)))), (8, .row 39 (fl (cut c2 (1 : Int) ((c2.length : Nat) : Int)))), (16, .row 3 (fl ([(ix c2 (0 : Int)).Value] : List Int))), (18, .row 3 (fl (c1 ++ ([(ix c2 (0 : Int)).Value] : List Int)))), (23, .row 64 (fl ([(GWake.mk (ix c2 (0 : Int)).Task (ix c2 (0 : Int)).Case 0 false false)] : List GWake)))] 24 (by kernel_rfl) ?_
      exact hK432 ((c1 ++ ([(ix c2 (0 : Int)).Value] : List Int)), (cut c2 (1 : Int) ((c2.length : Nat) : Int)), ([(GWake.mk (ix c2 (0 : Int)).Task (ix c2 (0 : Int)).Case 0 false false)] : List GWake)) _ _ _ h (leSt_m [(0, 0), (3, 3), (4, 4), (5, 5), (6, 6), (7, 18), (8, 8), (9, 23)] [] (by simp only [push_cast, seval]) (by simp only [push_cast, seval]) rfl rfl rfl)
    · exact hK432 (c1, c2, []) _ _ _ h (leSt_m [(0, 0), (3, 3), (4, 4), (5, 5), (6, 6), (7, 1), (8, 2)] [] (by simp only [push_cast, seval]) (by simp only [push_cast, seval]) rfl rfl rfl)
  · rintro ⟨c7q1, c8q1, c9q1⟩ h
    try dsimp only at h ⊢
    unfold pipe_Got_j1 at h
    refine seq_np ?_
    refine seq_np ?_
    refine reg_f ?_
    refine rs 6 [] [] (by kernel_rfl) allP_nil ?_
    refine rf [(0, .ptr 0 0), (3, .ptr 4 0), (4, .ptr 5 0), (5, .ptr 6 0), (53, bS (decide ((0 : Int) < ((c7q1.length : Nat) : Int))))] [(0, .row 25 [iS c0_Cap, .own 7 0 c7q1.length, bS c0_Closed, .own 8 0 c8q1.length, .own 3 0 c3.length]), (1, .dead), (2, .dead), (3, .row 39 (fl c3)), (4, .row 39 (Enc.cells x)), (5, .row 34 [bS false, bS false, bS false, iS 0, iS 0, .v (.slice none 0 0)]), (6, .row 34 [bS true, bS false, bS true, iS 0, iS x.Case, .own 9 0 c9q1.length]), (7, .row 3 (fl c7q1)), (8, .row 39 (fl c8q1)), (9, .row 64 (fl c9q1))] 10 (by kernel_rfl) ?_
    refine wk_id ?_
    refine cond_sx h (by kernel_rfl) (fun g461 h => ?_) (fun g461 h => ?_)
    · refine chk_sx h (fun g454 h => ?_)
      refine seq_np ?_
      refine reg_f ?_
      have k453 : 0 ≤ (0 : Int) ∧ (0 : Int) < ((c7q1.length : Nat) : Int) := by first | simpa only [Bool.and_eq_true, decide_eq_true_eq, bne_iff_ne, ne_eq] using g454 | (simp at g454 ⊢; omega)
      refine rs 8 [none, none, none, none, some ⟨.ptr 7 (0 + ((0 : Int)).toNat * 1), [], 10, [7]⟩, some ⟨iS (ix c7q1 (0 : Int)), [], 10, [7]⟩] _ (by kernel_rfl) (allP_cons (ob_ld c7q1 (0 : Int) 1 0 (0 + ((0 : Int)).toNat * 1) k453 rfl (by decide) (by first | rfl | omega) (dflS Try.prog 3) (iS (ix c7q1 (0 : Int))) rfl 10 [7]) (allP_cons (ob_ix_o 7 c7q1.length 0 1 10 0 k453) allP_nil)) ?_
      refine rf [(0, .ptr 0 0), (4, .ptr 5 0), (5, .ptr 6 0)] [(0, .row 25 [iS c0_Cap, .own 7 0 c7q1.length, bS c0_Closed, .own 8 0 c8q1.length, .own 3 0 c3.length]), (1, .dead), (2, .dead), (3, .row 39 (fl c3)), (4, .row 39 (Enc.cells x)), (5, .row 34 [bS false, bS false, bS false, iS 0, iS 0, .v (.slice none 0 0)]), (6, .row 34 [bS true, bS false, bS true, iS (ix c7q1 (0 : Int)), iS x.Case, .own 9 0 c9q1.length]), (7, .row 3 (fl c7q1)), (8, .row 39 (fl c8q1)), (9, .row 64 (fl c9q1))] 10 (by kernel_rfl) ?_
      refine wk_id ?_
      refine chk_sx h (fun g458 h => ?_)
      refine seq_np ?_
      refine reg_f ?_
      have k457 : 0 ≤ (1 : Int) ∧ (1 : Int) ≤ ((c7q1.length : Nat) : Int) ∧ ((c7q1.length : Nat) : Int) ≤ ((c7q1.length : Nat) : Int) := by first | simpa only [Bool.and_eq_true, decide_eq_true_eq, bne_iff_ne, ne_eq] using g458 | (simp at g458 ⊢; omega)
      refine rs 5 [] [] (by kernel_rfl) allP_nil ?_
      refine run_cutO c7q1 (some 66) 7 1 3 (1 : Int) ((c7q1.length : Nat) : Int) (by kernel_rfl) rfl k457 ?_
      refine rs 3 [] [] (by kernel_rfl) allP_nil ?_
      refine rf [(4, .ptr 5 0), (5, .ptr 6 0)] [(0, .row 25 [iS c0_Cap, .own 10 0 (cut c7q1 (1 : Int) ((c7q1.length : Nat) : Int)).length, bS c0_Closed, .own 8 0 c8q1.length, .own 3 0 c3.length]), (1, .dead), (2, .dead), (3, .row 39 (fl c3)), (4, .row 39 (Enc.cells x)), (5, .row 34 [bS false, bS false, bS false, iS 0, iS 0, .v (.slice none 0 0)]), (6, .row 34 [bS true, bS false, bS true, iS (ix c7q1 (0 : Int)), iS x.Case, .own 9 0 c9q1.length]), (7, .dead), (8, .row 39 (fl c8q1)), (9, .row 64 (fl c9q1)), (10, .row 3 (fl (cut c7q1 (1 : Int) ((c7q1.length : Nat) : Int))))] 11 (by kernel_rfl) ?_
      refine wk_id ?_
      refine seq_np ?_
      refine reg_f ?_
      refine rs 2 [] [] (by kernel_rfl) allP_nil ?_
      refine rf [(4, .ptr 5 0)] [(0, .row 25 [iS c0_Cap, .own 10 0 (cut c7q1 (1 : Int) ((c7q1.length : Nat) : Int)).length, bS c0_Closed, .own 8 0 c8q1.length, .own 3 0 c3.length]), (1, .dead), (2, .dead), (3, .row 39 (fl c3)), (4, .row 39 (Enc.cells x)), (5, .row 34 [bS true, bS false, bS true, iS (ix c7q1 (0 : Int)), iS x.Case, .own 9 0 c9q1.length]), (6, .row 34 [bS true, bS false, bS true, iS (ix c7q1 (0 : Int)), iS x.Case, .own 9 0 c9q1.length]), (7, .dead), (8, .row 39 (fl c8q1)), (9, .row 64 (fl c9q1)), (10, .row 3 (fl (cut c7q1 (1 : Int) ((c7q1.length : Nat) : Int))))] 11 (by kernel_rfl) ?_
      refine wk_id ?_
      obtain rfl := Option.some.inj h
      refine ret_at (.agg [bS true, bS false, bS true, iS (ix c7q1 (0 : Int)), iS x.Case, .own 9 0 c9q1.length]) (by kernel_rfl) ?_
      exact ret_e [(0, 0), (3, 3), (4, 9), (5, 10), (6, 8)] [] (by simp only [push_cast, seval]) (by simp only [push_cast, seval]) rfl rfl rfl
    · refine wk_id ?_
      refine seq_np ?_
      refine seq_np ?_
      refine reg_f ?_
      refine rs 4 [] [] (by kernel_rfl) allP_nil ?_
      refine rf [(3, .ptr 4 0), (4, .ptr 5 0), (73, bS c0_Closed)] [(0, .row 25 [iS c0_Cap, .own 7 0 c7q1.length, bS c0_Closed, .own 8 0 c8q1.length, .own 3 0 c3.length]), (1, .dead), (2, .dead), (3, .row 39 (fl c3)), (4, .row 39 (Enc.cells x)), (5, .row 34 [bS false, bS false, bS false, iS 0, iS 0, .v (.slice none 0 0)]), (6, .row 34 [bS true, bS false, bS true, iS 0, iS x.Case, .own 9 0 c9q1.length]), (7, .row 3 (fl c7q1)), (8, .row 39 (fl c8q1)), (9, .row 64 (fl c9q1))] 10 (by kernel_rfl) ?_
      refine wk_id ?_
      refine cond_sx h (by kernel_rfl) (fun g460 h => ?_) (fun g460 h => ?_)
      · refine seq_np ?_
        refine reg_f ?_
        refine rs 4 [] [] (by kernel_rfl) allP_nil ?_
        refine rf [(4, .ptr 5 0)] [(0, .row 25 [iS c0_Cap, .own 7 0 c7q1.length, bS c0_Closed, .own 8 0 c8q1.length, .own 3 0 c3.length]), (1, .dead), (2, .dead), (3, .row 39 (fl c3)), (4, .row 39 (Enc.cells x)), (5, .row 34 [bS true, bS false, bS false, iS 0, iS x.Case, .v (.slice none 0 0)]), (6, .row 34 [bS true, bS false, bS true, iS 0, iS x.Case, .own 9 0 c9q1.length]), (7, .row 3 (fl c7q1)), (8, .row 39 (fl c8q1)), (9, .row 64 (fl c9q1))] 10 (by kernel_rfl) ?_
        refine wk_id ?_
        obtain rfl := Option.some.inj h
        refine ret_at (.agg [bS true, bS false, bS false, iS 0, iS x.Case, .v (.slice none 0 0)]) (by kernel_rfl) ?_
        exact ret_e [(0, 0), (3, 3), (5, 7), (6, 8)] [] (by simp only [push_cast, seval]) (by simp only [push_cast, seval]) rfl rfl rfl
      · refine wk_id ?_
        refine seq_np ?_
        refine reg_f ?_
        refine rs 2 [] [] (by kernel_rfl) allP_nil ?_
        refine rf [(4, .ptr 5 0)] [(0, .row 25 [iS c0_Cap, .own 7 0 c7q1.length, bS c0_Closed, .own 8 0 c8q1.length, .own 3 0 c3.length]), (1, .dead), (2, .dead), (3, .row 39 (fl c3)), (4, .row 39 (Enc.cells x)), (5, .row 34 [bS false, bS false, bS false, iS 0, iS 0, .v (.slice none 0 0)]), (6, .row 34 [bS true, bS false, bS true, iS 0, iS x.Case, .own 9 0 c9q1.length]), (7, .row 3 (fl c7q1)), (8, .row 39 (fl c8q1)), (9, .row 64 (fl c9q1))] 10 (by kernel_rfl) ?_
        refine wk_id ?_
        obtain rfl := Option.some.inj h
        refine ret_at (.agg [bS false, bS false, bS false, iS 0, iS 0, .v (.slice none 0 0)]) (by kernel_rfl) ?_
        exact ret_e [(0, 0), (3, 3), (5, 7), (6, 8)] [] (by simp only [push_cast, seval]) (by simp only [push_cast, seval]) rfl rfl rfl

set_option maxRecDepth 100000 in
set_option maxHeartbeats 200000000 in
theorem pipe_Get_spec (p : Pipe) (task : Int) (xtry : Bool) (r : Int × Bool × Bool × Bool × Bool × Int × Int × Fault × (List Int) × (List GPost) × (List GPost) × (List GWake)) (h : pipe_Get p task xtry = some r) : SpecW Try.prog 21 [.agg (Enc.cells p), iS task, bS xtry] [] 0 (fun x h n => x = .tup [.agg [iS r.1, .own 0 0 r.2.2.2.2.2.2.2.2.1.length, bS r.2.1, .own 1 0 r.2.2.2.2.2.2.2.2.2.1.length, .own 2 0 r.2.2.2.2.2.2.2.2.2.2.1.length], .agg [bS r.2.2.1, bS r.2.2.2.1, bS r.2.2.2.2.1, iS r.2.2.2.2.2.1, iS r.2.2.2.2.2.2.1, .own 3 0 r.2.2.2.2.2.2.2.2.2.2.2.length], .agg (Enc.cells r.2.2.2.2.2.2.2.1)] ∧ h = [(0, .row 3 (fl r.2.2.2.2.2.2.2.2.1)), (1, .row 39 (fl r.2.2.2.2.2.2.2.2.2.1)), (2, .row 39 (fl r.2.2.2.2.2.2.2.2.2.2.1)), (3, .row 64 (fl r.2.2.2.2.2.2.2.2.2.2.2))] ∧ n = 4) := by
  unfold pipe_Get at h
  refine spec_of (draw_ok _) Try.func21 rfl (by decide) rfl (by kernel_rfl) ?_
  refine seq_np ?_
  refine reg_f ?_
  refine rs 4 [] [] (by kernel_rfl) allP_nil ?_
  refine rf [(1, iS task), (2, bS xtry), (3, .ptr 0 0), (6, .ptr 1 0), (7, .ptr 2 0), (8, .ptr 3 0)] [(0, .row 25 (Enc.cells p)), (1, .row 25 [iS 0, .v (.slice none 0 0), bS false, .v (.slice none 0 0), .v (.slice none 0 0)]), (2, .row 34 [bS false, bS false, bS false, iS 0, iS 0, .v (.slice none 0 0)]), (3, .row 30 [iS 0, iS 0])] 4 (by kernel_rfl) ?_
  refine wk_id ?_
  refine seq_np ?_
  refine seq_np ?_
  refine reg_f ?_
  refine rs 2 [] [] (by kernel_rfl) allP_nil ?_
  obtain ⟨r473, hr473, h⟩ := bind_sx h
  refine run_call 36 [.agg (Enc.cells p), iS task] (some 15) (by kernel_rfl) ?_
  refine call_0 (pipe_begin_spec p task r473 hr473) (by simp only [push_cast, seval]) (by simp only [push_cast, seval]) ?_
  refine back_f ?_
  refine rs 2 [] [] (by kernel_rfl) allP_nil ?_
  refine rf [(1, iS task), (2, bS xtry), (3, .ptr 0 0), (6, .ptr 1 0), (7, .ptr 2 0), (8, .ptr 3 0), (9, .ptr 4 0)] [(0, .row 25 (Enc.cells p)), (1, .row 25 [iS 0, .v (.slice none 0 0), bS false, .v (.slice none 0 0), .v (.slice none 0 0)]), (2, .row 34 [bS false, bS false, bS false, iS 0, iS 0, .v (.slice none 0 0)]), (3, .row 30 [iS 0, iS 0]), (4, .row 30 (Enc.cells r473))] 5 (by kernel_rfl) ?_
  refine wk_id ?_
  refine seq_np ?_
  refine reg_f ?_
  refine rs 3 [] [] (by kernel_rfl) allP_nil ?_
  refine rf [(1, iS task), (2, bS xtry), (3, .ptr 0 0), (6, .ptr 1 0), (7, .ptr 2 0), (8, .ptr 3 0), (9, .ptr 4 0), (18, bS (r473.Code != 0))] [(0, .row 25 (Enc.cells p)), (1, .row 25 [iS 0, .v (.slice none 0 0), bS false, .v (.slice none 0 0), .v (.slice none 0 0)]), (2, .row 34 [bS false, bS false, bS false, iS 0, iS 0, .v (.slice none 0 0)]), (3, .row 30 [iS 0, iS 0]), (4, .row 30 (Enc.cells r473))] 5 (by kernel_rfl) ?_
  refine wk_id ?_
  refine cond_sx h (by kernel_rfl) (fun g494 h => ?_) (fun g494 h => ?_)
  · refine seq_np ?_
    refine reg_t ?_
    refine rs 6 [] [] (by kernel_rfl) allP_nil ?_
    refine rt [(6, .ptr 1 0), (7, .ptr 2 0), (8, .ptr 3 0)] [(0, .row 25 (Enc.cells p)), (1, .row 25 [iS 0, .v (.slice none 0 0), bS false, .v (.slice none 0 0), .v (.slice none 0 0)]), (2, .row 34 [bS false, bS false, bS false, iS 0, iS 0, .v (.slice none 0 0)]), (3, .row 30 (Enc.cells r473)), (4, .row 30 (Enc.cells r473))] 11 follows (by kernel_rfl) ?_
    refine wk_id ?_
    obtain rfl := Option.some.inj h
    refine ret_at (.tup [.agg [iS 0, .v (.slice none 0 0), bS false, .v (.slice none 0 0), .v (.slice none 0 0)], .agg [bS false, bS false, bS false, iS 0, iS 0, .v (.slice none 0 0)], .agg (Enc.cells r473)]) (by kernel_rfl) ?_
    exact ret_e [] [] (by simp only [push_cast, seval]) (by simp only [push_cast, seval]) rfl rfl rfl
  · refine wk_id ?_
    refine seq_np ?_
    refine reg_f ?_
    refine rs 1 [] [] (by kernel_rfl) allP_nil ?_
    obtain ⟨r475, hr475, h⟩ := bind_sx h
    refine call_x (pipe_Copy_spec p r475 hr475) (args := [.agg (Enc.cells p)]) (dst := (some 23)) (by kernel_rfl) [(0, .row 25 (Enc.cells p)), (1, .row 25 [iS 0, .v (.slice none 0 0), bS false, .v (.slice none 0 0), .v (.slice none 0 0)]), (2, .row 34 [bS false, bS false, bS false, iS 0, iS 0, .v (.slice none 0 0)]), (3, .row 30 [iS 0, iS 0]), (4, .row 30 (Enc.cells r473))] 5 (by kernel_rfl) [] [] (.agg [iS r475.1, .own 5 0 r475.2.2.1.length, bS r475.2.1, .own 6 0 r475.2.2.2.1.length, .own 7 0 r475.2.2.2.2.length]) [(5, .row 3 (fl r475.2.2.1)), (6, .row 39 (fl r475.2.2.2.1)), (7, .row 39 (fl r475.2.2.2.2))] (by simp only [push_cast, seval]) (by simp only [push_cast, seval]) (by kernel_rfl) (.inl rfl) (by simp only [push_cast, seval]) (by simp only [push_cast, seval]) ?_
    refine rs 2 [] [] (by kernel_rfl) allP_nil ?_
    refine rf [(1, iS task), (2, bS xtry), (6, .ptr 1 0), (7, .ptr 2 0), (8, .ptr 3 0), (10, .ptr 8 0)] [(0, .row 25 (Enc.cells p)), (1, .row 25 [iS 0, .v (.slice none 0 0), bS false, .v (.slice none 0 0), .v (.slice none 0 0)]), (2, .row 34 [bS false, bS false, bS false, iS 0, iS 0, .v (.slice none 0 0)]), (3, .row 30 [iS 0, iS 0]), (4, .row 30 (Enc.cells r473)), (5, .row 3 (fl r475.2.2.1)), (6, .row 39 (fl r475.2.2.2.1)), (7, .row 39 (fl r475.2.2.2.2)), (8, .row 25 [iS r475.1, .own 5 0 r475.2.2.1.length, bS r475.2.1, .own 6 0 r475.2.2.2.1.length, .own 7 0 r475.2.2.2.2.length])] 9 (by kernel_rfl) ?_
    refine wk_id ?_
    refine seq_np ?_
    refine reg_f ?_
    refine rs 4 [] [] (by kernel_rfl) allP_nil ?_
    refine rf [(2, bS xtry), (6, .ptr 1 0), (7, .ptr 2 0), (8, .ptr 3 0), (10, .ptr 8 0), (11, .ptr 9 0)] [(0, .row 25 (Enc.cells p)), (1, .row 25 [iS 0, .v (.slice none 0 0), bS false, .v (.slice none 0 0), .v (.slice none 0 0)]), (2, .row 34 [bS false, bS false, bS false, iS 0, iS 0, .v (.slice none 0 0)]), (3, .row 30 [iS 0, iS 0]), (4, .row 30 (Enc.cells r473)), (5, .row 3 (fl r475.2.2.1)), (6, .row 39 (fl r475.2.2.2.1)), (7, .row 39 (fl r475.2.2.2.2)), (8, .row 25 [iS r475.1, .own 5 0 r475.2.2.1.length, bS r475.2.1, .own 6 0 r475.2.2.2.1.length, .own 7 0 r475.2.2.2.2.length]), (9, .row 39 [iS task, iS 0, iS 0])] 10 (by kernel_rfl) ?_
    refine wk_id ?_
    refine seq_np ?_
    refine reg_f ?_
    refine rs 1 [] [] (by kernel_rfl) allP_nil ?_
    obtain ⟨r478, hr478, h⟩ := bind_sx h
    refine call_x (pipe_Got_spec (GPost.mk task 0 0) r475.1 r475.2.1 r475.2.2.1 r475.2.2.2.1 r475.2.2.2.2 r478 hr478) (args := [.ptr 8 0, .agg [iS task, iS 0, iS 0]]) (dst := (some 27)) (by kernel_rfl) [(0, .row 25 (Enc.cells p)), (1, .row 25 [iS 0, .v (.slice none 0 0), bS false, .v (.slice none 0 0), .v (.slice none 0 0)]), (2, .row 34 [bS false, bS false, bS false, iS 0, iS 0, .v (.slice none 0 0)]), (3, .row 30 [iS 0, iS 0]), (4, .row 30 (Enc.cells r473)), (5, .row 3 (fl r475.2.2.1)), (6, .row 39 (fl r475.2.2.2.1)), (7, .row 39 (fl r475.2.2.2.2)), (8, .row 25 [iS r475.1, .own 5 0 r475.2.2.1.length, bS r475.2.1, .own 6 0 r475.2.2.2.1.length, .own 7 0 r475.2.2.2.2.length]), (9, .row 39 [iS task, iS 0, iS 0])] 10 (by kernel_rfl) [(0, 8), (1, 5), (2, 6), (3, 7)] [] (.agg [bS r478.1, bS r478.2.1, bS r478.2.2.1, iS r478.2.2.2.1, iS r478.2.2.2.2.1, .own 14 0 r478.2.2.2.2.2.1.length]) [(8, .row 25 [iS r478.2.2.2.2.2.2.1, .own 15 0 r478.2.2.2.2.2.2.2.2.1.length, bS r478.2.2.2.2.2.2.2.1, .own 16 0 r478.2.2.2.2.2.2.2.2.2.1.length, .own 7 0 r478.2.2.2.2.2.2.2.2.2.2.length]), (5, .dead), (6, .dead), (7, .row 39 (fl r478.2.2.2.2.2.2.2.2.2.2)), (14, .row 64 (fl r478.2.2.2.2.2.1)), (15, .row 3 (fl r478.2.2.2.2.2.2.2.2.1)), (16, .row 39 (fl r478.2.2.2.2.2.2.2.2.2.1)), (8, .dead), (5, .dead), (6, .dead), (7, .dead)] (by simp only [push_cast, seval]) (by simp only [push_cast, seval]) (by kernel_rfl) (.inl rfl) (by simp only [push_cast, seval]) (by simp only [push_cast, seval]) ?_
    refine rs 2 [] [] (by kernel_rfl) allP_nil ?_
    refine rf [(2, bS xtry), (6, .ptr 1 0), (7, .ptr 2 0), (8, .ptr 3 0), (10, .ptr 8 0), (11, .ptr 9 0), (12, .ptr 17 0)] [(0, .row 25 (Enc.cells p)), (1, .row 25 [iS 0, .v (.slice none 0 0), bS false, .v (.slice none 0 0), .v (.slice none 0 0)]), (2, .row 34 [bS false, bS false, bS false, iS 0, iS 0, .v (.slice none 0 0)]), (3, .row 30 [iS 0, iS 0]), (4, .row 30 (Enc.cells r473)), (5, .dead), (6, .dead), (7, .row 39 (fl r478.2.2.2.2.2.2.2.2.2.2)), (8, .row 25 [iS r478.2.2.2.2.2.2.1, .own 15 0 r478.2.2.2.2.2.2.2.2.1.length, bS r478.2.2.2.2.2.2.2.1, .own 16 0 r478.2.2.2.2.2.2.2.2.2.1.length, .own 7 0 r478.2.2.2.2.2.2.2.2.2.2.length]), (9, .row 39 [iS task, iS 0, iS 0]), (14, .row 64 (fl r478.2.2.2.2.2.1)), (15, .row 3 (fl r478.2.2.2.2.2.2.2.2.1)), (16, .row 39 (fl r478.2.2.2.2.2.2.2.2.2.1)), (17, .row 34 [bS r478.1, bS r478.2.1, bS r478.2.2.1, iS r478.2.2.2.1, iS r478.2.2.2.2.1, .own 14 0 r478.2.2.2.2.2.1.length])] 18 (by kernel_rfl) ?_
    refine wk_id ?_
    refine seq_cut (A := Int × Bool × Bool × Bool × Bool × Int × Int × (List Int) × (List GPost) × (List GPost) × (List GWake)) (fun a => ([(6, .ptr 0 0), (7, .ptr 1 0), (8, .ptr 2 0), (10, .ptr 3 0), (12, .ptr 4 0)], [(0, .row 25 [iS 0, .v (.slice none 0 0), bS false, .v (.slice none 0 0), .v (.slice none 0 0)]), (1, .row 34 [bS false, bS false, bS false, iS 0, iS 0, .v (.slice none 0 0)]), (2, .row 30 [iS 0, iS 0]), (3, .row 25 [iS a.1, .own 5 0 a.2.2.2.2.2.2.2.1.length, bS a.2.1, .own 6 0 a.2.2.2.2.2.2.2.2.1.length, .own 7 0 a.2.2.2.2.2.2.2.2.2.1.length]), (4, .row 34 [bS a.2.2.1, bS a.2.2.2.1, bS a.2.2.2.2.1, iS a.2.2.2.2.2.1, iS a.2.2.2.2.2.2.1, .own 8 0 a.2.2.2.2.2.2.2.2.2.2.length]), (5, .row 3 (fl a.2.2.2.2.2.2.2.1)), (6, .row 39 (fl a.2.2.2.2.2.2.2.2.1)), (7, .row 39 (fl a.2.2.2.2.2.2.2.2.2.1)), (8, .row 64 (fl a.2.2.2.2.2.2.2.2.2.2))], 9)) (fun a => (pipe_Get_j1 a.1 a.2.1 a.2.2.1 a.2.2.2.1 a.2.2.2.2.1 a.2.2.2.2.2.1 a.2.2.2.2.2.2.1 a.2.2.2.2.2.2.2.1 a.2.2.2.2.2.2.2.2.1 a.2.2.2.2.2.2.2.2.2.1 a.2.2.2.2.2.2.2.2.2.2) = some r) (fun K485 hK485 => ?_) ?_
    · refine seq_cut (A := Unit) (fun _ => ([(6, .ptr 1 0), (7, .ptr 2 0), (8, .ptr 3 0), (10, .ptr 8 0), (11, .ptr 9 0), (12, .ptr 17 0), (34, bS ((!r478.1) && (!xtry)))], [(0, .row 25 (Enc.cells p)), (1, .row 25 [iS 0, .v (.slice none 0 0), bS false, .v (.slice none 0 0), .v (.slice none 0 0)]), (2, .row 34 [bS false, bS false, bS false, iS 0, iS 0, .v (.slice none 0 0)]), (3, .row 30 [iS 0, iS 0]), (4, .row 30 (Enc.cells r473)), (7, .row 39 (fl r478.2.2.2.2.2.2.2.2.2.2)), (8, .row 25 [iS r478.2.2.2.2.2.2.1, .own 15 0 r478.2.2.2.2.2.2.2.2.1.length, bS r478.2.2.2.2.2.2.2.1, .own 16 0 r478.2.2.2.2.2.2.2.2.2.1.length, .own 7 0 r478.2.2.2.2.2.2.2.2.2.2.length]), (9, .row 39 [iS task, iS 0, iS 0]), (14, .row 64 (fl r478.2.2.2.2.2.1)), (15, .row 3 (fl r478.2.2.2.2.2.2.2.2.1)), (16, .row 39 (fl r478.2.2.2.2.2.2.2.2.2.1)), (17, .row 34 [bS r478.1, bS r478.2.1, bS r478.2.2.1, iS r478.2.2.2.1, iS r478.2.2.2.2.1, .own 14 0 r478.2.2.2.2.2.1.length])], 18)) (fun _ => True) (fun K487 hK487 => ?_) (fun _ _ => ?_)
      · refine reg_f ?_
        refine rs 4 [] [] (by kernel_rfl) allP_nil ?_
        refine run_split 31 (!r478.1) (.inl (by kernel_rfl)) (fun g488 => ?_) (fun g488 => ?_)
        · refine rs 3 [] [] (by kernel_rfl) allP_nil ?_
          refine rf [(6, .ptr 1 0), (7, .ptr 2 0), (8, .ptr 3 0), (10, .ptr 8 0), (11, .ptr 9 0), (12, .ptr 17 0), (34, bS (!xtry))] [(0, .row 25 (Enc.cells p)), (1, .row 25 [iS 0, .v (.slice none 0 0), bS false, .v (.slice none 0 0), .v (.slice none 0 0)]), (2, .row 34 [bS false, bS false, bS false, iS 0, iS 0, .v (.slice none 0 0)]), (3, .row 30 [iS 0, iS 0]), (4, .row 30 (Enc.cells r473)), (5, .dead), (6, .dead), (7, .row 39 (fl r478.2.2.2.2.2.2.2.2.2.2)), (8, .row 25 [iS r478.2.2.2.2.2.2.1, .own 15 0 r478.2.2.2.2.2.2.2.2.1.length, bS r478.2.2.2.2.2.2.2.1, .own 16 0 r478.2.2.2.2.2.2.2.2.2.1.length, .own 7 0 r478.2.2.2.2.2.2.2.2.2.2.length]), (9, .row 39 [iS task, iS 0, iS 0]), (14, .row 64 (fl r478.2.2.2.2.2.1)), (15, .row 3 (fl r478.2.2.2.2.2.2.2.2.1)), (16, .row 39 (fl r478.2.2.2.2.2.2.2.2.2.1)), (17, .row 34 [bS r478.1, bS r478.2.1, bS r478.2.2.1, iS r478.2.2.2.1, iS r478.2.2.2.2.1, .own 14 0 r478.2.2.2.2.2.1.length])] 18 (by kernel_rfl) ?_
          exact hK487 () _ _ _ trivial (leSt_m [(0, 0), (1, 1), (2, 2), (3, 3), (4, 4), (7, 7), (8, 8), (9, 9), (14, 14), (15, 15), (16, 16), (17, 17)] [] (by (try simp only [g488]) <;> simp only [push_cast, seval]) (by (try simp only [g488]) <;> simp only [push_cast, seval]) rfl rfl rfl)
        · refine rs 3 [] [] (by kernel_rfl) allP_nil ?_
          refine rf [(6, .ptr 1 0), (7, .ptr 2 0), (8, .ptr 3 0), (10, .ptr 8 0), (11, .ptr 9 0), (12, .ptr 17 0), (34, bS false)] [(0, .row 25 (Enc.cells p)), (1, .row 25 [iS 0, .v (.slice none 0 0), bS false, .v (.slice none 0 0), .v (.slice none 0 0)]), (2, .row 34 [bS false, bS false, bS false, iS 0, iS 0, .v (.slice none 0 0)]), (3, .row 30 [iS 0, iS 0]), (4, .row 30 (Enc.cells r473)), (5, .dead), (6, .dead), (7, .row 39 (fl r478.2.2.2.2.2.2.2.2.2.2)), (8, .row 25 [iS r478.2.2.2.2.2.2.1, .own 15 0 r478.2.2.2.2.2.2.2.2.1.length, bS r478.2.2.2.2.2.2.2.1, .own 16 0 r478.2.2.2.2.2.2.2.2.2.1.length, .own 7 0 r478.2.2.2.2.2.2.2.2.2.2.length]), (9, .row 39 [iS task, iS 0, iS 0]), (14, .row 64 (fl r478.2.2.2.2.2.1)), (15, .row 3 (fl r478.2.2.2.2.2.2.2.2.1)), (16, .row 39 (fl r478.2.2.2.2.2.2.2.2.2.1)), (17, .row 34 [bS r478.1, bS r478.2.1, bS r478.2.2.1, iS r478.2.2.2.1, iS r478.2.2.2.2.1, .own 14 0 r478.2.2.2.2.2.1.length])] 18 (by kernel_rfl) ?_
          exact hK487 () _ _ _ trivial (leSt_m [(0, 0), (1, 1), (2, 2), (3, 3), (4, 4), (7, 7), (8, 8), (9, 9), (14, 14), (15, 15), (16, 16), (17, 17)] [] (by (try simp only [g488]) <;> simp only [push_cast, seval]) (by (try simp only [g488]) <;> simp only [push_cast, seval]) rfl rfl rfl)
      · dsimp only
        refine cond_sx h (by kernel_rfl) (fun g493 h => ?_) (fun g493 h => ?_)
        · refine chk_sx h (fun g492 h => ?_)
          refine reg_f ?_
          have k491 : (r478.2.2.2.2.2.2.2.2.2.2 ++ ([(GPost.mk task 0 0)] : List GPost)).length * 24 ≤ 140737488355328 := by first | simpa only [Bool.and_eq_true, decide_eq_true_eq, bne_iff_ne, ne_eq] using g492 | (simp at g492 ⊢; omega)
          refine rs 7 [none, none, none, none, some ⟨.own 19 0 (r478.2.2.2.2.2.2.2.2.2.2 ++ ([(GPost.mk task 0 0)] : List GPost)).length, [(19, .row 39 (fl (r478.2.2.2.2.2.2.2.2.2.2 ++ ([(GPost.mk task 0 0)] : List GPost)))), (7, .dead)], 20, [7, 18]⟩] _ (by kernel_rfl) (allP_cons (ob_app (P := Try.prog) r478.2.2.2.2.2.2.2.2.2.2 ([(GPost.mk task 0 0)] : List GPost) 3 24 rfl (appCells (fl ([(GPost.mk task 0 0)] : List GPost)) 0 (([(GPost.mk task 0 0)] : List GPost).length * 3)) ([(GPost.mk task 0 0)] : List GPost).length (app_own ([(GPost.mk task 0 0)] : List GPost) 3 rfl) rfl (0 + ([(GPost.mk task 0 0)] : List GPost).length * 3 ≤ (fl ([(GPost.mk task 0 0)] : List GPost)).length) (app_own_le ([(GPost.mk task 0 0)] : List GPost) 3 rfl) 39 (by kernel_rfl) (by decide) k491 7 19 [18]) allP_nil) ?_
          refine rf [(6, .ptr 1 0), (7, .ptr 2 0), (8, .ptr 3 0), (10, .ptr 8 0), (12, .ptr 17 0)] [(0, .row 25 (Enc.cells p)), (1, .row 25 [iS 0, .v (.slice none 0 0), bS false, .v (.slice none 0 0), .v (.slice none 0 0)]), (2, .row 34 [bS false, bS false, bS false, iS 0, iS 0, .v (.slice none 0 0)]), (3, .row 30 [iS 0, iS 0]), (4, .row 30 (Enc.cells r473)), (7, .dead), (8, .row 25 [iS r478.2.2.2.2.2.2.1, .own 15 0 r478.2.2.2.2.2.2.2.2.1.length, bS r478.2.2.2.2.2.2.2.1, .own 16 0 r478.2.2.2.2.2.2.2.2.2.1.length, .own 19 0 (r478.2.2.2.2.2.2.2.2.2.2 ++ ([(GPost.mk task 0 0)] : List GPost)).length]), (9, .row 39 [iS task, iS 0, iS 0]), (14, .row 64 (fl r478.2.2.2.2.2.1)), (15, .row 3 (fl r478.2.2.2.2.2.2.2.2.1)), (16, .row 39 (fl r478.2.2.2.2.2.2.2.2.2.1)), (17, .row 34 [bS r478.1, bS r478.2.1, bS r478.2.2.1, iS r478.2.2.2.1, iS r478.2.2.2.2.1, .own 14 0 r478.2.2.2.2.2.1.length]), (18, .row 39 (fl ([(GPost.mk task 0 0)] : List GPost))), (19, .row 39 (fl (r478.2.2.2.2.2.2.2.2.2.2 ++ ([(GPost.mk task 0 0)] : List GPost))))] 20 (by kernel_rfl) ?_
          exact hK485 (r478.2.2.2.2.2.2.1, r478.2.2.2.2.2.2.2.1, r478.1, r478.2.1, r478.2.2.1, r478.2.2.2.1, r478.2.2.2.2.1, r478.2.2.2.2.2.2.2.2.1, r478.2.2.2.2.2.2.2.2.2.1, (r478.2.2.2.2.2.2.2.2.2.2 ++ ([(GPost.mk task 0 0)] : List GPost)), r478.2.2.2.2.2.1) _ _ _ h (leSt_m [(0, 1), (1, 2), (2, 3), (3, 8), (4, 17), (5, 15), (6, 16), (7, 19), (8, 14)] [] (by simp only [push_cast, seval]) (by simp only [push_cast, seval]) rfl rfl rfl)
        · exact hK485 (r478.2.2.2.2.2.2.1, r478.2.2.2.2.2.2.2.1, r478.1, r478.2.1, r478.2.2.1, r478.2.2.2.1, r478.2.2.2.2.1, r478.2.2.2.2.2.2.2.2.1, r478.2.2.2.2.2.2.2.2.2.1, r478.2.2.2.2.2.2.2.2.2.2, r478.2.2.2.2.2.1) _ _ _ h (leSt_m [(0, 1), (1, 2), (2, 3), (3, 8), (4, 17), (5, 15), (6, 16), (7, 7), (8, 14)] [] (by simp only [push_cast, seval]) (by simp only [push_cast, seval]) rfl rfl rfl)
    · rintro ⟨c3_Cap1, c3_Closed1, c4_Done1, c4_Panic1, c4_Ok1, c4_Value1, c4_Case1, c5q1, c6q1, c7q1, c8q1⟩ h
      try dsimp only at h ⊢
      unfold pipe_Get_j1 at h
      refine seq_np ?_
      refine reg_t ?_
      refine rs 6 [] [] (by kernel_rfl) allP_nil ?_
      refine rt [(6, .ptr 0 0), (7, .ptr 1 0), (8, .ptr 2 0)] [(0, .row 25 [iS c3_Cap1, .own 5 0 c5q1.length, bS c3_Closed1, .own 6 0 c6q1.length, .own 7 0 c7q1.length]), (1, .row 34 [bS c4_Done1, bS c4_Panic1, bS c4_Ok1, iS c4_Value1, iS c4_Case1, .own 8 0 c8q1.length]), (2, .row 30 [iS 0, iS 0]), (3, .row 25 [iS c3_Cap1, .own 5 0 c5q1.length, bS c3_Closed1, .own 6 0 c6q1.length, .own 7 0 c7q1.length]), (4, .row 34 [bS c4_Done1, bS c4_Panic1, bS c4_Ok1, iS c4_Value1, iS c4_Case1, .own 8 0 c8q1.length]), (5, .row 3 (fl c5q1)), (6, .row 39 (fl c6q1)), (7, .row 39 (fl c7q1)), (8, .row 64 (fl c8q1))] 15 follows (by kernel_rfl) ?_
      refine wk_id ?_
      obtain rfl := Option.some.inj h
      refine ret_at (.tup [.agg [iS c3_Cap1, .own 5 0 c5q1.length, bS c3_Closed1, .own 6 0 c6q1.length, .own 7 0 c7q1.length], .agg [bS c4_Done1, bS c4_Panic1, bS c4_Ok1, iS c4_Value1, iS c4_Case1, .own 8 0 c8q1.length], .agg [iS 0, iS 0]]) (by kernel_rfl) ?_
      exact ret_e [(0, 5), (1, 6), (2, 7), (3, 8)] [] (by simp only [push_cast, seval]) (by simp only [push_cast, seval]) rfl rfl rfl

set_option maxRecDepth 100000 in
set_option maxHeartbeats 200000000 in
theorem pipe_Put_spec (x : GPost) (c0_Cap : Int) (c0_Closed : Bool) (c1 : (List Int)) (c2 : (List GPost)) (c3 : (List GPost)) (r : Bool × Bool × Bool × Int × Int × (List GWake) × Int × Bool × (List Int) × (List GPost) × (List GPost)) (h : pipe_Put x c0_Cap c0_Closed c1 c2 c3 = some r) : SpecW Try.prog 38 [.ptr 0 0, .agg (Enc.cells x)] [(0, .row 25 [iS c0_Cap, .own 1 0 c1.length, bS c0_Closed, .own 2 0 c2.length, .own 3 0 c3.length]), (1, .row 3 (fl c1)), (2, .row 39 (fl c2)), (3, .row 39 (fl c3))] 4 (fun x h n => x = .agg [bS r.1, bS r.2.1, bS r.2.2.1, iS r.2.2.2.1, iS r.2.2.2.2.1, .own 4 0 r.2.2.2.2.2.1.length] ∧ h = [(0, .row 25 [iS r.2.2.2.2.2.2.1, .own 5 0 r.2.2.2.2.2.2.2.2.1.length, bS r.2.2.2.2.2.2.2.1, .own 2 0 r.2.2.2.2.2.2.2.2.2.2.length, .own 6 0 r.2.2.2.2.2.2.2.2.2.1.length]), (1, .dead), (2, .row 39 (fl r.2.2.2.2.2.2.2.2.2.2)), (3, .dead), (4, .row 64 (fl r.2.2.2.2.2.1)), (5, .row 3 (fl r.2.2.2.2.2.2.2.2.1)), (6, .row 39 (fl r.2.2.2.2.2.2.2.2.2.1))] ∧ n = 7) := by
  unfold pipe_Put at h
  refine spec_of (draw_ok _) Try.func38 rfl (by decide) rfl (by kernel_rfl) ?_
  refine seq_np ?_
  refine reg_f ?_
  refine rs 2 [] [] (by kernel_rfl) allP_nil ?_
  refine rf [(0, .ptr 0 0), (3, .ptr 4 0), (4, .ptr 5 0)] [(0, .row 25 [iS c0_Cap, .own 1 0 c1.length, bS c0_Closed, .own 2 0 c2.length, .own 3 0 c3.length]), (1, .row 3 (fl c1)), (2, .row 39 (fl c2)), (3, .row 39 (fl c3)), (4, .row 39 (Enc.cells x)), (5, .row 34 [bS false, bS false, bS false, iS 0, iS 0, .v (.slice none 0 0)])] 6 (by kernel_rfl) ?_
  refine wk_id ?_
  refine seq_np ?_
  refine block_np ?_
  refine seq_np ?_
  refine reg_f ?_
  refine rs 5 [] [] (by kernel_rfl) allP_nil ?_
  refine rf [(0, .ptr 0 0), (3, .ptr 4 0), (4, .ptr 5 0), (6, bS c0_Closed)] [(0, .row 25 [iS c0_Cap, .own 1 0 c1.length, bS c0_Closed, .own 2 0 c2.length, .own 3 0 c3.length]), (1, .row 3 (fl c1)), (2, .row 39 (fl c2)), (3, .row 39 (fl c3)), (4, .row 39 (Enc.cells x)), (5, .row 34 [bS false, bS false, bS false, iS 0, iS 0, .v (.slice none 0 0)])] 6 (by kernel_rfl) ?_
  refine wk_id ?_
  refine cond_sx h (by kernel_rfl) (fun g540 h => ?_) (fun g540 h => ?_)
  · refine seq_np ?_
    refine reg_f ?_
    refine rs 4 [] [] (by kernel_rfl) allP_nil ?_
    refine rf [(4, .ptr 5 0)] [(0, .row 25 [iS c0_Cap, .own 1 0 c1.length, bS c0_Closed, .own 2 0 c2.length, .own 3 0 c3.length]), (1, .row 3 (fl c1)), (2, .row 39 (fl c2)), (3, .row 39 (fl c3)), (4, .row 39 (Enc.cells x)), (5, .row 34 [bS true, bS true, bS false, iS 0, iS x.Case, .v (.slice none 0 0)])] 6 (by kernel_rfl) ?_
    refine wk_id ?_
    obtain rfl := Option.some.inj h
    refine ret_at (.agg [bS true, bS true, bS false, iS 0, iS x.Case, .v (.slice none 0 0)]) (by kernel_rfl) ?_
    exact ret_e [(0, 0), (2, 2), (5, 1), (6, 3)] [] (by simp only [push_cast, seval]) (by simp only [push_cast, seval]) rfl rfl rfl
  · refine seq_np ?_
    refine reg_f ?_
    refine rs 7 [] [] (by kernel_rfl) allP_nil ?_
    refine rf [(0, .ptr 0 0), (3, .ptr 4 0), (4, .ptr 5 0), (14, bS (decide ((0 : Int) < ((c3.length : Nat) : Int))))] [(0, .row 25 [iS c0_Cap, .own 1 0 c1.length, bS c0_Closed, .own 2 0 c2.length, .own 3 0 c3.length]), (1, .row 3 (fl c1)), (2, .row 39 (fl c2)), (3, .row 39 (fl c3)), (4, .row 39 (Enc.cells x)), (5, .row 34 [bS false, bS false, bS false, iS 0, iS 0, .v (.slice none 0 0)])] 6 (by kernel_rfl) ?_
    refine wk_id ?_
    refine cond_sx h (by kernel_rfl) (fun g539 h => ?_) (fun g539 h => ?_)
    · refine chk_sx h (fun g529 h => ?_)
      refine seq_np ?_
      refine reg_f ?_
      have k528 : 0 ≤ (0 : Int) ∧ (0 : Int) < ((c3.length : Nat) : Int) := by first | simpa only [Bool.and_eq_true, decide_eq_true_eq, bne_iff_ne, ne_eq] using g529 | (simp at g529 ⊢; omega)
      refine rs 8 [none, none, none, none, some ⟨.ptr 3 (0 + ((0 : Int)).toNat * 3), [], 6, [3]⟩, some ⟨.agg (Enc.cells (ix c3 (0 : Int))), [], 6, [3]⟩] _ (by kernel_rfl) (allP_cons (ob_ldw c3 (0 : Int) 3 (0 + ((0 : Int)).toNat * 3) k528 rfl (by first | rfl | omega) [iS (ix c3 (0 : Int)).Task, iS (ix c3 (0 : Int)).Case, iS (ix c3 (0 : Int)).Value] rfl 6 [3]) (allP_cons (ob_ix_o 3 c3.length 0 3 6 0 k528) allP_nil)) ?_
      refine rf [(0, .ptr 0 0), (3, .ptr 4 0), (4, .ptr 5 0), (5, .ptr 6 0)] [(0, .row 25 [iS c0_Cap, .own 1 0 c1.length, bS c0_Closed, .own 2 0 c2.length, .own 3 0 c3.length]), (1, .row 3 (fl c1)), (2, .row 39 (fl c2)), (3, .row 39 (fl c3)), (4, .row 39 (Enc.cells x)), (5, .row 34 [bS false, bS false, bS false, iS 0, iS 0, .v (.slice none 0 0)]), (6, .row 39 (Enc.cells (ix c3 (0 : Int))))] 7 (by kernel_rfl) ?_
      refine wk_id ?_
      refine chk_sx h (fun g533 h => ?_)
      refine seq_np ?_
      refine reg_f ?_
      have k532 : 0 ≤ (1 : Int) ∧ (1 : Int) ≤ ((c3.length : Nat) : Int) ∧ ((c3.length : Nat) : Int) ≤ ((c3.length : Nat) : Int) := by first | simpa only [Bool.and_eq_true, decide_eq_true_eq, bne_iff_ne, ne_eq] using g533 | (simp at g533 ⊢; omega)
      refine rs 5 [] [] (by kernel_rfl) allP_nil ?_
      refine run_cutO c3 (some 32) 3 3 39 (1 : Int) ((c3.length : Nat) : Int) (by kernel_rfl) rfl k532 ?_
      refine rs 3 [] [] (by kernel_rfl) allP_nil ?_
      refine rf [(3, .ptr 4 0), (4, .ptr 5 0), (5, .ptr 6 0)] [(0, .row 25 [iS c0_Cap, .own 1 0 c1.length, bS c0_Closed, .own 2 0 c2.length, .own 7 0 (cut c3 (1 : Int) ((c3.length : Nat) : Int)).length]), (1, .row 3 (fl c1)), (2, .row 39 (fl c2)), (3, .dead), (4, .row 39 (Enc.cells x)), (5, .row 34 [bS false, bS false, bS false, iS 0, iS 0, .v (.slice none 0 0)]), (6, .row 39 (Enc.cells (ix c3 (0 : Int)))), (7, .row 39 (fl (cut c3 (1 : Int) ((c3.length : Nat) : Int))))] 8 (by kernel_rfl) ?_
      refine wk_id ?_
      refine seq_np ?_
      refine reg_f ?_
      refine rs 12 [] [] (by kernel_rfl) allP_nil ?_
      refine rf [(4, .ptr 5 0)] [(0, .row 25 [iS c0_Cap, .own 1 0 c1.length, bS c0_Closed, .own 2 0 c2.length, .own 7 0 (cut c3 (1 : Int) ((c3.length : Nat) : Int)).length]), (1, .row 3 (fl c1)), (2, .row 39 (fl c2)), (3, .dead), (4, .row 39 (Enc.cells x)), (5, .row 34 [bS true, bS false, bS false, iS 0, iS x.Case, .own 8 0 ([(GWake.mk (ix c3 (0 : Int)).Task (ix c3 (0 : Int)).Case x.Value true false)] : List GWake).length]), (6, .row 39 (Enc.cells (ix c3 (0 : Int)))), (7, .row 39 (fl (cut c3 (1 : Int) ((c3.length : Nat) : Int)))), (8, .row 64 (fl ([(GWake.mk (ix c3 (0 : Int)).Task (ix c3 (0 : Int)).Case x.Value true false)] : List GWake)))] 9 (by kernel_rfl) ?_
      refine wk_id ?_
      obtain rfl := Option.some.inj h
      refine ret_at (.agg [bS true, bS false, bS false, iS 0, iS x.Case, .own 8 0 ([(GWake.mk (ix c3 (0 : Int)).Task (ix c3 (0 : Int)).Case x.Value true false)] : List GWake).length]) (by kernel_rfl) ?_
      exact ret_e [(0, 0), (2, 2), (4, 8), (5, 1), (6, 7)] [] (by simp only [push_cast, seval]) (by simp only [push_cast, seval]) rfl rfl rfl
    · refine seq_np ?_
      refine reg_t ?_
      refine rs 11 [] [] (by kernel_rfl) allP_nil ?_
      refine rt [(0, .ptr 0 0), (3, .ptr 4 0), (4, .ptr 5 0), (46, bS (decide (((c1.length : Nat) : Int) < c0_Cap)))] [(0, .row 25 [iS c0_Cap, .own 1 0 c1.length, bS c0_Closed, .own 2 0 c2.length, .own 3 0 c3.length]), (1, .row 3 (fl c1)), (2, .row 39 (fl c2)), (3, .row 39 (fl c3)), (4, .row 39 (Enc.cells x)), (5, .row 34 [bS false, bS false, bS false, iS 0, iS 0, .v (.slice none 0 0)])] 17 follows (by kernel_rfl) ?_
      refine wk_id ?_
      refine cond_sx h (by kernel_rfl) (fun g538 h => ?_) (fun g538 h => ?_)
      · refine chk_sx h (fun g537 h => ?_)
        refine seq_np ?_
        refine reg_t ?_
        have k536 : (c1 ++ ([x.Value] : List Int)).length * 8 ≤ 140737488355328 := by first | simpa only [Bool.and_eq_true, decide_eq_true_eq, bne_iff_ne, ne_eq] using g537 | (simp at g537 ⊢; omega)
        refine rs 12 [none, none, none, none, none, none, none, none, some ⟨.own 26 0 (c1 ++ ([x.Value] : List Int)).length, [(26, .row 3 (fl (c1 ++ ([x.Value] : List Int)))), (1, .dead)], 27, [1, 24]⟩] _ (by kernel_rfl) (allP_cons (ob_app (P := Try.prog) c1 ([x.Value] : List Int) 1 8 rfl (appCells (fl ([x.Value] : List Int)) 0 (([x.Value] : List Int).length * 1)) ([x.Value] : List Int).length (app_own ([x.Value] : List Int) 1 rfl) rfl (0 + ([x.Value] : List Int).length * 1 ≤ (fl ([x.Value] : List Int)).length) (app_own_le ([x.Value] : List Int) 1 rfl) 3 (by kernel_rfl) (by decide) k536 1 26 [24]) allP_nil) ?_
        refine rt [(3, .ptr 4 0), (4, .ptr 5 0)] [(0, .row 25 [iS c0_Cap, .own 26 0 (c1 ++ ([x.Value] : List Int)).length, bS c0_Closed, .own 2 0 c2.length, .own 3 0 c3.length]), (1, .dead), (2, .row 39 (fl c2)), (3, .row 39 (fl c3)), (4, .row 39 (Enc.cells x)), (5, .row 34 [bS false, bS false, bS false, iS 0, iS 0, .v (.slice none 0 0)]), (24, .row 3 (fl ([x.Value] : List Int))), (26, .row 3 (fl (c1 ++ ([x.Value] : List Int))))] 31 follows (by kernel_rfl) ?_
        refine wk_id ?_
        refine seq_np ?_
        refine reg_f ?_
        refine rs 4 [] [] (by kernel_rfl) allP_nil ?_
        refine rf [(4, .ptr 5 0)] [(0, .row 25 [iS c0_Cap, .own 26 0 (c1 ++ ([x.Value] : List Int)).length, bS c0_Closed, .own 2 0 c2.length, .own 3 0 c3.length]), (1, .dead), (2, .row 39 (fl c2)), (3, .row 39 (fl c3)), (4, .row 39 (Enc.cells x)), (5, .row 34 [bS true, bS false, bS false, iS 0, iS x.Case, .v (.slice none 0 0)]), (24, .row 3 (fl ([x.Value] : List Int))), (26, .row 3 (fl (c1 ++ ([x.Value] : List Int))))] 31 (by kernel_rfl) ?_
        refine wk_id ?_
        obtain rfl := Option.some.inj h
        refine ret_at (.agg [bS true, bS false, bS false, iS 0, iS x.Case, .v (.slice none 0 0)]) (by kernel_rfl) ?_
        exact ret_e [(0, 0), (2, 2), (5, 26), (6, 3)] [] (by simp only [push_cast, seval]) (by simp only [push_cast, seval]) rfl rfl rfl
      · refine wk_id ?_
        refine wk_id ?_
        refine seq_np ?_
        refine reg_f ?_
        refine rs 2 [] [] (by kernel_rfl) allP_nil ?_
        refine rf [(4, .ptr 5 0)] [(0, .row 25 [iS c0_Cap, .own 1 0 c1.length, bS c0_Closed, .own 2 0 c2.length, .own 3 0 c3.length]), (1, .row 3 (fl c1)), (2, .row 39 (fl c2)), (3, .row 39 (fl c3)), (4, .row 39 (Enc.cells x)), (5, .row 34 [bS false, bS false, bS false, iS 0, iS 0, .v (.slice none 0 0)])] 17 (by kernel_rfl) ?_
        refine wk_id ?_
        obtain rfl := Option.some.inj h
        refine ret_at (.agg [bS false, bS false, bS false, iS 0, iS 0, .v (.slice none 0 0)]) (by kernel_rfl) ?_
        exact ret_e [(0, 0), (2, 2), (5, 1), (6, 3)] [] (by simp only [push_cast, seval]) (by simp only [push_cast, seval]) rfl rfl rfl

set_option maxRecDepth 100000 in
set_option maxHeartbeats 200000000 in
theorem pipe_Send_spec (p : Pipe) (task : Int) (value : Int) (xtry : Bool) (r : Int × Bool × Bool × Bool × Bool × Int × Int × Fault × (List Int) × (List GPost) × (List GPost) × (List GWake)) (h : pipe_Send p task value xtry = some r) : SpecW Try.prog 14 [.agg (Enc.cells p), iS task, iS value, bS xtry] [] 0 (fun x h n => x = .tup [.agg [iS r.1, .own 0 0 r.2.2.2.2.2.2.2.2.1.length, bS r.2.1, .own 1 0 r.2.2.2.2.2.2.2.2.2.1.length, .own 2 0 r.2.2.2.2.2.2.2.2.2.2.1.length], .agg [bS r.2.2.1, bS r.2.2.2.1, bS r.2.2.2.2.1, iS r.2.2.2.2.2.1, iS r.2.2.2.2.2.2.1, .own 3 0 r.2.2.2.2.2.2.2.2.2.2.2.length], .agg (Enc.cells r.2.2.2.2.2.2.2.1)] ∧ h = [(0, .row 3 (fl r.2.2.2.2.2.2.2.2.1)), (1, .row 39 (fl r.2.2.2.2.2.2.2.2.2.1)), (2, .row 39 (fl r.2.2.2.2.2.2.2.2.2.2.1)), (3, .row 64 (fl r.2.2.2.2.2.2.2.2.2.2.2))] ∧ n = 4) := by
  unfold pipe_Send at h
  refine spec_of (draw_ok _) Try.func14 rfl (by decide) rfl (by kernel_rfl) ?_
  refine seq_np ?_
  refine reg_f ?_
  refine rs 4 [] [] (by kernel_rfl) allP_nil ?_
  refine rf [(1, iS task), (2, iS value), (3, bS xtry), (4, .ptr 0 0), (8, .ptr 1 0), (9, .ptr 2 0), (10, .ptr 3 0)] [(0, .row 25 (Enc.cells p)), (1, .row 25 [iS 0, .v (.slice none 0 0), bS false, .v (.slice none 0 0), .v (.slice none 0 0)]), (2, .row 34 [bS false, bS false, bS false, iS 0, iS 0, .v (.slice none 0 0)]), (3, .row 30 [iS 0, iS 0])] 4 (by kernel_rfl) ?_
  refine wk_id ?_
  refine seq_np ?_
  refine seq_np ?_
  refine reg_f ?_
  refine rs 2 [] [] (by kernel_rfl) allP_nil ?_
  obtain ⟨r552, hr552, h⟩ := bind_sx h
  refine run_call 36 [.agg (Enc.cells p), iS task] (some 17) (by kernel_rfl) ?_
  refine call_0 (pipe_begin_spec p task r552 hr552) (by simp only [push_cast, seval]) (by simp only [push_cast, seval]) ?_
  refine back_f ?_
  refine rs 2 [] [] (by kernel_rfl) allP_nil ?_
  refine rf [(1, iS task), (2, iS value), (3, bS xtry), (4, .ptr 0 0), (8, .ptr 1 0), (9, .ptr 2 0), (10, .ptr 3 0), (11, .ptr 4 0)] [(0, .row 25 (Enc.cells p)), (1, .row 25 [iS 0, .v (.slice none 0 0), bS false, .v (.slice none 0 0), .v (.slice none 0 0)]), (2, .row 34 [bS false, bS false, bS false, iS 0, iS 0, .v (.slice none 0 0)]), (3, .row 30 [iS 0, iS 0]), (4, .row 30 (Enc.cells r552))] 5 (by kernel_rfl) ?_
  refine wk_id ?_
  refine seq_np ?_
  refine reg_f ?_
  refine rs 3 [] [] (by kernel_rfl) allP_nil ?_
  refine rf [(1, iS task), (2, iS value), (3, bS xtry), (4, .ptr 0 0), (8, .ptr 1 0), (9, .ptr 2 0), (10, .ptr 3 0), (11, .ptr 4 0), (20, bS (r552.Code != 0))] [(0, .row 25 (Enc.cells p)), (1, .row 25 [iS 0, .v (.slice none 0 0), bS false, .v (.slice none 0 0), .v (.slice none 0 0)]), (2, .row 34 [bS false, bS false, bS false, iS 0, iS 0, .v (.slice none 0 0)]), (3, .row 30 [iS 0, iS 0]), (4, .row 30 (Enc.cells r552))] 5 (by kernel_rfl) ?_
  refine wk_id ?_
  refine cond_sx h (by kernel_rfl) (fun g573 h => ?_) (fun g573 h => ?_)
  · refine seq_np ?_
    refine reg_t ?_
    refine rs 6 [] [] (by kernel_rfl) allP_nil ?_
    refine rt [(8, .ptr 1 0), (9, .ptr 2 0), (10, .ptr 3 0)] [(0, .row 25 (Enc.cells p)), (1, .row 25 [iS 0, .v (.slice none 0 0), bS false, .v (.slice none 0 0), .v (.slice none 0 0)]), (2, .row 34 [bS false, bS false, bS false, iS 0, iS 0, .v (.slice none 0 0)]), (3, .row 30 (Enc.cells r552)), (4, .row 30 (Enc.cells r552))] 11 follows (by kernel_rfl) ?_
    refine wk_id ?_
    obtain rfl := Option.some.inj h
    refine ret_at (.tup [.agg [iS 0, .v (.slice none 0 0), bS false, .v (.slice none 0 0), .v (.slice none 0 0)], .agg [bS false, bS false, bS false, iS 0, iS 0, .v (.slice none 0 0)], .agg (Enc.cells r552)]) (by kernel_rfl) ?_
    exact ret_e [] [] (by simp only [push_cast, seval]) (by simp only [push_cast, seval]) rfl rfl rfl
  · refine wk_id ?_
    refine seq_np ?_
    refine reg_f ?_
    refine rs 1 [] [] (by kernel_rfl) allP_nil ?_
    obtain ⟨r554, hr554, h⟩ := bind_sx h
    refine call_x (pipe_Copy_spec p r554 hr554) (args := [.agg (Enc.cells p)]) (dst := (some 25)) (by kernel_rfl) [(0, .row 25 (Enc.cells p)), (1, .row 25 [iS 0, .v (.slice none 0 0), bS false, .v (.slice none 0 0), .v (.slice none 0 0)]), (2, .row 34 [bS false, bS false, bS false, iS 0, iS 0, .v (.slice none 0 0)]), (3, .row 30 [iS 0, iS 0]), (4, .row 30 (Enc.cells r552))] 5 (by kernel_rfl) [] [] (.agg [iS r554.1, .own 5 0 r554.2.2.1.length, bS r554.2.1, .own 6 0 r554.2.2.2.1.length, .own 7 0 r554.2.2.2.2.length]) [(5, .row 3 (fl r554.2.2.1)), (6, .row 39 (fl r554.2.2.2.1)), (7, .row 39 (fl r554.2.2.2.2))] (by simp only [push_cast, seval]) (by simp only [push_cast, seval]) (by kernel_rfl) (.inl rfl) (by simp only [push_cast, seval]) (by simp only [push_cast, seval]) ?_
    refine rs 2 [] [] (by kernel_rfl) allP_nil ?_
    refine rf [(1, iS task), (2, iS value), (3, bS xtry), (8, .ptr 1 0), (9, .ptr 2 0), (10, .ptr 3 0), (12, .ptr 8 0)] [(0, .row 25 (Enc.cells p)), (1, .row 25 [iS 0, .v (.slice none 0 0), bS false, .v (.slice none 0 0), .v (.slice none 0 0)]), (2, .row 34 [bS false, bS false, bS false, iS 0, iS 0, .v (.slice none 0 0)]), (3, .row 30 [iS 0, iS 0]), (4, .row 30 (Enc.cells r552)), (5, .row 3 (fl r554.2.2.1)), (6, .row 39 (fl r554.2.2.2.1)), (7, .row 39 (fl r554.2.2.2.2)), (8, .row 25 [iS r554.1, .own 5 0 r554.2.2.1.length, bS r554.2.1, .own 6 0 r554.2.2.2.1.length, .own 7 0 r554.2.2.2.2.length])] 9 (by kernel_rfl) ?_
    refine wk_id ?_
    refine seq_np ?_
    refine reg_f ?_
    refine rs 5 [] [] (by kernel_rfl) allP_nil ?_
    refine rf [(3, bS xtry), (8, .ptr 1 0), (9, .ptr 2 0), (10, .ptr 3 0), (12, .ptr 8 0), (13, .ptr 9 0)] [(0, .row 25 (Enc.cells p)), (1, .row 25 [iS 0, .v (.slice none 0 0), bS false, .v (.slice none 0 0), .v (.slice none 0 0)]), (2, .row 34 [bS false, bS false, bS false, iS 0, iS 0, .v (.slice none 0 0)]), (3, .row 30 [iS 0, iS 0]), (4, .row 30 (Enc.cells r552)), (5, .row 3 (fl r554.2.2.1)), (6, .row 39 (fl r554.2.2.2.1)), (7, .row 39 (fl r554.2.2.2.2)), (8, .row 25 [iS r554.1, .own 5 0 r554.2.2.1.length, bS r554.2.1, .own 6 0 r554.2.2.2.1.length, .own 7 0 r554.2.2.2.2.length]), (9, .row 39 [iS task, iS 0, iS value])] 10 (by kernel_rfl) ?_
    refine wk_id ?_
    refine seq_np ?_
    refine reg_f ?_
    refine rs 1 [] [] (by kernel_rfl) allP_nil ?_
    obtain ⟨r557, hr557, h⟩ := bind_sx h
    refine call_x (pipe_Put_spec (GPost.mk task 0 value) r554.1 r554.2.1 r554.2.2.1 r554.2.2.2.1 r554.2.2.2.2 r557 hr557) (args := [.ptr 8 0, .agg [iS task, iS 0, iS value]]) (dst := (some 30)) (by kernel_rfl) [(0, .row 25 (Enc.cells p)), (1, .row 25 [iS 0, .v (.slice none 0 0), bS false, .v (.slice none 0 0), .v (.slice none 0 0)]), (2, .row 34 [bS false, bS false, bS false, iS 0, iS 0, .v (.slice none 0 0)]), (3, .row 30 [iS 0, iS 0]), (4, .row 30 (Enc.cells r552)), (5, .row 3 (fl r554.2.2.1)), (6, .row 39 (fl r554.2.2.2.1)), (7, .row 39 (fl r554.2.2.2.2)), (8, .row 25 [iS r554.1, .own 5 0 r554.2.2.1.length, bS r554.2.1, .own 6 0 r554.2.2.2.1.length, .own 7 0 r554.2.2.2.2.length]), (9, .row 39 [iS task, iS 0, iS value])] 10 (by kernel_rfl) [(0, 8), (1, 5), (2, 6), (3, 7)] [] (.agg [bS r557.1, bS r557.2.1, bS r557.2.2.1, iS r557.2.2.2.1, iS r557.2.2.2.2.1, .own 14 0 r557.2.2.2.2.2.1.length]) [(8, .row 25 [iS r557.2.2.2.2.2.2.1, .own 15 0 r557.2.2.2.2.2.2.2.2.1.length, bS r557.2.2.2.2.2.2.2.1, .own 6 0 r557.2.2.2.2.2.2.2.2.2.2.length, .own 16 0 r557.2.2.2.2.2.2.2.2.2.1.length]), (5, .dead), (6, .row 39 (fl r557.2.2.2.2.2.2.2.2.2.2)), (7, .dead), (14, .row 64 (fl r557.2.2.2.2.2.1)), (15, .row 3 (fl r557.2.2.2.2.2.2.2.2.1)), (16, .row 39 (fl r557.2.2.2.2.2.2.2.2.2.1)), (8, .dead), (5, .dead), (6, .dead), (7, .dead)] (by simp only [push_cast, seval]) (by simp only [push_cast, seval]) (by kernel_rfl) (.inl rfl) (by simp only [push_cast, seval]) (by simp only [push_cast, seval]) ?_
    refine rs 2 [] [] (by kernel_rfl) allP_nil ?_
    refine rf [(3, bS xtry), (8, .ptr 1 0), (9, .ptr 2 0), (10, .ptr 3 0), (12, .ptr 8 0), (13, .ptr 9 0), (14, .ptr 17 0)] [(0, .row 25 (Enc.cells p)), (1, .row 25 [iS 0, .v (.slice none 0 0), bS false, .v (.slice none 0 0), .v (.slice none 0 0)]), (2, .row 34 [bS false, bS false, bS false, iS 0, iS 0, .v (.slice none 0 0)]), (3, .row 30 [iS 0, iS 0]), (4, .row 30 (Enc.cells r552)), (5, .dead), (6, .row 39 (fl r557.2.2.2.2.2.2.2.2.2.2)), (7, .dead), (8, .row 25 [iS r557.2.2.2.2.2.2.1, .own 15 0 r557.2.2.2.2.2.2.2.2.1.length, bS r557.2.2.2.2.2.2.2.1, .own 6 0 r557.2.2.2.2.2.2.2.2.2.2.length, .own 16 0 r557.2.2.2.2.2.2.2.2.2.1.length]), (9, .row 39 [iS task, iS 0, iS value]), (14, .row 64 (fl r557.2.2.2.2.2.1)), (15, .row 3 (fl r557.2.2.2.2.2.2.2.2.1)), (16, .row 39 (fl r557.2.2.2.2.2.2.2.2.2.1)), (17, .row 34 [bS r557.1, bS r557.2.1, bS r557.2.2.1, iS r557.2.2.2.1, iS r557.2.2.2.2.1, .own 14 0 r557.2.2.2.2.2.1.length])] 18 (by kernel_rfl) ?_
    refine wk_id ?_
    refine seq_cut (A := Int × Bool × Bool × Bool × Bool × Int × Int × (List Int) × (List GPost) × (List GPost) × (List GWake)) (fun a => ([(8, .ptr 0 0), (9, .ptr 1 0), (10, .ptr 2 0), (12, .ptr 3 0), (14, .ptr 4 0)], [(0, .row 25 [iS 0, .v (.slice none 0 0), bS false, .v (.slice none 0 0), .v (.slice none 0 0)]), (1, .row 34 [bS false, bS false, bS false, iS 0, iS 0, .v (.slice none 0 0)]), (2, .row 30 [iS 0, iS 0]), (3, .row 25 [iS a.1, .own 5 0 a.2.2.2.2.2.2.2.1.length, bS a.2.1, .own 6 0 a.2.2.2.2.2.2.2.2.1.length, .own 7 0 a.2.2.2.2.2.2.2.2.2.1.length]), (4, .row 34 [bS a.2.2.1, bS a.2.2.2.1, bS a.2.2.2.2.1, iS a.2.2.2.2.2.1, iS a.2.2.2.2.2.2.1, .own 8 0 a.2.2.2.2.2.2.2.2.2.2.length]), (5, .row 3 (fl a.2.2.2.2.2.2.2.1)), (6, .row 39 (fl a.2.2.2.2.2.2.2.2.1)), (7, .row 39 (fl a.2.2.2.2.2.2.2.2.2.1)), (8, .row 64 (fl a.2.2.2.2.2.2.2.2.2.2))], 9)) (fun a => (pipe_Send_j1 a.1 a.2.1 a.2.2.1 a.2.2.2.1 a.2.2.2.2.1 a.2.2.2.2.2.1 a.2.2.2.2.2.2.1 a.2.2.2.2.2.2.2.1 a.2.2.2.2.2.2.2.2.1 a.2.2.2.2.2.2.2.2.2.1 a.2.2.2.2.2.2.2.2.2.2) = some r) (fun K564 hK564 => ?_) ?_
    · refine seq_cut (A := Unit) (fun _ => ([(8, .ptr 1 0), (9, .ptr 2 0), (10, .ptr 3 0), (12, .ptr 8 0), (13, .ptr 9 0), (14, .ptr 17 0), (37, bS ((!r557.1) && (!xtry)))], [(0, .row 25 (Enc.cells p)), (1, .row 25 [iS 0, .v (.slice none 0 0), bS false, .v (.slice none 0 0), .v (.slice none 0 0)]), (2, .row 34 [bS false, bS false, bS false, iS 0, iS 0, .v (.slice none 0 0)]), (3, .row 30 [iS 0, iS 0]), (4, .row 30 (Enc.cells r552)), (6, .row 39 (fl r557.2.2.2.2.2.2.2.2.2.2)), (8, .row 25 [iS r557.2.2.2.2.2.2.1, .own 15 0 r557.2.2.2.2.2.2.2.2.1.length, bS r557.2.2.2.2.2.2.2.1, .own 6 0 r557.2.2.2.2.2.2.2.2.2.2.length, .own 16 0 r557.2.2.2.2.2.2.2.2.2.1.length]), (9, .row 39 [iS task, iS 0, iS value]), (14, .row 64 (fl r557.2.2.2.2.2.1)), (15, .row 3 (fl r557.2.2.2.2.2.2.2.2.1)), (16, .row 39 (fl r557.2.2.2.2.2.2.2.2.2.1)), (17, .row 34 [bS r557.1, bS r557.2.1, bS r557.2.2.1, iS r557.2.2.2.1, iS r557.2.2.2.2.1, .own 14 0 r557.2.2.2.2.2.1.length])], 18)) (fun _ => True) (fun K566 hK566 => ?_) (fun _ _ => ?_)
      · refine reg_f ?_
        refine rs 4 [] [] (by kernel_rfl) allP_nil ?_
        refine run_split 34 (!r557.1) (.inl (by kernel_rfl)) (fun g567 => ?_) (fun g567 => ?_)
        · refine rs 3 [] [] (by kernel_rfl) allP_nil ?_
          refine rf [(8, .ptr 1 0), (9, .ptr 2 0), (10, .ptr 3 0), (12, .ptr 8 0), (13, .ptr 9 0), (14, .ptr 17 0), (37, bS (!xtry))] [(0, .row 25 (Enc.cells p)), (1, .row 25 [iS 0, .v (.slice none 0 0), bS false, .v (.slice none 0 0), .v (.slice none 0 0)]), (2, .row 34 [bS false, bS false, bS false, iS 0, iS 0, .v (.slice none 0 0)]), (3, .row 30 [iS 0, iS 0]), (4, .row 30 (Enc.cells r552)), (5, .dead), (6, .row 39 (fl r557.2.2.2.2.2.2.2.2.2.2)), (7, .dead), (8, .row 25 [iS r557.2.2.2.2.2.2.1, .own 15 0 r557.2.2.2.2.2.2.2.2.1.length, bS r557.2.2.2.2.2.2.2.1, .own 6 0 r557.2.2.2.2.2.2.2.2.2.2.length, .own 16 0 r557.2.2.2.2.2.2.2.2.2.1.length]), (9, .row 39 [iS task, iS 0, iS value]), (14, .row 64 (fl r557.2.2.2.2.2.1)), (15, .row 3 (fl r557.2.2.2.2.2.2.2.2.1)), (16, .row 39 (fl r557.2.2.2.2.2.2.2.2.2.1)), (17, .row 34 [bS r557.1, bS r557.2.1, bS r557.2.2.1, iS r557.2.2.2.1, iS r557.2.2.2.2.1, .own 14 0 r557.2.2.2.2.2.1.length])] 18 (by kernel_rfl) ?_
          exact hK566 () _ _ _ trivial (leSt_m [(0, 0), (1, 1), (2, 2), (3, 3), (4, 4), (6, 6), (8, 8), (9, 9), (14, 14), (15, 15), (16, 16), (17, 17)] [] (by (try simp only [g567]) <;> simp only [push_cast, seval]) (by (try simp only [g567]) <;> simp only [push_cast, seval]) rfl rfl rfl)
        · refine rs 3 [] [] (by kernel_rfl) allP_nil ?_
          refine rf [(8, .ptr 1 0), (9, .ptr 2 0), (10, .ptr 3 0), (12, .ptr 8 0), (13, .ptr 9 0), (14, .ptr 17 0), (37, bS false)] [(0, .row 25 (Enc.cells p)), (1, .row 25 [iS 0, .v (.slice none 0 0), bS false, .v (.slice none 0 0), .v (.slice none 0 0)]), (2, .row 34 [bS false, bS false, bS false, iS 0, iS 0, .v (.slice none 0 0)]), (3, .row 30 [iS 0, iS 0]), (4, .row 30 (Enc.cells r552)), (5, .dead), (6, .row 39 (fl r557.2.2.2.2.2.2.2.2.2.2)), (7, .dead), (8, .row 25 [iS r557.2.2.2.2.2.2.1, .own 15 0 r557.2.2.2.2.2.2.2.2.1.length, bS r557.2.2.2.2.2.2.2.1, .own 6 0 r557.2.2.2.2.2.2.2.2.2.2.length, .own 16 0 r557.2.2.2.2.2.2.2.2.2.1.length]), (9, .row 39 [iS task, iS 0, iS value]), (14, .row 64 (fl r557.2.2.2.2.2.1)), (15, .row 3 (fl r557.2.2.2.2.2.2.2.2.1)), (16, .row 39 (fl r557.2.2.2.2.2.2.2.2.2.1)), (17, .row 34 [bS r557.1, bS r557.2.1, bS r557.2.2.1, iS r557.2.2.2.1, iS r557.2.2.2.2.1, .own 14 0 r557.2.2.2.2.2.1.length])] 18 (by kernel_rfl) ?_
          exact hK566 () _ _ _ trivial (leSt_m [(0, 0), (1, 1), (2, 2), (3, 3), (4, 4), (6, 6), (8, 8), (9, 9), (14, 14), (15, 15), (16, 16), (17, 17)] [] (by (try simp only [g567]) <;> simp only [push_cast, seval]) (by (try simp only [g567]) <;> simp only [push_cast, seval]) rfl rfl rfl)
      · dsimp only
        refine cond_sx h (by kernel_rfl) (fun g572 h => ?_) (fun g572 h => ?_)
        · refine chk_sx h (fun g571 h => ?_)
          refine reg_f ?_
          have k570 : (r557.2.2.2.2.2.2.2.2.2.2 ++ ([(GPost.mk task 0 value)] : List GPost)).length * 24 ≤ 140737488355328 := by first | simpa only [Bool.and_eq_true, decide_eq_true_eq, bne_iff_ne, ne_eq] using g571 | (simp at g571 ⊢; omega)
          refine rs 7 [none, none, none, none, some ⟨.own 19 0 (r557.2.2.2.2.2.2.2.2.2.2 ++ ([(GPost.mk task 0 value)] : List GPost)).length, [(19, .row 39 (fl (r557.2.2.2.2.2.2.2.2.2.2 ++ ([(GPost.mk task 0 value)] : List GPost)))), (6, .dead)], 20, [6, 18]⟩] _ (by kernel_rfl) (allP_cons (ob_app (P := Try.prog) r557.2.2.2.2.2.2.2.2.2.2 ([(GPost.mk task 0 value)] : List GPost) 3 24 rfl (appCells (fl ([(GPost.mk task 0 value)] : List GPost)) 0 (([(GPost.mk task 0 value)] : List GPost).length * 3)) ([(GPost.mk task 0 value)] : List GPost).length (app_own ([(GPost.mk task 0 value)] : List GPost) 3 rfl) rfl (0 + ([(GPost.mk task 0 value)] : List GPost).length * 3 ≤ (fl ([(GPost.mk task 0 value)] : List GPost)).length) (app_own_le ([(GPost.mk task 0 value)] : List GPost) 3 rfl) 39 (by kernel_rfl) (by decide) k570 6 19 [18]) allP_nil) ?_
          refine rf [(8, .ptr 1 0), (9, .ptr 2 0), (10, .ptr 3 0), (12, .ptr 8 0), (14, .ptr 17 0)] [(0, .row 25 (Enc.cells p)), (1, .row 25 [iS 0, .v (.slice none 0 0), bS false, .v (.slice none 0 0), .v (.slice none 0 0)]), (2, .row 34 [bS false, bS false, bS false, iS 0, iS 0, .v (.slice none 0 0)]), (3, .row 30 [iS 0, iS 0]), (4, .row 30 (Enc.cells r552)), (6, .dead), (8, .row 25 [iS r557.2.2.2.2.2.2.1, .own 15 0 r557.2.2.2.2.2.2.2.2.1.length, bS r557.2.2.2.2.2.2.2.1, .own 19 0 (r557.2.2.2.2.2.2.2.2.2.2 ++ ([(GPost.mk task 0 value)] : List GPost)).length, .own 16 0 r557.2.2.2.2.2.2.2.2.2.1.length]), (9, .row 39 [iS task, iS 0, iS value]), (14, .row 64 (fl r557.2.2.2.2.2.1)), (15, .row 3 (fl r557.2.2.2.2.2.2.2.2.1)), (16, .row 39 (fl r557.2.2.2.2.2.2.2.2.2.1)), (17, .row 34 [bS r557.1, bS r557.2.1, bS r557.2.2.1, iS r557.2.2.2.1, iS r557.2.2.2.2.1, .own 14 0 r557.2.2.2.2.2.1.length]), (18, .row 39 (fl ([(GPost.mk task 0 value)] : List GPost))), (19, .row 39 (fl (r557.2.2.2.2.2.2.2.2.2.2 ++ ([(GPost.mk task 0 value)] : List GPost))))] 20 (by kernel_rfl) ?_
          exact hK564 (r557.2.2.2.2.2.2.1, r557.2.2.2.2.2.2.2.1, r557.1, r557.2.1, r557.2.2.1, r557.2.2.2.1, r557.2.2.2.2.1, r557.2.2.2.2.2.2.2.2.1, (r557.2.2.2.2.2.2.2.2.2.2 ++ ([(GPost.mk task 0 value)] : List GPost)), r557.2.2.2.2.2.2.2.2.2.1, r557.2.2.2.2.2.1) _ _ _ h (leSt_m [(0, 1), (1, 2), (2, 3), (3, 8), (4, 17), (5, 15), (6, 19), (7, 16), (8, 14)] [] (by simp only [push_cast, seval]) (by simp only [push_cast, seval]) rfl rfl rfl)
        · exact hK564 (r557.2.2.2.2.2.2.1, r557.2.2.2.2.2.2.2.1, r557.1, r557.2.1, r557.2.2.1, r557.2.2.2.1, r557.2.2.2.2.1, r557.2.2.2.2.2.2.2.2.1, r557.2.2.2.2.2.2.2.2.2.2, r557.2.2.2.2.2.2.2.2.2.1, r557.2.2.2.2.2.1) _ _ _ h (leSt_m [(0, 1), (1, 2), (2, 3), (3, 8), (4, 17), (5, 15), (6, 6), (7, 16), (8, 14)] [] (by simp only [push_cast, seval]) (by simp only [push_cast, seval]) rfl rfl rfl)
    · rintro ⟨c3_Cap1, c3_Closed1, c4_Done1, c4_Panic1, c4_Ok1, c4_Value1, c4_Case1, c5q1, c6q1, c7q1, c8q1⟩ h
      try dsimp only at h ⊢
      unfold pipe_Send_j1 at h
      refine seq_np ?_
      refine reg_t ?_
      refine rs 6 [] [] (by kernel_rfl) allP_nil ?_
      refine rt [(8, .ptr 0 0), (9, .ptr 1 0), (10, .ptr 2 0)] [(0, .row 25 [iS c3_Cap1, .own 5 0 c5q1.length, bS c3_Closed1, .own 6 0 c6q1.length, .own 7 0 c7q1.length]), (1, .row 34 [bS c4_Done1, bS c4_Panic1, bS c4_Ok1, iS c4_Value1, iS c4_Case1, .own 8 0 c8q1.length]), (2, .row 30 [iS 0, iS 0]), (3, .row 25 [iS c3_Cap1, .own 5 0 c5q1.length, bS c3_Closed1, .own 6 0 c6q1.length, .own 7 0 c7q1.length]), (4, .row 34 [bS c4_Done1, bS c4_Panic1, bS c4_Ok1, iS c4_Value1, iS c4_Case1, .own 8 0 c8q1.length]), (5, .row 3 (fl c5q1)), (6, .row 39 (fl c6q1)), (7, .row 39 (fl c7q1)), (8, .row 64 (fl c8q1))] 15 follows (by kernel_rfl) ?_
      refine wk_id ?_
      obtain rfl := Option.some.inj h
      refine ret_at (.tup [.agg [iS c3_Cap1, .own 5 0 c5q1.length, bS c3_Closed1, .own 6 0 c6q1.length, .own 7 0 c7q1.length], .agg [bS c4_Done1, bS c4_Panic1, bS c4_Ok1, iS c4_Value1, iS c4_Case1, .own 8 0 c8q1.length], .agg [iS 0, iS 0]]) (by kernel_rfl) ?_
      exact ret_e [(0, 5), (1, 6), (2, 7), (3, 8)] [] (by simp only [push_cast, seval]) (by simp only [push_cast, seval]) rfl rfl rfl

set_option maxRecDepth 100000 in
set_option maxHeartbeats 200000000 in
theorem taskmillref_SameWakes_spec (xa : (List GWake)) (b : (List GWake)) (r : Bool) (h : taskmillref_SameWakes xa b = some r) : SpecW Try.prog 33 [.sl xa.length (fl xa), .sl b.length (fl b)] [] 0 (fun x h n => x = bS r ∧ h = [] ∧ n = 0) := by
  unfold taskmillref_SameWakes at h
  refine spec_of (draw_ok _) Try.func33 rfl (by decide) rfl (by kernel_rfl) ?_
  refine seq_np ?_
  refine reg_f ?_
  refine rs 1 [] [] (by kernel_rfl) allP_nil ?_
  refine rf [(0, .sl xa.length (fl xa)), (1, .sl b.length (fl b))] [] 0 (by kernel_rfl) ?_
  refine wk_id ?_
  refine seq_np ?_
  refine seq_np ?_
  refine reg_f ?_
  refine rs 5 [] [] (by kernel_rfl) allP_nil ?_
  refine rf [(0, .sl xa.length (fl xa)), (1, .sl b.length (fl b)), (10, bS (((xa.length : Nat) : Int) != ((b.length : Nat) : Int)))] [] 0 (by kernel_rfl) ?_
  refine wk_id ?_
  refine cond_sx h (by kernel_rfl) (fun g672 h => ?_) (fun g672 h => ?_)
  · refine seq_np ?_
    refine reg_f ?_
    refine rs 1 [] [] (by kernel_rfl) allP_nil ?_
    refine rf [(4, bS false)] [] 0 (by kernel_rfl) ?_
    refine wk_id ?_
    obtain rfl := Option.some.inj h
    refine ret_at (bS false) (by kernel_rfl) ?_
    exact ret_e [] [] (by simp only [push_cast, seval]) (by simp only [push_cast, seval]) rfl rfl rfl
  · refine wk_id ?_
    refine seq_np ?_
    refine seq_np ?_
    refine reg_f ?_
    refine rs 1 [] [] (by kernel_rfl) allP_nil ?_
    refine rf [(0, .sl xa.length (fl xa)), (1, .sl b.length (fl b)), (5, iS 0)] [] 0 (by kernel_rfl) ?_
    refine wk_id ?_
    refine block_np ?_
    refine loop_sx (S := Int) (fun a => ([(0, .sl xa.length (fl xa)), (1, .sl b.length (fl b)), (5, iS a)], [], 0)) h (leSt_m [] [] (by simp only [push_cast, seval]) (by simp only [push_cast, seval]) rfl rfl rfl) ?_
    rintro i7 o2 R2 h hr2 hn2 hx2 ht2
    try dsimp only at h hn2 ⊢
    unfold taskmillref_SameWakes_l1 at h
    try dsimp only at h
    refine seq_np ?_
    refine seq_np ?_
    refine reg_f ?_
    refine rs 4 [] [] (by kernel_rfl) allP_nil ?_
    refine rf [(0, .sl xa.length (fl xa)), (1, .sl b.length (fl b)), (5, iS i7), (14, bS (decide (i7 < ((xa.length : Nat) : Int))))] [] 0 (by kernel_rfl) ?_
    refine wk_id ?_
    refine cond_sx h (by kernel_rfl) (fun g671 h => ?_) (fun g671 h => ?_)
    · refine wk_id ?_
      refine seq_np ?_
      refine block_np ?_
      refine chk_sx h (fun g667 h => ?_)
      refine chk_sx h (fun g669 h => ?_)
      refine seq_np ?_
      refine reg_t ?_
      have k666 : 0 ≤ i7 ∧ i7 < ((xa.length : Nat) : Int) := by first | simpa only [Bool.and_eq_true, decide_eq_true_eq, bne_iff_ne, ne_eq] using g667 | (simp at g667 ⊢; omega)
      have k668 : 0 ≤ i7 ∧ i7 < ((b.length : Nat) : Int) := by first | simpa only [Bool.and_eq_true, decide_eq_true_eq, bne_iff_ne, ne_eq] using g669 | (simp at g669 ⊢; omega)
      refine rs 9 [none, none, some ⟨.iptr (fl xa) ((i7).toNat * 5), [], 2, []⟩, some ⟨.agg (Enc.cells (ix xa i7)), [], 3, []⟩, none, none, some ⟨.iptr (fl b) ((i7).toNat * 5), [], 6, []⟩, some ⟨.agg (Enc.cells (ix b i7)), [], 7, []⟩] _ (by kernel_rfl) (allP_cons (ob_ldw b i7 5 ((i7).toNat * 5) k668 rfl (by first | rfl | omega) [iS (ix b i7).Task, iS (ix b i7).Case, iS (ix b i7).Value, bS (ix b i7).Ok, bS (ix b i7).Panic] rfl 7 []) (allP_cons (ob_ix_l b 5 6 i7 k668) (allP_cons (ob_ldw xa i7 5 ((i7).toNat * 5) k666 rfl (by first | rfl | omega) [iS (ix xa i7).Task, iS (ix xa i7).Case, iS (ix xa i7).Value, bS (ix xa i7).Ok, bS (ix xa i7).Panic] rfl 3 []) (allP_cons (ob_ix_l xa 5 2 i7 k666) allP_nil)))) ?_
      refine rt [(0, .sl xa.length (fl xa)), (1, .sl b.length (fl b)), (5, iS i7), (25, bS (!(((ix xa i7).Task == (ix b i7).Task) && (((ix xa i7).Case == (ix b i7).Case) && (((ix xa i7).Value == (ix b i7).Value) && (((ix xa i7).Ok == (ix b i7).Ok) && (((ix xa i7).Panic == (ix b i7).Panic) && true)))))))] [] 9 follows (by kernel_rfl) ?_
      refine wk_id ?_
      refine cond_sx h (by kernel_rfl) (fun g670 h => ?_) (fun g670 h => ?_)
      · refine seq_np ?_
        refine reg_f ?_
        refine rs 1 [] [] (by kernel_rfl) allP_nil ?_
        refine rf [(4, bS false)] [] 9 (by kernel_rfl) ?_
        refine wk_id ?_
        refine rt_cast ht2 ?_
        obtain ⟨r0, h, e0⟩ := map_sx h
        have e1 := hr2 r0 e0.symm
        subst r0
        obtain rfl := Option.some.inj h
        refine ret_at (bS false) (by kernel_rfl) ?_
        exact ret_e [] [] (by simp only [push_cast, seval]) (by simp only [push_cast, seval]) rfl rfl rfl
      · refine wk_id ?_
        refine wk_id ?_
        refine reg_f ?_
        refine rs 3 [] [] (by kernel_rfl) allP_nil ?_
        refine rf [(0, .sl xa.length (fl xa)), (1, .sl b.length (fl b)), (5, iS (IntKind.i64.wrap (i7 + 1)))] [] 9 (by kernel_rfl) ?_
        exact hn2 ((IntKind.i64.wrap (i7 + 1))) _ _ _ (Option.some.inj h).symm (leSt_m [] [] (by simp only [push_cast, seval]) (by simp only [push_cast, seval]) rfl rfl rfl)
    · change R2 (.exit 0) _ _ _
      refine ex_cast hx2 (id := 0) ?_
      obtain ⟨r0, h, e0⟩ := map_sx h
      have e1 := hr2 r0 e0.symm
      subst r0
      refine wk_id ?_
      refine wk_id ?_
      refine seq_np ?_
      refine reg_f ?_
      refine rs 1 [] [] (by kernel_rfl) allP_nil ?_
      refine rf [(4, bS true)] [] 0 (by kernel_rfl) ?_
      refine wk_id ?_
      obtain rfl := Option.some.inj h
      refine ret_at (bS true) (by kernel_rfl) ?_
      exact ret_e [] [] (by simp only [push_cast, seval]) (by simp only [push_cast, seval]) rfl rfl rfl

set_option maxRecDepth 100000 in
set_option maxHeartbeats 200000000 in
theorem taskmilllaw_pipeBegun_spec (r : Bool) (h : taskmilllaw_pipeBegun = some r) : SpecW Try.prog 10 [] [] 0 (fun x h n => x = bS r ∧ h = [] ∧ n = 0) := by
  unfold taskmilllaw_pipeBegun at h
  refine spec_of (draw_ok _) Try.func10 rfl (by decide) rfl (by kernel_rfl) ?_
  refine seq_np ?_
  refine reg_f ?_
  refine rs 1 [] [] (by kernel_rfl) allP_nil ?_
  refine rf [] [] 0 (by kernel_rfl) ?_
  refine wk_id ?_
  refine seq_np ?_
  refine reg_f ?_
  refine rs 1 [] [] (by kernel_rfl) allP_nil ?_
  obtain ⟨r677, hr677, h⟩ := bind_sx h
  refine call_x (pipe_Get_spec (Pipe.mk 0 [] false [] []) 1 false r677 hr677) (args := [.agg [iS 0, .v (.slice none 0 0), bS false, .v (.slice none 0 0), .v (.slice none 0 0)], iS 1, bS false]) (dst := (some 9)) (by kernel_rfl) [] 0 (by kernel_rfl) [] [] (.tup [.agg [iS r677.1, .own 0 0 r677.2.2.2.2.2.2.2.2.1.length, bS r677.2.1, .own 1 0 r677.2.2.2.2.2.2.2.2.2.1.length, .own 2 0 r677.2.2.2.2.2.2.2.2.2.2.1.length], .agg [bS r677.2.2.1, bS r677.2.2.2.1, bS r677.2.2.2.2.1, iS r677.2.2.2.2.2.1, iS r677.2.2.2.2.2.2.1, .own 3 0 r677.2.2.2.2.2.2.2.2.2.2.2.length], .agg (Enc.cells r677.2.2.2.2.2.2.2.1)]) [(0, .row 3 (fl r677.2.2.2.2.2.2.2.2.1)), (1, .row 39 (fl r677.2.2.2.2.2.2.2.2.2.1)), (2, .row 39 (fl r677.2.2.2.2.2.2.2.2.2.2.1)), (3, .row 64 (fl r677.2.2.2.2.2.2.2.2.2.2.2))] (by simp only [push_cast, seval]) (by simp only [push_cast, seval]) (by kernel_rfl) (.inl rfl) (by simp only [push_cast, seval]) (by simp only [push_cast, seval]) ?_
  refine rs 10 [] [] (by kernel_rfl) allP_nil ?_
  refine rf [(1, .ptr 4 0), (2, .ptr 5 0), (3, .ptr 6 0)] [(0, .row 3 (fl r677.2.2.2.2.2.2.2.2.1)), (1, .row 39 (fl r677.2.2.2.2.2.2.2.2.2.1)), (2, .row 39 (fl r677.2.2.2.2.2.2.2.2.2.2.1)), (3, .row 64 (fl r677.2.2.2.2.2.2.2.2.2.2.2)), (4, .row 25 [iS r677.1, .own 0 0 r677.2.2.2.2.2.2.2.2.1.length, bS r677.2.1, .own 1 0 r677.2.2.2.2.2.2.2.2.2.1.length, .own 2 0 r677.2.2.2.2.2.2.2.2.2.2.1.length]), (5, .row 34 [bS r677.2.2.1, bS r677.2.2.2.1, bS r677.2.2.2.2.1, iS r677.2.2.2.2.2.1, iS r677.2.2.2.2.2.2.1, .own 3 0 r677.2.2.2.2.2.2.2.2.2.2.2.length]), (6, .row 30 (Enc.cells r677.2.2.2.2.2.2.2.1))] 7 (by kernel_rfl) ?_
  refine wk_id ?_
  refine seq_np ?_
  refine reg_f ?_
  refine rs 1 [] [] (by kernel_rfl) allP_nil ?_
  obtain ⟨r679, hr679, h⟩ := bind_sx h
  refine call_x (pipe_Send_spec (Pipe.mk r677.1 r677.2.2.2.2.2.2.2.2.1 r677.2.1 r677.2.2.2.2.2.2.2.2.2.1 r677.2.2.2.2.2.2.2.2.2.2.1) 2 7 false r679 hr679) (args := [.agg [iS r677.1, .own 0 0 r677.2.2.2.2.2.2.2.2.1.length, bS r677.2.1, .own 1 0 r677.2.2.2.2.2.2.2.2.2.1.length, .own 2 0 r677.2.2.2.2.2.2.2.2.2.2.1.length], iS 2, iS 7, bS false]) (dst := (some 15)) (by kernel_rfl) [(0, .row 3 (fl r677.2.2.2.2.2.2.2.2.1)), (1, .row 39 (fl r677.2.2.2.2.2.2.2.2.2.1)), (2, .row 39 (fl r677.2.2.2.2.2.2.2.2.2.2.1)), (3, .row 64 (fl r677.2.2.2.2.2.2.2.2.2.2.2)), (4, .row 25 [iS r677.1, .own 0 0 r677.2.2.2.2.2.2.2.2.1.length, bS r677.2.1, .own 1 0 r677.2.2.2.2.2.2.2.2.2.1.length, .own 2 0 r677.2.2.2.2.2.2.2.2.2.2.1.length]), (5, .row 34 [bS r677.2.2.1, bS r677.2.2.2.1, bS r677.2.2.2.2.1, iS r677.2.2.2.2.2.1, iS r677.2.2.2.2.2.2.1, .own 3 0 r677.2.2.2.2.2.2.2.2.2.2.2.length]), (6, .row 30 (Enc.cells r677.2.2.2.2.2.2.2.1))] 7 (by kernel_rfl) [] [0, 1, 2] (.tup [.agg [iS r679.1, .own 7 0 r679.2.2.2.2.2.2.2.2.1.length, bS r679.2.1, .own 8 0 r679.2.2.2.2.2.2.2.2.2.1.length, .own 9 0 r679.2.2.2.2.2.2.2.2.2.2.1.length], .agg [bS r679.2.2.1, bS r679.2.2.2.1, bS r679.2.2.2.2.1, iS r679.2.2.2.2.2.1, iS r679.2.2.2.2.2.2.1, .own 10 0 r679.2.2.2.2.2.2.2.2.2.2.2.length], .agg (Enc.cells r679.2.2.2.2.2.2.2.1)]) [(7, .row 3 (fl r679.2.2.2.2.2.2.2.2.1)), (8, .row 39 (fl r679.2.2.2.2.2.2.2.2.2.1)), (9, .row 39 (fl r679.2.2.2.2.2.2.2.2.2.2.1)), (10, .row 64 (fl r679.2.2.2.2.2.2.2.2.2.2.2))] (by simp only [push_cast, seval]) (by simp only [push_cast, seval]) (by kernel_rfl) (.inr ⟨by simp only [push_cast, seval], by simp only [push_cast, seval]⟩) (by simp only [push_cast, seval]) (by simp only [push_cast, seval]) ?_
  refine rs 10 [] [] (by kernel_rfl) allP_nil ?_
  refine rf [(2, .ptr 5 0), (3, .ptr 6 0), (5, .ptr 12 0), (6, .ptr 13 0)] [(0, .row 3 (fl r677.2.2.2.2.2.2.2.2.1)), (1, .row 39 (fl r677.2.2.2.2.2.2.2.2.2.1)), (2, .row 39 (fl r677.2.2.2.2.2.2.2.2.2.2.1)), (3, .row 64 (fl r677.2.2.2.2.2.2.2.2.2.2.2)), (4, .row 25 [iS r677.1, .own 0 0 r677.2.2.2.2.2.2.2.2.1.length, bS r677.2.1, .own 1 0 r677.2.2.2.2.2.2.2.2.2.1.length, .own 2 0 r677.2.2.2.2.2.2.2.2.2.2.1.length]), (5, .row 34 [bS r677.2.2.1, bS r677.2.2.2.1, bS r677.2.2.2.2.1, iS r677.2.2.2.2.2.1, iS r677.2.2.2.2.2.2.1, .own 3 0 r677.2.2.2.2.2.2.2.2.2.2.2.length]), (6, .row 30 (Enc.cells r677.2.2.2.2.2.2.2.1)), (7, .row 3 (fl r679.2.2.2.2.2.2.2.2.1)), (8, .row 39 (fl r679.2.2.2.2.2.2.2.2.2.1)), (9, .row 39 (fl r679.2.2.2.2.2.2.2.2.2.2.1)), (10, .row 64 (fl r679.2.2.2.2.2.2.2.2.2.2.2)), (11, .row 25 [iS r679.1, .own 7 0 r679.2.2.2.2.2.2.2.2.1.length, bS r679.2.1, .own 8 0 r679.2.2.2.2.2.2.2.2.2.1.length, .own 9 0 r679.2.2.2.2.2.2.2.2.2.2.1.length]), (12, .row 34 [bS r679.2.2.1, bS r679.2.2.2.1, bS r679.2.2.2.2.1, iS r679.2.2.2.2.2.1, iS r679.2.2.2.2.2.2.1, .own 10 0 r679.2.2.2.2.2.2.2.2.2.2.2.length]), (13, .row 30 (Enc.cells r679.2.2.2.2.2.2.2.1))] 14 (by kernel_rfl) ?_
  refine wk_id ?_
  refine seq_cut (A := Bool) (fun a => ([(0, bS a)], [], 0)) (fun a => (taskmilllaw_pipeBegun_j1 a) = some r) (fun K686 hK686 => ?_) ?_
  · refine reg_f ?_
    refine rs 4 [] [] (by kernel_rfl) allP_nil ?_
    refine run_br h 22 (.inl (by kernel_rfl)) (fun g687 h => ?_) (fun g687 h => ?_)
    · refine rs 5 [] [] (by kernel_rfl) allP_nil ?_
      refine run_br h 27 (.inl (by kernel_rfl)) (fun g688 h => ?_) (fun g688 h => ?_)
      · refine rs 5 [] [] (by kernel_rfl) allP_nil ?_
        refine run_br h 32 (.inl (by kernel_rfl)) (fun g689 h => ?_) (fun g689 h => ?_)
        · refine rn 14 [(5, .ptr 12 0), (32, bS true)] [(0, .row 3 (fl r677.2.2.2.2.2.2.2.2.1)), (1, .row 39 (fl r677.2.2.2.2.2.2.2.2.2.1)), (2, .row 39 (fl r677.2.2.2.2.2.2.2.2.2.2.1)), (3, .row 64 (fl r677.2.2.2.2.2.2.2.2.2.2.2)), (4, .row 25 [iS r677.1, .own 0 0 r677.2.2.2.2.2.2.2.2.1.length, bS r677.2.1, .own 1 0 r677.2.2.2.2.2.2.2.2.2.1.length, .own 2 0 r677.2.2.2.2.2.2.2.2.2.2.1.length]), (5, .row 34 [bS r677.2.2.1, bS r677.2.2.2.1, bS r677.2.2.2.2.1, iS r677.2.2.2.2.2.1, iS r677.2.2.2.2.2.2.1, .own 3 0 r677.2.2.2.2.2.2.2.2.2.2.2.length]), (6, .row 30 (Enc.cells r677.2.2.2.2.2.2.2.1)), (7, .row 3 (fl r679.2.2.2.2.2.2.2.2.1)), (8, .row 39 (fl r679.2.2.2.2.2.2.2.2.2.1)), (9, .row 39 (fl r679.2.2.2.2.2.2.2.2.2.2.1)), (10, .row 64 (fl r679.2.2.2.2.2.2.2.2.2.2.2)), (11, .row 25 [iS r679.1, .own 7 0 r679.2.2.2.2.2.2.2.2.1.length, bS r679.2.1, .own 8 0 r679.2.2.2.2.2.2.2.2.2.1.length, .own 9 0 r679.2.2.2.2.2.2.2.2.2.2.1.length]), (12, .row 34 [bS r679.2.2.1, bS r679.2.2.2.1, bS r679.2.2.2.2.1, iS r679.2.2.2.2.2.1, iS r679.2.2.2.2.2.2.1, .own 10 0 r679.2.2.2.2.2.2.2.2.2.2.2.length]), (13, .row 30 (Enc.cells r679.2.2.2.2.2.2.2.1))] 14 (by kernel_rfl) ?_
          refine rs 4 [] [] (by kernel_rfl) allP_nil ?_
          refine run_br h 36 (.inl (by kernel_rfl)) (fun g690 h => ?_) (fun g690 h => ?_)
          · refine rs 4 [] [] (by kernel_rfl) allP_nil ?_
            obtain ⟨r691, hr691, h⟩ := bind_sx h
            refine call_x (taskmillref_SameWakes_spec r679.2.2.2.2.2.2.2.2.2.2.2 ([(GWake.mk 1 0 7 true false)] : List GWake) r691 hr691) (args := [.own 10 0 r679.2.2.2.2.2.2.2.2.2.2.2.length, .own 14 0 ([(GWake.mk 1 0 7 true false)] : List GWake).length]) (dst := (some 41)) (by kernel_rfl) [(0, .row 3 (fl r677.2.2.2.2.2.2.2.2.1)), (1, .row 39 (fl r677.2.2.2.2.2.2.2.2.2.1)), (2, .row 39 (fl r677.2.2.2.2.2.2.2.2.2.2.1)), (3, .row 64 (fl r677.2.2.2.2.2.2.2.2.2.2.2)), (4, .row 25 [iS r677.1, .own 0 0 r677.2.2.2.2.2.2.2.2.1.length, bS r677.2.1, .own 1 0 r677.2.2.2.2.2.2.2.2.2.1.length, .own 2 0 r677.2.2.2.2.2.2.2.2.2.2.1.length]), (5, .row 34 [bS r677.2.2.1, bS r677.2.2.2.1, bS r677.2.2.2.2.1, iS r677.2.2.2.2.2.1, iS r677.2.2.2.2.2.2.1, .own 3 0 r677.2.2.2.2.2.2.2.2.2.2.2.length]), (6, .row 30 (Enc.cells r677.2.2.2.2.2.2.2.1)), (7, .row 3 (fl r679.2.2.2.2.2.2.2.2.1)), (8, .row 39 (fl r679.2.2.2.2.2.2.2.2.2.1)), (9, .row 39 (fl r679.2.2.2.2.2.2.2.2.2.2.1)), (10, .row 64 (fl r679.2.2.2.2.2.2.2.2.2.2.2)), (11, .row 25 [iS r679.1, .own 7 0 r679.2.2.2.2.2.2.2.2.1.length, bS r679.2.1, .own 8 0 r679.2.2.2.2.2.2.2.2.2.1.length, .own 9 0 r679.2.2.2.2.2.2.2.2.2.2.1.length]), (12, .row 34 [bS r679.2.2.1, bS r679.2.2.2.1, bS r679.2.2.2.2.1, iS r679.2.2.2.2.2.1, iS r679.2.2.2.2.2.2.1, .own 10 0 r679.2.2.2.2.2.2.2.2.2.2.2.length]), (13, .row 30 (Enc.cells r679.2.2.2.2.2.2.2.1)), (14, .row 64 (fl ([(GWake.mk 1 0 7 true false)] : List GWake)))] 15 (by kernel_rfl) [] [10, 14] (bS r691) [] (by simp only [push_cast, seval]) (by simp only [push_cast, seval]) (by kernel_rfl) (.inr ⟨by simp only [push_cast, seval], by simp only [push_cast, seval]⟩) (by simp only [push_cast, seval]) (by simp only [push_cast, seval]) ?_
            refine rs 2 [] [] (by kernel_rfl) allP_nil ?_
            refine rf [(0, bS r691)] [(0, .row 3 (fl r677.2.2.2.2.2.2.2.2.1)), (1, .row 39 (fl r677.2.2.2.2.2.2.2.2.2.1)), (2, .row 39 (fl r677.2.2.2.2.2.2.2.2.2.2.1)), (3, .row 64 (fl r677.2.2.2.2.2.2.2.2.2.2.2)), (4, .row 25 [iS r677.1, .own 0 0 r677.2.2.2.2.2.2.2.2.1.length, bS r677.2.1, .own 1 0 r677.2.2.2.2.2.2.2.2.2.1.length, .own 2 0 r677.2.2.2.2.2.2.2.2.2.2.1.length]), (5, .row 34 [bS r677.2.2.1, bS r677.2.2.2.1, bS r677.2.2.2.2.1, iS r677.2.2.2.2.2.1, iS r677.2.2.2.2.2.2.1, .own 3 0 r677.2.2.2.2.2.2.2.2.2.2.2.length]), (6, .row 30 (Enc.cells r677.2.2.2.2.2.2.2.1)), (7, .row 3 (fl r679.2.2.2.2.2.2.2.2.1)), (8, .row 39 (fl r679.2.2.2.2.2.2.2.2.2.1)), (9, .row 39 (fl r679.2.2.2.2.2.2.2.2.2.2.1)), (10, .row 64 (fl r679.2.2.2.2.2.2.2.2.2.2.2)), (11, .row 25 [iS r679.1, .own 7 0 r679.2.2.2.2.2.2.2.2.1.length, bS r679.2.1, .own 8 0 r679.2.2.2.2.2.2.2.2.2.1.length, .own 9 0 r679.2.2.2.2.2.2.2.2.2.2.1.length]), (12, .row 34 [bS r679.2.2.1, bS r679.2.2.2.1, bS r679.2.2.2.2.1, iS r679.2.2.2.2.2.1, iS r679.2.2.2.2.2.2.1, .own 10 0 r679.2.2.2.2.2.2.2.2.2.2.2.length]), (13, .row 30 (Enc.cells r679.2.2.2.2.2.2.2.1)), (14, .row 64 (fl ([(GWake.mk 1 0 7 true false)] : List GWake)))] 15 (by kernel_rfl) ?_
            exact hK686 (r691) _ _ _ h (leSt_m [] [] (by first | ((try simp only [g687, g688, g689, g690]) <;> simp only [push_cast, seval]; done) | ((try simp only [g687]); (try simp only [g688]); (try simp only [g689]); (try simp only [g690]); simp only [push_cast, seval]; done) | (exfalso; clear h; simp_all; done)) (by first | ((try simp only [g687, g688, g689, g690]) <;> simp only [push_cast, seval]; done) | ((try simp only [g687]); (try simp only [g688]); (try simp only [g689]); (try simp only [g690]); simp only [push_cast, seval]; done) | (exfalso; clear h; simp_all; done)) rfl rfl rfl)
          · refine rs 7 [] [] (by kernel_rfl) allP_nil ?_
            refine rf [(0, bS false)] [(0, .row 3 (fl r677.2.2.2.2.2.2.2.2.1)), (1, .row 39 (fl r677.2.2.2.2.2.2.2.2.2.1)), (2, .row 39 (fl r677.2.2.2.2.2.2.2.2.2.2.1)), (3, .row 64 (fl r677.2.2.2.2.2.2.2.2.2.2.2)), (4, .row 25 [iS r677.1, .own 0 0 r677.2.2.2.2.2.2.2.2.1.length, bS r677.2.1, .own 1 0 r677.2.2.2.2.2.2.2.2.2.1.length, .own 2 0 r677.2.2.2.2.2.2.2.2.2.2.1.length]), (5, .row 34 [bS r677.2.2.1, bS r677.2.2.2.1, bS r677.2.2.2.2.1, iS r677.2.2.2.2.2.1, iS r677.2.2.2.2.2.2.1, .own 3 0 r677.2.2.2.2.2.2.2.2.2.2.2.length]), (6, .row 30 (Enc.cells r677.2.2.2.2.2.2.2.1)), (7, .row 3 (fl r679.2.2.2.2.2.2.2.2.1)), (8, .row 39 (fl r679.2.2.2.2.2.2.2.2.2.1)), (9, .row 39 (fl r679.2.2.2.2.2.2.2.2.2.2.1)), (10, .row 64 (fl r679.2.2.2.2.2.2.2.2.2.2.2)), (11, .row 25 [iS r679.1, .own 7 0 r679.2.2.2.2.2.2.2.2.1.length, bS r679.2.1, .own 8 0 r679.2.2.2.2.2.2.2.2.2.1.length, .own 9 0 r679.2.2.2.2.2.2.2.2.2.2.1.length]), (12, .row 34 [bS r679.2.2.1, bS r679.2.2.2.1, bS r679.2.2.2.2.1, iS r679.2.2.2.2.2.1, iS r679.2.2.2.2.2.2.1, .own 10 0 r679.2.2.2.2.2.2.2.2.2.2.2.length]), (13, .row 30 (Enc.cells r679.2.2.2.2.2.2.2.1))] 14 (by kernel_rfl) ?_
            exact hK686 (false) _ _ _ h (leSt_m [] [] (by first | ((try simp only [g687, g688, g689, g690]) <;> simp only [push_cast, seval]; done) | ((try simp only [g687]); (try simp only [g688]); (try simp only [g689]); (try simp only [g690]); simp only [push_cast, seval]; done) | (exfalso; clear h; simp_all; done)) (by first | ((try simp only [g687, g688, g689, g690]) <;> simp only [push_cast, seval]; done) | ((try simp only [g687]); (try simp only [g688]); (try simp only [g689]); (try simp only [g690]); simp only [push_cast, seval]; done) | (exfalso; clear h; simp_all; done)) rfl rfl rfl)
        · refine rn 14 [(5, .ptr 12 0), (32, bS false)] [(0, .row 3 (fl r677.2.2.2.2.2.2.2.2.1)), (1, .row 39 (fl r677.2.2.2.2.2.2.2.2.2.1)), (2, .row 39 (fl r677.2.2.2.2.2.2.2.2.2.2.1)), (3, .row 64 (fl r677.2.2.2.2.2.2.2.2.2.2.2)), (4, .row 25 [iS r677.1, .own 0 0 r677.2.2.2.2.2.2.2.2.1.length, bS r677.2.1, .own 1 0 r677.2.2.2.2.2.2.2.2.2.1.length, .own 2 0 r677.2.2.2.2.2.2.2.2.2.2.1.length]), (5, .row 34 [bS r677.2.2.1, bS r677.2.2.2.1, bS r677.2.2.2.2.1, iS r677.2.2.2.2.2.1, iS r677.2.2.2.2.2.2.1, .own 3 0 r677.2.2.2.2.2.2.2.2.2.2.2.length]), (6, .row 30 (Enc.cells r677.2.2.2.2.2.2.2.1)), (7, .row 3 (fl r679.2.2.2.2.2.2.2.2.1)), (8, .row 39 (fl r679.2.2.2.2.2.2.2.2.2.1)), (9, .row 39 (fl r679.2.2.2.2.2.2.2.2.2.2.1)), (10, .row 64 (fl r679.2.2.2.2.2.2.2.2.2.2.2)), (11, .row 25 [iS r679.1, .own 7 0 r679.2.2.2.2.2.2.2.2.1.length, bS r679.2.1, .own 8 0 r679.2.2.2.2.2.2.2.2.2.1.length, .own 9 0 r679.2.2.2.2.2.2.2.2.2.2.1.length]), (12, .row 34 [bS r679.2.2.1, bS r679.2.2.2.1, bS r679.2.2.2.2.1, iS r679.2.2.2.2.2.1, iS r679.2.2.2.2.2.2.1, .own 10 0 r679.2.2.2.2.2.2.2.2.2.2.2.length]), (13, .row 30 (Enc.cells r679.2.2.2.2.2.2.2.1))] 14 (by kernel_rfl) ?_
          refine rs 11 [] [] (by kernel_rfl) allP_nil ?_
          refine rf [(0, bS false)] [(0, .row 3 (fl r677.2.2.2.2.2.2.2.2.1)), (1, .row 39 (fl r677.2.2.2.2.2.2.2.2.2.1)), (2, .row 39 (fl r677.2.2.2.2.2.2.2.2.2.2.1)), (3, .row 64 (fl r677.2.2.2.2.2.2.2.2.2.2.2)), (4, .row 25 [iS r677.1, .own 0 0 r677.2.2.2.2.2.2.2.2.1.length, bS r677.2.1, .own 1 0 r677.2.2.2.2.2.2.2.2.2.1.length, .own 2 0 r677.2.2.2.2.2.2.2.2.2.2.1.length]), (5, .row 34 [bS r677.2.2.1, bS r677.2.2.2.1, bS r677.2.2.2.2.1, iS r677.2.2.2.2.2.1, iS r677.2.2.2.2.2.2.1, .own 3 0 r677.2.2.2.2.2.2.2.2.2.2.2.length]), (6, .row 30 (Enc.cells r677.2.2.2.2.2.2.2.1)), (7, .row 3 (fl r679.2.2.2.2.2.2.2.2.1)), (8, .row 39 (fl r679.2.2.2.2.2.2.2.2.2.1)), (9, .row 39 (fl r679.2.2.2.2.2.2.2.2.2.2.1)), (10, .row 64 (fl r679.2.2.2.2.2.2.2.2.2.2.2)), (11, .row 25 [iS r679.1, .own 7 0 r679.2.2.2.2.2.2.2.2.1.length, bS r679.2.1, .own 8 0 r679.2.2.2.2.2.2.2.2.2.1.length, .own 9 0 r679.2.2.2.2.2.2.2.2.2.2.1.length]), (12, .row 34 [bS r679.2.2.1, bS r679.2.2.2.1, bS r679.2.2.2.2.1, iS r679.2.2.2.2.2.1, iS r679.2.2.2.2.2.2.1, .own 10 0 r679.2.2.2.2.2.2.2.2.2.2.2.length]), (13, .row 30 (Enc.cells r679.2.2.2.2.2.2.2.1))] 14 (by kernel_rfl) ?_
          exact hK686 (false) _ _ _ h (leSt_m [] [] (by first | ((try simp only [g687, g688, g689]) <;> simp only [push_cast, seval]; done) | ((try simp only [g687]); (try simp only [g688]); (try simp only [g689]); simp only [push_cast, seval]; done) | (exfalso; clear h; simp_all; done)) (by first | ((try simp only [g687, g688, g689]) <;> simp only [push_cast, seval]; done) | ((try simp only [g687]); (try simp only [g688]); (try simp only [g689]); simp only [push_cast, seval]; done) | (exfalso; clear h; simp_all; done)) rfl rfl rfl)
      · refine rs 16 [] [] (by kernel_rfl) allP_nil ?_
        refine rf [(0, bS false)] [(0, .row 3 (fl r677.2.2.2.2.2.2.2.2.1)), (1, .row 39 (fl r677.2.2.2.2.2.2.2.2.2.1)), (2, .row 39 (fl r677.2.2.2.2.2.2.2.2.2.2.1)), (3, .row 64 (fl r677.2.2.2.2.2.2.2.2.2.2.2)), (4, .row 25 [iS r677.1, .own 0 0 r677.2.2.2.2.2.2.2.2.1.length, bS r677.2.1, .own 1 0 r677.2.2.2.2.2.2.2.2.2.1.length, .own 2 0 r677.2.2.2.2.2.2.2.2.2.2.1.length]), (5, .row 34 [bS r677.2.2.1, bS r677.2.2.2.1, bS r677.2.2.2.2.1, iS r677.2.2.2.2.2.1, iS r677.2.2.2.2.2.2.1, .own 3 0 r677.2.2.2.2.2.2.2.2.2.2.2.length]), (6, .row 30 (Enc.cells r677.2.2.2.2.2.2.2.1)), (7, .row 3 (fl r679.2.2.2.2.2.2.2.2.1)), (8, .row 39 (fl r679.2.2.2.2.2.2.2.2.2.1)), (9, .row 39 (fl r679.2.2.2.2.2.2.2.2.2.2.1)), (10, .row 64 (fl r679.2.2.2.2.2.2.2.2.2.2.2)), (11, .row 25 [iS r679.1, .own 7 0 r679.2.2.2.2.2.2.2.2.1.length, bS r679.2.1, .own 8 0 r679.2.2.2.2.2.2.2.2.2.1.length, .own 9 0 r679.2.2.2.2.2.2.2.2.2.2.1.length]), (12, .row 34 [bS r679.2.2.1, bS r679.2.2.2.1, bS r679.2.2.2.2.1, iS r679.2.2.2.2.2.1, iS r679.2.2.2.2.2.2.1, .own 10 0 r679.2.2.2.2.2.2.2.2.2.2.2.length]), (13, .row 30 (Enc.cells r679.2.2.2.2.2.2.2.1))] 14 (by kernel_rfl) ?_
        exact hK686 (false) _ _ _ h (leSt_m [] [] (by first | ((try simp only [g687, g688]) <;> simp only [push_cast, seval]; done) | ((try simp only [g687]); (try simp only [g688]); simp only [push_cast, seval]; done) | (exfalso; clear h; simp_all; done)) (by first | ((try simp only [g687, g688]) <;> simp only [push_cast, seval]; done) | ((try simp only [g687]); (try simp only [g688]); simp only [push_cast, seval]; done) | (exfalso; clear h; simp_all; done)) rfl rfl rfl)
    · refine rs 21 [] [] (by kernel_rfl) allP_nil ?_
      refine rf [(0, bS false)] [(0, .row 3 (fl r677.2.2.2.2.2.2.2.2.1)), (1, .row 39 (fl r677.2.2.2.2.2.2.2.2.2.1)), (2, .row 39 (fl r677.2.2.2.2.2.2.2.2.2.2.1)), (3, .row 64 (fl r677.2.2.2.2.2.2.2.2.2.2.2)), (4, .row 25 [iS r677.1, .own 0 0 r677.2.2.2.2.2.2.2.2.1.length, bS r677.2.1, .own 1 0 r677.2.2.2.2.2.2.2.2.2.1.length, .own 2 0 r677.2.2.2.2.2.2.2.2.2.2.1.length]), (5, .row 34 [bS r677.2.2.1, bS r677.2.2.2.1, bS r677.2.2.2.2.1, iS r677.2.2.2.2.2.1, iS r677.2.2.2.2.2.2.1, .own 3 0 r677.2.2.2.2.2.2.2.2.2.2.2.length]), (6, .row 30 (Enc.cells r677.2.2.2.2.2.2.2.1)), (7, .row 3 (fl r679.2.2.2.2.2.2.2.2.1)), (8, .row 39 (fl r679.2.2.2.2.2.2.2.2.2.1)), (9, .row 39 (fl r679.2.2.2.2.2.2.2.2.2.2.1)), (10, .row 64 (fl r679.2.2.2.2.2.2.2.2.2.2.2)), (11, .row 25 [iS r679.1, .own 7 0 r679.2.2.2.2.2.2.2.2.1.length, bS r679.2.1, .own 8 0 r679.2.2.2.2.2.2.2.2.2.1.length, .own 9 0 r679.2.2.2.2.2.2.2.2.2.2.1.length]), (12, .row 34 [bS r679.2.2.1, bS r679.2.2.2.1, bS r679.2.2.2.2.1, iS r679.2.2.2.2.2.1, iS r679.2.2.2.2.2.2.1, .own 10 0 r679.2.2.2.2.2.2.2.2.2.2.2.length]), (13, .row 30 (Enc.cells r679.2.2.2.2.2.2.2.1))] 14 (by kernel_rfl) ?_
      exact hK686 (false) _ _ _ h (leSt_m [] [] (by (try simp only [g687]) <;> simp only [push_cast, seval]) (by (try simp only [g687]) <;> simp only [push_cast, seval]) rfl rfl rfl)
  · rintro t0q1 h
    try dsimp only at h ⊢
    unfold taskmilllaw_pipeBegun_j1 at h
    obtain rfl := Option.some.inj h
    refine ret_at (bS t0q1) (by kernel_rfl) ?_
    exact ret_e [] [] (by simp only [push_cast, seval]) (by simp only [push_cast, seval]) rfl rfl rfl

set_option maxRecDepth 100000 in
set_option maxHeartbeats 200000000 in
theorem pipe_Down_spec (c0_Cap : Int) (c0_Closed : Bool) (c1 : (List Int)) (c2 : (List GPost)) (c3 : (List GPost)) (r : Bool × Bool × Bool × Int × Int × (List GWake) × Int × Bool × (List GPost) × (List GPost) × (List Int)) (h : pipe_Down c0_Cap c0_Closed c1 c2 c3 = some r) : SpecW Try.prog 42 [.ptr 0 0] [(0, .row 25 [iS c0_Cap, .own 1 0 c1.length, bS c0_Closed, .own 2 0 c2.length, .own 3 0 c3.length]), (1, .row 3 (fl c1)), (2, .row 39 (fl c2)), (3, .row 39 (fl c3))] 4 (fun x h n => x = .agg [bS r.1, bS r.2.1, bS r.2.2.1, iS r.2.2.2.1, iS r.2.2.2.2.1, .own 4 0 r.2.2.2.2.2.1.length] ∧ h = [(0, .row 25 [iS r.2.2.2.2.2.2.1, .own 1 0 r.2.2.2.2.2.2.2.2.2.2.length, bS r.2.2.2.2.2.2.2.1, .own 5 0 r.2.2.2.2.2.2.2.2.1.length, .own 6 0 r.2.2.2.2.2.2.2.2.2.1.length]), (1, .row 3 (fl r.2.2.2.2.2.2.2.2.2.2)), (2, .dead), (3, .dead), (4, .row 64 (fl r.2.2.2.2.2.1)), (5, .row 39 (fl r.2.2.2.2.2.2.2.2.1)), (6, .row 39 (fl r.2.2.2.2.2.2.2.2.2.1))] ∧ n = 7) := by
  unfold pipe_Down at h
  refine spec_of (draw_ok _) Try.func42 rfl (by decide) rfl (by kernel_rfl) ?_
  refine seq_np ?_
  refine reg_f ?_
  refine rs 1 [] [] (by kernel_rfl) allP_nil ?_
  refine rf [(0, .ptr 0 0), (2, .ptr 4 0)] [(0, .row 25 [iS c0_Cap, .own 1 0 c1.length, bS c0_Closed, .own 2 0 c2.length, .own 3 0 c3.length]), (1, .row 3 (fl c1)), (2, .row 39 (fl c2)), (3, .row 39 (fl c3)), (4, .row 34 [bS false, bS false, bS false, iS 0, iS 0, .v (.slice none 0 0)])] 5 (by kernel_rfl) ?_
  refine wk_id ?_
  refine seq_np ?_
  refine seq_np ?_
  refine reg_f ?_
  refine rs 4 [] [] (by kernel_rfl) allP_nil ?_
  refine rf [(0, .ptr 0 0), (2, .ptr 4 0), (11, bS c0_Closed)] [(0, .row 25 [iS c0_Cap, .own 1 0 c1.length, bS c0_Closed, .own 2 0 c2.length, .own 3 0 c3.length]), (1, .row 3 (fl c1)), (2, .row 39 (fl c2)), (3, .row 39 (fl c3)), (4, .row 34 [bS false, bS false, bS false, iS 0, iS 0, .v (.slice none 0 0)])] 5 (by kernel_rfl) ?_
  refine wk_id ?_
  refine cond_sx h (by kernel_rfl) (fun g2180 h => ?_) (fun g2180 h => ?_)
  · refine seq_np ?_
    refine reg_f ?_
    refine rs 2 [] [] (by kernel_rfl) allP_nil ?_
    refine rf [(2, .ptr 4 0)] [(0, .row 25 [iS c0_Cap, .own 1 0 c1.length, bS c0_Closed, .own 2 0 c2.length, .own 3 0 c3.length]), (1, .row 3 (fl c1)), (2, .row 39 (fl c2)), (3, .row 39 (fl c3)), (4, .row 34 [bS true, bS true, bS false, iS 0, iS 0, .v (.slice none 0 0)])] 5 (by kernel_rfl) ?_
    refine wk_id ?_
    obtain rfl := Option.some.inj h
    refine ret_at (.agg [bS true, bS true, bS false, iS 0, iS 0, .v (.slice none 0 0)]) (by kernel_rfl) ?_
    exact ret_e [(0, 0), (1, 1), (5, 2), (6, 3)] [] (by simp only [push_cast, seval]) (by simp only [push_cast, seval]) rfl rfl rfl
  · refine wk_id ?_
    refine seq_np ?_
    refine reg_f ?_
    refine rs 3 [] [] (by kernel_rfl) allP_nil ?_
    refine rf [(0, .ptr 0 0), (2, .ptr 4 0), (3, .ptr 5 0)] [(0, .row 25 [iS c0_Cap, .own 1 0 c1.length, bS c0_Closed, .own 2 0 c2.length, .own 3 0 c3.length]), (1, .row 3 (fl c1)), (2, .row 39 (fl c2)), (3, .row 39 (fl c3)), (4, .row 34 [bS false, bS false, bS false, iS 0, iS 0, .v (.slice none 0 0)]), (5, .row 34 [bS true, bS false, bS false, iS 0, iS 0, .v (.slice none 0 0)])] 6 (by kernel_rfl) ?_
    refine wk_id ?_
    refine seq_np ?_
    refine seq_np ?_
    refine reg_f ?_
    refine rs 6 [] [] (by kernel_rfl) allP_nil ?_
    refine rf [(0, .ptr 0 0), (2, .ptr 4 0), (3, .ptr 5 0), (17, .own 3 0 c3.length), (18, iS ((c3.length : Nat) : Int)), (19, iS 0)] [(0, .row 25 [iS c0_Cap, .own 1 0 c1.length, bS c0_Closed, .own 2 0 c2.length, .own 3 0 c3.length]), (1, .row 3 (fl c1)), (2, .row 39 (fl c2)), (3, .row 39 (fl c3)), (4, .row 34 [bS false, bS false, bS false, iS 0, iS 0, .v (.slice none 0 0)]), (5, .row 34 [bS true, bS false, bS false, iS 0, iS 0, .v (.slice none 0 0)])] 6 (by kernel_rfl) ?_
    refine wk_id ?_
    refine block_np ?_
    refine loop_sx (S := Int × (List GWake)) (fun a => ([(0, .ptr 0 0), (2, .ptr 4 0), (3, .ptr 5 0), (17, .own 3 0 c3.length), (18, iS ((c3.length : Nat) : Int)), (19, iS a.1)], [(0, .row 25 [iS c0_Cap, .own 1 0 c1.length, bS c0_Closed, .own 2 0 c2.length, .own 3 0 c3.length]), (1, .row 3 (fl c1)), (2, .row 39 (fl c2)), (3, .row 39 (fl c3)), (4, .row 34 [bS false, bS false, bS false, iS 0, iS 0, .v (.slice none 0 0)]), (5, .row 34 [bS true, bS false, bS false, iS 0, iS 0, .own 6 0 a.2.length]), (6, .row 64 (fl a.2))], 7)) h (leSt_m [(0, 0), (1, 1), (2, 2), (3, 3), (4, 4), (5, 5)] [] (by simp only [push_cast, seval]) (by simp only [push_cast, seval]) rfl rfl rfl) ?_
    rintro ⟨t19q7, c6q10⟩ o3 R3 h hr3 hn3 hx3 ht3
    try dsimp only at h hn3 ⊢
    unfold pipe_Down_l2 at h
    try dsimp only at h
    refine seq_np ?_
    refine reg_f ?_
    refine rs 1 [] [] (by kernel_rfl) allP_nil ?_
    refine rf [(0, .ptr 0 0), (2, .ptr 4 0), (3, .ptr 5 0), (17, .own 3 0 c3.length), (18, iS ((c3.length : Nat) : Int)), (19, iS t19q7), (20, bS (decide (t19q7 < ((c3.length : Nat) : Int))))] [(0, .row 25 [iS c0_Cap, .own 1 0 c1.length, bS c0_Closed, .own 2 0 c2.length, .own 3 0 c3.length]), (1, .row 3 (fl c1)), (2, .row 39 (fl c2)), (3, .row 39 (fl c3)), (4, .row 34 [bS false, bS false, bS false, iS 0, iS 0, .v (.slice none 0 0)]), (5, .row 34 [bS true, bS false, bS false, iS 0, iS 0, .own 6 0 c6q10.length]), (6, .row 64 (fl c6q10))] 7 (by kernel_rfl) ?_
    refine wk_id ?_
    refine seq_np ?_
    refine cond_sx h (by kernel_rfl) (fun g2179 h => ?_) (fun g2179 h => ?_)
    · refine wk_id ?_
      refine seq_np ?_
      refine block_np ?_
      refine chk_sx h (fun g2113 h => ?_)
      refine seq_np ?_
      refine reg_f ?_
      have k2112 : 0 ≤ t19q7 ∧ t19q7 < ((c3.length : Nat) : Int) := by first | simpa only [Bool.and_eq_true, decide_eq_true_eq, bne_iff_ne, ne_eq] using g2113 | (simp at g2113 ⊢; omega)
      refine rs 4 [some ⟨.ptr 3 (0 + (t19q7).toNat * 3), [], 7, [3]⟩, some ⟨.agg (Enc.cells (ix c3 t19q7)), [], 7, [3]⟩] _ (by kernel_rfl) (allP_cons (ob_ldw c3 t19q7 3 (0 + (t19q7).toNat * 3) k2112 rfl (by first | rfl | omega) [iS (ix c3 t19q7).Task, iS (ix c3 t19q7).Case, iS (ix c3 t19q7).Value] rfl 7 [3]) (allP_cons (ob_ix_o 3 c3.length 0 3 7 t19q7 k2112) allP_nil)) ?_
      refine rf [(0, .ptr 0 0), (2, .ptr 4 0), (3, .ptr 5 0), (5, .ptr 7 0), (17, .own 3 0 c3.length), (18, iS ((c3.length : Nat) : Int)), (19, iS t19q7)] [(0, .row 25 [iS c0_Cap, .own 1 0 c1.length, bS c0_Closed, .own 2 0 c2.length, .own 3 0 c3.length]), (1, .row 3 (fl c1)), (2, .row 39 (fl c2)), (3, .row 39 (fl c3)), (4, .row 34 [bS false, bS false, bS false, iS 0, iS 0, .v (.slice none 0 0)]), (5, .row 34 [bS true, bS false, bS false, iS 0, iS 0, .own 6 0 c6q10.length]), (6, .row 64 (fl c6q10)), (7, .row 39 (Enc.cells (ix c3 t19q7)))] 8 (by kernel_rfl) ?_
      refine wk_id ?_
      refine chk_sx h (fun g2117 h => ?_)
      refine reg_f ?_
      have k2116 : (c6q10 ++ ([(GWake.mk (ix c3 t19q7).Task (ix c3 t19q7).Case 0 false false)] : List GWake)).length * 32 ≤ 140737488355328 := by first | simpa only [Bool.and_eq_true, decide_eq_true_eq, bne_iff_ne, ne_eq] using g2117 | (simp at g2117 ⊢; omega)
      refine rs 11 [none, none, none, none, none, none, none, none, some ⟨.own 9 0 (c6q10 ++ ([(GWake.mk (ix c3 t19q7).Task (ix c3 t19q7).Case 0 false false)] : List GWake)).length, [(9, .row 64 (fl (c6q10 ++ ([(GWake.mk (ix c3 t19q7).Task (ix c3 t19q7).Case 0 false false)] : List GWake)))), (6, .dead)], 10, [6, 8]⟩] _ (by kernel_rfl) (allP_cons (ob_app (P := Try.prog) c6q10 ([(GWake.mk (ix c3 t19q7).Task (ix c3 t19q7).Case 0 false false)] : List GWake) 5 32 rfl (appCells (fl ([(GWake.mk (ix c3 t19q7).Task (ix c3 t19q7).Case 0 false false)] : List GWake)) 0 (([(GWake.mk (ix c3 t19q7).Task (ix c3 t19q7).Case 0 false false)] : List GWake).length * 5)) ([(GWake.mk (ix c3 t19q7).Task (ix c3 t19q7).Case 0 false false)] : List GWake).length (app_own ([(GWake.mk (ix c3 t19q7).Task (ix c3 t19q7).Case 0 false false)] : List GWake) 5 rfl) rfl (0 + ([(GWake.mk (ix c3 t19q7).Task (ix c3 t19q7).Case 0 false false)] : List GWake).length * 5 ≤ (fl ([(GWake.mk (ix c3 t19q7).Task (ix c3 t19q7).Case 0 false false)] : List GWake)).length) (app_own_le ([(GWake.mk (ix c3 t19q7).Task (ix c3 t19q7).Case 0 false false)] : List GWake) 5 rfl) 64 (by kernel_rfl) (by decide) k2116 6 9 [8]) allP_nil) ?_
      refine rf [(0, .ptr 0 0), (2, .ptr 4 0), (3, .ptr 5 0), (17, .own 3 0 c3.length), (18, iS ((c3.length : Nat) : Int)), (19, iS t19q7)] [(0, .row 25 [iS c0_Cap, .own 1 0 c1.length, bS c0_Closed, .own 2 0 c2.length, .own 3 0 c3.length]), (1, .row 3 (fl c1)), (2, .row 39 (fl c2)), (3, .row 39 (fl c3)), (4, .row 34 [bS false, bS false, bS false, iS 0, iS 0, .v (.slice none 0 0)]), (5, .row 34 [bS true, bS false, bS false, iS 0, iS 0, .own 9 0 (c6q10 ++ ([(GWake.mk (ix c3 t19q7).Task (ix c3 t19q7).Case 0 false false)] : List GWake)).length]), (6, .dead), (7, .row 39 (Enc.cells (ix c3 t19q7))), (8, .row 64 (fl ([(GWake.mk (ix c3 t19q7).Task (ix c3 t19q7).Case 0 false false)] : List GWake))), (9, .row 64 (fl (c6q10 ++ ([(GWake.mk (ix c3 t19q7).Task (ix c3 t19q7).Case 0 false false)] : List GWake))))] 10 (by kernel_rfl) ?_
      refine wk_id ?_
      refine wk_id ?_
      refine reg_f ?_
      refine rs 2 [] [] (by kernel_rfl) allP_nil ?_
      refine rf [(0, .ptr 0 0), (2, .ptr 4 0), (3, .ptr 5 0), (17, .own 3 0 c3.length), (18, iS ((c3.length : Nat) : Int)), (19, iS (IntKind.i64.wrap (t19q7 + 1)))] [(0, .row 25 [iS c0_Cap, .own 1 0 c1.length, bS c0_Closed, .own 2 0 c2.length, .own 3 0 c3.length]), (1, .row 3 (fl c1)), (2, .row 39 (fl c2)), (3, .row 39 (fl c3)), (4, .row 34 [bS false, bS false, bS false, iS 0, iS 0, .v (.slice none 0 0)]), (5, .row 34 [bS true, bS false, bS false, iS 0, iS 0, .own 9 0 (c6q10 ++ ([(GWake.mk (ix c3 t19q7).Task (ix c3 t19q7).Case 0 false false)] : List GWake)).length]), (6, .dead), (7, .row 39 (Enc.cells (ix c3 t19q7))), (8, .row 64 (fl ([(GWake.mk (ix c3 t19q7).Task (ix c3 t19q7).Case 0 false false)] : List GWake))), (9, .row 64 (fl (c6q10 ++ ([(GWake.mk (ix c3 t19q7).Task (ix c3 t19q7).Case 0 false false)] : List GWake))))] 10 (by kernel_rfl) ?_
      exact hn3 ((IntKind.i64.wrap (t19q7 + 1)), (c6q10 ++ ([(GWake.mk (ix c3 t19q7).Task (ix c3 t19q7).Case 0 false false)] : List GWake))) _ _ _ (Option.some.inj h).symm (leSt_m [(0, 0), (1, 1), (2, 2), (3, 3), (4, 4), (5, 5), (6, 9)] [] (by simp only [push_cast, seval]) (by simp only [push_cast, seval]) rfl rfl rfl)
    · change R3 (.exit 0) _ _ _
      refine ex_cast hx3 (id := 0) ?_
      obtain ⟨r0, h, e0⟩ := map_sx h
      have e1 := hr3 r0 e0.symm
      subst r0
      refine wk_id ?_
      refine wk_id ?_
      refine seq_np ?_
      refine seq_np ?_
      refine reg_f ?_
      refine rs 6 [] [] (by kernel_rfl) allP_nil ?_
      refine rf [(0, .ptr 0 0), (2, .ptr 4 0), (3, .ptr 5 0), (37, .own 2 0 c2.length), (38, iS ((c2.length : Nat) : Int)), (39, iS 0)] [(0, .row 25 [iS c0_Cap, .own 1 0 c1.length, bS c0_Closed, .own 2 0 c2.length, .own 3 0 c3.length]), (1, .row 3 (fl c1)), (2, .row 39 (fl c2)), (3, .row 39 (fl c3)), (4, .row 34 [bS false, bS false, bS false, iS 0, iS 0, .v (.slice none 0 0)]), (5, .row 34 [bS true, bS false, bS false, iS 0, iS 0, .own 6 0 c6q10.length]), (6, .row 64 (fl c6q10))] 7 (by kernel_rfl) ?_
      refine wk_id ?_
      refine block_np ?_
      refine loop_sx (S := Int × (List GWake)) (fun a => ([(0, .ptr 0 0), (2, .ptr 4 0), (3, .ptr 5 0), (37, .own 2 0 c2.length), (38, iS ((c2.length : Nat) : Int)), (39, iS a.1)], [(0, .row 25 [iS c0_Cap, .own 1 0 c1.length, bS c0_Closed, .own 2 0 c2.length, .own 3 0 c3.length]), (1, .row 3 (fl c1)), (2, .row 39 (fl c2)), (3, .row 39 (fl c3)), (4, .row 34 [bS false, bS false, bS false, iS 0, iS 0, .v (.slice none 0 0)]), (5, .row 34 [bS true, bS false, bS false, iS 0, iS 0, .own 6 0 a.2.length]), (6, .row 64 (fl a.2))], 7)) h (leSt_m [(0, 0), (1, 1), (2, 2), (3, 3), (4, 4), (5, 5), (6, 6)] [] (by simp only [push_cast, seval]) (by simp only [push_cast, seval]) rfl rfl rfl) ?_
      rintro ⟨t39q7, c6q16⟩ o4 R4 h hr4 hn4 hx4 ht4
      try dsimp only at h hn4 ⊢
      unfold pipe_Down_l1 at h
      try dsimp only at h
      refine seq_np ?_
      refine reg_f ?_
      refine rs 1 [] [] (by kernel_rfl) allP_nil ?_
      refine rf [(0, .ptr 0 0), (2, .ptr 4 0), (3, .ptr 5 0), (37, .own 2 0 c2.length), (38, iS ((c2.length : Nat) : Int)), (39, iS t39q7), (40, bS (decide (t39q7 < ((c2.length : Nat) : Int))))] [(0, .row 25 [iS c0_Cap, .own 1 0 c1.length, bS c0_Closed, .own 2 0 c2.length, .own 3 0 c3.length]), (1, .row 3 (fl c1)), (2, .row 39 (fl c2)), (3, .row 39 (fl c3)), (4, .row 34 [bS false, bS false, bS false, iS 0, iS 0, .v (.slice none 0 0)]), (5, .row 34 [bS true, bS false, bS false, iS 0, iS 0, .own 6 0 c6q16.length]), (6, .row 64 (fl c6q16))] 7 (by kernel_rfl) ?_
      refine wk_id ?_
      refine seq_np ?_
      refine cond_sx h (by kernel_rfl) (fun g2178 h => ?_) (fun g2178 h => ?_)
      · refine wk_id ?_
        refine seq_np ?_
        refine block_np ?_
        refine chk_sx h (fun g2173 h => ?_)
        refine seq_np ?_
        refine reg_f ?_
        have k2172 : 0 ≤ t39q7 ∧ t39q7 < ((c2.length : Nat) : Int) := by first | simpa only [Bool.and_eq_true, decide_eq_true_eq, bne_iff_ne, ne_eq] using g2173 | (simp at g2173 ⊢; omega)
        refine rs 4 [some ⟨.ptr 2 (0 + (t39q7).toNat * 3), [], 7, [2]⟩, some ⟨.agg (Enc.cells (ix c2 t39q7)), [], 7, [2]⟩] _ (by kernel_rfl) (allP_cons (ob_ldw c2 t39q7 3 (0 + (t39q7).toNat * 3) k2172 rfl (by first | rfl | omega) [iS (ix c2 t39q7).Task, iS (ix c2 t39q7).Case, iS (ix c2 t39q7).Value] rfl 7 [2]) (allP_cons (ob_ix_o 2 c2.length 0 3 7 t39q7 k2172) allP_nil)) ?_
        refine rf [(0, .ptr 0 0), (2, .ptr 4 0), (3, .ptr 5 0), (7, .ptr 7 0), (37, .own 2 0 c2.length), (38, iS ((c2.length : Nat) : Int)), (39, iS t39q7)] [(0, .row 25 [iS c0_Cap, .own 1 0 c1.length, bS c0_Closed, .own 2 0 c2.length, .own 3 0 c3.length]), (1, .row 3 (fl c1)), (2, .row 39 (fl c2)), (3, .row 39 (fl c3)), (4, .row 34 [bS false, bS false, bS false, iS 0, iS 0, .v (.slice none 0 0)]), (5, .row 34 [bS true, bS false, bS false, iS 0, iS 0, .own 6 0 c6q16.length]), (6, .row 64 (fl c6q16)), (7, .row 39 (Enc.cells (ix c2 t39q7)))] 8 (by kernel_rfl) ?_
        refine wk_id ?_
        refine chk_sx h (fun g2177 h => ?_)
        refine reg_f ?_
        have k2176 : (c6q16 ++ ([(GWake.mk (ix c2 t39q7).Task (ix c2 t39q7).Case 0 false true)] : List GWake)).length * 32 ≤ 140737488355328 := by first | simpa only [Bool.and_eq_true, decide_eq_true_eq, bne_iff_ne, ne_eq] using g2177 | (simp at g2177 ⊢; omega)
        refine rs 11 [none, none, none, none, none, none, none, none, some ⟨.own 9 0 (c6q16 ++ ([(GWake.mk (ix c2 t39q7).Task (ix c2 t39q7).Case 0 false true)] : List GWake)).length, [(9, .row 64 (fl (c6q16 ++ ([(GWake.mk (ix c2 t39q7).Task (ix c2 t39q7).Case 0 false true)] : List GWake)))), (6, .dead)], 10, [6, 8]⟩] _ (by kernel_rfl) (allP_cons (ob_app (P := Try.prog) c6q16 ([(GWake.mk (ix c2 t39q7).Task (ix c2 t39q7).Case 0 false true)] : List GWake) 5 32 rfl (appCells (fl ([(GWake.mk (ix c2 t39q7).Task (ix c2 t39q7).Case 0 false true)] : List GWake)) 0 (([(GWake.mk (ix c2 t39q7).Task (ix c2 t39q7).Case 0 false true)] : List GWake).length * 5)) ([(GWake.mk (ix c2 t39q7).Task (ix c2 t39q7).Case 0 false true)] : List GWake).length (app_own ([(GWake.mk (ix c2 t39q7).Task (ix c2 t39q7).Case 0 false true)] : List GWake) 5 rfl) rfl (0 + ([(GWake.mk (ix c2 t39q7).Task (ix c2 t39q7).Case 0 false true)] : List GWake).length * 5 ≤ (fl ([(GWake.mk (ix c2 t39q7).Task (ix c2 t39q7).Case 0 false true)] : List GWake)).length) (app_own_le ([(GWake.mk (ix c2 t39q7).Task (ix c2 t39q7).Case 0 false true)] : List GWake) 5 rfl) 64 (by kernel_rfl) (by decide) k2176 6 9 [8]) allP_nil) ?_
        refine rf [(0, .ptr 0 0), (2, .ptr 4 0), (3, .ptr 5 0), (37, .own 2 0 c2.length), (38, iS ((c2.length : Nat) : Int)), (39, iS t39q7)] [(0, .row 25 [iS c0_Cap, .own 1 0 c1.length, bS c0_Closed, .own 2 0 c2.length, .own 3 0 c3.length]), (1, .row 3 (fl c1)), (2, .row 39 (fl c2)), (3, .row 39 (fl c3)), (4, .row 34 [bS false, bS false, bS false, iS 0, iS 0, .v (.slice none 0 0)]), (5, .row 34 [bS true, bS false, bS false, iS 0, iS 0, .own 9 0 (c6q16 ++ ([(GWake.mk (ix c2 t39q7).Task (ix c2 t39q7).Case 0 false true)] : List GWake)).length]), (6, .dead), (7, .row 39 (Enc.cells (ix c2 t39q7))), (8, .row 64 (fl ([(GWake.mk (ix c2 t39q7).Task (ix c2 t39q7).Case 0 false true)] : List GWake))), (9, .row 64 (fl (c6q16 ++ ([(GWake.mk (ix c2 t39q7).Task (ix c2 t39q7).Case 0 false true)] : List GWake))))] 10 (by kernel_rfl) ?_
        refine wk_id ?_
        refine wk_id ?_
        refine reg_f ?_
        refine rs 2 [] [] (by kernel_rfl) allP_nil ?_
        refine rf [(0, .ptr 0 0), (2, .ptr 4 0), (3, .ptr 5 0), (37, .own 2 0 c2.length), (38, iS ((c2.length : Nat) : Int)), (39, iS (IntKind.i64.wrap (t39q7 + 1)))] [(0, .row 25 [iS c0_Cap, .own 1 0 c1.length, bS c0_Closed, .own 2 0 c2.length, .own 3 0 c3.length]), (1, .row 3 (fl c1)), (2, .row 39 (fl c2)), (3, .row 39 (fl c3)), (4, .row 34 [bS false, bS false, bS false, iS 0, iS 0, .v (.slice none 0 0)]), (5, .row 34 [bS true, bS false, bS false, iS 0, iS 0, .own 9 0 (c6q16 ++ ([(GWake.mk (ix c2 t39q7).Task (ix c2 t39q7).Case 0 false true)] : List GWake)).length]), (6, .dead), (7, .row 39 (Enc.cells (ix c2 t39q7))), (8, .row 64 (fl ([(GWake.mk (ix c2 t39q7).Task (ix c2 t39q7).Case 0 false true)] : List GWake))), (9, .row 64 (fl (c6q16 ++ ([(GWake.mk (ix c2 t39q7).Task (ix c2 t39q7).Case 0 false true)] : List GWake))))] 10 (by kernel_rfl) ?_
        exact hn4 ((IntKind.i64.wrap (t39q7 + 1)), (c6q16 ++ ([(GWake.mk (ix c2 t39q7).Task (ix c2 t39q7).Case 0 false true)] : List GWake))) _ _ _ (Option.some.inj h).symm (leSt_m [(0, 0), (1, 1), (2, 2), (3, 3), (4, 4), (5, 5), (6, 9)] [] (by simp only [push_cast, seval]) (by simp only [push_cast, seval]) rfl rfl rfl)
      · change R4 (.exit 2) _ _ _
        refine ex_cast hx4 (id := 2) ?_
        obtain ⟨r0, h, e0⟩ := map_sx h
        have e1 := hr4 r0 e0.symm
        subst r0
        refine wk_id ?_
        refine wk_id ?_
        refine seq_np ?_
        refine reg_f ?_
        refine rs 12 [] [] (by kernel_rfl) allP_nil ?_
        refine rf [(2, .ptr 4 0), (3, .ptr 5 0)] [(0, .row 25 [iS c0_Cap, .own 1 0 c1.length, bS true, .v (.slice none 0 0), .v (.slice none 0 0)]), (1, .row 3 (fl c1)), (2, .row 39 (fl c2)), (3, .row 39 (fl c3)), (4, .row 34 [bS false, bS false, bS false, iS 0, iS 0, .v (.slice none 0 0)]), (5, .row 34 [bS true, bS false, bS false, iS 0, iS 0, .own 6 0 c6q16.length]), (6, .row 64 (fl c6q16))] 7 (by kernel_rfl) ?_
        refine wk_id ?_
        refine seq_np ?_
        refine reg_f ?_
        refine rs 2 [] [] (by kernel_rfl) allP_nil ?_
        refine rf [(2, .ptr 4 0)] [(0, .row 25 [iS c0_Cap, .own 1 0 c1.length, bS true, .v (.slice none 0 0), .v (.slice none 0 0)]), (1, .row 3 (fl c1)), (2, .row 39 (fl c2)), (3, .row 39 (fl c3)), (4, .row 34 [bS true, bS false, bS false, iS 0, iS 0, .own 6 0 c6q16.length]), (5, .row 34 [bS true, bS false, bS false, iS 0, iS 0, .own 6 0 c6q16.length]), (6, .row 64 (fl c6q16))] 7 (by kernel_rfl) ?_
        refine wk_id ?_
        obtain rfl := Option.some.inj h
        refine ret_at (.agg [bS true, bS false, bS false, iS 0, iS 0, .own 6 0 c6q16.length]) (by kernel_rfl) ?_
        exact ret_e [(0, 0), (1, 1), (4, 6)] [] (by simp only [push_cast, seval]) (by simp only [push_cast, seval]) rfl rfl rfl

set_option maxRecDepth 100000 in
set_option maxHeartbeats 200000000 in
theorem pipe_Shut_spec (p : Pipe) (r : Int × Bool × Bool × Bool × Bool × Int × Int × Fault × (List Int) × (List GPost) × (List GPost) × (List GWake)) (h : pipe_Shut p = some r) : SpecW Try.prog 26 [.agg (Enc.cells p)] [] 0 (fun x h n => x = .tup [.agg [iS r.1, .own 0 0 r.2.2.2.2.2.2.2.2.1.length, bS r.2.1, .own 1 0 r.2.2.2.2.2.2.2.2.2.1.length, .own 2 0 r.2.2.2.2.2.2.2.2.2.2.1.length], .agg [bS r.2.2.1, bS r.2.2.2.1, bS r.2.2.2.2.1, iS r.2.2.2.2.2.1, iS r.2.2.2.2.2.2.1, .own 3 0 r.2.2.2.2.2.2.2.2.2.2.2.length], .agg (Enc.cells r.2.2.2.2.2.2.2.1)] ∧ h = [(0, .row 3 (fl r.2.2.2.2.2.2.2.2.1)), (1, .row 39 (fl r.2.2.2.2.2.2.2.2.2.1)), (2, .row 39 (fl r.2.2.2.2.2.2.2.2.2.2.1)), (3, .row 64 (fl r.2.2.2.2.2.2.2.2.2.2.2))] ∧ n = 4) := by
  unfold pipe_Shut at h
  refine spec_of (draw_ok _) Try.func26 rfl (by decide) rfl (by kernel_rfl) ?_
  refine seq_np ?_
  refine reg_f ?_
  refine rs 4 [] [] (by kernel_rfl) allP_nil ?_
  refine rf [(1, .ptr 0 0), (2, .ptr 1 0), (3, .ptr 2 0), (4, .ptr 3 0)] [(0, .row 25 (Enc.cells p)), (1, .row 25 [iS 0, .v (.slice none 0 0), bS false, .v (.slice none 0 0), .v (.slice none 0 0)]), (2, .row 34 [bS false, bS false, bS false, iS 0, iS 0, .v (.slice none 0 0)]), (3, .row 30 [iS 0, iS 0])] 4 (by kernel_rfl) ?_
  refine wk_id ?_
  refine seq_np ?_
  refine seq_np ?_
  refine reg_f ?_
  refine rs 1 [] [] (by kernel_rfl) allP_nil ?_
  obtain ⟨r2186, hr2186, h⟩ := bind_sx h
  refine run_call 13 [.agg (Enc.cells p)] (some 9) (by kernel_rfl) ?_
  refine call_0 (pipe_Check_spec p r2186 hr2186) (by simp only [push_cast, seval]) (by simp only [push_cast, seval]) ?_
  refine back_f ?_
  refine rs 2 [] [] (by kernel_rfl) allP_nil ?_
  refine rf [(1, .ptr 0 0), (2, .ptr 1 0), (3, .ptr 2 0), (4, .ptr 3 0), (5, .ptr 4 0)] [(0, .row 25 (Enc.cells p)), (1, .row 25 [iS 0, .v (.slice none 0 0), bS false, .v (.slice none 0 0), .v (.slice none 0 0)]), (2, .row 34 [bS false, bS false, bS false, iS 0, iS 0, .v (.slice none 0 0)]), (3, .row 30 [iS 0, iS 0]), (4, .row 30 (Enc.cells r2186))] 5 (by kernel_rfl) ?_
  refine wk_id ?_
  refine seq_np ?_
  refine reg_f ?_
  refine rs 3 [] [] (by kernel_rfl) allP_nil ?_
  refine rf [(1, .ptr 0 0), (2, .ptr 1 0), (3, .ptr 2 0), (4, .ptr 3 0), (5, .ptr 4 0), (12, bS (r2186.Code != 0))] [(0, .row 25 (Enc.cells p)), (1, .row 25 [iS 0, .v (.slice none 0 0), bS false, .v (.slice none 0 0), .v (.slice none 0 0)]), (2, .row 34 [bS false, bS false, bS false, iS 0, iS 0, .v (.slice none 0 0)]), (3, .row 30 [iS 0, iS 0]), (4, .row 30 (Enc.cells r2186))] 5 (by kernel_rfl) ?_
  refine wk_id ?_
  refine cond_sx h (by kernel_rfl) (fun g2193 h => ?_) (fun g2193 h => ?_)
  · refine seq_np ?_
    refine reg_t ?_
    refine rs 6 [] [] (by kernel_rfl) allP_nil ?_
    refine rt [(2, .ptr 1 0), (3, .ptr 2 0), (4, .ptr 3 0)] [(0, .row 25 (Enc.cells p)), (1, .row 25 [iS 0, .v (.slice none 0 0), bS false, .v (.slice none 0 0), .v (.slice none 0 0)]), (2, .row 34 [bS false, bS false, bS false, iS 0, iS 0, .v (.slice none 0 0)]), (3, .row 30 (Enc.cells r2186)), (4, .row 30 (Enc.cells r2186))] 11 follows (by kernel_rfl) ?_
    refine wk_id ?_
    obtain rfl := Option.some.inj h
    refine ret_at (.tup [.agg [iS 0, .v (.slice none 0 0), bS false, .v (.slice none 0 0), .v (.slice none 0 0)], .agg [bS false, bS false, bS false, iS 0, iS 0, .v (.slice none 0 0)], .agg (Enc.cells r2186)]) (by kernel_rfl) ?_
    exact ret_e [] [] (by simp only [push_cast, seval]) (by simp only [push_cast, seval]) rfl rfl rfl
  · refine wk_id ?_
    refine seq_np ?_
    refine reg_f ?_
    refine rs 1 [] [] (by kernel_rfl) allP_nil ?_
    obtain ⟨r2188, hr2188, h⟩ := bind_sx h
    refine call_x (pipe_Copy_spec p r2188 hr2188) (args := [.agg (Enc.cells p)]) (dst := (some 17)) (by kernel_rfl) [(0, .row 25 (Enc.cells p)), (1, .row 25 [iS 0, .v (.slice none 0 0), bS false, .v (.slice none 0 0), .v (.slice none 0 0)]), (2, .row 34 [bS false, bS false, bS false, iS 0, iS 0, .v (.slice none 0 0)]), (3, .row 30 [iS 0, iS 0]), (4, .row 30 (Enc.cells r2186))] 5 (by kernel_rfl) [] [] (.agg [iS r2188.1, .own 5 0 r2188.2.2.1.length, bS r2188.2.1, .own 6 0 r2188.2.2.2.1.length, .own 7 0 r2188.2.2.2.2.length]) [(5, .row 3 (fl r2188.2.2.1)), (6, .row 39 (fl r2188.2.2.2.1)), (7, .row 39 (fl r2188.2.2.2.2))] (by simp only [push_cast, seval]) (by simp only [push_cast, seval]) (by kernel_rfl) (.inl rfl) (by simp only [push_cast, seval]) (by simp only [push_cast, seval]) ?_
    refine rs 2 [] [] (by kernel_rfl) allP_nil ?_
    refine rf [(2, .ptr 1 0), (3, .ptr 2 0), (4, .ptr 3 0), (6, .ptr 8 0)] [(0, .row 25 (Enc.cells p)), (1, .row 25 [iS 0, .v (.slice none 0 0), bS false, .v (.slice none 0 0), .v (.slice none 0 0)]), (2, .row 34 [bS false, bS false, bS false, iS 0, iS 0, .v (.slice none 0 0)]), (3, .row 30 [iS 0, iS 0]), (4, .row 30 (Enc.cells r2186)), (5, .row 3 (fl r2188.2.2.1)), (6, .row 39 (fl r2188.2.2.2.1)), (7, .row 39 (fl r2188.2.2.2.2)), (8, .row 25 [iS r2188.1, .own 5 0 r2188.2.2.1.length, bS r2188.2.1, .own 6 0 r2188.2.2.2.1.length, .own 7 0 r2188.2.2.2.2.length])] 9 (by kernel_rfl) ?_
    refine wk_id ?_
    refine seq_np ?_
    refine reg_f ?_
    obtain ⟨r2191, hr2191, h⟩ := bind_sx h
    refine call_x (pipe_Down_spec r2188.1 r2188.2.1 r2188.2.2.1 r2188.2.2.2.1 r2188.2.2.2.2 r2191 hr2191) (args := [.ptr 8 0]) (dst := (some 18)) (by kernel_rfl) [(0, .row 25 (Enc.cells p)), (1, .row 25 [iS 0, .v (.slice none 0 0), bS false, .v (.slice none 0 0), .v (.slice none 0 0)]), (2, .row 34 [bS false, bS false, bS false, iS 0, iS 0, .v (.slice none 0 0)]), (3, .row 30 [iS 0, iS 0]), (4, .row 30 (Enc.cells r2186)), (5, .row 3 (fl r2188.2.2.1)), (6, .row 39 (fl r2188.2.2.2.1)), (7, .row 39 (fl r2188.2.2.2.2)), (8, .row 25 [iS r2188.1, .own 5 0 r2188.2.2.1.length, bS r2188.2.1, .own 6 0 r2188.2.2.2.1.length, .own 7 0 r2188.2.2.2.2.length])] 9 (by kernel_rfl) [(0, 8), (1, 5), (2, 6), (3, 7)] [] (.agg [bS r2191.1, bS r2191.2.1, bS r2191.2.2.1, iS r2191.2.2.2.1, iS r2191.2.2.2.2.1, .own 13 0 r2191.2.2.2.2.2.1.length]) [(8, .row 25 [iS r2191.2.2.2.2.2.2.1, .own 5 0 r2191.2.2.2.2.2.2.2.2.2.2.length, bS r2191.2.2.2.2.2.2.2.1, .own 14 0 r2191.2.2.2.2.2.2.2.2.1.length, .own 15 0 r2191.2.2.2.2.2.2.2.2.2.1.length]), (5, .row 3 (fl r2191.2.2.2.2.2.2.2.2.2.2)), (6, .dead), (7, .dead), (13, .row 64 (fl r2191.2.2.2.2.2.1)), (14, .row 39 (fl r2191.2.2.2.2.2.2.2.2.1)), (15, .row 39 (fl r2191.2.2.2.2.2.2.2.2.2.1)), (8, .dead), (5, .dead), (6, .dead), (7, .dead)] (by simp only [push_cast, seval]) (by simp only [push_cast, seval]) (by kernel_rfl) (.inl rfl) (by simp only [push_cast, seval]) (by simp only [push_cast, seval]) ?_
    refine rs 2 [] [] (by kernel_rfl) allP_nil ?_
    refine rf [(2, .ptr 1 0), (3, .ptr 2 0), (4, .ptr 3 0), (6, .ptr 8 0), (7, .ptr 16 0)] [(0, .row 25 (Enc.cells p)), (1, .row 25 [iS 0, .v (.slice none 0 0), bS false, .v (.slice none 0 0), .v (.slice none 0 0)]), (2, .row 34 [bS false, bS false, bS false, iS 0, iS 0, .v (.slice none 0 0)]), (3, .row 30 [iS 0, iS 0]), (4, .row 30 (Enc.cells r2186)), (5, .row 3 (fl r2191.2.2.2.2.2.2.2.2.2.2)), (6, .dead), (7, .dead), (8, .row 25 [iS r2191.2.2.2.2.2.2.1, .own 5 0 r2191.2.2.2.2.2.2.2.2.2.2.length, bS r2191.2.2.2.2.2.2.2.1, .own 14 0 r2191.2.2.2.2.2.2.2.2.1.length, .own 15 0 r2191.2.2.2.2.2.2.2.2.2.1.length]), (13, .row 64 (fl r2191.2.2.2.2.2.1)), (14, .row 39 (fl r2191.2.2.2.2.2.2.2.2.1)), (15, .row 39 (fl r2191.2.2.2.2.2.2.2.2.2.1)), (16, .row 34 [bS r2191.1, bS r2191.2.1, bS r2191.2.2.1, iS r2191.2.2.2.1, iS r2191.2.2.2.2.1, .own 13 0 r2191.2.2.2.2.2.1.length])] 17 (by kernel_rfl) ?_
    refine wk_id ?_
    refine seq_np ?_
    refine reg_t ?_
    refine rs 6 [] [] (by kernel_rfl) allP_nil ?_
    refine rt [(2, .ptr 1 0), (3, .ptr 2 0), (4, .ptr 3 0)] [(0, .row 25 (Enc.cells p)), (1, .row 25 [iS r2191.2.2.2.2.2.2.1, .own 5 0 r2191.2.2.2.2.2.2.2.2.2.2.length, bS r2191.2.2.2.2.2.2.2.1, .own 14 0 r2191.2.2.2.2.2.2.2.2.1.length, .own 15 0 r2191.2.2.2.2.2.2.2.2.2.1.length]), (2, .row 34 [bS r2191.1, bS r2191.2.1, bS r2191.2.2.1, iS r2191.2.2.2.1, iS r2191.2.2.2.2.1, .own 13 0 r2191.2.2.2.2.2.1.length]), (3, .row 30 [iS 0, iS 0]), (4, .row 30 (Enc.cells r2186)), (5, .row 3 (fl r2191.2.2.2.2.2.2.2.2.2.2)), (6, .dead), (7, .dead), (8, .row 25 [iS r2191.2.2.2.2.2.2.1, .own 5 0 r2191.2.2.2.2.2.2.2.2.2.2.length, bS r2191.2.2.2.2.2.2.2.1, .own 14 0 r2191.2.2.2.2.2.2.2.2.1.length, .own 15 0 r2191.2.2.2.2.2.2.2.2.2.1.length]), (13, .row 64 (fl r2191.2.2.2.2.2.1)), (14, .row 39 (fl r2191.2.2.2.2.2.2.2.2.1)), (15, .row 39 (fl r2191.2.2.2.2.2.2.2.2.2.1)), (16, .row 34 [bS r2191.1, bS r2191.2.1, bS r2191.2.2.1, iS r2191.2.2.2.1, iS r2191.2.2.2.2.1, .own 13 0 r2191.2.2.2.2.2.1.length])] 23 follows (by kernel_rfl) ?_
    refine wk_id ?_
    obtain rfl := Option.some.inj h
    refine ret_at (.tup [.agg [iS r2191.2.2.2.2.2.2.1, .own 5 0 r2191.2.2.2.2.2.2.2.2.2.2.length, bS r2191.2.2.2.2.2.2.2.1, .own 14 0 r2191.2.2.2.2.2.2.2.2.1.length, .own 15 0 r2191.2.2.2.2.2.2.2.2.2.1.length], .agg [bS r2191.1, bS r2191.2.1, bS r2191.2.2.1, iS r2191.2.2.2.1, iS r2191.2.2.2.2.1, .own 13 0 r2191.2.2.2.2.2.1.length], .agg [iS 0, iS 0]]) (by kernel_rfl) ?_
    exact ret_e [(0, 5), (1, 14), (2, 15), (3, 13)] [] (by simp only [push_cast, seval]) (by simp only [push_cast, seval]) rfl rfl rfl

end Go.Proofs.Ytconaimaibephaa
