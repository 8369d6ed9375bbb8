/-
  What laws of the chapter lock compute, and lemmas on it.
  No conditions.
-/
import Derived.Test.YthknjjkldflbaaaProg
import Derived.Test.YthknjjkldflbaaalockG
set_option linter.unusedSimpArgs false
set_option linter.unusedVariables false
namespace Go.Proofs.Ythknjjkldflbaaa
open Go Go.Sx
attribute [local irreducible] Wk RunAt
theorem follows : Try.prog.follows .mixedOrders = true := by kernel_rfl

set_option maxRecDepth 100000 in
set_option maxHeartbeats 10000000 in
theorem lock_fault_spec (code : Int) (xat : Int) (r : Fault) (h : lock_fault code xat = some r) : SpecW Try.prog 29 [iS code, iS xat] [] 0 (fun x h n => x = .agg (Enc.cells r) ∧ h = [] ∧ n = 0) := by
  unfold lock_fault at h
  refine spec_of (draw_ok _) Try.func29 rfl (by decide) rfl (by kernel_rfl) ?_
  refine seq_np ?_
  refine reg_f ?_
  refine rs 1 [] [] (by kernel_rfl) allP_nil ?_
  refine rf [(0, iS code), (1, iS xat), (4, .ptr 0 0)] [(0, .row 28 [iS 0, iS 0])] 1 (by kernel_rfl) ?_
  refine wk_id ?_
  refine seq_np ?_
  refine reg_f ?_
  refine rs 4 [] [] (by kernel_rfl) allP_nil ?_
  refine rf [(4, .ptr 0 0)] [(0, .row 28 [iS code, iS xat])] 1 (by kernel_rfl) ?_
  refine wk_id ?_
  obtain rfl := Option.some.inj h
  refine ret_at (.agg [iS code, iS xat]) (by kernel_rfl) ?_
  exact ret_e [] [] (by simp only [push_cast, seval]) (by simp only [push_cast, seval]) rfl rfl rfl

set_option maxRecDepth 100000 in
set_option maxHeartbeats 10000000 in
theorem lock_Check_spec (l : Lock) (r : Fault) (h : lock_Check l = some r) : SpecW Try.prog 20 [.agg (Enc.cells l)] [] 0 (fun x h n => x = .agg (Enc.cells r) ∧ h = [] ∧ n = 0) := by
  unfold lock_Check at h
  refine spec_of (draw_ok _) Try.func20 rfl (by decide) rfl (by kernel_rfl) ?_
  refine seq_np ?_
  refine reg_f ?_
  refine rs 2 [] [] (by kernel_rfl) allP_nil ?_
  refine rf [(1, .ptr 0 0), (2, .ptr 1 0)] [(0, .row 24 (Enc.cells l)), (1, .row 28 [iS 0, iS 0])] 2 (by kernel_rfl) ?_
  refine wk_id ?_
  refine seq_np ?_
  refine seq_np ?_
  refine reg_f ?_
  refine rs 4 [] [] (by kernel_rfl) allP_nil ?_
  refine rf [(1, .ptr 0 0), (2, .ptr 1 0), (9, bS (decide ((5000 : Int) < ((l.Line.length : Nat) : Int))))] [(0, .row 24 (Enc.cells l)), (1, .row 28 [iS 0, iS 0])] 2 (by kernel_rfl) ?_
  refine wk_id ?_
  refine cond_sx h (by kernel_rfl) (fun g215 h => ?_) (fun g215 h => ?_)
  · refine seq_np ?_
    refine reg_f ?_
    obtain ⟨r51, hr51, h⟩ := bind_sx h
    refine run_call 29 [iS 2, iS 0] (some 10) (by kernel_rfl) ?_
    refine call_0 (lock_fault_spec 2 0 r51 hr51) (by simp only [push_cast, seval]) (by simp only [push_cast, seval]) ?_
    refine back_f ?_
    refine rs 1 [] [] (by kernel_rfl) allP_nil ?_
    refine rf [(2, .ptr 1 0)] [(0, .row 24 (Enc.cells l)), (1, .row 28 (Enc.cells r51))] 2 (by kernel_rfl) ?_
    refine wk_id ?_
    obtain rfl := Option.some.inj h
    refine ret_at (.agg (Enc.cells r51)) (by kernel_rfl) ?_
    exact ret_e [] [] (by simp only [push_cast, seval]) (by simp only [push_cast, seval]) rfl rfl rfl
  · refine wk_id ?_
    refine seq_np ?_
    refine seq_cut (A := Unit) (fun _ => ([(1, .ptr 0 0), (2, .ptr 1 0), (18, bS ((decide (l.Readers < 0)) || (decide ((1000000000 : Int) < l.Readers))))], [(0, .row 24 (Enc.cells l)), (1, .row 28 [iS 0, iS 0])], 2)) (fun _ => True) (fun K56 hK56 => ?_) (fun _ _ => ?_)
    · refine reg_f ?_
      refine rs 4 [] [] (by kernel_rfl) allP_nil ?_
      refine run_split 14 (decide (l.Readers < 0)) (.inl (by kernel_rfl)) (fun g57 => ?_) (fun g57 => ?_)
      · refine rs 4 [] [] (by kernel_rfl) allP_nil ?_
        refine rf [(1, .ptr 0 0), (2, .ptr 1 0), (18, bS true)] [(0, .row 24 (Enc.cells l)), (1, .row 28 [iS 0, iS 0])] 2 (by kernel_rfl) ?_
        exact hK56 () _ _ _ trivial (leSt_m [(0, 0), (1, 1)] [] (by (try simp only [g57]) <;> simp only [push_cast, seval]) (by (try simp only [g57]) <;> simp only [push_cast, seval]) rfl rfl rfl)
      · refine rs 4 [] [] (by kernel_rfl) allP_nil ?_
        refine rf [(1, .ptr 0 0), (2, .ptr 1 0), (18, bS (decide ((1000000000 : Int) < l.Readers)))] [(0, .row 24 (Enc.cells l)), (1, .row 28 [iS 0, iS 0])] 2 (by kernel_rfl) ?_
        exact hK56 () _ _ _ trivial (leSt_m [(0, 0), (1, 1)] [] (by (try simp only [g57]) <;> simp only [push_cast, seval]) (by (try simp only [g57]) <;> simp only [push_cast, seval]) rfl rfl rfl)
    · dsimp only
      refine cond_sx h (by kernel_rfl) (fun g214 h => ?_) (fun g214 h => ?_)
      · refine seq_np ?_
        refine reg_f ?_
        obtain ⟨r59, hr59, h⟩ := bind_sx h
        refine run_call 29 [iS 3, iS 0] (some 19) (by kernel_rfl) ?_
        refine call_0 (lock_fault_spec 3 0 r59 hr59) (by simp only [push_cast, seval]) (by simp only [push_cast, seval]) ?_
        refine back_f ?_
        refine rs 1 [] [] (by kernel_rfl) allP_nil ?_
        refine rf [(2, .ptr 1 0)] [(0, .row 24 (Enc.cells l)), (1, .row 28 (Enc.cells r59))] 2 (by kernel_rfl) ?_
        refine wk_id ?_
        obtain rfl := Option.some.inj h
        refine ret_at (.agg (Enc.cells r59)) (by kernel_rfl) ?_
        exact ret_e [] [] (by simp only [push_cast, seval]) (by simp only [push_cast, seval]) rfl rfl rfl
      · refine wk_id ?_
        refine seq_np ?_
        refine chk_sx h (fun g93 h => ?_)
        refine chk_sx h (fun g98 h => ?_)
        refine seq_cut (A := Unit) (fun _ => ([(1, .ptr 0 0), (2, .ptr 1 0), (50, bS (bif l.Writer then ((decide ((0 : Int) < l.Readers)) || ((decide ((0 : Int) < ((l.Line.length : Nat) : Int))) && ((!l.Writer) && ((l.Readers == 0) || (!(ix l.Line (0 : Int)).Write))))) else ((decide ((0 : Int) < ((l.Line.length : Nat) : Int))) && ((!l.Writer) && ((l.Readers == 0) || (!(ix l.Line (0 : Int)).Write))))))], [(0, .row 24 (Enc.cells l)), (1, .row 28 [iS 0, iS 0])], 2)) (fun _ => True) (fun K86 hK86 => ?_) (fun _ _ => ?_)
        · refine reg_f ?_
          refine rs 3 [] [] (by kernel_rfl) allP_nil ?_
          refine run_split 22 l.Writer (.inl (by kernel_rfl)) (fun g87 => ?_) (fun g87 => ?_)
          · refine rs 5 [] [] (by kernel_rfl) allP_nil ?_
            refine run_split 27 (decide ((0 : Int) < l.Readers)) (.inl (by kernel_rfl)) (fun g88 => ?_) (fun g88 => ?_)
            · refine rs 23 [] [] (by kernel_rfl) allP_nil ?_
              refine rf [(1, .ptr 0 0), (2, .ptr 1 0), (50, bS true)] [(0, .row 24 (Enc.cells l)), (1, .row 28 [iS 0, iS 0])] 2 (by kernel_rfl) ?_
              exact hK86 () _ _ _ trivial (leSt_m [(0, 0), (1, 1)] [] (by first | ((try simp only [g87, g88]) <;> simp only [push_cast, seval]; done) | (exfalso; clear h; simp_all)) (by first | ((try simp only [g87, g88]) <;> simp only [push_cast, seval]; done) | (exfalso; clear h; simp_all)) rfl rfl rfl)
            · refine rs 5 [] [] (by kernel_rfl) allP_nil ?_
              refine run_split 32 (decide ((0 : Int) < ((l.Line.length : Nat) : Int))) (.inr (by kernel_rfl)) (fun g89 => ?_) (fun g89 => ?_)
              · refine rn 13 [(1, .ptr 0 0), (2, .ptr 1 0), (27, bS false), (32, .gd true (bS true))] [(0, .row 24 (Enc.cells l)), (1, .row 28 [iS 0, iS 0])] 2 (by kernel_rfl) ?_
                refine rs 5 [] [] (by kernel_rfl) allP_nil ?_
                refine run_split 37 (!l.Writer) (.inr (by kernel_rfl)) (fun g90 => ?_) (fun g90 => ?_)
                · refine rs 4 [] [] (by kernel_rfl) allP_nil ?_
                  refine run_split 41 (l.Readers == 0) (.inr (by kernel_rfl)) (fun g91 => ?_) (fun g91 => ?_)
                  · refine rs 9 [] [] (by kernel_rfl) allP_nil ?_
                    refine rf [(1, .ptr 0 0), (2, .ptr 1 0), (50, bS true)] [(0, .row 24 (Enc.cells l)), (1, .row 28 [iS 0, iS 0])] 2 (by kernel_rfl) ?_
                    exact hK86 () _ _ _ trivial (leSt_m [(0, 0), (1, 1)] [] (by first | ((try simp only [g87, g88, g89, g90, g91]) <;> simp only [push_cast, seval]; done) | (exfalso; clear h; simp_all)) (by first | ((try simp only [g87, g88, g89, g90, g91]) <;> simp only [push_cast, seval]; done) | (exfalso; clear h; simp_all)) rfl rfl rfl)
                  · have k92 : 0 ≤ (0 : Int) ∧ (0 : Int) < ((l.Line.length : Nat) : Int) := by have e := or_use g93 (by first | ((try simp only [g87, g88, g89, g90, g91]) <;> rfl) | (exfalso; clear h; simp_all)); first | simpa only [Bool.and_eq_true, decide_eq_true_eq, bne_iff_ne, ne_eq] using e | (simp at e ⊢; omega)
                    refine rs 9 [none, none, some ⟨.iptr (fl l.Line) (((0 : Int)).toNat * 3), [], 2, []⟩, none, some ⟨bS (ix l.Line (0 : Int)).Write, [], 2, []⟩] _ (by kernel_rfl) (allP_cons (ob_ld l.Line (0 : Int) 3 1 ((((0 : Int)).toNat * 3) + 1) k92 rfl (by decide) (by first | rfl | omega) (dflS Try.prog 4) (bS (ix l.Line (0 : Int)).Write) rfl 2 []) (allP_cons (ob_ix_l l.Line 3 2 0 k92) allP_nil)) ?_
                    refine rf [(1, .ptr 0 0), (2, .ptr 1 0), (50, bS (!(ix l.Line (0 : Int)).Write))] [(0, .row 24 (Enc.cells l)), (1, .row 28 [iS 0, iS 0])] 2 (by kernel_rfl) ?_
                    exact hK86 () _ _ _ trivial (leSt_m [(0, 0), (1, 1)] [] (by first | ((try simp only [g87, g88, g89, g90, g91]) <;> simp only [push_cast, seval]; done) | (exfalso; clear h; simp_all)) (by first | ((try simp only [g87, g88, g89, g90, g91]) <;> simp only [push_cast, seval]; done) | (exfalso; clear h; simp_all)) rfl rfl rfl)
                · refine rs 13 [] [] (by kernel_rfl) allP_nil ?_
                  refine rf [(1, .ptr 0 0), (2, .ptr 1 0), (50, bS false)] [(0, .row 24 (Enc.cells l)), (1, .row 28 [iS 0, iS 0])] 2 (by kernel_rfl) ?_
                  exact hK86 () _ _ _ trivial (leSt_m [(0, 0), (1, 1)] [] (by first | ((try simp only [g87, g88, g89, g90]) <;> simp only [push_cast, seval]; done) | (exfalso; clear h; simp_all)) (by first | ((try simp only [g87, g88, g89, g90]) <;> simp only [push_cast, seval]; done) | (exfalso; clear h; simp_all)) rfl rfl rfl)
              · refine rn 13 [(1, .ptr 0 0), (2, .ptr 1 0), (27, bS false), (32, .gd true (bS false))] [(0, .row 24 (Enc.cells l)), (1, .row 28 [iS 0, iS 0])] 2 (by kernel_rfl) ?_
                refine rs 18 [] [] (by kernel_rfl) allP_nil ?_
                refine rf [(1, .ptr 0 0), (2, .ptr 1 0), (50, bS false)] [(0, .row 24 (Enc.cells l)), (1, .row 28 [iS 0, iS 0])] 2 (by kernel_rfl) ?_
                exact hK86 () _ _ _ trivial (leSt_m [(0, 0), (1, 1)] [] (by first | ((try simp only [g87, g88, g89]) <;> simp only [push_cast, seval]; done) | (exfalso; clear h; simp_all)) (by first | ((try simp only [g87, g88, g89]) <;> simp only [push_cast, seval]; done) | (exfalso; clear h; simp_all)) rfl rfl rfl)
          · refine rs 10 [] [] (by kernel_rfl) allP_nil ?_
            refine run_split 32 (decide ((0 : Int) < ((l.Line.length : Nat) : Int))) (.inr (by kernel_rfl)) (fun g94 => ?_) (fun g94 => ?_)
            · refine rs 5 [] [] (by kernel_rfl) allP_nil ?_
              refine run_split 37 (!l.Writer) (.inr (by kernel_rfl)) (fun g95 => ?_) (fun g95 => ?_)
              · refine rn 18 [(1, .ptr 0 0), (2, .ptr 1 0), (27, bS false), (37, .gd true (bS true))] [(0, .row 24 (Enc.cells l)), (1, .row 28 [iS 0, iS 0])] 2 (by kernel_rfl) ?_
                refine rs 4 [] [] (by kernel_rfl) allP_nil ?_
                refine run_split 41 (l.Readers == 0) (.inr (by kernel_rfl)) (fun g96 => ?_) (fun g96 => ?_)
                · refine rs 9 [] [] (by kernel_rfl) allP_nil ?_
                  refine rf [(1, .ptr 0 0), (2, .ptr 1 0), (50, bS true)] [(0, .row 24 (Enc.cells l)), (1, .row 28 [iS 0, iS 0])] 2 (by kernel_rfl) ?_
                  exact hK86 () _ _ _ trivial (leSt_m [(0, 0), (1, 1)] [] (by first | ((try simp only [g87, g94, g95, g96]) <;> simp only [push_cast, seval]; done) | (exfalso; clear h; simp_all)) (by first | ((try simp only [g87, g94, g95, g96]) <;> simp only [push_cast, seval]; done) | (exfalso; clear h; simp_all)) rfl rfl rfl)
                · have k97 : 0 ≤ (0 : Int) ∧ (0 : Int) < ((l.Line.length : Nat) : Int) := by have e := or_use g98 (by first | ((try simp only [g87, g94, g95, g96]) <;> rfl) | (exfalso; clear h; simp_all)); first | simpa only [Bool.and_eq_true, decide_eq_true_eq, bne_iff_ne, ne_eq] using e | (simp at e ⊢; omega)
                  refine rs 9 [none, none, some ⟨.iptr (fl l.Line) (((0 : Int)).toNat * 3), [], 2, []⟩, none, some ⟨bS (ix l.Line (0 : Int)).Write, [], 2, []⟩] _ (by kernel_rfl) (allP_cons (ob_ld l.Line (0 : Int) 3 1 ((((0 : Int)).toNat * 3) + 1) k97 rfl (by decide) (by first | rfl | omega) (dflS Try.prog 4) (bS (ix l.Line (0 : Int)).Write) rfl 2 []) (allP_cons (ob_ix_l l.Line 3 2 0 k97) allP_nil)) ?_
                  refine rf [(1, .ptr 0 0), (2, .ptr 1 0), (50, bS (!(ix l.Line (0 : Int)).Write))] [(0, .row 24 (Enc.cells l)), (1, .row 28 [iS 0, iS 0])] 2 (by kernel_rfl) ?_
                  exact hK86 () _ _ _ trivial (leSt_m [(0, 0), (1, 1)] [] (by first | ((try simp only [g87, g94, g95, g96]) <;> simp only [push_cast, seval]; done) | (exfalso; clear h; simp_all)) (by first | ((try simp only [g87, g94, g95, g96]) <;> simp only [push_cast, seval]; done) | (exfalso; clear h; simp_all)) rfl rfl rfl)
              · refine rn 18 [(1, .ptr 0 0), (2, .ptr 1 0), (27, bS false), (37, .gd true (bS false))] [(0, .row 24 (Enc.cells l)), (1, .row 28 [iS 0, iS 0])] 2 (by kernel_rfl) ?_
                refine rs 13 [] [] (by kernel_rfl) allP_nil ?_
                refine rf [(1, .ptr 0 0), (2, .ptr 1 0), (50, bS false)] [(0, .row 24 (Enc.cells l)), (1, .row 28 [iS 0, iS 0])] 2 (by kernel_rfl) ?_
                exact hK86 () _ _ _ trivial (leSt_m [(0, 0), (1, 1)] [] (by first | ((try simp only [g87, g94, g95]) <;> simp only [push_cast, seval]; done) | (exfalso; clear h; simp_all)) (by first | ((try simp only [g87, g94, g95]) <;> simp only [push_cast, seval]; done) | (exfalso; clear h; simp_all)) rfl rfl rfl)
            · refine rs 18 [] [] (by kernel_rfl) allP_nil ?_
              refine rf [(1, .ptr 0 0), (2, .ptr 1 0), (50, bS false)] [(0, .row 24 (Enc.cells l)), (1, .row 28 [iS 0, iS 0])] 2 (by kernel_rfl) ?_
              exact hK86 () _ _ _ trivial (leSt_m [(0, 0), (1, 1)] [] (by first | ((try simp only [g87, g94]) <;> simp only [push_cast, seval]; done) | (exfalso; clear h; simp_all)) (by first | ((try simp only [g87, g94]) <;> simp only [push_cast, seval]; done) | (exfalso; clear h; simp_all)) rfl rfl rfl)
        · dsimp only
          refine cond_sx h (by kernel_rfl) (fun g213 h => ?_) (fun g213 h => ?_)
          · refine seq_np ?_
            refine reg_f ?_
            obtain ⟨r100, hr100, h⟩ := bind_sx h
            refine run_call 29 [iS 5, iS 0] (some 51) (by kernel_rfl) ?_
            refine call_0 (lock_fault_spec 5 0 r100 hr100) (by simp only [push_cast, seval]) (by simp only [push_cast, seval]) ?_
            refine back_f ?_
            refine rs 1 [] [] (by kernel_rfl) allP_nil ?_
            refine rf [(2, .ptr 1 0)] [(0, .row 24 (Enc.cells l)), (1, .row 28 (Enc.cells r100))] 2 (by kernel_rfl) ?_
            refine wk_id ?_
            obtain rfl := Option.some.inj h
            refine ret_at (.agg (Enc.cells r100)) (by kernel_rfl) ?_
            exact ret_e [] [] (by simp only [push_cast, seval]) (by simp only [push_cast, seval]) rfl rfl rfl
          · refine wk_id ?_
            refine seq_np ?_
            refine reg_f ?_
            refine rs 2 [] [] (by kernel_rfl) allP_nil ?_
            refine rf [(1, .ptr 0 0), (2, .ptr 1 0), (3, .mp 2)] [(0, .row 24 (Enc.cells l)), (1, .row 28 [iS 0, iS 0]), (2, .map (mi []))] 3 (by kernel_rfl) ?_
            refine wk_id ?_
            refine seq_np ?_
            refine seq_np ?_
            refine reg_f ?_
            refine rs 4 [] [] (by kernel_rfl) allP_nil ?_
            refine rf [(2, .ptr 1 0), (3, .mp 2), (54, .sl l.Line.length (fl l.Line)), (55, iS ((l.Line.length : Nat) : Int)), (56, iS 0)] [(0, .row 24 (Enc.cells l)), (1, .row 28 [iS 0, iS 0]), (2, .map (mi []))] 3 (by kernel_rfl) ?_
            refine wk_id ?_
            refine block_np ?_
            refine loop_sx (S := Int × (List (Int × Int))) (fun a => ([(2, .ptr 0 0), (3, .mp 1), (54, .sl l.Line.length (fl l.Line)), (55, iS ((l.Line.length : Nat) : Int)), (56, iS a.1)], [(0, .row 28 [iS 0, iS 0]), (1, .map (mi a.2))], 2)) h (leSt_m [(0, 1), (1, 2)] [] (by simp only [push_cast, seval]) (by simp only [push_cast, seval]) rfl rfl rfl) ?_
            rintro ⟨t56q7, c1q7⟩ o2 R2 h hr2 hn2 hx2 ht2
            try dsimp only at h hn2 ⊢
            unfold lock_Check_l1 at h
            try dsimp only at h
            refine seq_np ?_
            refine reg_f ?_
            refine rs 1 [] [] (by kernel_rfl) allP_nil ?_
            refine rf [(2, .ptr 0 0), (3, .mp 1), (54, .sl l.Line.length (fl l.Line)), (55, iS ((l.Line.length : Nat) : Int)), (56, iS t56q7), (57, bS (decide (t56q7 < ((l.Line.length : Nat) : Int))))] [(0, .row 28 [iS 0, iS 0]), (1, .map (mi c1q7))] 2 (by kernel_rfl) ?_
            refine wk_id ?_
            refine seq_np ?_
            refine cond_sx h (by kernel_rfl) (fun g212 h => ?_) (fun g212 h => ?_)
            · refine wk_id ?_
              refine seq_np ?_
              refine block_np ?_
              refine chk_sx h (fun g196 h => ?_)
              refine seq_np ?_
              refine reg_f ?_
              have k195 : 0 ≤ t56q7 ∧ t56q7 < ((l.Line.length : Nat) : Int) := by first | simpa only [Bool.and_eq_true, decide_eq_true_eq, bne_iff_ne, ne_eq] using g196 | (simp at g196 ⊢; omega)
              refine rs 6 [none, some ⟨.iptr (fl l.Line) ((t56q7).toNat * 3), [], 2, []⟩, some ⟨.agg (Enc.cells (ix l.Line t56q7)), [], 2, []⟩] _ (by kernel_rfl) (allP_cons (ob_ldw l.Line t56q7 3 ((t56q7).toNat * 3) k195 rfl (by first | rfl | omega) [iS (ix l.Line t56q7).Task, bS (ix l.Line t56q7).Write, iS (ix l.Line t56q7).N] rfl 2 []) (allP_cons (ob_ix_l l.Line 3 2 t56q7 k195) allP_nil)) ?_
              refine rf [(2, .ptr 0 0), (3, .mp 1), (4, iS t56q7), (5, .ptr 2 0), (54, .sl l.Line.length (fl l.Line)), (55, iS ((l.Line.length : Nat) : Int)), (56, iS t56q7)] [(0, .row 28 [iS 0, iS 0]), (1, .map (mi c1q7)), (2, .row 47 (Enc.cells (ix l.Line t56q7)))] 3 (by kernel_rfl) ?_
              refine wk_id ?_
              refine seq_np ?_
              refine seq_np ?_
              refine reg_f ?_
              refine rs 3 [] [] (by kernel_rfl) allP_nil ?_
              refine rf [(2, .ptr 0 0), (3, .mp 1), (4, iS t56q7), (5, .ptr 2 0), (54, .sl l.Line.length (fl l.Line)), (55, iS ((l.Line.length : Nat) : Int)), (56, iS t56q7), (63, bS (decide ((ix l.Line t56q7).Task < 1)))] [(0, .row 28 [iS 0, iS 0]), (1, .map (mi c1q7)), (2, .row 47 (Enc.cells (ix l.Line t56q7)))] 3 (by kernel_rfl) ?_
              refine wk_id ?_
              refine cond_sx h (by kernel_rfl) (fun g211 h => ?_) (fun g211 h => ?_)
              · refine seq_np ?_
                refine reg_f ?_
                refine rs 2 [] [] (by kernel_rfl) allP_nil ?_
                obtain ⟨r200, hr200, h⟩ := bind_sx h
                refine run_call 29 [iS 3, iS (IntKind.i64.wrap (t56q7 + 1))] (some 66) (by kernel_rfl) ?_
                refine call_0 (lock_fault_spec 3 (IntKind.i64.wrap (t56q7 + 1)) r200 hr200) (by simp only [push_cast, seval]) (by simp only [push_cast, seval]) ?_
                refine back_f ?_
                refine rs 1 [] [] (by kernel_rfl) allP_nil ?_
                refine rf [(2, .ptr 0 0)] [(0, .row 28 (Enc.cells r200)), (1, .map (mi c1q7)), (2, .row 47 (Enc.cells (ix l.Line t56q7)))] 3 (by kernel_rfl) ?_
                refine wk_id ?_
                refine rt_cast ht2 ?_
                obtain ⟨r0, h, e0⟩ := map_sx h
                have e1 := hr2 r0 e0.symm
                subst r0
                obtain rfl := Option.some.inj h
                refine ret_at (.agg (Enc.cells r200)) (by kernel_rfl) ?_
                exact ret_e [] [] (by simp only [push_cast, seval]) (by simp only [push_cast, seval]) rfl rfl rfl
              · refine wk_id ?_
                refine seq_np ?_
                refine seq_np ?_
                refine reg_f ?_
                refine rs 5 [none, none, none, some ⟨iS (miGet c1q7 (ix l.Line t56q7).Task), [], 3, [1]⟩] _ (by kernel_rfl) (allP_cons (ob_look (.int .i64) rfl (ix l.Line t56q7).Task c1q7 1 3) allP_nil) ?_
                refine rf [(2, .ptr 0 0), (3, .mp 1), (4, iS t56q7), (5, .ptr 2 0), (54, .sl l.Line.length (fl l.Line)), (55, iS ((l.Line.length : Nat) : Int)), (56, iS t56q7), (71, bS (decide ((0 : Int) < (miGet c1q7 (ix l.Line t56q7).Task))))] [(0, .row 28 [iS 0, iS 0]), (1, .map (mi c1q7)), (2, .row 47 (Enc.cells (ix l.Line t56q7)))] 3 (by kernel_rfl) ?_
                refine wk_id ?_
                refine cond_sx h (by kernel_rfl) (fun g210 h => ?_) (fun g210 h => ?_)
                · refine seq_np ?_
                  refine reg_f ?_
                  refine rs 2 [] [] (by kernel_rfl) allP_nil ?_
                  obtain ⟨r204, hr204, h⟩ := bind_sx h
                  refine run_call 29 [iS 10, iS (IntKind.i64.wrap (t56q7 + 1))] (some 74) (by kernel_rfl) ?_
                  refine call_0 (lock_fault_spec 10 (IntKind.i64.wrap (t56q7 + 1)) r204 hr204) (by simp only [push_cast, seval]) (by simp only [push_cast, seval]) ?_
                  refine back_f ?_
                  refine rs 1 [] [] (by kernel_rfl) allP_nil ?_
                  refine rf [(2, .ptr 0 0)] [(0, .row 28 (Enc.cells r204)), (1, .map (mi c1q7)), (2, .row 47 (Enc.cells (ix l.Line t56q7)))] 3 (by kernel_rfl) ?_
                  refine wk_id ?_
                  refine rt_cast ht2 ?_
                  obtain ⟨r0, h, e0⟩ := map_sx h
                  have e1 := hr2 r0 e0.symm
                  subst r0
                  obtain rfl := Option.some.inj h
                  refine ret_at (.agg (Enc.cells r204)) (by kernel_rfl) ?_
                  exact ret_e [] [] (by simp only [push_cast, seval]) (by simp only [push_cast, seval]) rfl rfl rfl
                · refine wk_id ?_
                  refine seq_np ?_
                  refine seq_np ?_
                  refine reg_f ?_
                  refine rs 3 [] [] (by kernel_rfl) allP_nil ?_
                  refine rf [(2, .ptr 0 0), (3, .mp 1), (4, iS t56q7), (5, .ptr 2 0), (54, .sl l.Line.length (fl l.Line)), (55, iS ((l.Line.length : Nat) : Int)), (56, iS t56q7), (77, bS ((ix l.Line t56q7).N != 0))] [(0, .row 28 [iS 0, iS 0]), (1, .map (mi c1q7)), (2, .row 47 (Enc.cells (ix l.Line t56q7)))] 3 (by kernel_rfl) ?_
                  refine wk_id ?_
                  refine cond_sx h (by kernel_rfl) (fun g209 h => ?_) (fun g209 h => ?_)
                  · refine seq_np ?_
                    refine reg_f ?_
                    refine rs 2 [] [] (by kernel_rfl) allP_nil ?_
                    obtain ⟨r208, hr208, h⟩ := bind_sx h
                    refine run_call 29 [iS 5, iS (IntKind.i64.wrap (t56q7 + 1))] (some 80) (by kernel_rfl) ?_
                    refine call_0 (lock_fault_spec 5 (IntKind.i64.wrap (t56q7 + 1)) r208 hr208) (by simp only [push_cast, seval]) (by simp only [push_cast, seval]) ?_
                    refine back_f ?_
                    refine rs 1 [] [] (by kernel_rfl) allP_nil ?_
                    refine rf [(2, .ptr 0 0)] [(0, .row 28 (Enc.cells r208)), (1, .map (mi c1q7)), (2, .row 47 (Enc.cells (ix l.Line t56q7)))] 3 (by kernel_rfl) ?_
                    refine wk_id ?_
                    refine rt_cast ht2 ?_
                    obtain ⟨r0, h, e0⟩ := map_sx h
                    have e1 := hr2 r0 e0.symm
                    subst r0
                    obtain rfl := Option.some.inj h
                    refine ret_at (.agg (Enc.cells r208)) (by kernel_rfl) ?_
                    exact ret_e [] [] (by simp only [push_cast, seval]) (by simp only [push_cast, seval]) rfl rfl rfl
                  · refine wk_id ?_
                    refine reg_f ?_
                    refine rs 4 [none, none, none, some ⟨.any, [(1, .map (mi (miSet c1q7 (ix l.Line t56q7).Task 1)))], 3, [1]⟩] _ (by kernel_rfl) (allP_cons (ob_mset (.int .i64) rfl (ix l.Line t56q7).Task 1 c1q7 1 3) allP_nil) ?_
                    refine rf [(2, .ptr 0 0), (3, .mp 1), (54, .sl l.Line.length (fl l.Line)), (55, iS ((l.Line.length : Nat) : Int)), (56, iS t56q7)] [(0, .row 28 [iS 0, iS 0]), (1, .map (mi (miSet c1q7 (ix l.Line t56q7).Task 1))), (2, .row 47 (Enc.cells (ix l.Line t56q7)))] 3 (by kernel_rfl) ?_
                    refine wk_id ?_
                    refine wk_id ?_
                    refine reg_f ?_
                    refine rs 2 [] [] (by kernel_rfl) allP_nil ?_
                    refine rf [(2, .ptr 0 0), (3, .mp 1), (54, .sl l.Line.length (fl l.Line)), (55, iS ((l.Line.length : Nat) : Int)), (56, iS (IntKind.i64.wrap (t56q7 + 1)))] [(0, .row 28 [iS 0, iS 0]), (1, .map (mi (miSet c1q7 (ix l.Line t56q7).Task 1))), (2, .row 47 (Enc.cells (ix l.Line t56q7)))] 3 (by kernel_rfl) ?_
                    exact hn2 ((IntKind.i64.wrap (t56q7 + 1)), (miSet c1q7 (ix l.Line t56q7).Task 1)) _ _ _ (Option.some.inj h).symm (leSt_m [(0, 0), (1, 1)] [] (by simp only [push_cast, seval]) (by simp only [push_cast, seval]) rfl rfl rfl)
            · change R2 (.exit 0) _ _ _
              refine ex_cast hx2 (id := 0) ?_
              obtain ⟨r0, h, e0⟩ := map_sx h
              have e1 := hr2 r0 e0.symm
              subst r0
              refine wk_id ?_
              refine wk_id ?_
              refine seq_np ?_
              refine reg_f ?_
              refine rs 2 [] [] (by kernel_rfl) allP_nil ?_
              refine rf [(2, .ptr 0 0)] [(0, .row 28 [iS 0, iS 0]), (1, .map (mi c1q7))] 2 (by kernel_rfl) ?_
              refine wk_id ?_
              obtain rfl := Option.some.inj h
              refine ret_at (.agg [iS 0, iS 0]) (by kernel_rfl) ?_
              exact ret_e [] [] (by simp only [push_cast, seval]) (by simp only [push_cast, seval]) rfl rfl rfl

set_option maxRecDepth 100000 in
set_option maxHeartbeats 10000000 in
theorem slices_Clone_Want_spec (s : (List Want)) (r : (List Want)) (h : slices_Clone_Want s = some r) : SpecW Try.prog 35 [.sl s.length (fl s)] [] 0 (fun x h n => x = .own 0 0 r.length ∧ h = [(0, .row 47 (fl r))] ∧ n = 1) := by
  unfold slices_Clone_Want at h
  refine spec_of (draw_ok _) Try.func35 rfl (by decide) rfl (by kernel_rfl) ?_
  refine seq_np ?_
  refine reg_f ?_
  refine rs 1 [] [] (by kernel_rfl) allP_nil ?_
  refine rf [(0, .sl s.length (fl s))] [] 0 (by kernel_rfl) ?_
  refine wk_id ?_
  refine seq_np ?_
  refine seq_np ?_
  refine reg_f ?_
  refine rs 1 [] [] (by kernel_rfl) allP_nil ?_
  refine run_nil s.length (some 4) (by kernel_rfl) (fun g228 => ?_) ?_
  · obtain rfl : s = [] := List.eq_nil_of_length_eq_zero g228
    replace h : (some ([])) = some r := by simpa using h
    refine rf [(0, .sl ([] : List Want).length (fl ([] : List Want))), (4, bS true)] [] 0 (by kernel_rfl) ?_
    refine wk_id ?_
    refine cond_t (by kernel_rfl) ?_
    refine seq_np ?_
    refine reg_f ?_
    refine rs 1 [] [] (by kernel_rfl) allP_nil ?_
    refine rf [(2, .v (.slice none 0 0))] [] 0 (by kernel_rfl) ?_
    refine wk_id ?_
    obtain rfl := Option.some.inj h
    refine ret_at (.v (.slice none 0 0)) (by kernel_rfl) ?_
    exact ret_e [] [] (by simp only [push_cast, seval]) (by simp only [push_cast, seval]) rfl rfl rfl
  · refine rf [(0, .sl s.length (fl s)), (4, bS false)] [] 0 (by kernel_rfl) ?_
    refine wk_id ?_
    refine cond_f (by kernel_rfl) ?_
    refine wk_id ?_
    refine chk_sx h (fun g227 h => ?_)
    refine seq_np ?_
    refine reg_f ?_
    refine run_mk0 Want (some 5) 47 (by kernel_rfl) ?_
    have k226 : (([] : List Want) ++ s).length * 24 ≤ 140737488355328 := by first | simpa only [Bool.and_eq_true, decide_eq_true_eq, bne_iff_ne, ne_eq] using g227 | (simp at g227 ⊢; omega)
    refine rs 3 [none, some ⟨.own 1 0 (([] : List Want) ++ s).length, [(1, .row 47 (fl (([] : List Want) ++ s))), (0, .dead)], 2, [0]⟩] _ (by kernel_rfl) (allP_cons (ob_app (P := Try.prog) ([] : List Want) s 3 24 rfl (fl s) s.length rfl rfl ((fl s).length = s.length * 3) (app_sl s 3 rfl) 47 (by kernel_rfl) (by decide) k226 0 1 []) allP_nil) ?_
    refine rf [(2, .own 1 0 (([] : List Want) ++ s).length)] [(0, .dead), (1, .row 47 (fl (([] : List Want) ++ s)))] 2 (by kernel_rfl) ?_
    refine wk_id ?_
    obtain rfl := Option.some.inj h
    refine ret_at (.own 1 0 (([] : List Want) ++ s).length) (by kernel_rfl) ?_
    exact ret_e [(0, 1)] [] (by simp only [push_cast, seval]) (by simp only [push_cast, seval]) rfl rfl rfl

set_option maxRecDepth 100000 in
set_option maxHeartbeats 10000000 in
theorem lock_copied_spec (l : Lock) (r : Int × Bool × (List Want)) (h : lock_copied l = some r) : SpecW Try.prog 25 [.agg (Enc.cells l)] [] 0 (fun x h n => x = .ptr 0 0 ∧ h = [(0, .row 24 [iS r.1, bS r.2.1, .own 1 0 r.2.2.length]), (1, .row 47 (fl r.2.2))] ∧ n = 2) := by
  unfold lock_copied at h
  refine spec_of (draw_ok _) Try.func25 rfl (by decide) rfl (by kernel_rfl) ?_
  refine seq_np ?_
  refine reg_f ?_
  refine rs 2 [] [] (by kernel_rfl) allP_nil ?_
  refine rf [(1, .ptr 0 0)] [(0, .row 24 (Enc.cells l))] 1 (by kernel_rfl) ?_
  refine wk_id ?_
  refine seq_np ?_
  refine reg_t ?_
  refine rs 6 [] [] (by kernel_rfl) allP_nil ?_
  obtain ⟨r231, hr231, h⟩ := bind_sx h
  refine call_x (slices_Clone_Want_spec l.Line r231 hr231) (args := [.sl l.Line.length (fl l.Line)]) (dst := (some 9)) (by kernel_rfl) [(0, .row 24 (Enc.cells l))] 7 (by kernel_rfl) [] [] (.own 7 0 r231.length) [(7, .row 47 (fl r231))] (by simp only [push_cast, seval]) (by simp only [push_cast, seval]) (by kernel_rfl) (.inl rfl) (by simp only [push_cast, seval]) (by simp only [push_cast, seval]) ?_
  refine rs 3 [] [] (by kernel_rfl) allP_nil ?_
  refine rt [(2, .ptr 10 0)] [(0, .row 24 (Enc.cells l)), (7, .row 47 (fl r231)), (10, .row 24 [iS l.Readers, bS l.Writer, .own 7 0 r231.length])] 13 follows (by kernel_rfl) ?_
  refine wk_id ?_
  obtain rfl := Option.some.inj h
  refine ret_at (.ptr 10 0) (by kernel_rfl) ?_
  exact ret_e [(0, 10), (1, 7)] [] (by simp only [push_cast, seval]) (by simp only [push_cast, seval]) rfl rfl rfl

set_option maxRecDepth 100000 in
set_option maxHeartbeats 10000000 in
theorem lock_admit_spec (c0_Readers : Int) (c0_Writer : Bool) (c1 : (List Want)) (r : (List Int) × Int × Bool × (List Want)) (h : lock_admit c0_Readers c0_Writer c1 = some r) : SpecW Try.prog 26 [.ptr 0 0] [(0, .row 24 [iS c0_Readers, bS c0_Writer, .own 1 0 c1.length]), (1, .row 47 (fl c1))] 2 (fun x h n => x = .own 2 0 r.1.length ∧ h = [(0, .row 24 [iS r.2.1, bS r.2.2.1, .own 3 0 r.2.2.2.length]), (1, .dead), (2, .row 3 (fl r.1)), (3, .row 47 (fl r.2.2.2))] ∧ n = 4) := by
  unfold lock_admit at h
  refine spec_of (draw_ok _) Try.func26 rfl (by decide) rfl (by kernel_rfl) ?_
  refine seq_np ?_
  refine reg_f ?_
  refine rs 1 [] [] (by kernel_rfl) allP_nil ?_
  refine rf [(0, .ptr 0 0)] [(0, .row 24 [iS c0_Readers, bS c0_Writer, .own 1 0 c1.length]), (1, .row 47 (fl c1))] 2 (by kernel_rfl) ?_
  refine wk_id ?_
  refine seq_np ?_
  refine reg_f ?_
  refine rs 1 [] [] (by kernel_rfl) allP_nil ?_
  refine rf [(0, .ptr 0 0), (3, .v (.slice none 0 0))] [(0, .row 24 [iS c0_Readers, bS c0_Writer, .own 1 0 c1.length]), (1, .row 47 (fl c1))] 2 (by kernel_rfl) ?_
  refine wk_id ?_
  refine seq_np ?_
  refine block_cut (A := (List Int) × Int × Bool × (List Want)) (fun a => ([(3, .own 2 0 a.1.length)], [(0, .row 24 [iS a.2.1, bS a.2.2.1, .own 3 0 a.2.2.2.length]), (1, .dead), (2, .row 3 (fl a.1)), (3, .row 47 (fl a.2.2.2))], 4)) (fun a => (lock_admit_j1 a.1 a.2.1 a.2.2.1 a.2.2.2) = some r) (fun K363 hK363 => ?_) ?_
  · refine loop_sx (S := Int × Bool × (List Int) × (List Want)) (fun a => ([(0, .ptr 0 0), (3, .own 2 0 a.2.2.1.length)], [(0, .row 24 [iS a.1, bS a.2.1, .own 3 0 a.2.2.2.length]), (1, .dead), (2, .row 3 (fl a.2.2.1)), (3, .row 47 (fl a.2.2.2))], 4)) h (leSt_m [(0, 0), (3, 1)] [] (by simp only [push_cast, seval]) (by simp only [push_cast, seval]) rfl rfl rfl) ?_
    rintro ⟨c0_Readers23, c0_Writer12, c2q11, c3q11⟩ o2 R2 h hr2 hn2 hx2 ht2
    try dsimp only at h hn2 ⊢
    unfold lock_admit_l1 at h
    try dsimp only at h
    refine seq_np ?_
    refine seq_cut (A := Unit) (fun _ => ([(0, .ptr 0 0), (3, .own 2 0 c2q11.length), (17, bS ((decide ((0 : Int) < ((c3q11.length : Nat) : Int))) && (!c0_Writer12)))], [(0, .row 24 [iS c0_Readers23, bS c0_Writer12, .own 3 0 c3q11.length]), (2, .row 3 (fl c2q11)), (3, .row 47 (fl c3q11))], 4)) (fun _ => True) (fun K394 hK394 => ?_) (fun _ _ => ?_)
    · refine reg_f ?_
      refine rs 7 [] [] (by kernel_rfl) allP_nil ?_
      refine run_split 11 (decide ((0 : Int) < ((c3q11.length : Nat) : Int))) (.inl (by kernel_rfl)) (fun g395 => ?_) (fun g395 => ?_)
      · refine rs 6 [] [] (by kernel_rfl) allP_nil ?_
        refine rf [(0, .ptr 0 0), (3, .own 2 0 c2q11.length), (17, bS (!c0_Writer12))] [(0, .row 24 [iS c0_Readers23, bS c0_Writer12, .own 3 0 c3q11.length]), (1, .dead), (2, .row 3 (fl c2q11)), (3, .row 47 (fl c3q11))] 4 (by kernel_rfl) ?_
        exact hK394 () _ _ _ trivial (leSt_m [(0, 0), (2, 2), (3, 3)] [] (by (try simp only [g395]) <;> simp only [push_cast, seval]) (by (try simp only [g395]) <;> simp only [push_cast, seval]) rfl rfl rfl)
      · refine rs 6 [] [] (by kernel_rfl) allP_nil ?_
        refine rf [(0, .ptr 0 0), (3, .own 2 0 c2q11.length), (17, bS false)] [(0, .row 24 [iS c0_Readers23, bS c0_Writer12, .own 3 0 c3q11.length]), (1, .dead), (2, .row 3 (fl c2q11)), (3, .row 47 (fl c3q11))] 4 (by kernel_rfl) ?_
        exact hK394 () _ _ _ trivial (leSt_m [(0, 0), (2, 2), (3, 3)] [] (by (try simp only [g395]) <;> simp only [push_cast, seval]) (by (try simp only [g395]) <;> simp only [push_cast, seval]) rfl rfl rfl)
    · dsimp only
      refine cond_sx h (by kernel_rfl) (fun g415 h => ?_) (fun g415 h => ?_)
      · refine wk_id ?_
        refine block_np ?_
        refine chk_sx h (fun g399 h => ?_)
        refine seq_np ?_
        refine reg_f ?_
        have k398 : 0 ≤ (0 : Int) ∧ (0 : Int) < ((c3q11.length : Nat) : Int) := by first | simpa only [Bool.and_eq_true, decide_eq_true_eq, bne_iff_ne, ne_eq] using g399 | (simp at g399 ⊢; omega)
        refine rs 8 [none, none, none, none, some ⟨.ptr 3 (0 + ((0 : Int)).toNat * 3), [], 4, [3]⟩, some ⟨.agg (Enc.cells (ix c3q11 (0 : Int))), [], 4, [3]⟩] _ (by kernel_rfl) (allP_cons (ob_ldw c3q11 (0 : Int) 3 (0 + ((0 : Int)).toNat * 3) k398 rfl (by first | rfl | omega) [iS (ix c3q11 (0 : Int)).Task, bS (ix c3q11 (0 : Int)).Write, iS (ix c3q11 (0 : Int)).N] rfl 4 [3]) (allP_cons (ob_ix_o 3 c3q11.length 0 3 4 0 k398) allP_nil)) ?_
        refine rf [(0, .ptr 0 0), (3, .own 2 0 c2q11.length), (4, .ptr 4 0)] [(0, .row 24 [iS c0_Readers23, bS c0_Writer12, .own 3 0 c3q11.length]), (2, .row 3 (fl c2q11)), (3, .row 47 (fl c3q11)), (4, .row 47 (Enc.cells (ix c3q11 (0 : Int))))] 5 (by kernel_rfl) ?_
        refine wk_id ?_
        refine seq_np ?_
        refine seq_cut (A := Unit) (fun _ => ([(0, .ptr 0 0), (3, .own 2 0 c2q11.length), (4, .ptr 4 0), (32, bS ((ix c3q11 (0 : Int)).Write && (decide ((0 : Int) < c0_Readers23))))], [(0, .row 24 [iS c0_Readers23, bS c0_Writer12, .own 3 0 c3q11.length]), (2, .row 3 (fl c2q11)), (3, .row 47 (fl c3q11)), (4, .row 47 (Enc.cells (ix c3q11 (0 : Int))))], 5)) (fun _ => True) (fun K403 hK403 => ?_) (fun _ _ => ?_)
        · refine reg_f ?_
          refine rs 3 [] [] (by kernel_rfl) allP_nil ?_
          refine run_split 26 (ix c3q11 (0 : Int)).Write (.inl (by kernel_rfl)) (fun g404 => ?_) (fun g404 => ?_)
          · refine rs 6 [] [] (by kernel_rfl) allP_nil ?_
            refine rf [(0, .ptr 0 0), (3, .own 2 0 c2q11.length), (4, .ptr 4 0), (32, bS (decide ((0 : Int) < c0_Readers23)))] [(0, .row 24 [iS c0_Readers23, bS c0_Writer12, .own 3 0 c3q11.length]), (2, .row 3 (fl c2q11)), (3, .row 47 (fl c3q11)), (4, .row 47 (Enc.cells (ix c3q11 (0 : Int))))] 5 (by kernel_rfl) ?_
            exact hK403 () _ _ _ trivial (leSt_m [(0, 0), (2, 2), (3, 3), (4, 4)] [] (by (try simp only [g404]) <;> simp only [push_cast, seval]) (by (try simp only [g404]) <;> simp only [push_cast, seval]) rfl rfl rfl)
          · refine rs 6 [] [] (by kernel_rfl) allP_nil ?_
            refine rf [(0, .ptr 0 0), (3, .own 2 0 c2q11.length), (4, .ptr 4 0), (32, bS false)] [(0, .row 24 [iS c0_Readers23, bS c0_Writer12, .own 3 0 c3q11.length]), (2, .row 3 (fl c2q11)), (3, .row 47 (fl c3q11)), (4, .row 47 (Enc.cells (ix c3q11 (0 : Int))))] 5 (by kernel_rfl) ?_
            exact hK403 () _ _ _ trivial (leSt_m [(0, 0), (2, 2), (3, 3), (4, 4)] [] (by (try simp only [g404]) <;> simp only [push_cast, seval]) (by (try simp only [g404]) <;> simp only [push_cast, seval]) rfl rfl rfl)
        · dsimp only
          refine cond_sx h (by kernel_rfl) (fun g414 h => ?_) (fun g414 h => ?_)
          · change R2 (.exit 0) _ _ _
            refine ex_cast hx2 (id := 0) ?_
            obtain ⟨r0, h, e0⟩ := map_sx h
            have e1 := hr2 r0 e0.symm
            subst r0
            exact hK363 (c2q11, c0_Readers23, c0_Writer12, c3q11) _ _ _ h (leSt_m [(0, 0), (2, 2), (3, 3)] [] (by simp only [push_cast, seval]) (by simp only [push_cast, seval]) rfl rfl rfl)
          · refine wk_id ?_
            refine chk_sx h (fun g408 h => ?_)
            refine seq_np ?_
            refine reg_f ?_
            have k407 : 0 ≤ (1 : Int) ∧ (1 : Int) ≤ ((c3q11.length : Nat) : Int) ∧ ((c3q11.length : Nat) : Int) ≤ ((c3q11.length : Nat) : Int) := by first | simpa only [Bool.and_eq_true, decide_eq_true_eq, bne_iff_ne, ne_eq] using g408 | (simp at g408 ⊢; omega)
            refine rs 5 [] [] (by kernel_rfl) allP_nil ?_
            refine run_cutO c3q11 (some 38) 3 3 47 (1 : Int) ((c3q11.length : Nat) : Int) (by kernel_rfl) rfl k407 ?_
            refine rs 3 [] [] (by kernel_rfl) allP_nil ?_
            refine rf [(0, .ptr 0 0), (3, .own 2 0 c2q11.length), (4, .ptr 4 0)] [(0, .row 24 [iS c0_Readers23, bS c0_Writer12, .own 5 0 (cut c3q11 (1 : Int) ((c3q11.length : Nat) : Int)).length]), (2, .row 3 (fl c2q11)), (3, .dead), (4, .row 47 (Enc.cells (ix c3q11 (0 : Int)))), (5, .row 47 (fl (cut c3q11 (1 : Int) ((c3q11.length : Nat) : Int))))] 6 (by kernel_rfl) ?_
            refine wk_id ?_
            refine chk_sx h (fun g412 h => ?_)
            refine seq_np ?_
            refine reg_f ?_
            have k411 : (c2q11 ++ ([(ix c3q11 (0 : Int)).Task] : List Int)).length * 8 ≤ 140737488355328 := by first | simpa only [Bool.and_eq_true, decide_eq_true_eq, bne_iff_ne, ne_eq] using g412 | (simp at g412 ⊢; omega)
            refine rs 6 [none, none, none, none, some ⟨.own 7 0 (c2q11 ++ ([(ix c3q11 (0 : Int)).Task] : List Int)).length, [(7, .row 3 (fl (c2q11 ++ ([(ix c3q11 (0 : Int)).Task] : List Int)))), (2, .dead)], 8, [2, 6]⟩] _ (by kernel_rfl) (allP_cons (ob_app (P := Try.prog) c2q11 ([(ix c3q11 (0 : Int)).Task] : List Int) 1 8 rfl (appCells (fl ([(ix c3q11 (0 : Int)).Task] : List Int)) 0 (([(ix c3q11 (0 : Int)).Task] : List Int).length * 1)) ([(ix c3q11 (0 : Int)).Task] : List Int).length (app_own ([(ix c3q11 (0 : Int)).Task] : List Int) 1 rfl) rfl (0 + ([(ix c3q11 (0 : Int)).Task] : List Int).length * 1 ≤ (fl ([(ix c3q11 (0 : Int)).Task] : List Int)).length) (app_own_le ([(ix c3q11 (0 : Int)).Task] : List Int) 1 rfl) 3 (by kernel_rfl) (by decide) k411 2 7 [6]) allP_nil) ?_
            refine rf [(0, .ptr 0 0), (3, .own 7 0 (c2q11 ++ ([(ix c3q11 (0 : Int)).Task] : List Int)).length), (4, .ptr 4 0)] [(0, .row 24 [iS c0_Readers23, bS c0_Writer12, .own 5 0 (cut c3q11 (1 : Int) ((c3q11.length : Nat) : Int)).length]), (2, .dead), (3, .dead), (4, .row 47 (Enc.cells (ix c3q11 (0 : Int)))), (5, .row 47 (fl (cut c3q11 (1 : Int) ((c3q11.length : Nat) : Int)))), (6, .row 3 (fl ([(ix c3q11 (0 : Int)).Task] : List Int))), (7, .row 3 (fl (c2q11 ++ ([(ix c3q11 (0 : Int)).Task] : List Int))))] 8 (by kernel_rfl) ?_
            refine wk_id ?_
            refine seq_np ?_
            refine reg_f ?_
            refine rs 6 [] [] (by kernel_rfl) allP_nil ?_
            refine rf [(0, .ptr 0 0), (3, .own 7 0 (c2q11 ++ ([(ix c3q11 (0 : Int)).Task] : List Int)).length), (4, .ptr 4 0)] [(0, .row 24 [iS c0_Readers23, bS (ix c3q11 (0 : Int)).Write, .own 5 0 (cut c3q11 (1 : Int) ((c3q11.length : Nat) : Int)).length]), (2, .dead), (3, .dead), (4, .row 47 (Enc.cells (ix c3q11 (0 : Int)))), (5, .row 47 (fl (cut c3q11 (1 : Int) ((c3q11.length : Nat) : Int)))), (6, .row 3 (fl ([(ix c3q11 (0 : Int)).Task] : List Int))), (7, .row 3 (fl (c2q11 ++ ([(ix c3q11 (0 : Int)).Task] : List Int))))] 8 (by kernel_rfl) ?_
            refine wk_id ?_
            refine seq_np ?_
            refine reg_f ?_
            refine rs 3 [] [] (by kernel_rfl) allP_nil ?_
            refine rf [(0, .ptr 0 0), (3, .own 7 0 (c2q11 ++ ([(ix c3q11 (0 : Int)).Task] : List Int)).length), (53, bS (!(ix c3q11 (0 : Int)).Write))] [(0, .row 24 [iS c0_Readers23, bS (ix c3q11 (0 : Int)).Write, .own 5 0 (cut c3q11 (1 : Int) ((c3q11.length : Nat) : Int)).length]), (2, .dead), (3, .dead), (4, .row 47 (Enc.cells (ix c3q11 (0 : Int)))), (5, .row 47 (fl (cut c3q11 (1 : Int) ((c3q11.length : Nat) : Int)))), (6, .row 3 (fl ([(ix c3q11 (0 : Int)).Task] : List Int))), (7, .row 3 (fl (c2q11 ++ ([(ix c3q11 (0 : Int)).Task] : List Int))))] 8 (by kernel_rfl) ?_
            refine wk_id ?_
            refine cond_sx h (by kernel_rfl) (fun g413 h => ?_) (fun g413 h => ?_)
            · refine reg_f ?_
              refine rs 8 [] [] (by kernel_rfl) allP_nil ?_
              refine rf [(0, .ptr 0 0), (3, .own 7 0 (c2q11 ++ ([(ix c3q11 (0 : Int)).Task] : List Int)).length)] [(0, .row 24 [iS (IntKind.i64.wrap (c0_Readers23 + 1)), bS (ix c3q11 (0 : Int)).Write, .own 5 0 (cut c3q11 (1 : Int) ((c3q11.length : Nat) : Int)).length]), (2, .dead), (3, .dead), (4, .row 47 (Enc.cells (ix c3q11 (0 : Int)))), (5, .row 47 (fl (cut c3q11 (1 : Int) ((c3q11.length : Nat) : Int)))), (6, .row 3 (fl ([(ix c3q11 (0 : Int)).Task] : List Int))), (7, .row 3 (fl (c2q11 ++ ([(ix c3q11 (0 : Int)).Task] : List Int))))] 8 (by kernel_rfl) ?_
              refine wk_id ?_
              exact hn2 ((IntKind.i64.wrap (c0_Readers23 + 1)), (ix c3q11 (0 : Int)).Write, (c2q11 ++ ([(ix c3q11 (0 : Int)).Task] : List Int)), (cut c3q11 (1 : Int) ((c3q11.length : Nat) : Int))) _ _ _ (Option.some.inj h).symm (leSt_m [(0, 0), (2, 7), (3, 5)] [] (by simp only [push_cast, seval]) (by simp only [push_cast, seval]) rfl rfl rfl)
            · refine wk_id ?_
              exact hn2 (c0_Readers23, (ix c3q11 (0 : Int)).Write, (c2q11 ++ ([(ix c3q11 (0 : Int)).Task] : List Int)), (cut c3q11 (1 : Int) ((c3q11.length : Nat) : Int))) _ _ _ (Option.some.inj h).symm (leSt_m [(0, 0), (2, 7), (3, 5)] [] (by simp only [push_cast, seval]) (by simp only [push_cast, seval]) rfl rfl rfl)
      · change R2 (.exit 0) _ _ _
        refine ex_cast hx2 (id := 0) ?_
        obtain ⟨r0, h, e0⟩ := map_sx h
        have e1 := hr2 r0 e0.symm
        subst r0
        exact hK363 (c2q11, c0_Readers23, c0_Writer12, c3q11) _ _ _ h (leSt_m [(0, 0), (2, 2), (3, 3)] [] (by simp only [push_cast, seval]) (by simp only [push_cast, seval]) rfl rfl rfl)
  · rintro ⟨c2q9, c0_Readers19, c0_Writer10, c3q9⟩ h
    try dsimp only at h ⊢
    unfold lock_admit_j1 at h
    refine wk_id ?_
    refine seq_np ?_
    refine reg_f ?_
    refine rs 2 [] [] (by kernel_rfl) allP_nil ?_
    refine rf [(2, .own 2 0 c2q9.length)] [(0, .row 24 [iS c0_Readers19, bS c0_Writer10, .own 3 0 c3q9.length]), (1, .dead), (2, .row 3 (fl c2q9)), (3, .row 47 (fl c3q9))] 4 (by kernel_rfl) ?_
    refine wk_id ?_
    obtain rfl := Option.some.inj h
    refine ret_at (.own 2 0 c2q9.length) (by kernel_rfl) ?_
    exact ret_e [(0, 0), (2, 2), (3, 3)] [] (by simp only [push_cast, seval]) (by simp only [push_cast, seval]) rfl rfl rfl

set_option maxRecDepth 100000 in
set_option maxHeartbeats 10000000 in
theorem lock_Leave_spec (l : Lock) (write : Bool) (r : Int × Bool × Bool × Fault × (List Want) × (List Int)) (h : lock_Leave l write = some r) : SpecW Try.prog 9 [.agg (Enc.cells l), bS write] [] 0 (fun x h n => x = .tup [.agg [iS r.1, bS r.2.1, .own 0 0 r.2.2.2.2.1.length], .own 1 0 r.2.2.2.2.2.length, bS r.2.2.1, .agg (Enc.cells r.2.2.2.1)] ∧ h = [(0, .row 47 (fl r.2.2.2.2.1)), (1, .row 3 (fl r.2.2.2.2.2))] ∧ n = 2) := by
  unfold lock_Leave at h
  refine spec_of (draw_ok _) Try.func9 rfl (by decide) rfl (by kernel_rfl) ?_
  refine seq_np ?_
  refine reg_f ?_
  refine rs 5 [] [] (by kernel_rfl) allP_nil ?_
  refine rf [(1, bS write), (2, .ptr 0 0), (4, .ptr 1 0), (7, .ptr 2 0)] [(0, .row 24 (Enc.cells l)), (1, .row 24 [iS 0, bS false, .v (.slice none 0 0)]), (2, .row 28 [iS 0, iS 0])] 3 (by kernel_rfl) ?_
  refine wk_id ?_
  refine seq_np ?_
  refine seq_np ?_
  refine reg_f ?_
  refine rs 1 [] [] (by kernel_rfl) allP_nil ?_
  obtain ⟨r420, hr420, h⟩ := bind_sx h
  refine run_call 20 [.agg (Enc.cells l)] (some 12) (by kernel_rfl) ?_
  refine call_0 (lock_Check_spec l r420 hr420) (by simp only [push_cast, seval]) (by simp only [push_cast, seval]) ?_
  refine back_f ?_
  refine rs 2 [] [] (by kernel_rfl) allP_nil ?_
  refine rf [(1, bS write), (2, .ptr 0 0), (4, .ptr 1 0), (7, .ptr 2 0), (8, .ptr 3 0)] [(0, .row 24 (Enc.cells l)), (1, .row 24 [iS 0, bS false, .v (.slice none 0 0)]), (2, .row 28 [iS 0, iS 0]), (3, .row 28 (Enc.cells r420))] 4 (by kernel_rfl) ?_
  refine wk_id ?_
  refine seq_np ?_
  refine reg_f ?_
  refine rs 3 [] [] (by kernel_rfl) allP_nil ?_
  refine rf [(1, bS write), (2, .ptr 0 0), (4, .ptr 1 0), (7, .ptr 2 0), (8, .ptr 3 0), (15, bS (r420.Code != 0))] [(0, .row 24 (Enc.cells l)), (1, .row 24 [iS 0, bS false, .v (.slice none 0 0)]), (2, .row 28 [iS 0, iS 0]), (3, .row 28 (Enc.cells r420))] 4 (by kernel_rfl) ?_
  refine wk_id ?_
  refine cond_sx h (by kernel_rfl) (fun g447 h => ?_) (fun g447 h => ?_)
  · refine seq_np ?_
    refine reg_t ?_
    refine rs 6 [] [] (by kernel_rfl) allP_nil ?_
    refine rt [(4, .ptr 1 0), (5, .v (.slice none 0 0)), (6, bS false), (7, .ptr 2 0)] [(0, .row 24 (Enc.cells l)), (1, .row 24 [iS 0, bS false, .v (.slice none 0 0)]), (2, .row 28 (Enc.cells r420)), (3, .row 28 (Enc.cells r420))] 10 follows (by kernel_rfl) ?_
    refine wk_id ?_
    obtain rfl := Option.some.inj h
    refine ret_at (.tup [.agg [iS 0, bS false, .v (.slice none 0 0)], .v (.slice none 0 0), bS false, .agg (Enc.cells r420)]) (by kernel_rfl) ?_
    exact ret_e [] [] (by simp only [push_cast, seval]) (by simp only [push_cast, seval]) rfl rfl rfl
  · refine wk_id ?_
    refine seq_np ?_
    refine seq_cut (A := Unit) (fun _ => ([(1, bS write), (2, .ptr 0 0), (4, .ptr 1 0), (7, .ptr 2 0), (32, bS (bif write then ((!l.Writer) || ((!write) && (l.Readers == 0))) else ((!write) && (l.Readers == 0))))], [(0, .row 24 (Enc.cells l)), (1, .row 24 [iS 0, bS false, .v (.slice none 0 0)]), (2, .row 28 [iS 0, iS 0]), (3, .row 28 (Enc.cells r420))], 4)) (fun _ => True) (fun K431 hK431 => ?_) (fun _ _ => ?_)
    · refine reg_f ?_
      refine rs 2 [] [] (by kernel_rfl) allP_nil ?_
      refine run_split 19 write (.inl (by kernel_rfl)) (fun g432 => ?_) (fun g432 => ?_)
      · refine rs 5 [] [] (by kernel_rfl) allP_nil ?_
        refine run_split 24 (!l.Writer) (.inl (by kernel_rfl)) (fun g433 => ?_) (fun g433 => ?_)
        · refine rs 8 [] [] (by kernel_rfl) allP_nil ?_
          refine rf [(1, bS write), (2, .ptr 0 0), (4, .ptr 1 0), (7, .ptr 2 0), (32, bS true)] [(0, .row 24 (Enc.cells l)), (1, .row 24 [iS 0, bS false, .v (.slice none 0 0)]), (2, .row 28 [iS 0, iS 0]), (3, .row 28 (Enc.cells r420))] 4 (by kernel_rfl) ?_
          exact hK431 () _ _ _ trivial (leSt_m [(0, 0), (1, 1), (2, 2), (3, 3)] [] (by first | ((try simp only [g432, g433]) <;> simp only [push_cast, seval]; done) | (exfalso; clear h; simp_all)) (by first | ((try simp only [g432, g433]) <;> simp only [push_cast, seval]; done) | (exfalso; clear h; simp_all)) rfl rfl rfl)
        · refine rs 3 [] [] (by kernel_rfl) allP_nil ?_
          refine run_split 27 (!write) (.inr (by kernel_rfl)) (fun g434 => ?_) (fun g434 => ?_)
          · refine rn 10 [(1, bS write), (2, .ptr 0 0), (4, .ptr 1 0), (7, .ptr 2 0), (24, bS false), (27, .gd true (bS true))] [(0, .row 24 (Enc.cells l)), (1, .row 24 [iS 0, bS false, .v (.slice none 0 0)]), (2, .row 28 [iS 0, iS 0]), (3, .row 28 (Enc.cells r420))] 4 (by kernel_rfl) ?_
            refine rs 5 [] [] (by kernel_rfl) allP_nil ?_
            refine rf [(1, bS write), (2, .ptr 0 0), (4, .ptr 1 0), (7, .ptr 2 0), (32, bS (l.Readers == 0))] [(0, .row 24 (Enc.cells l)), (1, .row 24 [iS 0, bS false, .v (.slice none 0 0)]), (2, .row 28 [iS 0, iS 0]), (3, .row 28 (Enc.cells r420))] 4 (by kernel_rfl) ?_
            exact hK431 () _ _ _ trivial (leSt_m [(0, 0), (1, 1), (2, 2), (3, 3)] [] (by first | ((try simp only [g432, g433, g434]) <;> simp only [push_cast, seval]; done) | (exfalso; clear h; simp_all)) (by first | ((try simp only [g432, g433, g434]) <;> simp only [push_cast, seval]; done) | (exfalso; clear h; simp_all)) rfl rfl rfl)
          · refine rn 10 [(1, bS write), (2, .ptr 0 0), (4, .ptr 1 0), (7, .ptr 2 0), (24, bS false), (27, .gd true (bS false))] [(0, .row 24 (Enc.cells l)), (1, .row 24 [iS 0, bS false, .v (.slice none 0 0)]), (2, .row 28 [iS 0, iS 0]), (3, .row 28 (Enc.cells r420))] 4 (by kernel_rfl) ?_
            refine rs 5 [] [] (by kernel_rfl) allP_nil ?_
            refine rf [(1, bS write), (2, .ptr 0 0), (4, .ptr 1 0), (7, .ptr 2 0), (32, bS false)] [(0, .row 24 (Enc.cells l)), (1, .row 24 [iS 0, bS false, .v (.slice none 0 0)]), (2, .row 28 [iS 0, iS 0]), (3, .row 28 (Enc.cells r420))] 4 (by kernel_rfl) ?_
            exact hK431 () _ _ _ trivial (leSt_m [(0, 0), (1, 1), (2, 2), (3, 3)] [] (by first | ((try simp only [g432, g433, g434]) <;> simp only [push_cast, seval]; done) | (exfalso; clear h; simp_all)) (by first | ((try simp only [g432, g433, g434]) <;> simp only [push_cast, seval]; done) | (exfalso; clear h; simp_all)) rfl rfl rfl)
      · refine rs 8 [] [] (by kernel_rfl) allP_nil ?_
        refine run_split 27 (!write) (.inr (by kernel_rfl)) (fun g435 => ?_) (fun g435 => ?_)
        · refine rs 5 [] [] (by kernel_rfl) allP_nil ?_
          refine rf [(1, bS write), (2, .ptr 0 0), (4, .ptr 1 0), (7, .ptr 2 0), (32, bS (l.Readers == 0))] [(0, .row 24 (Enc.cells l)), (1, .row 24 [iS 0, bS false, .v (.slice none 0 0)]), (2, .row 28 [iS 0, iS 0]), (3, .row 28 (Enc.cells r420))] 4 (by kernel_rfl) ?_
          exact hK431 () _ _ _ trivial (leSt_m [(0, 0), (1, 1), (2, 2), (3, 3)] [] (by first | ((try simp only [g432, g435]) <;> simp only [push_cast, seval]; done) | (exfalso; clear h; simp_all)) (by first | ((try simp only [g432, g435]) <;> simp only [push_cast, seval]; done) | (exfalso; clear h; simp_all)) rfl rfl rfl)
        · refine rs 5 [] [] (by kernel_rfl) allP_nil ?_
          refine rf [(1, bS write), (2, .ptr 0 0), (4, .ptr 1 0), (7, .ptr 2 0), (32, bS false)] [(0, .row 24 (Enc.cells l)), (1, .row 24 [iS 0, bS false, .v (.slice none 0 0)]), (2, .row 28 [iS 0, iS 0]), (3, .row 28 (Enc.cells r420))] 4 (by kernel_rfl) ?_
          exact hK431 () _ _ _ trivial (leSt_m [(0, 0), (1, 1), (2, 2), (3, 3)] [] (by first | ((try simp only [g432, g435]) <;> simp only [push_cast, seval]; done) | (exfalso; clear h; simp_all)) (by first | ((try simp only [g432, g435]) <;> simp only [push_cast, seval]; done) | (exfalso; clear h; simp_all)) rfl rfl rfl)
    · dsimp only
      refine cond_sx h (by kernel_rfl) (fun g446 h => ?_) (fun g446 h => ?_)
      · refine seq_np ?_
        refine reg_f ?_
        refine rs 1 [] [] (by kernel_rfl) allP_nil ?_
        obtain ⟨r437, hr437, h⟩ := bind_sx h
        refine call_x (lock_copied_spec l r437 hr437) (args := [.agg (Enc.cells l)]) (dst := (some 34)) (by kernel_rfl) [(0, .row 24 (Enc.cells l)), (1, .row 24 [iS 0, bS false, .v (.slice none 0 0)]), (2, .row 28 [iS 0, iS 0]), (3, .row 28 (Enc.cells r420))] 4 (by kernel_rfl) [] [] (.ptr 4 0) [(4, .row 24 [iS r437.1, bS r437.2.1, .own 5 0 r437.2.2.length]), (5, .row 47 (fl r437.2.2))] (by simp only [push_cast, seval]) (by simp only [push_cast, seval]) (by kernel_rfl) (.inl rfl) (by simp only [push_cast, seval]) (by simp only [push_cast, seval]) ?_
        refine rs 7 [] [] (by kernel_rfl) allP_nil ?_
        refine rf [(4, .ptr 1 0), (5, .v (.slice none 0 0)), (6, bS true), (7, .ptr 2 0)] [(0, .row 24 (Enc.cells l)), (1, .row 24 [iS r437.1, bS r437.2.1, .own 5 0 r437.2.2.length]), (2, .row 28 [iS 0, iS 0]), (3, .row 28 (Enc.cells r420)), (4, .row 24 [iS r437.1, bS r437.2.1, .own 5 0 r437.2.2.length]), (5, .row 47 (fl r437.2.2))] 6 (by kernel_rfl) ?_
        refine wk_id ?_
        obtain rfl := Option.some.inj h
        refine ret_at (.tup [.agg [iS r437.1, bS r437.2.1, .own 5 0 r437.2.2.length], .v (.slice none 0 0), bS true, .agg [iS 0, iS 0]]) (by kernel_rfl) ?_
        exact ret_e [(0, 5)] [] (by simp only [push_cast, seval]) (by simp only [push_cast, seval]) rfl rfl rfl
      · refine wk_id ?_
        refine seq_np ?_
        refine reg_f ?_
        refine rs 1 [] [] (by kernel_rfl) allP_nil ?_
        obtain ⟨r439, hr439, h⟩ := bind_sx h
        refine call_x (lock_copied_spec l r439 hr439) (args := [.agg (Enc.cells l)]) (dst := (some 39)) (by kernel_rfl) [(0, .row 24 (Enc.cells l)), (1, .row 24 [iS 0, bS false, .v (.slice none 0 0)]), (2, .row 28 [iS 0, iS 0]), (3, .row 28 (Enc.cells r420))] 4 (by kernel_rfl) [] [] (.ptr 4 0) [(4, .row 24 [iS r439.1, bS r439.2.1, .own 5 0 r439.2.2.length]), (5, .row 47 (fl r439.2.2))] (by simp only [push_cast, seval]) (by simp only [push_cast, seval]) (by kernel_rfl) (.inl rfl) (by simp only [push_cast, seval]) (by simp only [push_cast, seval]) ?_
        refine rs 1 [] [] (by kernel_rfl) allP_nil ?_
        refine rf [(1, bS write), (4, .ptr 1 0), (7, .ptr 2 0), (9, .ptr 4 0)] [(0, .row 24 (Enc.cells l)), (1, .row 24 [iS 0, bS false, .v (.slice none 0 0)]), (2, .row 28 [iS 0, iS 0]), (3, .row 28 (Enc.cells r420)), (4, .row 24 [iS r439.1, bS r439.2.1, .own 5 0 r439.2.2.length]), (5, .row 47 (fl r439.2.2))] 6 (by kernel_rfl) ?_
        refine wk_id ?_
        refine seq_cut (A := Int × Bool × (List Want)) (fun a => ([(4, .ptr 0 0), (7, .ptr 1 0), (9, .ptr 2 0)], [(0, .row 24 [iS 0, bS false, .v (.slice none 0 0)]), (1, .row 28 [iS 0, iS 0]), (2, .row 24 [iS a.1, bS a.2.1, .own 3 0 a.2.2.length]), (3, .row 47 (fl a.2.2))], 4)) (fun a => (lock_Leave_j1 a.1 a.2.1 a.2.2) = some r) (fun K442 hK442 => ?_) ?_
        · refine seq_np ?_
          refine reg_f ?_
          refine rs 1 [] [] (by kernel_rfl) allP_nil ?_
          refine rf [(4, .ptr 1 0), (7, .ptr 2 0), (9, .ptr 4 0), (40, bS write)] [(0, .row 24 (Enc.cells l)), (1, .row 24 [iS 0, bS false, .v (.slice none 0 0)]), (2, .row 28 [iS 0, iS 0]), (3, .row 28 (Enc.cells r420)), (4, .row 24 [iS r439.1, bS r439.2.1, .own 5 0 r439.2.2.length]), (5, .row 47 (fl r439.2.2))] 6 (by kernel_rfl) ?_
          refine wk_id ?_
          refine cond_sx h (by kernel_rfl) (fun g443 h => ?_) (fun g443 h => ?_)
          · refine reg_f ?_
            refine rs 4 [] [] (by kernel_rfl) allP_nil ?_
            refine rf [(4, .ptr 1 0), (7, .ptr 2 0), (9, .ptr 4 0)] [(0, .row 24 (Enc.cells l)), (1, .row 24 [iS 0, bS false, .v (.slice none 0 0)]), (2, .row 28 [iS 0, iS 0]), (3, .row 28 (Enc.cells r420)), (4, .row 24 [iS r439.1, bS false, .own 5 0 r439.2.2.length]), (5, .row 47 (fl r439.2.2))] 6 (by kernel_rfl) ?_
            exact hK442 (r439.1, false, r439.2.2) _ _ _ h (leSt_m [(0, 1), (1, 2), (2, 4), (3, 5)] [] (by simp only [push_cast, seval]) (by simp only [push_cast, seval]) rfl rfl rfl)
          · refine reg_f ?_
            refine rs 8 [] [] (by kernel_rfl) allP_nil ?_
            refine rf [(4, .ptr 1 0), (7, .ptr 2 0), (9, .ptr 4 0)] [(0, .row 24 (Enc.cells l)), (1, .row 24 [iS 0, bS false, .v (.slice none 0 0)]), (2, .row 28 [iS 0, iS 0]), (3, .row 28 (Enc.cells r420)), (4, .row 24 [iS (IntKind.i64.wrap (r439.1 - 1)), bS r439.2.1, .own 5 0 r439.2.2.length]), (5, .row 47 (fl r439.2.2))] 6 (by kernel_rfl) ?_
            exact hK442 ((IntKind.i64.wrap (r439.1 - 1)), r439.2.1, r439.2.2) _ _ _ h (leSt_m [(0, 1), (1, 2), (2, 4), (3, 5)] [] (by simp only [push_cast, seval]) (by simp only [push_cast, seval]) rfl rfl rfl)
        · rintro ⟨c2_Readers1, c2_Writer1, c3q1⟩ h
          try dsimp only at h ⊢
          unfold lock_Leave_j1 at h
          refine seq_np ?_
          refine reg_f ?_
          refine rs 1 [] [] (by kernel_rfl) allP_nil ?_
          obtain ⟨r445, hr445, h⟩ := bind_sx h
          refine call_x (lock_admit_spec c2_Readers1 c2_Writer1 c3q1 r445 hr445) (args := [.ptr 2 0]) (dst := (some 52)) (by kernel_rfl) [(0, .row 24 [iS 0, bS false, .v (.slice none 0 0)]), (1, .row 28 [iS 0, iS 0]), (2, .row 24 [iS c2_Readers1, bS c2_Writer1, .own 3 0 c3q1.length]), (3, .row 47 (fl c3q1))] 4 (by kernel_rfl) [(0, 2), (1, 3)] [] (.own 6 0 r445.1.length) [(2, .row 24 [iS r445.2.1, bS r445.2.2.1, .own 7 0 r445.2.2.2.length]), (3, .dead), (6, .row 3 (fl r445.1)), (7, .row 47 (fl r445.2.2.2)), (2, .dead), (3, .dead)] (by simp only [push_cast, seval]) (by simp only [push_cast, seval]) (by kernel_rfl) (.inl rfl) (by simp only [push_cast, seval]) (by simp only [push_cast, seval]) ?_
          refine rs 1 [] [] (by kernel_rfl) allP_nil ?_
          refine rf [(4, .ptr 0 0), (7, .ptr 1 0), (9, .ptr 2 0), (10, .own 6 0 r445.1.length)] [(0, .row 24 [iS 0, bS false, .v (.slice none 0 0)]), (1, .row 28 [iS 0, iS 0]), (2, .row 24 [iS r445.2.1, bS r445.2.2.1, .own 7 0 r445.2.2.2.length]), (3, .dead), (6, .row 3 (fl r445.1)), (7, .row 47 (fl r445.2.2.2))] 8 (by kernel_rfl) ?_
          refine wk_id ?_
          refine seq_np ?_
          refine reg_f ?_
          refine rs 9 [] [] (by kernel_rfl) allP_nil ?_
          refine rf [(4, .ptr 0 0), (5, .own 6 0 r445.1.length), (6, bS false), (7, .ptr 1 0)] [(0, .row 24 [iS r445.2.1, bS r445.2.2.1, .own 7 0 r445.2.2.2.length]), (1, .row 28 [iS 0, iS 0]), (2, .row 24 [iS r445.2.1, bS r445.2.2.1, .own 7 0 r445.2.2.2.length]), (3, .dead), (6, .row 3 (fl r445.1)), (7, .row 47 (fl r445.2.2.2))] 8 (by kernel_rfl) ?_
          refine wk_id ?_
          obtain rfl := Option.some.inj h
          refine ret_at (.tup [.agg [iS r445.2.1, bS r445.2.2.1, .own 7 0 r445.2.2.2.length], .own 6 0 r445.1.length, bS false, .agg [iS 0, iS 0]]) (by kernel_rfl) ?_
          exact ret_e [(0, 7), (1, 6)] [] (by simp only [push_cast, seval]) (by simp only [push_cast, seval]) rfl rfl rfl

set_option maxRecDepth 100000 in
set_option maxHeartbeats 10000000 in
theorem taskmillref_Ints_spec (xa : (List Int)) (b : (List Int)) (r : Bool) (h : taskmillref_Ints xa b = some r) : SpecW Try.prog 16 [.sl xa.length (fl xa), .sl b.length (fl b)] [] 0 (fun x h n => x = bS r ∧ h = [] ∧ n = 0) := by
  unfold taskmillref_Ints at h
  refine spec_of (draw_ok _) Try.func16 rfl (by decide) rfl (by kernel_rfl) ?_
  refine seq_np ?_
  refine reg_f ?_
  refine rs 1 [] [] (by kernel_rfl) allP_nil ?_
  refine rf [(0, .sl xa.length (fl xa)), (1, .sl b.length (fl b))] [] 0 (by kernel_rfl) ?_
  refine wk_id ?_
  refine seq_np ?_
  refine seq_np ?_
  refine reg_f ?_
  refine rs 5 [] [] (by kernel_rfl) allP_nil ?_
  refine rf [(0, .sl xa.length (fl xa)), (1, .sl b.length (fl b)), (10, bS (((xa.length : Nat) : Int) != ((b.length : Nat) : Int)))] [] 0 (by kernel_rfl) ?_
  refine wk_id ?_
  refine cond_sx h (by kernel_rfl) (fun g544 h => ?_) (fun g544 h => ?_)
  · refine seq_np ?_
    refine reg_f ?_
    refine rs 1 [] [] (by kernel_rfl) allP_nil ?_
    refine rf [(4, bS false)] [] 0 (by kernel_rfl) ?_
    refine wk_id ?_
    obtain rfl := Option.some.inj h
    refine ret_at (bS false) (by kernel_rfl) ?_
    exact ret_e [] [] (by simp only [push_cast, seval]) (by simp only [push_cast, seval]) rfl rfl rfl
  · refine wk_id ?_
    refine seq_np ?_
    refine seq_np ?_
    refine reg_f ?_
    refine rs 1 [] [] (by kernel_rfl) allP_nil ?_
    refine rf [(0, .sl xa.length (fl xa)), (1, .sl b.length (fl b)), (5, iS 0)] [] 0 (by kernel_rfl) ?_
    refine wk_id ?_
    refine block_np ?_
    refine loop_sx (S := Int) (fun a => ([(0, .sl xa.length (fl xa)), (1, .sl b.length (fl b)), (5, iS a)], [], 0)) h (leSt_m [] [] (by simp only [push_cast, seval]) (by simp only [push_cast, seval]) rfl rfl rfl) ?_
    rintro i7 o2 R2 h hr2 hn2 hx2 ht2
    try dsimp only at h hn2 ⊢
    unfold taskmillref_Ints_l1 at h
    try dsimp only at h
    refine seq_np ?_
    refine seq_np ?_
    refine reg_f ?_
    refine rs 4 [] [] (by kernel_rfl) allP_nil ?_
    refine rf [(0, .sl xa.length (fl xa)), (1, .sl b.length (fl b)), (5, iS i7), (14, bS (decide (i7 < ((xa.length : Nat) : Int))))] [] 0 (by kernel_rfl) ?_
    refine wk_id ?_
    refine cond_sx h (by kernel_rfl) (fun g543 h => ?_) (fun g543 h => ?_)
    · refine wk_id ?_
      refine seq_np ?_
      refine block_np ?_
      refine chk_sx h (fun g539 h => ?_)
      refine chk_sx h (fun g541 h => ?_)
      refine seq_np ?_
      refine reg_t ?_
      have k538 : 0 ≤ i7 ∧ i7 < ((xa.length : Nat) : Int) := by first | simpa only [Bool.and_eq_true, decide_eq_true_eq, bne_iff_ne, ne_eq] using g539 | (simp at g539 ⊢; omega)
      have k540 : 0 ≤ i7 ∧ i7 < ((b.length : Nat) : Int) := by first | simpa only [Bool.and_eq_true, decide_eq_true_eq, bne_iff_ne, ne_eq] using g541 | (simp at g541 ⊢; omega)
      refine rs 9 [none, none, some ⟨.iptr (fl xa) ((i7).toNat * 1), [], 2, []⟩, some ⟨iS (ix xa i7), [], 3, []⟩, none, none, some ⟨.iptr (fl b) ((i7).toNat * 1), [], 6, []⟩, some ⟨iS (ix b i7), [], 7, []⟩] _ (by kernel_rfl) (allP_cons (ob_ld b i7 1 0 ((i7).toNat * 1) k540 rfl (by decide) (by first | rfl | omega) (dflS Try.prog 3) (iS (ix b i7)) rfl 7 []) (allP_cons (ob_ix_l b 1 6 i7 k540) (allP_cons (ob_ld xa i7 1 0 ((i7).toNat * 1) k538 rfl (by decide) (by first | rfl | omega) (dflS Try.prog 3) (iS (ix xa i7)) rfl 3 []) (allP_cons (ob_ix_l xa 1 2 i7 k538) allP_nil)))) ?_
      refine rt [(0, .sl xa.length (fl xa)), (1, .sl b.length (fl b)), (5, iS i7), (25, bS ((ix xa i7) != (ix b i7)))] [] 9 follows (by kernel_rfl) ?_
      refine wk_id ?_
      refine cond_sx h (by kernel_rfl) (fun g542 h => ?_) (fun g542 h => ?_)
      · refine seq_np ?_
        refine reg_f ?_
        refine rs 1 [] [] (by kernel_rfl) allP_nil ?_
        refine rf [(4, bS false)] [] 9 (by kernel_rfl) ?_
        refine wk_id ?_
        refine rt_cast ht2 ?_
        obtain ⟨r0, h, e0⟩ := map_sx h
        have e1 := hr2 r0 e0.symm
        subst r0
        obtain rfl := Option.some.inj h
        refine ret_at (bS false) (by kernel_rfl) ?_
        exact ret_e [] [] (by simp only [push_cast, seval]) (by simp only [push_cast, seval]) rfl rfl rfl
      · refine wk_id ?_
        refine wk_id ?_
        refine reg_f ?_
        refine rs 3 [] [] (by kernel_rfl) allP_nil ?_
        refine rf [(0, .sl xa.length (fl xa)), (1, .sl b.length (fl b)), (5, iS (IntKind.i64.wrap (i7 + 1)))] [] 9 (by kernel_rfl) ?_
        exact hn2 ((IntKind.i64.wrap (i7 + 1))) _ _ _ (Option.some.inj h).symm (leSt_m [] [] (by simp only [push_cast, seval]) (by simp only [push_cast, seval]) rfl rfl rfl)
    · change R2 (.exit 0) _ _ _
      refine ex_cast hx2 (id := 0) ?_
      obtain ⟨r0, h, e0⟩ := map_sx h
      have e1 := hr2 r0 e0.symm
      subst r0
      refine wk_id ?_
      refine wk_id ?_
      refine seq_np ?_
      refine reg_f ?_
      refine rs 1 [] [] (by kernel_rfl) allP_nil ?_
      refine rf [(4, bS true)] [] 0 (by kernel_rfl) ?_
      refine wk_id ?_
      obtain rfl := Option.some.inj h
      refine ret_at (bS true) (by kernel_rfl) ?_
      exact ret_e [] [] (by simp only [push_cast, seval]) (by simp only [push_cast, seval]) rfl rfl rfl

set_option maxRecDepth 100000 in
set_option maxHeartbeats 10000000 in
theorem taskmilllaw_lockBegun_spec (r : Bool) (h : taskmilllaw_lockBegun = some r) : SpecW Try.prog 8 [] [] 0 (fun x h n => x = bS r ∧ h = [] ∧ n = 0) := by
  unfold taskmilllaw_lockBegun at h
  refine spec_of (draw_ok _) Try.func8 rfl (by decide) rfl (by kernel_rfl) ?_
  refine seq_np ?_
  refine reg_f ?_
  refine rs 1 [] [] (by kernel_rfl) allP_nil ?_
  refine rf [] [] 0 (by kernel_rfl) ?_
  refine wk_id ?_
  refine seq_np ?_
  refine reg_f ?_
  refine rs 7 [] [] (by kernel_rfl) allP_nil ?_
  refine rf [(1, .ptr 1 0)] [(0, .row 47 (fl ([(Want.mk 2 false 0), (Want.mk 3 true 0), (Want.mk 4 false 0)] : List Want))), (1, .row 24 [iS 0, bS true, .own 0 0 ([(Want.mk 2 false 0), (Want.mk 3 true 0), (Want.mk 4 false 0)] : List Want).length])] 2 (by kernel_rfl) ?_
  refine wk_id ?_
  refine seq_np ?_
  refine reg_f ?_
  refine rs 1 [] [] (by kernel_rfl) allP_nil ?_
  obtain ⟨r551, hr551, h⟩ := bind_sx h
  refine call_x (lock_Leave_spec (Lock.mk 0 true ([(Want.mk 2 false 0), (Want.mk 3 true 0), (Want.mk 4 false 0)] : List Want)) true r551 hr551) (args := [.agg [iS 0, bS true, .own 0 0 ([(Want.mk 2 false 0), (Want.mk 3 true 0), (Want.mk 4 false 0)] : List Want).length], bS true]) (dst := (some 13)) (by kernel_rfl) [(0, .row 47 (fl ([(Want.mk 2 false 0), (Want.mk 3 true 0), (Want.mk 4 false 0)] : List Want))), (1, .row 24 [iS 0, bS true, .own 0 0 ([(Want.mk 2 false 0), (Want.mk 3 true 0), (Want.mk 4 false 0)] : List Want).length])] 2 (by kernel_rfl) [] [0] (.tup [.agg [iS r551.1, bS r551.2.1, .own 2 0 r551.2.2.2.2.1.length], .own 3 0 r551.2.2.2.2.2.length, bS r551.2.2.1, .agg (Enc.cells r551.2.2.2.1)]) [(2, .row 47 (fl r551.2.2.2.2.1)), (3, .row 3 (fl r551.2.2.2.2.2))] (by simp only [push_cast, seval]) (by simp only [push_cast, seval]) (by kernel_rfl) (.inr ⟨by simp only [push_cast, seval], by simp only [push_cast, seval]⟩) (by simp only [push_cast, seval]) (by simp only [push_cast, seval]) ?_
  refine rs 11 [] [] (by kernel_rfl) allP_nil ?_
  refine rf [(2, .ptr 4 0), (3, .own 3 0 r551.2.2.2.2.2.length), (4, bS r551.2.2.1), (5, .ptr 5 0)] [(0, .row 47 (fl ([(Want.mk 2 false 0), (Want.mk 3 true 0), (Want.mk 4 false 0)] : List Want))), (1, .row 24 [iS 0, bS true, .own 0 0 ([(Want.mk 2 false 0), (Want.mk 3 true 0), (Want.mk 4 false 0)] : List Want).length]), (2, .row 47 (fl r551.2.2.2.2.1)), (3, .row 3 (fl r551.2.2.2.2.2)), (4, .row 24 [iS r551.1, bS r551.2.1, .own 2 0 r551.2.2.2.2.1.length]), (5, .row 28 (Enc.cells r551.2.2.2.1))] 6 (by kernel_rfl) ?_
  refine wk_id ?_
  refine seq_cut (A := Bool) (fun a => ([(0, bS a)], [], 0)) (fun a => (taskmilllaw_lockBegun_j1 a) = some r) (fun K558 hK558 => ?_) ?_
  · refine reg_f ?_
    refine rs 4 [] [] (by kernel_rfl) allP_nil ?_
    refine run_br h 21 (.inl (by kernel_rfl)) (fun g559 h => ?_) (fun g559 h => ?_)
    · refine rs 4 [] [] (by kernel_rfl) allP_nil ?_
      refine run_br h 25 (.inl (by kernel_rfl)) (fun g560 h => ?_) (fun g560 h => ?_)
      · refine rs 2 [] [] (by kernel_rfl) allP_nil ?_
        obtain ⟨r561, hr561, h⟩ := bind_sx h
        refine call_x (taskmillref_Ints_spec r551.2.2.2.2.2 ([2] : List Int) r561 hr561) (args := [.own 3 0 r551.2.2.2.2.2.length, .own 6 0 ([2] : List Int).length]) (dst := (some 28)) (by kernel_rfl) [(0, .row 47 (fl ([(Want.mk 2 false 0), (Want.mk 3 true 0), (Want.mk 4 false 0)] : List Want))), (1, .row 24 [iS 0, bS true, .own 0 0 ([(Want.mk 2 false 0), (Want.mk 3 true 0), (Want.mk 4 false 0)] : List Want).length]), (2, .row 47 (fl r551.2.2.2.2.1)), (3, .row 3 (fl r551.2.2.2.2.2)), (4, .row 24 [iS r551.1, bS r551.2.1, .own 2 0 r551.2.2.2.2.1.length]), (5, .row 28 (Enc.cells r551.2.2.2.1)), (6, .row 3 (fl ([2] : List Int)))] 7 (by kernel_rfl) [] [3, 6] (bS r561) [] (by simp only [push_cast, seval]) (by simp only [push_cast, seval]) (by kernel_rfl) (.inr ⟨by simp only [push_cast, seval], by simp only [push_cast, seval]⟩) (by simp only [push_cast, seval]) (by simp only [push_cast, seval]) ?_
        refine rn 11 [(2, .ptr 4 0), (25, bS true), (28, bS r561)] [(0, .row 47 (fl ([(Want.mk 2 false 0), (Want.mk 3 true 0), (Want.mk 4 false 0)] : List Want))), (1, .row 24 [iS 0, bS true, .own 0 0 ([(Want.mk 2 false 0), (Want.mk 3 true 0), (Want.mk 4 false 0)] : List Want).length]), (2, .row 47 (fl r551.2.2.2.2.1)), (3, .row 3 (fl r551.2.2.2.2.2)), (4, .row 24 [iS r551.1, bS r551.2.1, .own 2 0 r551.2.2.2.2.1.length]), (5, .row 28 (Enc.cells r551.2.2.2.1)), (6, .row 3 (fl ([2] : List Int)))] 7 (by kernel_rfl) ?_
        refine rs 2 [] [] (by kernel_rfl) allP_nil ?_
        refine run_br h 30 (.inl (by kernel_rfl)) (fun g562 h => ?_) (fun g562 h => ?_)
        · refine rs 5 [] [] (by kernel_rfl) allP_nil ?_
          refine run_br h 35 (.inl (by kernel_rfl)) (fun g563 h => ?_) (fun g563 h => ?_)
          · refine rs 6 [] [] (by kernel_rfl) allP_nil ?_
            refine rf [(0, bS (((r551.2.2.2.2.1.length : Nat) : Int) == 2))] [(0, .row 47 (fl ([(Want.mk 2 false 0), (Want.mk 3 true 0), (Want.mk 4 false 0)] : List Want))), (1, .row 24 [iS 0, bS true, .own 0 0 ([(Want.mk 2 false 0), (Want.mk 3 true 0), (Want.mk 4 false 0)] : List Want).length]), (2, .row 47 (fl r551.2.2.2.2.1)), (3, .row 3 (fl r551.2.2.2.2.2)), (4, .row 24 [iS r551.1, bS r551.2.1, .own 2 0 r551.2.2.2.2.1.length]), (5, .row 28 (Enc.cells r551.2.2.2.1)), (6, .row 3 (fl ([2] : List Int)))] 7 (by kernel_rfl) ?_
            exact hK558 ((((r551.2.2.2.2.1.length : Nat) : Int) == 2)) _ _ _ h (leSt_m [] [] (by first | ((try simp only [g559, g560, g562, g563]) <;> simp only [push_cast, seval]; done) | (exfalso; clear h; simp_all)) (by first | ((try simp only [g559, g560, g562, g563]) <;> simp only [push_cast, seval]; done) | (exfalso; clear h; simp_all)) rfl rfl rfl)
          · refine rs 6 [] [] (by kernel_rfl) allP_nil ?_
            refine rf [(0, bS false)] [(0, .row 47 (fl ([(Want.mk 2 false 0), (Want.mk 3 true 0), (Want.mk 4 false 0)] : List Want))), (1, .row 24 [iS 0, bS true, .own 0 0 ([(Want.mk 2 false 0), (Want.mk 3 true 0), (Want.mk 4 false 0)] : List Want).length]), (2, .row 47 (fl r551.2.2.2.2.1)), (3, .row 3 (fl r551.2.2.2.2.2)), (4, .row 24 [iS r551.1, bS r551.2.1, .own 2 0 r551.2.2.2.2.1.length]), (5, .row 28 (Enc.cells r551.2.2.2.1)), (6, .row 3 (fl ([2] : List Int)))] 7 (by kernel_rfl) ?_
            exact hK558 (false) _ _ _ h (leSt_m [] [] (by first | ((try simp only [g559, g560, g562, g563]) <;> simp only [push_cast, seval]; done) | (exfalso; clear h; simp_all)) (by first | ((try simp only [g559, g560, g562, g563]) <;> simp only [push_cast, seval]; done) | (exfalso; clear h; simp_all)) rfl rfl rfl)
        · refine rs 11 [] [] (by kernel_rfl) allP_nil ?_
          refine rf [(0, bS false)] [(0, .row 47 (fl ([(Want.mk 2 false 0), (Want.mk 3 true 0), (Want.mk 4 false 0)] : List Want))), (1, .row 24 [iS 0, bS true, .own 0 0 ([(Want.mk 2 false 0), (Want.mk 3 true 0), (Want.mk 4 false 0)] : List Want).length]), (2, .row 47 (fl r551.2.2.2.2.1)), (3, .row 3 (fl r551.2.2.2.2.2)), (4, .row 24 [iS r551.1, bS r551.2.1, .own 2 0 r551.2.2.2.2.1.length]), (5, .row 28 (Enc.cells r551.2.2.2.1)), (6, .row 3 (fl ([2] : List Int)))] 7 (by kernel_rfl) ?_
          exact hK558 (false) _ _ _ h (leSt_m [] [] (by first | ((try simp only [g559, g560, g562]) <;> simp only [push_cast, seval]; done) | (exfalso; clear h; simp_all)) (by first | ((try simp only [g559, g560, g562]) <;> simp only [push_cast, seval]; done) | (exfalso; clear h; simp_all)) rfl rfl rfl)
      · refine rs 16 [] [] (by kernel_rfl) allP_nil ?_
        refine rf [(0, bS false)] [(0, .row 47 (fl ([(Want.mk 2 false 0), (Want.mk 3 true 0), (Want.mk 4 false 0)] : List Want))), (1, .row 24 [iS 0, bS true, .own 0 0 ([(Want.mk 2 false 0), (Want.mk 3 true 0), (Want.mk 4 false 0)] : List Want).length]), (2, .row 47 (fl r551.2.2.2.2.1)), (3, .row 3 (fl r551.2.2.2.2.2)), (4, .row 24 [iS r551.1, bS r551.2.1, .own 2 0 r551.2.2.2.2.1.length]), (5, .row 28 (Enc.cells r551.2.2.2.1))] 6 (by kernel_rfl) ?_
        exact hK558 (false) _ _ _ h (leSt_m [] [] (by first | ((try simp only [g559, g560]) <;> simp only [push_cast, seval]; done) | (exfalso; clear h; simp_all)) (by first | ((try simp only [g559, g560]) <;> simp only [push_cast, seval]; done) | (exfalso; clear h; simp_all)) rfl rfl rfl)
    · refine rs 20 [] [] (by kernel_rfl) allP_nil ?_
      refine rf [(0, bS false)] [(0, .row 47 (fl ([(Want.mk 2 false 0), (Want.mk 3 true 0), (Want.mk 4 false 0)] : List Want))), (1, .row 24 [iS 0, bS true, .own 0 0 ([(Want.mk 2 false 0), (Want.mk 3 true 0), (Want.mk 4 false 0)] : List Want).length]), (2, .row 47 (fl r551.2.2.2.2.1)), (3, .row 3 (fl r551.2.2.2.2.2)), (4, .row 24 [iS r551.1, bS r551.2.1, .own 2 0 r551.2.2.2.2.1.length]), (5, .row 28 (Enc.cells r551.2.2.2.1))] 6 (by kernel_rfl) ?_
      exact hK558 (false) _ _ _ h (leSt_m [] [] (by (try simp only [g559]) <;> simp only [push_cast, seval]) (by (try simp only [g559]) <;> simp only [push_cast, seval]) rfl rfl rfl)
  · rintro t0q1 h
    try dsimp only at h ⊢
    unfold taskmilllaw_lockBegun_j1 at h
    obtain rfl := Option.some.inj h
    refine ret_at (bS t0q1) (by kernel_rfl) ?_
    exact ret_e [] [] (by simp only [push_cast, seval]) (by simp only [push_cast, seval]) rfl rfl rfl

set_option maxRecDepth 100000 in
set_option maxHeartbeats 10000000 in
theorem taskmilllaw_ownWants_spec (l : (List Want)) (r : (List Want)) (h : taskmilllaw_ownWants l = some r) : SpecW Try.prog 19 [.sl l.length (fl l)] [] 0 (fun x h n => x = .own 0 0 r.length ∧ h = [(0, .row 47 (fl r))] ∧ n = 1) := by
  unfold taskmilllaw_ownWants at h
  refine spec_of (draw_ok _) Try.func19 rfl (by decide) rfl (by kernel_rfl) ?_
  refine seq_np ?_
  refine reg_f ?_
  refine rs 1 [] [] (by kernel_rfl) allP_nil ?_
  refine rf [(0, .sl l.length (fl l))] [] 0 (by kernel_rfl) ?_
  refine wk_id ?_
  refine chk_sx h (fun g572 h => ?_)
  refine seq_np ?_
  refine reg_f ?_
  have k571 : l.length * 24 ≤ 140737488355328 := by first | simpa only [Bool.and_eq_true, decide_eq_true_eq, bne_iff_ne, ne_eq] using g572 | (simp at g572 ⊢; omega)
  refine rs 3 [none, some ⟨.own 0 0 l.length, [(0, .row 47 (fl l))], 1, []⟩] _ (by kernel_rfl) (allP_cons (ob_app0 (P := Try.prog) l 3 24 rfl (fl l) l.length rfl rfl ((fl l).length = l.length * 3) (app_sl l 3 rfl) 47 (by kernel_rfl) (by decide) k571 0 []) allP_nil) ?_
  refine rf [(2, .own 0 0 l.length)] [(0, .row 47 (fl l))] 1 (by kernel_rfl) ?_
  refine wk_id ?_
  obtain rfl := Option.some.inj h
  refine ret_at (.own 0 0 l.length) (by kernel_rfl) ?_
  exact ret_e [(0, 0)] [] (by simp only [push_cast, seval]) (by simp only [push_cast, seval]) rfl rfl rfl

set_option maxRecDepth 100000 in
set_option maxHeartbeats 10000000 in
theorem taskmilllaw_ownLock_spec (l : Lock) (r : Int × Bool × (List Want)) (h : taskmilllaw_ownLock l = some r) : SpecW Try.prog 10 [.agg (Enc.cells l)] [] 0 (fun x h n => x = .agg [iS r.1, bS r.2.1, .own 0 0 r.2.2.length] ∧ h = [(0, .row 47 (fl r.2.2))] ∧ n = 1) := by
  unfold taskmilllaw_ownLock at h
  refine spec_of (draw_ok _) Try.func10 rfl (by decide) rfl (by kernel_rfl) ?_
  refine seq_np ?_
  refine reg_f ?_
  refine rs 2 [] [] (by kernel_rfl) allP_nil ?_
  refine rf [(1, .ptr 0 0), (2, .ptr 1 0)] [(0, .row 24 (Enc.cells l)), (1, .row 24 [iS 0, bS false, .v (.slice none 0 0)])] 2 (by kernel_rfl) ?_
  refine wk_id ?_
  refine seq_np ?_
  refine reg_t ?_
  refine rs 6 [] [] (by kernel_rfl) allP_nil ?_
  obtain ⟨r575, hr575, h⟩ := bind_sx h
  refine call_x (taskmilllaw_ownWants_spec l.Line r575 hr575) (args := [.sl l.Line.length (fl l.Line)]) (dst := (some 9)) (by kernel_rfl) [(0, .row 24 (Enc.cells l)), (1, .row 24 [iS 0, bS false, .v (.slice none 0 0)])] 8 (by kernel_rfl) [] [] (.own 8 0 r575.length) [(8, .row 47 (fl r575))] (by simp only [push_cast, seval]) (by simp only [push_cast, seval]) (by kernel_rfl) (.inl rfl) (by simp only [push_cast, seval]) (by simp only [push_cast, seval]) ?_
  refine rs 2 [] [] (by kernel_rfl) allP_nil ?_
  refine rt [(2, .ptr 1 0)] [(0, .row 24 (Enc.cells l)), (1, .row 24 [iS l.Readers, bS l.Writer, .own 8 0 r575.length]), (8, .row 47 (fl r575))] 12 follows (by kernel_rfl) ?_
  refine wk_id ?_
  obtain rfl := Option.some.inj h
  refine ret_at (.agg [iS l.Readers, bS l.Writer, .own 8 0 r575.length]) (by kernel_rfl) ?_
  exact ret_e [(0, 8)] [] (by simp only [push_cast, seval]) (by simp only [push_cast, seval]) rfl rfl rfl

set_option maxRecDepth 100000 in
set_option maxHeartbeats 10000000 in
theorem lock_Drop_1_spec (w : Want) (c0 : Int) (r : Bool × Int) (h : lock_Drop_1 w c0 = some r) : SpecW Try.prog 28 [.agg (Enc.cells w), .ptr 0 0] [(0, .row 3 [iS c0])] 1 (fun x h n => x = bS r.1 ∧ h = [(0, .row 3 [iS r.2])] ∧ n = 1) := by
  unfold lock_Drop_1 at h
  refine spec_of (draw_ok _) Try.func28 rfl (by decide) rfl (by kernel_rfl) ?_
  refine seq_np ?_
  refine reg_f ?_
  refine rs 2 [] [] (by kernel_rfl) allP_nil ?_
  refine rf [(1, .ptr 0 0), (2, .ptr 1 0)] [(0, .row 3 [iS c0]), (1, .row 47 (Enc.cells w))] 2 (by kernel_rfl) ?_
  refine wk_id ?_
  refine seq_np ?_
  refine reg_f ?_
  refine rs 5 [] [] (by kernel_rfl) allP_nil ?_
  refine rf [(3, bS (w.Task == c0))] [(0, .row 3 [iS c0]), (1, .row 47 (Enc.cells w))] 2 (by kernel_rfl) ?_
  refine wk_id ?_
  obtain rfl := Option.some.inj h
  refine ret_at (bS (w.Task == c0)) (by kernel_rfl) ?_
  exact ret_e [(0, 0)] [] (by simp only [push_cast, seval]) (by simp only [push_cast, seval]) rfl rfl rfl

set_option maxRecDepth 100000 in
set_option maxHeartbeats 10000000 in
theorem slices_IndexFunc_Want_spec (s : (List Want)) (c0 : Int) (r : Int × Int) (h : slices_IndexFunc_Want s c0 = some r) : SpecW Try.prog 27 [.sl s.length (fl s), .clo 28 [.ptr 0 0]] [(0, .row 3 [iS c0])] 1 (fun x h n => x = iS r.1 ∧ h = [(0, .row 3 [iS r.2])] ∧ n = 1) := by
  unfold slices_IndexFunc_Want at h
  refine spec_of (draw_ok _) Try.func27 rfl (by decide) rfl (by kernel_rfl) ?_
  refine seq_np ?_
  refine reg_f ?_
  refine rs 1 [] [] (by kernel_rfl) allP_nil ?_
  refine rf [(0, .sl s.length (fl s)), (1, .clo 28 [.ptr 0 0])] [(0, .row 3 [iS c0])] 1 (by kernel_rfl) ?_
  refine wk_id ?_
  refine seq_np ?_
  refine seq_np ?_
  refine reg_f ?_
  refine rs 3 [] [] (by kernel_rfl) allP_nil ?_
  refine rf [(0, .sl s.length (fl s)), (1, .clo 28 [.ptr 0 0]), (7, iS ((s.length : Nat) : Int)), (8, iS 0)] [(0, .row 3 [iS c0])] 1 (by kernel_rfl) ?_
  refine wk_id ?_
  refine block_np ?_
  refine loop_sx (S := Int × Int) (fun a => ([(0, .sl s.length (fl s)), (1, .clo 28 [.ptr 0 0]), (7, iS ((s.length : Nat) : Int)), (8, iS a.1)], [(0, .row 3 [iS a.2])], 1)) h (leSt_m [(0, 0)] [] (by simp only [push_cast, seval]) (by simp only [push_cast, seval]) rfl rfl rfl) ?_
  rintro ⟨t8q7, c0q9⟩ o2 R2 h hr2 hn2 hx2 ht2
  try dsimp only at h hn2 ⊢
  unfold slices_IndexFunc_Want_l1 at h
  try dsimp only at h
  refine seq_np ?_
  refine reg_f ?_
  refine rs 1 [] [] (by kernel_rfl) allP_nil ?_
  refine rf [(0, .sl s.length (fl s)), (1, .clo 28 [.ptr 0 0]), (7, iS ((s.length : Nat) : Int)), (8, iS t8q7), (9, bS (decide (t8q7 < ((s.length : Nat) : Int))))] [(0, .row 3 [iS c0q9])] 1 (by kernel_rfl) ?_
  refine wk_id ?_
  refine seq_np ?_
  refine cond_sx h (by kernel_rfl) (fun g656 h => ?_) (fun g656 h => ?_)
  · refine wk_id ?_
    refine seq_np ?_
    refine block_np ?_
    refine seq_np ?_
    refine reg_f ?_
    refine rs 2 [] [] (by kernel_rfl) allP_nil ?_
    refine rf [(0, .sl s.length (fl s)), (1, .clo 28 [.ptr 0 0]), (5, iS t8q7), (7, iS ((s.length : Nat) : Int)), (8, iS t8q7)] [(0, .row 3 [iS c0q9])] 1 (by kernel_rfl) ?_
    refine wk_id ?_
    refine chk_sx h (fun g653 h => ?_)
    refine seq_np ?_
    refine reg_f ?_
    have k652 : 0 ≤ t8q7 ∧ t8q7 < ((s.length : Nat) : Int) := by first | simpa only [Bool.and_eq_true, decide_eq_true_eq, bne_iff_ne, ne_eq] using g653 | (simp at g653 ⊢; omega)
    refine rs 5 [none, none, none, some ⟨.iptr (fl s) ((t8q7).toNat * 3), [], 1, []⟩, some ⟨.agg (Enc.cells (ix s t8q7)), [], 1, []⟩] _ (by kernel_rfl) (allP_cons (ob_ldw s t8q7 3 ((t8q7).toNat * 3) k652 rfl (by first | rfl | omega) [iS (ix s t8q7).Task, bS (ix s t8q7).Write, iS (ix s t8q7).N] rfl 1 []) (allP_cons (ob_ix_l s 3 1 t8q7 k652) allP_nil)) ?_
    obtain ⟨r654, hr654, h⟩ := bind_sx h
    refine call_x (lock_Drop_1_spec (ix s t8q7) c0q9 r654 hr654) (args := [.agg (Enc.cells (ix s t8q7)), .ptr 0 0]) (dst := (some 16)) (by kernel_rfl) [(0, .row 3 [iS c0q9])] 1 (by kernel_rfl) [(0, 0)] [] (bS r654.1) [(0, .row 3 [iS r654.2]), (0, .dead)] (by simp only [push_cast, seval]) (by simp only [push_cast, seval]) (by kernel_rfl) (.inl rfl) (by simp only [push_cast, seval]) (by simp only [push_cast, seval]) ?_
    refine rf [(0, .sl s.length (fl s)), (1, .clo 28 [.ptr 0 0]), (5, iS t8q7), (7, iS ((s.length : Nat) : Int)), (8, iS t8q7), (16, bS r654.1)] [(0, .row 3 [iS r654.2])] 2 (by kernel_rfl) ?_
    refine wk_id ?_
    refine cond_sx h (by kernel_rfl) (fun g655 h => ?_) (fun g655 h => ?_)
    · refine seq_np ?_
      refine reg_f ?_
      refine rs 2 [] [] (by kernel_rfl) allP_nil ?_
      refine rf [(4, iS t8q7)] [(0, .row 3 [iS r654.2])] 2 (by kernel_rfl) ?_
      refine wk_id ?_
      refine rt_cast ht2 ?_
      obtain ⟨r0, h, e0⟩ := map_sx h
      have e1 := hr2 r0 e0.symm
      subst r0
      obtain rfl := Option.some.inj h
      refine ret_at (iS t8q7) (by kernel_rfl) ?_
      exact ret_e [(0, 0)] [] (by simp only [push_cast, seval]) (by simp only [push_cast, seval]) rfl rfl rfl
    · refine wk_id ?_
      refine wk_id ?_
      refine reg_f ?_
      refine rs 2 [] [] (by kernel_rfl) allP_nil ?_
      refine rf [(0, .sl s.length (fl s)), (1, .clo 28 [.ptr 0 0]), (7, iS ((s.length : Nat) : Int)), (8, iS (IntKind.i64.wrap (t8q7 + 1)))] [(0, .row 3 [iS r654.2])] 2 (by kernel_rfl) ?_
      exact hn2 ((IntKind.i64.wrap (t8q7 + 1)), r654.2) _ _ _ (Option.some.inj h).symm (leSt_m [(0, 0)] [] (by simp only [push_cast, seval]) (by simp only [push_cast, seval]) rfl rfl rfl)
  · change R2 (.exit 0) _ _ _
    refine ex_cast hx2 (id := 0) ?_
    obtain ⟨r0, h, e0⟩ := map_sx h
    have e1 := hr2 r0 e0.symm
    subst r0
    refine wk_id ?_
    refine wk_id ?_
    refine seq_np ?_
    refine reg_f ?_
    refine rs 1 [] [] (by kernel_rfl) allP_nil ?_
    refine rf [(4, iS (-1))] [(0, .row 3 [iS c0q9])] 1 (by kernel_rfl) ?_
    refine wk_id ?_
    obtain rfl := Option.some.inj h
    refine ret_at (iS (-1)) (by kernel_rfl) ?_
    exact ret_e [(0, 0)] [] (by simp only [push_cast, seval]) (by simp only [push_cast, seval]) rfl rfl rfl

set_option maxRecDepth 100000 in
set_option maxHeartbeats 10000000 in
theorem lock_Enter_1_spec (w : Want) (c0 : Int) (r : Bool × Int) (h : lock_Enter_1 w c0 = some r) : SpecW Try.prog 33 [.agg (Enc.cells w), .ptr 0 0] [(0, .row 3 [iS c0])] 1 (fun x h n => x = bS r.1 ∧ h = [(0, .row 3 [iS r.2])] ∧ n = 1) := by
  unfold lock_Enter_1 at h
  refine spec_of (draw_ok _) Try.func33 rfl (by decide) rfl (by kernel_rfl) ?_
  refine seq_np ?_
  refine reg_f ?_
  refine rs 2 [] [] (by kernel_rfl) allP_nil ?_
  refine rf [(1, .ptr 0 0), (2, .ptr 1 0)] [(0, .row 3 [iS c0]), (1, .row 47 (Enc.cells w))] 2 (by kernel_rfl) ?_
  refine wk_id ?_
  refine seq_np ?_
  refine reg_f ?_
  refine rs 5 [] [] (by kernel_rfl) allP_nil ?_
  refine rf [(3, bS (w.Task == c0))] [(0, .row 3 [iS c0]), (1, .row 47 (Enc.cells w))] 2 (by kernel_rfl) ?_
  refine wk_id ?_
  obtain rfl := Option.some.inj h
  refine ret_at (bS (w.Task == c0)) (by kernel_rfl) ?_
  exact ret_e [(0, 0)] [] (by simp only [push_cast, seval]) (by simp only [push_cast, seval]) rfl rfl rfl

set_option maxRecDepth 100000 in
set_option maxHeartbeats 10000000 in
theorem slices_IndexFunc_Want_1_spec (s : (List Want)) (c0 : Int) (r : Int × Int) (h : slices_IndexFunc_Want_1 s c0 = some r) : SpecW Try.prog 27 [.sl s.length (fl s), .clo 33 [.ptr 0 0]] [(0, .row 3 [iS c0])] 1 (fun x h n => x = iS r.1 ∧ h = [(0, .row 3 [iS r.2])] ∧ n = 1) := by
  unfold slices_IndexFunc_Want_1 at h
  refine spec_of (draw_ok _) Try.func27 rfl (by decide) rfl (by kernel_rfl) ?_
  refine seq_np ?_
  refine reg_f ?_
  refine rs 1 [] [] (by kernel_rfl) allP_nil ?_
  refine rf [(0, .sl s.length (fl s)), (1, .clo 33 [.ptr 0 0])] [(0, .row 3 [iS c0])] 1 (by kernel_rfl) ?_
  refine wk_id ?_
  refine seq_np ?_
  refine seq_np ?_
  refine reg_f ?_
  refine rs 3 [] [] (by kernel_rfl) allP_nil ?_
  refine rf [(0, .sl s.length (fl s)), (1, .clo 33 [.ptr 0 0]), (7, iS ((s.length : Nat) : Int)), (8, iS 0)] [(0, .row 3 [iS c0])] 1 (by kernel_rfl) ?_
  refine wk_id ?_
  refine block_np ?_
  refine loop_sx (S := Int × Int) (fun a => ([(0, .sl s.length (fl s)), (1, .clo 33 [.ptr 0 0]), (7, iS ((s.length : Nat) : Int)), (8, iS a.1)], [(0, .row 3 [iS a.2])], 1)) h (leSt_m [(0, 0)] [] (by simp only [push_cast, seval]) (by simp only [push_cast, seval]) rfl rfl rfl) ?_
  rintro ⟨t8q7, c0q9⟩ o2 R2 h hr2 hn2 hx2 ht2
  try dsimp only at h hn2 ⊢
  unfold slices_IndexFunc_Want_1_l1 at h
  try dsimp only at h
  refine seq_np ?_
  refine reg_f ?_
  refine rs 1 [] [] (by kernel_rfl) allP_nil ?_
  refine rf [(0, .sl s.length (fl s)), (1, .clo 33 [.ptr 0 0]), (7, iS ((s.length : Nat) : Int)), (8, iS t8q7), (9, bS (decide (t8q7 < ((s.length : Nat) : Int))))] [(0, .row 3 [iS c0q9])] 1 (by kernel_rfl) ?_
  refine wk_id ?_
  refine seq_np ?_
  refine cond_sx h (by kernel_rfl) (fun g753 h => ?_) (fun g753 h => ?_)
  · refine wk_id ?_
    refine seq_np ?_
    refine block_np ?_
    refine seq_np ?_
    refine reg_f ?_
    refine rs 2 [] [] (by kernel_rfl) allP_nil ?_
    refine rf [(0, .sl s.length (fl s)), (1, .clo 33 [.ptr 0 0]), (5, iS t8q7), (7, iS ((s.length : Nat) : Int)), (8, iS t8q7)] [(0, .row 3 [iS c0q9])] 1 (by kernel_rfl) ?_
    refine wk_id ?_
    refine chk_sx h (fun g750 h => ?_)
    refine seq_np ?_
    refine reg_f ?_
    have k749 : 0 ≤ t8q7 ∧ t8q7 < ((s.length : Nat) : Int) := by first | simpa only [Bool.and_eq_true, decide_eq_true_eq, bne_iff_ne, ne_eq] using g750 | (simp at g750 ⊢; omega)
    refine rs 5 [none, none, none, some ⟨.iptr (fl s) ((t8q7).toNat * 3), [], 1, []⟩, some ⟨.agg (Enc.cells (ix s t8q7)), [], 1, []⟩] _ (by kernel_rfl) (allP_cons (ob_ldw s t8q7 3 ((t8q7).toNat * 3) k749 rfl (by first | rfl | omega) [iS (ix s t8q7).Task, bS (ix s t8q7).Write, iS (ix s t8q7).N] rfl 1 []) (allP_cons (ob_ix_l s 3 1 t8q7 k749) allP_nil)) ?_
    obtain ⟨r751, hr751, h⟩ := bind_sx h
    refine call_x (lock_Enter_1_spec (ix s t8q7) c0q9 r751 hr751) (args := [.agg (Enc.cells (ix s t8q7)), .ptr 0 0]) (dst := (some 16)) (by kernel_rfl) [(0, .row 3 [iS c0q9])] 1 (by kernel_rfl) [(0, 0)] [] (bS r751.1) [(0, .row 3 [iS r751.2]), (0, .dead)] (by simp only [push_cast, seval]) (by simp only [push_cast, seval]) (by kernel_rfl) (.inl rfl) (by simp only [push_cast, seval]) (by simp only [push_cast, seval]) ?_
    refine rf [(0, .sl s.length (fl s)), (1, .clo 33 [.ptr 0 0]), (5, iS t8q7), (7, iS ((s.length : Nat) : Int)), (8, iS t8q7), (16, bS r751.1)] [(0, .row 3 [iS r751.2])] 2 (by kernel_rfl) ?_
    refine wk_id ?_
    refine cond_sx h (by kernel_rfl) (fun g752 h => ?_) (fun g752 h => ?_)
    · refine seq_np ?_
      refine reg_f ?_
      refine rs 2 [] [] (by kernel_rfl) allP_nil ?_
      refine rf [(4, iS t8q7)] [(0, .row 3 [iS r751.2])] 2 (by kernel_rfl) ?_
      refine wk_id ?_
      refine rt_cast ht2 ?_
      obtain ⟨r0, h, e0⟩ := map_sx h
      have e1 := hr2 r0 e0.symm
      subst r0
      obtain rfl := Option.some.inj h
      refine ret_at (iS t8q7) (by kernel_rfl) ?_
      exact ret_e [(0, 0)] [] (by simp only [push_cast, seval]) (by simp only [push_cast, seval]) rfl rfl rfl
    · refine wk_id ?_
      refine wk_id ?_
      refine reg_f ?_
      refine rs 2 [] [] (by kernel_rfl) allP_nil ?_
      refine rf [(0, .sl s.length (fl s)), (1, .clo 33 [.ptr 0 0]), (7, iS ((s.length : Nat) : Int)), (8, iS (IntKind.i64.wrap (t8q7 + 1)))] [(0, .row 3 [iS r751.2])] 2 (by kernel_rfl) ?_
      exact hn2 ((IntKind.i64.wrap (t8q7 + 1)), r751.2) _ _ _ (Option.some.inj h).symm (leSt_m [(0, 0)] [] (by simp only [push_cast, seval]) (by simp only [push_cast, seval]) rfl rfl rfl)
  · change R2 (.exit 0) _ _ _
    refine ex_cast hx2 (id := 0) ?_
    obtain ⟨r0, h, e0⟩ := map_sx h
    have e1 := hr2 r0 e0.symm
    subst r0
    refine wk_id ?_
    refine wk_id ?_
    refine seq_np ?_
    refine reg_f ?_
    refine rs 1 [] [] (by kernel_rfl) allP_nil ?_
    refine rf [(4, iS (-1))] [(0, .row 3 [iS c0q9])] 1 (by kernel_rfl) ?_
    refine wk_id ?_
    obtain rfl := Option.some.inj h
    refine ret_at (iS (-1)) (by kernel_rfl) ?_
    exact ret_e [(0, 0)] [] (by simp only [push_cast, seval]) (by simp only [push_cast, seval]) rfl rfl rfl

set_option maxRecDepth 100000 in
set_option maxHeartbeats 10000000 in
theorem slices_ContainsFunc_Want_spec (s : (List Want)) (c0 : Int) (r : Bool × Int) (h : slices_ContainsFunc_Want s c0 = some r) : SpecW Try.prog 32 [.sl s.length (fl s), .clo 33 [.ptr 0 0]] [(0, .row 3 [iS c0])] 1 (fun x h n => x = bS r.1 ∧ h = [(0, .row 3 [iS r.2])] ∧ n = 1) := by
  unfold slices_ContainsFunc_Want at h
  refine spec_of (draw_ok _) Try.func32 rfl (by decide) rfl (by kernel_rfl) ?_
  refine seq_np ?_
  refine reg_f ?_
  refine rs 1 [] [] (by kernel_rfl) allP_nil ?_
  refine rf [(0, .sl s.length (fl s)), (1, .clo 33 [.ptr 0 0])] [(0, .row 3 [iS c0])] 1 (by kernel_rfl) ?_
  refine wk_id ?_
  refine seq_np ?_
  refine reg_f ?_
  refine rs 2 [] [] (by kernel_rfl) allP_nil ?_
  obtain ⟨r756, hr756, h⟩ := bind_sx h
  refine call_x (slices_IndexFunc_Want_1_spec s c0 r756 hr756) (args := [.sl s.length (fl s), .clo 33 [.ptr 0 0]]) (dst := (some 7)) (by kernel_rfl) [(0, .row 3 [iS c0])] 1 (by kernel_rfl) [(0, 0)] [] (iS r756.1) [(0, .row 3 [iS r756.2]), (0, .dead)] (by simp only [push_cast, seval]) (by simp only [push_cast, seval]) (by kernel_rfl) (.inl rfl) (by simp only [push_cast, seval]) (by simp only [push_cast, seval]) ?_
  refine rs 2 [] [] (by kernel_rfl) allP_nil ?_
  refine rf [(4, bS (decide ((0 : Int) ≤ r756.1)))] [(0, .row 3 [iS r756.2])] 2 (by kernel_rfl) ?_
  refine wk_id ?_
  obtain rfl := Option.some.inj h
  refine ret_at (bS (decide ((0 : Int) ≤ r756.1))) (by kernel_rfl) ?_
  exact ret_e [(0, 0)] [] (by simp only [push_cast, seval]) (by simp only [push_cast, seval]) rfl rfl rfl

set_option maxRecDepth 100000 in
set_option maxHeartbeats 10000000 in
theorem slices_Index_int_spec (s : (List Int)) (v : Int) (r : Int) (h : slices_Index_int s v = some r) : SpecW Try.prog 36 [.sl s.length (fl s), iS v] [] 0 (fun x h n => x = iS r ∧ h = [] ∧ n = 0) := by
  unfold slices_Index_int at h
  refine spec_of (draw_ok _) Try.func36 rfl (by decide) rfl (by kernel_rfl) ?_
  refine seq_np ?_
  refine reg_f ?_
  refine rs 1 [] [] (by kernel_rfl) allP_nil ?_
  refine rf [(0, .sl s.length (fl s)), (1, iS v)] [] 0 (by kernel_rfl) ?_
  refine wk_id ?_
  refine seq_np ?_
  refine seq_np ?_
  refine reg_f ?_
  refine rs 3 [] [] (by kernel_rfl) allP_nil ?_
  refine rf [(0, .sl s.length (fl s)), (1, iS v), (7, iS ((s.length : Nat) : Int)), (8, iS 0)] [] 0 (by kernel_rfl) ?_
  refine wk_id ?_
  refine block_np ?_
  refine loop_sx (S := Int) (fun a => ([(0, .sl s.length (fl s)), (1, iS v), (7, iS ((s.length : Nat) : Int)), (8, iS a)], [], 0)) h (leSt_m [] [] (by simp only [push_cast, seval]) (by simp only [push_cast, seval]) rfl rfl rfl) ?_
  rintro t8q7 o2 R2 h hr2 hn2 hx2 ht2
  try dsimp only at h hn2 ⊢
  unfold slices_Index_int_l1 at h
  try dsimp only at h
  refine seq_np ?_
  refine reg_f ?_
  refine rs 1 [] [] (by kernel_rfl) allP_nil ?_
  refine rf [(0, .sl s.length (fl s)), (1, iS v), (7, iS ((s.length : Nat) : Int)), (8, iS t8q7), (9, bS (decide (t8q7 < ((s.length : Nat) : Int))))] [] 0 (by kernel_rfl) ?_
  refine wk_id ?_
  refine seq_np ?_
  refine cond_sx h (by kernel_rfl) (fun g827 h => ?_) (fun g827 h => ?_)
  · refine wk_id ?_
    refine seq_np ?_
    refine block_np ?_
    refine seq_np ?_
    refine reg_f ?_
    refine rs 2 [] [] (by kernel_rfl) allP_nil ?_
    refine rf [(0, .sl s.length (fl s)), (1, iS v), (5, iS t8q7), (7, iS ((s.length : Nat) : Int)), (8, iS t8q7)] [] 0 (by kernel_rfl) ?_
    refine wk_id ?_
    refine chk_sx h (fun g825 h => ?_)
    refine seq_np ?_
    refine reg_f ?_
    have k824 : 0 ≤ t8q7 ∧ t8q7 < ((s.length : Nat) : Int) := by first | simpa only [Bool.and_eq_true, decide_eq_true_eq, bne_iff_ne, ne_eq] using g825 | (simp at g825 ⊢; omega)
    refine rs 6 [none, none, none, some ⟨.iptr (fl s) ((t8q7).toNat * 1), [], 0, []⟩, some ⟨iS (ix s t8q7), [], 0, []⟩] _ (by kernel_rfl) (allP_cons (ob_ld s t8q7 1 0 ((t8q7).toNat * 1) k824 rfl (by decide) (by first | rfl | omega) (dflS Try.prog 3) (iS (ix s t8q7)) rfl 0 []) (allP_cons (ob_ix_l s 1 0 t8q7 k824) allP_nil)) ?_
    refine rf [(0, .sl s.length (fl s)), (1, iS v), (5, iS t8q7), (7, iS ((s.length : Nat) : Int)), (8, iS t8q7), (16, bS (v == (ix s t8q7)))] [] 0 (by kernel_rfl) ?_
    refine wk_id ?_
    refine cond_sx h (by kernel_rfl) (fun g826 h => ?_) (fun g826 h => ?_)
    · refine seq_np ?_
      refine reg_f ?_
      refine rs 2 [] [] (by kernel_rfl) allP_nil ?_
      refine rf [(4, iS t8q7)] [] 0 (by kernel_rfl) ?_
      refine wk_id ?_
      refine rt_cast ht2 ?_
      obtain ⟨r0, h, e0⟩ := map_sx h
      have e1 := hr2 r0 e0.symm
      subst r0
      obtain rfl := Option.some.inj h
      refine ret_at (iS t8q7) (by kernel_rfl) ?_
      exact ret_e [] [] (by simp only [push_cast, seval]) (by simp only [push_cast, seval]) rfl rfl rfl
    · refine wk_id ?_
      refine wk_id ?_
      refine reg_f ?_
      refine rs 2 [] [] (by kernel_rfl) allP_nil ?_
      refine rf [(0, .sl s.length (fl s)), (1, iS v), (7, iS ((s.length : Nat) : Int)), (8, iS (IntKind.i64.wrap (t8q7 + 1)))] [] 0 (by kernel_rfl) ?_
      exact hn2 ((IntKind.i64.wrap (t8q7 + 1))) _ _ _ (Option.some.inj h).symm (leSt_m [] [] (by simp only [push_cast, seval]) (by simp only [push_cast, seval]) rfl rfl rfl)
  · change R2 (.exit 0) _ _ _
    refine ex_cast hx2 (id := 0) ?_
    obtain ⟨r0, h, e0⟩ := map_sx h
    have e1 := hr2 r0 e0.symm
    subst r0
    refine wk_id ?_
    refine wk_id ?_
    refine seq_np ?_
    refine reg_f ?_
    refine rs 1 [] [] (by kernel_rfl) allP_nil ?_
    refine rf [(4, iS (-1))] [] 0 (by kernel_rfl) ?_
    refine wk_id ?_
    obtain rfl := Option.some.inj h
    refine ret_at (iS (-1)) (by kernel_rfl) ?_
    exact ret_e [] [] (by simp only [push_cast, seval]) (by simp only [push_cast, seval]) rfl rfl rfl

set_option maxRecDepth 100000 in
set_option maxHeartbeats 10000000 in
theorem slices_Contains_int_spec (s : (List Int)) (v : Int) (r : Bool) (h : slices_Contains_int s v = some r) : SpecW Try.prog 34 [.sl s.length (fl s), iS v] [] 0 (fun x h n => x = bS r ∧ h = [] ∧ n = 0) := by
  unfold slices_Contains_int at h
  refine spec_of (draw_ok _) Try.func34 rfl (by decide) rfl (by kernel_rfl) ?_
  refine seq_np ?_
  refine reg_f ?_
  refine rs 1 [] [] (by kernel_rfl) allP_nil ?_
  refine rf [(0, .sl s.length (fl s)), (1, iS v)] [] 0 (by kernel_rfl) ?_
  refine wk_id ?_
  refine seq_np ?_
  refine reg_f ?_
  refine rs 2 [] [] (by kernel_rfl) allP_nil ?_
  obtain ⟨r830, hr830, h⟩ := bind_sx h
  refine run_call 36 [.sl s.length (fl s), iS v] (some 7) (by kernel_rfl) ?_
  refine call_0 (slices_Index_int_spec s v r830 hr830) (by simp only [push_cast, seval]) (by simp only [push_cast, seval]) ?_
  refine back_f ?_
  refine rs 2 [] [] (by kernel_rfl) allP_nil ?_
  refine rf [(4, bS (decide ((0 : Int) ≤ r830)))] [] 0 (by kernel_rfl) ?_
  refine wk_id ?_
  obtain rfl := Option.some.inj h
  refine ret_at (bS (decide ((0 : Int) ≤ r830))) (by kernel_rfl) ?_
  exact ret_e [] [] (by simp only [push_cast, seval]) (by simp only [push_cast, seval]) rfl rfl rfl

set_option maxRecDepth 100000 in
set_option maxHeartbeats 10000000 in
theorem lock_Enter_spec (l : Lock) (task : Int) (write : Bool) (xtry : Bool) (r : Int × Bool × Bool × Fault × (List Want)) (h : lock_Enter l task write xtry = some r) : SpecW Try.prog 21 [.agg (Enc.cells l), iS task, bS write, bS xtry] [] 0 (fun x h n => x = .tup [.agg [iS r.1, bS r.2.1, .own 0 0 r.2.2.2.2.length], bS r.2.2.1, .agg (Enc.cells r.2.2.2.1)] ∧ h = [(0, .row 47 (fl r.2.2.2.2))] ∧ n = 1) := by
  unfold lock_Enter at h
  refine spec_of (draw_ok _) Try.func21 rfl (by decide) rfl (by kernel_rfl) ?_
  refine seq_np ?_
  refine reg_f ?_
  refine rs 5 [] [] (by kernel_rfl) allP_nil ?_
  refine rf [(2, bS write), (3, bS xtry), (4, .ptr 0 0), (5, .ptr 1 0), (8, .ptr 2 0), (10, .ptr 3 0)] [(0, .row 24 (Enc.cells l)), (1, .row 3 [iS task]), (2, .row 24 [iS 0, bS false, .v (.slice none 0 0)]), (3, .row 28 [iS 0, iS 0])] 4 (by kernel_rfl) ?_
  refine wk_id ?_
  refine seq_np ?_
  refine seq_np ?_
  refine reg_f ?_
  refine rs 1 [] [] (by kernel_rfl) allP_nil ?_
  obtain ⟨r838, hr838, h⟩ := bind_sx h
  refine run_call 20 [.agg (Enc.cells l)] (some 14) (by kernel_rfl) ?_
  refine call_0 (lock_Check_spec l r838 hr838) (by simp only [push_cast, seval]) (by simp only [push_cast, seval]) ?_
  refine back_f ?_
  refine rs 2 [] [] (by kernel_rfl) allP_nil ?_
  refine rf [(2, bS write), (3, bS xtry), (4, .ptr 0 0), (5, .ptr 1 0), (8, .ptr 2 0), (10, .ptr 3 0), (11, .ptr 4 0)] [(0, .row 24 (Enc.cells l)), (1, .row 3 [iS task]), (2, .row 24 [iS 0, bS false, .v (.slice none 0 0)]), (3, .row 28 [iS 0, iS 0]), (4, .row 28 (Enc.cells r838))] 5 (by kernel_rfl) ?_
  refine wk_id ?_
  refine seq_np ?_
  refine reg_f ?_
  refine rs 3 [] [] (by kernel_rfl) allP_nil ?_
  refine rf [(2, bS write), (3, bS xtry), (4, .ptr 0 0), (5, .ptr 1 0), (8, .ptr 2 0), (10, .ptr 3 0), (11, .ptr 4 0), (17, bS (r838.Code != 0))] [(0, .row 24 (Enc.cells l)), (1, .row 3 [iS task]), (2, .row 24 [iS 0, bS false, .v (.slice none 0 0)]), (3, .row 28 [iS 0, iS 0]), (4, .row 28 (Enc.cells r838))] 5 (by kernel_rfl) ?_
  refine wk_id ?_
  refine cond_sx h (by kernel_rfl) (fun g880 h => ?_) (fun g880 h => ?_)
  · refine seq_np ?_
    refine reg_t ?_
    refine rs 5 [] [] (by kernel_rfl) allP_nil ?_
    refine rt [(8, .ptr 2 0), (9, bS false), (10, .ptr 3 0)] [(0, .row 24 (Enc.cells l)), (1, .row 3 [iS task]), (2, .row 24 [iS 0, bS false, .v (.slice none 0 0)]), (3, .row 28 (Enc.cells r838)), (4, .row 28 (Enc.cells r838))] 10 follows (by kernel_rfl) ?_
    refine wk_id ?_
    obtain rfl := Option.some.inj h
    refine ret_at (.tup [.agg [iS 0, bS false, .v (.slice none 0 0)], bS false, .agg (Enc.cells r838)]) (by kernel_rfl) ?_
    exact ret_e [] [] (by simp only [push_cast, seval]) (by simp only [push_cast, seval]) rfl rfl rfl
  · refine wk_id ?_
    refine seq_np ?_
    refine seq_np ?_
    refine reg_f ?_
    refine rs 2 [] [] (by kernel_rfl) allP_nil ?_
    refine rf [(2, bS write), (3, bS xtry), (4, .ptr 0 0), (5, .ptr 1 0), (8, .ptr 2 0), (10, .ptr 3 0), (21, bS (decide (task < 1)))] [(0, .row 24 (Enc.cells l)), (1, .row 3 [iS task]), (2, .row 24 [iS 0, bS false, .v (.slice none 0 0)]), (3, .row 28 [iS 0, iS 0]), (4, .row 28 (Enc.cells r838))] 5 (by kernel_rfl) ?_
    refine wk_id ?_
    refine cond_sx h (by kernel_rfl) (fun g879 h => ?_) (fun g879 h => ?_)
    · refine seq_np ?_
      refine reg_f ?_
      refine rs 1 [] [] (by kernel_rfl) allP_nil ?_
      obtain ⟨r842, hr842, h⟩ := bind_sx h
      refine run_call 29 [iS 3, iS (-1)] (some 23) (by kernel_rfl) ?_
      refine call_0 (lock_fault_spec 3 (-1) r842 hr842) (by simp only [push_cast, seval]) (by simp only [push_cast, seval]) ?_
      refine back_f ?_
      refine rs 3 [] [] (by kernel_rfl) allP_nil ?_
      refine rf [(8, .ptr 2 0), (9, bS false), (10, .ptr 3 0)] [(0, .row 24 (Enc.cells l)), (1, .row 3 [iS task]), (2, .row 24 [iS 0, bS false, .v (.slice none 0 0)]), (3, .row 28 (Enc.cells r842)), (4, .row 28 (Enc.cells r838))] 5 (by kernel_rfl) ?_
      refine wk_id ?_
      obtain rfl := Option.some.inj h
      refine ret_at (.tup [.agg [iS 0, bS false, .v (.slice none 0 0)], bS false, .agg (Enc.cells r842)]) (by kernel_rfl) ?_
      exact ret_e [] [] (by simp only [push_cast, seval]) (by simp only [push_cast, seval]) rfl rfl rfl
    · refine wk_id ?_
      refine seq_np ?_
      refine seq_np ?_
      refine reg_f ?_
      refine rs 3 [] [] (by kernel_rfl) allP_nil ?_
      obtain ⟨r847, hr847, h⟩ := bind_sx h
      refine call_x (slices_ContainsFunc_Want_spec l.Line task r847 hr847) (args := [.sl l.Line.length (fl l.Line), .clo 33 [.ptr 1 0]]) (dst := (some 27)) (by kernel_rfl) [(0, .row 24 (Enc.cells l)), (1, .row 3 [iS task]), (2, .row 24 [iS 0, bS false, .v (.slice none 0 0)]), (3, .row 28 [iS 0, iS 0]), (4, .row 28 (Enc.cells r838))] 5 (by kernel_rfl) [(0, 1)] [] (bS r847.1) [(1, .row 3 [iS r847.2]), (1, .dead)] (by simp only [push_cast, seval]) (by simp only [push_cast, seval]) (by kernel_rfl) (.inl rfl) (by simp only [push_cast, seval]) (by simp only [push_cast, seval]) ?_
      refine rf [(2, bS write), (3, bS xtry), (4, .ptr 0 0), (5, .ptr 1 0), (8, .ptr 2 0), (10, .ptr 3 0), (27, bS r847.1)] [(0, .row 24 (Enc.cells l)), (1, .row 3 [iS r847.2]), (2, .row 24 [iS 0, bS false, .v (.slice none 0 0)]), (3, .row 28 [iS 0, iS 0]), (4, .row 28 (Enc.cells r838))] 6 (by kernel_rfl) ?_
      refine wk_id ?_
      refine cond_sx h (by kernel_rfl) (fun g878 h => ?_) (fun g878 h => ?_)
      · refine seq_np ?_
        refine reg_f ?_
        refine rs 1 [] [] (by kernel_rfl) allP_nil ?_
        obtain ⟨r849, hr849, h⟩ := bind_sx h
        refine run_call 29 [iS 10, iS (-1)] (some 29) (by kernel_rfl) ?_
        refine call_0 (lock_fault_spec 10 (-1) r849 hr849) (by simp only [push_cast, seval]) (by simp only [push_cast, seval]) ?_
        refine back_f ?_
        refine rs 3 [] [] (by kernel_rfl) allP_nil ?_
        refine rf [(8, .ptr 2 0), (9, bS false), (10, .ptr 3 0)] [(0, .row 24 (Enc.cells l)), (1, .row 3 [iS r847.2]), (2, .row 24 [iS 0, bS false, .v (.slice none 0 0)]), (3, .row 28 (Enc.cells r849)), (4, .row 28 (Enc.cells r838))] 6 (by kernel_rfl) ?_
        refine wk_id ?_
        obtain rfl := Option.some.inj h
        refine ret_at (.tup [.agg [iS 0, bS false, .v (.slice none 0 0)], bS false, .agg (Enc.cells r849)]) (by kernel_rfl) ?_
        exact ret_e [] [] (by simp only [push_cast, seval]) (by simp only [push_cast, seval]) rfl rfl rfl
      · refine wk_id ?_
        refine seq_np ?_
        refine seq_cut (A := Unit) (fun _ => ([(2, bS write), (3, bS xtry), (4, .ptr 0 0), (5, .ptr 1 0), (8, .ptr 2 0), (10, .ptr 3 0), (38, bS ((((l.Line.length : Nat) : Int) == 5000) || (l.Readers == 1000000000)))], [(0, .row 24 (Enc.cells l)), (1, .row 3 [iS r847.2]), (2, .row 24 [iS 0, bS false, .v (.slice none 0 0)]), (3, .row 28 [iS 0, iS 0]), (4, .row 28 (Enc.cells r838))], 6)) (fun _ => True) (fun K854 hK854 => ?_) (fun _ _ => ?_)
        · refine reg_f ?_
          refine rs 5 [] [] (by kernel_rfl) allP_nil ?_
          refine run_split 34 (((l.Line.length : Nat) : Int) == 5000) (.inl (by kernel_rfl)) (fun g855 => ?_) (fun g855 => ?_)
          · refine rs 4 [] [] (by kernel_rfl) allP_nil ?_
            refine rf [(2, bS write), (3, bS xtry), (4, .ptr 0 0), (5, .ptr 1 0), (8, .ptr 2 0), (10, .ptr 3 0), (38, bS true)] [(0, .row 24 (Enc.cells l)), (1, .row 3 [iS r847.2]), (2, .row 24 [iS 0, bS false, .v (.slice none 0 0)]), (3, .row 28 [iS 0, iS 0]), (4, .row 28 (Enc.cells r838))] 6 (by kernel_rfl) ?_
            exact hK854 () _ _ _ trivial (leSt_m [(0, 0), (1, 1), (2, 2), (3, 3), (4, 4)] [] (by (try simp only [g855]) <;> simp only [push_cast, seval]) (by (try simp only [g855]) <;> simp only [push_cast, seval]) rfl rfl rfl)
          · refine rs 4 [] [] (by kernel_rfl) allP_nil ?_
            refine rf [(2, bS write), (3, bS xtry), (4, .ptr 0 0), (5, .ptr 1 0), (8, .ptr 2 0), (10, .ptr 3 0), (38, bS (l.Readers == 1000000000))] [(0, .row 24 (Enc.cells l)), (1, .row 3 [iS r847.2]), (2, .row 24 [iS 0, bS false, .v (.slice none 0 0)]), (3, .row 28 [iS 0, iS 0]), (4, .row 28 (Enc.cells r838))] 6 (by kernel_rfl) ?_
            exact hK854 () _ _ _ trivial (leSt_m [(0, 0), (1, 1), (2, 2), (3, 3), (4, 4)] [] (by (try simp only [g855]) <;> simp only [push_cast, seval]) (by (try simp only [g855]) <;> simp only [push_cast, seval]) rfl rfl rfl)
        · dsimp only
          refine cond_sx h (by kernel_rfl) (fun g877 h => ?_) (fun g877 h => ?_)
          · refine seq_np ?_
            refine reg_f ?_
            refine rs 1 [] [] (by kernel_rfl) allP_nil ?_
            obtain ⟨r857, hr857, h⟩ := bind_sx h
            refine run_call 29 [iS 9, iS 0] (some 40) (by kernel_rfl) ?_
            refine call_0 (lock_fault_spec 9 0 r857 hr857) (by simp only [push_cast, seval]) (by simp only [push_cast, seval]) ?_
            refine back_f ?_
            refine rs 3 [] [] (by kernel_rfl) allP_nil ?_
            refine rf [(8, .ptr 2 0), (9, bS false), (10, .ptr 3 0)] [(0, .row 24 (Enc.cells l)), (1, .row 3 [iS r847.2]), (2, .row 24 [iS 0, bS false, .v (.slice none 0 0)]), (3, .row 28 (Enc.cells r857)), (4, .row 28 (Enc.cells r838))] 6 (by kernel_rfl) ?_
            refine wk_id ?_
            obtain rfl := Option.some.inj h
            refine ret_at (.tup [.agg [iS 0, bS false, .v (.slice none 0 0)], bS false, .agg (Enc.cells r857)]) (by kernel_rfl) ?_
            exact ret_e [] [] (by simp only [push_cast, seval]) (by simp only [push_cast, seval]) rfl rfl rfl
          · refine wk_id ?_
            refine seq_np ?_
            refine reg_f ?_
            refine rs 1 [] [] (by kernel_rfl) allP_nil ?_
            obtain ⟨r859, hr859, h⟩ := bind_sx h
            refine call_x (lock_copied_spec l r859 hr859) (args := [.agg (Enc.cells l)]) (dst := (some 42)) (by kernel_rfl) [(0, .row 24 (Enc.cells l)), (1, .row 3 [iS r847.2]), (2, .row 24 [iS 0, bS false, .v (.slice none 0 0)]), (3, .row 28 [iS 0, iS 0]), (4, .row 28 (Enc.cells r838))] 6 (by kernel_rfl) [] [] (.ptr 6 0) [(6, .row 24 [iS r859.1, bS r859.2.1, .own 7 0 r859.2.2.length]), (7, .row 47 (fl r859.2.2))] (by simp only [push_cast, seval]) (by simp only [push_cast, seval]) (by kernel_rfl) (.inl rfl) (by simp only [push_cast, seval]) (by simp only [push_cast, seval]) ?_
            refine rs 1 [] [] (by kernel_rfl) allP_nil ?_
            refine rf [(2, bS write), (3, bS xtry), (4, .ptr 0 0), (5, .ptr 1 0), (8, .ptr 2 0), (10, .ptr 3 0), (12, .ptr 6 0)] [(0, .row 24 (Enc.cells l)), (1, .row 3 [iS r847.2]), (2, .row 24 [iS 0, bS false, .v (.slice none 0 0)]), (3, .row 28 [iS 0, iS 0]), (4, .row 28 (Enc.cells r838)), (6, .row 24 [iS r859.1, bS r859.2.1, .own 7 0 r859.2.2.length]), (7, .row 47 (fl r859.2.2))] 8 (by kernel_rfl) ?_
            refine wk_id ?_
            refine chk_sx h (fun g863 h => ?_)
            refine seq_np ?_
            refine reg_t ?_
            have k862 : (r859.2.2 ++ ([(Want.mk r847.2 write 0)] : List Want)).length * 24 ≤ 140737488355328 := by first | simpa only [Bool.and_eq_true, decide_eq_true_eq, bne_iff_ne, ne_eq] using g863 | (simp at g863 ⊢; omega)
            refine rs 13 [none, none, none, none, none, none, none, none, none, some ⟨.own 18 0 (r859.2.2 ++ ([(Want.mk r847.2 write 0)] : List Want)).length, [(18, .row 47 (fl (r859.2.2 ++ ([(Want.mk r847.2 write 0)] : List Want)))), (7, .dead)], 19, [7, 16]⟩] _ (by kernel_rfl) (allP_cons (ob_app (P := Try.prog) r859.2.2 ([(Want.mk r847.2 write 0)] : List Want) 3 24 rfl (appCells (fl ([(Want.mk r847.2 write 0)] : List Want)) 0 (([(Want.mk r847.2 write 0)] : List Want).length * 3)) ([(Want.mk r847.2 write 0)] : List Want).length (app_own ([(Want.mk r847.2 write 0)] : List Want) 3 rfl) rfl (0 + ([(Want.mk r847.2 write 0)] : List Want).length * 3 ≤ (fl ([(Want.mk r847.2 write 0)] : List Want)).length) (app_own_le ([(Want.mk r847.2 write 0)] : List Want) 3 rfl) 47 (by kernel_rfl) (by decide) k862 7 18 [16]) allP_nil) ?_
            refine rt [(3, bS xtry), (4, .ptr 0 0), (5, .ptr 1 0), (8, .ptr 2 0), (10, .ptr 3 0), (12, .ptr 6 0)] [(0, .row 24 (Enc.cells l)), (1, .row 3 [iS r847.2]), (2, .row 24 [iS 0, bS false, .v (.slice none 0 0)]), (3, .row 28 [iS 0, iS 0]), (4, .row 28 (Enc.cells r838)), (6, .row 24 [iS r859.1, bS r859.2.1, .own 18 0 (r859.2.2 ++ ([(Want.mk r847.2 write 0)] : List Want)).length]), (7, .dead), (16, .row 47 (fl ([(Want.mk r847.2 write 0)] : List Want))), (18, .row 47 (fl (r859.2.2 ++ ([(Want.mk r847.2 write 0)] : List Want))))] 23 follows (by kernel_rfl) ?_
            refine wk_id ?_
            refine seq_np ?_
            refine seq_np ?_
            refine reg_t ?_
            refine rs 1 [] [] (by kernel_rfl) allP_nil ?_
            obtain ⟨r869, hr869, h⟩ := bind_sx h
            refine call_x (lock_admit_spec r859.1 r859.2.1 (r859.2.2 ++ ([(Want.mk r847.2 write 0)] : List Want)) r869 hr869) (args := [.ptr 6 0]) (dst := (some 56)) (by kernel_rfl) [(0, .row 24 (Enc.cells l)), (1, .row 3 [iS r847.2]), (2, .row 24 [iS 0, bS false, .v (.slice none 0 0)]), (3, .row 28 [iS 0, iS 0]), (4, .row 28 (Enc.cells r838)), (6, .row 24 [iS r859.1, bS r859.2.1, .own 18 0 (r859.2.2 ++ ([(Want.mk r847.2 write 0)] : List Want)).length]), (7, .dead), (16, .row 47 (fl ([(Want.mk r847.2 write 0)] : List Want))), (18, .row 47 (fl (r859.2.2 ++ ([(Want.mk r847.2 write 0)] : List Want))))] 24 (by kernel_rfl) [(0, 6), (1, 18)] [] (.own 26 0 r869.1.length) [(6, .row 24 [iS r869.2.1, bS r869.2.2.1, .own 27 0 r869.2.2.2.length]), (18, .dead), (26, .row 3 (fl r869.1)), (27, .row 47 (fl r869.2.2.2)), (6, .dead), (18, .dead)] (by simp only [push_cast, seval]) (by simp only [push_cast, seval]) (by kernel_rfl) (.inl rfl) (by simp only [push_cast, seval]) (by simp only [push_cast, seval]) ?_
            refine rs 1 [] [] (by kernel_rfl) allP_nil ?_
            obtain ⟨r870, hr870, h⟩ := bind_sx h
            refine call_x (slices_Contains_int_spec r869.1 r847.2 r870 hr870) (args := [.own 26 0 r869.1.length, iS r847.2]) (dst := (some 58)) (by kernel_rfl) [(0, .row 24 (Enc.cells l)), (1, .row 3 [iS r847.2]), (2, .row 24 [iS 0, bS false, .v (.slice none 0 0)]), (3, .row 28 [iS 0, iS 0]), (4, .row 28 (Enc.cells r838)), (6, .row 24 [iS r869.2.1, bS r869.2.2.1, .own 27 0 r869.2.2.2.length]), (7, .dead), (16, .row 47 (fl ([(Want.mk r847.2 write 0)] : List Want))), (18, .dead), (26, .row 3 (fl r869.1)), (27, .row 47 (fl r869.2.2.2))] 30 (by kernel_rfl) [] [26] (bS r870) [] (by simp only [push_cast, seval]) (by simp only [push_cast, seval]) (by kernel_rfl) (.inr ⟨by simp only [push_cast, seval], by simp only [push_cast, seval]⟩) (by simp only [push_cast, seval]) (by simp only [push_cast, seval]) ?_
            refine rt [(3, bS xtry), (4, .ptr 0 0), (8, .ptr 2 0), (10, .ptr 3 0), (12, .ptr 6 0), (58, bS r870)] [(0, .row 24 (Enc.cells l)), (1, .row 3 [iS r847.2]), (2, .row 24 [iS 0, bS false, .v (.slice none 0 0)]), (3, .row 28 [iS 0, iS 0]), (4, .row 28 (Enc.cells r838)), (6, .row 24 [iS r869.2.1, bS r869.2.2.1, .own 27 0 r869.2.2.2.length]), (7, .dead), (16, .row 47 (fl ([(Want.mk r847.2 write 0)] : List Want))), (18, .dead), (26, .row 3 (fl r869.1)), (27, .row 47 (fl r869.2.2.2))] 31 follows (by kernel_rfl) ?_
            refine wk_id ?_
            refine cond_sx h (by kernel_rfl) (fun g876 h => ?_) (fun g876 h => ?_)
            · refine seq_np ?_
              refine reg_f ?_
              refine rs 7 [] [] (by kernel_rfl) allP_nil ?_
              refine rf [(8, .ptr 2 0), (9, bS true), (10, .ptr 3 0)] [(0, .row 24 (Enc.cells l)), (1, .row 3 [iS r847.2]), (2, .row 24 [iS r869.2.1, bS r869.2.2.1, .own 27 0 r869.2.2.2.length]), (3, .row 28 [iS 0, iS 0]), (4, .row 28 (Enc.cells r838)), (6, .row 24 [iS r869.2.1, bS r869.2.2.1, .own 27 0 r869.2.2.2.length]), (7, .dead), (16, .row 47 (fl ([(Want.mk r847.2 write 0)] : List Want))), (18, .dead), (26, .row 3 (fl r869.1)), (27, .row 47 (fl r869.2.2.2))] 31 (by kernel_rfl) ?_
              refine wk_id ?_
              obtain rfl := Option.some.inj h
              refine ret_at (.tup [.agg [iS r869.2.1, bS r869.2.2.1, .own 27 0 r869.2.2.2.length], bS true, .agg [iS 0, iS 0]]) (by kernel_rfl) ?_
              exact ret_e [(0, 27)] [] (by simp only [push_cast, seval]) (by simp only [push_cast, seval]) rfl rfl rfl
            · refine wk_id ?_
              refine seq_np ?_
              refine seq_np ?_
              refine reg_f ?_
              refine rs 1 [] [] (by kernel_rfl) allP_nil ?_
              refine rf [(4, .ptr 0 0), (8, .ptr 2 0), (10, .ptr 3 0), (12, .ptr 6 0), (63, bS xtry)] [(0, .row 24 (Enc.cells l)), (1, .row 3 [iS r847.2]), (2, .row 24 [iS 0, bS false, .v (.slice none 0 0)]), (3, .row 28 [iS 0, iS 0]), (4, .row 28 (Enc.cells r838)), (6, .row 24 [iS r869.2.1, bS r869.2.2.1, .own 27 0 r869.2.2.2.length]), (7, .dead), (16, .row 47 (fl ([(Want.mk r847.2 write 0)] : List Want))), (18, .dead), (26, .row 3 (fl r869.1)), (27, .row 47 (fl r869.2.2.2))] 31 (by kernel_rfl) ?_
              refine wk_id ?_
              refine cond_sx h (by kernel_rfl) (fun g875 h => ?_) (fun g875 h => ?_)
              · refine seq_np ?_
                refine reg_f ?_
                refine rs 1 [] [] (by kernel_rfl) allP_nil ?_
                obtain ⟨r874, hr874, h⟩ := bind_sx h
                refine call_x (lock_copied_spec l r874 hr874) (args := [.agg (Enc.cells l)]) (dst := (some 65)) (by kernel_rfl) [(0, .row 24 (Enc.cells l)), (1, .row 3 [iS r847.2]), (2, .row 24 [iS 0, bS false, .v (.slice none 0 0)]), (3, .row 28 [iS 0, iS 0]), (4, .row 28 (Enc.cells r838)), (6, .row 24 [iS r869.2.1, bS r869.2.2.1, .own 27 0 r869.2.2.2.length]), (7, .dead), (16, .row 47 (fl ([(Want.mk r847.2 write 0)] : List Want))), (18, .dead), (26, .row 3 (fl r869.1)), (27, .row 47 (fl r869.2.2.2))] 31 (by kernel_rfl) [] [] (.ptr 31 0) [(31, .row 24 [iS r874.1, bS r874.2.1, .own 32 0 r874.2.2.length]), (32, .row 47 (fl r874.2.2))] (by simp only [push_cast, seval]) (by simp only [push_cast, seval]) (by kernel_rfl) (.inl rfl) (by simp only [push_cast, seval]) (by simp only [push_cast, seval]) ?_
                refine rs 6 [] [] (by kernel_rfl) allP_nil ?_
                refine rf [(8, .ptr 2 0), (9, bS false), (10, .ptr 3 0)] [(0, .row 24 (Enc.cells l)), (1, .row 3 [iS r847.2]), (2, .row 24 [iS r874.1, bS r874.2.1, .own 32 0 r874.2.2.length]), (3, .row 28 [iS 0, iS 0]), (4, .row 28 (Enc.cells r838)), (6, .row 24 [iS r869.2.1, bS r869.2.2.1, .own 27 0 r869.2.2.2.length]), (7, .dead), (16, .row 47 (fl ([(Want.mk r847.2 write 0)] : List Want))), (18, .dead), (26, .row 3 (fl r869.1)), (27, .row 47 (fl r869.2.2.2)), (31, .row 24 [iS r874.1, bS r874.2.1, .own 32 0 r874.2.2.length]), (32, .row 47 (fl r874.2.2))] 33 (by kernel_rfl) ?_
                refine wk_id ?_
                obtain rfl := Option.some.inj h
                refine ret_at (.tup [.agg [iS r874.1, bS r874.2.1, .own 32 0 r874.2.2.length], bS false, .agg [iS 0, iS 0]]) (by kernel_rfl) ?_
                exact ret_e [(0, 32)] [] (by simp only [push_cast, seval]) (by simp only [push_cast, seval]) rfl rfl rfl
              · refine wk_id ?_
                refine seq_np ?_
                refine reg_f ?_
                refine rs 7 [] [] (by kernel_rfl) allP_nil ?_
                refine rf [(8, .ptr 2 0), (9, bS false), (10, .ptr 3 0)] [(0, .row 24 (Enc.cells l)), (1, .row 3 [iS r847.2]), (2, .row 24 [iS r869.2.1, bS r869.2.2.1, .own 27 0 r869.2.2.2.length]), (3, .row 28 [iS 0, iS 0]), (4, .row 28 (Enc.cells r838)), (6, .row 24 [iS r869.2.1, bS r869.2.2.1, .own 27 0 r869.2.2.2.length]), (7, .dead), (16, .row 47 (fl ([(Want.mk r847.2 write 0)] : List Want))), (18, .dead), (26, .row 3 (fl r869.1)), (27, .row 47 (fl r869.2.2.2))] 31 (by kernel_rfl) ?_
                refine wk_id ?_
                obtain rfl := Option.some.inj h
                refine ret_at (.tup [.agg [iS r869.2.1, bS r869.2.2.1, .own 27 0 r869.2.2.2.length], bS false, .agg [iS 0, iS 0]]) (by kernel_rfl) ?_
                exact ret_e [(0, 27)] [] (by simp only [push_cast, seval]) (by simp only [push_cast, seval]) rfl rfl rfl

set_option maxRecDepth 100000 in
set_option maxHeartbeats 10000000 in
theorem taskmillref_F_spec (code : Int) (xat : Int) (r : Fault) (h : taskmillref_F code xat = some r) : SpecW Try.prog 18 [iS code, iS xat] [] 0 (fun x h n => x = .agg (Enc.cells r) ∧ h = [] ∧ n = 0) := by
  unfold taskmillref_F at h
  refine spec_of (draw_ok _) Try.func18 rfl (by decide) rfl (by kernel_rfl) ?_
  refine seq_np ?_
  refine reg_f ?_
  refine rs 1 [] [] (by kernel_rfl) allP_nil ?_
  refine rf [(0, iS code), (1, iS xat), (4, .ptr 0 0)] [(0, .row 28 [iS 0, iS 0])] 1 (by kernel_rfl) ?_
  refine wk_id ?_
  refine seq_np ?_
  refine reg_f ?_
  refine rs 4 [] [] (by kernel_rfl) allP_nil ?_
  refine rf [(4, .ptr 0 0)] [(0, .row 28 [iS code, iS xat])] 1 (by kernel_rfl) ?_
  refine wk_id ?_
  obtain rfl := Option.some.inj h
  refine ret_at (.agg [iS code, iS xat]) (by kernel_rfl) ?_
  exact ret_e [] [] (by simp only [push_cast, seval]) (by simp only [push_cast, seval]) rfl rfl rfl

set_option maxRecDepth 100000 in
set_option maxHeartbeats 10000000 in
theorem taskmillref_Admitted_spec (l : Lock) (r : Lock × (List Int)) (h : taskmillref_Admitted l = some r) : SpecW Try.prog 14 [.agg (Enc.cells l)] [] 0 (fun x h n => x = .tup [.agg (Enc.cells r.1), .own 0 0 r.2.length] ∧ h = [(0, .row 3 (fl r.2))] ∧ n = 1) := by
  unfold taskmillref_Admitted at h
  refine spec_of (draw_ok _) Try.func14 rfl (by decide) rfl (by kernel_rfl) ?_
  refine seq_np ?_
  refine reg_f ?_
  refine rs 3 [] [] (by kernel_rfl) allP_nil ?_
  refine rf [(1, .ptr 0 0), (2, .ptr 1 0)] [(0, .row 24 (Enc.cells l)), (1, .row 24 [iS 0, bS false, .v (.slice none 0 0)])] 2 (by kernel_rfl) ?_
  refine wk_id ?_
  refine seq_np ?_
  refine reg_f ?_
  refine rs 1 [] [] (by kernel_rfl) allP_nil ?_
  refine rf [(1, .ptr 0 0), (2, .ptr 1 0), (4, .v (.slice none 0 0))] [(0, .row 24 (Enc.cells l)), (1, .row 24 [iS 0, bS false, .v (.slice none 0 0)])] 2 (by kernel_rfl) ?_
  refine wk_id ?_
  refine seq_np ?_
  refine block_cut (A := Lock × (List Int)) (fun a => ([(1, .ptr 0 0), (2, .ptr 1 0), (4, .own 2 0 a.2.length)], [(0, .row 24 (Enc.cells a.1)), (1, .row 24 [iS 0, bS false, .v (.slice none 0 0)]), (2, .row 3 (fl a.2))], 3)) (fun a => (taskmillref_Admitted_j1 a.1 a.2) = some r) (fun K1015 hK1015 => ?_) ?_
  · refine loop_sx (S := Lock × (List Int)) (fun a => ([(1, .ptr 0 0), (2, .ptr 1 0), (4, .own 2 0 a.2.length)], [(0, .row 24 (Enc.cells a.1)), (1, .row 24 [iS 0, bS false, .v (.slice none 0 0)]), (2, .row 3 (fl a.2))], 3)) h (leSt_m [(0, 0), (1, 1)] [] (by simp only [push_cast, seval]) (by simp only [push_cast, seval]) rfl rfl rfl) ?_
    rintro ⟨c0q22, c2q10⟩ o2 R2 h hr2 hn2 hx2 ht2
    try dsimp only at h hn2 ⊢
    unfold taskmillref_Admitted_l1 at h
    try dsimp only at h
    refine seq_np ?_
    refine seq_np ?_
    refine reg_f ?_
    refine rs 4 [] [] (by kernel_rfl) allP_nil ?_
    refine rf [(1, .ptr 0 0), (2, .ptr 1 0), (4, .own 2 0 c2q10.length), (9, bS (decide ((0 : Int) < ((c0q22.Line.length : Nat) : Int))))] [(0, .row 24 (Enc.cells c0q22)), (1, .row 24 [iS 0, bS false, .v (.slice none 0 0)]), (2, .row 3 (fl c2q10))] 3 (by kernel_rfl) ?_
    refine wk_id ?_
    refine cond_sx h (by kernel_rfl) (fun g1069 h => ?_) (fun g1069 h => ?_)
    · refine wk_id ?_
      refine block_np ?_
      refine chk_sx h (fun g1047 h => ?_)
      refine seq_np ?_
      refine reg_f ?_
      have k1046 : 0 ≤ (0 : Int) ∧ (0 : Int) < ((c0q22.Line.length : Nat) : Int) := by first | simpa only [Bool.and_eq_true, decide_eq_true_eq, bne_iff_ne, ne_eq] using g1047 | (simp at g1047 ⊢; omega)
      refine rs 6 [none, none, some ⟨.iptr (fl c0q22.Line) (((0 : Int)).toNat * 3), [], 3, []⟩, some ⟨.agg (Enc.cells (ix c0q22.Line (0 : Int))), [], 3, []⟩] _ (by kernel_rfl) (allP_cons (ob_ldw c0q22.Line (0 : Int) 3 (((0 : Int)).toNat * 3) k1046 rfl (by first | rfl | omega) [iS (ix c0q22.Line (0 : Int)).Task, bS (ix c0q22.Line (0 : Int)).Write, iS (ix c0q22.Line (0 : Int)).N] rfl 3 []) (allP_cons (ob_ix_l c0q22.Line 3 3 0 k1046) allP_nil)) ?_
      refine rf [(1, .ptr 0 0), (2, .ptr 1 0), (4, .own 2 0 c2q10.length), (5, .ptr 3 0)] [(0, .row 24 (Enc.cells c0q22)), (1, .row 24 [iS 0, bS false, .v (.slice none 0 0)]), (2, .row 3 (fl c2q10)), (3, .row 47 (Enc.cells (ix c0q22.Line (0 : Int))))] 4 (by kernel_rfl) ?_
      refine wk_id ?_
      refine seq_np ?_
      refine seq_cut (A := Unit) (fun _ => ([(1, .ptr 0 0), (2, .ptr 1 0), (4, .own 2 0 c2q10.length), (5, .ptr 3 0), (24, bS (c0q22.Writer || ((ix c0q22.Line (0 : Int)).Write && (decide ((0 : Int) < c0q22.Readers)))))], [(0, .row 24 (Enc.cells c0q22)), (1, .row 24 [iS 0, bS false, .v (.slice none 0 0)]), (2, .row 3 (fl c2q10)), (3, .row 47 (Enc.cells (ix c0q22.Line (0 : Int))))], 4)) (fun _ => True) (fun K1053 hK1053 => ?_) (fun _ _ => ?_)
      · refine reg_f ?_
        refine rs 3 [] [] (by kernel_rfl) allP_nil ?_
        refine run_split 16 c0q22.Writer (.inl (by kernel_rfl)) (fun g1054 => ?_) (fun g1054 => ?_)
        · refine rs 8 [] [] (by kernel_rfl) allP_nil ?_
          refine rf [(1, .ptr 0 0), (2, .ptr 1 0), (4, .own 2 0 c2q10.length), (5, .ptr 3 0), (24, bS true)] [(0, .row 24 (Enc.cells c0q22)), (1, .row 24 [iS 0, bS false, .v (.slice none 0 0)]), (2, .row 3 (fl c2q10)), (3, .row 47 (Enc.cells (ix c0q22.Line (0 : Int))))] 4 (by kernel_rfl) ?_
          exact hK1053 () _ _ _ trivial (leSt_m [(0, 0), (1, 1), (2, 2), (3, 3)] [] (by (try simp only [g1054]) <;> simp only [push_cast, seval]) (by (try simp only [g1054]) <;> simp only [push_cast, seval]) rfl rfl rfl)
        · refine rs 3 [] [] (by kernel_rfl) allP_nil ?_
          refine run_split 19 (ix c0q22.Line (0 : Int)).Write (.inr (by kernel_rfl)) (fun g1055 => ?_) (fun g1055 => ?_)
          · refine rs 5 [] [] (by kernel_rfl) allP_nil ?_
            refine rf [(1, .ptr 0 0), (2, .ptr 1 0), (4, .own 2 0 c2q10.length), (5, .ptr 3 0), (24, bS (decide ((0 : Int) < c0q22.Readers)))] [(0, .row 24 (Enc.cells c0q22)), (1, .row 24 [iS 0, bS false, .v (.slice none 0 0)]), (2, .row 3 (fl c2q10)), (3, .row 47 (Enc.cells (ix c0q22.Line (0 : Int))))] 4 (by kernel_rfl) ?_
            exact hK1053 () _ _ _ trivial (leSt_m [(0, 0), (1, 1), (2, 2), (3, 3)] [] (by first | ((try simp only [g1054, g1055]) <;> simp only [push_cast, seval]; done) | (exfalso; clear h; simp_all)) (by first | ((try simp only [g1054, g1055]) <;> simp only [push_cast, seval]; done) | (exfalso; clear h; simp_all)) rfl rfl rfl)
          · refine rs 5 [] [] (by kernel_rfl) allP_nil ?_
            refine rf [(1, .ptr 0 0), (2, .ptr 1 0), (4, .own 2 0 c2q10.length), (5, .ptr 3 0), (24, bS false)] [(0, .row 24 (Enc.cells c0q22)), (1, .row 24 [iS 0, bS false, .v (.slice none 0 0)]), (2, .row 3 (fl c2q10)), (3, .row 47 (Enc.cells (ix c0q22.Line (0 : Int))))] 4 (by kernel_rfl) ?_
            exact hK1053 () _ _ _ trivial (leSt_m [(0, 0), (1, 1), (2, 2), (3, 3)] [] (by first | ((try simp only [g1054, g1055]) <;> simp only [push_cast, seval]; done) | (exfalso; clear h; simp_all)) (by first | ((try simp only [g1054, g1055]) <;> simp only [push_cast, seval]; done) | (exfalso; clear h; simp_all)) rfl rfl rfl)
      · dsimp only
        refine cond_sx h (by kernel_rfl) (fun g1068 h => ?_) (fun g1068 h => ?_)
        · change R2 (.exit 0) _ _ _
          refine ex_cast hx2 (id := 0) ?_
          obtain ⟨r0, h, e0⟩ := map_sx h
          have e1 := hr2 r0 e0.symm
          subst r0
          exact hK1015 (c0q22, c2q10) _ _ _ h (leSt_m [(0, 0), (1, 1), (2, 2)] [] (by simp only [push_cast, seval]) (by simp only [push_cast, seval]) rfl rfl rfl)
        · refine wk_id ?_
          refine seq_cut (A := Lock) (fun a => ([(1, .ptr 0 0), (2, .ptr 1 0), (4, .own 2 0 c2q10.length), (5, .ptr 3 0)], [(0, .row 24 (Enc.cells a)), (1, .row 24 [iS 0, bS false, .v (.slice none 0 0)]), (2, .row 3 (fl c2q10)), (3, .row 47 (Enc.cells (ix c0q22.Line (0 : Int))))], 4)) (fun a => (taskmillref_Admitted_j2 c0q22 c2q10 a) = some o2) (fun K1058 hK1058 => ?_) ?_
          · refine seq_np ?_
            refine reg_f ?_
            refine rs 2 [] [] (by kernel_rfl) allP_nil ?_
            refine rf [(1, .ptr 0 0), (2, .ptr 1 0), (4, .own 2 0 c2q10.length), (5, .ptr 3 0), (26, bS (ix c0q22.Line (0 : Int)).Write)] [(0, .row 24 (Enc.cells c0q22)), (1, .row 24 [iS 0, bS false, .v (.slice none 0 0)]), (2, .row 3 (fl c2q10)), (3, .row 47 (Enc.cells (ix c0q22.Line (0 : Int))))] 4 (by kernel_rfl) ?_
            refine wk_id ?_
            refine cond_sx h (by kernel_rfl) (fun g1059 h => ?_) (fun g1059 h => ?_)
            · refine reg_f ?_
              refine rs 2 [] [] (by kernel_rfl) allP_nil ?_
              refine rf [(1, .ptr 0 0), (2, .ptr 1 0), (4, .own 2 0 c2q10.length), (5, .ptr 3 0)] [(0, .row 24 [iS c0q22.Readers, bS true, .sl c0q22.Line.length (fl c0q22.Line)]), (1, .row 24 [iS 0, bS false, .v (.slice none 0 0)]), (2, .row 3 (fl c2q10)), (3, .row 47 (Enc.cells (ix c0q22.Line (0 : Int))))] 4 (by kernel_rfl) ?_
              exact hK1058 ((Lock.mk c0q22.Readers true c0q22.Line)) _ _ _ h (leSt_m [(0, 0), (1, 1), (2, 2), (3, 3)] [] (by simp only [push_cast, seval]) (by simp only [push_cast, seval]) rfl rfl rfl)
            · refine reg_f ?_
              refine rs 5 [] [] (by kernel_rfl) allP_nil ?_
              refine rf [(1, .ptr 0 0), (2, .ptr 1 0), (4, .own 2 0 c2q10.length), (5, .ptr 3 0)] [(0, .row 24 [iS (IntKind.i64.wrap (c0q22.Readers + 1)), bS c0q22.Writer, .sl c0q22.Line.length (fl c0q22.Line)]), (1, .row 24 [iS 0, bS false, .v (.slice none 0 0)]), (2, .row 3 (fl c2q10)), (3, .row 47 (Enc.cells (ix c0q22.Line (0 : Int))))] 4 (by kernel_rfl) ?_
              exact hK1058 ((Lock.mk (IntKind.i64.wrap (c0q22.Readers + 1)) c0q22.Writer c0q22.Line)) _ _ _ h (leSt_m [(0, 0), (1, 1), (2, 2), (3, 3)] [] (by simp only [push_cast, seval]) (by simp only [push_cast, seval]) rfl rfl rfl)
          · rintro c0q23 h
            try dsimp only at h ⊢
            unfold taskmillref_Admitted_j2 at h
            refine chk_sx h (fun g1063 h => ?_)
            refine seq_np ?_
            refine reg_f ?_
            have k1062 : (c2q10 ++ ([(ix c0q22.Line (0 : Int)).Task] : List Int)).length * 8 ≤ 140737488355328 := by first | simpa only [Bool.and_eq_true, decide_eq_true_eq, bne_iff_ne, ne_eq] using g1063 | (simp at g1063 ⊢; omega)
            refine rs 6 [none, none, none, none, some ⟨.own 5 0 (c2q10 ++ ([(ix c0q22.Line (0 : Int)).Task] : List Int)).length, [(5, .row 3 (fl (c2q10 ++ ([(ix c0q22.Line (0 : Int)).Task] : List Int)))), (2, .dead)], 6, [2, 4]⟩] _ (by kernel_rfl) (allP_cons (ob_app (P := Try.prog) c2q10 ([(ix c0q22.Line (0 : Int)).Task] : List Int) 1 8 rfl (appCells (fl ([(ix c0q22.Line (0 : Int)).Task] : List Int)) 0 (([(ix c0q22.Line (0 : Int)).Task] : List Int).length * 1)) ([(ix c0q22.Line (0 : Int)).Task] : List Int).length (app_own ([(ix c0q22.Line (0 : Int)).Task] : List Int) 1 rfl) rfl (0 + ([(ix c0q22.Line (0 : Int)).Task] : List Int).length * 1 ≤ (fl ([(ix c0q22.Line (0 : Int)).Task] : List Int)).length) (app_own_le ([(ix c0q22.Line (0 : Int)).Task] : List Int) 1 rfl) 3 (by kernel_rfl) (by decide) k1062 2 5 [4]) allP_nil) ?_
            refine rf [(1, .ptr 0 0), (2, .ptr 1 0), (4, .own 5 0 (c2q10 ++ ([(ix c0q22.Line (0 : Int)).Task] : List Int)).length)] [(0, .row 24 (Enc.cells c0q23)), (1, .row 24 [iS 0, bS false, .v (.slice none 0 0)]), (2, .dead), (3, .row 47 (Enc.cells (ix c0q22.Line (0 : Int)))), (4, .row 3 (fl ([(ix c0q22.Line (0 : Int)).Task] : List Int))), (5, .row 3 (fl (c2q10 ++ ([(ix c0q22.Line (0 : Int)).Task] : List Int))))] 6 (by kernel_rfl) ?_
            refine wk_id ?_
            refine chk_sx h (fun g1067 h => ?_)
            refine reg_f ?_
            have k1066 : 0 ≤ (1 : Int) ∧ (1 : Int) ≤ ((c0q23.Line.length : Nat) : Int) ∧ ((c0q23.Line.length : Nat) : Int) ≤ ((c0q23.Line.length : Nat) : Int) := by first | simpa only [Bool.and_eq_true, decide_eq_true_eq, bne_iff_ne, ne_eq] using g1067 | (simp at g1067 ⊢; omega)
            refine rs 5 [none, none, some ⟨.sl (cut c0q23.Line (1 : Int) ((c0q23.Line.length : Nat) : Int)).length (fl (cut c0q23.Line (1 : Int) ((c0q23.Line.length : Nat) : Int))), [], 6, []⟩] _ (by kernel_rfl) (allP_cons (ob_cut c0q23.Line (1 : Int) ((c0q23.Line.length : Nat) : Int) 3 6 rfl k1066) allP_nil) ?_
            refine rf [(1, .ptr 0 0), (2, .ptr 1 0), (4, .own 5 0 (c2q10 ++ ([(ix c0q22.Line (0 : Int)).Task] : List Int)).length)] [(0, .row 24 [iS c0q23.Readers, bS c0q23.Writer, .sl (cut c0q23.Line (1 : Int) ((c0q23.Line.length : Nat) : Int)).length (fl (cut c0q23.Line (1 : Int) ((c0q23.Line.length : Nat) : Int)))]), (1, .row 24 [iS 0, bS false, .v (.slice none 0 0)]), (2, .dead), (3, .row 47 (Enc.cells (ix c0q22.Line (0 : Int)))), (4, .row 3 (fl ([(ix c0q22.Line (0 : Int)).Task] : List Int))), (5, .row 3 (fl (c2q10 ++ ([(ix c0q22.Line (0 : Int)).Task] : List Int))))] 6 (by kernel_rfl) ?_
            refine wk_id ?_
            exact hn2 ((Lock.mk c0q23.Readers c0q23.Writer (cut c0q23.Line (1 : Int) ((c0q23.Line.length : Nat) : Int))), (c2q10 ++ ([(ix c0q22.Line (0 : Int)).Task] : List Int))) _ _ _ (Option.some.inj h).symm (leSt_m [(0, 0), (1, 1), (2, 5)] [] (by simp only [push_cast, seval]) (by simp only [push_cast, seval]) rfl rfl rfl)
    · change R2 (.exit 0) _ _ _
      refine ex_cast hx2 (id := 0) ?_
      obtain ⟨r0, h, e0⟩ := map_sx h
      have e1 := hr2 r0 e0.symm
      subst r0
      exact hK1015 (c0q22, c2q10) _ _ _ h (leSt_m [(0, 0), (1, 1), (2, 2)] [] (by simp only [push_cast, seval]) (by simp only [push_cast, seval]) rfl rfl rfl)
  · rintro ⟨c0q18, c2q8⟩ h
    try dsimp only at h ⊢
    unfold taskmillref_Admitted_j1 at h
    refine wk_id ?_
    refine seq_np ?_
    refine reg_f ?_
    refine rs 4 [] [] (by kernel_rfl) allP_nil ?_
    refine rf [(2, .ptr 1 0), (3, .own 2 0 c2q8.length)] [(0, .row 24 (Enc.cells c0q18)), (1, .row 24 (Enc.cells c0q18)), (2, .row 3 (fl c2q8))] 3 (by kernel_rfl) ?_
    refine wk_id ?_
    obtain rfl := Option.some.inj h
    refine ret_at (.tup [.agg (Enc.cells c0q18), .own 2 0 c2q8.length]) (by kernel_rfl) ?_
    exact ret_e [(0, 2)] [] (by simp only [push_cast, seval]) (by simp only [push_cast, seval]) rfl rfl rfl

set_option maxRecDepth 100000 in
set_option maxHeartbeats 10000000 in
theorem taskmillref_LockFault_spec (l : Lock) (r : Fault) (h : taskmillref_LockFault l = some r) : SpecW Try.prog 12 [.agg (Enc.cells l)] [] 0 (fun x h n => x = .agg (Enc.cells r) ∧ h = [] ∧ n = 0) := by
  unfold taskmillref_LockFault at h
  refine spec_of (draw_ok _) Try.func12 rfl (by decide) rfl (by kernel_rfl) ?_
  refine seq_np ?_
  refine reg_f ?_
  refine rs 2 [] [] (by kernel_rfl) allP_nil ?_
  refine rf [(1, .ptr 0 0), (2, .ptr 1 0)] [(0, .row 24 (Enc.cells l)), (1, .row 28 [iS 0, iS 0])] 2 (by kernel_rfl) ?_
  refine wk_id ?_
  refine seq_np ?_
  refine seq_np ?_
  refine reg_f ?_
  refine rs 4 [] [] (by kernel_rfl) allP_nil ?_
  refine rf [(1, .ptr 0 0), (2, .ptr 1 0), (10, bS (decide ((5000 : Int) < ((l.Line.length : Nat) : Int))))] [(0, .row 24 (Enc.cells l)), (1, .row 28 [iS 0, iS 0])] 2 (by kernel_rfl) ?_
  refine wk_id ?_
  refine cond_sx h (by kernel_rfl) (fun g1535 h => ?_) (fun g1535 h => ?_)
  · refine seq_np ?_
    refine reg_f ?_
    obtain ⟨r1152, hr1152, h⟩ := bind_sx h
    refine run_call 18 [iS 2, iS 0] (some 11) (by kernel_rfl) ?_
    refine call_0 (taskmillref_F_spec 2 0 r1152 hr1152) (by simp only [push_cast, seval]) (by simp only [push_cast, seval]) ?_
    refine back_f ?_
    refine rs 1 [] [] (by kernel_rfl) allP_nil ?_
    refine rf [(2, .ptr 1 0)] [(0, .row 24 (Enc.cells l)), (1, .row 28 (Enc.cells r1152))] 2 (by kernel_rfl) ?_
    refine wk_id ?_
    obtain rfl := Option.some.inj h
    refine ret_at (.agg (Enc.cells r1152)) (by kernel_rfl) ?_
    exact ret_e [] [] (by simp only [push_cast, seval]) (by simp only [push_cast, seval]) rfl rfl rfl
  · refine wk_id ?_
    refine seq_np ?_
    refine seq_cut (A := Unit) (fun _ => ([(1, .ptr 0 0), (2, .ptr 1 0), (19, bS ((decide (l.Readers < 0)) || (decide ((1000000000 : Int) < l.Readers))))], [(0, .row 24 (Enc.cells l)), (1, .row 28 [iS 0, iS 0])], 2)) (fun _ => True) (fun K1157 hK1157 => ?_) (fun _ _ => ?_)
    · refine reg_f ?_
      refine rs 4 [] [] (by kernel_rfl) allP_nil ?_
      refine run_split 15 (decide (l.Readers < 0)) (.inl (by kernel_rfl)) (fun g1158 => ?_) (fun g1158 => ?_)
      · refine rs 4 [] [] (by kernel_rfl) allP_nil ?_
        refine rf [(1, .ptr 0 0), (2, .ptr 1 0), (19, bS true)] [(0, .row 24 (Enc.cells l)), (1, .row 28 [iS 0, iS 0])] 2 (by kernel_rfl) ?_
        exact hK1157 () _ _ _ trivial (leSt_m [(0, 0), (1, 1)] [] (by (try simp only [g1158]) <;> simp only [push_cast, seval]) (by (try simp only [g1158]) <;> simp only [push_cast, seval]) rfl rfl rfl)
      · refine rs 4 [] [] (by kernel_rfl) allP_nil ?_
        refine rf [(1, .ptr 0 0), (2, .ptr 1 0), (19, bS (decide ((1000000000 : Int) < l.Readers)))] [(0, .row 24 (Enc.cells l)), (1, .row 28 [iS 0, iS 0])] 2 (by kernel_rfl) ?_
        exact hK1157 () _ _ _ trivial (leSt_m [(0, 0), (1, 1)] [] (by (try simp only [g1158]) <;> simp only [push_cast, seval]) (by (try simp only [g1158]) <;> simp only [push_cast, seval]) rfl rfl rfl)
    · dsimp only
      refine cond_sx h (by kernel_rfl) (fun g1534 h => ?_) (fun g1534 h => ?_)
      · refine seq_np ?_
        refine reg_f ?_
        obtain ⟨r1160, hr1160, h⟩ := bind_sx h
        refine run_call 18 [iS 3, iS 0] (some 20) (by kernel_rfl) ?_
        refine call_0 (taskmillref_F_spec 3 0 r1160 hr1160) (by simp only [push_cast, seval]) (by simp only [push_cast, seval]) ?_
        refine back_f ?_
        refine rs 1 [] [] (by kernel_rfl) allP_nil ?_
        refine rf [(2, .ptr 1 0)] [(0, .row 24 (Enc.cells l)), (1, .row 28 (Enc.cells r1160))] 2 (by kernel_rfl) ?_
        refine wk_id ?_
        obtain rfl := Option.some.inj h
        refine ret_at (.agg (Enc.cells r1160)) (by kernel_rfl) ?_
        exact ret_e [] [] (by simp only [push_cast, seval]) (by simp only [push_cast, seval]) rfl rfl rfl
      · refine wk_id ?_
        refine seq_np ?_
        refine seq_cut (A := Unit) (fun _ => ([(1, .ptr 0 0), (2, .ptr 1 0), (27, bS (l.Writer && (decide ((0 : Int) < l.Readers))))], [(0, .row 24 (Enc.cells l)), (1, .row 28 [iS 0, iS 0])], 2)) (fun _ => True) (fun K1165 hK1165 => ?_) (fun _ _ => ?_)
        · refine reg_f ?_
          refine rs 3 [] [] (by kernel_rfl) allP_nil ?_
          refine run_split 23 l.Writer (.inl (by kernel_rfl)) (fun g1166 => ?_) (fun g1166 => ?_)
          · refine rs 4 [] [] (by kernel_rfl) allP_nil ?_
            refine rf [(1, .ptr 0 0), (2, .ptr 1 0), (27, bS (decide ((0 : Int) < l.Readers)))] [(0, .row 24 (Enc.cells l)), (1, .row 28 [iS 0, iS 0])] 2 (by kernel_rfl) ?_
            exact hK1165 () _ _ _ trivial (leSt_m [(0, 0), (1, 1)] [] (by (try simp only [g1166]) <;> simp only [push_cast, seval]) (by (try simp only [g1166]) <;> simp only [push_cast, seval]) rfl rfl rfl)
          · refine rs 4 [] [] (by kernel_rfl) allP_nil ?_
            refine rf [(1, .ptr 0 0), (2, .ptr 1 0), (27, bS false)] [(0, .row 24 (Enc.cells l)), (1, .row 28 [iS 0, iS 0])] 2 (by kernel_rfl) ?_
            exact hK1165 () _ _ _ trivial (leSt_m [(0, 0), (1, 1)] [] (by (try simp only [g1166]) <;> simp only [push_cast, seval]) (by (try simp only [g1166]) <;> simp only [push_cast, seval]) rfl rfl rfl)
        · dsimp only
          refine cond_sx h (by kernel_rfl) (fun g1533 h => ?_) (fun g1533 h => ?_)
          · refine seq_np ?_
            refine reg_f ?_
            obtain ⟨r1168, hr1168, h⟩ := bind_sx h
            refine run_call 18 [iS 5, iS 0] (some 28) (by kernel_rfl) ?_
            refine call_0 (taskmillref_F_spec 5 0 r1168 hr1168) (by simp only [push_cast, seval]) (by simp only [push_cast, seval]) ?_
            refine back_f ?_
            refine rs 1 [] [] (by kernel_rfl) allP_nil ?_
            refine rf [(2, .ptr 1 0)] [(0, .row 24 (Enc.cells l)), (1, .row 28 (Enc.cells r1168))] 2 (by kernel_rfl) ?_
            refine wk_id ?_
            obtain rfl := Option.some.inj h
            refine ret_at (.agg (Enc.cells r1168)) (by kernel_rfl) ?_
            exact ret_e [] [] (by simp only [push_cast, seval]) (by simp only [push_cast, seval]) rfl rfl rfl
          · refine wk_id ?_
            refine seq_cut (A := Unit) (fun a => ([(1, .ptr 0 0), (2, .ptr 1 0)], [(0, .row 24 (Enc.cells l)), (1, .row 28 [iS 0, iS 0])], 2)) (fun a => (taskmillref_LockFault_j1 l) = some r) (fun K1174 hK1174 => ?_) ?_
            · refine seq_np ?_
              refine reg_f ?_
              refine rs 4 [] [] (by kernel_rfl) allP_nil ?_
              refine rf [(1, .ptr 0 0), (2, .ptr 1 0), (32, bS (decide ((0 : Int) < ((l.Line.length : Nat) : Int))))] [(0, .row 24 (Enc.cells l)), (1, .row 28 [iS 0, iS 0])] 2 (by kernel_rfl) ?_
              refine wk_id ?_
              refine cond_sx h (by kernel_rfl) (fun g1180 h => ?_) (fun g1180 h => ?_)
              · refine seq_np ?_
                refine reg_f ?_
                refine rs 1 [] [] (by kernel_rfl) allP_nil ?_
                obtain ⟨r1176, hr1176, h⟩ := bind_sx h
                refine call_x (taskmillref_Admitted_spec l r1176 hr1176) (args := [.agg (Enc.cells l)]) (dst := (some 35)) (by kernel_rfl) [(0, .row 24 (Enc.cells l)), (1, .row 28 [iS 0, iS 0])] 2 (by kernel_rfl) [] [] (.tup [.agg (Enc.cells r1176.1), .own 2 0 r1176.2.length]) [(2, .row 3 (fl r1176.2))] (by simp only [push_cast, seval]) (by simp only [push_cast, seval]) (by kernel_rfl) (.inl rfl) (by simp only [push_cast, seval]) (by simp only [push_cast, seval]) ?_
                refine rs 6 [] [] (by kernel_rfl) allP_nil ?_
                refine rf [(1, .ptr 0 0), (2, .ptr 1 0), (4, .own 2 0 r1176.2.length)] [(0, .row 24 (Enc.cells l)), (1, .row 28 [iS 0, iS 0]), (2, .row 3 (fl r1176.2)), (3, .row 24 (Enc.cells r1176.1))] 4 (by kernel_rfl) ?_
                refine wk_id ?_
                refine seq_np ?_
                refine reg_f ?_
                refine rs 3 [] [] (by kernel_rfl) allP_nil ?_
                refine rf [(1, .ptr 0 0), (2, .ptr 1 0), (40, bS (decide ((0 : Int) < ((r1176.2.length : Nat) : Int))))] [(0, .row 24 (Enc.cells l)), (1, .row 28 [iS 0, iS 0]), (2, .row 3 (fl r1176.2)), (3, .row 24 (Enc.cells r1176.1))] 4 (by kernel_rfl) ?_
                refine wk_id ?_
                refine cond_sx h (by kernel_rfl) (fun g1179 h => ?_) (fun g1179 h => ?_)
                · refine seq_np ?_
                  refine reg_f ?_
                  obtain ⟨r1178, hr1178, h⟩ := bind_sx h
                  refine run_call 18 [iS 5, iS 0] (some 41) (by kernel_rfl) ?_
                  refine call_0 (taskmillref_F_spec 5 0 r1178 hr1178) (by simp only [push_cast, seval]) (by simp only [push_cast, seval]) ?_
                  refine back_f ?_
                  refine rs 1 [] [] (by kernel_rfl) allP_nil ?_
                  refine rf [(2, .ptr 1 0)] [(0, .row 24 (Enc.cells l)), (1, .row 28 (Enc.cells r1178)), (2, .row 3 (fl r1176.2)), (3, .row 24 (Enc.cells r1176.1))] 4 (by kernel_rfl) ?_
                  refine wk_id ?_
                  obtain rfl := Option.some.inj h
                  refine ret_at (.agg (Enc.cells r1178)) (by kernel_rfl) ?_
                  exact ret_e [] [] (by simp only [push_cast, seval]) (by simp only [push_cast, seval]) rfl rfl rfl
                · exact hK1174 () _ _ _ h (leSt_m [(0, 0), (1, 1)] [] (by simp only [push_cast, seval]) (by simp only [push_cast, seval]) rfl rfl rfl)
              · exact hK1174 () _ _ _ h (leSt_m [(0, 0), (1, 1)] [] (by simp only [push_cast, seval]) (by simp only [push_cast, seval]) rfl rfl rfl)
            · rintro _ h
              try dsimp only at h ⊢
              unfold taskmillref_LockFault_j1 at h
              refine seq_np ?_
              refine seq_np ?_
              refine reg_f ?_
              refine rs 1 [] [] (by kernel_rfl) allP_nil ?_
              refine rf [(1, .ptr 0 0), (2, .ptr 1 0), (5, iS 0)] [(0, .row 24 (Enc.cells l)), (1, .row 28 [iS 0, iS 0])] 2 (by kernel_rfl) ?_
              refine wk_id ?_
              refine block_np ?_
              refine loop_sx (S := Int) (fun a => ([(1, .ptr 0 0), (2, .ptr 1 0), (5, iS a)], [(0, .row 24 (Enc.cells l)), (1, .row 28 [iS 0, iS 0])], 2)) h (leSt_m [(0, 0), (1, 1)] [] (by simp only [push_cast, seval]) (by simp only [push_cast, seval]) rfl rfl rfl) ?_
              rintro i7 o3 R3 h hr3 hn3 hx3 ht3
              try dsimp only at h hn3 ⊢
              unfold taskmillref_LockFault_l2 at h
              try dsimp only at h
              refine seq_np ?_
              refine seq_np ?_
              refine reg_f ?_
              refine rs 5 [] [] (by kernel_rfl) allP_nil ?_
              refine rf [(1, .ptr 0 0), (2, .ptr 1 0), (5, iS i7), (46, bS (decide (i7 < ((l.Line.length : Nat) : Int))))] [(0, .row 24 (Enc.cells l)), (1, .row 28 [iS 0, iS 0])] 2 (by kernel_rfl) ?_
              refine wk_id ?_
              refine cond_sx h (by kernel_rfl) (fun g1532 h => ?_) (fun g1532 h => ?_)
              · refine wk_id ?_
                refine seq_np ?_
                refine block_np ?_
                refine seq_np ?_
                refine chk_sx h (fun g1437 h => ?_)
                refine seq_np ?_
                refine reg_f ?_
                have k1436 : 0 ≤ i7 ∧ i7 < ((l.Line.length : Nat) : Int) := by first | simpa only [Bool.and_eq_true, decide_eq_true_eq, bne_iff_ne, ne_eq] using g1437 | (simp at g1437 ⊢; omega)
                refine rs 7 [none, none, none, some ⟨.iptr (fl l.Line) ((i7).toNat * 3), [], 2, []⟩, none, some ⟨iS (ix l.Line i7).Task, [], 2, []⟩] _ (by kernel_rfl) (allP_cons (ob_ld l.Line i7 3 0 (((i7).toNat * 3) + 0) k1436 rfl (by decide) (by first | rfl | omega) (dflS Try.prog 3) (iS (ix l.Line i7).Task) rfl 2 []) (allP_cons (ob_ix_l l.Line 3 2 i7 k1436) allP_nil)) ?_
                refine rf [(1, .ptr 0 0), (2, .ptr 1 0), (5, iS i7), (55, bS (decide ((ix l.Line i7).Task < 1)))] [(0, .row 24 (Enc.cells l)), (1, .row 28 [iS 0, iS 0])] 2 (by kernel_rfl) ?_
                refine wk_id ?_
                refine cond_sx h (by kernel_rfl) (fun g1531 h => ?_) (fun g1531 h => ?_)
                · refine seq_np ?_
                  refine reg_f ?_
                  refine rs 2 [] [] (by kernel_rfl) allP_nil ?_
                  obtain ⟨r1439, hr1439, h⟩ := bind_sx h
                  refine run_call 18 [iS 3, iS (IntKind.i64.wrap (i7 + 1))] (some 58) (by kernel_rfl) ?_
                  refine call_0 (taskmillref_F_spec 3 (IntKind.i64.wrap (i7 + 1)) r1439 hr1439) (by simp only [push_cast, seval]) (by simp only [push_cast, seval]) ?_
                  refine back_f ?_
                  refine rs 1 [] [] (by kernel_rfl) allP_nil ?_
                  refine rf [(2, .ptr 1 0)] [(0, .row 24 (Enc.cells l)), (1, .row 28 (Enc.cells r1439))] 2 (by kernel_rfl) ?_
                  refine wk_id ?_
                  refine rt_cast ht3 ?_
                  obtain ⟨r0, h, e0⟩ := map_sx h
                  have e1 := hr3 r0 e0.symm
                  subst r0
                  obtain rfl := Option.some.inj h
                  refine ret_at (.agg (Enc.cells r1439)) (by kernel_rfl) ?_
                  exact ret_e [] [] (by simp only [push_cast, seval]) (by simp only [push_cast, seval]) rfl rfl rfl
                · refine wk_id ?_
                  refine seq_np ?_
                  refine seq_np ?_
                  refine reg_f ?_
                  refine rs 1 [] [] (by kernel_rfl) allP_nil ?_
                  refine rf [(1, .ptr 0 0), (2, .ptr 1 0), (5, iS i7), (6, iS 0)] [(0, .row 24 (Enc.cells l)), (1, .row 28 [iS 0, iS 0])] 2 (by kernel_rfl) ?_
                  refine wk_id ?_
                  refine block_np ?_
                  refine loop_sx (S := Int) (fun a => ([(1, .ptr 0 0), (2, .ptr 1 0), (5, iS i7), (6, iS a)], [(0, .row 24 (Enc.cells l)), (1, .row 28 [iS 0, iS 0])], 2)) h (leSt_m [(0, 0), (1, 1)] [] (by simp only [push_cast, seval]) (by simp only [push_cast, seval]) rfl rfl rfl) ?_
                  rintro k23 o4 R4 h hr4 hn4 hx4 ht4
                  try dsimp only at h hn4 ⊢
                  unfold taskmillref_LockFault_l1 at h
                  try dsimp only at h
                  refine seq_np ?_
                  refine seq_np ?_
                  refine reg_f ?_
                  refine rs 3 [] [] (by kernel_rfl) allP_nil ?_
                  refine rf [(1, .ptr 0 0), (2, .ptr 1 0), (5, iS i7), (6, iS k23), (61, bS (decide (k23 < i7)))] [(0, .row 24 (Enc.cells l)), (1, .row 28 [iS 0, iS 0])] 2 (by kernel_rfl) ?_
                  refine wk_id ?_
                  refine cond_sx h (by kernel_rfl) (fun g1530 h => ?_) (fun g1530 h => ?_)
                  · refine wk_id ?_
                    refine seq_np ?_
                    refine block_np ?_
                    refine chk_sx h (fun g1517 h => ?_)
                    refine chk_sx h (fun g1519 h => ?_)
                    refine seq_np ?_
                    refine reg_t ?_
                    have k1516 : 0 ≤ k23 ∧ k23 < ((l.Line.length : Nat) : Int) := by first | simpa only [Bool.and_eq_true, decide_eq_true_eq, bne_iff_ne, ne_eq] using g1517 | (simp at g1517 ⊢; omega)
                    have k1518 : 0 ≤ i7 ∧ i7 < ((l.Line.length : Nat) : Int) := by first | simpa only [Bool.and_eq_true, decide_eq_true_eq, bne_iff_ne, ne_eq] using g1519 | (simp at g1519 ⊢; omega)
                    refine rs 13 [none, none, none, some ⟨.iptr (fl l.Line) ((k23).toNat * 3), [], 5, []⟩, none, some ⟨iS (ix l.Line k23).Task, [], 7, []⟩, none, none, none, some ⟨.iptr (fl l.Line) ((i7).toNat * 3), [], 11, []⟩, none, some ⟨iS (ix l.Line i7).Task, [], 13, []⟩] _ (by kernel_rfl) (allP_cons (ob_ld l.Line i7 3 0 (((i7).toNat * 3) + 0) k1518 rfl (by decide) (by first | rfl | omega) (dflS Try.prog 3) (iS (ix l.Line i7).Task) rfl 13 []) (allP_cons (ob_ix_l l.Line 3 11 i7 k1518) (allP_cons (ob_ld l.Line k23 3 0 (((k23).toNat * 3) + 0) k1516 rfl (by decide) (by first | rfl | omega) (dflS Try.prog 3) (iS (ix l.Line k23).Task) rfl 7 []) (allP_cons (ob_ix_l l.Line 3 5 k23 k1516) allP_nil)))) ?_
                    refine rt [(1, .ptr 0 0), (2, .ptr 1 0), (5, iS i7), (6, iS k23), (76, bS ((ix l.Line k23).Task == (ix l.Line i7).Task))] [(0, .row 24 (Enc.cells l)), (1, .row 28 [iS 0, iS 0])] 15 follows (by kernel_rfl) ?_
                    refine wk_id ?_
                    refine cond_sx h (by kernel_rfl) (fun g1522 h => ?_) (fun g1522 h => ?_)
                    · refine seq_np ?_
                      refine reg_f ?_
                      refine rs 2 [] [] (by kernel_rfl) allP_nil ?_
                      obtain ⟨r1521, hr1521, h⟩ := bind_sx h
                      refine run_call 18 [iS 10, iS (IntKind.i64.wrap (i7 + 1))] (some 79) (by kernel_rfl) ?_
                      refine call_0 (taskmillref_F_spec 10 (IntKind.i64.wrap (i7 + 1)) r1521 hr1521) (by simp only [push_cast, seval]) (by simp only [push_cast, seval]) ?_
                      refine back_f ?_
                      refine rs 1 [] [] (by kernel_rfl) allP_nil ?_
                      refine rf [(2, .ptr 1 0)] [(0, .row 24 (Enc.cells l)), (1, .row 28 (Enc.cells r1521))] 15 (by kernel_rfl) ?_
                      refine wk_id ?_
                      refine rt_cast ht4 ?_
                      obtain ⟨r0, h, e0⟩ := map_sx h
                      have e1 := hr4 r0 e0.symm
                      subst r0
                      refine rt_cast ht3 ?_
                      obtain ⟨r0, h, e0⟩ := map_sx h
                      have e1 := hr3 r0 e0.symm
                      subst r0
                      obtain rfl := Option.some.inj h
                      refine ret_at (.agg (Enc.cells r1521)) (by kernel_rfl) ?_
                      exact ret_e [] [] (by simp only [push_cast, seval]) (by simp only [push_cast, seval]) rfl rfl rfl
                    · refine wk_id ?_
                      refine wk_id ?_
                      refine reg_f ?_
                      refine rs 3 [] [] (by kernel_rfl) allP_nil ?_
                      refine rf [(1, .ptr 0 0), (2, .ptr 1 0), (5, iS i7), (6, iS (IntKind.i64.wrap (k23 + 1)))] [(0, .row 24 (Enc.cells l)), (1, .row 28 [iS 0, iS 0])] 15 (by kernel_rfl) ?_
                      exact hn4 ((IntKind.i64.wrap (k23 + 1))) _ _ _ (Option.some.inj h).symm (leSt_m [(0, 0), (1, 1)] [] (by simp only [push_cast, seval]) (by simp only [push_cast, seval]) rfl rfl rfl)
                  · change R4 (.exit 2) _ _ _
                    refine ex_cast hx4 (id := 2) ?_
                    obtain ⟨r0, h, e0⟩ := map_sx h
                    have e1 := hr4 r0 e0.symm
                    subst r0
                    refine wk_id ?_
                    refine wk_id ?_
                    refine chk_sx h (fun g1526 h => ?_)
                    refine seq_np ?_
                    refine reg_f ?_
                    have k1525 : 0 ≤ i7 ∧ i7 < ((l.Line.length : Nat) : Int) := by first | simpa only [Bool.and_eq_true, decide_eq_true_eq, bne_iff_ne, ne_eq] using g1526 | (simp at g1526 ⊢; omega)
                    refine rs 7 [none, none, none, some ⟨.iptr (fl l.Line) ((i7).toNat * 3), [], 2, []⟩, none, some ⟨iS (ix l.Line i7).N, [], 2, []⟩] _ (by kernel_rfl) (allP_cons (ob_ld l.Line i7 3 2 (((i7).toNat * 3) + 2) k1525 rfl (by decide) (by first | rfl | omega) (dflS Try.prog 3) (iS (ix l.Line i7).N) rfl 2 []) (allP_cons (ob_ix_l l.Line 3 2 i7 k1525) allP_nil)) ?_
                    refine rf [(1, .ptr 0 0), (2, .ptr 1 0), (5, iS i7), (86, bS ((ix l.Line i7).N != 0))] [(0, .row 24 (Enc.cells l)), (1, .row 28 [iS 0, iS 0])] 2 (by kernel_rfl) ?_
                    refine wk_id ?_
                    refine cond_sx h (by kernel_rfl) (fun g1529 h => ?_) (fun g1529 h => ?_)
                    · refine seq_np ?_
                      refine reg_f ?_
                      refine rs 2 [] [] (by kernel_rfl) allP_nil ?_
                      obtain ⟨r1528, hr1528, h⟩ := bind_sx h
                      refine run_call 18 [iS 5, iS (IntKind.i64.wrap (i7 + 1))] (some 89) (by kernel_rfl) ?_
                      refine call_0 (taskmillref_F_spec 5 (IntKind.i64.wrap (i7 + 1)) r1528 hr1528) (by simp only [push_cast, seval]) (by simp only [push_cast, seval]) ?_
                      refine back_f ?_
                      refine rs 1 [] [] (by kernel_rfl) allP_nil ?_
                      refine rf [(2, .ptr 1 0)] [(0, .row 24 (Enc.cells l)), (1, .row 28 (Enc.cells r1528))] 2 (by kernel_rfl) ?_
                      refine wk_id ?_
                      refine rt_cast ht3 ?_
                      obtain ⟨r0, h, e0⟩ := map_sx h
                      have e1 := hr3 r0 e0.symm
                      subst r0
                      obtain rfl := Option.some.inj h
                      refine ret_at (.agg (Enc.cells r1528)) (by kernel_rfl) ?_
                      exact ret_e [] [] (by simp only [push_cast, seval]) (by simp only [push_cast, seval]) rfl rfl rfl
                    · refine wk_id ?_
                      refine wk_id ?_
                      refine reg_f ?_
                      refine rs 3 [] [] (by kernel_rfl) allP_nil ?_
                      refine rf [(1, .ptr 0 0), (2, .ptr 1 0), (5, iS (IntKind.i64.wrap (i7 + 1)))] [(0, .row 24 (Enc.cells l)), (1, .row 28 [iS 0, iS 0])] 2 (by kernel_rfl) ?_
                      exact hn3 ((IntKind.i64.wrap (i7 + 1))) _ _ _ (Option.some.inj h).symm (leSt_m [(0, 0), (1, 1)] [] (by simp only [push_cast, seval]) (by simp only [push_cast, seval]) rfl rfl rfl)
              · change R3 (.exit 0) _ _ _
                refine ex_cast hx3 (id := 0) ?_
                obtain ⟨r0, h, e0⟩ := map_sx h
                have e1 := hr3 r0 e0.symm
                subst r0
                refine wk_id ?_
                refine wk_id ?_
                refine seq_np ?_
                refine reg_f ?_
                refine rs 2 [] [] (by kernel_rfl) allP_nil ?_
                refine rf [(2, .ptr 1 0)] [(0, .row 24 (Enc.cells l)), (1, .row 28 [iS 0, iS 0])] 2 (by kernel_rfl) ?_
                refine wk_id ?_
                obtain rfl := Option.some.inj h
                refine ret_at (.agg [iS 0, iS 0]) (by kernel_rfl) ?_
                exact ret_e [] [] (by simp only [push_cast, seval]) (by simp only [push_cast, seval]) rfl rfl rfl

set_option maxRecDepth 100000 in
set_option maxHeartbeats 10000000 in
theorem taskmillref_SameWants_spec (xa : (List Want)) (b : (List Want)) (r : Bool) (h : taskmillref_SameWants xa b = some r) : SpecW Try.prog 31 [.sl xa.length (fl xa), .sl b.length (fl b)] [] 0 (fun x h n => x = bS r ∧ h = [] ∧ n = 0) := by
  unfold taskmillref_SameWants at h
  refine spec_of (draw_ok _) Try.func31 rfl (by decide) rfl (by kernel_rfl) ?_
  refine seq_np ?_
  refine reg_f ?_
  refine rs 1 [] [] (by kernel_rfl) allP_nil ?_
  refine rf [(0, .sl xa.length (fl xa)), (1, .sl b.length (fl b))] [] 0 (by kernel_rfl) ?_
  refine wk_id ?_
  refine seq_np ?_
  refine seq_np ?_
  refine reg_f ?_
  refine rs 5 [] [] (by kernel_rfl) allP_nil ?_
  refine rf [(0, .sl xa.length (fl xa)), (1, .sl b.length (fl b)), (10, bS (((xa.length : Nat) : Int) != ((b.length : Nat) : Int)))] [] 0 (by kernel_rfl) ?_
  refine wk_id ?_
  refine cond_sx h (by kernel_rfl) (fun g1633 h => ?_) (fun g1633 h => ?_)
  · refine seq_np ?_
    refine reg_f ?_
    refine rs 1 [] [] (by kernel_rfl) allP_nil ?_
    refine rf [(4, bS false)] [] 0 (by kernel_rfl) ?_
    refine wk_id ?_
    obtain rfl := Option.some.inj h
    refine ret_at (bS false) (by kernel_rfl) ?_
    exact ret_e [] [] (by simp only [push_cast, seval]) (by simp only [push_cast, seval]) rfl rfl rfl
  · refine wk_id ?_
    refine seq_np ?_
    refine seq_np ?_
    refine reg_f ?_
    refine rs 1 [] [] (by kernel_rfl) allP_nil ?_
    refine rf [(0, .sl xa.length (fl xa)), (1, .sl b.length (fl b)), (5, iS 0)] [] 0 (by kernel_rfl) ?_
    refine wk_id ?_
    refine block_np ?_
    refine loop_sx (S := Int) (fun a => ([(0, .sl xa.length (fl xa)), (1, .sl b.length (fl b)), (5, iS a)], [], 0)) h (leSt_m [] [] (by simp only [push_cast, seval]) (by simp only [push_cast, seval]) rfl rfl rfl) ?_
    rintro i7 o2 R2 h hr2 hn2 hx2 ht2
    try dsimp only at h hn2 ⊢
    unfold taskmillref_SameWants_l1 at h
    try dsimp only at h
    refine seq_np ?_
    refine seq_np ?_
    refine reg_f ?_
    refine rs 4 [] [] (by kernel_rfl) allP_nil ?_
    refine rf [(0, .sl xa.length (fl xa)), (1, .sl b.length (fl b)), (5, iS i7), (14, bS (decide (i7 < ((xa.length : Nat) : Int))))] [] 0 (by kernel_rfl) ?_
    refine wk_id ?_
    refine cond_sx h (by kernel_rfl) (fun g1632 h => ?_) (fun g1632 h => ?_)
    · refine wk_id ?_
      refine seq_np ?_
      refine block_np ?_
      refine chk_sx h (fun g1628 h => ?_)
      refine chk_sx h (fun g1630 h => ?_)
      refine seq_np ?_
      refine reg_t ?_
      have k1627 : 0 ≤ i7 ∧ i7 < ((xa.length : Nat) : Int) := by first | simpa only [Bool.and_eq_true, decide_eq_true_eq, bne_iff_ne, ne_eq] using g1628 | (simp at g1628 ⊢; omega)
      have k1629 : 0 ≤ i7 ∧ i7 < ((b.length : Nat) : Int) := by first | simpa only [Bool.and_eq_true, decide_eq_true_eq, bne_iff_ne, ne_eq] using g1630 | (simp at g1630 ⊢; omega)
      refine rs 9 [none, none, some ⟨.iptr (fl xa) ((i7).toNat * 3), [], 2, []⟩, some ⟨.agg (Enc.cells (ix xa i7)), [], 3, []⟩, none, none, some ⟨.iptr (fl b) ((i7).toNat * 3), [], 6, []⟩, some ⟨.agg (Enc.cells (ix b i7)), [], 7, []⟩] _ (by kernel_rfl) (allP_cons (ob_ldw b i7 3 ((i7).toNat * 3) k1629 rfl (by first | rfl | omega) [iS (ix b i7).Task, bS (ix b i7).Write, iS (ix b i7).N] rfl 7 []) (allP_cons (ob_ix_l b 3 6 i7 k1629) (allP_cons (ob_ldw xa i7 3 ((i7).toNat * 3) k1627 rfl (by first | rfl | omega) [iS (ix xa i7).Task, bS (ix xa i7).Write, iS (ix xa i7).N] rfl 3 []) (allP_cons (ob_ix_l xa 3 2 i7 k1627) allP_nil)))) ?_
      refine rt [(0, .sl xa.length (fl xa)), (1, .sl b.length (fl b)), (5, iS i7), (25, bS (!(((ix xa i7).Task == (ix b i7).Task) && (((ix xa i7).Write == (ix b i7).Write) && (((ix xa i7).N == (ix b i7).N) && true)))))] [] 9 follows (by kernel_rfl) ?_
      refine wk_id ?_
      refine cond_sx h (by kernel_rfl) (fun g1631 h => ?_) (fun g1631 h => ?_)
      · refine seq_np ?_
        refine reg_f ?_
        refine rs 1 [] [] (by kernel_rfl) allP_nil ?_
        refine rf [(4, bS false)] [] 9 (by kernel_rfl) ?_
        refine wk_id ?_
        refine rt_cast ht2 ?_
        obtain ⟨r0, h, e0⟩ := map_sx h
        have e1 := hr2 r0 e0.symm
        subst r0
        obtain rfl := Option.some.inj h
        refine ret_at (bS false) (by kernel_rfl) ?_
        exact ret_e [] [] (by simp only [push_cast, seval]) (by simp only [push_cast, seval]) rfl rfl rfl
      · refine wk_id ?_
        refine wk_id ?_
        refine reg_f ?_
        refine rs 3 [] [] (by kernel_rfl) allP_nil ?_
        refine rf [(0, .sl xa.length (fl xa)), (1, .sl b.length (fl b)), (5, iS (IntKind.i64.wrap (i7 + 1)))] [] 9 (by kernel_rfl) ?_
        exact hn2 ((IntKind.i64.wrap (i7 + 1))) _ _ _ (Option.some.inj h).symm (leSt_m [] [] (by simp only [push_cast, seval]) (by simp only [push_cast, seval]) rfl rfl rfl)
    · change R2 (.exit 0) _ _ _
      refine ex_cast hx2 (id := 0) ?_
      obtain ⟨r0, h, e0⟩ := map_sx h
      have e1 := hr2 r0 e0.symm
      subst r0
      refine wk_id ?_
      refine wk_id ?_
      refine seq_np ?_
      refine reg_f ?_
      refine rs 1 [] [] (by kernel_rfl) allP_nil ?_
      refine rf [(4, bS true)] [] 0 (by kernel_rfl) ?_
      refine wk_id ?_
      obtain rfl := Option.some.inj h
      refine ret_at (bS true) (by kernel_rfl) ?_
      exact ret_e [] [] (by simp only [push_cast, seval]) (by simp only [push_cast, seval]) rfl rfl rfl

set_option maxRecDepth 100000 in
set_option maxHeartbeats 10000000 in
theorem taskmillref_SameLock_spec (xa : Lock) (b : Lock) (r : Bool) (h : taskmillref_SameLock xa b = some r) : SpecW Try.prog 15 [.agg (Enc.cells xa), .agg (Enc.cells b)] [] 0 (fun x h n => x = bS r ∧ h = [] ∧ n = 0) := by
  unfold taskmillref_SameLock at h
  refine spec_of (draw_ok _) Try.func15 rfl (by decide) rfl (by kernel_rfl) ?_
  refine seq_np ?_
  refine reg_f ?_
  refine rs 3 [] [] (by kernel_rfl) allP_nil ?_
  refine rf [(2, .ptr 0 0), (3, .ptr 1 0)] [(0, .row 24 (Enc.cells xa)), (1, .row 24 (Enc.cells b))] 2 (by kernel_rfl) ?_
  refine wk_id ?_
  refine seq_cut (A := Bool) (fun a => ([(4, bS a)], [], 0)) (fun a => (taskmillref_SameLock_j1 a) = some r) (fun K1641 hK1641 => ?_) ?_
  · refine reg_f ?_
    refine rs 6 [] [] (by kernel_rfl) allP_nil ?_
    refine run_br h 10 (.inl (by kernel_rfl)) (fun g1642 h => ?_) (fun g1642 h => ?_)
    · refine rs 7 [] [] (by kernel_rfl) allP_nil ?_
      refine run_br h 17 (.inl (by kernel_rfl)) (fun g1643 h => ?_) (fun g1643 h => ?_)
      · refine rs 4 [] [] (by kernel_rfl) allP_nil ?_
        obtain ⟨r1644, hr1644, h⟩ := bind_sx h
        refine run_call 31 [.sl xa.Line.length (fl xa.Line), .sl b.Line.length (fl b.Line)] (some 22) (by kernel_rfl) ?_
        refine call_0 (taskmillref_SameWants_spec xa.Line b.Line r1644 hr1644) (by simp only [push_cast, seval]) (by simp only [push_cast, seval]) ?_
        refine back_f ?_
        refine rs 2 [] [] (by kernel_rfl) allP_nil ?_
        refine rf [(4, bS r1644)] [(0, .row 24 (Enc.cells xa)), (1, .row 24 (Enc.cells b))] 2 (by kernel_rfl) ?_
        exact hK1641 (r1644) _ _ _ h (leSt_m [] [] (by first | ((try simp only [g1642, g1643]) <;> simp only [push_cast, seval]; done) | (exfalso; clear h; simp_all)) (by first | ((try simp only [g1642, g1643]) <;> simp only [push_cast, seval]; done) | (exfalso; clear h; simp_all)) rfl rfl rfl)
      · refine rs 7 [] [] (by kernel_rfl) allP_nil ?_
        refine rf [(4, bS false)] [(0, .row 24 (Enc.cells xa)), (1, .row 24 (Enc.cells b))] 2 (by kernel_rfl) ?_
        exact hK1641 (false) _ _ _ h (leSt_m [] [] (by first | ((try simp only [g1642, g1643]) <;> simp only [push_cast, seval]; done) | (exfalso; clear h; simp_all)) (by first | ((try simp only [g1642, g1643]) <;> simp only [push_cast, seval]; done) | (exfalso; clear h; simp_all)) rfl rfl rfl)
    · refine rs 14 [] [] (by kernel_rfl) allP_nil ?_
      refine rf [(4, bS false)] [(0, .row 24 (Enc.cells xa)), (1, .row 24 (Enc.cells b))] 2 (by kernel_rfl) ?_
      exact hK1641 (false) _ _ _ h (leSt_m [] [] (by (try simp only [g1642]) <;> simp only [push_cast, seval]) (by (try simp only [g1642]) <;> simp only [push_cast, seval]) rfl rfl rfl)
  · rintro t4q1 h
    try dsimp only at h ⊢
    unfold taskmillref_SameLock_j1 at h
    obtain rfl := Option.some.inj h
    refine ret_at (bS t4q1) (by kernel_rfl) ?_
    exact ret_e [] [] (by simp only [push_cast, seval]) (by simp only [push_cast, seval]) rfl rfl rfl

set_option maxRecDepth 100000 in
set_option maxHeartbeats 10000000 in
theorem taskmillref_InLine_spec (l : (List Want)) (task : Int) (r : Int) (h : taskmillref_InLine l task = some r) : SpecW Try.prog 17 [.sl l.length (fl l), iS task] [] 0 (fun x h n => x = iS r ∧ h = [] ∧ n = 0) := by
  unfold taskmillref_InLine at h
  refine spec_of (draw_ok _) Try.func17 rfl (by decide) rfl (by kernel_rfl) ?_
  refine seq_np ?_
  refine reg_f ?_
  refine rs 1 [] [] (by kernel_rfl) allP_nil ?_
  refine rf [(0, .sl l.length (fl l)), (1, iS task)] [] 0 (by kernel_rfl) ?_
  refine wk_id ?_
  refine seq_np ?_
  refine seq_np ?_
  refine reg_f ?_
  refine rs 1 [] [] (by kernel_rfl) allP_nil ?_
  refine rf [(0, .sl l.length (fl l)), (1, iS task), (5, iS 0)] [] 0 (by kernel_rfl) ?_
  refine wk_id ?_
  refine block_np ?_
  refine loop_sx (S := Int) (fun a => ([(0, .sl l.length (fl l)), (1, iS task), (5, iS a)], [], 0)) h (leSt_m [] [] (by simp only [push_cast, seval]) (by simp only [push_cast, seval]) rfl rfl rfl) ?_
  rintro i7 o2 R2 h hr2 hn2 hx2 ht2
  try dsimp only at h hn2 ⊢
  unfold taskmillref_InLine_l1 at h
  try dsimp only at h
  refine seq_np ?_
  refine seq_np ?_
  refine reg_f ?_
  refine rs 4 [] [] (by kernel_rfl) allP_nil ?_
  refine rf [(0, .sl l.length (fl l)), (1, iS task), (5, iS i7), (9, bS (decide (i7 < ((l.length : Nat) : Int))))] [] 0 (by kernel_rfl) ?_
  refine wk_id ?_
  refine cond_sx h (by kernel_rfl) (fun g1715 h => ?_) (fun g1715 h => ?_)
  · refine wk_id ?_
    refine seq_np ?_
    refine block_np ?_
    refine chk_sx h (fun g1713 h => ?_)
    refine seq_np ?_
    refine reg_f ?_
    have k1712 : 0 ≤ i7 ∧ i7 < ((l.length : Nat) : Int) := by first | simpa only [Bool.and_eq_true, decide_eq_true_eq, bne_iff_ne, ne_eq] using g1713 | (simp at g1713 ⊢; omega)
    refine rs 7 [none, none, some ⟨.iptr (fl l) ((i7).toNat * 3), [], 0, []⟩, none, some ⟨iS (ix l i7).Task, [], 0, []⟩] _ (by kernel_rfl) (allP_cons (ob_ld l i7 3 0 (((i7).toNat * 3) + 0) k1712 rfl (by decide) (by first | rfl | omega) (dflS Try.prog 3) (iS (ix l i7).Task) rfl 0 []) (allP_cons (ob_ix_l l 3 0 i7 k1712) allP_nil)) ?_
    refine rf [(0, .sl l.length (fl l)), (1, iS task), (5, iS i7), (18, bS ((ix l i7).Task == task))] [] 0 (by kernel_rfl) ?_
    refine wk_id ?_
    refine cond_sx h (by kernel_rfl) (fun g1714 h => ?_) (fun g1714 h => ?_)
    · refine seq_np ?_
      refine reg_f ?_
      refine rs 2 [] [] (by kernel_rfl) allP_nil ?_
      refine rf [(4, iS i7)] [] 0 (by kernel_rfl) ?_
      refine wk_id ?_
      refine rt_cast ht2 ?_
      obtain ⟨r0, h, e0⟩ := map_sx h
      have e1 := hr2 r0 e0.symm
      subst r0
      obtain rfl := Option.some.inj h
      refine ret_at (iS i7) (by kernel_rfl) ?_
      exact ret_e [] [] (by simp only [push_cast, seval]) (by simp only [push_cast, seval]) rfl rfl rfl
    · refine wk_id ?_
      refine wk_id ?_
      refine reg_f ?_
      refine rs 3 [] [] (by kernel_rfl) allP_nil ?_
      refine rf [(0, .sl l.length (fl l)), (1, iS task), (5, iS (IntKind.i64.wrap (i7 + 1)))] [] 0 (by kernel_rfl) ?_
      exact hn2 ((IntKind.i64.wrap (i7 + 1))) _ _ _ (Option.some.inj h).symm (leSt_m [] [] (by simp only [push_cast, seval]) (by simp only [push_cast, seval]) rfl rfl rfl)
  · change R2 (.exit 0) _ _ _
    refine ex_cast hx2 (id := 0) ?_
    obtain ⟨r0, h, e0⟩ := map_sx h
    have e1 := hr2 r0 e0.symm
    subst r0
    refine wk_id ?_
    refine wk_id ?_
    refine seq_np ?_
    refine reg_f ?_
    refine rs 1 [] [] (by kernel_rfl) allP_nil ?_
    refine rf [(4, iS (-1))] [] 0 (by kernel_rfl) ?_
    refine wk_id ?_
    obtain rfl := Option.some.inj h
    refine ret_at (iS (-1)) (by kernel_rfl) ?_
    exact ret_e [] [] (by simp only [push_cast, seval]) (by simp only [push_cast, seval]) rfl rfl rfl

set_option maxRecDepth 100000 in
set_option maxHeartbeats 10000000 in
theorem taskmilllaw_noLock_spec (l : Lock) (r : Bool) (h : taskmilllaw_noLock l = some r) : SpecW Try.prog 13 [.agg (Enc.cells l)] [] 0 (fun x h n => x = bS r ∧ h = [] ∧ n = 0) := by
  unfold taskmilllaw_noLock at h
  refine spec_of (draw_ok _) Try.func13 rfl (by decide) rfl (by kernel_rfl) ?_
  refine seq_np ?_
  refine reg_f ?_
  refine rs 2 [] [] (by kernel_rfl) allP_nil ?_
  refine rf [(1, .ptr 0 0)] [(0, .row 24 (Enc.cells l))] 1 (by kernel_rfl) ?_
  refine wk_id ?_
  refine seq_np ?_
  refine reg_f ?_
  refine rs 2 [] [] (by kernel_rfl) allP_nil ?_
  obtain ⟨r1732, hr1732, h⟩ := bind_sx h
  refine call_x (taskmillref_SameLock_spec l (Lock.mk 0 false []) r1732 hr1732) (args := [.agg (Enc.cells l), .agg [iS 0, bS false, .v (.slice none 0 0)]]) (dst := (some 5)) (by kernel_rfl) [(0, .row 24 (Enc.cells l))] 1 (by kernel_rfl) [] [] (bS r1732) [] (by simp only [push_cast, seval]) (by simp only [push_cast, seval]) (by kernel_rfl) (.inl rfl) (by simp only [push_cast, seval]) (by simp only [push_cast, seval]) ?_
  refine rs 1 [] [] (by kernel_rfl) allP_nil ?_
  refine rf [(2, bS r1732)] [(0, .row 24 (Enc.cells l))] 1 (by kernel_rfl) ?_
  refine wk_id ?_
  obtain rfl := Option.some.inj h
  refine ret_at (bS r1732) (by kernel_rfl) ?_
  exact ret_e [] [] (by simp only [push_cast, seval]) (by simp only [push_cast, seval]) rfl rfl rfl

set_option maxRecDepth 100000 in
set_option maxHeartbeats 10000000 in
theorem taskmillref_Admitted_1_spec (l_Readers : Int) (l_Writer : Bool) (c0 : (List Want)) (r : Int × Bool × (List Want) × (List Int)) (h : taskmillref_Admitted_1 l_Readers l_Writer c0 = some r) : SpecW Try.prog 14 [.agg [iS l_Readers, bS l_Writer, .own 0 0 c0.length]] [(0, .row 47 (fl c0))] 1 (fun x h n => x = .tup [.agg [iS r.1, bS r.2.1, .own 1 0 r.2.2.1.length], .own 2 0 r.2.2.2.length] ∧ h = [(0, .dead), (1, .row 47 (fl r.2.2.1)), (2, .row 3 (fl r.2.2.2))] ∧ n = 3) := by
  unfold taskmillref_Admitted_1 at h
  refine spec_of (draw_ok _) Try.func14 rfl (by decide) rfl (by kernel_rfl) ?_
  refine seq_np ?_
  refine reg_f ?_
  refine rs 3 [] [] (by kernel_rfl) allP_nil ?_
  refine rf [(1, .ptr 1 0), (2, .ptr 2 0)] [(0, .row 47 (fl c0)), (1, .row 24 [iS l_Readers, bS l_Writer, .own 0 0 c0.length]), (2, .row 24 [iS 0, bS false, .v (.slice none 0 0)])] 3 (by kernel_rfl) ?_
  refine wk_id ?_
  refine seq_np ?_
  refine reg_f ?_
  refine rs 1 [] [] (by kernel_rfl) allP_nil ?_
  refine rf [(1, .ptr 1 0), (2, .ptr 2 0), (4, .v (.slice none 0 0))] [(0, .row 47 (fl c0)), (1, .row 24 [iS l_Readers, bS l_Writer, .own 0 0 c0.length]), (2, .row 24 [iS 0, bS false, .v (.slice none 0 0)])] 3 (by kernel_rfl) ?_
  refine wk_id ?_
  refine seq_np ?_
  refine block_cut (A := Int × Bool × (List Int) × (List Want)) (fun a => ([(1, .ptr 1 0), (2, .ptr 2 0), (4, .own 3 0 a.2.2.1.length)], [(0, .dead), (1, .row 24 [iS a.1, bS a.2.1, .own 4 0 a.2.2.2.length]), (2, .row 24 [iS 0, bS false, .v (.slice none 0 0)]), (3, .row 3 (fl a.2.2.1)), (4, .row 47 (fl a.2.2.2))], 5)) (fun a => (taskmillref_Admitted_1_j1 a.1 a.2.1 a.2.2.1 a.2.2.2) = some r) (fun K1866 hK1866 => ?_) ?_
  · refine loop_sx (S := Int × Bool × (List Int) × (List Want)) (fun a => ([(1, .ptr 1 0), (2, .ptr 2 0), (4, .own 3 0 a.2.2.1.length)], [(0, .dead), (1, .row 24 [iS a.1, bS a.2.1, .own 4 0 a.2.2.2.length]), (2, .row 24 [iS 0, bS false, .v (.slice none 0 0)]), (3, .row 3 (fl a.2.2.1)), (4, .row 47 (fl a.2.2.2))], 5)) h (leSt_m [(1, 1), (2, 2), (4, 0)] [] (by simp only [push_cast, seval]) (by simp only [push_cast, seval]) rfl rfl rfl) ?_
    rintro ⟨c1_Readers21, c1_Writer21, c3q10, c4q10⟩ o2 R2 h hr2 hn2 hx2 ht2
    try dsimp only at h hn2 ⊢
    unfold taskmillref_Admitted_1_l1 at h
    try dsimp only at h
    refine seq_np ?_
    refine seq_np ?_
    refine reg_f ?_
    refine rs 4 [] [] (by kernel_rfl) allP_nil ?_
    refine rf [(1, .ptr 1 0), (2, .ptr 2 0), (4, .own 3 0 c3q10.length), (9, bS (decide ((0 : Int) < ((c4q10.length : Nat) : Int))))] [(0, .dead), (1, .row 24 [iS c1_Readers21, bS c1_Writer21, .own 4 0 c4q10.length]), (2, .row 24 [iS 0, bS false, .v (.slice none 0 0)]), (3, .row 3 (fl c3q10)), (4, .row 47 (fl c4q10))] 5 (by kernel_rfl) ?_
    refine wk_id ?_
    refine cond_sx h (by kernel_rfl) (fun g1920 h => ?_) (fun g1920 h => ?_)
    · refine wk_id ?_
      refine block_np ?_
      refine chk_sx h (fun g1898 h => ?_)
      refine seq_np ?_
      refine reg_f ?_
      have k1897 : 0 ≤ (0 : Int) ∧ (0 : Int) < ((c4q10.length : Nat) : Int) := by first | simpa only [Bool.and_eq_true, decide_eq_true_eq, bne_iff_ne, ne_eq] using g1898 | (simp at g1898 ⊢; omega)
      refine rs 6 [none, none, some ⟨.ptr 4 (0 + ((0 : Int)).toNat * 3), [], 5, [4]⟩, some ⟨.agg (Enc.cells (ix c4q10 (0 : Int))), [], 5, [4]⟩] _ (by kernel_rfl) (allP_cons (ob_ldw c4q10 (0 : Int) 3 (0 + ((0 : Int)).toNat * 3) k1897 rfl (by first | rfl | omega) [iS (ix c4q10 (0 : Int)).Task, bS (ix c4q10 (0 : Int)).Write, iS (ix c4q10 (0 : Int)).N] rfl 5 [4]) (allP_cons (ob_ix_o 4 c4q10.length 0 3 5 0 k1897) allP_nil)) ?_
      refine rf [(1, .ptr 1 0), (2, .ptr 2 0), (4, .own 3 0 c3q10.length), (5, .ptr 5 0)] [(0, .dead), (1, .row 24 [iS c1_Readers21, bS c1_Writer21, .own 4 0 c4q10.length]), (2, .row 24 [iS 0, bS false, .v (.slice none 0 0)]), (3, .row 3 (fl c3q10)), (4, .row 47 (fl c4q10)), (5, .row 47 (Enc.cells (ix c4q10 (0 : Int))))] 6 (by kernel_rfl) ?_
      refine wk_id ?_
      refine seq_np ?_
      refine seq_cut (A := Unit) (fun _ => ([(1, .ptr 1 0), (2, .ptr 2 0), (4, .own 3 0 c3q10.length), (5, .ptr 5 0), (24, bS (c1_Writer21 || ((ix c4q10 (0 : Int)).Write && (decide ((0 : Int) < c1_Readers21)))))], [(1, .row 24 [iS c1_Readers21, bS c1_Writer21, .own 4 0 c4q10.length]), (2, .row 24 [iS 0, bS false, .v (.slice none 0 0)]), (3, .row 3 (fl c3q10)), (4, .row 47 (fl c4q10)), (5, .row 47 (Enc.cells (ix c4q10 (0 : Int))))], 6)) (fun _ => True) (fun K1904 hK1904 => ?_) (fun _ _ => ?_)
      · refine reg_f ?_
        refine rs 3 [] [] (by kernel_rfl) allP_nil ?_
        refine run_split 16 c1_Writer21 (.inl (by kernel_rfl)) (fun g1905 => ?_) (fun g1905 => ?_)
        · refine rs 8 [] [] (by kernel_rfl) allP_nil ?_
          refine rf [(1, .ptr 1 0), (2, .ptr 2 0), (4, .own 3 0 c3q10.length), (5, .ptr 5 0), (24, bS true)] [(0, .dead), (1, .row 24 [iS c1_Readers21, bS c1_Writer21, .own 4 0 c4q10.length]), (2, .row 24 [iS 0, bS false, .v (.slice none 0 0)]), (3, .row 3 (fl c3q10)), (4, .row 47 (fl c4q10)), (5, .row 47 (Enc.cells (ix c4q10 (0 : Int))))] 6 (by kernel_rfl) ?_
          exact hK1904 () _ _ _ trivial (leSt_m [(1, 1), (2, 2), (3, 3), (4, 4), (5, 5)] [] (by (try simp only [g1905]) <;> simp only [push_cast, seval]) (by (try simp only [g1905]) <;> simp only [push_cast, seval]) rfl rfl rfl)
        · refine rs 3 [] [] (by kernel_rfl) allP_nil ?_
          refine run_split 19 (ix c4q10 (0 : Int)).Write (.inr (by kernel_rfl)) (fun g1906 => ?_) (fun g1906 => ?_)
          · refine rs 5 [] [] (by kernel_rfl) allP_nil ?_
            refine rf [(1, .ptr 1 0), (2, .ptr 2 0), (4, .own 3 0 c3q10.length), (5, .ptr 5 0), (24, bS (decide ((0 : Int) < c1_Readers21)))] [(0, .dead), (1, .row 24 [iS c1_Readers21, bS c1_Writer21, .own 4 0 c4q10.length]), (2, .row 24 [iS 0, bS false, .v (.slice none 0 0)]), (3, .row 3 (fl c3q10)), (4, .row 47 (fl c4q10)), (5, .row 47 (Enc.cells (ix c4q10 (0 : Int))))] 6 (by kernel_rfl) ?_
            exact hK1904 () _ _ _ trivial (leSt_m [(1, 1), (2, 2), (3, 3), (4, 4), (5, 5)] [] (by first | ((try simp only [g1905, g1906]) <;> simp only [push_cast, seval]; done) | (exfalso; clear h; simp_all)) (by first | ((try simp only [g1905, g1906]) <;> simp only [push_cast, seval]; done) | (exfalso; clear h; simp_all)) rfl rfl rfl)
          · refine rs 5 [] [] (by kernel_rfl) allP_nil ?_
            refine rf [(1, .ptr 1 0), (2, .ptr 2 0), (4, .own 3 0 c3q10.length), (5, .ptr 5 0), (24, bS false)] [(0, .dead), (1, .row 24 [iS c1_Readers21, bS c1_Writer21, .own 4 0 c4q10.length]), (2, .row 24 [iS 0, bS false, .v (.slice none 0 0)]), (3, .row 3 (fl c3q10)), (4, .row 47 (fl c4q10)), (5, .row 47 (Enc.cells (ix c4q10 (0 : Int))))] 6 (by kernel_rfl) ?_
            exact hK1904 () _ _ _ trivial (leSt_m [(1, 1), (2, 2), (3, 3), (4, 4), (5, 5)] [] (by first | ((try simp only [g1905, g1906]) <;> simp only [push_cast, seval]; done) | (exfalso; clear h; simp_all)) (by first | ((try simp only [g1905, g1906]) <;> simp only [push_cast, seval]; done) | (exfalso; clear h; simp_all)) rfl rfl rfl)
      · dsimp only
        refine cond_sx h (by kernel_rfl) (fun g1919 h => ?_) (fun g1919 h => ?_)
        · change R2 (.exit 0) _ _ _
          refine ex_cast hx2 (id := 0) ?_
          obtain ⟨r0, h, e0⟩ := map_sx h
          have e1 := hr2 r0 e0.symm
          subst r0
          exact hK1866 (c1_Readers21, c1_Writer21, c3q10, c4q10) _ _ _ h (leSt_m [(1, 1), (2, 2), (3, 3), (4, 4)] [] (by simp only [push_cast, seval]) (by simp only [push_cast, seval]) rfl rfl rfl)
        · refine wk_id ?_
          refine seq_cut (A := Int × Bool) (fun a => ([(1, .ptr 1 0), (2, .ptr 2 0), (4, .own 3 0 c3q10.length), (5, .ptr 4 0)], [(0, .dead), (1, .row 24 [iS a.1, bS a.2, .own 5 0 c4q10.length]), (2, .row 24 [iS 0, bS false, .v (.slice none 0 0)]), (3, .row 3 (fl c3q10)), (4, .row 47 (Enc.cells (ix c4q10 (0 : Int)))), (5, .row 47 (fl c4q10))], 6)) (fun a => (taskmillref_Admitted_1_j2 c3q10 c4q10 a.1 a.2) = some o2) (fun K1909 hK1909 => ?_) ?_
          · refine seq_np ?_
            refine reg_f ?_
            refine rs 2 [] [] (by kernel_rfl) allP_nil ?_
            refine rf [(1, .ptr 1 0), (2, .ptr 2 0), (4, .own 3 0 c3q10.length), (5, .ptr 5 0), (26, bS (ix c4q10 (0 : Int)).Write)] [(1, .row 24 [iS c1_Readers21, bS c1_Writer21, .own 4 0 c4q10.length]), (2, .row 24 [iS 0, bS false, .v (.slice none 0 0)]), (3, .row 3 (fl c3q10)), (4, .row 47 (fl c4q10)), (5, .row 47 (Enc.cells (ix c4q10 (0 : Int))))] 6 (by kernel_rfl) ?_
            refine wk_id ?_
            refine cond_sx h (by kernel_rfl) (fun g1910 h => ?_) (fun g1910 h => ?_)
            · refine reg_f ?_
              refine rs 2 [] [] (by kernel_rfl) allP_nil ?_
              refine rf [(1, .ptr 1 0), (2, .ptr 2 0), (4, .own 3 0 c3q10.length), (5, .ptr 5 0)] [(1, .row 24 [iS c1_Readers21, bS true, .own 4 0 c4q10.length]), (2, .row 24 [iS 0, bS false, .v (.slice none 0 0)]), (3, .row 3 (fl c3q10)), (4, .row 47 (fl c4q10)), (5, .row 47 (Enc.cells (ix c4q10 (0 : Int))))] 6 (by kernel_rfl) ?_
              exact hK1909 (c1_Readers21, true) _ _ _ h (leSt_m [(1, 1), (2, 2), (3, 3), (4, 5), (5, 4)] [] (by simp only [push_cast, seval]) (by simp only [push_cast, seval]) rfl rfl rfl)
            · refine reg_f ?_
              refine rs 5 [] [] (by kernel_rfl) allP_nil ?_
              refine rf [(1, .ptr 1 0), (2, .ptr 2 0), (4, .own 3 0 c3q10.length), (5, .ptr 5 0)] [(1, .row 24 [iS (IntKind.i64.wrap (c1_Readers21 + 1)), bS c1_Writer21, .own 4 0 c4q10.length]), (2, .row 24 [iS 0, bS false, .v (.slice none 0 0)]), (3, .row 3 (fl c3q10)), (4, .row 47 (fl c4q10)), (5, .row 47 (Enc.cells (ix c4q10 (0 : Int))))] 6 (by kernel_rfl) ?_
              exact hK1909 ((IntKind.i64.wrap (c1_Readers21 + 1)), c1_Writer21) _ _ _ h (leSt_m [(1, 1), (2, 2), (3, 3), (4, 5), (5, 4)] [] (by simp only [push_cast, seval]) (by simp only [push_cast, seval]) rfl rfl rfl)
          · rintro ⟨c1_Readers22, c1_Writer22⟩ h
            try dsimp only at h ⊢
            unfold taskmillref_Admitted_1_j2 at h
            refine chk_sx h (fun g1914 h => ?_)
            refine seq_np ?_
            refine reg_f ?_
            have k1913 : (c3q10 ++ ([(ix c4q10 (0 : Int)).Task] : List Int)).length * 8 ≤ 140737488355328 := by first | simpa only [Bool.and_eq_true, decide_eq_true_eq, bne_iff_ne, ne_eq] using g1914 | (simp at g1914 ⊢; omega)
            refine rs 6 [none, none, none, none, some ⟨.own 7 0 (c3q10 ++ ([(ix c4q10 (0 : Int)).Task] : List Int)).length, [(7, .row 3 (fl (c3q10 ++ ([(ix c4q10 (0 : Int)).Task] : List Int)))), (3, .dead)], 8, [3, 6]⟩] _ (by kernel_rfl) (allP_cons (ob_app (P := Try.prog) c3q10 ([(ix c4q10 (0 : Int)).Task] : List Int) 1 8 rfl (appCells (fl ([(ix c4q10 (0 : Int)).Task] : List Int)) 0 (([(ix c4q10 (0 : Int)).Task] : List Int).length * 1)) ([(ix c4q10 (0 : Int)).Task] : List Int).length (app_own ([(ix c4q10 (0 : Int)).Task] : List Int) 1 rfl) rfl (0 + ([(ix c4q10 (0 : Int)).Task] : List Int).length * 1 ≤ (fl ([(ix c4q10 (0 : Int)).Task] : List Int)).length) (app_own_le ([(ix c4q10 (0 : Int)).Task] : List Int) 1 rfl) 3 (by kernel_rfl) (by decide) k1913 3 7 [6]) allP_nil) ?_
            refine rf [(1, .ptr 1 0), (2, .ptr 2 0), (4, .own 7 0 (c3q10 ++ ([(ix c4q10 (0 : Int)).Task] : List Int)).length)] [(0, .dead), (1, .row 24 [iS c1_Readers22, bS c1_Writer22, .own 5 0 c4q10.length]), (2, .row 24 [iS 0, bS false, .v (.slice none 0 0)]), (3, .dead), (4, .row 47 (Enc.cells (ix c4q10 (0 : Int)))), (5, .row 47 (fl c4q10)), (6, .row 3 (fl ([(ix c4q10 (0 : Int)).Task] : List Int))), (7, .row 3 (fl (c3q10 ++ ([(ix c4q10 (0 : Int)).Task] : List Int))))] 8 (by kernel_rfl) ?_
            refine wk_id ?_
            refine chk_sx h (fun g1918 h => ?_)
            refine reg_f ?_
            have k1917 : 0 ≤ (1 : Int) ∧ (1 : Int) ≤ ((c4q10.length : Nat) : Int) ∧ ((c4q10.length : Nat) : Int) ≤ ((c4q10.length : Nat) : Int) := by first | simpa only [Bool.and_eq_true, decide_eq_true_eq, bne_iff_ne, ne_eq] using g1918 | (simp at g1918 ⊢; omega)
            refine rs 2 [] [] (by kernel_rfl) allP_nil ?_
            refine run_cutO c4q10 (some 39) 5 3 47 (1 : Int) ((c4q10.length : Nat) : Int) (by kernel_rfl) rfl k1917 ?_
            refine rs 2 [] [] (by kernel_rfl) allP_nil ?_
            refine rf [(1, .ptr 1 0), (2, .ptr 2 0), (4, .own 7 0 (c3q10 ++ ([(ix c4q10 (0 : Int)).Task] : List Int)).length)] [(0, .dead), (1, .row 24 [iS c1_Readers22, bS c1_Writer22, .own 8 0 (cut c4q10 (1 : Int) ((c4q10.length : Nat) : Int)).length]), (2, .row 24 [iS 0, bS false, .v (.slice none 0 0)]), (3, .dead), (4, .row 47 (Enc.cells (ix c4q10 (0 : Int)))), (5, .dead), (6, .row 3 (fl ([(ix c4q10 (0 : Int)).Task] : List Int))), (7, .row 3 (fl (c3q10 ++ ([(ix c4q10 (0 : Int)).Task] : List Int)))), (8, .row 47 (fl (cut c4q10 (1 : Int) ((c4q10.length : Nat) : Int))))] 9 (by kernel_rfl) ?_
            refine wk_id ?_
            exact hn2 (c1_Readers22, c1_Writer22, (c3q10 ++ ([(ix c4q10 (0 : Int)).Task] : List Int)), (cut c4q10 (1 : Int) ((c4q10.length : Nat) : Int))) _ _ _ (Option.some.inj h).symm (leSt_m [(1, 1), (2, 2), (3, 7), (4, 8)] [] (by simp only [push_cast, seval]) (by simp only [push_cast, seval]) rfl rfl rfl)
    · change R2 (.exit 0) _ _ _
      refine ex_cast hx2 (id := 0) ?_
      obtain ⟨r0, h, e0⟩ := map_sx h
      have e1 := hr2 r0 e0.symm
      subst r0
      exact hK1866 (c1_Readers21, c1_Writer21, c3q10, c4q10) _ _ _ h (leSt_m [(1, 1), (2, 2), (3, 3), (4, 4)] [] (by simp only [push_cast, seval]) (by simp only [push_cast, seval]) rfl rfl rfl)
  · rintro ⟨c1_Readers17, c1_Writer17, c3q8, c4q8⟩ h
    try dsimp only at h ⊢
    unfold taskmillref_Admitted_1_j1 at h
    refine wk_id ?_
    refine seq_np ?_
    refine reg_f ?_
    refine rs 4 [] [] (by kernel_rfl) allP_nil ?_
    refine rf [(2, .ptr 2 0), (3, .own 3 0 c3q8.length)] [(0, .dead), (1, .row 24 [iS c1_Readers17, bS c1_Writer17, .own 4 0 c4q8.length]), (2, .row 24 [iS c1_Readers17, bS c1_Writer17, .own 4 0 c4q8.length]), (3, .row 3 (fl c3q8)), (4, .row 47 (fl c4q8))] 5 (by kernel_rfl) ?_
    refine wk_id ?_
    obtain rfl := Option.some.inj h
    refine ret_at (.tup [.agg [iS c1_Readers17, bS c1_Writer17, .own 4 0 c4q8.length], .own 3 0 c3q8.length]) (by kernel_rfl) ?_
    exact ret_e [(1, 4), (2, 3)] [] (by simp only [push_cast, seval]) (by simp only [push_cast, seval]) rfl rfl rfl

set_option maxRecDepth 100000 in
set_option maxHeartbeats 10000000 in
theorem taskmillref_Has_spec (l : (List Int)) (n : Int) (r : Bool) (h : taskmillref_Has l n = some r) : SpecW Try.prog 22 [.sl l.length (fl l), iS n] [] 0 (fun x h n => x = bS r ∧ h = [] ∧ n = 0) := by
  unfold taskmillref_Has at h
  refine spec_of (draw_ok _) Try.func22 rfl (by decide) rfl (by kernel_rfl) ?_
  refine seq_np ?_
  refine reg_f ?_
  refine rs 1 [] [] (by kernel_rfl) allP_nil ?_
  refine rf [(0, .sl l.length (fl l)), (1, iS n)] [] 0 (by kernel_rfl) ?_
  refine wk_id ?_
  refine seq_np ?_
  refine seq_np ?_
  refine reg_f ?_
  refine rs 1 [] [] (by kernel_rfl) allP_nil ?_
  refine rf [(0, .sl l.length (fl l)), (1, iS n), (5, iS 0)] [] 0 (by kernel_rfl) ?_
  refine wk_id ?_
  refine block_np ?_
  refine loop_sx (S := Int) (fun a => ([(0, .sl l.length (fl l)), (1, iS n), (5, iS a)], [], 0)) h (leSt_m [] [] (by simp only [push_cast, seval]) (by simp only [push_cast, seval]) rfl rfl rfl) ?_
  rintro i7 o2 R2 h hr2 hn2 hx2 ht2
  try dsimp only at h hn2 ⊢
  unfold taskmillref_Has_l1 at h
  try dsimp only at h
  refine seq_np ?_
  refine seq_np ?_
  refine reg_f ?_
  refine rs 4 [] [] (by kernel_rfl) allP_nil ?_
  refine rf [(0, .sl l.length (fl l)), (1, iS n), (5, iS i7), (9, bS (decide (i7 < ((l.length : Nat) : Int))))] [] 0 (by kernel_rfl) ?_
  refine wk_id ?_
  refine cond_sx h (by kernel_rfl) (fun g1982 h => ?_) (fun g1982 h => ?_)
  · refine wk_id ?_
    refine seq_np ?_
    refine block_np ?_
    refine chk_sx h (fun g1980 h => ?_)
    refine seq_np ?_
    refine reg_f ?_
    have k1979 : 0 ≤ i7 ∧ i7 < ((l.length : Nat) : Int) := by first | simpa only [Bool.and_eq_true, decide_eq_true_eq, bne_iff_ne, ne_eq] using g1980 | (simp at g1980 ⊢; omega)
    refine rs 6 [none, none, some ⟨.iptr (fl l) ((i7).toNat * 1), [], 0, []⟩, some ⟨iS (ix l i7), [], 0, []⟩] _ (by kernel_rfl) (allP_cons (ob_ld l i7 1 0 ((i7).toNat * 1) k1979 rfl (by decide) (by first | rfl | omega) (dflS Try.prog 3) (iS (ix l i7)) rfl 0 []) (allP_cons (ob_ix_l l 1 0 i7 k1979) allP_nil)) ?_
    refine rf [(0, .sl l.length (fl l)), (1, iS n), (5, iS i7), (17, bS ((ix l i7) == n))] [] 0 (by kernel_rfl) ?_
    refine wk_id ?_
    refine cond_sx h (by kernel_rfl) (fun g1981 h => ?_) (fun g1981 h => ?_)
    · refine seq_np ?_
      refine reg_f ?_
      refine rs 1 [] [] (by kernel_rfl) allP_nil ?_
      refine rf [(4, bS true)] [] 0 (by kernel_rfl) ?_
      refine wk_id ?_
      refine rt_cast ht2 ?_
      obtain ⟨r0, h, e0⟩ := map_sx h
      have e1 := hr2 r0 e0.symm
      subst r0
      obtain rfl := Option.some.inj h
      refine ret_at (bS true) (by kernel_rfl) ?_
      exact ret_e [] [] (by simp only [push_cast, seval]) (by simp only [push_cast, seval]) rfl rfl rfl
    · refine wk_id ?_
      refine wk_id ?_
      refine reg_f ?_
      refine rs 3 [] [] (by kernel_rfl) allP_nil ?_
      refine rf [(0, .sl l.length (fl l)), (1, iS n), (5, iS (IntKind.i64.wrap (i7 + 1)))] [] 0 (by kernel_rfl) ?_
      exact hn2 ((IntKind.i64.wrap (i7 + 1))) _ _ _ (Option.some.inj h).symm (leSt_m [] [] (by simp only [push_cast, seval]) (by simp only [push_cast, seval]) rfl rfl rfl)
  · change R2 (.exit 0) _ _ _
    refine ex_cast hx2 (id := 0) ?_
    obtain ⟨r0, h, e0⟩ := map_sx h
    have e1 := hr2 r0 e0.symm
    subst r0
    refine wk_id ?_
    refine wk_id ?_
    refine seq_np ?_
    refine reg_f ?_
    refine rs 1 [] [] (by kernel_rfl) allP_nil ?_
    refine rf [(4, bS false)] [] 0 (by kernel_rfl) ?_
    refine wk_id ?_
    obtain rfl := Option.some.inj h
    refine ret_at (bS false) (by kernel_rfl) ?_
    exact ret_e [] [] (by simp only [push_cast, seval]) (by simp only [push_cast, seval]) rfl rfl rfl

set_option maxRecDepth 100000 in
set_option maxHeartbeats 10000000 in
theorem taskmilllaw_LockEnters_spec (l : Lock) (task : Int) (write : Bool) (xtry : Bool) (r : Bool) (h : taskmilllaw_LockEnters l task write xtry = some r) : SpecW Try.prog 4 [.agg (Enc.cells l), iS task, bS write, bS xtry] [] 0 (fun x h n => x = bS r ∧ h = [] ∧ n = 0) := by
  unfold taskmilllaw_LockEnters at h
  refine spec_of (draw_ok _) Try.func4 rfl (by decide) rfl (by kernel_rfl) ?_
  refine seq_np ?_
  refine reg_f ?_
  refine rs 2 [] [] (by kernel_rfl) allP_nil ?_
  refine rf [(1, iS task), (2, bS write), (3, bS xtry), (4, .ptr 0 0)] [(0, .row 24 (Enc.cells l))] 1 (by kernel_rfl) ?_
  refine wk_id ?_
  refine seq_np ?_
  refine seq_np ?_
  refine reg_f ?_
  obtain ⟨r1993, hr1993, h⟩ := bind_sx h
  refine run_call 8 [] (some 17) (by kernel_rfl) ?_
  refine call_0 (taskmilllaw_lockBegun_spec r1993 hr1993) (by simp only [push_cast, seval]) (by simp only [push_cast, seval]) ?_
  refine back_f ?_
  refine rs 1 [] [] (by kernel_rfl) allP_nil ?_
  refine rf [(1, iS task), (2, bS write), (3, bS xtry), (4, .ptr 0 0), (18, bS (!r1993))] [(0, .row 24 (Enc.cells l))] 1 (by kernel_rfl) ?_
  refine wk_id ?_
  refine cond_sx h (by kernel_rfl) (fun g2102 h => ?_) (fun g2102 h => ?_)
  · refine seq_np ?_
    refine reg_f ?_
    refine rs 1 [] [] (by kernel_rfl) allP_nil ?_
    refine rf [(8, bS false)] [(0, .row 24 (Enc.cells l))] 1 (by kernel_rfl) ?_
    refine wk_id ?_
    obtain rfl := Option.some.inj h
    refine ret_at (bS false) (by kernel_rfl) ?_
    exact ret_e [] [] (by simp only [push_cast, seval]) (by simp only [push_cast, seval]) rfl rfl rfl
  · refine wk_id ?_
    refine seq_np ?_
    refine seq_cut (A := Unit) (fun _ => ([(1, iS task), (2, bS write), (3, bS xtry), (4, .ptr 0 0), (34, bS (bif (decide ((700 : Int) < ((l.Line.length : Nat) : Int))) then ((decide (((l.Line.length : Nat) : Int) < 4999)) || (decide ((6000 : Int) < ((l.Line.length : Nat) : Int)))) else (decide ((6000 : Int) < ((l.Line.length : Nat) : Int)))))], [(0, .row 24 (Enc.cells l))], 1)) (fun _ => True) (fun K1999 hK1999 => ?_) (fun _ _ => ?_)
    · refine reg_f ?_
      refine rs 5 [] [] (by kernel_rfl) allP_nil ?_
      refine run_split 23 (decide ((700 : Int) < ((l.Line.length : Nat) : Int))) (.inl (by kernel_rfl)) (fun g2000 => ?_) (fun g2000 => ?_)
      · refine rs 6 [] [] (by kernel_rfl) allP_nil ?_
        refine run_split 29 (decide (((l.Line.length : Nat) : Int) < 4999)) (.inl (by kernel_rfl)) (fun g2001 => ?_) (fun g2001 => ?_)
        · refine rs 5 [] [] (by kernel_rfl) allP_nil ?_
          refine rf [(1, iS task), (2, bS write), (3, bS xtry), (4, .ptr 0 0), (34, bS true)] [(0, .row 24 (Enc.cells l))] 1 (by kernel_rfl) ?_
          exact hK1999 () _ _ _ trivial (leSt_m [(0, 0)] [] (by first | ((try simp only [g2000, g2001]) <;> simp only [push_cast, seval]; done) | (exfalso; clear h; simp_all)) (by first | ((try simp only [g2000, g2001]) <;> simp only [push_cast, seval]; done) | (exfalso; clear h; simp_all)) rfl rfl rfl)
        · refine rs 5 [] [] (by kernel_rfl) allP_nil ?_
          refine rf [(1, iS task), (2, bS write), (3, bS xtry), (4, .ptr 0 0), (34, bS (decide ((6000 : Int) < ((l.Line.length : Nat) : Int))))] [(0, .row 24 (Enc.cells l))] 1 (by kernel_rfl) ?_
          exact hK1999 () _ _ _ trivial (leSt_m [(0, 0)] [] (by first | ((try simp only [g2000, g2001]) <;> simp only [push_cast, seval]; done) | (exfalso; clear h; simp_all)) (by first | ((try simp only [g2000, g2001]) <;> simp only [push_cast, seval]; done) | (exfalso; clear h; simp_all)) rfl rfl rfl)
      · refine rs 11 [] [] (by kernel_rfl) allP_nil ?_
        refine rf [(1, iS task), (2, bS write), (3, bS xtry), (4, .ptr 0 0), (34, bS (decide ((6000 : Int) < ((l.Line.length : Nat) : Int))))] [(0, .row 24 (Enc.cells l))] 1 (by kernel_rfl) ?_
        exact hK1999 () _ _ _ trivial (leSt_m [(0, 0)] [] (by (try simp only [g2000]) <;> simp only [push_cast, seval]) (by (try simp only [g2000]) <;> simp only [push_cast, seval]) rfl rfl rfl)
    · dsimp only
      refine cond_sx h (by kernel_rfl) (fun g2101 h => ?_) (fun g2101 h => ?_)
      · refine seq_np ?_
        refine reg_f ?_
        refine rs 1 [] [] (by kernel_rfl) allP_nil ?_
        refine rf [(8, bS true)] [(0, .row 24 (Enc.cells l))] 1 (by kernel_rfl) ?_
        refine wk_id ?_
        obtain rfl := Option.some.inj h
        refine ret_at (bS true) (by kernel_rfl) ?_
        exact ret_e [] [] (by simp only [push_cast, seval]) (by simp only [push_cast, seval]) rfl rfl rfl
      · refine wk_id ?_
        refine seq_np ?_
        refine reg_f ?_
        refine rs 1 [] [] (by kernel_rfl) allP_nil ?_
        obtain ⟨r2003, hr2003, h⟩ := bind_sx h
        refine call_x (taskmilllaw_ownLock_spec l r2003 hr2003) (args := [.agg (Enc.cells l)]) (dst := (some 36)) (by kernel_rfl) [(0, .row 24 (Enc.cells l))] 1 (by kernel_rfl) [] [] (.agg [iS r2003.1, bS r2003.2.1, .own 1 0 r2003.2.2.length]) [(1, .row 47 (fl r2003.2.2))] (by simp only [push_cast, seval]) (by simp only [push_cast, seval]) (by kernel_rfl) (.inl rfl) (by simp only [push_cast, seval]) (by simp only [push_cast, seval]) ?_
        refine rs 2 [] [] (by kernel_rfl) allP_nil ?_
        refine rf [(1, iS task), (2, bS write), (3, bS xtry), (4, .ptr 0 0), (9, .ptr 2 0)] [(0, .row 24 (Enc.cells l)), (1, .row 47 (fl r2003.2.2)), (2, .row 24 [iS r2003.1, bS r2003.2.1, .own 1 0 r2003.2.2.length])] 3 (by kernel_rfl) ?_
        refine wk_id ?_
        refine seq_np ?_
        refine reg_f ?_
        refine rs 1 [] [] (by kernel_rfl) allP_nil ?_
        obtain ⟨r2005, hr2005, h⟩ := bind_sx h
        refine call_x (lock_Check_spec (Lock.mk r2003.1 r2003.2.1 r2003.2.2) r2005 hr2005) (args := [.agg [iS r2003.1, bS r2003.2.1, .own 1 0 r2003.2.2.length]]) (dst := (some 38)) (by kernel_rfl) [(0, .row 24 (Enc.cells l)), (1, .row 47 (fl r2003.2.2)), (2, .row 24 [iS r2003.1, bS r2003.2.1, .own 1 0 r2003.2.2.length])] 3 (by kernel_rfl) [] [1] (.agg (Enc.cells r2005)) [] (by simp only [push_cast, seval]) (by simp only [push_cast, seval]) (by kernel_rfl) (.inr ⟨by simp only [push_cast, seval], by simp only [push_cast, seval]⟩) (by simp only [push_cast, seval]) (by simp only [push_cast, seval]) ?_
        refine rs 2 [] [] (by kernel_rfl) allP_nil ?_
        refine rf [(1, iS task), (2, bS write), (3, bS xtry), (4, .ptr 0 0), (9, .ptr 2 0), (10, .ptr 3 0)] [(0, .row 24 (Enc.cells l)), (1, .row 47 (fl r2003.2.2)), (2, .row 24 [iS r2003.1, bS r2003.2.1, .own 1 0 r2003.2.2.length]), (3, .row 28 (Enc.cells r2005))] 4 (by kernel_rfl) ?_
        refine wk_id ?_
        refine seq_np ?_
        refine reg_f ?_
        refine rs 4 [] [] (by kernel_rfl) allP_nil ?_
        obtain ⟨r2007, hr2007, h⟩ := bind_sx h
        refine call_x (lock_Enter_spec (Lock.mk r2003.1 r2003.2.1 r2003.2.2) task write xtry r2007 hr2007) (args := [.agg [iS r2003.1, bS r2003.2.1, .own 1 0 r2003.2.2.length], iS task, bS write, bS xtry]) (dst := (some 44)) (by kernel_rfl) [(0, .row 24 (Enc.cells l)), (1, .row 47 (fl r2003.2.2)), (2, .row 24 [iS r2003.1, bS r2003.2.1, .own 1 0 r2003.2.2.length]), (3, .row 28 (Enc.cells r2005))] 4 (by kernel_rfl) [] [1] (.tup [.agg [iS r2007.1, bS r2007.2.1, .own 4 0 r2007.2.2.2.2.length], bS r2007.2.2.1, .agg (Enc.cells r2007.2.2.2.1)]) [(4, .row 47 (fl r2007.2.2.2.2))] (by simp only [push_cast, seval]) (by simp only [push_cast, seval]) (by kernel_rfl) (.inr ⟨by simp only [push_cast, seval], by simp only [push_cast, seval]⟩) (by simp only [push_cast, seval]) (by simp only [push_cast, seval]) ?_
        refine rs 9 [] [] (by kernel_rfl) allP_nil ?_
        refine rf [(1, iS task), (2, bS write), (3, bS xtry), (4, .ptr 0 0), (9, .ptr 2 0), (10, .ptr 3 0), (11, .ptr 5 0), (12, bS r2007.2.2.1), (13, .ptr 6 0)] [(0, .row 24 (Enc.cells l)), (1, .row 47 (fl r2003.2.2)), (2, .row 24 [iS r2003.1, bS r2003.2.1, .own 1 0 r2003.2.2.length]), (3, .row 28 (Enc.cells r2005)), (4, .row 47 (fl r2007.2.2.2.2)), (5, .row 24 [iS r2007.1, bS r2007.2.1, .own 4 0 r2007.2.2.2.2.length]), (6, .row 28 (Enc.cells r2007.2.2.2.1))] 7 (by kernel_rfl) ?_
        refine wk_id ?_
        refine seq_np ?_
        refine reg_f ?_
        refine rs 1 [] [] (by kernel_rfl) allP_nil ?_
        obtain ⟨r2009, hr2009, h⟩ := bind_sx h
        refine run_call 12 [.agg (Enc.cells l)] (some 49) (by kernel_rfl) ?_
        refine call_0 (taskmillref_LockFault_spec l r2009 hr2009) (by simp only [push_cast, seval]) (by simp only [push_cast, seval]) ?_
        refine back_f ?_
        refine rs 2 [] [] (by kernel_rfl) allP_nil ?_
        refine rf [(1, iS task), (2, bS write), (3, bS xtry), (4, .ptr 0 0), (9, .ptr 2 0), (10, .ptr 3 0), (11, .ptr 5 0), (12, bS r2007.2.2.1), (13, .ptr 6 0), (14, .ptr 7 0)] [(0, .row 24 (Enc.cells l)), (1, .row 47 (fl r2003.2.2)), (2, .row 24 [iS r2003.1, bS r2003.2.1, .own 1 0 r2003.2.2.length]), (3, .row 28 (Enc.cells r2005)), (4, .row 47 (fl r2007.2.2.2.2)), (5, .row 24 [iS r2007.1, bS r2007.2.1, .own 4 0 r2007.2.2.2.2.length]), (6, .row 28 (Enc.cells r2007.2.2.2.1)), (7, .row 28 (Enc.cells r2009))] 8 (by kernel_rfl) ?_
        refine wk_id ?_
        refine seq_np ?_
        refine seq_cut (A := Bool × Bool × Int × Bool × Fault × Fault × (List Want)) (fun a => ([(1, iS task), (2, bS write), (3, bS xtry), (4, .ptr 0 0), (11, .ptr 1 0), (12, bS a.1), (13, .ptr 2 0), (14, .ptr 3 0), (58, bS a.2.1)], [(0, .row 24 (Enc.cells l)), (1, .row 24 [iS a.2.2.1, bS a.2.2.2.1, .own 4 0 a.2.2.2.2.2.2.length]), (2, .row 28 (Enc.cells a.2.2.2.2.1)), (3, .row 28 (Enc.cells a.2.2.2.2.2.1)), (4, .row 47 (fl a.2.2.2.2.2.2))], 5)) (fun a => (taskmilllaw_LockEnters_j7 l task write xtry a.1 a.2.1 a.2.2.1 a.2.2.2.1 a.2.2.2.2.1 a.2.2.2.2.2.1 a.2.2.2.2.2.2) = some r) (fun K2018 hK2018 => ?_) ?_
        · refine reg_f ?_
          refine rs 4 [] [] (by kernel_rfl) allP_nil ?_
          refine run_br h 53 (.inl (by kernel_rfl)) (fun g2019 h => ?_) (fun g2019 h => ?_)
          · refine rs 5 [] [] (by kernel_rfl) allP_nil ?_
            refine rf [(1, iS task), (2, bS write), (3, bS xtry), (4, .ptr 0 0), (11, .ptr 5 0), (12, bS r2007.2.2.1), (13, .ptr 6 0), (14, .ptr 7 0), (58, bS true)] [(0, .row 24 (Enc.cells l)), (1, .row 47 (fl r2003.2.2)), (2, .row 24 [iS r2003.1, bS r2003.2.1, .own 1 0 r2003.2.2.length]), (3, .row 28 (Enc.cells r2005)), (4, .row 47 (fl r2007.2.2.2.2)), (5, .row 24 [iS r2007.1, bS r2007.2.1, .own 4 0 r2007.2.2.2.2.length]), (6, .row 28 (Enc.cells r2007.2.2.2.1)), (7, .row 28 (Enc.cells r2009))] 8 (by kernel_rfl) ?_
            exact hK2018 (r2007.2.2.1, true, r2007.1, r2007.2.1, r2007.2.2.2.1, r2009, r2007.2.2.2.2) _ _ _ h (leSt_m [(0, 0), (1, 5), (2, 6), (3, 7), (4, 4)] [] (by (try simp only [g2019]) <;> simp only [push_cast, seval]) (by (try simp only [g2019]) <;> simp only [push_cast, seval]) rfl rfl rfl)
          · refine rs 2 [] [] (by kernel_rfl) allP_nil ?_
            obtain ⟨r2020, hr2020, h⟩ := bind_sx h
            refine call_x (taskmillref_SameLock_spec (Lock.mk r2003.1 r2003.2.1 r2003.2.2) l r2020 hr2020) (args := [.agg [iS r2003.1, bS r2003.2.1, .own 1 0 r2003.2.2.length], .agg (Enc.cells l)]) (dst := (some 56)) (by kernel_rfl) [(0, .row 24 (Enc.cells l)), (1, .row 47 (fl r2003.2.2)), (2, .row 24 [iS r2003.1, bS r2003.2.1, .own 1 0 r2003.2.2.length]), (3, .row 28 (Enc.cells r2005)), (4, .row 47 (fl r2007.2.2.2.2)), (5, .row 24 [iS r2007.1, bS r2007.2.1, .own 4 0 r2007.2.2.2.2.length]), (6, .row 28 (Enc.cells r2007.2.2.2.1)), (7, .row 28 (Enc.cells r2009))] 8 (by kernel_rfl) [] [1] (bS r2020) [] (by simp only [push_cast, seval]) (by simp only [push_cast, seval]) (by kernel_rfl) (.inr ⟨by simp only [push_cast, seval], by simp only [push_cast, seval]⟩) (by simp only [push_cast, seval]) (by simp only [push_cast, seval]) ?_
            refine rs 2 [] [] (by kernel_rfl) allP_nil ?_
            refine rf [(1, iS task), (2, bS write), (3, bS xtry), (4, .ptr 0 0), (11, .ptr 5 0), (12, bS r2007.2.2.1), (13, .ptr 6 0), (14, .ptr 7 0), (58, bS (!r2020))] [(0, .row 24 (Enc.cells l)), (1, .row 47 (fl r2003.2.2)), (2, .row 24 [iS r2003.1, bS r2003.2.1, .own 1 0 r2003.2.2.length]), (3, .row 28 (Enc.cells r2005)), (4, .row 47 (fl r2007.2.2.2.2)), (5, .row 24 [iS r2007.1, bS r2007.2.1, .own 4 0 r2007.2.2.2.2.length]), (6, .row 28 (Enc.cells r2007.2.2.2.1)), (7, .row 28 (Enc.cells r2009))] 8 (by kernel_rfl) ?_
            exact hK2018 (r2007.2.2.1, (!r2020), r2007.1, r2007.2.1, r2007.2.2.2.1, r2009, r2007.2.2.2.2) _ _ _ h (leSt_m [(0, 0), (1, 5), (2, 6), (3, 7), (4, 4)] [] (by (try simp only [g2019]) <;> simp only [push_cast, seval]) (by (try simp only [g2019]) <;> simp only [push_cast, seval]) rfl rfl rfl)
        · rintro ⟨xin2, t58q2, c1_Readers3, c1_Writer3, c2q2, c3q5, c4q2⟩ h
          try dsimp only at h ⊢
          unfold taskmilllaw_LockEnters_j7 at h
          refine cond_sx h (by kernel_rfl) (fun g2100 h => ?_) (fun g2100 h => ?_)
          · refine seq_np ?_
            refine reg_f ?_
            refine rs 1 [] [] (by kernel_rfl) allP_nil ?_
            refine rf [(8, bS false)] [(0, .row 24 (Enc.cells l)), (1, .row 24 [iS c1_Readers3, bS c1_Writer3, .own 4 0 c4q2.length]), (2, .row 28 (Enc.cells c2q2)), (3, .row 28 (Enc.cells c3q5)), (4, .row 47 (fl c4q2))] 5 (by kernel_rfl) ?_
            refine wk_id ?_
            obtain rfl := Option.some.inj h
            refine ret_at (bS false) (by kernel_rfl) ?_
            exact ret_e [] [] (by simp only [push_cast, seval]) (by simp only [push_cast, seval]) rfl rfl rfl
          · refine wk_id ?_
            refine seq_cut (A := Fault) (fun a => ([(1, iS task), (2, bS write), (3, bS xtry), (4, .ptr 0 0), (11, .ptr 1 0), (12, bS xin2), (13, .ptr 2 0), (14, .ptr 3 0)], [(0, .row 24 (Enc.cells l)), (1, .row 24 [iS c1_Readers3, bS c1_Writer3, .own 4 0 c4q2.length]), (2, .row 28 (Enc.cells c2q2)), (3, .row 28 (Enc.cells a)), (4, .row 47 (fl c4q2))], 5)) (fun a => (taskmilllaw_LockEnters_j6 l task write xtry xin2 c1_Readers3 c1_Writer3 c2q2 c4q2 a) = some r) (fun K2025 hK2025 => ?_) ?_
            · refine seq_cut (A := Unit) (fun _ => ([(1, iS task), (2, bS write), (3, bS xtry), (4, .ptr 0 0), (11, .ptr 1 0), (12, bS xin2), (13, .ptr 2 0), (14, .ptr 3 0), (65, bS ((c3q5.Code == 0) && (decide (task < 1))))], [(0, .row 24 (Enc.cells l)), (1, .row 24 [iS c1_Readers3, bS c1_Writer3, .own 4 0 c4q2.length]), (2, .row 28 (Enc.cells c2q2)), (3, .row 28 (Enc.cells c3q5)), (4, .row 47 (fl c4q2))], 5)) (fun _ => True) (fun K2027 hK2027 => ?_) (fun _ _ => ?_)
              · refine reg_f ?_
                refine rs 4 [] [] (by kernel_rfl) allP_nil ?_
                refine run_split 62 (c3q5.Code == 0) (.inl (by kernel_rfl)) (fun g2028 => ?_) (fun g2028 => ?_)
                · refine rs 3 [] [] (by kernel_rfl) allP_nil ?_
                  refine rf [(1, iS task), (2, bS write), (3, bS xtry), (4, .ptr 0 0), (11, .ptr 1 0), (12, bS xin2), (13, .ptr 2 0), (14, .ptr 3 0), (65, bS (decide (task < 1)))] [(0, .row 24 (Enc.cells l)), (1, .row 24 [iS c1_Readers3, bS c1_Writer3, .own 4 0 c4q2.length]), (2, .row 28 (Enc.cells c2q2)), (3, .row 28 (Enc.cells c3q5)), (4, .row 47 (fl c4q2))] 5 (by kernel_rfl) ?_
                  exact hK2027 () _ _ _ trivial (leSt_m [(0, 0), (1, 1), (2, 2), (3, 3), (4, 4)] [] (by (try simp only [g2028]) <;> simp only [push_cast, seval]) (by (try simp only [g2028]) <;> simp only [push_cast, seval]) rfl rfl rfl)
                · refine rs 3 [] [] (by kernel_rfl) allP_nil ?_
                  refine rf [(1, iS task), (2, bS write), (3, bS xtry), (4, .ptr 0 0), (11, .ptr 1 0), (12, bS xin2), (13, .ptr 2 0), (14, .ptr 3 0), (65, bS false)] [(0, .row 24 (Enc.cells l)), (1, .row 24 [iS c1_Readers3, bS c1_Writer3, .own 4 0 c4q2.length]), (2, .row 28 (Enc.cells c2q2)), (3, .row 28 (Enc.cells c3q5)), (4, .row 47 (fl c4q2))] 5 (by kernel_rfl) ?_
                  exact hK2027 () _ _ _ trivial (leSt_m [(0, 0), (1, 1), (2, 2), (3, 3), (4, 4)] [] (by (try simp only [g2028]) <;> simp only [push_cast, seval]) (by (try simp only [g2028]) <;> simp only [push_cast, seval]) rfl rfl rfl)
              · dsimp only
                refine cond_sx h (by kernel_rfl) (fun g2031 h => ?_) (fun g2031 h => ?_)
                · refine reg_f ?_
                  obtain ⟨r2030, hr2030, h⟩ := bind_sx h
                  refine run_call 18 [iS 3, iS (-1)] (some 66) (by kernel_rfl) ?_
                  refine call_0 (taskmillref_F_spec 3 (-1) r2030 hr2030) (by simp only [push_cast, seval]) (by simp only [push_cast, seval]) ?_
                  refine back_f ?_
                  refine rs 1 [] [] (by kernel_rfl) allP_nil ?_
                  refine rf [(1, iS task), (2, bS write), (3, bS xtry), (4, .ptr 0 0), (11, .ptr 1 0), (12, bS xin2), (13, .ptr 2 0), (14, .ptr 3 0)] [(0, .row 24 (Enc.cells l)), (1, .row 24 [iS c1_Readers3, bS c1_Writer3, .own 4 0 c4q2.length]), (2, .row 28 (Enc.cells c2q2)), (3, .row 28 (Enc.cells r2030)), (4, .row 47 (fl c4q2))] 5 (by kernel_rfl) ?_
                  exact hK2025 (r2030) _ _ _ h (leSt_m [(0, 0), (1, 1), (2, 2), (3, 3), (4, 4)] [] (by simp only [push_cast, seval]) (by simp only [push_cast, seval]) rfl rfl rfl)
                · exact hK2025 (c3q5) _ _ _ h (leSt_m [(0, 0), (1, 1), (2, 2), (3, 3), (4, 4)] [] (by simp only [push_cast, seval]) (by simp only [push_cast, seval]) rfl rfl rfl)
            · rintro c3q6 h
              try dsimp only at h ⊢
              unfold taskmilllaw_LockEnters_j6 at h
              refine seq_cut (A := Fault) (fun a => ([(1, iS task), (2, bS write), (3, bS xtry), (4, .ptr 0 0), (11, .ptr 1 0), (12, bS xin2), (13, .ptr 2 0), (14, .ptr 3 0)], [(0, .row 24 (Enc.cells l)), (1, .row 24 [iS c1_Readers3, bS c1_Writer3, .own 4 0 c4q2.length]), (2, .row 28 (Enc.cells c2q2)), (3, .row 28 (Enc.cells a)), (4, .row 47 (fl c4q2))], 5)) (fun a => (taskmilllaw_LockEnters_j4 l task write xtry xin2 c1_Readers3 c1_Writer3 c2q2 c4q2 a) = some r) (fun K2039 hK2039 => ?_) ?_
              · refine seq_cut (A := Bool) (fun a => ([(1, iS task), (2, bS write), (3, bS xtry), (4, .ptr 0 0), (11, .ptr 1 0), (12, bS xin2), (13, .ptr 2 0), (14, .ptr 3 0), (76, bS a)], [(0, .row 24 (Enc.cells l)), (1, .row 24 [iS c1_Readers3, bS c1_Writer3, .own 4 0 c4q2.length]), (2, .row 28 (Enc.cells c2q2)), (3, .row 28 (Enc.cells c3q6)), (4, .row 47 (fl c4q2))], 5)) (fun a => (taskmilllaw_LockEnters_j5 l task write xtry xin2 c1_Readers3 c1_Writer3 c2q2 c4q2 c3q6 a) = some r) (fun K2043 hK2043 => ?_) ?_
                · refine reg_f ?_
                  refine rs 4 [] [] (by kernel_rfl) allP_nil ?_
                  refine run_br h 70 (.inl (by kernel_rfl)) (fun g2044 h => ?_) (fun g2044 h => ?_)
                  · refine rs 3 [] [] (by kernel_rfl) allP_nil ?_
                    obtain ⟨r2045, hr2045, h⟩ := bind_sx h
                    refine run_call 17 [.sl l.Line.length (fl l.Line), iS task] (some 74) (by kernel_rfl) ?_
                    refine call_0 (taskmillref_InLine_spec l.Line task r2045 hr2045) (by simp only [push_cast, seval]) (by simp only [push_cast, seval]) ?_
                    refine back_f ?_
                    refine rs 2 [] [] (by kernel_rfl) allP_nil ?_
                    refine rf [(1, iS task), (2, bS write), (3, bS xtry), (4, .ptr 0 0), (11, .ptr 1 0), (12, bS xin2), (13, .ptr 2 0), (14, .ptr 3 0), (76, bS (decide ((0 : Int) ≤ r2045)))] [(0, .row 24 (Enc.cells l)), (1, .row 24 [iS c1_Readers3, bS c1_Writer3, .own 4 0 c4q2.length]), (2, .row 28 (Enc.cells c2q2)), (3, .row 28 (Enc.cells c3q6)), (4, .row 47 (fl c4q2))] 5 (by kernel_rfl) ?_
                    exact hK2043 ((decide ((0 : Int) ≤ r2045))) _ _ _ h (leSt_m [(0, 0), (1, 1), (2, 2), (3, 3), (4, 4)] [] (by (try simp only [g2044]) <;> simp only [push_cast, seval]) (by (try simp only [g2044]) <;> simp only [push_cast, seval]) rfl rfl rfl)
                  · refine rs 6 [] [] (by kernel_rfl) allP_nil ?_
                    refine rf [(1, iS task), (2, bS write), (3, bS xtry), (4, .ptr 0 0), (11, .ptr 1 0), (12, bS xin2), (13, .ptr 2 0), (14, .ptr 3 0), (76, bS false)] [(0, .row 24 (Enc.cells l)), (1, .row 24 [iS c1_Readers3, bS c1_Writer3, .own 4 0 c4q2.length]), (2, .row 28 (Enc.cells c2q2)), (3, .row 28 (Enc.cells c3q6)), (4, .row 47 (fl c4q2))] 5 (by kernel_rfl) ?_
                    exact hK2043 (false) _ _ _ h (leSt_m [(0, 0), (1, 1), (2, 2), (3, 3), (4, 4)] [] (by (try simp only [g2044]) <;> simp only [push_cast, seval]) (by (try simp only [g2044]) <;> simp only [push_cast, seval]) rfl rfl rfl)
                · rintro t76q2 h
                  try dsimp only at h ⊢
                  unfold taskmilllaw_LockEnters_j5 at h
                  refine cond_sx h (by kernel_rfl) (fun g2048 h => ?_) (fun g2048 h => ?_)
                  · refine reg_f ?_
                    obtain ⟨r2047, hr2047, h⟩ := bind_sx h
                    refine run_call 18 [iS 10, iS (-1)] (some 77) (by kernel_rfl) ?_
                    refine call_0 (taskmillref_F_spec 10 (-1) r2047 hr2047) (by simp only [push_cast, seval]) (by simp only [push_cast, seval]) ?_
                    refine back_f ?_
                    refine rs 1 [] [] (by kernel_rfl) allP_nil ?_
                    refine rf [(1, iS task), (2, bS write), (3, bS xtry), (4, .ptr 0 0), (11, .ptr 1 0), (12, bS xin2), (13, .ptr 2 0), (14, .ptr 3 0)] [(0, .row 24 (Enc.cells l)), (1, .row 24 [iS c1_Readers3, bS c1_Writer3, .own 4 0 c4q2.length]), (2, .row 28 (Enc.cells c2q2)), (3, .row 28 (Enc.cells r2047)), (4, .row 47 (fl c4q2))] 5 (by kernel_rfl) ?_
                    exact hK2039 (r2047) _ _ _ h (leSt_m [(0, 0), (1, 1), (2, 2), (3, 3), (4, 4)] [] (by simp only [push_cast, seval]) (by simp only [push_cast, seval]) rfl rfl rfl)
                  · exact hK2039 (c3q6) _ _ _ h (leSt_m [(0, 0), (1, 1), (2, 2), (3, 3), (4, 4)] [] (by simp only [push_cast, seval]) (by simp only [push_cast, seval]) rfl rfl rfl)
              · rintro c3q7 h
                try dsimp only at h ⊢
                unfold taskmilllaw_LockEnters_j4 at h
                refine seq_cut (A := Fault) (fun a => ([(1, iS task), (2, bS write), (3, bS xtry), (4, .ptr 0 0), (11, .ptr 1 0), (12, bS xin2), (13, .ptr 2 0), (14, .ptr 3 0)], [(0, .row 24 (Enc.cells l)), (1, .row 24 [iS c1_Readers3, bS c1_Writer3, .own 4 0 c4q2.length]), (2, .row 28 (Enc.cells c2q2)), (3, .row 28 (Enc.cells a)), (4, .row 47 (fl c4q2))], 5)) (fun a => (taskmilllaw_LockEnters_j3 l task write xtry xin2 c1_Readers3 c1_Writer3 c2q2 c4q2 a) = some r) (fun K2054 hK2054 => ?_) ?_
                · refine seq_cut (A := Unit) (fun _ => ([(1, iS task), (2, bS write), (3, bS xtry), (4, .ptr 0 0), (11, .ptr 1 0), (12, bS xin2), (13, .ptr 2 0), (14, .ptr 3 0), (91, bS ((c3q7.Code == 0) && ((((l.Line.length : Nat) : Int) == 5000) || (l.Readers == 1000000000))))], [(0, .row 24 (Enc.cells l)), (1, .row 24 [iS c1_Readers3, bS c1_Writer3, .own 4 0 c4q2.length]), (2, .row 28 (Enc.cells c2q2)), (3, .row 28 (Enc.cells c3q7)), (4, .row 47 (fl c4q2))], 5)) (fun _ => True) (fun K2057 hK2057 => ?_) (fun _ _ => ?_)
                  · refine reg_f ?_
                    refine rs 4 [] [] (by kernel_rfl) allP_nil ?_
                    refine run_split 81 (c3q7.Code == 0) (.inl (by kernel_rfl)) (fun g2058 => ?_) (fun g2058 => ?_)
                    · refine rs 5 [] [] (by kernel_rfl) allP_nil ?_
                      refine run_split 86 (((l.Line.length : Nat) : Int) == 5000) (.inr (by kernel_rfl)) (fun g2059 => ?_) (fun g2059 => ?_)
                      · refine rs 5 [] [] (by kernel_rfl) allP_nil ?_
                        refine rf [(1, iS task), (2, bS write), (3, bS xtry), (4, .ptr 0 0), (11, .ptr 1 0), (12, bS xin2), (13, .ptr 2 0), (14, .ptr 3 0), (91, bS true)] [(0, .row 24 (Enc.cells l)), (1, .row 24 [iS c1_Readers3, bS c1_Writer3, .own 4 0 c4q2.length]), (2, .row 28 (Enc.cells c2q2)), (3, .row 28 (Enc.cells c3q7)), (4, .row 47 (fl c4q2))] 5 (by kernel_rfl) ?_
                        exact hK2057 () _ _ _ trivial (leSt_m [(0, 0), (1, 1), (2, 2), (3, 3), (4, 4)] [] (by first | ((try simp only [g2058, g2059]) <;> simp only [push_cast, seval]; done) | (exfalso; clear h; simp_all)) (by first | ((try simp only [g2058, g2059]) <;> simp only [push_cast, seval]; done) | (exfalso; clear h; simp_all)) rfl rfl rfl)
                      · refine rs 5 [] [] (by kernel_rfl) allP_nil ?_
                        refine rf [(1, iS task), (2, bS write), (3, bS xtry), (4, .ptr 0 0), (11, .ptr 1 0), (12, bS xin2), (13, .ptr 2 0), (14, .ptr 3 0), (91, bS (l.Readers == 1000000000))] [(0, .row 24 (Enc.cells l)), (1, .row 24 [iS c1_Readers3, bS c1_Writer3, .own 4 0 c4q2.length]), (2, .row 28 (Enc.cells c2q2)), (3, .row 28 (Enc.cells c3q7)), (4, .row 47 (fl c4q2))] 5 (by kernel_rfl) ?_
                        exact hK2057 () _ _ _ trivial (leSt_m [(0, 0), (1, 1), (2, 2), (3, 3), (4, 4)] [] (by first | ((try simp only [g2058, g2059]) <;> simp only [push_cast, seval]; done) | (exfalso; clear h; simp_all)) (by first | ((try simp only [g2058, g2059]) <;> simp only [push_cast, seval]; done) | (exfalso; clear h; simp_all)) rfl rfl rfl)
                    · refine rs 10 [] [] (by kernel_rfl) allP_nil ?_
                      refine rf [(1, iS task), (2, bS write), (3, bS xtry), (4, .ptr 0 0), (11, .ptr 1 0), (12, bS xin2), (13, .ptr 2 0), (14, .ptr 3 0), (91, bS false)] [(0, .row 24 (Enc.cells l)), (1, .row 24 [iS c1_Readers3, bS c1_Writer3, .own 4 0 c4q2.length]), (2, .row 28 (Enc.cells c2q2)), (3, .row 28 (Enc.cells c3q7)), (4, .row 47 (fl c4q2))] 5 (by kernel_rfl) ?_
                      exact hK2057 () _ _ _ trivial (leSt_m [(0, 0), (1, 1), (2, 2), (3, 3), (4, 4)] [] (by (try simp only [g2058]) <;> simp only [push_cast, seval]) (by (try simp only [g2058]) <;> simp only [push_cast, seval]) rfl rfl rfl)
                  · dsimp only
                    refine cond_sx h (by kernel_rfl) (fun g2062 h => ?_) (fun g2062 h => ?_)
                    · refine reg_f ?_
                      obtain ⟨r2061, hr2061, h⟩ := bind_sx h
                      refine run_call 18 [iS 9, iS 0] (some 92) (by kernel_rfl) ?_
                      refine call_0 (taskmillref_F_spec 9 0 r2061 hr2061) (by simp only [push_cast, seval]) (by simp only [push_cast, seval]) ?_
                      refine back_f ?_
                      refine rs 1 [] [] (by kernel_rfl) allP_nil ?_
                      refine rf [(1, iS task), (2, bS write), (3, bS xtry), (4, .ptr 0 0), (11, .ptr 1 0), (12, bS xin2), (13, .ptr 2 0), (14, .ptr 3 0)] [(0, .row 24 (Enc.cells l)), (1, .row 24 [iS c1_Readers3, bS c1_Writer3, .own 4 0 c4q2.length]), (2, .row 28 (Enc.cells c2q2)), (3, .row 28 (Enc.cells r2061)), (4, .row 47 (fl c4q2))] 5 (by kernel_rfl) ?_
                      exact hK2054 (r2061) _ _ _ h (leSt_m [(0, 0), (1, 1), (2, 2), (3, 3), (4, 4)] [] (by simp only [push_cast, seval]) (by simp only [push_cast, seval]) rfl rfl rfl)
                    · exact hK2054 (c3q7) _ _ _ h (leSt_m [(0, 0), (1, 1), (2, 2), (3, 3), (4, 4)] [] (by simp only [push_cast, seval]) (by simp only [push_cast, seval]) rfl rfl rfl)
                · rintro c3q8 h
                  try dsimp only at h ⊢
                  unfold taskmilllaw_LockEnters_j3 at h
                  refine seq_np ?_
                  refine seq_np ?_
                  refine reg_f ?_
                  refine rs 3 [] [] (by kernel_rfl) allP_nil ?_
                  refine rf [(1, iS task), (2, bS write), (3, bS xtry), (4, .ptr 0 0), (11, .ptr 1 0), (12, bS xin2), (14, .ptr 3 0), (95, bS (!((c2q2.Code == c3q8.Code) && ((c2q2.At == c3q8.At) && true))))] [(0, .row 24 (Enc.cells l)), (1, .row 24 [iS c1_Readers3, bS c1_Writer3, .own 4 0 c4q2.length]), (2, .row 28 (Enc.cells c2q2)), (3, .row 28 (Enc.cells c3q8)), (4, .row 47 (fl c4q2))] 5 (by kernel_rfl) ?_
                  refine wk_id ?_
                  refine cond_sx h (by kernel_rfl) (fun g2099 h => ?_) (fun g2099 h => ?_)
                  · refine seq_np ?_
                    refine reg_f ?_
                    refine rs 1 [] [] (by kernel_rfl) allP_nil ?_
                    refine rf [(8, bS false)] [(0, .row 24 (Enc.cells l)), (1, .row 24 [iS c1_Readers3, bS c1_Writer3, .own 4 0 c4q2.length]), (2, .row 28 (Enc.cells c2q2)), (3, .row 28 (Enc.cells c3q8)), (4, .row 47 (fl c4q2))] 5 (by kernel_rfl) ?_
                    refine wk_id ?_
                    obtain rfl := Option.some.inj h
                    refine ret_at (bS false) (by kernel_rfl) ?_
                    exact ret_e [] [] (by simp only [push_cast, seval]) (by simp only [push_cast, seval]) rfl rfl rfl
                  · refine wk_id ?_
                    refine seq_np ?_
                    refine seq_np ?_
                    refine reg_f ?_
                    refine rs 3 [] [] (by kernel_rfl) allP_nil ?_
                    refine rf [(1, iS task), (2, bS write), (3, bS xtry), (4, .ptr 0 0), (11, .ptr 1 0), (12, bS xin2), (98, bS (c3q8.Code != 0))] [(0, .row 24 (Enc.cells l)), (1, .row 24 [iS c1_Readers3, bS c1_Writer3, .own 4 0 c4q2.length]), (2, .row 28 (Enc.cells c2q2)), (3, .row 28 (Enc.cells c3q8)), (4, .row 47 (fl c4q2))] 5 (by kernel_rfl) ?_
                    refine wk_id ?_
                    refine cond_sx h (by kernel_rfl) (fun g2098 h => ?_) (fun g2098 h => ?_)
                    · refine seq_cut (A := Bool) (fun a => ([(8, bS a)], [], 0)) (fun a => (taskmilllaw_LockEnters_j1 a) = some r) (fun K2072 hK2072 => ?_) ?_
                      · refine reg_f ?_
                        refine rs 1 [] [] (by kernel_rfl) allP_nil ?_
                        obtain ⟨r2073, hr2073, h⟩ := bind_sx h
                        refine call_x (taskmilllaw_noLock_spec (Lock.mk c1_Readers3 c1_Writer3 c4q2) r2073 hr2073) (args := [.agg [iS c1_Readers3, bS c1_Writer3, .own 4 0 c4q2.length]]) (dst := (some 100)) (by kernel_rfl) [(0, .row 24 (Enc.cells l)), (1, .row 24 [iS c1_Readers3, bS c1_Writer3, .own 4 0 c4q2.length]), (2, .row 28 (Enc.cells c2q2)), (3, .row 28 (Enc.cells c3q8)), (4, .row 47 (fl c4q2))] 5 (by kernel_rfl) [] [4] (bS r2073) [] (by simp only [push_cast, seval]) (by simp only [push_cast, seval]) (by kernel_rfl) (.inr ⟨by simp only [push_cast, seval], by simp only [push_cast, seval]⟩) (by simp only [push_cast, seval]) (by simp only [push_cast, seval]) ?_
                        refine rs 1 [] [] (by kernel_rfl) allP_nil ?_
                        refine run_br h 101 (.inl (by kernel_rfl)) (fun g2074 h => ?_) (fun g2074 h => ?_)
                        · refine rs 4 [] [] (by kernel_rfl) allP_nil ?_
                          refine rf [(8, bS (!xin2))] [(0, .row 24 (Enc.cells l)), (1, .row 24 [iS c1_Readers3, bS c1_Writer3, .own 4 0 c4q2.length]), (2, .row 28 (Enc.cells c2q2)), (3, .row 28 (Enc.cells c3q8)), (4, .row 47 (fl c4q2))] 5 (by kernel_rfl) ?_
                          exact hK2072 ((!xin2)) _ _ _ h (leSt_m [] [] (by (try simp only [g2074]) <;> simp only [push_cast, seval]) (by (try simp only [g2074]) <;> simp only [push_cast, seval]) rfl rfl rfl)
                        · refine rs 4 [] [] (by kernel_rfl) allP_nil ?_
                          refine rf [(8, bS false)] [(0, .row 24 (Enc.cells l)), (1, .row 24 [iS c1_Readers3, bS c1_Writer3, .own 4 0 c4q2.length]), (2, .row 28 (Enc.cells c2q2)), (3, .row 28 (Enc.cells c3q8)), (4, .row 47 (fl c4q2))] 5 (by kernel_rfl) ?_
                          exact hK2072 (false) _ _ _ h (leSt_m [] [] (by (try simp only [g2074]) <;> simp only [push_cast, seval]) (by (try simp only [g2074]) <;> simp only [push_cast, seval]) rfl rfl rfl)
                      · rintro t8q2 h
                        try dsimp only at h ⊢
                        unfold taskmilllaw_LockEnters_j1 at h
                        obtain rfl := Option.some.inj h
                        refine ret_at (bS t8q2) (by kernel_rfl) ?_
                        exact ret_e [] [] (by simp only [push_cast, seval]) (by simp only [push_cast, seval]) rfl rfl rfl
                    · refine wk_id ?_
                      refine seq_np ?_
                      refine reg_t ?_
                      refine rs 6 [] [] (by kernel_rfl) allP_nil ?_
                      obtain ⟨r2079, hr2079, h⟩ := bind_sx h
                      refine call_x (taskmilllaw_ownWants_spec l.Line r2079 hr2079) (args := [.sl l.Line.length (fl l.Line)]) (dst := (some 112)) (by kernel_rfl) [(0, .row 24 (Enc.cells l)), (1, .row 24 [iS c1_Readers3, bS c1_Writer3, .own 4 0 c4q2.length]), (2, .row 28 (Enc.cells c2q2)), (3, .row 28 (Enc.cells c3q8)), (4, .row 47 (fl c4q2))] 11 (by kernel_rfl) [] [] (.own 11 0 r2079.length) [(11, .row 47 (fl r2079))] (by simp only [push_cast, seval]) (by simp only [push_cast, seval]) (by kernel_rfl) (.inl rfl) (by simp only [push_cast, seval]) (by simp only [push_cast, seval]) ?_
                      refine chk_sx h (fun g2081 h => ?_)
                      have k2080 : (r2079 ++ ([(Want.mk task write 0)] : List Want)).length * 24 ≤ 140737488355328 := by first | simpa only [Bool.and_eq_true, decide_eq_true_eq, bne_iff_ne, ne_eq] using g2081 | (simp at g2081 ⊢; omega)
                      refine rs 6 [none, none, none, none, some ⟨.own 18 0 (r2079 ++ ([(Want.mk task write 0)] : List Want)).length, [(18, .row 47 (fl (r2079 ++ ([(Want.mk task write 0)] : List Want)))), (11, .dead)], 19, [11, 16]⟩] _ (by kernel_rfl) (allP_cons (ob_app (P := Try.prog) r2079 ([(Want.mk task write 0)] : List Want) 3 24 rfl (appCells (fl ([(Want.mk task write 0)] : List Want)) 0 (([(Want.mk task write 0)] : List Want).length * 3)) ([(Want.mk task write 0)] : List Want).length (app_own ([(Want.mk task write 0)] : List Want) 3 rfl) rfl (0 + ([(Want.mk task write 0)] : List Want).length * 3 ≤ (fl ([(Want.mk task write 0)] : List Want)).length) (app_own_le ([(Want.mk task write 0)] : List Want) 3 rfl) 47 (by kernel_rfl) (by decide) k2080 11 18 [16]) allP_nil) ?_
                      obtain ⟨r2082, hr2082, h⟩ := bind_sx h
                      refine call_x (taskmillref_Admitted_1_spec l.Readers l.Writer (r2079 ++ ([(Want.mk task write 0)] : List Want)) r2082 hr2082) (args := [.agg [iS l.Readers, bS l.Writer, .own 18 0 (r2079 ++ ([(Want.mk task write 0)] : List Want)).length]]) (dst := (some 119)) (by kernel_rfl) [(0, .row 24 (Enc.cells l)), (1, .row 24 [iS c1_Readers3, bS c1_Writer3, .own 4 0 c4q2.length]), (2, .row 28 (Enc.cells c2q2)), (3, .row 28 (Enc.cells c3q8)), (4, .row 47 (fl c4q2)), (11, .dead), (16, .row 47 (fl ([(Want.mk task write 0)] : List Want))), (18, .row 47 (fl (r2079 ++ ([(Want.mk task write 0)] : List Want))))] 21 (by kernel_rfl) [(0, 18)] [] (.tup [.agg [iS r2082.1, bS r2082.2.1, .own 22 0 r2082.2.2.1.length], .own 23 0 r2082.2.2.2.length]) [(18, .dead), (22, .row 47 (fl r2082.2.2.1)), (23, .row 3 (fl r2082.2.2.2)), (18, .dead)] (by simp only [push_cast, seval]) (by simp only [push_cast, seval]) (by kernel_rfl) (.inl rfl) (by simp only [push_cast, seval]) (by simp only [push_cast, seval]) ?_
                      refine rs 6 [] [] (by kernel_rfl) allP_nil ?_
                      refine rt [(1, iS task), (3, bS xtry), (4, .ptr 0 0), (11, .ptr 1 0), (12, bS xin2), (15, .ptr 28 0), (16, .own 23 0 r2082.2.2.2.length)] [(0, .row 24 (Enc.cells l)), (1, .row 24 [iS c1_Readers3, bS c1_Writer3, .own 4 0 c4q2.length]), (2, .row 28 (Enc.cells c2q2)), (3, .row 28 (Enc.cells c3q8)), (4, .row 47 (fl c4q2)), (11, .dead), (16, .row 47 (fl ([(Want.mk task write 0)] : List Want))), (18, .dead), (22, .row 47 (fl r2082.2.2.1)), (23, .row 3 (fl r2082.2.2.2)), (28, .row 24 [iS r2082.1, bS r2082.2.1, .own 22 0 r2082.2.2.1.length])] 32 follows (by kernel_rfl) ?_
                      refine wk_id ?_
                      refine seq_np ?_
                      refine seq_np ?_
                      refine reg_f ?_
                      refine rs 3 [] [] (by kernel_rfl) allP_nil ?_
                      obtain ⟨r2086, hr2086, h⟩ := bind_sx h
                      refine call_x (taskmillref_Has_spec r2082.2.2.2 task r2086 hr2086) (args := [.own 23 0 r2082.2.2.2.length, iS task]) (dst := (some 125)) (by kernel_rfl) [(0, .row 24 (Enc.cells l)), (1, .row 24 [iS c1_Readers3, bS c1_Writer3, .own 4 0 c4q2.length]), (2, .row 28 (Enc.cells c2q2)), (3, .row 28 (Enc.cells c3q8)), (4, .row 47 (fl c4q2)), (11, .dead), (16, .row 47 (fl ([(Want.mk task write 0)] : List Want))), (18, .dead), (22, .row 47 (fl r2082.2.2.1)), (23, .row 3 (fl r2082.2.2.2)), (28, .row 24 [iS r2082.1, bS r2082.2.1, .own 22 0 r2082.2.2.1.length])] 32 (by kernel_rfl) [] [23] (bS r2086) [] (by simp only [push_cast, seval]) (by simp only [push_cast, seval]) (by kernel_rfl) (.inr ⟨by simp only [push_cast, seval], by simp only [push_cast, seval]⟩) (by simp only [push_cast, seval]) (by simp only [push_cast, seval]) ?_
                      refine rs 1 [] [] (by kernel_rfl) allP_nil ?_
                      refine rf [(3, bS xtry), (4, .ptr 0 0), (11, .ptr 1 0), (12, bS xin2), (15, .ptr 28 0), (126, bS (xin2 != r2086))] [(0, .row 24 (Enc.cells l)), (1, .row 24 [iS c1_Readers3, bS c1_Writer3, .own 4 0 c4q2.length]), (2, .row 28 (Enc.cells c2q2)), (3, .row 28 (Enc.cells c3q8)), (4, .row 47 (fl c4q2)), (11, .dead), (16, .row 47 (fl ([(Want.mk task write 0)] : List Want))), (18, .dead), (22, .row 47 (fl r2082.2.2.1)), (23, .row 3 (fl r2082.2.2.2)), (28, .row 24 [iS r2082.1, bS r2082.2.1, .own 22 0 r2082.2.2.1.length])] 32 (by kernel_rfl) ?_
                      refine wk_id ?_
                      refine cond_sx h (by kernel_rfl) (fun g2097 h => ?_) (fun g2097 h => ?_)
                      · refine seq_np ?_
                        refine reg_f ?_
                        refine rs 1 [] [] (by kernel_rfl) allP_nil ?_
                        refine rf [(8, bS false)] [(0, .row 24 (Enc.cells l)), (1, .row 24 [iS c1_Readers3, bS c1_Writer3, .own 4 0 c4q2.length]), (2, .row 28 (Enc.cells c2q2)), (3, .row 28 (Enc.cells c3q8)), (4, .row 47 (fl c4q2)), (11, .dead), (16, .row 47 (fl ([(Want.mk task write 0)] : List Want))), (18, .dead), (22, .row 47 (fl r2082.2.2.1)), (23, .row 3 (fl r2082.2.2.2)), (28, .row 24 [iS r2082.1, bS r2082.2.1, .own 22 0 r2082.2.2.1.length])] 32 (by kernel_rfl) ?_
                        refine wk_id ?_
                        obtain rfl := Option.some.inj h
                        refine ret_at (bS false) (by kernel_rfl) ?_
                        exact ret_e [] [] (by simp only [push_cast, seval]) (by simp only [push_cast, seval]) rfl rfl rfl
                      · refine wk_id ?_
                        refine seq_cut (A := Int × Bool × (List Want)) (fun a => ([(11, .ptr 0 0), (15, .ptr 1 0)], [(0, .row 24 [iS c1_Readers3, bS c1_Writer3, .own 2 0 c4q2.length]), (1, .row 24 [iS a.1, bS a.2.1, .sl a.2.2.length (fl a.2.2)]), (2, .row 47 (fl c4q2))], 3)) (fun a => (taskmilllaw_LockEnters_j2 c1_Readers3 c1_Writer3 c4q2 a.1 a.2.1 a.2.2) = some r) (fun K2090 hK2090 => ?_) ?_
                        · refine seq_cut (A := Unit) (fun _ => ([(4, .ptr 0 0), (11, .ptr 1 0), (15, .ptr 28 0), (131, bS ((!xin2) && xtry))], [(0, .row 24 (Enc.cells l)), (1, .row 24 [iS c1_Readers3, bS c1_Writer3, .own 4 0 c4q2.length]), (2, .row 28 (Enc.cells c2q2)), (3, .row 28 (Enc.cells c3q8)), (4, .row 47 (fl c4q2)), (16, .row 47 (fl ([(Want.mk task write 0)] : List Want))), (22, .row 47 (fl r2082.2.2.1)), (23, .row 3 (fl r2082.2.2.2)), (28, .row 24 [iS r2082.1, bS r2082.2.1, .own 22 0 r2082.2.2.1.length])], 32)) (fun _ => True) (fun K2092 hK2092 => ?_) (fun _ _ => ?_)
                          · refine reg_f ?_
                            refine rs 3 [] [] (by kernel_rfl) allP_nil ?_
                            refine run_split 129 (!xin2) (.inl (by kernel_rfl)) (fun g2093 => ?_) (fun g2093 => ?_)
                            · refine rs 2 [] [] (by kernel_rfl) allP_nil ?_
                              refine rf [(4, .ptr 0 0), (11, .ptr 1 0), (15, .ptr 28 0), (131, bS xtry)] [(0, .row 24 (Enc.cells l)), (1, .row 24 [iS c1_Readers3, bS c1_Writer3, .own 4 0 c4q2.length]), (2, .row 28 (Enc.cells c2q2)), (3, .row 28 (Enc.cells c3q8)), (4, .row 47 (fl c4q2)), (11, .dead), (16, .row 47 (fl ([(Want.mk task write 0)] : List Want))), (18, .dead), (22, .row 47 (fl r2082.2.2.1)), (23, .row 3 (fl r2082.2.2.2)), (28, .row 24 [iS r2082.1, bS r2082.2.1, .own 22 0 r2082.2.2.1.length])] 32 (by kernel_rfl) ?_
                              exact hK2092 () _ _ _ trivial (leSt_m [(0, 0), (1, 1), (2, 2), (3, 3), (4, 4), (16, 16), (22, 22), (23, 23), (28, 28)] [] (by (try simp only [g2093]) <;> simp only [push_cast, seval]) (by (try simp only [g2093]) <;> simp only [push_cast, seval]) rfl rfl rfl)
                            · refine rs 2 [] [] (by kernel_rfl) allP_nil ?_
                              refine rf [(4, .ptr 0 0), (11, .ptr 1 0), (15, .ptr 28 0), (131, bS false)] [(0, .row 24 (Enc.cells l)), (1, .row 24 [iS c1_Readers3, bS c1_Writer3, .own 4 0 c4q2.length]), (2, .row 28 (Enc.cells c2q2)), (3, .row 28 (Enc.cells c3q8)), (4, .row 47 (fl c4q2)), (11, .dead), (16, .row 47 (fl ([(Want.mk task write 0)] : List Want))), (18, .dead), (22, .row 47 (fl r2082.2.2.1)), (23, .row 3 (fl r2082.2.2.2)), (28, .row 24 [iS r2082.1, bS r2082.2.1, .own 22 0 r2082.2.2.1.length])] 32 (by kernel_rfl) ?_
                              exact hK2092 () _ _ _ trivial (leSt_m [(0, 0), (1, 1), (2, 2), (3, 3), (4, 4), (16, 16), (22, 22), (23, 23), (28, 28)] [] (by (try simp only [g2093]) <;> simp only [push_cast, seval]) (by (try simp only [g2093]) <;> simp only [push_cast, seval]) rfl rfl rfl)
                          · dsimp only
                            refine cond_sx h (by kernel_rfl) (fun g2094 h => ?_) (fun g2094 h => ?_)
                            · refine reg_f ?_
                              refine rs 2 [] [] (by kernel_rfl) allP_nil ?_
                              refine rf [(11, .ptr 1 0), (15, .ptr 28 0)] [(0, .row 24 (Enc.cells l)), (1, .row 24 [iS c1_Readers3, bS c1_Writer3, .own 4 0 c4q2.length]), (2, .row 28 (Enc.cells c2q2)), (3, .row 28 (Enc.cells c3q8)), (4, .row 47 (fl c4q2)), (16, .row 47 (fl ([(Want.mk task write 0)] : List Want))), (22, .row 47 (fl r2082.2.2.1)), (23, .row 3 (fl r2082.2.2.2)), (28, .row 24 (Enc.cells l))] 32 (by kernel_rfl) ?_
                              exact hK2090 (l.Readers, l.Writer, l.Line) _ _ _ h (leSt_m [(0, 1), (1, 28), (2, 4)] [] (by simp only [push_cast, seval]) (by simp only [push_cast, seval]) rfl rfl rfl)
                            · exact hK2090 (r2082.1, r2082.2.1, r2082.2.2.1) _ _ _ h (leSt_m [(0, 1), (1, 28), (2, 4)] [22] (by simp only [push_cast, seval]) (by simp only [push_cast, seval]) rfl rfl rfl)
                        · rintro ⟨c1_Readers4, c1_Writer4, c1_Line1⟩ h
                          try dsimp only at h ⊢
                          unfold taskmilllaw_LockEnters_j2 at h
                          refine seq_np ?_
                          refine reg_f ?_
                          refine rs 2 [] [] (by kernel_rfl) allP_nil ?_
                          obtain ⟨r2096, hr2096, h⟩ := bind_sx h
                          refine call_x (taskmillref_SameLock_spec (Lock.mk c1_Readers3 c1_Writer3 c4q2) (Lock.mk c1_Readers4 c1_Writer4 c1_Line1) r2096 hr2096) (args := [.agg [iS c1_Readers3, bS c1_Writer3, .own 2 0 c4q2.length], .agg [iS c1_Readers4, bS c1_Writer4, .sl c1_Line1.length (fl c1_Line1)]]) (dst := (some 135)) (by kernel_rfl) [(0, .row 24 [iS c1_Readers3, bS c1_Writer3, .own 2 0 c4q2.length]), (1, .row 24 [iS c1_Readers4, bS c1_Writer4, .sl c1_Line1.length (fl c1_Line1)]), (2, .row 47 (fl c4q2))] 3 (by kernel_rfl) [] [2] (bS r2096) [] (by simp only [push_cast, seval]) (by simp only [push_cast, seval]) (by kernel_rfl) (.inr ⟨by simp only [push_cast, seval], by simp only [push_cast, seval]⟩) (by simp only [push_cast, seval]) (by simp only [push_cast, seval]) ?_
                          refine rs 1 [] [] (by kernel_rfl) allP_nil ?_
                          refine rf [(8, bS r2096)] [(0, .row 24 [iS c1_Readers3, bS c1_Writer3, .own 2 0 c4q2.length]), (1, .row 24 [iS c1_Readers4, bS c1_Writer4, .sl c1_Line1.length (fl c1_Line1)]), (2, .row 47 (fl c4q2))] 3 (by kernel_rfl) ?_
                          refine wk_id ?_
                          obtain rfl := Option.some.inj h
                          refine ret_at (bS r2096) (by kernel_rfl) ?_
                          exact ret_e [] [] (by simp only [push_cast, seval]) (by simp only [push_cast, seval]) rfl rfl rfl

set_option maxRecDepth 100000 in
set_option maxHeartbeats 10000000 in
theorem taskmilllaw_LockAlone_1_spec (tasks : (List Int)) (c0 : (List Int)) (c3 : Int) (c2 : (List Int)) (r : Bool × (List Int) × (List Int) × Int) (h : taskmilllaw_LockAlone_1 tasks c0 c3 c2 = some r) : SpecW Try.prog 23 [.sl tasks.length (fl tasks), .ptr 0 0, .ptr 1 0, .ptr 3 0] [(0, .row 26 [.sl c0.length (fl c0)]), (1, .row 26 [.own 2 0 c2.length]), (2, .row 3 (fl c2)), (3, .row 3 [iS c3])] 4 (fun x h n => x = bS r.1 ∧ h = [(0, .row 26 [.sl r.2.1.length (fl r.2.1)]), (1, .row 26 [.own 2 0 r.2.2.1.length]), (2, .row 3 (fl r.2.2.1)), (3, .row 3 [iS r.2.2.2])] ∧ n = 4) := by
  unfold taskmilllaw_LockAlone_1 at h
  refine spec_of (draw_ok _) Try.func23 rfl (by decide) rfl (by kernel_rfl) ?_
  refine seq_np ?_
  refine reg_f ?_
  refine rs 1 [] [] (by kernel_rfl) allP_nil ?_
  refine rf [(0, .sl tasks.length (fl tasks)), (1, .ptr 0 0), (2, .ptr 1 0), (3, .ptr 3 0)] [(0, .row 26 [.sl c0.length (fl c0)]), (1, .row 26 [.own 2 0 c2.length]), (2, .row 3 (fl c2)), (3, .row 3 [iS c3])] 4 (by kernel_rfl) ?_
  refine wk_id ?_
  refine seq_np ?_
  refine seq_np ?_
  refine reg_f ?_
  refine rs 1 [] [] (by kernel_rfl) allP_nil ?_
  refine rf [(0, .sl tasks.length (fl tasks)), (1, .ptr 0 0), (2, .ptr 1 0), (3, .ptr 3 0), (6, iS 0)] [(0, .row 26 [.sl c0.length (fl c0)]), (1, .row 26 [.own 2 0 c2.length]), (2, .row 3 (fl c2)), (3, .row 3 [iS c3])] 4 (by kernel_rfl) ?_
  refine wk_id ?_
  refine block_np ?_
  refine loop_sx (S := Int × (List Int) × Int) (fun a => ([(0, .sl tasks.length (fl tasks)), (1, .ptr 0 0), (2, .ptr 1 0), (3, .ptr 3 0), (6, iS a.1)], [(0, .row 26 [.sl c0.length (fl c0)]), (1, .row 26 [.own 2 0 a.2.1.length]), (2, .row 3 (fl a.2.1)), (3, .row 3 [iS a.2.2])], 4)) h (leSt_m [(0, 0), (1, 1), (2, 2), (3, 3)] [] (by simp only [push_cast, seval]) (by simp only [push_cast, seval]) rfl rfl rfl) ?_
  rintro ⟨i7, c2q9, c3q9⟩ o2 R2 h hr2 hn2 hx2 ht2
  try dsimp only at h hn2 ⊢
  unfold taskmilllaw_LockAlone_1_l1 at h
  try dsimp only at h
  refine seq_np ?_
  refine seq_np ?_
  refine reg_f ?_
  refine rs 4 [] [] (by kernel_rfl) allP_nil ?_
  refine rf [(0, .sl tasks.length (fl tasks)), (1, .ptr 0 0), (2, .ptr 1 0), (3, .ptr 3 0), (6, iS i7), (11, bS (decide (i7 < ((tasks.length : Nat) : Int))))] [(0, .row 26 [.sl c0.length (fl c0)]), (1, .row 26 [.own 2 0 c2q9.length]), (2, .row 3 (fl c2q9)), (3, .row 3 [iS c3q9])] 4 (by kernel_rfl) ?_
  refine wk_id ?_
  refine cond_sx h (by kernel_rfl) (fun g2325 h => ?_) (fun g2325 h => ?_)
  · refine wk_id ?_
    refine seq_np ?_
    refine block_np ?_
    refine chk_sx h (fun g2298 h => ?_)
    refine seq_np ?_
    refine reg_f ?_
    have k2297 : 0 ≤ i7 ∧ i7 < ((tasks.length : Nat) : Int) := by first | simpa only [Bool.and_eq_true, decide_eq_true_eq, bne_iff_ne, ne_eq] using g2298 | (simp at g2298 ⊢; omega)
    refine rs 5 [none, none, some ⟨.iptr (fl tasks) ((i7).toNat * 1), [], 4, []⟩, some ⟨iS (ix tasks i7), [], 4, []⟩] _ (by kernel_rfl) (allP_cons (ob_ld tasks i7 1 0 ((i7).toNat * 1) k2297 rfl (by decide) (by first | rfl | omega) (dflS Try.prog 3) (iS (ix tasks i7)) rfl 4 []) (allP_cons (ob_ix_l tasks 1 4 i7 k2297) allP_nil)) ?_
    refine rf [(0, .sl tasks.length (fl tasks)), (1, .ptr 0 0), (2, .ptr 1 0), (3, .ptr 3 0), (6, iS i7), (7, iS (ix tasks i7))] [(0, .row 26 [.sl c0.length (fl c0)]), (1, .row 26 [.own 2 0 c2q9.length]), (2, .row 3 (fl c2q9)), (3, .row 3 [iS c3q9])] 4 (by kernel_rfl) ?_
    refine wk_id ?_
    refine seq_np ?_
    refine chk_sx h (fun g2314 h => ?_)
    refine seq_cut (A := Unit) (fun _ => ([(0, .sl tasks.length (fl tasks)), (1, .ptr 0 0), (2, .ptr 1 0), (3, .ptr 3 0), (6, iS i7), (7, iS (ix tasks i7)), (37, bS ((decide ((ix tasks i7) < 1)) || ((decide (((c0.length : Nat) : Int) < (ix tasks i7))) || ((decide ((ix c2q9 (ix tasks i7)) < 3)) || (decide ((ix tasks i7) < c3q9))))))], [(0, .row 26 [.sl c0.length (fl c0)]), (1, .row 26 [.own 2 0 c2q9.length]), (2, .row 3 (fl c2q9)), (3, .row 3 [iS c3q9])], 4)) (fun _ => True) (fun K2310 hK2310 => ?_) (fun _ _ => ?_)
    · refine reg_f ?_
      refine rs 3 [] [] (by kernel_rfl) allP_nil ?_
      refine run_split 20 (decide ((ix tasks i7) < 1)) (.inl (by kernel_rfl)) (fun g2311 => ?_) (fun g2311 => ?_)
      · refine rs 17 [] [] (by kernel_rfl) allP_nil ?_
        refine rf [(0, .sl tasks.length (fl tasks)), (1, .ptr 0 0), (2, .ptr 1 0), (3, .ptr 3 0), (6, iS i7), (7, iS (ix tasks i7)), (37, bS true)] [(0, .row 26 [.sl c0.length (fl c0)]), (1, .row 26 [.own 2 0 c2q9.length]), (2, .row 3 (fl c2q9)), (3, .row 3 [iS c3q9])] 4 (by kernel_rfl) ?_
        exact hK2310 () _ _ _ trivial (leSt_m [(0, 0), (1, 1), (2, 2), (3, 3)] [] (by (try simp only [g2311]) <;> simp only [push_cast, seval]) (by (try simp only [g2311]) <;> simp only [push_cast, seval]) rfl rfl rfl)
      · refine rs 6 [] [] (by kernel_rfl) allP_nil ?_
        refine run_split 26 (decide (((c0.length : Nat) : Int) < (ix tasks i7))) (.inl (by kernel_rfl)) (fun g2312 => ?_) (fun g2312 => ?_)
        · refine rs 11 [] [] (by kernel_rfl) allP_nil ?_
          refine rf [(0, .sl tasks.length (fl tasks)), (1, .ptr 0 0), (2, .ptr 1 0), (3, .ptr 3 0), (6, iS i7), (7, iS (ix tasks i7)), (37, bS true)] [(0, .row 26 [.sl c0.length (fl c0)]), (1, .row 26 [.own 2 0 c2q9.length]), (2, .row 3 (fl c2q9)), (3, .row 3 [iS c3q9])] 4 (by kernel_rfl) ?_
          exact hK2310 () _ _ _ trivial (leSt_m [(0, 0), (1, 1), (2, 2), (3, 3)] [] (by first | ((try simp only [g2311, g2312]) <;> simp only [push_cast, seval]; done) | (exfalso; clear h; simp_all)) (by first | ((try simp only [g2311, g2312]) <;> simp only [push_cast, seval]; done) | (exfalso; clear h; simp_all)) rfl rfl rfl)
        · have k2313 : 0 ≤ (ix tasks i7) ∧ (ix tasks i7) < ((c2q9.length : Nat) : Int) := by have e := or_use g2314 (by first | ((try simp only [g2311, g2312]) <;> rfl) | (exfalso; clear h; simp_all)); first | simpa only [Bool.and_eq_true, decide_eq_true_eq, bne_iff_ne, ne_eq] using e | (simp at e ⊢; omega)
          refine rs 7 [none, none, some ⟨.ptr 2 (0 + ((ix tasks i7)).toNat * 1), [], 4, [2]⟩, some ⟨iS (ix c2q9 (ix tasks i7)), [], 4, [2]⟩] _ (by kernel_rfl) (allP_cons (ob_ld c2q9 (ix tasks i7) 1 0 (0 + ((ix tasks i7)).toNat * 1) k2313 rfl (by decide) (by first | rfl | omega) (dflS Try.prog 3) (iS (ix c2q9 (ix tasks i7))) rfl 4 [2]) (allP_cons (ob_ix_o 2 c2q9.length 0 1 4 (ix tasks i7) k2313) allP_nil)) ?_
          refine run_split 33 (decide ((ix c2q9 (ix tasks i7)) < 3)) (.inl (by kernel_rfl)) (fun g2315 => ?_) (fun g2315 => ?_)
          · refine rn 16 [(0, .sl tasks.length (fl tasks)), (1, .ptr 0 0), (2, .ptr 1 0), (3, .ptr 3 0), (6, iS i7), (7, iS (ix tasks i7)), (33, bS true)] [(0, .row 26 [.sl c0.length (fl c0)]), (1, .row 26 [.own 2 0 c2q9.length]), (2, .row 3 (fl c2q9)), (3, .row 3 [iS c3q9])] 4 (by kernel_rfl) ?_
            refine rs 4 [] [] (by kernel_rfl) allP_nil ?_
            refine rf [(0, .sl tasks.length (fl tasks)), (1, .ptr 0 0), (2, .ptr 1 0), (3, .ptr 3 0), (6, iS i7), (7, iS (ix tasks i7)), (37, bS true)] [(0, .row 26 [.sl c0.length (fl c0)]), (1, .row 26 [.own 2 0 c2q9.length]), (2, .row 3 (fl c2q9)), (3, .row 3 [iS c3q9])] 4 (by kernel_rfl) ?_
            exact hK2310 () _ _ _ trivial (leSt_m [(0, 0), (1, 1), (2, 2), (3, 3)] [] (by first | ((try simp only [g2311, g2312, g2315]) <;> simp only [push_cast, seval]; done) | (exfalso; clear h; simp_all)) (by first | ((try simp only [g2311, g2312, g2315]) <;> simp only [push_cast, seval]; done) | (exfalso; clear h; simp_all)) rfl rfl rfl)
          · refine rn 16 [(0, .sl tasks.length (fl tasks)), (1, .ptr 0 0), (2, .ptr 1 0), (3, .ptr 3 0), (6, iS i7), (7, iS (ix tasks i7)), (33, bS false)] [(0, .row 26 [.sl c0.length (fl c0)]), (1, .row 26 [.own 2 0 c2q9.length]), (2, .row 3 (fl c2q9)), (3, .row 3 [iS c3q9])] 4 (by kernel_rfl) ?_
            refine rs 4 [] [] (by kernel_rfl) allP_nil ?_
            refine rf [(0, .sl tasks.length (fl tasks)), (1, .ptr 0 0), (2, .ptr 1 0), (3, .ptr 3 0), (6, iS i7), (7, iS (ix tasks i7)), (37, bS (decide ((ix tasks i7) < c3q9)))] [(0, .row 26 [.sl c0.length (fl c0)]), (1, .row 26 [.own 2 0 c2q9.length]), (2, .row 3 (fl c2q9)), (3, .row 3 [iS c3q9])] 4 (by kernel_rfl) ?_
            exact hK2310 () _ _ _ trivial (leSt_m [(0, 0), (1, 1), (2, 2), (3, 3)] [] (by first | ((try simp only [g2311, g2312, g2315]) <;> simp only [push_cast, seval]; done) | (exfalso; clear h; simp_all)) (by first | ((try simp only [g2311, g2312, g2315]) <;> simp only [push_cast, seval]; done) | (exfalso; clear h; simp_all)) rfl rfl rfl)
    · dsimp only
      refine cond_sx h (by kernel_rfl) (fun g2324 h => ?_) (fun g2324 h => ?_)
      · refine seq_np ?_
        refine reg_f ?_
        refine rs 1 [] [] (by kernel_rfl) allP_nil ?_
        refine rf [(5, bS false)] [(0, .row 26 [.sl c0.length (fl c0)]), (1, .row 26 [.own 2 0 c2q9.length]), (2, .row 3 (fl c2q9)), (3, .row 3 [iS c3q9])] 4 (by kernel_rfl) ?_
        refine wk_id ?_
        refine rt_cast ht2 ?_
        obtain ⟨r0, h, e0⟩ := map_sx h
        have e1 := hr2 r0 e0.symm
        subst r0
        obtain rfl := Option.some.inj h
        refine ret_at (bS false) (by kernel_rfl) ?_
        exact ret_e [(0, 0), (1, 1), (2, 2), (3, 3)] [] (by simp only [push_cast, seval]) (by simp only [push_cast, seval]) rfl rfl rfl
      · refine wk_id ?_
        refine chk_sx h (fun g2321 h => ?_)
        refine chk_sx h (fun g2323 h => ?_)
        refine seq_np ?_
        refine reg_t ?_
        have k2320 : 0 ≤ (ix tasks i7) ∧ (ix tasks i7) < ((c2q9.length : Nat) : Int) := by first | simpa only [Bool.and_eq_true, decide_eq_true_eq, bne_iff_ne, ne_eq] using g2321 | (simp at g2321 ⊢; omega)
        have k2322 : 0 ≤ (ix tasks i7) ∧ (ix tasks i7) < ((c2q9.length : Nat) : Int) := by first | simpa only [Bool.and_eq_true, decide_eq_true_eq, bne_iff_ne, ne_eq] using g2323 | (simp at g2323 ⊢; omega)
        refine rs 9 [none, none, none, none, some ⟨.ptr 2 (0 + ((ix tasks i7)).toNat * 1), [], 8, [2]⟩, some ⟨iS (ix c2q9 (ix tasks i7)), [], 9, [2]⟩, none, some ⟨.ptr 2 (0 + ((ix tasks i7)).toNat * 1), [], 11, [2]⟩, some ⟨.any, [(2, .row 3 (fl (c2q9.set (ix tasks i7).toNat (IntKind.i64.wrap ((ix c2q9 (ix tasks i7)) - 2)))))], 12, [2]⟩] _ (by kernel_rfl) (allP_cons (ob_st (P := Try.prog) c2q9 (ix tasks i7) 1 0 (0 + ((ix tasks i7)).toNat * 1) k2322 rfl [iS (IntKind.i64.wrap ((ix c2q9 (ix tasks i7)) - 2))] (IntKind.i64.wrap ((ix c2q9 (ix tasks i7)) - 2)) (Nat.le_of_ble_eq_true rfl) (by first | rfl | omega) rfl 2 12 3 3 (by kernel_rfl) rfl) (allP_cons (ob_ix_o 2 c2q9.length 0 1 11 (ix tasks i7) k2322) (allP_cons (ob_ld c2q9 (ix tasks i7) 1 0 (0 + ((ix tasks i7)).toNat * 1) k2320 rfl (by decide) (by first | rfl | omega) (dflS Try.prog 3) (iS (ix c2q9 (ix tasks i7))) rfl 9 [2]) (allP_cons (ob_ix_o 2 c2q9.length 0 1 8 (ix tasks i7) k2320) allP_nil)))) ?_
        refine rt [(0, .sl tasks.length (fl tasks)), (1, .ptr 0 0), (2, .ptr 1 0), (3, .ptr 3 0), (6, iS i7), (7, iS (ix tasks i7))] [(0, .row 26 [.sl c0.length (fl c0)]), (1, .row 26 [.own 2 0 c2q9.length]), (2, .row 3 (fl (c2q9.set (ix tasks i7).toNat (IntKind.i64.wrap ((ix c2q9 (ix tasks i7)) - 2))))), (3, .row 3 [iS c3q9])] 13 follows (by kernel_rfl) ?_
        refine wk_id ?_
        refine reg_f ?_
        refine rs 2 [] [] (by kernel_rfl) allP_nil ?_
        refine rf [(0, .sl tasks.length (fl tasks)), (1, .ptr 0 0), (2, .ptr 1 0), (3, .ptr 3 0), (6, iS i7)] [(0, .row 26 [.sl c0.length (fl c0)]), (1, .row 26 [.own 2 0 c2q9.length]), (2, .row 3 (fl (c2q9.set (ix tasks i7).toNat (IntKind.i64.wrap ((ix c2q9 (ix tasks i7)) - 2))))), (3, .row 3 [iS (ix tasks i7)])] 13 (by kernel_rfl) ?_
        refine wk_id ?_
        refine wk_id ?_
        refine reg_f ?_
        refine rs 3 [] [] (by kernel_rfl) allP_nil ?_
        refine rf [(0, .sl tasks.length (fl tasks)), (1, .ptr 0 0), (2, .ptr 1 0), (3, .ptr 3 0), (6, iS (IntKind.i64.wrap (i7 + 1)))] [(0, .row 26 [.sl c0.length (fl c0)]), (1, .row 26 [.own 2 0 c2q9.length]), (2, .row 3 (fl (c2q9.set (ix tasks i7).toNat (IntKind.i64.wrap ((ix c2q9 (ix tasks i7)) - 2))))), (3, .row 3 [iS (ix tasks i7)])] 13 (by kernel_rfl) ?_
        exact hn2 ((IntKind.i64.wrap (i7 + 1)), (c2q9.set (ix tasks i7).toNat (IntKind.i64.wrap ((ix c2q9 (ix tasks i7)) - 2))), (ix tasks i7)) _ _ _ (Option.some.inj h).symm (leSt_m [(0, 0), (1, 1), (2, 2), (3, 3)] [] (by simp only [push_cast, seval]) (by simp only [push_cast, seval]) rfl rfl rfl)
  · change R2 (.exit 0) _ _ _
    refine ex_cast hx2 (id := 0) ?_
    obtain ⟨r0, h, e0⟩ := map_sx h
    have e1 := hr2 r0 e0.symm
    subst r0
    refine wk_id ?_
    refine wk_id ?_
    refine seq_np ?_
    refine reg_f ?_
    refine rs 1 [] [] (by kernel_rfl) allP_nil ?_
    refine rf [(5, bS true)] [(0, .row 26 [.sl c0.length (fl c0)]), (1, .row 26 [.own 2 0 c2q9.length]), (2, .row 3 (fl c2q9)), (3, .row 3 [iS c3q9])] 4 (by kernel_rfl) ?_
    refine wk_id ?_
    obtain rfl := Option.some.inj h
    refine ret_at (bS true) (by kernel_rfl) ?_
    exact ret_e [(0, 0), (1, 1), (2, 2), (3, 3)] [] (by simp only [push_cast, seval]) (by simp only [push_cast, seval]) rfl rfl rfl

end Go.Proofs.Ythknjjkldflbaaa
