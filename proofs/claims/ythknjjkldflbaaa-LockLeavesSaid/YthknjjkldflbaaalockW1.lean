/-
  What laws of the chapter lock compute, and lemmas on it.
  No conditions.
-/
import Derived.Test.YthknjjkldflbaaaProg
import Derived.Test.YthknjjkldflbaaalockG
set_option linter.unusedSimpArgs false
set_option linter.unusedVariables false
namespace Go.Proofs.Ythknjjkldflbaaa
open Go Go.Sx
attribute [local irreducible] Wk RunAt
theorem follows : Try.prog.follows .mixedOrders = true := by kernel_rfl

set_option maxRecDepth 100000 in
set_option maxHeartbeats 10000000 in
theorem lock_fault_spec (code : Int) (xat : Int) (r : Fault) (h : lock_fault code xat = some r) : SpecW Try.prog 29 [iS code, iS xat] [] 0 (fun x h n => x = .agg (Enc.cells r) ∧ h = [] ∧ n = 0) := by
  unfold lock_fault at h
  refine spec_of (draw_ok _) Try.func29 rfl (by decide) rfl (by kernel_rfl) ?_
  refine seq_np ?_
  refine reg_f ?_
  refine rs 1 [] [] (by kernel_rfl) allP_nil ?_
  refine rf [(0, iS code), (1, iS xat), (4, .ptr 0 0)] [(0, .row 28 [iS 0, iS 0])] 1 (by kernel_rfl) ?_
  refine wk_id ?_
  refine seq_np ?_
  refine reg_f ?_
  refine rs 4 [] [] (by kernel_rfl) allP_nil ?_
  refine rf [(4, .ptr 0 0)] [(0, .row 28 [iS code, iS xat])] 1 (by kernel_rfl) ?_
  refine wk_id ?_
  obtain rfl := Option.some.inj h
  refine ret_at (.agg [iS code, iS xat]) (by kernel_rfl) ?_
  exact ret_e [] [] (by simp only [push_cast, seval]) (by simp only [push_cast, seval]) rfl rfl rfl

set_option maxRecDepth 100000 in
set_option maxHeartbeats 10000000 in
theorem lock_Check_spec (l : Lock) (r : Fault) (h : lock_Check l = some r) : SpecW Try.prog 20 [.agg (Enc.cells l)] [] 0 (fun x h n => x = .agg (Enc.cells r) ∧ h = [] ∧ n = 0) := by
  unfold lock_Check at h
  refine spec_of (draw_ok _) Try.func20 rfl (by decide) rfl (by kernel_rfl) ?_
  refine seq_np ?_
  refine reg_f ?_
  refine rs 2 [] [] (by kernel_rfl) allP_nil ?_
  refine rf [(1, .ptr 0 0), (2, .ptr 1 0)] [(0, .row 24 (Enc.cells l)), (1, .row 28 [iS 0, iS 0])] 2 (by kernel_rfl) ?_
  refine wk_id ?_
  refine seq_np ?_
  refine seq_np ?_
  refine reg_f ?_
  refine rs 4 [] [] (by kernel_rfl) allP_nil ?_
  refine rf [(1, .ptr 0 0), (2, .ptr 1 0), (9, bS (decide ((5000 : Int) < ((l.Line.length : Nat) : Int))))] [(0, .row 24 (Enc.cells l)), (1, .row 28 [iS 0, iS 0])] 2 (by kernel_rfl) ?_
  refine wk_id ?_
  refine cond_sx h (by kernel_rfl) (fun g215 h => ?_) (fun g215 h => ?_)
  · refine seq_np ?_
    refine reg_f ?_
    obtain ⟨r51, hr51, h⟩ := bind_sx h
    refine run_call 29 [iS 2, iS 0] (some 10) (by kernel_rfl) ?_
    refine call_0 (lock_fault_spec 2 0 r51 hr51) (by simp only [push_cast, seval]) (by simp only [push_cast, seval]) ?_
    refine back_f ?_
    refine rs 1 [] [] (by kernel_rfl) allP_nil ?_
    refine rf [(2, .ptr 1 0)] [(0, .row 24 (Enc.cells l)), (1, .row 28 (Enc.cells r51))] 2 (by kernel_rfl) ?_
    refine wk_id ?_
    obtain rfl := Option.some.inj h
    refine ret_at (.agg (Enc.cells r51)) (by kernel_rfl) ?_
    exact ret_e [] [] (by simp only [push_cast, seval]) (by simp only [push_cast, seval]) rfl rfl rfl
  · refine wk_id ?_
    refine seq_np ?_
    refine seq_cut (A := Unit) (fun _ => ([(1, .ptr 0 0), (2, .ptr 1 0), (18, bS ((decide (l.Readers < 0)) || (decide ((1000000000 : Int) < l.Readers))))], [(0, .row 24 (Enc.cells l)), (1, .row 28 [iS 0, iS 0])], 2)) (fun _ => True) (fun K56 hK56 => ?_) (fun _ _ => ?_)
    · refine reg_f ?_
      refine rs 4 [] [] (by kernel_rfl) allP_nil ?_
      refine run_split 14 (decide (l.Readers < 0)) (.inl (by kernel_rfl)) (fun g57 => ?_) (fun g57 => ?_)
      · refine rs 4 [] [] (by kernel_rfl) allP_nil ?_
        refine rf [(1, .ptr 0 0), (2, .ptr 1 0), (18, bS true)] [(0, .row 24 (Enc.cells l)), (1, .row 28 [iS 0, iS 0])] 2 (by kernel_rfl) ?_
        exact hK56 () _ _ _ trivial (leSt_m [(0, 0), (1, 1)] [] (by (try simp only [g57]) <;> simp only [push_cast, seval]) (by (try simp only [g57]) <;> simp only [push_cast, seval]) rfl rfl rfl)
      · refine rs 4 [] [] (by kernel_rfl) allP_nil ?_
        refine rf [(1, .ptr 0 0), (2, .ptr 1 0), (18, bS (decide ((1000000000 : Int) < l.Readers)))] [(0, .row 24 (Enc.cells l)), (1, .row 28 [iS 0, iS 0])] 2 (by kernel_rfl) ?_
        exact hK56 () _ _ _ trivial (leSt_m [(0, 0), (1, 1)] [] (by (try simp only [g57]) <;> simp only [push_cast, seval]) (by (try simp only [g57]) <;> simp only [push_cast, seval]) rfl rfl rfl)
    · dsimp only
      refine cond_sx h (by kernel_rfl) (fun g214 h => ?_) (fun g214 h => ?_)
      · refine seq_np ?_
        refine reg_f ?_
        obtain ⟨r59, hr59, h⟩ := bind_sx h
        refine run_call 29 [iS 3, iS 0] (some 19) (by kernel_rfl) ?_
        refine call_0 (lock_fault_spec 3 0 r59 hr59) (by simp only [push_cast, seval]) (by simp only [push_cast, seval]) ?_
        refine back_f ?_
        refine rs 1 [] [] (by kernel_rfl) allP_nil ?_
        refine rf [(2, .ptr 1 0)] [(0, .row 24 (Enc.cells l)), (1, .row 28 (Enc.cells r59))] 2 (by kernel_rfl) ?_
        refine wk_id ?_
        obtain rfl := Option.some.inj h
        refine ret_at (.agg (Enc.cells r59)) (by kernel_rfl) ?_
        exact ret_e [] [] (by simp only [push_cast, seval]) (by simp only [push_cast, seval]) rfl rfl rfl
      · refine wk_id ?_
        refine seq_np ?_
        refine chk_sx h (fun g93 h => ?_)
        refine chk_sx h (fun g98 h => ?_)
        refine seq_cut (A := Unit) (fun _ => ([(1, .ptr 0 0), (2, .ptr 1 0), (50, bS (bif l.Writer then ((decide ((0 : Int) < l.Readers)) || ((decide ((0 : Int) < ((l.Line.length : Nat) : Int))) && ((!l.Writer) && ((l.Readers == 0) || (!(ix l.Line (0 : Int)).Write))))) else ((decide ((0 : Int) < ((l.Line.length : Nat) : Int))) && ((!l.Writer) && ((l.Readers == 0) || (!(ix l.Line (0 : Int)).Write))))))], [(0, .row 24 (Enc.cells l)), (1, .row 28 [iS 0, iS 0])], 2)) (fun _ => True) (fun K86 hK86 => ?_) (fun _ _ => ?_)
        · refine reg_f ?_
          refine rs 3 [] [] (by kernel_rfl) allP_nil ?_
          refine run_split 22 l.Writer (.inl (by kernel_rfl)) (fun g87 => ?_) (fun g87 => ?_)
          · refine rs 5 [] [] (by kernel_rfl) allP_nil ?_
            refine run_split 27 (decide ((0 : Int) < l.Readers)) (.inl (by kernel_rfl)) (fun g88 => ?_) (fun g88 => ?_)
            · refine rs 23 [] [] (by kernel_rfl) allP_nil ?_
              refine rf [(1, .ptr 0 0), (2, .ptr 1 0), (50, bS true)] [(0, .row 24 (Enc.cells l)), (1, .row 28 [iS 0, iS 0])] 2 (by kernel_rfl) ?_
              exact hK86 () _ _ _ trivial (leSt_m [(0, 0), (1, 1)] [] (by first | ((try simp only [g87, g88]) <;> simp only [push_cast, seval]; done) | ((try simp only [g87]); (try simp only [g88]); simp only [push_cast, seval]; done) | (exfalso; clear h; simp_all; done)) (by first | ((try simp only [g87, g88]) <;> simp only [push_cast, seval]; done) | ((try simp only [g87]); (try simp only [g88]); simp only [push_cast, seval]; done) | (exfalso; clear h; simp_all; done)) rfl rfl rfl)
            · refine rs 5 [] [] (by kernel_rfl) allP_nil ?_
              refine run_split 32 (decide ((0 : Int) < ((l.Line.length : Nat) : Int))) (.inr (by kernel_rfl)) (fun g89 => ?_) (fun g89 => ?_)
              · refine rn 13 [(1, .ptr 0 0), (2, .ptr 1 0), (27, bS false), (32, .gd true (bS true))] [(0, .row 24 (Enc.cells l)), (1, .row 28 [iS 0, iS 0])] 2 (by kernel_rfl) ?_
                refine rs 5 [] [] (by kernel_rfl) allP_nil ?_
                refine run_split 37 (!l.Writer) (.inr (by kernel_rfl)) (fun g90 => ?_) (fun g90 => ?_)
                · refine rs 4 [] [] (by kernel_rfl) allP_nil ?_
                  refine run_split 41 (l.Readers == 0) (.inr (by kernel_rfl)) (fun g91 => ?_) (fun g91 => ?_)
                  · refine rs 9 [] [] (by kernel_rfl) allP_nil ?_
                    refine rf [(1, .ptr 0 0), (2, .ptr 1 0), (50, bS true)] [(0, .row 24 (Enc.cells l)), (1, .row 28 [iS 0, iS 0])] 2 (by kernel_rfl) ?_
                    exact hK86 () _ _ _ trivial (leSt_m [(0, 0), (1, 1)] [] (by first | ((try simp only [g87, g88, g89, g90, g91]) <;> simp only [push_cast, seval]; done) | ((try simp only [g87]); (try simp only [g88]); (try simp only [g89]); (try simp only [g90]); (try simp only [g91]); simp only [push_cast, seval]; done) | (exfalso; clear h; simp_all; done)) (by first | ((try simp only [g87, g88, g89, g90, g91]) <;> simp only [push_cast, seval]; done) | ((try simp only [g87]); (try simp only [g88]); (try simp only [g89]); (try simp only [g90]); (try simp only [g91]); simp only [push_cast, seval]; done) | (exfalso; clear h; simp_all; done)) rfl rfl rfl)
                  · have k92 : 0 ≤ (0 : Int) ∧ (0 : Int) < ((l.Line.length : Nat) : Int) := by have e := or_use g93 (by first | ((try simp only [g87, g88, g89, g90, g91]) <;> rfl) | ((try simp only [g87]); (try simp only [g88]); (try simp only [g89]); (try simp only [g90]); (try simp only [g91]); rfl) | (exfalso; clear h; simp_all; done)); first | simpa only [Bool.and_eq_true, decide_eq_true_eq, bne_iff_ne, ne_eq] using e | (simp at e ⊢; omega)
                    refine rs 9 [none, none, some ⟨.iptr (fl l.Line) (((0 : Int)).toNat * 3), [], 2, []⟩, none, some ⟨bS (ix l.Line (0 : Int)).Write, [], 2, []⟩] _ (by kernel_rfl) (allP_cons (ob_ld l.Line (0 : Int) 3 1 ((((0 : Int)).toNat * 3) + 1) k92 rfl (by decide) (by first | rfl | omega) (dflS Try.prog 4) (bS (ix l.Line (0 : Int)).Write) rfl 2 []) (allP_cons (ob_ix_l l.Line 3 2 0 k92) allP_nil)) ?_
                    refine rf [(1, .ptr 0 0), (2, .ptr 1 0), (50, bS (!(ix l.Line (0 : Int)).Write))] [(0, .row 24 (Enc.cells l)), (1, .row 28 [iS 0, iS 0])] 2 (by kernel_rfl) ?_
                    exact hK86 () _ _ _ trivial (leSt_m [(0, 0), (1, 1)] [] (by first | ((try simp only [g87, g88, g89, g90, g91]) <;> simp only [push_cast, seval]; done) | ((try simp only [g87]); (try simp only [g88]); (try simp only [g89]); (try simp only [g90]); (try simp only [g91]); simp only [push_cast, seval]; done) | (exfalso; clear h; simp_all; done)) (by first | ((try simp only [g87, g88, g89, g90, g91]) <;> simp only [push_cast, seval]; done) | ((try simp only [g87]); (try simp only [g88]); (try simp only [g89]); (try simp only [g90]); (try simp only [g91]); simp only [push_cast, seval]; done) | (exfalso; clear h; simp_all; done)) rfl rfl rfl)
                · refine rs 13 [] [] (by kernel_rfl) allP_nil ?_
                  refine rf [(1, .ptr 0 0), (2, .ptr 1 0), (50, bS false)] [(0, .row 24 (Enc.cells l)), (1, .row 28 [iS 0, iS 0])] 2 (by kernel_rfl) ?_
                  exact hK86 () _ _ _ trivial (leSt_m [(0, 0), (1, 1)] [] (by first | ((try simp only [g87, g88, g89, g90]) <;> simp only [push_cast, seval]; done) | ((try simp only [g87]); (try simp only [g88]); (try simp only [g89]); (try simp only [g90]); simp only [push_cast, seval]; done) | (exfalso; clear h; simp_all; done)) (by first | ((try simp only [g87, g88, g89, g90]) <;> simp only [push_cast, seval]; done) | ((try simp only [g87]); (try simp only [g88]); (try simp only [g89]); (try simp only [g90]); simp only [push_cast, seval]; done) | (exfalso; clear h; simp_all; done)) rfl rfl rfl)
              · refine rn 13 [(1, .ptr 0 0), (2, .ptr 1 0), (27, bS false), (32, .gd true (bS false))] [(0, .row 24 (Enc.cells l)), (1, .row 28 [iS 0, iS 0])] 2 (by kernel_rfl) ?_
                refine rs 18 [] [] (by kernel_rfl) allP_nil ?_
                refine rf [(1, .ptr 0 0), (2, .ptr 1 0), (50, bS false)] [(0, .row 24 (Enc.cells l)), (1, .row 28 [iS 0, iS 0])] 2 (by kernel_rfl) ?_
                exact hK86 () _ _ _ trivial (leSt_m [(0, 0), (1, 1)] [] (by first | ((try simp only [g87, g88, g89]) <;> simp only [push_cast, seval]; done) | ((try simp only [g87]); (try simp only [g88]); (try simp only [g89]); simp only [push_cast, seval]; done) | (exfalso; clear h; simp_all; done)) (by first | ((try simp only [g87, g88, g89]) <;> simp only [push_cast, seval]; done) | ((try simp only [g87]); (try simp only [g88]); (try simp only [g89]); simp only [push_cast, seval]; done) | (exfalso; clear h; simp_all; done)) rfl rfl rfl)
          · refine rs 10 [] [] (by kernel_rfl) allP_nil ?_
            refine run_split 32 (decide ((0 : Int) < ((l.Line.length : Nat) : Int))) (.inr (by kernel_rfl)) (fun g94 => ?_) (fun g94 => ?_)
            · refine rs 5 [] [] (by kernel_rfl) allP_nil ?_
              refine run_split 37 (!l.Writer) (.inr (by kernel_rfl)) (fun g95 => ?_) (fun g95 => ?_)
              · refine rn 18 [(1, .ptr 0 0), (2, .ptr 1 0), (27, bS false), (37, .gd true (bS true))] [(0, .row 24 (Enc.cells l)), (1, .row 28 [iS 0, iS 0])] 2 (by kernel_rfl) ?_
                refine rs 4 [] [] (by kernel_rfl) allP_nil ?_
                refine run_split 41 (l.Readers == 0) (.inr (by kernel_rfl)) (fun g96 => ?_) (fun g96 => ?_)
                · refine rs 9 [] [] (by kernel_rfl) allP_nil ?_
                  refine rf [(1, .ptr 0 0), (2, .ptr 1 0), (50, bS true)] [(0, .row 24 (Enc.cells l)), (1, .row 28 [iS 0, iS 0])] 2 (by kernel_rfl) ?_
                  exact hK86 () _ _ _ trivial (leSt_m [(0, 0), (1, 1)] [] (by first | ((try simp only [g87, g94, g95, g96]) <;> simp only [push_cast, seval]; done) | ((try simp only [g87]); (try simp only [g94]); (try simp only [g95]); (try simp only [g96]); simp only [push_cast, seval]; done) | (exfalso; clear h; simp_all; done)) (by first | ((try simp only [g87, g94, g95, g96]) <;> simp only [push_cast, seval]; done) | ((try simp only [g87]); (try simp only [g94]); (try simp only [g95]); (try simp only [g96]); simp only [push_cast, seval]; done) | (exfalso; clear h; simp_all; done)) rfl rfl rfl)
                · have k97 : 0 ≤ (0 : Int) ∧ (0 : Int) < ((l.Line.length : Nat) : Int) := by have e := or_use g98 (by first | ((try simp only [g87, g94, g95, g96]) <;> rfl) | ((try simp only [g87]); (try simp only [g94]); (try simp only [g95]); (try simp only [g96]); rfl) | (exfalso; clear h; simp_all; done)); first | simpa only [Bool.and_eq_true, decide_eq_true_eq, bne_iff_ne, ne_eq] using e | (simp at e ⊢; omega)
                  refine rs 9 [none, none, some ⟨.iptr (fl l.Line) (((0 : Int)).toNat * 3), [], 2, []⟩, none, some ⟨bS (ix l.Line (0 : Int)).Write, [], 2, []⟩] _ (by kernel_rfl) (allP_cons (ob_ld l.Line (0 : Int) 3 1 ((((0 : Int)).toNat * 3) + 1) k97 rfl (by decide) (by first | rfl | omega) (dflS Try.prog 4) (bS (ix l.Line (0 : Int)).Write) rfl 2 []) (allP_cons (ob_ix_l l.Line 3 2 0 k97) allP_nil)) ?_
                  refine rf [(1, .ptr 0 0), (2, .ptr 1 0), (50, bS (!(ix l.Line (0 : Int)).Write))] [(0, .row 24 (Enc.cells l)), (1, .row 28 [iS 0, iS 0])] 2 (by kernel_rfl) ?_
                  exact hK86 () _ _ _ trivial (leSt_m [(0, 0), (1, 1)] [] (by first | ((try simp only [g87, g94, g95, g96]) <;> simp only [push_cast, seval]; done) | ((try simp only [g87]); (try simp only [g94]); (try simp only [g95]); (try simp only [g96]); simp only [push_cast, seval]; done) | (exfalso; clear h; simp_all; done)) (by first | ((try simp only [g87, g94, g95, g96]) <;> simp only [push_cast, seval]; done) | ((try simp only [g87]); (try simp only [g94]); (try simp only [g95]); (try simp only [g96]); simp only [push_cast, seval]; done) | (exfalso; clear h; simp_all; done)) rfl rfl rfl)
              · refine rn 18 [(1, .ptr 0 0), (2, .ptr 1 0), (27, bS false), (37, .gd true (bS false))] [(0, .row 24 (Enc.cells l)), (1, .row 28 [iS 0, iS 0])] 2 (by kernel_rfl) ?_
                refine rs 13 [] [] (by kernel_rfl) allP_nil ?_
                refine rf [(1, .ptr 0 0), (2, .ptr 1 0), (50, bS false)] [(0, .row 24 (Enc.cells l)), (1, .row 28 [iS 0, iS 0])] 2 (by kernel_rfl) ?_
                exact hK86 () _ _ _ trivial (leSt_m [(0, 0), (1, 1)] [] (by first | ((try simp only [g87, g94, g95]) <;> simp only [push_cast, seval]; done) | ((try simp only [g87]); (try simp only [g94]); (try simp only [g95]); simp only [push_cast, seval]; done) | (exfalso; clear h; simp_all; done)) (by first | ((try simp only [g87, g94, g95]) <;> simp only [push_cast, seval]; done) | ((try simp only [g87]); (try simp only [g94]); (try simp only [g95]); simp only [push_cast, seval]; done) | (exfalso; clear h; simp_all; done)) rfl rfl rfl)
            · refine rs 18 [] [] (by kernel_rfl) allP_nil ?_
              refine rf [(1, .ptr 0 0), (2, .ptr 1 0), (50, bS false)] [(0, .row 24 (Enc.cells l)), (1, .row 28 [iS 0, iS 0])] 2 (by kernel_rfl) ?_
              exact hK86 () _ _ _ trivial (leSt_m [(0, 0), (1, 1)] [] (by first | ((try simp only [g87, g94]) <;> simp only [push_cast, seval]; done) | ((try simp only [g87]); (try simp only [g94]); simp only [push_cast, seval]; done) | (exfalso; clear h; simp_all; done)) (by first | ((try simp only [g87, g94]) <;> simp only [push_cast, seval]; done) | ((try simp only [g87]); (try simp only [g94]); simp only [push_cast, seval]; done) | (exfalso; clear h; simp_all; done)) rfl rfl rfl)
        · dsimp only
          refine cond_sx h (by kernel_rfl) (fun g213 h => ?_) (fun g213 h => ?_)
          · refine seq_np ?_
            refine reg_f ?_
            obtain ⟨r100, hr100, h⟩ := bind_sx h
            refine run_call 29 [iS 5, iS 0] (some 51) (by kernel_rfl) ?_
            refine call_0 (lock_fault_spec 5 0 r100 hr100) (by simp only [push_cast, seval]) (by simp only [push_cast, seval]) ?_
            refine back_f ?_
            refine rs 1 [] [] (by kernel_rfl) allP_nil ?_
            refine rf [(2, .ptr 1 0)] [(0, .row 24 (Enc.cells l)), (1, .row 28 (Enc.cells r100))] 2 (by kernel_rfl) ?_
            refine wk_id ?_
            obtain rfl := Option.some.inj h
            refine ret_at (.agg (Enc.cells r100)) (by kernel_rfl) ?_
            exact ret_e [] [] (by simp only [push_cast, seval]) (by simp only [push_cast, seval]) rfl rfl rfl
          · refine wk_id ?_
            refine seq_np ?_
            refine reg_f ?_
            refine rs 2 [] [] (by kernel_rfl) allP_nil ?_
            refine rf [(1, .ptr 0 0), (2, .ptr 1 0), (3, .mp 2)] [(0, .row 24 (Enc.cells l)), (1, .row 28 [iS 0, iS 0]), (2, .map (mi []))] 3 (by kernel_rfl) ?_
            refine wk_id ?_
            refine seq_np ?_
            refine seq_np ?_
            refine reg_f ?_
            refine rs 4 [] [] (by kernel_rfl) allP_nil ?_
            refine rf [(2, .ptr 1 0), (3, .mp 2), (54, .sl l.Line.length (fl l.Line)), (55, iS ((l.Line.length : Nat) : Int)), (56, iS 0)] [(0, .row 24 (Enc.cells l)), (1, .row 28 [iS 0, iS 0]), (2, .map (mi []))] 3 (by kernel_rfl) ?_
            refine wk_id ?_
            refine block_np ?_
            refine loop_sx (S := Int × (List (Int × Int))) (fun a => ([(2, .ptr 0 0), (3, .mp 1), (54, .sl l.Line.length (fl l.Line)), (55, iS ((l.Line.length : Nat) : Int)), (56, iS a.1)], [(0, .row 28 [iS 0, iS 0]), (1, .map (mi a.2))], 2)) h (leSt_m [(0, 1), (1, 2)] [] (by simp only [push_cast, seval]) (by simp only [push_cast, seval]) rfl rfl rfl) ?_
            rintro ⟨t56q7, c1q7⟩ o2 R2 h hr2 hn2 hx2 ht2
            try dsimp only at h hn2 ⊢
            unfold lock_Check_l1 at h
            try dsimp only at h
            refine seq_np ?_
            refine reg_f ?_
            refine rs 1 [] [] (by kernel_rfl) allP_nil ?_
            refine rf [(2, .ptr 0 0), (3, .mp 1), (54, .sl l.Line.length (fl l.Line)), (55, iS ((l.Line.length : Nat) : Int)), (56, iS t56q7), (57, bS (decide (t56q7 < ((l.Line.length : Nat) : Int))))] [(0, .row 28 [iS 0, iS 0]), (1, .map (mi c1q7))] 2 (by kernel_rfl) ?_
            refine wk_id ?_
            refine seq_np ?_
            refine cond_sx h (by kernel_rfl) (fun g212 h => ?_) (fun g212 h => ?_)
            · refine wk_id ?_
              refine seq_np ?_
              refine block_np ?_
              refine chk_sx h (fun g196 h => ?_)
              refine seq_np ?_
              refine reg_f ?_
              have k195 : 0 ≤ t56q7 ∧ t56q7 < ((l.Line.length : Nat) : Int) := by first | simpa only [Bool.and_eq_true, decide_eq_true_eq, bne_iff_ne, ne_eq] using g196 | (simp at g196 ⊢; omega)
              refine rs 6 [none, some ⟨.iptr (fl l.Line) ((t56q7).toNat * 3), [], 2, []⟩, some ⟨.agg (Enc.cells (ix l.Line t56q7)), [], 2, []⟩] _ (by kernel_rfl) (allP_cons (ob_ldw l.Line t56q7 3 ((t56q7).toNat * 3) k195 rfl (by first | rfl | omega) [iS (ix l.Line t56q7).Task, bS (ix l.Line t56q7).Write, iS (ix l.Line t56q7).N] rfl 2 []) (allP_cons (ob_ix_l l.Line 3 2 t56q7 k195) allP_nil)) ?_
              refine rf [(2, .ptr 0 0), (3, .mp 1), (4, iS t56q7), (5, .ptr 2 0), (54, .sl l.Line.length (fl l.Line)), (55, iS ((l.Line.length : Nat) : Int)), (56, iS t56q7)] [(0, .row 28 [iS 0, iS 0]), (1, .map (mi c1q7)), (2, .row 47 (Enc.cells (ix l.Line t56q7)))] 3 (by kernel_rfl) ?_
              refine wk_id ?_
              refine seq_np ?_
              refine seq_np ?_
              refine reg_f ?_
              refine rs 3 [] [] (by kernel_rfl) allP_nil ?_
              refine rf [(2, .ptr 0 0), (3, .mp 1), (4, iS t56q7), (5, .ptr 2 0), (54, .sl l.Line.length (fl l.Line)), (55, iS ((l.Line.length : Nat) : Int)), (56, iS t56q7), (63, bS (decide ((ix l.Line t56q7).Task < 1)))] [(0, .row 28 [iS 0, iS 0]), (1, .map (mi c1q7)), (2, .row 47 (Enc.cells (ix l.Line t56q7)))] 3 (by kernel_rfl) ?_
              refine wk_id ?_
              refine cond_sx h (by kernel_rfl) (fun g211 h => ?_) (fun g211 h => ?_)
              · refine seq_np ?_
                refine reg_f ?_
                refine rs 2 [] [] (by kernel_rfl) allP_nil ?_
                obtain ⟨r200, hr200, h⟩ := bind_sx h
                refine run_call 29 [iS 3, iS (IntKind.i64.wrap (t56q7 + 1))] (some 66) (by kernel_rfl) ?_
                refine call_0 (lock_fault_spec 3 (IntKind.i64.wrap (t56q7 + 1)) r200 hr200) (by simp only [push_cast, seval]) (by simp only [push_cast, seval]) ?_
                refine back_f ?_
                refine rs 1 [] [] (by kernel_rfl) allP_nil ?_
                refine rf [(2, .ptr 0 0)] [(0, .row 28 (Enc.cells r200)), (1, .map (mi c1q7)), (2, .row 47 (Enc.cells (ix l.Line t56q7)))] 3 (by kernel_rfl) ?_
                refine wk_id ?_
                refine rt_cast ht2 ?_
                obtain ⟨r0, h, e0⟩ := map_sx h
                have e1 := hr2 r0 e0.symm
                subst r0
                obtain rfl := Option.some.inj h
                refine ret_at (.agg (Enc.cells r200)) (by kernel_rfl) ?_
                exact ret_e [] [] (by simp only [push_cast, seval]) (by simp only [push_cast, seval]) rfl rfl rfl
              · refine wk_id ?_
                refine seq_np ?_
                refine seq_np ?_
                refine reg_f ?_
                refine rs 5 [none, none, none, some ⟨iS (miGet c1q7 (ix l.Line t56q7).Task), [], 3, [1]⟩] _ (by kernel_rfl) (allP_cons (ob_look (.int .i64) rfl (ix l.Line t56q7).Task c1q7 1 3) allP_nil) ?_
                refine rf [(2, .ptr 0 0), (3, .mp 1), (4, iS t56q7), (5, .ptr 2 0), (54, .sl l.Line.length (fl l.Line)), (55, iS ((l.Line.length : Nat) : Int)), (56, iS t56q7), (71, bS (decide ((0 : Int) < (miGet c1q7 (ix l.Line t56q7).Task))))] [(0, .row 28 [iS 0, iS 0]), (1, .map (mi c1q7)), (2, .row 47 (Enc.cells (ix l.Line t56q7)))] 3 (by kernel_rfl) ?_
                refine wk_id ?_
                refine cond_sx h (by kernel_rfl) (fun g210 h => ?_) (fun g210 h => ?_)
                · refine seq_np ?_
                  refine reg_f ?_
                  refine rs 2 [] [] (by kernel_rfl) allP_nil ?_
                  obtain ⟨r204, hr204, h⟩ := bind_sx h
                  refine run_call 29 [iS 10, iS (IntKind.i64.wrap (t56q7 + 1))] (some 74) (by kernel_rfl) ?_
                  refine call_0 (lock_fault_spec 10 (IntKind.i64.wrap (t56q7 + 1)) r204 hr204) (by simp only [push_cast, seval]) (by simp only [push_cast, seval]) ?_
                  refine back_f ?_
                  refine rs 1 [] [] (by kernel_rfl) allP_nil ?_
                  refine rf [(2, .ptr 0 0)] [(0, .row 28 (Enc.cells r204)), (1, .map (mi c1q7)), (2, .row 47 (Enc.cells (ix l.Line t56q7)))] 3 (by kernel_rfl) ?_
                  refine wk_id ?_
                  refine rt_cast ht2 ?_
                  obtain ⟨r0, h, e0⟩ := map_sx h
                  have e1 := hr2 r0 e0.symm
                  subst r0
                  obtain rfl := Option.some.inj h
                  refine ret_at (.agg (Enc.cells r204)) (by kernel_rfl) ?_
                  exact ret_e [] [] (by simp only [push_cast, seval]) (by simp only [push_cast, seval]) rfl rfl rfl
                · refine wk_id ?_
                  refine seq_np ?_
                  refine seq_np ?_
                  refine reg_f ?_
                  refine rs 3 [] [] (by kernel_rfl) allP_nil ?_
                  refine rf [(2, .ptr 0 0), (3, .mp 1), (4, iS t56q7), (5, .ptr 2 0), (54, .sl l.Line.length (fl l.Line)), (55, iS ((l.Line.length : Nat) : Int)), (56, iS t56q7), (77, bS ((ix l.Line t56q7).N != 0))] [(0, .row 28 [iS 0, iS 0]), (1, .map (mi c1q7)), (2, .row 47 (Enc.cells (ix l.Line t56q7)))] 3 (by kernel_rfl) ?_
                  refine wk_id ?_
                  refine cond_sx h (by kernel_rfl) (fun g209 h => ?_) (fun g209 h => ?_)
                  · refine seq_np ?_
                    refine reg_f ?_
                    refine rs 2 [] [] (by kernel_rfl) allP_nil ?_
                    obtain ⟨r208, hr208, h⟩ := bind_sx h
                    refine run_call 29 [iS 5, iS (IntKind.i64.wrap (t56q7 + 1))] (some 80) (by kernel_rfl) ?_
                    refine call_0 (lock_fault_spec 5 (IntKind.i64.wrap (t56q7 + 1)) r208 hr208) (by simp only [push_cast, seval]) (by simp only [push_cast, seval]) ?_
                    refine back_f ?_
                    refine rs 1 [] [] (by kernel_rfl) allP_nil ?_
                    refine rf [(2, .ptr 0 0)] [(0, .row 28 (Enc.cells r208)), (1, .map (mi c1q7)), (2, .row 47 (Enc.cells (ix l.Line t56q7)))] 3 (by kernel_rfl) ?_
                    refine wk_id ?_
                    refine rt_cast ht2 ?_
                    obtain ⟨r0, h, e0⟩ := map_sx h
                    have e1 := hr2 r0 e0.symm
                    subst r0
                    obtain rfl := Option.some.inj h
                    refine ret_at (.agg (Enc.cells r208)) (by kernel_rfl) ?_
                    exact ret_e [] [] (by simp only [push_cast, seval]) (by simp only [push_cast, seval]) rfl rfl rfl
                  · refine wk_id ?_
                    refine reg_f ?_
                    refine rs 4 [none, none, none, some ⟨.any, [(1, .map (mi (miSet c1q7 (ix l.Line t56q7).Task 1)))], 3, [1]⟩] _ (by kernel_rfl) (allP_cons (ob_mset (.int .i64) rfl (ix l.Line t56q7).Task 1 c1q7 1 3) allP_nil) ?_
                    refine rf [(2, .ptr 0 0), (3, .mp 1), (54, .sl l.Line.length (fl l.Line)), (55, iS ((l.Line.length : Nat) : Int)), (56, iS t56q7)] [(0, .row 28 [iS 0, iS 0]), (1, .map (mi (miSet c1q7 (ix l.Line t56q7).Task 1))), (2, .row 47 (Enc.cells (ix l.Line t56q7)))] 3 (by kernel_rfl) ?_
                    refine wk_id ?_
                    refine wk_id ?_
                    refine reg_f ?_
                    refine rs 2 [] [] (by kernel_rfl) allP_nil ?_
                    refine rf [(2, .ptr 0 0), (3, .mp 1), (54, .sl l.Line.length (fl l.Line)), (55, iS ((l.Line.length : Nat) : Int)), (56, iS (IntKind.i64.wrap (t56q7 + 1)))] [(0, .row 28 [iS 0, iS 0]), (1, .map (mi (miSet c1q7 (ix l.Line t56q7).Task 1))), (2, .row 47 (Enc.cells (ix l.Line t56q7)))] 3 (by kernel_rfl) ?_
                    exact hn2 ((IntKind.i64.wrap (t56q7 + 1)), (miSet c1q7 (ix l.Line t56q7).Task 1)) _ _ _ (Option.some.inj h).symm (leSt_m [(0, 0), (1, 1)] [] (by simp only [push_cast, seval]) (by simp only [push_cast, seval]) rfl rfl rfl)
            · change R2 (.exit 0) _ _ _
              refine ex_cast hx2 (id := 0) ?_
              obtain ⟨r0, h, e0⟩ := map_sx h
              have e1 := hr2 r0 e0.symm
              subst r0
              refine wk_id ?_
              refine wk_id ?_
              refine seq_np ?_
              refine reg_f ?_
              refine rs 2 [] [] (by kernel_rfl) allP_nil ?_
              refine rf [(2, .ptr 0 0)] [(0, .row 28 [iS 0, iS 0]), (1, .map (mi c1q7))] 2 (by kernel_rfl) ?_
              refine wk_id ?_
              obtain rfl := Option.some.inj h
              refine ret_at (.agg [iS 0, iS 0]) (by kernel_rfl) ?_
              exact ret_e [] [] (by simp only [push_cast, seval]) (by simp only [push_cast, seval]) rfl rfl rfl

set_option maxRecDepth 100000 in
set_option maxHeartbeats 10000000 in
theorem slices_Clone_Want_spec (s : (List Want)) (r : (List Want)) (h : slices_Clone_Want s = some r) : SpecW Try.prog 35 [.sl s.length (fl s)] [] 0 (fun x h n => x = .own 0 0 r.length ∧ h = [(0, .row 47 (fl r))] ∧ n = 1) := by
  unfold slices_Clone_Want at h
  refine spec_of (draw_ok _) Try.func35 rfl (by decide) rfl (by kernel_rfl) ?_
  refine seq_np ?_
  refine reg_f ?_
  refine rs 1 [] [] (by kernel_rfl) allP_nil ?_
  refine rf [(0, .sl s.length (fl s))] [] 0 (by kernel_rfl) ?_
  refine wk_id ?_
  refine seq_np ?_
  refine seq_np ?_
  refine reg_f ?_
  refine rs 1 [] [] (by kernel_rfl) allP_nil ?_
  refine run_nil s.length (some 4) (by kernel_rfl) (fun g228 => ?_) ?_
  · obtain rfl : s = [] := List.eq_nil_of_length_eq_zero g228
    replace h : (some ([])) = some r := by simpa using h
    refine rf [(0, .sl ([] : List Want).length (fl ([] : List Want))), (4, bS true)] [] 0 (by kernel_rfl) ?_
    refine wk_id ?_
    refine cond_t (by kernel_rfl) ?_
    refine seq_np ?_
    refine reg_f ?_
    refine rs 1 [] [] (by kernel_rfl) allP_nil ?_
    refine rf [(2, .v (.slice none 0 0))] [] 0 (by kernel_rfl) ?_
    refine wk_id ?_
    obtain rfl := Option.some.inj h
    refine ret_at (.v (.slice none 0 0)) (by kernel_rfl) ?_
    exact ret_e [] [] (by simp only [push_cast, seval]) (by simp only [push_cast, seval]) rfl rfl rfl
  · refine rf [(0, .sl s.length (fl s)), (4, bS false)] [] 0 (by kernel_rfl) ?_
    refine wk_id ?_
    refine cond_f (by kernel_rfl) ?_
    refine wk_id ?_
    refine chk_sx h (fun g227 h => ?_)
    refine seq_np ?_
    refine reg_f ?_
    refine run_mk0 Want (some 5) 47 (by kernel_rfl) ?_
    have k226 : (([] : List Want) ++ s).length * 24 ≤ 140737488355328 := by first | simpa only [Bool.and_eq_true, decide_eq_true_eq, bne_iff_ne, ne_eq] using g227 | (simp at g227 ⊢; omega)
    refine rs 3 [none, some ⟨.own 1 0 (([] : List Want) ++ s).length, [(1, .row 47 (fl (([] : List Want) ++ s))), (0, .dead)], 2, [0]⟩] _ (by kernel_rfl) (allP_cons (ob_app (P := Try.prog) ([] : List Want) s 3 24 rfl (fl s) s.length rfl rfl ((fl s).length = s.length * 3) (app_sl s 3 rfl) 47 (by kernel_rfl) (by decide) k226 0 1 []) allP_nil) ?_
    refine rf [(2, .own 1 0 (([] : List Want) ++ s).length)] [(0, .dead), (1, .row 47 (fl (([] : List Want) ++ s)))] 2 (by kernel_rfl) ?_
    refine wk_id ?_
    obtain rfl := Option.some.inj h
    refine ret_at (.own 1 0 (([] : List Want) ++ s).length) (by kernel_rfl) ?_
    exact ret_e [(0, 1)] [] (by simp only [push_cast, seval]) (by simp only [push_cast, seval]) rfl rfl rfl

set_option maxRecDepth 100000 in
set_option maxHeartbeats 10000000 in
theorem lock_copied_spec (l : Lock) (r : Int × Bool × (List Want)) (h : lock_copied l = some r) : SpecW Try.prog 25 [.agg (Enc.cells l)] [] 0 (fun x h n => x = .ptr 0 0 ∧ h = [(0, .row 24 [iS r.1, bS r.2.1, .own 1 0 r.2.2.length]), (1, .row 47 (fl r.2.2))] ∧ n = 2) := by
  unfold lock_copied at h
  refine spec_of (draw_ok _) Try.func25 rfl (by decide) rfl (by kernel_rfl) ?_
  refine seq_np ?_
  refine reg_f ?_
  refine rs 2 [] [] (by kernel_rfl) allP_nil ?_
  refine rf [(1, .ptr 0 0)] [(0, .row 24 (Enc.cells l))] 1 (by kernel_rfl) ?_
  refine wk_id ?_
  refine seq_np ?_
  refine reg_t ?_
  refine rs 6 [] [] (by kernel_rfl) allP_nil ?_
  obtain ⟨r231, hr231, h⟩ := bind_sx h
  refine call_x (slices_Clone_Want_spec l.Line r231 hr231) (args := [.sl l.Line.length (fl l.Line)]) (dst := (some 9)) (by kernel_rfl) [(0, .row 24 (Enc.cells l))] 7 (by kernel_rfl) [] [] (.own 7 0 r231.length) [(7, .row 47 (fl r231))] (by simp only [push_cast, seval]) (by simp only [push_cast, seval]) (by kernel_rfl) (.inl rfl) (by simp only [push_cast, seval]) (by simp only [push_cast, seval]) ?_
  refine rs 3 [] [] (by kernel_rfl) allP_nil ?_
  refine rt [(2, .ptr 10 0)] [(0, .row 24 (Enc.cells l)), (7, .row 47 (fl r231)), (10, .row 24 [iS l.Readers, bS l.Writer, .own 7 0 r231.length])] 13 follows (by kernel_rfl) ?_
  refine wk_id ?_
  obtain rfl := Option.some.inj h
  refine ret_at (.ptr 10 0) (by kernel_rfl) ?_
  exact ret_e [(0, 10), (1, 7)] [] (by simp only [push_cast, seval]) (by simp only [push_cast, seval]) rfl rfl rfl

set_option maxRecDepth 100000 in
set_option maxHeartbeats 10000000 in
theorem lock_admit_spec (c0_Readers : Int) (c0_Writer : Bool) (c1 : (List Want)) (r : (List Int) × Int × Bool × (List Want)) (h : lock_admit c0_Readers c0_Writer c1 = some r) : SpecW Try.prog 26 [.ptr 0 0] [(0, .row 24 [iS c0_Readers, bS c0_Writer, .own 1 0 c1.length]), (1, .row 47 (fl c1))] 2 (fun x h n => x = .own 2 0 r.1.length ∧ h = [(0, .row 24 [iS r.2.1, bS r.2.2.1, .own 3 0 r.2.2.2.length]), (1, .dead), (2, .row 3 (fl r.1)), (3, .row 47 (fl r.2.2.2))] ∧ n = 4) := by
  unfold lock_admit at h
  refine spec_of (draw_ok _) Try.func26 rfl (by decide) rfl (by kernel_rfl) ?_
  refine seq_np ?_
  refine reg_f ?_
  refine rs 1 [] [] (by kernel_rfl) allP_nil ?_
  refine rf [(0, .ptr 0 0)] [(0, .row 24 [iS c0_Readers, bS c0_Writer, .own 1 0 c1.length]), (1, .row 47 (fl c1))] 2 (by kernel_rfl) ?_
  refine wk_id ?_
  refine seq_np ?_
  refine reg_f ?_
  refine rs 1 [] [] (by kernel_rfl) allP_nil ?_
  refine rf [(0, .ptr 0 0), (3, .v (.slice none 0 0))] [(0, .row 24 [iS c0_Readers, bS c0_Writer, .own 1 0 c1.length]), (1, .row 47 (fl c1))] 2 (by kernel_rfl) ?_
  refine wk_id ?_
  refine seq_np ?_
  refine block_cut (A := (List Int) × Int × Bool × (List Want)) (fun a => ([(3, .own 2 0 a.1.length)], [(0, .row 24 [iS a.2.1, bS a.2.2.1, .own 3 0 a.2.2.2.length]), (1, .dead), (2, .row 3 (fl a.1)), (3, .row 47 (fl a.2.2.2))], 4)) (fun a => (lock_admit_j1 a.1 a.2.1 a.2.2.1 a.2.2.2) = some r) (fun K363 hK363 => ?_) ?_
  · refine loop_sx (S := Int × Bool × (List Int) × (List Want)) (fun a => ([(0, .ptr 0 0), (3, .own 2 0 a.2.2.1.length)], [(0, .row 24 [iS a.1, bS a.2.1, .own 3 0 a.2.2.2.length]), (1, .dead), (2, .row 3 (fl a.2.2.1)), (3, .row 47 (fl a.2.2.2))], 4)) h (leSt_m [(0, 0), (3, 1)] [] (by simp only [push_cast, seval]) (by simp only [push_cast, seval]) rfl rfl rfl) ?_
    rintro ⟨c0_Readers23, c0_Writer12, c2q11, c3q11⟩ o2 R2 h hr2 hn2 hx2 ht2
    try dsimp only at h hn2 ⊢
    unfold lock_admit_l1 at h
    try dsimp only at h
    refine seq_np ?_
    refine seq_cut (A := Unit) (fun _ => ([(0, .ptr 0 0), (3, .own 2 0 c2q11.length), (17, bS ((decide ((0 : Int) < ((c3q11.length : Nat) : Int))) && (!c0_Writer12)))], [(0, .row 24 [iS c0_Readers23, bS c0_Writer12, .own 3 0 c3q11.length]), (2, .row 3 (fl c2q11)), (3, .row 47 (fl c3q11))], 4)) (fun _ => True) (fun K394 hK394 => ?_) (fun _ _ => ?_)
    · refine reg_f ?_
      refine rs 7 [] [] (by kernel_rfl) allP_nil ?_
      refine run_split 11 (decide ((0 : Int) < ((c3q11.length : Nat) : Int))) (.inl (by kernel_rfl)) (fun g395 => ?_) (fun g395 => ?_)
      · refine rs 6 [] [] (by kernel_rfl) allP_nil ?_
        refine rf [(0, .ptr 0 0), (3, .own 2 0 c2q11.length), (17, bS (!c0_Writer12))] [(0, .row 24 [iS c0_Readers23, bS c0_Writer12, .own 3 0 c3q11.length]), (1, .dead), (2, .row 3 (fl c2q11)), (3, .row 47 (fl c3q11))] 4 (by kernel_rfl) ?_
        exact hK394 () _ _ _ trivial (leSt_m [(0, 0), (2, 2), (3, 3)] [] (by (try simp only [g395]) <;> simp only [push_cast, seval]) (by (try simp only [g395]) <;> simp only [push_cast, seval]) rfl rfl rfl)
      · refine rs 6 [] [] (by kernel_rfl) allP_nil ?_
        refine rf [(0, .ptr 0 0), (3, .own 2 0 c2q11.length), (17, bS false)] [(0, .row 24 [iS c0_Readers23, bS c0_Writer12, .own 3 0 c3q11.length]), (1, .dead), (2, .row 3 (fl c2q11)), (3, .row 47 (fl c3q11))] 4 (by kernel_rfl) ?_
        exact hK394 () _ _ _ trivial (leSt_m [(0, 0), (2, 2), (3, 3)] [] (by (try simp only [g395]) <;> simp only [push_cast, seval]) (by (try simp only [g395]) <;> simp only [push_cast, seval]) rfl rfl rfl)
    · dsimp only
      refine cond_sx h (by kernel_rfl) (fun g415 h => ?_) (fun g415 h => ?_)
      · refine wk_id ?_
        refine block_np ?_
        refine chk_sx h (fun g399 h => ?_)
        refine seq_np ?_
        refine reg_f ?_
        have k398 : 0 ≤ (0 : Int) ∧ (0 : Int) < ((c3q11.length : Nat) : Int) := by first | simpa only [Bool.and_eq_true, decide_eq_true_eq, bne_iff_ne, ne_eq] using g399 | (simp at g399 ⊢; omega)
        refine rs 8 [none, none, none, none, some ⟨.ptr 3 (0 + ((0 : Int)).toNat * 3), [], 4, [3]⟩, some ⟨.agg (Enc.cells (ix c3q11 (0 : Int))), [], 4, [3]⟩] _ (by kernel_rfl) (allP_cons (ob_ldw c3q11 (0 : Int) 3 (0 + ((0 : Int)).toNat * 3) k398 rfl (by first | rfl | omega) [iS (ix c3q11 (0 : Int)).Task, bS (ix c3q11 (0 : Int)).Write, iS (ix c3q11 (0 : Int)).N] rfl 4 [3]) (allP_cons (ob_ix_o 3 c3q11.length 0 3 4 0 k398) allP_nil)) ?_
        refine rf [(0, .ptr 0 0), (3, .own 2 0 c2q11.length), (4, .ptr 4 0)] [(0, .row 24 [iS c0_Readers23, bS c0_Writer12, .own 3 0 c3q11.length]), (2, .row 3 (fl c2q11)), (3, .row 47 (fl c3q11)), (4, .row 47 (Enc.cells (ix c3q11 (0 : Int))))] 5 (by kernel_rfl) ?_
        refine wk_id ?_
        refine seq_np ?_
        refine seq_cut (A := Unit) (fun _ => ([(0, .ptr 0 0), (3, .own 2 0 c2q11.length), (4, .ptr 4 0), (32, bS ((ix c3q11 (0 : Int)).Write && (decide ((0 : Int) < c0_Readers23))))], [(0, .row 24 [iS c0_Readers23, bS c0_Writer12, .own 3 0 c3q11.length]), (2, .row 3 (fl c2q11)), (3, .row 47 (fl c3q11)), (4, .row 47 (Enc.cells (ix c3q11 (0 : Int))))], 5)) (fun _ => True) (fun K403 hK403 => ?_) (fun _ _ => ?_)
        · refine reg_f ?_
          refine rs 3 [] [] (by kernel_rfl) allP_nil ?_
          refine run_split 26 (ix c3q11 (0 : Int)).Write (.inl (by kernel_rfl)) (fun g404 => ?_) (fun g404 => ?_)
          · refine rs 6 [] [] (by kernel_rfl) allP_nil ?_
            refine rf [(0, .ptr 0 0), (3, .own 2 0 c2q11.length), (4, .ptr 4 0), (32, bS (decide ((0 : Int) < c0_Readers23)))] [(0, .row 24 [iS c0_Readers23, bS c0_Writer12, .own 3 0 c3q11.length]), (2, .row 3 (fl c2q11)), (3, .row 47 (fl c3q11)), (4, .row 47 (Enc.cells (ix c3q11 (0 : Int))))] 5 (by kernel_rfl) ?_
            exact hK403 () _ _ _ trivial (leSt_m [(0, 0), (2, 2), (3, 3), (4, 4)] [] (by (try simp only [g404]) <;> simp only [push_cast, seval]) (by (try simp only [g404]) <;> simp only [push_cast, seval]) rfl rfl rfl)
          · refine rs 6 [] [] (by kernel_rfl) allP_nil ?_
            refine rf [(0, .ptr 0 0), (3, .own 2 0 c2q11.length), (4, .ptr 4 0), (32, bS false)] [(0, .row 24 [iS c0_Readers23, bS c0_Writer12, .own 3 0 c3q11.length]), (2, .row 3 (fl c2q11)), (3, .row 47 (fl c3q11)), (4, .row 47 (Enc.cells (ix c3q11 (0 : Int))))] 5 (by kernel_rfl) ?_
            exact hK403 () _ _ _ trivial (leSt_m [(0, 0), (2, 2), (3, 3), (4, 4)] [] (by (try simp only [g404]) <;> simp only [push_cast, seval]) (by (try simp only [g404]) <;> simp only [push_cast, seval]) rfl rfl rfl)
        · dsimp only
          refine cond_sx h (by kernel_rfl) (fun g414 h => ?_) (fun g414 h => ?_)
          · change R2 (.exit 0) _ _ _
            refine ex_cast hx2 (id := 0) ?_
            obtain ⟨r0, h, e0⟩ := map_sx h
            have e1 := hr2 r0 e0.symm
            subst r0
            exact hK363 (c2q11, c0_Readers23, c0_Writer12, c3q11) _ _ _ h (leSt_m [(0, 0), (2, 2), (3, 3)] [] (by simp only [push_cast, seval]) (by simp only [push_cast, seval]) rfl rfl rfl)
          · refine wk_id ?_
            refine chk_sx h (fun g408 h => ?_)
            refine seq_np ?_
            refine reg_f ?_
            have k407 : 0 ≤ (1 : Int) ∧ (1 : Int) ≤ ((c3q11.length : Nat) : Int) ∧ ((c3q11.length : Nat) : Int) ≤ ((c3q11.length : Nat) : Int) := by first | simpa only [Bool.and_eq_true, decide_eq_true_eq, bne_iff_ne, ne_eq] using g408 | (simp at g408 ⊢; omega)
            refine rs 5 [] [] (by kernel_rfl) allP_nil ?_
            refine run_cutO c3q11 (some 38) 3 3 47 (1 : Int) ((c3q11.length : Nat) : Int) (by kernel_rfl) rfl k407 ?_
            refine rs 3 [] [] (by kernel_rfl) allP_nil ?_
            refine rf [(0, .ptr 0 0), (3, .own 2 0 c2q11.length), (4, .ptr 4 0)] [(0, .row 24 [iS c0_Readers23, bS c0_Writer12, .own 5 0 (cut c3q11 (1 : Int) ((c3q11.length : Nat) : Int)).length]), (2, .row 3 (fl c2q11)), (3, .dead), (4, .row 47 (Enc.cells (ix c3q11 (0 : Int)))), (5, .row 47 (fl (cut c3q11 (1 : Int) ((c3q11.length : Nat) : Int))))] 6 (by kernel_rfl) ?_
            refine wk_id ?_
            refine chk_sx h (fun g412 h => ?_)
            refine seq_np ?_
            refine reg_f ?_
            have k411 : (c2q11 ++ ([(ix c3q11 (0 : Int)).Task] : List Int)).length * 8 ≤ 140737488355328 := by first | simpa only [Bool.and_eq_true, decide_eq_true_eq, bne_iff_ne, ne_eq] using g412 | (simp at g412 ⊢; omega)
            refine rs 6 [none, none, none, none, some ⟨.own 7 0 (c2q11 ++ ([(ix c3q11 (0 : Int)).Task] : List Int)).length, [(7, .row 3 (fl (c2q11 ++ ([(ix c3q11 (0 : Int)).Task] : List Int)))), (2, .dead)], 8, [2, 6]⟩] _ (by kernel_rfl) (allP_cons (ob_app (P := Try.prog) c2q11 ([(ix c3q11 (0 : Int)).Task] : List Int) 1 8 rfl (appCells (fl ([(ix c3q11 (0 : Int)).Task] : List Int)) 0 (([(ix c3q11 (0 : Int)).Task] : List Int).length * 1)) ([(ix c3q11 (0 : Int)).Task] : List Int).length (app_own ([(ix c3q11 (0 : Int)).Task] : List Int) 1 rfl) rfl (0 + ([(ix c3q11 (0 : Int)).Task] : List Int).length * 1 ≤ (fl ([(ix c3q11 (0 : Int)).Task] : List Int)).length) (app_own_le ([(ix c3q11 (0 : Int)).Task] : List Int) 1 rfl) 3 (by kernel_rfl) (by decide) k411 2 7 [6]) allP_nil) ?_
            refine rf [(0, .ptr 0 0), (3, .own 7 0 (c2q11 ++ ([(ix c3q11 (0 : Int)).Task] : List Int)).length), (4, .ptr 4 0)] [(0, .row 24 [iS c0_Readers23, bS c0_Writer12, .own 5 0 (cut c3q11 (1 : Int) ((c3q11.length : Nat) : Int)).length]), (2, .dead), (3, .dead), (4, .row 47 (Enc.cells (ix c3q11 (0 : Int)))), (5, .row 47 (fl (cut c3q11 (1 : Int) ((c3q11.length : Nat) : Int)))), (6, .row 3 (fl ([(ix c3q11 (0 : Int)).Task] : List Int))), (7, .row 3 (fl (c2q11 ++ ([(ix c3q11 (0 : Int)).Task] : List Int))))] 8 (by kernel_rfl) ?_
            refine wk_id ?_
            refine seq_np ?_
            refine reg_f ?_
            refine rs 6 [] [] (by kernel_rfl) allP_nil ?_
            refine rf [(0, .ptr 0 0), (3, .own 7 0 (c2q11 ++ ([(ix c3q11 (0 : Int)).Task] : List Int)).length), (4, .ptr 4 0)] [(0, .row 24 [iS c0_Readers23, bS (ix c3q11 (0 : Int)).Write, .own 5 0 (cut c3q11 (1 : Int) ((c3q11.length : Nat) : Int)).length]), (2, .dead), (3, .dead), (4, .row 47 (Enc.cells (ix c3q11 (0 : Int)))), (5, .row 47 (fl (cut c3q11 (1 : Int) ((c3q11.length : Nat) : Int)))), (6, .row 3 (fl ([(ix c3q11 (0 : Int)).Task] : List Int))), (7, .row 3 (fl (c2q11 ++ ([(ix c3q11 (0 : Int)).Task] : List Int))))] 8 (by kernel_rfl) ?_
            refine wk_id ?_
            refine seq_np ?_
            refine reg_f ?_
            refine rs 3 [] [] (by kernel_rfl) allP_nil ?_
            refine rf [(0, .ptr 0 0), (3, .own 7 0 (c2q11 ++ ([(ix c3q11 (0 : Int)).Task] : List Int)).length), (53, bS (!(ix c3q11 (0 : Int)).Write))] [(0, .row 24 [iS c0_Readers23, bS (ix c3q11 (0 : Int)).Write, .own 5 0 (cut c3q11 (1 : Int) ((c3q11.length : Nat) : Int)).length]), (2, .dead), (3, .dead), (4, .row 47 (Enc.cells (ix c3q11 (0 : Int)))), (5, .row 47 (fl (cut c3q11 (1 : Int) ((c3q11.length : Nat) : Int)))), (6, .row 3 (fl ([(ix c3q11 (0 : Int)).Task] : List Int))), (7, .row 3 (fl (c2q11 ++ ([(ix c3q11 (0 : Int)).Task] : List Int))))] 8 (by kernel_rfl) ?_
            refine wk_id ?_
            refine cond_sx h (by kernel_rfl) (fun g413 h => ?_) (fun g413 h => ?_)
            · refine reg_f ?_
              refine rs 8 [] [] (by kernel_rfl) allP_nil ?_
              refine rf [(0, .ptr 0 0), (3, .own 7 0 (c2q11 ++ ([(ix c3q11 (0 : Int)).Task] : List Int)).length)] [(0, .row 24 [iS (IntKind.i64.wrap (c0_Readers23 + 1)), bS (ix c3q11 (0 : Int)).Write, .own 5 0 (cut c3q11 (1 : Int) ((c3q11.length : Nat) : Int)).length]), (2, .dead), (3, .dead), (4, .row 47 (Enc.cells (ix c3q11 (0 : Int)))), (5, .row 47 (fl (cut c3q11 (1 : Int) ((c3q11.length : Nat) : Int)))), (6, .row 3 (fl ([(ix c3q11 (0 : Int)).Task] : List Int))), (7, .row 3 (fl (c2q11 ++ ([(ix c3q11 (0 : Int)).Task] : List Int))))] 8 (by kernel_rfl) ?_
              refine wk_id ?_
              exact hn2 ((IntKind.i64.wrap (c0_Readers23 + 1)), (ix c3q11 (0 : Int)).Write, (c2q11 ++ ([(ix c3q11 (0 : Int)).Task] : List Int)), (cut c3q11 (1 : Int) ((c3q11.length : Nat) : Int))) _ _ _ (Option.some.inj h).symm (leSt_m [(0, 0), (2, 7), (3, 5)] [] (by simp only [push_cast, seval]) (by simp only [push_cast, seval]) rfl rfl rfl)
            · refine wk_id ?_
              exact hn2 (c0_Readers23, (ix c3q11 (0 : Int)).Write, (c2q11 ++ ([(ix c3q11 (0 : Int)).Task] : List Int)), (cut c3q11 (1 : Int) ((c3q11.length : Nat) : Int))) _ _ _ (Option.some.inj h).symm (leSt_m [(0, 0), (2, 7), (3, 5)] [] (by simp only [push_cast, seval]) (by simp only [push_cast, seval]) rfl rfl rfl)
      · change R2 (.exit 0) _ _ _
        refine ex_cast hx2 (id := 0) ?_
        obtain ⟨r0, h, e0⟩ := map_sx h
        have e1 := hr2 r0 e0.symm
        subst r0
        exact hK363 (c2q11, c0_Readers23, c0_Writer12, c3q11) _ _ _ h (leSt_m [(0, 0), (2, 2), (3, 3)] [] (by simp only [push_cast, seval]) (by simp only [push_cast, seval]) rfl rfl rfl)
  · rintro ⟨c2q9, c0_Readers19, c0_Writer10, c3q9⟩ h
    try dsimp only at h ⊢
    unfold lock_admit_j1 at h
    refine wk_id ?_
    refine seq_np ?_
    refine reg_f ?_
    refine rs 2 [] [] (by kernel_rfl) allP_nil ?_
    refine rf [(2, .own 2 0 c2q9.length)] [(0, .row 24 [iS c0_Readers19, bS c0_Writer10, .own 3 0 c3q9.length]), (1, .dead), (2, .row 3 (fl c2q9)), (3, .row 47 (fl c3q9))] 4 (by kernel_rfl) ?_
    refine wk_id ?_
    obtain rfl := Option.some.inj h
    refine ret_at (.own 2 0 c2q9.length) (by kernel_rfl) ?_
    exact ret_e [(0, 0), (2, 2), (3, 3)] [] (by simp only [push_cast, seval]) (by simp only [push_cast, seval]) rfl rfl rfl

set_option maxRecDepth 100000 in
set_option maxHeartbeats 10000000 in
theorem lock_Leave_spec (l : Lock) (write : Bool) (r : Int × Bool × Bool × Fault × (List Want) × (List Int)) (h : lock_Leave l write = some r) : SpecW Try.prog 9 [.agg (Enc.cells l), bS write] [] 0 (fun x h n => x = .tup [.agg [iS r.1, bS r.2.1, .own 0 0 r.2.2.2.2.1.length], .own 1 0 r.2.2.2.2.2.length, bS r.2.2.1, .agg (Enc.cells r.2.2.2.1)] ∧ h = [(0, .row 47 (fl r.2.2.2.2.1)), (1, .row 3 (fl r.2.2.2.2.2))] ∧ n = 2) := by
  unfold lock_Leave at h
  refine spec_of (draw_ok _) Try.func9 rfl (by decide) rfl (by kernel_rfl) ?_
  refine seq_np ?_
  refine reg_f ?_
  refine rs 5 [] [] (by kernel_rfl) allP_nil ?_
  refine rf [(1, bS write), (2, .ptr 0 0), (4, .ptr 1 0), (7, .ptr 2 0)] [(0, .row 24 (Enc.cells l)), (1, .row 24 [iS 0, bS false, .v (.slice none 0 0)]), (2, .row 28 [iS 0, iS 0])] 3 (by kernel_rfl) ?_
  refine wk_id ?_
  refine seq_np ?_
  refine seq_np ?_
  refine reg_f ?_
  refine rs 1 [] [] (by kernel_rfl) allP_nil ?_
  obtain ⟨r420, hr420, h⟩ := bind_sx h
  refine run_call 20 [.agg (Enc.cells l)] (some 12) (by kernel_rfl) ?_
  refine call_0 (lock_Check_spec l r420 hr420) (by simp only [push_cast, seval]) (by simp only [push_cast, seval]) ?_
  refine back_f ?_
  refine rs 2 [] [] (by kernel_rfl) allP_nil ?_
  refine rf [(1, bS write), (2, .ptr 0 0), (4, .ptr 1 0), (7, .ptr 2 0), (8, .ptr 3 0)] [(0, .row 24 (Enc.cells l)), (1, .row 24 [iS 0, bS false, .v (.slice none 0 0)]), (2, .row 28 [iS 0, iS 0]), (3, .row 28 (Enc.cells r420))] 4 (by kernel_rfl) ?_
  refine wk_id ?_
  refine seq_np ?_
  refine reg_f ?_
  refine rs 3 [] [] (by kernel_rfl) allP_nil ?_
  refine rf [(1, bS write), (2, .ptr 0 0), (4, .ptr 1 0), (7, .ptr 2 0), (8, .ptr 3 0), (15, bS (r420.Code != 0))] [(0, .row 24 (Enc.cells l)), (1, .row 24 [iS 0, bS false, .v (.slice none 0 0)]), (2, .row 28 [iS 0, iS 0]), (3, .row 28 (Enc.cells r420))] 4 (by kernel_rfl) ?_
  refine wk_id ?_
  refine cond_sx h (by kernel_rfl) (fun g447 h => ?_) (fun g447 h => ?_)
  · refine seq_np ?_
    refine reg_t ?_
    refine rs 6 [] [] (by kernel_rfl) allP_nil ?_
    refine rt [(4, .ptr 1 0), (5, .v (.slice none 0 0)), (6, bS false), (7, .ptr 2 0)] [(0, .row 24 (Enc.cells l)), (1, .row 24 [iS 0, bS false, .v (.slice none 0 0)]), (2, .row 28 (Enc.cells r420)), (3, .row 28 (Enc.cells r420))] 10 follows (by kernel_rfl) ?_
    refine wk_id ?_
    obtain rfl := Option.some.inj h
    refine ret_at (.tup [.agg [iS 0, bS false, .v (.slice none 0 0)], .v (.slice none 0 0), bS false, .agg (Enc.cells r420)]) (by kernel_rfl) ?_
    exact ret_e [] [] (by simp only [push_cast, seval]) (by simp only [push_cast, seval]) rfl rfl rfl
  · refine wk_id ?_
    refine seq_np ?_
    refine seq_cut (A := Unit) (fun _ => ([(1, bS write), (2, .ptr 0 0), (4, .ptr 1 0), (7, .ptr 2 0), (32, bS (bif write then ((!l.Writer) || ((!write) && (l.Readers == 0))) else ((!write) && (l.Readers == 0))))], [(0, .row 24 (Enc.cells l)), (1, .row 24 [iS 0, bS false, .v (.slice none 0 0)]), (2, .row 28 [iS 0, iS 0]), (3, .row 28 (Enc.cells r420))], 4)) (fun _ => True) (fun K431 hK431 => ?_) (fun _ _ => ?_)
    · refine reg_f ?_
      refine rs 2 [] [] (by kernel_rfl) allP_nil ?_
      refine run_split 19 write (.inl (by kernel_rfl)) (fun g432 => ?_) (fun g432 => ?_)
      · refine rs 5 [] [] (by kernel_rfl) allP_nil ?_
        refine run_split 24 (!l.Writer) (.inl (by kernel_rfl)) (fun g433 => ?_) (fun g433 => ?_)
        · refine rs 8 [] [] (by kernel_rfl) allP_nil ?_
          refine rf [(1, bS write), (2, .ptr 0 0), (4, .ptr 1 0), (7, .ptr 2 0), (32, bS true)] [(0, .row 24 (Enc.cells l)), (1, .row 24 [iS 0, bS false, .v (.slice none 0 0)]), (2, .row 28 [iS 0, iS 0]), (3, .row 28 (Enc.cells r420))] 4 (by kernel_rfl) ?_
          exact hK431 () _ _ _ trivial (leSt_m [(0, 0), (1, 1), (2, 2), (3, 3)] [] (by first | ((try simp only [g432, g433]) <;> simp only [push_cast, seval]; done) | ((try simp only [g432]); (try simp only [g433]); simp only [push_cast, seval]; done) | (exfalso; clear h; simp_all; done)) (by first | ((try simp only [g432, g433]) <;> simp only [push_cast, seval]; done) | ((try simp only [g432]); (try simp only [g433]); simp only [push_cast, seval]; done) | (exfalso; clear h; simp_all; done)) rfl rfl rfl)
        · refine rs 3 [] [] (by kernel_rfl) allP_nil ?_
          refine run_split 27 (!write) (.inr (by kernel_rfl)) (fun g434 => ?_) (fun g434 => ?_)
          · refine rn 10 [(1, bS write), (2, .ptr 0 0), (4, .ptr 1 0), (7, .ptr 2 0), (24, bS false), (27, .gd true (bS true))] [(0, .row 24 (Enc.cells l)), (1, .row 24 [iS 0, bS false, .v (.slice none 0 0)]), (2, .row 28 [iS 0, iS 0]), (3, .row 28 (Enc.cells r420))] 4 (by kernel_rfl) ?_
            refine rs 5 [] [] (by kernel_rfl) allP_nil ?_
            refine rf [(1, bS write), (2, .ptr 0 0), (4, .ptr 1 0), (7, .ptr 2 0), (32, bS (l.Readers == 0))] [(0, .row 24 (Enc.cells l)), (1, .row 24 [iS 0, bS false, .v (.slice none 0 0)]), (2, .row 28 [iS 0, iS 0]), (3, .row 28 (Enc.cells r420))] 4 (by kernel_rfl) ?_
            exact hK431 () _ _ _ trivial (leSt_m [(0, 0), (1, 1), (2, 2), (3, 3)] [] (by first | ((try simp only [g432, g433, g434]) <;> simp only [push_cast, seval]; done) | ((try simp only [g432]); (try simp only [g433]); (try simp only [g434]); simp only [push_cast, seval]; done) | (exfalso; clear h; simp_all; done)) (by first | ((try simp only [g432, g433, g434]) <;> simp only [push_cast, seval]; done) | ((try simp only [g432]); (try simp only [g433]); (try simp only [g434]); simp only [push_cast, seval]; done) | (exfalso; clear h; simp_all; done)) rfl rfl rfl)
          · refine rn 10 [(1, bS write), (2, .ptr 0 0), (4, .ptr 1 0), (7, .ptr 2 0), (24, bS false), (27, .gd true (bS false))] [(0, .row 24 (Enc.cells l)), (1, .row 24 [iS 0, bS false, .v (.slice none 0 0)]), (2, .row 28 [iS 0, iS 0]), (3, .row 28 (Enc.cells r420))] 4 (by kernel_rfl) ?_
            refine rs 5 [] [] (by kernel_rfl) allP_nil ?_
            refine rf [(1, bS write), (2, .ptr 0 0), (4, .ptr 1 0), (7, .ptr 2 0), (32, bS false)] [(0, .row 24 (Enc.cells l)), (1, .row 24 [iS 0, bS false, .v (.slice none 0 0)]), (2, .row 28 [iS 0, iS 0]), (3, .row 28 (Enc.cells r420))] 4 (by kernel_rfl) ?_
            exact hK431 () _ _ _ trivial (leSt_m [(0, 0), (1, 1), (2, 2), (3, 3)] [] (by first | ((try simp only [g432, g433, g434]) <;> simp only [push_cast, seval]; done) | ((try simp only [g432]); (try simp only [g433]); (try simp only [g434]); simp only [push_cast, seval]; done) | (exfalso; clear h; simp_all; done)) (by first | ((try simp only [g432, g433, g434]) <;> simp only [push_cast, seval]; done) | ((try simp only [g432]); (try simp only [g433]); (try simp only [g434]); simp only [push_cast, seval]; done) | (exfalso; clear h; simp_all; done)) rfl rfl rfl)
      · refine rs 8 [] [] (by kernel_rfl) allP_nil ?_
        refine run_split 27 (!write) (.inr (by kernel_rfl)) (fun g435 => ?_) (fun g435 => ?_)
        · refine rs 5 [] [] (by kernel_rfl) allP_nil ?_
          refine rf [(1, bS write), (2, .ptr 0 0), (4, .ptr 1 0), (7, .ptr 2 0), (32, bS (l.Readers == 0))] [(0, .row 24 (Enc.cells l)), (1, .row 24 [iS 0, bS false, .v (.slice none 0 0)]), (2, .row 28 [iS 0, iS 0]), (3, .row 28 (Enc.cells r420))] 4 (by kernel_rfl) ?_
          exact hK431 () _ _ _ trivial (leSt_m [(0, 0), (1, 1), (2, 2), (3, 3)] [] (by first | ((try simp only [g432, g435]) <;> simp only [push_cast, seval]; done) | ((try simp only [g432]); (try simp only [g435]); simp only [push_cast, seval]; done) | (exfalso; clear h; simp_all; done)) (by first | ((try simp only [g432, g435]) <;> simp only [push_cast, seval]; done) | ((try simp only [g432]); (try simp only [g435]); simp only [push_cast, seval]; done) | (exfalso; clear h; simp_all; done)) rfl rfl rfl)
        · refine rs 5 [] [] (by kernel_rfl) allP_nil ?_
          refine rf [(1, bS write), (2, .ptr 0 0), (4, .ptr 1 0), (7, .ptr 2 0), (32, bS false)] [(0, .row 24 (Enc.cells l)), (1, .row 24 [iS 0, bS false, .v (.slice none 0 0)]), (2, .row 28 [iS 0, iS 0]), (3, .row 28 (Enc.cells r420))] 4 (by kernel_rfl) ?_
          exact hK431 () _ _ _ trivial (leSt_m [(0, 0), (1, 1), (2, 2), (3, 3)] [] (by first | ((try simp only [g432, g435]) <;> simp only [push_cast, seval]; done) | ((try simp only [g432]); (try simp only [g435]); simp only [push_cast, seval]; done) | (exfalso; clear h; simp_all; done)) (by first | ((try simp only [g432, g435]) <;> simp only [push_cast, seval]; done) | ((try simp only [g432]); (try simp only [g435]); simp only [push_cast, seval]; done) | (exfalso; clear h; simp_all; done)) rfl rfl rfl)
    · dsimp only
      refine cond_sx h (by kernel_rfl) (fun g446 h => ?_) (fun g446 h => ?_)
      · refine seq_np ?_
        refine reg_f ?_
        refine rs 1 [] [] (by kernel_rfl) allP_nil ?_
        obtain ⟨r437, hr437, h⟩ := bind_sx h
        refine call_x (lock_copied_spec l r437 hr437) (args := [.agg (Enc.cells l)]) (dst := (some 34)) (by kernel_rfl) [(0, .row 24 (Enc.cells l)), (1, .row 24 [iS 0, bS false, .v (.slice none 0 0)]), (2, .row 28 [iS 0, iS 0]), (3, .row 28 (Enc.cells r420))] 4 (by kernel_rfl) [] [] (.ptr 4 0) [(4, .row 24 [iS r437.1, bS r437.2.1, .own 5 0 r437.2.2.length]), (5, .row 47 (fl r437.2.2))] (by simp only [push_cast, seval]) (by simp only [push_cast, seval]) (by kernel_rfl) (.inl rfl) (by simp only [push_cast, seval]) (by simp only [push_cast, seval]) ?_
        refine rs 7 [] [] (by kernel_rfl) allP_nil ?_
        refine rf [(4, .ptr 1 0), (5, .v (.slice none 0 0)), (6, bS true), (7, .ptr 2 0)] [(0, .row 24 (Enc.cells l)), (1, .row 24 [iS r437.1, bS r437.2.1, .own 5 0 r437.2.2.length]), (2, .row 28 [iS 0, iS 0]), (3, .row 28 (Enc.cells r420)), (4, .row 24 [iS r437.1, bS r437.2.1, .own 5 0 r437.2.2.length]), (5, .row 47 (fl r437.2.2))] 6 (by kernel_rfl) ?_
        refine wk_id ?_
        obtain rfl := Option.some.inj h
        refine ret_at (.tup [.agg [iS r437.1, bS r437.2.1, .own 5 0 r437.2.2.length], .v (.slice none 0 0), bS true, .agg [iS 0, iS 0]]) (by kernel_rfl) ?_
        exact ret_e [(0, 5)] [] (by simp only [push_cast, seval]) (by simp only [push_cast, seval]) rfl rfl rfl
      · refine wk_id ?_
        refine seq_np ?_
        refine reg_f ?_
        refine rs 1 [] [] (by kernel_rfl) allP_nil ?_
        obtain ⟨r439, hr439, h⟩ := bind_sx h
        refine call_x (lock_copied_spec l r439 hr439) (args := [.agg (Enc.cells l)]) (dst := (some 39)) (by kernel_rfl) [(0, .row 24 (Enc.cells l)), (1, .row 24 [iS 0, bS false, .v (.slice none 0 0)]), (2, .row 28 [iS 0, iS 0]), (3, .row 28 (Enc.cells r420))] 4 (by kernel_rfl) [] [] (.ptr 4 0) [(4, .row 24 [iS r439.1, bS r439.2.1, .own 5 0 r439.2.2.length]), (5, .row 47 (fl r439.2.2))] (by simp only [push_cast, seval]) (by simp only [push_cast, seval]) (by kernel_rfl) (.inl rfl) (by simp only [push_cast, seval]) (by simp only [push_cast, seval]) ?_
        refine rs 1 [] [] (by kernel_rfl) allP_nil ?_
        refine rf [(1, bS write), (4, .ptr 1 0), (7, .ptr 2 0), (9, .ptr 4 0)] [(0, .row 24 (Enc.cells l)), (1, .row 24 [iS 0, bS false, .v (.slice none 0 0)]), (2, .row 28 [iS 0, iS 0]), (3, .row 28 (Enc.cells r420)), (4, .row 24 [iS r439.1, bS r439.2.1, .own 5 0 r439.2.2.length]), (5, .row 47 (fl r439.2.2))] 6 (by kernel_rfl) ?_
        refine wk_id ?_
        refine seq_cut (A := Int × Bool × (List Want)) (fun a => ([(4, .ptr 0 0), (7, .ptr 1 0), (9, .ptr 2 0)], [(0, .row 24 [iS 0, bS false, .v (.slice none 0 0)]), (1, .row 28 [iS 0, iS 0]), (2, .row 24 [iS a.1, bS a.2.1, .own 3 0 a.2.2.length]), (3, .row 47 (fl a.2.2))], 4)) (fun a => (lock_Leave_j1 a.1 a.2.1 a.2.2) = some r) (fun K442 hK442 => ?_) ?_
        · refine seq_np ?_
          refine reg_f ?_
          refine rs 1 [] [] (by kernel_rfl) allP_nil ?_
          refine rf [(4, .ptr 1 0), (7, .ptr 2 0), (9, .ptr 4 0), (40, bS write)] [(0, .row 24 (Enc.cells l)), (1, .row 24 [iS 0, bS false, .v (.slice none 0 0)]), (2, .row 28 [iS 0, iS 0]), (3, .row 28 (Enc.cells r420)), (4, .row 24 [iS r439.1, bS r439.2.1, .own 5 0 r439.2.2.length]), (5, .row 47 (fl r439.2.2))] 6 (by kernel_rfl) ?_
          refine wk_id ?_
          refine cond_sx h (by kernel_rfl) (fun g443 h => ?_) (fun g443 h => ?_)
          · refine reg_f ?_
            refine rs 4 [] [] (by kernel_rfl) allP_nil ?_
            refine rf [(4, .ptr 1 0), (7, .ptr 2 0), (9, .ptr 4 0)] [(0, .row 24 (Enc.cells l)), (1, .row 24 [iS 0, bS false, .v (.slice none 0 0)]), (2, .row 28 [iS 0, iS 0]), (3, .row 28 (Enc.cells r420)), (4, .row 24 [iS r439.1, bS false, .own 5 0 r439.2.2.length]), (5, .row 47 (fl r439.2.2))] 6 (by kernel_rfl) ?_
            exact hK442 (r439.1, false, r439.2.2) _ _ _ h (leSt_m [(0, 1), (1, 2), (2, 4), (3, 5)] [] (by simp only [push_cast, seval]) (by simp only [push_cast, seval]) rfl rfl rfl)
          · refine reg_f ?_
            refine rs 8 [] [] (by kernel_rfl) allP_nil ?_
            refine rf [(4, .ptr 1 0), (7, .ptr 2 0), (9, .ptr 4 0)] [(0, .row 24 (Enc.cells l)), (1, .row 24 [iS 0, bS false, .v (.slice none 0 0)]), (2, .row 28 [iS 0, iS 0]), (3, .row 28 (Enc.cells r420)), (4, .row 24 [iS (IntKind.i64.wrap (r439.1 - 1)), bS r439.2.1, .own 5 0 r439.2.2.length]), (5, .row 47 (fl r439.2.2))] 6 (by kernel_rfl) ?_
            exact hK442 ((IntKind.i64.wrap (r439.1 - 1)), r439.2.1, r439.2.2) _ _ _ h (leSt_m [(0, 1), (1, 2), (2, 4), (3, 5)] [] (by simp only [push_cast, seval]) (by simp only [push_cast, seval]) rfl rfl rfl)
        · rintro ⟨c2_Readers1, c2_Writer1, c3q1⟩ h
          try dsimp only at h ⊢
          unfold lock_Leave_j1 at h
          refine seq_np ?_
          refine reg_f ?_
          refine rs 1 [] [] (by kernel_rfl) allP_nil ?_
          obtain ⟨r445, hr445, h⟩ := bind_sx h
          refine call_x (lock_admit_spec c2_Readers1 c2_Writer1 c3q1 r445 hr445) (args := [.ptr 2 0]) (dst := (some 52)) (by kernel_rfl) [(0, .row 24 [iS 0, bS false, .v (.slice none 0 0)]), (1, .row 28 [iS 0, iS 0]), (2, .row 24 [iS c2_Readers1, bS c2_Writer1, .own 3 0 c3q1.length]), (3, .row 47 (fl c3q1))] 4 (by kernel_rfl) [(0, 2), (1, 3)] [] (.own 6 0 r445.1.length) [(2, .row 24 [iS r445.2.1, bS r445.2.2.1, .own 7 0 r445.2.2.2.length]), (3, .dead), (6, .row 3 (fl r445.1)), (7, .row 47 (fl r445.2.2.2)), (2, .dead), (3, .dead)] (by simp only [push_cast, seval]) (by simp only [push_cast, seval]) (by kernel_rfl) (.inl rfl) (by simp only [push_cast, seval]) (by simp only [push_cast, seval]) ?_
          refine rs 1 [] [] (by kernel_rfl) allP_nil ?_
          refine rf [(4, .ptr 0 0), (7, .ptr 1 0), (9, .ptr 2 0), (10, .own 6 0 r445.1.length)] [(0, .row 24 [iS 0, bS false, .v (.slice none 0 0)]), (1, .row 28 [iS 0, iS 0]), (2, .row 24 [iS r445.2.1, bS r445.2.2.1, .own 7 0 r445.2.2.2.length]), (3, .dead), (6, .row 3 (fl r445.1)), (7, .row 47 (fl r445.2.2.2))] 8 (by kernel_rfl) ?_
          refine wk_id ?_
          refine seq_np ?_
          refine reg_f ?_
          refine rs 9 [] [] (by kernel_rfl) allP_nil ?_
          refine rf [(4, .ptr 0 0), (5, .own 6 0 r445.1.length), (6, bS false), (7, .ptr 1 0)] [(0, .row 24 [iS r445.2.1, bS r445.2.2.1, .own 7 0 r445.2.2.2.length]), (1, .row 28 [iS 0, iS 0]), (2, .row 24 [iS r445.2.1, bS r445.2.2.1, .own 7 0 r445.2.2.2.length]), (3, .dead), (6, .row 3 (fl r445.1)), (7, .row 47 (fl r445.2.2.2))] 8 (by kernel_rfl) ?_
          refine wk_id ?_
          obtain rfl := Option.some.inj h
          refine ret_at (.tup [.agg [iS r445.2.1, bS r445.2.2.1, .own 7 0 r445.2.2.2.length], .own 6 0 r445.1.length, bS false, .agg [iS 0, iS 0]]) (by kernel_rfl) ?_
          exact ret_e [(0, 7), (1, 6)] [] (by simp only [push_cast, seval]) (by simp only [push_cast, seval]) rfl rfl rfl

set_option maxRecDepth 100000 in
set_option maxHeartbeats 10000000 in
theorem taskmillref_Ints_spec (xa : (List Int)) (b : (List Int)) (r : Bool) (h : taskmillref_Ints xa b = some r) : SpecW Try.prog 16 [.sl xa.length (fl xa), .sl b.length (fl b)] [] 0 (fun x h n => x = bS r ∧ h = [] ∧ n = 0) := by
  unfold taskmillref_Ints at h
  refine spec_of (draw_ok _) Try.func16 rfl (by decide) rfl (by kernel_rfl) ?_
  refine seq_np ?_
  refine reg_f ?_
  refine rs 1 [] [] (by kernel_rfl) allP_nil ?_
  refine rf [(0, .sl xa.length (fl xa)), (1, .sl b.length (fl b))] [] 0 (by kernel_rfl) ?_
  refine wk_id ?_
  refine seq_np ?_
  refine seq_np ?_
  refine reg_f ?_
  refine rs 5 [] [] (by kernel_rfl) allP_nil ?_
  refine rf [(0, .sl xa.length (fl xa)), (1, .sl b.length (fl b)), (10, bS (((xa.length : Nat) : Int) != ((b.length : Nat) : Int)))] [] 0 (by kernel_rfl) ?_
  refine wk_id ?_
  refine cond_sx h (by kernel_rfl) (fun g544 h => ?_) (fun g544 h => ?_)
  · refine seq_np ?_
    refine reg_f ?_
    refine rs 1 [] [] (by kernel_rfl) allP_nil ?_
    refine rf [(4, bS false)] [] 0 (by kernel_rfl) ?_
    refine wk_id ?_
    obtain rfl := Option.some.inj h
    refine ret_at (bS false) (by kernel_rfl) ?_
    exact ret_e [] [] (by simp only [push_cast, seval]) (by simp only [push_cast, seval]) rfl rfl rfl
  · refine wk_id ?_
    refine seq_np ?_
    refine seq_np ?_
    refine reg_f ?_
    refine rs 1 [] [] (by kernel_rfl) allP_nil ?_
    refine rf [(0, .sl xa.length (fl xa)), (1, .sl b.length (fl b)), (5, iS 0)] [] 0 (by kernel_rfl) ?_
    refine wk_id ?_
    refine block_np ?_
    refine loop_sx (S := Int) (fun a => ([(0, .sl xa.length (fl xa)), (1, .sl b.length (fl b)), (5, iS a)], [], 0)) h (leSt_m [] [] (by simp only [push_cast, seval]) (by simp only [push_cast, seval]) rfl rfl rfl) ?_
    rintro i7 o2 R2 h hr2 hn2 hx2 ht2
    try dsimp only at h hn2 ⊢
    unfold taskmillref_Ints_l1 at h
    try dsimp only at h
    refine seq_np ?_
    refine seq_np ?_
    refine reg_f ?_
    refine rs 4 [] [] (by kernel_rfl) allP_nil ?_
    refine rf [(0, .sl xa.length (fl xa)), (1, .sl b.length (fl b)), (5, iS i7), (14, bS (decide (i7 < ((xa.length : Nat) : Int))))] [] 0 (by kernel_rfl) ?_
    refine wk_id ?_
    refine cond_sx h (by kernel_rfl) (fun g543 h => ?_) (fun g543 h => ?_)
    · refine wk_id ?_
      refine seq_np ?_
      refine block_np ?_
      refine chk_sx h (fun g539 h => ?_)
      refine chk_sx h (fun g541 h => ?_)
      refine seq_np ?_
      refine reg_t ?_
      have k538 : 0 ≤ i7 ∧ i7 < ((xa.length : Nat) : Int) := by first | simpa only [Bool.and_eq_true, decide_eq_true_eq, bne_iff_ne, ne_eq] using g539 | (simp at g539 ⊢; omega)
      have k540 : 0 ≤ i7 ∧ i7 < ((b.length : Nat) : Int) := by first | simpa only [Bool.and_eq_true, decide_eq_true_eq, bne_iff_ne, ne_eq] using g541 | (simp at g541 ⊢; omega)
      refine rs 9 [none, none, some ⟨.iptr (fl xa) ((i7).toNat * 1), [], 2, []⟩, some ⟨iS (ix xa i7), [], 3, []⟩, none, none, some ⟨.iptr (fl b) ((i7).toNat * 1), [], 6, []⟩, some ⟨iS (ix b i7), [], 7, []⟩] _ (by kernel_rfl) (allP_cons (ob_ld b i7 1 0 ((i7).toNat * 1) k540 rfl (by decide) (by first | rfl | omega) (dflS Try.prog 3) (iS (ix b i7)) rfl 7 []) (allP_cons (ob_ix_l b 1 6 i7 k540) (allP_cons (ob_ld xa i7 1 0 ((i7).toNat * 1) k538 rfl (by decide) (by first | rfl | omega) (dflS Try.prog 3) (iS (ix xa i7)) rfl 3 []) (allP_cons (ob_ix_l xa 1 2 i7 k538) allP_nil)))) ?_
      refine rt [(0, .sl xa.length (fl xa)), (1, .sl b.length (fl b)), (5, iS i7), (25, bS ((ix xa i7) != (ix b i7)))] [] 9 follows (by kernel_rfl) ?_
      refine wk_id ?_
      refine cond_sx h (by kernel_rfl) (fun g542 h => ?_) (fun g542 h => ?_)
      · refine seq_np ?_
        refine reg_f ?_
        refine rs 1 [] [] (by kernel_rfl) allP_nil ?_
        refine rf [(4, bS false)] [] 9 (by kernel_rfl) ?_
        refine wk_id ?_
        refine rt_cast ht2 ?_
        obtain ⟨r0, h, e0⟩ := map_sx h
        have e1 := hr2 r0 e0.symm
        subst r0
        obtain rfl := Option.some.inj h
        refine ret_at (bS false) (by kernel_rfl) ?_
        exact ret_e [] [] (by simp only [push_cast, seval]) (by simp only [push_cast, seval]) rfl rfl rfl
      · refine wk_id ?_
        refine wk_id ?_
        refine reg_f ?_
        refine rs 3 [] [] (by kernel_rfl) allP_nil ?_
        refine rf [(0, .sl xa.length (fl xa)), (1, .sl b.length (fl b)), (5, iS (IntKind.i64.wrap (i7 + 1)))] [] 9 (by kernel_rfl) ?_
        exact hn2 ((IntKind.i64.wrap (i7 + 1))) _ _ _ (Option.some.inj h).symm (leSt_m [] [] (by simp only [push_cast, seval]) (by simp only [push_cast, seval]) rfl rfl rfl)
    · change R2 (.exit 0) _ _ _
      refine ex_cast hx2 (id := 0) ?_
      obtain ⟨r0, h, e0⟩ := map_sx h
      have e1 := hr2 r0 e0.symm
      subst r0
      refine wk_id ?_
      refine wk_id ?_
      refine seq_np ?_
      refine reg_f ?_
      refine rs 1 [] [] (by kernel_rfl) allP_nil ?_
      refine rf [(4, bS true)] [] 0 (by kernel_rfl) ?_
      refine wk_id ?_
      obtain rfl := Option.some.inj h
      refine ret_at (bS true) (by kernel_rfl) ?_
      exact ret_e [] [] (by simp only [push_cast, seval]) (by simp only [push_cast, seval]) rfl rfl rfl

set_option maxRecDepth 100000 in
set_option maxHeartbeats 10000000 in
theorem taskmilllaw_lockBegun_spec (r : Bool) (h : taskmilllaw_lockBegun = some r) : SpecW Try.prog 8 [] [] 0 (fun x h n => x = bS r ∧ h = [] ∧ n = 0) := by
  unfold taskmilllaw_lockBegun at h
  refine spec_of (draw_ok _) Try.func8 rfl (by decide) rfl (by kernel_rfl) ?_
  refine seq_np ?_
  refine reg_f ?_
  refine rs 1 [] [] (by kernel_rfl) allP_nil ?_
  refine rf [] [] 0 (by kernel_rfl) ?_
  refine wk_id ?_
  refine seq_np ?_
  refine reg_f ?_
  refine rs 7 [] [] (by kernel_rfl) allP_nil ?_
  refine rf [(1, .ptr 1 0)] [(0, .row 47 (fl ([(Want.mk 2 false 0), (Want.mk 3 true 0), (Want.mk 4 false 0)] : List Want))), (1, .row 24 [iS 0, bS true, .own 0 0 ([(Want.mk 2 false 0), (Want.mk 3 true 0), (Want.mk 4 false 0)] : List Want).length])] 2 (by kernel_rfl) ?_
  refine wk_id ?_
  refine seq_np ?_
  refine reg_f ?_
  refine rs 1 [] [] (by kernel_rfl) allP_nil ?_
  obtain ⟨r551, hr551, h⟩ := bind_sx h
  refine call_x (lock_Leave_spec (Lock.mk 0 true ([(Want.mk 2 false 0), (Want.mk 3 true 0), (Want.mk 4 false 0)] : List Want)) true r551 hr551) (args := [.agg [iS 0, bS true, .own 0 0 ([(Want.mk 2 false 0), (Want.mk 3 true 0), (Want.mk 4 false 0)] : List Want).length], bS true]) (dst := (some 13)) (by kernel_rfl) [(0, .row 47 (fl ([(Want.mk 2 false 0), (Want.mk 3 true 0), (Want.mk 4 false 0)] : List Want))), (1, .row 24 [iS 0, bS true, .own 0 0 ([(Want.mk 2 false 0), (Want.mk 3 true 0), (Want.mk 4 false 0)] : List Want).length])] 2 (by kernel_rfl) [] [0] (.tup [.agg [iS r551.1, bS r551.2.1, .own 2 0 r551.2.2.2.2.1.length], .own 3 0 r551.2.2.2.2.2.length, bS r551.2.2.1, .agg (Enc.cells r551.2.2.2.1)]) [(2, .row 47 (fl r551.2.2.2.2.1)), (3, .row 3 (fl r551.2.2.2.2.2))] (by simp only [push_cast, seval]) (by simp only [push_cast, seval]) (by kernel_rfl) (.inr ⟨by simp only [push_cast, seval], by simp only [push_cast, seval]⟩) (by simp only [push_cast, seval]) (by simp only [push_cast, seval]) ?_
  refine rs 11 [] [] (by kernel_rfl) allP_nil ?_
  refine rf [(2, .ptr 4 0), (3, .own 3 0 r551.2.2.2.2.2.length), (4, bS r551.2.2.1), (5, .ptr 5 0)] [(0, .row 47 (fl ([(Want.mk 2 false 0), (Want.mk 3 true 0), (Want.mk 4 false 0)] : List Want))), (1, .row 24 [iS 0, bS true, .own 0 0 ([(Want.mk 2 false 0), (Want.mk 3 true 0), (Want.mk 4 false 0)] : List Want).length]), (2, .row 47 (fl r551.2.2.2.2.1)), (3, .row 3 (fl r551.2.2.2.2.2)), (4, .row 24 [iS r551.1, bS r551.2.1, .own 2 0 r551.2.2.2.2.1.length]), (5, .row 28 (Enc.cells r551.2.2.2.1))] 6 (by kernel_rfl) ?_
  refine wk_id ?_
  refine seq_cut (A := Bool) (fun a => ([(0, bS a)], [], 0)) (fun a => (taskmilllaw_lockBegun_j1 a) = some r) (fun K558 hK558 => ?_) ?_
  · refine reg_f ?_
    refine rs 4 [] [] (by kernel_rfl) allP_nil ?_
    refine run_br h 21 (.inl (by kernel_rfl)) (fun g559 h => ?_) (fun g559 h => ?_)
    · refine rs 4 [] [] (by kernel_rfl) allP_nil ?_
      refine run_br h 25 (.inl (by kernel_rfl)) (fun g560 h => ?_) (fun g560 h => ?_)
      · refine rs 2 [] [] (by kernel_rfl) allP_nil ?_
        obtain ⟨r561, hr561, h⟩ := bind_sx h
        refine call_x (taskmillref_Ints_spec r551.2.2.2.2.2 ([2] : List Int) r561 hr561) (args := [.own 3 0 r551.2.2.2.2.2.length, .own 6 0 ([2] : List Int).length]) (dst := (some 28)) (by kernel_rfl) [(0, .row 47 (fl ([(Want.mk 2 false 0), (Want.mk 3 true 0), (Want.mk 4 false 0)] : List Want))), (1, .row 24 [iS 0, bS true, .own 0 0 ([(Want.mk 2 false 0), (Want.mk 3 true 0), (Want.mk 4 false 0)] : List Want).length]), (2, .row 47 (fl r551.2.2.2.2.1)), (3, .row 3 (fl r551.2.2.2.2.2)), (4, .row 24 [iS r551.1, bS r551.2.1, .own 2 0 r551.2.2.2.2.1.length]), (5, .row 28 (Enc.cells r551.2.2.2.1)), (6, .row 3 (fl ([2] : List Int)))] 7 (by kernel_rfl) [] [3, 6] (bS r561) [] (by simp only [push_cast, seval]) (by simp only [push_cast, seval]) (by kernel_rfl) (.inr ⟨by simp only [push_cast, seval], by simp only [push_cast, seval]⟩) (by simp only [push_cast, seval]) (by simp only [push_cast, seval]) ?_
        refine rn 11 [(2, .ptr 4 0), (25, bS true), (28, bS r561)] [(0, .row 47 (fl ([(Want.mk 2 false 0), (Want.mk 3 true 0), (Want.mk 4 false 0)] : List Want))), (1, .row 24 [iS 0, bS true, .own 0 0 ([(Want.mk 2 false 0), (Want.mk 3 true 0), (Want.mk 4 false 0)] : List Want).length]), (2, .row 47 (fl r551.2.2.2.2.1)), (3, .row 3 (fl r551.2.2.2.2.2)), (4, .row 24 [iS r551.1, bS r551.2.1, .own 2 0 r551.2.2.2.2.1.length]), (5, .row 28 (Enc.cells r551.2.2.2.1)), (6, .row 3 (fl ([2] : List Int)))] 7 (by kernel_rfl) ?_
        refine rs 2 [] [] (by kernel_rfl) allP_nil ?_
        refine run_br h 30 (.inl (by kernel_rfl)) (fun g562 h => ?_) (fun g562 h => ?_)
        · refine rs 5 [] [] (by kernel_rfl) allP_nil ?_
          refine run_br h 35 (.inl (by kernel_rfl)) (fun g563 h => ?_) (fun g563 h => ?_)
          · refine rs 6 [] [] (by kernel_rfl) allP_nil ?_
            refine rf [(0, bS (((r551.2.2.2.2.1.length : Nat) : Int) == 2))] [(0, .row 47 (fl ([(Want.mk 2 false 0), (Want.mk 3 true 0), (Want.mk 4 false 0)] : List Want))), (1, .row 24 [iS 0, bS true, .own 0 0 ([(Want.mk 2 false 0), (Want.mk 3 true 0), (Want.mk 4 false 0)] : List Want).length]), (2, .row 47 (fl r551.2.2.2.2.1)), (3, .row 3 (fl r551.2.2.2.2.2)), (4, .row 24 [iS r551.1, bS r551.2.1, .own 2 0 r551.2.2.2.2.1.length]), (5, .row 28 (Enc.cells r551.2.2.2.1)), (6, .row 3 (fl ([2] : List Int)))] 7 (by kernel_rfl) ?_
            exact hK558 ((((r551.2.2.2.2.1.length : Nat) : Int) == 2)) _ _ _ h (leSt_m [] [] (by first | ((try simp only [g559, g560, g562, g563]) <;> simp only [push_cast, seval]; done) | ((try simp only [g559]); (try simp only [g560]); (try simp only [g562]); (try simp only [g563]); simp only [push_cast, seval]; done) | (exfalso; clear h; simp_all; done)) (by first | ((try simp only [g559, g560, g562, g563]) <;> simp only [push_cast, seval]; done) | ((try simp only [g559]); (try simp only [g560]); (try simp only [g562]); (try simp only [g563]); simp only [push_cast, seval]; done) | (exfalso; clear h; simp_all; done)) rfl rfl rfl)
          · refine rs 6 [] [] (by kernel_rfl) allP_nil ?_
            refine rf [(0, bS false)] [(0, .row 47 (fl ([(Want.mk 2 false 0), (Want.mk 3 true 0), (Want.mk 4 false 0)] : List Want))), (1, .row 24 [iS 0, bS true, .own 0 0 ([(Want.mk 2 false 0), (Want.mk 3 true 0), (Want.mk 4 false 0)] : List Want).length]), (2, .row 47 (fl r551.2.2.2.2.1)), (3, .row 3 (fl r551.2.2.2.2.2)), (4, .row 24 [iS r551.1, bS r551.2.1, .own 2 0 r551.2.2.2.2.1.length]), (5, .row 28 (Enc.cells r551.2.2.2.1)), (6, .row 3 (fl ([2] : List Int)))] 7 (by kernel_rfl) ?_
            exact hK558 (false) _ _ _ h (leSt_m [] [] (by first | ((try simp only [g559, g560, g562, g563]) <;> simp only [push_cast, seval]; done) | ((try simp only [g559]); (try simp only [g560]); (try simp only [g562]); (try simp only [g563]); simp only [push_cast, seval]; done) | (exfalso; clear h; simp_all; done)) (by first | ((try simp only [g559, g560, g562, g563]) <;> simp only [push_cast, seval]; done) | ((try simp only [g559]); (try simp only [g560]); (try simp only [g562]); (try simp only [g563]); simp only [push_cast, seval]; done) | (exfalso; clear h; simp_all; done)) rfl rfl rfl)
        · refine rs 11 [] [] (by kernel_rfl) allP_nil ?_
          refine rf [(0, bS false)] [(0, .row 47 (fl ([(Want.mk 2 false 0), (Want.mk 3 true 0), (Want.mk 4 false 0)] : List Want))), (1, .row 24 [iS 0, bS true, .own 0 0 ([(Want.mk 2 false 0), (Want.mk 3 true 0), (Want.mk 4 false 0)] : List Want).length]), (2, .row 47 (fl r551.2.2.2.2.1)), (3, .row 3 (fl r551.2.2.2.2.2)), (4, .row 24 [iS r551.1, bS r551.2.1, .own 2 0 r551.2.2.2.2.1.length]), (5, .row 28 (Enc.cells r551.2.2.2.1)), (6, .row 3 (fl ([2] : List Int)))] 7 (by kernel_rfl) ?_
          exact hK558 (false) _ _ _ h (leSt_m [] [] (by first | ((try simp only [g559, g560, g562]) <;> simp only [push_cast, seval]; done) | ((try simp only [g559]); (try simp only [g560]); (try simp only [g562]); simp only [push_cast, seval]; done) | (exfalso; clear h; simp_all; done)) (by first | ((try simp only [g559, g560, g562]) <;> simp only [push_cast, seval]; done) | ((try simp only [g559]); (try simp only [g560]); (try simp only [g562]); simp only [push_cast, seval]; done) | (exfalso; clear h; simp_all; done)) rfl rfl rfl)
      · refine rs 16 [] [] (by kernel_rfl) allP_nil ?_
        refine rf [(0, bS false)] [(0, .row 47 (fl ([(Want.mk 2 false 0), (Want.mk 3 true 0), (Want.mk 4 false 0)] : List Want))), (1, .row 24 [iS 0, bS true, .own 0 0 ([(Want.mk 2 false 0), (Want.mk 3 true 0), (Want.mk 4 false 0)] : List Want).length]), (2, .row 47 (fl r551.2.2.2.2.1)), (3, .row 3 (fl r551.2.2.2.2.2)), (4, .row 24 [iS r551.1, bS r551.2.1, .own 2 0 r551.2.2.2.2.1.length]), (5, .row 28 (Enc.cells r551.2.2.2.1))] 6 (by kernel_rfl) ?_
        exact hK558 (false) _ _ _ h (leSt_m [] [] (by first | ((try simp only [g559, g560]) <;> simp only [push_cast, seval]; done) | ((try simp only [g559]); (try simp only [g560]); simp only [push_cast, seval]; done) | (exfalso; clear h; simp_all; done)) (by first | ((try simp only [g559, g560]) <;> simp only [push_cast, seval]; done) | ((try simp only [g559]); (try simp only [g560]); simp only [push_cast, seval]; done) | (exfalso; clear h; simp_all; done)) rfl rfl rfl)
    · refine rs 20 [] [] (by kernel_rfl) allP_nil ?_
      refine rf [(0, bS false)] [(0, .row 47 (fl ([(Want.mk 2 false 0), (Want.mk 3 true 0), (Want.mk 4 false 0)] : List Want))), (1, .row 24 [iS 0, bS true, .own 0 0 ([(Want.mk 2 false 0), (Want.mk 3 true 0), (Want.mk 4 false 0)] : List Want).length]), (2, .row 47 (fl r551.2.2.2.2.1)), (3, .row 3 (fl r551.2.2.2.2.2)), (4, .row 24 [iS r551.1, bS r551.2.1, .own 2 0 r551.2.2.2.2.1.length]), (5, .row 28 (Enc.cells r551.2.2.2.1))] 6 (by kernel_rfl) ?_
      exact hK558 (false) _ _ _ h (leSt_m [] [] (by (try simp only [g559]) <;> simp only [push_cast, seval]) (by (try simp only [g559]) <;> simp only [push_cast, seval]) rfl rfl rfl)
  · rintro t0q1 h
    try dsimp only at h ⊢
    unfold taskmilllaw_lockBegun_j1 at h
    obtain rfl := Option.some.inj h
    refine ret_at (bS t0q1) (by kernel_rfl) ?_
    exact ret_e [] [] (by simp only [push_cast, seval]) (by simp only [push_cast, seval]) rfl rfl rfl

set_option maxRecDepth 100000 in
set_option maxHeartbeats 10000000 in
theorem taskmilllaw_ownWants_spec (l : (List Want)) (r : (List Want)) (h : taskmilllaw_ownWants l = some r) : SpecW Try.prog 19 [.sl l.length (fl l)] [] 0 (fun x h n => x = .own 0 0 r.length ∧ h = [(0, .row 47 (fl r))] ∧ n = 1) := by
  unfold taskmilllaw_ownWants at h
  refine spec_of (draw_ok _) Try.func19 rfl (by decide) rfl (by kernel_rfl) ?_
  refine seq_np ?_
  refine reg_f ?_
  refine rs 1 [] [] (by kernel_rfl) allP_nil ?_
  refine rf [(0, .sl l.length (fl l))] [] 0 (by kernel_rfl) ?_
  refine wk_id ?_
  refine chk_sx h (fun g572 h => ?_)
  refine seq_np ?_
  refine reg_f ?_
  have k571 : l.length * 24 ≤ 140737488355328 := by first | simpa only [Bool.and_eq_true, decide_eq_true_eq, bne_iff_ne, ne_eq] using g572 | (simp at g572 ⊢; omega)
  refine rs 3 [none, some ⟨.own 0 0 l.length, [(0, .row 47 (fl l))], 1, []⟩] _ (by kernel_rfl) (allP_cons (ob_app0 (P := Try.prog) l 3 24 rfl (fl l) l.length rfl rfl ((fl l).length = l.length * 3) (app_sl l 3 rfl) 47 (by kernel_rfl) (by decide) k571 0 []) allP_nil) ?_
  refine rf [(2, .own 0 0 l.length)] [(0, .row 47 (fl l))] 1 (by kernel_rfl) ?_
  refine wk_id ?_
  obtain rfl := Option.some.inj h
  refine ret_at (.own 0 0 l.length) (by kernel_rfl) ?_
  exact ret_e [(0, 0)] [] (by simp only [push_cast, seval]) (by simp only [push_cast, seval]) rfl rfl rfl

set_option maxRecDepth 100000 in
set_option maxHeartbeats 10000000 in
theorem taskmilllaw_ownLock_spec (l : Lock) (r : Int × Bool × (List Want)) (h : taskmilllaw_ownLock l = some r) : SpecW Try.prog 10 [.agg (Enc.cells l)] [] 0 (fun x h n => x = .agg [iS r.1, bS r.2.1, .own 0 0 r.2.2.length] ∧ h = [(0, .row 47 (fl r.2.2))] ∧ n = 1) := by
  unfold taskmilllaw_ownLock at h
  refine spec_of (draw_ok _) Try.func10 rfl (by decide) rfl (by kernel_rfl) ?_
  refine seq_np ?_
  refine reg_f ?_
  refine rs 2 [] [] (by kernel_rfl) allP_nil ?_
  refine rf [(1, .ptr 0 0), (2, .ptr 1 0)] [(0, .row 24 (Enc.cells l)), (1, .row 24 [iS 0, bS false, .v (.slice none 0 0)])] 2 (by kernel_rfl) ?_
  refine wk_id ?_
  refine seq_np ?_
  refine reg_t ?_
  refine rs 6 [] [] (by kernel_rfl) allP_nil ?_
  obtain ⟨r575, hr575, h⟩ := bind_sx h
  refine call_x (taskmilllaw_ownWants_spec l.Line r575 hr575) (args := [.sl l.Line.length (fl l.Line)]) (dst := (some 9)) (by kernel_rfl) [(0, .row 24 (Enc.cells l)), (1, .row 24 [iS 0, bS false, .v (.slice none 0 0)])] 8 (by kernel_rfl) [] [] (.own 8 0 r575.length) [(8, .row 47 (fl r575))] (by simp only [push_cast, seval]) (by simp only [push_cast, seval]) (by kernel_rfl) (.inl rfl) (by simp only [push_cast, seval]) (by simp only [push_cast, seval]) ?_
  refine rs 2 [] [] (by kernel_rfl) allP_nil ?_
  refine rt [(2, .ptr 1 0)] [(0, .row 24 (Enc.cells l)), (1, .row 24 [iS l.Readers, bS l.Writer, .own 8 0 r575.length]), (8, .row 47 (fl r575))] 12 follows (by kernel_rfl) ?_
  refine wk_id ?_
  obtain rfl := Option.some.inj h
  refine ret_at (.agg [iS l.Readers, bS l.Writer, .own 8 0 r575.length]) (by kernel_rfl) ?_
  exact ret_e [(0, 8)] [] (by simp only [push_cast, seval]) (by simp only [push_cast, seval]) rfl rfl rfl

set_option maxRecDepth 100000 in
set_option maxHeartbeats 10000000 in
theorem lock_Drop_1_spec (w : Want) (c0 : Int) (r : Bool × Int) (h : lock_Drop_1 w c0 = some r) : SpecW Try.prog 28 [.agg (Enc.cells w), .ptr 0 0] [(0, .row 3 [iS c0])] 1 (fun x h n => x = bS r.1 ∧ h = [(0, .row 3 [iS r.2])] ∧ n = 1) := by
  unfold lock_Drop_1 at h
  refine spec_of (draw_ok _) Try.func28 rfl (by decide) rfl (by kernel_rfl) ?_
  refine seq_np ?_
  refine reg_f ?_
  refine rs 2 [] [] (by kernel_rfl) allP_nil ?_
  refine rf [(1, .ptr 0 0), (2, .ptr 1 0)] [(0, .row 3 [iS c0]), (1, .row 47 (Enc.cells w))] 2 (by kernel_rfl) ?_
  refine wk_id ?_
  refine seq_np ?_
  refine reg_f ?_
  refine rs 5 [] [] (by kernel_rfl) allP_nil ?_
  refine rf [(3, bS (w.Task == c0))] [(0, .row 3 [iS c0]), (1, .row 47 (Enc.cells w))] 2 (by kernel_rfl) ?_
  refine wk_id ?_
  obtain rfl := Option.some.inj h
  refine ret_at (bS (w.Task == c0)) (by kernel_rfl) ?_
  exact ret_e [(0, 0)] [] (by simp only [push_cast, seval]) (by simp only [push_cast, seval]) rfl rfl rfl

set_option maxRecDepth 100000 in
set_option maxHeartbeats 10000000 in
theorem slices_IndexFunc_Want_spec (s : (List Want)) (c0 : Int) (r : Int × Int) (h : slices_IndexFunc_Want s c0 = some r) : SpecW Try.prog 27 [.sl s.length (fl s), .clo 28 [.ptr 0 0]] [(0, .row 3 [iS c0])] 1 (fun x h n => x = iS r.1 ∧ h = [(0, .row 3 [iS r.2])] ∧ n = 1) := by
  unfold slices_IndexFunc_Want at h
  refine spec_of (draw_ok _) Try.func27 rfl (by decide) rfl (by kernel_rfl) ?_
  refine seq_np ?_
  refine reg_f ?_
  refine rs 1 [] [] (by kernel_rfl) allP_nil ?_
  refine rf [(0, .sl s.length (fl s)), (1, .clo 28 [.ptr 0 0])] [(0, .row 3 [iS c0])] 1 (by kernel_rfl) ?_
  refine wk_id ?_
  refine seq_np ?_
  refine seq_np ?_
  refine reg_f ?_
  refine rs 3 [] [] (by kernel_rfl) allP_nil ?_
  refine rf [(0, .sl s.length (fl s)), (1, .clo 28 [.ptr 0 0]), (7, iS ((s.length : Nat) : Int)), (8, iS 0)] [(0, .row 3 [iS c0])] 1 (by kernel_rfl) ?_
  refine wk_id ?_
  refine block_np ?_
  refine loop_sx (S := Int × Int) (fun a => ([(0, .sl s.length (fl s)), (1, .clo 28 [.ptr 0 0]), (7, iS ((s.length : Nat) : Int)), (8, iS a.1)], [(0, .row 3 [iS a.2])], 1)) h (leSt_m [(0, 0)] [] (by simp only [push_cast, seval]) (by simp only [push_cast, seval]) rfl rfl rfl) ?_
  rintro ⟨t8q7, c0q9⟩ o2 R2 h hr2 hn2 hx2 ht2
  try dsimp only at h hn2 ⊢
  unfold slices_IndexFunc_Want_l1 at h
  try dsimp only at h
  refine seq_np ?_
  refine reg_f ?_
  refine rs 1 [] [] (by kernel_rfl) allP_nil ?_
  refine rf [(0, .sl s.length (fl s)), (1, .clo 28 [.ptr 0 0]), (7, iS ((s.length : Nat) : Int)), (8, iS t8q7), (9, bS (decide (t8q7 < ((s.length : Nat) : Int))))] [(0, .row 3 [iS c0q9])] 1 (by kernel_rfl) ?_
  refine wk_id ?_
  refine seq_np ?_
  refine cond_sx h (by kernel_rfl) (fun g656 h => ?_) (fun g656 h => ?_)
  · refine wk_id ?_
    refine seq_np ?_
    refine block_np ?_
    refine seq_np ?_
    refine reg_f ?_
    refine rs 2 [] [] (by kernel_rfl) allP_nil ?_
    refine rf [(0, .sl s.length (fl s)), (1, .clo 28 [.ptr 0 0]), (5, iS t8q7), (7, iS ((s.length : Nat) : Int)), (8, iS t8q7)] [(0, .row 3 [iS c0q9])] 1 (by kernel_rfl) ?_
    refine wk_id ?_
    refine chk_sx h (fun g653 h => ?_)
    refine seq_np ?_
    refine reg_f ?_
    have k652 : 0 ≤ t8q7 ∧ t8q7 < ((s.length : Nat) : Int) := by first | simpa only [Bool.and_eq_true, decide_eq_true_eq, bne_iff_ne, ne_eq] using g653 | (simp at g653 ⊢; omega)
    refine rs 5 [none, none, none, some ⟨.iptr (fl s) ((t8q7).toNat * 3), [], 1, []⟩, some ⟨.agg (Enc.cells (ix s t8q7)), [], 1, []⟩] _ (by kernel_rfl) (allP_cons (ob_ldw s t8q7 3 ((t8q7).toNat * 3) k652 rfl (by first | rfl | omega) [iS (ix s t8q7).Task, bS (ix s t8q7).Write, iS (ix s t8q7).N] rfl 1 []) (allP_cons (ob_ix_l s 3 1 t8q7 k652) allP_nil)) ?_
    obtain ⟨r654, hr654, h⟩ := bind_sx h
    refine call_x (lock_Drop_1_spec (ix s t8q7) c0q9 r654 hr654) (args := [.agg (Enc.cells (ix s t8q7)), .ptr 0 0]) (dst := (some 16)) (by kernel_rfl) [(0, .row 3 [iS c0q9])] 1 (by kernel_rfl) [(0, 0)] [] (bS r654.1) [(0, .row 3 [iS r654.2]), (0, .dead)] (by simp only [push_cast, seval]) (by simp only [push_cast, seval]) (by kernel_rfl) (.inl rfl) (by simp only [push_cast, seval]) (by simp only [push_cast, seval]) ?_
    refine rf [(0, .sl s.length (fl s)), (1, .clo 28 [.ptr 0 0]), (5, iS t8q7), (7, iS ((s.length : Nat) : Int)), (8, iS t8q7), (16, bS r654.1)] [(0, .row 3 [iS r654.2])] 2 (by kernel_rfl) ?_
    refine wk_id ?_
    refine cond_sx h (by kernel_rfl) (fun g655 h => ?_) (fun g655 h => ?_)
    · refine seq_np ?_
      refine reg_f ?_
      refine rs 2 [] [] (by kernel_rfl) allP_nil ?_
      refine rf [(4, iS t8q7)] [(0, .row 3 [iS r654.2])] 2 (by kernel_rfl) ?_
      refine wk_id ?_
      refine rt_cast ht2 ?_
      obtain ⟨r0, h, e0⟩ := map_sx h
      have e1 := hr2 r0 e0.symm
      subst r0
      obtain rfl := Option.some.inj h
      refine ret_at (iS t8q7) (by kernel_rfl) ?_
      exact ret_e [(0, 0)] [] (by simp only [push_cast, seval]) (by simp only [push_cast, seval]) rfl rfl rfl
    · refine wk_id ?_
      refine wk_id ?_
      refine reg_f ?_
      refine rs 2 [] [] (by kernel_rfl) allP_nil ?_
      refine rf [(0, .sl s.length (fl s)), (1, .clo 28 [.ptr 0 0]), (7, iS ((s.length : Nat) : Int)), (8, iS (IntKind.i64.wrap (t8q7 + 1)))] [(0, .row 3 [iS r654.2])] 2 (by kernel_rfl) ?_
      exact hn2 ((IntKind.i64.wrap (t8q7 + 1)), r654.2) _ _ _ (Option.some.inj h).symm (leSt_m [(0, 0)] [] (by simp only [push_cast, seval]) (by simp only [push_cast, seval]) rfl rfl rfl)
  · change R2 (.exit 0) _ _ _
    refine ex_cast hx2 (id := 0) ?_
    obtain ⟨r0, h, e0⟩ := map_sx h
    have e1 := hr2 r0 e0.symm
    subst r0
    refine wk_id ?_
    refine wk_id ?_
    refine seq_np ?_
    refine reg_f ?_
    refine rs 1 [] [] (by kernel_rfl) allP_nil ?_
    refine rf [(4, iS (-1))] [(0, .row 3 [iS c0q9])] 1 (by kernel_rfl) ?_
    refine wk_id ?_
    obtain rfl := Option.some.inj h
    refine ret_at (iS (-1)) (by kernel_rfl) ?_
    exact ret_e [(0, 0)] [] (by simp only [push_cast, seval]) (by simp only [push_cast, seval]) rfl rfl rfl

set_option maxRecDepth 100000 in
set_option maxHeartbeats 10000000 in
theorem slices_Delete_Want_1_spec (i : Int) (j : Int) (c0 : (List Want)) (r : (List Want)) (h : slices_Delete_Want_1 i j c0 = some r) : SpecW Try.prog 30 [.own 0 0 c0.length, iS i, iS j] [(0, .row 47 (fl c0))] 1 (fun x h n => x = .own 0 0 r.length ∧ h = [(0, .row 47 (fl r))] ∧ n = 1) := by
  unfold slices_Delete_Want_1 at h
  refine spec_of (draw_ok _) Try.func30 rfl (by decide) rfl (by kernel_rfl) ?_
  refine seq_np ?_
  refine reg_f ?_
  refine rs 1 [] [] (by kernel_rfl) allP_nil ?_
  refine rf [(0, .own 0 0 c0.length), (1, iS i), (2, iS j)] [(0, .row 47 (fl c0))] 1 (by kernel_rfl) ?_
  refine wk_id ?_
  refine chk_sx h (fun g694 h => ?_)
  refine seq_np ?_
  refine reg_f ?_
  have k693 : 0 ≤ i ∧ i ≤ j ∧ j ≤ ((c0.length : Nat) : Int) := by first | simpa only [Bool.and_eq_true, decide_eq_true_eq, bne_iff_ne, ne_eq] using g694 | (simp at g694 ⊢; omega)
  refine rs 5 [] [] (by kernel_rfl) allP_nil ?_
  refine run_bchk (some 13) [0] c0.length i j ((c0.length : Nat) : Int) (by kernel_rfl) ⟨k693.1, k693.2.1, by omega, by omega⟩ ?_
  refine rf [(0, .own 0 0 c0.length), (1, iS i), (2, iS j)] [(0, .row 47 (fl c0))] 1 (by kernel_rfl) ?_
  refine wk_id ?_
  refine seq_np ?_
  refine seq_np ?_
  refine reg_f ?_
  refine rs 3 [] [] (by kernel_rfl) allP_nil ?_
  refine rf [(0, .own 0 0 c0.length), (1, iS i), (2, iS j), (16, bS (i == j))] [(0, .row 47 (fl c0))] 1 (by kernel_rfl) ?_
  refine wk_id ?_
  refine cond_sx h (by kernel_rfl) (fun g736 h => ?_) (fun g736 h => ?_)
  · refine seq_np ?_
    refine reg_f ?_
    refine rs 2 [] [] (by kernel_rfl) allP_nil ?_
    refine rf [(6, .own 0 0 c0.length)] [(0, .row 47 (fl c0))] 1 (by kernel_rfl) ?_
    refine wk_id ?_
    obtain rfl := Option.some.inj h
    refine ret_at (.own 0 0 c0.length) (by kernel_rfl) ?_
    exact ret_e [(0, 0)] [] (by simp only [push_cast, seval]) (by simp only [push_cast, seval]) rfl rfl rfl
  · refine wk_id ?_
    refine seq_np ?_
    refine reg_f ?_
    refine rs 3 [] [] (by kernel_rfl) allP_nil ?_
    refine rf [(0, .own 0 0 c0.length), (1, iS i), (2, iS j), (7, iS ((c0.length : Nat) : Int))] [(0, .row 47 (fl c0))] 1 (by kernel_rfl) ?_
    refine wk_id ?_
    refine chk_sx h (fun g709 h => ?_)
    refine chk_sx h (fun g712 h => ?_)
    refine seq_np ?_
    refine reg_t ?_
    have k708 : 0 ≤ (0 : Int) ∧ (0 : Int) ≤ i ∧ i ≤ ((c0.length : Nat) : Int) := by first | simpa only [Bool.and_eq_true, decide_eq_true_eq, bne_iff_ne, ne_eq] using g709 | (simp at g709 ⊢; omega)
    have f710 : (cut c0 (0 : Int) i).length = (i).toNat - ((0 : Int)).toNat ∧ 0 ≤ (0 : Int) ∧ (0 : Int) ≤ i ∧ i ≤ ((c0.length : Nat) : Int) := ⟨cut_len _ _ _ k708, k708⟩
    have k711 : 0 ≤ j ∧ j ≤ ((c0.length : Nat) : Int) ∧ ((c0.length : Nat) : Int) ≤ ((c0.length : Nat) : Int) := by first | simpa only [Bool.and_eq_true, decide_eq_true_eq, bne_iff_ne, ne_eq] using g712 | (simp at g712 ⊢; omega)
    have f713 : (cut c0 j ((c0.length : Nat) : Int)).length = (((c0.length : Nat) : Int)).toNat - (j).toNat ∧ 0 ≤ j ∧ j ≤ ((c0.length : Nat) : Int) ∧ ((c0.length : Nat) : Int) ≤ ((c0.length : Nat) : Int) := ⟨cut_len _ _ _ k711, k711⟩
    refine rs 6 [none, none, some ⟨.own 0 (((0 : Int)).toNat * 3) (cut c0 (0 : Int) i).length, [], 3, [0]⟩, none, none, some ⟨.own 0 ((j).toNat * 3) (cut c0 j ((c0.length : Nat) : Int)).length, [], 6, [0]⟩] _ (by kernel_rfl) (allP_cons (ob_cutP (P := Try.prog) c0 j ((c0.length : Nat) : Int) 3 6 0 47 (by kernel_rfl) k711) (allP_cons (ob_cutP (P := Try.prog) c0 (0 : Int) i 3 3 0 47 (by kernel_rfl) k708) allP_nil)) ?_
    have k716 : i + ((((cut c0 j ((c0.length : Nat) : Int))).length : Nat) : Int) ≤ ((c0.length : Nat) : Int) := by omega
    have k715 : (putL c0 (cut c0 j ((c0.length : Nat) : Int)) (i).toNat).length = c0.length := putL_len (by omega)
    refine run_appIn c0 (cut c0 j ((c0.length : Nat) : Int)) (some 26) 0 (((0 : Int)).toNat * 3) (cut c0 (0 : Int) i).length 3 (cut c0 j ((c0.length : Nat) : Int)).length 47 22 (.own 0 ((j).toNat * 3) (cut c0 j ((c0.length : Nat) : Int)).length) (appCells (fl c0) ((j).toNat * 3) ((cut c0 j ((c0.length : Nat) : Int)).length * 3)) [0] (((j).toNat * 3) + (cut c0 j ((c0.length : Nat) : Int)).length * 3 ≤ (fl c0).length) (0 : Int) i (by kernel_rfl) (by kernel_rfl) (app_cut_le c0 j ((c0.length : Nat) : Int) 3 rfl k711) (app_cut c0 j ((c0.length : Nat) : Int) 3 rfl) rfl rfl (by decide) (by first | rfl | simp) f710 k716 ?_
    have f714 : ((cut c0 (0 : Int) i).length + (cut c0 j ((c0.length : Nat) : Int)).length) = ((i + (((cut c0 j ((c0.length : Nat) : Int)).length : Nat) : Int))).toNat - ((0 : Int)).toNat ∧ 0 ≤ (0 : Int) ∧ (0 : Int) ≤ (i + (((cut c0 j ((c0.length : Nat) : Int)).length : Nat) : Int)) ∧ (i + (((cut c0 j ((c0.length : Nat) : Int)).length : Nat) : Int)) ≤ (((putL c0 (cut c0 j ((c0.length : Nat) : Int)) (i).toNat).length : Nat) : Int) := by omega
    have f717 : (cut c0 (0 : Int) i).length = (i).toNat - ((0 : Int)).toNat ∧ 0 ≤ (0 : Int) ∧ (0 : Int) ≤ i ∧ i ≤ (((putL c0 (cut c0 j ((c0.length : Nat) : Int)) (i).toNat).length : Nat) : Int) := ⟨f710.1, f710.2.1, f710.2.2.1, by rw [k715]; exact f710.2.2.2⟩
    have f718 : (cut c0 j ((c0.length : Nat) : Int)).length = (((c0.length : Nat) : Int)).toNat - (j).toNat ∧ 0 ≤ j ∧ j ≤ ((c0.length : Nat) : Int) ∧ ((c0.length : Nat) : Int) ≤ (((putL c0 (cut c0 j ((c0.length : Nat) : Int)) (i).toNat).length : Nat) : Int) := ⟨f713.1, f713.2.1, f713.2.2.1, by rw [k715]; exact f713.2.2.2⟩
    have t719 : (cut (putL c0 (cut c0 j ((c0.length : Nat) : Int)) (i).toNat) 0 (i + (((cut c0 j ((c0.length : Nat) : Int)).length : Nat) : Int))).length = ((cut c0 (0 : Int) i).length + (cut c0 j ((c0.length : Nat) : Int)).length) := by rw [cut_len _ _ _ f714.2]; exact f714.1.symm
    refine rs 1 [] [] (by kernel_rfl) allP_nil ?_
    refine rt [(0, .own 0 (((0 : Int)).toNat * 3) ((cut c0 (0 : Int) i).length + (cut c0 j ((c0.length : Nat) : Int)).length)), (7, iS ((c0.length : Nat) : Int))] [(0, .row 47 (fl (putL c0 (cut c0 j ((c0.length : Nat) : Int)) (i).toNat)))] 9 follows (by kernel_rfl) ?_
    refine wk_id ?_
    refine seq_np ?_
    refine reg_f ?_
    refine rs 4 [] [] (by kernel_rfl) allP_nil ?_
    have k729 : 0 ≤ ((((cut c0 (0 : Int) i).length + (cut c0 j ((c0.length : Nat) : Int)).length) : Nat) : Int) ∧ ((((cut c0 (0 : Int) i).length + (cut c0 j ((c0.length : Nat) : Int)).length) : Nat) : Int) ≤ ((c0.length : Nat) : Int) ∧ (0 : Int) + ((c0.length : Nat) : Int) ≤ (((putL c0 (cut c0 j ((c0.length : Nat) : Int)) (i).toNat).length : Nat) : Int) := by omega
    have f728 : ((((c0.length : Nat) : Int)).toNat - (((((cut c0 (0 : Int) i).length + (cut c0 j ((c0.length : Nat) : Int)).length) : Nat) : Int)).toNat) = (((c0.length : Nat) : Int)).toNat - (((((cut c0 (0 : Int) i).length + (cut c0 j ((c0.length : Nat) : Int)).length) : Nat) : Int)).toNat ∧ 0 ≤ ((((cut c0 (0 : Int) i).length + (cut c0 j ((c0.length : Nat) : Int)).length) : Nat) : Int) ∧ ((((cut c0 (0 : Int) i).length + (cut c0 j ((c0.length : Nat) : Int)).length) : Nat) : Int) ≤ ((c0.length : Nat) : Int) ∧ ((c0.length : Nat) : Int) ≤ (((putL c0 (cut c0 j ((c0.length : Nat) : Int)) (i).toNat).length : Nat) : Int) := by omega
    refine run_sub (putL c0 (cut c0 j ((c0.length : Nat) : Int)) (i).toNat) (some 31) 0 (((0 : Int)).toNat * 3) ((cut c0 (0 : Int) i).length + (cut c0 j ((c0.length : Nat) : Int)).length) 3 47 ((((cut c0 (0 : Int) i).length + (cut c0 j ((c0.length : Nat) : Int)).length) : Nat) : Int) ((c0.length : Nat) : Int) (0 : Int) (by kernel_rfl) rfl (by decide) (by first | rfl | simp) f714.2.1 k729 ((((((cut c0 (0 : Int) i).length + (cut c0 j ((c0.length : Nat) : Int)).length) : Nat) : Int)).toNat * 3) ((((c0.length : Nat) : Int)).toNat - (((((cut c0 (0 : Int) i).length + (cut c0 j ((c0.length : Nat) : Int)).length) : Nat) : Int)).toNat) (by first | rfl | rw [Int.zero_add]) rfl ?_
    have k730 : (wipe (putL c0 (cut c0 j ((c0.length : Nat) : Int)) (i).toNat) ((((cut c0 (0 : Int) i).length + (cut c0 j ((c0.length : Nat) : Int)).length) : Nat) : Int) ((c0.length : Nat) : Int)).length = (putL c0 (cut c0 j ((c0.length : Nat) : Int)) (i).toNat).length := wipe_len (by omega)
    refine run_clr (putL c0 (cut c0 j ((c0.length : Nat) : Int)) (i).toNat) none 0 ((((((cut c0 (0 : Int) i).length + (cut c0 j ((c0.length : Nat) : Int)).length) : Nat) : Int)).toNat * 3) ((((c0.length : Nat) : Int)).toNat - (((((cut c0 (0 : Int) i).length + (cut c0 j ((c0.length : Nat) : Int)).length) : Nat) : Int)).toNat) 3 47 [.v (.int .i64 0), .v (.bool false), .v (.int .i64 0)] ((((cut c0 (0 : Int) i).length + (cut c0 j ((c0.length : Nat) : Int)).length) : Nat) : Int) ((c0.length : Nat) : Int) (by kernel_rfl) rfl rfl (by decide) (by first | rfl | simp) f728 ?_
    have f731 : (cut c0 (0 : Int) i).length = (i).toNat - ((0 : Int)).toNat ∧ 0 ≤ (0 : Int) ∧ (0 : Int) ≤ i ∧ i ≤ (((wipe (putL c0 (cut c0 j ((c0.length : Nat) : Int)) (i).toNat) ((((cut c0 (0 : Int) i).length + (cut c0 j ((c0.length : Nat) : Int)).length) : Nat) : Int) ((c0.length : Nat) : Int)).length : Nat) : Int) := ⟨f717.1, f717.2.1, f717.2.2.1, by rw [k730]; exact f717.2.2.2⟩
    have f732 : (cut c0 j ((c0.length : Nat) : Int)).length = (((c0.length : Nat) : Int)).toNat - (j).toNat ∧ 0 ≤ j ∧ j ≤ ((c0.length : Nat) : Int) ∧ ((c0.length : Nat) : Int) ≤ (((wipe (putL c0 (cut c0 j ((c0.length : Nat) : Int)) (i).toNat) ((((cut c0 (0 : Int) i).length + (cut c0 j ((c0.length : Nat) : Int)).length) : Nat) : Int) ((c0.length : Nat) : Int)).length : Nat) : Int) := ⟨f718.1, f718.2.1, f718.2.2.1, by rw [k730]; exact f718.2.2.2⟩
    have f733 : ((cut c0 (0 : Int) i).length + (cut c0 j ((c0.length : Nat) : Int)).length) = ((i + (((cut c0 j ((c0.length : Nat) : Int)).length : Nat) : Int))).toNat - ((0 : Int)).toNat ∧ 0 ≤ (0 : Int) ∧ (0 : Int) ≤ (i + (((cut c0 j ((c0.length : Nat) : Int)).length : Nat) : Int)) ∧ (i + (((cut c0 j ((c0.length : Nat) : Int)).length : Nat) : Int)) ≤ (((wipe (putL c0 (cut c0 j ((c0.length : Nat) : Int)) (i).toNat) ((((cut c0 (0 : Int) i).length + (cut c0 j ((c0.length : Nat) : Int)).length) : Nat) : Int) ((c0.length : Nat) : Int)).length : Nat) : Int) := ⟨f714.1, f714.2.1, f714.2.2.1, by rw [k730]; exact f714.2.2.2⟩
    have t734 : (cut (wipe (putL c0 (cut c0 j ((c0.length : Nat) : Int)) (i).toNat) ((((cut c0 (0 : Int) i).length + (cut c0 j ((c0.length : Nat) : Int)).length) : Nat) : Int) ((c0.length : Nat) : Int)) 0 (i + (((cut c0 j ((c0.length : Nat) : Int)).length : Nat) : Int))).length = ((cut c0 (0 : Int) i).length + (cut c0 j ((c0.length : Nat) : Int)).length) := by rw [cut_len _ _ _ f733.2]; exact f733.1.symm
    have f735 : ((((c0.length : Nat) : Int)).toNat - (((((cut c0 (0 : Int) i).length + (cut c0 j ((c0.length : Nat) : Int)).length) : Nat) : Int)).toNat) = (((c0.length : Nat) : Int)).toNat - (((((cut c0 (0 : Int) i).length + (cut c0 j ((c0.length : Nat) : Int)).length) : Nat) : Int)).toNat ∧ 0 ≤ ((((cut c0 (0 : Int) i).length + (cut c0 j ((c0.length : Nat) : Int)).length) : Nat) : Int) ∧ ((((cut c0 (0 : Int) i).length + (cut c0 j ((c0.length : Nat) : Int)).length) : Nat) : Int) ≤ ((c0.length : Nat) : Int) ∧ ((c0.length : Nat) : Int) ≤ (((wipe (putL c0 (cut c0 j ((c0.length : Nat) : Int)) (i).toNat) ((((cut c0 (0 : Int) i).length + (cut c0 j ((c0.length : Nat) : Int)).length) : Nat) : Int) ((c0.length : Nat) : Int)).length : Nat) : Int) := ⟨f728.1, f728.2.1, f728.2.2.1, by rw [k730]; exact f728.2.2.2⟩
    refine rf [(0, .own 0 (((0 : Int)).toNat * 3) ((cut c0 (0 : Int) i).length + (cut c0 j ((c0.length : Nat) : Int)).length))] [(0, .row 47 (fl (wipe (putL c0 (cut c0 j ((c0.length : Nat) : Int)) (i).toNat) ((((cut c0 (0 : Int) i).length + (cut c0 j ((c0.length : Nat) : Int)).length) : Nat) : Int) ((c0.length : Nat) : Int))))] 9 (by kernel_rfl) ?_
    refine wk_id ?_
    refine seq_np ?_
    refine reg_f ?_
    refine rs 2 [] [] (by kernel_rfl) allP_nil ?_
    refine rf [(6, .own 0 (((0 : Int)).toNat * 3) ((cut c0 (0 : Int) i).length + (cut c0 j ((c0.length : Nat) : Int)).length))] [(0, .row 47 (fl (wipe (putL c0 (cut c0 j ((c0.length : Nat) : Int)) (i).toNat) ((((cut c0 (0 : Int) i).length + (cut c0 j ((c0.length : Nat) : Int)).length) : Nat) : Int) ((c0.length : Nat) : Int))))] 9 (by kernel_rfl) ?_
    refine wk_id ?_
    obtain rfl := Option.some.inj h
    refine ret_at (.own 0 (((0 : Int)).toNat * 3) ((cut c0 (0 : Int) i).length + (cut c0 j ((c0.length : Nat) : Int)).length)) (by kernel_rfl) ?_
    exact ret_e [(0, 0)] [] (by (try simp only [t734]) <;> simp only [push_cast, seval]) (by (try simp only [t734]) <;> simp only [push_cast, seval]) rfl rfl rfl

set_option maxRecDepth 100000 in
set_option maxHeartbeats 10000000 in
theorem lock_Drop_spec (l : Lock) (task : Int) (r : Int × Bool × Fault × (List Want) × (List Int)) (h : lock_Drop l task = some r) : SpecW Try.prog 11 [.agg (Enc.cells l), iS task] [] 0 (fun x h n => x = .tup [.agg [iS r.1, bS r.2.1, .own 0 0 r.2.2.2.1.length], .own 1 0 r.2.2.2.2.length, .agg (Enc.cells r.2.2.1)] ∧ h = [(0, .row 47 (fl r.2.2.2.1)), (1, .row 3 (fl r.2.2.2.2))] ∧ n = 2) := by
  unfold lock_Drop at h
  refine spec_of (draw_ok _) Try.func11 rfl (by decide) rfl (by kernel_rfl) ?_
  refine seq_np ?_
  refine reg_f ?_
  refine rs 5 [] [] (by kernel_rfl) allP_nil ?_
  refine rf [(2, .ptr 0 0), (3, .ptr 1 0), (4, .ptr 2 0), (6, .ptr 3 0)] [(0, .row 24 (Enc.cells l)), (1, .row 3 [iS task]), (2, .row 24 [iS 0, bS false, .v (.slice none 0 0)]), (3, .row 28 [iS 0, iS 0])] 4 (by kernel_rfl) ?_
  refine wk_id ?_
  refine seq_np ?_
  refine seq_np ?_
  refine reg_f ?_
  refine rs 1 [] [] (by kernel_rfl) allP_nil ?_
  obtain ⟨r742, hr742, h⟩ := bind_sx h
  refine run_call 20 [.agg (Enc.cells l)] (some 12) (by kernel_rfl) ?_
  refine call_0 (lock_Check_spec l r742 hr742) (by simp only [push_cast, seval]) (by simp only [push_cast, seval]) ?_
  refine back_f ?_
  refine rs 2 [] [] (by kernel_rfl) allP_nil ?_
  refine rf [(2, .ptr 0 0), (3, .ptr 1 0), (4, .ptr 2 0), (6, .ptr 3 0), (7, .ptr 4 0)] [(0, .row 24 (Enc.cells l)), (1, .row 3 [iS task]), (2, .row 24 [iS 0, bS false, .v (.slice none 0 0)]), (3, .row 28 [iS 0, iS 0]), (4, .row 28 (Enc.cells r742))] 5 (by kernel_rfl) ?_
  refine wk_id ?_
  refine seq_np ?_
  refine reg_f ?_
  refine rs 3 [] [] (by kernel_rfl) allP_nil ?_
  refine rf [(2, .ptr 0 0), (3, .ptr 1 0), (4, .ptr 2 0), (6, .ptr 3 0), (7, .ptr 4 0), (15, bS (r742.Code != 0))] [(0, .row 24 (Enc.cells l)), (1, .row 3 [iS task]), (2, .row 24 [iS 0, bS false, .v (.slice none 0 0)]), (3, .row 28 [iS 0, iS 0]), (4, .row 28 (Enc.cells r742))] 5 (by kernel_rfl) ?_
  refine wk_id ?_
  refine cond_sx h (by kernel_rfl) (fun g756 h => ?_) (fun g756 h => ?_)
  · refine seq_np ?_
    refine reg_t ?_
    refine rs 5 [] [] (by kernel_rfl) allP_nil ?_
    refine rt [(4, .ptr 2 0), (5, .v (.slice none 0 0)), (6, .ptr 3 0)] [(0, .row 24 (Enc.cells l)), (1, .row 3 [iS task]), (2, .row 24 [iS 0, bS false, .v (.slice none 0 0)]), (3, .row 28 (Enc.cells r742)), (4, .row 28 (Enc.cells r742))] 10 follows (by kernel_rfl) ?_
    refine wk_id ?_
    obtain rfl := Option.some.inj h
    refine ret_at (.tup [.agg [iS 0, bS false, .v (.slice none 0 0)], .v (.slice none 0 0), .agg (Enc.cells r742)]) (by kernel_rfl) ?_
    exact ret_e [] [] (by simp only [push_cast, seval]) (by simp only [push_cast, seval]) rfl rfl rfl
  · refine wk_id ?_
    refine seq_np ?_
    refine reg_f ?_
    refine rs 3 [] [] (by kernel_rfl) allP_nil ?_
    obtain ⟨r744, hr744, h⟩ := bind_sx h
    refine call_x (slices_IndexFunc_Want_spec l.Line task r744 hr744) (args := [.sl l.Line.length (fl l.Line), .clo 28 [.ptr 1 0]]) (dst := (some 21)) (by kernel_rfl) [(0, .row 24 (Enc.cells l)), (1, .row 3 [iS task]), (2, .row 24 [iS 0, bS false, .v (.slice none 0 0)]), (3, .row 28 [iS 0, iS 0]), (4, .row 28 (Enc.cells r742))] 5 (by kernel_rfl) [(0, 1)] [] (iS r744.1) [(1, .row 3 [iS r744.2]), (1, .dead)] (by simp only [push_cast, seval]) (by simp only [push_cast, seval]) (by kernel_rfl) (.inl rfl) (by simp only [push_cast, seval]) (by simp only [push_cast, seval]) ?_
    refine rs 1 [] [] (by kernel_rfl) allP_nil ?_
    refine rf [(2, .ptr 0 0), (4, .ptr 2 0), (6, .ptr 3 0), (8, iS r744.1)] [(0, .row 24 (Enc.cells l)), (1, .row 3 [iS r744.2]), (2, .row 24 [iS 0, bS false, .v (.slice none 0 0)]), (3, .row 28 [iS 0, iS 0]), (4, .row 28 (Enc.cells r742))] 6 (by kernel_rfl) ?_
    refine wk_id ?_
    refine seq_np ?_
    refine seq_np ?_
    refine reg_f ?_
    refine rs 2 [] [] (by kernel_rfl) allP_nil ?_
    refine rf [(2, .ptr 0 0), (4, .ptr 2 0), (6, .ptr 3 0), (8, iS r744.1), (23, bS (decide (r744.1 < 0)))] [(0, .row 24 (Enc.cells l)), (1, .row 3 [iS r744.2]), (2, .row 24 [iS 0, bS false, .v (.slice none 0 0)]), (3, .row 28 [iS 0, iS 0]), (4, .row 28 (Enc.cells r742))] 6 (by kernel_rfl) ?_
    refine wk_id ?_
    refine cond_sx h (by kernel_rfl) (fun g755 h => ?_) (fun g755 h => ?_)
    · refine seq_np ?_
      refine reg_f ?_
      refine rs 1 [] [] (by kernel_rfl) allP_nil ?_
      obtain ⟨r748, hr748, h⟩ := bind_sx h
      refine run_call 29 [iS 6, iS 0] (some 25) (by kernel_rfl) ?_
      refine call_0 (lock_fault_spec 6 0 r748 hr748) (by simp only [push_cast, seval]) (by simp only [push_cast, seval]) ?_
      refine back_f ?_
      refine rs 3 [] [] (by kernel_rfl) allP_nil ?_
      refine rf [(4, .ptr 2 0), (5, .v (.slice none 0 0)), (6, .ptr 3 0)] [(0, .row 24 (Enc.cells l)), (1, .row 3 [iS r744.2]), (2, .row 24 [iS 0, bS false, .v (.slice none 0 0)]), (3, .row 28 (Enc.cells r748)), (4, .row 28 (Enc.cells r742))] 6 (by kernel_rfl) ?_
      refine wk_id ?_
      obtain rfl := Option.some.inj h
      refine ret_at (.tup [.agg [iS 0, bS false, .v (.slice none 0 0)], .v (.slice none 0 0), .agg (Enc.cells r748)]) (by kernel_rfl) ?_
      exact ret_e [] [] (by simp only [push_cast, seval]) (by simp only [push_cast, seval]) rfl rfl rfl
    · refine wk_id ?_
      refine seq_np ?_
      refine reg_f ?_
      refine rs 1 [] [] (by kernel_rfl) allP_nil ?_
      obtain ⟨r750, hr750, h⟩ := bind_sx h
      refine call_x (lock_copied_spec l r750 hr750) (args := [.agg (Enc.cells l)]) (dst := (some 27)) (by kernel_rfl) [(0, .row 24 (Enc.cells l)), (1, .row 3 [iS r744.2]), (2, .row 24 [iS 0, bS false, .v (.slice none 0 0)]), (3, .row 28 [iS 0, iS 0]), (4, .row 28 (Enc.cells r742))] 6 (by kernel_rfl) [] [] (.ptr 6 0) [(6, .row 24 [iS r750.1, bS r750.2.1, .own 7 0 r750.2.2.length]), (7, .row 47 (fl r750.2.2))] (by simp only [push_cast, seval]) (by simp only [push_cast, seval]) (by kernel_rfl) (.inl rfl) (by simp only [push_cast, seval]) (by simp only [push_cast, seval]) ?_
      refine rs 1 [] [] (by kernel_rfl) allP_nil ?_
      refine rf [(4, .ptr 2 0), (6, .ptr 3 0), (8, iS r744.1), (9, .ptr 6 0)] [(0, .row 24 (Enc.cells l)), (1, .row 3 [iS r744.2]), (2, .row 24 [iS 0, bS false, .v (.slice none 0 0)]), (3, .row 28 [iS 0, iS 0]), (4, .row 28 (Enc.cells r742)), (6, .row 24 [iS r750.1, bS r750.2.1, .own 7 0 r750.2.2.length]), (7, .row 47 (fl r750.2.2))] 8 (by kernel_rfl) ?_
      refine wk_id ?_
      refine seq_np ?_
      refine reg_f ?_
      refine rs 8 [] [] (by kernel_rfl) allP_nil ?_
      obtain ⟨r752, hr752, h⟩ := bind_sx h
      refine call_x (slices_Delete_Want_1_spec r744.1 (IntKind.i64.wrap (r744.1 + 1)) r750.2.2 r752 hr752) (args := [.own 7 0 r750.2.2.length, iS r744.1, iS (IntKind.i64.wrap (r744.1 + 1))]) (dst := (some 36)) (by kernel_rfl) [(0, .row 24 (Enc.cells l)), (1, .row 3 [iS r744.2]), (2, .row 24 [iS 0, bS false, .v (.slice none 0 0)]), (3, .row 28 [iS 0, iS 0]), (4, .row 28 (Enc.cells r742)), (6, .row 24 [iS r750.1, bS r750.2.1, .own 7 0 r750.2.2.length]), (7, .row 47 (fl r750.2.2))] 8 (by kernel_rfl) [(0, 7)] [] (.own 7 0 r752.length) [(7, .row 47 (fl r752)), (7, .dead)] (by simp only [push_cast, seval]) (by simp only [push_cast, seval]) (by kernel_rfl) (.inl rfl) (by simp only [push_cast, seval]) (by simp only [push_cast, seval]) ?_
      refine rs 3 [] [] (by kernel_rfl) allP_nil ?_
      refine rf [(4, .ptr 2 0), (6, .ptr 3 0), (9, .ptr 6 0)] [(0, .row 24 (Enc.cells l)), (1, .row 3 [iS r744.2]), (2, .row 24 [iS 0, bS false, .v (.slice none 0 0)]), (3, .row 28 [iS 0, iS 0]), (4, .row 28 (Enc.cells r742)), (6, .row 24 [iS r750.1, bS r750.2.1, .own 7 0 r752.length]), (7, .row 47 (fl r752))] 9 (by kernel_rfl) ?_
      refine wk_id ?_
      refine seq_np ?_
      refine reg_f ?_
      refine rs 1 [] [] (by kernel_rfl) allP_nil ?_
      obtain ⟨r754, hr754, h⟩ := bind_sx h
      refine call_x (lock_admit_spec r750.1 r750.2.1 r752 r754 hr754) (args := [.ptr 6 0]) (dst := (some 40)) (by kernel_rfl) [(0, .row 24 (Enc.cells l)), (1, .row 3 [iS r744.2]), (2, .row 24 [iS 0, bS false, .v (.slice none 0 0)]), (3, .row 28 [iS 0, iS 0]), (4, .row 28 (Enc.cells r742)), (6, .row 24 [iS r750.1, bS r750.2.1, .own 7 0 r752.length]), (7, .row 47 (fl r752))] 9 (by kernel_rfl) [(0, 6), (1, 7)] [] (.own 11 0 r754.1.length) [(6, .row 24 [iS r754.2.1, bS r754.2.2.1, .own 12 0 r754.2.2.2.length]), (7, .dead), (11, .row 3 (fl r754.1)), (12, .row 47 (fl r754.2.2.2)), (6, .dead), (7, .dead)] (by simp only [push_cast, seval]) (by simp only [push_cast, seval]) (by kernel_rfl) (.inl rfl) (by simp only [push_cast, seval]) (by simp only [push_cast, seval]) ?_
      refine rs 1 [] [] (by kernel_rfl) allP_nil ?_
      refine rf [(4, .ptr 2 0), (6, .ptr 3 0), (9, .ptr 6 0), (10, .own 11 0 r754.1.length)] [(0, .row 24 (Enc.cells l)), (1, .row 3 [iS r744.2]), (2, .row 24 [iS 0, bS false, .v (.slice none 0 0)]), (3, .row 28 [iS 0, iS 0]), (4, .row 28 (Enc.cells r742)), (6, .row 24 [iS r754.2.1, bS r754.2.2.1, .own 12 0 r754.2.2.2.length]), (7, .dead), (11, .row 3 (fl r754.1)), (12, .row 47 (fl r754.2.2.2))] 13 (by kernel_rfl) ?_
      refine wk_id ?_
      refine seq_np ?_
      refine reg_f ?_
      refine rs 8 [] [] (by kernel_rfl) allP_nil ?_
      refine rf [(4, .ptr 2 0), (5, .own 11 0 r754.1.length), (6, .ptr 3 0)] [(0, .row 24 (Enc.cells l)), (1, .row 3 [iS r744.2]), (2, .row 24 [iS r754.2.1, bS r754.2.2.1, .own 12 0 r754.2.2.2.length]), (3, .row 28 [iS 0, iS 0]), (4, .row 28 (Enc.cells r742)), (6, .row 24 [iS r754.2.1, bS r754.2.2.1, .own 12 0 r754.2.2.2.length]), (7, .dead), (11, .row 3 (fl r754.1)), (12, .row 47 (fl r754.2.2.2))] 13 (by kernel_rfl) ?_
      refine wk_id ?_
      obtain rfl := Option.some.inj h
      refine ret_at (.tup [.agg [iS r754.2.1, bS r754.2.2.1, .own 12 0 r754.2.2.2.length], .own 11 0 r754.1.length, .agg [iS 0, iS 0]]) (by kernel_rfl) ?_
      exact ret_e [(0, 12), (1, 11)] [] (by simp only [push_cast, seval]) (by simp only [push_cast, seval]) rfl rfl rfl

set_option maxRecDepth 100000 in
set_option maxHeartbeats 10000000 in
theorem taskmillref_F_spec (code : Int) (xat : Int) (r : Fault) (h : taskmillref_F code xat = some r) : SpecW Try.prog 18 [iS code, iS xat] [] 0 (fun x h n => x = .agg (Enc.cells r) ∧ h = [] ∧ n = 0) := by
  unfold taskmillref_F at h
  refine spec_of (draw_ok _) Try.func18 rfl (by decide) rfl (by kernel_rfl) ?_
  refine seq_np ?_
  refine reg_f ?_
  refine rs 1 [] [] (by kernel_rfl) allP_nil ?_
  refine rf [(0, iS code), (1, iS xat), (4, .ptr 0 0)] [(0, .row 28 [iS 0, iS 0])] 1 (by kernel_rfl) ?_
  refine wk_id ?_
  refine seq_np ?_
  refine reg_f ?_
  refine rs 4 [] [] (by kernel_rfl) allP_nil ?_
  refine rf [(4, .ptr 0 0)] [(0, .row 28 [iS code, iS xat])] 1 (by kernel_rfl) ?_
  refine wk_id ?_
  obtain rfl := Option.some.inj h
  refine ret_at (.agg [iS code, iS xat]) (by kernel_rfl) ?_
  exact ret_e [] [] (by simp only [push_cast, seval]) (by simp only [push_cast, seval]) rfl rfl rfl

set_option maxRecDepth 100000 in
set_option maxHeartbeats 10000000 in
theorem taskmillref_Admitted_spec (l : Lock) (r : Lock × (List Int)) (h : taskmillref_Admitted l = some r) : SpecW Try.prog 14 [.agg (Enc.cells l)] [] 0 (fun x h n => x = .tup [.agg (Enc.cells r.1), .own 0 0 r.2.length] ∧ h = [(0, .row 3 (fl r.2))] ∧ n = 1) := by
  unfold taskmillref_Admitted at h
  refine spec_of (draw_ok _) Try.func14 rfl (by decide) rfl (by kernel_rfl) ?_
  refine seq_np ?_
  refine reg_f ?_
  refine rs 3 [] [] (by kernel_rfl) allP_nil ?_
  refine rf [(1, .ptr 0 0), (2, .ptr 1 0)] [(0, .row 24 (Enc.cells l)), (1, .row 24 [iS 0, bS false, .v (.slice none 0 0)])] 2 (by kernel_rfl) ?_
  refine wk_id ?_
  refine seq_np ?_
  refine reg_f ?_
  refine rs 1 [] [] (by kernel_rfl) allP_nil ?_
  refine rf [(1, .ptr 0 0), (2, .ptr 1 0), (4, .v (.slice none 0 0))] [(0, .row 24 (Enc.cells l)), (1, .row 24 [iS 0, bS false, .v (.slice none 0 0)])] 2 (by kernel_rfl) ?_
  refine wk_id ?_
  refine seq_np ?_
  refine block_cut (A := Lock × (List Int)) (fun a => ([(1, .ptr 0 0), (2, .ptr 1 0), (4, .own 2 0 a.2.length)], [(0, .row 24 (Enc.cells a.1)), (1, .row 24 [iS 0, bS false, .v (.slice none 0 0)]), (2, .row 3 (fl a.2))], 3)) (fun a => (taskmillref_Admitted_j1 a.1 a.2) = some r) (fun K891 hK891 => ?_) ?_
  · refine loop_sx (S := Lock × (List Int)) (fun a => ([(1, .ptr 0 0), (2, .ptr 1 0), (4, .own 2 0 a.2.length)], [(0, .row 24 (Enc.cells a.1)), (1, .row 24 [iS 0, bS false, .v (.slice none 0 0)]), (2, .row 3 (fl a.2))], 3)) h (leSt_m [(0, 0), (1, 1)] [] (by simp only [push_cast, seval]) (by simp only [push_cast, seval]) rfl rfl rfl) ?_
    rintro ⟨c0q22, c2q10⟩ o2 R2 h hr2 hn2 hx2 ht2
    try dsimp only at h hn2 ⊢
    unfold taskmillref_Admitted_l1 at h
    try dsimp only at h
    refine seq_np ?_
    refine seq_np ?_
    refine reg_f ?_
    refine rs 4 [] [] (by kernel_rfl) allP_nil ?_
    refine rf [(1, .ptr 0 0), (2, .ptr 1 0), (4, .own 2 0 c2q10.length), (9, bS (decide ((0 : Int) < ((c0q22.Line.length : Nat) : Int))))] [(0, .row 24 (Enc.cells c0q22)), (1, .row 24 [iS 0, bS false, .v (.slice none 0 0)]), (2, .row 3 (fl c2q10))] 3 (by kernel_rfl) ?_
    refine wk_id ?_
    refine cond_sx h (by kernel_rfl) (fun g945 h => ?_) (fun g945 h => ?_)
    · refine wk_id ?_
      refine block_np ?_
      refine chk_sx h (fun g923 h => ?_)
      refine seq_np ?_
      refine reg_f ?_
      have k922 : 0 ≤ (0 : Int) ∧ (0 : Int) < ((c0q22.Line.length : Nat) : Int) := by first | simpa only [Bool.and_eq_true, decide_eq_true_eq, bne_iff_ne, ne_eq] using g923 | (simp at g923 ⊢; omega)
      refine rs 6 [none, none, some ⟨.iptr (fl c0q22.Line) (((0 : Int)).toNat * 3), [], 3, []⟩, some ⟨.agg (Enc.cells (ix c0q22.Line (0 : Int))), [], 3, []⟩] _ (by kernel_rfl) (allP_cons (ob_ldw c0q22.Line (0 : Int) 3 (((0 : Int)).toNat * 3) k922 rfl (by first | rfl | omega) [iS (ix c0q22.Line (0 : Int)).Task, bS (ix c0q22.Line (0 : Int)).Write, iS (ix c0q22.Line (0 : Int)).N] rfl 3 []) (allP_cons (ob_ix_l c0q22.Line 3 3 0 k922) allP_nil)) ?_
      refine rf [(1, .ptr 0 0), (2, .ptr 1 0), (4, .own 2 0 c2q10.length), (5, .ptr 3 0)] [(0, .row 24 (Enc.cells c0q22)), (1, .row 24 [iS 0, bS false, .v (.slice none 0 0)]), (2, .row 3 (fl c2q10)), (3, .row 47 (Enc.cells (ix c0q22.Line (0 : Int))))] 4 (by kernel_rfl) ?_
      refine wk_id ?_
      refine seq_np ?_
      refine seq_cut (A := Unit) (fun _ => ([(1, .ptr 0 0), (2, .ptr 1 0), (4, .own 2 0 c2q10.length), (5, .ptr 3 0), (24, bS (c0q22.Writer || ((ix c0q22.Line (0 : Int)).Write && (decide ((0 : Int) < c0q22.Readers)))))], [(0, .row 24 (Enc.cells c0q22)), (1, .row 24 [iS 0, bS false, .v (.slice none 0 0)]), (2, .row 3 (fl c2q10)), (3, .row 47 (Enc.cells (ix c0q22.Line (0 : Int))))], 4)) (fun _ => True) (fun K929 hK929 => ?_) (fun _ _ => ?_)
      · refine reg_f ?_
        refine rs 3 [] [] (by kernel_rfl) allP_nil ?_
        refine run_split 16 c0q22.Writer (.inl (by kernel_rfl)) (fun g930 => ?_) (fun g930 => ?_)
        · refine rs 8 [] [] (by kernel_rfl) allP_nil ?_
          refine rf [(1, .ptr 0 0), (2, .ptr 1 0), (4, .own 2 0 c2q10.length), (5, .ptr 3 0), (24, bS true)] [(0, .row 24 (Enc.cells c0q22)), (1, .row 24 [iS 0, bS false, .v (.slice none 0 0)]), (2, .row 3 (fl c2q10)), (3, .row 47 (Enc.cells (ix c0q22.Line (0 : Int))))] 4 (by kernel_rfl) ?_
          exact hK929 () _ _ _ trivial (leSt_m [(0, 0), (1, 1), (2, 2), (3, 3)] [] (by (try simp only [g930]) <;> simp only [push_cast, seval]) (by (try simp only [g930]) <;> simp only [push_cast, seval]) rfl rfl rfl)
        · refine rs 3 [] [] (by kernel_rfl) allP_nil ?_
          refine run_split 19 (ix c0q22.Line (0 : Int)).Write (.inr (by kernel_rfl)) (fun g931 => ?_) (fun g931 => ?_)
          · refine rs 5 [] [] (by kernel_rfl) allP_nil ?_
            refine rf [(1, .ptr 0 0), (2, .ptr 1 0), (4, .own 2 0 c2q10.length), (5, .ptr 3 0), (24, bS (decide ((0 : Int) < c0q22.Readers)))] [(0, .row 24 (Enc.cells c0q22)), (1, .row 24 [iS 0, bS false, .v (.slice none 0 0)]), (2, .row 3 (fl c2q10)), (3, .row 47 (Enc.cells (ix c0q22.Line (0 : Int))))] 4 (by kernel_rfl) ?_
            exact hK929 () _ _ _ trivial (leSt_m [(0, 0), (1, 1), (2, 2), (3, 3)] [] (by first | ((try simp only [g930, g931]) <;> simp only [push_cast, seval]; done) | ((try simp only [g930]); (try simp only [g931]); simp only [push_cast, seval]; done) | (exfalso; clear h; simp_all; done)) (by first | ((try simp only [g930, g931]) <;> simp only [push_cast, seval]; done) | ((try simp only [g930]); (try simp only [g931]); simp only [push_cast, seval]; done) | (exfalso; clear h; simp_all; done)) rfl rfl rfl)
          · refine rs 5 [] [] (by kernel_rfl) allP_nil ?_
            refine rf [(1, .ptr 0 0), (2, .ptr 1 0), (4, .own 2 0 c2q10.length), (5, .ptr 3 0), (24, bS false)] [(0, .row 24 (Enc.cells c0q22)), (1, .row 24 [iS 0, bS false, .v (.slice none 0 0)]), (2, .row 3 (fl c2q10)), (3, .row 47 (Enc.cells (ix c0q22.Line (0 : Int))))] 4 (by kernel_rfl) ?_
            exact hK929 () _ _ _ trivial (leSt_m [(0, 0), (1, 1), (2, 2), (3, 3)] [] (by first | ((try simp only [g930, g931]) <;> simp only [push_cast, seval]; done) | ((try simp only [g930]); (try simp only [g931]); simp only [push_cast, seval]; done) | (exfalso; clear h; simp_all; done)) (by first | ((try simp only [g930, g931]) <;> simp only [push_cast, seval]; done) | ((try simp only [g930]); (try simp only [g931]); simp only [push_cast, seval]; done) | (exfalso; clear h; simp_all; done)) rfl rfl rfl)
      · dsimp only
        refine cond_sx h (by kernel_rfl) (fun g944 h => ?_) (fun g944 h => ?_)
        · change R2 (.exit 0) _ _ _
          refine ex_cast hx2 (id := 0) ?_
          obtain ⟨r0, h, e0⟩ := map_sx h
          have e1 := hr2 r0 e0.symm
          subst r0
          exact hK891 (c0q22, c2q10) _ _ _ h (leSt_m [(0, 0), (1, 1), (2, 2)] [] (by simp only [push_cast, seval]) (by simp only [push_cast, seval]) rfl rfl rfl)
        · refine wk_id ?_
          refine seq_cut (A := Lock) (fun a => ([(1, .ptr 0 0), (2, .ptr 1 0), (4, .own 2 0 c2q10.length), (5, .ptr 3 0)], [(0, .row 24 (Enc.cells a)), (1, .row 24 [iS 0, bS false, .v (.slice none 0 0)]), (2, .row 3 (fl c2q10)), (3, .row 47 (Enc.cells (ix c0q22.Line (0 : Int))))], 4)) (fun a => (taskmillref_Admitted_j2 c0q22 c2q10 a) = some o2) (fun K934 hK934 => ?_) ?_
          · refine seq_np ?_
            refine reg_f ?_
            refine rs 2 [] [] (by kernel_rfl) allP_nil ?_
            refine rf [(1, .ptr 0 0), (2, .ptr 1 0), (4, .own 2 0 c2q10.length), (5, .ptr 3 0), (26, bS (ix c0q22.Line (0 : Int)).Write)] [(0, .row 24 (Enc.cells c0q22)), (1, .row 24 [iS 0, bS false, .v (.slice none 0 0)]), (2, .row 3 (fl c2q10)), (3, .row 47 (Enc.cells (ix c0q22.Line (0 : Int))))] 4 (by kernel_rfl) ?_
            refine wk_id ?_
            refine cond_sx h (by kernel_rfl) (fun g935 h => ?_) (fun g935 h => ?_)
            · refine reg_f ?_
              refine rs 2 [] [] (by kernel_rfl) allP_nil ?_
              refine rf [(1, .ptr 0 0), (2, .ptr 1 0), (4, .own 2 0 c2q10.length), (5, .ptr 3 0)] [(0, .row 24 [iS c0q22.Readers, bS true, .sl c0q22.Line.length (fl c0q22.Line)]), (1, .row 24 [iS 0, bS false, .v (.slice none 0 0)]), (2, .row 3 (fl c2q10)), (3, .row 47 (Enc.cells (ix c0q22.Line (0 : Int))))] 4 (by kernel_rfl) ?_
              exact hK934 ((Lock.mk c0q22.Readers true c0q22.Line)) _ _ _ h (leSt_m [(0, 0), (1, 1), (2, 2), (3, 3)] [] (by simp only [push_cast, seval]) (by simp only [push_cast, seval]) rfl rfl rfl)
            · refine reg_f ?_
              refine rs 5 [] [] (by kernel_rfl) allP_nil ?_
              refine rf [(1, .ptr 0 0), (2, .ptr 1 0), (4, .own 2 0 c2q10.length), (5, .ptr 3 0)] [(0, .row 24 [iS (IntKind.i64.wrap (c0q22.Readers + 1)), bS c0q22.Writer, .sl c0q22.Line.length (fl c0q22.Line)]), (1, .row 24 [iS 0, bS false, .v (.slice none 0 0)]), (2, .row 3 (fl c2q10)), (3, .row 47 (Enc.cells (ix c0q22.Line (0 : Int))))] 4 (by kernel_rfl) ?_
              exact hK934 ((Lock.mk (IntKind.i64.wrap (c0q22.Readers + 1)) c0q22.Writer c0q22.Line)) _ _ _ h (leSt_m [(0, 0), (1, 1), (2, 2), (3, 3)] [] (by simp only [push_cast, seval]) (by simp only [push_cast, seval]) rfl rfl rfl)
          · rintro c0q23 h
            try dsimp only at h ⊢
            unfold taskmillref_Admitted_j2 at h
            refine chk_sx h (fun g939 h => ?_)
            refine seq_np ?_
            refine reg_f ?_
            have k938 : (c2q10 ++ ([(ix c0q22.Line (0 : Int)).Task] : List Int)).length * 8 ≤ 140737488355328 := by first | simpa only [Bool.and_eq_true, decide_eq_true_eq, bne_iff_ne, ne_eq] using g939 | (simp at g939 ⊢; omega)
            refine rs 6 [none, none, none, none, some ⟨.own 5 0 (c2q10 ++ ([(ix c0q22.Line (0 : Int)).Task] : List Int)).length, [(5, .row 3 (fl (c2q10 ++ ([(ix c0q22.Line (0 : Int)).Task] : List Int)))), (2, .dead)], 6, [2, 4]⟩] _ (by kernel_rfl) (allP_cons (ob_app (P := Try.prog) c2q10 ([(ix c0q22.Line (0 : Int)).Task] : List Int) 1 8 rfl (appCells (fl ([(ix c0q22.Line (0 : Int)).Task] : List Int)) 0 (([(ix c0q22.Line (0 : Int)).Task] : List Int).length * 1)) ([(ix c0q22.Line (0 : Int)).Task] : List Int).length (app_own ([(ix c0q22.Line (0 : Int)).Task] : List Int) 1 rfl) rfl (0 + ([(ix c0q22.Line (0 : Int)).Task] : List Int).length * 1 ≤ (fl ([(ix c0q22.Line (0 : Int)).Task] : List Int)).length) (app_own_le ([(ix c0q22.Line (0 : Int)).Task] : List Int) 1 rfl) 3 (by kernel_rfl) (by decide) k938 2 5 [4]) allP_nil) ?_
            refine rf [(1, .ptr 0 0), (2, .ptr 1 0), (4, .own 5 0 (c2q10 ++ ([(ix c0q22.Line (0 : Int)).Task] : List Int)).length)] [(0, .row 24 (Enc.cells c0q23)), (1, .row 24 [iS 0, bS false, .v (.slice none 0 0)]), (2, .dead), (3, .row 47 (Enc.cells (ix c0q22.Line (0 : Int)))), (4, .row 3 (fl ([(ix c0q22.Line (0 : Int)).Task] : List Int))), (5, .row 3 (fl (c2q10 ++ ([(ix c0q22.Line (0 : Int)).Task] : List Int))))] 6 (by kernel_rfl) ?_
            refine wk_id ?_
            refine chk_sx h (fun g943 h => ?_)
            refine reg_f ?_
            have k942 : 0 ≤ (1 : Int) ∧ (1 : Int) ≤ ((c0q23.Line.length : Nat) : Int) ∧ ((c0q23.Line.length : Nat) : Int) ≤ ((c0q23.Line.length : Nat) : Int) := by first | simpa only [Bool.and_eq_true, decide_eq_true_eq, bne_iff_ne, ne_eq] using g943 | (simp at g943 ⊢; omega)
            refine rs 5 [none, none, some ⟨.sl (cut c0q23.Line (1 : Int) ((c0q23.Line.length : Nat) : Int)).length (fl (cut c0q23.Line (1 : Int) ((c0q23.Line.length : Nat) : Int))), [], 6, []⟩] _ (by kernel_rfl) (allP_cons (ob_cut c0q23.Line (1 : Int) ((c0q23.Line.length : Nat) : Int) 3 6 rfl k942) allP_nil) ?_
            refine rf [(1, .ptr 0 0), (2, .ptr 1 0), (4, .own 5 0 (c2q10 ++ ([(ix c0q22.Line (0 : Int)).Task] : List Int)).length)] [(0, .row 24 [iS c0q23.Readers, bS c0q23.Writer, .sl (cut c0q23.Line (1 : Int) ((c0q23.Line.length : Nat) : Int)).length (fl (cut c0q23.Line (1 : Int) ((c0q23.Line.length : Nat) : Int)))]), (1, .row 24 [iS 0, bS false, .v (.slice none 0 0)]), (2, .dead), (3, .row 47 (Enc.cells (ix c0q22.Line (0 : Int)))), (4, .row 3 (fl ([(ix c0q22.Line (0 : Int)).Task] : List Int))), (5, .row 3 (fl (c2q10 ++ ([(ix c0q22.Line (0 : Int)).Task] : List Int))))] 6 (by kernel_rfl) ?_
            refine wk_id ?_
            exact hn2 ((Lock.mk c0q23.Readers c0q23.Writer (cut c0q23.Line (1 : Int) ((c0q23.Line.length : Nat) : Int))), (c2q10 ++ ([(ix c0q22.Line (0 : Int)).Task] : List Int))) _ _ _ (Option.some.inj h).symm (leSt_m [(0, 0), (1, 1), (2, 5)] [] (by simp only [push_cast, seval]) (by simp only [push_cast, seval]) rfl rfl rfl)
    · change R2 (.exit 0) _ _ _
      refine ex_cast hx2 (id := 0) ?_
      obtain ⟨r0, h, e0⟩ := map_sx h
      have e1 := hr2 r0 e0.symm
      subst r0
      exact hK891 (c0q22, c2q10) _ _ _ h (leSt_m [(0, 0), (1, 1), (2, 2)] [] (by simp only [push_cast, seval]) (by simp only [push_cast, seval]) rfl rfl rfl)
  · rintro ⟨c0q18, c2q8⟩ h
    try dsimp only at h ⊢
    unfold taskmillref_Admitted_j1 at h
    refine wk_id ?_
    refine seq_np ?_
    refine reg_f ?_
    refine rs 4 [] [] (by kernel_rfl) allP_nil ?_
    refine rf [(2, .ptr 1 0), (3, .own 2 0 c2q8.length)] [(0, .row 24 (Enc.cells c0q18)), (1, .row 24 (Enc.cells c0q18)), (2, .row 3 (fl c2q8))] 3 (by kernel_rfl) ?_
    refine wk_id ?_
    obtain rfl := Option.some.inj h
    refine ret_at (.tup [.agg (Enc.cells c0q18), .own 2 0 c2q8.length]) (by kernel_rfl) ?_
    exact ret_e [(0, 2)] [] (by simp only [push_cast, seval]) (by simp only [push_cast, seval]) rfl rfl rfl

set_option maxRecDepth 100000 in
set_option maxHeartbeats 10000000 in
theorem taskmillref_LockFault_spec (l : Lock) (r : Fault) (h : taskmillref_LockFault l = some r) : SpecW Try.prog 12 [.agg (Enc.cells l)] [] 0 (fun x h n => x = .agg (Enc.cells r) ∧ h = [] ∧ n = 0) := by
  unfold taskmillref_LockFault at h
  refine spec_of (draw_ok _) Try.func12 rfl (by decide) rfl (by kernel_rfl) ?_
  refine seq_np ?_
  refine reg_f ?_
  refine rs 2 [] [] (by kernel_rfl) allP_nil ?_
  refine rf [(1, .ptr 0 0), (2, .ptr 1 0)] [(0, .row 24 (Enc.cells l)), (1, .row 28 [iS 0, iS 0])] 2 (by kernel_rfl) ?_
  refine wk_id ?_
  refine seq_np ?_
  refine seq_np ?_
  refine reg_f ?_
  refine rs 4 [] [] (by kernel_rfl) allP_nil ?_
  refine rf [(1, .ptr 0 0), (2, .ptr 1 0), (10, bS (decide ((5000 : Int) < ((l.Line.length : Nat) : Int))))] [(0, .row 24 (Enc.cells l)), (1, .row 28 [iS 0, iS 0])] 2 (by kernel_rfl) ?_
  refine wk_id ?_
  refine cond_sx h (by kernel_rfl) (fun g1411 h => ?_) (fun g1411 h => ?_)
  · refine seq_np ?_
    refine reg_f ?_
    obtain ⟨r1028, hr1028, h⟩ := bind_sx h
    refine run_call 18 [iS 2, iS 0] (some 11) (by kernel_rfl) ?_
    refine call_0 (taskmillref_F_spec 2 0 r1028 hr1028) (by simp only [push_cast, seval]) (by simp only [push_cast, seval]) ?_
    refine back_f ?_
    refine rs 1 [] [] (by kernel_rfl) allP_nil ?_
    refine rf [(2, .ptr 1 0)] [(0, .row 24 (Enc.cells l)), (1, .row 28 (Enc.cells r1028))] 2 (by kernel_rfl) ?_
    refine wk_id ?_
    obtain rfl := Option.some.inj h
    refine ret_at (.agg (Enc.cells r1028)) (by kernel_rfl) ?_
    exact ret_e [] [] (by simp only [push_cast, seval]) (by simp only [push_cast, seval]) rfl rfl rfl
  · refine wk_id ?_
    refine seq_np ?_
    refine seq_cut (A := Unit) (fun _ => ([(1, .ptr 0 0), (2, .ptr 1 0), (19, bS ((decide (l.Readers < 0)) || (decide ((1000000000 : Int) < l.Readers))))], [(0, .row 24 (Enc.cells l)), (1, .row 28 [iS 0, iS 0])], 2)) (fun _ => True) (fun K1033 hK1033 => ?_) (fun _ _ => ?_)
    · refine reg_f ?_
      refine rs 4 [] [] (by kernel_rfl) allP_nil ?_
      refine run_split 15 (decide (l.Readers < 0)) (.inl (by kernel_rfl)) (fun g1034 => ?_) (fun g1034 => ?_)
      · refine rs 4 [] [] (by kernel_rfl) allP_nil ?_
        refine rf [(1, .ptr 0 0), (2, .ptr 1 0), (19, bS true)] [(0, .row 24 (Enc.cells l)), (1, .row 28 [iS 0, iS 0])] 2 (by kernel_rfl) ?_
        exact hK1033 () _ _ _ trivial (leSt_m [(0, 0), (1, 1)] [] (by (try simp only [g1034]) <;> simp only [push_cast, seval]) (by (try simp only [g1034]) <;> simp only [push_cast, seval]) rfl rfl rfl)
      · refine rs 4 [] [] (by kernel_rfl) allP_nil ?_
        refine rf [(1, .ptr 0 0), (2, .ptr 1 0), (19, bS (decide ((1000000000 : Int) < l.Readers)))] [(0, .row 24 (Enc.cells l)), (1, .row 28 [iS 0, iS 0])] 2 (by kernel_rfl) ?_
        exact hK1033 () _ _ _ trivial (leSt_m [(0, 0), (1, 1)] [] (by (try simp only [g1034]) <;> simp only [push_cast, seval]) (by (try simp only [g1034]) <;> simp only [push_cast, seval]) rfl rfl rfl)
    · dsimp only
      refine cond_sx h (by kernel_rfl) (fun g1410 h => ?_) (fun g1410 h => ?_)
      · refine seq_np ?_
        refine reg_f ?_
        obtain ⟨r1036, hr1036, h⟩ := bind_sx h
        refine run_call 18 [iS 3, iS 0] (some 20) (by kernel_rfl) ?_
        refine call_0 (taskmillref_F_spec 3 0 r1036 hr1036) (by simp only [push_cast, seval]) (by simp only [push_cast, seval]) ?_
        refine back_f ?_
        refine rs 1 [] [] (by kernel_rfl) allP_nil ?_
        refine rf [(2, .ptr 1 0)] [(0, .row 24 (Enc.cells l)), (1, .row 28 (Enc.cells r1036))] 2 (by kernel_rfl) ?_
        refine wk_id ?_
        obtain rfl := Option.some.inj h
        refine ret_at (.agg (Enc.cells r1036)) (by kernel_rfl) ?_
        exact ret_e [] [] (by simp only [push_cast, seval]) (by simp only [push_cast, seval]) rfl rfl rfl
      · refine wk_id ?_
        refine seq_np ?_
        refine seq_cut (A := Unit) (fun _ => ([(1, .ptr 0 0), (2, .ptr 1 0), (27, bS (l.Writer && (decide ((0 : Int) < l.Readers))))], [(0, .row 24 (Enc.cells l)), (1, .row 28 [iS 0, iS 0])], 2)) (fun _ => True) (fun K1041 hK1041 => ?_) (fun _ _ => ?_)
        · refine reg_f ?_
          refine rs 3 [] [] (by kernel_rfl) allP_nil ?_
          refine run_split 23 l.Writer (.inl (by kernel_rfl)) (fun g1042 => ?_) (fun g1042 => ?_)
          · refine rs 4 [] [] (by kernel_rfl) allP_nil ?_
            refine rf [(1, .ptr 0 0), (2, .ptr 1 0), (27, bS (decide ((0 : Int) < l.Readers)))] [(0, .row 24 (Enc.cells l)), (1, .row 28 [iS 0, iS 0])] 2 (by kernel_rfl) ?_
            exact hK1041 () _ _ _ trivial (leSt_m [(0, 0), (1, 1)] [] (by (try simp only [g1042]) <;> simp only [push_cast, seval]) (by (try simp only [g1042]) <;> simp only [push_cast, seval]) rfl rfl rfl)
          · refine rs 4 [] [] (by kernel_rfl) allP_nil ?_
            refine rf [(1, .ptr 0 0), (2, .ptr 1 0), (27, bS false)] [(0, .row 24 (Enc.cells l)), (1, .row 28 [iS 0, iS 0])] 2 (by kernel_rfl) ?_
            exact hK1041 () _ _ _ trivial (leSt_m [(0, 0), (1, 1)] [] (by (try simp only [g1042]) <;> simp only [push_cast, seval]) (by (try simp only [g1042]) <;> simp only [push_cast, seval]) rfl rfl rfl)
        · dsimp only
          refine cond_sx h (by kernel_rfl) (fun g1409 h => ?_) (fun g1409 h => ?_)
          · refine seq_np ?_
            refine reg_f ?_
            obtain ⟨r1044, hr1044, h⟩ := bind_sx h
            refine run_call 18 [iS 5, iS 0] (some 28) (by kernel_rfl) ?_
            refine call_0 (taskmillref_F_spec 5 0 r1044 hr1044) (by simp only [push_cast, seval]) (by simp only [push_cast, seval]) ?_
            refine back_f ?_
            refine rs 1 [] [] (by kernel_rfl) allP_nil ?_
            refine rf [(2, .ptr 1 0)] [(0, .row 24 (Enc.cells l)), (1, .row 28 (Enc.cells r1044))] 2 (by kernel_rfl) ?_
            refine wk_id ?_
            obtain rfl := Option.some.inj h
            refine ret_at (.agg (Enc.cells r1044)) (by kernel_rfl) ?_
            exact ret_e [] [] (by simp only [push_cast, seval]) (by simp only [push_cast, seval]) rfl rfl rfl
          · refine wk_id ?_
            refine seq_cut (A := Unit) (fun a => ([(1, .ptr 0 0), (2, .ptr 1 0)], [(0, .row 24 (Enc.cells l)), (1, .row 28 [iS 0, iS 0])], 2)) (fun a => (taskmillref_LockFault_j1 l) = some r) (fun K1050 hK1050 => ?_) ?_
            · refine seq_np ?_
              refine reg_f ?_
              refine rs 4 [] [] (by kernel_rfl) allP_nil ?_
              refine rf [(1, .ptr 0 0), (2, .ptr 1 0), (32, bS (decide ((0 : Int) < ((l.Line.length : Nat) : Int))))] [(0, .row 24 (Enc.cells l)), (1, .row 28 [iS 0, iS 0])] 2 (by kernel_rfl) ?_
              refine wk_id ?_
              refine cond_sx h (by kernel_rfl) (fun g1056 h => ?_) (fun g1056 h => ?_)
              · refine seq_np ?_
                refine reg_f ?_
                refine rs 1 [] [] (by kernel_rfl) allP_nil ?_
                obtain ⟨r1052, hr1052, h⟩ := bind_sx h
                refine call_x (taskmillref_Admitted_spec l r1052 hr1052) (args := [.agg (Enc.cells l)]) (dst := (some 35)) (by kernel_rfl) [(0, .row 24 (Enc.cells l)), (1, .row 28 [iS 0, iS 0])] 2 (by kernel_rfl) [] [] (.tup [.agg (Enc.cells r1052.1), .own 2 0 r1052.2.length]) [(2, .row 3 (fl r1052.2))] (by simp only [push_cast, seval]) (by simp only [push_cast, seval]) (by kernel_rfl) (.inl rfl) (by simp only [push_cast, seval]) (by simp only [push_cast, seval]) ?_
                refine rs 6 [] [] (by kernel_rfl) allP_nil ?_
                refine rf [(1, .ptr 0 0), (2, .ptr 1 0), (4, .own 2 0 r1052.2.length)] [(0, .row 24 (Enc.cells l)), (1, .row 28 [iS 0, iS 0]), (2, .row 3 (fl r1052.2)), (3, .row 24 (Enc.cells r1052.1))] 4 (by kernel_rfl) ?_
                refine wk_id ?_
                refine seq_np ?_
                refine reg_f ?_
                refine rs 3 [] [] (by kernel_rfl) allP_nil ?_
                refine rf [(1, .ptr 0 0), (2, .ptr 1 0), (40, bS (decide ((0 : Int) < ((r1052.2.length : Nat) : Int))))] [(0, .row 24 (Enc.cells l)), (1, .row 28 [iS 0, iS 0]), (2, .row 3 (fl r1052.2)), (3, .row 24 (Enc.cells r1052.1))] 4 (by kernel_rfl) ?_
                refine wk_id ?_
                refine cond_sx h (by kernel_rfl) (fun g1055 h => ?_) (fun g1055 h => ?_)
                · refine seq_np ?_
                  refine reg_f ?_
                  obtain ⟨r1054, hr1054, h⟩ := bind_sx h
                  refine run_call 18 [iS 5, iS 0] (some 41) (by kernel_rfl) ?_
                  refine call_0 (taskmillref_F_spec 5 0 r1054 hr1054) (by simp only [push_cast, seval]) (by simp only [push_cast, seval]) ?_
                  refine back_f ?_
                  refine rs 1 [] [] (by kernel_rfl) allP_nil ?_
                  refine rf [(2, .ptr 1 0)] [(0, .row 24 (Enc.cells l)), (1, .row 28 (Enc.cells r1054)), (2, .row 3 (fl r1052.2)), (3, .row 24 (Enc.cells r1052.1))] 4 (by kernel_rfl) ?_
                  refine wk_id ?_
                  obtain rfl := Option.some.inj h
                  refine ret_at (.agg (Enc.cells r1054)) (by kernel_rfl) ?_
                  exact ret_e [] [] (by simp only [push_cast, seval]) (by simp only [push_cast, seval]) rfl rfl rfl
                · exact hK1050 () _ _ _ h (leSt_m [(0, 0), (1, 1)] [] (by simp only [push_cast, seval]) (by simp only [push_cast, seval]) rfl rfl rfl)
              · exact hK1050 () _ _ _ h (leSt_m [(0, 0), (1, 1)] [] (by simp only [push_cast, seval]) (by simp only [push_cast, seval]) rfl rfl rfl)
            · rintro _ h
              try dsimp only at h ⊢
              unfold taskmillref_LockFault_j1 at h
              refine seq_np ?_
              refine seq_np ?_
              refine reg_f ?_
              refine rs 1 [] [] (by kernel_rfl) allP_nil ?_
              refine rf [(1, .ptr 0 0), (2, .ptr 1 0), (5, iS 0)] [(0, .row 24 (Enc.cells l)), (1, .row 28 [iS 0, iS 0])] 2 (by kernel_rfl) ?_
              refine wk_id ?_
              refine block_np ?_
              refine loop_sx (S := Int) (fun a => ([(1, .ptr 0 0), (2, .ptr 1 0), (5, iS a)], [(0, .row 24 (Enc.cells l)), (1, .row 28 [iS 0, iS 0])], 2)) h (leSt_m [(0, 0), (1, 1)] [] (by simp only [push_cast, seval]) (by simp only [push_cast, seval]) rfl rfl rfl) ?_
              rintro i7 o3 R3 h hr3 hn3 hx3 ht3
              try dsimp only at h hn3 ⊢
              unfold taskmillref_LockFault_l2 at h
              try dsimp only at h
              refine seq_np ?_
              refine seq_np ?_
              refine reg_f ?_
              refine rs 5 [] [] (by kernel_rfl) allP_nil ?_
              refine rf [(1, .ptr 0 0), (2, .ptr 1 0), (5, iS i7), (46, bS (decide (i7 < ((l.Line.length : Nat) : Int))))] [(0, .row 24 (Enc.cells l)), (1, .row 28 [iS 0, iS 0])] 2 (by kernel_rfl) ?_
              refine wk_id ?_
              refine cond_sx h (by kernel_rfl) (fun g1408 h => ?_) (fun g1408 h => ?_)
              · refine wk_id ?_
                refine seq_np ?_
                refine block_np ?_
                refine seq_np ?_
                refine chk_sx h (fun g1313 h => ?_)
                refine seq_np ?_
                refine reg_f ?_
                have k1312 : 0 ≤ i7 ∧ i7 < ((l.Line.length : Nat) : Int) := by first | simpa only [Bool.and_eq_true, decide_eq_true_eq, bne_iff_ne, ne_eq] using g1313 | (simp at g1313 ⊢; omega)
                refine rs 7 [none, none, none, some ⟨.iptr (fl l.Line) ((i7).toNat * 3), [], 2, []⟩, none, some ⟨iS (ix l.Line i7).Task, [], 2, []⟩] _ (by kernel_rfl) (allP_cons (ob_ld l.Line i7 3 0 (((i7).toNat * 3) + 0) k1312 rfl (by decide) (by first | rfl | omega) (dflS Try.prog 3) (iS (ix l.Line i7).Task) rfl 2 []) (allP_cons (ob_ix_l l.Line 3 2 i7 k1312) allP_nil)) ?_
                refine rf [(1, .ptr 0 0), (2, .ptr 1 0), (5, iS i7), (55, bS (decide ((ix l.Line i7).Task < 1)))] [(0, .row 24 (Enc.cells l)), (1, .row 28 [iS 0, iS 0])] 2 (by kernel_rfl) ?_
                refine wk_id ?_
                refine cond_sx h (by kernel_rfl) (fun g1407 h => ?_) (fun g1407 h => ?_)
                · refine seq_np ?_
                  refine reg_f ?_
                  refine rs 2 [] [] (by kernel_rfl) allP_nil ?_
                  obtain ⟨r1315, hr1315, h⟩ := bind_sx h
                  refine run_call 18 [iS 3, iS (IntKind.i64.wrap (i7 + 1))] (some 58) (by kernel_rfl) ?_
                  refine call_0 (taskmillref_F_spec 3 (IntKind.i64.wrap (i7 + 1)) r1315 hr1315) (by simp only [push_cast, seval]) (by simp only [push_cast, seval]) ?_
                  refine back_f ?_
                  refine rs 1 [] [] (by kernel_rfl) allP_nil ?_
                  refine rf [(2, .ptr 1 0)] [(0, .row 24 (Enc.cells l)), (1, .row 28 (Enc.cells r1315))] 2 (by kernel_rfl) ?_
                  refine wk_id ?_
                  refine rt_cast ht3 ?_
                  obtain ⟨r0, h, e0⟩ := map_sx h
                  have e1 := hr3 r0 e0.symm
                  subst r0
                  obtain rfl := Option.some.inj h
                  refine ret_at (.agg (Enc.cells r1315)) (by kernel_rfl) ?_
                  exact ret_e [] [] (by simp only [push_cast, seval]) (by simp only [push_cast, seval]) rfl rfl rfl
                · refine wk_id ?_
                  refine seq_np ?_
                  refine seq_np ?_
                  refine reg_f ?_
                  refine rs 1 [] [] (by kernel_rfl) allP_nil ?_
                  refine rf [(1, .ptr 0 0), (2, .ptr 1 0), (5, iS i7), (6, iS 0)] [(0, .row 24 (Enc.cells l)), (1, .row 28 [iS 0, iS 0])] 2 (by kernel_rfl) ?_
                  refine wk_id ?_
                  refine block_np ?_
                  refine loop_sx (S := Int) (fun a => ([(1, .ptr 0 0), (2, .ptr 1 0), (5, iS i7), (6, iS a)], [(0, .row 24 (Enc.cells l)), (1, .row 28 [iS 0, iS 0])], 2)) h (leSt_m [(0, 0), (1, 1)] [] (by simp only [push_cast, seval]) (by simp only [push_cast, seval]) rfl rfl rfl) ?_
                  rintro k23 o4 R4 h hr4 hn4 hx4 ht4
                  try dsimp only at h hn4 ⊢
                  unfold taskmillref_LockFault_l1 at h
                  try dsimp only at h
                  refine seq_np ?_
                  refine seq_np ?_
                  refine reg_f ?_
                  refine rs 3 [] [] (by kernel_rfl) allP_nil ?_
                  refine rf [(1, .ptr 0 0), (2, .ptr 1 0), (5, iS i7), (6, iS k23), (61, bS (decide (k23 < i7)))] [(0, .row 24 (Enc.cells l)), (1, .row 28 [iS 0, iS 0])] 2 (by kernel_rfl) ?_
                  refine wk_id ?_
                  refine cond_sx h (by kernel_rfl) (fun g1406 h => ?_) (fun g1406 h => ?_)
                  · refine wk_id ?_
                    refine seq_np ?_
                    refine block_np ?_
                    refine chk_sx h (fun g1393 h => ?_)
                    refine chk_sx h (fun g1395 h => ?_)
                    refine seq_np ?_
                    refine reg_t ?_
                    have k1392 : 0 ≤ k23 ∧ k23 < ((l.Line.length : Nat) : Int) := by first | simpa only [Bool.and_eq_true, decide_eq_true_eq, bne_iff_ne, ne_eq] using g1393 | (simp at g1393 ⊢; omega)
                    have k1394 : 0 ≤ i7 ∧ i7 < ((l.Line.length : Nat) : Int) := by first | simpa only [Bool.and_eq_true, decide_eq_true_eq, bne_iff_ne, ne_eq] using g1395 | (simp at g1395 ⊢; omega)
                    refine rs 13 [none, none, none, some ⟨.iptr (fl l.Line) ((k23).toNat * 3), [], 5, []⟩, none, some ⟨iS (ix l.Line k23).Task, [], 7, []⟩, none, none, none, some ⟨.iptr (fl l.Line) ((i7).toNat * 3), [], 11, []⟩, none, some ⟨iS (ix l.Line i7).Task, [], 13, []⟩] _ (by kernel_rfl) (allP_cons (ob_ld l.Line i7 3 0 (((i7).toNat * 3) + 0) k1394 rfl (by decide) (by first | rfl | omega) (dflS Try.prog 3) (iS (ix l.Line i7).Task) rfl 13 []) (allP_cons (ob_ix_l l.Line 3 11 i7 k1394) (allP_cons (ob_ld l.Line k23 3 0 (((k23).toNat * 3) + 0) k1392 rfl (by decide) (by first | rfl | omega) (dflS Try.prog 3) (iS (ix l.Line k23).Task) rfl 7 []) (allP_cons (ob_ix_l l.Line 3 5 k23 k1392) allP_nil)))) ?_
                    refine rt [(1, .ptr 0 0), (2, .ptr 1 0), (5, iS i7), (6, iS k23), (76, bS ((ix l.Line k23).Task == (ix l.Line i7).Task))] [(0, .row 24 (Enc.cells l)), (1, .row 28 [iS 0, iS 0])] 15 follows (by kernel_rfl) ?_
                    refine wk_id ?_
                    refine cond_sx h (by kernel_rfl) (fun g1398 h => ?_) (fun g1398 h => ?_)
                    · refine seq_np ?_
                      refine reg_f ?_
                      refine rs 2 [] [] (by kernel_rfl) allP_nil ?_
                      obtain ⟨r1397, hr1397, h⟩ := bind_sx h
                      refine run_call 18 [iS 10, iS (IntKind.i64.wrap (i7 + 1))] (some 79) (by kernel_rfl) ?_
                      refine call_0 (taskmillref_F_spec 10 (IntKind.i64.wrap (i7 + 1)) r1397 hr1397) (by simp only [push_cast, seval]) (by simp only [push_cast, seval]) ?_
                      refine back_f ?_
                      refine rs 1 [] [] (by kernel_rfl) allP_nil ?_
                      refine rf [(2, .ptr 1 0)] [(0, .row 24 (Enc.cells l)), (1, .row 28 (Enc.cells r1397))] 15 (by kernel_rfl) ?_
                      refine wk_id ?_
                      refine rt_cast ht4 ?_
                      obtain ⟨r0, h, e0⟩ := map_sx h
                      have e1 := hr4 r0 e0.symm
                      subst r0
                      refine rt_cast ht3 ?_
                      obtain ⟨r0, h, e0⟩ := map_sx h
                      have e1 := hr3 r0 e0.symm
                      subst r0
                      obtain rfl := Option.some.inj h
                      refine ret_at (.agg (Enc.cells r1397)) (by kernel_rfl) ?_
                      exact ret_e [] [] (by simp only [push_cast, seval]) (by simp only [push_cast, seval]) rfl rfl rfl
                    · refine wk_id ?_
                      refine wk_id ?_
                      refine reg_f ?_
                      refine rs 3 [] [] (by kernel_rfl) allP_nil ?_
                      refine rf [(1, .ptr 0 0), (2, .ptr 1 0), (5, iS i7), (6, iS (IntKind.i64.wrap (k23 + 1)))] [(0, .row 24 (Enc.cells l)), (1, .row 28 [iS 0, iS 0])] 15 (by kernel_rfl) ?_
                      exact hn4 ((IntKind.i64.wrap (k23 + 1))) _ _ _ (Option.some.inj h).symm (leSt_m [(0, 0), (1, 1)] [] (by simp only [push_cast, seval]) (by simp only [push_cast, seval]) rfl rfl rfl)
                  · change R4 (.exit 2) _ _ _
                    refine ex_cast hx4 (id := 2) ?_
                    obtain ⟨r0, h, e0⟩ := map_sx h
                    have e1 := hr4 r0 e0.symm
                    subst r0
                    refine wk_id ?_
                    refine wk_id ?_
                    refine chk_sx h (fun g1402 h => ?_)
                    refine seq_np ?_
                    refine reg_f ?_
                    have k1401 : 0 ≤ i7 ∧ i7 < ((l.Line.length : Nat) : Int) := by first | simpa only [Bool.and_eq_true, decide_eq_true_eq, bne_iff_ne, ne_eq] using g1402 | (simp at g1402 ⊢; omega)
                    refine rs 7 [none, none, none, some ⟨.iptr (fl l.Line) ((i7).toNat * 3), [], 2, []⟩, none, some ⟨iS (ix l.Line i7).N, [], 2, []⟩] _ (by kernel_rfl) (allP_cons (ob_ld l.Line i7 3 2 (((i7).toNat * 3) + 2) k1401 rfl (by decide) (by first | rfl | omega) (dflS Try.prog 3) (iS (ix l.Line i7).N) rfl 2 []) (allP_cons (ob_ix_l l.Line 3 2 i7 k1401) allP_nil)) ?_
                    refine rf [(1, .ptr 0 0), (2, .ptr 1 0), (5, iS i7), (86, bS ((ix l.Line i7).N != 0))] [(0, .row 24 (Enc.cells l)), (1, .row 28 [iS 0, iS 0])] 2 (by kernel_rfl) ?_
                    refine wk_id ?_
                    refine cond_sx h (by kernel_rfl) (fun g1405 h => ?_) (fun g1405 h => ?_)
                    · refine seq_np ?_
                      refine reg_f ?_
                      refine rs 2 [] [] (by kernel_rfl) allP_nil ?_
                      obtain ⟨r1404, hr1404, h⟩ := bind_sx h
                      refine run_call 18 [iS 5, iS (IntKind.i64.wrap (i7 + 1))] (some 89) (by kernel_rfl) ?_
                      refine call_0 (taskmillref_F_spec 5 (IntKind.i64.wrap (i7 + 1)) r1404 hr1404) (by simp only [push_cast, seval]) (by simp only [push_cast, seval]) ?_
                      refine back_f ?_
                      refine rs 1 [] [] (by kernel_rfl) allP_nil ?_
                      refine rf [(2, .ptr 1 0)] [(0, .row 24 (Enc.cells l)), (1, .row 28 (Enc.cells r1404))] 2 (by kernel_rfl) ?_
                      refine wk_id ?_
                      refine rt_cast ht3 ?_
                      obtain ⟨r0, h, e0⟩ := map_sx h
                      have e1 := hr3 r0 e0.symm
                      subst r0
                      obtain rfl := Option.some.inj h
                      refine ret_at (.agg (Enc.cells r1404)) (by kernel_rfl) ?_
                      exact ret_e [] [] (by simp only [push_cast, seval]) (by simp only [push_cast, seval]) rfl rfl rfl
                    · refine wk_id ?_
                      refine wk_id ?_
                      refine reg_f ?_
                      refine rs 3 [] [] (by kernel_rfl) allP_nil ?_
                      refine rf [(1, .ptr 0 0), (2, .ptr 1 0), (5, iS (IntKind.i64.wrap (i7 + 1)))] [(0, .row 24 (Enc.cells l)), (1, .row 28 [iS 0, iS 0])] 2 (by kernel_rfl) ?_
                      exact hn3 ((IntKind.i64.wrap (i7 + 1))) _ _ _ (Option.some.inj h).symm (leSt_m [(0, 0), (1, 1)] [] (by simp only [push_cast, seval]) (by simp only [push_cast, seval]) rfl rfl rfl)
              · change R3 (.exit 0) _ _ _
                refine ex_cast hx3 (id := 0) ?_
                obtain ⟨r0, h, e0⟩ := map_sx h
                have e1 := hr3 r0 e0.symm
                subst r0
                refine wk_id ?_
                refine wk_id ?_
                refine seq_np ?_
                refine reg_f ?_
                refine rs 2 [] [] (by kernel_rfl) allP_nil ?_
                refine rf [(2, .ptr 1 0)] [(0, .row 24 (Enc.cells l)), (1, .row 28 [iS 0, iS 0])] 2 (by kernel_rfl) ?_
                refine wk_id ?_
                obtain rfl := Option.some.inj h
                refine ret_at (.agg [iS 0, iS 0]) (by kernel_rfl) ?_
                exact ret_e [] [] (by simp only [push_cast, seval]) (by simp only [push_cast, seval]) rfl rfl rfl

set_option maxRecDepth 100000 in
set_option maxHeartbeats 10000000 in
theorem taskmillref_SameWants_spec (xa : (List Want)) (b : (List Want)) (r : Bool) (h : taskmillref_SameWants xa b = some r) : SpecW Try.prog 31 [.sl xa.length (fl xa), .sl b.length (fl b)] [] 0 (fun x h n => x = bS r ∧ h = [] ∧ n = 0) := by
  unfold taskmillref_SameWants at h
  refine spec_of (draw_ok _) Try.func31 rfl (by decide) rfl (by kernel_rfl) ?_
  refine seq_np ?_
  refine reg_f ?_
  refine rs 1 [] [] (by kernel_rfl) allP_nil ?_
  refine rf [(0, .sl xa.length (fl xa)), (1, .sl b.length (fl b))] [] 0 (by kernel_rfl) ?_
  refine wk_id ?_
  refine seq_np ?_
  refine seq_np ?_
  refine reg_f ?_
  refine rs 5 [] [] (by kernel_rfl) allP_nil ?_
  refine rf [(0, .sl xa.length (fl xa)), (1, .sl b.length (fl b)), (10, bS (((xa.length : Nat) : Int) != ((b.length : Nat) : Int)))] [] 0 (by kernel_rfl) ?_
  refine wk_id ?_
  refine cond_sx h (by kernel_rfl) (fun g1510 h => ?_) (fun g1510 h => ?_)
  · refine seq_np ?_
    refine reg_f ?_
    refine rs 1 [] [] (by kernel_rfl) allP_nil ?_
    refine rf [(4, bS false)] [] 0 (by kernel_rfl) ?_
    refine wk_id ?_
    obtain rfl := Option.some.inj h
    refine ret_at (bS false) (by kernel_rfl) ?_
    exact ret_e [] [] (by simp only [push_cast, seval]) (by simp only [push_cast, seval]) rfl rfl rfl
  · refine wk_id ?_
    refine seq_np ?_
    refine seq_np ?_
    refine reg_f ?_
    refine rs 1 [] [] (by kernel_rfl) allP_nil ?_
    refine rf [(0, .sl xa.length (fl xa)), (1, .sl b.length (fl b)), (5, iS 0)] [] 0 (by kernel_rfl) ?_
    refine wk_id ?_
    refine block_np ?_
    refine loop_sx (S := Int) (fun a => ([(0, .sl xa.length (fl xa)), (1, .sl b.length (fl b)), (5, iS a)], [], 0)) h (leSt_m [] [] (by simp only [push_cast, seval]) (by simp only [push_cast, seval]) rfl rfl rfl) ?_
    rintro i7 o2 R2 h hr2 hn2 hx2 ht2
    try dsimp only at h hn2 ⊢
    unfold taskmillref_SameWants_l1 at h
    try dsimp only at h
    refine seq_np ?_
    refine seq_np ?_
    refine reg_f ?_
    refine rs 4 [] [] (by kernel_rfl) allP_nil ?_
    refine rf [(0, .sl xa.length (fl xa)), (1, .sl b.length (fl b)), (5, iS i7), (14, bS (decide (i7 < ((xa.length : Nat) : Int))))] [] 0 (by kernel_rfl) ?_
    refine wk_id ?_
    refine cond_sx h (by kernel_rfl) (fun g1509 h => ?_) (fun g1509 h => ?_)
    · refine wk_id ?_
      refine seq_np ?_
      refine block_np ?_
      refine chk_sx h (fun g1505 h => ?_)
      refine chk_sx h (fun g1507 h => ?_)
      refine seq_np ?_
      refine reg_t ?_
      have k1504 : 0 ≤ i7 ∧ i7 < ((xa.length : Nat) : Int) := by first | simpa only [Bool.and_eq_true, decide_eq_true_eq, bne_iff_ne, ne_eq] using g1505 | (simp at g1505 ⊢; omega)
      have k1506 : 0 ≤ i7 ∧ i7 < ((b.length : Nat) : Int) := by first | simpa only [Bool.and_eq_true, decide_eq_true_eq, bne_iff_ne, ne_eq] using g1507 | (simp at g1507 ⊢; omega)
      refine rs 9 [none, none, some ⟨.iptr (fl xa) ((i7).toNat * 3), [], 2, []⟩, some ⟨.agg (Enc.cells (ix xa i7)), [], 3, []⟩, none, none, some ⟨.iptr (fl b) ((i7).toNat * 3), [], 6, []⟩, some ⟨.agg (Enc.cells (ix b i7)), [], 7, []⟩] _ (by kernel_rfl) (allP_cons (ob_ldw b i7 3 ((i7).toNat * 3) k1506 rfl (by first | rfl | omega) [iS (ix b i7).Task, bS (ix b i7).Write, iS (ix b i7).N] rfl 7 []) (allP_cons (ob_ix_l b 3 6 i7 k1506) (allP_cons (ob_ldw xa i7 3 ((i7).toNat * 3) k1504 rfl (by first | rfl | omega) [iS (ix xa i7).Task, bS (ix xa i7).Write, iS (ix xa i7).N] rfl 3 []) (allP_cons (ob_ix_l xa 3 2 i7 k1504) allP_nil)))) ?_
      refine rt [(0, .sl xa.length (fl xa)), (1, .sl b.length (fl b)), (5, iS i7), (25, bS (!(((ix xa i7).Task == (ix b i7).Task) && (((ix xa i7).Write == (ix b i7).Write) && (((ix xa i7).N == (ix b i7).N) && true)))))] [] 9 follows (by kernel_rfl) ?_
      refine wk_id ?_
      refine cond_sx h (by kernel_rfl) (fun g1508 h => ?_) (fun g1508 h => ?_)
      · refine seq_np ?_
        refine reg_f ?_
        refine rs 1 [] [] (by kernel_rfl) allP_nil ?_
        refine rf [(4, bS false)] [] 9 (by kernel_rfl) ?_
        refine wk_id ?_
        refine rt_cast ht2 ?_
        obtain ⟨r0, h, e0⟩ := map_sx h
        have e1 := hr2 r0 e0.symm
        subst r0
        obtain rfl := Option.some.inj h
        refine ret_at (bS false) (by kernel_rfl) ?_
        exact ret_e [] [] (by simp only [push_cast, seval]) (by simp only [push_cast, seval]) rfl rfl rfl
      · refine wk_id ?_
        refine wk_id ?_
        refine reg_f ?_
        refine rs 3 [] [] (by kernel_rfl) allP_nil ?_
        refine rf [(0, .sl xa.length (fl xa)), (1, .sl b.length (fl b)), (5, iS (IntKind.i64.wrap (i7 + 1)))] [] 9 (by kernel_rfl) ?_
        exact hn2 ((IntKind.i64.wrap (i7 + 1))) _ _ _ (Option.some.inj h).symm (leSt_m [] [] (by simp only [push_cast, seval]) (by simp only [push_cast, seval]) rfl rfl rfl)
    · change R2 (.exit 0) _ _ _
      refine ex_cast hx2 (id := 0) ?_
      obtain ⟨r0, h, e0⟩ := map_sx h
      have e1 := hr2 r0 e0.symm
      subst r0
      refine wk_id ?_
      refine wk_id ?_
      refine seq_np ?_
      refine reg_f ?_
      refine rs 1 [] [] (by kernel_rfl) allP_nil ?_
      refine rf [(4, bS true)] [] 0 (by kernel_rfl) ?_
      refine wk_id ?_
      obtain rfl := Option.some.inj h
      refine ret_at (bS true) (by kernel_rfl) ?_
      exact ret_e [] [] (by simp only [push_cast, seval]) (by simp only [push_cast, seval]) rfl rfl rfl

set_option maxRecDepth 100000 in
set_option maxHeartbeats 10000000 in
theorem taskmillref_SameLock_spec (xa : Lock) (b : Lock) (r : Bool) (h : taskmillref_SameLock xa b = some r) : SpecW Try.prog 15 [.agg (Enc.cells xa), .agg (Enc.cells b)] [] 0 (fun x h n => x = bS r ∧ h = [] ∧ n = 0) := by
  unfold taskmillref_SameLock at h
  refine spec_of (draw_ok _) Try.func15 rfl (by decide) rfl (by kernel_rfl) ?_
  refine seq_np ?_
  refine reg_f ?_
  refine rs 3 [] [] (by kernel_rfl) allP_nil ?_
  refine rf [(2, .ptr 0 0), (3, .ptr 1 0)] [(0, .row 24 (Enc.cells xa)), (1, .row 24 (Enc.cells b))] 2 (by kernel_rfl) ?_
  refine wk_id ?_
  refine seq_cut (A := Bool) (fun a => ([(4, bS a)], [], 0)) (fun a => (taskmillref_SameLock_j1 a) = some r) (fun K1518 hK1518 => ?_) ?_
  · refine reg_f ?_
    refine rs 6 [] [] (by kernel_rfl) allP_nil ?_
    refine run_br h 10 (.inl (by kernel_rfl)) (fun g1519 h => ?_) (fun g1519 h => ?_)
    · refine rs 7 [] [] (by kernel_rfl) allP_nil ?_
      refine run_br h 17 (.inl (by kernel_rfl)) (fun g1520 h => ?_) (fun g1520 h => ?_)
      · refine rs 4 [] [] (by kernel_rfl) allP_nil ?_
        obtain ⟨r1521, hr1521, h⟩ := bind_sx h
        refine run_call 31 [.sl xa.Line.length (fl xa.Line), .sl b.Line.length (fl b.Line)] (some 22) (by kernel_rfl) ?_
        refine call_0 (taskmillref_SameWants_spec xa.Line b.Line r1521 hr1521) (by simp only [push_cast, seval]) (by simp only [push_cast, seval]) ?_
        refine back_f ?_
        refine rs 2 [] [] (by kernel_rfl) allP_nil ?_
        refine rf [(4, bS r1521)] [(0, .row 24 (Enc.cells xa)), (1, .row 24 (Enc.cells b))] 2 (by kernel_rfl) ?_
        exact hK1518 (r1521) _ _ _ h (leSt_m [] [] (by first | ((try simp only [g1519, g1520]) <;> simp only [push_cast, seval]; done) | ((try simp only [g1519]); (try simp only [g1520]); simp only [push_cast, seval]; done) | (exfalso; clear h; simp_all; done)) (by first | ((try simp only [g1519, g1520]) <;> simp only [push_cast, seval]; done) | ((try simp only [g1519]); (try simp only [g1520]); simp only [push_cast, seval]; done) | (exfalso; clear h; simp_all; done)) rfl rfl rfl)
      · refine rs 7 [] [] (by kernel_rfl) allP_nil ?_
        refine rf [(4, bS false)] [(0, .row 24 (Enc.cells xa)), (1, .row 24 (Enc.cells b))] 2 (by kernel_rfl) ?_
        exact hK1518 (false) _ _ _ h (leSt_m [] [] (by first | ((try simp only [g1519, g1520]) <;> simp only [push_cast, seval]; done) | ((try simp only [g1519]); (try simp only [g1520]); simp only [push_cast, seval]; done) | (exfalso; clear h; simp_all; done)) (by first | ((try simp only [g1519, g1520]) <;> simp only [push_cast, seval]; done) | ((try simp only [g1519]); (try simp only [g1520]); simp only [push_cast, seval]; done) | (exfalso; clear h; simp_all; done)) rfl rfl rfl)
    · refine rs 14 [] [] (by kernel_rfl) allP_nil ?_
      refine rf [(4, bS false)] [(0, .row 24 (Enc.cells xa)), (1, .row 24 (Enc.cells b))] 2 (by kernel_rfl) ?_
      exact hK1518 (false) _ _ _ h (leSt_m [] [] (by (try simp only [g1519]) <;> simp only [push_cast, seval]) (by (try simp only [g1519]) <;> simp only [push_cast, seval]) rfl rfl rfl)
  · rintro t4q1 h
    try dsimp only at h ⊢
    unfold taskmillref_SameLock_j1 at h
    obtain rfl := Option.some.inj h
    refine ret_at (bS t4q1) (by kernel_rfl) ?_
    exact ret_e [] [] (by simp only [push_cast, seval]) (by simp only [push_cast, seval]) rfl rfl rfl

set_option maxRecDepth 100000 in
set_option maxHeartbeats 10000000 in
theorem taskmilllaw_noLock_spec (l : Lock) (r : Bool) (h : taskmilllaw_noLock l = some r) : SpecW Try.prog 13 [.agg (Enc.cells l)] [] 0 (fun x h n => x = bS r ∧ h = [] ∧ n = 0) := by
  unfold taskmilllaw_noLock at h
  refine spec_of (draw_ok _) Try.func13 rfl (by decide) rfl (by kernel_rfl) ?_
  refine seq_np ?_
  refine reg_f ?_
  refine rs 2 [] [] (by kernel_rfl) allP_nil ?_
  refine rf [(1, .ptr 0 0)] [(0, .row 24 (Enc.cells l))] 1 (by kernel_rfl) ?_
  refine wk_id ?_
  refine seq_np ?_
  refine reg_f ?_
  refine rs 2 [] [] (by kernel_rfl) allP_nil ?_
  obtain ⟨r1524, hr1524, h⟩ := bind_sx h
  refine call_x (taskmillref_SameLock_spec l (Lock.mk 0 false []) r1524 hr1524) (args := [.agg (Enc.cells l), .agg [iS 0, bS false, .v (.slice none 0 0)]]) (dst := (some 5)) (by kernel_rfl) [(0, .row 24 (Enc.cells l))] 1 (by kernel_rfl) [] [] (bS r1524) [] (by simp only [push_cast, seval]) (by simp only [push_cast, seval]) (by kernel_rfl) (.inl rfl) (by simp only [push_cast, seval]) (by simp only [push_cast, seval]) ?_
  refine rs 1 [] [] (by kernel_rfl) allP_nil ?_
  refine rf [(2, bS r1524)] [(0, .row 24 (Enc.cells l))] 1 (by kernel_rfl) ?_
  refine wk_id ?_
  obtain rfl := Option.some.inj h
  refine ret_at (bS r1524) (by kernel_rfl) ?_
  exact ret_e [] [] (by simp only [push_cast, seval]) (by simp only [push_cast, seval]) rfl rfl rfl

set_option maxRecDepth 100000 in
set_option maxHeartbeats 10000000 in
theorem taskmillref_InLine_spec (l : (List Want)) (task : Int) (r : Int) (h : taskmillref_InLine l task = some r) : SpecW Try.prog 17 [.sl l.length (fl l), iS task] [] 0 (fun x h n => x = iS r ∧ h = [] ∧ n = 0) := by
  unfold taskmillref_InLine at h
  refine spec_of (draw_ok _) Try.func17 rfl (by decide) rfl (by kernel_rfl) ?_
  refine seq_np ?_
  refine reg_f ?_
  refine rs 1 [] [] (by kernel_rfl) allP_nil ?_
  refine rf [(0, .sl l.length (fl l)), (1, iS task)] [] 0 (by kernel_rfl) ?_
  refine wk_id ?_
  refine seq_np ?_
  refine seq_np ?_
  refine reg_f ?_
  refine rs 1 [] [] (by kernel_rfl) allP_nil ?_
  refine rf [(0, .sl l.length (fl l)), (1, iS task), (5, iS 0)] [] 0 (by kernel_rfl) ?_
  refine wk_id ?_
  refine block_np ?_
  refine loop_sx (S := Int) (fun a => ([(0, .sl l.length (fl l)), (1, iS task), (5, iS a)], [], 0)) h (leSt_m [] [] (by simp only [push_cast, seval]) (by simp only [push_cast, seval]) rfl rfl rfl) ?_
  rintro i7 o2 R2 h hr2 hn2 hx2 ht2
  try dsimp only at h hn2 ⊢
  unfold taskmillref_InLine_l1 at h
  try dsimp only at h
  refine seq_np ?_
  refine seq_np ?_
  refine reg_f ?_
  refine rs 4 [] [] (by kernel_rfl) allP_nil ?_
  refine rf [(0, .sl l.length (fl l)), (1, iS task), (5, iS i7), (9, bS (decide (i7 < ((l.length : Nat) : Int))))] [] 0 (by kernel_rfl) ?_
  refine wk_id ?_
  refine cond_sx h (by kernel_rfl) (fun g1612 h => ?_) (fun g1612 h => ?_)
  · refine wk_id ?_
    refine seq_np ?_
    refine block_np ?_
    refine chk_sx h (fun g1610 h => ?_)
    refine seq_np ?_
    refine reg_f ?_
    have k1609 : 0 ≤ i7 ∧ i7 < ((l.length : Nat) : Int) := by first | simpa only [Bool.and_eq_true, decide_eq_true_eq, bne_iff_ne, ne_eq] using g1610 | (simp at g1610 ⊢; omega)
    refine rs 7 [none, none, some ⟨.iptr (fl l) ((i7).toNat * 3), [], 0, []⟩, none, some ⟨iS (ix l i7).Task, [], 0, []⟩] _ (by kernel_rfl) (allP_cons (ob_ld l i7 3 0 (((i7).toNat * 3) + 0) k1609 rfl (by decide) (by first | rfl | omega) (dflS Try.prog 3) (iS (ix l i7).Task) rfl 0 []) (allP_cons (ob_ix_l l 3 0 i7 k1609) allP_nil)) ?_
    refine rf [(0, .sl l.length (fl l)), (1, iS task), (5, iS i7), (18, bS ((ix l i7).Task == task))] [] 0 (by kernel_rfl) ?_
    refine wk_id ?_
    refine cond_sx h (by kernel_rfl) (fun g1611 h => ?_) (fun g1611 h => ?_)
    · refine seq_np ?_
      refine reg_f ?_
      refine rs 2 [] [] (by kernel_rfl) allP_nil ?_
      refine rf [(4, iS i7)] [] 0 (by kernel_rfl) ?_
      refine wk_id ?_
      refine rt_cast ht2 ?_
      obtain ⟨r0, h, e0⟩ := map_sx h
      have e1 := hr2 r0 e0.symm
      subst r0
      obtain rfl := Option.some.inj h
      refine ret_at (iS i7) (by kernel_rfl) ?_
      exact ret_e [] [] (by simp only [push_cast, seval]) (by simp only [push_cast, seval]) rfl rfl rfl
    · refine wk_id ?_
      refine wk_id ?_
      refine reg_f ?_
      refine rs 3 [] [] (by kernel_rfl) allP_nil ?_
      refine rf [(0, .sl l.length (fl l)), (1, iS task), (5, iS (IntKind.i64.wrap (i7 + 1)))] [] 0 (by kernel_rfl) ?_
      exact hn2 ((IntKind.i64.wrap (i7 + 1))) _ _ _ (Option.some.inj h).symm (leSt_m [] [] (by simp only [push_cast, seval]) (by simp only [push_cast, seval]) rfl rfl rfl)
  · change R2 (.exit 0) _ _ _
    refine ex_cast hx2 (id := 0) ?_
    obtain ⟨r0, h, e0⟩ := map_sx h
    have e1 := hr2 r0 e0.symm
    subst r0
    refine wk_id ?_
    refine wk_id ?_
    refine seq_np ?_
    refine reg_f ?_
    refine rs 1 [] [] (by kernel_rfl) allP_nil ?_
    refine rf [(4, iS (-1))] [] 0 (by kernel_rfl) ?_
    refine wk_id ?_
    obtain rfl := Option.some.inj h
    refine ret_at (iS (-1)) (by kernel_rfl) ?_
    exact ret_e [] [] (by simp only [push_cast, seval]) (by simp only [push_cast, seval]) rfl rfl rfl

set_option maxRecDepth 100000 in
set_option maxHeartbeats 10000000 in
theorem taskmillref_Admitted_1_spec (l_Readers : Int) (l_Writer : Bool) (c0 : (List Want)) (r : Int × Bool × (List Want) × (List Int)) (h : taskmillref_Admitted_1 l_Readers l_Writer c0 = some r) : SpecW Try.prog 14 [.agg [iS l_Readers, bS l_Writer, .own 0 0 c0.length]] [(0, .row 47 (fl c0))] 1 (fun x h n => x = .tup [.agg [iS r.1, bS r.2.1, .own 1 0 r.2.2.1.length], .own 2 0 r.2.2.2.length] ∧ h = [(0, .dead), (1, .row 47 (fl r.2.2.1)), (2, .row 3 (fl r.2.2.2))] ∧ n = 3) := by
  unfold taskmillref_Admitted_1 at h
  refine spec_of (draw_ok _) Try.func14 rfl (by decide) rfl (by kernel_rfl) ?_
  refine seq_np ?_
  refine reg_f ?_
  refine rs 3 [] [] (by kernel_rfl) allP_nil ?_
  refine rf [(1, .ptr 1 0), (2, .ptr 2 0)] [(0, .row 47 (fl c0)), (1, .row 24 [iS l_Readers, bS l_Writer, .own 0 0 c0.length]), (2, .row 24 [iS 0, bS false, .v (.slice none 0 0)])] 3 (by kernel_rfl) ?_
  refine wk_id ?_
  refine seq_np ?_
  refine reg_f ?_
  refine rs 1 [] [] (by kernel_rfl) allP_nil ?_
  refine rf [(1, .ptr 1 0), (2, .ptr 2 0), (4, .v (.slice none 0 0))] [(0, .row 47 (fl c0)), (1, .row 24 [iS l_Readers, bS l_Writer, .own 0 0 c0.length]), (2, .row 24 [iS 0, bS false, .v (.slice none 0 0)])] 3 (by kernel_rfl) ?_
  refine wk_id ?_
  refine seq_np ?_
  refine block_cut (A := Int × Bool × (List Int) × (List Want)) (fun a => ([(1, .ptr 1 0), (2, .ptr 2 0), (4, .own 3 0 a.2.2.1.length)], [(0, .dead), (1, .row 24 [iS a.1, bS a.2.1, .own 4 0 a.2.2.2.length]), (2, .row 24 [iS 0, bS false, .v (.slice none 0 0)]), (3, .row 3 (fl a.2.2.1)), (4, .row 47 (fl a.2.2.2))], 5)) (fun a => (taskmillref_Admitted_1_j1 a.1 a.2.1 a.2.2.1 a.2.2.2) = some r) (fun K1757 hK1757 => ?_) ?_
  · refine loop_sx (S := Int × Bool × (List Int) × (List Want)) (fun a => ([(1, .ptr 1 0), (2, .ptr 2 0), (4, .own 3 0 a.2.2.1.length)], [(0, .dead), (1, .row 24 [iS a.1, bS a.2.1, .own 4 0 a.2.2.2.length]), (2, .row 24 [iS 0, bS false, .v (.slice none 0 0)]), (3, .row 3 (fl a.2.2.1)), (4, .row 47 (fl a.2.2.2))], 5)) h (leSt_m [(1, 1), (2, 2), (4, 0)] [] (by simp only [push_cast, seval]) (by simp only [push_cast, seval]) rfl rfl rfl) ?_
    rintro ⟨c1_Readers21, c1_Writer21, c3q10, c4q10⟩ o2 R2 h hr2 hn2 hx2 ht2
    try dsimp only at h hn2 ⊢
    unfold taskmillref_Admitted_1_l1 at h
    try dsimp only at h
    refine seq_np ?_
    refine seq_np ?_
    refine reg_f ?_
    refine rs 4 [] [] (by kernel_rfl) allP_nil ?_
    refine rf [(1, .ptr 1 0), (2, .ptr 2 0), (4, .own 3 0 c3q10.length), (9, bS (decide ((0 : Int) < ((c4q10.length : Nat) : Int))))] [(0, .dead), (1, .row 24 [iS c1_Readers21, bS c1_Writer21, .own 4 0 c4q10.length]), (2, .row 24 [iS 0, bS false, .v (.slice none 0 0)]), (3, .row 3 (fl c3q10)), (4, .row 47 (fl c4q10))] 5 (by kernel_rfl) ?_
    refine wk_id ?_
    refine cond_sx h (by kernel_rfl) (fun g1811 h => ?_) (fun g1811 h => ?_)
    · refine wk_id ?_
      refine block_np ?_
      refine chk_sx h (fun g1789 h => ?_)
      refine seq_np ?_
      refine reg_f ?_
      have k1788 : 0 ≤ (0 : Int) ∧ (0 : Int) < ((c4q10.length : Nat) : Int) := by first | simpa only [Bool.and_eq_true, decide_eq_true_eq, bne_iff_ne, ne_eq] using g1789 | (simp at g1789 ⊢; omega)
      refine rs 6 [none, none, some ⟨.ptr 4 (0 + ((0 : Int)).toNat * 3), [], 5, [4]⟩, some ⟨.agg (Enc.cells (ix c4q10 (0 : Int))), [], 5, [4]⟩] _ (by kernel_rfl) (allP_cons (ob_ldw c4q10 (0 : Int) 3 (0 + ((0 : Int)).toNat * 3) k1788 rfl (by first | rfl | omega) [iS (ix c4q10 (0 : Int)).Task, bS (ix c4q10 (0 : Int)).Write, iS (ix c4q10 (0 : Int)).N] rfl 5 [4]) (allP_cons (ob_ix_o 4 c4q10.length 0 3 5 0 k1788) allP_nil)) ?_
      refine rf [(1, .ptr 1 0), (2, .ptr 2 0), (4, .own 3 0 c3q10.length), (5, .ptr 5 0)] [(0, .dead), (1, .row 24 [iS c1_Readers21, bS c1_Writer21, .own 4 0 c4q10.length]), (2, .row 24 [iS 0, bS false, .v (.slice none 0 0)]), (3, .row 3 (fl c3q10)), (4, .row 47 (fl c4q10)), (5, .row 47 (Enc.cells (ix c4q10 (0 : Int))))] 6 (by kernel_rfl) ?_
      refine wk_id ?_
      refine seq_np ?_
      refine seq_cut (A := Unit) (fun _ => ([(1, .ptr 1 0), (2, .ptr 2 0), (4, .own 3 0 c3q10.length), (5, .ptr 5 0), (24, bS (c1_Writer21 || ((ix c4q10 (0 : Int)).Write && (decide ((0 : Int) < c1_Readers21)))))], [(1, .row 24 [iS c1_Readers21, bS c1_Writer21, .own 4 0 c4q10.length]), (2, .row 24 [iS 0, bS false, .v (.slice none 0 0)]), (3, .row 3 (fl c3q10)), (4, .row 47 (fl c4q10)), (5, .row 47 (Enc.cells (ix c4q10 (0 : Int))))], 6)) (fun _ => True) (fun K1795 hK1795 => ?_) (fun _ _ => ?_)
      · refine reg_f ?_
        refine rs 3 [] [] (by kernel_rfl) allP_nil ?_
        refine run_split 16 c1_Writer21 (.inl (by kernel_rfl)) (fun g1796 => ?_) (fun g1796 => ?_)
        · refine rs 8 [] [] (by kernel_rfl) allP_nil ?_
          refine rf [(1, .ptr 1 0), (2, .ptr 2 0), (4, .own 3 0 c3q10.length), (5, .ptr 5 0), (24, bS true)] [(0, .dead), (1, .row 24 [iS c1_Readers21, bS c1_Writer21, .own 4 0 c4q10.length]), (2, .row 24 [iS 0, bS false, .v (.slice none 0 0)]), (3, .row 3 (fl c3q10)), (4, .row 47 (fl c4q10)), (5, .row 47 (Enc.cells (ix c4q10 (0 : Int))))] 6 (by kernel_rfl) ?_
          exact hK1795 () _ _ _ trivial (leSt_m [(1, 1), (2, 2), (3, 3), (4, 4), (5, 5)] [] (by (try simp only [g1796]) <;> simp only [push_cast, seval]) (by (try simp only [g1796]) <;> simp only [push_cast, seval]) rfl rfl rfl)
        · refine rs 3 [] [] (by kernel_rfl) allP_nil ?_
          refine run_split 19 (ix c4q10 (0 : Int)).Write (.inr (by kernel_rfl)) (fun g1797 => ?_) (fun g1797 => ?_)
          · refine rs 5 [] [] (by kernel_rfl) allP_nil ?_
            refine rf [(1, .ptr 1 0), (2, .ptr 2 0), (4, .own 3 0 c3q10.length), (5, .ptr 5 0), (24, bS (decide ((0 : Int) < c1_Readers21)))] [(0, .dead), (1, .row 24 [iS c1_Readers21, bS c1_Writer21, .own 4 0 c4q10.length]), (2, .row 24 [iS 0, bS false, .v (.slice none 0 0)]), (3, .row 3 (fl c3q10)), (4, .row 47 (fl c4q10)), (5, .row 47 (Enc.cells (ix c4q10 (0 : Int))))] 6 (by kernel_rfl) ?_
            exact hK1795 () _ _ _ trivial (leSt_m [(1, 1), (2, 2), (3, 3), (4, 4), (5, 5)] [] (by first | ((try simp only [g1796, g1797]) <;> simp only [push_cast, seval]; done) | ((try simp only [g1796]); (try simp only [g1797]); simp only [push_cast, seval]; done) | (exfalso; clear h; simp_all; done)) (by first | ((try simp only [g1796, g1797]) <;> simp only [push_cast, seval]; done) | ((try simp only [g1796]); (try simp only [g1797]); simp only [push_cast, seval]; done) | (exfalso; clear h; simp_all; done)) rfl rfl rfl)
          · refine rs 5 [] [] (by kernel_rfl) allP_nil ?_
            refine rf [(1, .ptr 1 0), (2, .ptr 2 0), (4, .own 3 0 c3q10.length), (5, .ptr 5 0), (24, bS false)] [(0, .dead), (1, .row 24 [iS c1_Readers21, bS c1_Writer21, .own 4 0 c4q10.length]), (2, .row 24 [iS 0, bS false, .v (.slice none 0 0)]), (3, .row 3 (fl c3q10)), (4, .row 47 (fl c4q10)), (5, .row 47 (Enc.cells (ix c4q10 (0 : Int))))] 6 (by kernel_rfl) ?_
            exact hK1795 () _ _ _ trivial (leSt_m [(1, 1), (2, 2), (3, 3), (4, 4), (5, 5)] [] (by first | ((try simp only [g1796, g1797]) <;> simp only [push_cast, seval]; done) | ((try simp only [g1796]); (try simp only [g1797]); simp only [push_cast, seval]; done) | (exfalso; clear h; simp_all; done)) (by first | ((try simp only [g1796, g1797]) <;> simp only [push_cast, seval]; done) | ((try simp only [g1796]); (try simp only [g1797]); simp only [push_cast, seval]; done) | (exfalso; clear h; simp_all; done)) rfl rfl rfl)
      · dsimp only
        refine cond_sx h (by kernel_rfl) (fun g1810 h => ?_) (fun g1810 h => ?_)
        · change R2 (.exit 0) _ _ _
          refine ex_cast hx2 (id := 0) ?_
          obtain ⟨r0, h, e0⟩ := map_sx h
          have e1 := hr2 r0 e0.symm
          subst r0
          exact hK1757 (c1_Readers21, c1_Writer21, c3q10, c4q10) _ _ _ h (leSt_m [(1, 1), (2, 2), (3, 3), (4, 4)] [] (by simp only [push_cast, seval]) (by simp only [push_cast, seval]) rfl rfl rfl)
        · refine wk_id ?_
          refine seq_cut (A := Int × Bool) (fun a => ([(1, .ptr 1 0), (2, .ptr 2 0), (4, .own 3 0 c3q10.length), (5, .ptr 4 0)], [(0, .dead), (1, .row 24 [iS a.1, bS a.2, .own 5 0 c4q10.length]), (2, .row 24 [iS 0, bS false, .v (.slice none 0 0)]), (3, .row 3 (fl c3q10)), (4, .row 47 (Enc.cells (ix c4q10 (0 : Int)))), (5, .row 47 (fl c4q10))], 6)) (fun a => (taskmillref_Admitted_1_j2 c3q10 c4q10 a.1 a.2) = some o2) (fun K1800 hK1800 => ?_) ?_
          · refine seq_np ?_
            refine reg_f ?_
            refine rs 2 [] [] (by kernel_rfl) allP_nil ?_
            refine rf [(1, .ptr 1 0), (2, .ptr 2 0), (4, .own 3 0 c3q10.length), (5, .ptr 5 0), (26, bS (ix c4q10 (0 : Int)).Write)] [(1, .row 24 [iS c1_Readers21, bS c1_Writer21, .own 4 0 c4q10.length]), (2, .row 24 [iS 0, bS false, .v (.slice none 0 0)]), (3, .row 3 (fl c3q10)), (4, .row 47 (fl c4q10)), (5, .row 47 (Enc.cells (ix c4q10 (0 : Int))))] 6 (by kernel_rfl) ?_
            refine wk_id ?_
            refine cond_sx h (by kernel_rfl) (fun g1801 h => ?_) (fun g1801 h => ?_)
            · refine reg_f ?_
              refine rs 2 [] [] (by kernel_rfl) allP_nil ?_
              refine rf [(1, .ptr 1 0), (2, .ptr 2 0), (4, .own 3 0 c3q10.length), (5, .ptr 5 0)] [(1, .row 24 [iS c1_Readers21, bS true, .own 4 0 c4q10.length]), (2, .row 24 [iS 0, bS false, .v (.slice none 0 0)]), (3, .row 3 (fl c3q10)), (4, .row 47 (fl c4q10)), (5, .row 47 (Enc.cells (ix c4q10 (0 : Int))))] 6 (by kernel_rfl) ?_
              exact hK1800 (c1_Readers21, true) _ _ _ h (leSt_m [(1, 1), (2, 2), (3, 3), (4, 5), (5, 4)] [] (by simp only [push_cast, seval]) (by simp only [push_cast, seval]) rfl rfl rfl)
            · refine reg_f ?_
              refine rs 5 [] [] (by kernel_rfl) allP_nil ?_
              refine rf [(1, .ptr 1 0), (2, .ptr 2 0), (4, .own 3 0 c3q10.length), (5, .ptr 5 0)] [(1, .row 24 [iS (IntKind.i64.wrap (c1_Readers21 + 1)), bS c1_Writer21, .own 4 0 c4q10.length]), (2, .row 24 [iS 0, bS false, .v (.slice none 0 0)]), (3, .row 3 (fl c3q10)), (4, .row 47 (fl c4q10)), (5, .row 47 (Enc.cells (ix c4q10 (0 : Int))))] 6 (by kernel_rfl) ?_
              exact hK1800 ((IntKind.i64.wrap (c1_Readers21 + 1)), c1_Writer21) _ _ _ h (leSt_m [(1, 1), (2, 2), (3, 3), (4, 5), (5, 4)] [] (by simp only [push_cast, seval]) (by simp only [push_cast, seval]) rfl rfl rfl)
          · rintro ⟨c1_Readers22, c1_Writer22⟩ h
            try dsimp only at h ⊢
            unfold taskmillref_Admitted_1_j2 at h
            refine chk_sx h (fun g1805 h => ?_)
            refine seq_np ?_
            refine reg_f ?_
            have k1804 : (c3q10 ++ ([(ix c4q10 (0 : Int)).Task] : List Int)).length * 8 ≤ 140737488355328 := by first | simpa only [Bool.and_eq_true, decide_eq_true_eq, bne_iff_ne, ne_eq] using g1805 | (simp at g1805 ⊢; omega)
            refine rs 6 [none, none, none, none, some ⟨.own 7 0 (c3q10 ++ ([(ix c4q10 (0 : Int)).Task] : List Int)).length, [(7, .row 3 (fl (c3q10 ++ ([(ix c4q10 (0 : Int)).Task] : List Int)))), (3, .dead)], 8, [3, 6]⟩] _ (by kernel_rfl) (allP_cons (ob_app (P := Try.prog) c3q10 ([(ix c4q10 (0 : Int)).Task] : List Int) 1 8 rfl (appCells (fl ([(ix c4q10 (0 : Int)).Task] : List Int)) 0 (([(ix c4q10 (0 : Int)).Task] : List Int).length * 1)) ([(ix c4q10 (0 : Int)).Task] : List Int).length (app_own ([(ix c4q10 (0 : Int)).Task] : List Int) 1 rfl) rfl (0 + ([(ix c4q10 (0 : Int)).Task] : List Int).length * 1 ≤ (fl ([(ix c4q10 (0 : Int)).Task] : List Int)).length) (app_own_le ([(ix c4q10 (0 : Int)).Task] : List Int) 1 rfl) 3 (by kernel_rfl) (by decide) k1804 3 7 [6]) allP_nil) ?_
            refine rf [(1, .ptr 1 0), (2, .ptr 2 0), (4, .own 7 0 (c3q10 ++ ([(ix c4q10 (0 : Int)).Task] : List Int)).length)] [(0, .dead), (1, .row 24 [iS c1_Readers22, bS c1_Writer22, .own 5 0 c4q10.length]), (2, .row 24 [iS 0, bS false, .v (.slice none 0 0)]), (3, .dead), (4, .row 47 (Enc.cells (ix c4q10 (0 : Int)))), (5, .row 47 (fl c4q10)), (6, .row 3 (fl ([(ix c4q10 (0 : Int)).Task] : List Int))), (7, .row 3 (fl (c3q10 ++ ([(ix c4q10 (0 : Int)).Task] : List Int))))] 8 (by kernel_rfl) ?_
            refine wk_id ?_
            refine chk_sx h (fun g1809 h => ?_)
            refine reg_f ?_
            have k1808 : 0 ≤ (1 : Int) ∧ (1 : Int) ≤ ((c4q10.length : Nat) : Int) ∧ ((c4q10.length : Nat) : Int) ≤ ((c4q10.length : Nat) : Int) := by first | simpa only [Bool.and_eq_true, decide_eq_true_eq, bne_iff_ne, ne_eq] using g1809 | (simp at g1809 ⊢; omega)
            refine rs 2 [] [] (by kernel_rfl) allP_nil ?_
            refine run_cutO c4q10 (some 39) 5 3 47 (1 : Int) ((c4q10.length : Nat) : Int) (by kernel_rfl) rfl k1808 ?_
            refine rs 2 [] [] (by kernel_rfl) allP_nil ?_
            refine rf [(1, .ptr 1 0), (2, .ptr 2 0), (4, .own 7 0 (c3q10 ++ ([(ix c4q10 (0 : Int)).Task] : List Int)).length)] [(0, .dead), (1, .row 24 [iS c1_Readers22, bS c1_Writer22, .own 8 0 (cut c4q10 (1 : Int) ((c4q10.length : Nat) : Int)).length]), (2, .row 24 [iS 0, bS false, .v (.slice none 0 0)]), (3, .dead), (4, .row 47 (Enc.cells (ix c4q10 (0 : Int)))), (5, .dead), (6, .row 3 (fl ([(ix c4q10 (0 : Int)).Task] : List Int))), (7, .row 3 (fl (c3q10 ++ ([(ix c4q10 (0 : Int)).Task] : List Int)))), (8, .row 47 (fl (cut c4q10 (1 : Int) ((c4q10.length : Nat) : Int))))] 9 (by kernel_rfl) ?_
            refine wk_id ?_
            exact hn2 (c1_Readers22, c1_Writer22, (c3q10 ++ ([(ix c4q10 (0 : Int)).Task] : List Int)), (cut c4q10 (1 : Int) ((c4q10.length : Nat) : Int))) _ _ _ (Option.some.inj h).symm (leSt_m [(1, 1), (2, 2), (3, 7), (4, 8)] [] (by simp only [push_cast, seval]) (by simp only [push_cast, seval]) rfl rfl rfl)
    · change R2 (.exit 0) _ _ _
      refine ex_cast hx2 (id := 0) ?_
      obtain ⟨r0, h, e0⟩ := map_sx h
      have e1 := hr2 r0 e0.symm
      subst r0
      exact hK1757 (c1_Readers21, c1_Writer21, c3q10, c4q10) _ _ _ h (leSt_m [(1, 1), (2, 2), (3, 3), (4, 4)] [] (by simp only [push_cast, seval]) (by simp only [push_cast, seval]) rfl rfl rfl)
  · rintro ⟨c1_Readers17, c1_Writer17, c3q8, c4q8⟩ h
    try dsimp only at h ⊢
    unfold taskmillref_Admitted_1_j1 at h
    refine wk_id ?_
    refine seq_np ?_
    refine reg_f ?_
    refine rs 4 [] [] (by kernel_rfl) allP_nil ?_
    refine rf [(2, .ptr 2 0), (3, .own 3 0 c3q8.length)] [(0, .dead), (1, .row 24 [iS c1_Readers17, bS c1_Writer17, .own 4 0 c4q8.length]), (2, .row 24 [iS c1_Readers17, bS c1_Writer17, .own 4 0 c4q8.length]), (3, .row 3 (fl c3q8)), (4, .row 47 (fl c4q8))] 5 (by kernel_rfl) ?_
    refine wk_id ?_
    obtain rfl := Option.some.inj h
    refine ret_at (.tup [.agg [iS c1_Readers17, bS c1_Writer17, .own 4 0 c4q8.length], .own 3 0 c3q8.length]) (by kernel_rfl) ?_
    exact ret_e [(1, 4), (2, 3)] [] (by simp only [push_cast, seval]) (by simp only [push_cast, seval]) rfl rfl rfl

set_option maxRecDepth 100000 in
set_option maxHeartbeats 10000000 in
theorem taskmilllaw_LockLeaves_spec (l : Lock) (task : Int) (write : Bool) (r : Bool) (h : taskmilllaw_LockLeaves l task write = some r) : SpecW Try.prog 3 [.agg (Enc.cells l), iS task, bS write] [] 0 (fun x h n => x = bS r ∧ h = [] ∧ n = 0) := by
  unfold taskmilllaw_LockLeaves at h
  refine spec_of (draw_ok _) Try.func3 rfl (by decide) rfl (by kernel_rfl) ?_
  refine seq_np ?_
  refine reg_f ?_
  refine rs 2 [] [] (by kernel_rfl) allP_nil ?_
  refine rf [(1, iS task), (2, bS write), (3, .ptr 0 0)] [(0, .row 24 (Enc.cells l))] 1 (by kernel_rfl) ?_
  refine wk_id ?_
  refine seq_np ?_
  refine seq_np ?_
  refine reg_f ?_
  obtain ⟨r1821, hr1821, h⟩ := bind_sx h
  refine run_call 8 [] (some 22) (by kernel_rfl) ?_
  refine call_0 (taskmilllaw_lockBegun_spec r1821 hr1821) (by simp only [push_cast, seval]) (by simp only [push_cast, seval]) ?_
  refine back_f ?_
  refine rs 1 [] [] (by kernel_rfl) allP_nil ?_
  refine rf [(1, iS task), (2, bS write), (3, .ptr 0 0), (23, bS (!r1821))] [(0, .row 24 (Enc.cells l))] 1 (by kernel_rfl) ?_
  refine wk_id ?_
  refine cond_sx h (by kernel_rfl) (fun g1962 h => ?_) (fun g1962 h => ?_)
  · refine seq_np ?_
    refine reg_f ?_
    refine rs 1 [] [] (by kernel_rfl) allP_nil ?_
    refine rf [(6, bS false)] [(0, .row 24 (Enc.cells l))] 1 (by kernel_rfl) ?_
    refine wk_id ?_
    obtain rfl := Option.some.inj h
    refine ret_at (bS false) (by kernel_rfl) ?_
    exact ret_e [] [] (by simp only [push_cast, seval]) (by simp only [push_cast, seval]) rfl rfl rfl
  · refine wk_id ?_
    refine seq_np ?_
    refine seq_np ?_
    refine reg_f ?_
    refine rs 4 [] [] (by kernel_rfl) allP_nil ?_
    refine rf [(1, iS task), (2, bS write), (3, .ptr 0 0), (27, bS (decide ((700 : Int) < ((l.Line.length : Nat) : Int))))] [(0, .row 24 (Enc.cells l))] 1 (by kernel_rfl) ?_
    refine wk_id ?_
    refine cond_sx h (by kernel_rfl) (fun g1961 h => ?_) (fun g1961 h => ?_)
    · refine seq_np ?_
      refine reg_f ?_
      refine rs 1 [] [] (by kernel_rfl) allP_nil ?_
      refine rf [(6, bS true)] [(0, .row 24 (Enc.cells l))] 1 (by kernel_rfl) ?_
      refine wk_id ?_
      obtain rfl := Option.some.inj h
      refine ret_at (bS true) (by kernel_rfl) ?_
      exact ret_e [] [] (by simp only [push_cast, seval]) (by simp only [push_cast, seval]) rfl rfl rfl
    · refine wk_id ?_
      refine seq_np ?_
      refine reg_f ?_
      refine rs 1 [] [] (by kernel_rfl) allP_nil ?_
      obtain ⟨r1825, hr1825, h⟩ := bind_sx h
      refine call_x (taskmilllaw_ownLock_spec l r1825 hr1825) (args := [.agg (Enc.cells l)]) (dst := (some 30)) (by kernel_rfl) [(0, .row 24 (Enc.cells l))] 1 (by kernel_rfl) [] [] (.agg [iS r1825.1, bS r1825.2.1, .own 1 0 r1825.2.2.length]) [(1, .row 47 (fl r1825.2.2))] (by simp only [push_cast, seval]) (by simp only [push_cast, seval]) (by kernel_rfl) (.inl rfl) (by simp only [push_cast, seval]) (by simp only [push_cast, seval]) ?_
      refine rs 1 [] [] (by kernel_rfl) allP_nil ?_
      obtain ⟨r1826, hr1826, h⟩ := bind_sx h
      refine call_x (lock_Leave_spec (Lock.mk r1825.1 r1825.2.1 r1825.2.2) write r1826 hr1826) (args := [.agg [iS r1825.1, bS r1825.2.1, .own 1 0 r1825.2.2.length], bS write]) (dst := (some 32)) (by kernel_rfl) [(0, .row 24 (Enc.cells l)), (1, .row 47 (fl r1825.2.2))] 2 (by kernel_rfl) [] [1] (.tup [.agg [iS r1826.1, bS r1826.2.1, .own 2 0 r1826.2.2.2.2.1.length], .own 3 0 r1826.2.2.2.2.2.length, bS r1826.2.2.1, .agg (Enc.cells r1826.2.2.2.1)]) [(2, .row 47 (fl r1826.2.2.2.2.1)), (3, .row 3 (fl r1826.2.2.2.2.2))] (by simp only [push_cast, seval]) (by simp only [push_cast, seval]) (by kernel_rfl) (.inr ⟨by simp only [push_cast, seval], by simp only [push_cast, seval]⟩) (by simp only [push_cast, seval]) (by simp only [push_cast, seval]) ?_
      refine rs 11 [] [] (by kernel_rfl) allP_nil ?_
      refine rf [(1, iS task), (2, bS write), (3, .ptr 0 0), (7, .ptr 4 0), (8, .own 3 0 r1826.2.2.2.2.2.length), (9, bS r1826.2.2.1), (10, .ptr 5 0)] [(0, .row 24 (Enc.cells l)), (1, .row 47 (fl r1825.2.2)), (2, .row 47 (fl r1826.2.2.2.2.1)), (3, .row 3 (fl r1826.2.2.2.2.2)), (4, .row 24 [iS r1826.1, bS r1826.2.1, .own 2 0 r1826.2.2.2.2.1.length]), (5, .row 28 (Enc.cells r1826.2.2.2.1))] 6 (by kernel_rfl) ?_
      refine wk_id ?_
      refine seq_np ?_
      refine reg_f ?_
      refine rs 1 [] [] (by kernel_rfl) allP_nil ?_
      obtain ⟨r1829, hr1829, h⟩ := bind_sx h
      refine call_x (taskmilllaw_ownLock_spec l r1829 hr1829) (args := [.agg (Enc.cells l)]) (dst := (some 39)) (by kernel_rfl) [(0, .row 24 (Enc.cells l)), (1, .row 47 (fl r1825.2.2)), (2, .row 47 (fl r1826.2.2.2.2.1)), (3, .row 3 (fl r1826.2.2.2.2.2)), (4, .row 24 [iS r1826.1, bS r1826.2.1, .own 2 0 r1826.2.2.2.2.1.length]), (5, .row 28 (Enc.cells r1826.2.2.2.1))] 6 (by kernel_rfl) [] [] (.agg [iS r1829.1, bS r1829.2.1, .own 6 0 r1829.2.2.length]) [(6, .row 47 (fl r1829.2.2))] (by simp only [push_cast, seval]) (by simp only [push_cast, seval]) (by kernel_rfl) (.inl rfl) (by simp only [push_cast, seval]) (by simp only [push_cast, seval]) ?_
      refine rs 1 [] [] (by kernel_rfl) allP_nil ?_
      obtain ⟨r1830, hr1830, h⟩ := bind_sx h
      refine call_x (lock_Drop_spec (Lock.mk r1829.1 r1829.2.1 r1829.2.2) task r1830 hr1830) (args := [.agg [iS r1829.1, bS r1829.2.1, .own 6 0 r1829.2.2.length], iS task]) (dst := (some 41)) (by kernel_rfl) [(0, .row 24 (Enc.cells l)), (1, .row 47 (fl r1825.2.2)), (2, .row 47 (fl r1826.2.2.2.2.1)), (3, .row 3 (fl r1826.2.2.2.2.2)), (4, .row 24 [iS r1826.1, bS r1826.2.1, .own 2 0 r1826.2.2.2.2.1.length]), (5, .row 28 (Enc.cells r1826.2.2.2.1)), (6, .row 47 (fl r1829.2.2))] 7 (by kernel_rfl) [] [6] (.tup [.agg [iS r1830.1, bS r1830.2.1, .own 7 0 r1830.2.2.2.1.length], .own 8 0 r1830.2.2.2.2.length, .agg (Enc.cells r1830.2.2.1)]) [(7, .row 47 (fl r1830.2.2.2.1)), (8, .row 3 (fl r1830.2.2.2.2))] (by simp only [push_cast, seval]) (by simp only [push_cast, seval]) (by kernel_rfl) (.inr ⟨by simp only [push_cast, seval], by simp only [push_cast, seval]⟩) (by simp only [push_cast, seval]) (by simp only [push_cast, seval]) ?_
      refine rs 9 [] [] (by kernel_rfl) allP_nil ?_
      refine rf [(1, iS task), (2, bS write), (3, .ptr 0 0), (7, .ptr 4 0), (8, .own 3 0 r1826.2.2.2.2.2.length), (9, bS r1826.2.2.1), (10, .ptr 5 0), (11, .ptr 9 0), (12, .own 8 0 r1830.2.2.2.2.length), (13, .ptr 10 0)] [(0, .row 24 (Enc.cells l)), (1, .row 47 (fl r1825.2.2)), (2, .row 47 (fl r1826.2.2.2.2.1)), (3, .row 3 (fl r1826.2.2.2.2.2)), (4, .row 24 [iS r1826.1, bS r1826.2.1, .own 2 0 r1826.2.2.2.2.1.length]), (5, .row 28 (Enc.cells r1826.2.2.2.1)), (6, .row 47 (fl r1829.2.2)), (7, .row 47 (fl r1830.2.2.2.1)), (8, .row 3 (fl r1830.2.2.2.2)), (9, .row 24 [iS r1830.1, bS r1830.2.1, .own 7 0 r1830.2.2.2.1.length]), (10, .row 28 (Enc.cells r1830.2.2.1))] 11 (by kernel_rfl) ?_
      refine wk_id ?_
      refine seq_np ?_
      refine reg_f ?_
      refine rs 1 [] [] (by kernel_rfl) allP_nil ?_
      obtain ⟨r1832, hr1832, h⟩ := bind_sx h
      refine run_call 12 [.agg (Enc.cells l)] (some 46) (by kernel_rfl) ?_
      refine call_0 (taskmillref_LockFault_spec l r1832 hr1832) (by simp only [push_cast, seval]) (by simp only [push_cast, seval]) ?_
      refine back_f ?_
      refine rs 2 [] [] (by kernel_rfl) allP_nil ?_
      refine rf [(1, iS task), (2, bS write), (3, .ptr 0 0), (7, .ptr 4 0), (8, .own 3 0 r1826.2.2.2.2.2.length), (9, bS r1826.2.2.1), (10, .ptr 5 0), (11, .ptr 9 0), (12, .own 8 0 r1830.2.2.2.2.length), (13, .ptr 10 0), (14, .ptr 11 0)] [(0, .row 24 (Enc.cells l)), (1, .row 47 (fl r1825.2.2)), (2, .row 47 (fl r1826.2.2.2.2.1)), (3, .row 3 (fl r1826.2.2.2.2.2)), (4, .row 24 [iS r1826.1, bS r1826.2.1, .own 2 0 r1826.2.2.2.2.1.length]), (5, .row 28 (Enc.cells r1826.2.2.2.1)), (6, .row 47 (fl r1829.2.2)), (7, .row 47 (fl r1830.2.2.2.1)), (8, .row 3 (fl r1830.2.2.2.2)), (9, .row 24 [iS r1830.1, bS r1830.2.1, .own 7 0 r1830.2.2.2.1.length]), (10, .row 28 (Enc.cells r1830.2.2.1)), (11, .row 28 (Enc.cells r1832))] 12 (by kernel_rfl) ?_
      refine wk_id ?_
      refine seq_np ?_
      refine seq_cut (A := Bool × Bool × Int × Bool × (List Int) × Int × Bool × (List Int) × Fault × Fault × (List Want) × (List Want)) (fun a => ([(1, iS task), (2, bS write), (3, .ptr 0 0), (7, .ptr 1 0), (8, .own 2 0 a.2.2.2.2.1.length), (9, bS a.1), (11, .ptr 3 0), (12, .own 4 0 a.2.2.2.2.2.2.2.1.length), (13, .ptr 5 0), (14, .ptr 6 0), (67, bS a.2.1)], [(0, .row 24 (Enc.cells l)), (1, .row 24 [iS a.2.2.1, bS a.2.2.2.1, .own 7 0 a.2.2.2.2.2.2.2.2.2.2.1.length]), (2, .row 3 (fl a.2.2.2.2.1)), (3, .row 24 [iS a.2.2.2.2.2.1, bS a.2.2.2.2.2.2.1, .own 8 0 a.2.2.2.2.2.2.2.2.2.2.2.length]), (4, .row 3 (fl a.2.2.2.2.2.2.2.1)), (5, .row 28 (Enc.cells a.2.2.2.2.2.2.2.2.1)), (6, .row 28 (Enc.cells a.2.2.2.2.2.2.2.2.2.1)), (7, .row 47 (fl a.2.2.2.2.2.2.2.2.2.2.1)), (8, .row 47 (fl a.2.2.2.2.2.2.2.2.2.2.2))], 9)) (fun a => (taskmilllaw_LockLeaves_j8 l task write a.1 a.2.1 a.2.2.1 a.2.2.2.1 a.2.2.2.2.1 a.2.2.2.2.2.1 a.2.2.2.2.2.2.1 a.2.2.2.2.2.2.2.1 a.2.2.2.2.2.2.2.2.1 a.2.2.2.2.2.2.2.2.2.1 a.2.2.2.2.2.2.2.2.2.2.1 a.2.2.2.2.2.2.2.2.2.2.2) = some r) (fun K1847 hK1847 => ?_) ?_
      · refine reg_f ?_
        refine rs 4 [] [] (by kernel_rfl) allP_nil ?_
        refine run_br h 50 (.inl (by kernel_rfl)) (fun g1848 h => ?_) (fun g1848 h => ?_)
        · refine rs 17 [] [] (by kernel_rfl) allP_nil ?_
          refine rf [(1, iS task), (2, bS write), (3, .ptr 0 0), (7, .ptr 4 0), (8, .own 3 0 r1826.2.2.2.2.2.length), (9, bS r1826.2.2.1), (11, .ptr 9 0), (12, .own 8 0 r1830.2.2.2.2.length), (13, .ptr 10 0), (14, .ptr 11 0), (67, bS true)] [(0, .row 24 (Enc.cells l)), (1, .row 47 (fl r1825.2.2)), (2, .row 47 (fl r1826.2.2.2.2.1)), (3, .row 3 (fl r1826.2.2.2.2.2)), (4, .row 24 [iS r1826.1, bS r1826.2.1, .own 2 0 r1826.2.2.2.2.1.length]), (5, .row 28 (Enc.cells r1826.2.2.2.1)), (6, .row 47 (fl r1829.2.2)), (7, .row 47 (fl r1830.2.2.2.1)), (8, .row 3 (fl r1830.2.2.2.2)), (9, .row 24 [iS r1830.1, bS r1830.2.1, .own 7 0 r1830.2.2.2.1.length]), (10, .row 28 (Enc.cells r1830.2.2.1)), (11, .row 28 (Enc.cells r1832))] 12 (by kernel_rfl) ?_
          exact hK1847 (r1826.2.2.1, true, r1826.1, r1826.2.1, r1826.2.2.2.2.2, r1830.1, r1830.2.1, r1830.2.2.2.2, r1830.2.2.1, r1832, r1826.2.2.2.2.1, r1830.2.2.2.1) _ _ _ h (leSt_m [(0, 0), (1, 4), (2, 3), (3, 9), (4, 8), (5, 10), (6, 11), (7, 2), (8, 7)] [] (by (try simp only [g1848]) <;> simp only [push_cast, seval]) (by (try simp only [g1848]) <;> simp only [push_cast, seval]) rfl rfl rfl)
        · refine rs 4 [] [] (by kernel_rfl) allP_nil ?_
          refine run_br h 54 (.inr (by kernel_rfl)) (fun g1849 h => ?_) (fun g1849 h => ?_)
          · refine rs 1 [] [] (by kernel_rfl) allP_nil ?_
            obtain ⟨r1850, hr1850, h⟩ := bind_sx h
            refine call_x (taskmilllaw_noLock_spec (Lock.mk r1826.1 r1826.2.1 r1826.2.2.2.2.1) r1850 hr1850) (args := [.agg [iS r1826.1, bS r1826.2.1, .own 2 0 r1826.2.2.2.2.1.length]]) (dst := (some 56)) (by kernel_rfl) [(0, .row 24 (Enc.cells l)), (1, .row 47 (fl r1825.2.2)), (2, .row 47 (fl r1826.2.2.2.2.1)), (3, .row 3 (fl r1826.2.2.2.2.2)), (4, .row 24 [iS r1826.1, bS r1826.2.1, .own 2 0 r1826.2.2.2.2.1.length]), (5, .row 28 (Enc.cells r1826.2.2.2.1)), (6, .row 47 (fl r1829.2.2)), (7, .row 47 (fl r1830.2.2.2.1)), (8, .row 3 (fl r1830.2.2.2.2)), (9, .row 24 [iS r1830.1, bS r1830.2.1, .own 7 0 r1830.2.2.2.1.length]), (10, .row 28 (Enc.cells r1830.2.2.1)), (11, .row 28 (Enc.cells r1832))] 12 (by kernel_rfl) [] [2] (bS r1850) [] (by simp only [push_cast, seval]) (by simp only [push_cast, seval]) (by kernel_rfl) (.inr ⟨by simp only [push_cast, seval], by simp only [push_cast, seval]⟩) (by simp only [push_cast, seval]) (by simp only [push_cast, seval]) ?_
            refine rn 10 [(1, iS task), (2, bS write), (3, .ptr 0 0), (7, .ptr 4 0), (8, .own 3 0 r1826.2.2.2.2.2.length), (9, bS r1826.2.2.1), (11, .ptr 9 0), (12, .own 8 0 r1830.2.2.2.2.length), (13, .ptr 10 0), (14, .ptr 11 0), (50, bS false), (54, .gd true (bS true)), (56, bS r1850)] [(0, .row 24 (Enc.cells l)), (1, .row 47 (fl r1825.2.2)), (2, .row 47 (fl r1826.2.2.2.2.1)), (3, .row 3 (fl r1826.2.2.2.2.2)), (4, .row 24 [iS r1826.1, bS r1826.2.1, .own 2 0 r1826.2.2.2.2.1.length]), (5, .row 28 (Enc.cells r1826.2.2.2.1)), (6, .row 47 (fl r1829.2.2)), (7, .row 47 (fl r1830.2.2.2.1)), (8, .row 3 (fl r1830.2.2.2.2)), (9, .row 24 [iS r1830.1, bS r1830.2.1, .own 7 0 r1830.2.2.2.1.length]), (10, .row 28 (Enc.cells r1830.2.2.1)), (11, .row 28 (Enc.cells r1832))] 12 (by kernel_rfl) ?_
            refine rs 2 [] [] (by kernel_rfl) allP_nil ?_
            refine run_br h 58 (.inr (by kernel_rfl)) (fun g1851 h => ?_) (fun g1851 h => ?_)
            · refine rs 9 [] [] (by kernel_rfl) allP_nil ?_
              refine rf [(1, iS task), (2, bS write), (3, .ptr 0 0), (7, .ptr 4 0), (8, .own 3 0 r1826.2.2.2.2.2.length), (9, bS r1826.2.2.1), (11, .ptr 9 0), (12, .own 8 0 r1830.2.2.2.2.length), (13, .ptr 10 0), (14, .ptr 11 0), (67, bS true)] [(0, .row 24 (Enc.cells l)), (1, .row 47 (fl r1825.2.2)), (2, .row 47 (fl r1826.2.2.2.2.1)), (3, .row 3 (fl r1826.2.2.2.2.2)), (4, .row 24 [iS r1826.1, bS r1826.2.1, .own 2 0 r1826.2.2.2.2.1.length]), (5, .row 28 (Enc.cells r1826.2.2.2.1)), (6, .row 47 (fl r1829.2.2)), (7, .row 47 (fl r1830.2.2.2.1)), (8, .row 3 (fl r1830.2.2.2.2)), (9, .row 24 [iS r1830.1, bS r1830.2.1, .own 7 0 r1830.2.2.2.1.length]), (10, .row 28 (Enc.cells r1830.2.2.1)), (11, .row 28 (Enc.cells r1832))] 12 (by kernel_rfl) ?_
              exact hK1847 (r1826.2.2.1, true, r1826.1, r1826.2.1, r1826.2.2.2.2.2, r1830.1, r1830.2.1, r1830.2.2.2.2, r1830.2.2.1, r1832, r1826.2.2.2.2.1, r1830.2.2.2.1) _ _ _ h (leSt_m [(0, 0), (1, 4), (2, 3), (3, 9), (4, 8), (5, 10), (6, 11), (7, 2), (8, 7)] [] (by first | ((try simp only [g1848, g1849, g1851]) <;> simp only [push_cast, seval]; done) | ((try simp only [g1848]); (try simp only [g1849]); (try simp only [g1851]); simp only [push_cast, seval]; done) | (exfalso; clear h; simp_all; done)) (by first | ((try simp only [g1848, g1849, g1851]) <;> simp only [push_cast, seval]; done) | ((try simp only [g1848]); (try simp only [g1849]); (try simp only [g1851]); simp only [push_cast, seval]; done) | (exfalso; clear h; simp_all; done)) rfl rfl rfl)
            · refine rs 5 [] [] (by kernel_rfl) allP_nil ?_
              refine run_br h 63 (.inr (by kernel_rfl)) (fun g1852 h => ?_) (fun g1852 h => ?_)
              · refine rs 4 [] [] (by kernel_rfl) allP_nil ?_
                refine rf [(1, iS task), (2, bS write), (3, .ptr 0 0), (7, .ptr 4 0), (8, .own 3 0 r1826.2.2.2.2.2.length), (9, bS r1826.2.2.1), (11, .ptr 9 0), (12, .own 8 0 r1830.2.2.2.2.length), (13, .ptr 10 0), (14, .ptr 11 0), (67, bS true)] [(0, .row 24 (Enc.cells l)), (1, .row 47 (fl r1825.2.2)), (2, .row 47 (fl r1826.2.2.2.2.1)), (3, .row 3 (fl r1826.2.2.2.2.2)), (4, .row 24 [iS r1826.1, bS r1826.2.1, .own 2 0 r1826.2.2.2.2.1.length]), (5, .row 28 (Enc.cells r1826.2.2.2.1)), (6, .row 47 (fl r1829.2.2)), (7, .row 47 (fl r1830.2.2.2.1)), (8, .row 3 (fl r1830.2.2.2.2)), (9, .row 24 [iS r1830.1, bS r1830.2.1, .own 7 0 r1830.2.2.2.1.length]), (10, .row 28 (Enc.cells r1830.2.2.1)), (11, .row 28 (Enc.cells r1832))] 12 (by kernel_rfl) ?_
                exact hK1847 (r1826.2.2.1, true, r1826.1, r1826.2.1, r1826.2.2.2.2.2, r1830.1, r1830.2.1, r1830.2.2.2.2, r1830.2.2.1, r1832, r1826.2.2.2.2.1, r1830.2.2.2.1) _ _ _ h (leSt_m [(0, 0), (1, 4), (2, 3), (3, 9), (4, 8), (5, 10), (6, 11), (7, 2), (8, 7)] [] (by first | ((try simp only [g1848, g1849, g1851, g1852]) <;> simp only [push_cast, seval]; done) | ((try simp only [g1848]); (try simp only [g1849]); (try simp only [g1851]); (try simp only [g1852]); simp only [push_cast, seval]; done) | (exfalso; clear h; simp_all; done)) (by first | ((try simp only [g1848, g1849, g1851, g1852]) <;> simp only [push_cast, seval]; done) | ((try simp only [g1848]); (try simp only [g1849]); (try simp only [g1851]); (try simp only [g1852]); simp only [push_cast, seval]; done) | (exfalso; clear h; simp_all; done)) rfl rfl rfl)
              · refine rs 4 [] [] (by kernel_rfl) allP_nil ?_
                refine rf [(1, iS task), (2, bS write), (3, .ptr 0 0), (7, .ptr 4 0), (8, .own 3 0 r1826.2.2.2.2.2.length), (9, bS r1826.2.2.1), (11, .ptr 9 0), (12, .own 8 0 r1830.2.2.2.2.length), (13, .ptr 10 0), (14, .ptr 11 0), (67, bS r1826.2.2.1)] [(0, .row 24 (Enc.cells l)), (1, .row 47 (fl r1825.2.2)), (2, .row 47 (fl r1826.2.2.2.2.1)), (3, .row 3 (fl r1826.2.2.2.2.2)), (4, .row 24 [iS r1826.1, bS r1826.2.1, .own 2 0 r1826.2.2.2.2.1.length]), (5, .row 28 (Enc.cells r1826.2.2.2.1)), (6, .row 47 (fl r1829.2.2)), (7, .row 47 (fl r1830.2.2.2.1)), (8, .row 3 (fl r1830.2.2.2.2)), (9, .row 24 [iS r1830.1, bS r1830.2.1, .own 7 0 r1830.2.2.2.1.length]), (10, .row 28 (Enc.cells r1830.2.2.1)), (11, .row 28 (Enc.cells r1832))] 12 (by kernel_rfl) ?_
                exact hK1847 (r1826.2.2.1, r1826.2.2.1, r1826.1, r1826.2.1, r1826.2.2.2.2.2, r1830.1, r1830.2.1, r1830.2.2.2.2, r1830.2.2.1, r1832, r1826.2.2.2.2.1, r1830.2.2.2.1) _ _ _ h (leSt_m [(0, 0), (1, 4), (2, 3), (3, 9), (4, 8), (5, 10), (6, 11), (7, 2), (8, 7)] [] (by first | ((try simp only [g1848, g1849, g1851, g1852]) <;> simp only [push_cast, seval]; done) | ((try simp only [g1848]); (try simp only [g1849]); (try simp only [g1851]); (try simp only [g1852]); simp only [push_cast, seval]; done) | (exfalso; clear h; simp_all; done)) (by first | ((try simp only [g1848, g1849, g1851, g1852]) <;> simp only [push_cast, seval]; done) | ((try simp only [g1848]); (try simp only [g1849]); (try simp only [g1851]); (try simp only [g1852]); simp only [push_cast, seval]; done) | (exfalso; clear h; simp_all; done)) rfl rfl rfl)
          · refine rs 13 [] [] (by kernel_rfl) allP_nil ?_
            refine rf [(1, iS task), (2, bS write), (3, .ptr 0 0), (7, .ptr 4 0), (8, .own 3 0 r1826.2.2.2.2.2.length), (9, bS r1826.2.2.1), (11, .ptr 9 0), (12, .own 8 0 r1830.2.2.2.2.length), (13, .ptr 10 0), (14, .ptr 11 0), (67, bS false)] [(0, .row 24 (Enc.cells l)), (1, .row 47 (fl r1825.2.2)), (2, .row 47 (fl r1826.2.2.2.2.1)), (3, .row 3 (fl r1826.2.2.2.2.2)), (4, .row 24 [iS r1826.1, bS r1826.2.1, .own 2 0 r1826.2.2.2.2.1.length]), (5, .row 28 (Enc.cells r1826.2.2.2.1)), (6, .row 47 (fl r1829.2.2)), (7, .row 47 (fl r1830.2.2.2.1)), (8, .row 3 (fl r1830.2.2.2.2)), (9, .row 24 [iS r1830.1, bS r1830.2.1, .own 7 0 r1830.2.2.2.1.length]), (10, .row 28 (Enc.cells r1830.2.2.1)), (11, .row 28 (Enc.cells r1832))] 12 (by kernel_rfl) ?_
            exact hK1847 (r1826.2.2.1, false, r1826.1, r1826.2.1, r1826.2.2.2.2.2, r1830.1, r1830.2.1, r1830.2.2.2.2, r1830.2.2.1, r1832, r1826.2.2.2.2.1, r1830.2.2.2.1) _ _ _ h (leSt_m [(0, 0), (1, 4), (2, 3), (3, 9), (4, 8), (5, 10), (6, 11), (7, 2), (8, 7)] [] (by first | ((try simp only [g1848, g1849]) <;> simp only [push_cast, seval]; done) | ((try simp only [g1848]); (try simp only [g1849]); simp only [push_cast, seval]; done) | (exfalso; clear h; simp_all; done)) (by first | ((try simp only [g1848, g1849]) <;> simp only [push_cast, seval]; done) | ((try simp only [g1848]); (try simp only [g1849]); simp only [push_cast, seval]; done) | (exfalso; clear h; simp_all; done)) rfl rfl rfl)
      · rintro ⟨p2, t67q2, c1_Readers2, c1_Writer2, c2q2, c3_Readers2, c3_Writer2, c4q3, c5q2, c6q2, c7q3, c8q4⟩ h
        try dsimp only at h ⊢
        unfold taskmilllaw_LockLeaves_j8 at h
        refine cond_sx h (by kernel_rfl) (fun g1960 h => ?_) (fun g1960 h => ?_)
        · refine seq_np ?_
          refine reg_f ?_
          refine rs 1 [] [] (by kernel_rfl) allP_nil ?_
          refine rf [(6, bS false)] [(0, .row 24 (Enc.cells l)), (1, .row 24 [iS c1_Readers2, bS c1_Writer2, .own 7 0 c7q3.length]), (2, .row 3 (fl c2q2)), (3, .row 24 [iS c3_Readers2, bS c3_Writer2, .own 8 0 c8q4.length]), (4, .row 3 (fl c4q3)), (5, .row 28 (Enc.cells c5q2)), (6, .row 28 (Enc.cells c6q2)), (7, .row 47 (fl c7q3)), (8, .row 47 (fl c8q4))] 9 (by kernel_rfl) ?_
          refine wk_id ?_
          obtain rfl := Option.some.inj h
          refine ret_at (bS false) (by kernel_rfl) ?_
          exact ret_e [] [] (by simp only [push_cast, seval]) (by simp only [push_cast, seval]) rfl rfl rfl
        · refine wk_id ?_
          refine seq_cut (A := Unit) (fun a => ([(1, iS task), (3, .ptr 0 0), (11, .ptr 1 0), (12, .own 2 0 c4q3.length), (13, .ptr 3 0), (14, .ptr 4 0)], [(0, .row 24 (Enc.cells l)), (1, .row 24 [iS c3_Readers2, bS c3_Writer2, .own 5 0 c8q4.length]), (2, .row 3 (fl c4q3)), (3, .row 28 (Enc.cells c5q2)), (4, .row 28 (Enc.cells c6q2)), (5, .row 47 (fl c8q4))], 6)) (fun a => (taskmilllaw_LockLeaves_j4 l task c3_Readers2 c3_Writer2 c4q3 c5q2 c6q2 c8q4) = some r) (fun K1873 hK1873 => ?_) ?_
          · refine seq_np ?_
            refine reg_f ?_
            refine rs 3 [] [] (by kernel_rfl) allP_nil ?_
            refine rf [(1, iS task), (2, bS write), (3, .ptr 0 0), (7, .ptr 1 0), (8, .own 2 0 c2q2.length), (9, bS p2), (11, .ptr 3 0), (12, .own 4 0 c4q3.length), (13, .ptr 5 0), (14, .ptr 6 0), (70, bS (c6q2.Code == 0))] [(0, .row 24 (Enc.cells l)), (1, .row 24 [iS c1_Readers2, bS c1_Writer2, .own 7 0 c7q3.length]), (2, .row 3 (fl c2q2)), (3, .row 24 [iS c3_Readers2, bS c3_Writer2, .own 8 0 c8q4.length]), (4, .row 3 (fl c4q3)), (5, .row 28 (Enc.cells c5q2)), (6, .row 28 (Enc.cells c6q2)), (7, .row 47 (fl c7q3)), (8, .row 47 (fl c8q4))] 9 (by kernel_rfl) ?_
            refine wk_id ?_
            refine cond_sx h (by kernel_rfl) (fun g1908 h => ?_) (fun g1908 h => ?_)
            · refine seq_np ?_
              refine reg_f ?_
              refine rs 3 [] [] (by kernel_rfl) allP_nil ?_
              refine rf [(1, iS task), (2, bS write), (3, .ptr 0 0), (7, .ptr 1 0), (8, .own 2 0 c2q2.length), (9, bS p2), (11, .ptr 3 0), (12, .own 4 0 c4q3.length), (13, .ptr 5 0), (14, .ptr 6 0), (15, .ptr 9 0)] [(0, .row 24 (Enc.cells l)), (1, .row 24 [iS c1_Readers2, bS c1_Writer2, .own 7 0 c7q3.length]), (2, .row 3 (fl c2q2)), (3, .row 24 [iS c3_Readers2, bS c3_Writer2, .own 8 0 c8q4.length]), (4, .row 3 (fl c4q3)), (5, .row 28 (Enc.cells c5q2)), (6, .row 28 (Enc.cells c6q2)), (7, .row 47 (fl c7q3)), (8, .row 47 (fl c8q4)), (9, .row 24 (Enc.cells l))] 10 (by kernel_rfl) ?_
              refine wk_id ?_
              refine seq_np ?_
              refine reg_f ?_
              refine rs 1 [] [] (by kernel_rfl) allP_nil ?_
              refine rf [(1, iS task), (2, bS write), (3, .ptr 0 0), (7, .ptr 1 0), (8, .own 2 0 c2q2.length), (9, bS p2), (11, .ptr 3 0), (12, .own 4 0 c4q3.length), (13, .ptr 5 0), (14, .ptr 6 0), (15, .ptr 9 0), (16, .v (.slice none 0 0))] [(0, .row 24 (Enc.cells l)), (1, .row 24 [iS c1_Readers2, bS c1_Writer2, .own 7 0 c7q3.length]), (2, .row 3 (fl c2q2)), (3, .row 24 [iS c3_Readers2, bS c3_Writer2, .own 8 0 c8q4.length]), (4, .row 3 (fl c4q3)), (5, .row 28 (Enc.cells c5q2)), (6, .row 28 (Enc.cells c6q2)), (7, .row 47 (fl c7q3)), (8, .row 47 (fl c8q4)), (9, .row 24 (Enc.cells l))] 10 (by kernel_rfl) ?_
              refine wk_id ?_
              refine seq_cut (A := Unit) (fun _ => ([(1, iS task), (2, bS write), (3, .ptr 0 0), (7, .ptr 1 0), (8, .own 2 0 c2q2.length), (9, bS p2), (11, .ptr 3 0), (12, .own 4 0 c4q3.length), (13, .ptr 5 0), (14, .ptr 6 0), (15, .ptr 9 0), (16, .v (.slice none 0 0)), (17, bS (bif write then ((!l.Writer) || ((!write) && (l.Readers == 0))) else ((!write) && (l.Readers == 0))))], [(0, .row 24 (Enc.cells l)), (1, .row 24 [iS c1_Readers2, bS c1_Writer2, .own 7 0 c7q3.length]), (2, .row 3 (fl c2q2)), (3, .row 24 [iS c3_Readers2, bS c3_Writer2, .own 8 0 c8q4.length]), (4, .row 3 (fl c4q3)), (5, .row 28 (Enc.cells c5q2)), (6, .row 28 (Enc.cells c6q2)), (7, .row 47 (fl c7q3)), (8, .row 47 (fl c8q4)), (9, .row 24 (Enc.cells l))], 10)) (fun _ => True) (fun K1878 hK1878 => ?_) (fun _ _ => ?_)
              · refine reg_f ?_
                refine rs 2 [] [] (by kernel_rfl) allP_nil ?_
                refine run_split 73 write (.inl (by kernel_rfl)) (fun g1879 => ?_) (fun g1879 => ?_)
                · refine rs 5 [] [] (by kernel_rfl) allP_nil ?_
                  refine run_split 78 (!l.Writer) (.inl (by kernel_rfl)) (fun g1880 => ?_) (fun g1880 => ?_)
                  · refine rs 9 [] [] (by kernel_rfl) allP_nil ?_
                    refine rf [(1, iS task), (2, bS write), (3, .ptr 0 0), (7, .ptr 1 0), (8, .own 2 0 c2q2.length), (9, bS p2), (11, .ptr 3 0), (12, .own 4 0 c4q3.length), (13, .ptr 5 0), (14, .ptr 6 0), (15, .ptr 9 0), (16, .v (.slice none 0 0)), (17, bS true)] [(0, .row 24 (Enc.cells l)), (1, .row 24 [iS c1_Readers2, bS c1_Writer2, .own 7 0 c7q3.length]), (2, .row 3 (fl c2q2)), (3, .row 24 [iS c3_Readers2, bS c3_Writer2, .own 8 0 c8q4.length]), (4, .row 3 (fl c4q3)), (5, .row 28 (Enc.cells c5q2)), (6, .row 28 (Enc.cells c6q2)), (7, .row 47 (fl c7q3)), (8, .row 47 (fl c8q4)), (9, .row 24 (Enc.cells l))] 10 (by kernel_rfl) ?_
                    exact hK1878 () _ _ _ trivial (leSt_m [(0, 0), (1, 1), (2, 2), (3, 3), (4, 4), (5, 5), (6, 6), (7, 7), (8, 8), (9, 9)] [] (by first | ((try simp only [g1879, g1880]) <;> simp only [push_cast, seval]; done) | ((try simp only [g1879]); (try simp only [g1880]); simp only [push_cast, seval]; done) | (exfalso; clear h; simp_all; done)) (by first | ((try simp only [g1879, g1880]) <;> simp only [push_cast, seval]; done) | ((try simp only [g1879]); (try simp only [g1880]); simp only [push_cast, seval]; done) | (exfalso; clear h; simp_all; done)) rfl rfl rfl)
                  · refine rs 3 [] [] (by kernel_rfl) allP_nil ?_
                    refine run_split 81 (!write) (.inr (by kernel_rfl)) (fun g1881 => ?_) (fun g1881 => ?_)
                    · refine rn 10 [(1, iS task), (2, bS write), (3, .ptr 0 0), (7, .ptr 1 0), (8, .own 2 0 c2q2.length), (9, bS p2), (11, .ptr 3 0), (12, .own 4 0 c4q3.length), (13, .ptr 5 0), (14, .ptr 6 0), (15, .ptr 9 0), (16, .v (.slice none 0 0)), (78, bS false), (81, .gd true (bS true))] [(0, .row 24 (Enc.cells l)), (1, .row 24 [iS c1_Readers2, bS c1_Writer2, .own 7 0 c7q3.length]), (2, .row 3 (fl c2q2)), (3, .row 24 [iS c3_Readers2, bS c3_Writer2, .own 8 0 c8q4.length]), (4, .row 3 (fl c4q3)), (5, .row 28 (Enc.cells c5q2)), (6, .row 28 (Enc.cells c6q2)), (7, .row 47 (fl c7q3)), (8, .row 47 (fl c8q4)), (9, .row 24 (Enc.cells l))] 10 (by kernel_rfl) ?_
                      refine rs 6 [] [] (by kernel_rfl) allP_nil ?_
                      refine rf [(1, iS task), (2, bS write), (3, .ptr 0 0), (7, .ptr 1 0), (8, .own 2 0 c2q2.length), (9, bS p2), (11, .ptr 3 0), (12, .own 4 0 c4q3.length), (13, .ptr 5 0), (14, .ptr 6 0), (15, .ptr 9 0), (16, .v (.slice none 0 0)), (17, bS (l.Readers == 0))] [(0, .row 24 (Enc.cells l)), (1, .row 24 [iS c1_Readers2, bS c1_Writer2, .own 7 0 c7q3.length]), (2, .row 3 (fl c2q2)), (3, .row 24 [iS c3_Readers2, bS c3_Writer2, .own 8 0 c8q4.length]), (4, .row 3 (fl c4q3)), (5, .row 28 (Enc.cells c5q2)), (6, .row 28 (Enc.cells c6q2)), (7, .row 47 (fl c7q3)), (8, .row 47 (fl c8q4)), (9, .row 24 (Enc.cells l))] 10 (by kernel_rfl) ?_
                      exact hK1878 () _ _ _ trivial (leSt_m [(0, 0), (1, 1), (2, 2), (3, 3), (4, 4), (5, 5), (6, 6), (7, 7), (8, 8), (9, 9)] [] (by first | ((try simp only [g1879, g1880, g1881]) <;> simp only [push_cast, seval]; done) | ((try simp only [g1879]); (try simp only [g1880]); (try simp only [g1881]); simp only [push_cast, seval]; done) | (exfalso; clear h; simp_all; done)) (by first | ((try simp only [g1879, g1880, g1881]) <;> simp only [push_cast, seval]; done) | ((try simp only [g1879]); (try simp only [g1880]); (try simp only [g1881]); simp only [push_cast, seval]; done) | (exfalso; clear h; simp_all; done)) rfl rfl rfl)
                    · refine rn 10 [(1, iS task), (2, bS write), (3, .ptr 0 0), (7, .ptr 1 0), (8, .own 2 0 c2q2.length), (9, bS p2), (11, .ptr 3 0), (12, .own 4 0 c4q3.length), (13, .ptr 5 0), (14, .ptr 6 0), (15, .ptr 9 0), (16, .v (.slice none 0 0)), (78, bS false), (81, .gd true (bS false))] [(0, .row 24 (Enc.cells l)), (1, .row 24 [iS c1_Readers2, bS c1_Writer2, .own 7 0 c7q3.length]), (2, .row 3 (fl c2q2)), (3, .row 24 [iS c3_Readers2, bS c3_Writer2, .own 8 0 c8q4.length]), (4, .row 3 (fl c4q3)), (5, .row 28 (Enc.cells c5q2)), (6, .row 28 (Enc.cells c6q2)), (7, .row 47 (fl c7q3)), (8, .row 47 (fl c8q4)), (9, .row 24 (Enc.cells l))] 10 (by kernel_rfl) ?_
                      refine rs 6 [] [] (by kernel_rfl) allP_nil ?_
                      refine rf [(1, iS task), (2, bS write), (3, .ptr 0 0), (7, .ptr 1 0), (8, .own 2 0 c2q2.length), (9, bS p2), (11, .ptr 3 0), (12, .own 4 0 c4q3.length), (13, .ptr 5 0), (14, .ptr 6 0), (15, .ptr 9 0), (16, .v (.slice none 0 0)), (17, bS false)] [(0, .row 24 (Enc.cells l)), (1, .row 24 [iS c1_Readers2, bS c1_Writer2, .own 7 0 c7q3.length]), (2, .row 3 (fl c2q2)), (3, .row 24 [iS c3_Readers2, bS c3_Writer2, .own 8 0 c8q4.length]), (4, .row 3 (fl c4q3)), (5, .row 28 (Enc.cells c5q2)), (6, .row 28 (Enc.cells c6q2)), (7, .row 47 (fl c7q3)), (8, .row 47 (fl c8q4)), (9, .row 24 (Enc.cells l))] 10 (by kernel_rfl) ?_
                      exact hK1878 () _ _ _ trivial (leSt_m [(0, 0), (1, 1), (2, 2), (3, 3), (4, 4), (5, 5), (6, 6), (7, 7), (8, 8), (9, 9)] [] (by first | ((try simp only [g1879, g1880, g1881]) <;> simp only [push_cast, seval]; done) | ((try simp only [g1879]); (try simp only [g1880]); (try simp only [g1881]); simp only [push_cast, seval]; done) | (exfalso; clear h; simp_all; done)) (by first | ((try simp only [g1879, g1880, g1881]) <;> simp only [push_cast, seval]; done) | ((try simp only [g1879]); (try simp only [g1880]); (try simp only [g1881]); simp only [push_cast, seval]; done) | (exfalso; clear h; simp_all; done)) rfl rfl rfl)
                · refine rs 8 [] [] (by kernel_rfl) allP_nil ?_
                  refine run_split 81 (!write) (.inr (by kernel_rfl)) (fun g1882 => ?_) (fun g1882 => ?_)
                  · refine rs 6 [] [] (by kernel_rfl) allP_nil ?_
                    refine rf [(1, iS task), (2, bS write), (3, .ptr 0 0), (7, .ptr 1 0), (8, .own 2 0 c2q2.length), (9, bS p2), (11, .ptr 3 0), (12, .own 4 0 c4q3.length), (13, .ptr 5 0), (14, .ptr 6 0), (15, .ptr 9 0), (16, .v (.slice none 0 0)), (17, bS (l.Readers == 0))] [(0, .row 24 (Enc.cells l)), (1, .row 24 [iS c1_Readers2, bS c1_Writer2, .own 7 0 c7q3.length]), (2, .row 3 (fl c2q2)), (3, .row 24 [iS c3_Readers2, bS c3_Writer2, .own 8 0 c8q4.length]), (4, .row 3 (fl c4q3)), (5, .row 28 (Enc.cells c5q2)), (6, .row 28 (Enc.cells c6q2)), (7, .row 47 (fl c7q3)), (8, .row 47 (fl c8q4)), (9, .row 24 (Enc.cells l))] 10 (by kernel_rfl) ?_
                    exact hK1878 () _ _ _ trivial (leSt_m [(0, 0), (1, 1), (2, 2), (3, 3), (4, 4), (5, 5), (6, 6), (7, 7), (8, 8), (9, 9)] [] (by first | ((try simp only [g1879, g1882]) <;> simp only [push_cast, seval]; done) | ((try simp only [g1879]); (try simp only [g1882]); simp only [push_cast, seval]; done) | (exfalso; clear h; simp_all; done)) (by first | ((try simp only [g1879, g1882]) <;> simp only [push_cast, seval]; done) | ((try simp only [g1879]); (try simp only [g1882]); simp only [push_cast, seval]; done) | (exfalso; clear h; simp_all; done)) rfl rfl rfl)
                  · refine rs 6 [] [] (by kernel_rfl) allP_nil ?_
                    refine rf [(1, iS task), (2, bS write), (3, .ptr 0 0), (7, .ptr 1 0), (8, .own 2 0 c2q2.length), (9, bS p2), (11, .ptr 3 0), (12, .own 4 0 c4q3.length), (13, .ptr 5 0), (14, .ptr 6 0), (15, .ptr 9 0), (16, .v (.slice none 0 0)), (17, bS false)] [(0, .row 24 (Enc.cells l)), (1, .row 24 [iS c1_Readers2, bS c1_Writer2, .own 7 0 c7q3.length]), (2, .row 3 (fl c2q2)), (3, .row 24 [iS c3_Readers2, bS c3_Writer2, .own 8 0 c8q4.length]), (4, .row 3 (fl c4q3)), (5, .row 28 (Enc.cells c5q2)), (6, .row 28 (Enc.cells c6q2)), (7, .row 47 (fl c7q3)), (8, .row 47 (fl c8q4)), (9, .row 24 (Enc.cells l))] 10 (by kernel_rfl) ?_
                    exact hK1878 () _ _ _ trivial (leSt_m [(0, 0), (1, 1), (2, 2), (3, 3), (4, 4), (5, 5), (6, 6), (7, 7), (8, 8), (9, 9)] [] (by first | ((try simp only [g1879, g1882]) <;> simp only [push_cast, seval]; done) | ((try simp only [g1879]); (try simp only [g1882]); simp only [push_cast, seval]; done) | (exfalso; clear h; simp_all; done)) (by first | ((try simp only [g1879, g1882]) <;> simp only [push_cast, seval]; done) | ((try simp only [g1879]); (try simp only [g1882]); simp only [push_cast, seval]; done) | (exfalso; clear h; simp_all; done)) rfl rfl rfl)
              · dsimp only
                refine seq_cut (A := Lock × (List Int)) (fun a => ([(1, iS task), (3, .ptr 0 0), (7, .ptr 1 0), (8, .own 2 0 c2q2.length), (9, bS p2), (11, .ptr 3 0), (12, .own 4 0 c4q3.length), (13, .ptr 5 0), (14, .ptr 6 0), (15, .ptr 7 0), (16, .own 8 0 a.2.length), (17, bS (bif write then ((!l.Writer) || ((!write) && (l.Readers == 0))) else ((!write) && (l.Readers == 0))))], [(0, .row 24 (Enc.cells l)), (1, .row 24 [iS c1_Readers2, bS c1_Writer2, .own 9 0 c7q3.length]), (2, .row 3 (fl c2q2)), (3, .row 24 [iS c3_Readers2, bS c3_Writer2, .own 10 0 c8q4.length]), (4, .row 3 (fl c4q3)), (5, .row 28 (Enc.cells c5q2)), (6, .row 28 (Enc.cells c6q2)), (7, .row 24 (Enc.cells a.1)), (8, .row 3 (fl a.2)), (9, .row 47 (fl c7q3)), (10, .row 47 (fl c8q4))], 11)) (fun a => (taskmilllaw_LockLeaves_j6 l task write p2 c1_Readers2 c1_Writer2 c2q2 c3_Readers2 c3_Writer2 c4q3 c5q2 c6q2 c7q3 c8q4 a.1 a.2) = some r) (fun K1889 hK1889 => ?_) ?_
                · refine seq_np ?_
                  refine reg_f ?_
                  refine rs 2 [] [] (by kernel_rfl) allP_nil ?_
                  refine rf [(1, iS task), (2, bS write), (3, .ptr 0 0), (7, .ptr 1 0), (8, .own 2 0 c2q2.length), (9, bS p2), (11, .ptr 3 0), (12, .own 4 0 c4q3.length), (13, .ptr 5 0), (14, .ptr 6 0), (15, .ptr 9 0), (16, .v (.slice none 0 0)), (17, bS (bif write then ((!l.Writer) || ((!write) && (l.Readers == 0))) else ((!write) && (l.Readers == 0)))), (88, bS (!(bif write then ((!l.Writer) || ((!write) && (l.Readers == 0))) else ((!write) && (l.Readers == 0)))))] [(0, .row 24 (Enc.cells l)), (1, .row 24 [iS c1_Readers2, bS c1_Writer2, .own 7 0 c7q3.length]), (2, .row 3 (fl c2q2)), (3, .row 24 [iS c3_Readers2, bS c3_Writer2, .own 8 0 c8q4.length]), (4, .row 3 (fl c4q3)), (5, .row 28 (Enc.cells c5q2)), (6, .row 28 (Enc.cells c6q2)), (7, .row 47 (fl c7q3)), (8, .row 47 (fl c8q4)), (9, .row 24 (Enc.cells l))] 10 (by kernel_rfl) ?_
                  refine wk_id ?_
                  refine cond_sx h (by kernel_rfl) (fun g1896 h => ?_) (fun g1896 h => ?_)
                  · refine seq_np ?_
                    refine reg_f ?_
                    refine rs 3 [] [] (by kernel_rfl) allP_nil ?_
                    refine rf [(1, iS task), (2, bS write), (3, .ptr 0 0), (7, .ptr 1 0), (8, .own 2 0 c2q2.length), (9, bS p2), (11, .ptr 3 0), (12, .own 4 0 c4q3.length), (13, .ptr 5 0), (14, .ptr 6 0), (15, .ptr 9 0), (17, bS (bif write then ((!l.Writer) || ((!write) && (l.Readers == 0))) else ((!write) && (l.Readers == 0)))), (18, .ptr 10 0)] [(0, .row 24 (Enc.cells l)), (1, .row 24 [iS c1_Readers2, bS c1_Writer2, .own 7 0 c7q3.length]), (2, .row 3 (fl c2q2)), (3, .row 24 [iS c3_Readers2, bS c3_Writer2, .own 8 0 c8q4.length]), (4, .row 3 (fl c4q3)), (5, .row 28 (Enc.cells c5q2)), (6, .row 28 (Enc.cells c6q2)), (7, .row 47 (fl c7q3)), (8, .row 47 (fl c8q4)), (9, .row 24 (Enc.cells l)), (10, .row 24 (Enc.cells l))] 11 (by kernel_rfl) ?_
                    refine wk_id ?_
                    refine seq_cut (A := Lock) (fun a => ([(1, iS task), (3, .ptr 0 0), (7, .ptr 1 0), (8, .own 2 0 c2q2.length), (9, bS p2), (11, .ptr 3 0), (12, .own 4 0 c4q3.length), (13, .ptr 5 0), (14, .ptr 6 0), (15, .ptr 7 0), (17, bS (bif write then ((!l.Writer) || ((!write) && (l.Readers == 0))) else ((!write) && (l.Readers == 0)))), (18, .ptr 8 0)], [(0, .row 24 (Enc.cells l)), (1, .row 24 [iS c1_Readers2, bS c1_Writer2, .own 9 0 c7q3.length]), (2, .row 3 (fl c2q2)), (3, .row 24 [iS c3_Readers2, bS c3_Writer2, .own 10 0 c8q4.length]), (4, .row 3 (fl c4q3)), (5, .row 28 (Enc.cells c5q2)), (6, .row 28 (Enc.cells c6q2)), (7, .row 24 (Enc.cells l)), (8, .row 24 (Enc.cells a)), (9, .row 47 (fl c7q3)), (10, .row 47 (fl c8q4))], 11)) (fun a => (taskmilllaw_LockLeaves_j7 l task write p2 c1_Readers2 c1_Writer2 c2q2 c3_Readers2 c3_Writer2 c4q3 c5q2 c6q2 c7q3 c8q4 a) = some r) (fun K1892 hK1892 => ?_) ?_
                    · refine seq_np ?_
                      refine reg_f ?_
                      refine rs 1 [] [] (by kernel_rfl) allP_nil ?_
                      refine rf [(1, iS task), (3, .ptr 0 0), (7, .ptr 1 0), (8, .own 2 0 c2q2.length), (9, bS p2), (11, .ptr 3 0), (12, .own 4 0 c4q3.length), (13, .ptr 5 0), (14, .ptr 6 0), (15, .ptr 9 0), (17, bS (bif write then ((!l.Writer) || ((!write) && (l.Readers == 0))) else ((!write) && (l.Readers == 0)))), (18, .ptr 10 0), (90, bS write)] [(0, .row 24 (Enc.cells l)), (1, .row 24 [iS c1_Readers2, bS c1_Writer2, .own 7 0 c7q3.length]), (2, .row 3 (fl c2q2)), (3, .row 24 [iS c3_Readers2, bS c3_Writer2, .own 8 0 c8q4.length]), (4, .row 3 (fl c4q3)), (5, .row 28 (Enc.cells c5q2)), (6, .row 28 (Enc.cells c6q2)), (7, .row 47 (fl c7q3)), (8, .row 47 (fl c8q4)), (9, .row 24 (Enc.cells l)), (10, .row 24 (Enc.cells l))] 11 (by kernel_rfl) ?_
                      refine wk_id ?_
                      refine cond_sx h (by kernel_rfl) (fun g1893 h => ?_) (fun g1893 h => ?_)
                      · refine reg_f ?_
                        refine rs 2 [] [] (by kernel_rfl) allP_nil ?_
                        refine rf [(1, iS task), (3, .ptr 0 0), (7, .ptr 1 0), (8, .own 2 0 c2q2.length), (9, bS p2), (11, .ptr 3 0), (12, .own 4 0 c4q3.length), (13, .ptr 5 0), (14, .ptr 6 0), (15, .ptr 9 0), (17, bS (bif write then ((!l.Writer) || ((!write) && (l.Readers == 0))) else ((!write) && (l.Readers == 0)))), (18, .ptr 10 0)] [(0, .row 24 (Enc.cells l)), (1, .row 24 [iS c1_Readers2, bS c1_Writer2, .own 7 0 c7q3.length]), (2, .row 3 (fl c2q2)), (3, .row 24 [iS c3_Readers2, bS c3_Writer2, .own 8 0 c8q4.length]), (4, .row 3 (fl c4q3)), (5, .row 28 (Enc.cells c5q2)), (6, .row 28 (Enc.cells c6q2)), (7, .row 47 (fl c7q3)), (8, .row 47 (fl c8q4)), (9, .row 24 (Enc.cells l)), (10, .row 24 [iS l.Readers, bS false, .sl l.Line.length (fl l.Line)])] 11 (by kernel_rfl) ?_
                        exact hK1892 ((Lock.mk l.Readers false l.Line)) _ _ _ h (leSt_m [(0, 0), (1, 1), (2, 2), (3, 3), (4, 4), (5, 5), (6, 6), (7, 9), (8, 10), (9, 7), (10, 8)] [] (by simp only [push_cast, seval]) (by simp only [push_cast, seval]) rfl rfl rfl)
                      · refine reg_f ?_
                        refine rs 5 [] [] (by kernel_rfl) allP_nil ?_
                        refine rf [(1, iS task), (3, .ptr 0 0), (7, .ptr 1 0), (8, .own 2 0 c2q2.length), (9, bS p2), (11, .ptr 3 0), (12, .own 4 0 c4q3.length), (13, .ptr 5 0), (14, .ptr 6 0), (15, .ptr 9 0), (17, bS (bif write then ((!l.Writer) || ((!write) && (l.Readers == 0))) else ((!write) && (l.Readers == 0)))), (18, .ptr 10 0)] [(0, .row 24 (Enc.cells l)), (1, .row 24 [iS c1_Readers2, bS c1_Writer2, .own 7 0 c7q3.length]), (2, .row 3 (fl c2q2)), (3, .row 24 [iS c3_Readers2, bS c3_Writer2, .own 8 0 c8q4.length]), (4, .row 3 (fl c4q3)), (5, .row 28 (Enc.cells c5q2)), (6, .row 28 (Enc.cells c6q2)), (7, .row 47 (fl c7q3)), (8, .row 47 (fl c8q4)), (9, .row 24 (Enc.cells l)), (10, .row 24 [iS (IntKind.i64.wrap (l.Readers - 1)), bS l.Writer, .sl l.Line.length (fl l.Line)])] 11 (by kernel_rfl) ?_
                        exact hK1892 ((Lock.mk (IntKind.i64.wrap (l.Readers - 1)) l.Writer l.Line)) _ _ _ h (leSt_m [(0, 0), (1, 1), (2, 2), (3, 3), (4, 4), (5, 5), (6, 6), (7, 9), (8, 10), (9, 7), (10, 8)] [] (by simp only [push_cast, seval]) (by simp only [push_cast, seval]) rfl rfl rfl)
                    · rintro c8q9 h
                      try dsimp only at h ⊢
                      unfold taskmilllaw_LockLeaves_j7 at h
                      refine reg_f ?_
                      refine rs 1 [] [] (by kernel_rfl) allP_nil ?_
                      obtain ⟨r1895, hr1895, h⟩ := bind_sx h
                      refine call_x (taskmillref_Admitted_spec c8q9 r1895 hr1895) (args := [.agg (Enc.cells c8q9)]) (dst := (some 98)) (by kernel_rfl) [(0, .row 24 (Enc.cells l)), (1, .row 24 [iS c1_Readers2, bS c1_Writer2, .own 9 0 c7q3.length]), (2, .row 3 (fl c2q2)), (3, .row 24 [iS c3_Readers2, bS c3_Writer2, .own 10 0 c8q4.length]), (4, .row 3 (fl c4q3)), (5, .row 28 (Enc.cells c5q2)), (6, .row 28 (Enc.cells c6q2)), (7, .row 24 (Enc.cells l)), (8, .row 24 (Enc.cells c8q9)), (9, .row 47 (fl c7q3)), (10, .row 47 (fl c8q4))] 11 (by kernel_rfl) [] [] (.tup [.agg (Enc.cells r1895.1), .own 11 0 r1895.2.length]) [(11, .row 3 (fl r1895.2))] (by simp only [push_cast, seval]) (by simp only [push_cast, seval]) (by kernel_rfl) (.inl rfl) (by simp only [push_cast, seval]) (by simp only [push_cast, seval]) ?_
                      refine rs 5 [] [] (by kernel_rfl) allP_nil ?_
                      refine rf [(1, iS task), (3, .ptr 0 0), (7, .ptr 1 0), (8, .own 2 0 c2q2.length), (9, bS p2), (11, .ptr 3 0), (12, .own 4 0 c4q3.length), (13, .ptr 5 0), (14, .ptr 6 0), (15, .ptr 7 0), (16, .own 11 0 r1895.2.length), (17, bS (bif write then ((!l.Writer) || ((!write) && (l.Readers == 0))) else ((!write) && (l.Readers == 0))))] [(0, .row 24 (Enc.cells l)), (1, .row 24 [iS c1_Readers2, bS c1_Writer2, .own 9 0 c7q3.length]), (2, .row 3 (fl c2q2)), (3, .row 24 [iS c3_Readers2, bS c3_Writer2, .own 10 0 c8q4.length]), (4, .row 3 (fl c4q3)), (5, .row 28 (Enc.cells c5q2)), (6, .row 28 (Enc.cells c6q2)), (7, .row 24 (Enc.cells r1895.1)), (8, .row 24 (Enc.cells c8q9)), (9, .row 47 (fl c7q3)), (10, .row 47 (fl c8q4)), (11, .row 3 (fl r1895.2))] 12 (by kernel_rfl) ?_
                      exact hK1889 (r1895.1, r1895.2) _ _ _ h (leSt_m [(0, 0), (1, 1), (2, 2), (3, 3), (4, 4), (5, 5), (6, 6), (7, 7), (8, 11), (9, 9), (10, 10)] [] (by simp only [push_cast, seval]) (by simp only [push_cast, seval]) rfl rfl rfl)
                  · exact hK1889 (l, []) _ _ _ h (leSt_m [(0, 0), (1, 1), (2, 2), (3, 3), (4, 4), (5, 5), (6, 6), (7, 9), (9, 7), (10, 8)] [] (by simp only [push_cast, seval]) (by simp only [push_cast, seval]) rfl rfl rfl)
                · rintro ⟨c7q5, c8q8⟩ h
                  try dsimp only at h ⊢
                  unfold taskmilllaw_LockLeaves_j6 at h
                  refine seq_cut (A := Bool) (fun a => ([(1, iS task), (3, .ptr 0 0), (11, .ptr 1 0), (12, .own 2 0 c4q3.length), (13, .ptr 3 0), (14, .ptr 4 0), (115, bS a)], [(0, .row 24 (Enc.cells l)), (1, .row 24 [iS c3_Readers2, bS c3_Writer2, .own 5 0 c8q4.length]), (2, .row 3 (fl c4q3)), (3, .row 28 (Enc.cells c5q2)), (4, .row 28 (Enc.cells c6q2)), (5, .row 47 (fl c8q4))], 6)) (fun a => (taskmilllaw_LockLeaves_j5 l task c3_Readers2 c3_Writer2 c4q3 c5q2 c6q2 c8q4 a) = some r) (fun K1902 hK1902 => ?_) ?_
                  · refine reg_f ?_
                    refine rs 4 [] [] (by kernel_rfl) allP_nil ?_
                    refine run_br h 104 (.inl (by kernel_rfl)) (fun g1903 h => ?_) (fun g1903 h => ?_)
                    · refine rs 11 [] [] (by kernel_rfl) allP_nil ?_
                      refine rf [(1, iS task), (3, .ptr 0 0), (11, .ptr 3 0), (12, .own 4 0 c4q3.length), (13, .ptr 5 0), (14, .ptr 6 0), (115, bS true)] [(0, .row 24 (Enc.cells l)), (1, .row 24 [iS c1_Readers2, bS c1_Writer2, .own 9 0 c7q3.length]), (2, .row 3 (fl c2q2)), (3, .row 24 [iS c3_Readers2, bS c3_Writer2, .own 10 0 c8q4.length]), (4, .row 3 (fl c4q3)), (5, .row 28 (Enc.cells c5q2)), (6, .row 28 (Enc.cells c6q2)), (7, .row 24 (Enc.cells c7q5)), (8, .row 3 (fl c8q8)), (9, .row 47 (fl c7q3)), (10, .row 47 (fl c8q4))] 11 (by kernel_rfl) ?_
                      exact hK1902 (true) _ _ _ h (leSt_m [(0, 0), (1, 3), (2, 4), (3, 5), (4, 6), (5, 10)] [] (by (try simp only [g1903]) <;> simp only [push_cast, seval]) (by (try simp only [g1903]) <;> simp only [push_cast, seval]) rfl rfl rfl)
                    · refine rs 2 [] [] (by kernel_rfl) allP_nil ?_
                      obtain ⟨r1904, hr1904, h⟩ := bind_sx h
                      refine call_x (taskmillref_SameLock_spec (Lock.mk c1_Readers2 c1_Writer2 c7q3) c7q5 r1904 hr1904) (args := [.agg [iS c1_Readers2, bS c1_Writer2, .own 9 0 c7q3.length], .agg (Enc.cells c7q5)]) (dst := (some 107)) (by kernel_rfl) [(0, .row 24 (Enc.cells l)), (1, .row 24 [iS c1_Readers2, bS c1_Writer2, .own 9 0 c7q3.length]), (2, .row 3 (fl c2q2)), (3, .row 24 [iS c3_Readers2, bS c3_Writer2, .own 10 0 c8q4.length]), (4, .row 3 (fl c4q3)), (5, .row 28 (Enc.cells c5q2)), (6, .row 28 (Enc.cells c6q2)), (7, .row 24 (Enc.cells c7q5)), (8, .row 3 (fl c8q8)), (9, .row 47 (fl c7q3)), (10, .row 47 (fl c8q4))] 11 (by kernel_rfl) [] [9] (bS r1904) [] (by simp only [push_cast, seval]) (by simp only [push_cast, seval]) (by kernel_rfl) (.inr ⟨by simp only [push_cast, seval], by simp only [push_cast, seval]⟩) (by simp only [push_cast, seval]) (by simp only [push_cast, seval]) ?_
                      refine rs 3 [] [] (by kernel_rfl) allP_nil ?_
                      refine run_br h 110 (.inl (by kernel_rfl)) (fun g1905 h => ?_) (fun g1905 h => ?_)
                      · refine rn 10 [(1, iS task), (3, .ptr 0 0), (8, .own 2 0 c2q2.length), (11, .ptr 3 0), (12, .own 4 0 c4q3.length), (13, .ptr 5 0), (14, .ptr 6 0), (16, .own 8 0 c8q8.length), (110, bS true)] [(0, .row 24 (Enc.cells l)), (1, .row 24 [iS c1_Readers2, bS c1_Writer2, .own 9 0 c7q3.length]), (2, .row 3 (fl c2q2)), (3, .row 24 [iS c3_Readers2, bS c3_Writer2, .own 10 0 c8q4.length]), (4, .row 3 (fl c4q3)), (5, .row 28 (Enc.cells c5q2)), (6, .row 28 (Enc.cells c6q2)), (7, .row 24 (Enc.cells c7q5)), (8, .row 3 (fl c8q8)), (9, .row 47 (fl c7q3)), (10, .row 47 (fl c8q4))] 11 (by kernel_rfl) ?_
                        refine rs 5 [] [] (by kernel_rfl) allP_nil ?_
                        refine rf [(1, iS task), (3, .ptr 0 0), (11, .ptr 3 0), (12, .own 4 0 c4q3.length), (13, .ptr 5 0), (14, .ptr 6 0), (115, bS true)] [(0, .row 24 (Enc.cells l)), (1, .row 24 [iS c1_Readers2, bS c1_Writer2, .own 9 0 c7q3.length]), (2, .row 3 (fl c2q2)), (3, .row 24 [iS c3_Readers2, bS c3_Writer2, .own 10 0 c8q4.length]), (4, .row 3 (fl c4q3)), (5, .row 28 (Enc.cells c5q2)), (6, .row 28 (Enc.cells c6q2)), (7, .row 24 (Enc.cells c7q5)), (8, .row 3 (fl c8q8)), (9, .row 47 (fl c7q3)), (10, .row 47 (fl c8q4))] 11 (by kernel_rfl) ?_
                        exact hK1902 (true) _ _ _ h (leSt_m [(0, 0), (1, 3), (2, 4), (3, 5), (4, 6), (5, 10)] [] (by first | ((try simp only [g1903, g1905]) <;> simp only [push_cast, seval]; done) | ((try simp only [g1903]); (try simp only [g1905]); simp only [push_cast, seval]; done) | (exfalso; clear h; simp_all; done)) (by first | ((try simp only [g1903, g1905]) <;> simp only [push_cast, seval]; done) | ((try simp only [g1903]); (try simp only [g1905]); simp only [push_cast, seval]; done) | (exfalso; clear h; simp_all; done)) rfl rfl rfl)
                      · refine rn 10 [(1, iS task), (3, .ptr 0 0), (8, .own 2 0 c2q2.length), (11, .ptr 3 0), (12, .own 4 0 c4q3.length), (13, .ptr 5 0), (14, .ptr 6 0), (16, .own 8 0 c8q8.length), (110, bS false)] [(0, .row 24 (Enc.cells l)), (1, .row 24 [iS c1_Readers2, bS c1_Writer2, .own 9 0 c7q3.length]), (2, .row 3 (fl c2q2)), (3, .row 24 [iS c3_Readers2, bS c3_Writer2, .own 10 0 c8q4.length]), (4, .row 3 (fl c4q3)), (5, .row 28 (Enc.cells c5q2)), (6, .row 28 (Enc.cells c6q2)), (7, .row 24 (Enc.cells c7q5)), (8, .row 3 (fl c8q8)), (9, .row 47 (fl c7q3)), (10, .row 47 (fl c8q4))] 11 (by kernel_rfl) ?_
                        refine rs 2 [] [] (by kernel_rfl) allP_nil ?_
                        obtain ⟨r1906, hr1906, h⟩ := bind_sx h
                        refine call_x (taskmillref_Ints_spec c2q2 c8q8 r1906 hr1906) (args := [.own 2 0 c2q2.length, .own 8 0 c8q8.length]) (dst := (some 113)) (by kernel_rfl) [(0, .row 24 (Enc.cells l)), (1, .row 24 [iS c1_Readers2, bS c1_Writer2, .own 9 0 c7q3.length]), (2, .row 3 (fl c2q2)), (3, .row 24 [iS c3_Readers2, bS c3_Writer2, .own 10 0 c8q4.length]), (4, .row 3 (fl c4q3)), (5, .row 28 (Enc.cells c5q2)), (6, .row 28 (Enc.cells c6q2)), (7, .row 24 (Enc.cells c7q5)), (8, .row 3 (fl c8q8)), (9, .row 47 (fl c7q3)), (10, .row 47 (fl c8q4))] 11 (by kernel_rfl) [] [2, 8] (bS r1906) [] (by simp only [push_cast, seval]) (by simp only [push_cast, seval]) (by kernel_rfl) (.inr ⟨by simp only [push_cast, seval], by simp only [push_cast, seval]⟩) (by simp only [push_cast, seval]) (by simp only [push_cast, seval]) ?_
                        refine rs 2 [] [] (by kernel_rfl) allP_nil ?_
                        refine rf [(1, iS task), (3, .ptr 0 0), (11, .ptr 3 0), (12, .own 4 0 c4q3.length), (13, .ptr 5 0), (14, .ptr 6 0), (115, bS (!r1906))] [(0, .row 24 (Enc.cells l)), (1, .row 24 [iS c1_Readers2, bS c1_Writer2, .own 9 0 c7q3.length]), (2, .row 3 (fl c2q2)), (3, .row 24 [iS c3_Readers2, bS c3_Writer2, .own 10 0 c8q4.length]), (4, .row 3 (fl c4q3)), (5, .row 28 (Enc.cells c5q2)), (6, .row 28 (Enc.cells c6q2)), (7, .row 24 (Enc.cells c7q5)), (8, .row 3 (fl c8q8)), (9, .row 47 (fl c7q3)), (10, .row 47 (fl c8q4))] 11 (by kernel_rfl) ?_
                        exact hK1902 ((!r1906)) _ _ _ h (leSt_m [(0, 0), (1, 3), (2, 4), (3, 5), (4, 6), (5, 10)] [] (by first | ((try simp only [g1903, g1905]) <;> simp only [push_cast, seval]; done) | ((try simp only [g1903]); (try simp only [g1905]); simp only [push_cast, seval]; done) | (exfalso; clear h; simp_all; done)) (by first | ((try simp only [g1903, g1905]) <;> simp only [push_cast, seval]; done) | ((try simp only [g1903]); (try simp only [g1905]); simp only [push_cast, seval]; done) | (exfalso; clear h; simp_all; done)) rfl rfl rfl)
                  · rintro t115q2 h
                    try dsimp only at h ⊢
                    unfold taskmilllaw_LockLeaves_j5 at h
                    refine cond_sx h (by kernel_rfl) (fun g1907 h => ?_) (fun g1907 h => ?_)
                    · refine seq_np ?_
                      refine reg_f ?_
                      refine rs 1 [] [] (by kernel_rfl) allP_nil ?_
                      refine rf [(6, bS false)] [(0, .row 24 (Enc.cells l)), (1, .row 24 [iS c3_Readers2, bS c3_Writer2, .own 5 0 c8q4.length]), (2, .row 3 (fl c4q3)), (3, .row 28 (Enc.cells c5q2)), (4, .row 28 (Enc.cells c6q2)), (5, .row 47 (fl c8q4))] 6 (by kernel_rfl) ?_
                      refine wk_id ?_
                      obtain rfl := Option.some.inj h
                      refine ret_at (bS false) (by kernel_rfl) ?_
                      exact ret_e [] [] (by simp only [push_cast, seval]) (by simp only [push_cast, seval]) rfl rfl rfl
                    · exact hK1873 () _ _ _ h (leSt_m [(0, 0), (1, 1), (2, 2), (3, 3), (4, 4), (5, 5)] [] (by simp only [push_cast, seval]) (by simp only [push_cast, seval]) rfl rfl rfl)
            · exact hK1873 () _ _ _ h (leSt_m [(0, 0), (1, 3), (2, 4), (3, 5), (4, 6), (5, 8)] [] (by simp only [push_cast, seval]) (by simp only [push_cast, seval]) rfl rfl rfl)
          · rintro _ h
            try dsimp only at h ⊢
            unfold taskmilllaw_LockLeaves_j4 at h
            refine seq_np ?_
            refine reg_f ?_
            refine rs 3 [] [] (by kernel_rfl) allP_nil ?_
            obtain ⟨r1910, hr1910, h⟩ := bind_sx h
            refine run_call 17 [.sl l.Line.length (fl l.Line), iS task] (some 119) (by kernel_rfl) ?_
            refine call_0 (taskmillref_InLine_spec l.Line task r1910 hr1910) (by simp only [push_cast, seval]) (by simp only [push_cast, seval]) ?_
            refine back_f ?_
            refine rs 1 [] [] (by kernel_rfl) allP_nil ?_
            refine rf [(3, .ptr 0 0), (11, .ptr 1 0), (12, .own 2 0 c4q3.length), (13, .ptr 3 0), (14, .ptr 4 0), (19, iS r1910)] [(0, .row 24 (Enc.cells l)), (1, .row 24 [iS c3_Readers2, bS c3_Writer2, .own 5 0 c8q4.length]), (2, .row 3 (fl c4q3)), (3, .row 28 (Enc.cells c5q2)), (4, .row 28 (Enc.cells c6q2)), (5, .row 47 (fl c8q4))] 6 (by kernel_rfl) ?_
            refine wk_id ?_
            refine seq_cut (A := Int × Fault) (fun a => ([(3, .ptr 0 0), (11, .ptr 1 0), (12, .own 2 0 c4q3.length), (13, .ptr 3 0), (14, .ptr 4 0), (19, iS a.1)], [(0, .row 24 (Enc.cells l)), (1, .row 24 [iS c3_Readers2, bS c3_Writer2, .own 5 0 c8q4.length]), (2, .row 3 (fl c4q3)), (3, .row 28 (Enc.cells c5q2)), (4, .row 28 (Enc.cells a.2)), (5, .row 47 (fl c8q4))], 6)) (fun a => (taskmilllaw_LockLeaves_j3 l c3_Readers2 c3_Writer2 c4q3 c5q2 c8q4 a.1 a.2) = some r) (fun K1915 hK1915 => ?_) ?_
            · refine seq_cut (A := Unit) (fun _ => ([(3, .ptr 0 0), (11, .ptr 1 0), (12, .own 2 0 c4q3.length), (13, .ptr 3 0), (14, .ptr 4 0), (19, iS r1910), (126, bS ((c6q2.Code == 0) && (decide (r1910 < 0))))], [(0, .row 24 (Enc.cells l)), (1, .row 24 [iS c3_Readers2, bS c3_Writer2, .own 5 0 c8q4.length]), (2, .row 3 (fl c4q3)), (3, .row 28 (Enc.cells c5q2)), (4, .row 28 (Enc.cells c6q2)), (5, .row 47 (fl c8q4))], 6)) (fun _ => True) (fun K1917 hK1917 => ?_) (fun _ _ => ?_)
              · refine reg_f ?_
                refine rs 4 [] [] (by kernel_rfl) allP_nil ?_
                refine run_split 123 (c6q2.Code == 0) (.inl (by kernel_rfl)) (fun g1918 => ?_) (fun g1918 => ?_)
                · refine rs 3 [] [] (by kernel_rfl) allP_nil ?_
                  refine rf [(3, .ptr 0 0), (11, .ptr 1 0), (12, .own 2 0 c4q3.length), (13, .ptr 3 0), (14, .ptr 4 0), (19, iS r1910), (126, bS (decide (r1910 < 0)))] [(0, .row 24 (Enc.cells l)), (1, .row 24 [iS c3_Readers2, bS c3_Writer2, .own 5 0 c8q4.length]), (2, .row 3 (fl c4q3)), (3, .row 28 (Enc.cells c5q2)), (4, .row 28 (Enc.cells c6q2)), (5, .row 47 (fl c8q4))] 6 (by kernel_rfl) ?_
                  exact hK1917 () _ _ _ trivial (leSt_m [(0, 0), (1, 1), (2, 2), (3, 3), (4, 4), (5, 5)] [] (by (try simp only [g1918]) <;> simp only [push_cast, seval]) (by (try simp only [g1918]) <;> simp only [push_cast, seval]) rfl rfl rfl)
                · refine rs 3 [] [] (by kernel_rfl) allP_nil ?_
                  refine rf [(3, .ptr 0 0), (11, .ptr 1 0), (12, .own 2 0 c4q3.length), (13, .ptr 3 0), (14, .ptr 4 0), (19, iS r1910), (126, bS false)] [(0, .row 24 (Enc.cells l)), (1, .row 24 [iS c3_Readers2, bS c3_Writer2, .own 5 0 c8q4.length]), (2, .row 3 (fl c4q3)), (3, .row 28 (Enc.cells c5q2)), (4, .row 28 (Enc.cells c6q2)), (5, .row 47 (fl c8q4))] 6 (by kernel_rfl) ?_
                  exact hK1917 () _ _ _ trivial (leSt_m [(0, 0), (1, 1), (2, 2), (3, 3), (4, 4), (5, 5)] [] (by (try simp only [g1918]) <;> simp only [push_cast, seval]) (by (try simp only [g1918]) <;> simp only [push_cast, seval]) rfl rfl rfl)
              · dsimp only
                refine cond_sx h (by kernel_rfl) (fun g1921 h => ?_) (fun g1921 h => ?_)
                · refine reg_f ?_
                  obtain ⟨r1920, hr1920, h⟩ := bind_sx h
                  refine run_call 18 [iS 6, iS 0] (some 127) (by kernel_rfl) ?_
                  refine call_0 (taskmillref_F_spec 6 0 r1920 hr1920) (by simp only [push_cast, seval]) (by simp only [push_cast, seval]) ?_
                  refine back_f ?_
                  refine rs 1 [] [] (by kernel_rfl) allP_nil ?_
                  refine rf [(3, .ptr 0 0), (11, .ptr 1 0), (12, .own 2 0 c4q3.length), (13, .ptr 3 0), (14, .ptr 4 0), (19, iS r1910)] [(0, .row 24 (Enc.cells l)), (1, .row 24 [iS c3_Readers2, bS c3_Writer2, .own 5 0 c8q4.length]), (2, .row 3 (fl c4q3)), (3, .row 28 (Enc.cells c5q2)), (4, .row 28 (Enc.cells r1920)), (5, .row 47 (fl c8q4))] 6 (by kernel_rfl) ?_
                  exact hK1915 (r1910, r1920) _ _ _ h (leSt_m [(0, 0), (1, 1), (2, 2), (3, 3), (4, 4), (5, 5)] [] (by simp only [push_cast, seval]) (by simp only [push_cast, seval]) rfl rfl rfl)
                · exact hK1915 (r1910, c6q2) _ _ _ h (leSt_m [(0, 0), (1, 1), (2, 2), (3, 3), (4, 4), (5, 5)] [] (by simp only [push_cast, seval]) (by simp only [push_cast, seval]) rfl rfl rfl)
            · rintro ⟨i1, c4q4⟩ h
              try dsimp only at h ⊢
              unfold taskmilllaw_LockLeaves_j3 at h
              refine seq_np ?_
              refine seq_np ?_
              refine reg_f ?_
              refine rs 3 [] [] (by kernel_rfl) allP_nil ?_
              refine rf [(3, .ptr 0 0), (11, .ptr 1 0), (12, .own 2 0 c4q3.length), (14, .ptr 4 0), (19, iS i1), (130, bS (!((c5q2.Code == c4q4.Code) && ((c5q2.At == c4q4.At) && true))))] [(0, .row 24 (Enc.cells l)), (1, .row 24 [iS c3_Readers2, bS c3_Writer2, .own 5 0 c8q4.length]), (2, .row 3 (fl c4q3)), (3, .row 28 (Enc.cells c5q2)), (4, .row 28 (Enc.cells c4q4)), (5, .row 47 (fl c8q4))] 6 (by kernel_rfl) ?_
              refine wk_id ?_
              refine cond_sx h (by kernel_rfl) (fun g1959 h => ?_) (fun g1959 h => ?_)
              · refine seq_np ?_
                refine reg_f ?_
                refine rs 1 [] [] (by kernel_rfl) allP_nil ?_
                refine rf [(6, bS false)] [(0, .row 24 (Enc.cells l)), (1, .row 24 [iS c3_Readers2, bS c3_Writer2, .own 5 0 c8q4.length]), (2, .row 3 (fl c4q3)), (3, .row 28 (Enc.cells c5q2)), (4, .row 28 (Enc.cells c4q4)), (5, .row 47 (fl c8q4))] 6 (by kernel_rfl) ?_
                refine wk_id ?_
                obtain rfl := Option.some.inj h
                refine ret_at (bS false) (by kernel_rfl) ?_
                exact ret_e [] [] (by simp only [push_cast, seval]) (by simp only [push_cast, seval]) rfl rfl rfl
              · refine wk_id ?_
                refine seq_np ?_
                refine seq_np ?_
                refine reg_f ?_
                refine rs 3 [] [] (by kernel_rfl) allP_nil ?_
                refine rf [(3, .ptr 0 0), (11, .ptr 1 0), (12, .own 2 0 c4q3.length), (19, iS i1), (133, bS (c4q4.Code != 0))] [(0, .row 24 (Enc.cells l)), (1, .row 24 [iS c3_Readers2, bS c3_Writer2, .own 5 0 c8q4.length]), (2, .row 3 (fl c4q3)), (3, .row 28 (Enc.cells c5q2)), (4, .row 28 (Enc.cells c4q4)), (5, .row 47 (fl c8q4))] 6 (by kernel_rfl) ?_
                refine wk_id ?_
                refine cond_sx h (by kernel_rfl) (fun g1958 h => ?_) (fun g1958 h => ?_)
                · refine seq_cut (A := Bool) (fun a => ([(6, bS a)], [], 0)) (fun a => (taskmilllaw_LockLeaves_j1 a) = some r) (fun K1931 hK1931 => ?_) ?_
                  · refine reg_f ?_
                    refine rs 1 [] [] (by kernel_rfl) allP_nil ?_
                    obtain ⟨r1932, hr1932, h⟩ := bind_sx h
                    refine call_x (taskmilllaw_noLock_spec (Lock.mk c3_Readers2 c3_Writer2 c8q4) r1932 hr1932) (args := [.agg [iS c3_Readers2, bS c3_Writer2, .own 5 0 c8q4.length]]) (dst := (some 135)) (by kernel_rfl) [(0, .row 24 (Enc.cells l)), (1, .row 24 [iS c3_Readers2, bS c3_Writer2, .own 5 0 c8q4.length]), (2, .row 3 (fl c4q3)), (3, .row 28 (Enc.cells c5q2)), (4, .row 28 (Enc.cells c4q4)), (5, .row 47 (fl c8q4))] 6 (by kernel_rfl) [] [5] (bS r1932) [] (by simp only [push_cast, seval]) (by simp only [push_cast, seval]) (by kernel_rfl) (.inr ⟨by simp only [push_cast, seval], by simp only [push_cast, seval]⟩) (by simp only [push_cast, seval]) (by simp only [push_cast, seval]) ?_
                    refine rs 1 [] [] (by kernel_rfl) allP_nil ?_
                    refine run_br h 136 (.inl (by kernel_rfl)) (fun g1933 h => ?_) (fun g1933 h => ?_)
                    · refine rs 5 [] [] (by kernel_rfl) allP_nil ?_
                      refine rf [(6, bS (((c4q3.length : Nat) : Int) == 0))] [(0, .row 24 (Enc.cells l)), (1, .row 24 [iS c3_Readers2, bS c3_Writer2, .own 5 0 c8q4.length]), (2, .row 3 (fl c4q3)), (3, .row 28 (Enc.cells c5q2)), (4, .row 28 (Enc.cells c4q4)), (5, .row 47 (fl c8q4))] 6 (by kernel_rfl) ?_
                      exact hK1931 ((((c4q3.length : Nat) : Int) == 0)) _ _ _ h (leSt_m [] [] (by (try simp only [g1933]) <;> simp only [push_cast, seval]) (by (try simp only [g1933]) <;> simp only [push_cast, seval]) rfl rfl rfl)
                    · refine rs 5 [] [] (by kernel_rfl) allP_nil ?_
                      refine rf [(6, bS false)] [(0, .row 24 (Enc.cells l)), (1, .row 24 [iS c3_Readers2, bS c3_Writer2, .own 5 0 c8q4.length]), (2, .row 3 (fl c4q3)), (3, .row 28 (Enc.cells c5q2)), (4, .row 28 (Enc.cells c4q4)), (5, .row 47 (fl c8q4))] 6 (by kernel_rfl) ?_
                      exact hK1931 (false) _ _ _ h (leSt_m [] [] (by (try simp only [g1933]) <;> simp only [push_cast, seval]) (by (try simp only [g1933]) <;> simp only [push_cast, seval]) rfl rfl rfl)
                  · rintro t6q3 h
                    try dsimp only at h ⊢
                    unfold taskmilllaw_LockLeaves_j1 at h
                    obtain rfl := Option.some.inj h
                    refine ret_at (bS t6q3) (by kernel_rfl) ?_
                    exact ret_e [] [] (by simp only [push_cast, seval]) (by simp only [push_cast, seval]) rfl rfl rfl
                · refine wk_id ?_
                  refine chk_sx h (fun g1943 h => ?_)
                  refine seq_np ?_
                  refine reg_t ?_
                  have k1942 : 0 ≤ (0 : Int) ∧ (0 : Int) ≤ i1 ∧ i1 ≤ ((l.Line.length : Nat) : Int) := by first | simpa only [Bool.and_eq_true, decide_eq_true_eq, bne_iff_ne, ne_eq] using g1943 | (simp at g1943 ⊢; omega)
                  refine rs 8 [none, none, none, none, none, none, none, some ⟨.sl (cut l.Line (0 : Int) i1).length (fl (cut l.Line (0 : Int) i1)), [], 13, []⟩] _ (by kernel_rfl) (allP_cons (ob_cut l.Line (0 : Int) i1 3 13 rfl k1942) allP_nil) ?_
                  obtain ⟨r1944, hr1944, h⟩ := bind_sx h
                  refine call_x (taskmilllaw_ownWants_spec (cut l.Line (0 : Int) i1) r1944 hr1944) (args := [.sl (cut l.Line (0 : Int) i1).length (fl (cut l.Line (0 : Int) i1))]) (dst := (some 150)) (by kernel_rfl) [(0, .row 24 (Enc.cells l)), (1, .row 24 [iS c3_Readers2, bS c3_Writer2, .own 5 0 c8q4.length]), (2, .row 3 (fl c4q3)), (3, .row 28 (Enc.cells c5q2)), (4, .row 28 (Enc.cells c4q4)), (5, .row 47 (fl c8q4))] 14 (by kernel_rfl) [] [] (.own 14 0 r1944.length) [(14, .row 47 (fl r1944))] (by simp only [push_cast, seval]) (by simp only [push_cast, seval]) (by kernel_rfl) (.inl rfl) (by simp only [push_cast, seval]) (by simp only [push_cast, seval]) ?_
                  refine chk_sx h (fun g1946 h => ?_)
                  have k1945 : 0 ≤ (IntKind.i64.wrap (i1 + 1)) ∧ (IntKind.i64.wrap (i1 + 1)) ≤ ((l.Line.length : Nat) : Int) ∧ ((l.Line.length : Nat) : Int) ≤ ((l.Line.length : Nat) : Int) := by first | simpa only [Bool.and_eq_true, decide_eq_true_eq, bne_iff_ne, ne_eq] using g1946 | (simp at g1946 ⊢; omega)
                  refine chk_sx h (fun g1948 h => ?_)
                  have k1947 : (r1944 ++ (cut l.Line (IntKind.i64.wrap (i1 + 1)) ((l.Line.length : Nat) : Int))).length * 24 ≤ 140737488355328 := by first | simpa only [Bool.and_eq_true, decide_eq_true_eq, bne_iff_ne, ne_eq] using g1948 | (simp at g1948 ⊢; omega)
                  refine rs 7 [none, none, none, none, some ⟨.sl (cut l.Line (IntKind.i64.wrap (i1 + 1)) ((l.Line.length : Nat) : Int)).length (fl (cut l.Line (IntKind.i64.wrap (i1 + 1)) ((l.Line.length : Nat) : Int))), [], 20, []⟩, some ⟨.own 21 0 (r1944 ++ (cut l.Line (IntKind.i64.wrap (i1 + 1)) ((l.Line.length : Nat) : Int))).length, [(21, .row 47 (fl (r1944 ++ (cut l.Line (IntKind.i64.wrap (i1 + 1)) ((l.Line.length : Nat) : Int))))), (14, .dead)], 22, [14]⟩] _ (by kernel_rfl) (allP_cons (ob_app (P := Try.prog) r1944 (cut l.Line (IntKind.i64.wrap (i1 + 1)) ((l.Line.length : Nat) : Int)) 3 24 rfl (fl (cut l.Line (IntKind.i64.wrap (i1 + 1)) ((l.Line.length : Nat) : Int))) (cut l.Line (IntKind.i64.wrap (i1 + 1)) ((l.Line.length : Nat) : Int)).length rfl rfl ((fl (cut l.Line (IntKind.i64.wrap (i1 + 1)) ((l.Line.length : Nat) : Int))).length = (cut l.Line (IntKind.i64.wrap (i1 + 1)) ((l.Line.length : Nat) : Int)).length * 3) (app_sl (cut l.Line (IntKind.i64.wrap (i1 + 1)) ((l.Line.length : Nat) : Int)) 3 rfl) 47 (by kernel_rfl) (by decide) k1947 14 21 []) (allP_cons (ob_cut l.Line (IntKind.i64.wrap (i1 + 1)) ((l.Line.length : Nat) : Int) 3 20 rfl k1945) allP_nil)) ?_
                  obtain ⟨r1949, hr1949, h⟩ := bind_sx h
                  refine call_x (taskmillref_Admitted_1_spec l.Readers l.Writer (r1944 ++ (cut l.Line (IntKind.i64.wrap (i1 + 1)) ((l.Line.length : Nat) : Int))) r1949 hr1949) (args := [.agg [iS l.Readers, bS l.Writer, .own 21 0 (r1944 ++ (cut l.Line (IntKind.i64.wrap (i1 + 1)) ((l.Line.length : Nat) : Int))).length]]) (dst := (some 158)) (by kernel_rfl) [(0, .row 24 (Enc.cells l)), (1, .row 24 [iS c3_Readers2, bS c3_Writer2, .own 5 0 c8q4.length]), (2, .row 3 (fl c4q3)), (3, .row 28 (Enc.cells c5q2)), (4, .row 28 (Enc.cells c4q4)), (5, .row 47 (fl c8q4)), (14, .dead), (21, .row 47 (fl (r1944 ++ (cut l.Line (IntKind.i64.wrap (i1 + 1)) ((l.Line.length : Nat) : Int)))))] 24 (by kernel_rfl) [(0, 21)] [] (.tup [.agg [iS r1949.1, bS r1949.2.1, .own 25 0 r1949.2.2.1.length], .own 26 0 r1949.2.2.2.length]) [(21, .dead), (25, .row 47 (fl r1949.2.2.1)), (26, .row 3 (fl r1949.2.2.2)), (21, .dead)] (by simp only [push_cast, seval]) (by simp only [push_cast, seval]) (by kernel_rfl) (.inl rfl) (by simp only [push_cast, seval]) (by simp only [push_cast, seval]) ?_
                  refine rs 6 [] [] (by kernel_rfl) allP_nil ?_
                  refine rt [(11, .ptr 1 0), (12, .own 2 0 c4q3.length), (20, .ptr 31 0), (21, .own 26 0 r1949.2.2.2.length)] [(0, .row 24 (Enc.cells l)), (1, .row 24 [iS c3_Readers2, bS c3_Writer2, .own 5 0 c8q4.length]), (2, .row 3 (fl c4q3)), (3, .row 28 (Enc.cells c5q2)), (4, .row 28 (Enc.cells c4q4)), (5, .row 47 (fl c8q4)), (14, .dead), (21, .dead), (25, .row 47 (fl r1949.2.2.1)), (26, .row 3 (fl r1949.2.2.2)), (31, .row 24 [iS r1949.1, bS r1949.2.1, .own 25 0 r1949.2.2.1.length])] 35 follows (by kernel_rfl) ?_
                  refine wk_id ?_
                  refine seq_cut (A := Bool) (fun a => ([(6, bS a)], [], 0)) (fun a => (taskmilllaw_LockLeaves_j2 a) = some r) (fun K1954 hK1954 => ?_) ?_
                  · refine reg_f ?_
                    refine rs 2 [] [] (by kernel_rfl) allP_nil ?_
                    obtain ⟨r1955, hr1955, h⟩ := bind_sx h
                    refine call_x (taskmillref_SameLock_spec (Lock.mk c3_Readers2 c3_Writer2 c8q4) (Lock.mk r1949.1 r1949.2.1 r1949.2.2.1) r1955 hr1955) (args := [.agg [iS c3_Readers2, bS c3_Writer2, .own 5 0 c8q4.length], .agg [iS r1949.1, bS r1949.2.1, .own 25 0 r1949.2.2.1.length]]) (dst := (some 163)) (by kernel_rfl) [(0, .row 24 (Enc.cells l)), (1, .row 24 [iS c3_Readers2, bS c3_Writer2, .own 5 0 c8q4.length]), (2, .row 3 (fl c4q3)), (3, .row 28 (Enc.cells c5q2)), (4, .row 28 (Enc.cells c4q4)), (5, .row 47 (fl c8q4)), (14, .dead), (21, .dead), (25, .row 47 (fl r1949.2.2.1)), (26, .row 3 (fl r1949.2.2.2)), (31, .row 24 [iS r1949.1, bS r1949.2.1, .own 25 0 r1949.2.2.1.length])] 35 (by kernel_rfl) [] [5, 25] (bS r1955) [] (by simp only [push_cast, seval]) (by simp only [push_cast, seval]) (by kernel_rfl) (.inr ⟨by simp only [push_cast, seval], by simp only [push_cast, seval]⟩) (by simp only [push_cast, seval]) (by simp only [push_cast, seval]) ?_
                    refine rs 1 [] [] (by kernel_rfl) allP_nil ?_
                    refine run_br h 164 (.inl (by kernel_rfl)) (fun g1956 h => ?_) (fun g1956 h => ?_)
                    · refine rs 2 [] [] (by kernel_rfl) allP_nil ?_
                      obtain ⟨r1957, hr1957, h⟩ := bind_sx h
                      refine call_x (taskmillref_Ints_spec c4q3 r1949.2.2.2 r1957 hr1957) (args := [.own 2 0 c4q3.length, .own 26 0 r1949.2.2.2.length]) (dst := (some 167)) (by kernel_rfl) [(0, .row 24 (Enc.cells l)), (1, .row 24 [iS c3_Readers2, bS c3_Writer2, .own 5 0 c8q4.length]), (2, .row 3 (fl c4q3)), (3, .row 28 (Enc.cells c5q2)), (4, .row 28 (Enc.cells c4q4)), (5, .row 47 (fl c8q4)), (14, .dead), (21, .dead), (25, .row 47 (fl r1949.2.2.1)), (26, .row 3 (fl r1949.2.2.2)), (31, .row 24 [iS r1949.1, bS r1949.2.1, .own 25 0 r1949.2.2.1.length])] 35 (by kernel_rfl) [] [2, 26] (bS r1957) [] (by simp only [push_cast, seval]) (by simp only [push_cast, seval]) (by kernel_rfl) (.inr ⟨by simp only [push_cast, seval], by simp only [push_cast, seval]⟩) (by simp only [push_cast, seval]) (by simp only [push_cast, seval]) ?_
                      refine rs 2 [] [] (by kernel_rfl) allP_nil ?_
                      refine rf [(6, bS r1957)] [(0, .row 24 (Enc.cells l)), (1, .row 24 [iS c3_Readers2, bS c3_Writer2, .own 5 0 c8q4.length]), (2, .row 3 (fl c4q3)), (3, .row 28 (Enc.cells c5q2)), (4, .row 28 (Enc.cells c4q4)), (5, .row 47 (fl c8q4)), (14, .dead), (21, .dead), (25, .row 47 (fl r1949.2.2.1)), (26, .row 3 (fl r1949.2.2.2)), (31, .row 24 [iS r1949.1, bS r1949.2.1, .own 25 0 r1949.2.2.1.length])] 35 (by kernel_rfl) ?_
                      exact hK1954 (r1957) _ _ _ h (leSt_m [] [] (by (try simp only [g1956]) <;> simp only [push_cast, seval]) (by (try simp only [g1956]) <;> simp only [push_cast, seval]) rfl rfl rfl)
                    · refine rs 5 [] [] (by kernel_rfl) allP_nil ?_
                      refine rf [(6, bS false)] [(0, .row 24 (Enc.cells l)), (1, .row 24 [iS c3_Readers2, bS c3_Writer2, .own 5 0 c8q4.length]), (2, .row 3 (fl c4q3)), (3, .row 28 (Enc.cells c5q2)), (4, .row 28 (Enc.cells c4q4)), (5, .row 47 (fl c8q4)), (14, .dead), (21, .dead), (25, .row 47 (fl r1949.2.2.1)), (26, .row 3 (fl r1949.2.2.2)), (31, .row 24 [iS r1949.1, bS r1949.2.1, .own 25 0 r1949.2.2.1.length])] 35 (by kernel_rfl) ?_
                      exact hK1954 (false) _ _ _ h (leSt_m [] [] (by (try simp only [g1956]) <;> simp only [push_cast, seval]) (by (try simp only [g1956]) <;> simp only [push_cast, seval]) rfl rfl rfl)
                  · rintro t6q4 h
                    try dsimp only at h ⊢
                    unfold taskmilllaw_LockLeaves_j2 at h
                    obtain rfl := Option.some.inj h
                    refine ret_at (bS t6q4) (by kernel_rfl) ?_
                    exact ret_e [] [] (by simp only [push_cast, seval]) (by simp only [push_cast, seval]) rfl rfl rfl

set_option maxRecDepth 100000 in
set_option maxHeartbeats 10000000 in
theorem lock_Enter_1_spec (w : Want) (c0 : Int) (r : Bool × Int) (h : lock_Enter_1 w c0 = some r) : SpecW Try.prog 33 [.agg (Enc.cells w), .ptr 0 0] [(0, .row 3 [iS c0])] 1 (fun x h n => x = bS r.1 ∧ h = [(0, .row 3 [iS r.2])] ∧ n = 1) := by
  unfold lock_Enter_1 at h
  refine spec_of (draw_ok _) Try.func33 rfl (by decide) rfl (by kernel_rfl) ?_
  refine seq_np ?_
  refine reg_f ?_
  refine rs 2 [] [] (by kernel_rfl) allP_nil ?_
  refine rf [(1, .ptr 0 0), (2, .ptr 1 0)] [(0, .row 3 [iS c0]), (1, .row 47 (Enc.cells w))] 2 (by kernel_rfl) ?_
  refine wk_id ?_
  refine seq_np ?_
  refine reg_f ?_
  refine rs 5 [] [] (by kernel_rfl) allP_nil ?_
  refine rf [(3, bS (w.Task == c0))] [(0, .row 3 [iS c0]), (1, .row 47 (Enc.cells w))] 2 (by kernel_rfl) ?_
  refine wk_id ?_
  obtain rfl := Option.some.inj h
  refine ret_at (bS (w.Task == c0)) (by kernel_rfl) ?_
  exact ret_e [(0, 0)] [] (by simp only [push_cast, seval]) (by simp only [push_cast, seval]) rfl rfl rfl

end Go.Proofs.Ythknjjkldflbaaa
