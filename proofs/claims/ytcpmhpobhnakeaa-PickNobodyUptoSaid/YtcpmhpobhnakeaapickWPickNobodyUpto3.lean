/-
 What laws of the chapter pick compute, and lemmas on it.
 No conditions.
-/
import Derived.Test.YtcpmhpobhnakeaapickWPickNobodyUpto2
set_option linter.unusedSimpArgs false
set_option linter.unusedVariables false
namespace Go.Proofs.Ytcpmhpobhnakeaa
open Go Go.Sx
attribute [local irreducible] Wk RunAt
set_option maxRecDepth 100000 in
set_option maxHeartbeats 200000000 in
theorem taskmilllaw_PickNobody_spec (caps : (List Int)) (moves : (List Move)) (r : Bool) (h : taskmilllaw_PickNobody caps moves = some r) : SpecW Try.prog 6 [.sl caps.length (fl caps), .sl moves.length (fl moves)] [] 0 (fun x h n => x = bS r ∧ h = [] ∧ n = 0) := by
 unfold taskmilllaw_PickNobody at h
 refine spec_of (draw_ok _) Try.func6 rfl (by decide) rfl (by kernel_rfl) ?_
 refine seq_np ?_
 refine reg_f ?_
 refine rs 1 [] [] (by kernel_rfl) allP_nil ?_
 refine rf [(0, .sl caps.length (fl caps)), (1, .sl moves.length (fl moves))] [] 0 (by kernel_rfl) ?_
 refine wk_id ?_
 refine seq_np ?_
 refine seq_np ?_
 refine reg_f ?_
 obtain ⟨r7956, hr7956, h⟩ := bind_sx h
 refine run_call 9 [] (some 23) (by kernel_rfl) ?_
 refine call_0 (taskmilllaw_pickBegun_spec r7956 hr7956) (by simp only [push_cast, leL_flD, renL_flD, seval]) (by simp only [push_cast, leL_flD, renL_flD, seval]) ?_
 refine back_f ?_
 refine rs 1 [] [] (by kernel_rfl) allP_nil ?_
 refine rf [(0, .sl caps.length (fl caps)), (1, .sl moves.length (fl moves)), (24, bS (!r7956))] [] 0 (by kernel_rfl) ?_
 refine wk_id ?_
 refine cond_sx h (by kernel_rfl) (fun g11327 h => ?_) (fun g11327 h => ?_)
 ·refine seq_np ?_
  refine reg_f ?_
  refine rs 1 [] [] (by kernel_rfl) allP_nil ?_
  refine rf [(4, bS false)] [] 0 (by kernel_rfl) ?_
  refine wk_id ?_
  obtain rfl := Option.some.inj h
  refine ret_at (bS false) (by kernel_rfl) ?_
  exact ret_e [] [] (by simp only [push_cast, leL_flD, renL_flD, seval]) (by simp only [push_cast, leL_flD, renL_flD, seval]) rfl rfl rfl
 ·refine wk_id ?_
  refine seq_np ?_
  refine seq_cut (A := Unit) (fun _ => ([(0, .sl caps.length (fl caps)), (1, .sl moves.length (fl moves)), (32, bS ((decide ((6 : Int) < ((caps.length : Nat) : Int))) || (decide ((60 : Int) < ((moves.length : Nat) : Int)))))], [], 0)) (fun _ => True) (fun K7960 hK7960 => ?_) (fun _ _ => ?_)
  ·refine reg_f ?_
   refine rs 4 [] [] (by kernel_rfl) allP_nil ?_
   refine run_split 28 (decide ((6 : Int) < ((caps.length : Nat) : Int))) (.inl (by kernel_rfl)) (fun g7961 => ?_) (fun g7961 => ?_)
   ·refine rs 4 [] [] (by kernel_rfl) allP_nil ?_
    refine rf [(0, .sl caps.length (fl caps)), (1, .sl moves.length (fl moves)), (32, bS true)] [] 0 (by kernel_rfl) ?_
    exact hK7960 () _ _ _ trivial (leSt_m [] [] (by (try simp only [g7961]) <;> simp only [push_cast, leL_flD, renL_flD, seval]) (by (try simp only [g7961]) <;> simp only [push_cast, leL_flD, renL_flD, seval]) rfl rfl rfl)
   ·refine rs 4 [] [] (by kernel_rfl) allP_nil ?_
    refine rf [(0, .sl caps.length (fl caps)), (1, .sl moves.length (fl moves)), (32, bS (decide ((60 : Int) < ((moves.length : Nat) : Int))))] [] 0 (by kernel_rfl) ?_
    exact hK7960 () _ _ _ trivial (leSt_m [] [] (by (try simp only [g7961]) <;> simp only [push_cast, leL_flD, renL_flD, seval]) (by (try simp only [g7961]) <;> simp only [push_cast, leL_flD, renL_flD, seval]) rfl rfl rfl)
  ·dsimp only
   refine cond_sx h (by kernel_rfl) (fun g11326 h => ?_) (fun g11326 h => ?_)
   ·refine seq_np ?_
    refine reg_f ?_
    refine rs 1 [] [] (by kernel_rfl) allP_nil ?_
    refine rf [(4, bS true)] [] 0 (by kernel_rfl) ?_
    refine wk_id ?_
    obtain rfl := Option.some.inj h
    refine ret_at (bS true) (by kernel_rfl) ?_
    exact ret_e [] [] (by simp only [push_cast, leL_flD, renL_flD, seval]) (by simp only [push_cast, leL_flD, renL_flD, seval]) rfl rfl rfl
   ·refine wk_id ?_
    refine seq_np ?_
    refine reg_f ?_
    refine rs 1 [] [] (by kernel_rfl) allP_nil ?_
    refine rf [(0, .sl caps.length (fl caps)), (1, .sl moves.length (fl moves)), (5, .v (.slice none 0 0))] [] 0 (by kernel_rfl) ?_
    refine wk_id ?_
    refine seq_np ?_
    refine seq_np ?_
    refine reg_f ?_
    refine rs 1 [] [] (by kernel_rfl) allP_nil ?_
    refine rf [(0, .sl caps.length (fl caps)), (1, .sl moves.length (fl moves)), (5, .v (.slice none 0 0)), (6, iS 0)] [] 0 (by kernel_rfl) ?_
    refine wk_id ?_
    refine block_np ?_
    refine loop_sx (S := Int × (List Pipe)) (fun a => ([(0, .sl caps.length (fl caps)), (1, .sl moves.length (fl moves)), (5, .own 0 0 a.2.length), (6, iS a.1)], [(0, .row 57 (fl a.2))], 1)) h (leSt_m [] [] (by simp only [push_cast, leL_flD, renL_flD, seval]) (by simp only [push_cast, leL_flD, renL_flD, seval]) rfl rfl rfl) ?_
    rintro ⟨i9, c0q21⟩ o6 R6 h hr6 hn6 hx6 ht6
    try dsimp only at h hn6 ⊢
    unfold taskmilllaw_PickNobody_l5 at h
    try dsimp only at h
    refine seq_np ?_
    refine seq_np ?_
    refine reg_f ?_
    refine rs 4 [] [] (by kernel_rfl) allP_nil ?_
    refine rf [(0, .sl caps.length (fl caps)), (1, .sl moves.length (fl moves)), (5, .own 0 0 c0q21.length), (6, iS i9), (36, bS (decide (i9 < ((caps.length : Nat) : Int))))] [(0, .row 57 (fl c0q21))] 1 (by kernel_rfl) ?_
    refine wk_id ?_
    refine cond_sx h (by kernel_rfl) (fun g11325 h => ?_) (fun g11325 h => ?_)
    ·refine wk_id ?_
     refine seq_np ?_
     refine block_np ?_
     refine seq_np ?_
     refine chk_sx h (fun g8087 h => ?_)
     refine chk_sx h (fun g8090 h => ?_)
     refine seq_cut (A := Unit) (fun _ => ([(0, .sl caps.length (fl caps)), (1, .sl moves.length (fl moves)), (5, .own 0 0 c0q21.length), (6, iS i9), (50, bS ((decide ((ix caps i9) < 0)) || (decide ((5 : Int) < (ix caps i9)))))], [(0, .row 57 (fl c0q21))], 1)) (fun _ => True) (fun K8085 hK8085 => ?_) (fun _ _ => ?_)
     ·refine reg_f ?_
      have k8086 : 0 ≤ i9 ∧ i9 < ((caps.length : Nat) : Int) := by first | simpa only [Bool.and_eq_true, decide_eq_true_eq, bne_iff_ne, ne_eq] using g8087 | (simp at g8087 ⊢; omega)
      refine rs 6 [none, none, some ⟨.iptr (fl caps) ((i9).toNat * 1), [], 1, []⟩, some ⟨iS (ix caps i9), [], 1, []⟩] _ (by kernel_rfl) (allP_cons (ob_ld caps i9 1 0 ((i9).toNat * 1) k8086 rfl (by decide) (by first | rfl | omega) (dflS Try.prog 3) (iS (ix caps i9)) rfl 1 []) (allP_cons (ob_ix_l caps 1 1 i9 k8086) allP_nil)) ?_
      refine run_split 44 (decide ((ix caps i9) < 0)) (.inl (by kernel_rfl)) (fun g8088 => ?_) (fun g8088 => ?_)
      ·refine rs 6 [] [] (by kernel_rfl) allP_nil ?_
       refine rf [(0, .sl caps.length (fl caps)), (1, .sl moves.length (fl moves)), (5, .own 0 0 c0q21.length), (6, iS i9), (50, bS true)] [(0, .row 57 (fl c0q21))] 1 (by kernel_rfl) ?_
       exact hK8085 () _ _ _ trivial (leSt_m [(0, 0)] [] (by (try simp only [g8088]) <;> simp only [push_cast, leL_flD, renL_flD, seval]) (by (try simp only [g8088]) <;> simp only [push_cast, leL_flD, renL_flD, seval]) rfl rfl rfl)
      ·have k8089 : 0 ≤ i9 ∧ i9 < ((caps.length : Nat) : Int) := by have e := or_use g8090 (by first | ((try simp only [g8088]) <;> rfl) | ((try simp only [g8088]); rfl) | (exfalso; clear h; simp_all; done)); first | simpa only [Bool.and_eq_true, decide_eq_true_eq, bne_iff_ne, ne_eq] using e | (simp at e ⊢; omega)
       refine rs 6 [none, none, some ⟨.iptr (fl caps) ((i9).toNat * 1), [], 1, []⟩, some ⟨iS (ix caps i9), [], 1, []⟩] _ (by kernel_rfl) (allP_cons (ob_ld caps i9 1 0 ((i9).toNat * 1) k8089 rfl (by decide) (by first | rfl | omega) (dflS Try.prog 3) (iS (ix caps i9)) rfl 1 []) (allP_cons (ob_ix_l caps 1 1 i9 k8089) allP_nil)) ?_
       refine rf [(0, .sl caps.length (fl caps)), (1, .sl moves.length (fl moves)), (5, .own 0 0 c0q21.length), (6, iS i9), (50, bS (decide ((5 : Int) < (ix caps i9))))] [(0, .row 57 (fl c0q21))] 1 (by kernel_rfl) ?_
       exact hK8085 () _ _ _ trivial (leSt_m [(0, 0)] [] (by (try simp only [g8088]) <;> simp only [push_cast, leL_flD, renL_flD, seval]) (by (try simp only [g8088]) <;> simp only [push_cast, leL_flD, renL_flD, seval]) rfl rfl rfl)
     ·dsimp only
      refine cond_sx h (by kernel_rfl) (fun g8099 h => ?_) (fun g8099 h => ?_)
      ·refine seq_np ?_
       refine reg_f ?_
       refine rs 1 [] [] (by kernel_rfl) allP_nil ?_
       refine rf [(4, bS true)] [(0, .row 57 (fl c0q21))] 1 (by kernel_rfl) ?_
       refine wk_id ?_
       refine rt_cast ht6 ?_
       obtain ⟨r0, h, e0⟩ := map_sx h
       have e1 := hr6 r0 e0.symm
       subst r0
       obtain rfl := Option.some.inj h
       refine ret_at (bS true) (by kernel_rfl) ?_
       exact ret_e [] [] (by simp only [push_cast, leL_flD, renL_flD, seval]) (by simp only [push_cast, leL_flD, renL_flD, seval]) rfl rfl rfl
      ·refine wk_id ?_
       refine chk_sx h (fun g8096 h => ?_)
       refine chk_sx h (fun g8098 h => ?_)
       refine reg_f ?_
       have k8095 : 0 ≤ i9 ∧ i9 < ((caps.length : Nat) : Int) := by first | simpa only [Bool.and_eq_true, decide_eq_true_eq, bne_iff_ne, ne_eq] using g8096 | (simp at g8096 ⊢; omega)
       refine rs 6 [none, none, none, some ⟨.iptr (fl caps) ((i9).toNat * 1), [], 1, []⟩, some ⟨iS (ix caps i9), [], 1, []⟩] _ (by kernel_rfl) (allP_cons (ob_ld caps i9 1 0 ((i9).toNat * 1) k8095 rfl (by decide) (by first | rfl | omega) (dflS Try.prog 3) (iS (ix caps i9)) rfl 1 []) (allP_cons (ob_ix_l caps 1 1 i9 k8095) allP_nil)) ?_
       refine run_nilF (some 57) 1 57 [iS (ix caps i9), .v (.slice none 0 0), bS false, .v (.slice none 0 0), .v (.slice none 0 0)] (fl ([(Pipe.mk (ix caps i9) [] false [] [])] : List Pipe)) (by kernel_rfl) rfl rfl ?_
       have k8097 : (c0q21 ++ ([(Pipe.mk (ix caps i9) [] false [] [])] : List Pipe)).length * 88 ≤ 140737488355328 := by first | simpa only [Bool.and_eq_true, decide_eq_true_eq, bne_iff_ne, ne_eq] using g8098 | (simp at g8098 ⊢; omega)
       refine rs 2 [some ⟨.own 2 0 (c0q21 ++ ([(Pipe.mk (ix caps i9) [] false [] [])] : List Pipe)).length, [(2, .row 57 (fl (c0q21 ++ ([(Pipe.mk (ix caps i9) [] false [] [])] : List Pipe)))), (0, .dead)], 3, [0, 1]⟩] _ (by kernel_rfl) (allP_cons (ob_app (P := Try.prog) c0q21 ([(Pipe.mk (ix caps i9) [] false [] [])] : List Pipe) 5 88 rfl (appCells (fl ([(Pipe.mk (ix caps i9) [] false [] [])] : List Pipe)) 0 (([(Pipe.mk (ix caps i9) [] false [] [])] : List Pipe).length * 5)) ([(Pipe.mk (ix caps i9) [] false [] [])] : List Pipe).length (app_own ([(Pipe.mk (ix caps i9) [] false [] [])] : List Pipe) 5 rfl) rfl (0 + ([(Pipe.mk (ix caps i9) [] false [] [])] : List Pipe).length * 5 ≤ (fl ([(Pipe.mk (ix caps i9) [] false [] [])] : List Pipe)).length) (app_own_le ([(Pipe.mk (ix caps i9) [] false [] [])] : List Pipe) 5 rfl) 57 (by kernel_rfl) (by decide) k8097 0 2 [1]) allP_nil) ?_
       refine rf [(0, .sl caps.length (fl caps)), (1, .sl moves.length (fl moves)), (5, .own 2 0 (c0q21 ++ ([(Pipe.mk (ix caps i9) [] false [] [])] : List Pipe)).length), (6, iS i9)] [(0, .dead), (1, .row 57 (fl ([(Pipe.mk (ix caps i9) [] false [] [])] : List Pipe))), (2, .row 57 (fl (c0q21 ++ ([(Pipe.mk (ix caps i9) [] false [] [])] : List Pipe))))] 3 (by kernel_rfl) ?_
       refine wk_id ?_
       refine wk_id ?_
       refine reg_f ?_
       refine rs 3 [] [] (by kernel_rfl) allP_nil ?_
       refine rf [(0, .sl caps.length (fl caps)), (1, .sl moves.length (fl moves)), (5, .own 2 0 (c0q21 ++ ([(Pipe.mk (ix caps i9) [] false [] [])] : List Pipe)).length), (6, iS (IntKind.i64.wrap (i9 + 1)))] [(0, .dead), (1, .row 57 (fl ([(Pipe.mk (ix caps i9) [] false [] [])] : List Pipe))), (2, .row 57 (fl (c0q21 ++ ([(Pipe.mk (ix caps i9) [] false [] [])] : List Pipe))))] 3 (by kernel_rfl) ?_
       exact hn6 ((IntKind.i64.wrap (i9 + 1)), (c0q21 ++ ([(Pipe.mk (ix caps i9) [] false [] [])] : List Pipe))) _ _ _ (Option.some.inj h).symm (leSt_m [(0, 2)] [] (by simp only [push_cast, leL_flD, renL_flD, seval]) (by simp only [push_cast, leL_flD, renL_flD, seval]) rfl rfl rfl)
    ·change R6 (.exit 0) _ _ _
     refine ex_cast hx6 (id := 0) ?_
     obtain ⟨r0, h, e0⟩ := map_sx h
     have e1 := hr6 r0 e0.symm
     subst r0
     refine wk_id ?_
     refine wk_id ?_
     refine chk_sx h (fun g8103 h => ?_)
     refine seq_np ?_
     refine reg_f ?_
     have k8102 : 0 ≤ (IntKind.i64.wrap (((moves.length : Nat) : Int) + 1)) ∧ (IntKind.i64.wrap (((moves.length : Nat) : Int) + 1)) ≤ 4611686018427387904 ∧ (1 : Int) * (IntKind.i64.wrap (((moves.length : Nat) : Int) + 1)) ≤ 140737488355328 := by first | simpa only [Bool.and_eq_true, decide_eq_true_eq, bne_iff_ne, ne_eq] using g8103 | (simp at g8103 ⊢; omega)
     refine rs 5 [none, none, none, some ⟨.own 1 0 (List.replicate ((IntKind.i64.wrap (((moves.length : Nat) : Int) + 1))).toNat (default : Bool)).length, [(1, .row 4 (fl (List.replicate ((IntKind.i64.wrap (((moves.length : Nat) : Int) + 1))).toNat (default : Bool))))], 2, []⟩] _ (by kernel_rfl) (allP_cons (ob_mk (P := Try.prog) (α := Bool) (IntKind.i64.wrap (((moves.length : Nat) : Int) + 1)) 4 1 (by kernel_rfl) [bS false] rfl 1 rfl (by decide) k8102 1) allP_nil) ?_
     refine rf [(1, .sl moves.length (fl moves)), (5, .own 0 0 c0q21.length), (7, .own 1 0 (List.replicate ((IntKind.i64.wrap (((moves.length : Nat) : Int) + 1))).toNat (default : Bool)).length)] [(0, .row 57 (fl c0q21)), (1, .row 4 (fl (List.replicate ((IntKind.i64.wrap (((moves.length : Nat) : Int) + 1))).toNat (default : Bool))))] 2 (by kernel_rfl) ?_
     refine wk_id ?_
     refine chk_sx h (fun g8107 h => ?_)
     refine seq_np ?_
     refine reg_f ?_
     have k8106 : 0 ≤ (IntKind.i64.wrap (((moves.length : Nat) : Int) + 1)) ∧ (IntKind.i64.wrap (((moves.length : Nat) : Int) + 1)) ≤ 4611686018427387904 ∧ (24 : Int) * (IntKind.i64.wrap (((moves.length : Nat) : Int) + 1)) ≤ 140737488355328 := by first | simpa only [Bool.and_eq_true, decide_eq_true_eq, bne_iff_ne, ne_eq] using g8107 | (simp at g8107 ⊢; omega)
     refine rs 3 [] [] (by kernel_rfl) allP_nil ?_
     refine run_opG (some 66) _ ⟨.own 2 0 (List.replicate ((IntKind.i64.wrap (((moves.length : Nat) : Int) + 1))).toNat (default : (List GCase))).length, [(Nm.t 2, .row 23 ((List.range ((IntKind.i64.wrap (((moves.length : Nat) : Int) + 1))).toNat).flatMap fun _ => [.v (.slice none 0 0)]))], 3, []⟩ [(Nm.t 2, .row 23 (fl (List.replicate ((IntKind.i64.wrap (((moves.length : Nat) : Int) + 1))).toNat (default : (List GCase)))))] 0 [Nm.t 2] [] (by kernel_rfl) (ob_mk0 (P := Try.prog) (IntKind.i64.wrap (((moves.length : Nat) : Int) + 1)) 23 24 (by kernel_rfl) [.v (.slice none 0 0)] 1 rfl (by decide) (default : (List GCase)) k8106 2) (ghost_nil (by kernel_rfl) (nil_rep (α := (List GCase)) ((IntKind.i64.wrap (((moves.length : Nat) : Int) + 1))).toNat [.v (.slice none 0 0)] rfl)) (by kernel_rfl) ?_
     refine rs 1 [] [] (by kernel_rfl) allP_nil ?_
     refine rf [(1, .sl moves.length (fl moves)), (5, .own 0 0 c0q21.length), (7, .own 1 0 (List.replicate ((IntKind.i64.wrap (((moves.length : Nat) : Int) + 1))).toNat (default : Bool)).length), (8, .own 2 0 (List.replicate ((IntKind.i64.wrap (((moves.length : Nat) : Int) + 1))).toNat (default : (List GCase))).length)] [(0, .row 57 (fl c0q21)), (1, .row 4 (fl (List.replicate ((IntKind.i64.wrap (((moves.length : Nat) : Int) + 1))).toNat (default : Bool)))), (2, .row 23 (fl (List.replicate ((IntKind.i64.wrap (((moves.length : Nat) : Int) + 1))).toNat (default : (List GCase)))))] 3 (by kernel_rfl) ?_
     refine wk_id ?_
     refine seq_np ?_
     refine seq_np ?_
     refine reg_f ?_
     refine rs 1 [] [] (by kernel_rfl) allP_nil ?_
     refine rf [(1, .sl moves.length (fl moves)), (5, .own 0 0 c0q21.length), (7, .own 1 0 (List.replicate ((IntKind.i64.wrap (((moves.length : Nat) : Int) + 1))).toNat (default : Bool)).length), (8, .own 2 0 (List.replicate ((IntKind.i64.wrap (((moves.length : Nat) : Int) + 1))).toNat (default : (List GCase))).length), (9, iS 0)] [(0, .row 57 (fl c0q21)), (1, .row 4 (fl (List.replicate ((IntKind.i64.wrap (((moves.length : Nat) : Int) + 1))).toNat (default : Bool)))), (2, .row 23 (fl (List.replicate ((IntKind.i64.wrap (((moves.length : Nat) : Int) + 1))).toNat (default : (List GCase)))))] 3 (by kernel_rfl) ?_
     refine wk_id ?_
     refine block_np ?_
     refine loop_sx (S := (List Pipe) × Int × (List Bool) × (List (List GCase))) (fun a => ([(1, .sl moves.length (fl moves)), (5, .sl a.1.length (fl a.1)), (7, .own 0 0 a.2.2.1.length), (8, .own 1 0 a.2.2.2.length), (9, iS a.2.1)], [(0, .row 4 (fl a.2.2.1)), (1, .row 23 (fl a.2.2.2))], 2)) h (leSt_m [(0, 1), (1, 2)] [0] (by simp only [leS_frz, leS_cut, leL_flD, renL_flD, push_cast, seval]) (by simp only [leS_frz, leS_cut, leL_flD, renL_flD, push_cast, seval]) rfl rfl rfl) ?_
     rintro ⟨xh73, i15, c0q59, c1q29⟩ o7 R7 h hr7 hn7 hx7 ht7
     try dsimp only at h hn7 ⊢
     unfold taskmilllaw_PickNobody_l4 at h
     try dsimp only at h
     refine seq_np ?_
     refine seq_np ?_
     refine reg_f ?_
     refine rs 4 [] [] (by kernel_rfl) allP_nil ?_
     refine rf [(1, .sl moves.length (fl moves)), (5, .sl xh73.length (fl xh73)), (7, .own 0 0 c0q59.length), (8, .own 1 0 c1q29.length), (9, iS i15), (70, bS (decide (i15 < ((moves.length : Nat) : Int))))] [(0, .row 4 (fl c0q59)), (1, .row 23 (fl c1q29))] 2 (by kernel_rfl) ?_
     refine wk_id ?_
     refine cond_sx h (by kernel_rfl) (fun g11324 h => ?_) (fun g11324 h => ?_)
     ·refine wk_id ?_
      refine seq_np ?_
      refine block_cut (A := (List Pipe) × (List Bool) × (List (List GCase))) (fun a => ([(1, .sl moves.length (fl moves)), (5, .sl a.1.length (fl a.1)), (7, .own 0 0 a.2.1.length), (8, .own 1 0 a.2.2.length), (9, iS i15)], [(0, .row 4 (fl a.2.1)), (1, .row 23 (fl a.2.2))], 2)) (fun a => (taskmilllaw_PickNobody_j1 moves i15 a.1 a.2.1 a.2.2) = some o7) (fun K10689 hK10689 => ?_) ?_
      ·refine seq_np ?_
       refine reg_f ?_
       refine rs 3 [] [] (by kernel_rfl) allP_nil ?_
       refine rf [(1, .sl moves.length (fl moves)), (5, .sl xh73.length (fl xh73)), (7, .own 0 0 c0q59.length), (8, .own 1 0 c1q29.length), (9, iS i15), (10, iS (IntKind.i64.wrap (i15 + 1)))] [(0, .row 4 (fl c0q59)), (1, .row 23 (fl c1q29))] 2 (by kernel_rfl) ?_
       refine wk_id ?_
       refine chk_sx h (fun g10693 h => ?_)
       refine seq_np ?_
       refine reg_f ?_
       have k10692 : 0 ≤ i15 ∧ i15 < ((moves.length : Nat) : Int) := by first | simpa only [Bool.and_eq_true, decide_eq_true_eq, bne_iff_ne, ne_eq] using g10693 | (simp at g10693 ⊢; omega)
       refine rs 6 [none, none, some ⟨.iptr (fl moves) ((i15).toNat * 4), [], 2, []⟩, some ⟨.agg (Enc.cells (ix moves i15)), [], 2, []⟩] _ (by kernel_rfl) (allP_cons (ob_ldw moves i15 4 ((i15).toNat * 4) k10692 rfl (by first | rfl | omega) [.sl (ix moves i15).Cases.length (fl (ix moves i15).Cases), .sl (ix moves i15).Order.length (fl (ix moves i15).Order), bS (ix moves i15).Def, iS (ix moves i15).Close] rfl 2 []) (allP_cons (ob_ix_l moves 4 2 i15 k10692) allP_nil)) ?_
       refine rf [(1, .sl moves.length (fl moves)), (5, .sl xh73.length (fl xh73)), (7, .own 0 0 c0q59.length), (8, .own 1 0 c1q29.length), (9, iS i15), (10, iS (IntKind.i64.wrap (i15 + 1))), (11, .ptr 2 0)] [(0, .row 4 (fl c0q59)), (1, .row 23 (fl c1q29)), (2, .row 61 (Enc.cells (ix moves i15)))] 3 (by kernel_rfl) ?_
       refine wk_id ?_
       refine seq_np ?_
       refine reg_f ?_
       refine rs 2 [] [] (by kernel_rfl) allP_nil ?_
       refine rf [(1, .sl moves.length (fl moves)), (5, .sl xh73.length (fl xh73)), (7, .own 0 0 c0q59.length), (8, .own 1 0 c1q29.length), (9, iS i15), (10, iS (IntKind.i64.wrap (i15 + 1))), (11, .ptr 2 0)] [(0, .row 4 (fl c0q59)), (1, .row 23 (fl c1q29)), (2, .row 61 (Enc.cells (ix moves i15)))] 3 (by kernel_rfl) ?_
       refine wk_id ?_
       refine seq_np ?_
       refine reg_f ?_
       refine rs 3 [] [] (by kernel_rfl) allP_nil ?_
       refine rf [(1, .sl moves.length (fl moves)), (5, .sl xh73.length (fl xh73)), (7, .own 0 0 c0q59.length), (8, .own 1 0 c1q29.length), (9, iS i15), (10, iS (IntKind.i64.wrap (i15 + 1))), (11, .ptr 2 0), (13, .ptr 3 0)] [(0, .row 4 (fl c0q59)), (1, .row 23 (fl c1q29)), (2, .row 61 (Enc.cells (ix moves i15))), (3, .row 33 [bS false, bS false, bS false, iS 0, iS 0, .v (.slice none 0 0)])] 4 (by kernel_rfl) ?_
       refine wk_id ?_
       refine seq_np ?_
       refine reg_f ?_
       refine rs 3 [] [] (by kernel_rfl) allP_nil ?_
       refine rf [(1, .sl moves.length (fl moves)), (5, .sl xh73.length (fl xh73)), (7, .own 0 0 c0q59.length), (8, .own 1 0 c1q29.length), (9, iS i15), (10, iS (IntKind.i64.wrap (i15 + 1))), (11, .ptr 2 0), (13, .ptr 3 0), (14, .ptr 4 0)] [(0, .row 4 (fl c0q59)), (1, .row 23 (fl c1q29)), (2, .row 61 (Enc.cells (ix moves i15))), (3, .row 33 [bS false, bS false, bS false, iS 0, iS 0, .v (.slice none 0 0)]), (4, .row 29 [iS 0, iS 0])] 5 (by kernel_rfl) ?_
       refine wk_id ?_
       refine seq_cut (A := (List Bool) × (List (List GCase)) × (List Pipe) × Bool × Bool × Bool × Int × Int × Fault × (List GWake)) (fun a => ([(1, .sl moves.length (fl moves)), (5, .sl xh73.length (fl xh73)), (7, .own 0 0 a.1.length), (8, .own 1 0 a.2.1.length), (9, iS i15), (12, .own 2 0 a.2.2.1.length), (13, .ptr 3 0), (14, .ptr 4 0)], [(0, .row 4 (fl a.1)), (1, .row 23 (fl a.2.1)), (2, .row 57 (flD dPipe [5, 6, 7] a.2.2.1)), (3, .row 33 [bS a.2.2.2.1, bS a.2.2.2.2.1, bS a.2.2.2.2.2.1, iS a.2.2.2.2.2.2.1, iS a.2.2.2.2.2.2.2.1, .own 8 0 a.2.2.2.2.2.2.2.2.2.length]), (4, .row 29 (Enc.cells a.2.2.2.2.2.2.2.2.1)), ((.s 5 0), .fam (famD dPipe 0 a.2.2.1)), ((.s 6 0), .fam (famD dPipe 1 a.2.2.1)), ((.s 7 0), .fam (famD dPipe 2 a.2.2.1)), (8, .row 64 (fl a.2.2.2.2.2.2.2.2.2))], 9)) (fun a => (taskmilllaw_PickNobody_j4 moves xh73 i15 a.1 a.2.1 a.2.2.1 a.2.2.2.1 a.2.2.2.2.1 a.2.2.2.2.2.1 a.2.2.2.2.2.2.1 a.2.2.2.2.2.2.2.1 a.2.2.2.2.2.2.2.2.1 a.2.2.2.2.2.2.2.2.2) = some o7) (fun K10704 hK10704 => ?_) ?_
       ·refine seq_np ?_
        refine reg_f ?_
        refine rs 3 [] [] (by kernel_rfl) allP_nil ?_
        refine rf [(1, .sl moves.length (fl moves)), (5, .sl xh73.length (fl xh73)), (7, .own 0 0 c0q59.length), (8, .own 1 0 c1q29.length), (9, iS i15), (10, iS (IntKind.i64.wrap (i15 + 1))), (11, .ptr 2 0), (13, .ptr 3 0), (14, .ptr 4 0), (84, bS (decide ((0 : Int) < (ix moves i15).Close)))] [(0, .row 4 (fl c0q59)), (1, .row 23 (fl c1q29)), (2, .row 61 (Enc.cells (ix moves i15))), (3, .row 33 [bS false, bS false, bS false, iS 0, iS 0, .v (.slice none 0 0)]), (4, .row 29 [iS 0, iS 0])] 5 (by kernel_rfl) ?_
        refine wk_id ?_
        refine cond_sx h (by kernel_rfl) (fun g10721 h => ?_) (fun g10721 h => ?_)
        ·refine reg_f ?_
         refine rs 4 [] [] (by kernel_rfl) allP_nil ?_
         obtain ⟨r10706, hr10706, h⟩ := bind_sx h
         refine call_x (pick_Shut_spec xh73 (IntKind.i64.wrap ((ix moves i15).Close - 1)) r10706 hr10706) (args := [.sl xh73.length (fl xh73), iS (IntKind.i64.wrap ((ix moves i15).Close - 1))]) (dst := (some 90)) (by kernel_rfl) [(0, .row 4 (fl c0q59)), (1, .row 23 (fl c1q29)), (2, .row 61 (Enc.cells (ix moves i15))), (3, .row 33 [bS false, bS false, bS false, iS 0, iS 0, .v (.slice none 0 0)]), (4, .row 29 [iS 0, iS 0])] 5 (by kernel_rfl) [] [] (.tup [.own 5 0 r10706.2.2.2.2.2.2.1.length, .agg [bS r10706.1, bS r10706.2.1, bS r10706.2.2.1, iS r10706.2.2.2.1, iS r10706.2.2.2.2.1, .own 6 0 r10706.2.2.2.2.2.2.2.length], .agg (Enc.cells r10706.2.2.2.2.2.1)]) [(5, .row 57 (flD dPipe [7, 8, 9] r10706.2.2.2.2.2.2.1)), (6, .row 64 (fl r10706.2.2.2.2.2.2.2)), ((.s 7 0), .fam (famD dPipe 0 r10706.2.2.2.2.2.2.1)), ((.s 8 0), .fam (famD dPipe 1 r10706.2.2.2.2.2.2.1)), ((.s 9 0), .fam (famD dPipe 2 r10706.2.2.2.2.2.2.1))] (by simp only [push_cast, leL_flD, renL_flD, seval]) (by simp only [push_cast, leL_flD, renL_flD, seval]) (by kernel_rfl) (.inl rfl) (by first | (simp only [push_cast, leL_flD, renL_flD, seval]; done) | (simp only [push_cast, leL_flD, renL_flD, seval]; kernel_rfl) | kernel_rfl) (by first | (simp only [push_cast, leL_flD, renL_flD, seval]; done) | (simp only [push_cast, leL_flD, renL_flD, seval]; kernel_rfl) | kernel_rfl) ?_
         refine rs 7 [] [] (by kernel_rfl) allP_nil ?_
         refine rf [(1, .sl moves.length (fl moves)), (5, .sl xh73.length (fl xh73)), (7, .own 0 0 c0q59.length), (8, .own 1 0 c1q29.length), (9, iS i15), (12, .own 5 0 r10706.2.2.2.2.2.2.1.length), (13, .ptr 3 0), (14, .ptr 4 0)] [(0, .row 4 (fl c0q59)), (1, .row 23 (fl c1q29)), (2, .row 61 (Enc.cells (ix moves i15))), (3, .row 33 [bS r10706.1, bS r10706.2.1, bS r10706.2.2.1, iS r10706.2.2.2.1, iS r10706.2.2.2.2.1, .own 6 0 r10706.2.2.2.2.2.2.2.length]), (4, .row 29 (Enc.cells r10706.2.2.2.2.2.1)), (5, .row 57 (flD dPipe [7, 8, 9] r10706.2.2.2.2.2.2.1)), (6, .row 64 (fl r10706.2.2.2.2.2.2.2)), ((.s 7 0), .fam (famD dPipe 0 r10706.2.2.2.2.2.2.1)), ((.s 8 0), .fam (famD dPipe 1 r10706.2.2.2.2.2.2.1)), ((.s 9 0), .fam (famD dPipe 2 r10706.2.2.2.2.2.2.1))] 10 (by kernel_rfl) ?_
         exact hK10704 (c0q59, c1q29, r10706.2.2.2.2.2.2.1, r10706.1, r10706.2.1, r10706.2.2.1, r10706.2.2.2.1, r10706.2.2.2.2.1, r10706.2.2.2.2.2.1, r10706.2.2.2.2.2.2.2) _ _ _ h (leSt_m [(0, 0), (1, 1), (2, 5), (3, 3), (4, 4), ((.s 5 0), (.s 7 0)), ((.s 6 0), (.s 8 0)), ((.s 7 0), (.s 9 0)), (8, 6)] [] (by simp only [push_cast, leL_flD, renL_flD, seval]) (by simp only [push_cast, leL_flD, renL_flD, seval]) rfl rfl rfl)
        ·refine seq_np ?_
         refine reg_f ?_
         refine rs 8 [] [] (by kernel_rfl) allP_nil ?_
         obtain ⟨r10708, hr10708, h⟩ := bind_sx h
         refine call_x (pick_Pick_spec xh73 (IntKind.i64.wrap (i15 + 1)) (ix moves i15).Cases (ix moves i15).Order (ix moves i15).Def r10708 hr10708) (args := [.sl xh73.length (fl xh73), iS (IntKind.i64.wrap (i15 + 1)), .sl (ix moves i15).Cases.length (fl (ix moves i15).Cases), .sl (ix moves i15).Order.length (fl (ix moves i15).Order), bS (ix moves i15).Def]) (dst := (some 103)) (by kernel_rfl) [(0, .row 4 (fl c0q59)), (1, .row 23 (fl c1q29)), (2, .row 61 (Enc.cells (ix moves i15))), (3, .row 33 [bS false, bS false, bS false, iS 0, iS 0, .v (.slice none 0 0)]), (4, .row 29 [iS 0, iS 0])] 5 (by kernel_rfl) [] [] (.tup [.own 5 0 r10708.2.2.2.2.2.2.1.length, .agg [bS r10708.1, bS r10708.2.1, bS r10708.2.2.1, iS r10708.2.2.2.1, iS r10708.2.2.2.2.1, .own 6 0 r10708.2.2.2.2.2.2.2.length], .agg (Enc.cells r10708.2.2.2.2.2.1)]) [(5, .row 57 (flD dPipe [7, 8, 9] r10708.2.2.2.2.2.2.1)), (6, .row 64 (fl r10708.2.2.2.2.2.2.2)), ((.s 7 0), .fam (famD dPipe 0 r10708.2.2.2.2.2.2.1)), ((.s 8 0), .fam (famD dPipe 1 r10708.2.2.2.2.2.2.1)), ((.s 9 0), .fam (famD dPipe 2 r10708.2.2.2.2.2.2.1))] (by simp only [push_cast, leL_flD, renL_flD, seval]) (by simp only [push_cast, leL_flD, renL_flD, seval]) (by kernel_rfl) (.inl rfl) (by first | (simp only [push_cast, leL_flD, renL_flD, seval]; done) | (simp only [push_cast, leL_flD, renL_flD, seval]; kernel_rfl) | kernel_rfl) (by first | (simp only [push_cast, leL_flD, renL_flD, seval]; done) | (simp only [push_cast, leL_flD, renL_flD, seval]; kernel_rfl) | kernel_rfl) ?_
         refine rs 7 [] [] (by kernel_rfl) allP_nil ?_
         refine rf [(1, .sl moves.length (fl moves)), (5, .sl xh73.length (fl xh73)), (7, .own 0 0 c0q59.length), (8, .own 1 0 c1q29.length), (9, iS i15), (10, iS (IntKind.i64.wrap (i15 + 1))), (11, .ptr 2 0), (12, .own 5 0 r10708.2.2.2.2.2.2.1.length), (13, .ptr 3 0), (14, .ptr 4 0)] [(0, .row 4 (fl c0q59)), (1, .row 23 (fl c1q29)), (2, .row 61 (Enc.cells (ix moves i15))), (3, .row 33 [bS r10708.1, bS r10708.2.1, bS r10708.2.2.1, iS r10708.2.2.2.1, iS r10708.2.2.2.2.1, .own 6 0 r10708.2.2.2.2.2.2.2.length]), (4, .row 29 (Enc.cells r10708.2.2.2.2.2.1)), (5, .row 57 (flD dPipe [7, 8, 9] r10708.2.2.2.2.2.2.1)), (6, .row 64 (fl r10708.2.2.2.2.2.2.2)), ((.s 7 0), .fam (famD dPipe 0 r10708.2.2.2.2.2.2.1)), ((.s 8 0), .fam (famD dPipe 1 r10708.2.2.2.2.2.2.1)), ((.s 9 0), .fam (famD dPipe 2 r10708.2.2.2.2.2.2.1))] 10 (by kernel_rfl) ?_
         refine wk_id ?_
         refine seq_cut (A := Unit) (fun _ => ([(1, .sl moves.length (fl moves)), (5, .sl xh73.length (fl xh73)), (7, .own 0 0 c0q59.length), (8, .own 1 0 c1q29.length), (9, iS i15), (10, iS (IntKind.i64.wrap (i15 + 1))), (11, .ptr 2 0), (12, .own 5 0 r10708.2.2.2.2.2.2.1.length), (13, .ptr 3 0), (14, .ptr 4 0), (114, bS ((r10708.2.2.2.2.2.1.Code == 0) && (!r10708.1)))], [(0, .row 4 (fl c0q59)), (1, .row 23 (fl c1q29)), (2, .row 61 (Enc.cells (ix moves i15))), (3, .row 33 [bS r10708.1, bS r10708.2.1, bS r10708.2.2.1, iS r10708.2.2.2.1, iS r10708.2.2.2.2.1, .own 6 0 r10708.2.2.2.2.2.2.2.length]), (4, .row 29 (Enc.cells r10708.2.2.2.2.2.1)), (5, .row 57 (flD dPipe [7, 8, 9] r10708.2.2.2.2.2.2.1)), (6, .row 64 (fl r10708.2.2.2.2.2.2.2)), ((.s 7 0), .fam (famD dPipe 0 r10708.2.2.2.2.2.2.1)), ((.s 8 0), .fam (famD dPipe 1 r10708.2.2.2.2.2.2.1)), ((.s 9 0), .fam (famD dPipe 2 r10708.2.2.2.2.2.2.1))], 10)) (fun _ => True) (fun K10710 hK10710 => ?_) (fun _ _ => ?_)
         ·refine reg_f ?_
          refine rs 4 [] [] (by kernel_rfl) allP_nil ?_
          refine run_split 110 (r10708.2.2.2.2.2.1.Code == 0) (.inl (by kernel_rfl)) (fun g10711 => ?_) (fun g10711 => ?_)
          ·refine rs 4 [] [] (by kernel_rfl) allP_nil ?_
           refine rf [(1, .sl moves.length (fl moves)), (5, .sl xh73.length (fl xh73)), (7, .own 0 0 c0q59.length), (8, .own 1 0 c1q29.length), (9, iS i15), (10, iS (IntKind.i64.wrap (i15 + 1))), (11, .ptr 2 0), (12, .own 5 0 r10708.2.2.2.2.2.2.1.length), (13, .ptr 3 0), (14, .ptr 4 0), (114, bS (!r10708.1))] [(0, .row 4 (fl c0q59)), (1, .row 23 (fl c1q29)), (2, .row 61 (Enc.cells (ix moves i15))), (3, .row 33 [bS r10708.1, bS r10708.2.1, bS r10708.2.2.1, iS r10708.2.2.2.1, iS r10708.2.2.2.2.1, .own 6 0 r10708.2.2.2.2.2.2.2.length]), (4, .row 29 (Enc.cells r10708.2.2.2.2.2.1)), (5, .row 57 (flD dPipe [7, 8, 9] r10708.2.2.2.2.2.2.1)), (6, .row 64 (fl r10708.2.2.2.2.2.2.2)), ((.s 7 0), .fam (famD dPipe 0 r10708.2.2.2.2.2.2.1)), ((.s 8 0), .fam (famD dPipe 1 r10708.2.2.2.2.2.2.1)), ((.s 9 0), .fam (famD dPipe 2 r10708.2.2.2.2.2.2.1))] 10 (by kernel_rfl) ?_
           exact hK10710 () _ _ _ trivial (leSt_m [(0, 0), (1, 1), (2, 2), (3, 3), (4, 4), (5, 5), (6, 6), ((.s 7 0), (.s 7 0)), ((.s 8 0), (.s 8 0)), ((.s 9 0), (.s 9 0))] [] (by (try simp only [g10711]) <;> simp only [push_cast, leL_flD, renL_flD, seval]) (by (try simp only [g10711]) <;> simp only [push_cast, leL_flD, renL_flD, seval]) rfl rfl rfl)
          ·refine rs 4 [] [] (by kernel_rfl) allP_nil ?_
           refine rf [(1, .sl moves.length (fl moves)), (5, .sl xh73.length (fl xh73)), (7, .own 0 0 c0q59.length), (8, .own 1 0 c1q29.length), (9, iS i15), (10, iS (IntKind.i64.wrap (i15 + 1))), (11, .ptr 2 0), (12, .own 5 0 r10708.2.2.2.2.2.2.1.length), (13, .ptr 3 0), (14, .ptr 4 0), (114, bS false)] [(0, .row 4 (fl c0q59)), (1, .row 23 (fl c1q29)), (2, .row 61 (Enc.cells (ix moves i15))), (3, .row 33 [bS r10708.1, bS r10708.2.1, bS r10708.2.2.1, iS r10708.2.2.2.1, iS r10708.2.2.2.2.1, .own 6 0 r10708.2.2.2.2.2.2.2.length]), (4, .row 29 (Enc.cells r10708.2.2.2.2.2.1)), (5, .row 57 (flD dPipe [7, 8, 9] r10708.2.2.2.2.2.2.1)), (6, .row 64 (fl r10708.2.2.2.2.2.2.2)), ((.s 7 0), .fam (famD dPipe 0 r10708.2.2.2.2.2.2.1)), ((.s 8 0), .fam (famD dPipe 1 r10708.2.2.2.2.2.2.1)), ((.s 9 0), .fam (famD dPipe 2 r10708.2.2.2.2.2.2.1))] 10 (by kernel_rfl) ?_
           exact hK10710 () _ _ _ trivial (leSt_m [(0, 0), (1, 1), (2, 2), (3, 3), (4, 4), (5, 5), (6, 6), ((.s 7 0), (.s 7 0)), ((.s 8 0), (.s 8 0)), ((.s 9 0), (.s 9 0))] [] (by (try simp only [g10711]) <;> simp only [push_cast, leL_flD, renL_flD, seval]) (by (try simp only [g10711]) <;> simp only [push_cast, leL_flD, renL_flD, seval]) rfl rfl rfl)
         ·dsimp only
          refine cond_sx h (by kernel_rfl) (fun g10720 h => ?_) (fun g10720 h => ?_)
          ·refine chk_sx h (fun g10715 h => ?_)
           refine seq_np ?_
           refine reg_f ?_
           have k10714 : 0 ≤ (IntKind.i64.wrap (i15 + 1)) ∧ (IntKind.i64.wrap (i15 + 1)) < ((c0q59.length : Nat) : Int) := by first | simpa only [Bool.and_eq_true, decide_eq_true_eq, bne_iff_ne, ne_eq] using g10715 | (simp at g10715 ⊢; omega)
           refine rs 4 [none, none, some ⟨.ptr 0 (0 + ((IntKind.i64.wrap (i15 + 1))).toNat * 1), [], 10, [0]⟩, some ⟨.any, [(0, .row 4 (fl (c0q59.set (IntKind.i64.wrap (i15 + 1)).toNat true)))], 10, [0]⟩] _ (by kernel_rfl) (allP_cons (ob_st (P := Try.prog) c0q59 (IntKind.i64.wrap (i15 + 1)) 1 0 (0 + ((IntKind.i64.wrap (i15 + 1))).toNat * 1) k10714 rfl [bS true] true (Nat.le_of_ble_eq_true rfl) (by first | rfl | omega) rfl 0 10 4 4 (by kernel_rfl) rfl) (allP_cons (ob_ix_o 0 c0q59.length 0 1 10 (IntKind.i64.wrap (i15 + 1)) k10714) allP_nil)) ?_
           refine run_eqF 7 (.own 0 0 c0q59.length) (.own 0 0 (c0q59.set (IntKind.i64.wrap (i15 + 1)).toNat true).length) (congrArg (fun nq => (.own 0 0 nq : SV)) (show c0q59.length = (c0q59.set (IntKind.i64.wrap (i15 + 1)).toNat true).length from (List.length_set ..).symm)) (by kernel_rfl) ?_
           refine rf [(1, .sl moves.length (fl moves)), (5, .sl xh73.length (fl xh73)), (7, .own 0 0 (c0q59.set (IntKind.i64.wrap (i15 + 1)).toNat true).length), (8, .own 1 0 c1q29.length), (9, iS i15), (10, iS (IntKind.i64.wrap (i15 + 1))), (11, .ptr 2 0), (12, .own 5 0 r10708.2.2.2.2.2.2.1.length), (13, .ptr 3 0), (14, .ptr 4 0)] [(0, .row 4 (fl (c0q59.set (IntKind.i64.wrap (i15 + 1)).toNat true))), (1, .row 23 (fl c1q29)), (2, .row 61 (Enc.cells (ix moves i15))), (3, .row 33 [bS r10708.1, bS r10708.2.1, bS r10708.2.2.1, iS r10708.2.2.2.1, iS r10708.2.2.2.2.1, .own 6 0 r10708.2.2.2.2.2.2.2.length]), (4, .row 29 (Enc.cells r10708.2.2.2.2.2.1)), (5, .row 57 (flD dPipe [7, 8, 9] r10708.2.2.2.2.2.2.1)), (6, .row 64 (fl r10708.2.2.2.2.2.2.2)), ((.s 7 0), .fam (famD dPipe 0 r10708.2.2.2.2.2.2.1)), ((.s 8 0), .fam (famD dPipe 1 r10708.2.2.2.2.2.2.1)), ((.s 9 0), .fam (famD dPipe 2 r10708.2.2.2.2.2.2.1))] 10 (by kernel_rfl) ?_
           refine wk_id ?_
           refine chk_sx h (fun g10719 h => ?_)
           refine reg_f ?_
           have k10718 : 0 ≤ (IntKind.i64.wrap (i15 + 1)) ∧ (IntKind.i64.wrap (i15 + 1)) < ((c1q29.length : Nat) : Int) := by first | simpa only [Bool.and_eq_true, decide_eq_true_eq, bne_iff_ne, ne_eq] using g10719 | (simp at g10719 ⊢; omega)
           refine rs 6 [none, none, none, none, some ⟨.ptr 1 (0 + ((IntKind.i64.wrap (i15 + 1))).toNat * 1), [], 10, [1]⟩, some ⟨.any, [(1, .row 23 (fl (c1q29.set (IntKind.i64.wrap (i15 + 1)).toNat (ix moves i15).Cases)))], 10, [1]⟩] _ (by kernel_rfl) (allP_cons (ob_st (P := Try.prog) c1q29 (IntKind.i64.wrap (i15 + 1)) 1 0 (0 + ((IntKind.i64.wrap (i15 + 1))).toNat * 1) k10718 rfl [.sl (ix moves i15).Cases.length (fl (ix moves i15).Cases)] (ix moves i15).Cases (Nat.le_of_ble_eq_true rfl) (by first | rfl | omega) rfl 1 10 23 23 (by kernel_rfl) rfl) (allP_cons (ob_ix_o 1 c1q29.length 0 1 10 (IntKind.i64.wrap (i15 + 1)) k10718) allP_nil)) ?_
           refine run_eqF 8 (.own 1 0 c1q29.length) (.own 1 0 (c1q29.set (IntKind.i64.wrap (i15 + 1)).toNat (ix moves i15).Cases).length) (congrArg (fun nq => (.own 1 0 nq : SV)) (show c1q29.length = (c1q29.set (IntKind.i64.wrap (i15 + 1)).toNat (ix moves i15).Cases).length from (List.length_set ..).symm)) (by kernel_rfl) ?_
           refine rf [(1, .sl moves.length (fl moves)), (5, .sl xh73.length (fl xh73)), (7, .own 0 0 (c0q59.set (IntKind.i64.wrap (i15 + 1)).toNat true).length), (8, .own 1 0 (c1q29.set (IntKind.i64.wrap (i15 + 1)).toNat (ix moves i15).Cases).length), (9, iS i15), (12, .own 5 0 r10708.2.2.2.2.2.2.1.length), (13, .ptr 3 0), (14, .ptr 4 0)] [(0, .row 4 (fl (c0q59.set (IntKind.i64.wrap (i15 + 1)).toNat true))), (1, .row 23 (fl (c1q29.set (IntKind.i64.wrap (i15 + 1)).toNat (ix moves i15).Cases))), (2, .row 61 (Enc.cells (ix moves i15))), (3, .row 33 [bS r10708.1, bS r10708.2.1, bS r10708.2.2.1, iS r10708.2.2.2.1, iS r10708.2.2.2.2.1, .own 6 0 r10708.2.2.2.2.2.2.2.length]), (4, .row 29 (Enc.cells r10708.2.2.2.2.2.1)), (5, .row 57 (flD dPipe [7, 8, 9] r10708.2.2.2.2.2.2.1)), (6, .row 64 (fl r10708.2.2.2.2.2.2.2)), ((.s 7 0), .fam (famD dPipe 0 r10708.2.2.2.2.2.2.1)), ((.s 8 0), .fam (famD dPipe 1 r10708.2.2.2.2.2.2.1)), ((.s 9 0), .fam (famD dPipe 2 r10708.2.2.2.2.2.2.1))] 10 (by kernel_rfl) ?_
           exact hK10704 ((c0q59.set (IntKind.i64.wrap (i15 + 1)).toNat true), (c1q29.set (IntKind.i64.wrap (i15 + 1)).toNat (ix moves i15).Cases), r10708.2.2.2.2.2.2.1, r10708.1, r10708.2.1, r10708.2.2.1, r10708.2.2.2.1, r10708.2.2.2.2.1, r10708.2.2.2.2.2.1, r10708.2.2.2.2.2.2.2) _ _ _ h (leSt_m [(0, 0), (1, 1), (2, 5), (3, 3), (4, 4), ((.s 5 0), (.s 7 0)), ((.s 6 0), (.s 8 0)), ((.s 7 0), (.s 9 0)), (8, 6)] [] (by simp only [push_cast, leL_flD, renL_flD, seval]) (by simp only [push_cast, leL_flD, renL_flD, seval]) rfl rfl rfl)
          ·exact hK10704 (c0q59, c1q29, r10708.2.2.2.2.2.2.1, r10708.1, r10708.2.1, r10708.2.2.1, r10708.2.2.2.1, r10708.2.2.2.2.1, r10708.2.2.2.2.2.1, r10708.2.2.2.2.2.2.2) _ _ _ h (leSt_m [(0, 0), (1, 1), (2, 5), (3, 3), (4, 4), ((.s 5 0), (.s 7 0)), ((.s 6 0), (.s 8 0)), ((.s 7 0), (.s 9 0)), (8, 6)] [] (by simp only [push_cast, leL_flD, renL_flD, seval]) (by simp only [push_cast, leL_flD, renL_flD, seval]) rfl rfl rfl)
       ·rintro ⟨c0q68, c1q34, c2q13, c3_Done13, c3_Panic13, c3_Ok13, c3_Value13, c3_Case13, c4q13, c8q13⟩ h
        try dsimp only at h ⊢
        unfold taskmilllaw_PickNobody_j4 at h
        refine seq_np ?_
        refine seq_np ?_
        refine reg_f ?_
        refine rs 3 [] [] (by kernel_rfl) allP_nil ?_
        refine rf [(1, .sl moves.length (fl moves)), (5, .sl xh73.length (fl xh73)), (7, .own 0 0 c0q68.length), (8, .own 1 0 c1q34.length), (9, iS i15), (12, .own 2 0 c2q13.length), (13, .ptr 3 0), (125, bS (c4q13.Code != 0))] [(0, .row 4 (fl c0q68)), (1, .row 23 (fl c1q34)), (2, .row 57 (flD dPipe [5, 6, 7] c2q13)), (3, .row 33 [bS c3_Done13, bS c3_Panic13, bS c3_Ok13, iS c3_Value13, iS c3_Case13, .own 8 0 c8q13.length]), (4, .row 29 (Enc.cells c4q13)), ((.s 5 0), .fam (famD dPipe 0 c2q13)), ((.s 6 0), .fam (famD dPipe 1 c2q13)), ((.s 7 0), .fam (famD dPipe 2 c2q13)), (8, .row 64 (fl c8q13))] 9 (by kernel_rfl) ?_
        refine wk_id ?_
        refine cond_sx h (by kernel_rfl) (fun g11323 h => ?_) (fun g11323 h => ?_)
        ·exact hK10689 (xh73, c0q68, c1q34) _ _ _ h (leSt_m [(0, 0), (1, 1)] [] (by simp only [push_cast, leL_flD, renL_flD, seval]) (by simp only [push_cast, leL_flD, renL_flD, seval]) rfl rfl rfl)
        ·refine wk_id ?_
         refine seq_np ?_
         refine seq_np ?_
         refine reg_f ?_
         refine rs 1 [] [] (by kernel_rfl) allP_nil ?_
         refine rf [(1, .sl moves.length (fl moves)), (7, .own 0 0 c0q68.length), (8, .own 1 0 c1q34.length), (9, iS i15), (12, .own 2 0 c2q13.length), (13, .ptr 3 0), (15, iS 0)] [(0, .row 4 (fl c0q68)), (1, .row 23 (fl c1q34)), (2, .row 57 (flD dPipe [5, 6, 7] c2q13)), (3, .row 33 [bS c3_Done13, bS c3_Panic13, bS c3_Ok13, iS c3_Value13, iS c3_Case13, .own 8 0 c8q13.length]), (4, .row 29 (Enc.cells c4q13)), ((.s 5 0), .fam (famD dPipe 0 c2q13)), ((.s 6 0), .fam (famD dPipe 1 c2q13)), ((.s 7 0), .fam (famD dPipe 2 c2q13)), (8, .row 64 (fl c8q13))] 9 (by kernel_rfl) ?_
         refine wk_id ?_
         refine block_np ?_
         refine loop_sx (S := Int × (List Bool)) (fun a => ([(1, .sl moves.length (fl moves)), (7, .own 0 0 a.2.length), (8, .own 1 0 c1q34.length), (9, iS i15), (12, .own 2 0 c2q13.length), (13, .ptr 3 0), (15, iS a.1)], [(0, .row 4 (fl a.2)), (1, .row 23 (fl c1q34)), (2, .row 57 (flD dPipe [4, 5, 6] c2q13)), (3, .row 33 [bS c3_Done13, bS c3_Panic13, bS c3_Ok13, iS c3_Value13, iS c3_Case13, .own 7 0 c8q13.length]), ((.s 4 0), .fam (famD dPipe 0 c2q13)), ((.s 5 0), .fam (famD dPipe 1 c2q13)), ((.s 6 0), .fam (famD dPipe 2 c2q13)), (7, .row 64 (fl c8q13))], 8)) h (leSt_m [(0, 0), (1, 1), (2, 2), (3, 3), ((.s 4 0), (.s 5 0)), ((.s 5 0), (.s 6 0)), ((.s 6 0), (.s 7 0)), (7, 8)] [] (by simp only [push_cast, leL_flD, renL_flD, seval]) (by simp only [push_cast, leL_flD, renL_flD, seval]) rfl rfl rfl) ?_
         rintro ⟨k109, c0q74⟩ o8 R8 h hr8 hn8 hx8 ht8
         try dsimp only at h hn8 ⊢
         unfold taskmilllaw_PickNobody_l3 at h
         try dsimp only at h
         refine seq_np ?_
         refine seq_np ?_
         refine reg_f ?_
         refine rs 5 [] [] (by kernel_rfl) allP_nil ?_
         refine rf [(1, .sl moves.length (fl moves)), (7, .own 0 0 c0q74.length), (8, .own 1 0 c1q34.length), (9, iS i15), (12, .own 2 0 c2q13.length), (13, .ptr 3 0), (15, iS k109), (130, bS (decide (k109 < ((c8q13.length : Nat) : Int))))] [(0, .row 4 (fl c0q74)), (1, .row 23 (fl c1q34)), (2, .row 57 (flD dPipe [4, 5, 6] c2q13)), (3, .row 33 [bS c3_Done13, bS c3_Panic13, bS c3_Ok13, iS c3_Value13, iS c3_Case13, .own 7 0 c8q13.length]), ((.s 4 0), .fam (famD dPipe 0 c2q13)), ((.s 5 0), .fam (famD dPipe 1 c2q13)), ((.s 6 0), .fam (famD dPipe 2 c2q13)), (7, .row 64 (fl c8q13))] 8 (by kernel_rfl) ?_
         refine wk_id ?_
         refine cond_sx h (by kernel_rfl) (fun g11322 h => ?_) (fun g11322 h => ?_)
         ·refine wk_id ?_
          refine seq_np ?_
          refine block_np ?_
          refine chk_sx h (fun g10828 h => ?_)
          refine seq_np ?_
          refine reg_f ?_
          have k10827 : 0 ≤ k109 ∧ k109 < ((c8q13.length : Nat) : Int) := by first | simpa only [Bool.and_eq_true, decide_eq_true_eq, bne_iff_ne, ne_eq] using g10828 | (simp at g10828 ⊢; omega)
          refine rs 7 [none, none, none, some ⟨.ptr 7 (0 + (k109).toNat * 5), [], 8, [7]⟩, none, some ⟨iS (ix c8q13 k109).Task, [], 8, [7]⟩] _ (by kernel_rfl) (allP_cons (ob_ld c8q13 k109 5 0 ((0 + (k109).toNat * 5) + 0) k10827 rfl (by decide) (by first | rfl | omega) (dflS Try.prog 3) (iS (ix c8q13 k109).Task) rfl 8 [7]) (allP_cons (ob_ix_o 7 c8q13.length 0 5 8 k109 k10827) allP_nil)) ?_
          refine rf [(1, .sl moves.length (fl moves)), (7, .own 0 0 c0q74.length), (8, .own 1 0 c1q34.length), (9, iS i15), (12, .own 2 0 c2q13.length), (13, .ptr 3 0), (15, iS k109), (16, iS (ix c8q13 k109).Task)] [(0, .row 4 (fl c0q74)), (1, .row 23 (fl c1q34)), (2, .row 57 (flD dPipe [4, 5, 6] c2q13)), (3, .row 33 [bS c3_Done13, bS c3_Panic13, bS c3_Ok13, iS c3_Value13, iS c3_Case13, .own 7 0 c8q13.length]), ((.s 4 0), .fam (famD dPipe 0 c2q13)), ((.s 5 0), .fam (famD dPipe 1 c2q13)), ((.s 6 0), .fam (famD dPipe 2 c2q13)), (7, .row 64 (fl c8q13))] 8 (by kernel_rfl) ?_
          refine wk_id ?_
          refine seq_np ?_
          refine chk_sx h (fun g10842 h => ?_)
          refine seq_cut (A := Unit) (fun _ => ([(1, .sl moves.length (fl moves)), (7, .own 0 0 c0q74.length), (8, .own 1 0 c1q34.length), (9, iS i15), (12, .own 2 0 c2q13.length), (13, .ptr 3 0), (15, iS k109), (16, iS (ix c8q13 k109).Task), (153, bS ((decide ((ix c8q13 k109).Task < 1)) || ((decide (((moves.length : Nat) : Int) < (ix c8q13 k109).Task)) || (!(ix c0q74 (ix c8q13 k109).Task)))))], [(0, .row 4 (fl c0q74)), (1, .row 23 (fl c1q34)), (2, .row 57 (flD dPipe [4, 5, 6] c2q13)), (3, .row 33 [bS c3_Done13, bS c3_Panic13, bS c3_Ok13, iS c3_Value13, iS c3_Case13, .own 7 0 c8q13.length]), ((.s 4 0), .fam (famD dPipe 0 c2q13)), ((.s 5 0), .fam (famD dPipe 1 c2q13)), ((.s 6 0), .fam (famD dPipe 2 c2q13)), (7, .row 64 (fl c8q13))], 8)) (fun _ => True) (fun K10838 hK10838 => ?_) (fun _ _ => ?_)
          ·refine reg_f ?_
           refine rs 3 [] [] (by kernel_rfl) allP_nil ?_
           refine run_split 141 (decide ((ix c8q13 k109).Task < 1)) (.inl (by kernel_rfl)) (fun g10839 => ?_) (fun g10839 => ?_)
           ·refine rs 12 [] [] (by kernel_rfl) allP_nil ?_
            refine rf [(1, .sl moves.length (fl moves)), (7, .own 0 0 c0q74.length), (8, .own 1 0 c1q34.length), (9, iS i15), (12, .own 2 0 c2q13.length), (13, .ptr 3 0), (15, iS k109), (16, iS (ix c8q13 k109).Task), (153, bS true)] [(0, .row 4 (fl c0q74)), (1, .row 23 (fl c1q34)), (2, .row 57 (flD dPipe [4, 5, 6] c2q13)), (3, .row 33 [bS c3_Done13, bS c3_Panic13, bS c3_Ok13, iS c3_Value13, iS c3_Case13, .own 7 0 c8q13.length]), ((.s 4 0), .fam (famD dPipe 0 c2q13)), ((.s 5 0), .fam (famD dPipe 1 c2q13)), ((.s 6 0), .fam (famD dPipe 2 c2q13)), (7, .row 64 (fl c8q13))] 8 (by kernel_rfl) ?_
            exact hK10838 () _ _ _ trivial (leSt_m [(0, 0), (1, 1), (2, 2), (3, 3), ((.s 4 0), (.s 4 0)), ((.s 5 0), (.s 5 0)), ((.s 6 0), (.s 6 0)), (7, 7)] [] (by (try simp only [g10839]) <;> simp only [push_cast, leL_flD, renL_flD, seval]) (by (try simp only [g10839]) <;> simp only [push_cast, leL_flD, renL_flD, seval]) rfl rfl rfl)
           ·refine rs 6 [] [] (by kernel_rfl) allP_nil ?_
            refine run_split 147 (decide (((moves.length : Nat) : Int) < (ix c8q13 k109).Task)) (.inl (by kernel_rfl)) (fun g10840 => ?_) (fun g10840 => ?_)
            ·refine rs 6 [] [] (by kernel_rfl) allP_nil ?_
             refine rf [(1, .sl moves.length (fl moves)), (7, .own 0 0 c0q74.length), (8, .own 1 0 c1q34.length), (9, iS i15), (12, .own 2 0 c2q13.length), (13, .ptr 3 0), (15, iS k109), (16, iS (ix c8q13 k109).Task), (153, bS true)] [(0, .row 4 (fl c0q74)), (1, .row 23 (fl c1q34)), (2, .row 57 (flD dPipe [4, 5, 6] c2q13)), (3, .row 33 [bS c3_Done13, bS c3_Panic13, bS c3_Ok13, iS c3_Value13, iS c3_Case13, .own 7 0 c8q13.length]), ((.s 4 0), .fam (famD dPipe 0 c2q13)), ((.s 5 0), .fam (famD dPipe 1 c2q13)), ((.s 6 0), .fam (famD dPipe 2 c2q13)), (7, .row 64 (fl c8q13))] 8 (by kernel_rfl) ?_
             exact hK10838 () _ _ _ trivial (leSt_m [(0, 0), (1, 1), (2, 2), (3, 3), ((.s 4 0), (.s 4 0)), ((.s 5 0), (.s 5 0)), ((.s 6 0), (.s 6 0)), (7, 7)] [] (by first | ((try simp only [g10839, g10840]) <;> simp only [push_cast, leL_flD, renL_flD, seval]; done) | ((try simp only [g10839]); (try simp only [g10840]); simp only [push_cast, leL_flD, renL_flD, seval]; done) | (exfalso; clear h; simp_all; done)) (by first | ((try simp only [g10839, g10840]) <;> simp only [push_cast, leL_flD, renL_flD, seval]; done) | ((try simp only [g10839]); (try simp only [g10840]); simp only [push_cast, leL_flD, renL_flD, seval]; done) | (exfalso; clear h; simp_all; done)) rfl rfl rfl)
            ·have k10841 : 0 ≤ (ix c8q13 k109).Task ∧ (ix c8q13 k109).Task < ((c0q74.length : Nat) : Int) := by have e := or_use g10842 (by first | ((try simp only [g10839, g10840]) <;> rfl) | ((try simp only [g10839]); (try simp only [g10840]); rfl) | (exfalso; clear h; simp_all; done)); first | simpa only [Bool.and_eq_true, decide_eq_true_eq, bne_iff_ne, ne_eq] using e | (simp at e ⊢; omega)
             refine rs 6 [none, none, some ⟨.ptr 0 (0 + ((ix c8q13 k109).Task).toNat * 1), [], 8, [0]⟩, some ⟨bS (ix c0q74 (ix c8q13 k109).Task), [], 8, [0]⟩] _ (by kernel_rfl) (allP_cons (ob_ld c0q74 (ix c8q13 k109).Task 1 0 (0 + ((ix c8q13 k109).Task).toNat * 1) k10841 rfl (by decide) (by first | rfl | omega) (dflS Try.prog 4) (bS (ix c0q74 (ix c8q13 k109).Task)) rfl 8 [0]) (allP_cons (ob_ix_o 0 c0q74.length 0 1 8 (ix c8q13 k109).Task k10841) allP_nil)) ?_
             refine rf [(1, .sl moves.length (fl moves)), (7, .own 0 0 c0q74.length), (8, .own 1 0 c1q34.length), (9, iS i15), (12, .own 2 0 c2q13.length), (13, .ptr 3 0), (15, iS k109), (16, iS (ix c8q13 k109).Task), (153, bS (!(ix c0q74 (ix c8q13 k109).Task)))] [(0, .row 4 (fl c0q74)), (1, .row 23 (fl c1q34)), (2, .row 57 (flD dPipe [4, 5, 6] c2q13)), (3, .row 33 [bS c3_Done13, bS c3_Panic13, bS c3_Ok13, iS c3_Value13, iS c3_Case13, .own 7 0 c8q13.length]), ((.s 4 0), .fam (famD dPipe 0 c2q13)), ((.s 5 0), .fam (famD dPipe 1 c2q13)), ((.s 6 0), .fam (famD dPipe 2 c2q13)), (7, .row 64 (fl c8q13))] 8 (by kernel_rfl) ?_
             exact hK10838 () _ _ _ trivial (leSt_m [(0, 0), (1, 1), (2, 2), (3, 3), ((.s 4 0), (.s 4 0)), ((.s 5 0), (.s 5 0)), ((.s 6 0), (.s 6 0)), (7, 7)] [] (by first | ((try simp only [g10839, g10840]) <;> simp only [push_cast, leL_flD, renL_flD, seval]; done) | ((try simp only [g10839]); (try simp only [g10840]); simp only [push_cast, leL_flD, renL_flD, seval]; done) | (exfalso; clear h; simp_all; done)) (by first | ((try simp only [g10839, g10840]) <;> simp only [push_cast, leL_flD, renL_flD, seval]; done) | ((try simp only [g10839]); (try simp only [g10840]); simp only [push_cast, leL_flD, renL_flD, seval]; done) | (exfalso; clear h; simp_all; done)) rfl rfl rfl)
          ·dsimp only
           refine cond_sx h (by kernel_rfl) (fun g10847 h => ?_) (fun g10847 h => ?_)
           ·refine seq_np ?_
            refine reg_f ?_
            refine rs 1 [] [] (by kernel_rfl) allP_nil ?_
            refine rf [(4, bS false)] [(0, .row 4 (fl c0q74)), (1, .row 23 (fl c1q34)), (2, .row 57 (flD dPipe [4, 5, 6] c2q13)), (3, .row 33 [bS c3_Done13, bS c3_Panic13, bS c3_Ok13, iS c3_Value13, iS c3_Case13, .own 7 0 c8q13.length]), ((.s 4 0), .fam (famD dPipe 0 c2q13)), ((.s 5 0), .fam (famD dPipe 1 c2q13)), ((.s 6 0), .fam (famD dPipe 2 c2q13)), (7, .row 64 (fl c8q13))] 8 (by kernel_rfl) ?_
            refine wk_id ?_
            refine rt_cast ht8 ?_
            obtain ⟨r0, h, e0⟩ := map_sx h
            have e1 := hr8 r0 e0.symm
            subst r0
            refine rt_cast ht7 ?_
            obtain ⟨r0, h, e0⟩ := map_sx h
            have e1 := hr7 r0 e0.symm
            subst r0
            obtain rfl := Option.some.inj h
            refine ret_at (bS false) (by kernel_rfl) ?_
            exact ret_e [] [] (by simp only [push_cast, leL_flD, renL_flD, seval]) (by simp only [push_cast, leL_flD, renL_flD, seval]) rfl rfl rfl
           ·refine wk_id ?_
            refine chk_sx h (fun g10846 h => ?_)
            refine reg_f ?_
            have k10845 : 0 ≤ (ix c8q13 k109).Task ∧ (ix c8q13 k109).Task < ((c0q74.length : Nat) : Int) := by first | simpa only [Bool.and_eq_true, decide_eq_true_eq, bne_iff_ne, ne_eq] using g10846 | (simp at g10846 ⊢; omega)
            refine rs 4 [none, none, some ⟨.ptr 0 (0 + ((ix c8q13 k109).Task).toNat * 1), [], 8, [0]⟩, some ⟨.any, [(0, .row 4 (fl (c0q74.set (ix c8q13 k109).Task.toNat false)))], 8, [0]⟩] _ (by kernel_rfl) (allP_cons (ob_st (P := Try.prog) c0q74 (ix c8q13 k109).Task 1 0 (0 + ((ix c8q13 k109).Task).toNat * 1) k10845 rfl [bS false] false (Nat.le_of_ble_eq_true rfl) (by first | rfl | omega) rfl 0 8 4 4 (by kernel_rfl) rfl) (allP_cons (ob_ix_o 0 c0q74.length 0 1 8 (ix c8q13 k109).Task k10845) allP_nil)) ?_
            refine run_eqF 7 (.own 0 0 c0q74.length) (.own 0 0 (c0q74.set (ix c8q13 k109).Task.toNat false).length) (congrArg (fun nq => (.own 0 0 nq : SV)) (show c0q74.length = (c0q74.set (ix c8q13 k109).Task.toNat false).length from (List.length_set ..).symm)) (by kernel_rfl) ?_
            refine rf [(1, .sl moves.length (fl moves)), (7, .own 0 0 (c0q74.set (ix c8q13 k109).Task.toNat false).length), (8, .own 1 0 c1q34.length), (9, iS i15), (12, .own 2 0 c2q13.length), (13, .ptr 3 0), (15, iS k109)] [(0, .row 4 (fl (c0q74.set (ix c8q13 k109).Task.toNat false))), (1, .row 23 (fl c1q34)), (2, .row 57 (flD dPipe [4, 5, 6] c2q13)), (3, .row 33 [bS c3_Done13, bS c3_Panic13, bS c3_Ok13, iS c3_Value13, iS c3_Case13, .own 7 0 c8q13.length]), ((.s 4 0), .fam (famD dPipe 0 c2q13)), ((.s 5 0), .fam (famD dPipe 1 c2q13)), ((.s 6 0), .fam (famD dPipe 2 c2q13)), (7, .row 64 (fl c8q13))] 8 (by kernel_rfl) ?_
            refine wk_id ?_
            refine wk_id ?_
            refine reg_f ?_
            refine rs 3 [] [] (by kernel_rfl) allP_nil ?_
            refine rf [(1, .sl moves.length (fl moves)), (7, .own 0 0 (c0q74.set (ix c8q13 k109).Task.toNat false).length), (8, .own 1 0 c1q34.length), (9, iS i15), (12, .own 2 0 c2q13.length), (13, .ptr 3 0), (15, iS (IntKind.i64.wrap (k109 + 1)))] [(0, .row 4 (fl (c0q74.set (ix c8q13 k109).Task.toNat false))), (1, .row 23 (fl c1q34)), (2, .row 57 (flD dPipe [4, 5, 6] c2q13)), (3, .row 33 [bS c3_Done13, bS c3_Panic13, bS c3_Ok13, iS c3_Value13, iS c3_Case13, .own 7 0 c8q13.length]), ((.s 4 0), .fam (famD dPipe 0 c2q13)), ((.s 5 0), .fam (famD dPipe 1 c2q13)), ((.s 6 0), .fam (famD dPipe 2 c2q13)), (7, .row 64 (fl c8q13))] 8 (by kernel_rfl) ?_
            exact hn8 ((IntKind.i64.wrap (k109 + 1)), (c0q74.set (ix c8q13 k109).Task.toNat false)) _ _ _ (Option.some.inj h).symm (leSt_m [(0, 0), (1, 1), (2, 2), (3, 3), ((.s 4 0), (.s 4 0)), ((.s 5 0), (.s 5 0)), ((.s 6 0), (.s 6 0)), (7, 7)] [] (by simp only [push_cast, leL_flD, renL_flD, seval]) (by simp only [push_cast, leL_flD, renL_flD, seval]) rfl rfl rfl)
         ·change R8 (.exit 4) _ _ _
          refine ex_cast hx8 (id := 4) ?_
          obtain ⟨r0, h, e0⟩ := map_sx h
          have e1 := hr8 r0 e0.symm
          subst r0
          refine wk_id ?_
          refine wk_id ?_
          refine seq_np ?_
          refine reg_f ?_
          refine rs 2 [] [] (by kernel_rfl) allP_nil ?_
          refine rf [(1, .sl moves.length (fl moves)), (5, .own 2 0 c2q13.length), (7, .own 0 0 c0q74.length), (8, .own 1 0 c1q34.length), (9, iS i15)] [(0, .row 4 (fl c0q74)), (1, .row 23 (fl c1q34)), (2, .row 57 (flD dPipe [4, 5, 6] c2q13)), (3, .row 33 [bS c3_Done13, bS c3_Panic13, bS c3_Ok13, iS c3_Value13, iS c3_Case13, .own 7 0 c8q13.length]), ((.s 4 0), .fam (famD dPipe 0 c2q13)), ((.s 5 0), .fam (famD dPipe 1 c2q13)), ((.s 6 0), .fam (famD dPipe 2 c2q13)), (7, .row 64 (fl c8q13))] 8 (by kernel_rfl) ?_
          refine wk_id ?_
          refine seq_np ?_
          refine seq_np ?_
          refine reg_f ?_
          refine rs 1 [] [] (by kernel_rfl) allP_nil ?_
          obtain ⟨r10851, hr10851, h⟩ := bind_sx h
          refine call_x (pick_Check_spec c2q13 r10851 hr10851) (args := [.own 2 0 c2q13.length]) (dst := (some 159)) (by kernel_rfl) [(0, .row 4 (fl c0q74)), (1, .row 23 (fl c1q34)), (2, .row 57 (flD dPipe [4, 5, 6] c2q13)), (3, .row 33 [bS c3_Done13, bS c3_Panic13, bS c3_Ok13, iS c3_Value13, iS c3_Case13, .own 7 0 c8q13.length]), ((.s 4 0), .fam (famD dPipe 0 c2q13)), ((.s 5 0), .fam (famD dPipe 1 c2q13)), ((.s 6 0), .fam (famD dPipe 2 c2q13)), (7, .row 64 (fl c8q13))] 8 (by kernel_rfl) [] [2, (.s 4 0), (.s 5 0), (.s 6 0)] (.agg (Enc.cells r10851)) [] (by simp only [↓leS_frzD dPipe [4, 5, 6] c2q13, leS_frz, leL_flD, renL_flD, push_cast, seval]) (by simp only [↓leS_frzD dPipe [4, 5, 6] c2q13, leS_frz, leL_flD, renL_flD, push_cast, seval]) (by kernel_rfl) (.inr ⟨by simp only [push_cast, leL_flD, renL_flD, seval], by simp only [push_cast, leL_flD, renL_flD, seval]⟩) (by simp only [push_cast, leL_flD, renL_flD, seval]) (by simp only [push_cast, leL_flD, renL_flD, seval]) ?_
          refine rs 2 [] [] (by kernel_rfl) allP_nil ?_
          refine rf [(1, .sl moves.length (fl moves)), (5, .own 2 0 c2q13.length), (7, .own 0 0 c0q74.length), (8, .own 1 0 c1q34.length), (9, iS i15), (161, bS (r10851.Code != 0))] [(0, .row 4 (fl c0q74)), (1, .row 23 (fl c1q34)), (2, .row 57 (flD dPipe [4, 5, 6] c2q13)), (3, .row 33 [bS c3_Done13, bS c3_Panic13, bS c3_Ok13, iS c3_Value13, iS c3_Case13, .own 7 0 c8q13.length]), ((.s 4 0), .fam (famD dPipe 0 c2q13)), ((.s 5 0), .fam (famD dPipe 1 c2q13)), ((.s 6 0), .fam (famD dPipe 2 c2q13)), (7, .row 64 (fl c8q13))] 8 (by kernel_rfl) ?_
          refine wk_id ?_
          refine cond_sx h (by kernel_rfl) (fun g11321 h => ?_) (fun g11321 h => ?_)
          ·refine seq_np ?_
           refine reg_f ?_
           refine rs 1 [] [] (by kernel_rfl) allP_nil ?_
           refine rf [(4, bS false)] [(0, .row 4 (fl c0q74)), (1, .row 23 (fl c1q34)), (2, .row 57 (flD dPipe [4, 5, 6] c2q13)), (3, .row 33 [bS c3_Done13, bS c3_Panic13, bS c3_Ok13, iS c3_Value13, iS c3_Case13, .own 7 0 c8q13.length]), ((.s 4 0), .fam (famD dPipe 0 c2q13)), ((.s 5 0), .fam (famD dPipe 1 c2q13)), ((.s 6 0), .fam (famD dPipe 2 c2q13)), (7, .row 64 (fl c8q13))] 8 (by kernel_rfl) ?_
           refine wk_id ?_
           refine rt_cast ht7 ?_
           obtain ⟨r0, h, e0⟩ := map_sx h
           have e1 := hr7 r0 e0.symm
           subst r0
           obtain rfl := Option.some.inj h
           refine ret_at (bS false) (by kernel_rfl) ?_
           exact ret_e [] [] (by simp only [push_cast, leL_flD, renL_flD, seval]) (by simp only [push_cast, leL_flD, renL_flD, seval]) rfl rfl rfl
          ·refine wk_id ?_
           refine seq_np ?_
           refine reg_f ?_
           refine rs 1 [] [] (by kernel_rfl) allP_nil ?_
           refine rf [(1, .sl moves.length (fl moves)), (5, .own 2 0 c2q13.length), (7, .own 0 0 c0q74.length), (8, .own 1 0 c1q34.length), (9, iS i15), (17, iS 1)] [(0, .row 4 (fl c0q74)), (1, .row 23 (fl c1q34)), (2, .row 57 (flD dPipe [4, 5, 6] c2q13)), (3, .row 33 [bS c3_Done13, bS c3_Panic13, bS c3_Ok13, iS c3_Value13, iS c3_Case13, .own 7 0 c8q13.length]), ((.s 4 0), .fam (famD dPipe 0 c2q13)), ((.s 5 0), .fam (famD dPipe 1 c2q13)), ((.s 6 0), .fam (famD dPipe 2 c2q13)), (7, .row 64 (fl c8q13))] 8 (by kernel_rfl) ?_
           refine wk_id ?_
           refine block_np ?_
           refine loop_sx (S := (List Pipe) × Int) (fun a => ([(1, .sl moves.length (fl moves)), (5, .sl a.1.length (fl a.1)), (7, .own 0 0 c0q74.length), (8, .own 1 0 c1q34.length), (9, iS i15), (17, iS a.2)], [(0, .row 4 (fl c0q74)), (1, .row 23 (fl c1q34))], 2)) h (leSt_m [(0, 0), (1, 1)] [2, (.s 4 0), (.s 5 0), (.s 6 0)] (by simp only [↓leS_frzD dPipe [4, 5, 6] c2q13, leS_frz, leS_cut, leL_flD, renL_flD, push_cast, seval]) (by simp only [↓leS_frzD dPipe [4, 5, 6] c2q13, leS_frz, leS_cut, leL_flD, renL_flD, push_cast, seval]) rfl rfl rfl) ?_
           rintro ⟨xh90, t27⟩ o9 R9 h hr9 hn9 hx9 ht9
           try dsimp only at h hn9 ⊢
           unfold taskmilllaw_PickNobody_l2 at h
           try dsimp only at h
           refine seq_np ?_
           refine seq_np ?_
           refine reg_f ?_
           refine rs 4 [] [] (by kernel_rfl) allP_nil ?_
           refine rf [(1, .sl moves.length (fl moves)), (5, .sl xh90.length (fl xh90)), (7, .own 0 0 c0q74.length), (8, .own 1 0 c1q34.length), (9, iS i15), (17, iS t27), (165, bS (decide (t27 ≤ ((moves.length : Nat) : Int))))] [(0, .row 4 (fl c0q74)), (1, .row 23 (fl c1q34))] 2 (by kernel_rfl) ?_
           refine wk_id ?_
           refine cond_sx h (by kernel_rfl) (fun g11320 h => ?_) (fun g11320 h => ?_)
           ·refine wk_id ?_
            refine seq_np ?_
            refine block_np ?_
            refine seq_np ?_
            refine chk_sx h (fun g11142 h => ?_)
            refine seq_cut (A := Bool) (fun a => ([(1, .sl moves.length (fl moves)), (5, .sl xh90.length (fl xh90)), (7, .own 0 0 c0q74.length), (8, .own 1 0 c1q34.length), (9, iS i15), (17, iS t27), (177, bS a)], [(0, .row 4 (fl c0q74)), (1, .row 23 (fl c1q34))], 2)) (fun a => (taskmilllaw_PickNobody_j3 moves i15 c1q34 c0q74 xh90 t27 a) = some o9) (fun K11140 hK11140 => ?_) ?_
            ·refine reg_f ?_
             have k11141 : 0 ≤ t27 ∧ t27 < ((c0q74.length : Nat) : Int) := by first | simpa only [Bool.and_eq_true, decide_eq_true_eq, bne_iff_ne, ne_eq] using g11142 | (simp at g11142 ⊢; omega)
             refine rs 6 [none, none, some ⟨.ptr 0 (0 + (t27).toNat * 1), [], 2, [0]⟩, some ⟨bS (ix c0q74 t27), [], 2, [0]⟩] _ (by kernel_rfl) (allP_cons (ob_ld c0q74 t27 1 0 (0 + (t27).toNat * 1) k11141 rfl (by decide) (by first | rfl | omega) (dflS Try.prog 4) (bS (ix c0q74 t27)) rfl 2 [0]) (allP_cons (ob_ix_o 0 c0q74.length 0 1 2 t27 k11141) allP_nil)) ?_
             refine run_br h 173 (.inl (by kernel_rfl)) (fun g11143 h => ?_) (fun g11143 h => ?_)
             ·refine rs 2 [] [] (by kernel_rfl) allP_nil ?_
              obtain ⟨r11144, hr11144, h⟩ := bind_sx h
              refine run_call 27 [.sl xh90.length (fl xh90), iS t27] (some 176) (by kernel_rfl) ?_
              refine call_0 (taskmillref_WaitsIn_spec xh90 t27 r11144 hr11144) (by simp only [push_cast, leL_flD, renL_flD, seval]) (by simp only [push_cast, leL_flD, renL_flD, seval]) ?_
              refine back_f ?_
              refine rs 1 [] [] (by kernel_rfl) allP_nil ?_
              refine rf [(1, .sl moves.length (fl moves)), (5, .sl xh90.length (fl xh90)), (7, .own 0 0 c0q74.length), (8, .own 1 0 c1q34.length), (9, iS i15), (17, iS t27), (177, bS r11144)] [(0, .row 4 (fl c0q74)), (1, .row 23 (fl c1q34))] 2 (by kernel_rfl) ?_
              exact hK11140 (r11144) _ _ _ h (leSt_m [(0, 0), (1, 1)] [] (by (try simp only [g11143]) <;> simp only [push_cast, leL_flD, renL_flD, seval]) (by (try simp only [g11143]) <;> simp only [push_cast, leL_flD, renL_flD, seval]) rfl rfl rfl)
             ·refine rs 4 [] [] (by kernel_rfl) allP_nil ?_
              refine rf [(1, .sl moves.length (fl moves)), (5, .sl xh90.length (fl xh90)), (7, .own 0 0 c0q74.length), (8, .own 1 0 c1q34.length), (9, iS i15), (17, iS t27), (177, bS false)] [(0, .row 4 (fl c0q74)), (1, .row 23 (fl c1q34))] 2 (by kernel_rfl) ?_
              exact hK11140 (false) _ _ _ h (leSt_m [(0, 0), (1, 1)] [] (by (try simp only [g11143]) <;> simp only [push_cast, leL_flD, renL_flD, seval]) (by (try simp only [g11143]) <;> simp only [push_cast, leL_flD, renL_flD, seval]) rfl rfl rfl)
            ·rintro t177q44 h
             try dsimp only at h ⊢
             unfold taskmilllaw_PickNobody_j3 at h
             refine cond_sx h (by kernel_rfl) (fun g11319 h => ?_) (fun g11319 h => ?_)
             ·refine seq_np ?_
              refine reg_f ?_
              refine rs 1 [] [] (by kernel_rfl) allP_nil ?_
              refine rf [(4, bS false)] [(0, .row 4 (fl c0q74)), (1, .row 23 (fl c1q34))] 2 (by kernel_rfl) ?_
              refine wk_id ?_
              refine rt_cast ht9 ?_
              obtain ⟨r0, h, e0⟩ := map_sx h
              have e1 := hr9 r0 e0.symm
              subst r0
              refine rt_cast ht7 ?_
              obtain ⟨r0, h, e0⟩ := map_sx h
              have e1 := hr7 r0 e0.symm
              subst r0
              obtain rfl := Option.some.inj h
              refine ret_at (bS false) (by kernel_rfl) ?_
              exact ret_e [] [] (by simp only [push_cast, leL_flD, renL_flD, seval]) (by simp only [push_cast, leL_flD, renL_flD, seval]) rfl rfl rfl
             ·refine wk_id ?_
              refine seq_np ?_
              refine reg_f ?_
              refine rs 1 [] [] (by kernel_rfl) allP_nil ?_
              refine rf [(1, .sl moves.length (fl moves)), (5, .sl xh90.length (fl xh90)), (7, .own 0 0 c0q74.length), (8, .own 1 0 c1q34.length), (9, iS i15), (17, iS t27), (18, iS 0)] [(0, .row 4 (fl c0q74)), (1, .row 23 (fl c1q34))] 2 (by kernel_rfl) ?_
              refine wk_id ?_
              refine block_np ?_
              refine loop_sx (S := Int) (fun a => ([(1, .sl moves.length (fl moves)), (5, .sl xh90.length (fl xh90)), (7, .own 0 0 c0q74.length), (8, .own 1 0 c1q34.length), (9, iS i15), (17, iS t27), (18, iS a)], [(0, .row 4 (fl c0q74)), (1, .row 23 (fl c1q34))], 2)) h (leSt_m [(0, 0), (1, 1)] [] (by simp only [push_cast, leL_flD, renL_flD, seval]) (by simp only [push_cast, leL_flD, renL_flD, seval]) rfl rfl rfl) ?_
              rintro k121 o10 R10 h hr10 hn10 hx10 ht10
              try dsimp only at h hn10 ⊢
              unfold taskmilllaw_PickNobody_l1 at h
              try dsimp only at h
              refine seq_np ?_
              refine chk_sx h (fun g11260 h => ?_)
              refine chk_sx h (fun g11263 h => ?_)
              refine seq_cut (A := Unit) (fun _ => ([(1, .sl moves.length (fl moves)), (5, .sl xh90.length (fl xh90)), (7, .own 0 0 c0q74.length), (8, .own 1 0 c1q34.length), (9, iS i15), (17, iS t27), (18, iS k121), (190, bS ((decide (k121 < (((ix c1q34 t27).length : Nat) : Int))) && (ix c0q74 t27)))], [(0, .row 4 (fl c0q74)), (1, .row 23 (fl c1q34))], 2)) (fun _ => True) (fun K11258 hK11258 => ?_) (fun _ _ => ?_)
              ·refine reg_f ?_
               have k11259 : 0 ≤ t27 ∧ t27 < ((c1q34.length : Nat) : Int) := by first | simpa only [Bool.and_eq_true, decide_eq_true_eq, bne_iff_ne, ne_eq] using g11260 | (simp at g11260 ⊢; omega)
               refine rs 8 [none, none, none, some ⟨.ptr 1 (0 + (t27).toNat * 1), [], 2, [1]⟩, some ⟨.sl (ix c1q34 t27).length (fl (ix c1q34 t27)), [], 2, [1]⟩] _ (by kernel_rfl) (allP_cons (ob_ld c1q34 t27 1 0 (0 + (t27).toNat * 1) k11259 rfl (by decide) (by first | rfl | omega) (dflS Try.prog 23) (.sl (ix c1q34 t27).length (fl (ix c1q34 t27))) rfl 2 [1]) (allP_cons (ob_ix_o 1 c1q34.length 0 1 2 t27 k11259) allP_nil)) ?_
               refine run_split 185 (decide (k121 < (((ix c1q34 t27).length : Nat) : Int))) (.inl (by kernel_rfl)) (fun g11261 => ?_) (fun g11261 => ?_)
               ·have k11262 : 0 ≤ t27 ∧ t27 < ((c0q74.length : Nat) : Int) := by have e := or_use g11263 (by first | ((try simp only [g11261]) <;> rfl) | ((try simp only [g11261]); rfl) | (exfalso; clear h; simp_all; done)); first | simpa only [Bool.and_eq_true, decide_eq_true_eq, bne_iff_ne, ne_eq] using e | (simp at e ⊢; omega)
                refine rs 5 [none, none, some ⟨.ptr 0 (0 + (t27).toNat * 1), [], 2, [0]⟩, some ⟨bS (ix c0q74 t27), [], 2, [0]⟩] _ (by kernel_rfl) (allP_cons (ob_ld c0q74 t27 1 0 (0 + (t27).toNat * 1) k11262 rfl (by decide) (by first | rfl | omega) (dflS Try.prog 4) (bS (ix c0q74 t27)) rfl 2 [0]) (allP_cons (ob_ix_o 0 c0q74.length 0 1 2 t27 k11262) allP_nil)) ?_
                refine rf [(1, .sl moves.length (fl moves)), (5, .sl xh90.length (fl xh90)), (7, .own 0 0 c0q74.length), (8, .own 1 0 c1q34.length), (9, iS i15), (17, iS t27), (18, iS k121), (190, bS (ix c0q74 t27))] [(0, .row 4 (fl c0q74)), (1, .row 23 (fl c1q34))] 2 (by kernel_rfl) ?_
                exact hK11258 () _ _ _ trivial (leSt_m [(0, 0), (1, 1)] [] (by (try simp only [g11261]) <;> simp only [push_cast, leL_flD, renL_flD, seval]) (by (try simp only [g11261]) <;> simp only [push_cast, leL_flD, renL_flD, seval]) rfl rfl rfl)
               ·refine rs 5 [] [] (by kernel_rfl) allP_nil ?_
                refine rf [(1, .sl moves.length (fl moves)), (5, .sl xh90.length (fl xh90)), (7, .own 0 0 c0q74.length), (8, .own 1 0 c1q34.length), (9, iS i15), (17, iS t27), (18, iS k121), (190, bS false)] [(0, .row 4 (fl c0q74)), (1, .row 23 (fl c1q34))] 2 (by kernel_rfl) ?_
                exact hK11258 () _ _ _ trivial (leSt_m [(0, 0), (1, 1)] [] (by (try simp only [g11261]) <;> simp only [push_cast, leL_flD, renL_flD, seval]) (by (try simp only [g11261]) <;> simp only [push_cast, leL_flD, renL_flD, seval]) rfl rfl rfl)
              ·dsimp only
               refine cond_sx h (by kernel_rfl) (fun g11318 h => ?_) (fun g11318 h => ?_)
               ·refine wk_id ?_
                refine seq_np ?_
                refine block_cut (A := Unit) (fun a => ([(1, .sl moves.length (fl moves)), (5, .sl xh90.length (fl xh90)), (7, .own 0 0 c0q74.length), (8, .own 1 0 c1q34.length), (9, iS i15), (17, iS t27), (18, iS k121)], [(0, .row 4 (fl c0q74)), (1, .row 23 (fl c1q34))], 2)) (fun a => (taskmilllaw_PickNobody_j2 moves i15 c1q34 c0q74 xh90 t27 k121) = some o10) (fun K11291 hK11291 => ?_) ?_
                ·refine chk_sx h (fun g11297 h => ?_)
                 refine chk_sx h (fun g11299 h => ?_)
                 refine seq_np ?_
                 refine reg_f ?_
                 have k11296 : 0 ≤ t27 ∧ t27 < ((c1q34.length : Nat) : Int) := by first | simpa only [Bool.and_eq_true, decide_eq_true_eq, bne_iff_ne, ne_eq] using g11297 | (simp at g11297 ⊢; omega)
                 have k11298 : 0 ≤ k121 ∧ k121 < (((ix c1q34 t27).length : Nat) : Int) := by first | simpa only [Bool.and_eq_true, decide_eq_true_eq, bne_iff_ne, ne_eq] using g11299 | (simp at g11299 ⊢; omega)
                 refine rs 9 [none, none, some ⟨.ptr 1 (0 + (t27).toNat * 1), [], 2, [1]⟩, some ⟨.sl (ix c1q34 t27).length (fl (ix c1q34 t27)), [], 2, [1]⟩, none, some ⟨.iptr (fl (ix c1q34 t27)) ((k121).toNat * 3), [], 2, []⟩, some ⟨.agg (Enc.cells (ix (ix c1q34 t27) k121)), [], 2, []⟩] _ (by kernel_rfl) (allP_cons (ob_ldw (ix c1q34 t27) k121 3 ((k121).toNat * 3) k11298 rfl (by first | rfl | omega) [iS (ix (ix c1q34 t27) k121).Pipe, bS (ix (ix c1q34 t27) k121).Send, iS (ix (ix c1q34 t27) k121).Value] rfl 2 []) (allP_cons (ob_ix_l (ix c1q34 t27) 3 2 k121 k11298) (allP_cons (ob_ld c1q34 t27 1 0 (0 + (t27).toNat * 1) k11296 rfl (by decide) (by first | rfl | omega) (dflS Try.prog 23) (.sl (ix c1q34 t27).length (fl (ix c1q34 t27))) rfl 2 [1]) (allP_cons (ob_ix_o 1 c1q34.length 0 1 2 t27 k11296) allP_nil)))) ?_
                 refine rf [(1, .sl moves.length (fl moves)), (5, .sl xh90.length (fl xh90)), (7, .own 0 0 c0q74.length), (8, .own 1 0 c1q34.length), (9, iS i15), (17, iS t27), (18, iS k121), (19, .ptr 2 0)] [(0, .row 4 (fl c0q74)), (1, .row 23 (fl c1q34)), (2, .row 49 (Enc.cells (ix (ix c1q34 t27) k121)))] 3 (by kernel_rfl) ?_
                 refine wk_id ?_
                 refine seq_np ?_
                 refine seq_np ?_
                 refine reg_f ?_
                 refine rs 3 [] [] (by kernel_rfl) allP_nil ?_
                 refine rf [(1, .sl moves.length (fl moves)), (5, .sl xh90.length (fl xh90)), (7, .own 0 0 c0q74.length), (8, .own 1 0 c1q34.length), (9, iS i15), (17, iS t27), (18, iS k121), (19, .ptr 2 0), (202, bS (decide ((ix (ix c1q34 t27) k121).Pipe < 0)))] [(0, .row 4 (fl c0q74)), (1, .row 23 (fl c1q34)), (2, .row 49 (Enc.cells (ix (ix c1q34 t27) k121)))] 3 (by kernel_rfl) ?_
                 refine wk_id ?_
                 refine cond_sx h (by kernel_rfl) (fun g11317 h => ?_) (fun g11317 h => ?_)
                 ·exact hK11291 () _ _ _ h (leSt_m [(0, 0), (1, 1)] [] (by simp only [push_cast, leL_flD, renL_flD, seval]) (by simp only [push_cast, leL_flD, renL_flD, seval]) rfl rfl rfl)
                 ·refine wk_id ?_
                  refine seq_np ?_
                  refine chk_sx h (fun g11309 h => ?_)
                  refine seq_np ?_
                  refine reg_f ?_
                  have k11308 : 0 ≤ (ix (ix c1q34 t27) k121).Pipe ∧ (ix (ix c1q34 t27) k121).Pipe < ((xh90.length : Nat) : Int) := by first | simpa only [Bool.and_eq_true, decide_eq_true_eq, bne_iff_ne, ne_eq] using g11309 | (simp at g11309 ⊢; omega)
                  refine rs 6 [none, none, none, some ⟨.iptr (fl xh90) (((ix (ix c1q34 t27) k121).Pipe).toNat * 5), [], 3, []⟩, some ⟨.agg (Enc.cells (ix xh90 (ix (ix c1q34 t27) k121).Pipe)), [], 3, []⟩] _ (by kernel_rfl) (allP_cons (ob_ldw xh90 (ix (ix c1q34 t27) k121).Pipe 5 (((ix (ix c1q34 t27) k121).Pipe).toNat * 5) k11308 rfl (by first | rfl | omega) [iS (ix xh90 (ix (ix c1q34 t27) k121).Pipe).Cap, .sl (ix xh90 (ix (ix c1q34 t27) k121).Pipe).Items.length (fl (ix xh90 (ix (ix c1q34 t27) k121).Pipe).Items), bS (ix xh90 (ix (ix c1q34 t27) k121).Pipe).Closed, .sl (ix xh90 (ix (ix c1q34 t27) k121).Pipe).Senders.length (fl (ix xh90 (ix (ix c1q34 t27) k121).Pipe).Senders), .sl (ix xh90 (ix (ix c1q34 t27) k121).Pipe).Getters.length (fl (ix xh90 (ix (ix c1q34 t27) k121).Pipe).Getters)] rfl 3 []) (allP_cons (ob_ix_l xh90 5 3 (ix (ix c1q34 t27) k121).Pipe k11308) allP_nil)) ?_
                  obtain ⟨r11310, hr11310, h⟩ := bind_sx h
                  refine run_call 28 [.agg (Enc.cells (ix xh90 (ix (ix c1q34 t27) k121).Pipe)), iS t27] (some 209) (by kernel_rfl) ?_
                  refine call_0 (taskmillref_WaitsAt_spec (ix xh90 (ix (ix c1q34 t27) k121).Pipe) t27 r11310 hr11310) (by simp only [push_cast, leL_flD, renL_flD, seval]) (by simp only [push_cast, leL_flD, renL_flD, seval]) ?_
                  refine back_f ?_
                  refine rs 1 [] [] (by kernel_rfl) allP_nil ?_
                  refine rf [(1, .sl moves.length (fl moves)), (5, .sl xh90.length (fl xh90)), (7, .own 0 0 c0q74.length), (8, .own 1 0 c1q34.length), (9, iS i15), (17, iS t27), (18, iS k121), (19, .ptr 2 0), (210, bS (!r11310))] [(0, .row 4 (fl c0q74)), (1, .row 23 (fl c1q34)), (2, .row 49 (Enc.cells (ix (ix c1q34 t27) k121)))] 3 (by kernel_rfl) ?_
                  refine wk_id ?_
                  refine cond_sx h (by kernel_rfl) (fun g11316 h => ?_) (fun g11316 h => ?_)
                  ·refine seq_np ?_
                   refine reg_f ?_
                   refine rs 1 [] [] (by kernel_rfl) allP_nil ?_
                   refine rf [(4, bS false)] [(0, .row 4 (fl c0q74)), (1, .row 23 (fl c1q34)), (2, .row 49 (Enc.cells (ix (ix c1q34 t27) k121)))] 3 (by kernel_rfl) ?_
                   refine wk_id ?_
                   refine rt_cast ht10 ?_
                   obtain ⟨r0, h, e0⟩ := map_sx h
                   have e1 := hr10 r0 e0.symm
                   subst r0
                   refine rt_cast ht9 ?_
                   obtain ⟨r0, h, e0⟩ := map_sx h
                   have e1 := hr9 r0 e0.symm
                   subst r0
                   refine rt_cast ht7 ?_
                   obtain ⟨r0, h, e0⟩ := map_sx h
                   have e1 := hr7 r0 e0.symm
                   subst r0
                   obtain rfl := Option.some.inj h
                   refine ret_at (bS false) (by kernel_rfl) ?_
                   exact ret_e [] [] (by simp only [push_cast, leL_flD, renL_flD, seval]) (by simp only [push_cast, leL_flD, renL_flD, seval]) rfl rfl rfl
                  ·refine wk_id ?_
                   refine seq_np ?_
                   refine reg_f ?_
                   refine rs 4 [] [] (by kernel_rfl) allP_nil ?_
                   obtain ⟨r11312, hr11312, h⟩ := bind_sx h
                   refine call_x (SpecW.give (taskmillref_AllGone_spec xh90 ([(GWake.mk t27 0 0 false false)] : List GWake) r11312 hr11312) [(0, .row 64 (fl ([(GWake.mk t27 0 0 false false)] : List GWake)))] [.sl xh90.length (fl xh90), .own 0 0 ([(GWake.mk t27 0 0 false false)] : List GWake).length] [] (.own 1 0 r11312.length) [(1, .row 57 (fl r11312))] (by first | simp only [push_cast, leL_flD, renL_flD, seval] | simp only [push_cast, List.mem_singleton, true_and, and_true, leL_flD, renL_flD, seval]) (by simp only [push_cast, leL_flD, renL_flD, seval]) (by simp only [push_cast, leL_flD, renL_flD, seval]) (by simp only [push_cast, leL_flD, renL_flD, seval]) rfl (by simp only [push_cast, leL_flD, renL_flD, seval]) (by simp only [push_cast, leL_flD, renL_flD, seval]) rfl) (args := [.sl xh90.length (fl xh90), .own 3 0 ([(GWake.mk t27 0 0 false false)] : List GWake).length]) (dst := (some 215)) (by kernel_rfl) [(0, .row 4 (fl c0q74)), (1, .row 23 (fl c1q34)), (2, .row 49 (Enc.cells (ix (ix c1q34 t27) k121))), (3, .row 64 (fl ([(GWake.mk t27 0 0 false false)] : List GWake)))] 4 (by kernel_rfl) [(0, 3)] [] (.own 5 0 r11312.length) [(5, .row 57 (fl r11312)), (3, .dead)] (by simp only [push_cast, leL_flD, renL_flD, seval]) (by simp only [push_cast, leL_flD, renL_flD, seval]) (by kernel_rfl) (.inl rfl) (by simp only [push_cast, leL_flD, renL_flD, seval]) (by simp only [push_cast, leL_flD, renL_flD, seval]) ?_
                   refine rs 1 [] [] (by kernel_rfl) allP_nil ?_
                   refine rf [(1, .sl moves.length (fl moves)), (5, .sl xh90.length (fl xh90)), (7, .own 0 0 c0q74.length), (8, .own 1 0 c1q34.length), (9, iS i15), (17, iS t27), (18, iS k121), (19, .ptr 2 0), (20, .own 5 0 r11312.length)] [(0, .row 4 (fl c0q74)), (1, .row 23 (fl c1q34)), (2, .row 49 (Enc.cells (ix (ix c1q34 t27) k121))), (3, .dead), (5, .row 57 (fl r11312))] 6 (by kernel_rfl) ?_
                   refine wk_id ?_
                   refine seq_np ?_
                   refine reg_f ?_
                   refine rs 4 [] [] (by kernel_rfl) allP_nil ?_
                   obtain ⟨r11314, hr11314, h⟩ := bind_sx h
                   refine call_x (SpecW.give (taskmillref_Chosen_spec r11312 t27 k121 (ix (ix c1q34 t27) k121) r11314 hr11314) [(0, .row 57 (fl r11312))] [.own 0 0 r11312.length, iS t27, iS k121, .agg (Enc.cells (ix (ix c1q34 t27) k121))] [] (.tup [.sl r11314.1.length (fl r11314.1), .agg [bS r11314.2.1, bS r11314.2.2.1, bS r11314.2.2.2.1, iS r11314.2.2.2.2.1, iS r11314.2.2.2.2.2.1, .sl r11314.2.2.2.2.2.2.length (fl r11314.2.2.2.2.2.2)]]) [] (by first | simp only [push_cast, leL_flD, renL_flD, seval] | simp only [push_cast, List.mem_singleton, true_and, and_true, leL_flD, renL_flD, seval]) (by simp only [push_cast, leL_flD, renL_flD, seval]) (by simp only [push_cast, leL_flD, renL_flD, seval]) (by simp only [push_cast, leL_flD, renL_flD, seval]) rfl (by simp only [push_cast, leL_flD, renL_flD, seval]) (by simp only [push_cast, leL_flD, renL_flD, seval]) rfl) (args := [.own 5 0 r11312.length, iS t27, iS k121, .agg (Enc.cells (ix (ix c1q34 t27) k121))]) (dst := (some 221)) (by kernel_rfl) [(0, .row 4 (fl c0q74)), (1, .row 23 (fl c1q34)), (2, .row 49 (Enc.cells (ix (ix c1q34 t27) k121))), (3, .dead), (5, .row 57 (fl r11312))] 6 (by kernel_rfl) [(0, 5)] [] (.tup [.sl r11314.1.length (fl r11314.1), .agg [bS r11314.2.1, bS r11314.2.2.1, bS r11314.2.2.2.1, iS r11314.2.2.2.2.1, iS r11314.2.2.2.2.2.1, .sl r11314.2.2.2.2.2.2.length (fl r11314.2.2.2.2.2.2)]]) [(5, .dead)] (by simp only [push_cast, leL_flD, renL_flD, seval]) (by simp only [push_cast, leL_flD, renL_flD, seval]) (by kernel_rfl) (.inl rfl) (by simp only [push_cast, leL_flD, renL_flD, seval]) (by simp only [push_cast, leL_flD, renL_flD, seval]) ?_
                   refine rs 6 [] [] (by kernel_rfl) allP_nil ?_
                   refine rf [(1, .sl moves.length (fl moves)), (5, .sl xh90.length (fl xh90)), (7, .own 0 0 c0q74.length), (8, .own 1 0 c1q34.length), (9, iS i15), (17, iS t27), (18, iS k121), (22, .ptr 7 0)] [(0, .row 4 (fl c0q74)), (1, .row 23 (fl c1q34)), (2, .row 49 (Enc.cells (ix (ix c1q34 t27) k121))), (3, .dead), (5, .dead), (7, .row 33 [bS r11314.2.1, bS r11314.2.2.1, bS r11314.2.2.2.1, iS r11314.2.2.2.2.1, iS r11314.2.2.2.2.2.1, .sl r11314.2.2.2.2.2.2.length (fl r11314.2.2.2.2.2.2)])] 8 (by kernel_rfl) ?_
                   refine wk_id ?_
                   refine seq_np ?_
                   refine reg_f ?_
                   refine rs 2 [] [] (by kernel_rfl) allP_nil ?_
                   refine rf [(1, .sl moves.length (fl moves)), (5, .sl xh90.length (fl xh90)), (7, .own 0 0 c0q74.length), (8, .own 1 0 c1q34.length), (9, iS i15), (17, iS t27), (18, iS k121), (225, bS r11314.2.1)] [(0, .row 4 (fl c0q74)), (1, .row 23 (fl c1q34)), (2, .row 49 (Enc.cells (ix (ix c1q34 t27) k121))), (3, .dead), (5, .dead), (7, .row 33 [bS r11314.2.1, bS r11314.2.2.1, bS r11314.2.2.2.1, iS r11314.2.2.2.2.1, iS r11314.2.2.2.2.2.1, .sl r11314.2.2.2.2.2.2.length (fl r11314.2.2.2.2.2.2)])] 8 (by kernel_rfl) ?_
                   refine wk_id ?_
                   refine cond_sx h (by kernel_rfl) (fun g11315 h => ?_) (fun g11315 h => ?_)
                   ·refine seq_np ?_
                    refine reg_f ?_
                    refine rs 1 [] [] (by kernel_rfl) allP_nil ?_
                    refine rf [(4, bS false)] [(0, .row 4 (fl c0q74)), (1, .row 23 (fl c1q34)), (2, .row 49 (Enc.cells (ix (ix c1q34 t27) k121))), (3, .dead), (5, .dead), (7, .row 33 [bS r11314.2.1, bS r11314.2.2.1, bS r11314.2.2.2.1, iS r11314.2.2.2.2.1, iS r11314.2.2.2.2.2.1, .sl r11314.2.2.2.2.2.2.length (fl r11314.2.2.2.2.2.2)])] 8 (by kernel_rfl) ?_
                    refine wk_id ?_
                    refine rt_cast ht10 ?_
                    obtain ⟨r0, h, e0⟩ := map_sx h
                    have e1 := hr10 r0 e0.symm
                    subst r0
                    refine rt_cast ht9 ?_
                    obtain ⟨r0, h, e0⟩ := map_sx h
                    have e1 := hr9 r0 e0.symm
                    subst r0
                    refine rt_cast ht7 ?_
                    obtain ⟨r0, h, e0⟩ := map_sx h
                    have e1 := hr7 r0 e0.symm
                    subst r0
                    obtain rfl := Option.some.inj h
                    refine ret_at (bS false) (by kernel_rfl) ?_
                    exact ret_e [] [] (by simp only [push_cast, leL_flD, renL_flD, seval]) (by simp only [push_cast, leL_flD, renL_flD, seval]) rfl rfl rfl
                   ·exact hK11291 () _ _ _ h (leSt_m [(0, 0), (1, 1)] [] (by simp only [push_cast, leL_flD, renL_flD, seval]) (by simp only [push_cast, leL_flD, renL_flD, seval]) rfl rfl rfl)
                ·rintro _ h
                 try dsimp only at h ⊢
                 unfold taskmilllaw_PickNobody_j2 at h
                 refine wk_id ?_
                 refine reg_f ?_
                 refine rs 3 [] [] (by kernel_rfl) allP_nil ?_
                 refine rf [(1, .sl moves.length (fl moves)), (5, .sl xh90.length (fl xh90)), (7, .own 0 0 c0q74.length), (8, .own 1 0 c1q34.length), (9, iS i15), (17, iS t27), (18, iS (IntKind.i64.wrap (k121 + 1)))] [(0, .row 4 (fl c0q74)), (1, .row 23 (fl c1q34))] 2 (by kernel_rfl) ?_
                 exact hn10 ((IntKind.i64.wrap (k121 + 1))) _ _ _ (Option.some.inj h).symm (leSt_m [(0, 0), (1, 1)] [] (by simp only [push_cast, leL_flD, renL_flD, seval]) (by simp only [push_cast, leL_flD, renL_flD, seval]) rfl rfl rfl)
               ·change R10 (.exit 8) _ _ _
                refine ex_cast hx10 (id := 8) ?_
                obtain ⟨r0, h, e0⟩ := map_sx h
                have e1 := hr10 r0 e0.symm
                subst r0
                refine wk_id ?_
                refine wk_id ?_
                refine wk_id ?_
                refine reg_f ?_
                refine rs 3 [] [] (by kernel_rfl) allP_nil ?_
                refine rf [(1, .sl moves.length (fl moves)), (5, .sl xh90.length (fl xh90)), (7, .own 0 0 c0q74.length), (8, .own 1 0 c1q34.length), (9, iS i15), (17, iS (IntKind.i64.wrap (t27 + 1)))] [(0, .row 4 (fl c0q74)), (1, .row 23 (fl c1q34))] 2 (by kernel_rfl) ?_
                exact hn9 (xh90, (IntKind.i64.wrap (t27 + 1))) _ _ _ (Option.some.inj h).symm (leSt_m [(0, 0), (1, 1)] [] (by simp only [push_cast, leL_flD, renL_flD, seval]) (by simp only [push_cast, leL_flD, renL_flD, seval]) rfl rfl rfl)
           ·change R9 (.exit 6) _ _ _
            refine ex_cast hx9 (id := 6) ?_
            obtain ⟨r0, h, e0⟩ := map_sx h
            have e1 := hr9 r0 e0.symm
            subst r0
            refine wk_id ?_
            exact hK10689 (xh90, c0q74, c1q34) _ _ _ h (leSt_m [(0, 0), (1, 1)] [] (by simp only [push_cast, leL_flD, renL_flD, seval]) (by simp only [push_cast, leL_flD, renL_flD, seval]) rfl rfl rfl)
      ·rintro ⟨xh85, c0q67, c1q33⟩ h
       try dsimp only at h ⊢
       unfold taskmilllaw_PickNobody_j1 at h
       refine wk_id ?_
       refine reg_f ?_
       refine rs 3 [] [] (by kernel_rfl) allP_nil ?_
       refine rf [(1, .sl moves.length (fl moves)), (5, .sl xh85.length (fl xh85)), (7, .own 0 0 c0q67.length), (8, .own 1 0 c1q33.length), (9, iS (IntKind.i64.wrap (i15 + 1)))] [(0, .row 4 (fl c0q67)), (1, .row 23 (fl c1q33))] 2 (by kernel_rfl) ?_
       exact hn7 (xh85, (IntKind.i64.wrap (i15 + 1)), c0q67, c1q33) _ _ _ (Option.some.inj h).symm (leSt_m [(0, 0), (1, 1)] [] (by simp only [push_cast, leL_flD, renL_flD, seval]) (by simp only [push_cast, leL_flD, renL_flD, seval]) rfl rfl rfl)
     ·change R7 (.exit 2) _ _ _
      refine ex_cast hx7 (id := 2) ?_
      obtain ⟨r0, h, e0⟩ := map_sx h
      have e1 := hr7 r0 e0.symm
      subst r0
      refine wk_id ?_
      refine wk_id ?_
      refine seq_np ?_
      refine reg_f ?_
      refine rs 1 [] [] (by kernel_rfl) allP_nil ?_
      refine rf [(4, bS true)] [(0, .row 4 (fl c0q59)), (1, .row 23 (fl c1q29))] 2 (by kernel_rfl) ?_
      refine wk_id ?_
      obtain rfl := Option.some.inj h
      refine ret_at (bS true) (by kernel_rfl) ?_
      exact ret_e [] [] (by simp only [push_cast, leL_flD, renL_flD, seval]) (by simp only [push_cast, leL_flD, renL_flD, seval]) rfl rfl rfl

end Go.Proofs.Ytcpmhpobhnakeaa
