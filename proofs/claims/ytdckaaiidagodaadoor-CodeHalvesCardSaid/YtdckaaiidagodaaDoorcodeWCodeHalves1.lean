/-
 What laws of the chapter code compute, and lemmas on it.
 No conditions.
-/
import Derived.Test.YtdckaaiidagodaaDoorProg
import Derived.Test.YtdckaaiidagodaaDoorcodeG
set_option linter.unusedSimpArgs false
set_option linter.unusedVariables false
namespace Go.Proofs.YtdckaaiidagodaaDoor
open Go Go.Sx
attribute [local irreducible] Wk RunAt
theorem follows : Tryd.prog.follows .mixedOrders = true := by kernel_rfl
set_option maxRecDepth 100000 in
set_option maxHeartbeats 200000000 in
theorem cc_fresh_spec (b : Nat) (w : World) (h0 : w.cell? ⟨b, 0, none⟩ = some (.pointer none)) (hsh : w.shape? b = some (67, 2)) (hfz : w.frozen? ⟨b, 0, none⟩ = false) :
  Calls Tryd.prog 37 #[.pointer (some ⟨b, 0, none⟩)] w fun e w' => e = .returned (.tuple #[]) ∧ w' = w.setCell ⟨b, 0, none⟩ (.pointer (some ⟨b, 0, none⟩)) := by
 have mixed := follows
 obtain ⟨j, hj, hjs⟩ : ∃ j, Tryd.prog.info? 67 = some j ∧ j.size = 2 := Option.map_eq_some_iff.1 (show (Tryd.prog.info? 67).map (·.size) = some 2 by kernel_rfl)
 go_enter Tryd.func37, Tryd.ntmps37
 go_wp2
 rw [Lib.run_to_unsafe w ⟨b, 0, none⟩ (t := 67) (by kernel_rfl) (by kernel_rfl) hj (by rw [hjs]; decide) hsh (Nat.zero_lt_succ 1)]
 simp only [Result.andThen]
 rw [Oper.upon_value]
 go_wp2
 rw [run_callFunc_extern Tryd.func46 (by kernel_rfl) (by kernel_rfl) (by kernel_rfl) (e := Extern.AbiNoEscape.same) (by kernel_rfl)]
 rw [Lib.run_noEscape]
 simp only [Result.andThen]
 rw [Oper.upon_value]
 go_wp2
 rw [Lib.run_from_unsafe w ⟨b, 0, none⟩ (u := 67) (by kernel_rfl) (by kernel_rfl) hj hsh (by kernel_rfl)]
 simp only [Result.andThen]
 rw [Oper.upon_value]
 go_wp2
 go_end0
 exact ⟨rfl, rfl⟩
set_option maxRecDepth 100000 in
set_option maxHeartbeats 1000000 in
theorem cc_used_spec (b : Nat) (w : World) (h0 : w.cell? ⟨b, 0, none⟩ = some (.pointer (some ⟨b, 0, none⟩))) :
  Calls Tryd.prog 37 #[.pointer (some ⟨b, 0, none⟩)] w fun e w' => e = .returned (.tuple #[]) ∧ w' = w := by
 have mixed := follows
 obtain ⟨j, hj, hjs⟩ : ∃ j, Tryd.prog.info? 67 = some j ∧ j.size = 2 := Option.map_eq_some_iff.1 (show (Tryd.prog.info? 67).map (·.size) = some 2 by kernel_rfl)
 go_enter Tryd.func37, Tryd.ntmps37
 go_wp2
 rw [Lib.run_neq_ptr_same w _ (te := 67) (by kernel_rfl) hj]
 go_wp2
 go_end0
 exact ⟨rfl, rfl⟩
theorem cc_ok_spec : CallOk Tryd.prog (ccHook 37 67) := copyCheck_ok (fn_of Tryd.func37 (by kernel_rfl) (by kernel_rfl)) cc_fresh_spec cc_used_spec
theorem taskmilllaw_codeBegun_spec (r : Bool) (h : taskmilllaw_codeBegun = some r) : SpecW Tryd.prog 7 [] [] 0 (fun x h n => x = bS r ∧ h = [] ∧ n = 0) := by
 unfold taskmilllaw_codeBegun at h
 obtain rfl := Option.some.inj h
 exact closed_callH follows cc_ok_spec 10000 1000 (by kernel_rfl)

set_option maxRecDepth 100000 in
set_option maxHeartbeats 200000000 in
theorem taskmilllaw_vastProgram_spec (p : GProgram) (r : Bool) (h : taskmilllaw_vastProgram p = some r) : SpecW Tryd.prog 8 [.agg (Enc.cells p)] [] 0 (fun x h n => x = bS r ∧ h = [] ∧ n = 0) := by
 unfold taskmilllaw_vastProgram at h
 refine spec_of (draw_ok _) Tryd.func8 rfl (by decide) rfl (by kernel_rfl) ?_
 refine seq_np ?_
 refine reg_f ?_
 refine rs 2 [] [] (by kernel_rfl) allP_nil ?_
 refine rf [(1, .ptr 0 0)] [(0, .row 25 (Enc.cells p))] 1 (by kernel_rfl) ?_
 refine wk_id ?_
 refine seq_cut (A := Unit) (fun _ => ([(2, bS ((decide ((2000 : Int) < ((p.Code.length : Nat) : Int))) || (decide ((2000 : Int) < ((p.Pipes.length : Nat) : Int)))))], [(0, .row 25 (Enc.cells p))], 1)) (fun _ => True) (fun K5 hK5 => ?_) (fun _ _ => ?_)
 ·refine reg_f ?_
  refine rs 5 [] [] (by kernel_rfl) allP_nil ?_
  refine run_split 7 (decide ((2000 : Int) < ((p.Code.length : Nat) : Int))) (.inl (by kernel_rfl)) (fun g6 => ?_) (fun g6 => ?_)
  ·refine rs 6 [] [] (by kernel_rfl) allP_nil ?_
   refine rf [(2, bS true)] [(0, .row 25 (Enc.cells p))] 1 (by kernel_rfl) ?_
   exact hK5 () _ _ _ trivial (leSt_m [(0, 0)] [] (by (try simp only [g6]) <;> simp only [push_cast, seval]) (by (try simp only [g6]) <;> simp only [push_cast, seval]) rfl rfl rfl)
  ·refine rs 6 [] [] (by kernel_rfl) allP_nil ?_
   refine rf [(2, bS (decide ((2000 : Int) < ((p.Pipes.length : Nat) : Int))))] [(0, .row 25 (Enc.cells p))] 1 (by kernel_rfl) ?_
   exact hK5 () _ _ _ trivial (leSt_m [(0, 0)] [] (by (try simp only [g6]) <;> simp only [push_cast, seval]) (by (try simp only [g6]) <;> simp only [push_cast, seval]) rfl rfl rfl)
 ·dsimp only
  obtain rfl := Option.some.inj h
  refine ret_at (bS ((decide ((2000 : Int) < ((p.Code.length : Nat) : Int))) || (decide ((2000 : Int) < ((p.Pipes.length : Nat) : Int))))) (by kernel_rfl) ?_
  exact ret_e [] [] (by simp only [push_cast, seval]) (by simp only [push_cast, seval]) rfl rfl rfl

set_option maxRecDepth 100000 in
set_option maxHeartbeats 200000000 in
theorem code_fault_spec (code : Int) (xat : Int) (r : Fault) (h : code_fault code xat = some r) : SpecW Tryd.prog 23 [iS code, iS xat] [] 0 (fun x h n => x = .agg (Enc.cells r) ∧ h = [] ∧ n = 0) := by
 unfold code_fault at h
 refine spec_of (draw_ok _) Tryd.func23 rfl (by decide) rfl (by kernel_rfl) ?_
 refine seq_np ?_
 refine reg_f ?_
 refine rs 1 [] [] (by kernel_rfl) allP_nil ?_
 refine rf [(0, iS code), (1, iS xat), (4, .ptr 0 0)] [(0, .row 31 [iS 0, iS 0])] 1 (by kernel_rfl) ?_
 refine wk_id ?_
 refine seq_np ?_
 refine reg_f ?_
 refine rs 4 [] [] (by kernel_rfl) allP_nil ?_
 refine rf [(4, .ptr 0 0)] [(0, .row 31 [iS code, iS xat])] 1 (by kernel_rfl) ?_
 refine wk_id ?_
 obtain rfl := Option.some.inj h
 refine ret_at (.agg [iS code, iS xat]) (by kernel_rfl) ?_
 exact ret_e [] [] (by simp only [push_cast, seval]) (by simp only [push_cast, seval]) rfl rfl rfl

set_option maxRecDepth 100000 in
set_option maxHeartbeats 200000000 in
theorem code_fits_spec (p : GProgram) (k : Int) (x : Int) (r : Bool) (h : code_fits p k x = some r) : SpecW Tryd.prog 24 [.agg (Enc.cells p), .v (.int .u8 k), iS x] [] 0 (fun x h n => x = bS r ∧ h = [] ∧ n = 0) := by
 unfold code_fits at h
 refine spec_of (draw_ok _) Tryd.func24 rfl (by decide) rfl (by kernel_rfl) ?_
 refine seq_np ?_
 refine reg_f ?_
 refine rs 2 [] [] (by kernel_rfl) allP_nil ?_
 refine rf [(1, .v (.int .u8 k)), (2, iS x), (3, .ptr 0 0)] [(0, .row 25 (Enc.cells p))] 1 (by kernel_rfl) ?_
 refine wk_id ?_
 refine seq_np ?_
 refine reg_f ?_
 refine rs 23 [none, some ⟨.any, [(1, .map [(.int .u8 114, iS 8)])], 2, [1]⟩, none, none, none, some ⟨.any, [(1, .map [(.int .u8 114, iS 8), (.int .u8 99, iS ((p.Code.length : Nat) : Int))])], 2, [1]⟩, none, none, some ⟨.any, [(1, .map [(.int .u8 114, iS 8), (.int .u8 99, iS ((p.Code.length : Nat) : Int)), (.int .u8 109, iS p.Cells)])], 2, [1]⟩, none, none, none, some ⟨.any, [(1, .map [(.int .u8 114, iS 8), (.int .u8 99, iS ((p.Code.length : Nat) : Int)), (.int .u8 109, iS p.Cells), (.int .u8 112, iS ((p.Pipes.length : Nat) : Int))])], 2, [1]⟩, none, none, some ⟨.any, [(1, .map [(.int .u8 114, iS 8), (.int .u8 99, iS ((p.Code.length : Nat) : Int)), (.int .u8 109, iS p.Cells), (.int .u8 112, iS ((p.Pipes.length : Nat) : Int)), (.int .u8 108, iS p.Locks)])], 2, [1]⟩, none, none, some ⟨.any, [(1, .map [(.int .u8 114, iS 8), (.int .u8 99, iS ((p.Code.length : Nat) : Int)), (.int .u8 109, iS p.Cells), (.int .u8 112, iS ((p.Pipes.length : Nat) : Int)), (.int .u8 108, iS p.Locks), (.int .u8 103, iS p.Groups)])], 2, [1]⟩, some ⟨.any, [(1, .map [(.int .u8 114, iS 8), (.int .u8 99, iS ((p.Code.length : Nat) : Int)), (.int .u8 109, iS p.Cells), (.int .u8 112, iS ((p.Pipes.length : Nat) : Int)), (.int .u8 108, iS p.Locks), (.int .u8 103, iS p.Groups), (.int .u8 107, iS 2)])], 2, [1]⟩, some ⟨.any, [(1, .map [(.int .u8 114, iS 8), (.int .u8 99, iS ((p.Code.length : Nat) : Int)), (.int .u8 109, iS p.Cells), (.int .u8 112, iS ((p.Pipes.length : Nat) : Int)), (.int .u8 108, iS p.Locks), (.int .u8 103, iS p.Groups), (.int .u8 107, iS 2), (.int .u8 45, iS 1)])], 2, [1]⟩] _ (by kernel_rfl) (allP_cons (ob_insL (.int .u8) (.int .u8 45) (iS 1) [(.int .u8 114, iS 8), (.int .u8 99, iS ((p.Code.length : Nat) : Int)), (.int .u8 109, iS p.Cells), (.int .u8 112, iS ((p.Pipes.length : Nat) : Int)), (.int .u8 108, iS p.Locks), (.int .u8 103, iS p.Groups), (.int .u8 107, iS 2)] [(.int .u8 114, iS 8), (.int .u8 99, iS ((p.Code.length : Nat) : Int)), (.int .u8 109, iS p.Cells), (.int .u8 112, iS ((p.Pipes.length : Nat) : Int)), (.int .u8 108, iS p.Locks), (.int .u8 103, iS p.Groups), (.int .u8 107, iS 2), (.int .u8 45, iS 1)] 1 2 rfl rfl rfl) (allP_cons (ob_insL (.int .u8) (.int .u8 107) (iS 2) [(.int .u8 114, iS 8), (.int .u8 99, iS ((p.Code.length : Nat) : Int)), (.int .u8 109, iS p.Cells), (.int .u8 112, iS ((p.Pipes.length : Nat) : Int)), (.int .u8 108, iS p.Locks), (.int .u8 103, iS p.Groups)] [(.int .u8 114, iS 8), (.int .u8 99, iS ((p.Code.length : Nat) : Int)), (.int .u8 109, iS p.Cells), (.int .u8 112, iS ((p.Pipes.length : Nat) : Int)), (.int .u8 108, iS p.Locks), (.int .u8 103, iS p.Groups), (.int .u8 107, iS 2)] 1 2 rfl rfl rfl) (allP_cons (ob_insL (.int .u8) (.int .u8 103) (iS p.Groups) [(.int .u8 114, iS 8), (.int .u8 99, iS ((p.Code.length : Nat) : Int)), (.int .u8 109, iS p.Cells), (.int .u8 112, iS ((p.Pipes.length : Nat) : Int)), (.int .u8 108, iS p.Locks)] [(.int .u8 114, iS 8), (.int .u8 99, iS ((p.Code.length : Nat) : Int)), (.int .u8 109, iS p.Cells), (.int .u8 112, iS ((p.Pipes.length : Nat) : Int)), (.int .u8 108, iS p.Locks), (.int .u8 103, iS p.Groups)] 1 2 rfl rfl rfl) (allP_cons (ob_insL (.int .u8) (.int .u8 108) (iS p.Locks) [(.int .u8 114, iS 8), (.int .u8 99, iS ((p.Code.length : Nat) : Int)), (.int .u8 109, iS p.Cells), (.int .u8 112, iS ((p.Pipes.length : Nat) : Int))] [(.int .u8 114, iS 8), (.int .u8 99, iS ((p.Code.length : Nat) : Int)), (.int .u8 109, iS p.Cells), (.int .u8 112, iS ((p.Pipes.length : Nat) : Int)), (.int .u8 108, iS p.Locks)] 1 2 rfl rfl rfl) (allP_cons (ob_insL (.int .u8) (.int .u8 112) (iS ((p.Pipes.length : Nat) : Int)) [(.int .u8 114, iS 8), (.int .u8 99, iS ((p.Code.length : Nat) : Int)), (.int .u8 109, iS p.Cells)] [(.int .u8 114, iS 8), (.int .u8 99, iS ((p.Code.length : Nat) : Int)), (.int .u8 109, iS p.Cells), (.int .u8 112, iS ((p.Pipes.length : Nat) : Int))] 1 2 rfl rfl rfl) (allP_cons (ob_insL (.int .u8) (.int .u8 109) (iS p.Cells) [(.int .u8 114, iS 8), (.int .u8 99, iS ((p.Code.length : Nat) : Int))] [(.int .u8 114, iS 8), (.int .u8 99, iS ((p.Code.length : Nat) : Int)), (.int .u8 109, iS p.Cells)] 1 2 rfl rfl rfl) (allP_cons (ob_insL (.int .u8) (.int .u8 99) (iS ((p.Code.length : Nat) : Int)) [(.int .u8 114, iS 8)] [(.int .u8 114, iS 8), (.int .u8 99, iS ((p.Code.length : Nat) : Int))] 1 2 rfl rfl rfl) (allP_cons (ob_insL (.int .u8) (.int .u8 114) (iS 8) [] [(.int .u8 114, iS 8)] 1 2 rfl rfl rfl) allP_nil)))))))) ?_
 refine rf [(1, .v (.int .u8 k)), (2, iS x), (7, .mp 1)] [(0, .row 25 (Enc.cells p)), (1, .map [(.int .u8 114, iS 8), (.int .u8 99, iS ((p.Code.length : Nat) : Int)), (.int .u8 109, iS p.Cells), (.int .u8 112, iS ((p.Pipes.length : Nat) : Int)), (.int .u8 108, iS p.Locks), (.int .u8 103, iS p.Groups), (.int .u8 107, iS 2), (.int .u8 45, iS 1)])] 2 (by kernel_rfl) ?_
 refine wk_id ?_
 refine seq_np ?_
 refine seq_np ?_
 refine reg_f ?_
 refine rs 2 [] [] (by kernel_rfl) allP_nil ?_
 refine rf [(1, .v (.int .u8 k)), (2, iS x), (7, .mp 1), (23, bS (k == 110))] [(0, .row 25 (Enc.cells p)), (1, .map [(.int .u8 114, iS 8), (.int .u8 99, iS ((p.Code.length : Nat) : Int)), (.int .u8 109, iS p.Cells), (.int .u8 112, iS ((p.Pipes.length : Nat) : Int)), (.int .u8 108, iS p.Locks), (.int .u8 103, iS p.Groups), (.int .u8 107, iS 2), (.int .u8 45, iS 1)])] 2 (by kernel_rfl) ?_
 refine wk_id ?_
 refine cond_sx h (by kernel_rfl) (fun g69 h => ?_) (fun g69 h => ?_)
 ·refine seq_np ?_
  refine reg_f ?_
  refine rs 1 [] [] (by kernel_rfl) allP_nil ?_
  refine rf [(6, bS true)] [(0, .row 25 (Enc.cells p)), (1, .map [(.int .u8 114, iS 8), (.int .u8 99, iS ((p.Code.length : Nat) : Int)), (.int .u8 109, iS p.Cells), (.int .u8 112, iS ((p.Pipes.length : Nat) : Int)), (.int .u8 108, iS p.Locks), (.int .u8 103, iS p.Groups), (.int .u8 107, iS 2), (.int .u8 45, iS 1)])] 2 (by kernel_rfl) ?_
  refine wk_id ?_
  obtain rfl := Option.some.inj h
  refine ret_at (bS true) (by kernel_rfl) ?_
  exact ret_e [] [] (by simp only [push_cast, seval]) (by simp only [push_cast, seval]) rfl rfl rfl
 ·refine wk_id ?_
  refine seq_cut (A := Unit) (fun _ => ([(6, bS ((decide ((0 : Int) ≤ x)) && (decide (x < (miGet [(114, 8), (99, ((p.Code.length : Nat) : Int)), (109, p.Cells), (112, ((p.Pipes.length : Nat) : Int)), (108, p.Locks), (103, p.Groups), (107, 2), (45, 1)] k)))))], [(0, .row 25 (Enc.cells p)), (1, .map [(.int .u8 114, iS 8), (.int .u8 99, iS ((p.Code.length : Nat) : Int)), (.int .u8 109, iS p.Cells), (.int .u8 112, iS ((p.Pipes.length : Nat) : Int)), (.int .u8 108, iS p.Locks), (.int .u8 103, iS p.Groups), (.int .u8 107, iS 2), (.int .u8 45, iS 1)])], 2)) (fun _ => True) (fun K67 hK67 => ?_) (fun _ _ => ?_)
  ·refine reg_f ?_
   refine rs 3 [] [] (by kernel_rfl) allP_nil ?_
   refine run_split 26 (decide ((0 : Int) ≤ x)) (.inl (by kernel_rfl)) (fun g68 => ?_) (fun g68 => ?_)
   ·refine rs 7 [none, none, none, some ⟨iS (miGet [(114, 8), (99, ((p.Code.length : Nat) : Int)), (109, p.Cells), (112, ((p.Pipes.length : Nat) : Int)), (108, p.Locks), (103, p.Groups), (107, 2), (45, 1)] k), [], 2, [1]⟩] _ (by kernel_rfl) (allP_cons (ob_lookK .u8 k [(114, 8), (99, ((p.Code.length : Nat) : Int)), (109, p.Cells), (112, ((p.Pipes.length : Nat) : Int)), (108, p.Locks), (103, p.Groups), (107, 2), (45, 1)] 1 2) allP_nil) ?_
    refine rf [(6, bS (decide (x < (miGet [(114, 8), (99, ((p.Code.length : Nat) : Int)), (109, p.Cells), (112, ((p.Pipes.length : Nat) : Int)), (108, p.Locks), (103, p.Groups), (107, 2), (45, 1)] k))))] [(0, .row 25 (Enc.cells p)), (1, .map [(.int .u8 114, iS 8), (.int .u8 99, iS ((p.Code.length : Nat) : Int)), (.int .u8 109, iS p.Cells), (.int .u8 112, iS ((p.Pipes.length : Nat) : Int)), (.int .u8 108, iS p.Locks), (.int .u8 103, iS p.Groups), (.int .u8 107, iS 2), (.int .u8 45, iS 1)])] 2 (by kernel_rfl) ?_
    exact hK67 () _ _ _ trivial (leSt_m [(0, 0), (1, 1)] [] (by (try simp only [g68]) <;> simp only [push_cast, seval]) (by (try simp only [g68]) <;> simp only [push_cast, seval]) rfl rfl rfl)
   ·refine rs 7 [] [] (by kernel_rfl) allP_nil ?_
    refine rf [(6, bS false)] [(0, .row 25 (Enc.cells p)), (1, .map [(.int .u8 114, iS 8), (.int .u8 99, iS ((p.Code.length : Nat) : Int)), (.int .u8 109, iS p.Cells), (.int .u8 112, iS ((p.Pipes.length : Nat) : Int)), (.int .u8 108, iS p.Locks), (.int .u8 103, iS p.Groups), (.int .u8 107, iS 2), (.int .u8 45, iS 1)])] 2 (by kernel_rfl) ?_
    exact hK67 () _ _ _ trivial (leSt_m [(0, 0), (1, 1)] [] (by (try simp only [g68]) <;> simp only [push_cast, seval]) (by (try simp only [g68]) <;> simp only [push_cast, seval]) rfl rfl rfl)
  ·dsimp only
   obtain rfl := Option.some.inj h
   refine ret_at (bS ((decide ((0 : Int) ≤ x)) && (decide (x < (miGet [(114, 8), (99, ((p.Code.length : Nat) : Int)), (109, p.Cells), (112, ((p.Pipes.length : Nat) : Int)), (108, p.Locks), (103, p.Groups), (107, 2), (45, 1)] k))))) (by kernel_rfl) ?_
   exact ret_e [] [] (by simp only [push_cast, seval]) (by simp only [push_cast, seval]) rfl rfl rfl

set_option maxRecDepth 100000 in
set_option maxHeartbeats 200000000 in
theorem code_Check_spec (p : GProgram) (r : Fault) (h : code_Check p = some r) : SpecW Tryd.prog 10 [.agg (Enc.cells p)] [] 0 (fun x h n => x = .agg (Enc.cells r) ∧ h = [] ∧ n = 0) := by
 unfold code_Check at h
 refine spec_of (draw_ok _) Tryd.func10 rfl (by decide) rfl (by kernel_rfl) ?_
 refine seq_np ?_
 refine reg_f ?_
 refine rs 2 [] [] (by kernel_rfl) allP_nil ?_
 refine rf [(1, .ptr 0 0), (2, .ptr 1 0)] [(0, .row 25 (Enc.cells p)), (1, .row 31 [iS 0, iS 0])] 2 (by kernel_rfl) ?_
 refine wk_id ?_
 refine seq_np ?_
 refine seq_cut (A := Unit) (fun _ => ([(1, .ptr 0 0), (2, .ptr 1 0), (17, bS ((decide ((1000 : Int) < ((p.Code.length : Nat) : Int))) || (decide ((20 : Int) < ((p.Pipes.length : Nat) : Int)))))], [(0, .row 25 (Enc.cells p)), (1, .row 31 [iS 0, iS 0])], 2)) (fun _ => True) (fun K122 hK122 => ?_) (fun _ _ => ?_)
 ·refine reg_f ?_
  refine rs 5 [] [] (by kernel_rfl) allP_nil ?_
  refine run_split 12 (decide ((1000 : Int) < ((p.Code.length : Nat) : Int))) (.inl (by kernel_rfl)) (fun g123 => ?_) (fun g123 => ?_)
  ·refine rs 5 [] [] (by kernel_rfl) allP_nil ?_
   refine rf [(1, .ptr 0 0), (2, .ptr 1 0), (17, bS true)] [(0, .row 25 (Enc.cells p)), (1, .row 31 [iS 0, iS 0])] 2 (by kernel_rfl) ?_
   exact hK122 () _ _ _ trivial (leSt_m [(0, 0), (1, 1)] [] (by (try simp only [g123]) <;> simp only [push_cast, seval]) (by (try simp only [g123]) <;> simp only [push_cast, seval]) rfl rfl rfl)
  ·refine rs 5 [] [] (by kernel_rfl) allP_nil ?_
   refine rf [(1, .ptr 0 0), (2, .ptr 1 0), (17, bS (decide ((20 : Int) < ((p.Pipes.length : Nat) : Int))))] [(0, .row 25 (Enc.cells p)), (1, .row 31 [iS 0, iS 0])] 2 (by kernel_rfl) ?_
   exact hK122 () _ _ _ trivial (leSt_m [(0, 0), (1, 1)] [] (by (try simp only [g123]) <;> simp only [push_cast, seval]) (by (try simp only [g123]) <;> simp only [push_cast, seval]) rfl rfl rfl)
 ·dsimp only
  refine cond_sx h (by kernel_rfl) (fun g437 h => ?_) (fun g437 h => ?_)
  ·refine seq_np ?_
   refine reg_f ?_
   obtain ⟨r125, hr125, h⟩ := bind_sx h
   refine run_call 23 [iS 2, iS 0] (some 18) (by kernel_rfl) ?_
   refine call_0 (code_fault_spec 2 0 r125 hr125) (by simp only [push_cast, seval]) (by simp only [push_cast, seval]) ?_
   refine back_f ?_
   refine rs 1 [] [] (by kernel_rfl) allP_nil ?_
   refine rf [(2, .ptr 1 0)] [(0, .row 25 (Enc.cells p)), (1, .row 31 (Enc.cells r125))] 2 (by kernel_rfl) ?_
   refine wk_id ?_
   obtain rfl := Option.some.inj h
   refine ret_at (.agg (Enc.cells r125)) (by kernel_rfl) ?_
   exact ret_e [] [] (by simp only [push_cast, seval]) (by simp only [push_cast, seval]) rfl rfl rfl
  ·refine wk_id ?_
   refine seq_np ?_
   refine seq_cut (A := Unit) (fun _ => ([(1, .ptr 0 0), (2, .ptr 1 0), (36, bS ((decide ((min (min p.Cells p.Locks) p.Groups) < 0)) || (decide ((20 : Int) < (max (max p.Cells p.Locks) p.Groups)))))], [(0, .row 25 (Enc.cells p)), (1, .row 31 [iS 0, iS 0])], 2)) (fun _ => True) (fun K130 hK130 => ?_) (fun _ _ => ?_)
   ·refine reg_f ?_
    refine rs 9 [] [] (by kernel_rfl) allP_nil ?_
    refine run_split 27 (decide ((min (min p.Cells p.Locks) p.Groups) < 0)) (.inl (by kernel_rfl)) (fun g131 => ?_) (fun g131 => ?_)
    ·refine rs 9 [] [] (by kernel_rfl) allP_nil ?_
     refine rf [(1, .ptr 0 0), (2, .ptr 1 0), (36, bS true)] [(0, .row 25 (Enc.cells p)), (1, .row 31 [iS 0, iS 0])] 2 (by kernel_rfl) ?_
     exact hK130 () _ _ _ trivial (leSt_m [(0, 0), (1, 1)] [] (by (try simp only [g131]) <;> simp only [push_cast, seval]) (by (try simp only [g131]) <;> simp only [push_cast, seval]) rfl rfl rfl)
    ·refine rs 9 [] [] (by kernel_rfl) allP_nil ?_
     refine rf [(1, .ptr 0 0), (2, .ptr 1 0), (36, bS (decide ((20 : Int) < (max (max p.Cells p.Locks) p.Groups))))] [(0, .row 25 (Enc.cells p)), (1, .row 31 [iS 0, iS 0])] 2 (by kernel_rfl) ?_
     exact hK130 () _ _ _ trivial (leSt_m [(0, 0), (1, 1)] [] (by (try simp only [g131]) <;> simp only [push_cast, seval]) (by (try simp only [g131]) <;> simp only [push_cast, seval]) rfl rfl rfl)
   ·dsimp only
    refine cond_sx h (by kernel_rfl) (fun g436 h => ?_) (fun g436 h => ?_)
    ·refine seq_np ?_
     refine reg_f ?_
     obtain ⟨r133, hr133, h⟩ := bind_sx h
     refine run_call 23 [iS 3, iS 0] (some 37) (by kernel_rfl) ?_
     refine call_0 (code_fault_spec 3 0 r133 hr133) (by simp only [push_cast, seval]) (by simp only [push_cast, seval]) ?_
     refine back_f ?_
     refine rs 1 [] [] (by kernel_rfl) allP_nil ?_
     refine rf [(2, .ptr 1 0)] [(0, .row 25 (Enc.cells p)), (1, .row 31 (Enc.cells r133))] 2 (by kernel_rfl) ?_
     refine wk_id ?_
     obtain rfl := Option.some.inj h
     refine ret_at (.agg (Enc.cells r133)) (by kernel_rfl) ?_
     exact ret_e [] [] (by simp only [push_cast, seval]) (by simp only [push_cast, seval]) rfl rfl rfl
    ·refine wk_id ?_
     refine seq_np ?_
     refine seq_np ?_
     refine reg_f ?_
     refine rs 4 [] [] (by kernel_rfl) allP_nil ?_
     refine rf [(1, .ptr 0 0), (2, .ptr 1 0), (39, .sl p.Pipes.length (fl p.Pipes)), (40, iS ((p.Pipes.length : Nat) : Int)), (41, iS 0)] [(0, .row 25 (Enc.cells p)), (1, .row 31 [iS 0, iS 0])] 2 (by kernel_rfl) ?_
     refine wk_id ?_
     refine block_np ?_
     refine loop_sx (S := Int) (fun a => ([(1, .ptr 0 0), (2, .ptr 1 0), (39, .sl p.Pipes.length (fl p.Pipes)), (40, iS ((p.Pipes.length : Nat) : Int)), (41, iS a)], [(0, .row 25 (Enc.cells p)), (1, .row 31 [iS 0, iS 0])], 2)) h (leSt_m [(0, 0), (1, 1)] [] (by simp only [push_cast, seval]) (by simp only [push_cast, seval]) rfl rfl rfl) ?_
     rintro t41q7 o3 R3 h hr3 hn3 hx3 ht3
     try dsimp only at h hn3 ⊢
     unfold code_Check_l2 at h
     try dsimp only at h
     refine seq_np ?_
     refine reg_f ?_
     refine rs 1 [] [] (by kernel_rfl) allP_nil ?_
     refine rf [(1, .ptr 0 0), (2, .ptr 1 0), (39, .sl p.Pipes.length (fl p.Pipes)), (40, iS ((p.Pipes.length : Nat) : Int)), (41, iS t41q7), (42, bS (decide (t41q7 < ((p.Pipes.length : Nat) : Int))))] [(0, .row 25 (Enc.cells p)), (1, .row 31 [iS 0, iS 0])] 2 (by kernel_rfl) ?_
     refine wk_id ?_
     refine seq_np ?_
     refine cond_sx h (by kernel_rfl) (fun g435 h => ?_) (fun g435 h => ?_)
     ·refine wk_id ?_
      refine seq_np ?_
      refine block_np ?_
      refine chk_sx h (fun g199 h => ?_)
      refine seq_np ?_
      refine reg_f ?_
      have k198 : 0 ≤ t41q7 ∧ t41q7 < ((p.Pipes.length : Nat) : Int) := by first | simpa only [Bool.and_eq_true, decide_eq_true_eq, bne_iff_ne, ne_eq] using g199 | (simp at g199 ⊢; omega)
      refine rs 5 [none, some ⟨.iptr (fl p.Pipes) ((t41q7).toNat * 1), [], 2, []⟩, some ⟨iS (ix p.Pipes t41q7), [], 2, []⟩] _ (by kernel_rfl) (allP_cons (ob_ld p.Pipes t41q7 1 0 ((t41q7).toNat * 1) k198 rfl (by decide) (by first | rfl | omega) (dflS Tryd.prog 3) (iS (ix p.Pipes t41q7)) rfl 2 []) (allP_cons (ob_ix_l p.Pipes 1 2 t41q7 k198) allP_nil)) ?_
      refine rf [(1, .ptr 0 0), (2, .ptr 1 0), (3, iS t41q7), (4, iS (ix p.Pipes t41q7)), (39, .sl p.Pipes.length (fl p.Pipes)), (40, iS ((p.Pipes.length : Nat) : Int)), (41, iS t41q7)] [(0, .row 25 (Enc.cells p)), (1, .row 31 [iS 0, iS 0])] 2 (by kernel_rfl) ?_
      refine wk_id ?_
      refine seq_cut (A := Unit) (fun _ => ([(1, .ptr 0 0), (2, .ptr 1 0), (3, iS t41q7), (39, .sl p.Pipes.length (fl p.Pipes)), (40, iS ((p.Pipes.length : Nat) : Int)), (41, iS t41q7), (51, bS ((decide ((ix p.Pipes t41q7) < 0)) || (decide ((100 : Int) < (ix p.Pipes t41q7)))))], [(0, .row 25 (Enc.cells p)), (1, .row 31 [iS 0, iS 0])], 2)) (fun _ => True) (fun K201 hK201 => ?_) (fun _ _ => ?_)
      ·refine reg_f ?_
       refine rs 3 [] [] (by kernel_rfl) allP_nil ?_
       refine run_split 48 (decide ((ix p.Pipes t41q7) < 0)) (.inl (by kernel_rfl)) (fun g202 => ?_) (fun g202 => ?_)
       ·refine rs 3 [] [] (by kernel_rfl) allP_nil ?_
        refine rf [(1, .ptr 0 0), (2, .ptr 1 0), (3, iS t41q7), (39, .sl p.Pipes.length (fl p.Pipes)), (40, iS ((p.Pipes.length : Nat) : Int)), (41, iS t41q7), (51, bS true)] [(0, .row 25 (Enc.cells p)), (1, .row 31 [iS 0, iS 0])] 2 (by kernel_rfl) ?_
        exact hK201 () _ _ _ trivial (leSt_m [(0, 0), (1, 1)] [] (by (try simp only [g202]) <;> simp only [push_cast, seval]) (by (try simp only [g202]) <;> simp only [push_cast, seval]) rfl rfl rfl)
       ·refine rs 3 [] [] (by kernel_rfl) allP_nil ?_
        refine rf [(1, .ptr 0 0), (2, .ptr 1 0), (3, iS t41q7), (39, .sl p.Pipes.length (fl p.Pipes)), (40, iS ((p.Pipes.length : Nat) : Int)), (41, iS t41q7), (51, bS (decide ((100 : Int) < (ix p.Pipes t41q7))))] [(0, .row 25 (Enc.cells p)), (1, .row 31 [iS 0, iS 0])] 2 (by kernel_rfl) ?_
        exact hK201 () _ _ _ trivial (leSt_m [(0, 0), (1, 1)] [] (by (try simp only [g202]) <;> simp only [push_cast, seval]) (by (try simp only [g202]) <;> simp only [push_cast, seval]) rfl rfl rfl)
      ·dsimp only
       refine cond_sx h (by kernel_rfl) (fun g205 h => ?_) (fun g205 h => ?_)
       ·refine seq_np ?_
        refine reg_f ?_
        refine rs 1 [] [] (by kernel_rfl) allP_nil ?_
        obtain ⟨r204, hr204, h⟩ := bind_sx h
        refine run_call 23 [iS 8, iS t41q7] (some 53) (by kernel_rfl) ?_
        refine call_0 (code_fault_spec 8 t41q7 r204 hr204) (by simp only [push_cast, seval]) (by simp only [push_cast, seval]) ?_
        refine back_f ?_
        refine rs 1 [] [] (by kernel_rfl) allP_nil ?_
        refine rf [(2, .ptr 1 0)] [(0, .row 25 (Enc.cells p)), (1, .row 31 (Enc.cells r204))] 2 (by kernel_rfl) ?_
        refine wk_id ?_
        refine rt_cast ht3 ?_
        obtain ⟨r0, h, e0⟩ := map_sx h
        have e1 := hr3 r0 e0.symm
        subst r0
        obtain rfl := Option.some.inj h
        refine ret_at (.agg (Enc.cells r204)) (by kernel_rfl) ?_
        exact ret_e [] [] (by simp only [push_cast, seval]) (by simp only [push_cast, seval]) rfl rfl rfl
       ·refine wk_id ?_
        refine wk_id ?_
        refine reg_f ?_
        refine rs 2 [] [] (by kernel_rfl) allP_nil ?_
        refine rf [(1, .ptr 0 0), (2, .ptr 1 0), (39, .sl p.Pipes.length (fl p.Pipes)), (40, iS ((p.Pipes.length : Nat) : Int)), (41, iS (IntKind.i64.wrap (t41q7 + 1)))] [(0, .row 25 (Enc.cells p)), (1, .row 31 [iS 0, iS 0])] 2 (by kernel_rfl) ?_
        exact hn3 ((IntKind.i64.wrap (t41q7 + 1))) _ _ _ (Option.some.inj h).symm (leSt_m [(0, 0), (1, 1)] [] (by simp only [push_cast, seval]) (by simp only [push_cast, seval]) rfl rfl rfl)
     ·change R3 (.exit 0) _ _ _
      refine ex_cast hx3 (id := 0) ?_
      obtain ⟨r0, h, e0⟩ := map_sx h
      have e1 := hr3 r0 e0.symm
      subst r0
      refine wk_id ?_
      refine wk_id ?_
      refine seq_np ?_
      refine seq_np ?_
      refine reg_f ?_
      refine rs 4 [] [] (by kernel_rfl) allP_nil ?_
      refine rf [(1, .ptr 0 0), (2, .ptr 1 0), (56, .sl p.Code.length (fl p.Code)), (57, iS ((p.Code.length : Nat) : Int)), (58, iS 0)] [(0, .row 25 (Enc.cells p)), (1, .row 31 [iS 0, iS 0])] 2 (by kernel_rfl) ?_
      refine wk_id ?_
      refine block_np ?_
      refine loop_sx (S := Int) (fun a => ([(1, .ptr 0 0), (2, .ptr 1 0), (56, .sl p.Code.length (fl p.Code)), (57, iS ((p.Code.length : Nat) : Int)), (58, iS a)], [(0, .row 25 (Enc.cells p)), (1, .row 31 [iS 0, iS 0])], 2)) h (leSt_m [(0, 0), (1, 1)] [] (by simp only [push_cast, seval]) (by simp only [push_cast, seval]) rfl rfl rfl) ?_
      rintro t58q7 o4 R4 h hr4 hn4 hx4 ht4
      try dsimp only at h hn4 ⊢
      unfold code_Check_l1 at h
      try dsimp only at h
      refine seq_np ?_
      refine reg_f ?_
      refine rs 1 [] [] (by kernel_rfl) allP_nil ?_
      refine rf [(1, .ptr 0 0), (2, .ptr 1 0), (56, .sl p.Code.length (fl p.Code)), (57, iS ((p.Code.length : Nat) : Int)), (58, iS t58q7), (59, bS (decide (t58q7 < ((p.Code.length : Nat) : Int))))] [(0, .row 25 (Enc.cells p)), (1, .row 31 [iS 0, iS 0])] 2 (by kernel_rfl) ?_
      refine wk_id ?_
      refine seq_np ?_
      refine cond_sx h (by kernel_rfl) (fun g434 h => ?_) (fun g434 h => ?_)
      ·refine wk_id ?_
       refine seq_np ?_
       refine block_np ?_
       refine chk_sx h (fun g401 h => ?_)
       refine seq_np ?_
       refine reg_f ?_
       have k400 : 0 ≤ t58q7 ∧ t58q7 < ((p.Code.length : Nat) : Int) := by first | simpa only [Bool.and_eq_true, decide_eq_true_eq, bne_iff_ne, ne_eq] using g401 | (simp at g401 ⊢; omega)
       refine rs 6 [none, some ⟨.iptr (fl p.Code) ((t58q7).toNat * 3), [], 2, []⟩, some ⟨.agg (Enc.cells (ix p.Code t58q7)), [], 2, []⟩] _ (by kernel_rfl) (allP_cons (ob_ldw p.Code t58q7 3 ((t58q7).toNat * 3) k400 rfl (by first | rfl | omega) (Enc.cells (ix p.Code t58q7)) rfl 2 []) (allP_cons (ob_ix_l p.Code 3 2 t58q7 k400) allP_nil)) ?_
       refine rf [(1, .ptr 0 0), (2, .ptr 1 0), (5, iS t58q7), (6, .ptr 2 0), (56, .sl p.Code.length (fl p.Code)), (57, iS ((p.Code.length : Nat) : Int)), (58, iS t58q7)] [(0, .row 25 (Enc.cells p)), (1, .row 31 [iS 0, iS 0]), (2, .row 38 (Enc.cells (ix p.Code t58q7)))] 3 (by kernel_rfl) ?_
       refine wk_id ?_
       refine seq_np ?_
       refine seq_cut (A := Unit) (fun _ => ([(1, .ptr 0 0), (2, .ptr 1 0), (5, iS t58q7), (6, .ptr 2 0), (56, .sl p.Code.length (fl p.Code)), (57, iS ((p.Code.length : Nat) : Int)), (58, iS t58q7), (70, bS ((decide ((ix p.Code t58q7).Op < 1)) || (decide ((23 : Int) ≤ (ix p.Code t58q7).Op))))], [(0, .row 25 (Enc.cells p)), (1, .row 31 [iS 0, iS 0]), (2, .row 38 (Enc.cells (ix p.Code t58q7)))], 3)) (fun _ => True) (fun K406 hK406 => ?_) (fun _ _ => ?_)
       ·refine reg_f ?_
        refine rs 4 [] [] (by kernel_rfl) allP_nil ?_
        refine run_split 66 (decide ((ix p.Code t58q7).Op < 1)) (.inl (by kernel_rfl)) (fun g407 => ?_) (fun g407 => ?_)
        ·refine rs 4 [] [] (by kernel_rfl) allP_nil ?_
         refine rf [(1, .ptr 0 0), (2, .ptr 1 0), (5, iS t58q7), (6, .ptr 2 0), (56, .sl p.Code.length (fl p.Code)), (57, iS ((p.Code.length : Nat) : Int)), (58, iS t58q7), (70, bS true)] [(0, .row 25 (Enc.cells p)), (1, .row 31 [iS 0, iS 0]), (2, .row 38 (Enc.cells (ix p.Code t58q7)))] 3 (by kernel_rfl) ?_
         exact hK406 () _ _ _ trivial (leSt_m [(0, 0), (1, 1), (2, 2)] [] (by (try simp only [g407]) <;> simp only [push_cast, seval]) (by (try simp only [g407]) <;> simp only [push_cast, seval]) rfl rfl rfl)
        ·refine rs 4 [] [] (by kernel_rfl) allP_nil ?_
         refine rf [(1, .ptr 0 0), (2, .ptr 1 0), (5, iS t58q7), (6, .ptr 2 0), (56, .sl p.Code.length (fl p.Code)), (57, iS ((p.Code.length : Nat) : Int)), (58, iS t58q7), (70, bS (decide ((23 : Int) ≤ (ix p.Code t58q7).Op)))] [(0, .row 25 (Enc.cells p)), (1, .row 31 [iS 0, iS 0]), (2, .row 38 (Enc.cells (ix p.Code t58q7)))] 3 (by kernel_rfl) ?_
         exact hK406 () _ _ _ trivial (leSt_m [(0, 0), (1, 1), (2, 2)] [] (by (try simp only [g407]) <;> simp only [push_cast, seval]) (by (try simp only [g407]) <;> simp only [push_cast, seval]) rfl rfl rfl)
       ·dsimp only
        refine cond_sx h (by kernel_rfl) (fun g433 h => ?_) (fun g433 h => ?_)
        ·refine seq_np ?_
         refine reg_f ?_
         refine rs 1 [] [] (by kernel_rfl) allP_nil ?_
         obtain ⟨r409, hr409, h⟩ := bind_sx h
         refine run_call 23 [iS 4, iS t58q7] (some 72) (by kernel_rfl) ?_
         refine call_0 (code_fault_spec 4 t58q7 r409 hr409) (by simp only [push_cast, seval]) (by simp only [push_cast, seval]) ?_
         refine back_f ?_
         refine rs 1 [] [] (by kernel_rfl) allP_nil ?_
         refine rf [(2, .ptr 1 0)] [(0, .row 25 (Enc.cells p)), (1, .row 31 (Enc.cells r409)), (2, .row 38 (Enc.cells (ix p.Code t58q7)))] 3 (by kernel_rfl) ?_
         refine wk_id ?_
         refine rt_cast ht4 ?_
         obtain ⟨r0, h, e0⟩ := map_sx h
         have e1 := hr4 r0 e0.symm
         subst r0
         obtain rfl := Option.some.inj h
         refine ret_at (.agg (Enc.cells r409)) (by kernel_rfl) ?_
         exact ret_e [] [] (by simp only [push_cast, seval]) (by simp only [push_cast, seval]) rfl rfl rfl
        ·refine wk_id ?_
         refine chk_sx h (fun g413 h => ?_)
         refine seq_np ?_
         refine reg_f ?_
         have k412 : 0 ≤ (ix p.Code t58q7).Op ∧ (ix p.Code t58q7).Op < ((codeKinds.length : Nat) : Int) := by first | simpa only [Bool.and_eq_true, decide_eq_true_eq, bne_iff_ne, ne_eq] using g413 | (simp at g413 ⊢; omega)
         refine rs 6 [none, none, some ⟨.iptr (fl codeKinds) (((ix p.Code t58q7).Op).toNat * 2), [], 3, []⟩, none, some ⟨.v (.string (ix codeKinds (ix p.Code t58q7).Op).args), [], 3, []⟩] _ (by kernel_rfl) (allP_cons (ob_ld codeKinds (ix p.Code t58q7).Op 2 1 ((((ix p.Code t58q7).Op).toNat * 2) + 1) k412 rfl (by decide) (by first | rfl | omega) (dflS Tryd.prog 9) (.v (.string (ix codeKinds (ix p.Code t58q7).Op).args)) rfl 3 []) (allP_cons (ob_tab codeKinds kindsTab (by kernel_rfl) 23 2 3 rfl (ix p.Code t58q7).Op k412) allP_nil)) ?_
         refine rf [(1, .ptr 0 0), (2, .ptr 1 0), (5, iS t58q7), (6, .ptr 2 0), (7, .v (.string (ix codeKinds (ix p.Code t58q7).Op).args)), (56, .sl p.Code.length (fl p.Code)), (57, iS ((p.Code.length : Nat) : Int)), (58, iS t58q7)] [(0, .row 25 (Enc.cells p)), (1, .row 31 [iS 0, iS 0]), (2, .row 38 (Enc.cells (ix p.Code t58q7)))] 3 (by kernel_rfl) ?_
         refine wk_id ?_
         refine chk_sx h (fun g424 h => ?_)
         refine seq_cut (A := Bool) (fun a => ([(1, .ptr 0 0), (2, .ptr 1 0), (5, iS t58q7), (56, .sl p.Code.length (fl p.Code)), (57, iS ((p.Code.length : Nat) : Int)), (58, iS t58q7), (93, bS a)], [(0, .row 25 (Enc.cells p)), (1, .row 31 [iS 0, iS 0])], 2)) (fun a => (code_Check_j1 p t58q7 a) = some o4) (fun K422 hK422 => ?_) ?_
         ·refine reg_t ?_
          have k423 : 0 ≤ (0 : Int) ∧ (0 : Int) < ((((ix codeKinds (ix p.Code t58q7).Op).args).size : Nat) : Int) := by first | simpa only [Bool.and_eq_true, decide_eq_true_eq, bne_iff_ne, ne_eq] using g424 | (simp at g424 ⊢; omega)
          refine rs 5 [none, none, some ⟨.v (.int .u8 ((((ix codeKinds (ix p.Code t58q7).Op).args).data.getD ((0 : Int)).toNat 0).toNat : Int)), [], 5, []⟩] _ (by kernel_rfl) (allP_cons (ob_p (v := .v (.int .u8 ((((ix codeKinds (ix p.Code t58q7).Op).args).data.getD ((0 : Int)).toNat 0).toNat : Int))) (nx := 5) (r := []) k423) allP_nil) ?_
          obtain ⟨r425, hr425, h⟩ := bind_sx h
          refine run_call 24 [.agg (Enc.cells p), .v (.int .u8 ((((ix codeKinds (ix p.Code t58q7).Op).args).data.getD ((0 : Int)).toNat 0).toNat : Int)), iS (ix p.Code t58q7).A] (some 83) (by kernel_rfl) ?_
          refine callE_0 (code_fits_spec p ((((ix codeKinds (ix p.Code t58q7).Op).args).data.getD ((0 : Int)).toNat 0).toNat : Int) (ix p.Code t58q7).A r425 hr425) (by simp only [push_cast, seval]) (by simp only [push_cast, seval]) ?_
          refine back_t ?_
          refine rs 2 [] [] (by kernel_rfl) allP_nil ?_
          refine run_br h 85 (.inl (by kernel_rfl)) (fun g426 h => ?_) (fun g426 h => ?_)
          ·refine rs 8 [] [] (by kernel_rfl) allP_nil ?_
           refine rt [(1, .ptr 0 0), (2, .ptr 1 0), (5, iS t58q7), (56, .sl p.Code.length (fl p.Code)), (57, iS ((p.Code.length : Nat) : Int)), (58, iS t58q7), (93, bS true)] [(0, .row 25 (Enc.cells p)), (1, .row 31 [iS 0, iS 0]), (2, .row 38 (Enc.cells (ix p.Code t58q7)))] 19 follows (by kernel_rfl) ?_
           exact hK422 (true) _ _ _ h (leSt_m [(0, 0), (1, 1)] [] (by (try simp only [g426]) <;> simp only [push_cast, seval]) (by (try simp only [g426]) <;> simp only [push_cast, seval]) rfl rfl rfl)
          ·refine chk_sx h (fun g428 h => ?_)
           have k427 : 0 ≤ (1 : Int) ∧ (1 : Int) < ((((ix codeKinds (ix p.Code t58q7).Op).args).size : Nat) : Int) := by first | simpa only [Bool.and_eq_true, decide_eq_true_eq, bne_iff_ne, ne_eq] using g428 | (simp at g428 ⊢; omega)
           refine rs 5 [none, none, some ⟨.v (.int .u8 ((((ix codeKinds (ix p.Code t58q7).Op).args).data.getD ((1 : Int)).toNat 0).toNat : Int)), [], 13, []⟩] _ (by kernel_rfl) (allP_cons (ob_p (v := .v (.int .u8 ((((ix codeKinds (ix p.Code t58q7).Op).args).data.getD ((1 : Int)).toNat 0).toNat : Int))) (nx := 13) (r := []) k427) allP_nil) ?_
           obtain ⟨r429, hr429, h⟩ := bind_sx h
           refine run_call 24 [.agg (Enc.cells p), .v (.int .u8 ((((ix codeKinds (ix p.Code t58q7).Op).args).data.getD ((1 : Int)).toNat 0).toNat : Int)), iS (ix p.Code t58q7).B] (some 91) (by kernel_rfl) ?_
           refine callE_0 (code_fits_spec p ((((ix codeKinds (ix p.Code t58q7).Op).args).data.getD ((1 : Int)).toNat 0).toNat : Int) (ix p.Code t58q7).B r429 hr429) (by simp only [push_cast, seval]) (by simp only [push_cast, seval]) ?_
           refine back_t ?_
           refine rs 2 [] [] (by kernel_rfl) allP_nil ?_
           refine rt [(1, .ptr 0 0), (2, .ptr 1 0), (5, iS t58q7), (56, .sl p.Code.length (fl p.Code)), (57, iS ((p.Code.length : Nat) : Int)), (58, iS t58q7), (93, bS (!r429))] [(0, .row 25 (Enc.cells p)), (1, .row 31 [iS 0, iS 0]), (2, .row 38 (Enc.cells (ix p.Code t58q7)))] 19 follows (by kernel_rfl) ?_
           exact hK422 ((!r429)) _ _ _ h (leSt_m [(0, 0), (1, 1)] [] (by (try simp only [g426]) <;> simp only [push_cast, seval]) (by (try simp only [g426]) <;> simp only [push_cast, seval]) rfl rfl rfl)
         ·rintro t93q13 h
          try dsimp only at h ⊢
          unfold code_Check_j1 at h
          refine cond_sx h (by kernel_rfl) (fun g432 h => ?_) (fun g432 h => ?_)
          ·refine seq_np ?_
           refine reg_f ?_
           refine rs 1 [] [] (by kernel_rfl) allP_nil ?_
           obtain ⟨r431, hr431, h⟩ := bind_sx h
           refine run_call 23 [iS 5, iS t58q7] (some 95) (by kernel_rfl) ?_
           refine call_0 (code_fault_spec 5 t58q7 r431 hr431) (by simp only [push_cast, seval]) (by simp only [push_cast, seval]) ?_
           refine back_f ?_
           refine rs 1 [] [] (by kernel_rfl) allP_nil ?_
           refine rf [(2, .ptr 1 0)] [(0, .row 25 (Enc.cells p)), (1, .row 31 (Enc.cells r431))] 2 (by kernel_rfl) ?_
           refine wk_id ?_
           refine rt_cast ht4 ?_
           obtain ⟨r0, h, e0⟩ := map_sx h
           have e1 := hr4 r0 e0.symm
           subst r0
           obtain rfl := Option.some.inj h
           refine ret_at (.agg (Enc.cells r431)) (by kernel_rfl) ?_
           exact ret_e [] [] (by simp only [push_cast, seval]) (by simp only [push_cast, seval]) rfl rfl rfl
          ·refine wk_id ?_
           refine wk_id ?_
           refine reg_f ?_
           refine rs 2 [] [] (by kernel_rfl) allP_nil ?_
           refine rf [(1, .ptr 0 0), (2, .ptr 1 0), (56, .sl p.Code.length (fl p.Code)), (57, iS ((p.Code.length : Nat) : Int)), (58, iS (IntKind.i64.wrap (t58q7 + 1)))] [(0, .row 25 (Enc.cells p)), (1, .row 31 [iS 0, iS 0])] 2 (by kernel_rfl) ?_
           exact hn4 ((IntKind.i64.wrap (t58q7 + 1))) _ _ _ (Option.some.inj h).symm (leSt_m [(0, 0), (1, 1)] [] (by simp only [push_cast, seval]) (by simp only [push_cast, seval]) rfl rfl rfl)
      ·change R4 (.exit 2) _ _ _
       refine ex_cast hx4 (id := 2) ?_
       obtain ⟨r0, h, e0⟩ := map_sx h
       have e1 := hr4 r0 e0.symm
       subst r0
       refine wk_id ?_
       refine wk_id ?_
       refine seq_np ?_
       refine reg_f ?_
       refine rs 2 [] [] (by kernel_rfl) allP_nil ?_
       refine rf [(2, .ptr 1 0)] [(0, .row 25 (Enc.cells p)), (1, .row 31 [iS 0, iS 0])] 2 (by kernel_rfl) ?_
       refine wk_id ?_
       obtain rfl := Option.some.inj h
       refine ret_at (.agg [iS 0, iS 0]) (by kernel_rfl) ?_
       exact ret_e [] [] (by simp only [push_cast, seval]) (by simp only [push_cast, seval]) rfl rfl rfl

set_option maxRecDepth 100000 in
set_option maxHeartbeats 200000000 in
theorem code_Local_spec (op : Int) (r : Bool) (h : code_Local op = some r) : SpecW Tryd.prog 25 [iS op] [] 0 (fun x h n => x = bS r ∧ h = [] ∧ n = 0) := by
 unfold code_Local at h
 refine spec_of (draw_ok _) Tryd.func25 rfl (by decide) rfl (by kernel_rfl) ?_
 refine seq_np ?_
 refine reg_f ?_
 refine rs 1 [] [] (by kernel_rfl) allP_nil ?_
 refine rf [(0, iS op)] [] 0 (by kernel_rfl) ?_
 refine wk_id ?_
 refine seq_cut (A := Unit) (fun _ => ([(2, bS ((decide ((1 : Int) ≤ op)) && (decide (op ≤ 7))))], [], 0)) (fun _ => True) (fun K452 hK452 => ?_) (fun _ _ => ?_)
 ·refine reg_f ?_
  refine rs 3 [] [] (by kernel_rfl) allP_nil ?_
  refine run_split 5 (decide ((1 : Int) ≤ op)) (.inl (by kernel_rfl)) (fun g453 => ?_) (fun g453 => ?_)
  ·refine rs 4 [] [] (by kernel_rfl) allP_nil ?_
   refine rf [(2, bS (decide (op ≤ 7)))] [] 0 (by kernel_rfl) ?_
   exact hK452 () _ _ _ trivial (leSt_m [] [] (by (try simp only [g453]) <;> simp only [push_cast, seval]) (by (try simp only [g453]) <;> simp only [push_cast, seval]) rfl rfl rfl)
  ·refine rs 4 [] [] (by kernel_rfl) allP_nil ?_
   refine rf [(2, bS false)] [] 0 (by kernel_rfl) ?_
   exact hK452 () _ _ _ trivial (leSt_m [] [] (by (try simp only [g453]) <;> simp only [push_cast, seval]) (by (try simp only [g453]) <;> simp only [push_cast, seval]) rfl rfl rfl)
 ·dsimp only
  obtain rfl := Option.some.inj h
  refine ret_at (bS ((decide ((1 : Int) ≤ op)) && (decide (op ≤ 7)))) (by kernel_rfl) ?_
  exact ret_e [] [] (by simp only [push_cast, seval]) (by simp only [push_cast, seval]) rfl rfl rfl

set_option maxRecDepth 100000 in
set_option maxHeartbeats 200000000 in
theorem code_Do_1_spec (c : GInstr) (pc : Int) (c0 : (VArr 8)) (r : Int × (VArr 8)) (h : code_Do_1 c pc c0 = some r) : SpecW Tryd.prog 26 [.agg (Enc.cells c), iS pc, .ptr 0 0] [(0, .row 26 (Enc.cells c0))] 1 (fun x h n => x = iS r.1 ∧ h = [(0, .row 26 (Enc.cells r.2))] ∧ n = 1) := by
 unfold code_Do_1 at h
 refine spec_of (draw_ok _) Tryd.func26 rfl (by decide) rfl (by kernel_rfl) ?_
 refine seq_np ?_
 refine reg_f ?_
 refine rs 2 [] [] (by kernel_rfl) allP_nil ?_
 refine rf [(1, iS pc), (2, .ptr 0 0), (3, .ptr 1 0)] [(0, .row 26 (Enc.cells c0)), (1, .row 38 (Enc.cells c))] 2 (by kernel_rfl) ?_
 refine wk_id ?_
 refine seq_np ?_
 refine reg_f ?_
 refine rs 3 [] [] (by kernel_rfl) allP_nil ?_
 refine rf [(1, iS (IntKind.i64.wrap (pc + 1))), (2, .ptr 0 0), (3, .ptr 1 0)] [(0, .row 26 (Enc.cells c0)), (1, .row 38 (Enc.cells c))] 2 (by kernel_rfl) ?_
 refine wk_id ?_
 refine seq_np ?_
 refine seq_np ?_
 refine reg_f ?_
 refine rs 2 [] [] (by kernel_rfl) allP_nil ?_
 refine rf [(1, iS (IntKind.i64.wrap (pc + 1))), (2, .ptr 0 0), (3, .ptr 1 0), (10, iS c.Op)] [(0, .row 26 (Enc.cells c0)), (1, .row 38 (Enc.cells c))] 2 (by kernel_rfl) ?_
 refine wk_id ?_
 refine block_cut (A := (VArr 8)) (fun a => ([(1, iS (IntKind.i64.wrap (pc + 1)))], [(0, .row 26 (Enc.cells a))], 1)) (fun a => (code_Do_1_j1 pc a) = some r) (fun K551 hK551 => ?_) ?_
 ·refine seq_np ?_
  refine reg_f ?_
  refine rs 2 [] [] (by kernel_rfl) allP_nil ?_
  refine rf [(1, iS (IntKind.i64.wrap (pc + 1))), (2, .ptr 0 0), (3, .ptr 1 0), (10, iS c.Op), (11, bS (c.Op == 1))] [(0, .row 26 (Enc.cells c0)), (1, .row 38 (Enc.cells c))] 2 (by kernel_rfl) ?_
  refine wk_id ?_
  refine cond_sx h (by kernel_rfl) (fun g599 h => ?_) (fun g599 h => ?_)
  ·refine chk_sx h (fun g555 h => ?_)
   refine reg_t ?_
   have k554 : 0 ≤ c.A ∧ c.A < ((8 : Nat) : Int) := by first | simpa only [Bool.and_eq_true, decide_eq_true_eq, bne_iff_ne, ne_eq] using g555 | (simp at g555 ⊢; omega)
   refine rs 8 [none, none, none, none, none, none, some ⟨.ptr 0 (0 + (c.A).toNat * 1), [], 8, []⟩, some ⟨.any, [(0, .row 26 (Enc.cells (c0.set c.A c.B)))], 9, [0]⟩] _ (by kernel_rfl) (allP_cons (ob_sta (P := Tryd.prog) ([] : List SV) ([] : List SV) c0 c.A c.B (0 + (c.A).toNat * 1) k554 rfl 0 9 26 3 (by kernel_rfl)) (allP_cons (ob_ixa 0 0 8 1 c.A 8 k554) allP_nil)) ?_
   refine rt [(1, iS (IntKind.i64.wrap (pc + 1)))] [(0, .row 26 (Enc.cells (c0.set c.A c.B))), (1, .row 38 (Enc.cells c))] 10 follows (by kernel_rfl) ?_
   exact hK551 ((c0.set c.A c.B)) _ _ _ h (leSt_m [(0, 0)] [] (by simp only [push_cast, seval]) (by simp only [push_cast, seval]) rfl rfl rfl)
  ·refine seq_np ?_
   refine reg_f ?_
   refine rs 2 [] [] (by kernel_rfl) allP_nil ?_
   refine rf [(1, iS (IntKind.i64.wrap (pc + 1))), (2, .ptr 0 0), (3, .ptr 1 0), (10, iS c.Op), (20, bS (c.Op == 2))] [(0, .row 26 (Enc.cells c0)), (1, .row 38 (Enc.cells c))] 2 (by kernel_rfl) ?_
   refine wk_id ?_
   refine cond_sx h (by kernel_rfl) (fun g598 h => ?_) (fun g598 h => ?_)
   ·refine chk_sx h (fun g561 h => ?_)
    refine chk_sx h (fun g563 h => ?_)
    refine reg_t ?_
    have k560 : 0 ≤ c.B ∧ c.B < ((8 : Nat) : Int) := by first | simpa only [Bool.and_eq_true, decide_eq_true_eq, bne_iff_ne, ne_eq] using g561 | (simp at g561 ⊢; omega)
    have k562 : 0 ≤ c.A ∧ c.A < ((8 : Nat) : Int) := by first | simpa only [Bool.and_eq_true, decide_eq_true_eq, bne_iff_ne, ne_eq] using g563 | (simp at g563 ⊢; omega)
    refine rs 12 [none, none, none, none, none, none, none, some ⟨.ptr 0 (0 + (c.B).toNat * 1), [], 9, []⟩, some ⟨iS (c0.get c.B), [], 10, [0]⟩, none, some ⟨.ptr 0 (0 + (c.A).toNat * 1), [], 12, []⟩, some ⟨.any, [(0, .row 26 (Enc.cells (c0.set c.A (c0.get c.B))))], 13, [0]⟩] _ (by kernel_rfl) (allP_cons (ob_sta (P := Tryd.prog) ([] : List SV) ([] : List SV) c0 c.A (c0.get c.B) (0 + (c.A).toNat * 1) k562 rfl 0 13 26 3 (by kernel_rfl)) (allP_cons (ob_ixa 0 0 8 1 c.A 12 k562) (allP_cons (ob_lda ([] : List SV) ([] : List SV) c0 c.B (0 + (c.B).toNat * 1) k560 rfl (dflS Tryd.prog 3) 10 [0]) (allP_cons (ob_ixa 0 0 8 1 c.B 9 k560) allP_nil)))) ?_
    refine rt [(1, iS (IntKind.i64.wrap (pc + 1)))] [(0, .row 26 (Enc.cells (c0.set c.A (c0.get c.B)))), (1, .row 38 (Enc.cells c))] 14 follows (by kernel_rfl) ?_
    exact hK551 ((c0.set c.A (c0.get c.B))) _ _ _ h (leSt_m [(0, 0)] [] (by simp only [push_cast, seval]) (by simp only [push_cast, seval]) rfl rfl rfl)
   ·refine seq_np ?_
    refine reg_f ?_
    refine rs 2 [] [] (by kernel_rfl) allP_nil ?_
    refine rf [(1, iS (IntKind.i64.wrap (pc + 1))), (2, .ptr 0 0), (3, .ptr 1 0), (10, iS c.Op), (33, bS (c.Op == 3))] [(0, .row 26 (Enc.cells c0)), (1, .row 38 (Enc.cells c))] 2 (by kernel_rfl) ?_
    refine wk_id ?_
    refine cond_sx h (by kernel_rfl) (fun g597 h => ?_) (fun g597 h => ?_)
    ·refine chk_sx h (fun g569 h => ?_)
     refine chk_sx h (fun g571 h => ?_)
     refine reg_t ?_
     have k568 : 0 ≤ c.A ∧ c.A < ((8 : Nat) : Int) := by first | simpa only [Bool.and_eq_true, decide_eq_true_eq, bne_iff_ne, ne_eq] using g569 | (simp at g569 ⊢; omega)
     have k570 : 0 ≤ c.B ∧ c.B < ((8 : Nat) : Int) := by first | simpa only [Bool.and_eq_true, decide_eq_true_eq, bne_iff_ne, ne_eq] using g571 | (simp at g571 ⊢; omega)
     refine rs 16 [none, none, none, none, some ⟨.ptr 0 (0 + (c.A).toNat * 1), [], 6, []⟩, some ⟨iS (c0.get c.A), [], 7, [0]⟩, none, none, none, none, some ⟨.ptr 0 (0 + (c.B).toNat * 1), [], 12, []⟩, some ⟨iS (c0.get c.B), [], 13, [0]⟩, none, none, some ⟨.ptr 0 (0 + (c.A).toNat * 1), [], 16, []⟩, some ⟨.any, [(0, .row 26 (Enc.cells (c0.set c.A (IntKind.i64.wrap ((c0.get c.A) + (c0.get c.B))))))], 17, [0]⟩] _ (by kernel_rfl) (allP_cons (ob_sta (P := Tryd.prog) ([] : List SV) ([] : List SV) c0 c.A (IntKind.i64.wrap ((c0.get c.A) + (c0.get c.B))) (0 + (c.A).toNat * 1) k568 rfl 0 17 26 3 (by kernel_rfl)) (allP_cons (ob_ixa 0 0 8 1 c.A 16 k568) (allP_cons (ob_lda ([] : List SV) ([] : List SV) c0 c.B (0 + (c.B).toNat * 1) k570 rfl (dflS Tryd.prog 3) 13 [0]) (allP_cons (ob_ixa 0 0 8 1 c.B 12 k570) (allP_cons (ob_lda ([] : List SV) ([] : List SV) c0 c.A (0 + (c.A).toNat * 1) k568 rfl (dflS Tryd.prog 3) 7 [0]) (allP_cons (ob_ixa 0 0 8 1 c.A 6 k568) allP_nil)))))) ?_
     refine rt [(1, iS (IntKind.i64.wrap (pc + 1)))] [(0, .row 26 (Enc.cells (c0.set c.A (IntKind.i64.wrap ((c0.get c.A) + (c0.get c.B)))))), (1, .row 38 (Enc.cells c))] 18 follows (by kernel_rfl) ?_
     exact hK551 ((c0.set c.A (IntKind.i64.wrap ((c0.get c.A) + (c0.get c.B))))) _ _ _ h (leSt_m [(0, 0)] [] (by simp only [push_cast, seval]) (by simp only [push_cast, seval]) rfl rfl rfl)
    ·refine seq_np ?_
     refine reg_f ?_
     refine rs 2 [] [] (by kernel_rfl) allP_nil ?_
     refine rf [(1, iS (IntKind.i64.wrap (pc + 1))), (2, .ptr 0 0), (3, .ptr 1 0), (10, iS c.Op), (50, bS (c.Op == 4))] [(0, .row 26 (Enc.cells c0)), (1, .row 38 (Enc.cells c))] 2 (by kernel_rfl) ?_
     refine wk_id ?_
     refine cond_sx h (by kernel_rfl) (fun g596 h => ?_) (fun g596 h => ?_)
     ·refine chk_sx h (fun g577 h => ?_)
      refine chk_sx h (fun g579 h => ?_)
      refine reg_t ?_
      have k576 : 0 ≤ c.A ∧ c.A < ((8 : Nat) : Int) := by first | simpa only [Bool.and_eq_true, decide_eq_true_eq, bne_iff_ne, ne_eq] using g577 | (simp at g577 ⊢; omega)
      have k578 : 0 ≤ c.B ∧ c.B < ((8 : Nat) : Int) := by first | simpa only [Bool.and_eq_true, decide_eq_true_eq, bne_iff_ne, ne_eq] using g579 | (simp at g579 ⊢; omega)
      refine rs 16 [none, none, none, none, some ⟨.ptr 0 (0 + (c.A).toNat * 1), [], 6, []⟩, some ⟨iS (c0.get c.A), [], 7, [0]⟩, none, none, none, none, some ⟨.ptr 0 (0 + (c.B).toNat * 1), [], 12, []⟩, some ⟨iS (c0.get c.B), [], 13, [0]⟩, none, none, some ⟨.ptr 0 (0 + (c.A).toNat * 1), [], 16, []⟩, some ⟨.any, [(0, .row 26 (Enc.cells (c0.set c.A (IntKind.i64.wrap ((c0.get c.A) - (c0.get c.B))))))], 17, [0]⟩] _ (by kernel_rfl) (allP_cons (ob_sta (P := Tryd.prog) ([] : List SV) ([] : List SV) c0 c.A (IntKind.i64.wrap ((c0.get c.A) - (c0.get c.B))) (0 + (c.A).toNat * 1) k576 rfl 0 17 26 3 (by kernel_rfl)) (allP_cons (ob_ixa 0 0 8 1 c.A 16 k576) (allP_cons (ob_lda ([] : List SV) ([] : List SV) c0 c.B (0 + (c.B).toNat * 1) k578 rfl (dflS Tryd.prog 3) 13 [0]) (allP_cons (ob_ixa 0 0 8 1 c.B 12 k578) (allP_cons (ob_lda ([] : List SV) ([] : List SV) c0 c.A (0 + (c.A).toNat * 1) k576 rfl (dflS Tryd.prog 3) 7 [0]) (allP_cons (ob_ixa 0 0 8 1 c.A 6 k576) allP_nil)))))) ?_
      refine rt [(1, iS (IntKind.i64.wrap (pc + 1)))] [(0, .row 26 (Enc.cells (c0.set c.A (IntKind.i64.wrap ((c0.get c.A) - (c0.get c.B)))))), (1, .row 38 (Enc.cells c))] 18 follows (by kernel_rfl) ?_
      exact hK551 ((c0.set c.A (IntKind.i64.wrap ((c0.get c.A) - (c0.get c.B))))) _ _ _ h (leSt_m [(0, 0)] [] (by simp only [push_cast, seval]) (by simp only [push_cast, seval]) rfl rfl rfl)
     ·refine seq_np ?_
      refine reg_f ?_
      refine rs 2 [] [] (by kernel_rfl) allP_nil ?_
      refine rf [(1, iS (IntKind.i64.wrap (pc + 1))), (2, .ptr 0 0), (3, .ptr 1 0), (10, iS c.Op), (67, bS (c.Op == 5))] [(0, .row 26 (Enc.cells c0)), (1, .row 38 (Enc.cells c))] 2 (by kernel_rfl) ?_
      refine wk_id ?_
      refine cond_sx h (by kernel_rfl) (fun g595 h => ?_) (fun g595 h => ?_)
      ·refine chk_sx h (fun g585 h => ?_)
       refine chk_sx h (fun g587 h => ?_)
       refine reg_t ?_
       have k584 : 0 ≤ c.A ∧ c.A < ((8 : Nat) : Int) := by first | simpa only [Bool.and_eq_true, decide_eq_true_eq, bne_iff_ne, ne_eq] using g585 | (simp at g585 ⊢; omega)
       have k586 : 0 ≤ c.B ∧ c.B < ((8 : Nat) : Int) := by first | simpa only [Bool.and_eq_true, decide_eq_true_eq, bne_iff_ne, ne_eq] using g587 | (simp at g587 ⊢; omega)
       refine rs 23 [none, none, none, none, some ⟨.any, [(5, .map [(.bool true, iS 1)])], 7, [5]⟩, none, none, none, none, none, some ⟨.ptr 0 (0 + (c.A).toNat * 1), [], 13, []⟩, some ⟨iS (c0.get c.A), [], 14, [0]⟩, none, none, none, none, some ⟨.ptr 0 (0 + (c.B).toNat * 1), [], 19, []⟩, some ⟨iS (c0.get c.B), [], 20, [0]⟩, none, some ⟨iS (mbGet [(true, 1)] (decide ((c0.get c.A) < (c0.get c.B)))), [], 22, [5]⟩, none, some ⟨.ptr 0 (0 + (c.A).toNat * 1), [], 24, []⟩, some ⟨.any, [(0, .row 26 (Enc.cells (c0.set c.A (mbGet [(true, 1)] (decide ((c0.get c.A) < (c0.get c.B)))))))], 25, [0]⟩] _ (by kernel_rfl) (allP_cons (ob_sta (P := Tryd.prog) ([] : List SV) ([] : List SV) c0 c.A (mbGet [(true, 1)] (decide ((c0.get c.A) < (c0.get c.B)))) (0 + (c.A).toNat * 1) k584 rfl 0 25 26 3 (by kernel_rfl)) (allP_cons (ob_ixa 0 0 8 1 c.A 24 k584) (allP_cons (ob_lookB (decide ((c0.get c.A) < (c0.get c.B))) [(true, 1)] 5 22) (allP_cons (ob_lda ([] : List SV) ([] : List SV) c0 c.B (0 + (c.B).toNat * 1) k586 rfl (dflS Tryd.prog 3) 20 [0]) (allP_cons (ob_ixa 0 0 8 1 c.B 19 k586) (allP_cons (ob_lda ([] : List SV) ([] : List SV) c0 c.A (0 + (c.A).toNat * 1) k584 rfl (dflS Tryd.prog 3) 14 [0]) (allP_cons (ob_ixa 0 0 8 1 c.A 13 k584) (allP_cons (ob_insL .bool (.bool true) (iS 1) [] [(.bool true, iS 1)] 5 7 rfl rfl rfl) allP_nil)))))))) ?_
       refine rt [(1, iS (IntKind.i64.wrap (pc + 1)))] [(0, .row 26 (Enc.cells (c0.set c.A (mbGet [(true, 1)] (decide ((c0.get c.A) < (c0.get c.B))))))), (1, .row 38 (Enc.cells c)), (5, .map [(.bool true, iS 1)])] 26 follows (by kernel_rfl) ?_
       exact hK551 ((c0.set c.A (mbGet [(true, 1)] (decide ((c0.get c.A) < (c0.get c.B)))))) _ _ _ h (leSt_m [(0, 0)] [] (by simp only [push_cast, seval]) (by simp only [push_cast, seval]) rfl rfl rfl)
      ·refine seq_np ?_
       refine reg_f ?_
       refine rs 2 [] [] (by kernel_rfl) allP_nil ?_
       refine rf [(1, iS (IntKind.i64.wrap (pc + 1))), (2, .ptr 0 0), (3, .ptr 1 0), (10, iS c.Op), (90, bS (c.Op == 6))] [(0, .row 26 (Enc.cells c0)), (1, .row 38 (Enc.cells c))] 2 (by kernel_rfl) ?_
       refine wk_id ?_
       refine cond_sx h (by kernel_rfl) (fun g594 h => ?_) (fun g594 h => ?_)
       ·refine seq_np ?_
        refine reg_f ?_
        refine rs 3 [] [] (by kernel_rfl) allP_nil ?_
        refine rf [(6, iS c.A)] [(0, .row 26 (Enc.cells c0)), (1, .row 38 (Enc.cells c))] 2 (by kernel_rfl) ?_
        refine wk_id ?_
        obtain rfl := Option.some.inj h
        refine ret_at (iS c.A) (by kernel_rfl) ?_
        exact ret_e [(0, 0)] [] (by simp only [push_cast, seval]) (by simp only [push_cast, seval]) rfl rfl rfl
       ·refine seq_np ?_
        refine reg_f ?_
        refine rs 2 [] [] (by kernel_rfl) allP_nil ?_
        refine rf [(1, iS (IntKind.i64.wrap (pc + 1))), (2, .ptr 0 0), (3, .ptr 1 0), (94, bS (c.Op == 7))] [(0, .row 26 (Enc.cells c0)), (1, .row 38 (Enc.cells c))] 2 (by kernel_rfl) ?_
        refine wk_id ?_
        refine cond_sx h (by kernel_rfl) (fun g593 h => ?_) (fun g593 h => ?_)
        ·refine chk_sx h (fun g591 h => ?_)
         refine seq_np ?_
         refine reg_t ?_
         have k590 : 0 ≤ c.A ∧ c.A < ((8 : Nat) : Int) := by first | simpa only [Bool.and_eq_true, decide_eq_true_eq, bne_iff_ne, ne_eq] using g591 | (simp at g591 ⊢; omega)
         refine rs 7 [none, none, none, none, some ⟨.ptr 0 (0 + (c.A).toNat * 1), [], 6, []⟩, some ⟨iS (c0.get c.A), [], 7, [0]⟩] _ (by kernel_rfl) (allP_cons (ob_lda ([] : List SV) ([] : List SV) c0 c.A (0 + (c.A).toNat * 1) k590 rfl (dflS Tryd.prog 3) 7 [0]) (allP_cons (ob_ixa 0 0 8 1 c.A 6 k590) allP_nil)) ?_
         refine rt [(1, iS (IntKind.i64.wrap (pc + 1))), (3, .ptr 1 0), (102, bS ((c0.get c.A) == 0))] [(0, .row 26 (Enc.cells c0)), (1, .row 38 (Enc.cells c))] 9 follows (by kernel_rfl) ?_
         refine wk_id ?_
         refine cond_sx h (by kernel_rfl) (fun g592 h => ?_) (fun g592 h => ?_)
         ·refine seq_np ?_
          refine reg_f ?_
          refine rs 3 [] [] (by kernel_rfl) allP_nil ?_
          refine rf [(6, iS c.B)] [(0, .row 26 (Enc.cells c0)), (1, .row 38 (Enc.cells c))] 9 (by kernel_rfl) ?_
          refine wk_id ?_
          obtain rfl := Option.some.inj h
          refine ret_at (iS c.B) (by kernel_rfl) ?_
          exact ret_e [(0, 0)] [] (by simp only [push_cast, seval]) (by simp only [push_cast, seval]) rfl rfl rfl
         ·exact hK551 (c0) _ _ _ h (leSt_m [(0, 0)] [] (by simp only [push_cast, seval]) (by simp only [push_cast, seval]) rfl rfl rfl)
        ·exact hK551 (c0) _ _ _ h (leSt_m [(0, 0)] [] (by simp only [push_cast, seval]) (by simp only [push_cast, seval]) rfl rfl rfl)
 ·rintro c0q4 h
  try dsimp only at h ⊢
  unfold code_Do_1_j1 at h
  refine wk_id ?_
  refine seq_np ?_
  refine reg_f ?_
  refine rs 2 [] [] (by kernel_rfl) allP_nil ?_
  refine rf [(6, iS (IntKind.i64.wrap (pc + 1)))] [(0, .row 26 (Enc.cells c0q4))] 1 (by kernel_rfl) ?_
  refine wk_id ?_
  obtain rfl := Option.some.inj h
  refine ret_at (iS (IntKind.i64.wrap (pc + 1))) (by kernel_rfl) ?_
  exact ret_e [(0, 0)] [] (by simp only [push_cast, seval]) (by simp only [push_cast, seval]) rfl rfl rfl

set_option maxRecDepth 100000 in
set_option maxHeartbeats 200000000 in
theorem code_Run_spec (p : GProgram) (pc : Int) (regs : (VArr 8)) (fuel : Int) (r : Int × (VArr 8) × Int × Fault) (h : code_Run p pc regs fuel = some r) : SpecW Tryd.prog 11 [.agg (Enc.cells p), iS pc, .agg (Enc.cells regs), iS fuel] [] 0 (fun x h n => x = .tup [iS r.1, .agg (Enc.cells r.2.1), iS r.2.2.1, .agg (Enc.cells r.2.2.2)] ∧ h = [] ∧ n = 0) := by
 unfold code_Run at h
 refine spec_of (draw_ok _) Tryd.func11 rfl (by decide) rfl (by kernel_rfl) ?_
 refine seq_np ?_
 refine reg_f ?_
 refine rs 6 [] [] (by kernel_rfl) allP_nil ?_
 refine rf [(1, iS pc), (3, iS fuel), (4, .ptr 0 0), (6, .ptr 1 0), (9, .ptr 2 0), (11, .ptr 3 0)] [(0, .row 25 (Enc.cells p)), (1, .row 26 (Enc.cells regs)), (2, .row 26 (Enc.cells (default : (VArr 8)))), (3, .row 31 [iS 0, iS 0])] 4 (by kernel_rfl) ?_
 refine wk_id ?_
 refine seq_np ?_
 refine seq_np ?_
 refine reg_f ?_
 refine rs 1 [] [] (by kernel_rfl) allP_nil ?_
 obtain ⟨r627, hr627, h⟩ := bind_sx h
 refine run_call 10 [.agg (Enc.cells p)] (some 15) (by kernel_rfl) ?_
 refine call_0 (code_Check_spec p r627 hr627) (by simp only [push_cast, seval]) (by simp only [push_cast, seval]) ?_
 refine back_f ?_
 refine rs 2 [] [] (by kernel_rfl) allP_nil ?_
 refine rf [(1, iS pc), (3, iS fuel), (4, .ptr 0 0), (6, .ptr 1 0), (9, .ptr 2 0), (11, .ptr 3 0), (12, .ptr 4 0)] [(0, .row 25 (Enc.cells p)), (1, .row 26 (Enc.cells regs)), (2, .row 26 (Enc.cells (default : (VArr 8)))), (3, .row 31 [iS 0, iS 0]), (4, .row 31 (Enc.cells r627))] 5 (by kernel_rfl) ?_
 refine wk_id ?_
 refine seq_np ?_
 refine reg_f ?_
 refine rs 3 [] [] (by kernel_rfl) allP_nil ?_
 refine rf [(1, iS pc), (3, iS fuel), (4, .ptr 0 0), (6, .ptr 1 0), (9, .ptr 2 0), (11, .ptr 3 0), (12, .ptr 4 0), (18, bS (r627.Code != 0))] [(0, .row 25 (Enc.cells p)), (1, .row 26 (Enc.cells regs)), (2, .row 26 (Enc.cells (default : (VArr 8)))), (3, .row 31 [iS 0, iS 0]), (4, .row 31 (Enc.cells r627))] 5 (by kernel_rfl) ?_
 refine wk_id ?_
 refine cond_sx h (by kernel_rfl) (fun g761 h => ?_) (fun g761 h => ?_)
 ·refine seq_np ?_
  refine reg_t ?_
  refine rs 6 [] [] (by kernel_rfl) allP_nil ?_
  refine rt [(8, iS 0), (9, .ptr 2 0), (10, iS 0), (11, .ptr 3 0)] [(0, .row 25 (Enc.cells p)), (1, .row 26 (Enc.cells regs)), (2, .row 26 (Enc.cells (default : (VArr 8)))), (3, .row 31 (Enc.cells r627)), (4, .row 31 (Enc.cells r627))] 11 follows (by kernel_rfl) ?_
  refine wk_id ?_
  obtain rfl := Option.some.inj h
  refine ret_at (.tup [iS 0, .agg (Enc.cells (default : (VArr 8))), iS 0, .agg (Enc.cells r627)]) (by kernel_rfl) ?_
  exact ret_e [] [] (by simp only [push_cast, seval]) (by simp only [push_cast, seval]) rfl rfl rfl
 ·refine wk_id ?_
  refine seq_np ?_
  refine seq_cut (A := Unit) (fun _ => ([(1, iS pc), (3, iS fuel), (4, .ptr 0 0), (6, .ptr 1 0), (9, .ptr 2 0), (11, .ptr 3 0), (37, bS ((decide (pc < 0)) || ((decide (((p.Code.length : Nat) : Int) < pc)) || ((decide (fuel < 0)) || (decide ((5000 : Int) < fuel))))))], [(0, .row 25 (Enc.cells p)), (1, .row 26 (Enc.cells regs)), (2, .row 26 (Enc.cells (default : (VArr 8)))), (3, .row 31 [iS 0, iS 0]), (4, .row 31 (Enc.cells r627))], 5)) (fun _ => True) (fun K636 hK636 => ?_) (fun _ _ => ?_)
  ·refine reg_f ?_
   refine rs 3 [] [] (by kernel_rfl) allP_nil ?_
   refine run_split 23 (decide (pc < 0)) (.inl (by kernel_rfl)) (fun g637 => ?_) (fun g637 => ?_)
   ·refine rs 14 [] [] (by kernel_rfl) allP_nil ?_
    refine rf [(1, iS pc), (3, iS fuel), (4, .ptr 0 0), (6, .ptr 1 0), (9, .ptr 2 0), (11, .ptr 3 0), (37, bS true)] [(0, .row 25 (Enc.cells p)), (1, .row 26 (Enc.cells regs)), (2, .row 26 (Enc.cells (default : (VArr 8)))), (3, .row 31 [iS 0, iS 0]), (4, .row 31 (Enc.cells r627))] 5 (by kernel_rfl) ?_
    exact hK636 () _ _ _ trivial (leSt_m [(0, 0), (1, 1), (2, 2), (3, 3), (4, 4)] [] (by (try simp only [g637]) <;> simp only [push_cast, seval]) (by (try simp only [g637]) <;> simp only [push_cast, seval]) rfl rfl rfl)
   ·refine rs 7 [] [] (by kernel_rfl) allP_nil ?_
    refine run_split 30 (decide (((p.Code.length : Nat) : Int) < pc)) (.inl (by kernel_rfl)) (fun g638 => ?_) (fun g638 => ?_)
    ·refine rs 7 [] [] (by kernel_rfl) allP_nil ?_
     refine rf [(1, iS pc), (3, iS fuel), (4, .ptr 0 0), (6, .ptr 1 0), (9, .ptr 2 0), (11, .ptr 3 0), (37, bS true)] [(0, .row 25 (Enc.cells p)), (1, .row 26 (Enc.cells regs)), (2, .row 26 (Enc.cells (default : (VArr 8)))), (3, .row 31 [iS 0, iS 0]), (4, .row 31 (Enc.cells r627))] 5 (by kernel_rfl) ?_
     exact hK636 () _ _ _ trivial (leSt_m [(0, 0), (1, 1), (2, 2), (3, 3), (4, 4)] [] (by first | ((try simp only [g637, g638]) <;> simp only [push_cast, seval]; done) | ((try simp only [g637]); (try simp only [g638]); simp only [push_cast, seval]; done) | (exfalso; clear h; simp_all; done)) (by first | ((try simp only [g637, g638]) <;> simp only [push_cast, seval]; done) | ((try simp only [g637]); (try simp only [g638]); simp only [push_cast, seval]; done) | (exfalso; clear h; simp_all; done)) rfl rfl rfl)
    ·refine rs 4 [] [] (by kernel_rfl) allP_nil ?_
     refine run_split 34 (decide (fuel < 0)) (.inl (by kernel_rfl)) (fun g639 => ?_) (fun g639 => ?_)
     ·refine rn 14 [(1, iS pc), (3, iS fuel), (4, .ptr 0 0), (6, .ptr 1 0), (9, .ptr 2 0), (11, .ptr 3 0), (34, bS true)] [(0, .row 25 (Enc.cells p)), (1, .row 26 (Enc.cells regs)), (2, .row 26 (Enc.cells (default : (VArr 8)))), (3, .row 31 [iS 0, iS 0]), (4, .row 31 (Enc.cells r627))] 5 (by kernel_rfl) ?_
      refine rs 3 [] [] (by kernel_rfl) allP_nil ?_
      refine rf [(1, iS pc), (3, iS fuel), (4, .ptr 0 0), (6, .ptr 1 0), (9, .ptr 2 0), (11, .ptr 3 0), (37, bS true)] [(0, .row 25 (Enc.cells p)), (1, .row 26 (Enc.cells regs)), (2, .row 26 (Enc.cells (default : (VArr 8)))), (3, .row 31 [iS 0, iS 0]), (4, .row 31 (Enc.cells r627))] 5 (by kernel_rfl) ?_
      exact hK636 () _ _ _ trivial (leSt_m [(0, 0), (1, 1), (2, 2), (3, 3), (4, 4)] [] (by first | ((try simp only [g637, g638, g639]) <;> simp only [push_cast, seval]; done) | ((try simp only [g637]); (try simp only [g638]); (try simp only [g639]); simp only [push_cast, seval]; done) | (exfalso; clear h; simp_all; done)) (by first | ((try simp only [g637, g638, g639]) <;> simp only [push_cast, seval]; done) | ((try simp only [g637]); (try simp only [g638]); (try simp only [g639]); simp only [push_cast, seval]; done) | (exfalso; clear h; simp_all; done)) rfl rfl rfl)
     ·refine rn 14 [(1, iS pc), (3, iS fuel), (4, .ptr 0 0), (6, .ptr 1 0), (9, .ptr 2 0), (11, .ptr 3 0), (34, bS false)] [(0, .row 25 (Enc.cells p)), (1, .row 26 (Enc.cells regs)), (2, .row 26 (Enc.cells (default : (VArr 8)))), (3, .row 31 [iS 0, iS 0]), (4, .row 31 (Enc.cells r627))] 5 (by kernel_rfl) ?_
      refine rs 3 [] [] (by kernel_rfl) allP_nil ?_
      refine rf [(1, iS pc), (3, iS fuel), (4, .ptr 0 0), (6, .ptr 1 0), (9, .ptr 2 0), (11, .ptr 3 0), (37, bS (decide ((5000 : Int) < fuel)))] [(0, .row 25 (Enc.cells p)), (1, .row 26 (Enc.cells regs)), (2, .row 26 (Enc.cells (default : (VArr 8)))), (3, .row 31 [iS 0, iS 0]), (4, .row 31 (Enc.cells r627))] 5 (by kernel_rfl) ?_
      exact hK636 () _ _ _ trivial (leSt_m [(0, 0), (1, 1), (2, 2), (3, 3), (4, 4)] [] (by first | ((try simp only [g637, g638, g639]) <;> simp only [push_cast, seval]; done) | ((try simp only [g637]); (try simp only [g638]); (try simp only [g639]); simp only [push_cast, seval]; done) | (exfalso; clear h; simp_all; done)) (by first | ((try simp only [g637, g638, g639]) <;> simp only [push_cast, seval]; done) | ((try simp only [g637]); (try simp only [g638]); (try simp only [g639]); simp only [push_cast, seval]; done) | (exfalso; clear h; simp_all; done)) rfl rfl rfl)
  ·dsimp only
   refine cond_sx h (by kernel_rfl) (fun g760 h => ?_) (fun g760 h => ?_)
   ·refine seq_np ?_
    refine reg_f ?_
    refine rs 1 [] [] (by kernel_rfl) allP_nil ?_
    obtain ⟨r641, hr641, h⟩ := bind_sx h
    refine run_call 23 [iS 3, iS (-1)] (some 39) (by kernel_rfl) ?_
    refine call_0 (code_fault_spec 3 (-1) r641 hr641) (by simp only [push_cast, seval]) (by simp only [push_cast, seval]) ?_
    refine back_f ?_
    refine rs 4 [] [] (by kernel_rfl) allP_nil ?_
    refine rf [(8, iS 0), (9, .ptr 2 0), (10, iS 0), (11, .ptr 3 0)] [(0, .row 25 (Enc.cells p)), (1, .row 26 (Enc.cells regs)), (2, .row 26 (Enc.cells (default : (VArr 8)))), (3, .row 31 (Enc.cells r641)), (4, .row 31 (Enc.cells r627))] 5 (by kernel_rfl) ?_
    refine wk_id ?_
    obtain rfl := Option.some.inj h
    refine ret_at (.tup [iS 0, .agg (Enc.cells (default : (VArr 8))), iS 0, .agg (Enc.cells r641)]) (by kernel_rfl) ?_
    exact ret_e [] [] (by simp only [push_cast, seval]) (by simp only [push_cast, seval]) rfl rfl rfl
   ·refine wk_id ?_
    refine seq_np ?_
    refine reg_f ?_
    refine rs 1 [] [] (by kernel_rfl) allP_nil ?_
    refine rf [(1, iS pc), (3, iS fuel), (4, .ptr 0 0), (6, .ptr 1 0), (9, .ptr 2 0), (11, .ptr 3 0), (13, iS 0)] [(0, .row 25 (Enc.cells p)), (1, .row 26 (Enc.cells regs)), (2, .row 26 (Enc.cells (default : (VArr 8)))), (3, .row 31 [iS 0, iS 0]), (4, .row 31 (Enc.cells r627))] 5 (by kernel_rfl) ?_
    refine wk_id ?_
    refine seq_np ?_
    refine block_np ?_
    refine loop_sx (S := Int × Int × (VArr 8)) (fun a => ([(1, iS a.1), (3, iS fuel), (4, .ptr 0 0), (6, .ptr 1 0), (9, .ptr 2 0), (11, .ptr 3 0), (13, iS a.2.1)], [(0, .row 25 (Enc.cells p)), (1, .row 26 (Enc.cells a.2.2)), (2, .row 26 (Enc.cells (default : (VArr 8)))), (3, .row 31 [iS 0, iS 0])], 4)) h (leSt_m [(0, 0), (1, 1), (2, 2), (3, 3)] [] (by simp only [push_cast, seval]) (by simp only [push_cast, seval]) rfl rfl rfl) ?_
    rintro ⟨pc8, n7, c1q7⟩ o2 R2 h hr2 hn2 hx2 ht2
    try dsimp only at h hn2 ⊢
    unfold code_Run_l1 at h
    try dsimp only at h
    refine seq_np ?_
    refine seq_cut (A := Bool) (fun a => ([(1, iS pc8), (3, iS fuel), (4, .ptr 0 0), (6, .ptr 1 0), (9, .ptr 2 0), (11, .ptr 3 0), (13, iS n7), (58, bS a)], [(0, .row 25 (Enc.cells p)), (1, .row 26 (Enc.cells c1q7)), (2, .row 26 (Enc.cells (default : (VArr 8)))), (3, .row 31 [iS 0, iS 0])], 4)) (fun a => (code_Run_j1 p fuel pc8 n7 c1q7 a) = some o2) (fun K747 hK747 => ?_) ?_
    ·refine reg_f ?_
     refine rs 4 [] [] (by kernel_rfl) allP_nil ?_
     refine run_br h 43 (.inl (by kernel_rfl)) (fun g748 h => ?_) (fun g748 h => ?_)
     ·refine rs 7 [] [] (by kernel_rfl) allP_nil ?_
      refine run_br h 50 (.inl (by kernel_rfl)) (fun g749 h => ?_) (fun g749 h => ?_)
      ·refine chk_sx h (fun g751 h => ?_)
       have k750 : 0 ≤ pc8 ∧ pc8 < ((p.Code.length : Nat) : Int) := by first | simpa only [Bool.and_eq_true, decide_eq_true_eq, bne_iff_ne, ne_eq] using g751 | (simp at g751 ⊢; omega)
       refine rs 6 [none, none, none, some ⟨.iptr (fl p.Code) ((pc8).toNat * 3), [], 4, []⟩, none, some ⟨iS (ix p.Code pc8).Op, [], 4, []⟩] _ (by kernel_rfl) (allP_cons (ob_ld p.Code pc8 3 0 (((pc8).toNat * 3) + 0) k750 rfl (by decide) (by first | rfl | omega) (dflS Tryd.prog 3) (iS (ix p.Code pc8).Op) rfl 4 []) (allP_cons (ob_ix_l p.Code 3 4 pc8 k750) allP_nil)) ?_
       obtain ⟨r752, hr752, h⟩ := bind_sx h
       refine run_call 25 [iS (ix p.Code pc8).Op] (some 57) (by kernel_rfl) ?_
       refine call_0 (code_Local_spec (ix p.Code pc8).Op r752 hr752) (by simp only [push_cast, seval]) (by simp only [push_cast, seval]) ?_
       refine back_f ?_
       refine rs 1 [] [] (by kernel_rfl) allP_nil ?_
       refine rf [(1, iS pc8), (3, iS fuel), (4, .ptr 0 0), (6, .ptr 1 0), (9, .ptr 2 0), (11, .ptr 3 0), (13, iS n7), (58, bS r752)] [(0, .row 25 (Enc.cells p)), (1, .row 26 (Enc.cells c1q7)), (2, .row 26 (Enc.cells (default : (VArr 8)))), (3, .row 31 [iS 0, iS 0])] 4 (by kernel_rfl) ?_
       exact hK747 (r752) _ _ _ h (leSt_m [(0, 0), (1, 1), (2, 2), (3, 3)] [] (by first | ((try simp only [g748, g749]) <;> simp only [push_cast, seval]; done) | ((try simp only [g748]); (try simp only [g749]); simp only [push_cast, seval]; done) | (exfalso; clear h; simp_all; done)) (by first | ((try simp only [g748, g749]) <;> simp only [push_cast, seval]; done) | ((try simp only [g748]); (try simp only [g749]); simp only [push_cast, seval]; done) | (exfalso; clear h; simp_all; done)) rfl rfl rfl)
      ·refine rs 8 [] [] (by kernel_rfl) allP_nil ?_
       refine rf [(1, iS pc8), (3, iS fuel), (4, .ptr 0 0), (6, .ptr 1 0), (9, .ptr 2 0), (11, .ptr 3 0), (13, iS n7), (58, bS false)] [(0, .row 25 (Enc.cells p)), (1, .row 26 (Enc.cells c1q7)), (2, .row 26 (Enc.cells (default : (VArr 8)))), (3, .row 31 [iS 0, iS 0])] 4 (by kernel_rfl) ?_
       exact hK747 (false) _ _ _ h (leSt_m [(0, 0), (1, 1), (2, 2), (3, 3)] [] (by first | ((try simp only [g748, g749]) <;> simp only [push_cast, seval]; done) | ((try simp only [g748]); (try simp only [g749]); simp only [push_cast, seval]; done) | (exfalso; clear h; simp_all; done)) (by first | ((try simp only [g748, g749]) <;> simp only [push_cast, seval]; done) | ((try simp only [g748]); (try simp only [g749]); simp only [push_cast, seval]; done) | (exfalso; clear h; simp_all; done)) rfl rfl rfl)
     ·refine rs 15 [] [] (by kernel_rfl) allP_nil ?_
      refine rf [(1, iS pc8), (3, iS fuel), (4, .ptr 0 0), (6, .ptr 1 0), (9, .ptr 2 0), (11, .ptr 3 0), (13, iS n7), (58, bS false)] [(0, .row 25 (Enc.cells p)), (1, .row 26 (Enc.cells c1q7)), (2, .row 26 (Enc.cells (default : (VArr 8)))), (3, .row 31 [iS 0, iS 0])] 4 (by kernel_rfl) ?_
      exact hK747 (false) _ _ _ h (leSt_m [(0, 0), (1, 1), (2, 2), (3, 3)] [] (by (try simp only [g748]) <;> simp only [push_cast, seval]) (by (try simp only [g748]) <;> simp only [push_cast, seval]) rfl rfl rfl)
    ·rintro t58q12 h
     try dsimp only at h ⊢
     unfold code_Run_j1 at h
     refine cond_sx h (by kernel_rfl) (fun g759 h => ?_) (fun g759 h => ?_)
     ·refine wk_id ?_
      refine block_np ?_
      refine chk_sx h (fun g757 h => ?_)
      refine seq_np ?_
      refine reg_f ?_
      have k756 : 0 ≤ pc8 ∧ pc8 < ((p.Code.length : Nat) : Int) := by first | simpa only [Bool.and_eq_true, decide_eq_true_eq, bne_iff_ne, ne_eq] using g757 | (simp at g757 ⊢; omega)
      refine rs 6 [none, none, none, some ⟨.iptr (fl p.Code) ((pc8).toNat * 3), [], 4, []⟩, some ⟨.agg (Enc.cells (ix p.Code pc8)), [], 4, []⟩] _ (by kernel_rfl) (allP_cons (ob_ldw p.Code pc8 3 ((pc8).toNat * 3) k756 rfl (by first | rfl | omega) (Enc.cells (ix p.Code pc8)) rfl 4 []) (allP_cons (ob_ix_l p.Code 3 4 pc8 k756) allP_nil)) ?_
      obtain ⟨r758, hr758, h⟩ := bind_sx h
      refine call_x (code_Do_1_spec (ix p.Code pc8) pc8 c1q7 r758 hr758) (args := [.agg (Enc.cells (ix p.Code pc8)), iS pc8, .ptr 1 0]) (dst := (some 65)) (by kernel_rfl) [(0, .row 25 (Enc.cells p)), (1, .row 26 (Enc.cells c1q7)), (2, .row 26 (Enc.cells (default : (VArr 8)))), (3, .row 31 [iS 0, iS 0])] 4 (by kernel_rfl) [(0, 1)] [] (iS r758.1) [(1, .row 26 (Enc.cells r758.2)), (1, .dead)] (by simp only [push_cast, seval]) (by simp only [push_cast, seval]) (by kernel_rfl) (.inl rfl) (by simp only [push_cast, seval]) (by simp only [push_cast, seval]) ?_
      refine rs 1 [] [] (by kernel_rfl) allP_nil ?_
      refine rf [(1, iS r758.1), (3, iS fuel), (4, .ptr 0 0), (6, .ptr 1 0), (9, .ptr 2 0), (11, .ptr 3 0), (13, iS n7)] [(0, .row 25 (Enc.cells p)), (1, .row 26 (Enc.cells r758.2)), (2, .row 26 (Enc.cells (default : (VArr 8)))), (3, .row 31 [iS 0, iS 0])] 5 (by kernel_rfl) ?_
      refine wk_id ?_
      refine reg_f ?_
      refine rs 3 [] [] (by kernel_rfl) allP_nil ?_
      refine rf [(1, iS r758.1), (3, iS fuel), (4, .ptr 0 0), (6, .ptr 1 0), (9, .ptr 2 0), (11, .ptr 3 0), (13, iS (IntKind.i64.wrap (n7 + 1)))] [(0, .row 25 (Enc.cells p)), (1, .row 26 (Enc.cells r758.2)), (2, .row 26 (Enc.cells (default : (VArr 8)))), (3, .row 31 [iS 0, iS 0])] 5 (by kernel_rfl) ?_
      refine wk_id ?_
      exact hn2 (r758.1, (IntKind.i64.wrap (n7 + 1)), r758.2) _ _ _ (Option.some.inj h).symm (leSt_m [(0, 0), (1, 1), (2, 2), (3, 3)] [] (by simp only [push_cast, seval]) (by simp only [push_cast, seval]) rfl rfl rfl)
     ·change R2 (.exit 0) _ _ _
      refine ex_cast hx2 (id := 0) ?_
      obtain ⟨r0, h, e0⟩ := map_sx h
      have e1 := hr2 r0 e0.symm
      subst r0
      refine wk_id ?_
      refine wk_id ?_
      refine seq_np ?_
      refine reg_t ?_
      refine rs 8 [] [] (by kernel_rfl) allP_nil ?_
      refine rt [(8, iS pc8), (9, .ptr 2 0), (10, iS n7), (11, .ptr 3 0)] [(0, .row 25 (Enc.cells p)), (1, .row 26 (Enc.cells c1q7)), (2, .row 26 (Enc.cells c1q7)), (3, .row 31 [iS 0, iS 0])] 12 follows (by kernel_rfl) ?_
      refine wk_id ?_
      obtain rfl := Option.some.inj h
      refine ret_at (.tup [iS pc8, .agg (Enc.cells c1q7), iS n7, .agg [iS 0, iS 0]]) (by kernel_rfl) ?_
      exact ret_e [] [] (by simp only [push_cast, seval]) (by simp only [push_cast, seval]) rfl rfl rfl

set_option maxRecDepth 100000 in
set_option maxHeartbeats 200000000 in
theorem taskmilllaw_CodeHalves_spec (p : GProgram) (pc : Int) (regs : (VArr 8)) (m : Int) (n : Int) (r : Bool) (h : taskmilllaw_CodeHalves p pc regs m n = some r) : SpecW Tryd.prog 4 [.agg (Enc.cells p), iS pc, .agg (Enc.cells regs), iS m, iS n] [] 0 (fun x h n => x = bS r ∧ h = [] ∧ n = 0) := by
 unfold taskmilllaw_CodeHalves at h
 refine spec_of (draw_ok _) Tryd.func4 rfl (by decide) rfl (by kernel_rfl) ?_
 refine seq_np ?_
 refine reg_f ?_
 refine rs 3 [] [] (by kernel_rfl) allP_nil ?_
 refine rf [(1, iS pc), (3, iS m), (4, iS n), (5, .ptr 0 0), (7, .ptr 1 0)] [(0, .row 25 (Enc.cells p)), (1, .row 26 (Enc.cells regs))] 2 (by kernel_rfl) ?_
 refine wk_id ?_
 refine seq_np ?_
 refine seq_np ?_
 refine reg_f ?_
 obtain ⟨r1749, hr1749, h⟩ := bind_sx h
 refine run_call 7 [] (some 22) (by kernel_rfl) ?_
 refine call_0 (taskmilllaw_codeBegun_spec r1749 hr1749) (by simp only [push_cast, seval]) (by simp only [push_cast, seval]) ?_
 refine back_f ?_
 refine rs 1 [] [] (by kernel_rfl) allP_nil ?_
 refine rf [(1, iS pc), (3, iS m), (4, iS n), (5, .ptr 0 0), (7, .ptr 1 0), (23, bS (!r1749))] [(0, .row 25 (Enc.cells p)), (1, .row 26 (Enc.cells regs))] 2 (by kernel_rfl) ?_
 refine wk_id ?_
 refine cond_sx h (by kernel_rfl) (fun g1813 h => ?_) (fun g1813 h => ?_)
 ·refine seq_np ?_
  refine reg_f ?_
  refine rs 1 [] [] (by kernel_rfl) allP_nil ?_
  refine rf [(10, bS false)] [(0, .row 25 (Enc.cells p)), (1, .row 26 (Enc.cells regs))] 2 (by kernel_rfl) ?_
  refine wk_id ?_
  obtain rfl := Option.some.inj h
  refine ret_at (bS false) (by kernel_rfl) ?_
  exact ret_e [] [] (by simp only [push_cast, seval]) (by simp only [push_cast, seval]) rfl rfl rfl
 ·refine wk_id ?_
  refine seq_np ?_
  refine seq_cut (A := Bool) (fun a => ([(1, iS pc), (3, iS m), (4, iS n), (5, .ptr 0 0), (7, .ptr 1 0), (41, bS a)], [(0, .row 25 (Enc.cells p)), (1, .row 26 (Enc.cells regs))], 2)) (fun a => (taskmilllaw_CodeHalves_j1 p pc regs m n a) = some r) (fun K1764 hK1764 => ?_) ?_
  ·refine reg_f ?_
   refine rs 1 [] [] (by kernel_rfl) allP_nil ?_
   obtain ⟨r1765, hr1765, h⟩ := bind_sx h
   refine run_call 8 [.agg (Enc.cells p)] (some 25) (by kernel_rfl) ?_
   refine call_0 (taskmilllaw_vastProgram_spec p r1765 hr1765) (by simp only [push_cast, seval]) (by simp only [push_cast, seval]) ?_
   refine back_f ?_
   refine rs 1 [] [] (by kernel_rfl) allP_nil ?_
   refine run_br h 26 (.inl (by kernel_rfl)) (fun g1766 h => ?_) (fun g1766 h => ?_)
   ·refine rs 15 [] [] (by kernel_rfl) allP_nil ?_
    refine rf [(1, iS pc), (3, iS m), (4, iS n), (5, .ptr 0 0), (7, .ptr 1 0), (41, bS true)] [(0, .row 25 (Enc.cells p)), (1, .row 26 (Enc.cells regs))] 2 (by kernel_rfl) ?_
    exact hK1764 (true) _ _ _ h (leSt_m [(0, 0), (1, 1)] [] (by (try simp only [g1766]) <;> simp only [push_cast, seval]) (by (try simp only [g1766]) <;> simp only [push_cast, seval]) rfl rfl rfl)
   ·refine rs 4 [] [] (by kernel_rfl) allP_nil ?_
    refine run_br h 30 (.inl (by kernel_rfl)) (fun g1767 h => ?_) (fun g1767 h => ?_)
    ·refine rn 7 [(1, iS pc), (3, iS m), (4, iS n), (5, .ptr 0 0), (7, .ptr 1 0), (30, bS true)] [(0, .row 25 (Enc.cells p)), (1, .row 26 (Enc.cells regs))] 2 (by kernel_rfl) ?_
     refine rs 11 [] [] (by kernel_rfl) allP_nil ?_
     refine rf [(1, iS pc), (3, iS m), (4, iS n), (5, .ptr 0 0), (7, .ptr 1 0), (41, bS true)] [(0, .row 25 (Enc.cells p)), (1, .row 26 (Enc.cells regs))] 2 (by kernel_rfl) ?_
     exact hK1764 (true) _ _ _ h (leSt_m [(0, 0), (1, 1)] [] (by first | ((try simp only [g1766, g1767]) <;> simp only [push_cast, seval]; done) | ((try simp only [g1766]); (try simp only [g1767]); simp only [push_cast, seval]; done) | (exfalso; clear h; simp_all; done)) (by first | ((try simp only [g1766, g1767]) <;> simp only [push_cast, seval]; done) | ((try simp only [g1766]); (try simp only [g1767]); simp only [push_cast, seval]; done) | (exfalso; clear h; simp_all; done)) rfl rfl rfl)
    ·refine rn 7 [(1, iS pc), (3, iS m), (4, iS n), (5, .ptr 0 0), (7, .ptr 1 0), (30, bS false)] [(0, .row 25 (Enc.cells p)), (1, .row 26 (Enc.cells regs))] 2 (by kernel_rfl) ?_
     refine rs 4 [] [] (by kernel_rfl) allP_nil ?_
     refine run_br h 34 (.inl (by kernel_rfl)) (fun g1768 h => ?_) (fun g1768 h => ?_)
     ·refine rs 7 [] [] (by kernel_rfl) allP_nil ?_
      refine rf [(1, iS pc), (3, iS m), (4, iS n), (5, .ptr 0 0), (7, .ptr 1 0), (41, bS true)] [(0, .row 25 (Enc.cells p)), (1, .row 26 (Enc.cells regs))] 2 (by kernel_rfl) ?_
      exact hK1764 (true) _ _ _ h (leSt_m [(0, 0), (1, 1)] [] (by first | ((try simp only [g1766, g1767, g1768]) <;> simp only [push_cast, seval]; done) | ((try simp only [g1766]); (try simp only [g1767]); (try simp only [g1768]); simp only [push_cast, seval]; done) | (exfalso; clear h; simp_all; done)) (by first | ((try simp only [g1766, g1767, g1768]) <;> simp only [push_cast, seval]; done) | ((try simp only [g1766]); (try simp only [g1767]); (try simp only [g1768]); simp only [push_cast, seval]; done) | (exfalso; clear h; simp_all; done)) rfl rfl rfl)
     ·refine rs 4 [] [] (by kernel_rfl) allP_nil ?_
      refine run_br h 38 (.inl (by kernel_rfl)) (fun g1769 h => ?_) (fun g1769 h => ?_)
      ·refine rs 3 [] [] (by kernel_rfl) allP_nil ?_
       refine rf [(1, iS pc), (3, iS m), (4, iS n), (5, .ptr 0 0), (7, .ptr 1 0), (41, bS true)] [(0, .row 25 (Enc.cells p)), (1, .row 26 (Enc.cells regs))] 2 (by kernel_rfl) ?_
       exact hK1764 (true) _ _ _ h (leSt_m [(0, 0), (1, 1)] [] (by first | ((try simp only [g1766, g1767, g1768, g1769]) <;> simp only [push_cast, seval]; done) | ((try simp only [g1766]); (try simp only [g1767]); (try simp only [g1768]); (try simp only [g1769]); simp only [push_cast, seval]; done) | (exfalso; clear h; simp_all; done)) (by first | ((try simp only [g1766, g1767, g1768, g1769]) <;> simp only [push_cast, seval]; done) | ((try simp only [g1766]); (try simp only [g1767]); (try simp only [g1768]); (try simp only [g1769]); simp only [push_cast, seval]; done) | (exfalso; clear h; simp_all; done)) rfl rfl rfl)
      ·refine rs 3 [] [] (by kernel_rfl) allP_nil ?_
       refine rf [(1, iS pc), (3, iS m), (4, iS n), (5, .ptr 0 0), (7, .ptr 1 0), (41, bS (decide ((2000 : Int) < n)))] [(0, .row 25 (Enc.cells p)), (1, .row 26 (Enc.cells regs))] 2 (by kernel_rfl) ?_
       exact hK1764 ((decide ((2000 : Int) < n))) _ _ _ h (leSt_m [(0, 0), (1, 1)] [] (by first | ((try simp only [g1766, g1767, g1768, g1769]) <;> simp only [push_cast, seval]; done) | ((try simp only [g1766]); (try simp only [g1767]); (try simp only [g1768]); (try simp only [g1769]); simp only [push_cast, seval]; done) | (exfalso; clear h; simp_all; done)) (by first | ((try simp only [g1766, g1767, g1768, g1769]) <;> simp only [push_cast, seval]; done) | ((try simp only [g1766]); (try simp only [g1767]); (try simp only [g1768]); (try simp only [g1769]); simp only [push_cast, seval]; done) | (exfalso; clear h; simp_all; done)) rfl rfl rfl)
  ·rintro t41q2 h
   try dsimp only at h ⊢
   unfold taskmilllaw_CodeHalves_j1 at h
   refine cond_sx h (by kernel_rfl) (fun g1812 h => ?_) (fun g1812 h => ?_)
   ·refine seq_np ?_
    refine reg_f ?_
    refine rs 1 [] [] (by kernel_rfl) allP_nil ?_
    refine rf [(10, bS true)] [(0, .row 25 (Enc.cells p)), (1, .row 26 (Enc.cells regs))] 2 (by kernel_rfl) ?_
    refine wk_id ?_
    obtain rfl := Option.some.inj h
    refine ret_at (bS true) (by kernel_rfl) ?_
    exact ret_e [] [] (by simp only [push_cast, seval]) (by simp only [push_cast, seval]) rfl rfl rfl
   ·refine wk_id ?_
    refine seq_np ?_
    refine reg_f ?_
    refine rs 4 [] [] (by kernel_rfl) allP_nil ?_
    obtain ⟨r1771, hr1771, h⟩ := bind_sx h
    refine run_call 11 [.agg (Enc.cells p), iS pc, .agg (Enc.cells regs), iS m] (some 47) (by kernel_rfl) ?_
    refine call_0 (code_Run_spec p pc regs m r1771 hr1771) (by simp only [push_cast, seval]) (by simp only [push_cast, seval]) ?_
    refine back_f ?_
    refine rs 11 [] [] (by kernel_rfl) allP_nil ?_
    refine rf [(1, iS pc), (3, iS m), (4, iS n), (5, .ptr 0 0), (7, .ptr 1 0), (11, iS r1771.1), (12, .ptr 2 0), (13, iS r1771.2.2.1), (14, .ptr 3 0)] [(0, .row 25 (Enc.cells p)), (1, .row 26 (Enc.cells regs)), (2, .row 26 (Enc.cells r1771.2.1)), (3, .row 31 (Enc.cells r1771.2.2.2))] 4 (by kernel_rfl) ?_
    refine wk_id ?_
    refine seq_np ?_
    refine seq_np ?_
    refine reg_f ?_
    refine rs 3 [] [] (by kernel_rfl) allP_nil ?_
    refine rf [(1, iS pc), (3, iS m), (4, iS n), (5, .ptr 0 0), (7, .ptr 1 0), (11, iS r1771.1), (12, .ptr 2 0), (13, iS r1771.2.2.1), (14, .ptr 3 0), (54, bS (r1771.2.2.2.Code != 0))] [(0, .row 25 (Enc.cells p)), (1, .row 26 (Enc.cells regs)), (2, .row 26 (Enc.cells r1771.2.1)), (3, .row 31 (Enc.cells r1771.2.2.2))] 4 (by kernel_rfl) ?_
    refine wk_id ?_
    refine cond_sx h (by kernel_rfl) (fun g1811 h => ?_) (fun g1811 h => ?_)
    ·refine seq_np ?_
     refine reg_f ?_
     refine rs 1 [] [] (by kernel_rfl) allP_nil ?_
     refine rf [(10, bS true)] [(0, .row 25 (Enc.cells p)), (1, .row 26 (Enc.cells regs)), (2, .row 26 (Enc.cells r1771.2.1)), (3, .row 31 (Enc.cells r1771.2.2.2))] 4 (by kernel_rfl) ?_
     refine wk_id ?_
     obtain rfl := Option.some.inj h
     refine ret_at (bS true) (by kernel_rfl) ?_
     exact ret_e [] [] (by simp only [push_cast, seval]) (by simp only [push_cast, seval]) rfl rfl rfl
    ·refine wk_id ?_
     refine seq_np ?_
     refine reg_f ?_
     refine rs 4 [] [] (by kernel_rfl) allP_nil ?_
     obtain ⟨r1774, hr1774, h⟩ := bind_sx h
     refine run_call 11 [.agg (Enc.cells p), iS r1771.1, .agg (Enc.cells r1771.2.1), iS n] (some 60) (by kernel_rfl) ?_
     refine call_0 (code_Run_spec p r1771.1 r1771.2.1 n r1774 hr1774) (by simp only [push_cast, seval]) (by simp only [push_cast, seval]) ?_
     refine back_f ?_
     refine rs 10 [] [] (by kernel_rfl) allP_nil ?_
     refine rf [(1, iS pc), (3, iS m), (4, iS n), (5, .ptr 0 0), (7, .ptr 1 0), (13, iS r1771.2.2.1), (14, .ptr 3 0), (15, iS r1774.1), (16, .ptr 4 0), (17, iS r1774.2.2.1)] [(0, .row 25 (Enc.cells p)), (1, .row 26 (Enc.cells regs)), (2, .row 26 (Enc.cells r1771.2.1)), (3, .row 31 (Enc.cells r1774.2.2.2)), (4, .row 26 (Enc.cells r1774.2.1))] 5 (by kernel_rfl) ?_
     refine wk_id ?_
     refine seq_np ?_
     refine reg_f ?_
     refine rs 6 [] [] (by kernel_rfl) allP_nil ?_
     obtain ⟨r1776, hr1776, h⟩ := bind_sx h
     refine run_call 11 [.agg (Enc.cells p), iS pc, .agg (Enc.cells regs), iS (IntKind.i64.wrap (m + n))] (some 72) (by kernel_rfl) ?_
     refine call_0 (code_Run_spec p pc regs (IntKind.i64.wrap (m + n)) r1776 hr1776) (by simp only [push_cast, seval]) (by simp only [push_cast, seval]) ?_
     refine back_f ?_
     refine rs 11 [] [] (by kernel_rfl) allP_nil ?_
     refine rf [(3, iS m), (4, iS n), (5, .ptr 0 0), (13, iS r1771.2.2.1), (14, .ptr 3 0), (15, iS r1774.1), (16, .ptr 4 0), (17, iS r1774.2.2.1), (18, iS r1776.1), (19, .ptr 5 0), (20, iS r1776.2.2.1), (21, .ptr 6 0)] [(0, .row 25 (Enc.cells p)), (1, .row 26 (Enc.cells regs)), (2, .row 26 (Enc.cells r1771.2.1)), (3, .row 31 (Enc.cells r1774.2.2.2)), (4, .row 26 (Enc.cells r1774.2.1)), (5, .row 26 (Enc.cells r1776.2.1)), (6, .row 31 (Enc.cells r1776.2.2.2))] 7 (by kernel_rfl) ?_
     refine wk_id ?_
     refine seq_np ?_
     refine seq_cut (A := Unit) (fun _ => ([(3, iS m), (4, iS n), (5, .ptr 0 0), (18, iS r1776.1), (20, iS r1776.2.2.1), (113, bS ((r1774.2.2.2.Code != 0) || ((r1776.2.2.2.Code != 0) || ((r1774.1 != r1776.1) || ((!((r1774.2.1.c0 == r1776.2.1.c0) && ((r1774.2.1.c1 == r1776.2.1.c1) && ((r1774.2.1.c2 == r1776.2.1.c2) && ((r1774.2.1.c3 == r1776.2.1.c3) && ((r1774.2.1.c4 == r1776.2.1.c4) && ((r1774.2.1.c5 == r1776.2.1.c5) && ((r1774.2.1.c6 == r1776.2.1.c6) && ((r1774.2.1.c7 == r1776.2.1.c7) && true))))))))) || (((IntKind.i64.wrap (r1771.2.2.1 + r1774.2.2.1)) != r1776.2.2.1) || ((decide (m < r1771.2.2.1)) || (decide ((IntKind.i64.wrap (m + n)) < r1776.2.2.1)))))))))], [(0, .row 25 (Enc.cells p)), (1, .row 26 (Enc.cells regs)), (2, .row 26 (Enc.cells r1771.2.1)), (3, .row 31 (Enc.cells r1774.2.2.2)), (4, .row 26 (Enc.cells r1774.2.1)), (5, .row 26 (Enc.cells r1776.2.1)), (6, .row 31 (Enc.cells r1776.2.2.2))], 7)) (fun _ => True) (fun K1790 hK1790 => ?_) (fun _ _ => ?_)
     ·refine reg_f ?_
      refine rs 4 [] [] (by kernel_rfl) allP_nil ?_
      refine run_split 80 (r1774.2.2.2.Code != 0) (.inl (by kernel_rfl)) (fun g1791 => ?_) (fun g1791 => ?_)
      ·refine rs 33 [] [] (by kernel_rfl) allP_nil ?_
       refine rf [(3, iS m), (4, iS n), (5, .ptr 0 0), (18, iS r1776.1), (20, iS r1776.2.2.1), (113, bS true)] [(0, .row 25 (Enc.cells p)), (1, .row 26 (Enc.cells regs)), (2, .row 26 (Enc.cells r1771.2.1)), (3, .row 31 (Enc.cells r1774.2.2.2)), (4, .row 26 (Enc.cells r1774.2.1)), (5, .row 26 (Enc.cells r1776.2.1)), (6, .row 31 (Enc.cells r1776.2.2.2))] 7 (by kernel_rfl) ?_
       exact hK1790 () _ _ _ trivial (leSt_m [(0, 0), (1, 1), (2, 2), (3, 3), (4, 4), (5, 5), (6, 6)] [] (by (try simp only [g1791]) <;> simp only [push_cast, seval]) (by (try simp only [g1791]) <;> simp only [push_cast, seval]) rfl rfl rfl)
      ·refine rs 5 [] [] (by kernel_rfl) allP_nil ?_
       refine run_split 85 (r1776.2.2.2.Code != 0) (.inl (by kernel_rfl)) (fun g1792 => ?_) (fun g1792 => ?_)
       ·refine rs 28 [] [] (by kernel_rfl) allP_nil ?_
        refine rf [(3, iS m), (4, iS n), (5, .ptr 0 0), (18, iS r1776.1), (20, iS r1776.2.2.1), (113, bS true)] [(0, .row 25 (Enc.cells p)), (1, .row 26 (Enc.cells regs)), (2, .row 26 (Enc.cells r1771.2.1)), (3, .row 31 (Enc.cells r1774.2.2.2)), (4, .row 26 (Enc.cells r1774.2.1)), (5, .row 26 (Enc.cells r1776.2.1)), (6, .row 31 (Enc.cells r1776.2.2.2))] 7 (by kernel_rfl) ?_
        exact hK1790 () _ _ _ trivial (leSt_m [(0, 0), (1, 1), (2, 2), (3, 3), (4, 4), (5, 5), (6, 6)] [] (by first | ((try simp only [g1791, g1792]) <;> simp only [push_cast, seval]; done) | ((try simp only [g1791]); (try simp only [g1792]); simp only [push_cast, seval]; done) | (exfalso; clear h; simp_all; done)) (by first | ((try simp only [g1791, g1792]) <;> simp only [push_cast, seval]; done) | ((try simp only [g1791]); (try simp only [g1792]); simp only [push_cast, seval]; done) | (exfalso; clear h; simp_all; done)) rfl rfl rfl)
       ·refine rs 5 [] [] (by kernel_rfl) allP_nil ?_
        refine run_split 90 (r1774.1 != r1776.1) (.inl (by kernel_rfl)) (fun g1793 => ?_) (fun g1793 => ?_)
        ·refine rn 14 [(3, iS m), (4, iS n), (5, .ptr 0 0), (13, iS r1771.2.2.1), (16, .ptr 4 0), (17, iS r1774.2.2.1), (18, iS r1776.1), (19, .ptr 5 0), (20, iS r1776.2.2.1), (90, bS true)] [(0, .row 25 (Enc.cells p)), (1, .row 26 (Enc.cells regs)), (2, .row 26 (Enc.cells r1771.2.1)), (3, .row 31 (Enc.cells r1774.2.2.2)), (4, .row 26 (Enc.cells r1774.2.1)), (5, .row 26 (Enc.cells r1776.2.1)), (6, .row 31 (Enc.cells r1776.2.2.2))] 7 (by kernel_rfl) ?_
         refine rs 23 [] [] (by kernel_rfl) allP_nil ?_
         refine rf [(3, iS m), (4, iS n), (5, .ptr 0 0), (18, iS r1776.1), (20, iS r1776.2.2.1), (113, bS true)] [(0, .row 25 (Enc.cells p)), (1, .row 26 (Enc.cells regs)), (2, .row 26 (Enc.cells r1771.2.1)), (3, .row 31 (Enc.cells r1774.2.2.2)), (4, .row 26 (Enc.cells r1774.2.1)), (5, .row 26 (Enc.cells r1776.2.1)), (6, .row 31 (Enc.cells r1776.2.2.2))] 7 (by kernel_rfl) ?_
         exact hK1790 () _ _ _ trivial (leSt_m [(0, 0), (1, 1), (2, 2), (3, 3), (4, 4), (5, 5), (6, 6)] [] (by first | ((try simp only [g1791, g1792, g1793]) <;> simp only [push_cast, seval]; done) | ((try simp only [g1791]); (try simp only [g1792]); (try simp only [g1793]); simp only [push_cast, seval]; done) | (exfalso; clear h; simp_all; done)) (by first | ((try simp only [g1791, g1792, g1793]) <;> simp only [push_cast, seval]; done) | ((try simp only [g1791]); (try simp only [g1792]); (try simp only [g1793]); simp only [push_cast, seval]; done) | (exfalso; clear h; simp_all; done)) rfl rfl rfl)
        ·refine rn 14 [(3, iS m), (4, iS n), (5, .ptr 0 0), (13, iS r1771.2.2.1), (16, .ptr 4 0), (17, iS r1774.2.2.1), (18, iS r1776.1), (19, .ptr 5 0), (20, iS r1776.2.2.1), (90, bS false)] [(0, .row 25 (Enc.cells p)), (1, .row 26 (Enc.cells regs)), (2, .row 26 (Enc.cells r1771.2.1)), (3, .row 31 (Enc.cells r1774.2.2.2)), (4, .row 26 (Enc.cells r1774.2.1)), (5, .row 26 (Enc.cells r1776.2.1)), (6, .row 31 (Enc.cells r1776.2.2.2))] 7 (by kernel_rfl) ?_
         refine rs 5 [] [] (by kernel_rfl) allP_nil ?_
         refine run_split 95 (!((r1774.2.1.c0 == r1776.2.1.c0) && ((r1774.2.1.c1 == r1776.2.1.c1) && ((r1774.2.1.c2 == r1776.2.1.c2) && ((r1774.2.1.c3 == r1776.2.1.c3) && ((r1774.2.1.c4 == r1776.2.1.c4) && ((r1774.2.1.c5 == r1776.2.1.c5) && ((r1774.2.1.c6 == r1776.2.1.c6) && ((r1774.2.1.c7 == r1776.2.1.c7) && true))))))))) (.inl (by kernel_rfl)) (fun g1794 => ?_) (fun g1794 => ?_)
         ·refine rs 18 [] [] (by kernel_rfl) allP_nil ?_
          refine rf [(3, iS m), (4, iS n), (5, .ptr 0 0), (18, iS r1776.1), (20, iS r1776.2.2.1), (113, bS true)] [(0, .row 25 (Enc.cells p)), (1, .row 26 (Enc.cells regs)), (2, .row 26 (Enc.cells r1771.2.1)), (3, .row 31 (Enc.cells r1774.2.2.2)), (4, .row 26 (Enc.cells r1774.2.1)), (5, .row 26 (Enc.cells r1776.2.1)), (6, .row 31 (Enc.cells r1776.2.2.2))] 7 (by kernel_rfl) ?_
          exact hK1790 () _ _ _ trivial (leSt_m [(0, 0), (1, 1), (2, 2), (3, 3), (4, 4), (5, 5), (6, 6)] [] (by first | ((try simp only [g1791, g1792, g1793, g1794]) <;> simp only [push_cast, seval]; done) | ((try simp only [g1791]); (try simp only [g1792]); (try simp only [g1793]); (try simp only [g1794]); simp only [push_cast, seval]; done) | (exfalso; clear h; simp_all; done)) (by first | ((try simp only [g1791, g1792, g1793, g1794]) <;> simp only [push_cast, seval]; done) | ((try simp only [g1791]); (try simp only [g1792]); (try simp only [g1793]); (try simp only [g1794]); simp only [push_cast, seval]; done) | (exfalso; clear h; simp_all; done)) rfl rfl rfl)
         ·refine rs 7 [] [] (by kernel_rfl) allP_nil ?_
          refine run_split 102 ((IntKind.i64.wrap (r1771.2.2.1 + r1774.2.2.1)) != r1776.2.2.1) (.inl (by kernel_rfl)) (fun g1795 => ?_) (fun g1795 => ?_)
          ·refine rs 11 [] [] (by kernel_rfl) allP_nil ?_
           refine rf [(3, iS m), (4, iS n), (5, .ptr 0 0), (18, iS r1776.1), (20, iS r1776.2.2.1), (113, bS true)] [(0, .row 25 (Enc.cells p)), (1, .row 26 (Enc.cells regs)), (2, .row 26 (Enc.cells r1771.2.1)), (3, .row 31 (Enc.cells r1774.2.2.2)), (4, .row 26 (Enc.cells r1774.2.1)), (5, .row 26 (Enc.cells r1776.2.1)), (6, .row 31 (Enc.cells r1776.2.2.2))] 7 (by kernel_rfl) ?_
           exact hK1790 () _ _ _ trivial (leSt_m [(0, 0), (1, 1), (2, 2), (3, 3), (4, 4), (5, 5), (6, 6)] [] (by first | ((try simp only [g1791, g1792, g1793, g1794, g1795]) <;> simp only [push_cast, seval]; done) | ((try simp only [g1791]); (try simp only [g1792]); (try simp only [g1793]); (try simp only [g1794]); (try simp only [g1795]); simp only [push_cast, seval]; done) | (exfalso; clear h; simp_all; done)) (by first | ((try simp only [g1791, g1792, g1793, g1794, g1795]) <;> simp only [push_cast, seval]; done) | ((try simp only [g1791]); (try simp only [g1792]); (try simp only [g1793]); (try simp only [g1794]); (try simp only [g1795]); simp only [push_cast, seval]; done) | (exfalso; clear h; simp_all; done)) rfl rfl rfl)
          ·refine rs 5 [] [] (by kernel_rfl) allP_nil ?_
           refine run_split 107 (decide (m < r1771.2.2.1)) (.inl (by kernel_rfl)) (fun g1796 => ?_) (fun g1796 => ?_)
           ·refine rn 31 [(3, iS m), (4, iS n), (5, .ptr 0 0), (18, iS r1776.1), (20, iS r1776.2.2.1), (107, bS true)] [(0, .row 25 (Enc.cells p)), (1, .row 26 (Enc.cells regs)), (2, .row 26 (Enc.cells r1771.2.1)), (3, .row 31 (Enc.cells r1774.2.2.2)), (4, .row 26 (Enc.cells r1774.2.1)), (5, .row 26 (Enc.cells r1776.2.1)), (6, .row 31 (Enc.cells r1776.2.2.2))] 7 (by kernel_rfl) ?_
            refine rs 6 [] [] (by kernel_rfl) allP_nil ?_
            refine rf [(3, iS m), (4, iS n), (5, .ptr 0 0), (18, iS r1776.1), (20, iS r1776.2.2.1), (113, bS true)] [(0, .row 25 (Enc.cells p)), (1, .row 26 (Enc.cells regs)), (2, .row 26 (Enc.cells r1771.2.1)), (3, .row 31 (Enc.cells r1774.2.2.2)), (4, .row 26 (Enc.cells r1774.2.1)), (5, .row 26 (Enc.cells r1776.2.1)), (6, .row 31 (Enc.cells r1776.2.2.2))] 7 (by kernel_rfl) ?_
            exact hK1790 () _ _ _ trivial (leSt_m [(0, 0), (1, 1), (2, 2), (3, 3), (4, 4), (5, 5), (6, 6)] [] (by first | ((try simp only [g1791, g1792, g1793, g1794, g1795, g1796]) <;> simp only [push_cast, seval]; done) | ((try simp only [g1791]); (try simp only [g1792]); (try simp only [g1793]); (try simp only [g1794]); (try simp only [g1795]); (try simp only [g1796]); simp only [push_cast, seval]; done) | (exfalso; clear h; simp_all; done)) (by first | ((try simp only [g1791, g1792, g1793, g1794, g1795, g1796]) <;> simp only [push_cast, seval]; done) | ((try simp only [g1791]); (try simp only [g1792]); (try simp only [g1793]); (try simp only [g1794]); (try simp only [g1795]); (try simp only [g1796]); simp only [push_cast, seval]; done) | (exfalso; clear h; simp_all; done)) rfl rfl rfl)
           ·refine rn 31 [(3, iS m), (4, iS n), (5, .ptr 0 0), (18, iS r1776.1), (20, iS r1776.2.2.1), (107, bS false)] [(0, .row 25 (Enc.cells p)), (1, .row 26 (Enc.cells regs)), (2, .row 26 (Enc.cells r1771.2.1)), (3, .row 31 (Enc.cells r1774.2.2.2)), (4, .row 26 (Enc.cells r1774.2.1)), (5, .row 26 (Enc.cells r1776.2.1)), (6, .row 31 (Enc.cells r1776.2.2.2))] 7 (by kernel_rfl) ?_
            refine rs 6 [] [] (by kernel_rfl) allP_nil ?_
            refine rf [(3, iS m), (4, iS n), (5, .ptr 0 0), (18, iS r1776.1), (20, iS r1776.2.2.1), (113, bS (decide ((IntKind.i64.wrap (m + n)) < r1776.2.2.1)))] [(0, .row 25 (Enc.cells p)), (1, .row 26 (Enc.cells regs)), (2, .row 26 (Enc.cells r1771.2.1)), (3, .row 31 (Enc.cells r1774.2.2.2)), (4, .row 26 (Enc.cells r1774.2.1)), (5, .row 26 (Enc.cells r1776.2.1)), (6, .row 31 (Enc.cells r1776.2.2.2))] 7 (by kernel_rfl) ?_
            exact hK1790 () _ _ _ trivial (leSt_m [(0, 0), (1, 1), (2, 2), (3, 3), (4, 4), (5, 5), (6, 6)] [] (by first | ((try simp only [g1791, g1792, g1793, g1794, g1795, g1796]) <;> simp only [push_cast, seval]; done) | ((try simp only [g1791]); (try simp only [g1792]); (try simp only [g1793]); (try simp only [g1794]); (try simp only [g1795]); (try simp only [g1796]); simp only [push_cast, seval]; done) | (exfalso; clear h; simp_all; done)) (by first | ((try simp only [g1791, g1792, g1793, g1794, g1795, g1796]) <;> simp only [push_cast, seval]; done) | ((try simp only [g1791]); (try simp only [g1792]); (try simp only [g1793]); (try simp only [g1794]); (try simp only [g1795]); (try simp only [g1796]); simp only [push_cast, seval]; done) | (exfalso; clear h; simp_all; done)) rfl rfl rfl)
     ·dsimp only
      refine cond_sx h (by kernel_rfl) (fun g1810 h => ?_) (fun g1810 h => ?_)
      ·refine seq_np ?_
       refine reg_f ?_
       refine rs 1 [] [] (by kernel_rfl) allP_nil ?_
       refine rf [(10, bS false)] [(0, .row 25 (Enc.cells p)), (1, .row 26 (Enc.cells regs)), (2, .row 26 (Enc.cells r1771.2.1)), (3, .row 31 (Enc.cells r1774.2.2.2)), (4, .row 26 (Enc.cells r1774.2.1)), (5, .row 26 (Enc.cells r1776.2.1)), (6, .row 31 (Enc.cells r1776.2.2.2))] 7 (by kernel_rfl) ?_
       refine wk_id ?_
       obtain rfl := Option.some.inj h
       refine ret_at (bS false) (by kernel_rfl) ?_
       exact ret_e [] [] (by simp only [push_cast, seval]) (by simp only [push_cast, seval]) rfl rfl rfl
      ·refine wk_id ?_
       refine chk_sx h (fun g1809 h => ?_)
       refine seq_cut (A := Unit) (fun _ => ([(10, bS ((r1776.2.2.1 == (IntKind.i64.wrap (m + n))) || ((r1776.1 == ((p.Code.length : Nat) : Int)) || ((decide ((0 : Int) ≤ r1776.1)) && ((decide (r1776.1 < ((p.Code.length : Nat) : Int))) && (decide ((7 : Int) < (ix p.Code r1776.1).Op)))))))], [(0, .row 25 (Enc.cells p)), (1, .row 26 (Enc.cells regs)), (2, .row 26 (Enc.cells r1771.2.1)), (3, .row 31 (Enc.cells r1774.2.2.2)), (4, .row 26 (Enc.cells r1774.2.1)), (5, .row 26 (Enc.cells r1776.2.1)), (6, .row 31 (Enc.cells r1776.2.2.2))], 7)) (fun _ => True) (fun K1803 hK1803 => ?_) (fun _ _ => ?_)
       ·refine reg_f ?_
        refine rs 6 [] [] (by kernel_rfl) allP_nil ?_
        refine run_split 119 (r1776.2.2.1 == (IntKind.i64.wrap (m + n))) (.inl (by kernel_rfl)) (fun g1804 => ?_) (fun g1804 => ?_)
        ·refine rs 27 [] [] (by kernel_rfl) allP_nil ?_
         refine rf [(10, bS true)] [(0, .row 25 (Enc.cells p)), (1, .row 26 (Enc.cells regs)), (2, .row 26 (Enc.cells r1771.2.1)), (3, .row 31 (Enc.cells r1774.2.2.2)), (4, .row 26 (Enc.cells r1774.2.1)), (5, .row 26 (Enc.cells r1776.2.1)), (6, .row 31 (Enc.cells r1776.2.2.2))] 7 (by kernel_rfl) ?_
         exact hK1803 () _ _ _ trivial (leSt_m [(0, 0), (1, 1), (2, 2), (3, 3), (4, 4), (5, 5), (6, 6)] [] (by (try simp only [g1804]) <;> simp only [push_cast, seval]) (by (try simp only [g1804]) <;> simp only [push_cast, seval]) rfl rfl rfl)
        ·refine rs 7 [] [] (by kernel_rfl) allP_nil ?_
         refine run_split 126 (r1776.1 == ((p.Code.length : Nat) : Int)) (.inl (by kernel_rfl)) (fun g1805 => ?_) (fun g1805 => ?_)
         ·refine rs 20 [] [] (by kernel_rfl) allP_nil ?_
          refine rf [(10, bS true)] [(0, .row 25 (Enc.cells p)), (1, .row 26 (Enc.cells regs)), (2, .row 26 (Enc.cells r1771.2.1)), (3, .row 31 (Enc.cells r1774.2.2.2)), (4, .row 26 (Enc.cells r1774.2.1)), (5, .row 26 (Enc.cells r1776.2.1)), (6, .row 31 (Enc.cells r1776.2.2.2))] 7 (by kernel_rfl) ?_
          exact hK1803 () _ _ _ trivial (leSt_m [(0, 0), (1, 1), (2, 2), (3, 3), (4, 4), (5, 5), (6, 6)] [] (by first | ((try simp only [g1804, g1805]) <;> simp only [push_cast, seval]; done) | ((try simp only [g1804]); (try simp only [g1805]); simp only [push_cast, seval]; done) | (exfalso; clear h; simp_all; done)) (by first | ((try simp only [g1804, g1805]) <;> simp only [push_cast, seval]; done) | ((try simp only [g1804]); (try simp only [g1805]); simp only [push_cast, seval]; done) | (exfalso; clear h; simp_all; done)) rfl rfl rfl)
         ·refine rs 3 [] [] (by kernel_rfl) allP_nil ?_
          refine run_split 129 (decide ((0 : Int) ≤ r1776.1)) (.inr (by kernel_rfl)) (fun g1806 => ?_) (fun g1806 => ?_)
          ·refine rn 16 [(5, .ptr 0 0), (18, iS r1776.1), (126, bS false), (129, .gd true (bS true))] [(0, .row 25 (Enc.cells p)), (1, .row 26 (Enc.cells regs)), (2, .row 26 (Enc.cells r1771.2.1)), (3, .row 31 (Enc.cells r1774.2.2.2)), (4, .row 26 (Enc.cells r1774.2.1)), (5, .row 26 (Enc.cells r1776.2.1)), (6, .row 31 (Enc.cells r1776.2.2.2))] 7 (by kernel_rfl) ?_
           refine rs 7 [] [] (by kernel_rfl) allP_nil ?_
           refine run_split 136 (decide (r1776.1 < ((p.Code.length : Nat) : Int))) (.inr (by kernel_rfl)) (fun g1807 => ?_) (fun g1807 => ?_)
           ·have k1808 : 0 ≤ r1776.1 ∧ r1776.1 < ((p.Code.length : Nat) : Int) := by have e := or_use g1809 (by first | ((try simp only [g1804, g1805, g1806, g1807]) <;> rfl) | ((try simp only [g1804]); (try simp only [g1805]); (try simp only [g1806]); (try simp only [g1807]); rfl) | (exfalso; clear h; simp_all; done)); first | simpa only [Bool.and_eq_true, decide_eq_true_eq, bne_iff_ne, ne_eq] using e | (simp at e ⊢; omega)
            refine rs 10 [none, none, none, some ⟨.iptr (fl p.Code) ((r1776.1).toNat * 3), [], 7, []⟩, none, some ⟨iS (ix p.Code r1776.1).Op, [], 7, []⟩] _ (by kernel_rfl) (allP_cons (ob_ld p.Code r1776.1 3 0 (((r1776.1).toNat * 3) + 0) k1808 rfl (by decide) (by first | rfl | omega) (dflS Tryd.prog 3) (iS (ix p.Code r1776.1).Op) rfl 7 []) (allP_cons (ob_ix_l p.Code 3 7 r1776.1 k1808) allP_nil)) ?_
            refine rf [(10, bS (decide ((7 : Int) < (ix p.Code r1776.1).Op)))] [(0, .row 25 (Enc.cells p)), (1, .row 26 (Enc.cells regs)), (2, .row 26 (Enc.cells r1771.2.1)), (3, .row 31 (Enc.cells r1774.2.2.2)), (4, .row 26 (Enc.cells r1774.2.1)), (5, .row 26 (Enc.cells r1776.2.1)), (6, .row 31 (Enc.cells r1776.2.2.2))] 7 (by kernel_rfl) ?_
            exact hK1803 () _ _ _ trivial (leSt_m [(0, 0), (1, 1), (2, 2), (3, 3), (4, 4), (5, 5), (6, 6)] [] (by first | ((try simp only [g1804, g1805, g1806, g1807]) <;> simp only [push_cast, seval]; done) | ((try simp only [g1804]); (try simp only [g1805]); (try simp only [g1806]); (try simp only [g1807]); simp only [push_cast, seval]; done) | (exfalso; clear h; simp_all; done)) (by first | ((try simp only [g1804, g1805, g1806, g1807]) <;> simp only [push_cast, seval]; done) | ((try simp only [g1804]); (try simp only [g1805]); (try simp only [g1806]); (try simp only [g1807]); simp only [push_cast, seval]; done) | (exfalso; clear h; simp_all; done)) rfl rfl rfl)
           ·refine rs 10 [] [] (by kernel_rfl) allP_nil ?_
            refine rf [(10, bS false)] [(0, .row 25 (Enc.cells p)), (1, .row 26 (Enc.cells regs)), (2, .row 26 (Enc.cells r1771.2.1)), (3, .row 31 (Enc.cells r1774.2.2.2)), (4, .row 26 (Enc.cells r1774.2.1)), (5, .row 26 (Enc.cells r1776.2.1)), (6, .row 31 (Enc.cells r1776.2.2.2))] 7 (by kernel_rfl) ?_
            exact hK1803 () _ _ _ trivial (leSt_m [(0, 0), (1, 1), (2, 2), (3, 3), (4, 4), (5, 5), (6, 6)] [] (by first | ((try simp only [g1804, g1805, g1806, g1807]) <;> simp only [push_cast, seval]; done) | ((try simp only [g1804]); (try simp only [g1805]); (try simp only [g1806]); (try simp only [g1807]); simp only [push_cast, seval]; done) | (exfalso; clear h; simp_all; done)) (by first | ((try simp only [g1804, g1805, g1806, g1807]) <;> simp only [push_cast, seval]; done) | ((try simp only [g1804]); (try simp only [g1805]); (try simp only [g1806]); (try simp only [g1807]); simp only [push_cast, seval]; done) | (exfalso; clear h; simp_all; done)) rfl rfl rfl)
          ·refine rn 16 [(5, .ptr 0 0), (18, iS r1776.1), (126, bS false), (129, .gd true (bS false))] [(0, .row 25 (Enc.cells p)), (1, .row 26 (Enc.cells regs)), (2, .row 26 (Enc.cells r1771.2.1)), (3, .row 31 (Enc.cells r1774.2.2.2)), (4, .row 26 (Enc.cells r1774.2.1)), (5, .row 26 (Enc.cells r1776.2.1)), (6, .row 31 (Enc.cells r1776.2.2.2))] 7 (by kernel_rfl) ?_
           refine rs 17 [] [] (by kernel_rfl) allP_nil ?_
           refine rf [(10, bS false)] [(0, .row 25 (Enc.cells p)), (1, .row 26 (Enc.cells regs)), (2, .row 26 (Enc.cells r1771.2.1)), (3, .row 31 (Enc.cells r1774.2.2.2)), (4, .row 26 (Enc.cells r1774.2.1)), (5, .row 26 (Enc.cells r1776.2.1)), (6, .row 31 (Enc.cells r1776.2.2.2))] 7 (by kernel_rfl) ?_
           exact hK1803 () _ _ _ trivial (leSt_m [(0, 0), (1, 1), (2, 2), (3, 3), (4, 4), (5, 5), (6, 6)] [] (by first | ((try simp only [g1804, g1805, g1806]) <;> simp only [push_cast, seval]; done) | ((try simp only [g1804]); (try simp only [g1805]); (try simp only [g1806]); simp only [push_cast, seval]; done) | (exfalso; clear h; simp_all; done)) (by first | ((try simp only [g1804, g1805, g1806]) <;> simp only [push_cast, seval]; done) | ((try simp only [g1804]); (try simp only [g1805]); (try simp only [g1806]); simp only [push_cast, seval]; done) | (exfalso; clear h; simp_all; done)) rfl rfl rfl)
       ·dsimp only
        obtain rfl := Option.some.inj h
        refine ret_at (bS ((r1776.2.2.1 == (IntKind.i64.wrap (m + n))) || ((r1776.1 == ((p.Code.length : Nat) : Int)) || ((decide ((0 : Int) ≤ r1776.1)) && ((decide (r1776.1 < ((p.Code.length : Nat) : Int))) && (decide ((7 : Int) < (ix p.Code r1776.1).Op))))))) (by kernel_rfl) ?_
        exact ret_e [] [] (by simp only [push_cast, seval]) (by simp only [push_cast, seval]) rfl rfl rfl

end Go.Proofs.YtdckaaiidagodaaDoor
