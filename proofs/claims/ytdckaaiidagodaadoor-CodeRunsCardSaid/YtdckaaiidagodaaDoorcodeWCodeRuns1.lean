/-
 What laws of the chapter code compute, and lemmas on it.
 No conditions.
-/
import Derived.Test.YtdckaaiidagodaaDoorProg
import Derived.Test.YtdckaaiidagodaaDoorcodeG
set_option linter.unusedSimpArgs false
set_option linter.unusedVariables false
namespace Go.Proofs.YtdckaaiidagodaaDoor
open Go Go.Sx
attribute [local irreducible] Wk RunAt
theorem follows : Tryd.prog.follows .mixedOrders = true := by kernel_rfl
set_option maxRecDepth 100000 in
set_option maxHeartbeats 200000000 in
theorem cc_fresh_spec (b : Nat) (w : World) (h0 : w.cell? ⟨b, 0, none⟩ = some (.pointer none)) (hsh : w.shape? b = some (67, 2)) (hfz : w.frozen? ⟨b, 0, none⟩ = false) :
  Calls Tryd.prog 37 #[.pointer (some ⟨b, 0, none⟩)] w fun e w' => e = .returned (.tuple #[]) ∧ w' = w.setCell ⟨b, 0, none⟩ (.pointer (some ⟨b, 0, none⟩)) := by
 have mixed := follows
 obtain ⟨j, hj, hjs⟩ : ∃ j, Tryd.prog.info? 67 = some j ∧ j.size = 2 := Option.map_eq_some_iff.1 (show (Tryd.prog.info? 67).map (·.size) = some 2 by kernel_rfl)
 go_enter Tryd.func37, Tryd.ntmps37
 go_wp2
 rw [Lib.run_to_unsafe w ⟨b, 0, none⟩ (t := 67) (by kernel_rfl) (by kernel_rfl) hj (by rw [hjs]; decide) hsh (Nat.zero_lt_succ 1)]
 simp only [Result.andThen]
 rw [Oper.upon_value]
 go_wp2
 rw [run_callFunc_extern Tryd.func46 (by kernel_rfl) (by kernel_rfl) (by kernel_rfl) (e := Extern.AbiNoEscape.same) (by kernel_rfl)]
 rw [Lib.run_noEscape]
 simp only [Result.andThen]
 rw [Oper.upon_value]
 go_wp2
 rw [Lib.run_from_unsafe w ⟨b, 0, none⟩ (u := 67) (by kernel_rfl) (by kernel_rfl) hj hsh (by kernel_rfl)]
 simp only [Result.andThen]
 rw [Oper.upon_value]
 go_wp2
 go_end0
 exact ⟨rfl, rfl⟩
set_option maxRecDepth 100000 in
set_option maxHeartbeats 1000000 in
theorem cc_used_spec (b : Nat) (w : World) (h0 : w.cell? ⟨b, 0, none⟩ = some (.pointer (some ⟨b, 0, none⟩))) :
  Calls Tryd.prog 37 #[.pointer (some ⟨b, 0, none⟩)] w fun e w' => e = .returned (.tuple #[]) ∧ w' = w := by
 have mixed := follows
 obtain ⟨j, hj, hjs⟩ : ∃ j, Tryd.prog.info? 67 = some j ∧ j.size = 2 := Option.map_eq_some_iff.1 (show (Tryd.prog.info? 67).map (·.size) = some 2 by kernel_rfl)
 go_enter Tryd.func37, Tryd.ntmps37
 go_wp2
 rw [Lib.run_neq_ptr_same w _ (te := 67) (by kernel_rfl) hj]
 go_wp2
 go_end0
 exact ⟨rfl, rfl⟩
theorem cc_ok_spec : CallOk Tryd.prog (ccHook 37 67) := copyCheck_ok (fn_of Tryd.func37 (by kernel_rfl) (by kernel_rfl)) cc_fresh_spec cc_used_spec
theorem taskmilllaw_codeBegun_spec (r : Bool) (h : taskmilllaw_codeBegun = some r) : SpecW Tryd.prog 7 [] [] 0 (fun x h n => x = bS r ∧ h = [] ∧ n = 0) := by
 unfold taskmilllaw_codeBegun at h
 obtain rfl := Option.some.inj h
 exact closed_callH follows cc_ok_spec 10000 1000 (by kernel_rfl)

set_option maxRecDepth 100000 in
set_option maxHeartbeats 200000000 in
theorem taskmilllaw_vastProgram_spec (p : GProgram) (r : Bool) (h : taskmilllaw_vastProgram p = some r) : SpecW Tryd.prog 8 [.agg (Enc.cells p)] [] 0 (fun x h n => x = bS r ∧ h = [] ∧ n = 0) := by
 unfold taskmilllaw_vastProgram at h
 refine spec_of (draw_ok _) Tryd.func8 rfl (by decide) rfl (by kernel_rfl) ?_
 refine seq_np ?_
 refine reg_f ?_
 refine rs 2 [] [] (by kernel_rfl) allP_nil ?_
 refine rf [(1, .ptr 0 0)] [(0, .row 25 (Enc.cells p))] 1 (by kernel_rfl) ?_
 refine wk_id ?_
 refine seq_cut (A := Unit) (fun _ => ([(2, bS ((decide ((2000 : Int) < ((p.Code.length : Nat) : Int))) || (decide ((2000 : Int) < ((p.Pipes.length : Nat) : Int)))))], [(0, .row 25 (Enc.cells p))], 1)) (fun _ => True) (fun K5 hK5 => ?_) (fun _ _ => ?_)
 ·refine reg_f ?_
  refine rs 5 [] [] (by kernel_rfl) allP_nil ?_
  refine run_split 7 (decide ((2000 : Int) < ((p.Code.length : Nat) : Int))) (.inl (by kernel_rfl)) (fun g6 => ?_) (fun g6 => ?_)
  ·refine rs 6 [] [] (by kernel_rfl) allP_nil ?_
   refine rf [(2, bS true)] [(0, .row 25 (Enc.cells p))] 1 (by kernel_rfl) ?_
   exact hK5 () _ _ _ trivial (leSt_m [(0, 0)] [] (by (try simp only [g6]) <;> simp only [push_cast, seval]) (by (try simp only [g6]) <;> simp only [push_cast, seval]) rfl rfl rfl)
  ·refine rs 6 [] [] (by kernel_rfl) allP_nil ?_
   refine rf [(2, bS (decide ((2000 : Int) < ((p.Pipes.length : Nat) : Int))))] [(0, .row 25 (Enc.cells p))] 1 (by kernel_rfl) ?_
   exact hK5 () _ _ _ trivial (leSt_m [(0, 0)] [] (by (try simp only [g6]) <;> simp only [push_cast, seval]) (by (try simp only [g6]) <;> simp only [push_cast, seval]) rfl rfl rfl)
 ·dsimp only
  obtain rfl := Option.some.inj h
  refine ret_at (bS ((decide ((2000 : Int) < ((p.Code.length : Nat) : Int))) || (decide ((2000 : Int) < ((p.Pipes.length : Nat) : Int))))) (by kernel_rfl) ?_
  exact ret_e [] [] (by simp only [push_cast, seval]) (by simp only [push_cast, seval]) rfl rfl rfl

set_option maxRecDepth 100000 in
set_option maxHeartbeats 200000000 in
theorem taskmilllaw_ownCode_spec (l : (List GInstr)) (r : (List GInstr)) (h : taskmilllaw_ownCode l = some r) : SpecW Tryd.prog 21 [.sl l.length (fl l)] [] 0 (fun x h n => x = .own 0 0 r.length ∧ h = [(0, .row 38 (fl r))] ∧ n = 1) := by
 unfold taskmilllaw_ownCode at h
 refine spec_of (draw_ok _) Tryd.func21 rfl (by decide) rfl (by kernel_rfl) ?_
 refine seq_np ?_
 refine reg_f ?_
 refine rs 1 [] [] (by kernel_rfl) allP_nil ?_
 refine rf [(0, .sl l.length (fl l))] [] 0 (by kernel_rfl) ?_
 refine wk_id ?_
 refine chk_sx h (fun g14 h => ?_)
 refine seq_np ?_
 refine reg_f ?_
 have k13 : l.length * 24 ≤ 140737488355328 := by first | simpa only [Bool.and_eq_true, decide_eq_true_eq, bne_iff_ne, ne_eq] using g14 | (simp at g14 ⊢; omega)
 refine rs 3 [none, some ⟨.own 0 0 l.length, [(0, .row 38 (fl l))], 1, []⟩] _ (by kernel_rfl) (allP_cons (ob_app0 (P := Tryd.prog) l 3 24 rfl (fl l) l.length rfl rfl ((fl l).length = l.length * 3) (app_sl l 3 rfl) 38 (by kernel_rfl) (by decide) k13 0 []) allP_nil) ?_
 refine rf [(2, .own 0 0 l.length)] [(0, .row 38 (fl l))] 1 (by kernel_rfl) ?_
 refine wk_id ?_
 obtain rfl := Option.some.inj h
 refine ret_at (.own 0 0 l.length) (by kernel_rfl) ?_
 exact ret_e [(0, 0)] [] (by simp only [push_cast, seval]) (by simp only [push_cast, seval]) rfl rfl rfl

set_option maxRecDepth 100000 in
set_option maxHeartbeats 200000000 in
theorem taskmilllaw_own_spec (l : (List Int)) (r : (List Int)) (h : taskmilllaw_own l = some r) : SpecW Tryd.prog 22 [.sl l.length (fl l)] [] 0 (fun x h n => x = .own 0 0 r.length ∧ h = [(0, .row 3 (fl r))] ∧ n = 1) := by
 unfold taskmilllaw_own at h
 refine spec_of (draw_ok _) Tryd.func22 rfl (by decide) rfl (by kernel_rfl) ?_
 refine seq_np ?_
 refine reg_f ?_
 refine rs 1 [] [] (by kernel_rfl) allP_nil ?_
 refine rf [(0, .sl l.length (fl l))] [] 0 (by kernel_rfl) ?_
 refine wk_id ?_
 refine chk_sx h (fun g21 h => ?_)
 refine seq_np ?_
 refine reg_f ?_
 have k20 : l.length * 8 ≤ 140737488355328 := by first | simpa only [Bool.and_eq_true, decide_eq_true_eq, bne_iff_ne, ne_eq] using g21 | (simp at g21 ⊢; omega)
 refine rs 3 [none, some ⟨.own 0 0 l.length, [(0, .row 3 (fl l))], 1, []⟩] _ (by kernel_rfl) (allP_cons (ob_app0 (P := Tryd.prog) l 1 8 rfl (fl l) l.length rfl rfl ((fl l).length = l.length * 1) (app_sl l 1 rfl) 3 (by kernel_rfl) (by decide) k20 0 []) allP_nil) ?_
 refine rf [(2, .own 0 0 l.length)] [(0, .row 3 (fl l))] 1 (by kernel_rfl) ?_
 refine wk_id ?_
 obtain rfl := Option.some.inj h
 refine ret_at (.own 0 0 l.length) (by kernel_rfl) ?_
 exact ret_e [(0, 0)] [] (by simp only [push_cast, seval]) (by simp only [push_cast, seval]) rfl rfl rfl

set_option maxRecDepth 100000 in
set_option maxHeartbeats 200000000 in
theorem taskmilllaw_ownProgram_spec (p : GProgram) (r : Int × Int × Int × (List GInstr) × (List Int)) (h : taskmilllaw_ownProgram p = some r) : SpecW Tryd.prog 9 [.agg (Enc.cells p)] [] 0 (fun x h n => x = .agg [.own 0 0 r.2.2.2.1.length, iS r.1, .own 1 0 r.2.2.2.2.length, iS r.2.1, iS r.2.2.1] ∧ h = [(0, .row 38 (fl r.2.2.2.1)), (1, .row 3 (fl r.2.2.2.2))] ∧ n = 2) := by
 unfold taskmilllaw_ownProgram at h
 refine spec_of (draw_ok _) Tryd.func9 rfl (by decide) rfl (by kernel_rfl) ?_
 refine seq_np ?_
 refine reg_f ?_
 refine rs 2 [] [] (by kernel_rfl) allP_nil ?_
 refine rf [(1, .ptr 0 0), (2, .ptr 1 0)] [(0, .row 25 (Enc.cells p)), (1, .row 25 [.v (.slice none 0 0), iS 0, .v (.slice none 0 0), iS 0, iS 0])] 2 (by kernel_rfl) ?_
 refine wk_id ?_
 refine seq_np ?_
 refine reg_t ?_
 refine rs 2 [] [] (by kernel_rfl) allP_nil ?_
 obtain ⟨r25, hr25, h⟩ := bind_sx h
 refine call_x (taskmilllaw_ownCode_spec p.Code r25 hr25) (args := [.sl p.Code.length (fl p.Code)]) (dst := (some 5)) (by kernel_rfl) [(0, .row 25 (Enc.cells p)), (1, .row 25 [.v (.slice none 0 0), iS 0, .v (.slice none 0 0), iS 0, iS 0])] 4 (by kernel_rfl) [] [] (.own 4 0 r25.length) [(4, .row 38 (fl r25))] (by simp only [push_cast, seval]) (by simp only [push_cast, seval]) (by kernel_rfl) (.inl rfl) (by simp only [push_cast, seval]) (by simp only [push_cast, seval]) ?_
 refine rs 4 [] [] (by kernel_rfl) allP_nil ?_
 obtain ⟨r26, hr26, h⟩ := bind_sx h
 refine call_x (taskmilllaw_own_spec p.Pipes r26 hr26) (args := [.sl p.Pipes.length (fl p.Pipes)]) (dst := (some 10)) (by kernel_rfl) [(0, .row 25 (Enc.cells p)), (1, .row 25 [.v (.slice none 0 0), iS 0, .v (.slice none 0 0), iS 0, iS 0]), (4, .row 38 (fl r25))] 10 (by kernel_rfl) [] [] (.own 10 0 r26.length) [(10, .row 3 (fl r26))] (by simp only [push_cast, seval]) (by simp only [push_cast, seval]) (by kernel_rfl) (.inl rfl) (by simp only [push_cast, seval]) (by simp only [push_cast, seval]) ?_
 refine rs 6 [] [] (by kernel_rfl) allP_nil ?_
 refine rt [(2, .ptr 1 0)] [(0, .row 25 (Enc.cells p)), (1, .row 25 [.own 4 0 r25.length, iS p.Cells, .own 10 0 r26.length, iS p.Locks, iS p.Groups]), (4, .row 38 (fl r25)), (10, .row 3 (fl r26))] 18 follows (by kernel_rfl) ?_
 refine wk_id ?_
 obtain rfl := Option.some.inj h
 refine ret_at (.agg [.own 4 0 r25.length, iS p.Cells, .own 10 0 r26.length, iS p.Locks, iS p.Groups]) (by kernel_rfl) ?_
 exact ret_e [(0, 4), (1, 10)] [] (by simp only [push_cast, seval]) (by simp only [push_cast, seval]) rfl rfl rfl

set_option maxRecDepth 100000 in
set_option maxHeartbeats 200000000 in
theorem code_fault_spec (code : Int) (xat : Int) (r : Fault) (h : code_fault code xat = some r) : SpecW Tryd.prog 23 [iS code, iS xat] [] 0 (fun x h n => x = .agg (Enc.cells r) ∧ h = [] ∧ n = 0) := by
 unfold code_fault at h
 refine spec_of (draw_ok _) Tryd.func23 rfl (by decide) rfl (by kernel_rfl) ?_
 refine seq_np ?_
 refine reg_f ?_
 refine rs 1 [] [] (by kernel_rfl) allP_nil ?_
 refine rf [(0, iS code), (1, iS xat), (4, .ptr 0 0)] [(0, .row 31 [iS 0, iS 0])] 1 (by kernel_rfl) ?_
 refine wk_id ?_
 refine seq_np ?_
 refine reg_f ?_
 refine rs 4 [] [] (by kernel_rfl) allP_nil ?_
 refine rf [(4, .ptr 0 0)] [(0, .row 31 [iS code, iS xat])] 1 (by kernel_rfl) ?_
 refine wk_id ?_
 obtain rfl := Option.some.inj h
 refine ret_at (.agg [iS code, iS xat]) (by kernel_rfl) ?_
 exact ret_e [] [] (by simp only [push_cast, seval]) (by simp only [push_cast, seval]) rfl rfl rfl

set_option maxRecDepth 100000 in
set_option maxHeartbeats 200000000 in
theorem code_fits_spec (p : GProgram) (k : Int) (x : Int) (r : Bool) (h : code_fits p k x = some r) : SpecW Tryd.prog 24 [.agg (Enc.cells p), .v (.int .u8 k), iS x] [] 0 (fun x h n => x = bS r ∧ h = [] ∧ n = 0) := by
 unfold code_fits at h
 refine spec_of (draw_ok _) Tryd.func24 rfl (by decide) rfl (by kernel_rfl) ?_
 refine seq_np ?_
 refine reg_f ?_
 refine rs 2 [] [] (by kernel_rfl) allP_nil ?_
 refine rf [(1, .v (.int .u8 k)), (2, iS x), (3, .ptr 0 0)] [(0, .row 25 (Enc.cells p))] 1 (by kernel_rfl) ?_
 refine wk_id ?_
 refine seq_np ?_
 refine reg_f ?_
 refine rs 23 [none, some ⟨.any, [(1, .map [(.int .u8 114, iS 8)])], 2, [1]⟩, none, none, none, some ⟨.any, [(1, .map [(.int .u8 114, iS 8), (.int .u8 99, iS ((p.Code.length : Nat) : Int))])], 2, [1]⟩, none, none, some ⟨.any, [(1, .map [(.int .u8 114, iS 8), (.int .u8 99, iS ((p.Code.length : Nat) : Int)), (.int .u8 109, iS p.Cells)])], 2, [1]⟩, none, none, none, some ⟨.any, [(1, .map [(.int .u8 114, iS 8), (.int .u8 99, iS ((p.Code.length : Nat) : Int)), (.int .u8 109, iS p.Cells), (.int .u8 112, iS ((p.Pipes.length : Nat) : Int))])], 2, [1]⟩, none, none, some ⟨.any, [(1, .map [(.int .u8 114, iS 8), (.int .u8 99, iS ((p.Code.length : Nat) : Int)), (.int .u8 109, iS p.Cells), (.int .u8 112, iS ((p.Pipes.length : Nat) : Int)), (.int .u8 108, iS p.Locks)])], 2, [1]⟩, none, none, some ⟨.any, [(1, .map [(.int .u8 114, iS 8), (.int .u8 99, iS ((p.Code.length : Nat) : Int)), (.int .u8 109, iS p.Cells), (.int .u8 112, iS ((p.Pipes.length : Nat) : Int)), (.int .u8 108, iS p.Locks), (.int .u8 103, iS p.Groups)])], 2, [1]⟩, some ⟨.any, [(1, .map [(.int .u8 114, iS 8), (.int .u8 99, iS ((p.Code.length : Nat) : Int)), (.int .u8 109, iS p.Cells), (.int .u8 112, iS ((p.Pipes.length : Nat) : Int)), (.int .u8 108, iS p.Locks), (.int .u8 103, iS p.Groups), (.int .u8 107, iS 2)])], 2, [1]⟩, some ⟨.any, [(1, .map [(.int .u8 114, iS 8), (.int .u8 99, iS ((p.Code.length : Nat) : Int)), (.int .u8 109, iS p.Cells), (.int .u8 112, iS ((p.Pipes.length : Nat) : Int)), (.int .u8 108, iS p.Locks), (.int .u8 103, iS p.Groups), (.int .u8 107, iS 2), (.int .u8 45, iS 1)])], 2, [1]⟩] _ (by kernel_rfl) (allP_cons (ob_insL (.int .u8) (.int .u8 45) (iS 1) [(.int .u8 114, iS 8), (.int .u8 99, iS ((p.Code.length : Nat) : Int)), (.int .u8 109, iS p.Cells), (.int .u8 112, iS ((p.Pipes.length : Nat) : Int)), (.int .u8 108, iS p.Locks), (.int .u8 103, iS p.Groups), (.int .u8 107, iS 2)] [(.int .u8 114, iS 8), (.int .u8 99, iS ((p.Code.length : Nat) : Int)), (.int .u8 109, iS p.Cells), (.int .u8 112, iS ((p.Pipes.length : Nat) : Int)), (.int .u8 108, iS p.Locks), (.int .u8 103, iS p.Groups), (.int .u8 107, iS 2), (.int .u8 45, iS 1)] 1 2 rfl rfl rfl) (allP_cons (ob_insL (.int .u8) (.int .u8 107) (iS 2) [(.int .u8 114, iS 8), (.int .u8 99, iS ((p.Code.length : Nat) : Int)), (.int .u8 109, iS p.Cells), (.int .u8 112, iS ((p.Pipes.length : Nat) : Int)), (.int .u8 108, iS p.Locks), (.int .u8 103, iS p.Groups)] [(.int .u8 114, iS 8), (.int .u8 99, iS ((p.Code.length : Nat) : Int)), (.int .u8 109, iS p.Cells), (.int .u8 112, iS ((p.Pipes.length : Nat) : Int)), (.int .u8 108, iS p.Locks), (.int .u8 103, iS p.Groups), (.int .u8 107, iS 2)] 1 2 rfl rfl rfl) (allP_cons (ob_insL (.int .u8) (.int .u8 103) (iS p.Groups) [(.int .u8 114, iS 8), (.int .u8 99, iS ((p.Code.length : Nat) : Int)), (.int .u8 109, iS p.Cells), (.int .u8 112, iS ((p.Pipes.length : Nat) : Int)), (.int .u8 108, iS p.Locks)] [(.int .u8 114, iS 8), (.int .u8 99, iS ((p.Code.length : Nat) : Int)), (.int .u8 109, iS p.Cells), (.int .u8 112, iS ((p.Pipes.length : Nat) : Int)), (.int .u8 108, iS p.Locks), (.int .u8 103, iS p.Groups)] 1 2 rfl rfl rfl) (allP_cons (ob_insL (.int .u8) (.int .u8 108) (iS p.Locks) [(.int .u8 114, iS 8), (.int .u8 99, iS ((p.Code.length : Nat) : Int)), (.int .u8 109, iS p.Cells), (.int .u8 112, iS ((p.Pipes.length : Nat) : Int))] [(.int .u8 114, iS 8), (.int .u8 99, iS ((p.Code.length : Nat) : Int)), (.int .u8 109, iS p.Cells), (.int .u8 112, iS ((p.Pipes.length : Nat) : Int)), (.int .u8 108, iS p.Locks)] 1 2 rfl rfl rfl) (allP_cons (ob_insL (.int .u8) (.int .u8 112) (iS ((p.Pipes.length : Nat) : Int)) [(.int .u8 114, iS 8), (.int .u8 99, iS ((p.Code.length : Nat) : Int)), (.int .u8 109, iS p.Cells)] [(.int .u8 114, iS 8), (.int .u8 99, iS ((p.Code.length : Nat) : Int)), (.int .u8 109, iS p.Cells), (.int .u8 112, iS ((p.Pipes.length : Nat) : Int))] 1 2 rfl rfl rfl) (allP_cons (ob_insL (.int .u8) (.int .u8 109) (iS p.Cells) [(.int .u8 114, iS 8), (.int .u8 99, iS ((p.Code.length : Nat) : Int))] [(.int .u8 114, iS 8), (.int .u8 99, iS ((p.Code.length : Nat) : Int)), (.int .u8 109, iS p.Cells)] 1 2 rfl rfl rfl) (allP_cons (ob_insL (.int .u8) (.int .u8 99) (iS ((p.Code.length : Nat) : Int)) [(.int .u8 114, iS 8)] [(.int .u8 114, iS 8), (.int .u8 99, iS ((p.Code.length : Nat) : Int))] 1 2 rfl rfl rfl) (allP_cons (ob_insL (.int .u8) (.int .u8 114) (iS 8) [] [(.int .u8 114, iS 8)] 1 2 rfl rfl rfl) allP_nil)))))))) ?_
 refine rf [(1, .v (.int .u8 k)), (2, iS x), (7, .mp 1)] [(0, .row 25 (Enc.cells p)), (1, .map [(.int .u8 114, iS 8), (.int .u8 99, iS ((p.Code.length : Nat) : Int)), (.int .u8 109, iS p.Cells), (.int .u8 112, iS ((p.Pipes.length : Nat) : Int)), (.int .u8 108, iS p.Locks), (.int .u8 103, iS p.Groups), (.int .u8 107, iS 2), (.int .u8 45, iS 1)])] 2 (by kernel_rfl) ?_
 refine wk_id ?_
 refine seq_np ?_
 refine seq_np ?_
 refine reg_f ?_
 refine rs 2 [] [] (by kernel_rfl) allP_nil ?_
 refine rf [(1, .v (.int .u8 k)), (2, iS x), (7, .mp 1), (23, bS (k == 110))] [(0, .row 25 (Enc.cells p)), (1, .map [(.int .u8 114, iS 8), (.int .u8 99, iS ((p.Code.length : Nat) : Int)), (.int .u8 109, iS p.Cells), (.int .u8 112, iS ((p.Pipes.length : Nat) : Int)), (.int .u8 108, iS p.Locks), (.int .u8 103, iS p.Groups), (.int .u8 107, iS 2), (.int .u8 45, iS 1)])] 2 (by kernel_rfl) ?_
 refine wk_id ?_
 refine cond_sx h (by kernel_rfl) (fun g69 h => ?_) (fun g69 h => ?_)
 ·refine seq_np ?_
  refine reg_f ?_
  refine rs 1 [] [] (by kernel_rfl) allP_nil ?_
  refine rf [(6, bS true)] [(0, .row 25 (Enc.cells p)), (1, .map [(.int .u8 114, iS 8), (.int .u8 99, iS ((p.Code.length : Nat) : Int)), (.int .u8 109, iS p.Cells), (.int .u8 112, iS ((p.Pipes.length : Nat) : Int)), (.int .u8 108, iS p.Locks), (.int .u8 103, iS p.Groups), (.int .u8 107, iS 2), (.int .u8 45, iS 1)])] 2 (by kernel_rfl) ?_
  refine wk_id ?_
  obtain rfl := Option.some.inj h
  refine ret_at (bS true) (by kernel_rfl) ?_
  exact ret_e [] [] (by simp only [push_cast, seval]) (by simp only [push_cast, seval]) rfl rfl rfl
 ·refine wk_id ?_
  refine seq_cut (A := Unit) (fun _ => ([(6, bS ((decide ((0 : Int) ≤ x)) && (decide (x < (miGet [(114, 8), (99, ((p.Code.length : Nat) : Int)), (109, p.Cells), (112, ((p.Pipes.length : Nat) : Int)), (108, p.Locks), (103, p.Groups), (107, 2), (45, 1)] k)))))], [(0, .row 25 (Enc.cells p)), (1, .map [(.int .u8 114, iS 8), (.int .u8 99, iS ((p.Code.length : Nat) : Int)), (.int .u8 109, iS p.Cells), (.int .u8 112, iS ((p.Pipes.length : Nat) : Int)), (.int .u8 108, iS p.Locks), (.int .u8 103, iS p.Groups), (.int .u8 107, iS 2), (.int .u8 45, iS 1)])], 2)) (fun _ => True) (fun K67 hK67 => ?_) (fun _ _ => ?_)
  ·refine reg_f ?_
   refine rs 3 [] [] (by kernel_rfl) allP_nil ?_
   refine run_split 26 (decide ((0 : Int) ≤ x)) (.inl (by kernel_rfl)) (fun g68 => ?_) (fun g68 => ?_)
   ·refine rs 7 [none, none, none, some ⟨iS (miGet [(114, 8), (99, ((p.Code.length : Nat) : Int)), (109, p.Cells), (112, ((p.Pipes.length : Nat) : Int)), (108, p.Locks), (103, p.Groups), (107, 2), (45, 1)] k), [], 2, [1]⟩] _ (by kernel_rfl) (allP_cons (ob_lookK .u8 k [(114, 8), (99, ((p.Code.length : Nat) : Int)), (109, p.Cells), (112, ((p.Pipes.length : Nat) : Int)), (108, p.Locks), (103, p.Groups), (107, 2), (45, 1)] 1 2) allP_nil) ?_
    refine rf [(6, bS (decide (x < (miGet [(114, 8), (99, ((p.Code.length : Nat) : Int)), (109, p.Cells), (112, ((p.Pipes.length : Nat) : Int)), (108, p.Locks), (103, p.Groups), (107, 2), (45, 1)] k))))] [(0, .row 25 (Enc.cells p)), (1, .map [(.int .u8 114, iS 8), (.int .u8 99, iS ((p.Code.length : Nat) : Int)), (.int .u8 109, iS p.Cells), (.int .u8 112, iS ((p.Pipes.length : Nat) : Int)), (.int .u8 108, iS p.Locks), (.int .u8 103, iS p.Groups), (.int .u8 107, iS 2), (.int .u8 45, iS 1)])] 2 (by kernel_rfl) ?_
    exact hK67 () _ _ _ trivial (leSt_m [(0, 0), (1, 1)] [] (by (try simp only [g68]) <;> simp only [push_cast, seval]) (by (try simp only [g68]) <;> simp only [push_cast, seval]) rfl rfl rfl)
   ·refine rs 7 [] [] (by kernel_rfl) allP_nil ?_
    refine rf [(6, bS false)] [(0, .row 25 (Enc.cells p)), (1, .map [(.int .u8 114, iS 8), (.int .u8 99, iS ((p.Code.length : Nat) : Int)), (.int .u8 109, iS p.Cells), (.int .u8 112, iS ((p.Pipes.length : Nat) : Int)), (.int .u8 108, iS p.Locks), (.int .u8 103, iS p.Groups), (.int .u8 107, iS 2), (.int .u8 45, iS 1)])] 2 (by kernel_rfl) ?_
    exact hK67 () _ _ _ trivial (leSt_m [(0, 0), (1, 1)] [] (by (try simp only [g68]) <;> simp only [push_cast, seval]) (by (try simp only [g68]) <;> simp only [push_cast, seval]) rfl rfl rfl)
  ·dsimp only
   obtain rfl := Option.some.inj h
   refine ret_at (bS ((decide ((0 : Int) ≤ x)) && (decide (x < (miGet [(114, 8), (99, ((p.Code.length : Nat) : Int)), (109, p.Cells), (112, ((p.Pipes.length : Nat) : Int)), (108, p.Locks), (103, p.Groups), (107, 2), (45, 1)] k))))) (by kernel_rfl) ?_
   exact ret_e [] [] (by simp only [push_cast, seval]) (by simp only [push_cast, seval]) rfl rfl rfl

set_option maxRecDepth 100000 in
set_option maxHeartbeats 200000000 in
theorem code_Check_spec (p : GProgram) (r : Fault) (h : code_Check p = some r) : SpecW Tryd.prog 10 [.agg (Enc.cells p)] [] 0 (fun x h n => x = .agg (Enc.cells r) ∧ h = [] ∧ n = 0) := by
 unfold code_Check at h
 refine spec_of (draw_ok _) Tryd.func10 rfl (by decide) rfl (by kernel_rfl) ?_
 refine seq_np ?_
 refine reg_f ?_
 refine rs 2 [] [] (by kernel_rfl) allP_nil ?_
 refine rf [(1, .ptr 0 0), (2, .ptr 1 0)] [(0, .row 25 (Enc.cells p)), (1, .row 31 [iS 0, iS 0])] 2 (by kernel_rfl) ?_
 refine wk_id ?_
 refine seq_np ?_
 refine seq_cut (A := Unit) (fun _ => ([(1, .ptr 0 0), (2, .ptr 1 0), (17, bS ((decide ((1000 : Int) < ((p.Code.length : Nat) : Int))) || (decide ((20 : Int) < ((p.Pipes.length : Nat) : Int)))))], [(0, .row 25 (Enc.cells p)), (1, .row 31 [iS 0, iS 0])], 2)) (fun _ => True) (fun K122 hK122 => ?_) (fun _ _ => ?_)
 ·refine reg_f ?_
  refine rs 5 [] [] (by kernel_rfl) allP_nil ?_
  refine run_split 12 (decide ((1000 : Int) < ((p.Code.length : Nat) : Int))) (.inl (by kernel_rfl)) (fun g123 => ?_) (fun g123 => ?_)
  ·refine rs 5 [] [] (by kernel_rfl) allP_nil ?_
   refine rf [(1, .ptr 0 0), (2, .ptr 1 0), (17, bS true)] [(0, .row 25 (Enc.cells p)), (1, .row 31 [iS 0, iS 0])] 2 (by kernel_rfl) ?_
   exact hK122 () _ _ _ trivial (leSt_m [(0, 0), (1, 1)] [] (by (try simp only [g123]) <;> simp only [push_cast, seval]) (by (try simp only [g123]) <;> simp only [push_cast, seval]) rfl rfl rfl)
  ·refine rs 5 [] [] (by kernel_rfl) allP_nil ?_
   refine rf [(1, .ptr 0 0), (2, .ptr 1 0), (17, bS (decide ((20 : Int) < ((p.Pipes.length : Nat) : Int))))] [(0, .row 25 (Enc.cells p)), (1, .row 31 [iS 0, iS 0])] 2 (by kernel_rfl) ?_
   exact hK122 () _ _ _ trivial (leSt_m [(0, 0), (1, 1)] [] (by (try simp only [g123]) <;> simp only [push_cast, seval]) (by (try simp only [g123]) <;> simp only [push_cast, seval]) rfl rfl rfl)
 ·dsimp only
  refine cond_sx h (by kernel_rfl) (fun g437 h => ?_) (fun g437 h => ?_)
  ·refine seq_np ?_
   refine reg_f ?_
   obtain ⟨r125, hr125, h⟩ := bind_sx h
   refine run_call 23 [iS 2, iS 0] (some 18) (by kernel_rfl) ?_
   refine call_0 (code_fault_spec 2 0 r125 hr125) (by simp only [push_cast, seval]) (by simp only [push_cast, seval]) ?_
   refine back_f ?_
   refine rs 1 [] [] (by kernel_rfl) allP_nil ?_
   refine rf [(2, .ptr 1 0)] [(0, .row 25 (Enc.cells p)), (1, .row 31 (Enc.cells r125))] 2 (by kernel_rfl) ?_
   refine wk_id ?_
   obtain rfl := Option.some.inj h
   refine ret_at (.agg (Enc.cells r125)) (by kernel_rfl) ?_
   exact ret_e [] [] (by simp only [push_cast, seval]) (by simp only [push_cast, seval]) rfl rfl rfl
  ·refine wk_id ?_
   refine seq_np ?_
   refine seq_cut (A := Unit) (fun _ => ([(1, .ptr 0 0), (2, .ptr 1 0), (36, bS ((decide ((min (min p.Cells p.Locks) p.Groups) < 0)) || (decide ((20 : Int) < (max (max p.Cells p.Locks) p.Groups)))))], [(0, .row 25 (Enc.cells p)), (1, .row 31 [iS 0, iS 0])], 2)) (fun _ => True) (fun K130 hK130 => ?_) (fun _ _ => ?_)
   ·refine reg_f ?_
    refine rs 9 [] [] (by kernel_rfl) allP_nil ?_
    refine run_split 27 (decide ((min (min p.Cells p.Locks) p.Groups) < 0)) (.inl (by kernel_rfl)) (fun g131 => ?_) (fun g131 => ?_)
    ·refine rs 9 [] [] (by kernel_rfl) allP_nil ?_
     refine rf [(1, .ptr 0 0), (2, .ptr 1 0), (36, bS true)] [(0, .row 25 (Enc.cells p)), (1, .row 31 [iS 0, iS 0])] 2 (by kernel_rfl) ?_
     exact hK130 () _ _ _ trivial (leSt_m [(0, 0), (1, 1)] [] (by (try simp only [g131]) <;> simp only [push_cast, seval]) (by (try simp only [g131]) <;> simp only [push_cast, seval]) rfl rfl rfl)
    ·refine rs 9 [] [] (by kernel_rfl) allP_nil ?_
     refine rf [(1, .ptr 0 0), (2, .ptr 1 0), (36, bS (decide ((20 : Int) < (max (max p.Cells p.Locks) p.Groups))))] [(0, .row 25 (Enc.cells p)), (1, .row 31 [iS 0, iS 0])] 2 (by kernel_rfl) ?_
     exact hK130 () _ _ _ trivial (leSt_m [(0, 0), (1, 1)] [] (by (try simp only [g131]) <;> simp only [push_cast, seval]) (by (try simp only [g131]) <;> simp only [push_cast, seval]) rfl rfl rfl)
   ·dsimp only
    refine cond_sx h (by kernel_rfl) (fun g436 h => ?_) (fun g436 h => ?_)
    ·refine seq_np ?_
     refine reg_f ?_
     obtain ⟨r133, hr133, h⟩ := bind_sx h
     refine run_call 23 [iS 3, iS 0] (some 37) (by kernel_rfl) ?_
     refine call_0 (code_fault_spec 3 0 r133 hr133) (by simp only [push_cast, seval]) (by simp only [push_cast, seval]) ?_
     refine back_f ?_
     refine rs 1 [] [] (by kernel_rfl) allP_nil ?_
     refine rf [(2, .ptr 1 0)] [(0, .row 25 (Enc.cells p)), (1, .row 31 (Enc.cells r133))] 2 (by kernel_rfl) ?_
     refine wk_id ?_
     obtain rfl := Option.some.inj h
     refine ret_at (.agg (Enc.cells r133)) (by kernel_rfl) ?_
     exact ret_e [] [] (by simp only [push_cast, seval]) (by simp only [push_cast, seval]) rfl rfl rfl
    ·refine wk_id ?_
     refine seq_np ?_
     refine seq_np ?_
     refine reg_f ?_
     refine rs 4 [] [] (by kernel_rfl) allP_nil ?_
     refine rf [(1, .ptr 0 0), (2, .ptr 1 0), (39, .sl p.Pipes.length (fl p.Pipes)), (40, iS ((p.Pipes.length : Nat) : Int)), (41, iS 0)] [(0, .row 25 (Enc.cells p)), (1, .row 31 [iS 0, iS 0])] 2 (by kernel_rfl) ?_
     refine wk_id ?_
     refine block_np ?_
     refine loop_sx (S := Int) (fun a => ([(1, .ptr 0 0), (2, .ptr 1 0), (39, .sl p.Pipes.length (fl p.Pipes)), (40, iS ((p.Pipes.length : Nat) : Int)), (41, iS a)], [(0, .row 25 (Enc.cells p)), (1, .row 31 [iS 0, iS 0])], 2)) h (leSt_m [(0, 0), (1, 1)] [] (by simp only [push_cast, seval]) (by simp only [push_cast, seval]) rfl rfl rfl) ?_
     rintro t41q7 o3 R3 h hr3 hn3 hx3 ht3
     try dsimp only at h hn3 ⊢
     unfold code_Check_l2 at h
     try dsimp only at h
     refine seq_np ?_
     refine reg_f ?_
     refine rs 1 [] [] (by kernel_rfl) allP_nil ?_
     refine rf [(1, .ptr 0 0), (2, .ptr 1 0), (39, .sl p.Pipes.length (fl p.Pipes)), (40, iS ((p.Pipes.length : Nat) : Int)), (41, iS t41q7), (42, bS (decide (t41q7 < ((p.Pipes.length : Nat) : Int))))] [(0, .row 25 (Enc.cells p)), (1, .row 31 [iS 0, iS 0])] 2 (by kernel_rfl) ?_
     refine wk_id ?_
     refine seq_np ?_
     refine cond_sx h (by kernel_rfl) (fun g435 h => ?_) (fun g435 h => ?_)
     ·refine wk_id ?_
      refine seq_np ?_
      refine block_np ?_
      refine chk_sx h (fun g199 h => ?_)
      refine seq_np ?_
      refine reg_f ?_
      have k198 : 0 ≤ t41q7 ∧ t41q7 < ((p.Pipes.length : Nat) : Int) := by first | simpa only [Bool.and_eq_true, decide_eq_true_eq, bne_iff_ne, ne_eq] using g199 | (simp at g199 ⊢; omega)
      refine rs 5 [none, some ⟨.iptr (fl p.Pipes) ((t41q7).toNat * 1), [], 2, []⟩, some ⟨iS (ix p.Pipes t41q7), [], 2, []⟩] _ (by kernel_rfl) (allP_cons (ob_ld p.Pipes t41q7 1 0 ((t41q7).toNat * 1) k198 rfl (by decide) (by first | rfl | omega) (dflS Tryd.prog 3) (iS (ix p.Pipes t41q7)) rfl 2 []) (allP_cons (ob_ix_l p.Pipes 1 2 t41q7 k198) allP_nil)) ?_
      refine rf [(1, .ptr 0 0), (2, .ptr 1 0), (3, iS t41q7), (4, iS (ix p.Pipes t41q7)), (39, .sl p.Pipes.length (fl p.Pipes)), (40, iS ((p.Pipes.length : Nat) : Int)), (41, iS t41q7)] [(0, .row 25 (Enc.cells p)), (1, .row 31 [iS 0, iS 0])] 2 (by kernel_rfl) ?_
      refine wk_id ?_
      refine seq_cut (A := Unit) (fun _ => ([(1, .ptr 0 0), (2, .ptr 1 0), (3, iS t41q7), (39, .sl p.Pipes.length (fl p.Pipes)), (40, iS ((p.Pipes.length : Nat) : Int)), (41, iS t41q7), (51, bS ((decide ((ix p.Pipes t41q7) < 0)) || (decide ((100 : Int) < (ix p.Pipes t41q7)))))], [(0, .row 25 (Enc.cells p)), (1, .row 31 [iS 0, iS 0])], 2)) (fun _ => True) (fun K201 hK201 => ?_) (fun _ _ => ?_)
      ·refine reg_f ?_
       refine rs 3 [] [] (by kernel_rfl) allP_nil ?_
       refine run_split 48 (decide ((ix p.Pipes t41q7) < 0)) (.inl (by kernel_rfl)) (fun g202 => ?_) (fun g202 => ?_)
       ·refine rs 3 [] [] (by kernel_rfl) allP_nil ?_
        refine rf [(1, .ptr 0 0), (2, .ptr 1 0), (3, iS t41q7), (39, .sl p.Pipes.length (fl p.Pipes)), (40, iS ((p.Pipes.length : Nat) : Int)), (41, iS t41q7), (51, bS true)] [(0, .row 25 (Enc.cells p)), (1, .row 31 [iS 0, iS 0])] 2 (by kernel_rfl) ?_
        exact hK201 () _ _ _ trivial (leSt_m [(0, 0), (1, 1)] [] (by (try simp only [g202]) <;> simp only [push_cast, seval]) (by (try simp only [g202]) <;> simp only [push_cast, seval]) rfl rfl rfl)
       ·refine rs 3 [] [] (by kernel_rfl) allP_nil ?_
        refine rf [(1, .ptr 0 0), (2, .ptr 1 0), (3, iS t41q7), (39, .sl p.Pipes.length (fl p.Pipes)), (40, iS ((p.Pipes.length : Nat) : Int)), (41, iS t41q7), (51, bS (decide ((100 : Int) < (ix p.Pipes t41q7))))] [(0, .row 25 (Enc.cells p)), (1, .row 31 [iS 0, iS 0])] 2 (by kernel_rfl) ?_
        exact hK201 () _ _ _ trivial (leSt_m [(0, 0), (1, 1)] [] (by (try simp only [g202]) <;> simp only [push_cast, seval]) (by (try simp only [g202]) <;> simp only [push_cast, seval]) rfl rfl rfl)
      ·dsimp only
       refine cond_sx h (by kernel_rfl) (fun g205 h => ?_) (fun g205 h => ?_)
       ·refine seq_np ?_
        refine reg_f ?_
        refine rs 1 [] [] (by kernel_rfl) allP_nil ?_
        obtain ⟨r204, hr204, h⟩ := bind_sx h
        refine run_call 23 [iS 8, iS t41q7] (some 53) (by kernel_rfl) ?_
        refine call_0 (code_fault_spec 8 t41q7 r204 hr204) (by simp only [push_cast, seval]) (by simp only [push_cast, seval]) ?_
        refine back_f ?_
        refine rs 1 [] [] (by kernel_rfl) allP_nil ?_
        refine rf [(2, .ptr 1 0)] [(0, .row 25 (Enc.cells p)), (1, .row 31 (Enc.cells r204))] 2 (by kernel_rfl) ?_
        refine wk_id ?_
        refine rt_cast ht3 ?_
        obtain ⟨r0, h, e0⟩ := map_sx h
        have e1 := hr3 r0 e0.symm
        subst r0
        obtain rfl := Option.some.inj h
        refine ret_at (.agg (Enc.cells r204)) (by kernel_rfl) ?_
        exact ret_e [] [] (by simp only [push_cast, seval]) (by simp only [push_cast, seval]) rfl rfl rfl
       ·refine wk_id ?_
        refine wk_id ?_
        refine reg_f ?_
        refine rs 2 [] [] (by kernel_rfl) allP_nil ?_
        refine rf [(1, .ptr 0 0), (2, .ptr 1 0), (39, .sl p.Pipes.length (fl p.Pipes)), (40, iS ((p.Pipes.length : Nat) : Int)), (41, iS (IntKind.i64.wrap (t41q7 + 1)))] [(0, .row 25 (Enc.cells p)), (1, .row 31 [iS 0, iS 0])] 2 (by kernel_rfl) ?_
        exact hn3 ((IntKind.i64.wrap (t41q7 + 1))) _ _ _ (Option.some.inj h).symm (leSt_m [(0, 0), (1, 1)] [] (by simp only [push_cast, seval]) (by simp only [push_cast, seval]) rfl rfl rfl)
     ·change R3 (.exit 0) _ _ _
      refine ex_cast hx3 (id := 0) ?_
      obtain ⟨r0, h, e0⟩ := map_sx h
      have e1 := hr3 r0 e0.symm
      subst r0
      refine wk_id ?_
      refine wk_id ?_
      refine seq_np ?_
      refine seq_np ?_
      refine reg_f ?_
      refine rs 4 [] [] (by kernel_rfl) allP_nil ?_
      refine rf [(1, .ptr 0 0), (2, .ptr 1 0), (56, .sl p.Code.length (fl p.Code)), (57, iS ((p.Code.length : Nat) : Int)), (58, iS 0)] [(0, .row 25 (Enc.cells p)), (1, .row 31 [iS 0, iS 0])] 2 (by kernel_rfl) ?_
      refine wk_id ?_
      refine block_np ?_
      refine loop_sx (S := Int) (fun a => ([(1, .ptr 0 0), (2, .ptr 1 0), (56, .sl p.Code.length (fl p.Code)), (57, iS ((p.Code.length : Nat) : Int)), (58, iS a)], [(0, .row 25 (Enc.cells p)), (1, .row 31 [iS 0, iS 0])], 2)) h (leSt_m [(0, 0), (1, 1)] [] (by simp only [push_cast, seval]) (by simp only [push_cast, seval]) rfl rfl rfl) ?_
      rintro t58q7 o4 R4 h hr4 hn4 hx4 ht4
      try dsimp only at h hn4 ⊢
      unfold code_Check_l1 at h
      try dsimp only at h
      refine seq_np ?_
      refine reg_f ?_
      refine rs 1 [] [] (by kernel_rfl) allP_nil ?_
      refine rf [(1, .ptr 0 0), (2, .ptr 1 0), (56, .sl p.Code.length (fl p.Code)), (57, iS ((p.Code.length : Nat) : Int)), (58, iS t58q7), (59, bS (decide (t58q7 < ((p.Code.length : Nat) : Int))))] [(0, .row 25 (Enc.cells p)), (1, .row 31 [iS 0, iS 0])] 2 (by kernel_rfl) ?_
      refine wk_id ?_
      refine seq_np ?_
      refine cond_sx h (by kernel_rfl) (fun g434 h => ?_) (fun g434 h => ?_)
      ·refine wk_id ?_
       refine seq_np ?_
       refine block_np ?_
       refine chk_sx h (fun g401 h => ?_)
       refine seq_np ?_
       refine reg_f ?_
       have k400 : 0 ≤ t58q7 ∧ t58q7 < ((p.Code.length : Nat) : Int) := by first | simpa only [Bool.and_eq_true, decide_eq_true_eq, bne_iff_ne, ne_eq] using g401 | (simp at g401 ⊢; omega)
       refine rs 6 [none, some ⟨.iptr (fl p.Code) ((t58q7).toNat * 3), [], 2, []⟩, some ⟨.agg (Enc.cells (ix p.Code t58q7)), [], 2, []⟩] _ (by kernel_rfl) (allP_cons (ob_ldw p.Code t58q7 3 ((t58q7).toNat * 3) k400 rfl (by first | rfl | omega) (Enc.cells (ix p.Code t58q7)) rfl 2 []) (allP_cons (ob_ix_l p.Code 3 2 t58q7 k400) allP_nil)) ?_
       refine rf [(1, .ptr 0 0), (2, .ptr 1 0), (5, iS t58q7), (6, .ptr 2 0), (56, .sl p.Code.length (fl p.Code)), (57, iS ((p.Code.length : Nat) : Int)), (58, iS t58q7)] [(0, .row 25 (Enc.cells p)), (1, .row 31 [iS 0, iS 0]), (2, .row 38 (Enc.cells (ix p.Code t58q7)))] 3 (by kernel_rfl) ?_
       refine wk_id ?_
       refine seq_np ?_
       refine seq_cut (A := Unit) (fun _ => ([(1, .ptr 0 0), (2, .ptr 1 0), (5, iS t58q7), (6, .ptr 2 0), (56, .sl p.Code.length (fl p.Code)), (57, iS ((p.Code.length : Nat) : Int)), (58, iS t58q7), (70, bS ((decide ((ix p.Code t58q7).Op < 1)) || (decide ((23 : Int) ≤ (ix p.Code t58q7).Op))))], [(0, .row 25 (Enc.cells p)), (1, .row 31 [iS 0, iS 0]), (2, .row 38 (Enc.cells (ix p.Code t58q7)))], 3)) (fun _ => True) (fun K406 hK406 => ?_) (fun _ _ => ?_)
       ·refine reg_f ?_
        refine rs 4 [] [] (by kernel_rfl) allP_nil ?_
        refine run_split 66 (decide ((ix p.Code t58q7).Op < 1)) (.inl (by kernel_rfl)) (fun g407 => ?_) (fun g407 => ?_)
        ·refine rs 4 [] [] (by kernel_rfl) allP_nil ?_
         refine rf [(1, .ptr 0 0), (2, .ptr 1 0), (5, iS t58q7), (6, .ptr 2 0), (56, .sl p.Code.length (fl p.Code)), (57, iS ((p.Code.length : Nat) : Int)), (58, iS t58q7), (70, bS true)] [(0, .row 25 (Enc.cells p)), (1, .row 31 [iS 0, iS 0]), (2, .row 38 (Enc.cells (ix p.Code t58q7)))] 3 (by kernel_rfl) ?_
         exact hK406 () _ _ _ trivial (leSt_m [(0, 0), (1, 1), (2, 2)] [] (by (try simp only [g407]) <;> simp only [push_cast, seval]) (by (try simp only [g407]) <;> simp only [push_cast, seval]) rfl rfl rfl)
        ·refine rs 4 [] [] (by kernel_rfl) allP_nil ?_
         refine rf [(1, .ptr 0 0), (2, .ptr 1 0), (5, iS t58q7), (6, .ptr 2 0), (56, .sl p.Code.length (fl p.Code)), (57, iS ((p.Code.length : Nat) : Int)), (58, iS t58q7), (70, bS (decide ((23 : Int) ≤ (ix p.Code t58q7).Op)))] [(0, .row 25 (Enc.cells p)), (1, .row 31 [iS 0, iS 0]), (2, .row 38 (Enc.cells (ix p.Code t58q7)))] 3 (by kernel_rfl) ?_
         exact hK406 () _ _ _ trivial (leSt_m [(0, 0), (1, 1), (2, 2)] [] (by (try simp only [g407]) <;> simp only [push_cast, seval]) (by (try simp only [g407]) <;> simp only [push_cast, seval]) rfl rfl rfl)
       ·dsimp only
        refine cond_sx h (by kernel_rfl) (fun g433 h => ?_) (fun g433 h => ?_)
        ·refine seq_np ?_
         refine reg_f ?_
         refine rs 1 [] [] (by kernel_rfl) allP_nil ?_
         obtain ⟨r409, hr409, h⟩ := bind_sx h
         refine run_call 23 [iS 4, iS t58q7] (some 72) (by kernel_rfl) ?_
         refine call_0 (code_fault_spec 4 t58q7 r409 hr409) (by simp only [push_cast, seval]) (by simp only [push_cast, seval]) ?_
         refine back_f ?_
         refine rs 1 [] [] (by kernel_rfl) allP_nil ?_
         refine rf [(2, .ptr 1 0)] [(0, .row 25 (Enc.cells p)), (1, .row 31 (Enc.cells r409)), (2, .row 38 (Enc.cells (ix p.Code t58q7)))] 3 (by kernel_rfl) ?_
         refine wk_id ?_
         refine rt_cast ht4 ?_
         obtain ⟨r0, h, e0⟩ := map_sx h
         have e1 := hr4 r0 e0.symm
         subst r0
         obtain rfl := Option.some.inj h
         refine ret_at (.agg (Enc.cells r409)) (by kernel_rfl) ?_
         exact ret_e [] [] (by simp only [push_cast, seval]) (by simp only [push_cast, seval]) rfl rfl rfl
        ·refine wk_id ?_
         refine chk_sx h (fun g413 h => ?_)
         refine seq_np ?_
         refine reg_f ?_
         have k412 : 0 ≤ (ix p.Code t58q7).Op ∧ (ix p.Code t58q7).Op < ((codeKinds.length : Nat) : Int) := by first | simpa only [Bool.and_eq_true, decide_eq_true_eq, bne_iff_ne, ne_eq] using g413 | (simp at g413 ⊢; omega)
         refine rs 6 [none, none, some ⟨.iptr (fl codeKinds) (((ix p.Code t58q7).Op).toNat * 2), [], 3, []⟩, none, some ⟨.v (.string (ix codeKinds (ix p.Code t58q7).Op).args), [], 3, []⟩] _ (by kernel_rfl) (allP_cons (ob_ld codeKinds (ix p.Code t58q7).Op 2 1 ((((ix p.Code t58q7).Op).toNat * 2) + 1) k412 rfl (by decide) (by first | rfl | omega) (dflS Tryd.prog 9) (.v (.string (ix codeKinds (ix p.Code t58q7).Op).args)) rfl 3 []) (allP_cons (ob_tab codeKinds kindsTab (by kernel_rfl) 23 2 3 rfl (ix p.Code t58q7).Op k412) allP_nil)) ?_
         refine rf [(1, .ptr 0 0), (2, .ptr 1 0), (5, iS t58q7), (6, .ptr 2 0), (7, .v (.string (ix codeKinds (ix p.Code t58q7).Op).args)), (56, .sl p.Code.length (fl p.Code)), (57, iS ((p.Code.length : Nat) : Int)), (58, iS t58q7)] [(0, .row 25 (Enc.cells p)), (1, .row 31 [iS 0, iS 0]), (2, .row 38 (Enc.cells (ix p.Code t58q7)))] 3 (by kernel_rfl) ?_
         refine wk_id ?_
         refine chk_sx h (fun g424 h => ?_)
         refine seq_cut (A := Bool) (fun a => ([(1, .ptr 0 0), (2, .ptr 1 0), (5, iS t58q7), (56, .sl p.Code.length (fl p.Code)), (57, iS ((p.Code.length : Nat) : Int)), (58, iS t58q7), (93, bS a)], [(0, .row 25 (Enc.cells p)), (1, .row 31 [iS 0, iS 0])], 2)) (fun a => (code_Check_j1 p t58q7 a) = some o4) (fun K422 hK422 => ?_) ?_
         ·refine reg_t ?_
          have k423 : 0 ≤ (0 : Int) ∧ (0 : Int) < ((((ix codeKinds (ix p.Code t58q7).Op).args).size : Nat) : Int) := by first | simpa only [Bool.and_eq_true, decide_eq_true_eq, bne_iff_ne, ne_eq] using g424 | (simp at g424 ⊢; omega)
          refine rs 5 [none, none, some ⟨.v (.int .u8 ((((ix codeKinds (ix p.Code t58q7).Op).args).data.getD ((0 : Int)).toNat 0).toNat : Int)), [], 5, []⟩] _ (by kernel_rfl) (allP_cons (ob_p (v := .v (.int .u8 ((((ix codeKinds (ix p.Code t58q7).Op).args).data.getD ((0 : Int)).toNat 0).toNat : Int))) (nx := 5) (r := []) k423) allP_nil) ?_
          obtain ⟨r425, hr425, h⟩ := bind_sx h
          refine run_call 24 [.agg (Enc.cells p), .v (.int .u8 ((((ix codeKinds (ix p.Code t58q7).Op).args).data.getD ((0 : Int)).toNat 0).toNat : Int)), iS (ix p.Code t58q7).A] (some 83) (by kernel_rfl) ?_
          refine callE_0 (code_fits_spec p ((((ix codeKinds (ix p.Code t58q7).Op).args).data.getD ((0 : Int)).toNat 0).toNat : Int) (ix p.Code t58q7).A r425 hr425) (by simp only [push_cast, seval]) (by simp only [push_cast, seval]) ?_
          refine back_t ?_
          refine rs 2 [] [] (by kernel_rfl) allP_nil ?_
          refine run_br h 85 (.inl (by kernel_rfl)) (fun g426 h => ?_) (fun g426 h => ?_)
          ·refine rs 8 [] [] (by kernel_rfl) allP_nil ?_
           refine rt [(1, .ptr 0 0), (2, .ptr 1 0), (5, iS t58q7), (56, .sl p.Code.length (fl p.Code)), (57, iS ((p.Code.length : Nat) : Int)), (58, iS t58q7), (93, bS true)] [(0, .row 25 (Enc.cells p)), (1, .row 31 [iS 0, iS 0]), (2, .row 38 (Enc.cells (ix p.Code t58q7)))] 19 follows (by kernel_rfl) ?_
           exact hK422 (true) _ _ _ h (leSt_m [(0, 0), (1, 1)] [] (by (try simp only [g426]) <;> simp only [push_cast, seval]) (by (try simp only [g426]) <;> simp only [push_cast, seval]) rfl rfl rfl)
          ·refine chk_sx h (fun g428 h => ?_)
           have k427 : 0 ≤ (1 : Int) ∧ (1 : Int) < ((((ix codeKinds (ix p.Code t58q7).Op).args).size : Nat) : Int) := by first | simpa only [Bool.and_eq_true, decide_eq_true_eq, bne_iff_ne, ne_eq] using g428 | (simp at g428 ⊢; omega)
           refine rs 5 [none, none, some ⟨.v (.int .u8 ((((ix codeKinds (ix p.Code t58q7).Op).args).data.getD ((1 : Int)).toNat 0).toNat : Int)), [], 13, []⟩] _ (by kernel_rfl) (allP_cons (ob_p (v := .v (.int .u8 ((((ix codeKinds (ix p.Code t58q7).Op).args).data.getD ((1 : Int)).toNat 0).toNat : Int))) (nx := 13) (r := []) k427) allP_nil) ?_
           obtain ⟨r429, hr429, h⟩ := bind_sx h
           refine run_call 24 [.agg (Enc.cells p), .v (.int .u8 ((((ix codeKinds (ix p.Code t58q7).Op).args).data.getD ((1 : Int)).toNat 0).toNat : Int)), iS (ix p.Code t58q7).B] (some 91) (by kernel_rfl) ?_
           refine callE_0 (code_fits_spec p ((((ix codeKinds (ix p.Code t58q7).Op).args).data.getD ((1 : Int)).toNat 0).toNat : Int) (ix p.Code t58q7).B r429 hr429) (by simp only [push_cast, seval]) (by simp only [push_cast, seval]) ?_
           refine back_t ?_
           refine rs 2 [] [] (by kernel_rfl) allP_nil ?_
           refine rt [(1, .ptr 0 0), (2, .ptr 1 0), (5, iS t58q7), (56, .sl p.Code.length (fl p.Code)), (57, iS ((p.Code.length : Nat) : Int)), (58, iS t58q7), (93, bS (!r429))] [(0, .row 25 (Enc.cells p)), (1, .row 31 [iS 0, iS 0]), (2, .row 38 (Enc.cells (ix p.Code t58q7)))] 19 follows (by kernel_rfl) ?_
           exact hK422 ((!r429)) _ _ _ h (leSt_m [(0, 0), (1, 1)] [] (by (try simp only [g426]) <;> simp only [push_cast, seval]) (by (try simp only [g426]) <;> simp only [push_cast, seval]) rfl rfl rfl)
         ·rintro t93q13 h
          try dsimp only at h ⊢
          unfold code_Check_j1 at h
          refine cond_sx h (by kernel_rfl) (fun g432 h => ?_) (fun g432 h => ?_)
          ·refine seq_np ?_
           refine reg_f ?_
           refine rs 1 [] [] (by kernel_rfl) allP_nil ?_
           obtain ⟨r431, hr431, h⟩ := bind_sx h
           refine run_call 23 [iS 5, iS t58q7] (some 95) (by kernel_rfl) ?_
           refine call_0 (code_fault_spec 5 t58q7 r431 hr431) (by simp only [push_cast, seval]) (by simp only [push_cast, seval]) ?_
           refine back_f ?_
           refine rs 1 [] [] (by kernel_rfl) allP_nil ?_
           refine rf [(2, .ptr 1 0)] [(0, .row 25 (Enc.cells p)), (1, .row 31 (Enc.cells r431))] 2 (by kernel_rfl) ?_
           refine wk_id ?_
           refine rt_cast ht4 ?_
           obtain ⟨r0, h, e0⟩ := map_sx h
           have e1 := hr4 r0 e0.symm
           subst r0
           obtain rfl := Option.some.inj h
           refine ret_at (.agg (Enc.cells r431)) (by kernel_rfl) ?_
           exact ret_e [] [] (by simp only [push_cast, seval]) (by simp only [push_cast, seval]) rfl rfl rfl
          ·refine wk_id ?_
           refine wk_id ?_
           refine reg_f ?_
           refine rs 2 [] [] (by kernel_rfl) allP_nil ?_
           refine rf [(1, .ptr 0 0), (2, .ptr 1 0), (56, .sl p.Code.length (fl p.Code)), (57, iS ((p.Code.length : Nat) : Int)), (58, iS (IntKind.i64.wrap (t58q7 + 1)))] [(0, .row 25 (Enc.cells p)), (1, .row 31 [iS 0, iS 0])] 2 (by kernel_rfl) ?_
           exact hn4 ((IntKind.i64.wrap (t58q7 + 1))) _ _ _ (Option.some.inj h).symm (leSt_m [(0, 0), (1, 1)] [] (by simp only [push_cast, seval]) (by simp only [push_cast, seval]) rfl rfl rfl)
      ·change R4 (.exit 2) _ _ _
       refine ex_cast hx4 (id := 2) ?_
       obtain ⟨r0, h, e0⟩ := map_sx h
       have e1 := hr4 r0 e0.symm
       subst r0
       refine wk_id ?_
       refine wk_id ?_
       refine seq_np ?_
       refine reg_f ?_
       refine rs 2 [] [] (by kernel_rfl) allP_nil ?_
       refine rf [(2, .ptr 1 0)] [(0, .row 25 (Enc.cells p)), (1, .row 31 [iS 0, iS 0])] 2 (by kernel_rfl) ?_
       refine wk_id ?_
       obtain rfl := Option.some.inj h
       refine ret_at (.agg [iS 0, iS 0]) (by kernel_rfl) ?_
       exact ret_e [] [] (by simp only [push_cast, seval]) (by simp only [push_cast, seval]) rfl rfl rfl

set_option maxRecDepth 100000 in
set_option maxHeartbeats 200000000 in
theorem code_Local_spec (op : Int) (r : Bool) (h : code_Local op = some r) : SpecW Tryd.prog 25 [iS op] [] 0 (fun x h n => x = bS r ∧ h = [] ∧ n = 0) := by
 unfold code_Local at h
 refine spec_of (draw_ok _) Tryd.func25 rfl (by decide) rfl (by kernel_rfl) ?_
 refine seq_np ?_
 refine reg_f ?_
 refine rs 1 [] [] (by kernel_rfl) allP_nil ?_
 refine rf [(0, iS op)] [] 0 (by kernel_rfl) ?_
 refine wk_id ?_
 refine seq_cut (A := Unit) (fun _ => ([(2, bS ((decide ((1 : Int) ≤ op)) && (decide (op ≤ 7))))], [], 0)) (fun _ => True) (fun K452 hK452 => ?_) (fun _ _ => ?_)
 ·refine reg_f ?_
  refine rs 3 [] [] (by kernel_rfl) allP_nil ?_
  refine run_split 5 (decide ((1 : Int) ≤ op)) (.inl (by kernel_rfl)) (fun g453 => ?_) (fun g453 => ?_)
  ·refine rs 4 [] [] (by kernel_rfl) allP_nil ?_
   refine rf [(2, bS (decide (op ≤ 7)))] [] 0 (by kernel_rfl) ?_
   exact hK452 () _ _ _ trivial (leSt_m [] [] (by (try simp only [g453]) <;> simp only [push_cast, seval]) (by (try simp only [g453]) <;> simp only [push_cast, seval]) rfl rfl rfl)
  ·refine rs 4 [] [] (by kernel_rfl) allP_nil ?_
   refine rf [(2, bS false)] [] 0 (by kernel_rfl) ?_
   exact hK452 () _ _ _ trivial (leSt_m [] [] (by (try simp only [g453]) <;> simp only [push_cast, seval]) (by (try simp only [g453]) <;> simp only [push_cast, seval]) rfl rfl rfl)
 ·dsimp only
  obtain rfl := Option.some.inj h
  refine ret_at (bS ((decide ((1 : Int) ≤ op)) && (decide (op ≤ 7)))) (by kernel_rfl) ?_
  exact ret_e [] [] (by simp only [push_cast, seval]) (by simp only [push_cast, seval]) rfl rfl rfl

set_option maxRecDepth 100000 in
set_option maxHeartbeats 200000000 in
theorem code_Do_1_spec (c : GInstr) (pc : Int) (c0 : (VArr 8)) (r : Int × (VArr 8)) (h : code_Do_1 c pc c0 = some r) : SpecW Tryd.prog 26 [.agg (Enc.cells c), iS pc, .ptr 0 0] [(0, .row 26 (Enc.cells c0))] 1 (fun x h n => x = iS r.1 ∧ h = [(0, .row 26 (Enc.cells r.2))] ∧ n = 1) := by
 unfold code_Do_1 at h
 refine spec_of (draw_ok _) Tryd.func26 rfl (by decide) rfl (by kernel_rfl) ?_
 refine seq_np ?_
 refine reg_f ?_
 refine rs 2 [] [] (by kernel_rfl) allP_nil ?_
 refine rf [(1, iS pc), (2, .ptr 0 0), (3, .ptr 1 0)] [(0, .row 26 (Enc.cells c0)), (1, .row 38 (Enc.cells c))] 2 (by kernel_rfl) ?_
 refine wk_id ?_
 refine seq_np ?_
 refine reg_f ?_
 refine rs 3 [] [] (by kernel_rfl) allP_nil ?_
 refine rf [(1, iS (IntKind.i64.wrap (pc + 1))), (2, .ptr 0 0), (3, .ptr 1 0)] [(0, .row 26 (Enc.cells c0)), (1, .row 38 (Enc.cells c))] 2 (by kernel_rfl) ?_
 refine wk_id ?_
 refine seq_np ?_
 refine seq_np ?_
 refine reg_f ?_
 refine rs 2 [] [] (by kernel_rfl) allP_nil ?_
 refine rf [(1, iS (IntKind.i64.wrap (pc + 1))), (2, .ptr 0 0), (3, .ptr 1 0), (10, iS c.Op)] [(0, .row 26 (Enc.cells c0)), (1, .row 38 (Enc.cells c))] 2 (by kernel_rfl) ?_
 refine wk_id ?_
 refine block_cut (A := (VArr 8)) (fun a => ([(1, iS (IntKind.i64.wrap (pc + 1)))], [(0, .row 26 (Enc.cells a))], 1)) (fun a => (code_Do_1_j1 pc a) = some r) (fun K551 hK551 => ?_) ?_
 ·refine seq_np ?_
  refine reg_f ?_
  refine rs 2 [] [] (by kernel_rfl) allP_nil ?_
  refine rf [(1, iS (IntKind.i64.wrap (pc + 1))), (2, .ptr 0 0), (3, .ptr 1 0), (10, iS c.Op), (11, bS (c.Op == 1))] [(0, .row 26 (Enc.cells c0)), (1, .row 38 (Enc.cells c))] 2 (by kernel_rfl) ?_
  refine wk_id ?_
  refine cond_sx h (by kernel_rfl) (fun g599 h => ?_) (fun g599 h => ?_)
  ·refine chk_sx h (fun g555 h => ?_)
   refine reg_t ?_
   have k554 : 0 ≤ c.A ∧ c.A < ((8 : Nat) : Int) := by first | simpa only [Bool.and_eq_true, decide_eq_true_eq, bne_iff_ne, ne_eq] using g555 | (simp at g555 ⊢; omega)
   refine rs 8 [none, none, none, none, none, none, some ⟨.ptr 0 (0 + (c.A).toNat * 1), [], 8, []⟩, some ⟨.any, [(0, .row 26 (Enc.cells (c0.set c.A c.B)))], 9, [0]⟩] _ (by kernel_rfl) (allP_cons (ob_sta (P := Tryd.prog) ([] : List SV) ([] : List SV) c0 c.A c.B (0 + (c.A).toNat * 1) k554 rfl 0 9 26 3 (by kernel_rfl)) (allP_cons (ob_ixa 0 0 8 1 c.A 8 k554) allP_nil)) ?_
   refine rt [(1, iS (IntKind.i64.wrap (pc + 1)))] [(0, .row 26 (Enc.cells (c0.set c.A c.B))), (1, .row 38 (Enc.cells c))] 10 follows (by kernel_rfl) ?_
   exact hK551 ((c0.set c.A c.B)) _ _ _ h (leSt_m [(0, 0)] [] (by simp only [push_cast, seval]) (by simp only [push_cast, seval]) rfl rfl rfl)
  ·refine seq_np ?_
   refine reg_f ?_
   refine rs 2 [] [] (by kernel_rfl) allP_nil ?_
   refine rf [(1, iS (IntKind.i64.wrap (pc + 1))), (2, .ptr 0 0), (3, .ptr 1 0), (10, iS c.Op), (20, bS (c.Op == 2))] [(0, .row 26 (Enc.cells c0)), (1, .row 38 (Enc.cells c))] 2 (by kernel_rfl) ?_
   refine wk_id ?_
   refine cond_sx h (by kernel_rfl) (fun g598 h => ?_) (fun g598 h => ?_)
   ·refine chk_sx h (fun g561 h => ?_)
    refine chk_sx h (fun g563 h => ?_)
    refine reg_t ?_
    have k560 : 0 ≤ c.B ∧ c.B < ((8 : Nat) : Int) := by first | simpa only [Bool.and_eq_true, decide_eq_true_eq, bne_iff_ne, ne_eq] using g561 | (simp at g561 ⊢; omega)
    have k562 : 0 ≤ c.A ∧ c.A < ((8 : Nat) : Int) := by first | simpa only [Bool.and_eq_true, decide_eq_true_eq, bne_iff_ne, ne_eq] using g563 | (simp at g563 ⊢; omega)
    refine rs 12 [none, none, none, none, none, none, none, some ⟨.ptr 0 (0 + (c.B).toNat * 1), [], 9, []⟩, some ⟨iS (c0.get c.B), [], 10, [0]⟩, none, some ⟨.ptr 0 (0 + (c.A).toNat * 1), [], 12, []⟩, some ⟨.any, [(0, .row 26 (Enc.cells (c0.set c.A (c0.get c.B))))], 13, [0]⟩] _ (by kernel_rfl) (allP_cons (ob_sta (P := Tryd.prog) ([] : List SV) ([] : List SV) c0 c.A (c0.get c.B) (0 + (c.A).toNat * 1) k562 rfl 0 13 26 3 (by kernel_rfl)) (allP_cons (ob_ixa 0 0 8 1 c.A 12 k562) (allP_cons (ob_lda ([] : List SV) ([] : List SV) c0 c.B (0 + (c.B).toNat * 1) k560 rfl (dflS Tryd.prog 3) 10 [0]) (allP_cons (ob_ixa 0 0 8 1 c.B 9 k560) allP_nil)))) ?_
    refine rt [(1, iS (IntKind.i64.wrap (pc + 1)))] [(0, .row 26 (Enc.cells (c0.set c.A (c0.get c.B)))), (1, .row 38 (Enc.cells c))] 14 follows (by kernel_rfl) ?_
    exact hK551 ((c0.set c.A (c0.get c.B))) _ _ _ h (leSt_m [(0, 0)] [] (by simp only [push_cast, seval]) (by simp only [push_cast, seval]) rfl rfl rfl)
   ·refine seq_np ?_
    refine reg_f ?_
    refine rs 2 [] [] (by kernel_rfl) allP_nil ?_
    refine rf [(1, iS (IntKind.i64.wrap (pc + 1))), (2, .ptr 0 0), (3, .ptr 1 0), (10, iS c.Op), (33, bS (c.Op == 3))] [(0, .row 26 (Enc.cells c0)), (1, .row 38 (Enc.cells c))] 2 (by kernel_rfl) ?_
    refine wk_id ?_
    refine cond_sx h (by kernel_rfl) (fun g597 h => ?_) (fun g597 h => ?_)
    ·refine chk_sx h (fun g569 h => ?_)
     refine chk_sx h (fun g571 h => ?_)
     refine reg_t ?_
     have k568 : 0 ≤ c.A ∧ c.A < ((8 : Nat) : Int) := by first | simpa only [Bool.and_eq_true, decide_eq_true_eq, bne_iff_ne, ne_eq] using g569 | (simp at g569 ⊢; omega)
     have k570 : 0 ≤ c.B ∧ c.B < ((8 : Nat) : Int) := by first | simpa only [Bool.and_eq_true, decide_eq_true_eq, bne_iff_ne, ne_eq] using g571 | (simp at g571 ⊢; omega)
     refine rs 16 [none, none, none, none, some ⟨.ptr 0 (0 + (c.A).toNat * 1), [], 6, []⟩, some ⟨iS (c0.get c.A), [], 7, [0]⟩, none, none, none, none, some ⟨.ptr 0 (0 + (c.B).toNat * 1), [], 12, []⟩, some ⟨iS (c0.get c.B), [], 13, [0]⟩, none, none, some ⟨.ptr 0 (0 + (c.A).toNat * 1), [], 16, []⟩, some ⟨.any, [(0, .row 26 (Enc.cells (c0.set c.A (IntKind.i64.wrap ((c0.get c.A) + (c0.get c.B))))))], 17, [0]⟩] _ (by kernel_rfl) (allP_cons (ob_sta (P := Tryd.prog) ([] : List SV) ([] : List SV) c0 c.A (IntKind.i64.wrap ((c0.get c.A) + (c0.get c.B))) (0 + (c.A).toNat * 1) k568 rfl 0 17 26 3 (by kernel_rfl)) (allP_cons (ob_ixa 0 0 8 1 c.A 16 k568) (allP_cons (ob_lda ([] : List SV) ([] : List SV) c0 c.B (0 + (c.B).toNat * 1) k570 rfl (dflS Tryd.prog 3) 13 [0]) (allP_cons (ob_ixa 0 0 8 1 c.B 12 k570) (allP_cons (ob_lda ([] : List SV) ([] : List SV) c0 c.A (0 + (c.A).toNat * 1) k568 rfl (dflS Tryd.prog 3) 7 [0]) (allP_cons (ob_ixa 0 0 8 1 c.A 6 k568) allP_nil)))))) ?_
     refine rt [(1, iS (IntKind.i64.wrap (pc + 1)))] [(0, .row 26 (Enc.cells (c0.set c.A (IntKind.i64.wrap ((c0.get c.A) + (c0.get c.B)))))), (1, .row 38 (Enc.cells c))] 18 follows (by kernel_rfl) ?_
     exact hK551 ((c0.set c.A (IntKind.i64.wrap ((c0.get c.A) + (c0.get c.B))))) _ _ _ h (leSt_m [(0, 0)] [] (by simp only [push_cast, seval]) (by simp only [push_cast, seval]) rfl rfl rfl)
    ·refine seq_np ?_
     refine reg_f ?_
     refine rs 2 [] [] (by kernel_rfl) allP_nil ?_
     refine rf [(1, iS (IntKind.i64.wrap (pc + 1))), (2, .ptr 0 0), (3, .ptr 1 0), (10, iS c.Op), (50, bS (c.Op == 4))] [(0, .row 26 (Enc.cells c0)), (1, .row 38 (Enc.cells c))] 2 (by kernel_rfl) ?_
     refine wk_id ?_
     refine cond_sx h (by kernel_rfl) (fun g596 h => ?_) (fun g596 h => ?_)
     ·refine chk_sx h (fun g577 h => ?_)
      refine chk_sx h (fun g579 h => ?_)
      refine reg_t ?_
      have k576 : 0 ≤ c.A ∧ c.A < ((8 : Nat) : Int) := by first | simpa only [Bool.and_eq_true, decide_eq_true_eq, bne_iff_ne, ne_eq] using g577 | (simp at g577 ⊢; omega)
      have k578 : 0 ≤ c.B ∧ c.B < ((8 : Nat) : Int) := by first | simpa only [Bool.and_eq_true, decide_eq_true_eq, bne_iff_ne, ne_eq] using g579 | (simp at g579 ⊢; omega)
      refine rs 16 [none, none, none, none, some ⟨.ptr 0 (0 + (c.A).toNat * 1), [], 6, []⟩, some ⟨iS (c0.get c.A), [], 7, [0]⟩, none, none, none, none, some ⟨.ptr 0 (0 + (c.B).toNat * 1), [], 12, []⟩, some ⟨iS (c0.get c.B), [], 13, [0]⟩, none, none, some ⟨.ptr 0 (0 + (c.A).toNat * 1), [], 16, []⟩, some ⟨.any, [(0, .row 26 (Enc.cells (c0.set c.A (IntKind.i64.wrap ((c0.get c.A) - (c0.get c.B))))))], 17, [0]⟩] _ (by kernel_rfl) (allP_cons (ob_sta (P := Tryd.prog) ([] : List SV) ([] : List SV) c0 c.A (IntKind.i64.wrap ((c0.get c.A) - (c0.get c.B))) (0 + (c.A).toNat * 1) k576 rfl 0 17 26 3 (by kernel_rfl)) (allP_cons (ob_ixa 0 0 8 1 c.A 16 k576) (allP_cons (ob_lda ([] : List SV) ([] : List SV) c0 c.B (0 + (c.B).toNat * 1) k578 rfl (dflS Tryd.prog 3) 13 [0]) (allP_cons (ob_ixa 0 0 8 1 c.B 12 k578) (allP_cons (ob_lda ([] : List SV) ([] : List SV) c0 c.A (0 + (c.A).toNat * 1) k576 rfl (dflS Tryd.prog 3) 7 [0]) (allP_cons (ob_ixa 0 0 8 1 c.A 6 k576) allP_nil)))))) ?_
      refine rt [(1, iS (IntKind.i64.wrap (pc + 1)))] [(0, .row 26 (Enc.cells (c0.set c.A (IntKind.i64.wrap ((c0.get c.A) - (c0.get c.B)))))), (1, .row 38 (Enc.cells c))] 18 follows (by kernel_rfl) ?_
      exact hK551 ((c0.set c.A (IntKind.i64.wrap ((c0.get c.A) - (c0.get c.B))))) _ _ _ h (leSt_m [(0, 0)] [] (by simp only [push_cast, seval]) (by simp only [push_cast, seval]) rfl rfl rfl)
     ·refine seq_np ?_
      refine reg_f ?_
      refine rs 2 [] [] (by kernel_rfl) allP_nil ?_
      refine rf [(1, iS (IntKind.i64.wrap (pc + 1))), (2, .ptr 0 0), (3, .ptr 1 0), (10, iS c.Op), (67, bS (c.Op == 5))] [(0, .row 26 (Enc.cells c0)), (1, .row 38 (Enc.cells c))] 2 (by kernel_rfl) ?_
      refine wk_id ?_
      refine cond_sx h (by kernel_rfl) (fun g595 h => ?_) (fun g595 h => ?_)
      ·refine chk_sx h (fun g585 h => ?_)
       refine chk_sx h (fun g587 h => ?_)
       refine reg_t ?_
       have k584 : 0 ≤ c.A ∧ c.A < ((8 : Nat) : Int) := by first | simpa only [Bool.and_eq_true, decide_eq_true_eq, bne_iff_ne, ne_eq] using g585 | (simp at g585 ⊢; omega)
       have k586 : 0 ≤ c.B ∧ c.B < ((8 : Nat) : Int) := by first | simpa only [Bool.and_eq_true, decide_eq_true_eq, bne_iff_ne, ne_eq] using g587 | (simp at g587 ⊢; omega)
       refine rs 23 [none, none, none, none, some ⟨.any, [(5, .map [(.bool true, iS 1)])], 7, [5]⟩, none, none, none, none, none, some ⟨.ptr 0 (0 + (c.A).toNat * 1), [], 13, []⟩, some ⟨iS (c0.get c.A), [], 14, [0]⟩, none, none, none, none, some ⟨.ptr 0 (0 + (c.B).toNat * 1), [], 19, []⟩, some ⟨iS (c0.get c.B), [], 20, [0]⟩, none, some ⟨iS (mbGet [(true, 1)] (decide ((c0.get c.A) < (c0.get c.B)))), [], 22, [5]⟩, none, some ⟨.ptr 0 (0 + (c.A).toNat * 1), [], 24, []⟩, some ⟨.any, [(0, .row 26 (Enc.cells (c0.set c.A (mbGet [(true, 1)] (decide ((c0.get c.A) < (c0.get c.B)))))))], 25, [0]⟩] _ (by kernel_rfl) (allP_cons (ob_sta (P := Tryd.prog) ([] : List SV) ([] : List SV) c0 c.A (mbGet [(true, 1)] (decide ((c0.get c.A) < (c0.get c.B)))) (0 + (c.A).toNat * 1) k584 rfl 0 25 26 3 (by kernel_rfl)) (allP_cons (ob_ixa 0 0 8 1 c.A 24 k584) (allP_cons (ob_lookB (decide ((c0.get c.A) < (c0.get c.B))) [(true, 1)] 5 22) (allP_cons (ob_lda ([] : List SV) ([] : List SV) c0 c.B (0 + (c.B).toNat * 1) k586 rfl (dflS Tryd.prog 3) 20 [0]) (allP_cons (ob_ixa 0 0 8 1 c.B 19 k586) (allP_cons (ob_lda ([] : List SV) ([] : List SV) c0 c.A (0 + (c.A).toNat * 1) k584 rfl (dflS Tryd.prog 3) 14 [0]) (allP_cons (ob_ixa 0 0 8 1 c.A 13 k584) (allP_cons (ob_insL .bool (.bool true) (iS 1) [] [(.bool true, iS 1)] 5 7 rfl rfl rfl) allP_nil)))))))) ?_
       refine rt [(1, iS (IntKind.i64.wrap (pc + 1)))] [(0, .row 26 (Enc.cells (c0.set c.A (mbGet [(true, 1)] (decide ((c0.get c.A) < (c0.get c.B))))))), (1, .row 38 (Enc.cells c)), (5, .map [(.bool true, iS 1)])] 26 follows (by kernel_rfl) ?_
       exact hK551 ((c0.set c.A (mbGet [(true, 1)] (decide ((c0.get c.A) < (c0.get c.B)))))) _ _ _ h (leSt_m [(0, 0)] [] (by simp only [push_cast, seval]) (by simp only [push_cast, seval]) rfl rfl rfl)
      ·refine seq_np ?_
       refine reg_f ?_
       refine rs 2 [] [] (by kernel_rfl) allP_nil ?_
       refine rf [(1, iS (IntKind.i64.wrap (pc + 1))), (2, .ptr 0 0), (3, .ptr 1 0), (10, iS c.Op), (90, bS (c.Op == 6))] [(0, .row 26 (Enc.cells c0)), (1, .row 38 (Enc.cells c))] 2 (by kernel_rfl) ?_
       refine wk_id ?_
       refine cond_sx h (by kernel_rfl) (fun g594 h => ?_) (fun g594 h => ?_)
       ·refine seq_np ?_
        refine reg_f ?_
        refine rs 3 [] [] (by kernel_rfl) allP_nil ?_
        refine rf [(6, iS c.A)] [(0, .row 26 (Enc.cells c0)), (1, .row 38 (Enc.cells c))] 2 (by kernel_rfl) ?_
        refine wk_id ?_
        obtain rfl := Option.some.inj h
        refine ret_at (iS c.A) (by kernel_rfl) ?_
        exact ret_e [(0, 0)] [] (by simp only [push_cast, seval]) (by simp only [push_cast, seval]) rfl rfl rfl
       ·refine seq_np ?_
        refine reg_f ?_
        refine rs 2 [] [] (by kernel_rfl) allP_nil ?_
        refine rf [(1, iS (IntKind.i64.wrap (pc + 1))), (2, .ptr 0 0), (3, .ptr 1 0), (94, bS (c.Op == 7))] [(0, .row 26 (Enc.cells c0)), (1, .row 38 (Enc.cells c))] 2 (by kernel_rfl) ?_
        refine wk_id ?_
        refine cond_sx h (by kernel_rfl) (fun g593 h => ?_) (fun g593 h => ?_)
        ·refine chk_sx h (fun g591 h => ?_)
         refine seq_np ?_
         refine reg_t ?_
         have k590 : 0 ≤ c.A ∧ c.A < ((8 : Nat) : Int) := by first | simpa only [Bool.and_eq_true, decide_eq_true_eq, bne_iff_ne, ne_eq] using g591 | (simp at g591 ⊢; omega)
         refine rs 7 [none, none, none, none, some ⟨.ptr 0 (0 + (c.A).toNat * 1), [], 6, []⟩, some ⟨iS (c0.get c.A), [], 7, [0]⟩] _ (by kernel_rfl) (allP_cons (ob_lda ([] : List SV) ([] : List SV) c0 c.A (0 + (c.A).toNat * 1) k590 rfl (dflS Tryd.prog 3) 7 [0]) (allP_cons (ob_ixa 0 0 8 1 c.A 6 k590) allP_nil)) ?_
         refine rt [(1, iS (IntKind.i64.wrap (pc + 1))), (3, .ptr 1 0), (102, bS ((c0.get c.A) == 0))] [(0, .row 26 (Enc.cells c0)), (1, .row 38 (Enc.cells c))] 9 follows (by kernel_rfl) ?_
         refine wk_id ?_
         refine cond_sx h (by kernel_rfl) (fun g592 h => ?_) (fun g592 h => ?_)
         ·refine seq_np ?_
          refine reg_f ?_
          refine rs 3 [] [] (by kernel_rfl) allP_nil ?_
          refine rf [(6, iS c.B)] [(0, .row 26 (Enc.cells c0)), (1, .row 38 (Enc.cells c))] 9 (by kernel_rfl) ?_
          refine wk_id ?_
          obtain rfl := Option.some.inj h
          refine ret_at (iS c.B) (by kernel_rfl) ?_
          exact ret_e [(0, 0)] [] (by simp only [push_cast, seval]) (by simp only [push_cast, seval]) rfl rfl rfl
         ·exact hK551 (c0) _ _ _ h (leSt_m [(0, 0)] [] (by simp only [push_cast, seval]) (by simp only [push_cast, seval]) rfl rfl rfl)
        ·exact hK551 (c0) _ _ _ h (leSt_m [(0, 0)] [] (by simp only [push_cast, seval]) (by simp only [push_cast, seval]) rfl rfl rfl)
 ·rintro c0q4 h
  try dsimp only at h ⊢
  unfold code_Do_1_j1 at h
  refine wk_id ?_
  refine seq_np ?_
  refine reg_f ?_
  refine rs 2 [] [] (by kernel_rfl) allP_nil ?_
  refine rf [(6, iS (IntKind.i64.wrap (pc + 1)))] [(0, .row 26 (Enc.cells c0q4))] 1 (by kernel_rfl) ?_
  refine wk_id ?_
  obtain rfl := Option.some.inj h
  refine ret_at (iS (IntKind.i64.wrap (pc + 1))) (by kernel_rfl) ?_
  exact ret_e [(0, 0)] [] (by simp only [push_cast, seval]) (by simp only [push_cast, seval]) rfl rfl rfl

set_option maxRecDepth 100000 in
set_option maxHeartbeats 200000000 in
theorem code_Run_spec (p : GProgram) (pc : Int) (regs : (VArr 8)) (fuel : Int) (r : Int × (VArr 8) × Int × Fault) (h : code_Run p pc regs fuel = some r) : SpecW Tryd.prog 11 [.agg (Enc.cells p), iS pc, .agg (Enc.cells regs), iS fuel] [] 0 (fun x h n => x = .tup [iS r.1, .agg (Enc.cells r.2.1), iS r.2.2.1, .agg (Enc.cells r.2.2.2)] ∧ h = [] ∧ n = 0) := by
 unfold code_Run at h
 refine spec_of (draw_ok _) Tryd.func11 rfl (by decide) rfl (by kernel_rfl) ?_
 refine seq_np ?_
 refine reg_f ?_
 refine rs 6 [] [] (by kernel_rfl) allP_nil ?_
 refine rf [(1, iS pc), (3, iS fuel), (4, .ptr 0 0), (6, .ptr 1 0), (9, .ptr 2 0), (11, .ptr 3 0)] [(0, .row 25 (Enc.cells p)), (1, .row 26 (Enc.cells regs)), (2, .row 26 (Enc.cells (default : (VArr 8)))), (3, .row 31 [iS 0, iS 0])] 4 (by kernel_rfl) ?_
 refine wk_id ?_
 refine seq_np ?_
 refine seq_np ?_
 refine reg_f ?_
 refine rs 1 [] [] (by kernel_rfl) allP_nil ?_
 obtain ⟨r627, hr627, h⟩ := bind_sx h
 refine run_call 10 [.agg (Enc.cells p)] (some 15) (by kernel_rfl) ?_
 refine call_0 (code_Check_spec p r627 hr627) (by simp only [push_cast, seval]) (by simp only [push_cast, seval]) ?_
 refine back_f ?_
 refine rs 2 [] [] (by kernel_rfl) allP_nil ?_
 refine rf [(1, iS pc), (3, iS fuel), (4, .ptr 0 0), (6, .ptr 1 0), (9, .ptr 2 0), (11, .ptr 3 0), (12, .ptr 4 0)] [(0, .row 25 (Enc.cells p)), (1, .row 26 (Enc.cells regs)), (2, .row 26 (Enc.cells (default : (VArr 8)))), (3, .row 31 [iS 0, iS 0]), (4, .row 31 (Enc.cells r627))] 5 (by kernel_rfl) ?_
 refine wk_id ?_
 refine seq_np ?_
 refine reg_f ?_
 refine rs 3 [] [] (by kernel_rfl) allP_nil ?_
 refine rf [(1, iS pc), (3, iS fuel), (4, .ptr 0 0), (6, .ptr 1 0), (9, .ptr 2 0), (11, .ptr 3 0), (12, .ptr 4 0), (18, bS (r627.Code != 0))] [(0, .row 25 (Enc.cells p)), (1, .row 26 (Enc.cells regs)), (2, .row 26 (Enc.cells (default : (VArr 8)))), (3, .row 31 [iS 0, iS 0]), (4, .row 31 (Enc.cells r627))] 5 (by kernel_rfl) ?_
 refine wk_id ?_
 refine cond_sx h (by kernel_rfl) (fun g761 h => ?_) (fun g761 h => ?_)
 ·refine seq_np ?_
  refine reg_t ?_
  refine rs 6 [] [] (by kernel_rfl) allP_nil ?_
  refine rt [(8, iS 0), (9, .ptr 2 0), (10, iS 0), (11, .ptr 3 0)] [(0, .row 25 (Enc.cells p)), (1, .row 26 (Enc.cells regs)), (2, .row 26 (Enc.cells (default : (VArr 8)))), (3, .row 31 (Enc.cells r627)), (4, .row 31 (Enc.cells r627))] 11 follows (by kernel_rfl) ?_
  refine wk_id ?_
  obtain rfl := Option.some.inj h
  refine ret_at (.tup [iS 0, .agg (Enc.cells (default : (VArr 8))), iS 0, .agg (Enc.cells r627)]) (by kernel_rfl) ?_
  exact ret_e [] [] (by simp only [push_cast, seval]) (by simp only [push_cast, seval]) rfl rfl rfl
 ·refine wk_id ?_
  refine seq_np ?_
  refine seq_cut (A := Unit) (fun _ => ([(1, iS pc), (3, iS fuel), (4, .ptr 0 0), (6, .ptr 1 0), (9, .ptr 2 0), (11, .ptr 3 0), (37, bS ((decide (pc < 0)) || ((decide (((p.Code.length : Nat) : Int) < pc)) || ((decide (fuel < 0)) || (decide ((5000 : Int) < fuel))))))], [(0, .row 25 (Enc.cells p)), (1, .row 26 (Enc.cells regs)), (2, .row 26 (Enc.cells (default : (VArr 8)))), (3, .row 31 [iS 0, iS 0]), (4, .row 31 (Enc.cells r627))], 5)) (fun _ => True) (fun K636 hK636 => ?_) (fun _ _ => ?_)
  ·refine reg_f ?_
   refine rs 3 [] [] (by kernel_rfl) allP_nil ?_
   refine run_split 23 (decide (pc < 0)) (.inl (by kernel_rfl)) (fun g637 => ?_) (fun g637 => ?_)
   ·refine rs 14 [] [] (by kernel_rfl) allP_nil ?_
    refine rf [(1, iS pc), (3, iS fuel), (4, .ptr 0 0), (6, .ptr 1 0), (9, .ptr 2 0), (11, .ptr 3 0), (37, bS true)] [(0, .row 25 (Enc.cells p)), (1, .row 26 (Enc.cells regs)), (2, .row 26 (Enc.cells (default : (VArr 8)))), (3, .row 31 [iS 0, iS 0]), (4, .row 31 (Enc.cells r627))] 5 (by kernel_rfl) ?_
    exact hK636 () _ _ _ trivial (leSt_m [(0, 0), (1, 1), (2, 2), (3, 3), (4, 4)] [] (by (try simp only [g637]) <;> simp only [push_cast, seval]) (by (try simp only [g637]) <;> simp only [push_cast, seval]) rfl rfl rfl)
   ·refine rs 7 [] [] (by kernel_rfl) allP_nil ?_
    refine run_split 30 (decide (((p.Code.length : Nat) : Int) < pc)) (.inl (by kernel_rfl)) (fun g638 => ?_) (fun g638 => ?_)
    ·refine rs 7 [] [] (by kernel_rfl) allP_nil ?_
     refine rf [(1, iS pc), (3, iS fuel), (4, .ptr 0 0), (6, .ptr 1 0), (9, .ptr 2 0), (11, .ptr 3 0), (37, bS true)] [(0, .row 25 (Enc.cells p)), (1, .row 26 (Enc.cells regs)), (2, .row 26 (Enc.cells (default : (VArr 8)))), (3, .row 31 [iS 0, iS 0]), (4, .row 31 (Enc.cells r627))] 5 (by kernel_rfl) ?_
     exact hK636 () _ _ _ trivial (leSt_m [(0, 0), (1, 1), (2, 2), (3, 3), (4, 4)] [] (by first | ((try simp only [g637, g638]) <;> simp only [push_cast, seval]; done) | ((try simp only [g637]); (try simp only [g638]); simp only [push_cast, seval]; done) | (exfalso; clear h; simp_all; done)) (by first | ((try simp only [g637, g638]) <;> simp only [push_cast, seval]; done) | ((try simp only [g637]); (try simp only [g638]); simp only [push_cast, seval]; done) | (exfalso; clear h; simp_all; done)) rfl rfl rfl)
    ·refine rs 4 [] [] (by kernel_rfl) allP_nil ?_
     refine run_split 34 (decide (fuel < 0)) (.inl (by kernel_rfl)) (fun g639 => ?_) (fun g639 => ?_)
     ·refine rn 14 [(1, iS pc), (3, iS fuel), (4, .ptr 0 0), (6, .ptr 1 0), (9, .ptr 2 0), (11, .ptr 3 0), (34, bS true)] [(0, .row 25 (Enc.cells p)), (1, .row 26 (Enc.cells regs)), (2, .row 26 (Enc.cells (default : (VArr 8)))), (3, .row 31 [iS 0, iS 0]), (4, .row 31 (Enc.cells r627))] 5 (by kernel_rfl) ?_
      refine rs 3 [] [] (by kernel_rfl) allP_nil ?_
      refine rf [(1, iS pc), (3, iS fuel), (4, .ptr 0 0), (6, .ptr 1 0), (9, .ptr 2 0), (11, .ptr 3 0), (37, bS true)] [(0, .row 25 (Enc.cells p)), (1, .row 26 (Enc.cells regs)), (2, .row 26 (Enc.cells (default : (VArr 8)))), (3, .row 31 [iS 0, iS 0]), (4, .row 31 (Enc.cells r627))] 5 (by kernel_rfl) ?_
      exact hK636 () _ _ _ trivial (leSt_m [(0, 0), (1, 1), (2, 2), (3, 3), (4, 4)] [] (by first | ((try simp only [g637, g638, g639]) <;> simp only [push_cast, seval]; done) | ((try simp only [g637]); (try simp only [g638]); (try simp only [g639]); simp only [push_cast, seval]; done) | (exfalso; clear h; simp_all; done)) (by first | ((try simp only [g637, g638, g639]) <;> simp only [push_cast, seval]; done) | ((try simp only [g637]); (try simp only [g638]); (try simp only [g639]); simp only [push_cast, seval]; done) | (exfalso; clear h; simp_all; done)) rfl rfl rfl)
     ·refine rn 14 [(1, iS pc), (3, iS fuel), (4, .ptr 0 0), (6, .ptr 1 0), (9, .ptr 2 0), (11, .ptr 3 0), (34, bS false)] [(0, .row 25 (Enc.cells p)), (1, .row 26 (Enc.cells regs)), (2, .row 26 (Enc.cells (default : (VArr 8)))), (3, .row 31 [iS 0, iS 0]), (4, .row 31 (Enc.cells r627))] 5 (by kernel_rfl) ?_
      refine rs 3 [] [] (by kernel_rfl) allP_nil ?_
      refine rf [(1, iS pc), (3, iS fuel), (4, .ptr 0 0), (6, .ptr 1 0), (9, .ptr 2 0), (11, .ptr 3 0), (37, bS (decide ((5000 : Int) < fuel)))] [(0, .row 25 (Enc.cells p)), (1, .row 26 (Enc.cells regs)), (2, .row 26 (Enc.cells (default : (VArr 8)))), (3, .row 31 [iS 0, iS 0]), (4, .row 31 (Enc.cells r627))] 5 (by kernel_rfl) ?_
      exact hK636 () _ _ _ trivial (leSt_m [(0, 0), (1, 1), (2, 2), (3, 3), (4, 4)] [] (by first | ((try simp only [g637, g638, g639]) <;> simp only [push_cast, seval]; done) | ((try simp only [g637]); (try simp only [g638]); (try simp only [g639]); simp only [push_cast, seval]; done) | (exfalso; clear h; simp_all; done)) (by first | ((try simp only [g637, g638, g639]) <;> simp only [push_cast, seval]; done) | ((try simp only [g637]); (try simp only [g638]); (try simp only [g639]); simp only [push_cast, seval]; done) | (exfalso; clear h; simp_all; done)) rfl rfl rfl)
  ·dsimp only
   refine cond_sx h (by kernel_rfl) (fun g760 h => ?_) (fun g760 h => ?_)
   ·refine seq_np ?_
    refine reg_f ?_
    refine rs 1 [] [] (by kernel_rfl) allP_nil ?_
    obtain ⟨r641, hr641, h⟩ := bind_sx h
    refine run_call 23 [iS 3, iS (-1)] (some 39) (by kernel_rfl) ?_
    refine call_0 (code_fault_spec 3 (-1) r641 hr641) (by simp only [push_cast, seval]) (by simp only [push_cast, seval]) ?_
    refine back_f ?_
    refine rs 4 [] [] (by kernel_rfl) allP_nil ?_
    refine rf [(8, iS 0), (9, .ptr 2 0), (10, iS 0), (11, .ptr 3 0)] [(0, .row 25 (Enc.cells p)), (1, .row 26 (Enc.cells regs)), (2, .row 26 (Enc.cells (default : (VArr 8)))), (3, .row 31 (Enc.cells r641)), (4, .row 31 (Enc.cells r627))] 5 (by kernel_rfl) ?_
    refine wk_id ?_
    obtain rfl := Option.some.inj h
    refine ret_at (.tup [iS 0, .agg (Enc.cells (default : (VArr 8))), iS 0, .agg (Enc.cells r641)]) (by kernel_rfl) ?_
    exact ret_e [] [] (by simp only [push_cast, seval]) (by simp only [push_cast, seval]) rfl rfl rfl
   ·refine wk_id ?_
    refine seq_np ?_
    refine reg_f ?_
    refine rs 1 [] [] (by kernel_rfl) allP_nil ?_
    refine rf [(1, iS pc), (3, iS fuel), (4, .ptr 0 0), (6, .ptr 1 0), (9, .ptr 2 0), (11, .ptr 3 0), (13, iS 0)] [(0, .row 25 (Enc.cells p)), (1, .row 26 (Enc.cells regs)), (2, .row 26 (Enc.cells (default : (VArr 8)))), (3, .row 31 [iS 0, iS 0]), (4, .row 31 (Enc.cells r627))] 5 (by kernel_rfl) ?_
    refine wk_id ?_
    refine seq_np ?_
    refine block_np ?_
    refine loop_sx (S := Int × Int × (VArr 8)) (fun a => ([(1, iS a.1), (3, iS fuel), (4, .ptr 0 0), (6, .ptr 1 0), (9, .ptr 2 0), (11, .ptr 3 0), (13, iS a.2.1)], [(0, .row 25 (Enc.cells p)), (1, .row 26 (Enc.cells a.2.2)), (2, .row 26 (Enc.cells (default : (VArr 8)))), (3, .row 31 [iS 0, iS 0])], 4)) h (leSt_m [(0, 0), (1, 1), (2, 2), (3, 3)] [] (by simp only [push_cast, seval]) (by simp only [push_cast, seval]) rfl rfl rfl) ?_
    rintro ⟨pc8, n7, c1q7⟩ o2 R2 h hr2 hn2 hx2 ht2
    try dsimp only at h hn2 ⊢
    unfold code_Run_l1 at h
    try dsimp only at h
    refine seq_np ?_
    refine seq_cut (A := Bool) (fun a => ([(1, iS pc8), (3, iS fuel), (4, .ptr 0 0), (6, .ptr 1 0), (9, .ptr 2 0), (11, .ptr 3 0), (13, iS n7), (58, bS a)], [(0, .row 25 (Enc.cells p)), (1, .row 26 (Enc.cells c1q7)), (2, .row 26 (Enc.cells (default : (VArr 8)))), (3, .row 31 [iS 0, iS 0])], 4)) (fun a => (code_Run_j1 p fuel pc8 n7 c1q7 a) = some o2) (fun K747 hK747 => ?_) ?_
    ·refine reg_f ?_
     refine rs 4 [] [] (by kernel_rfl) allP_nil ?_
     refine run_br h 43 (.inl (by kernel_rfl)) (fun g748 h => ?_) (fun g748 h => ?_)
     ·refine rs 7 [] [] (by kernel_rfl) allP_nil ?_
      refine run_br h 50 (.inl (by kernel_rfl)) (fun g749 h => ?_) (fun g749 h => ?_)
      ·refine chk_sx h (fun g751 h => ?_)
       have k750 : 0 ≤ pc8 ∧ pc8 < ((p.Code.length : Nat) : Int) := by first | simpa only [Bool.and_eq_true, decide_eq_true_eq, bne_iff_ne, ne_eq] using g751 | (simp at g751 ⊢; omega)
       refine rs 6 [none, none, none, some ⟨.iptr (fl p.Code) ((pc8).toNat * 3), [], 4, []⟩, none, some ⟨iS (ix p.Code pc8).Op, [], 4, []⟩] _ (by kernel_rfl) (allP_cons (ob_ld p.Code pc8 3 0 (((pc8).toNat * 3) + 0) k750 rfl (by decide) (by first | rfl | omega) (dflS Tryd.prog 3) (iS (ix p.Code pc8).Op) rfl 4 []) (allP_cons (ob_ix_l p.Code 3 4 pc8 k750) allP_nil)) ?_
       obtain ⟨r752, hr752, h⟩ := bind_sx h
       refine run_call 25 [iS (ix p.Code pc8).Op] (some 57) (by kernel_rfl) ?_
       refine call_0 (code_Local_spec (ix p.Code pc8).Op r752 hr752) (by simp only [push_cast, seval]) (by simp only [push_cast, seval]) ?_
       refine back_f ?_
       refine rs 1 [] [] (by kernel_rfl) allP_nil ?_
       refine rf [(1, iS pc8), (3, iS fuel), (4, .ptr 0 0), (6, .ptr 1 0), (9, .ptr 2 0), (11, .ptr 3 0), (13, iS n7), (58, bS r752)] [(0, .row 25 (Enc.cells p)), (1, .row 26 (Enc.cells c1q7)), (2, .row 26 (Enc.cells (default : (VArr 8)))), (3, .row 31 [iS 0, iS 0])] 4 (by kernel_rfl) ?_
       exact hK747 (r752) _ _ _ h (leSt_m [(0, 0), (1, 1), (2, 2), (3, 3)] [] (by first | ((try simp only [g748, g749]) <;> simp only [push_cast, seval]; done) | ((try simp only [g748]); (try simp only [g749]); simp only [push_cast, seval]; done) | (exfalso; clear h; simp_all; done)) (by first | ((try simp only [g748, g749]) <;> simp only [push_cast, seval]; done) | ((try simp only [g748]); (try simp only [g749]); simp only [push_cast, seval]; done) | (exfalso; clear h; simp_all; done)) rfl rfl rfl)
      ·refine rs 8 [] [] (by kernel_rfl) allP_nil ?_
       refine rf [(1, iS pc8), (3, iS fuel), (4, .ptr 0 0), (6, .ptr 1 0), (9, .ptr 2 0), (11, .ptr 3 0), (13, iS n7), (58, bS false)] [(0, .row 25 (Enc.cells p)), (1, .row 26 (Enc.cells c1q7)), (2, .row 26 (Enc.cells (default : (VArr 8)))), (3, .row 31 [iS 0, iS 0])] 4 (by kernel_rfl) ?_
       exact hK747 (false) _ _ _ h (leSt_m [(0, 0), (1, 1), (2, 2), (3, 3)] [] (by first | ((try simp only [g748, g749]) <;> simp only [push_cast, seval]; done) | ((try simp only [g748]); (try simp only [g749]); simp only [push_cast, seval]; done) | (exfalso; clear h; simp_all; done)) (by first | ((try simp only [g748, g749]) <;> simp only [push_cast, seval]; done) | ((try simp only [g748]); (try simp only [g749]); simp only [push_cast, seval]; done) | (exfalso; clear h; simp_all; done)) rfl rfl rfl)
     ·refine rs 15 [] [] (by kernel_rfl) allP_nil ?_
      refine rf [(1, iS pc8), (3, iS fuel), (4, .ptr 0 0), (6, .ptr 1 0), (9, .ptr 2 0), (11, .ptr 3 0), (13, iS n7), (58, bS false)] [(0, .row 25 (Enc.cells p)), (1, .row 26 (Enc.cells c1q7)), (2, .row 26 (Enc.cells (default : (VArr 8)))), (3, .row 31 [iS 0, iS 0])] 4 (by kernel_rfl) ?_
      exact hK747 (false) _ _ _ h (leSt_m [(0, 0), (1, 1), (2, 2), (3, 3)] [] (by (try simp only [g748]) <;> simp only [push_cast, seval]) (by (try simp only [g748]) <;> simp only [push_cast, seval]) rfl rfl rfl)
    ·rintro t58q12 h
     try dsimp only at h ⊢
     unfold code_Run_j1 at h
     refine cond_sx h (by kernel_rfl) (fun g759 h => ?_) (fun g759 h => ?_)
     ·refine wk_id ?_
      refine block_np ?_
      refine chk_sx h (fun g757 h => ?_)
      refine seq_np ?_
      refine reg_f ?_
      have k756 : 0 ≤ pc8 ∧ pc8 < ((p.Code.length : Nat) : Int) := by first | simpa only [Bool.and_eq_true, decide_eq_true_eq, bne_iff_ne, ne_eq] using g757 | (simp at g757 ⊢; omega)
      refine rs 6 [none, none, none, some ⟨.iptr (fl p.Code) ((pc8).toNat * 3), [], 4, []⟩, some ⟨.agg (Enc.cells (ix p.Code pc8)), [], 4, []⟩] _ (by kernel_rfl) (allP_cons (ob_ldw p.Code pc8 3 ((pc8).toNat * 3) k756 rfl (by first | rfl | omega) (Enc.cells (ix p.Code pc8)) rfl 4 []) (allP_cons (ob_ix_l p.Code 3 4 pc8 k756) allP_nil)) ?_
      obtain ⟨r758, hr758, h⟩ := bind_sx h
      refine call_x (code_Do_1_spec (ix p.Code pc8) pc8 c1q7 r758 hr758) (args := [.agg (Enc.cells (ix p.Code pc8)), iS pc8, .ptr 1 0]) (dst := (some 65)) (by kernel_rfl) [(0, .row 25 (Enc.cells p)), (1, .row 26 (Enc.cells c1q7)), (2, .row 26 (Enc.cells (default : (VArr 8)))), (3, .row 31 [iS 0, iS 0])] 4 (by kernel_rfl) [(0, 1)] [] (iS r758.1) [(1, .row 26 (Enc.cells r758.2)), (1, .dead)] (by simp only [push_cast, seval]) (by simp only [push_cast, seval]) (by kernel_rfl) (.inl rfl) (by simp only [push_cast, seval]) (by simp only [push_cast, seval]) ?_
      refine rs 1 [] [] (by kernel_rfl) allP_nil ?_
      refine rf [(1, iS r758.1), (3, iS fuel), (4, .ptr 0 0), (6, .ptr 1 0), (9, .ptr 2 0), (11, .ptr 3 0), (13, iS n7)] [(0, .row 25 (Enc.cells p)), (1, .row 26 (Enc.cells r758.2)), (2, .row 26 (Enc.cells (default : (VArr 8)))), (3, .row 31 [iS 0, iS 0])] 5 (by kernel_rfl) ?_
      refine wk_id ?_
      refine reg_f ?_
      refine rs 3 [] [] (by kernel_rfl) allP_nil ?_
      refine rf [(1, iS r758.1), (3, iS fuel), (4, .ptr 0 0), (6, .ptr 1 0), (9, .ptr 2 0), (11, .ptr 3 0), (13, iS (IntKind.i64.wrap (n7 + 1)))] [(0, .row 25 (Enc.cells p)), (1, .row 26 (Enc.cells r758.2)), (2, .row 26 (Enc.cells (default : (VArr 8)))), (3, .row 31 [iS 0, iS 0])] 5 (by kernel_rfl) ?_
      refine wk_id ?_
      exact hn2 (r758.1, (IntKind.i64.wrap (n7 + 1)), r758.2) _ _ _ (Option.some.inj h).symm (leSt_m [(0, 0), (1, 1), (2, 2), (3, 3)] [] (by simp only [push_cast, seval]) (by simp only [push_cast, seval]) rfl rfl rfl)
     ·change R2 (.exit 0) _ _ _
      refine ex_cast hx2 (id := 0) ?_
      obtain ⟨r0, h, e0⟩ := map_sx h
      have e1 := hr2 r0 e0.symm
      subst r0
      refine wk_id ?_
      refine wk_id ?_
      refine seq_np ?_
      refine reg_t ?_
      refine rs 8 [] [] (by kernel_rfl) allP_nil ?_
      refine rt [(8, iS pc8), (9, .ptr 2 0), (10, iS n7), (11, .ptr 3 0)] [(0, .row 25 (Enc.cells p)), (1, .row 26 (Enc.cells c1q7)), (2, .row 26 (Enc.cells c1q7)), (3, .row 31 [iS 0, iS 0])] 12 follows (by kernel_rfl) ?_
      refine wk_id ?_
      obtain rfl := Option.some.inj h
      refine ret_at (.tup [iS pc8, .agg (Enc.cells c1q7), iS n7, .agg [iS 0, iS 0]]) (by kernel_rfl) ?_
      exact ret_e [] [] (by simp only [push_cast, seval]) (by simp only [push_cast, seval]) rfl rfl rfl

set_option maxRecDepth 100000 in
set_option maxHeartbeats 200000000 in
theorem taskmillref_F_spec (code : Int) (xat : Int) (r : Fault) (h : taskmillref_F code xat = some r) : SpecW Tryd.prog 14 [iS code, iS xat] [] 0 (fun x h n => x = .agg (Enc.cells r) ∧ h = [] ∧ n = 0) := by
 unfold taskmillref_F at h
 refine spec_of (draw_ok _) Tryd.func14 rfl (by decide) rfl (by kernel_rfl) ?_
 refine seq_np ?_
 refine reg_f ?_
 refine rs 1 [] [] (by kernel_rfl) allP_nil ?_
 refine rf [(0, iS code), (1, iS xat), (4, .ptr 0 0)] [(0, .row 31 [iS 0, iS 0])] 1 (by kernel_rfl) ?_
 refine wk_id ?_
 refine seq_np ?_
 refine reg_f ?_
 refine rs 4 [] [] (by kernel_rfl) allP_nil ?_
 refine rf [(4, .ptr 0 0)] [(0, .row 31 [iS code, iS xat])] 1 (by kernel_rfl) ?_
 refine wk_id ?_
 obtain rfl := Option.some.inj h
 refine ret_at (.agg [iS code, iS xat]) (by kernel_rfl) ?_
 exact ret_e [] [] (by simp only [push_cast, seval]) (by simp only [push_cast, seval]) rfl rfl rfl

set_option maxRecDepth 100000 in
set_option maxHeartbeats 200000000 in
theorem taskmillref_ArgOk_spec (p : GProgram) (k : Int) (x : Int) (r : Bool) (h : taskmillref_ArgOk p k x = some r) : SpecW Tryd.prog 27 [.agg (Enc.cells p), .v (.int .u8 k), iS x] [] 0 (fun x h n => x = bS r ∧ h = [] ∧ n = 0) := by
 unfold taskmillref_ArgOk at h
 refine spec_of (draw_ok _) Tryd.func27 rfl (by decide) rfl (by kernel_rfl) ?_
 refine seq_np ?_
 refine reg_f ?_
 refine rs 2 [] [] (by kernel_rfl) allP_nil ?_
 refine rf [(1, .v (.int .u8 k)), (2, iS x), (3, .ptr 0 0)] [(0, .row 25 (Enc.cells p))] 1 (by kernel_rfl) ?_
 refine wk_id ?_
 refine seq_np ?_
 refine reg_f ?_
 refine rs 1 [] [] (by kernel_rfl) allP_nil ?_
 refine rf [(1, .v (.int .u8 k)), (2, iS x), (3, .ptr 0 0), (7, iS 1)] [(0, .row 25 (Enc.cells p))] 1 (by kernel_rfl) ?_
 refine wk_id ?_
 refine seq_np ?_
 refine seq_np ?_
 refine reg_f ?_
 refine rs 1 [] [] (by kernel_rfl) allP_nil ?_
 refine rf [(2, iS x), (3, .ptr 0 0), (7, iS 1), (8, .v (.int .u8 k))] [(0, .row 25 (Enc.cells p))] 1 (by kernel_rfl) ?_
 refine wk_id ?_
 refine block_cut (A := Int) (fun a => ([(2, iS x), (7, iS a)], [], 0)) (fun a => (taskmillref_ArgOk_j1 x a) = some r) (fun K838 hK838 => ?_) ?_
 ·refine seq_np ?_
  refine reg_f ?_
  refine rs 2 [] [] (by kernel_rfl) allP_nil ?_
  refine rf [(2, iS x), (3, .ptr 0 0), (7, iS 1), (8, .v (.int .u8 k)), (9, bS (k == 110))] [(0, .row 25 (Enc.cells p))] 1 (by kernel_rfl) ?_
  refine wk_id ?_
  refine cond_sx h (by kernel_rfl) (fun g846 h => ?_) (fun g846 h => ?_)
  ·refine seq_np ?_
   refine reg_f ?_
   refine rs 1 [] [] (by kernel_rfl) allP_nil ?_
   refine rf [(6, bS true)] [(0, .row 25 (Enc.cells p))] 1 (by kernel_rfl) ?_
   refine wk_id ?_
   obtain rfl := Option.some.inj h
   refine ret_at (bS true) (by kernel_rfl) ?_
   exact ret_e [] [] (by simp only [push_cast, seval]) (by simp only [push_cast, seval]) rfl rfl rfl
  ·refine seq_np ?_
   refine reg_f ?_
   refine rs 2 [] [] (by kernel_rfl) allP_nil ?_
   refine rf [(2, iS x), (3, .ptr 0 0), (7, iS 1), (8, .v (.int .u8 k)), (11, bS (k == 114))] [(0, .row 25 (Enc.cells p))] 1 (by kernel_rfl) ?_
   refine wk_id ?_
   refine cond_sx h (by kernel_rfl) (fun g845 h => ?_) (fun g845 h => ?_)
   ·refine reg_f ?_
    refine rs 1 [] [] (by kernel_rfl) allP_nil ?_
    refine rf [(2, iS x), (7, iS 8)] [(0, .row 25 (Enc.cells p))] 1 (by kernel_rfl) ?_
    exact hK838 (8) _ _ _ h (leSt_m [] [] (by simp only [push_cast, seval]) (by simp only [push_cast, seval]) rfl rfl rfl)
   ·refine seq_np ?_
    refine reg_f ?_
    refine rs 2 [] [] (by kernel_rfl) allP_nil ?_
    refine rf [(2, iS x), (3, .ptr 0 0), (7, iS 1), (8, .v (.int .u8 k)), (13, bS (k == 99))] [(0, .row 25 (Enc.cells p))] 1 (by kernel_rfl) ?_
    refine wk_id ?_
    refine cond_sx h (by kernel_rfl) (fun g844 h => ?_) (fun g844 h => ?_)
    ·refine reg_f ?_
     refine rs 4 [] [] (by kernel_rfl) allP_nil ?_
     refine rf [(2, iS x), (7, iS ((p.Code.length : Nat) : Int))] [(0, .row 25 (Enc.cells p))] 1 (by kernel_rfl) ?_
     exact hK838 (((p.Code.length : Nat) : Int)) _ _ _ h (leSt_m [] [] (by simp only [push_cast, seval]) (by simp only [push_cast, seval]) rfl rfl rfl)
    ·refine seq_np ?_
     refine reg_f ?_
     refine rs 2 [] [] (by kernel_rfl) allP_nil ?_
     refine rf [(2, iS x), (3, .ptr 0 0), (7, iS 1), (8, .v (.int .u8 k)), (18, bS (k == 109))] [(0, .row 25 (Enc.cells p))] 1 (by kernel_rfl) ?_
     refine wk_id ?_
     refine cond_sx h (by kernel_rfl) (fun g843 h => ?_) (fun g843 h => ?_)
     ·refine reg_f ?_
      refine rs 3 [] [] (by kernel_rfl) allP_nil ?_
      refine rf [(2, iS x), (7, iS p.Cells)] [(0, .row 25 (Enc.cells p))] 1 (by kernel_rfl) ?_
      exact hK838 (p.Cells) _ _ _ h (leSt_m [] [] (by simp only [push_cast, seval]) (by simp only [push_cast, seval]) rfl rfl rfl)
     ·refine seq_np ?_
      refine reg_f ?_
      refine rs 2 [] [] (by kernel_rfl) allP_nil ?_
      refine rf [(2, iS x), (3, .ptr 0 0), (7, iS 1), (8, .v (.int .u8 k)), (22, bS (k == 112))] [(0, .row 25 (Enc.cells p))] 1 (by kernel_rfl) ?_
      refine wk_id ?_
      refine cond_sx h (by kernel_rfl) (fun g842 h => ?_) (fun g842 h => ?_)
      ·refine reg_f ?_
       refine rs 4 [] [] (by kernel_rfl) allP_nil ?_
       refine rf [(2, iS x), (7, iS ((p.Pipes.length : Nat) : Int))] [(0, .row 25 (Enc.cells p))] 1 (by kernel_rfl) ?_
       exact hK838 (((p.Pipes.length : Nat) : Int)) _ _ _ h (leSt_m [] [] (by simp only [push_cast, seval]) (by simp only [push_cast, seval]) rfl rfl rfl)
      ·refine seq_np ?_
       refine reg_f ?_
       refine rs 2 [] [] (by kernel_rfl) allP_nil ?_
       refine rf [(2, iS x), (3, .ptr 0 0), (7, iS 1), (8, .v (.int .u8 k)), (27, bS (k == 108))] [(0, .row 25 (Enc.cells p))] 1 (by kernel_rfl) ?_
       refine wk_id ?_
       refine cond_sx h (by kernel_rfl) (fun g841 h => ?_) (fun g841 h => ?_)
       ·refine reg_f ?_
        refine rs 3 [] [] (by kernel_rfl) allP_nil ?_
        refine rf [(2, iS x), (7, iS p.Locks)] [(0, .row 25 (Enc.cells p))] 1 (by kernel_rfl) ?_
        exact hK838 (p.Locks) _ _ _ h (leSt_m [] [] (by simp only [push_cast, seval]) (by simp only [push_cast, seval]) rfl rfl rfl)
       ·refine seq_np ?_
        refine reg_f ?_
        refine rs 2 [] [] (by kernel_rfl) allP_nil ?_
        refine rf [(2, iS x), (3, .ptr 0 0), (7, iS 1), (8, .v (.int .u8 k)), (31, bS (k == 103))] [(0, .row 25 (Enc.cells p))] 1 (by kernel_rfl) ?_
        refine wk_id ?_
        refine cond_sx h (by kernel_rfl) (fun g840 h => ?_) (fun g840 h => ?_)
        ·refine reg_f ?_
         refine rs 3 [] [] (by kernel_rfl) allP_nil ?_
         refine rf [(2, iS x), (7, iS p.Groups)] [(0, .row 25 (Enc.cells p))] 1 (by kernel_rfl) ?_
         exact hK838 (p.Groups) _ _ _ h (leSt_m [] [] (by simp only [push_cast, seval]) (by simp only [push_cast, seval]) rfl rfl rfl)
        ·refine seq_np ?_
         refine reg_f ?_
         refine rs 2 [] [] (by kernel_rfl) allP_nil ?_
         refine rf [(2, iS x), (7, iS 1), (35, bS (k == 107))] [(0, .row 25 (Enc.cells p))] 1 (by kernel_rfl) ?_
         refine wk_id ?_
         refine cond_sx h (by kernel_rfl) (fun g839 h => ?_) (fun g839 h => ?_)
         ·refine reg_f ?_
          refine rs 1 [] [] (by kernel_rfl) allP_nil ?_
          refine rf [(2, iS x), (7, iS 2)] [(0, .row 25 (Enc.cells p))] 1 (by kernel_rfl) ?_
          exact hK838 (2) _ _ _ h (leSt_m [] [] (by simp only [push_cast, seval]) (by simp only [push_cast, seval]) rfl rfl rfl)
         ·exact hK838 (1) _ _ _ h (leSt_m [] [] (by simp only [push_cast, seval]) (by simp only [push_cast, seval]) rfl rfl rfl)
 ·rintro n2 h
  try dsimp only at h ⊢
  unfold taskmillref_ArgOk_j1 at h
  refine wk_id ?_
  refine seq_cut (A := Unit) (fun _ => ([(6, bS ((decide ((0 : Int) ≤ x)) && (decide (x < n2))))], [], 0)) (fun _ => True) (fun K848 hK848 => ?_) (fun _ _ => ?_)
  ·refine reg_f ?_
   refine rs 3 [] [] (by kernel_rfl) allP_nil ?_
   refine run_split 39 (decide ((0 : Int) ≤ x)) (.inl (by kernel_rfl)) (fun g849 => ?_) (fun g849 => ?_)
   ·refine rs 5 [] [] (by kernel_rfl) allP_nil ?_
    refine rf [(6, bS (decide (x < n2)))] [] 0 (by kernel_rfl) ?_
    exact hK848 () _ _ _ trivial (leSt_m [] [] (by (try simp only [g849]) <;> simp only [push_cast, seval]) (by (try simp only [g849]) <;> simp only [push_cast, seval]) rfl rfl rfl)
   ·refine rs 5 [] [] (by kernel_rfl) allP_nil ?_
    refine rf [(6, bS false)] [] 0 (by kernel_rfl) ?_
    exact hK848 () _ _ _ trivial (leSt_m [] [] (by (try simp only [g849]) <;> simp only [push_cast, seval]) (by (try simp only [g849]) <;> simp only [push_cast, seval]) rfl rfl rfl)
  ·dsimp only
   obtain rfl := Option.some.inj h
   refine ret_at (bS ((decide ((0 : Int) ≤ x)) && (decide (x < n2)))) (by kernel_rfl) ?_
   exact ret_e [] [] (by simp only [push_cast, seval]) (by simp only [push_cast, seval]) rfl rfl rfl

set_option maxRecDepth 100000 in
set_option maxHeartbeats 200000000 in
theorem taskmillref_ProgramFault_spec (p : GProgram) (r : Fault) (h : taskmillref_ProgramFault p = some r) : SpecW Tryd.prog 12 [.agg (Enc.cells p)] [] 0 (fun x h n => x = .agg (Enc.cells r) ∧ h = [] ∧ n = 0) := by
 unfold taskmillref_ProgramFault at h
 refine spec_of (draw_ok _) Tryd.func12 rfl (by decide) rfl (by kernel_rfl) ?_
 refine seq_np ?_
 refine reg_f ?_
 refine rs 2 [] [] (by kernel_rfl) allP_nil ?_
 refine rf [(1, .ptr 0 0), (2, .ptr 1 0)] [(0, .row 25 (Enc.cells p)), (1, .row 31 [iS 0, iS 0])] 2 (by kernel_rfl) ?_
 refine wk_id ?_
 refine seq_np ?_
 refine seq_cut (A := Unit) (fun _ => ([(1, .ptr 0 0), (2, .ptr 1 0), (15, bS ((decide ((1000 : Int) < ((p.Code.length : Nat) : Int))) || (decide ((20 : Int) < ((p.Pipes.length : Nat) : Int)))))], [(0, .row 25 (Enc.cells p)), (1, .row 31 [iS 0, iS 0])], 2)) (fun _ => True) (fun K908 hK908 => ?_) (fun _ _ => ?_)
 ·refine reg_f ?_
  refine rs 5 [] [] (by kernel_rfl) allP_nil ?_
  refine run_split 10 (decide ((1000 : Int) < ((p.Code.length : Nat) : Int))) (.inl (by kernel_rfl)) (fun g909 => ?_) (fun g909 => ?_)
  ·refine rs 5 [] [] (by kernel_rfl) allP_nil ?_
   refine rf [(1, .ptr 0 0), (2, .ptr 1 0), (15, bS true)] [(0, .row 25 (Enc.cells p)), (1, .row 31 [iS 0, iS 0])] 2 (by kernel_rfl) ?_
   exact hK908 () _ _ _ trivial (leSt_m [(0, 0), (1, 1)] [] (by (try simp only [g909]) <;> simp only [push_cast, seval]) (by (try simp only [g909]) <;> simp only [push_cast, seval]) rfl rfl rfl)
  ·refine rs 5 [] [] (by kernel_rfl) allP_nil ?_
   refine rf [(1, .ptr 0 0), (2, .ptr 1 0), (15, bS (decide ((20 : Int) < ((p.Pipes.length : Nat) : Int))))] [(0, .row 25 (Enc.cells p)), (1, .row 31 [iS 0, iS 0])] 2 (by kernel_rfl) ?_
   exact hK908 () _ _ _ trivial (leSt_m [(0, 0), (1, 1)] [] (by (try simp only [g909]) <;> simp only [push_cast, seval]) (by (try simp only [g909]) <;> simp only [push_cast, seval]) rfl rfl rfl)
 ·dsimp only
  refine cond_sx h (by kernel_rfl) (fun g1283 h => ?_) (fun g1283 h => ?_)
  ·refine seq_np ?_
   refine reg_f ?_
   obtain ⟨r911, hr911, h⟩ := bind_sx h
   refine run_call 14 [iS 2, iS 0] (some 16) (by kernel_rfl) ?_
   refine call_0 (taskmillref_F_spec 2 0 r911 hr911) (by simp only [push_cast, seval]) (by simp only [push_cast, seval]) ?_
   refine back_f ?_
   refine rs 1 [] [] (by kernel_rfl) allP_nil ?_
   refine rf [(2, .ptr 1 0)] [(0, .row 25 (Enc.cells p)), (1, .row 31 (Enc.cells r911))] 2 (by kernel_rfl) ?_
   refine wk_id ?_
   obtain rfl := Option.some.inj h
   refine ret_at (.agg (Enc.cells r911)) (by kernel_rfl) ?_
   exact ret_e [] [] (by simp only [push_cast, seval]) (by simp only [push_cast, seval]) rfl rfl rfl
  ·refine wk_id ?_
   refine seq_np ?_
   refine seq_cut (A := Unit) (fun _ => ([(1, .ptr 0 0), (2, .ptr 1 0), (44, bS ((decide (p.Cells < 0)) || ((decide ((20 : Int) < p.Cells)) || ((decide (p.Locks < 0)) || ((decide ((20 : Int) < p.Locks)) || ((decide (p.Groups < 0)) || (decide ((20 : Int) < p.Groups))))))))], [(0, .row 25 (Enc.cells p)), (1, .row 31 [iS 0, iS 0])], 2)) (fun _ => True) (fun K924 hK924 => ?_) (fun _ _ => ?_)
   ·refine reg_f ?_
    refine rs 4 [] [] (by kernel_rfl) allP_nil ?_
    refine run_split 20 (decide (p.Cells < 0)) (.inl (by kernel_rfl)) (fun g925 => ?_) (fun g925 => ?_)
    ·refine rs 24 [] [] (by kernel_rfl) allP_nil ?_
     refine rf [(1, .ptr 0 0), (2, .ptr 1 0), (44, bS true)] [(0, .row 25 (Enc.cells p)), (1, .row 31 [iS 0, iS 0])] 2 (by kernel_rfl) ?_
     exact hK924 () _ _ _ trivial (leSt_m [(0, 0), (1, 1)] [] (by (try simp only [g925]) <;> simp only [push_cast, seval]) (by (try simp only [g925]) <;> simp only [push_cast, seval]) rfl rfl rfl)
    ·refine rs 5 [] [] (by kernel_rfl) allP_nil ?_
     refine run_split 25 (decide ((20 : Int) < p.Cells)) (.inl (by kernel_rfl)) (fun g926 => ?_) (fun g926 => ?_)
     ·refine rs 19 [] [] (by kernel_rfl) allP_nil ?_
      refine rf [(1, .ptr 0 0), (2, .ptr 1 0), (44, bS true)] [(0, .row 25 (Enc.cells p)), (1, .row 31 [iS 0, iS 0])] 2 (by kernel_rfl) ?_
      exact hK924 () _ _ _ trivial (leSt_m [(0, 0), (1, 1)] [] (by first | ((try simp only [g925, g926]) <;> simp only [push_cast, seval]; done) | ((try simp only [g925]); (try simp only [g926]); simp only [push_cast, seval]; done) | (exfalso; clear h; simp_all; done)) (by first | ((try simp only [g925, g926]) <;> simp only [push_cast, seval]; done) | ((try simp only [g925]); (try simp only [g926]); simp only [push_cast, seval]; done) | (exfalso; clear h; simp_all; done)) rfl rfl rfl)
     ·refine rs 5 [] [] (by kernel_rfl) allP_nil ?_
      refine run_split 30 (decide (p.Locks < 0)) (.inl (by kernel_rfl)) (fun g927 => ?_) (fun g927 => ?_)
      ·refine rn 14 [(1, .ptr 0 0), (2, .ptr 1 0), (30, bS true)] [(0, .row 25 (Enc.cells p)), (1, .row 31 [iS 0, iS 0])] 2 (by kernel_rfl) ?_
       refine rs 14 [] [] (by kernel_rfl) allP_nil ?_
       refine rf [(1, .ptr 0 0), (2, .ptr 1 0), (44, bS true)] [(0, .row 25 (Enc.cells p)), (1, .row 31 [iS 0, iS 0])] 2 (by kernel_rfl) ?_
       exact hK924 () _ _ _ trivial (leSt_m [(0, 0), (1, 1)] [] (by first | ((try simp only [g925, g926, g927]) <;> simp only [push_cast, seval]; done) | ((try simp only [g925]); (try simp only [g926]); (try simp only [g927]); simp only [push_cast, seval]; done) | (exfalso; clear h; simp_all; done)) (by first | ((try simp only [g925, g926, g927]) <;> simp only [push_cast, seval]; done) | ((try simp only [g925]); (try simp only [g926]); (try simp only [g927]); simp only [push_cast, seval]; done) | (exfalso; clear h; simp_all; done)) rfl rfl rfl)
      ·refine rn 14 [(1, .ptr 0 0), (2, .ptr 1 0), (30, bS false)] [(0, .row 25 (Enc.cells p)), (1, .row 31 [iS 0, iS 0])] 2 (by kernel_rfl) ?_
       refine rs 5 [] [] (by kernel_rfl) allP_nil ?_
       refine run_split 35 (decide ((20 : Int) < p.Locks)) (.inl (by kernel_rfl)) (fun g928 => ?_) (fun g928 => ?_)
       ·refine rs 9 [] [] (by kernel_rfl) allP_nil ?_
        refine rf [(1, .ptr 0 0), (2, .ptr 1 0), (44, bS true)] [(0, .row 25 (Enc.cells p)), (1, .row 31 [iS 0, iS 0])] 2 (by kernel_rfl) ?_
        exact hK924 () _ _ _ trivial (leSt_m [(0, 0), (1, 1)] [] (by first | ((try simp only [g925, g926, g927, g928]) <;> simp only [push_cast, seval]; done) | ((try simp only [g925]); (try simp only [g926]); (try simp only [g927]); (try simp only [g928]); simp only [push_cast, seval]; done) | (exfalso; clear h; simp_all; done)) (by first | ((try simp only [g925, g926, g927, g928]) <;> simp only [push_cast, seval]; done) | ((try simp only [g925]); (try simp only [g926]); (try simp only [g927]); (try simp only [g928]); simp only [push_cast, seval]; done) | (exfalso; clear h; simp_all; done)) rfl rfl rfl)
       ·refine rs 5 [] [] (by kernel_rfl) allP_nil ?_
        refine run_split 40 (decide (p.Groups < 0)) (.inl (by kernel_rfl)) (fun g929 => ?_) (fun g929 => ?_)
        ·refine rs 4 [] [] (by kernel_rfl) allP_nil ?_
         refine rf [(1, .ptr 0 0), (2, .ptr 1 0), (44, bS true)] [(0, .row 25 (Enc.cells p)), (1, .row 31 [iS 0, iS 0])] 2 (by kernel_rfl) ?_
         exact hK924 () _ _ _ trivial (leSt_m [(0, 0), (1, 1)] [] (by first | ((try simp only [g925, g926, g927, g928, g929]) <;> simp only [push_cast, seval]; done) | ((try simp only [g925]); (try simp only [g926]); (try simp only [g927]); (try simp only [g928]); (try simp only [g929]); simp only [push_cast, seval]; done) | (exfalso; clear h; simp_all; done)) (by first | ((try simp only [g925, g926, g927, g928, g929]) <;> simp only [push_cast, seval]; done) | ((try simp only [g925]); (try simp only [g926]); (try simp only [g927]); (try simp only [g928]); (try simp only [g929]); simp only [push_cast, seval]; done) | (exfalso; clear h; simp_all; done)) rfl rfl rfl)
        ·refine rs 4 [] [] (by kernel_rfl) allP_nil ?_
         refine rf [(1, .ptr 0 0), (2, .ptr 1 0), (44, bS (decide ((20 : Int) < p.Groups)))] [(0, .row 25 (Enc.cells p)), (1, .row 31 [iS 0, iS 0])] 2 (by kernel_rfl) ?_
         exact hK924 () _ _ _ trivial (leSt_m [(0, 0), (1, 1)] [] (by first | ((try simp only [g925, g926, g927, g928, g929]) <;> simp only [push_cast, seval]; done) | ((try simp only [g925]); (try simp only [g926]); (try simp only [g927]); (try simp only [g928]); (try simp only [g929]); simp only [push_cast, seval]; done) | (exfalso; clear h; simp_all; done)) (by first | ((try simp only [g925, g926, g927, g928, g929]) <;> simp only [push_cast, seval]; done) | ((try simp only [g925]); (try simp only [g926]); (try simp only [g927]); (try simp only [g928]); (try simp only [g929]); simp only [push_cast, seval]; done) | (exfalso; clear h; simp_all; done)) rfl rfl rfl)
   ·dsimp only
    refine cond_sx h (by kernel_rfl) (fun g1282 h => ?_) (fun g1282 h => ?_)
    ·refine seq_np ?_
     refine reg_f ?_
     obtain ⟨r931, hr931, h⟩ := bind_sx h
     refine run_call 14 [iS 3, iS 0] (some 45) (by kernel_rfl) ?_
     refine call_0 (taskmillref_F_spec 3 0 r931 hr931) (by simp only [push_cast, seval]) (by simp only [push_cast, seval]) ?_
     refine back_f ?_
     refine rs 1 [] [] (by kernel_rfl) allP_nil ?_
     refine rf [(2, .ptr 1 0)] [(0, .row 25 (Enc.cells p)), (1, .row 31 (Enc.cells r931))] 2 (by kernel_rfl) ?_
     refine wk_id ?_
     obtain rfl := Option.some.inj h
     refine ret_at (.agg (Enc.cells r931)) (by kernel_rfl) ?_
     exact ret_e [] [] (by simp only [push_cast, seval]) (by simp only [push_cast, seval]) rfl rfl rfl
    ·refine wk_id ?_
     refine seq_np ?_
     refine seq_np ?_
     refine reg_f ?_
     refine rs 1 [] [] (by kernel_rfl) allP_nil ?_
     refine rf [(1, .ptr 0 0), (2, .ptr 1 0), (3, iS 0)] [(0, .row 25 (Enc.cells p)), (1, .row 31 [iS 0, iS 0])] 2 (by kernel_rfl) ?_
     refine wk_id ?_
     refine block_np ?_
     refine loop_sx (S := Int) (fun a => ([(1, .ptr 0 0), (2, .ptr 1 0), (3, iS a)], [(0, .row 25 (Enc.cells p)), (1, .row 31 [iS 0, iS 0])], 2)) h (leSt_m [(0, 0), (1, 1)] [] (by simp only [push_cast, seval]) (by simp only [push_cast, seval]) rfl rfl rfl) ?_
     rintro i9 o3 R3 h hr3 hn3 hx3 ht3
     try dsimp only at h hn3 ⊢
     unfold taskmillref_ProgramFault_l2 at h
     try dsimp only at h
     refine seq_np ?_
     refine seq_np ?_
     refine reg_f ?_
     refine rs 5 [] [] (by kernel_rfl) allP_nil ?_
     refine rf [(1, .ptr 0 0), (2, .ptr 1 0), (3, iS i9), (50, bS (decide (i9 < ((p.Pipes.length : Nat) : Int))))] [(0, .row 25 (Enc.cells p)), (1, .row 31 [iS 0, iS 0])] 2 (by kernel_rfl) ?_
     refine wk_id ?_
     refine cond_sx h (by kernel_rfl) (fun g1281 h => ?_) (fun g1281 h => ?_)
     ·refine wk_id ?_
      refine seq_np ?_
      refine block_np ?_
      refine chk_sx h (fun g1021 h => ?_)
      refine chk_sx h (fun g1024 h => ?_)
      refine seq_cut (A := Unit) (fun _ => ([(1, .ptr 0 0), (2, .ptr 1 0), (3, iS i9), (66, bS ((decide ((ix p.Pipes i9) < 0)) || (decide ((100 : Int) < (ix p.Pipes i9)))))], [(0, .row 25 (Enc.cells p)), (1, .row 31 [iS 0, iS 0])], 2)) (fun _ => True) (fun K1019 hK1019 => ?_) (fun _ _ => ?_)
      ·refine reg_f ?_
       have k1020 : 0 ≤ i9 ∧ i9 < ((p.Pipes.length : Nat) : Int) := by first | simpa only [Bool.and_eq_true, decide_eq_true_eq, bne_iff_ne, ne_eq] using g1021 | (simp at g1021 ⊢; omega)
       refine rs 7 [none, none, none, some ⟨.iptr (fl p.Pipes) ((i9).toNat * 1), [], 2, []⟩, some ⟨iS (ix p.Pipes i9), [], 2, []⟩] _ (by kernel_rfl) (allP_cons (ob_ld p.Pipes i9 1 0 ((i9).toNat * 1) k1020 rfl (by decide) (by first | rfl | omega) (dflS Tryd.prog 3) (iS (ix p.Pipes i9)) rfl 2 []) (allP_cons (ob_ix_l p.Pipes 1 2 i9 k1020) allP_nil)) ?_
       refine run_split 59 (decide ((ix p.Pipes i9) < 0)) (.inl (by kernel_rfl)) (fun g1022 => ?_) (fun g1022 => ?_)
       ·refine rs 7 [] [] (by kernel_rfl) allP_nil ?_
        refine rf [(1, .ptr 0 0), (2, .ptr 1 0), (3, iS i9), (66, bS true)] [(0, .row 25 (Enc.cells p)), (1, .row 31 [iS 0, iS 0])] 2 (by kernel_rfl) ?_
        exact hK1019 () _ _ _ trivial (leSt_m [(0, 0), (1, 1)] [] (by (try simp only [g1022]) <;> simp only [push_cast, seval]) (by (try simp only [g1022]) <;> simp only [push_cast, seval]) rfl rfl rfl)
       ·have k1023 : 0 ≤ i9 ∧ i9 < ((p.Pipes.length : Nat) : Int) := by have e := or_use g1024 (by first | ((try simp only [g1022]) <;> rfl) | ((try simp only [g1022]); rfl) | (exfalso; clear h; simp_all; done)); first | simpa only [Bool.and_eq_true, decide_eq_true_eq, bne_iff_ne, ne_eq] using e | (simp at e ⊢; omega)
        refine rs 7 [none, none, none, some ⟨.iptr (fl p.Pipes) ((i9).toNat * 1), [], 2, []⟩, some ⟨iS (ix p.Pipes i9), [], 2, []⟩] _ (by kernel_rfl) (allP_cons (ob_ld p.Pipes i9 1 0 ((i9).toNat * 1) k1023 rfl (by decide) (by first | rfl | omega) (dflS Tryd.prog 3) (iS (ix p.Pipes i9)) rfl 2 []) (allP_cons (ob_ix_l p.Pipes 1 2 i9 k1023) allP_nil)) ?_
        refine rf [(1, .ptr 0 0), (2, .ptr 1 0), (3, iS i9), (66, bS (decide ((100 : Int) < (ix p.Pipes i9))))] [(0, .row 25 (Enc.cells p)), (1, .row 31 [iS 0, iS 0])] 2 (by kernel_rfl) ?_
        exact hK1019 () _ _ _ trivial (leSt_m [(0, 0), (1, 1)] [] (by (try simp only [g1022]) <;> simp only [push_cast, seval]) (by (try simp only [g1022]) <;> simp only [push_cast, seval]) rfl rfl rfl)
      ·dsimp only
       refine cond_sx h (by kernel_rfl) (fun g1027 h => ?_) (fun g1027 h => ?_)
       ·refine seq_np ?_
        refine reg_f ?_
        refine rs 1 [] [] (by kernel_rfl) allP_nil ?_
        obtain ⟨r1026, hr1026, h⟩ := bind_sx h
        refine run_call 14 [iS 8, iS i9] (some 68) (by kernel_rfl) ?_
        refine call_0 (taskmillref_F_spec 8 i9 r1026 hr1026) (by simp only [push_cast, seval]) (by simp only [push_cast, seval]) ?_
        refine back_f ?_
        refine rs 1 [] [] (by kernel_rfl) allP_nil ?_
        refine rf [(2, .ptr 1 0)] [(0, .row 25 (Enc.cells p)), (1, .row 31 (Enc.cells r1026))] 2 (by kernel_rfl) ?_
        refine wk_id ?_
        refine rt_cast ht3 ?_
        obtain ⟨r0, h, e0⟩ := map_sx h
        have e1 := hr3 r0 e0.symm
        subst r0
        obtain rfl := Option.some.inj h
        refine ret_at (.agg (Enc.cells r1026)) (by kernel_rfl) ?_
        exact ret_e [] [] (by simp only [push_cast, seval]) (by simp only [push_cast, seval]) rfl rfl rfl
       ·refine wk_id ?_
        refine wk_id ?_
        refine reg_f ?_
        refine rs 3 [] [] (by kernel_rfl) allP_nil ?_
        refine rf [(1, .ptr 0 0), (2, .ptr 1 0), (3, iS (IntKind.i64.wrap (i9 + 1)))] [(0, .row 25 (Enc.cells p)), (1, .row 31 [iS 0, iS 0])] 2 (by kernel_rfl) ?_
        exact hn3 ((IntKind.i64.wrap (i9 + 1))) _ _ _ (Option.some.inj h).symm (leSt_m [(0, 0), (1, 1)] [] (by simp only [push_cast, seval]) (by simp only [push_cast, seval]) rfl rfl rfl)
     ·change R3 (.exit 0) _ _ _
      refine ex_cast hx3 (id := 0) ?_
      obtain ⟨r0, h, e0⟩ := map_sx h
      have e1 := hr3 r0 e0.symm
      subst r0
      refine wk_id ?_
      refine wk_id ?_
      refine seq_np ?_
      refine seq_np ?_
      refine reg_f ?_
      refine rs 1 [] [] (by kernel_rfl) allP_nil ?_
      refine rf [(1, .ptr 0 0), (2, .ptr 1 0), (4, iS 0)] [(0, .row 25 (Enc.cells p)), (1, .row 31 [iS 0, iS 0])] 2 (by kernel_rfl) ?_
      refine wk_id ?_
      refine block_np ?_
      refine loop_sx (S := Int) (fun a => ([(1, .ptr 0 0), (2, .ptr 1 0), (4, iS a)], [(0, .row 25 (Enc.cells p)), (1, .row 31 [iS 0, iS 0])], 2)) h (leSt_m [(0, 0), (1, 1)] [] (by simp only [push_cast, seval]) (by simp only [push_cast, seval]) rfl rfl rfl) ?_
      rintro i15 o4 R4 h hr4 hn4 hx4 ht4
      try dsimp only at h hn4 ⊢
      unfold taskmillref_ProgramFault_l1 at h
      try dsimp only at h
      refine seq_np ?_
      refine seq_np ?_
      refine reg_f ?_
      refine rs 5 [] [] (by kernel_rfl) allP_nil ?_
      refine rf [(1, .ptr 0 0), (2, .ptr 1 0), (4, iS i15), (73, bS (decide (i15 < ((p.Code.length : Nat) : Int))))] [(0, .row 25 (Enc.cells p)), (1, .row 31 [iS 0, iS 0])] 2 (by kernel_rfl) ?_
      refine wk_id ?_
      refine cond_sx h (by kernel_rfl) (fun g1280 h => ?_) (fun g1280 h => ?_)
      ·refine wk_id ?_
       refine seq_np ?_
       refine block_np ?_
       refine chk_sx h (fun g1243 h => ?_)
       refine seq_np ?_
       refine reg_f ?_
       have k1242 : 0 ≤ i15 ∧ i15 < ((p.Code.length : Nat) : Int) := by first | simpa only [Bool.and_eq_true, decide_eq_true_eq, bne_iff_ne, ne_eq] using g1243 | (simp at g1243 ⊢; omega)
       refine rs 7 [none, none, none, some ⟨.iptr (fl p.Code) ((i15).toNat * 3), [], 2, []⟩, some ⟨.agg (Enc.cells (ix p.Code i15)), [], 2, []⟩] _ (by kernel_rfl) (allP_cons (ob_ldw p.Code i15 3 ((i15).toNat * 3) k1242 rfl (by first | rfl | omega) (Enc.cells (ix p.Code i15)) rfl 2 []) (allP_cons (ob_ix_l p.Code 3 2 i15 k1242) allP_nil)) ?_
       refine rf [(1, .ptr 0 0), (2, .ptr 1 0), (4, iS i15), (5, .ptr 2 0)] [(0, .row 25 (Enc.cells p)), (1, .row 31 [iS 0, iS 0]), (2, .row 38 (Enc.cells (ix p.Code i15)))] 3 (by kernel_rfl) ?_
       refine wk_id ?_
       refine seq_np ?_
       refine seq_cut (A := Unit) (fun _ => ([(1, .ptr 0 0), (2, .ptr 1 0), (4, iS i15), (5, .ptr 2 0), (88, bS ((decide ((ix p.Code i15).Op < 1)) || (decide ((22 : Int) < (ix p.Code i15).Op))))], [(0, .row 25 (Enc.cells p)), (1, .row 31 [iS 0, iS 0]), (2, .row 38 (Enc.cells (ix p.Code i15)))], 3)) (fun _ => True) (fun K1248 hK1248 => ?_) (fun _ _ => ?_)
       ·refine reg_f ?_
        refine rs 4 [] [] (by kernel_rfl) allP_nil ?_
        refine run_split 84 (decide ((ix p.Code i15).Op < 1)) (.inl (by kernel_rfl)) (fun g1249 => ?_) (fun g1249 => ?_)
        ·refine rs 4 [] [] (by kernel_rfl) allP_nil ?_
         refine rf [(1, .ptr 0 0), (2, .ptr 1 0), (4, iS i15), (5, .ptr 2 0), (88, bS true)] [(0, .row 25 (Enc.cells p)), (1, .row 31 [iS 0, iS 0]), (2, .row 38 (Enc.cells (ix p.Code i15)))] 3 (by kernel_rfl) ?_
         exact hK1248 () _ _ _ trivial (leSt_m [(0, 0), (1, 1), (2, 2)] [] (by (try simp only [g1249]) <;> simp only [push_cast, seval]) (by (try simp only [g1249]) <;> simp only [push_cast, seval]) rfl rfl rfl)
        ·refine rs 4 [] [] (by kernel_rfl) allP_nil ?_
         refine rf [(1, .ptr 0 0), (2, .ptr 1 0), (4, iS i15), (5, .ptr 2 0), (88, bS (decide ((22 : Int) < (ix p.Code i15).Op)))] [(0, .row 25 (Enc.cells p)), (1, .row 31 [iS 0, iS 0]), (2, .row 38 (Enc.cells (ix p.Code i15)))] 3 (by kernel_rfl) ?_
         exact hK1248 () _ _ _ trivial (leSt_m [(0, 0), (1, 1), (2, 2)] [] (by (try simp only [g1249]) <;> simp only [push_cast, seval]) (by (try simp only [g1249]) <;> simp only [push_cast, seval]) rfl rfl rfl)
       ·dsimp only
        refine cond_sx h (by kernel_rfl) (fun g1279 h => ?_) (fun g1279 h => ?_)
        ·refine seq_np ?_
         refine reg_f ?_
         refine rs 1 [] [] (by kernel_rfl) allP_nil ?_
         obtain ⟨r1251, hr1251, h⟩ := bind_sx h
         refine run_call 14 [iS 4, iS i15] (some 90) (by kernel_rfl) ?_
         refine call_0 (taskmillref_F_spec 4 i15 r1251 hr1251) (by simp only [push_cast, seval]) (by simp only [push_cast, seval]) ?_
         refine back_f ?_
         refine rs 1 [] [] (by kernel_rfl) allP_nil ?_
         refine rf [(2, .ptr 1 0)] [(0, .row 25 (Enc.cells p)), (1, .row 31 (Enc.cells r1251)), (2, .row 38 (Enc.cells (ix p.Code i15)))] 3 (by kernel_rfl) ?_
         refine wk_id ?_
         refine rt_cast ht4 ?_
         obtain ⟨r0, h, e0⟩ := map_sx h
         have e1 := hr4 r0 e0.symm
         subst r0
         obtain rfl := Option.some.inj h
         refine ret_at (.agg (Enc.cells r1251)) (by kernel_rfl) ?_
         exact ret_e [] [] (by simp only [push_cast, seval]) (by simp only [push_cast, seval]) rfl rfl rfl
        ·refine wk_id ?_
         refine chk_sx h (fun g1266 h => ?_)
         refine chk_sx h (fun g1268 h => ?_)
         refine seq_cut (A := Bool) (fun a => ([(1, .ptr 0 0), (2, .ptr 1 0), (4, iS i15), (114, bS a)], [(0, .row 25 (Enc.cells p)), (1, .row 31 [iS 0, iS 0])], 2)) (fun a => (taskmillref_ProgramFault_j1 p i15 a) = some o4) (fun K1264 hK1264 => ?_) ?_
         ·refine reg_t ?_
          have k1265 : 0 ≤ (ix p.Code i15).Op ∧ (ix p.Code i15).Op < ((refArgs.length : Nat) : Int) := by first | simpa only [Bool.and_eq_true, decide_eq_true_eq, bne_iff_ne, ne_eq] using g1266 | (simp at g1266 ⊢; omega)
          have k1267 : 0 ≤ (0 : Int) ∧ (0 : Int) < ((((ix refArgs (ix p.Code i15).Op)).size : Nat) : Int) := by first | simpa only [Bool.and_eq_true, decide_eq_true_eq, bne_iff_ne, ne_eq] using g1268 | (simp at g1268 ⊢; omega)
          refine rs 9 [none, none, none, none, some ⟨.iptr (fl refArgs) (((ix p.Code i15).Op).toNat * 1), [], 7, []⟩, some ⟨.v (.string (ix refArgs (ix p.Code i15).Op)), [], 8, []⟩, some ⟨.v (.int .u8 ((((ix refArgs (ix p.Code i15).Op)).data.getD ((0 : Int)).toNat 0).toNat : Int)), [], 9, []⟩] _ (by kernel_rfl) (allP_cons (ob_p (v := .v (.int .u8 ((((ix refArgs (ix p.Code i15).Op)).data.getD ((0 : Int)).toNat 0).toNat : Int))) (nx := 9) (r := []) k1267) (allP_cons (ob_ld refArgs (ix p.Code i15).Op 1 0 (((ix p.Code i15).Op).toNat * 1) k1265 rfl (by decide) (by first | rfl | omega) (dflS Tryd.prog 9) (.v (.string (ix refArgs (ix p.Code i15).Op))) rfl 8 []) (allP_cons (ob_ix_l refArgs 1 7 (ix p.Code i15).Op k1265) allP_nil))) ?_
          obtain ⟨r1269, hr1269, h⟩ := bind_sx h
          refine run_call 27 [.agg (Enc.cells p), .v (.int .u8 ((((ix refArgs (ix p.Code i15).Op)).data.getD ((0 : Int)).toNat 0).toNat : Int)), iS (ix p.Code i15).A] (some 100) (by kernel_rfl) ?_
          refine callE_0 (taskmillref_ArgOk_spec p ((((ix refArgs (ix p.Code i15).Op)).data.getD ((0 : Int)).toNat 0).toNat : Int) (ix p.Code i15).A r1269 hr1269) (by simp only [push_cast, seval]) (by simp only [push_cast, seval]) ?_
          refine back_t ?_
          refine rs 2 [] [] (by kernel_rfl) allP_nil ?_
          refine run_br h 102 (.inl (by kernel_rfl)) (fun g1270 h => ?_) (fun g1270 h => ?_)
          ·refine rs 12 [] [] (by kernel_rfl) allP_nil ?_
           refine rt [(1, .ptr 0 0), (2, .ptr 1 0), (4, iS i15), (114, bS true)] [(0, .row 25 (Enc.cells p)), (1, .row 31 [iS 0, iS 0]), (2, .row 38 (Enc.cells (ix p.Code i15)))] 27 follows (by kernel_rfl) ?_
           exact hK1264 (true) _ _ _ h (leSt_m [(0, 0), (1, 1)] [] (by (try simp only [g1270]) <;> simp only [push_cast, seval]) (by (try simp only [g1270]) <;> simp only [push_cast, seval]) rfl rfl rfl)
          ·refine chk_sx h (fun g1272 h => ?_)
           have k1271 : 0 ≤ (ix p.Code i15).Op ∧ (ix p.Code i15).Op < ((refArgs.length : Nat) : Int) := by first | simpa only [Bool.and_eq_true, decide_eq_true_eq, bne_iff_ne, ne_eq] using g1272 | (simp at g1272 ⊢; omega)
           refine chk_sx h (fun g1274 h => ?_)
           have k1273 : 0 ≤ (1 : Int) ∧ (1 : Int) < ((((ix refArgs (ix p.Code i15).Op)).size : Nat) : Int) := by first | simpa only [Bool.and_eq_true, decide_eq_true_eq, bne_iff_ne, ne_eq] using g1274 | (simp at g1274 ⊢; omega)
           refine rs 9 [none, none, none, none, some ⟨.iptr (fl refArgs) (((ix p.Code i15).Op).toNat * 1), [], 19, []⟩, some ⟨.v (.string (ix refArgs (ix p.Code i15).Op)), [], 20, []⟩, some ⟨.v (.int .u8 ((((ix refArgs (ix p.Code i15).Op)).data.getD ((1 : Int)).toNat 0).toNat : Int)), [], 21, []⟩] _ (by kernel_rfl) (allP_cons (ob_p (v := .v (.int .u8 ((((ix refArgs (ix p.Code i15).Op)).data.getD ((1 : Int)).toNat 0).toNat : Int))) (nx := 21) (r := []) k1273) (allP_cons (ob_ld refArgs (ix p.Code i15).Op 1 0 (((ix p.Code i15).Op).toNat * 1) k1271 rfl (by decide) (by first | rfl | omega) (dflS Tryd.prog 9) (.v (.string (ix refArgs (ix p.Code i15).Op))) rfl 20 []) (allP_cons (ob_ix_l refArgs 1 19 (ix p.Code i15).Op k1271) allP_nil))) ?_
           obtain ⟨r1275, hr1275, h⟩ := bind_sx h
           refine run_call 27 [.agg (Enc.cells p), .v (.int .u8 ((((ix refArgs (ix p.Code i15).Op)).data.getD ((1 : Int)).toNat 0).toNat : Int)), iS (ix p.Code i15).B] (some 112) (by kernel_rfl) ?_
           refine callE_0 (taskmillref_ArgOk_spec p ((((ix refArgs (ix p.Code i15).Op)).data.getD ((1 : Int)).toNat 0).toNat : Int) (ix p.Code i15).B r1275 hr1275) (by simp only [push_cast, seval]) (by simp only [push_cast, seval]) ?_
           refine back_t ?_
           refine rs 2 [] [] (by kernel_rfl) allP_nil ?_
           refine rt [(1, .ptr 0 0), (2, .ptr 1 0), (4, iS i15), (114, bS (!r1275))] [(0, .row 25 (Enc.cells p)), (1, .row 31 [iS 0, iS 0]), (2, .row 38 (Enc.cells (ix p.Code i15)))] 27 follows (by kernel_rfl) ?_
           exact hK1264 ((!r1275)) _ _ _ h (leSt_m [(0, 0), (1, 1)] [] (by (try simp only [g1270]) <;> simp only [push_cast, seval]) (by (try simp only [g1270]) <;> simp only [push_cast, seval]) rfl rfl rfl)
         ·rintro t114q13 h
          try dsimp only at h ⊢
          unfold taskmillref_ProgramFault_j1 at h
          refine cond_sx h (by kernel_rfl) (fun g1278 h => ?_) (fun g1278 h => ?_)
          ·refine seq_np ?_
           refine reg_f ?_
           refine rs 1 [] [] (by kernel_rfl) allP_nil ?_
           obtain ⟨r1277, hr1277, h⟩ := bind_sx h
           refine run_call 14 [iS 5, iS i15] (some 116) (by kernel_rfl) ?_
           refine call_0 (taskmillref_F_spec 5 i15 r1277 hr1277) (by simp only [push_cast, seval]) (by simp only [push_cast, seval]) ?_
           refine back_f ?_
           refine rs 1 [] [] (by kernel_rfl) allP_nil ?_
           refine rf [(2, .ptr 1 0)] [(0, .row 25 (Enc.cells p)), (1, .row 31 (Enc.cells r1277))] 2 (by kernel_rfl) ?_
           refine wk_id ?_
           refine rt_cast ht4 ?_
           obtain ⟨r0, h, e0⟩ := map_sx h
           have e1 := hr4 r0 e0.symm
           subst r0
           obtain rfl := Option.some.inj h
           refine ret_at (.agg (Enc.cells r1277)) (by kernel_rfl) ?_
           exact ret_e [] [] (by simp only [push_cast, seval]) (by simp only [push_cast, seval]) rfl rfl rfl
          ·refine wk_id ?_
           refine wk_id ?_
           refine reg_f ?_
           refine rs 3 [] [] (by kernel_rfl) allP_nil ?_
           refine rf [(1, .ptr 0 0), (2, .ptr 1 0), (4, iS (IntKind.i64.wrap (i15 + 1)))] [(0, .row 25 (Enc.cells p)), (1, .row 31 [iS 0, iS 0])] 2 (by kernel_rfl) ?_
           exact hn4 ((IntKind.i64.wrap (i15 + 1))) _ _ _ (Option.some.inj h).symm (leSt_m [(0, 0), (1, 1)] [] (by simp only [push_cast, seval]) (by simp only [push_cast, seval]) rfl rfl rfl)
      ·change R4 (.exit 2) _ _ _
       refine ex_cast hx4 (id := 2) ?_
       obtain ⟨r0, h, e0⟩ := map_sx h
       have e1 := hr4 r0 e0.symm
       subst r0
       refine wk_id ?_
       refine wk_id ?_
       refine seq_np ?_
       refine reg_f ?_
       refine rs 2 [] [] (by kernel_rfl) allP_nil ?_
       refine rf [(2, .ptr 1 0)] [(0, .row 25 (Enc.cells p)), (1, .row 31 [iS 0, iS 0])] 2 (by kernel_rfl) ?_
       refine wk_id ?_
       obtain rfl := Option.some.inj h
       refine ret_at (.agg [iS 0, iS 0]) (by kernel_rfl) ?_
       exact ret_e [] [] (by simp only [push_cast, seval]) (by simp only [push_cast, seval]) rfl rfl rfl

set_option maxRecDepth 100000 in
set_option maxHeartbeats 200000000 in
theorem taskmilllaw_sameCode_spec (xa : (List GInstr)) (b : (List GInstr)) (r : Bool) (h : taskmilllaw_sameCode xa b = some r) : SpecW Tryd.prog 13 [.sl xa.length (fl xa), .sl b.length (fl b)] [] 0 (fun x h n => x = bS r ∧ h = [] ∧ n = 0) := by
 unfold taskmilllaw_sameCode at h
 refine spec_of (draw_ok _) Tryd.func13 rfl (by decide) rfl (by kernel_rfl) ?_
 refine seq_np ?_
 refine reg_f ?_
 refine rs 1 [] [] (by kernel_rfl) allP_nil ?_
 refine rf [(0, .sl xa.length (fl xa)), (1, .sl b.length (fl b))] [] 0 (by kernel_rfl) ?_
 refine wk_id ?_
 refine seq_np ?_
 refine seq_np ?_
 refine reg_f ?_
 refine rs 5 [] [] (by kernel_rfl) allP_nil ?_
 refine rf [(0, .sl xa.length (fl xa)), (1, .sl b.length (fl b)), (10, bS (((xa.length : Nat) : Int) != ((b.length : Nat) : Int)))] [] 0 (by kernel_rfl) ?_
 refine wk_id ?_
 refine cond_sx h (by kernel_rfl) (fun g1379 h => ?_) (fun g1379 h => ?_)
 ·refine seq_np ?_
  refine reg_f ?_
  refine rs 1 [] [] (by kernel_rfl) allP_nil ?_
  refine rf [(4, bS false)] [] 0 (by kernel_rfl) ?_
  refine wk_id ?_
  obtain rfl := Option.some.inj h
  refine ret_at (bS false) (by kernel_rfl) ?_
  exact ret_e [] [] (by simp only [push_cast, seval]) (by simp only [push_cast, seval]) rfl rfl rfl
 ·refine wk_id ?_
  refine seq_np ?_
  refine seq_np ?_
  refine reg_f ?_
  refine rs 1 [] [] (by kernel_rfl) allP_nil ?_
  refine rf [(0, .sl xa.length (fl xa)), (1, .sl b.length (fl b)), (5, iS 0)] [] 0 (by kernel_rfl) ?_
  refine wk_id ?_
  refine block_np ?_
  refine loop_sx (S := Int) (fun a => ([(0, .sl xa.length (fl xa)), (1, .sl b.length (fl b)), (5, iS a)], [], 0)) h (leSt_m [] [] (by simp only [push_cast, seval]) (by simp only [push_cast, seval]) rfl rfl rfl) ?_
  rintro i7 o2 R2 h hr2 hn2 hx2 ht2
  try dsimp only at h hn2 ⊢
  unfold taskmilllaw_sameCode_l1 at h
  try dsimp only at h
  refine seq_np ?_
  refine seq_np ?_
  refine reg_f ?_
  refine rs 4 [] [] (by kernel_rfl) allP_nil ?_
  refine rf [(0, .sl xa.length (fl xa)), (1, .sl b.length (fl b)), (5, iS i7), (14, bS (decide (i7 < ((xa.length : Nat) : Int))))] [] 0 (by kernel_rfl) ?_
  refine wk_id ?_
  refine cond_sx h (by kernel_rfl) (fun g1378 h => ?_) (fun g1378 h => ?_)
  ·refine wk_id ?_
   refine seq_np ?_
   refine block_np ?_
   refine chk_sx h (fun g1374 h => ?_)
   refine chk_sx h (fun g1376 h => ?_)
   refine seq_np ?_
   refine reg_t ?_
   have k1373 : 0 ≤ i7 ∧ i7 < ((xa.length : Nat) : Int) := by first | simpa only [Bool.and_eq_true, decide_eq_true_eq, bne_iff_ne, ne_eq] using g1374 | (simp at g1374 ⊢; omega)
   have k1375 : 0 ≤ i7 ∧ i7 < ((b.length : Nat) : Int) := by first | simpa only [Bool.and_eq_true, decide_eq_true_eq, bne_iff_ne, ne_eq] using g1376 | (simp at g1376 ⊢; omega)
   refine rs 9 [none, none, some ⟨.iptr (fl xa) ((i7).toNat * 3), [], 2, []⟩, some ⟨.agg (Enc.cells (ix xa i7)), [], 3, []⟩, none, none, some ⟨.iptr (fl b) ((i7).toNat * 3), [], 6, []⟩, some ⟨.agg (Enc.cells (ix b i7)), [], 7, []⟩] _ (by kernel_rfl) (allP_cons (ob_ldw b i7 3 ((i7).toNat * 3) k1375 rfl (by first | rfl | omega) (Enc.cells (ix b i7)) rfl 7 []) (allP_cons (ob_ix_l b 3 6 i7 k1375) (allP_cons (ob_ldw xa i7 3 ((i7).toNat * 3) k1373 rfl (by first | rfl | omega) (Enc.cells (ix xa i7)) rfl 3 []) (allP_cons (ob_ix_l xa 3 2 i7 k1373) allP_nil)))) ?_
   refine rt [(0, .sl xa.length (fl xa)), (1, .sl b.length (fl b)), (5, iS i7), (25, bS (!(((ix xa i7).Op == (ix b i7).Op) && (((ix xa i7).A == (ix b i7).A) && (((ix xa i7).B == (ix b i7).B) && true)))))] [] 9 follows (by kernel_rfl) ?_
   refine wk_id ?_
   refine cond_sx h (by kernel_rfl) (fun g1377 h => ?_) (fun g1377 h => ?_)
   ·refine seq_np ?_
    refine reg_f ?_
    refine rs 1 [] [] (by kernel_rfl) allP_nil ?_
    refine rf [(4, bS false)] [] 9 (by kernel_rfl) ?_
    refine wk_id ?_
    refine rt_cast ht2 ?_
    obtain ⟨r0, h, e0⟩ := map_sx h
    have e1 := hr2 r0 e0.symm
    subst r0
    obtain rfl := Option.some.inj h
    refine ret_at (bS false) (by kernel_rfl) ?_
    exact ret_e [] [] (by simp only [push_cast, seval]) (by simp only [push_cast, seval]) rfl rfl rfl
   ·refine wk_id ?_
    refine wk_id ?_
    refine reg_f ?_
    refine rs 3 [] [] (by kernel_rfl) allP_nil ?_
    refine rf [(0, .sl xa.length (fl xa)), (1, .sl b.length (fl b)), (5, iS (IntKind.i64.wrap (i7 + 1)))] [] 9 (by kernel_rfl) ?_
    exact hn2 ((IntKind.i64.wrap (i7 + 1))) _ _ _ (Option.some.inj h).symm (leSt_m [] [] (by simp only [push_cast, seval]) (by simp only [push_cast, seval]) rfl rfl rfl)
  ·change R2 (.exit 0) _ _ _
   refine ex_cast hx2 (id := 0) ?_
   obtain ⟨r0, h, e0⟩ := map_sx h
   have e1 := hr2 r0 e0.symm
   subst r0
   refine wk_id ?_
   refine wk_id ?_
   refine seq_np ?_
   refine reg_f ?_
   refine rs 1 [] [] (by kernel_rfl) allP_nil ?_
   refine rf [(4, bS true)] [] 0 (by kernel_rfl) ?_
   refine wk_id ?_
   obtain rfl := Option.some.inj h
   refine ret_at (bS true) (by kernel_rfl) ?_
   exact ret_e [] [] (by simp only [push_cast, seval]) (by simp only [push_cast, seval]) rfl rfl rfl

set_option maxRecDepth 100000 in
set_option maxHeartbeats 200000000 in
theorem taskmillref_Did_spec (c : GInstr) (pc : Int) (xr : (VArr 8)) (r : Int × (VArr 8)) (h : taskmillref_Did c pc xr = some r) : SpecW Tryd.prog 15 [.agg (Enc.cells c), iS pc, .agg (Enc.cells xr)] [] 0 (fun x h n => x = .tup [iS r.1, .agg (Enc.cells r.2)] ∧ h = [] ∧ n = 0) := by
 unfold taskmillref_Did at h
 refine spec_of (draw_ok _) Tryd.func15 rfl (by decide) rfl (by kernel_rfl) ?_
 refine seq_np ?_
 refine reg_f ?_
 refine rs 4 [] [] (by kernel_rfl) allP_nil ?_
 refine rf [(1, iS pc), (3, .ptr 0 0), (5, .ptr 1 0), (7, .ptr 2 0)] [(0, .row 38 (Enc.cells c)), (1, .row 26 (Enc.cells xr)), (2, .row 26 (Enc.cells (default : (VArr 8))))] 3 (by kernel_rfl) ?_
 refine wk_id ?_
 refine seq_np ?_
 refine seq_np ?_
 refine reg_f ?_
 refine rs 2 [] [] (by kernel_rfl) allP_nil ?_
 refine rf [(1, iS pc), (3, .ptr 0 0), (5, .ptr 1 0), (7, .ptr 2 0), (9, iS c.Op)] [(0, .row 38 (Enc.cells c)), (1, .row 26 (Enc.cells xr)), (2, .row 26 (Enc.cells (default : (VArr 8))))] 3 (by kernel_rfl) ?_
 refine wk_id ?_
 refine block_cut (A := (VArr 8)) (fun a => ([(1, iS pc), (5, .ptr 0 0), (7, .ptr 1 0)], [(0, .row 26 (Enc.cells a)), (1, .row 26 (Enc.cells (default : (VArr 8))))], 2)) (fun a => (taskmillref_Did_j1 pc a) = some r) (fun K1495 hK1495 => ?_) ?_
 ·refine seq_np ?_
  refine reg_f ?_
  refine rs 2 [] [] (by kernel_rfl) allP_nil ?_
  refine rf [(1, iS pc), (3, .ptr 0 0), (5, .ptr 1 0), (7, .ptr 2 0), (9, iS c.Op), (10, bS (c.Op == 1))] [(0, .row 38 (Enc.cells c)), (1, .row 26 (Enc.cells xr)), (2, .row 26 (Enc.cells (default : (VArr 8))))] 3 (by kernel_rfl) ?_
  refine wk_id ?_
  refine cond_sx h (by kernel_rfl) (fun g1544 h => ?_) (fun g1544 h => ?_)
  ·refine chk_sx h (fun g1499 h => ?_)
   refine reg_f ?_
   have k1498 : 0 ≤ c.A ∧ c.A < ((8 : Nat) : Int) := by first | simpa only [Bool.and_eq_true, decide_eq_true_eq, bne_iff_ne, ne_eq] using g1499 | (simp at g1499 ⊢; omega)
   refine rs 6 [none, none, none, none, some ⟨.ptr 1 (0 + (c.A).toNat * 1), [], 3, []⟩, some ⟨.any, [(1, .row 26 (Enc.cells (xr.set c.A c.B)))], 3, [1]⟩] _ (by kernel_rfl) (allP_cons (ob_sta (P := Tryd.prog) ([] : List SV) ([] : List SV) xr c.A c.B (0 + (c.A).toNat * 1) k1498 rfl 1 3 26 3 (by kernel_rfl)) (allP_cons (ob_ixa 1 0 8 1 c.A 3 k1498) allP_nil)) ?_
   refine rf [(1, iS pc), (5, .ptr 1 0), (7, .ptr 2 0)] [(0, .row 38 (Enc.cells c)), (1, .row 26 (Enc.cells (xr.set c.A c.B))), (2, .row 26 (Enc.cells (default : (VArr 8))))] 3 (by kernel_rfl) ?_
   exact hK1495 ((xr.set c.A c.B)) _ _ _ h (leSt_m [(0, 1), (1, 2)] [] (by simp only [push_cast, seval]) (by simp only [push_cast, seval]) rfl rfl rfl)
  ·refine seq_np ?_
   refine reg_f ?_
   refine rs 2 [] [] (by kernel_rfl) allP_nil ?_
   refine rf [(1, iS pc), (3, .ptr 0 0), (5, .ptr 1 0), (7, .ptr 2 0), (9, iS c.Op), (17, bS (c.Op == 2))] [(0, .row 38 (Enc.cells c)), (1, .row 26 (Enc.cells xr)), (2, .row 26 (Enc.cells (default : (VArr 8))))] 3 (by kernel_rfl) ?_
   refine wk_id ?_
   refine cond_sx h (by kernel_rfl) (fun g1543 h => ?_) (fun g1543 h => ?_)
   ·refine chk_sx h (fun g1505 h => ?_)
    refine chk_sx h (fun g1507 h => ?_)
    refine reg_t ?_
    have k1504 : 0 ≤ c.B ∧ c.B < ((8 : Nat) : Int) := by first | simpa only [Bool.and_eq_true, decide_eq_true_eq, bne_iff_ne, ne_eq] using g1505 | (simp at g1505 ⊢; omega)
    have k1506 : 0 ≤ c.A ∧ c.A < ((8 : Nat) : Int) := by first | simpa only [Bool.and_eq_true, decide_eq_true_eq, bne_iff_ne, ne_eq] using g1507 | (simp at g1507 ⊢; omega)
    refine rs 8 [none, none, none, none, some ⟨.ptr 1 (0 + (c.B).toNat * 1), [], 7, []⟩, some ⟨iS (xr.get c.B), [], 8, [1]⟩, some ⟨.ptr 1 (0 + (c.A).toNat * 1), [], 9, []⟩, some ⟨.any, [(1, .row 26 (Enc.cells (xr.set c.A (xr.get c.B))))], 10, [1]⟩] _ (by kernel_rfl) (allP_cons (ob_sta (P := Tryd.prog) ([] : List SV) ([] : List SV) xr c.A (xr.get c.B) (0 + (c.A).toNat * 1) k1506 rfl 1 10 26 3 (by kernel_rfl)) (allP_cons (ob_ixa 1 0 8 1 c.A 9 k1506) (allP_cons (ob_lda ([] : List SV) ([] : List SV) xr c.B (0 + (c.B).toNat * 1) k1504 rfl (dflS Tryd.prog 3) 8 [1]) (allP_cons (ob_ixa 1 0 8 1 c.B 7 k1504) allP_nil)))) ?_
    refine rt [(1, iS pc), (5, .ptr 1 0), (7, .ptr 2 0)] [(0, .row 38 (Enc.cells c)), (1, .row 26 (Enc.cells (xr.set c.A (xr.get c.B)))), (2, .row 26 (Enc.cells (default : (VArr 8))))] 11 follows (by kernel_rfl) ?_
    exact hK1495 ((xr.set c.A (xr.get c.B))) _ _ _ h (leSt_m [(0, 1), (1, 2)] [] (by simp only [push_cast, seval]) (by simp only [push_cast, seval]) rfl rfl rfl)
   ·refine seq_np ?_
    refine reg_f ?_
    refine rs 2 [] [] (by kernel_rfl) allP_nil ?_
    refine rf [(1, iS pc), (3, .ptr 0 0), (5, .ptr 1 0), (7, .ptr 2 0), (9, iS c.Op), (26, bS (c.Op == 3))] [(0, .row 38 (Enc.cells c)), (1, .row 26 (Enc.cells xr)), (2, .row 26 (Enc.cells (default : (VArr 8))))] 3 (by kernel_rfl) ?_
    refine wk_id ?_
    refine cond_sx h (by kernel_rfl) (fun g1542 h => ?_) (fun g1542 h => ?_)
    ·refine chk_sx h (fun g1513 h => ?_)
     refine chk_sx h (fun g1515 h => ?_)
     refine reg_t ?_
     have k1512 : 0 ≤ c.A ∧ c.A < ((8 : Nat) : Int) := by first | simpa only [Bool.and_eq_true, decide_eq_true_eq, bne_iff_ne, ne_eq] using g1513 | (simp at g1513 ⊢; omega)
     have k1514 : 0 ≤ c.B ∧ c.B < ((8 : Nat) : Int) := by first | simpa only [Bool.and_eq_true, decide_eq_true_eq, bne_iff_ne, ne_eq] using g1515 | (simp at g1515 ⊢; omega)
     refine rs 13 [none, none, none, none, some ⟨.ptr 1 (0 + (c.A).toNat * 1), [], 7, []⟩, some ⟨iS (xr.get c.A), [], 8, [1]⟩, none, none, some ⟨.ptr 1 (0 + (c.B).toNat * 1), [], 11, []⟩, some ⟨iS (xr.get c.B), [], 12, [1]⟩, none, some ⟨.ptr 1 (0 + (c.A).toNat * 1), [], 14, []⟩, some ⟨.any, [(1, .row 26 (Enc.cells (xr.set c.A (IntKind.i64.wrap ((xr.get c.A) + (xr.get c.B))))))], 15, [1]⟩] _ (by kernel_rfl) (allP_cons (ob_sta (P := Tryd.prog) ([] : List SV) ([] : List SV) xr c.A (IntKind.i64.wrap ((xr.get c.A) + (xr.get c.B))) (0 + (c.A).toNat * 1) k1512 rfl 1 15 26 3 (by kernel_rfl)) (allP_cons (ob_ixa 1 0 8 1 c.A 14 k1512) (allP_cons (ob_lda ([] : List SV) ([] : List SV) xr c.B (0 + (c.B).toNat * 1) k1514 rfl (dflS Tryd.prog 3) 12 [1]) (allP_cons (ob_ixa 1 0 8 1 c.B 11 k1514) (allP_cons (ob_lda ([] : List SV) ([] : List SV) xr c.A (0 + (c.A).toNat * 1) k1512 rfl (dflS Tryd.prog 3) 8 [1]) (allP_cons (ob_ixa 1 0 8 1 c.A 7 k1512) allP_nil)))))) ?_
     refine rt [(1, iS pc), (5, .ptr 1 0), (7, .ptr 2 0)] [(0, .row 38 (Enc.cells c)), (1, .row 26 (Enc.cells (xr.set c.A (IntKind.i64.wrap ((xr.get c.A) + (xr.get c.B)))))), (2, .row 26 (Enc.cells (default : (VArr 8))))] 16 follows (by kernel_rfl) ?_
     exact hK1495 ((xr.set c.A (IntKind.i64.wrap ((xr.get c.A) + (xr.get c.B))))) _ _ _ h (leSt_m [(0, 1), (1, 2)] [] (by simp only [push_cast, seval]) (by simp only [push_cast, seval]) rfl rfl rfl)
    ·refine seq_np ?_
     refine reg_f ?_
     refine rs 2 [] [] (by kernel_rfl) allP_nil ?_
     refine rf [(1, iS pc), (3, .ptr 0 0), (5, .ptr 1 0), (7, .ptr 2 0), (9, iS c.Op), (40, bS (c.Op == 4))] [(0, .row 38 (Enc.cells c)), (1, .row 26 (Enc.cells xr)), (2, .row 26 (Enc.cells (default : (VArr 8))))] 3 (by kernel_rfl) ?_
     refine wk_id ?_
     refine cond_sx h (by kernel_rfl) (fun g1541 h => ?_) (fun g1541 h => ?_)
     ·refine chk_sx h (fun g1521 h => ?_)
      refine chk_sx h (fun g1523 h => ?_)
      refine reg_t ?_
      have k1520 : 0 ≤ c.A ∧ c.A < ((8 : Nat) : Int) := by first | simpa only [Bool.and_eq_true, decide_eq_true_eq, bne_iff_ne, ne_eq] using g1521 | (simp at g1521 ⊢; omega)
      have k1522 : 0 ≤ c.B ∧ c.B < ((8 : Nat) : Int) := by first | simpa only [Bool.and_eq_true, decide_eq_true_eq, bne_iff_ne, ne_eq] using g1523 | (simp at g1523 ⊢; omega)
      refine rs 13 [none, none, none, none, some ⟨.ptr 1 (0 + (c.A).toNat * 1), [], 7, []⟩, some ⟨iS (xr.get c.A), [], 8, [1]⟩, none, none, some ⟨.ptr 1 (0 + (c.B).toNat * 1), [], 11, []⟩, some ⟨iS (xr.get c.B), [], 12, [1]⟩, none, some ⟨.ptr 1 (0 + (c.A).toNat * 1), [], 14, []⟩, some ⟨.any, [(1, .row 26 (Enc.cells (xr.set c.A (IntKind.i64.wrap ((xr.get c.A) - (xr.get c.B))))))], 15, [1]⟩] _ (by kernel_rfl) (allP_cons (ob_sta (P := Tryd.prog) ([] : List SV) ([] : List SV) xr c.A (IntKind.i64.wrap ((xr.get c.A) - (xr.get c.B))) (0 + (c.A).toNat * 1) k1520 rfl 1 15 26 3 (by kernel_rfl)) (allP_cons (ob_ixa 1 0 8 1 c.A 14 k1520) (allP_cons (ob_lda ([] : List SV) ([] : List SV) xr c.B (0 + (c.B).toNat * 1) k1522 rfl (dflS Tryd.prog 3) 12 [1]) (allP_cons (ob_ixa 1 0 8 1 c.B 11 k1522) (allP_cons (ob_lda ([] : List SV) ([] : List SV) xr c.A (0 + (c.A).toNat * 1) k1520 rfl (dflS Tryd.prog 3) 8 [1]) (allP_cons (ob_ixa 1 0 8 1 c.A 7 k1520) allP_nil)))))) ?_
      refine rt [(1, iS pc), (5, .ptr 1 0), (7, .ptr 2 0)] [(0, .row 38 (Enc.cells c)), (1, .row 26 (Enc.cells (xr.set c.A (IntKind.i64.wrap ((xr.get c.A) - (xr.get c.B)))))), (2, .row 26 (Enc.cells (default : (VArr 8))))] 16 follows (by kernel_rfl) ?_
      exact hK1495 ((xr.set c.A (IntKind.i64.wrap ((xr.get c.A) - (xr.get c.B))))) _ _ _ h (leSt_m [(0, 1), (1, 2)] [] (by simp only [push_cast, seval]) (by simp only [push_cast, seval]) rfl rfl rfl)
     ·refine seq_np ?_
      refine reg_f ?_
      refine rs 2 [] [] (by kernel_rfl) allP_nil ?_
      refine rf [(1, iS pc), (3, .ptr 0 0), (5, .ptr 1 0), (7, .ptr 2 0), (9, iS c.Op), (54, bS (c.Op == 5))] [(0, .row 38 (Enc.cells c)), (1, .row 26 (Enc.cells xr)), (2, .row 26 (Enc.cells (default : (VArr 8))))] 3 (by kernel_rfl) ?_
      refine wk_id ?_
      refine cond_sx h (by kernel_rfl) (fun g1540 h => ?_) (fun g1540 h => ?_)
      ·refine chk_sx h (fun g1529 h => ?_)
       refine chk_sx h (fun g1531 h => ?_)
       refine seq_np ?_
       refine reg_t ?_
       have k1528 : 0 ≤ c.A ∧ c.A < ((8 : Nat) : Int) := by first | simpa only [Bool.and_eq_true, decide_eq_true_eq, bne_iff_ne, ne_eq] using g1529 | (simp at g1529 ⊢; omega)
       have k1530 : 0 ≤ c.B ∧ c.B < ((8 : Nat) : Int) := by first | simpa only [Bool.and_eq_true, decide_eq_true_eq, bne_iff_ne, ne_eq] using g1531 | (simp at g1531 ⊢; omega)
       refine rs 9 [none, none, some ⟨.ptr 1 (0 + (c.A).toNat * 1), [], 5, []⟩, some ⟨iS (xr.get c.A), [], 6, [1]⟩, none, none, some ⟨.ptr 1 (0 + (c.B).toNat * 1), [], 9, []⟩, some ⟨iS (xr.get c.B), [], 10, [1]⟩] _ (by kernel_rfl) (allP_cons (ob_lda ([] : List SV) ([] : List SV) xr c.B (0 + (c.B).toNat * 1) k1530 rfl (dflS Tryd.prog 3) 10 [1]) (allP_cons (ob_ixa 1 0 8 1 c.B 9 k1530) (allP_cons (ob_lda ([] : List SV) ([] : List SV) xr c.A (0 + (c.A).toNat * 1) k1528 rfl (dflS Tryd.prog 3) 6 [1]) (allP_cons (ob_ixa 1 0 8 1 c.A 5 k1528) allP_nil)))) ?_
       refine rt [(1, iS pc), (3, .ptr 0 0), (5, .ptr 1 0), (7, .ptr 2 0), (64, bS (decide ((xr.get c.A) < (xr.get c.B))))] [(0, .row 38 (Enc.cells c)), (1, .row 26 (Enc.cells xr)), (2, .row 26 (Enc.cells (default : (VArr 8))))] 12 follows (by kernel_rfl) ?_
       refine wk_id ?_
       refine cond_sx h (by kernel_rfl) (fun g1532 h => ?_) (fun g1532 h => ?_)
       ·refine reg_f ?_
        refine rs 4 [none, none, some ⟨.ptr 1 (0 + (c.A).toNat * 1), [], 12, []⟩, some ⟨.any, [(1, .row 26 (Enc.cells (xr.set c.A 1)))], 12, [1]⟩] _ (by kernel_rfl) (allP_cons (ob_sta (P := Tryd.prog) ([] : List SV) ([] : List SV) xr c.A 1 (0 + (c.A).toNat * 1) k1528 rfl 1 12 26 3 (by kernel_rfl)) (allP_cons (ob_ixa 1 0 8 1 c.A 12 k1528) allP_nil)) ?_
        refine rf [(1, iS pc), (5, .ptr 1 0), (7, .ptr 2 0)] [(0, .row 38 (Enc.cells c)), (1, .row 26 (Enc.cells (xr.set c.A 1))), (2, .row 26 (Enc.cells (default : (VArr 8))))] 12 (by kernel_rfl) ?_
        exact hK1495 ((xr.set c.A 1)) _ _ _ h (leSt_m [(0, 1), (1, 2)] [] (by simp only [push_cast, seval]) (by simp only [push_cast, seval]) rfl rfl rfl)
       ·refine reg_f ?_
        refine rs 4 [none, none, some ⟨.ptr 1 (0 + (c.A).toNat * 1), [], 12, []⟩, some ⟨.any, [(1, .row 26 (Enc.cells (xr.set c.A 0)))], 12, [1]⟩] _ (by kernel_rfl) (allP_cons (ob_sta (P := Tryd.prog) ([] : List SV) ([] : List SV) xr c.A 0 (0 + (c.A).toNat * 1) k1528 rfl 1 12 26 3 (by kernel_rfl)) (allP_cons (ob_ixa 1 0 8 1 c.A 12 k1528) allP_nil)) ?_
        refine rf [(1, iS pc), (5, .ptr 1 0), (7, .ptr 2 0)] [(0, .row 38 (Enc.cells c)), (1, .row 26 (Enc.cells (xr.set c.A 0))), (2, .row 26 (Enc.cells (default : (VArr 8))))] 12 (by kernel_rfl) ?_
        exact hK1495 ((xr.set c.A 0)) _ _ _ h (leSt_m [(0, 1), (1, 2)] [] (by simp only [push_cast, seval]) (by simp only [push_cast, seval]) rfl rfl rfl)
      ·refine seq_np ?_
       refine reg_f ?_
       refine rs 2 [] [] (by kernel_rfl) allP_nil ?_
       refine rf [(1, iS pc), (3, .ptr 0 0), (5, .ptr 1 0), (7, .ptr 2 0), (9, iS c.Op), (71, bS (c.Op == 6))] [(0, .row 38 (Enc.cells c)), (1, .row 26 (Enc.cells xr)), (2, .row 26 (Enc.cells (default : (VArr 8))))] 3 (by kernel_rfl) ?_
       refine wk_id ?_
       refine cond_sx h (by kernel_rfl) (fun g1539 h => ?_) (fun g1539 h => ?_)
       ·refine seq_np ?_
        refine reg_t ?_
        refine rs 5 [] [] (by kernel_rfl) allP_nil ?_
        refine rt [(6, iS c.A), (7, .ptr 2 0)] [(0, .row 38 (Enc.cells c)), (1, .row 26 (Enc.cells xr)), (2, .row 26 (Enc.cells xr))] 8 follows (by kernel_rfl) ?_
        refine wk_id ?_
        obtain rfl := Option.some.inj h
        refine ret_at (.tup [iS c.A, .agg (Enc.cells xr)]) (by kernel_rfl) ?_
        exact ret_e [] [] (by simp only [push_cast, seval]) (by simp only [push_cast, seval]) rfl rfl rfl
       ·refine seq_np ?_
        refine reg_f ?_
        refine rs 2 [] [] (by kernel_rfl) allP_nil ?_
        refine rf [(1, iS pc), (3, .ptr 0 0), (5, .ptr 1 0), (7, .ptr 2 0), (76, bS (c.Op == 7))] [(0, .row 38 (Enc.cells c)), (1, .row 26 (Enc.cells xr)), (2, .row 26 (Enc.cells (default : (VArr 8))))] 3 (by kernel_rfl) ?_
        refine wk_id ?_
        refine cond_sx h (by kernel_rfl) (fun g1538 h => ?_) (fun g1538 h => ?_)
        ·refine chk_sx h (fun g1536 h => ?_)
         refine seq_np ?_
         refine reg_f ?_
         have k1535 : 0 ≤ c.A ∧ c.A < ((8 : Nat) : Int) := by first | simpa only [Bool.and_eq_true, decide_eq_true_eq, bne_iff_ne, ne_eq] using g1536 | (simp at g1536 ⊢; omega)
         refine rs 5 [none, none, some ⟨.ptr 1 (0 + (c.A).toNat * 1), [], 3, []⟩, some ⟨iS (xr.get c.A), [], 3, [1]⟩] _ (by kernel_rfl) (allP_cons (ob_lda ([] : List SV) ([] : List SV) xr c.A (0 + (c.A).toNat * 1) k1535 rfl (dflS Tryd.prog 3) 3 [1]) (allP_cons (ob_ixa 1 0 8 1 c.A 3 k1535) allP_nil)) ?_
         refine rf [(1, iS pc), (3, .ptr 0 0), (5, .ptr 1 0), (7, .ptr 2 0), (82, bS ((xr.get c.A) == 0))] [(0, .row 38 (Enc.cells c)), (1, .row 26 (Enc.cells xr)), (2, .row 26 (Enc.cells (default : (VArr 8))))] 3 (by kernel_rfl) ?_
         refine wk_id ?_
         refine cond_sx h (by kernel_rfl) (fun g1537 h => ?_) (fun g1537 h => ?_)
         ·refine seq_np ?_
          refine reg_t ?_
          refine rs 5 [] [] (by kernel_rfl) allP_nil ?_
          refine rt [(6, iS c.B), (7, .ptr 2 0)] [(0, .row 38 (Enc.cells c)), (1, .row 26 (Enc.cells xr)), (2, .row 26 (Enc.cells xr))] 8 follows (by kernel_rfl) ?_
          refine wk_id ?_
          obtain rfl := Option.some.inj h
          refine ret_at (.tup [iS c.B, .agg (Enc.cells xr)]) (by kernel_rfl) ?_
          exact ret_e [] [] (by simp only [push_cast, seval]) (by simp only [push_cast, seval]) rfl rfl rfl
         ·exact hK1495 (xr) _ _ _ h (leSt_m [(0, 1), (1, 2)] [] (by simp only [push_cast, seval]) (by simp only [push_cast, seval]) rfl rfl rfl)
        ·exact hK1495 (xr) _ _ _ h (leSt_m [(0, 1), (1, 2)] [] (by simp only [push_cast, seval]) (by simp only [push_cast, seval]) rfl rfl rfl)
 ·rintro c0q2 h
  try dsimp only at h ⊢
  unfold taskmillref_Did_j1 at h
  refine wk_id ?_
  refine seq_np ?_
  refine reg_t ?_
  refine rs 5 [] [] (by kernel_rfl) allP_nil ?_
  refine rt [(6, iS (IntKind.i64.wrap (pc + 1))), (7, .ptr 1 0)] [(0, .row 26 (Enc.cells c0q2)), (1, .row 26 (Enc.cells c0q2))] 7 follows (by kernel_rfl) ?_
  refine wk_id ?_
  obtain rfl := Option.some.inj h
  refine ret_at (.tup [iS (IntKind.i64.wrap (pc + 1)), .agg (Enc.cells c0q2)]) (by kernel_rfl) ?_
  exact ret_e [] [] (by simp only [push_cast, seval]) (by simp only [push_cast, seval]) rfl rfl rfl

set_option maxRecDepth 100000 in
set_option maxHeartbeats 200000000 in
theorem taskmilllaw_CodeRuns_spec (p : GProgram) (pc : Int) (regs : (VArr 8)) (fuel : Int) (r : Bool) (h : taskmilllaw_CodeRuns p pc regs fuel = some r) : SpecW Tryd.prog 3 [.agg (Enc.cells p), iS pc, .agg (Enc.cells regs), iS fuel] [] 0 (fun x h n => x = bS r ∧ h = [] ∧ n = 0) := by
 unfold taskmilllaw_CodeRuns at h
 refine spec_of (draw_ok _) Tryd.func3 rfl (by decide) rfl (by kernel_rfl) ?_
 refine seq_np ?_
 refine reg_f ?_
 refine rs 3 [] [] (by kernel_rfl) allP_nil ?_
 refine rf [(1, iS pc), (3, iS fuel), (4, .ptr 0 0), (6, .ptr 1 0)] [(0, .row 25 (Enc.cells p)), (1, .row 26 (Enc.cells regs))] 2 (by kernel_rfl) ?_
 refine wk_id ?_
 refine seq_np ?_
 refine seq_np ?_
 refine reg_f ?_
 obtain ⟨r1568, hr1568, h⟩ := bind_sx h
 refine run_call 7 [] (some 17) (by kernel_rfl) ?_
 refine call_0 (taskmilllaw_codeBegun_spec r1568 hr1568) (by simp only [push_cast, seval]) (by simp only [push_cast, seval]) ?_
 refine back_f ?_
 refine rs 1 [] [] (by kernel_rfl) allP_nil ?_
 refine rf [(1, iS pc), (3, iS fuel), (4, .ptr 0 0), (6, .ptr 1 0), (18, bS (!r1568))] [(0, .row 25 (Enc.cells p)), (1, .row 26 (Enc.cells regs))] 2 (by kernel_rfl) ?_
 refine wk_id ?_
 refine cond_sx h (by kernel_rfl) (fun g1718 h => ?_) (fun g1718 h => ?_)
 ·refine seq_np ?_
  refine reg_f ?_
  refine rs 1 [] [] (by kernel_rfl) allP_nil ?_
  refine rf [(8, bS false)] [(0, .row 25 (Enc.cells p)), (1, .row 26 (Enc.cells regs))] 2 (by kernel_rfl) ?_
  refine wk_id ?_
  obtain rfl := Option.some.inj h
  refine ret_at (bS false) (by kernel_rfl) ?_
  exact ret_e [] [] (by simp only [push_cast, seval]) (by simp only [push_cast, seval]) rfl rfl rfl
 ·refine wk_id ?_
  refine seq_np ?_
  refine seq_np ?_
  refine reg_f ?_
  refine rs 1 [] [] (by kernel_rfl) allP_nil ?_
  obtain ⟨r1572, hr1572, h⟩ := bind_sx h
  refine run_call 8 [.agg (Enc.cells p)] (some 20) (by kernel_rfl) ?_
  refine call_0 (taskmilllaw_vastProgram_spec p r1572 hr1572) (by simp only [push_cast, seval]) (by simp only [push_cast, seval]) ?_
  refine back_f ?_
  refine rf [(1, iS pc), (3, iS fuel), (4, .ptr 0 0), (6, .ptr 1 0), (20, bS r1572)] [(0, .row 25 (Enc.cells p)), (1, .row 26 (Enc.cells regs))] 2 (by kernel_rfl) ?_
  refine wk_id ?_
  refine cond_sx h (by kernel_rfl) (fun g1717 h => ?_) (fun g1717 h => ?_)
  ·refine seq_np ?_
   refine reg_f ?_
   refine rs 1 [] [] (by kernel_rfl) allP_nil ?_
   refine rf [(8, bS true)] [(0, .row 25 (Enc.cells p)), (1, .row 26 (Enc.cells regs))] 2 (by kernel_rfl) ?_
   refine wk_id ?_
   obtain rfl := Option.some.inj h
   refine ret_at (bS true) (by kernel_rfl) ?_
   exact ret_e [] [] (by simp only [push_cast, seval]) (by simp only [push_cast, seval]) rfl rfl rfl
  ·refine wk_id ?_
   refine seq_np ?_
   refine reg_f ?_
   refine rs 1 [] [] (by kernel_rfl) allP_nil ?_
   obtain ⟨r1574, hr1574, h⟩ := bind_sx h
   refine call_x (taskmilllaw_ownProgram_spec p r1574 hr1574) (args := [.agg (Enc.cells p)]) (dst := (some 22)) (by kernel_rfl) [(0, .row 25 (Enc.cells p)), (1, .row 26 (Enc.cells regs))] 2 (by kernel_rfl) [] [] (.agg [.own 2 0 r1574.2.2.2.1.length, iS r1574.1, .own 3 0 r1574.2.2.2.2.length, iS r1574.2.1, iS r1574.2.2.1]) [(2, .row 38 (fl r1574.2.2.2.1)), (3, .row 3 (fl r1574.2.2.2.2))] (by simp only [push_cast, seval]) (by simp only [push_cast, seval]) (by kernel_rfl) (.inl rfl) (by simp only [push_cast, seval]) (by simp only [push_cast, seval]) ?_
   refine rs 2 [] [] (by kernel_rfl) allP_nil ?_
   refine rf [(1, iS pc), (3, iS fuel), (4, .ptr 0 0), (6, .ptr 1 0), (9, .ptr 4 0)] [(0, .row 25 (Enc.cells p)), (1, .row 26 (Enc.cells regs)), (2, .row 38 (fl r1574.2.2.2.1)), (3, .row 3 (fl r1574.2.2.2.2)), (4, .row 25 [.own 2 0 r1574.2.2.2.1.length, iS r1574.1, .own 3 0 r1574.2.2.2.2.length, iS r1574.2.1, iS r1574.2.2.1])] 5 (by kernel_rfl) ?_
   refine wk_id ?_
   refine seq_np ?_
   refine reg_f ?_
   refine rs 1 [] [] (by kernel_rfl) allP_nil ?_
   obtain ⟨r1576, hr1576, h⟩ := bind_sx h
   refine call_x (code_Check_spec (GProgram.mk r1574.2.2.2.1 r1574.1 r1574.2.2.2.2 r1574.2.1 r1574.2.2.1) r1576 hr1576) (args := [.agg [.own 2 0 r1574.2.2.2.1.length, iS r1574.1, .own 3 0 r1574.2.2.2.2.length, iS r1574.2.1, iS r1574.2.2.1]]) (dst := (some 24)) (by kernel_rfl) [(0, .row 25 (Enc.cells p)), (1, .row 26 (Enc.cells regs)), (2, .row 38 (fl r1574.2.2.2.1)), (3, .row 3 (fl r1574.2.2.2.2)), (4, .row 25 [.own 2 0 r1574.2.2.2.1.length, iS r1574.1, .own 3 0 r1574.2.2.2.2.length, iS r1574.2.1, iS r1574.2.2.1])] 5 (by kernel_rfl) [] [2, 3] (.agg (Enc.cells r1576)) [] (by simp only [push_cast, seval]) (by simp only [push_cast, seval]) (by kernel_rfl) (.inr ⟨by simp only [push_cast, seval], by simp only [push_cast, seval]⟩) (by simp only [push_cast, seval]) (by simp only [push_cast, seval]) ?_
   refine rs 2 [] [] (by kernel_rfl) allP_nil ?_
   refine rf [(1, iS pc), (3, iS fuel), (4, .ptr 0 0), (6, .ptr 1 0), (9, .ptr 4 0), (10, .ptr 5 0)] [(0, .row 25 (Enc.cells p)), (1, .row 26 (Enc.cells regs)), (2, .row 38 (fl r1574.2.2.2.1)), (3, .row 3 (fl r1574.2.2.2.2)), (4, .row 25 [.own 2 0 r1574.2.2.2.1.length, iS r1574.1, .own 3 0 r1574.2.2.2.2.length, iS r1574.2.1, iS r1574.2.2.1]), (5, .row 31 (Enc.cells r1576))] 6 (by kernel_rfl) ?_
   refine wk_id ?_
   refine seq_np ?_
   refine reg_f ?_
   refine rs 4 [] [] (by kernel_rfl) allP_nil ?_
   obtain ⟨r1578, hr1578, h⟩ := bind_sx h
   refine call_x (code_Run_spec (GProgram.mk r1574.2.2.2.1 r1574.1 r1574.2.2.2.2 r1574.2.1 r1574.2.2.1) pc regs fuel r1578 hr1578) (args := [.agg [.own 2 0 r1574.2.2.2.1.length, iS r1574.1, .own 3 0 r1574.2.2.2.2.length, iS r1574.2.1, iS r1574.2.2.1], iS pc, .agg (Enc.cells regs), iS fuel]) (dst := (some 30)) (by kernel_rfl) [(0, .row 25 (Enc.cells p)), (1, .row 26 (Enc.cells regs)), (2, .row 38 (fl r1574.2.2.2.1)), (3, .row 3 (fl r1574.2.2.2.2)), (4, .row 25 [.own 2 0 r1574.2.2.2.1.length, iS r1574.1, .own 3 0 r1574.2.2.2.2.length, iS r1574.2.1, iS r1574.2.2.1]), (5, .row 31 (Enc.cells r1576))] 6 (by kernel_rfl) [] [2, 3] (.tup [iS r1578.1, .agg (Enc.cells r1578.2.1), iS r1578.2.2.1, .agg (Enc.cells r1578.2.2.2)]) [] (by simp only [push_cast, seval]) (by simp only [push_cast, seval]) (by kernel_rfl) (.inr ⟨by simp only [push_cast, seval], by simp only [push_cast, seval]⟩) (by simp only [push_cast, seval]) (by simp only [push_cast, seval]) ?_
   refine rs 11 [] [] (by kernel_rfl) allP_nil ?_
   refine rf [(1, iS pc), (3, iS fuel), (4, .ptr 0 0), (6, .ptr 1 0), (9, .ptr 4 0), (10, .ptr 5 0), (11, iS r1578.1), (12, .ptr 6 0), (13, iS r1578.2.2.1), (14, .ptr 7 0)] [(0, .row 25 (Enc.cells p)), (1, .row 26 (Enc.cells regs)), (2, .row 38 (fl r1574.2.2.2.1)), (3, .row 3 (fl r1574.2.2.2.2)), (4, .row 25 [.own 2 0 r1574.2.2.2.1.length, iS r1574.1, .own 3 0 r1574.2.2.2.2.length, iS r1574.2.1, iS r1574.2.2.1]), (5, .row 31 (Enc.cells r1576)), (6, .row 26 (Enc.cells r1578.2.1)), (7, .row 31 (Enc.cells r1578.2.2.2))] 8 (by kernel_rfl) ?_
   refine wk_id ?_
   refine seq_np ?_
   refine reg_f ?_
   refine rs 1 [] [] (by kernel_rfl) allP_nil ?_
   obtain ⟨r1580, hr1580, h⟩ := bind_sx h
   refine run_call 12 [.agg (Enc.cells p)] (some 36) (by kernel_rfl) ?_
   refine call_0 (taskmillref_ProgramFault_spec p r1580 hr1580) (by simp only [push_cast, seval]) (by simp only [push_cast, seval]) ?_
   refine back_f ?_
   refine rs 2 [] [] (by kernel_rfl) allP_nil ?_
   refine rf [(1, iS pc), (3, iS fuel), (4, .ptr 0 0), (6, .ptr 1 0), (9, .ptr 4 0), (10, .ptr 5 0), (11, iS r1578.1), (12, .ptr 6 0), (13, iS r1578.2.2.1), (14, .ptr 7 0), (15, .ptr 8 0)] [(0, .row 25 (Enc.cells p)), (1, .row 26 (Enc.cells regs)), (2, .row 38 (fl r1574.2.2.2.1)), (3, .row 3 (fl r1574.2.2.2.2)), (4, .row 25 [.own 2 0 r1574.2.2.2.1.length, iS r1574.1, .own 3 0 r1574.2.2.2.2.length, iS r1574.2.1, iS r1574.2.2.1]), (5, .row 31 (Enc.cells r1576)), (6, .row 26 (Enc.cells r1578.2.1)), (7, .row 31 (Enc.cells r1578.2.2.2)), (8, .row 31 (Enc.cells r1580))] 9 (by kernel_rfl) ?_
   refine wk_id ?_
   refine seq_np ?_
   refine seq_cut (A := Int × Int × Bool × (VArr 8) × Fault × Fault) (fun a => ([(1, iS pc), (3, iS fuel), (4, .ptr 0 0), (6, .ptr 1 0), (11, iS a.1), (12, .ptr 2 0), (13, iS a.2.1), (14, .ptr 3 0), (15, .ptr 4 0), (47, bS a.2.2.1)], [(0, .row 25 (Enc.cells p)), (1, .row 26 (Enc.cells regs)), (2, .row 26 (Enc.cells a.2.2.2.1)), (3, .row 31 (Enc.cells a.2.2.2.2.1)), (4, .row 31 (Enc.cells a.2.2.2.2.2))], 5)) (fun a => (taskmilllaw_CodeRuns_j2 p pc regs fuel a.1 a.2.1 a.2.2.1 a.2.2.2.1 a.2.2.2.2.1 a.2.2.2.2.2) = some r) (fun K1589 hK1589 => ?_) ?_
   ·refine reg_f ?_
    refine rs 4 [] [] (by kernel_rfl) allP_nil ?_
    refine run_br h 40 (.inl (by kernel_rfl)) (fun g1590 h => ?_) (fun g1590 h => ?_)
    ·refine rs 7 [] [] (by kernel_rfl) allP_nil ?_
     refine rf [(1, iS pc), (3, iS fuel), (4, .ptr 0 0), (6, .ptr 1 0), (11, iS r1578.1), (12, .ptr 6 0), (13, iS r1578.2.2.1), (14, .ptr 7 0), (15, .ptr 8 0), (47, bS true)] [(0, .row 25 (Enc.cells p)), (1, .row 26 (Enc.cells regs)), (2, .row 38 (fl r1574.2.2.2.1)), (3, .row 3 (fl r1574.2.2.2.2)), (4, .row 25 [.own 2 0 r1574.2.2.2.1.length, iS r1574.1, .own 3 0 r1574.2.2.2.2.length, iS r1574.2.1, iS r1574.2.2.1]), (5, .row 31 (Enc.cells r1576)), (6, .row 26 (Enc.cells r1578.2.1)), (7, .row 31 (Enc.cells r1578.2.2.2)), (8, .row 31 (Enc.cells r1580))] 9 (by kernel_rfl) ?_
     exact hK1589 (r1578.1, r1578.2.2.1, true, r1578.2.1, r1578.2.2.2, r1580) _ _ _ h (leSt_m [(0, 0), (1, 1), (2, 6), (3, 7), (4, 8)] [] (by (try simp only [g1590]) <;> simp only [push_cast, seval]) (by (try simp only [g1590]) <;> simp only [push_cast, seval]) rfl rfl rfl)
    ·refine rs 4 [] [] (by kernel_rfl) allP_nil ?_
     obtain ⟨r1591, hr1591, h⟩ := bind_sx h
     refine call_x (taskmilllaw_sameCode_spec r1574.2.2.2.1 p.Code r1591 hr1591) (args := [.own 2 0 r1574.2.2.2.1.length, .sl p.Code.length (fl p.Code)]) (dst := (some 45)) (by kernel_rfl) [(0, .row 25 (Enc.cells p)), (1, .row 26 (Enc.cells regs)), (2, .row 38 (fl r1574.2.2.2.1)), (3, .row 3 (fl r1574.2.2.2.2)), (4, .row 25 [.own 2 0 r1574.2.2.2.1.length, iS r1574.1, .own 3 0 r1574.2.2.2.2.length, iS r1574.2.1, iS r1574.2.2.1]), (5, .row 31 (Enc.cells r1576)), (6, .row 26 (Enc.cells r1578.2.1)), (7, .row 31 (Enc.cells r1578.2.2.2)), (8, .row 31 (Enc.cells r1580))] 9 (by kernel_rfl) [] [2] (bS r1591) [] (by simp only [push_cast, seval]) (by simp only [push_cast, seval]) (by kernel_rfl) (.inr ⟨by simp only [push_cast, seval], by simp only [push_cast, seval]⟩) (by simp only [push_cast, seval]) (by simp only [push_cast, seval]) ?_
     refine rs 2 [] [] (by kernel_rfl) allP_nil ?_
     refine rf [(1, iS pc), (3, iS fuel), (4, .ptr 0 0), (6, .ptr 1 0), (11, iS r1578.1), (12, .ptr 6 0), (13, iS r1578.2.2.1), (14, .ptr 7 0), (15, .ptr 8 0), (47, bS (!r1591))] [(0, .row 25 (Enc.cells p)), (1, .row 26 (Enc.cells regs)), (2, .row 38 (fl r1574.2.2.2.1)), (3, .row 3 (fl r1574.2.2.2.2)), (4, .row 25 [.own 2 0 r1574.2.2.2.1.length, iS r1574.1, .own 3 0 r1574.2.2.2.2.length, iS r1574.2.1, iS r1574.2.2.1]), (5, .row 31 (Enc.cells r1576)), (6, .row 26 (Enc.cells r1578.2.1)), (7, .row 31 (Enc.cells r1578.2.2.2)), (8, .row 31 (Enc.cells r1580))] 9 (by kernel_rfl) ?_
     exact hK1589 (r1578.1, r1578.2.2.1, (!r1591), r1578.2.1, r1578.2.2.2, r1580) _ _ _ h (leSt_m [(0, 0), (1, 1), (2, 6), (3, 7), (4, 8)] [] (by (try simp only [g1590]) <;> simp only [push_cast, seval]) (by (try simp only [g1590]) <;> simp only [push_cast, seval]) rfl rfl rfl)
   ·rintro ⟨xa2, n2, t47q2, c2q2, c3q2, c4q3⟩ h
    try dsimp only at h ⊢
    unfold taskmilllaw_CodeRuns_j2 at h
    refine cond_sx h (by kernel_rfl) (fun g1716 h => ?_) (fun g1716 h => ?_)
    ·refine seq_np ?_
     refine reg_f ?_
     refine rs 1 [] [] (by kernel_rfl) allP_nil ?_
     refine rf [(8, bS false)] [(0, .row 25 (Enc.cells p)), (1, .row 26 (Enc.cells regs)), (2, .row 26 (Enc.cells c2q2)), (3, .row 31 (Enc.cells c3q2)), (4, .row 31 (Enc.cells c4q3))] 5 (by kernel_rfl) ?_
     refine wk_id ?_
     obtain rfl := Option.some.inj h
     refine ret_at (bS false) (by kernel_rfl) ?_
     exact ret_e [] [] (by simp only [push_cast, seval]) (by simp only [push_cast, seval]) rfl rfl rfl
    ·refine wk_id ?_
     refine seq_cut (A := Fault) (fun a => ([(1, iS pc), (3, iS fuel), (4, .ptr 0 0), (6, .ptr 1 0), (11, iS xa2), (12, .ptr 2 0), (13, iS n2), (14, .ptr 3 0), (15, .ptr 4 0)], [(0, .row 25 (Enc.cells p)), (1, .row 26 (Enc.cells regs)), (2, .row 26 (Enc.cells c2q2)), (3, .row 31 (Enc.cells c3q2)), (4, .row 31 (Enc.cells a))], 5)) (fun a => (taskmilllaw_CodeRuns_j1 p pc regs fuel xa2 n2 c2q2 c3q2 a) = some r) (fun K1599 hK1599 => ?_) ?_
     ·refine seq_cut (A := Unit) (fun _ => ([(1, iS pc), (3, iS fuel), (4, .ptr 0 0), (6, .ptr 1 0), (11, iS xa2), (12, .ptr 2 0), (13, iS n2), (14, .ptr 3 0), (15, .ptr 4 0), (69, bS ((c4q3.Code == 0) && ((decide (pc < 0)) || ((decide (((p.Code.length : Nat) : Int) < pc)) || ((decide (fuel < 0)) || (decide ((5000 : Int) < fuel)))))))], [(0, .row 25 (Enc.cells p)), (1, .row 26 (Enc.cells regs)), (2, .row 26 (Enc.cells c2q2)), (3, .row 31 (Enc.cells c3q2)), (4, .row 31 (Enc.cells c4q3))], 5)) (fun _ => True) (fun K1604 hK1604 => ?_) (fun _ _ => ?_)
      ·refine reg_f ?_
       refine rs 4 [] [] (by kernel_rfl) allP_nil ?_
       refine run_split 51 (c4q3.Code == 0) (.inl (by kernel_rfl)) (fun g1605 => ?_) (fun g1605 => ?_)
       ·refine rs 3 [] [] (by kernel_rfl) allP_nil ?_
        refine run_split 54 (decide (pc < 0)) (.inr (by kernel_rfl)) (fun g1606 => ?_) (fun g1606 => ?_)
        ·refine rs 15 [] [] (by kernel_rfl) allP_nil ?_
         refine rf [(1, iS pc), (3, iS fuel), (4, .ptr 0 0), (6, .ptr 1 0), (11, iS xa2), (12, .ptr 2 0), (13, iS n2), (14, .ptr 3 0), (15, .ptr 4 0), (69, bS true)] [(0, .row 25 (Enc.cells p)), (1, .row 26 (Enc.cells regs)), (2, .row 26 (Enc.cells c2q2)), (3, .row 31 (Enc.cells c3q2)), (4, .row 31 (Enc.cells c4q3))] 5 (by kernel_rfl) ?_
         exact hK1604 () _ _ _ trivial (leSt_m [(0, 0), (1, 1), (2, 2), (3, 3), (4, 4)] [] (by first | ((try simp only [g1605, g1606]) <;> simp only [push_cast, seval]; done) | ((try simp only [g1605]); (try simp only [g1606]); simp only [push_cast, seval]; done) | (exfalso; clear h; simp_all; done)) (by first | ((try simp only [g1605, g1606]) <;> simp only [push_cast, seval]; done) | ((try simp only [g1605]); (try simp only [g1606]); simp only [push_cast, seval]; done) | (exfalso; clear h; simp_all; done)) rfl rfl rfl)
        ·refine rs 7 [] [] (by kernel_rfl) allP_nil ?_
         refine run_split 61 (decide (((p.Code.length : Nat) : Int) < pc)) (.inr (by kernel_rfl)) (fun g1607 => ?_) (fun g1607 => ?_)
         ·refine rn 14 [(1, iS pc), (3, iS fuel), (4, .ptr 0 0), (6, .ptr 1 0), (11, iS xa2), (12, .ptr 2 0), (13, iS n2), (14, .ptr 3 0), (15, .ptr 4 0), (51, bS true), (61, .gd true (bS true))] [(0, .row 25 (Enc.cells p)), (1, .row 26 (Enc.cells regs)), (2, .row 26 (Enc.cells c2q2)), (3, .row 31 (Enc.cells c3q2)), (4, .row 31 (Enc.cells c4q3))] 5 (by kernel_rfl) ?_
          refine rs 8 [] [] (by kernel_rfl) allP_nil ?_
          refine rf [(1, iS pc), (3, iS fuel), (4, .ptr 0 0), (6, .ptr 1 0), (11, iS xa2), (12, .ptr 2 0), (13, iS n2), (14, .ptr 3 0), (15, .ptr 4 0), (69, bS true)] [(0, .row 25 (Enc.cells p)), (1, .row 26 (Enc.cells regs)), (2, .row 26 (Enc.cells c2q2)), (3, .row 31 (Enc.cells c3q2)), (4, .row 31 (Enc.cells c4q3))] 5 (by kernel_rfl) ?_
          exact hK1604 () _ _ _ trivial (leSt_m [(0, 0), (1, 1), (2, 2), (3, 3), (4, 4)] [] (by first | ((try simp only [g1605, g1606, g1607]) <;> simp only [push_cast, seval]; done) | ((try simp only [g1605]); (try simp only [g1606]); (try simp only [g1607]); simp only [push_cast, seval]; done) | (exfalso; clear h; simp_all; done)) (by first | ((try simp only [g1605, g1606, g1607]) <;> simp only [push_cast, seval]; done) | ((try simp only [g1605]); (try simp only [g1606]); (try simp only [g1607]); simp only [push_cast, seval]; done) | (exfalso; clear h; simp_all; done)) rfl rfl rfl)
         ·refine rn 14 [(1, iS pc), (3, iS fuel), (4, .ptr 0 0), (6, .ptr 1 0), (11, iS xa2), (12, .ptr 2 0), (13, iS n2), (14, .ptr 3 0), (15, .ptr 4 0), (51, bS true), (61, .gd true (bS false))] [(0, .row 25 (Enc.cells p)), (1, .row 26 (Enc.cells regs)), (2, .row 26 (Enc.cells c2q2)), (3, .row 31 (Enc.cells c3q2)), (4, .row 31 (Enc.cells c4q3))] 5 (by kernel_rfl) ?_
          refine rs 4 [] [] (by kernel_rfl) allP_nil ?_
          refine run_split 65 (decide (fuel < 0)) (.inr (by kernel_rfl)) (fun g1608 => ?_) (fun g1608 => ?_)
          ·refine rs 4 [] [] (by kernel_rfl) allP_nil ?_
           refine rf [(1, iS pc), (3, iS fuel), (4, .ptr 0 0), (6, .ptr 1 0), (11, iS xa2), (12, .ptr 2 0), (13, iS n2), (14, .ptr 3 0), (15, .ptr 4 0), (69, bS true)] [(0, .row 25 (Enc.cells p)), (1, .row 26 (Enc.cells regs)), (2, .row 26 (Enc.cells c2q2)), (3, .row 31 (Enc.cells c3q2)), (4, .row 31 (Enc.cells c4q3))] 5 (by kernel_rfl) ?_
           exact hK1604 () _ _ _ trivial (leSt_m [(0, 0), (1, 1), (2, 2), (3, 3), (4, 4)] [] (by first | ((try simp only [g1605, g1606, g1607, g1608]) <;> simp only [push_cast, seval]; done) | ((try simp only [g1605]); (try simp only [g1606]); (try simp only [g1607]); (try simp only [g1608]); simp only [push_cast, seval]; done) | (exfalso; clear h; simp_all; done)) (by first | ((try simp only [g1605, g1606, g1607, g1608]) <;> simp only [push_cast, seval]; done) | ((try simp only [g1605]); (try simp only [g1606]); (try simp only [g1607]); (try simp only [g1608]); simp only [push_cast, seval]; done) | (exfalso; clear h; simp_all; done)) rfl rfl rfl)
          ·refine rs 4 [] [] (by kernel_rfl) allP_nil ?_
           refine rf [(1, iS pc), (3, iS fuel), (4, .ptr 0 0), (6, .ptr 1 0), (11, iS xa2), (12, .ptr 2 0), (13, iS n2), (14, .ptr 3 0), (15, .ptr 4 0), (69, bS (decide ((5000 : Int) < fuel)))] [(0, .row 25 (Enc.cells p)), (1, .row 26 (Enc.cells regs)), (2, .row 26 (Enc.cells c2q2)), (3, .row 31 (Enc.cells c3q2)), (4, .row 31 (Enc.cells c4q3))] 5 (by kernel_rfl) ?_
           exact hK1604 () _ _ _ trivial (leSt_m [(0, 0), (1, 1), (2, 2), (3, 3), (4, 4)] [] (by first | ((try simp only [g1605, g1606, g1607, g1608]) <;> simp only [push_cast, seval]; done) | ((try simp only [g1605]); (try simp only [g1606]); (try simp only [g1607]); (try simp only [g1608]); simp only [push_cast, seval]; done) | (exfalso; clear h; simp_all; done)) (by first | ((try simp only [g1605, g1606, g1607, g1608]) <;> simp only [push_cast, seval]; done) | ((try simp only [g1605]); (try simp only [g1606]); (try simp only [g1607]); (try simp only [g1608]); simp only [push_cast, seval]; done) | (exfalso; clear h; simp_all; done)) rfl rfl rfl)
       ·refine rs 18 [] [] (by kernel_rfl) allP_nil ?_
        refine rf [(1, iS pc), (3, iS fuel), (4, .ptr 0 0), (6, .ptr 1 0), (11, iS xa2), (12, .ptr 2 0), (13, iS n2), (14, .ptr 3 0), (15, .ptr 4 0), (69, bS false)] [(0, .row 25 (Enc.cells p)), (1, .row 26 (Enc.cells regs)), (2, .row 26 (Enc.cells c2q2)), (3, .row 31 (Enc.cells c3q2)), (4, .row 31 (Enc.cells c4q3))] 5 (by kernel_rfl) ?_
        exact hK1604 () _ _ _ trivial (leSt_m [(0, 0), (1, 1), (2, 2), (3, 3), (4, 4)] [] (by (try simp only [g1605]) <;> simp only [push_cast, seval]) (by (try simp only [g1605]) <;> simp only [push_cast, seval]) rfl rfl rfl)
      ·dsimp only
       refine cond_sx h (by kernel_rfl) (fun g1611 h => ?_) (fun g1611 h => ?_)
       ·refine reg_f ?_
        obtain ⟨r1610, hr1610, h⟩ := bind_sx h
        refine run_call 14 [iS 3, iS (-1)] (some 70) (by kernel_rfl) ?_
        refine call_0 (taskmillref_F_spec 3 (-1) r1610 hr1610) (by simp only [push_cast, seval]) (by simp only [push_cast, seval]) ?_
        refine back_f ?_
        refine rs 1 [] [] (by kernel_rfl) allP_nil ?_
        refine rf [(1, iS pc), (3, iS fuel), (4, .ptr 0 0), (6, .ptr 1 0), (11, iS xa2), (12, .ptr 2 0), (13, iS n2), (14, .ptr 3 0), (15, .ptr 4 0)] [(0, .row 25 (Enc.cells p)), (1, .row 26 (Enc.cells regs)), (2, .row 26 (Enc.cells c2q2)), (3, .row 31 (Enc.cells c3q2)), (4, .row 31 (Enc.cells r1610))] 5 (by kernel_rfl) ?_
        exact hK1599 (r1610) _ _ _ h (leSt_m [(0, 0), (1, 1), (2, 2), (3, 3), (4, 4)] [] (by simp only [push_cast, seval]) (by simp only [push_cast, seval]) rfl rfl rfl)
       ·exact hK1599 (c4q3) _ _ _ h (leSt_m [(0, 0), (1, 1), (2, 2), (3, 3), (4, 4)] [] (by simp only [push_cast, seval]) (by simp only [push_cast, seval]) rfl rfl rfl)
     ·rintro c4q4 h
      try dsimp only at h ⊢
      unfold taskmilllaw_CodeRuns_j1 at h
      refine seq_np ?_
      refine seq_np ?_
      refine reg_f ?_
      refine rs 3 [] [] (by kernel_rfl) allP_nil ?_
      refine rf [(1, iS pc), (3, iS fuel), (4, .ptr 0 0), (6, .ptr 1 0), (11, iS xa2), (12, .ptr 2 0), (13, iS n2), (15, .ptr 4 0), (73, bS (!((c3q2.Code == c4q4.Code) && ((c3q2.At == c4q4.At) && true))))] [(0, .row 25 (Enc.cells p)), (1, .row 26 (Enc.cells regs)), (2, .row 26 (Enc.cells c2q2)), (3, .row 31 (Enc.cells c3q2)), (4, .row 31 (Enc.cells c4q4))] 5 (by kernel_rfl) ?_
      refine wk_id ?_
      refine cond_sx h (by kernel_rfl) (fun g1715 h => ?_) (fun g1715 h => ?_)
      ·refine seq_np ?_
       refine reg_f ?_
       refine rs 1 [] [] (by kernel_rfl) allP_nil ?_
       refine rf [(8, bS false)] [(0, .row 25 (Enc.cells p)), (1, .row 26 (Enc.cells regs)), (2, .row 26 (Enc.cells c2q2)), (3, .row 31 (Enc.cells c3q2)), (4, .row 31 (Enc.cells c4q4))] 5 (by kernel_rfl) ?_
       refine wk_id ?_
       obtain rfl := Option.some.inj h
       refine ret_at (bS false) (by kernel_rfl) ?_
       exact ret_e [] [] (by simp only [push_cast, seval]) (by simp only [push_cast, seval]) rfl rfl rfl
      ·refine wk_id ?_
       refine seq_np ?_
       refine seq_np ?_
       refine reg_f ?_
       refine rs 3 [] [] (by kernel_rfl) allP_nil ?_
       refine rf [(1, iS pc), (3, iS fuel), (4, .ptr 0 0), (6, .ptr 1 0), (11, iS xa2), (12, .ptr 2 0), (13, iS n2), (76, bS (c4q4.Code != 0))] [(0, .row 25 (Enc.cells p)), (1, .row 26 (Enc.cells regs)), (2, .row 26 (Enc.cells c2q2)), (3, .row 31 (Enc.cells c3q2)), (4, .row 31 (Enc.cells c4q4))] 5 (by kernel_rfl) ?_
       refine wk_id ?_
       refine cond_sx h (by kernel_rfl) (fun g1714 h => ?_) (fun g1714 h => ?_)
       ·refine seq_cut (A := Unit) (fun _ => ([(8, bS ((xa2 == 0) && ((n2 == 0) && ((c2q2.c0 == (default : (VArr 8)).c0) && ((c2q2.c1 == (default : (VArr 8)).c1) && ((c2q2.c2 == (default : (VArr 8)).c2) && ((c2q2.c3 == (default : (VArr 8)).c3) && ((c2q2.c4 == (default : (VArr 8)).c4) && ((c2q2.c5 == (default : (VArr 8)).c5) && ((c2q2.c6 == (default : (VArr 8)).c6) && ((c2q2.c7 == (default : (VArr 8)).c7) && true)))))))))))], [(0, .row 25 (Enc.cells p)), (1, .row 26 (Enc.cells regs)), (2, .row 26 (Enc.cells c2q2)), (3, .row 31 (Enc.cells c3q2)), (4, .row 31 (Enc.cells c4q4))], 5)) (fun _ => True) (fun K1618 hK1618 => ?_) (fun _ _ => ?_)
        ·refine reg_f ?_
         refine rs 3 [] [] (by kernel_rfl) allP_nil ?_
         refine run_split 79 (xa2 == 0) (.inl (by kernel_rfl)) (fun g1619 => ?_) (fun g1619 => ?_)
         ·refine rs 4 [] [] (by kernel_rfl) allP_nil ?_
          refine run_split 83 (n2 == 0) (.inl (by kernel_rfl)) (fun g1620 => ?_) (fun g1620 => ?_)
          ·refine rs 5 [] [] (by kernel_rfl) allP_nil ?_
           refine rf [(8, bS ((c2q2.c0 == (default : (VArr 8)).c0) && ((c2q2.c1 == (default : (VArr 8)).c1) && ((c2q2.c2 == (default : (VArr 8)).c2) && ((c2q2.c3 == (default : (VArr 8)).c3) && ((c2q2.c4 == (default : (VArr 8)).c4) && ((c2q2.c5 == (default : (VArr 8)).c5) && ((c2q2.c6 == (default : (VArr 8)).c6) && ((c2q2.c7 == (default : (VArr 8)).c7) && true)))))))))] [(0, .row 25 (Enc.cells p)), (1, .row 26 (Enc.cells regs)), (2, .row 26 (Enc.cells c2q2)), (3, .row 31 (Enc.cells c3q2)), (4, .row 31 (Enc.cells c4q4))] 5 (by kernel_rfl) ?_
           exact hK1618 () _ _ _ trivial (leSt_m [(0, 0), (1, 1), (2, 2), (3, 3), (4, 4)] [] (by first | ((try simp only [g1619, g1620]) <;> simp only [push_cast, seval]; done) | ((try simp only [g1619]); (try simp only [g1620]); simp only [push_cast, seval]; done) | (exfalso; clear h; simp_all; done)) (by first | ((try simp only [g1619, g1620]) <;> simp only [push_cast, seval]; done) | ((try simp only [g1619]); (try simp only [g1620]); simp only [push_cast, seval]; done) | (exfalso; clear h; simp_all; done)) rfl rfl rfl)
          ·refine rs 5 [] [] (by kernel_rfl) allP_nil ?_
           refine rf [(8, bS false)] [(0, .row 25 (Enc.cells p)), (1, .row 26 (Enc.cells regs)), (2, .row 26 (Enc.cells c2q2)), (3, .row 31 (Enc.cells c3q2)), (4, .row 31 (Enc.cells c4q4))] 5 (by kernel_rfl) ?_
           exact hK1618 () _ _ _ trivial (leSt_m [(0, 0), (1, 1), (2, 2), (3, 3), (4, 4)] [] (by first | ((try simp only [g1619, g1620]) <;> simp only [push_cast, seval]; done) | ((try simp only [g1619]); (try simp only [g1620]); simp only [push_cast, seval]; done) | (exfalso; clear h; simp_all; done)) (by first | ((try simp only [g1619, g1620]) <;> simp only [push_cast, seval]; done) | ((try simp only [g1619]); (try simp only [g1620]); simp only [push_cast, seval]; done) | (exfalso; clear h; simp_all; done)) rfl rfl rfl)
         ·refine rs 9 [] [] (by kernel_rfl) allP_nil ?_
          refine rf [(8, bS false)] [(0, .row 25 (Enc.cells p)), (1, .row 26 (Enc.cells regs)), (2, .row 26 (Enc.cells c2q2)), (3, .row 31 (Enc.cells c3q2)), (4, .row 31 (Enc.cells c4q4))] 5 (by kernel_rfl) ?_
          exact hK1618 () _ _ _ trivial (leSt_m [(0, 0), (1, 1), (2, 2), (3, 3), (4, 4)] [] (by (try simp only [g1619]) <;> simp only [push_cast, seval]) (by (try simp only [g1619]) <;> simp only [push_cast, seval]) rfl rfl rfl)
        ·dsimp only
         obtain rfl := Option.some.inj h
         refine ret_at (bS ((xa2 == 0) && ((n2 == 0) && ((c2q2.c0 == (default : (VArr 8)).c0) && ((c2q2.c1 == (default : (VArr 8)).c1) && ((c2q2.c2 == (default : (VArr 8)).c2) && ((c2q2.c3 == (default : (VArr 8)).c3) && ((c2q2.c4 == (default : (VArr 8)).c4) && ((c2q2.c5 == (default : (VArr 8)).c5) && ((c2q2.c6 == (default : (VArr 8)).c6) && ((c2q2.c7 == (default : (VArr 8)).c7) && true))))))))))) (by kernel_rfl) ?_
         exact ret_e [] [] (by simp only [push_cast, seval]) (by simp only [push_cast, seval]) rfl rfl rfl
       ·refine wk_id ?_
        refine seq_np ?_
        refine reg_f ?_
        refine rs 1 [] [] (by kernel_rfl) allP_nil ?_
        refine rf [(1, iS pc), (3, iS fuel), (4, .ptr 0 0), (6, .ptr 1 0), (11, iS xa2), (12, .ptr 2 0), (13, iS n2), (16, iS 0)] [(0, .row 25 (Enc.cells p)), (1, .row 26 (Enc.cells regs)), (2, .row 26 (Enc.cells c2q2)), (3, .row 31 (Enc.cells c3q2)), (4, .row 31 (Enc.cells c4q4))] 5 (by kernel_rfl) ?_
        refine wk_id ?_
        refine seq_np ?_
        refine block_np ?_
        refine loop_sx (S := Int × Int × (VArr 8)) (fun a => ([(1, iS a.1), (3, iS fuel), (4, .ptr 0 0), (6, .ptr 1 0), (11, iS xa2), (12, .ptr 2 0), (13, iS n2), (16, iS a.2.1)], [(0, .row 25 (Enc.cells p)), (1, .row 26 (Enc.cells a.2.2)), (2, .row 26 (Enc.cells c2q2))], 3)) h (leSt_m [(0, 0), (1, 1), (2, 2)] [] (by simp only [push_cast, seval]) (by simp only [push_cast, seval]) rfl rfl rfl) ?_
        rintro ⟨pc8, k7, c1q7⟩ o2 R2 h hr2 hn2 hx2 ht2
        try dsimp only at h hn2 ⊢
        unfold taskmilllaw_CodeRuns_l1 at h
        try dsimp only at h
        refine seq_np ?_
        refine chk_sx h (fun g1701 h => ?_)
        refine seq_cut (A := Unit) (fun _ => ([(1, iS pc8), (3, iS fuel), (4, .ptr 0 0), (6, .ptr 1 0), (11, iS xa2), (12, .ptr 2 0), (13, iS n2), (16, iS k7), (106, bS ((decide (k7 < fuel)) && ((decide (pc8 < ((p.Code.length : Nat) : Int))) && (decide ((ix p.Code pc8).Op ≤ 7)))))], [(0, .row 25 (Enc.cells p)), (1, .row 26 (Enc.cells c1q7)), (2, .row 26 (Enc.cells c2q2))], 3)) (fun _ => True) (fun K1697 hK1697 => ?_) (fun _ _ => ?_)
        ·refine reg_f ?_
         refine rs 4 [] [] (by kernel_rfl) allP_nil ?_
         refine run_split 91 (decide (k7 < fuel)) (.inl (by kernel_rfl)) (fun g1698 => ?_) (fun g1698 => ?_)
         ·refine rs 7 [] [] (by kernel_rfl) allP_nil ?_
          refine run_split 98 (decide (pc8 < ((p.Code.length : Nat) : Int))) (.inl (by kernel_rfl)) (fun g1699 => ?_) (fun g1699 => ?_)
          ·have k1700 : 0 ≤ pc8 ∧ pc8 < ((p.Code.length : Nat) : Int) := by have e := or_use g1701 (by first | ((try simp only [g1698, g1699]) <;> rfl) | ((try simp only [g1698]); (try simp only [g1699]); rfl) | (exfalso; clear h; simp_all; done)); first | simpa only [Bool.and_eq_true, decide_eq_true_eq, bne_iff_ne, ne_eq] using e | (simp at e ⊢; omega)
           refine rs 8 [none, none, none, some ⟨.iptr (fl p.Code) ((pc8).toNat * 3), [], 3, []⟩, none, some ⟨iS (ix p.Code pc8).Op, [], 3, []⟩] _ (by kernel_rfl) (allP_cons (ob_ld p.Code pc8 3 0 (((pc8).toNat * 3) + 0) k1700 rfl (by decide) (by first | rfl | omega) (dflS Tryd.prog 3) (iS (ix p.Code pc8).Op) rfl 3 []) (allP_cons (ob_ix_l p.Code 3 3 pc8 k1700) allP_nil)) ?_
           refine rf [(1, iS pc8), (3, iS fuel), (4, .ptr 0 0), (6, .ptr 1 0), (11, iS xa2), (12, .ptr 2 0), (13, iS n2), (16, iS k7), (106, bS (decide ((ix p.Code pc8).Op ≤ 7)))] [(0, .row 25 (Enc.cells p)), (1, .row 26 (Enc.cells c1q7)), (2, .row 26 (Enc.cells c2q2))] 3 (by kernel_rfl) ?_
           exact hK1697 () _ _ _ trivial (leSt_m [(0, 0), (1, 1), (2, 2)] [] (by first | ((try simp only [g1698, g1699]) <;> simp only [push_cast, seval]; done) | ((try simp only [g1698]); (try simp only [g1699]); simp only [push_cast, seval]; done) | (exfalso; clear h; simp_all; done)) (by first | ((try simp only [g1698, g1699]) <;> simp only [push_cast, seval]; done) | ((try simp only [g1698]); (try simp only [g1699]); simp only [push_cast, seval]; done) | (exfalso; clear h; simp_all; done)) rfl rfl rfl)
          ·refine rs 8 [] [] (by kernel_rfl) allP_nil ?_
           refine rf [(1, iS pc8), (3, iS fuel), (4, .ptr 0 0), (6, .ptr 1 0), (11, iS xa2), (12, .ptr 2 0), (13, iS n2), (16, iS k7), (106, bS false)] [(0, .row 25 (Enc.cells p)), (1, .row 26 (Enc.cells c1q7)), (2, .row 26 (Enc.cells c2q2))] 3 (by kernel_rfl) ?_
           exact hK1697 () _ _ _ trivial (leSt_m [(0, 0), (1, 1), (2, 2)] [] (by first | ((try simp only [g1698, g1699]) <;> simp only [push_cast, seval]; done) | ((try simp only [g1698]); (try simp only [g1699]); simp only [push_cast, seval]; done) | (exfalso; clear h; simp_all; done)) (by first | ((try simp only [g1698, g1699]) <;> simp only [push_cast, seval]; done) | ((try simp only [g1698]); (try simp only [g1699]); simp only [push_cast, seval]; done) | (exfalso; clear h; simp_all; done)) rfl rfl rfl)
         ·refine rs 15 [] [] (by kernel_rfl) allP_nil ?_
          refine rf [(1, iS pc8), (3, iS fuel), (4, .ptr 0 0), (6, .ptr 1 0), (11, iS xa2), (12, .ptr 2 0), (13, iS n2), (16, iS k7), (106, bS false)] [(0, .row 25 (Enc.cells p)), (1, .row 26 (Enc.cells c1q7)), (2, .row 26 (Enc.cells c2q2))] 3 (by kernel_rfl) ?_
          exact hK1697 () _ _ _ trivial (leSt_m [(0, 0), (1, 1), (2, 2)] [] (by (try simp only [g1698]) <;> simp only [push_cast, seval]) (by (try simp only [g1698]) <;> simp only [push_cast, seval]) rfl rfl rfl)
        ·dsimp only
         refine cond_sx h (by kernel_rfl) (fun g1713 h => ?_) (fun g1713 h => ?_)
         ·refine wk_id ?_
          refine block_np ?_
          refine chk_sx h (fun g1706 h => ?_)
          refine seq_np ?_
          refine reg_t ?_
          have k1705 : 0 ≤ pc8 ∧ pc8 < ((p.Code.length : Nat) : Int) := by first | simpa only [Bool.and_eq_true, decide_eq_true_eq, bne_iff_ne, ne_eq] using g1706 | (simp at g1706 ⊢; omega)
          refine rs 7 [none, none, none, some ⟨.iptr (fl p.Code) ((pc8).toNat * 3), [], 6, []⟩, some ⟨.agg (Enc.cells (ix p.Code pc8)), [], 7, []⟩] _ (by kernel_rfl) (allP_cons (ob_ldw p.Code pc8 3 ((pc8).toNat * 3) k1705 rfl (by first | rfl | omega) (Enc.cells (ix p.Code pc8)) rfl 7 []) (allP_cons (ob_ix_l p.Code 3 6 pc8 k1705) allP_nil)) ?_
          obtain ⟨r1707, hr1707, h⟩ := bind_sx h
          refine run_call 15 [.agg (Enc.cells (ix p.Code pc8)), iS pc8, .agg (Enc.cells c1q7)] (some 115) (by kernel_rfl) ?_
          refine callE_0 (taskmillref_Did_spec (ix p.Code pc8) pc8 c1q7 r1707 hr1707) (by simp only [push_cast, seval]) (by simp only [push_cast, seval]) ?_
          refine back_t ?_
          refine rs 5 [] [] (by kernel_rfl) allP_nil ?_
          refine rt [(1, iS r1707.1), (3, iS fuel), (4, .ptr 0 0), (6, .ptr 1 0), (11, iS xa2), (12, .ptr 2 0), (13, iS n2), (16, iS k7)] [(0, .row 25 (Enc.cells p)), (1, .row 26 (Enc.cells r1707.2)), (2, .row 26 (Enc.cells c2q2))] 16 follows (by kernel_rfl) ?_
          refine wk_id ?_
          refine reg_f ?_
          refine rs 3 [] [] (by kernel_rfl) allP_nil ?_
          refine rf [(1, iS r1707.1), (3, iS fuel), (4, .ptr 0 0), (6, .ptr 1 0), (11, iS xa2), (12, .ptr 2 0), (13, iS n2), (16, iS (IntKind.i64.wrap (k7 + 1)))] [(0, .row 25 (Enc.cells p)), (1, .row 26 (Enc.cells r1707.2)), (2, .row 26 (Enc.cells c2q2))] 16 (by kernel_rfl) ?_
          refine wk_id ?_
          exact hn2 (r1707.1, (IntKind.i64.wrap (k7 + 1)), r1707.2) _ _ _ (Option.some.inj h).symm (leSt_m [(0, 0), (1, 1), (2, 2)] [] (by simp only [push_cast, seval]) (by simp only [push_cast, seval]) rfl rfl rfl)
         ·change R2 (.exit 0) _ _ _
          refine ex_cast hx2 (id := 0) ?_
          obtain ⟨r0, h, e0⟩ := map_sx h
          have e1 := hr2 r0 e0.symm
          subst r0
          refine wk_id ?_
          refine wk_id ?_
          refine seq_cut (A := Unit) (fun _ => ([(8, bS ((xa2 == pc8) && (((c2q2.c0 == c1q7.c0) && ((c2q2.c1 == c1q7.c1) && ((c2q2.c2 == c1q7.c2) && ((c2q2.c3 == c1q7.c3) && ((c2q2.c4 == c1q7.c4) && ((c2q2.c5 == c1q7.c5) && ((c2q2.c6 == c1q7.c6) && ((c2q2.c7 == c1q7.c7) && true)))))))) && (n2 == k7))))], [(0, .row 25 (Enc.cells p)), (1, .row 26 (Enc.cells c1q7)), (2, .row 26 (Enc.cells c2q2))], 3)) (fun _ => True) (fun K1710 hK1710 => ?_) (fun _ _ => ?_)
          ·refine reg_f ?_
           refine rs 4 [] [] (by kernel_rfl) allP_nil ?_
           refine run_split 123 (xa2 == pc8) (.inl (by kernel_rfl)) (fun g1711 => ?_) (fun g1711 => ?_)
           ·refine rs 5 [] [] (by kernel_rfl) allP_nil ?_
            refine run_split 128 ((c2q2.c0 == c1q7.c0) && ((c2q2.c1 == c1q7.c1) && ((c2q2.c2 == c1q7.c2) && ((c2q2.c3 == c1q7.c3) && ((c2q2.c4 == c1q7.c4) && ((c2q2.c5 == c1q7.c5) && ((c2q2.c6 == c1q7.c6) && ((c2q2.c7 == c1q7.c7) && true)))))))) (.inl (by kernel_rfl)) (fun g1712 => ?_) (fun g1712 => ?_)
            ·refine rs 5 [] [] (by kernel_rfl) allP_nil ?_
             refine rf [(8, bS (n2 == k7))] [(0, .row 25 (Enc.cells p)), (1, .row 26 (Enc.cells c1q7)), (2, .row 26 (Enc.cells c2q2))] 3 (by kernel_rfl) ?_
             exact hK1710 () _ _ _ trivial (leSt_m [(0, 0), (1, 1), (2, 2)] [] (by first | ((try simp only [g1711, g1712]) <;> simp only [push_cast, seval]; done) | ((try simp only [g1711]); (try simp only [g1712]); simp only [push_cast, seval]; done) | (exfalso; clear h; simp_all; done)) (by first | ((try simp only [g1711, g1712]) <;> simp only [push_cast, seval]; done) | ((try simp only [g1711]); (try simp only [g1712]); simp only [push_cast, seval]; done) | (exfalso; clear h; simp_all; done)) rfl rfl rfl)
            ·refine rs 5 [] [] (by kernel_rfl) allP_nil ?_
             refine rf [(8, bS false)] [(0, .row 25 (Enc.cells p)), (1, .row 26 (Enc.cells c1q7)), (2, .row 26 (Enc.cells c2q2))] 3 (by kernel_rfl) ?_
             exact hK1710 () _ _ _ trivial (leSt_m [(0, 0), (1, 1), (2, 2)] [] (by first | ((try simp only [g1711, g1712]) <;> simp only [push_cast, seval]; done) | ((try simp only [g1711]); (try simp only [g1712]); simp only [push_cast, seval]; done) | (exfalso; clear h; simp_all; done)) (by first | ((try simp only [g1711, g1712]) <;> simp only [push_cast, seval]; done) | ((try simp only [g1711]); (try simp only [g1712]); simp only [push_cast, seval]; done) | (exfalso; clear h; simp_all; done)) rfl rfl rfl)
           ·refine rs 10 [] [] (by kernel_rfl) allP_nil ?_
            refine rf [(8, bS false)] [(0, .row 25 (Enc.cells p)), (1, .row 26 (Enc.cells c1q7)), (2, .row 26 (Enc.cells c2q2))] 3 (by kernel_rfl) ?_
            exact hK1710 () _ _ _ trivial (leSt_m [(0, 0), (1, 1), (2, 2)] [] (by (try simp only [g1711]) <;> simp only [push_cast, seval]) (by (try simp only [g1711]) <;> simp only [push_cast, seval]) rfl rfl rfl)
          ·dsimp only
           obtain rfl := Option.some.inj h
           refine ret_at (bS ((xa2 == pc8) && (((c2q2.c0 == c1q7.c0) && ((c2q2.c1 == c1q7.c1) && ((c2q2.c2 == c1q7.c2) && ((c2q2.c3 == c1q7.c3) && ((c2q2.c4 == c1q7.c4) && ((c2q2.c5 == c1q7.c5) && ((c2q2.c6 == c1q7.c6) && ((c2q2.c7 == c1q7.c7) && true)))))))) && (n2 == k7)))) (by kernel_rfl) ?_
           exact ret_e [] [] (by simp only [push_cast, seval]) (by simp only [push_cast, seval]) rfl rfl rfl

end Go.Proofs.YtdckaaiidagodaaDoor
