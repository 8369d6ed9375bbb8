/-
 What laws of the chapter code compute, and lemmas on it.
 No conditions.
-/
import Derived.Test.YtdckaaiidagodaaDoorProg
import Derived.Test.YtdckaaiidagodaaDoorcodeG
set_option linter.unusedSimpArgs false
set_option linter.unusedVariables false
set_option linter.unusedSectionVars false
namespace Go.Proofs.YtdckaaiidagodaaDoor
open Go Go.Sx
attribute [local irreducible] Wk RunAt
theorem follows:Tryd.prog.follows .mixedOrders = true:=by kernel_rfl
attribute [local bitvec_to_nat] leL_flD renL_flD leL_flP renL_flP leC_famP leC_famP0 flP_0 ren_famP noN_eq lenP_same lenP_one lenP_app lenP_set lenP_famP Nat.le_refl List.length_set leC_mpP leC_mpP1 mapLe_eq mapLe1_eq ren_mpP ren_mpP1
theorem rk {P:Program} {fr:Fr} {hp:Hp} {nx:Nat} {ops:Array Oper} {d:Bool} {l:List Oper} {acc:List Nms} {K:Fr→Hp→Nat→Prop} (n:Nat) (k:RunAt P d ops (List.drop n l) (getSeg (evalS P d ops n l [] ⟨fr,hp,nx,acc,[]⟩)).fr (getSeg (evalS P d ops n l [] ⟨fr,hp,nx,acc,[]⟩)).hp (getSeg (evalS P d ops n l [] ⟨fr,hp,nx,acc,[]⟩)).nx (getSeg (evalS P d ops n l [] ⟨fr,hp,nx,acc,[]⟩)).acc K) (h:(evalS P d ops n l [] ⟨fr,hp,nx,acc,[]⟩).map (·.obs) = some []:=by kernel_rfl):RunAt P d ops l fr hp nx acc K:=rs n [] [] h allP_nil k
set_option maxRecDepth 100000 in
set_option maxHeartbeats 200000000 in
theorem cc_fresh_spec (b:Nat) (w:World) (h0:w.cell? ⟨b,0,none⟩ = some (.pointer none)) (hsh:w.shape? b = some (67,2)) (hfz:w.frozen? ⟨b,0,none⟩ = false) :
  Calls Tryd.prog 37 #[.pointer (some ⟨b,0,none⟩)] w fun e w'=>e = .returned (.tuple #[])∧w' = w.setCell ⟨b,0,none⟩ (.pointer (some ⟨b,0,none⟩)):=by
 have mixed:=follows
 obtain ⟨j,hj,hjs⟩:∃ j,Tryd.prog.info? 67 = some j∧j.size = 2:=Option.map_eq_some_iff.1 (show (Tryd.prog.info? 67).map (·.size) = some 2 by kernel_rfl)
 go_enter Tryd.func37,Tryd.ntmps37
 go_wp2
 rw [Lib.run_to_unsafe w ⟨b,0,none⟩ (t:=67) (by kernel_rfl) (by kernel_rfl) hj (by rw [hjs]; decide) hsh (Nat.zero_lt_succ 1)]
 simp only [Result.andThen]
 rw [Oper.upon_value]
 go_wp2
 rw [run_callFunc_extern Tryd.func46 (by kernel_rfl) (by kernel_rfl) (by kernel_rfl) (e:=Extern.AbiNoEscape.same) (by kernel_rfl)]
 rw [Lib.run_noEscape]
 simp only [Result.andThen]
 rw [Oper.upon_value]
 go_wp2
 rw [Lib.run_from_unsafe w ⟨b,0,none⟩ (u:=67) (by kernel_rfl) (by kernel_rfl) hj hsh (by kernel_rfl)]
 simp only [Result.andThen]
 rw [Oper.upon_value]
 go_wp2
 go_end0
 exact ⟨rfl,rfl⟩
set_option maxRecDepth 100000 in
set_option maxHeartbeats 1000000 in
theorem cc_used_spec (b:Nat) (w:World) (h0:w.cell? ⟨b,0,none⟩ = some (.pointer (some ⟨b,0,none⟩))) :
  Calls Tryd.prog 37 #[.pointer (some ⟨b,0,none⟩)] w fun e w'=>e = .returned (.tuple #[])∧w' = w:=by
 have mixed:=follows
 obtain ⟨j,hj,hjs⟩:∃ j,Tryd.prog.info? 67 = some j∧j.size = 2:=Option.map_eq_some_iff.1 (show (Tryd.prog.info? 67).map (·.size) = some 2 by kernel_rfl)
 go_enter Tryd.func37,Tryd.ntmps37
 go_wp2
 rw [Lib.run_neq_ptr_same w _ (te:=67) (by kernel_rfl) hj]
 go_wp2
 go_end0
 exact ⟨rfl,rfl⟩
theorem cc_ok_spec:CallOk Tryd.prog (ccHook 37 67):=copyCheck_ok (fn_of Tryd.func37 (by kernel_rfl) (by kernel_rfl)) cc_fresh_spec cc_used_spec
theorem taskmilllaw_codeBegun_spec (r:Bool) (h:taskmilllaw_codeBegun = some r):SpecW Tryd.prog 7 [] [] 0 (fun x h n=>x = bS r∧h = []∧n = 0):=by
 unfold taskmilllaw_codeBegun at h
 obtain rfl:=Option.some.inj h
 exact closed_callH follows cc_ok_spec 10000 1000 (by kernel_rfl)

set_option maxRecDepth 100000 in
set_option maxHeartbeats 200000000 in
theorem taskmilllaw_vastProgram_spec (p:GProgram) (r:Bool) (h:taskmilllaw_vastProgram p = some r):SpecW Tryd.prog 8 [.agg (Enc.cells p)] [] 0 (fun x h n=>x = bS r∧h = []∧n = 0):=by
 unfold taskmilllaw_vastProgram at h
 refine spec_of (draw_ok _) Tryd.func8 rfl (by decide) rfl (by kernel_rfl) ?_
 refine seq_np ?_
 refine reg_f ?_
 refine rk 2 ?_
 refine rf [(1,.ptr 0 0)] [(0,.row 25 (Enc.cells p))] 1 (by kernel_rfl) ?_
 refine wk_id ?_
 refine seq_cut (A:=Unit) (fun _=>([(2,bS ((decide ((2000:Int) < (p.Code.length:Int))) || (decide ((2000:Int) < (p.Pipes.length:Int)))))],[(0,.row 25 (Enc.cells p))],1)) (fun _=>True) (fun K5 hK5=>?_) (fun _ _=>?_)
 ·refine reg_f ?_
  refine rk 5 ?_
  refine run_split 7 (decide ((2000:Int) < (p.Code.length:Int))) (.inl (by kernel_rfl)) (fun g6=>?_) (fun g6=>?_)
  ·refine rk 6 ?_
   refine rf [(2,bS true)] [(0,.row 25 (Enc.cells p))] 1 (by kernel_rfl) ?_
   exact hK5 () _ _ _ trivial (leSt_m [(0,0)] [] (by (try simp only [g6]) <;> simp only [push_cast,seval]) (by (try simp only [g6]) <;> simp only [push_cast,seval]) rfl rfl rfl)
  ·refine rk 6 ?_
   refine rf [(2,bS (decide ((2000:Int) < (p.Pipes.length:Int))))] [(0,.row 25 (Enc.cells p))] 1 (by kernel_rfl) ?_
   exact hK5 () _ _ _ trivial (leSt_m [(0,0)] [] (by (try simp only [g6]) <;> simp only [push_cast,seval]) (by (try simp only [g6]) <;> simp only [push_cast,seval]) rfl rfl rfl)
 ·dsimp only
  obtain rfl:=Option.some.inj h
  refine ret_at (bS ((decide ((2000:Int) < (p.Code.length:Int))) || (decide ((2000:Int) < (p.Pipes.length:Int))))) (by kernel_rfl) ?_
  exact ret_e [] [] (by simp only [push_cast,seval]) (by simp only [push_cast,seval]) rfl rfl rfl

set_option maxRecDepth 100000 in
set_option maxHeartbeats 200000000 in
theorem taskmilllaw_ownCode_spec (l:(List GInstr)) (r:(List GInstr)) (h:taskmilllaw_ownCode l = some r):SpecW Tryd.prog 21 [.sl l.length (fl l)] [] 0 (fun x h n=>x = .own 0 0 r.length∧h = [(0,.row 38 (fl r))]∧n = 1):=by
 unfold taskmilllaw_ownCode at h
 refine spec_of (draw_ok _) Tryd.func21 rfl (by decide) rfl (by kernel_rfl) ?_
 refine seq_np ?_
 refine reg_f ?_
 refine rk 1 ?_
 refine rf [(0,.sl l.length (fl l))] [] 0 (by kernel_rfl) ?_
 refine wk_id ?_
 refine chk_sx h (fun g17 h=>?_)
 refine seq_np ?_
 refine reg_f ?_
 have k16:l.length * 24≤140737488355328:=by first | simpa only [Bool.and_eq_true,decide_eq_true_eq,bne_iff_ne,ne_eq] using g17 | (simp at g17 ⊢; omega) | simp
 refine rs 3 [none,some ⟨.own 0 0 l.length,[(0,.row 38 (fl l))],1,[]⟩] _ (by kernel_rfl) (allP_cons (ob_app0 (P:=Tryd.prog) l 3 24 rfl (fl l) l.length rfl rfl ((fl l).length = l.length * 3) (app_sl l 3 rfl) 38 (by kernel_rfl) (by decide) k16 0 []) allP_nil) ?_
 refine rf [(2,.own 0 0 l.length)] [(0,.row 38 (fl l))] 1 (by kernel_rfl) ?_
 refine wk_id ?_
 obtain rfl:=Option.some.inj h
 refine ret_at (.own 0 0 l.length) (by kernel_rfl) ?_
 exact ret_e [(0,0)] [] (by simp only [push_cast,seval]) (by simp only [push_cast,seval]) rfl rfl rfl

set_option maxRecDepth 100000 in
set_option maxHeartbeats 200000000 in
theorem taskmilllaw_own_spec (l:(List Int)) (r:(List Int)) (h:taskmilllaw_own l = some r):SpecW Tryd.prog 22 [.sl l.length (fl l)] [] 0 (fun x h n=>x = .own 0 0 r.length∧h = [(0,.row 3 (fl r))]∧n = 1):=by
 unfold taskmilllaw_own at h
 refine spec_of (draw_ok _) Tryd.func22 rfl (by decide) rfl (by kernel_rfl) ?_
 refine seq_np ?_
 refine reg_f ?_
 refine rk 1 ?_
 refine rf [(0,.sl l.length (fl l))] [] 0 (by kernel_rfl) ?_
 refine wk_id ?_
 refine chk_sx h (fun g24 h=>?_)
 refine seq_np ?_
 refine reg_f ?_
 have k23:l.length * 8≤140737488355328:=by first | simpa only [Bool.and_eq_true,decide_eq_true_eq,bne_iff_ne,ne_eq] using g24 | (simp at g24 ⊢; omega) | simp
 refine rs 3 [none,some ⟨.own 0 0 l.length,[(0,.row 3 (fl l))],1,[]⟩] _ (by kernel_rfl) (allP_cons (ob_app0 (P:=Tryd.prog) l 1 8 rfl (fl l) l.length rfl rfl ((fl l).length = l.length * 1) (app_sl l 1 rfl) 3 (by kernel_rfl) (by decide) k23 0 []) allP_nil) ?_
 refine rf [(2,.own 0 0 l.length)] [(0,.row 3 (fl l))] 1 (by kernel_rfl) ?_
 refine wk_id ?_
 obtain rfl:=Option.some.inj h
 refine ret_at (.own 0 0 l.length) (by kernel_rfl) ?_
 exact ret_e [(0,0)] [] (by simp only [push_cast,seval]) (by simp only [push_cast,seval]) rfl rfl rfl

set_option maxRecDepth 100000 in
set_option maxHeartbeats 200000000 in
theorem taskmilllaw_ownProgram_spec (p:GProgram) (r:Int×Int×Int×(List GInstr)×(List Int)) (h:taskmilllaw_ownProgram p = some r):SpecW Tryd.prog 9 [.agg (Enc.cells p)] [] 0 (fun x h n=>x = .agg [.own 0 0 r.2.2.2.1.length,iS r.1,.own 1 0 r.2.2.2.2.length,iS r.2.1,iS r.2.2.1]∧h = [(0,.row 38 (fl r.2.2.2.1)),(1,.row 3 (fl r.2.2.2.2))]∧n = 2):=by
 unfold taskmilllaw_ownProgram at h
 refine spec_of (draw_ok _) Tryd.func9 rfl (by decide) rfl (by kernel_rfl) ?_
 refine seq_np ?_
 refine reg_f ?_
 refine rk 2 ?_
 refine rf [(1,.ptr 0 0),(2,.ptr 1 0)] [(0,.row 25 (Enc.cells p)),(1,.row 25 [.v (.slice none 0 0),iS 0,.v (.slice none 0 0),iS 0,iS 0])] 2 (by kernel_rfl) ?_
 refine wk_id ?_
 refine seq_np ?_
 refine reg_t ?_
 refine rk 2 ?_
 obtain ⟨r28,hr28,h⟩:=bind_sx h
 refine call_x (taskmilllaw_ownCode_spec p.Code r28 hr28) (args:=[.sl p.Code.length (fl p.Code)]) (dst:=(some 5)) (by kernel_rfl) [(0,.row 25 (Enc.cells p)),(1,.row 25 [.v (.slice none 0 0),iS 0,.v (.slice none 0 0),iS 0,iS 0])] 4 (by kernel_rfl) [] [] (.own 4 0 r28.length) [(4,.row 38 (fl r28))] (by simp only [push_cast,seval]) (by simp only [push_cast,seval]) (by kernel_rfl) (.inl rfl) (by simp only [push_cast,seval]) (by simp only [push_cast,seval]) ?_
 refine rk 4 ?_
 obtain ⟨r29,hr29,h⟩:=bind_sx h
 refine call_x (taskmilllaw_own_spec p.Pipes r29 hr29) (args:=[.sl p.Pipes.length (fl p.Pipes)]) (dst:=(some 10)) (by kernel_rfl) [(0,.row 25 (Enc.cells p)),(1,.row 25 [.v (.slice none 0 0),iS 0,.v (.slice none 0 0),iS 0,iS 0]),(4,.row 38 (fl r28))] 10 (by kernel_rfl) [] [] (.own 10 0 r29.length) [(10,.row 3 (fl r29))] (by simp only [push_cast,seval]) (by simp only [push_cast,seval]) (by kernel_rfl) (.inl rfl) (by simp only [push_cast,seval]) (by simp only [push_cast,seval]) ?_
 refine rk 6 ?_
 refine rt [(2,.ptr 1 0)] [(0,.row 25 (Enc.cells p)),(1,.row 25 [.own 4 0 r28.length,iS p.Cells,.own 10 0 r29.length,iS p.Locks,iS p.Groups]),(4,.row 38 (fl r28)),(10,.row 3 (fl r29))] 18 follows (by kernel_rfl) ?_
 refine wk_id ?_
 obtain rfl:=Option.some.inj h
 refine ret_at (.agg [.own 4 0 r28.length,iS p.Cells,.own 10 0 r29.length,iS p.Locks,iS p.Groups]) (by kernel_rfl) ?_
 exact ret_e [(0,4),(1,10)] [] (by simp only [push_cast,seval]) (by simp only [push_cast,seval]) rfl rfl rfl

set_option maxRecDepth 100000 in
set_option maxHeartbeats 200000000 in
theorem code_fault_spec (code:Int) (xat:Int) (r:Fault) (h:code_fault code xat = some r):SpecW Tryd.prog 23 [iS code,iS xat] [] 0 (fun x h n=>x = .agg (Enc.cells r)∧h = []∧n = 0):=by
 unfold code_fault at h
 refine spec_of (draw_ok _) Tryd.func23 rfl (by decide) rfl (by kernel_rfl) ?_
 refine seq_np ?_
 refine reg_f ?_
 refine rk 1 ?_
 refine rf [(0,iS code),(1,iS xat),(4,.ptr 0 0)] [(0,.row 31 [iS 0,iS 0])] 1 (by kernel_rfl) ?_
 refine wk_id ?_
 refine seq_np ?_
 refine reg_f ?_
 refine rk 4 ?_
 refine rf [(4,.ptr 0 0)] [(0,.row 31 [iS code,iS xat])] 1 (by kernel_rfl) ?_
 refine wk_id ?_
 obtain rfl:=Option.some.inj h
 refine ret_at (.agg [iS code,iS xat]) (by kernel_rfl) ?_
 exact ret_e [] [] (by simp only [push_cast,seval]) (by simp only [push_cast,seval]) rfl rfl rfl

set_option maxRecDepth 100000 in
set_option maxHeartbeats 200000000 in
theorem code_fits_spec (p:GProgram) (k:Int) (x:Int) (r:Bool) (h:code_fits p k x = some r):SpecW Tryd.prog 24 [.agg (Enc.cells p),.v (.int .u8 k),iS x] [] 0 (fun x h n=>x = bS r∧h = []∧n = 0):=by
 unfold code_fits at h
 refine spec_of (draw_ok _) Tryd.func24 rfl (by decide) rfl (by kernel_rfl) ?_
 refine seq_np ?_
 refine reg_f ?_
 refine rk 2 ?_
 refine rf [(1,.v (.int .u8 k)),(2,iS x),(3,.ptr 0 0)] [(0,.row 25 (Enc.cells p))] 1 (by kernel_rfl) ?_
 refine wk_id ?_
 refine seq_np ?_
 refine reg_f ?_
 refine rs 23 [none,some ⟨.any,[(1,.map [(.int .u8 114,iS 8)])],2,[1]⟩,none,none,none,some ⟨.any,[(1,.map [(.int .u8 114,iS 8),(.int .u8 99,iS (p.Code.length:Int))])],2,[1]⟩,none,none,some ⟨.any,[(1,.map [(.int .u8 114,iS 8),(.int .u8 99,iS (p.Code.length:Int)),(.int .u8 109,iS p.Cells)])],2,[1]⟩,none,none,none,some ⟨.any,[(1,.map [(.int .u8 114,iS 8),(.int .u8 99,iS (p.Code.length:Int)),(.int .u8 109,iS p.Cells),(.int .u8 112,iS (p.Pipes.length:Int))])],2,[1]⟩,none,none,some ⟨.any,[(1,.map [(.int .u8 114,iS 8),(.int .u8 99,iS (p.Code.length:Int)),(.int .u8 109,iS p.Cells),(.int .u8 112,iS (p.Pipes.length:Int)),(.int .u8 108,iS p.Locks)])],2,[1]⟩,none,none,some ⟨.any,[(1,.map [(.int .u8 114,iS 8),(.int .u8 99,iS (p.Code.length:Int)),(.int .u8 109,iS p.Cells),(.int .u8 112,iS (p.Pipes.length:Int)),(.int .u8 108,iS p.Locks),(.int .u8 103,iS p.Groups)])],2,[1]⟩,some ⟨.any,[(1,.map [(.int .u8 114,iS 8),(.int .u8 99,iS (p.Code.length:Int)),(.int .u8 109,iS p.Cells),(.int .u8 112,iS (p.Pipes.length:Int)),(.int .u8 108,iS p.Locks),(.int .u8 103,iS p.Groups),(.int .u8 107,iS 2)])],2,[1]⟩,some ⟨.any,[(1,.map [(.int .u8 114,iS 8),(.int .u8 99,iS (p.Code.length:Int)),(.int .u8 109,iS p.Cells),(.int .u8 112,iS (p.Pipes.length:Int)),(.int .u8 108,iS p.Locks),(.int .u8 103,iS p.Groups),(.int .u8 107,iS 2),(.int .u8 45,iS 1)])],2,[1]⟩] _ (by kernel_rfl) (allP_cons (ob_insL (.int .u8) (.int .u8 45) (iS 1) [(.int .u8 114,iS 8),(.int .u8 99,iS (p.Code.length:Int)),(.int .u8 109,iS p.Cells),(.int .u8 112,iS (p.Pipes.length:Int)),(.int .u8 108,iS p.Locks),(.int .u8 103,iS p.Groups),(.int .u8 107,iS 2)] [(.int .u8 114,iS 8),(.int .u8 99,iS (p.Code.length:Int)),(.int .u8 109,iS p.Cells),(.int .u8 112,iS (p.Pipes.length:Int)),(.int .u8 108,iS p.Locks),(.int .u8 103,iS p.Groups),(.int .u8 107,iS 2),(.int .u8 45,iS 1)] 1 2 rfl rfl rfl) (allP_cons (ob_insL (.int .u8) (.int .u8 107) (iS 2) [(.int .u8 114,iS 8),(.int .u8 99,iS (p.Code.length:Int)),(.int .u8 109,iS p.Cells),(.int .u8 112,iS (p.Pipes.length:Int)),(.int .u8 108,iS p.Locks),(.int .u8 103,iS p.Groups)] [(.int .u8 114,iS 8),(.int .u8 99,iS (p.Code.length:Int)),(.int .u8 109,iS p.Cells),(.int .u8 112,iS (p.Pipes.length:Int)),(.int .u8 108,iS p.Locks),(.int .u8 103,iS p.Groups),(.int .u8 107,iS 2)] 1 2 rfl rfl rfl) (allP_cons (ob_insL (.int .u8) (.int .u8 103) (iS p.Groups) [(.int .u8 114,iS 8),(.int .u8 99,iS (p.Code.length:Int)),(.int .u8 109,iS p.Cells),(.int .u8 112,iS (p.Pipes.length:Int)),(.int .u8 108,iS p.Locks)] [(.int .u8 114,iS 8),(.int .u8 99,iS (p.Code.length:Int)),(.int .u8 109,iS p.Cells),(.int .u8 112,iS (p.Pipes.length:Int)),(.int .u8 108,iS p.Locks),(.int .u8 103,iS p.Groups)] 1 2 rfl rfl rfl) (allP_cons (ob_insL (.int .u8) (.int .u8 108) (iS p.Locks) [(.int .u8 114,iS 8),(.int .u8 99,iS (p.Code.length:Int)),(.int .u8 109,iS p.Cells),(.int .u8 112,iS (p.Pipes.length:Int))] [(.int .u8 114,iS 8),(.int .u8 99,iS (p.Code.length:Int)),(.int .u8 109,iS p.Cells),(.int .u8 112,iS (p.Pipes.length:Int)),(.int .u8 108,iS p.Locks)] 1 2 rfl rfl rfl) (allP_cons (ob_insL (.int .u8) (.int .u8 112) (iS (p.Pipes.length:Int)) [(.int .u8 114,iS 8),(.int .u8 99,iS (p.Code.length:Int)),(.int .u8 109,iS p.Cells)] [(.int .u8 114,iS 8),(.int .u8 99,iS (p.Code.length:Int)),(.int .u8 109,iS p.Cells),(.int .u8 112,iS (p.Pipes.length:Int))] 1 2 rfl rfl rfl) (allP_cons (ob_insL (.int .u8) (.int .u8 109) (iS p.Cells) [(.int .u8 114,iS 8),(.int .u8 99,iS (p.Code.length:Int))] [(.int .u8 114,iS 8),(.int .u8 99,iS (p.Code.length:Int)),(.int .u8 109,iS p.Cells)] 1 2 rfl rfl rfl) (allP_cons (ob_insL (.int .u8) (.int .u8 99) (iS (p.Code.length:Int)) [(.int .u8 114,iS 8)] [(.int .u8 114,iS 8),(.int .u8 99,iS (p.Code.length:Int))] 1 2 rfl rfl rfl) (allP_cons (ob_insL (.int .u8) (.int .u8 114) (iS 8) [] [(.int .u8 114,iS 8)] 1 2 rfl rfl rfl) allP_nil)))))))) ?_
 refine rf [(1,.v (.int .u8 k)),(2,iS x),(7,.mp 1)] [(0,.row 25 (Enc.cells p)),(1,.map [(.int .u8 114,iS 8),(.int .u8 99,iS (p.Code.length:Int)),(.int .u8 109,iS p.Cells),(.int .u8 112,iS (p.Pipes.length:Int)),(.int .u8 108,iS p.Locks),(.int .u8 103,iS p.Groups),(.int .u8 107,iS 2),(.int .u8 45,iS 1)])] 2 (by kernel_rfl) ?_
 refine wk_id ?_
 refine seq_np ?_
 refine seq_np ?_
 refine reg_f ?_
 refine rk 2 ?_
 refine rf [(1,.v (.int .u8 k)),(2,iS x),(7,.mp 1),(23,bS (k == 110))] [(0,.row 25 (Enc.cells p)),(1,.map [(.int .u8 114,iS 8),(.int .u8 99,iS (p.Code.length:Int)),(.int .u8 109,iS p.Cells),(.int .u8 112,iS (p.Pipes.length:Int)),(.int .u8 108,iS p.Locks),(.int .u8 103,iS p.Groups),(.int .u8 107,iS 2),(.int .u8 45,iS 1)])] 2 (by kernel_rfl) ?_
 refine wk_id ?_
 refine cond_sx h (by kernel_rfl) (fun g72 h=>?_) (fun g72 h=>?_)
 ·refine seq_np ?_
  refine reg_f ?_
  refine rk 1 ?_
  refine rf [(6,bS true)] [(0,.row 25 (Enc.cells p)),(1,.map [(.int .u8 114,iS 8),(.int .u8 99,iS (p.Code.length:Int)),(.int .u8 109,iS p.Cells),(.int .u8 112,iS (p.Pipes.length:Int)),(.int .u8 108,iS p.Locks),(.int .u8 103,iS p.Groups),(.int .u8 107,iS 2),(.int .u8 45,iS 1)])] 2 (by kernel_rfl) ?_
  refine wk_id ?_
  obtain rfl:=Option.some.inj h
  refine ret_at (bS true) (by kernel_rfl) ?_
  exact ret_e [] [] (by simp only [push_cast,seval]) (by simp only [push_cast,seval]) rfl rfl rfl
 ·refine wk_id ?_
  refine seq_cut (A:=Unit) (fun _=>([(6,bS ((decide ((0:Int)≤x)) && (decide (x < (miGet [(114,8),(99,(p.Code.length:Int)),(109,p.Cells),(112,(p.Pipes.length:Int)),(108,p.Locks),(103,p.Groups),(107,2),(45,1)] k)))))],[(0,.row 25 (Enc.cells p)),(1,.map [(.int .u8 114,iS 8),(.int .u8 99,iS (p.Code.length:Int)),(.int .u8 109,iS p.Cells),(.int .u8 112,iS (p.Pipes.length:Int)),(.int .u8 108,iS p.Locks),(.int .u8 103,iS p.Groups),(.int .u8 107,iS 2),(.int .u8 45,iS 1)])],2)) (fun _=>True) (fun K70 hK70=>?_) (fun _ _=>?_)
  ·refine reg_f ?_
   refine rk 3 ?_
   refine run_split 26 (decide ((0:Int)≤x)) (.inl (by kernel_rfl)) (fun g71=>?_) (fun g71=>?_)
   ·refine rs 7 [none,none,none,some ⟨iS (miGet [(114,8),(99,(p.Code.length:Int)),(109,p.Cells),(112,(p.Pipes.length:Int)),(108,p.Locks),(103,p.Groups),(107,2),(45,1)] k),[],2,[1]⟩] _ (by kernel_rfl) (allP_cons (ob_lookK .u8 k [(114,8),(99,(p.Code.length:Int)),(109,p.Cells),(112,(p.Pipes.length:Int)),(108,p.Locks),(103,p.Groups),(107,2),(45,1)] 1 2) allP_nil) ?_
    refine rf [(6,bS (decide (x < (miGet [(114,8),(99,(p.Code.length:Int)),(109,p.Cells),(112,(p.Pipes.length:Int)),(108,p.Locks),(103,p.Groups),(107,2),(45,1)] k))))] [(0,.row 25 (Enc.cells p)),(1,.map [(.int .u8 114,iS 8),(.int .u8 99,iS (p.Code.length:Int)),(.int .u8 109,iS p.Cells),(.int .u8 112,iS (p.Pipes.length:Int)),(.int .u8 108,iS p.Locks),(.int .u8 103,iS p.Groups),(.int .u8 107,iS 2),(.int .u8 45,iS 1)])] 2 (by kernel_rfl) ?_
    exact hK70 () _ _ _ trivial (leSt_m [(0,0),(1,1)] [] (by (try simp only [g71]) <;> simp only [push_cast,seval]) (by (try simp only [g71]) <;> simp only [push_cast,seval]) rfl rfl rfl)
   ·refine rk 7 ?_
    refine rf [(6,bS false)] [(0,.row 25 (Enc.cells p)),(1,.map [(.int .u8 114,iS 8),(.int .u8 99,iS (p.Code.length:Int)),(.int .u8 109,iS p.Cells),(.int .u8 112,iS (p.Pipes.length:Int)),(.int .u8 108,iS p.Locks),(.int .u8 103,iS p.Groups),(.int .u8 107,iS 2),(.int .u8 45,iS 1)])] 2 (by kernel_rfl) ?_
    exact hK70 () _ _ _ trivial (leSt_m [(0,0),(1,1)] [] (by (try simp only [g71]) <;> simp only [push_cast,seval]) (by (try simp only [g71]) <;> simp only [push_cast,seval]) rfl rfl rfl)
  ·dsimp only
   obtain rfl:=Option.some.inj h
   refine ret_at (bS ((decide ((0:Int)≤x)) && (decide (x < (miGet [(114,8),(99,(p.Code.length:Int)),(109,p.Cells),(112,(p.Pipes.length:Int)),(108,p.Locks),(103,p.Groups),(107,2),(45,1)] k))))) (by kernel_rfl) ?_
   exact ret_e [] [] (by simp only [push_cast,seval]) (by simp only [push_cast,seval]) rfl rfl rfl

set_option maxRecDepth 100000 in
set_option maxHeartbeats 200000000 in
theorem code_Check_spec (p:GProgram) (r:Fault) (h:code_Check p = some r):SpecW Tryd.prog 10 [.agg (Enc.cells p)] [] 0 (fun x h n=>x = .agg (Enc.cells r)∧h = []∧n = 0):=by
 unfold code_Check at h
 refine spec_of (draw_ok _) Tryd.func10 rfl (by decide) rfl (by kernel_rfl) ?_
 refine seq_np ?_
 refine reg_f ?_
 refine rk 2 ?_
 refine rf [(1,.ptr 0 0),(2,.ptr 1 0)] [(0,.row 25 (Enc.cells p)),(1,.row 31 [iS 0,iS 0])] 2 (by kernel_rfl) ?_
 refine wk_id ?_
 refine seq_np ?_
 refine seq_cut (A:=Unit) (fun _=>([(1,.ptr 0 0),(2,.ptr 1 0),(17,bS ((decide ((1000:Int) < (p.Code.length:Int))) || (decide ((20:Int) < (p.Pipes.length:Int)))))],[(0,.row 25 (Enc.cells p)),(1,.row 31 [iS 0,iS 0])],2)) (fun _=>True) (fun K125 hK125=>?_) (fun _ _=>?_)
 ·refine reg_f ?_
  refine rk 5 ?_
  refine run_split 12 (decide ((1000:Int) < (p.Code.length:Int))) (.inl (by kernel_rfl)) (fun g126=>?_) (fun g126=>?_)
  ·refine rk 5 ?_
   refine rf [(1,.ptr 0 0),(2,.ptr 1 0),(17,bS true)] [(0,.row 25 (Enc.cells p)),(1,.row 31 [iS 0,iS 0])] 2 (by kernel_rfl) ?_
   exact hK125 () _ _ _ trivial (leSt_m [(0,0),(1,1)] [] (by (try simp only [g126]) <;> simp only [push_cast,seval]) (by (try simp only [g126]) <;> simp only [push_cast,seval]) rfl rfl rfl)
  ·refine rk 5 ?_
   refine rf [(1,.ptr 0 0),(2,.ptr 1 0),(17,bS (decide ((20:Int) < (p.Pipes.length:Int))))] [(0,.row 25 (Enc.cells p)),(1,.row 31 [iS 0,iS 0])] 2 (by kernel_rfl) ?_
   exact hK125 () _ _ _ trivial (leSt_m [(0,0),(1,1)] [] (by (try simp only [g126]) <;> simp only [push_cast,seval]) (by (try simp only [g126]) <;> simp only [push_cast,seval]) rfl rfl rfl)
 ·dsimp only
  refine cond_sx h (by kernel_rfl) (fun g440 h=>?_) (fun g440 h=>?_)
  ·refine seq_np ?_
   refine reg_f ?_
   obtain ⟨r128,hr128,h⟩:=bind_sx h
   refine run_call 23 [iS 2,iS 0] (some 18) (by kernel_rfl) ?_
   refine call_0 (code_fault_spec 2 0 r128 hr128) (by simp only [push_cast,seval]) (by simp only [push_cast,seval]) ?_
   refine back_f ?_
   refine rk 1 ?_
   refine rf [(2,.ptr 1 0)] [(0,.row 25 (Enc.cells p)),(1,.row 31 (Enc.cells r128))] 2 (by kernel_rfl) ?_
   refine wk_id ?_
   obtain rfl:=Option.some.inj h
   refine ret_at (.agg (Enc.cells r128)) (by kernel_rfl) ?_
   exact ret_e [] [] (by simp only [push_cast,seval]) (by simp only [push_cast,seval]) rfl rfl rfl
  ·refine wk_id ?_
   refine seq_np ?_
   refine seq_cut (A:=Unit) (fun _=>([(1,.ptr 0 0),(2,.ptr 1 0),(36,bS ((decide ((min (min p.Cells p.Locks) p.Groups) < 0)) || (decide ((20:Int) < (max (max p.Cells p.Locks) p.Groups)))))],[(0,.row 25 (Enc.cells p)),(1,.row 31 [iS 0,iS 0])],2)) (fun _=>True) (fun K133 hK133=>?_) (fun _ _=>?_)
   ·refine reg_f ?_
    refine rk 9 ?_
    refine run_split 27 (decide ((min (min p.Cells p.Locks) p.Groups) < 0)) (.inl (by kernel_rfl)) (fun g134=>?_) (fun g134=>?_)
    ·refine rk 9 ?_
     refine rf [(1,.ptr 0 0),(2,.ptr 1 0),(36,bS true)] [(0,.row 25 (Enc.cells p)),(1,.row 31 [iS 0,iS 0])] 2 (by kernel_rfl) ?_
     exact hK133 () _ _ _ trivial (leSt_m [(0,0),(1,1)] [] (by (try simp only [g134]) <;> simp only [push_cast,seval]) (by (try simp only [g134]) <;> simp only [push_cast,seval]) rfl rfl rfl)
    ·refine rk 9 ?_
     refine rf [(1,.ptr 0 0),(2,.ptr 1 0),(36,bS (decide ((20:Int) < (max (max p.Cells p.Locks) p.Groups))))] [(0,.row 25 (Enc.cells p)),(1,.row 31 [iS 0,iS 0])] 2 (by kernel_rfl) ?_
     exact hK133 () _ _ _ trivial (leSt_m [(0,0),(1,1)] [] (by (try simp only [g134]) <;> simp only [push_cast,seval]) (by (try simp only [g134]) <;> simp only [push_cast,seval]) rfl rfl rfl)
   ·dsimp only
    refine cond_sx h (by kernel_rfl) (fun g439 h=>?_) (fun g439 h=>?_)
    ·refine seq_np ?_
     refine reg_f ?_
     obtain ⟨r136,hr136,h⟩:=bind_sx h
     refine run_call 23 [iS 3,iS 0] (some 37) (by kernel_rfl) ?_
     refine call_0 (code_fault_spec 3 0 r136 hr136) (by simp only [push_cast,seval]) (by simp only [push_cast,seval]) ?_
     refine back_f ?_
     refine rk 1 ?_
     refine rf [(2,.ptr 1 0)] [(0,.row 25 (Enc.cells p)),(1,.row 31 (Enc.cells r136))] 2 (by kernel_rfl) ?_
     refine wk_id ?_
     obtain rfl:=Option.some.inj h
     refine ret_at (.agg (Enc.cells r136)) (by kernel_rfl) ?_
     exact ret_e [] [] (by simp only [push_cast,seval]) (by simp only [push_cast,seval]) rfl rfl rfl
    ·refine wk_id ?_
     refine seq_np ?_
     refine seq_np ?_
     refine reg_f ?_
     refine rk 4 ?_
     refine rf [(1,.ptr 0 0),(2,.ptr 1 0),(39,.sl p.Pipes.length (fl p.Pipes)),(40,iS (p.Pipes.length:Int)),(41,iS 0)] [(0,.row 25 (Enc.cells p)),(1,.row 31 [iS 0,iS 0])] 2 (by kernel_rfl) ?_
     refine wk_id ?_
     refine block_np ?_
     refine loop_sx (S:=Int) (fun a=>([(1,.ptr 0 0),(2,.ptr 1 0),(39,.sl p.Pipes.length (fl p.Pipes)),(40,iS (p.Pipes.length:Int)),(41,iS a)],[(0,.row 25 (Enc.cells p)),(1,.row 31 [iS 0,iS 0])],2)) h (leSt_m [(0,0),(1,1)] [] (by simp only [push_cast,seval]) (by simp only [push_cast,seval]) rfl rfl rfl) ?_
     rintro t41q7 o3 R3 h hr3 hn3 hx3 ht3
     try dsimp only at h hn3 ⊢
     unfold code_Check_l2 at h
     try dsimp only at h
     refine seq_np ?_
     refine reg_f ?_
     refine rk 1 ?_
     refine rf [(1,.ptr 0 0),(2,.ptr 1 0),(39,.sl p.Pipes.length (fl p.Pipes)),(40,iS (p.Pipes.length:Int)),(41,iS t41q7),(42,bS (decide (t41q7 < (p.Pipes.length:Int))))] [(0,.row 25 (Enc.cells p)),(1,.row 31 [iS 0,iS 0])] 2 (by kernel_rfl) ?_
     refine wk_id ?_
     refine seq_np ?_
     refine cond_sx h (by kernel_rfl) (fun g438 h=>?_) (fun g438 h=>?_)
     ·refine wk_id ?_
      refine seq_np ?_
      refine block_np ?_
      refine chk_sx h (fun g202 h=>?_)
      refine seq_np ?_
      refine reg_f ?_
      have k201:0≤t41q7∧t41q7 < (p.Pipes.length:Int):=by first | simpa only [Bool.and_eq_true,decide_eq_true_eq,bne_iff_ne,ne_eq] using g202 | (simp at g202 ⊢; omega) | simp
      refine rs 5 [none,some ⟨.iptr (fl p.Pipes) ((t41q7).toNat * 1),[],2,[]⟩,some ⟨iS (ix p.Pipes t41q7),[],2,[]⟩] _ (by kernel_rfl) (allP_cons (ob_ld p.Pipes t41q7 1 0 ((t41q7).toNat * 1) k201 rfl (by decide) (by first | rfl | omega) (dflS Tryd.prog 3) (iS (ix p.Pipes t41q7)) rfl 2 []) (allP_cons (ob_ix_l p.Pipes 1 2 t41q7 k201) allP_nil)) ?_
      refine rf [(1,.ptr 0 0),(2,.ptr 1 0),(3,iS t41q7),(4,iS (ix p.Pipes t41q7)),(39,.sl p.Pipes.length (fl p.Pipes)),(40,iS (p.Pipes.length:Int)),(41,iS t41q7)] [(0,.row 25 (Enc.cells p)),(1,.row 31 [iS 0,iS 0])] 2 (by kernel_rfl) ?_
      refine wk_id ?_
      refine seq_cut (A:=Unit) (fun _=>([(1,.ptr 0 0),(2,.ptr 1 0),(3,iS t41q7),(39,.sl p.Pipes.length (fl p.Pipes)),(40,iS (p.Pipes.length:Int)),(41,iS t41q7),(51,bS ((decide ((ix p.Pipes t41q7) < 0)) || (decide ((100:Int) < (ix p.Pipes t41q7)))))],[(0,.row 25 (Enc.cells p)),(1,.row 31 [iS 0,iS 0])],2)) (fun _=>True) (fun K204 hK204=>?_) (fun _ _=>?_)
      ·refine reg_f ?_
       refine rk 3 ?_
       refine run_split 48 (decide ((ix p.Pipes t41q7) < 0)) (.inl (by kernel_rfl)) (fun g205=>?_) (fun g205=>?_)
       ·refine rk 3 ?_
        refine rf [(1,.ptr 0 0),(2,.ptr 1 0),(3,iS t41q7),(39,.sl p.Pipes.length (fl p.Pipes)),(40,iS (p.Pipes.length:Int)),(41,iS t41q7),(51,bS true)] [(0,.row 25 (Enc.cells p)),(1,.row 31 [iS 0,iS 0])] 2 (by kernel_rfl) ?_
        exact hK204 () _ _ _ trivial (leSt_m [(0,0),(1,1)] [] (by (try simp only [g205]) <;> simp only [push_cast,seval]) (by (try simp only [g205]) <;> simp only [push_cast,seval]) rfl rfl rfl)
       ·refine rk 3 ?_
        refine rf [(1,.ptr 0 0),(2,.ptr 1 0),(3,iS t41q7),(39,.sl p.Pipes.length (fl p.Pipes)),(40,iS (p.Pipes.length:Int)),(41,iS t41q7),(51,bS (decide ((100:Int) < (ix p.Pipes t41q7))))] [(0,.row 25 (Enc.cells p)),(1,.row 31 [iS 0,iS 0])] 2 (by kernel_rfl) ?_
        exact hK204 () _ _ _ trivial (leSt_m [(0,0),(1,1)] [] (by (try simp only [g205]) <;> simp only [push_cast,seval]) (by (try simp only [g205]) <;> simp only [push_cast,seval]) rfl rfl rfl)
      ·dsimp only
       refine cond_sx h (by kernel_rfl) (fun g208 h=>?_) (fun g208 h=>?_)
       ·refine seq_np ?_
        refine reg_f ?_
        refine rk 1 ?_
        obtain ⟨r207,hr207,h⟩:=bind_sx h
        refine run_call 23 [iS 8,iS t41q7] (some 53) (by kernel_rfl) ?_
        refine call_0 (code_fault_spec 8 t41q7 r207 hr207) (by simp only [push_cast,seval]) (by simp only [push_cast,seval]) ?_
        refine back_f ?_
        refine rk 1 ?_
        refine rf [(2,.ptr 1 0)] [(0,.row 25 (Enc.cells p)),(1,.row 31 (Enc.cells r207))] 2 (by kernel_rfl) ?_
        refine wk_id ?_
        refine rt_cast ht3 ?_
        obtain ⟨r0,h,e0⟩:=map_sx h
        have e1:=hr3 r0 e0.symm
        subst r0
        obtain rfl:=Option.some.inj h
        refine ret_at (.agg (Enc.cells r207)) (by kernel_rfl) ?_
        exact ret_e [] [] (by simp only [push_cast,seval]) (by simp only [push_cast,seval]) rfl rfl rfl
       ·refine wk_id ?_
        refine wk_id ?_
        refine reg_f ?_
        refine rk 2 ?_
        refine rf [(1,.ptr 0 0),(2,.ptr 1 0),(39,.sl p.Pipes.length (fl p.Pipes)),(40,iS (p.Pipes.length:Int)),(41,iS (IntKind.i64.wrap (t41q7+1)))] [(0,.row 25 (Enc.cells p)),(1,.row 31 [iS 0,iS 0])] 2 (by kernel_rfl) ?_
        exact hn3 ((IntKind.i64.wrap (t41q7+1))) _ _ _ (Option.some.inj h).symm (leSt_m [(0,0),(1,1)] [] (by simp only [push_cast,seval]) (by simp only [push_cast,seval]) rfl rfl rfl)
     ·change R3 (.exit 0) _ _ _
      refine ex_cast hx3 (id:=0) ?_
      obtain ⟨r0,h,e0⟩:=map_sx h
      have e1:=hr3 r0 e0.symm
      subst r0
      refine wk_id ?_
      refine wk_id ?_
      refine seq_np ?_
      refine seq_np ?_
      refine reg_f ?_
      refine rk 4 ?_
      refine rf [(1,.ptr 0 0),(2,.ptr 1 0),(56,.sl p.Code.length (fl p.Code)),(57,iS (p.Code.length:Int)),(58,iS 0)] [(0,.row 25 (Enc.cells p)),(1,.row 31 [iS 0,iS 0])] 2 (by kernel_rfl) ?_
      refine wk_id ?_
      refine block_np ?_
      refine loop_sx (S:=Int) (fun a=>([(1,.ptr 0 0),(2,.ptr 1 0),(56,.sl p.Code.length (fl p.Code)),(57,iS (p.Code.length:Int)),(58,iS a)],[(0,.row 25 (Enc.cells p)),(1,.row 31 [iS 0,iS 0])],2)) h (leSt_m [(0,0),(1,1)] [] (by simp only [push_cast,seval]) (by simp only [push_cast,seval]) rfl rfl rfl) ?_
      rintro t58q7 o4 R4 h hr4 hn4 hx4 ht4
      try dsimp only at h hn4 ⊢
      unfold code_Check_l1 at h
      try dsimp only at h
      refine seq_np ?_
      refine reg_f ?_
      refine rk 1 ?_
      refine rf [(1,.ptr 0 0),(2,.ptr 1 0),(56,.sl p.Code.length (fl p.Code)),(57,iS (p.Code.length:Int)),(58,iS t58q7),(59,bS (decide (t58q7 < (p.Code.length:Int))))] [(0,.row 25 (Enc.cells p)),(1,.row 31 [iS 0,iS 0])] 2 (by kernel_rfl) ?_
      refine wk_id ?_
      refine seq_np ?_
      refine cond_sx h (by kernel_rfl) (fun g437 h=>?_) (fun g437 h=>?_)
      ·refine wk_id ?_
       refine seq_np ?_
       refine block_np ?_
       refine chk_sx h (fun g404 h=>?_)
       refine seq_np ?_
       refine reg_f ?_
       have k403:0≤t58q7∧t58q7 < (p.Code.length:Int):=by first | simpa only [Bool.and_eq_true,decide_eq_true_eq,bne_iff_ne,ne_eq] using g404 | (simp at g404 ⊢; omega) | simp
       refine rs 6 [none,some ⟨.iptr (fl p.Code) ((t58q7).toNat * 3),[],2,[]⟩,some ⟨.agg (Enc.cells (ix p.Code t58q7)),[],2,[]⟩] _ (by kernel_rfl) (allP_cons (ob_ldw p.Code t58q7 3 ((t58q7).toNat * 3) k403 rfl (by first | rfl | omega) (Enc.cells (ix p.Code t58q7)) rfl 2 []) (allP_cons (ob_ix_l p.Code 3 2 t58q7 k403) allP_nil)) ?_
       refine rf [(1,.ptr 0 0),(2,.ptr 1 0),(5,iS t58q7),(6,.ptr 2 0),(56,.sl p.Code.length (fl p.Code)),(57,iS (p.Code.length:Int)),(58,iS t58q7)] [(0,.row 25 (Enc.cells p)),(1,.row 31 [iS 0,iS 0]),(2,.row 38 (Enc.cells (ix p.Code t58q7)))] 3 (by kernel_rfl) ?_
       refine wk_id ?_
       refine seq_np ?_
       refine seq_cut (A:=Unit) (fun _=>([(1,.ptr 0 0),(2,.ptr 1 0),(5,iS t58q7),(6,.ptr 2 0),(56,.sl p.Code.length (fl p.Code)),(57,iS (p.Code.length:Int)),(58,iS t58q7),(70,bS ((decide ((ix p.Code t58q7).Op < 1)) || (decide ((23:Int)≤(ix p.Code t58q7).Op))))],[(0,.row 25 (Enc.cells p)),(1,.row 31 [iS 0,iS 0]),(2,.row 38 (Enc.cells (ix p.Code t58q7)))],3)) (fun _=>True) (fun K409 hK409=>?_) (fun _ _=>?_)
       ·refine reg_f ?_
        refine rk 4 ?_
        refine run_split 66 (decide ((ix p.Code t58q7).Op < 1)) (.inl (by kernel_rfl)) (fun g410=>?_) (fun g410=>?_)
        ·refine rk 4 ?_
         refine rf [(1,.ptr 0 0),(2,.ptr 1 0),(5,iS t58q7),(6,.ptr 2 0),(56,.sl p.Code.length (fl p.Code)),(57,iS (p.Code.length:Int)),(58,iS t58q7),(70,bS true)] [(0,.row 25 (Enc.cells p)),(1,.row 31 [iS 0,iS 0]),(2,.row 38 (Enc.cells (ix p.Code t58q7)))] 3 (by kernel_rfl) ?_
         exact hK409 () _ _ _ trivial (leSt_m [(0,0),(1,1),(2,2)] [] (by (try simp only [g410]) <;> simp only [push_cast,seval]) (by (try simp only [g410]) <;> simp only [push_cast,seval]) rfl rfl rfl)
        ·refine rk 4 ?_
         refine rf [(1,.ptr 0 0),(2,.ptr 1 0),(5,iS t58q7),(6,.ptr 2 0),(56,.sl p.Code.length (fl p.Code)),(57,iS (p.Code.length:Int)),(58,iS t58q7),(70,bS (decide ((23:Int)≤(ix p.Code t58q7).Op)))] [(0,.row 25 (Enc.cells p)),(1,.row 31 [iS 0,iS 0]),(2,.row 38 (Enc.cells (ix p.Code t58q7)))] 3 (by kernel_rfl) ?_
         exact hK409 () _ _ _ trivial (leSt_m [(0,0),(1,1),(2,2)] [] (by (try simp only [g410]) <;> simp only [push_cast,seval]) (by (try simp only [g410]) <;> simp only [push_cast,seval]) rfl rfl rfl)
       ·dsimp only
        refine cond_sx h (by kernel_rfl) (fun g436 h=>?_) (fun g436 h=>?_)
        ·refine seq_np ?_
         refine reg_f ?_
         refine rk 1 ?_
         obtain ⟨r412,hr412,h⟩:=bind_sx h
         refine run_call 23 [iS 4,iS t58q7] (some 72) (by kernel_rfl) ?_
         refine call_0 (code_fault_spec 4 t58q7 r412 hr412) (by simp only [push_cast,seval]) (by simp only [push_cast,seval]) ?_
         refine back_f ?_
         refine rk 1 ?_
         refine rf [(2,.ptr 1 0)] [(0,.row 25 (Enc.cells p)),(1,.row 31 (Enc.cells r412)),(2,.row 38 (Enc.cells (ix p.Code t58q7)))] 3 (by kernel_rfl) ?_
         refine wk_id ?_
         refine rt_cast ht4 ?_
         obtain ⟨r0,h,e0⟩:=map_sx h
         have e1:=hr4 r0 e0.symm
         subst r0
         obtain rfl:=Option.some.inj h
         refine ret_at (.agg (Enc.cells r412)) (by kernel_rfl) ?_
         exact ret_e [] [] (by simp only [push_cast,seval]) (by simp only [push_cast,seval]) rfl rfl rfl
        ·refine wk_id ?_
         refine chk_sx h (fun g416 h=>?_)
         refine seq_np ?_
         refine reg_f ?_
         have k415:0≤(ix p.Code t58q7).Op∧(ix p.Code t58q7).Op < (codeKinds.length:Int):=by first | simpa only [Bool.and_eq_true,decide_eq_true_eq,bne_iff_ne,ne_eq] using g416 | (simp at g416 ⊢; omega) | simp
         refine rs 6 [none,none,some ⟨.iptr (fl codeKinds) (((ix p.Code t58q7).Op).toNat * 2),[],3,[]⟩,none,some ⟨.v (.string (ix codeKinds (ix p.Code t58q7).Op).args),[],3,[]⟩] _ (by kernel_rfl) (allP_cons (ob_ld codeKinds (ix p.Code t58q7).Op 2 1 ((((ix p.Code t58q7).Op).toNat * 2)+1) k415 rfl (by decide) (by first | rfl | omega) (dflS Tryd.prog 9) (.v (.string (ix codeKinds (ix p.Code t58q7).Op).args)) rfl 3 []) (allP_cons (ob_tab codeKinds kindsTab (by kernel_rfl) 23 2 3 rfl (ix p.Code t58q7).Op k415) allP_nil)) ?_
         refine rf [(1,.ptr 0 0),(2,.ptr 1 0),(5,iS t58q7),(6,.ptr 2 0),(7,.v (.string (ix codeKinds (ix p.Code t58q7).Op).args)),(56,.sl p.Code.length (fl p.Code)),(57,iS (p.Code.length:Int)),(58,iS t58q7)] [(0,.row 25 (Enc.cells p)),(1,.row 31 [iS 0,iS 0]),(2,.row 38 (Enc.cells (ix p.Code t58q7)))] 3 (by kernel_rfl) ?_
         refine wk_id ?_
         refine chk_sx h (fun g427 h=>?_)
         refine seq_cut (A:=Bool) (fun a=>([(1,.ptr 0 0),(2,.ptr 1 0),(5,iS t58q7),(56,.sl p.Code.length (fl p.Code)),(57,iS (p.Code.length:Int)),(58,iS t58q7),(93,bS a)],[(0,.row 25 (Enc.cells p)),(1,.row 31 [iS 0,iS 0])],2)) (fun a=>(code_Check_j1 p t58q7 a) = some o4) (fun K425 hK425=>?_) ?_
         ·refine reg_t ?_
          have k426:0≤(0:Int)∧(0:Int) < ((((ix codeKinds (ix p.Code t58q7).Op).args).size:Nat):Int):=by first | simpa only [Bool.and_eq_true,decide_eq_true_eq,bne_iff_ne,ne_eq] using g427 | (simp at g427 ⊢; omega) | simp
          refine rs 5 [none,none,some ⟨.v (.int .u8 ((((ix codeKinds (ix p.Code t58q7).Op).args).data.getD ((0:Int)).toNat 0).toNat:Int)),[],5,[]⟩] _ (by kernel_rfl) (allP_cons (ob_p (v:=.v (.int .u8 ((((ix codeKinds (ix p.Code t58q7).Op).args).data.getD ((0:Int)).toNat 0).toNat:Int))) (nx:=5) (r:=[]) k426) allP_nil) ?_
          obtain ⟨r428,hr428,h⟩:=bind_sx h
          refine run_call 24 [.agg (Enc.cells p),.v (.int .u8 ((((ix codeKinds (ix p.Code t58q7).Op).args).data.getD ((0:Int)).toNat 0).toNat:Int)),iS (ix p.Code t58q7).A] (some 83) (by kernel_rfl) ?_
          refine callE_0 (code_fits_spec p ((((ix codeKinds (ix p.Code t58q7).Op).args).data.getD ((0:Int)).toNat 0).toNat:Int) (ix p.Code t58q7).A r428 hr428) (by simp only [push_cast,seval]) (by simp only [push_cast,seval]) ?_
          refine back_t ?_
          refine rk 2 ?_
          refine run_br h 85 (.inl (by kernel_rfl)) (fun g429 h=>?_) (fun g429 h=>?_)
          ·refine rk 8 ?_
           refine rt [(1,.ptr 0 0),(2,.ptr 1 0),(5,iS t58q7),(56,.sl p.Code.length (fl p.Code)),(57,iS (p.Code.length:Int)),(58,iS t58q7),(93,bS true)] [(0,.row 25 (Enc.cells p)),(1,.row 31 [iS 0,iS 0]),(2,.row 38 (Enc.cells (ix p.Code t58q7)))] 19 follows (by kernel_rfl) ?_
           exact hK425 (true) _ _ _ h (leSt_m [(0,0),(1,1)] [] (by (try simp only [g429]) <;> simp only [push_cast,seval]) (by (try simp only [g429]) <;> simp only [push_cast,seval]) rfl rfl rfl)
          ·refine chk_sx h (fun g431 h=>?_)
           have k430:0≤(1:Int)∧(1:Int) < ((((ix codeKinds (ix p.Code t58q7).Op).args).size:Nat):Int):=by first | simpa only [Bool.and_eq_true,decide_eq_true_eq,bne_iff_ne,ne_eq] using g431 | (simp at g431 ⊢; omega) | simp
           refine rs 5 [none,none,some ⟨.v (.int .u8 ((((ix codeKinds (ix p.Code t58q7).Op).args).data.getD ((1:Int)).toNat 0).toNat:Int)),[],13,[]⟩] _ (by kernel_rfl) (allP_cons (ob_p (v:=.v (.int .u8 ((((ix codeKinds (ix p.Code t58q7).Op).args).data.getD ((1:Int)).toNat 0).toNat:Int))) (nx:=13) (r:=[]) k430) allP_nil) ?_
           obtain ⟨r432,hr432,h⟩:=bind_sx h
           refine run_call 24 [.agg (Enc.cells p),.v (.int .u8 ((((ix codeKinds (ix p.Code t58q7).Op).args).data.getD ((1:Int)).toNat 0).toNat:Int)),iS (ix p.Code t58q7).B] (some 91) (by kernel_rfl) ?_
           refine callE_0 (code_fits_spec p ((((ix codeKinds (ix p.Code t58q7).Op).args).data.getD ((1:Int)).toNat 0).toNat:Int) (ix p.Code t58q7).B r432 hr432) (by simp only [push_cast,seval]) (by simp only [push_cast,seval]) ?_
           refine back_t ?_
           refine rk 2 ?_
           refine rt [(1,.ptr 0 0),(2,.ptr 1 0),(5,iS t58q7),(56,.sl p.Code.length (fl p.Code)),(57,iS (p.Code.length:Int)),(58,iS t58q7),(93,bS (!r432))] [(0,.row 25 (Enc.cells p)),(1,.row 31 [iS 0,iS 0]),(2,.row 38 (Enc.cells (ix p.Code t58q7)))] 19 follows (by kernel_rfl) ?_
           exact hK425 ((!r432)) _ _ _ h (leSt_m [(0,0),(1,1)] [] (by (try simp only [g429]) <;> simp only [push_cast,seval]) (by (try simp only [g429]) <;> simp only [push_cast,seval]) rfl rfl rfl)
         ·rintro t93q13 h
          try dsimp only at h ⊢
          unfold code_Check_j1 at h
          refine cond_sx h (by kernel_rfl) (fun g435 h=>?_) (fun g435 h=>?_)
          ·refine seq_np ?_
           refine reg_f ?_
           refine rk 1 ?_
           obtain ⟨r434,hr434,h⟩:=bind_sx h
           refine run_call 23 [iS 5,iS t58q7] (some 95) (by kernel_rfl) ?_
           refine call_0 (code_fault_spec 5 t58q7 r434 hr434) (by simp only [push_cast,seval]) (by simp only [push_cast,seval]) ?_
           refine back_f ?_
           refine rk 1 ?_
           refine rf [(2,.ptr 1 0)] [(0,.row 25 (Enc.cells p)),(1,.row 31 (Enc.cells r434))] 2 (by kernel_rfl) ?_
           refine wk_id ?_
           refine rt_cast ht4 ?_
           obtain ⟨r0,h,e0⟩:=map_sx h
           have e1:=hr4 r0 e0.symm
           subst r0
           obtain rfl:=Option.some.inj h
           refine ret_at (.agg (Enc.cells r434)) (by kernel_rfl) ?_
           exact ret_e [] [] (by simp only [push_cast,seval]) (by simp only [push_cast,seval]) rfl rfl rfl
          ·refine wk_id ?_
           refine wk_id ?_
           refine reg_f ?_
           refine rk 2 ?_
           refine rf [(1,.ptr 0 0),(2,.ptr 1 0),(56,.sl p.Code.length (fl p.Code)),(57,iS (p.Code.length:Int)),(58,iS (IntKind.i64.wrap (t58q7+1)))] [(0,.row 25 (Enc.cells p)),(1,.row 31 [iS 0,iS 0])] 2 (by kernel_rfl) ?_
           exact hn4 ((IntKind.i64.wrap (t58q7+1))) _ _ _ (Option.some.inj h).symm (leSt_m [(0,0),(1,1)] [] (by simp only [push_cast,seval]) (by simp only [push_cast,seval]) rfl rfl rfl)
      ·change R4 (.exit 2) _ _ _
       refine ex_cast hx4 (id:=2) ?_
       obtain ⟨r0,h,e0⟩:=map_sx h
       have e1:=hr4 r0 e0.symm
       subst r0
       refine wk_id ?_
       refine wk_id ?_
       refine seq_np ?_
       refine reg_f ?_
       refine rk 2 ?_
       refine rf [(2,.ptr 1 0)] [(0,.row 25 (Enc.cells p)),(1,.row 31 [iS 0,iS 0])] 2 (by kernel_rfl) ?_
       refine wk_id ?_
       obtain rfl:=Option.some.inj h
       refine ret_at (.agg [iS 0,iS 0]) (by kernel_rfl) ?_
       exact ret_e [] [] (by simp only [push_cast,seval]) (by simp only [push_cast,seval]) rfl rfl rfl

set_option maxRecDepth 100000 in
set_option maxHeartbeats 200000000 in
theorem code_letter_spec (k:Int) (r:ByteArray) (h:code_letter k = some r):SpecW Tryd.prog 29 [.v (.int .u8 k)] [] 0 (fun x h n=>x = .v (.string r)∧h = []∧n = 0):=by
 unfold code_letter at h
 refine spec_of (draw_ok _) Tryd.func29 rfl (by decide) rfl (by kernel_rfl) ?_
 refine seq_np ?_
 refine reg_f ?_
 refine rk 1 ?_
 refine rf [(0,.v (.int .u8 k))] [] 0 (by kernel_rfl) ?_
 refine wk_id ?_
 refine seq_np ?_
 refine seq_np ?_
 refine reg_f ?_
 refine rk 1 ?_
 refine rf [(0,.v (.int .u8 k)),(3,.v (.int .u8 k))] [] 0 (by kernel_rfl) ?_
 refine wk_id ?_
 refine block_np ?_
 refine seq_cut (A:=Bool) (fun a=>([(0,.v (.int .u8 k)),(3,.v (.int .u8 k)),(4,bS a)],[],0)) (fun a=>(code_letter_j1 k a) = some r) (fun K465 hK465=>?_) ?_
 ·refine seq_np ?_
  refine reg_f ?_
  refine rk 2 ?_
  refine rf [(0,.v (.int .u8 k)),(3,.v (.int .u8 k)),(4,bS (k == 110))] [] 0 (by kernel_rfl) ?_
  refine wk_id ?_
  refine cond_sx h (by kernel_rfl) (fun g467 h=>?_) (fun g467 h=>?_)
  ·exact hK465 ((k == 110)) _ _ _ h (leSt_m [] [] (by simp only [push_cast,seval]) (by simp only [push_cast,seval]) rfl rfl rfl)
  ·refine seq_np ?_
   refine reg_f ?_
   refine rk 2 ?_
   refine rf [(0,.v (.int .u8 k)),(3,.v (.int .u8 k)),(4,bS (k == 107))] [] 0 (by kernel_rfl) ?_
   refine wk_id ?_
   refine cond_sx h (by kernel_rfl) (fun g466 h=>?_) (fun g466 h=>?_)
   ·exact hK465 ((k == 107)) _ _ _ h (leSt_m [] [] (by simp only [push_cast,seval]) (by simp only [push_cast,seval]) rfl rfl rfl)
   ·refine reg_f ?_
    refine rk 2 ?_
    refine rf [(0,.v (.int .u8 k)),(3,.v (.int .u8 k)),(4,bS (k == 45))] [] 0 (by kernel_rfl) ?_
    exact hK465 ((k == 45)) _ _ _ h (leSt_m [] [] (by simp only [push_cast,seval]) (by simp only [push_cast,seval]) rfl rfl rfl)
 ·rintro t4q3 h
  try dsimp only at h ⊢
  unfold code_letter_j1 at h
  refine cond_sx h (by kernel_rfl) (fun g470 h=>?_) (fun g470 h=>?_)
  ·refine seq_np ?_
   refine reg_f ?_
   refine rk 1 ?_
   refine rf [(2,.v (.string ByteArray.empty))] [] 0 (by kernel_rfl) ?_
   refine wk_id ?_
   obtain rfl:=Option.some.inj h
   refine ret_at (.v (.string ByteArray.empty)) (by kernel_rfl) ?_
   exact ret_e [] [] (by simp only [push_cast,seval]) (by simp only [push_cast,seval]) rfl rfl rfl
  ·refine seq_np ?_
   refine reg_f ?_
   refine rk 2 ?_
   refine rf [(0,.v (.int .u8 k)),(3,.v (.int .u8 k)),(8,bS (k == 99))] [] 0 (by kernel_rfl) ?_
   refine wk_id ?_
   refine cond_sx h (by kernel_rfl) (fun g469 h=>?_) (fun g469 h=>?_)
   ·refine seq_np ?_
    refine reg_f ?_
    refine rk 1 ?_
    refine rf [(2,.v (.string (ByteArray.mk #[64])))] [] 0 (by kernel_rfl) ?_
    refine wk_id ?_
    obtain rfl:=Option.some.inj h
    refine ret_at (.v (.string (ByteArray.mk #[64]))) (by kernel_rfl) ?_
    exact ret_e [] [] (by simp only [push_cast,seval]) (by simp only [push_cast,seval]) rfl rfl rfl
   ·refine seq_np ?_
    refine reg_f ?_
    refine rk 2 ?_
    refine rf [(0,.v (.int .u8 k)),(10,bS (k == 109))] [] 0 (by kernel_rfl) ?_
    refine wk_id ?_
    refine cond_sx h (by kernel_rfl) (fun g468 h=>?_) (fun g468 h=>?_)
    ·refine seq_np ?_
     refine reg_f ?_
     refine rk 1 ?_
     refine rf [(2,.v (.string (ByteArray.mk #[99])))] [] 0 (by kernel_rfl) ?_
     refine wk_id ?_
     obtain rfl:=Option.some.inj h
     refine ret_at (.v (.string (ByteArray.mk #[99]))) (by kernel_rfl) ?_
     exact ret_e [] [] (by simp only [push_cast,seval]) (by simp only [push_cast,seval]) rfl rfl rfl
    ·refine wk_id ?_
     refine wk_id ?_
     refine seq_np ?_
     refine reg_f ?_
     refine rk 4 ?_
     refine rf [(2,.v (.string (Utf8.encode (IntKind.i32.wrap k))))] [] 0 (by kernel_rfl) ?_
     refine wk_id ?_
     obtain rfl:=Option.some.inj h
     refine ret_at (.v (.string (Utf8.encode (IntKind.i32.wrap k)))) (by kernel_rfl) ?_
     exact ret_e [] [] (by simp only [push_cast,seval]) (by simp only [push_cast,seval]) rfl rfl rfl

set_option maxRecDepth 100000 in
set_option maxHeartbeats 200000000 in
theorem code_Text_spec (p:GProgram) (r:ByteArray×Fault) (h:code_Text p = some r):SpecW Tryd.prog 16 [.agg (Enc.cells p)] [] 0 (fun x h n=>x = .tup [.v (.string r.1),.agg (Enc.cells r.2)]∧h = []∧n = 0):=by
 unfold code_Text at h
 obtain ⟨f,hf,h⟩:=Option.bind_eq_some_iff.1 h
 have hck:=code_Check_spec p f hf
 obtain ⟨c0,at0⟩:=f
 by_cases hc:c0 = 0
 ·subst hc
  replace h:(open Classical in if TextOk GInstr.Op GInstr.A GInstr.B kind.name kind.args codeKinds (fun k:Int=>(code_letter k).getD ByteArray.empty) p.Code then some (textB GInstr.Op GInstr.A GInstr.B kind.name kind.args codeKinds (fun k:Int=>(code_letter k).getD ByteArray.empty) p.Code,Fault.mk 0 0) else none) = some r:=h
  split at h
  ·rename_i hh
   obtain rfl:=Option.some.inj h
   have hL:∀ k,code_letter k = some ((code_letter k).getD ByteArray.empty):=fun k=>by
    have:∃ x,code_letter k = some x:=by
     unfold code_letter code_letter_j1
     (repeat' (rw [Bool.cond_eq_ite]; split)) <;> exact ⟨_,rfl⟩
    obtain ⟨x,hx⟩:=this
    rw [hx]; rfl
   exact text_spec GInstr.Op GInstr.A GInstr.B (fun _=>rfl) kind.name kind.args (fun _=>rfl) codeKinds (by kernel_rfl) rfl (fun k:Int=>(code_letter k).getD ByteArray.empty) (fun k=>code_letter_spec k _ (hL k)) p.Code p.Pipes p.Cells p.Locks p.Groups at0 hh hck
  ·cases h
 ·replace h:some (ByteArray.empty,Fault.mk c0 at0) = some r:=by
   have e:((Fault.mk c0 at0).Code != 0) = true:=by simpa using hc
   simpa only [e,cond_true] using h
  obtain rfl:=Option.some.inj h
  exact text_spec0 p.Code p.Pipes p.Cells p.Locks p.Groups c0 at0 hc hck

set_option maxRecDepth 100000 in
set_option maxHeartbeats 200000000 in
theorem strings_Cut_spec (s:ByteArray) (sep:ByteArray) (r:ByteArray×ByteArray×Bool) (h:strings_Cut s sep = some r):SpecW Tryd.prog 32 [.v (.string s),.v (.string sep)] [] 0 (fun x h n=>x = .tup [.v (.string r.1),.v (.string r.2.1),bS r.2.2]∧h = []∧n = 0):=by
 unfold strings_Cut at h
 obtain ⟨h1,rfl⟩:=bif_some h
 exact cd_cut_spec s sep h1

set_option maxRecDepth 100000 in
set_option maxHeartbeats 200000000 in
theorem strings_Split_spec (s:ByteArray) (sep:ByteArray) (r:List ByteArray) (h:strings_Split s sep = some r):SpecW Tryd.prog 40 [.v (.string s),.v (.string sep)] [] 0 (fun x h n=>x = .own 0 0 r.length∧h = [(0,.row 9 (fl r))]∧n = 1):=by
 unfold strings_Split at h
 obtain ⟨h1,rfl⟩:=bif_some h
 exact cd_split_spec s sep h1.1 h1.2

set_option maxRecDepth 100000 in
set_option maxHeartbeats 200000000 in
theorem code_line_1_spec (k:kind) (t1:(List ByteArray)) (r:Bool) (h:code_line_1 k t1 = some r):SpecW Tryd.prog 42 [.agg (Enc.cells k),.iptr [.sl t1.length (fl t1)] 0] [] 0 (fun x h n=>x = bS r∧h = []∧n = 0):=by
 unfold code_line_1 at h
 refine spec_of (draw_ok _) Tryd.func42 rfl (by decide) rfl (by kernel_rfl) ?_
 refine seq_np ?_
 refine reg_f ?_
 refine rk 2 ?_
 refine rf [(1,.iptr [.sl t1.length (fl t1)] 0),(2,.ptr 0 0)] [(0,.row 58 (Enc.cells k))] 1 (by kernel_rfl) ?_
 refine wk_id ?_
 refine chk_sx h (fun g488 h=>?_)
 refine seq_cut (A:=Unit) (fun _=>([(3,bS ((decide (k.name = (ix t1 (0:Int)))) && (!decide (k.name = ByteArray.empty))))],[(0,.row 58 (Enc.cells k))],13)) (fun _=>True) (fun K486 hK486=>?_) (fun _ _=>?_)
 ·refine reg_t ?_
  have k487:0≤(0:Int)∧(0:Int) < (t1.length:Int):=by first | simpa only [Bool.and_eq_true,decide_eq_true_eq,bne_iff_ne,ne_eq] using g488 | (simp at g488 ⊢; omega) | simp
  refine rs 7 [none,none,none,some ⟨.iptr (fl t1) (((0:Int)).toNat * 1),[],4,[]⟩,some ⟨.v (.string (ix t1 (0:Int))),[],5,[]⟩,some ⟨bS (decide (k.name = (ix t1 (0:Int)))),[],6,[]⟩] _ (by kernel_rfl) (allP_cons (ob_p (v:=bS (decide (k.name = (ix t1 (0:Int))))) (nx:=6) (r:=[]) trivial) (allP_cons (ob_ld t1 (0:Int) 1 0 (((0:Int)).toNat * 1) k487 rfl (by decide) (by first | rfl | omega) (dflS Tryd.prog 9) (.v (.string (ix t1 (0:Int)))) rfl 5 []) (allP_cons (ob_ix_l t1 1 4 0 k487) allP_nil))) ?_
  refine run_split 10 (decide (k.name = (ix t1 (0:Int)))) (.inl (by kernel_rfl)) (fun g489=>?_) (fun g489=>?_)
  ·refine rs 5 [none,none,some ⟨bS (!decide (k.name = ByteArray.empty)),[],10,[]⟩] _ (by kernel_rfl) (allP_cons (ob_p (v:=bS (!decide (k.name = ByteArray.empty))) (nx:=10) (r:=[]) trivial) allP_nil) ?_
   refine rt [(3,bS (!decide (k.name = ByteArray.empty)))] [(0,.row 58 (Enc.cells k))] 13 follows (by kernel_rfl) ?_
   exact hK486 () _ _ _ trivial (leSt_m [(0,0)] [] (by (try simp only [g489]) <;> simp only [push_cast,seval]) (by (try simp only [g489]) <;> simp only [push_cast,seval]) rfl rfl rfl)
  ·refine rk 5 ?_
   refine rt [(3,bS false)] [(0,.row 58 (Enc.cells k))] 13 follows (by kernel_rfl) ?_
   exact hK486 () _ _ _ trivial (leSt_m [(0,0)] [] (by (try simp only [g489]) <;> simp only [push_cast,seval]) (by (try simp only [g489]) <;> simp only [push_cast,seval]) rfl rfl rfl)
 ·dsimp only
  obtain rfl:=Option.some.inj h
  refine ret_at (bS ((decide (k.name = (ix t1 (0:Int)))) && (!decide (k.name = ByteArray.empty)))) (by kernel_rfl) ?_
  exact ret_e [] [] (by simp only [push_cast,seval]) (by simp only [push_cast,seval]) rfl rfl rfl

set_option maxRecDepth 100000 in
set_option maxHeartbeats 200000000 in
theorem slices_IndexFunc_kind_spec (s:(List kind)) (f:(List ByteArray)) (r:Int) (h:slices_IndexFunc_kind s f = some r):SpecW Tryd.prog 41 [.sl s.length (fl s),.clo 42 [.iptr [.sl f.length (fl f)] 0]] [] 0 (fun x h n=>x = iS r∧h = []∧n = 0):=by
 unfold slices_IndexFunc_kind at h
 refine spec_of (draw_ok _) Tryd.func41 rfl (by decide) rfl (by kernel_rfl) ?_
 refine seq_np ?_
 refine reg_f ?_
 refine rk 1 ?_
 refine rf [(0,.sl s.length (fl s)),(1,.clo 42 [.iptr [.sl f.length (fl f)] 0])] [] 0 (by kernel_rfl) ?_
 refine wk_id ?_
 refine seq_np ?_
 refine seq_np ?_
 refine reg_f ?_
 refine rk 3 ?_
 refine rf [(0,.sl s.length (fl s)),(1,.clo 42 [.iptr [.sl f.length (fl f)] 0]),(7,iS (s.length:Int)),(8,iS 0)] [] 0 (by kernel_rfl) ?_
 refine wk_id ?_
 refine block_np ?_
 refine loop_sx (S:=Int) (fun a=>([(0,.sl s.length (fl s)),(1,.clo 42 [.iptr [.sl f.length (fl f)] 0]),(7,iS (s.length:Int)),(8,iS a)],[],0)) h (leSt_m [] [] (by simp only [push_cast,seval]) (by simp only [push_cast,seval]) rfl rfl rfl) ?_
 rintro t8q7 o2 R2 h hr2 hn2 hx2 ht2
 try dsimp only at h hn2 ⊢
 unfold slices_IndexFunc_kind_l1 at h
 try dsimp only at h
 refine seq_np ?_
 refine reg_f ?_
 refine rk 1 ?_
 refine rf [(0,.sl s.length (fl s)),(1,.clo 42 [.iptr [.sl f.length (fl f)] 0]),(7,iS (s.length:Int)),(8,iS t8q7),(9,bS (decide (t8q7 < (s.length:Int))))] [] 0 (by kernel_rfl) ?_
 refine wk_id ?_
 refine seq_np ?_
 refine cond_sx h (by kernel_rfl) (fun g562 h=>?_) (fun g562 h=>?_)
 ·refine wk_id ?_
  refine seq_np ?_
  refine block_np ?_
  refine seq_np ?_
  refine reg_f ?_
  refine rk 2 ?_
  refine rf [(0,.sl s.length (fl s)),(1,.clo 42 [.iptr [.sl f.length (fl f)] 0]),(5,iS t8q7),(7,iS (s.length:Int)),(8,iS t8q7)] [] 0 (by kernel_rfl) ?_
  refine wk_id ?_
  refine chk_sx h (fun g559 h=>?_)
  refine seq_np ?_
  refine reg_f ?_
  have k558:0≤t8q7∧t8q7 < (s.length:Int):=by first | simpa only [Bool.and_eq_true,decide_eq_true_eq,bne_iff_ne,ne_eq] using g559 | (simp at g559 ⊢; omega) | simp
  refine rs 5 [none,none,none,some ⟨.iptr (fl s) ((t8q7).toNat * 2),[],0,[]⟩,some ⟨.agg (Enc.cells (ix s t8q7)),[],0,[]⟩] _ (by kernel_rfl) (allP_cons (ob_ldw s t8q7 2 ((t8q7).toNat * 2) k558 rfl (by first | rfl | omega) (Enc.cells (ix s t8q7)) rfl 0 []) (allP_cons (ob_ix_l s 2 0 t8q7 k558) allP_nil)) ?_
  obtain ⟨r560,hr560,h⟩:=bind_sx h
  refine run_call 42 [.agg (Enc.cells (ix s t8q7)),.iptr [.sl f.length (fl f)] 0] (some 16) (by kernel_rfl) ?_
  refine call_0 (code_line_1_spec (ix s t8q7) f r560 hr560) (by simp only [push_cast,seval]) (by simp only [push_cast,seval]) ?_
  refine back_f ?_
  refine rf [(0,.sl s.length (fl s)),(1,.clo 42 [.iptr [.sl f.length (fl f)] 0]),(5,iS t8q7),(7,iS (s.length:Int)),(8,iS t8q7),(16,bS r560)] [] 0 (by kernel_rfl) ?_
  refine wk_id ?_
  refine cond_sx h (by kernel_rfl) (fun g561 h=>?_) (fun g561 h=>?_)
  ·refine seq_np ?_
   refine reg_f ?_
   refine rk 2 ?_
   refine rf [(4,iS t8q7)] [] 0 (by kernel_rfl) ?_
   refine wk_id ?_
   refine rt_cast ht2 ?_
   obtain ⟨r0,h,e0⟩:=map_sx h
   have e1:=hr2 r0 e0.symm
   subst r0
   obtain rfl:=Option.some.inj h
   refine ret_at (iS t8q7) (by kernel_rfl) ?_
   exact ret_e [] [] (by simp only [push_cast,seval]) (by simp only [push_cast,seval]) rfl rfl rfl
  ·refine wk_id ?_
   refine wk_id ?_
   refine reg_f ?_
   refine rk 2 ?_
   refine rf [(0,.sl s.length (fl s)),(1,.clo 42 [.iptr [.sl f.length (fl f)] 0]),(7,iS (s.length:Int)),(8,iS (IntKind.i64.wrap (t8q7+1)))] [] 0 (by kernel_rfl) ?_
   exact hn2 ((IntKind.i64.wrap (t8q7+1))) _ _ _ (Option.some.inj h).symm (leSt_m [] [] (by simp only [push_cast,seval]) (by simp only [push_cast,seval]) rfl rfl rfl)
 ·change R2 (.exit 0) _ _ _
  refine ex_cast hx2 (id:=0) ?_
  obtain ⟨r0,h,e0⟩:=map_sx h
  have e1:=hr2 r0 e0.symm
  subst r0
  refine wk_id ?_
  refine wk_id ?_
  refine seq_np ?_
  refine reg_f ?_
  refine rk 1 ?_
  refine rf [(4,iS (-1))] [] 0 (by kernel_rfl) ?_
  refine wk_id ?_
  obtain rfl:=Option.some.inj h
  refine ret_at (iS (-1)) (by kernel_rfl) ?_
  exact ret_e [] [] (by simp only [push_cast,seval]) (by simp only [push_cast,seval]) rfl rfl rfl

set_option maxRecDepth 100000 in
set_option maxHeartbeats 200000000 in
theorem stringslite_HasPrefix_spec (s:ByteArray) (xprefix:ByteArray) (r:Bool) (h:stringslite_HasPrefix s xprefix = some r):SpecW Tryd.prog 64 [.v (.string s),.v (.string xprefix)] [] 0 (fun x h n=>x = bS r∧h = []∧n = 0):=by
 unfold stringslite_HasPrefix at h
 refine spec_of (draw_ok _) Tryd.func64 rfl (by decide) rfl (by kernel_rfl) ?_
 refine seq_np ?_
 refine reg_f ?_
 refine rk 1 ?_
 refine rf [(0,.v (.string s)),(1,.v (.string xprefix))] [] 0 (by kernel_rfl) ?_
 refine wk_id ?_
 refine chk_sx h (fun g585 h=>?_)
 refine seq_cut (A:=Unit) (fun _=>([(4,bS ((decide ((((xprefix).size:Nat):Int)≤(((s).size:Nat):Int))) && (decide (((s).extract ((0:Int)).toNat ((((xprefix).size:Nat):Int)).toNat) = xprefix))))],[],0)) (fun _=>True) (fun K582 hK582=>?_) (fun _ _=>?_)
 ·refine reg_f ?_
  refine rk 6 ?_
  refine run_split 10 (decide ((((xprefix).size:Nat):Int)≤(((s).size:Nat):Int))) (.inl (by kernel_rfl)) (fun g583=>?_) (fun g583=>?_)
  ·have k584:0≤(0:Int)∧(0:Int)≤(((xprefix).size:Nat):Int)∧(((xprefix).size:Nat):Int)≤(((s).size:Nat):Int):=by have e:=or_use g585 (by first | ((try simp only [g583]) <;> rfl) | ((try simp only [g583]); rfl) | (exfalso; clear h; simp_all; done)); first | simpa only [Bool.and_eq_true,decide_eq_true_eq,bne_iff_ne,ne_eq] using e | (simp at e ⊢; omega)
   refine rs 8 [none,none,none,some ⟨.v (.string ((s).extract ((0:Int)).toNat ((((xprefix).size:Nat):Int)).toNat)),[],0,[]⟩,none,some ⟨bS (decide (((s).extract ((0:Int)).toNat ((((xprefix).size:Nat):Int)).toNat) = xprefix)),[],0,[]⟩] _ (by kernel_rfl) (allP_cons (ob_p (v:=bS (decide (((s).extract ((0:Int)).toNat ((((xprefix).size:Nat):Int)).toNat) = xprefix))) (nx:=0) (r:=[]) trivial) (allP_cons (ob_p (v:=.v (.string ((s).extract ((0:Int)).toNat ((((xprefix).size:Nat):Int)).toNat))) (nx:=0) (r:=[]) k584) allP_nil)) ?_
   refine rf [(4,bS (decide (((s).extract ((0:Int)).toNat ((((xprefix).size:Nat):Int)).toNat) = xprefix)))] [] 0 (by kernel_rfl) ?_
   exact hK582 () _ _ _ trivial (leSt_m [] [] (by (try simp only [g583]) <;> simp only [push_cast,seval]) (by (try simp only [g583]) <;> simp only [push_cast,seval]) rfl rfl rfl)
  ·refine rk 8 ?_
   refine rf [(4,bS false)] [] 0 (by kernel_rfl) ?_
   exact hK582 () _ _ _ trivial (leSt_m [] [] (by (try simp only [g583]) <;> simp only [push_cast,seval]) (by (try simp only [g583]) <;> simp only [push_cast,seval]) rfl rfl rfl)
 ·dsimp only
  obtain rfl:=Option.some.inj h
  refine ret_at (bS ((decide ((((xprefix).size:Nat):Int)≤(((s).size:Nat):Int))) && (decide (((s).extract ((0:Int)).toNat ((((xprefix).size:Nat):Int)).toNat) = xprefix)))) (by kernel_rfl) ?_
  exact ret_e [] [] (by simp only [push_cast,seval]) (by simp only [push_cast,seval]) rfl rfl rfl

set_option maxRecDepth 100000 in
set_option maxHeartbeats 200000000 in
theorem stringslite_CutPrefix_spec (s:ByteArray) (xprefix:ByteArray) (r:ByteArray×Bool) (h:stringslite_CutPrefix s xprefix = some r):SpecW Tryd.prog 50 [.v (.string s),.v (.string xprefix)] [] 0 (fun x h n=>x = .tup [.v (.string r.1),bS r.2]∧h = []∧n = 0):=by
 unfold stringslite_CutPrefix at h
 refine spec_of (draw_ok _) Tryd.func50 rfl (by decide) rfl (by kernel_rfl) ?_
 refine seq_np ?_
 refine reg_f ?_
 refine rk 2 ?_
 refine rf [(0,.v (.string s)),(1,.v (.string xprefix))] [] 0 (by kernel_rfl) ?_
 refine wk_id ?_
 refine seq_np ?_
 refine seq_np ?_
 refine reg_f ?_
 refine rk 2 ?_
 obtain ⟨r593,hr593,h⟩:=bind_sx h
 refine run_call 64 [.v (.string s),.v (.string xprefix)] (some 8) (by kernel_rfl) ?_
 refine call_0 (stringslite_HasPrefix_spec s xprefix r593 hr593) (by simp only [push_cast,seval]) (by simp only [push_cast,seval]) ?_
 refine back_f ?_
 refine rk 1 ?_
 refine rf [(0,.v (.string s)),(1,.v (.string xprefix)),(9,bS (!r593))] [] 0 (by kernel_rfl) ?_
 refine wk_id ?_
 refine cond_sx h (by kernel_rfl) (fun g598 h=>?_) (fun g598 h=>?_)
 ·refine seq_np ?_
  refine reg_f ?_
  refine rk 3 ?_
  refine rf [(4,.v (.string s)),(5,bS false)] [] 0 (by kernel_rfl) ?_
  refine wk_id ?_
  obtain rfl:=Option.some.inj h
  refine ret_at (.tup [.v (.string s),bS false]) (by kernel_rfl) ?_
  exact ret_e [] [] (by simp only [push_cast,seval]) (by simp only [push_cast,seval]) rfl rfl rfl
 ·refine wk_id ?_
  refine chk_sx h (fun g597 h=>?_)
  refine seq_np ?_
  refine reg_f ?_
  have k596:0≤(((xprefix).size:Nat):Int)∧(((xprefix).size:Nat):Int)≤(((s).size:Nat):Int)∧(((s).size:Nat):Int)≤(((s).size:Nat):Int):=by first | simpa only [Bool.and_eq_true,decide_eq_true_eq,bne_iff_ne,ne_eq] using g597 | (simp at g597 ⊢; omega) | simp
  refine rs 6 [none,none,none,some ⟨.v (.string ((s).extract ((((xprefix).size:Nat):Int)).toNat ((((s).size:Nat):Int)).toNat)),[],0,[]⟩] _ (by kernel_rfl) (allP_cons (ob_p (v:=.v (.string ((s).extract ((((xprefix).size:Nat):Int)).toNat ((((s).size:Nat):Int)).toNat))) (nx:=0) (r:=[]) k596) allP_nil) ?_
  refine rf [(4,.v (.string ((s).extract ((((xprefix).size:Nat):Int)).toNat ((((s).size:Nat):Int)).toNat))),(5,bS true)] [] 0 (by kernel_rfl) ?_
  refine wk_id ?_
  obtain rfl:=Option.some.inj h
  refine ret_at (.tup [.v (.string ((s).extract ((((xprefix).size:Nat):Int)).toNat ((((s).size:Nat):Int)).toNat)),bS true]) (by kernel_rfl) ?_
  exact ret_e [] [] (by simp only [push_cast,seval]) (by simp only [push_cast,seval]) rfl rfl rfl

set_option maxRecDepth 100000 in
set_option maxHeartbeats 200000000 in
theorem strings_CutPrefix_spec (s:ByteArray) (xprefix:ByteArray) (r:ByteArray×Bool) (h:strings_CutPrefix s xprefix = some r):SpecW Tryd.prog 43 [.v (.string s),.v (.string xprefix)] [] 0 (fun x h n=>x = .tup [.v (.string r.1),bS r.2]∧h = []∧n = 0):=by
 unfold strings_CutPrefix at h
 refine spec_of (draw_ok _) Tryd.func43 rfl (by decide) rfl (by kernel_rfl) ?_
 refine seq_np ?_
 refine reg_f ?_
 refine rk 2 ?_
 refine rf [(0,.v (.string s)),(1,.v (.string xprefix))] [] 0 (by kernel_rfl) ?_
 refine wk_id ?_
 refine seq_np ?_
 refine reg_f ?_
 refine rk 2 ?_
 obtain ⟨r601,hr601,h⟩:=bind_sx h
 refine run_call 50 [.v (.string s),.v (.string xprefix)] (some 8) (by kernel_rfl) ?_
 refine call_0 (stringslite_CutPrefix_spec s xprefix r601 hr601) (by simp only [push_cast,seval]) (by simp only [push_cast,seval]) ?_
 refine back_f ?_
 refine rk 4 ?_
 refine rf [(4,.v (.string r601.1)),(5,bS r601.2)] [] 0 (by kernel_rfl) ?_
 refine wk_id ?_
 obtain rfl:=Option.some.inj h
 refine ret_at (.tup [.v (.string r601.1),bS r601.2]) (by kernel_rfl) ?_
 exact ret_e [] [] (by simp only [push_cast,seval]) (by simp only [push_cast,seval]) rfl rfl rfl

set_option maxRecDepth 100000 in
set_option maxHeartbeats 200000000 in
theorem strconv_Atoi_spec (s:ByteArray) (hK0:(atoiK s) = true) (r:Int) (h:strconv_Atoi s = some r):SpecW Tryd.prog 44 [.v (.string s)] [] 0 (fun x h n=>x = .tup [iS r,.v .nilIface]∧h = []∧n = 0):=by
 unfold strconv_Atoi at h
 obtain ⟨h1,rfl⟩:=bif_some h
 exact cd_atoi_ok_spec s h1 hK0

set_option maxRecDepth 100000 in
set_option maxHeartbeats 200000000 in
theorem strconv_Itoa_spec (i:Int) (r:ByteArray) (h:strconv_Itoa i = some r):SpecW Tryd.prog 30 [iS i] [] 0 (fun x h n=>x = .v (.string r)∧h = []∧n = 0):=by
 unfold strconv_Itoa at h
 obtain ⟨h1,rfl⟩:=bif_some h
 exact cd_itoa_spec i h1.1 h1.2

set_option maxRecDepth 100000 in
set_option maxHeartbeats 200000000 in
theorem strconv_Atoi_1_spec (s:ByteArray) (hK0:(atoiK s) = false) (r:Int) (h:strconv_Atoi_1 s = some r):SpecW Tryd.prog 44 [.v (.string s)] [] 0 (fun x h n=>x = .tup [iS r,.ifc 109 (.any)]∧h = []∧n = 0):=by
 unfold strconv_Atoi_1 at h
 obtain ⟨h1,rfl⟩:=bif_some h
 exact cd_atoi_bad_spec s h1 hK0

set_option maxRecDepth 100000 in
set_option maxHeartbeats 200000000 in
theorem code_line_spec (s:ByteArray) (r:GInstr×Bool) (h:code_line s = some r):SpecW Tryd.prog 33 [.v (.string s)] [] 0 (fun x h n=>x = .tup [.agg (Enc.cells r.1),bS r.2]∧h = []∧n = 0):=by
 unfold code_line at h
 refine spec_of (draw_ok _) Tryd.func33 rfl (by decide) rfl (by kernel_rfl) ?_
 refine seq_np ?_
 refine reg_f ?_
 refine rk 2 ?_
 refine rf [(0,.v (.string s)),(2,.ptr 0 0)] [(0,.row 38 [iS 0,iS 0,iS 0])] 1 (by kernel_rfl) ?_
 refine wk_id ?_
 refine seq_np ?_
 refine reg_f ?_
 refine rk 1 ?_
 obtain ⟨r682,hr682,h⟩:=bind_sx h
 refine call_x (strings_Split_spec s (ByteArray.mk #[32]) r682 hr682) (args:=[.v (.string s),.v (.string (ByteArray.mk #[32]))]) (dst:=(some 15)) (by kernel_rfl) [(0,.row 38 [iS 0,iS 0,iS 0])] 1 (by kernel_rfl) [] [] (.own 1 0 r682.length) [(1,.row 9 (fl r682))] (by simp only [push_cast,seval]) (by simp only [push_cast,seval]) (by kernel_rfl) (.inl rfl) (by simp only [push_cast,seval]) (by simp only [push_cast,seval]) ?_
 refine rk 2 ?_
 refine rf [(2,.ptr 0 0),(4,.ptr 2 0)] [(0,.row 38 [iS 0,iS 0,iS 0]),(1,.row 9 (fl r682)),(2,.row 48 [.own 1 0 r682.length])] 3 (by kernel_rfl) ?_
 refine wk_id ?_
 refine seq_np ?_
 refine reg_f ?_
 refine rs 2 [some ⟨.sl codeKinds.length (fl codeKinds),[],3,[]⟩] _ (by kernel_rfl) (allP_cons (ob_tabsl codeKinds kindsTab (by kernel_rfl) 23 46 3 rfl (by kernel_rfl)) allP_nil) ?_
 obtain ⟨r684,hr684,h⟩:=bind_sx h
 refine call_x (slices_IndexFunc_kind_spec codeKinds r682 r684 hr684) (args:=[.sl codeKinds.length (fl codeKinds),.clo 42 [.ptr 2 0]]) (dst:=(some 18)) (by kernel_rfl) [(0,.row 38 [iS 0,iS 0,iS 0]),(1,.row 9 (fl r682)),(2,.row 48 [.own 1 0 r682.length])] 3 (by kernel_rfl) [] [1,2] (iS r684) [] (by simp only [push_cast,seval]) (by simp only [push_cast,seval]) (by kernel_rfl) (.inr ⟨by simp only [push_cast,seval],by simp only [push_cast,seval]⟩) (by simp only [push_cast,seval]) (by simp only [push_cast,seval]) ?_
 refine rk 1 ?_
 refine rf [(2,.ptr 0 0),(4,.ptr 2 0),(5,iS r684)] [(0,.row 38 [iS 0,iS 0,iS 0]),(1,.row 9 (fl r682)),(2,.row 48 [.own 1 0 r682.length])] 3 (by kernel_rfl) ?_
 refine wk_id ?_
 refine seq_np ?_
 refine seq_np ?_
 refine reg_f ?_
 refine rk 2 ?_
 refine rf [(2,.ptr 0 0),(4,.ptr 2 0),(5,iS r684),(20,bS (decide (r684 < 0)))] [(0,.row 38 [iS 0,iS 0,iS 0]),(1,.row 9 (fl r682)),(2,.row 48 [.own 1 0 r682.length])] 3 (by kernel_rfl) ?_
 refine wk_id ?_
 refine cond_sx h (by kernel_rfl) (fun g1030 h=>?_) (fun g1030 h=>?_)
 ·refine seq_np ?_
  refine reg_f ?_
  refine rk 3 ?_
  refine rf [(2,.ptr 0 0),(3,bS false)] [(0,.row 38 [iS 0,iS 0,iS 0]),(1,.row 9 (fl r682)),(2,.row 48 [.own 1 0 r682.length])] 3 (by kernel_rfl) ?_
  refine wk_id ?_
  obtain rfl:=Option.some.inj h
  refine ret_at (.tup [.agg [iS 0,iS 0,iS 0],bS false]) (by kernel_rfl) ?_
  exact ret_e [] [] (by simp only [push_cast,seval]) (by simp only [push_cast,seval]) rfl rfl rfl
 ·refine wk_id ?_
  refine seq_np ?_
  refine reg_f ?_
  refine rk 6 ?_
  refine rf [(2,.ptr 0 0),(4,.ptr 2 0),(5,iS r684),(6,.ptr 4 0),(7,.own 3 0 ([0,0]:List Int).length)] [(0,.row 38 [iS 0,iS 0,iS 0]),(1,.row 9 (fl r682)),(2,.row 48 [.own 1 0 r682.length]),(3,.row 3 (fl ([0,0]:List Int))),(4,.row 38 [iS r684,iS 0,iS 0])] 5 (by kernel_rfl) ?_
  refine wk_id ?_
  refine chk_sx h (fun g689 h=>?_)
  refine seq_np ?_
  refine reg_f ?_
  have k688:0≤(1:Int)∧(1:Int)≤(r682.length:Int)∧(r682.length:Int)≤(r682.length:Int):=by first | simpa only [Bool.and_eq_true,decide_eq_true_eq,bne_iff_ne,ne_eq] using g689 | (simp at g689 ⊢; omega) | simp
  refine rk 1 ?_
  refine run_cutO r682 (some 26) 1 1 9 (1:Int) (r682.length:Int) (by kernel_rfl) rfl k688 ?_
  refine rk 1 ?_
  refine rf [(2,.ptr 0 0),(4,.ptr 2 0),(5,iS r684),(6,.ptr 4 0),(7,.own 3 0 ([0,0]:List Int).length)] [(0,.row 38 [iS 0,iS 0,iS 0]),(1,.dead),(2,.row 48 [.own 5 0 (cut r682 (1:Int) (r682.length:Int)).length]),(3,.row 3 (fl ([0,0]:List Int))),(4,.row 38 [iS r684,iS 0,iS 0]),(5,.row 9 (fl (cut r682 (1:Int) (r682.length:Int))))] 6 (by kernel_rfl) ?_
  refine wk_id ?_
  refine seq_np ?_
  refine seq_np ?_
  refine reg_f ?_
  refine rk 1 ?_
  refine rf [(2,.ptr 0 0),(4,.ptr 2 0),(5,iS r684),(6,.ptr 4 0),(7,.own 3 0 ([0,0]:List Int).length),(27,iS 0)] [(0,.row 38 [iS 0,iS 0,iS 0]),(1,.dead),(2,.row 48 [.own 5 0 (cut r682 (1:Int) (r682.length:Int)).length]),(3,.row 3 (fl ([0,0]:List Int))),(4,.row 38 [iS r684,iS 0,iS 0]),(5,.row 9 (fl (cut r682 (1:Int) (r682.length:Int))))] 6 (by kernel_rfl) ?_
  refine wk_id ?_
  refine block_np ?_
  refine loop_sx (S:=Int×Int×Int×(List Int)×(List ByteArray)) (fun a=>([(2,.ptr 0 0),(4,.ptr 1 0),(5,iS a.1),(6,.ptr 2 0),(7,.own 3 0 a.2.2.2.1.length),(27,iS a.2.1)],[(0,.row 38 [iS 0,iS 0,iS 0]),(1,.row 48 [.own 4 0 a.2.2.2.2.length]),(2,.row 38 [iS a.2.2.1,iS 0,iS 0]),(3,.row 3 (fl a.2.2.2.1)),(4,.row 9 (fl a.2.2.2.2))],5)) h (leSt_m [(0,0),(1,2),(2,4),(3,3),(4,5)] [] (by simp only [push_cast,seval]) (by simp only [push_cast,seval]) rfl rfl rfl) ?_
  rintro ⟨op11,t27q7,c2_Op11,c3q18,c4q22⟩ o2 R2 h hr2 hn2 hx2 ht2
  try dsimp only at h hn2 ⊢
  unfold code_line_l1 at h
  try dsimp only at h
  refine seq_np ?_
  refine reg_f ?_
  refine rk 1 ?_
  refine rf [(2,.ptr 0 0),(4,.ptr 1 0),(5,iS op11),(6,.ptr 2 0),(7,.own 3 0 c3q18.length),(27,iS t27q7),(28,bS (decide (t27q7 < 2)))] [(0,.row 38 [iS 0,iS 0,iS 0]),(1,.row 48 [.own 4 0 c4q22.length]),(2,.row 38 [iS c2_Op11,iS 0,iS 0]),(3,.row 3 (fl c3q18)),(4,.row 9 (fl c4q22))] 5 (by kernel_rfl) ?_
  refine wk_id ?_
  refine seq_np ?_
  refine cond_sx h (by kernel_rfl) (fun g1029 h=>?_) (fun g1029 h=>?_)
  ·refine wk_id ?_
   refine seq_np ?_
   refine block_cut (A:=(List Int)×(List ByteArray)) (fun a=>([(2,.ptr 0 0),(4,.ptr 1 0),(5,iS op11),(6,.ptr 2 0),(7,.own 3 0 a.1.length),(27,iS t27q7)],[(0,.row 38 [iS 0,iS 0,iS 0]),(1,.row 48 [.own 4 0 a.2.length]),(2,.row 38 [iS c2_Op11,iS 0,iS 0]),(3,.row 3 (fl a.1)),(4,.row 9 (fl a.2))],5)) (fun a=>(code_line_j1 op11 t27q7 c2_Op11 a.1 a.2) = some o2) (fun K968 hK968=>?_) ?_
   ·refine seq_np ?_
    refine reg_f ?_
    refine rk 2 ?_
    refine rf [(2,.ptr 0 0),(4,.ptr 1 0),(5,iS op11),(6,.ptr 2 0),(7,.own 3 0 c3q18.length),(8,iS t27q7),(27,iS t27q7)] [(0,.row 38 [iS 0,iS 0,iS 0]),(1,.row 48 [.own 4 0 c4q22.length]),(2,.row 38 [iS c2_Op11,iS 0,iS 0]),(3,.row 3 (fl c3q18)),(4,.row 9 (fl c4q22))] 5 (by kernel_rfl) ?_
    refine wk_id ?_
    refine chk_sx h (fun g974 h=>?_)
    refine chk_sx h (fun g976 h=>?_)
    refine seq_np ?_
    refine reg_f ?_
    have k973:0≤op11∧op11 < (codeKinds.length:Int):=by first | simpa only [Bool.and_eq_true,decide_eq_true_eq,bne_iff_ne,ne_eq] using g974 | (simp at g974 ⊢; omega) | simp
    have k975:0≤t27q7∧t27q7 < ((((ix codeKinds op11).args).size:Nat):Int):=by first | simpa only [Bool.and_eq_true,decide_eq_true_eq,bne_iff_ne,ne_eq] using g976 | (simp at g976 ⊢; omega) | simp
    refine rs 7 [none,some ⟨.iptr (fl codeKinds) ((op11).toNat * 2),[],5,[]⟩,none,some ⟨.v (.string (ix codeKinds op11).args),[],5,[]⟩,none,some ⟨.v (.int .u8 ((((ix codeKinds op11).args).data.getD (t27q7).toNat 0).toNat:Int)),[],5,[]⟩] _ (by kernel_rfl) (allP_cons (ob_p (v:=.v (.int .u8 ((((ix codeKinds op11).args).data.getD (t27q7).toNat 0).toNat:Int))) (nx:=5) (r:=[]) k975) (allP_cons (ob_ld codeKinds op11 2 1 (((op11).toNat * 2)+1) k973 rfl (by decide) (by first | rfl | omega) (dflS Tryd.prog 9) (.v (.string (ix codeKinds op11).args)) rfl 5 []) (allP_cons (ob_tab codeKinds kindsTab (by kernel_rfl) 23 2 5 rfl op11 k973) allP_nil))) ?_
    refine rf [(2,.ptr 0 0),(4,.ptr 1 0),(5,iS op11),(6,.ptr 2 0),(7,.own 3 0 c3q18.length),(8,iS t27q7),(9,.v (.int .u8 ((((ix codeKinds op11).args).data.getD (t27q7).toNat 0).toNat:Int))),(27,iS t27q7)] [(0,.row 38 [iS 0,iS 0,iS 0]),(1,.row 48 [.own 4 0 c4q22.length]),(2,.row 38 [iS c2_Op11,iS 0,iS 0]),(3,.row 3 (fl c3q18)),(4,.row 9 (fl c4q22))] 5 (by kernel_rfl) ?_
    refine wk_id ?_
    refine seq_np ?_
    refine seq_np ?_
    refine reg_f ?_
    refine rk 2 ?_
    refine rf [(2,.ptr 0 0),(4,.ptr 1 0),(5,iS op11),(6,.ptr 2 0),(7,.own 3 0 c3q18.length),(8,iS t27q7),(9,.v (.int .u8 ((((ix codeKinds op11).args).data.getD (t27q7).toNat 0).toNat:Int))),(27,iS t27q7),(37,bS (((((ix codeKinds op11).args).data.getD (t27q7).toNat 0).toNat:Int) == 45))] [(0,.row 38 [iS 0,iS 0,iS 0]),(1,.row 48 [.own 4 0 c4q22.length]),(2,.row 38 [iS c2_Op11,iS 0,iS 0]),(3,.row 3 (fl c3q18)),(4,.row 9 (fl c4q22))] 5 (by kernel_rfl) ?_
    refine wk_id ?_
    refine cond_sx h (by kernel_rfl) (fun g1020 h=>?_) (fun g1020 h=>?_)
    ·exact hK968 (c3q18,c4q22) _ _ _ h (leSt_m [(0,0),(1,1),(2,2),(3,3),(4,4)] [] (by simp only [push_cast,seval]) (by simp only [push_cast,seval]) rfl rfl rfl)
    ·refine wk_id ?_
     refine seq_np ?_
     refine seq_np ?_
     refine reg_f ?_
     refine rk 3 ?_
     refine rf [(2,.ptr 0 0),(4,.ptr 1 0),(5,iS op11),(6,.ptr 2 0),(7,.own 3 0 c3q18.length),(8,iS t27q7),(9,.v (.int .u8 ((((ix codeKinds op11).args).data.getD (t27q7).toNat 0).toNat:Int))),(27,iS t27q7),(40,bS ((c4q22.length:Int) == 0))] [(0,.row 38 [iS 0,iS 0,iS 0]),(1,.row 48 [.own 4 0 c4q22.length]),(2,.row 38 [iS c2_Op11,iS 0,iS 0]),(3,.row 3 (fl c3q18)),(4,.row 9 (fl c4q22))] 5 (by kernel_rfl) ?_
     refine wk_id ?_
     refine cond_sx h (by kernel_rfl) (fun g1019 h=>?_) (fun g1019 h=>?_)
     ·refine seq_np ?_
      refine reg_f ?_
      refine rk 3 ?_
      refine rf [(2,.ptr 0 0),(3,bS false)] [(0,.row 38 [iS c2_Op11,iS 0,iS 0]),(1,.row 48 [.own 4 0 c4q22.length]),(2,.row 38 [iS c2_Op11,iS 0,iS 0]),(3,.row 3 (fl c3q18)),(4,.row 9 (fl c4q22))] 5 (by kernel_rfl) ?_
      refine wk_id ?_
      refine rt_cast ht2 ?_
      obtain ⟨r0,h,e0⟩:=map_sx h
      have e1:=hr2 r0 e0.symm
      subst r0
      obtain rfl:=Option.some.inj h
      refine ret_at (.tup [.agg [iS c2_Op11,iS 0,iS 0],bS false]) (by kernel_rfl) ?_
      exact ret_e [] [] (by simp only [push_cast,seval]) (by simp only [push_cast,seval]) rfl rfl rfl
     ·refine wk_id ?_
      refine chk_sx h (fun g984 h=>?_)
      refine seq_np ?_
      refine reg_t ?_
      have k983:0≤(0:Int)∧(0:Int) < (c4q22.length:Int):=by first | simpa only [Bool.and_eq_true,decide_eq_true_eq,bne_iff_ne,ne_eq] using g984 | (simp at g984 ⊢; omega) | simp
      refine rs 4 [none,some ⟨.ptr 4 (0+((0:Int)).toNat * 1),[],6,[4]⟩,some ⟨.v (.string (ix c4q22 (0:Int))),[],7,[4]⟩] _ (by kernel_rfl) (allP_cons (ob_ld c4q22 (0:Int) 1 0 (0+((0:Int)).toNat * 1) k983 rfl (by decide) (by first | rfl | omega) (dflS Tryd.prog 9) (.v (.string (ix c4q22 (0:Int)))) rfl 7 [4]) (allP_cons (ob_ix_o 4 c4q22.length 0 1 6 0 k983) allP_nil)) ?_
      obtain ⟨r985,hr985,h⟩:=bind_sx h
      refine run_call 29 [.v (.int .u8 ((((ix codeKinds op11).args).data.getD (t27q7).toNat 0).toNat:Int))] (some 47) (by kernel_rfl) ?_
      refine callE_0 (code_letter_spec ((((ix codeKinds op11).args).data.getD (t27q7).toNat 0).toNat:Int) r985 hr985) (by simp only [push_cast,seval]) (by simp only [push_cast,seval]) ?_
      refine back_t ?_
      obtain ⟨r986,hr986,h⟩:=bind_sx h
      refine run_call 43 [.v (.string (ix c4q22 (0:Int))),.v (.string r985)] (some 48) (by kernel_rfl) ?_
      refine callE_0 (strings_CutPrefix_spec (ix c4q22 (0:Int)) r985 r986 hr986) (by simp only [push_cast,seval]) (by simp only [push_cast,seval]) ?_
      refine back_t ?_
      refine rk 5 ?_
      refine rt [(2,.ptr 0 0),(4,.ptr 1 0),(5,iS op11),(6,.ptr 2 0),(7,.own 3 0 c3q18.length),(8,iS t27q7),(10,.v (.string r986.1)),(11,bS r986.2),(27,iS t27q7)] [(0,.row 38 [iS 0,iS 0,iS 0]),(1,.row 48 [.own 4 0 c4q22.length]),(2,.row 38 [iS c2_Op11,iS 0,iS 0]),(3,.row 3 (fl c3q18)),(4,.row 9 (fl c4q22))] 16 follows (by kernel_rfl) ?_
      refine wk_id ?_
      refine bsplit_sx h (fun g987 h=>?_) (fun g987 h=>?_)
      ·refine seq_np ?_
       refine reg_f ?_
       refine rk 1 ?_
       obtain ⟨r989,hr989,h⟩:=bind_sx h
       refine run_call 44 [.v (.string r986.1)] (some 53) (by kernel_rfl) ?_
       refine call_0 (strconv_Atoi_spec r986.1 g987 r989 hr989) (by simp only [push_cast,seval]) (by simp only [push_cast,seval]) ?_
       refine back_f ?_
       refine rk 5 ?_
       refine rf [(2,.ptr 0 0),(4,.ptr 1 0),(5,iS op11),(6,.ptr 2 0),(7,.own 3 0 c3q18.length),(8,iS t27q7),(10,.v (.string r986.1)),(11,bS r986.2),(12,iS r989),(13,.v .nilIface),(27,iS t27q7)] [(0,.row 38 [iS 0,iS 0,iS 0]),(1,.row 48 [.own 4 0 c4q22.length]),(2,.row 38 [iS c2_Op11,iS 0,iS 0]),(3,.row 3 (fl c3q18)),(4,.row 9 (fl c4q22))] 16 (by kernel_rfl) ?_
       refine wk_id ?_
       refine seq_np ?_
       refine seq_cut (A:=Int×Bool) (fun a=>([(2,.ptr 0 0),(4,.ptr 1 0),(5,iS op11),(6,.ptr 2 0),(7,.own 3 0 c3q18.length),(8,iS t27q7),(12,iS a.1),(27,iS t27q7),(67,bS a.2)],[(0,.row 38 [iS 0,iS 0,iS 0]),(1,.row 48 [.own 4 0 c4q22.length]),(2,.row 38 [iS c2_Op11,iS 0,iS 0]),(3,.row 3 (fl c3q18)),(4,.row 9 (fl c4q22))],5)) (fun a=>(code_line_j2 op11 t27q7 c2_Op11 c3q18 c4q22 a.1 a.2) = some o2) (fun K998 hK998=>?_) ?_
       ·refine reg_f ?_
        refine rk 3 ?_
        refine run_br h 58 (.inl (by kernel_rfl)) (fun g999 h=>?_) (fun g999 h=>?_)
        ·refine rk 9 ?_
         refine rf [(2,.ptr 0 0),(4,.ptr 1 0),(5,iS op11),(6,.ptr 2 0),(7,.own 3 0 c3q18.length),(8,iS t27q7),(12,iS r989),(27,iS t27q7),(67,bS true)] [(0,.row 38 [iS 0,iS 0,iS 0]),(1,.row 48 [.own 4 0 c4q22.length]),(2,.row 38 [iS c2_Op11,iS 0,iS 0]),(3,.row 3 (fl c3q18)),(4,.row 9 (fl c4q22))] 16 (by kernel_rfl) ?_
         exact hK998 (r989,true) _ _ _ h (leSt_m [(0,0),(1,1),(2,2),(3,3),(4,4)] [] (by (try simp only [g999]) <;> simp only [push_cast,seval]) (by (try simp only [g999]) <;> simp only [push_cast,seval]) rfl rfl rfl)
        ·refine rk 5 ?_
         obtain ⟨r1000,hr1000,h⟩:=bind_sx h
         refine run_call 30 [iS r989] (some 64) (by kernel_rfl) ?_
         refine call_0 (strconv_Itoa_spec r989 r1000 hr1000) (by simp only [push_cast,seval]) (by simp only [push_cast,seval]) ?_
         refine back_f ?_
         refine rs 3 [none,some ⟨bS (!decide (r1000 = r986.1)),[],16,[]⟩] _ (by kernel_rfl) (allP_cons (ob_p (v:=bS (!decide (r1000 = r986.1))) (nx:=16) (r:=[]) trivial) allP_nil) ?_
         refine rf [(2,.ptr 0 0),(4,.ptr 1 0),(5,iS op11),(6,.ptr 2 0),(7,.own 3 0 c3q18.length),(8,iS t27q7),(12,iS r989),(27,iS t27q7),(67,bS (!decide (r1000 = r986.1)))] [(0,.row 38 [iS 0,iS 0,iS 0]),(1,.row 48 [.own 4 0 c4q22.length]),(2,.row 38 [iS c2_Op11,iS 0,iS 0]),(3,.row 3 (fl c3q18)),(4,.row 9 (fl c4q22))] 16 (by kernel_rfl) ?_
         exact hK998 (r989,(!decide (r1000 = r986.1))) _ _ _ h (leSt_m [(0,0),(1,1),(2,2),(3,3),(4,4)] [] (by (try simp only [g999]) <;> simp only [push_cast,seval]) (by (try simp only [g999]) <;> simp only [push_cast,seval]) rfl rfl rfl)
       ·rintro ⟨n27,t67q14⟩ h
        try dsimp only at h ⊢
        unfold code_line_j2 at h
        refine cond_sx h (by kernel_rfl) (fun g1009 h=>?_) (fun g1009 h=>?_)
        ·refine seq_np ?_
         refine reg_f ?_
         refine rk 3 ?_
         refine rf [(2,.ptr 0 0),(3,bS false)] [(0,.row 38 [iS c2_Op11,iS 0,iS 0]),(1,.row 48 [.own 4 0 c4q22.length]),(2,.row 38 [iS c2_Op11,iS 0,iS 0]),(3,.row 3 (fl c3q18)),(4,.row 9 (fl c4q22))] 5 (by kernel_rfl) ?_
         refine wk_id ?_
         refine rt_cast ht2 ?_
         obtain ⟨r0,h,e0⟩:=map_sx h
         have e1:=hr2 r0 e0.symm
         subst r0
         obtain rfl:=Option.some.inj h
         refine ret_at (.tup [.agg [iS c2_Op11,iS 0,iS 0],bS false]) (by kernel_rfl) ?_
         exact ret_e [] [] (by simp only [push_cast,seval]) (by simp only [push_cast,seval]) rfl rfl rfl
        ·refine wk_id ?_
         refine chk_sx h (fun g1004 h=>?_)
         refine seq_np ?_
         refine reg_f ?_
         have k1003:0≤t27q7∧t27q7 < (c3q18.length:Int):=by first | simpa only [Bool.and_eq_true,decide_eq_true_eq,bne_iff_ne,ne_eq] using g1004 | (simp at g1004 ⊢; omega) | simp
         refine rs 5 [none,none,none,some ⟨.ptr 3 (0+(t27q7).toNat * 1),[],5,[3]⟩,some ⟨.any,[(3,.row 3 (fl (c3q18.set t27q7.toNat n27)))],5,[3]⟩] _ (by kernel_rfl) (allP_cons (ob_st (P:=Tryd.prog) c3q18 t27q7 1 0 (0+(t27q7).toNat * 1) k1003 rfl [iS n27] n27 (Nat.le_of_ble_eq_true rfl) (by first | rfl | omega) rfl 3 5 3 3 (by kernel_rfl) rfl) (allP_cons (ob_ix_o 3 c3q18.length 0 1 5 t27q7 k1003) allP_nil)) ?_
         refine run_eqF 7 (.own 3 0 c3q18.length) (.own 3 0 (c3q18.set t27q7.toNat n27).length) (congrArg (fun nq=>(.own 3 0 nq:SV)) (show c3q18.length = (c3q18.set t27q7.toNat n27).length from (List.length_set ..).symm)) (by kernel_rfl) ?_
         refine rf [(2,.ptr 0 0),(4,.ptr 1 0),(5,iS op11),(6,.ptr 2 0),(7,.own 3 0 (c3q18.set t27q7.toNat n27).length),(27,iS t27q7)] [(0,.row 38 [iS 0,iS 0,iS 0]),(1,.row 48 [.own 4 0 c4q22.length]),(2,.row 38 [iS c2_Op11,iS 0,iS 0]),(3,.row 3 (fl (c3q18.set t27q7.toNat n27))),(4,.row 9 (fl c4q22))] 5 (by kernel_rfl) ?_
         refine wk_id ?_
         refine chk_sx h (fun g1008 h=>?_)
         refine reg_f ?_
         have k1007:0≤(1:Int)∧(1:Int)≤(c4q22.length:Int)∧(c4q22.length:Int)≤(c4q22.length:Int):=by first | simpa only [Bool.and_eq_true,decide_eq_true_eq,bne_iff_ne,ne_eq] using g1008 | (simp at g1008 ⊢; omega) | simp
         refine rk 1 ?_
         refine run_cutO c4q22 (some 74) 4 1 9 (1:Int) (c4q22.length:Int) (by kernel_rfl) rfl k1007 ?_
         refine rk 1 ?_
         refine rf [(2,.ptr 0 0),(4,.ptr 1 0),(5,iS op11),(6,.ptr 2 0),(7,.own 3 0 (c3q18.set t27q7.toNat n27).length),(27,iS t27q7)] [(0,.row 38 [iS 0,iS 0,iS 0]),(1,.row 48 [.own 5 0 (cut c4q22 (1:Int) (c4q22.length:Int)).length]),(2,.row 38 [iS c2_Op11,iS 0,iS 0]),(3,.row 3 (fl (c3q18.set t27q7.toNat n27))),(4,.dead),(5,.row 9 (fl (cut c4q22 (1:Int) (c4q22.length:Int))))] 6 (by kernel_rfl) ?_
         exact hK968 ((c3q18.set t27q7.toNat n27),(cut c4q22 (1:Int) (c4q22.length:Int))) _ _ _ h (leSt_m [(0,0),(1,1),(2,2),(3,3),(4,5)] [] (by simp only [push_cast,seval]) (by simp only [push_cast,seval]) rfl rfl rfl)
      ·refine seq_np ?_
       refine reg_f ?_
       refine rk 1 ?_
       obtain ⟨r1011,hr1011,h⟩:=bind_sx h
       refine run_call 44 [.v (.string r986.1)] (some 53) (by kernel_rfl) ?_
       refine call_0 (strconv_Atoi_1_spec r986.1 g987 r1011 hr1011) (by simp only [push_cast,seval]) (by simp only [push_cast,seval]) ?_
       refine back_f ?_
       refine rk 5 ?_
       refine rf [(2,.ptr 0 0),(4,.ptr 1 0),(5,iS op11),(6,.ptr 2 0),(7,.own 3 0 c3q18.length),(8,iS t27q7),(10,.v (.string r986.1)),(11,bS r986.2),(12,iS r1011),(13,.ifc 109 (.any)),(27,iS t27q7)] [(0,.row 38 [iS 0,iS 0,iS 0]),(1,.row 48 [.own 4 0 c4q22.length]),(2,.row 38 [iS c2_Op11,iS 0,iS 0]),(3,.row 3 (fl c3q18)),(4,.row 9 (fl c4q22))] 16 (by kernel_rfl) ?_
       refine wk_id ?_
       refine seq_np ?_
       refine seq_cut (A:=Int) (fun a=>([(2,.ptr 0 0),(4,.ptr 1 0),(5,iS op11),(6,.ptr 2 0),(7,.own 3 0 c3q18.length),(8,iS t27q7),(12,iS a),(27,iS t27q7),(67,bS true)],[(0,.row 38 [iS 0,iS 0,iS 0]),(1,.row 48 [.own 4 0 c4q22.length]),(2,.row 38 [iS c2_Op11,iS 0,iS 0]),(3,.row 3 (fl c3q18)),(4,.row 9 (fl c4q22))],5)) (fun a=>(code_line_j3 op11 t27q7 c2_Op11 c3q18 c4q22 a) = some o2) (fun K1017 hK1017=>?_) ?_
       ·refine reg_f ?_
        refine rk 3 ?_
        refine run_br h 58 (.inl (by kernel_rfl)) (fun g1018 h=>?_) (fun g1018 h=>?_)
        ·refine rk 9 ?_
         refine rf [(2,.ptr 0 0),(4,.ptr 1 0),(5,iS op11),(6,.ptr 2 0),(7,.own 3 0 c3q18.length),(8,iS t27q7),(12,iS r1011),(27,iS t27q7),(67,bS true)] [(0,.row 38 [iS 0,iS 0,iS 0]),(1,.row 48 [.own 4 0 c4q22.length]),(2,.row 38 [iS c2_Op11,iS 0,iS 0]),(3,.row 3 (fl c3q18)),(4,.row 9 (fl c4q22))] 16 (by kernel_rfl) ?_
         exact hK1017 (r1011) _ _ _ h (leSt_m [(0,0),(1,1),(2,2),(3,3),(4,4)] [] (by (try simp only [g1018]) <;> simp only [push_cast,seval]) (by (try simp only [g1018]) <;> simp only [push_cast,seval]) rfl rfl rfl)
        ·refine rk 9 ?_
         refine rf [(2,.ptr 0 0),(4,.ptr 1 0),(5,iS op11),(6,.ptr 2 0),(7,.own 3 0 c3q18.length),(8,iS t27q7),(12,iS r1011),(27,iS t27q7),(67,bS true)] [(0,.row 38 [iS 0,iS 0,iS 0]),(1,.row 48 [.own 4 0 c4q22.length]),(2,.row 38 [iS c2_Op11,iS 0,iS 0]),(3,.row 3 (fl c3q18)),(4,.row 9 (fl c4q22))] 16 (by kernel_rfl) ?_
         exact hK1017 (r1011) _ _ _ h (leSt_m [(0,0),(1,1),(2,2),(3,3),(4,4)] [] (by (try simp only [g1018]) <;> simp only [push_cast,seval]) (by (try simp only [g1018]) <;> simp only [push_cast,seval]) rfl rfl rfl)
       ·rintro n29 h
        try dsimp only at h ⊢
        unfold code_line_j3 at h
        refine cond_t (by kernel_rfl) ?_
        refine seq_np ?_
        refine reg_f ?_
        refine rk 3 ?_
        refine rf [(2,.ptr 0 0),(3,bS false)] [(0,.row 38 [iS c2_Op11,iS 0,iS 0]),(1,.row 48 [.own 4 0 c4q22.length]),(2,.row 38 [iS c2_Op11,iS 0,iS 0]),(3,.row 3 (fl c3q18)),(4,.row 9 (fl c4q22))] 5 (by kernel_rfl) ?_
        refine wk_id ?_
        refine rt_cast ht2 ?_
        obtain ⟨r0,h,e0⟩:=map_sx h
        have e1:=hr2 r0 e0.symm
        subst r0
        obtain rfl:=Option.some.inj h
        refine ret_at (.tup [.agg [iS c2_Op11,iS 0,iS 0],bS false]) (by kernel_rfl) ?_
        exact ret_e [] [] (by simp only [push_cast,seval]) (by simp only [push_cast,seval]) rfl rfl rfl
   ·rintro ⟨c3q20,c4q24⟩ h
    try dsimp only at h ⊢
    unfold code_line_j1 at h
    refine wk_id ?_
    refine reg_f ?_
    refine rk 2 ?_
    refine rf [(2,.ptr 0 0),(4,.ptr 1 0),(5,iS op11),(6,.ptr 2 0),(7,.own 3 0 c3q20.length),(27,iS (IntKind.i64.wrap (t27q7+1)))] [(0,.row 38 [iS 0,iS 0,iS 0]),(1,.row 48 [.own 4 0 c4q24.length]),(2,.row 38 [iS c2_Op11,iS 0,iS 0]),(3,.row 3 (fl c3q20)),(4,.row 9 (fl c4q24))] 5 (by kernel_rfl) ?_
    exact hn2 (op11,(IntKind.i64.wrap (t27q7+1)),c2_Op11,c3q20,c4q24) _ _ _ (Option.some.inj h).symm (leSt_m [(0,0),(1,1),(2,2),(3,3),(4,4)] [] (by simp only [push_cast,seval]) (by simp only [push_cast,seval]) rfl rfl rfl)
  ·change R2 (.exit 0) _ _ _
   refine ex_cast hx2 (id:=0) ?_
   obtain ⟨r0,h,e0⟩:=map_sx h
   have e1:=hr2 r0 e0.symm
   subst r0
   refine wk_id ?_
   refine wk_id ?_
   refine chk_sx h (fun g1026 h=>?_)
   refine chk_sx h (fun g1028 h=>?_)
   refine seq_np ?_
   refine reg_t ?_
   have k1025:0≤(0:Int)∧(0:Int) < (c3q18.length:Int):=by first | simpa only [Bool.and_eq_true,decide_eq_true_eq,bne_iff_ne,ne_eq] using g1026 | (simp at g1026 ⊢; omega) | simp
   have k1027:0≤(1:Int)∧(1:Int) < (c3q18.length:Int):=by first | simpa only [Bool.and_eq_true,decide_eq_true_eq,bne_iff_ne,ne_eq] using g1028 | (simp at g1028 ⊢; omega) | simp
   refine rs 10 [none,some ⟨.ptr 3 (0+((0:Int)).toNat * 1),[],6,[3]⟩,some ⟨iS (ix c3q18 (0:Int)),[],7,[3]⟩,none,some ⟨.ptr 3 (0+((1:Int)).toNat * 1),[],9,[3]⟩,some ⟨iS (ix c3q18 (1:Int)),[],10,[3]⟩] _ (by kernel_rfl) (allP_cons (ob_ld c3q18 (1:Int) 1 0 (0+((1:Int)).toNat * 1) k1027 rfl (by decide) (by first | rfl | omega) (dflS Tryd.prog 3) (iS (ix c3q18 (1:Int))) rfl 10 [3]) (allP_cons (ob_ix_o 3 c3q18.length 0 1 9 1 k1027) (allP_cons (ob_ld c3q18 (0:Int) 1 0 (0+((0:Int)).toNat * 1) k1025 rfl (by decide) (by first | rfl | omega) (dflS Tryd.prog 3) (iS (ix c3q18 (0:Int))) rfl 7 [3]) (allP_cons (ob_ix_o 3 c3q18.length 0 1 6 0 k1025) allP_nil)))) ?_
   refine rt [(2,.ptr 0 0),(4,.ptr 1 0),(6,.ptr 2 0)] [(0,.row 38 [iS 0,iS 0,iS 0]),(1,.row 48 [.own 4 0 c4q22.length]),(2,.row 38 [iS c2_Op11,iS (ix c3q18 (0:Int)),iS (ix c3q18 (1:Int))]),(3,.row 3 (fl c3q18)),(4,.row 9 (fl c4q22))] 15 follows (by kernel_rfl) ?_
   refine wk_id ?_
   refine seq_np ?_
   refine reg_t ?_
   refine rk 6 ?_
   refine rt [(2,.ptr 0 0),(3,bS ((c4q22.length:Int) == 0))] [(0,.row 38 [iS c2_Op11,iS (ix c3q18 (0:Int)),iS (ix c3q18 (1:Int))]),(1,.row 48 [.own 4 0 c4q22.length]),(2,.row 38 [iS c2_Op11,iS (ix c3q18 (0:Int)),iS (ix c3q18 (1:Int))]),(3,.row 3 (fl c3q18)),(4,.row 9 (fl c4q22))] 21 follows (by kernel_rfl) ?_
   refine wk_id ?_
   obtain rfl:=Option.some.inj h
   refine ret_at (.tup [.agg [iS c2_Op11,iS (ix c3q18 (0:Int)),iS (ix c3q18 (1:Int))],bS ((c4q22.length:Int) == 0)]) (by kernel_rfl) ?_
   exact ret_e [] [] (by simp only [push_cast,seval]) (by simp only [push_cast,seval]) rfl rfl rfl

set_option maxRecDepth 100000 in
set_option maxHeartbeats 200000000 in
theorem code_Parse_spec (text:ByteArray) (r:Fault×(List GInstr)) (h:code_Parse text = some r):SpecW Tryd.prog 17 [.v (.string text)] [] 0 (fun x h n=>x = .tup [.own 0 0 r.2.length,.agg (Enc.cells r.1)]∧h = [(0,.row 38 (fl r.2))]∧n = 1):=by
 unfold code_Parse at h
 refine spec_of (draw_ok _) Tryd.func17 rfl (by decide) rfl (by kernel_rfl) ?_
 refine seq_np ?_
 refine reg_f ?_
 refine rk 2 ?_
 refine rf [(0,.v (.string text)),(3,.ptr 0 0)] [(0,.row 31 [iS 0,iS 0])] 1 (by kernel_rfl) ?_
 refine wk_id ?_
 refine seq_np ?_
 refine seq_np ?_
 refine reg_f ?_
 refine rk 3 ?_
 refine rf [(0,.v (.string text)),(3,.ptr 0 0),(13,bS (decide ((20000:Int) < (((text).size:Nat):Int))))] [(0,.row 31 [iS 0,iS 0])] 1 (by kernel_rfl) ?_
 refine wk_id ?_
 refine cond_sx h (by kernel_rfl) (fun g1158 h=>?_) (fun g1158 h=>?_)
 ·refine seq_np ?_
  refine reg_f ?_
  obtain ⟨r1057,hr1057,h⟩:=bind_sx h
  refine run_call 23 [iS 2,iS 0] (some 14) (by kernel_rfl) ?_
  refine call_0 (code_fault_spec 2 0 r1057 hr1057) (by simp only [push_cast,seval]) (by simp only [push_cast,seval]) ?_
  refine back_f ?_
  refine rk 2 ?_
  refine rf [(2,.v (.slice none 0 0)),(3,.ptr 0 0)] [(0,.row 31 (Enc.cells r1057))] 1 (by kernel_rfl) ?_
  refine wk_id ?_
  obtain rfl:=Option.some.inj h
  refine ret_at (.tup [.v (.slice none 0 0),.agg (Enc.cells r1057)]) (by kernel_rfl) ?_
  exact ret_e [] [] (by simp only [push_cast,seval]) (by simp only [push_cast,seval]) rfl rfl rfl
 ·refine wk_id ?_
  refine seq_np ?_
  refine reg_f ?_
  refine rk 1 ?_
  refine rf [(0,.v (.string text)),(3,.ptr 0 0),(4,.v (.slice none 0 0))] [(0,.row 31 [iS 0,iS 0])] 1 (by kernel_rfl) ?_
  refine wk_id ?_
  refine seq_np ?_
  refine seq_np ?_
  refine reg_f ?_
  refine rk 1 ?_
  refine rf [(0,.v (.string text)),(3,.ptr 0 0),(4,.v (.slice none 0 0)),(5,iS 0)] [(0,.row 31 [iS 0,iS 0])] 1 (by kernel_rfl) ?_
  refine wk_id ?_
  refine block_np ?_
  refine loop_sx (S:=ByteArray×Int×(List GInstr)) (fun a=>([(0,.v (.string a.1)),(3,.ptr 0 0),(4,.own 1 0 a.2.2.length),(5,iS a.2.1)],[(0,.row 31 [iS 0,iS 0]),(1,.row 38 (fl a.2.2))],2)) h (leSt_m [(0,0)] [] (by simp only [push_cast,seval]) (by simp only [push_cast,seval]) rfl rfl rfl) ?_
  rintro ⟨text8,n7,c1q7⟩ o2 R2 h hr2 hn2 hx2 ht2
  try dsimp only at h hn2 ⊢
  unfold code_Parse_l1 at h
  try dsimp only at h
  refine seq_np ?_
  refine seq_np ?_
  refine reg_f ?_
  refine rs 2 [none,some ⟨bS (!decide (text8 = ByteArray.empty)),[],2,[]⟩] _ (by kernel_rfl) (allP_cons (ob_p (v:=bS (!decide (text8 = ByteArray.empty))) (nx:=2) (r:=[]) trivial) allP_nil) ?_
  refine rf [(0,.v (.string text8)),(3,.ptr 0 0),(4,.own 1 0 c1q7.length),(5,iS n7),(16,bS (!decide (text8 = ByteArray.empty)))] [(0,.row 31 [iS 0,iS 0]),(1,.row 38 (fl c1q7))] 2 (by kernel_rfl) ?_
  refine wk_id ?_
  refine cond_sx h (by kernel_rfl) (fun g1157 h=>?_) (fun g1157 h=>?_)
  ·refine wk_id ?_
   refine seq_np ?_
   refine block_np ?_
   refine seq_np ?_
   refine reg_f ?_
   refine rk 1 ?_
   obtain ⟨r1141,hr1141,h⟩:=bind_sx h
   refine run_call 32 [.v (.string text8),.v (.string (ByteArray.mk #[10]))] (some 21) (by kernel_rfl) ?_
   refine call_0 (strings_Cut_spec text8 (ByteArray.mk #[10]) r1141 hr1141) (by simp only [push_cast,seval]) (by simp only [push_cast,seval]) ?_
   refine back_f ?_
   refine rk 7 ?_
   refine rf [(3,.ptr 0 0),(4,.own 1 0 c1q7.length),(5,iS n7),(6,.v (.string r1141.1)),(7,.v (.string r1141.2.1)),(8,bS r1141.2.2)] [(0,.row 31 [iS 0,iS 0]),(1,.row 38 (fl c1q7))] 2 (by kernel_rfl) ?_
   refine wk_id ?_
   refine seq_np ?_
   refine reg_f ?_
   refine rk 1 ?_
   obtain ⟨r1143,hr1143,h⟩:=bind_sx h
   refine run_call 33 [.v (.string r1141.1)] (some 27) (by kernel_rfl) ?_
   refine call_0 (code_line_spec r1141.1 r1143 hr1143) (by simp only [push_cast,seval]) (by simp only [push_cast,seval]) ?_
   refine back_f ?_
   refine rk 6 ?_
   refine rf [(3,.ptr 0 0),(4,.own 1 0 c1q7.length),(5,iS n7),(7,.v (.string r1141.2.1)),(8,bS r1141.2.2),(9,.ptr 2 0),(10,bS r1143.2)] [(0,.row 31 [iS 0,iS 0]),(1,.row 38 (fl c1q7)),(2,.row 38 (Enc.cells r1143.1))] 3 (by kernel_rfl) ?_
   refine wk_id ?_
   refine seq_np ?_
   refine seq_cut (A:=Unit) (fun _=>([(3,.ptr 0 0),(4,.own 1 0 c1q7.length),(5,iS n7),(7,.v (.string r1141.2.1)),(9,.ptr 2 0),(35,bS ((!r1141.2.2) || (!r1143.2)))],[(0,.row 31 [iS 0,iS 0]),(1,.row 38 (fl c1q7)),(2,.row 38 (Enc.cells r1143.1))],3)) (fun _=>True) (fun K1148 hK1148=>?_) (fun _ _=>?_)
   ·refine reg_f ?_
    refine rk 3 ?_
    refine run_split 32 (!r1141.2.2) (.inl (by kernel_rfl)) (fun g1149=>?_) (fun g1149=>?_)
    ·refine rk 3 ?_
     refine rf [(3,.ptr 0 0),(4,.own 1 0 c1q7.length),(5,iS n7),(7,.v (.string r1141.2.1)),(9,.ptr 2 0),(35,bS true)] [(0,.row 31 [iS 0,iS 0]),(1,.row 38 (fl c1q7)),(2,.row 38 (Enc.cells r1143.1))] 3 (by kernel_rfl) ?_
     exact hK1148 () _ _ _ trivial (leSt_m [(0,0),(1,1),(2,2)] [] (by (try simp only [g1149]) <;> simp only [push_cast,seval]) (by (try simp only [g1149]) <;> simp only [push_cast,seval]) rfl rfl rfl)
    ·refine rk 3 ?_
     refine rf [(3,.ptr 0 0),(4,.own 1 0 c1q7.length),(5,iS n7),(7,.v (.string r1141.2.1)),(9,.ptr 2 0),(35,bS (!r1143.2))] [(0,.row 31 [iS 0,iS 0]),(1,.row 38 (fl c1q7)),(2,.row 38 (Enc.cells r1143.1))] 3 (by kernel_rfl) ?_
     exact hK1148 () _ _ _ trivial (leSt_m [(0,0),(1,1),(2,2)] [] (by (try simp only [g1149]) <;> simp only [push_cast,seval]) (by (try simp only [g1149]) <;> simp only [push_cast,seval]) rfl rfl rfl)
   ·dsimp only
    refine cond_sx h (by kernel_rfl) (fun g1156 h=>?_) (fun g1156 h=>?_)
    ·refine seq_np ?_
     refine reg_f ?_
     refine rk 1 ?_
     obtain ⟨r1151,hr1151,h⟩:=bind_sx h
     refine run_call 23 [iS 1,iS n7] (some 37) (by kernel_rfl) ?_
     refine call_0 (code_fault_spec 1 n7 r1151 hr1151) (by simp only [push_cast,seval]) (by simp only [push_cast,seval]) ?_
     refine back_f ?_
     refine rk 2 ?_
     refine rf [(2,.v (.slice none 0 0)),(3,.ptr 0 0)] [(0,.row 31 (Enc.cells r1151)),(1,.row 38 (fl c1q7)),(2,.row 38 (Enc.cells r1143.1))] 3 (by kernel_rfl) ?_
     refine wk_id ?_
     refine rt_cast ht2 ?_
     obtain ⟨r0,h,e0⟩:=map_sx h
     have e1:=hr2 r0 e0.symm
     subst r0
     obtain rfl:=Option.some.inj h
     refine ret_at (.tup [.v (.slice none 0 0),.agg (Enc.cells r1151)]) (by kernel_rfl) ?_
     exact ret_e [] [] (by simp only [push_cast,seval]) (by simp only [push_cast,seval]) rfl rfl rfl
    ·refine wk_id ?_
     refine chk_sx h (fun g1155 h=>?_)
     refine seq_np ?_
     refine reg_f ?_
     have k1154:(c1q7++([r1143.1]:List GInstr)).length * 24≤140737488355328:=by first | simpa only [Bool.and_eq_true,decide_eq_true_eq,bne_iff_ne,ne_eq] using g1155 | (simp at g1155 ⊢; omega) | simp
     refine rs 5 [none,none,none,some ⟨.own 4 0 (c1q7++([r1143.1]:List GInstr)).length,[(4,.row 38 (fl (c1q7++([r1143.1]:List GInstr)))),(1,.dead)],5,[1,3]⟩] _ (by kernel_rfl) (allP_cons (ob_app (P:=Tryd.prog) c1q7 ([r1143.1]:List GInstr) 3 24 rfl (appCells (fl ([r1143.1]:List GInstr)) 0 (([r1143.1]:List GInstr).length * 3)) ([r1143.1]:List GInstr).length (app_own ([r1143.1]:List GInstr) 3 rfl) rfl (0+([r1143.1]:List GInstr).length * 3≤(fl ([r1143.1]:List GInstr)).length) (app_own_le ([r1143.1]:List GInstr) 3 rfl) 38 (by kernel_rfl) (by decide) k1154 1 4 [3]) allP_nil) ?_
     refine rf [(3,.ptr 0 0),(4,.own 4 0 (c1q7++([r1143.1]:List GInstr)).length),(5,iS n7),(7,.v (.string r1141.2.1))] [(0,.row 31 [iS 0,iS 0]),(1,.dead),(2,.row 38 (Enc.cells r1143.1)),(3,.row 38 (fl ([r1143.1]:List GInstr))),(4,.row 38 (fl (c1q7++([r1143.1]:List GInstr))))] 5 (by kernel_rfl) ?_
     refine wk_id ?_
     refine reg_f ?_
     refine rk 2 ?_
     refine rf [(0,.v (.string r1141.2.1)),(3,.ptr 0 0),(4,.own 4 0 (c1q7++([r1143.1]:List GInstr)).length),(5,iS n7)] [(0,.row 31 [iS 0,iS 0]),(1,.dead),(2,.row 38 (Enc.cells r1143.1)),(3,.row 38 (fl ([r1143.1]:List GInstr))),(4,.row 38 (fl (c1q7++([r1143.1]:List GInstr))))] 5 (by kernel_rfl) ?_
     refine wk_id ?_
     refine wk_id ?_
     refine reg_f ?_
     refine rk 3 ?_
     refine rf [(0,.v (.string r1141.2.1)),(3,.ptr 0 0),(4,.own 4 0 (c1q7++([r1143.1]:List GInstr)).length),(5,iS (IntKind.i64.wrap (n7+1)))] [(0,.row 31 [iS 0,iS 0]),(1,.dead),(2,.row 38 (Enc.cells r1143.1)),(3,.row 38 (fl ([r1143.1]:List GInstr))),(4,.row 38 (fl (c1q7++([r1143.1]:List GInstr))))] 5 (by kernel_rfl) ?_
     exact hn2 (r1141.2.1,(IntKind.i64.wrap (n7+1)),(c1q7++([r1143.1]:List GInstr))) _ _ _ (Option.some.inj h).symm (leSt_m [(0,0),(1,4)] [] (by simp only [push_cast,seval]) (by simp only [push_cast,seval]) rfl rfl rfl)
  ·change R2 (.exit 0) _ _ _
   refine ex_cast hx2 (id:=0) ?_
   obtain ⟨r0,h,e0⟩:=map_sx h
   have e1:=hr2 r0 e0.symm
   subst r0
   refine wk_id ?_
   refine wk_id ?_
   refine seq_np ?_
   refine reg_f ?_
   refine rk 4 ?_
   refine rf [(2,.own 1 0 c1q7.length),(3,.ptr 0 0)] [(0,.row 31 [iS 0,iS 0]),(1,.row 38 (fl c1q7))] 2 (by kernel_rfl) ?_
   refine wk_id ?_
   obtain rfl:=Option.some.inj h
   refine ret_at (.tup [.own 1 0 c1q7.length,.agg [iS 0,iS 0]]) (by kernel_rfl) ?_
   exact ret_e [(0,1)] [] (by simp only [push_cast,seval]) (by simp only [push_cast,seval]) rfl rfl rfl

set_option maxRecDepth 100000 in
set_option maxHeartbeats 200000000 in
theorem taskmillref_F_spec (code:Int) (xat:Int) (r:Fault) (h:taskmillref_F code xat = some r):SpecW Tryd.prog 14 [iS code,iS xat] [] 0 (fun x h n=>x = .agg (Enc.cells r)∧h = []∧n = 0):=by
 unfold taskmillref_F at h
 refine spec_of (draw_ok _) Tryd.func14 rfl (by decide) rfl (by kernel_rfl) ?_
 refine seq_np ?_
 refine reg_f ?_
 refine rk 1 ?_
 refine rf [(0,iS code),(1,iS xat),(4,.ptr 0 0)] [(0,.row 31 [iS 0,iS 0])] 1 (by kernel_rfl) ?_
 refine wk_id ?_
 refine seq_np ?_
 refine reg_f ?_
 refine rk 4 ?_
 refine rf [(4,.ptr 0 0)] [(0,.row 31 [iS code,iS xat])] 1 (by kernel_rfl) ?_
 refine wk_id ?_
 obtain rfl:=Option.some.inj h
 refine ret_at (.agg [iS code,iS xat]) (by kernel_rfl) ?_
 exact ret_e [] [] (by simp only [push_cast,seval]) (by simp only [push_cast,seval]) rfl rfl rfl

set_option maxRecDepth 100000 in
set_option maxHeartbeats 200000000 in
theorem taskmillref_ArgOk_spec (p:GProgram) (k:Int) (x:Int) (r:Bool) (h:taskmillref_ArgOk p k x = some r):SpecW Tryd.prog 27 [.agg (Enc.cells p),.v (.int .u8 k),iS x] [] 0 (fun x h n=>x = bS r∧h = []∧n = 0):=by
 unfold taskmillref_ArgOk at h
 refine spec_of (draw_ok _) Tryd.func27 rfl (by decide) rfl (by kernel_rfl) ?_
 refine seq_np ?_
 refine reg_f ?_
 refine rk 2 ?_
 refine rf [(1,.v (.int .u8 k)),(2,iS x),(3,.ptr 0 0)] [(0,.row 25 (Enc.cells p))] 1 (by kernel_rfl) ?_
 refine wk_id ?_
 refine seq_np ?_
 refine reg_f ?_
 refine rk 1 ?_
 refine rf [(1,.v (.int .u8 k)),(2,iS x),(3,.ptr 0 0),(7,iS 1)] [(0,.row 25 (Enc.cells p))] 1 (by kernel_rfl) ?_
 refine wk_id ?_
 refine seq_np ?_
 refine seq_np ?_
 refine reg_f ?_
 refine rk 1 ?_
 refine rf [(2,iS x),(3,.ptr 0 0),(7,iS 1),(8,.v (.int .u8 k))] [(0,.row 25 (Enc.cells p))] 1 (by kernel_rfl) ?_
 refine wk_id ?_
 refine block_cut (A:=Int) (fun a=>([(2,iS x),(7,iS a)],[],0)) (fun a=>(taskmillref_ArgOk_j1 x a) = some r) (fun K1235 hK1235=>?_) ?_
 ·refine seq_np ?_
  refine reg_f ?_
  refine rk 2 ?_
  refine rf [(2,iS x),(3,.ptr 0 0),(7,iS 1),(8,.v (.int .u8 k)),(9,bS (k == 110))] [(0,.row 25 (Enc.cells p))] 1 (by kernel_rfl) ?_
  refine wk_id ?_
  refine cond_sx h (by kernel_rfl) (fun g1243 h=>?_) (fun g1243 h=>?_)
  ·refine seq_np ?_
   refine reg_f ?_
   refine rk 1 ?_
   refine rf [(6,bS true)] [(0,.row 25 (Enc.cells p))] 1 (by kernel_rfl) ?_
   refine wk_id ?_
   obtain rfl:=Option.some.inj h
   refine ret_at (bS true) (by kernel_rfl) ?_
   exact ret_e [] [] (by simp only [push_cast,seval]) (by simp only [push_cast,seval]) rfl rfl rfl
  ·refine seq_np ?_
   refine reg_f ?_
   refine rk 2 ?_
   refine rf [(2,iS x),(3,.ptr 0 0),(7,iS 1),(8,.v (.int .u8 k)),(11,bS (k == 114))] [(0,.row 25 (Enc.cells p))] 1 (by kernel_rfl) ?_
   refine wk_id ?_
   refine cond_sx h (by kernel_rfl) (fun g1242 h=>?_) (fun g1242 h=>?_)
   ·refine reg_f ?_
    refine rk 1 ?_
    refine rf [(2,iS x),(7,iS 8)] [(0,.row 25 (Enc.cells p))] 1 (by kernel_rfl) ?_
    exact hK1235 (8) _ _ _ h (leSt_m [] [] (by simp only [push_cast,seval]) (by simp only [push_cast,seval]) rfl rfl rfl)
   ·refine seq_np ?_
    refine reg_f ?_
    refine rk 2 ?_
    refine rf [(2,iS x),(3,.ptr 0 0),(7,iS 1),(8,.v (.int .u8 k)),(13,bS (k == 99))] [(0,.row 25 (Enc.cells p))] 1 (by kernel_rfl) ?_
    refine wk_id ?_
    refine cond_sx h (by kernel_rfl) (fun g1241 h=>?_) (fun g1241 h=>?_)
    ·refine reg_f ?_
     refine rk 4 ?_
     refine rf [(2,iS x),(7,iS (p.Code.length:Int))] [(0,.row 25 (Enc.cells p))] 1 (by kernel_rfl) ?_
     exact hK1235 ((p.Code.length:Int)) _ _ _ h (leSt_m [] [] (by simp only [push_cast,seval]) (by simp only [push_cast,seval]) rfl rfl rfl)
    ·refine seq_np ?_
     refine reg_f ?_
     refine rk 2 ?_
     refine rf [(2,iS x),(3,.ptr 0 0),(7,iS 1),(8,.v (.int .u8 k)),(18,bS (k == 109))] [(0,.row 25 (Enc.cells p))] 1 (by kernel_rfl) ?_
     refine wk_id ?_
     refine cond_sx h (by kernel_rfl) (fun g1240 h=>?_) (fun g1240 h=>?_)
     ·refine reg_f ?_
      refine rk 3 ?_
      refine rf [(2,iS x),(7,iS p.Cells)] [(0,.row 25 (Enc.cells p))] 1 (by kernel_rfl) ?_
      exact hK1235 (p.Cells) _ _ _ h (leSt_m [] [] (by simp only [push_cast,seval]) (by simp only [push_cast,seval]) rfl rfl rfl)
     ·refine seq_np ?_
      refine reg_f ?_
      refine rk 2 ?_
      refine rf [(2,iS x),(3,.ptr 0 0),(7,iS 1),(8,.v (.int .u8 k)),(22,bS (k == 112))] [(0,.row 25 (Enc.cells p))] 1 (by kernel_rfl) ?_
      refine wk_id ?_
      refine cond_sx h (by kernel_rfl) (fun g1239 h=>?_) (fun g1239 h=>?_)
      ·refine reg_f ?_
       refine rk 4 ?_
       refine rf [(2,iS x),(7,iS (p.Pipes.length:Int))] [(0,.row 25 (Enc.cells p))] 1 (by kernel_rfl) ?_
       exact hK1235 ((p.Pipes.length:Int)) _ _ _ h (leSt_m [] [] (by simp only [push_cast,seval]) (by simp only [push_cast,seval]) rfl rfl rfl)
      ·refine seq_np ?_
       refine reg_f ?_
       refine rk 2 ?_
       refine rf [(2,iS x),(3,.ptr 0 0),(7,iS 1),(8,.v (.int .u8 k)),(27,bS (k == 108))] [(0,.row 25 (Enc.cells p))] 1 (by kernel_rfl) ?_
       refine wk_id ?_
       refine cond_sx h (by kernel_rfl) (fun g1238 h=>?_) (fun g1238 h=>?_)
       ·refine reg_f ?_
        refine rk 3 ?_
        refine rf [(2,iS x),(7,iS p.Locks)] [(0,.row 25 (Enc.cells p))] 1 (by kernel_rfl) ?_
        exact hK1235 (p.Locks) _ _ _ h (leSt_m [] [] (by simp only [push_cast,seval]) (by simp only [push_cast,seval]) rfl rfl rfl)
       ·refine seq_np ?_
        refine reg_f ?_
        refine rk 2 ?_
        refine rf [(2,iS x),(3,.ptr 0 0),(7,iS 1),(8,.v (.int .u8 k)),(31,bS (k == 103))] [(0,.row 25 (Enc.cells p))] 1 (by kernel_rfl) ?_
        refine wk_id ?_
        refine cond_sx h (by kernel_rfl) (fun g1237 h=>?_) (fun g1237 h=>?_)
        ·refine reg_f ?_
         refine rk 3 ?_
         refine rf [(2,iS x),(7,iS p.Groups)] [(0,.row 25 (Enc.cells p))] 1 (by kernel_rfl) ?_
         exact hK1235 (p.Groups) _ _ _ h (leSt_m [] [] (by simp only [push_cast,seval]) (by simp only [push_cast,seval]) rfl rfl rfl)
        ·refine seq_np ?_
         refine reg_f ?_
         refine rk 2 ?_
         refine rf [(2,iS x),(7,iS 1),(35,bS (k == 107))] [(0,.row 25 (Enc.cells p))] 1 (by kernel_rfl) ?_
         refine wk_id ?_
         refine cond_sx h (by kernel_rfl) (fun g1236 h=>?_) (fun g1236 h=>?_)
         ·refine reg_f ?_
          refine rk 1 ?_
          refine rf [(2,iS x),(7,iS 2)] [(0,.row 25 (Enc.cells p))] 1 (by kernel_rfl) ?_
          exact hK1235 (2) _ _ _ h (leSt_m [] [] (by simp only [push_cast,seval]) (by simp only [push_cast,seval]) rfl rfl rfl)
         ·exact hK1235 (1) _ _ _ h (leSt_m [] [] (by simp only [push_cast,seval]) (by simp only [push_cast,seval]) rfl rfl rfl)
 ·rintro n2 h
  try dsimp only at h ⊢
  unfold taskmillref_ArgOk_j1 at h
  refine wk_id ?_
  refine seq_cut (A:=Unit) (fun _=>([(6,bS ((decide ((0:Int)≤x)) && (decide (x < n2))))],[],0)) (fun _=>True) (fun K1245 hK1245=>?_) (fun _ _=>?_)
  ·refine reg_f ?_
   refine rk 3 ?_
   refine run_split 39 (decide ((0:Int)≤x)) (.inl (by kernel_rfl)) (fun g1246=>?_) (fun g1246=>?_)
   ·refine rk 5 ?_
    refine rf [(6,bS (decide (x < n2)))] [] 0 (by kernel_rfl) ?_
    exact hK1245 () _ _ _ trivial (leSt_m [] [] (by (try simp only [g1246]) <;> simp only [push_cast,seval]) (by (try simp only [g1246]) <;> simp only [push_cast,seval]) rfl rfl rfl)
   ·refine rk 5 ?_
    refine rf [(6,bS false)] [] 0 (by kernel_rfl) ?_
    exact hK1245 () _ _ _ trivial (leSt_m [] [] (by (try simp only [g1246]) <;> simp only [push_cast,seval]) (by (try simp only [g1246]) <;> simp only [push_cast,seval]) rfl rfl rfl)
  ·dsimp only
   obtain rfl:=Option.some.inj h
   refine ret_at (bS ((decide ((0:Int)≤x)) && (decide (x < n2)))) (by kernel_rfl) ?_
   exact ret_e [] [] (by simp only [push_cast,seval]) (by simp only [push_cast,seval]) rfl rfl rfl

set_option maxRecDepth 100000 in
set_option maxHeartbeats 200000000 in
theorem taskmillref_ProgramFault_spec (p:GProgram) (r:Fault) (h:taskmillref_ProgramFault p = some r):SpecW Tryd.prog 12 [.agg (Enc.cells p)] [] 0 (fun x h n=>x = .agg (Enc.cells r)∧h = []∧n = 0):=by
 unfold taskmillref_ProgramFault at h
 refine spec_of (draw_ok _) Tryd.func12 rfl (by decide) rfl (by kernel_rfl) ?_
 refine seq_np ?_
 refine reg_f ?_
 refine rk 2 ?_
 refine rf [(1,.ptr 0 0),(2,.ptr 1 0)] [(0,.row 25 (Enc.cells p)),(1,.row 31 [iS 0,iS 0])] 2 (by kernel_rfl) ?_
 refine wk_id ?_
 refine seq_np ?_
 refine seq_cut (A:=Unit) (fun _=>([(1,.ptr 0 0),(2,.ptr 1 0),(15,bS ((decide ((1000:Int) < (p.Code.length:Int))) || (decide ((20:Int) < (p.Pipes.length:Int)))))],[(0,.row 25 (Enc.cells p)),(1,.row 31 [iS 0,iS 0])],2)) (fun _=>True) (fun K1305 hK1305=>?_) (fun _ _=>?_)
 ·refine reg_f ?_
  refine rk 5 ?_
  refine run_split 10 (decide ((1000:Int) < (p.Code.length:Int))) (.inl (by kernel_rfl)) (fun g1306=>?_) (fun g1306=>?_)
  ·refine rk 5 ?_
   refine rf [(1,.ptr 0 0),(2,.ptr 1 0),(15,bS true)] [(0,.row 25 (Enc.cells p)),(1,.row 31 [iS 0,iS 0])] 2 (by kernel_rfl) ?_
   exact hK1305 () _ _ _ trivial (leSt_m [(0,0),(1,1)] [] (by (try simp only [g1306]) <;> simp only [push_cast,seval]) (by (try simp only [g1306]) <;> simp only [push_cast,seval]) rfl rfl rfl)
  ·refine rk 5 ?_
   refine rf [(1,.ptr 0 0),(2,.ptr 1 0),(15,bS (decide ((20:Int) < (p.Pipes.length:Int))))] [(0,.row 25 (Enc.cells p)),(1,.row 31 [iS 0,iS 0])] 2 (by kernel_rfl) ?_
   exact hK1305 () _ _ _ trivial (leSt_m [(0,0),(1,1)] [] (by (try simp only [g1306]) <;> simp only [push_cast,seval]) (by (try simp only [g1306]) <;> simp only [push_cast,seval]) rfl rfl rfl)
 ·dsimp only
  refine cond_sx h (by kernel_rfl) (fun g1680 h=>?_) (fun g1680 h=>?_)
  ·refine seq_np ?_
   refine reg_f ?_
   obtain ⟨r1308,hr1308,h⟩:=bind_sx h
   refine run_call 14 [iS 2,iS 0] (some 16) (by kernel_rfl) ?_
   refine call_0 (taskmillref_F_spec 2 0 r1308 hr1308) (by simp only [push_cast,seval]) (by simp only [push_cast,seval]) ?_
   refine back_f ?_
   refine rk 1 ?_
   refine rf [(2,.ptr 1 0)] [(0,.row 25 (Enc.cells p)),(1,.row 31 (Enc.cells r1308))] 2 (by kernel_rfl) ?_
   refine wk_id ?_
   obtain rfl:=Option.some.inj h
   refine ret_at (.agg (Enc.cells r1308)) (by kernel_rfl) ?_
   exact ret_e [] [] (by simp only [push_cast,seval]) (by simp only [push_cast,seval]) rfl rfl rfl
  ·refine wk_id ?_
   refine seq_np ?_
   refine seq_cut (A:=Unit) (fun _=>([(1,.ptr 0 0),(2,.ptr 1 0),(44,bS ((decide (p.Cells < 0)) || ((decide ((20:Int) < p.Cells)) || ((decide (p.Locks < 0)) || ((decide ((20:Int) < p.Locks)) || ((decide (p.Groups < 0)) || (decide ((20:Int) < p.Groups))))))))],[(0,.row 25 (Enc.cells p)),(1,.row 31 [iS 0,iS 0])],2)) (fun _=>True) (fun K1321 hK1321=>?_) (fun _ _=>?_)
   ·refine reg_f ?_
    refine rk 4 ?_
    refine run_split 20 (decide (p.Cells < 0)) (.inl (by kernel_rfl)) (fun g1322=>?_) (fun g1322=>?_)
    ·refine rk 24 ?_
     refine rf [(1,.ptr 0 0),(2,.ptr 1 0),(44,bS true)] [(0,.row 25 (Enc.cells p)),(1,.row 31 [iS 0,iS 0])] 2 (by kernel_rfl) ?_
     exact hK1321 () _ _ _ trivial (leSt_m [(0,0),(1,1)] [] (by (try simp only [g1322]) <;> simp only [push_cast,seval]) (by (try simp only [g1322]) <;> simp only [push_cast,seval]) rfl rfl rfl)
    ·refine rk 5 ?_
     refine run_split 25 (decide ((20:Int) < p.Cells)) (.inl (by kernel_rfl)) (fun g1323=>?_) (fun g1323=>?_)
     ·refine rk 19 ?_
      refine rf [(1,.ptr 0 0),(2,.ptr 1 0),(44,bS true)] [(0,.row 25 (Enc.cells p)),(1,.row 31 [iS 0,iS 0])] 2 (by kernel_rfl) ?_
      exact hK1321 () _ _ _ trivial (leSt_m [(0,0),(1,1)] [] (by first | ((try simp only [g1322,g1323]) <;> simp only [push_cast,seval]; done) | ((try simp only [g1322]); (try simp only [g1323]); simp only [push_cast,seval]; done) | (exfalso; clear h; simp_all; done)) (by first | ((try simp only [g1322,g1323]) <;> simp only [push_cast,seval]; done) | ((try simp only [g1322]); (try simp only [g1323]); simp only [push_cast,seval]; done) | (exfalso; clear h; simp_all; done)) rfl rfl rfl)
     ·refine rk 5 ?_
      refine run_split 30 (decide (p.Locks < 0)) (.inl (by kernel_rfl)) (fun g1324=>?_) (fun g1324=>?_)
      ·refine rn 14 [(1,.ptr 0 0),(2,.ptr 1 0),(30,bS true)] [(0,.row 25 (Enc.cells p)),(1,.row 31 [iS 0,iS 0])] 2 (by kernel_rfl) ?_
       refine rk 14 ?_
       refine rf [(1,.ptr 0 0),(2,.ptr 1 0),(44,bS true)] [(0,.row 25 (Enc.cells p)),(1,.row 31 [iS 0,iS 0])] 2 (by kernel_rfl) ?_
       exact hK1321 () _ _ _ trivial (leSt_m [(0,0),(1,1)] [] (by first | ((try simp only [g1322,g1323,g1324]) <;> simp only [push_cast,seval]; done) | ((try simp only [g1322]); (try simp only [g1323]); (try simp only [g1324]); simp only [push_cast,seval]; done) | (exfalso; clear h; simp_all; done)) (by first | ((try simp only [g1322,g1323,g1324]) <;> simp only [push_cast,seval]; done) | ((try simp only [g1322]); (try simp only [g1323]); (try simp only [g1324]); simp only [push_cast,seval]; done) | (exfalso; clear h; simp_all; done)) rfl rfl rfl)
      ·refine rn 14 [(1,.ptr 0 0),(2,.ptr 1 0),(30,bS false)] [(0,.row 25 (Enc.cells p)),(1,.row 31 [iS 0,iS 0])] 2 (by kernel_rfl) ?_
       refine rk 5 ?_
       refine run_split 35 (decide ((20:Int) < p.Locks)) (.inl (by kernel_rfl)) (fun g1325=>?_) (fun g1325=>?_)
       ·refine rk 9 ?_
        refine rf [(1,.ptr 0 0),(2,.ptr 1 0),(44,bS true)] [(0,.row 25 (Enc.cells p)),(1,.row 31 [iS 0,iS 0])] 2 (by kernel_rfl) ?_
        exact hK1321 () _ _ _ trivial (leSt_m [(0,0),(1,1)] [] (by first | ((try simp only [g1322,g1323,g1324,g1325]) <;> simp only [push_cast,seval]; done) | ((try simp only [g1322]); (try simp only [g1323]); (try simp only [g1324]); (try simp only [g1325]); simp only [push_cast,seval]; done) | (exfalso; clear h; simp_all; done)) (by first | ((try simp only [g1322,g1323,g1324,g1325]) <;> simp only [push_cast,seval]; done) | ((try simp only [g1322]); (try simp only [g1323]); (try simp only [g1324]); (try simp only [g1325]); simp only [push_cast,seval]; done) | (exfalso; clear h; simp_all; done)) rfl rfl rfl)
       ·refine rk 5 ?_
        refine run_split 40 (decide (p.Groups < 0)) (.inl (by kernel_rfl)) (fun g1326=>?_) (fun g1326=>?_)
        ·refine rk 4 ?_
         refine rf [(1,.ptr 0 0),(2,.ptr 1 0),(44,bS true)] [(0,.row 25 (Enc.cells p)),(1,.row 31 [iS 0,iS 0])] 2 (by kernel_rfl) ?_
         exact hK1321 () _ _ _ trivial (leSt_m [(0,0),(1,1)] [] (by first | ((try simp only [g1322,g1323,g1324,g1325,g1326]) <;> simp only [push_cast,seval]; done) | ((try simp only [g1322]); (try simp only [g1323]); (try simp only [g1324]); (try simp only [g1325]); (try simp only [g1326]); simp only [push_cast,seval]; done) | (exfalso; clear h; simp_all; done)) (by first | ((try simp only [g1322,g1323,g1324,g1325,g1326]) <;> simp only [push_cast,seval]; done) | ((try simp only [g1322]); (try simp only [g1323]); (try simp only [g1324]); (try simp only [g1325]); (try simp only [g1326]); simp only [push_cast,seval]; done) | (exfalso; clear h; simp_all; done)) rfl rfl rfl)
        ·refine rk 4 ?_
         refine rf [(1,.ptr 0 0),(2,.ptr 1 0),(44,bS (decide ((20:Int) < p.Groups)))] [(0,.row 25 (Enc.cells p)),(1,.row 31 [iS 0,iS 0])] 2 (by kernel_rfl) ?_
         exact hK1321 () _ _ _ trivial (leSt_m [(0,0),(1,1)] [] (by first | ((try simp only [g1322,g1323,g1324,g1325,g1326]) <;> simp only [push_cast,seval]; done) | ((try simp only [g1322]); (try simp only [g1323]); (try simp only [g1324]); (try simp only [g1325]); (try simp only [g1326]); simp only [push_cast,seval]; done) | (exfalso; clear h; simp_all; done)) (by first | ((try simp only [g1322,g1323,g1324,g1325,g1326]) <;> simp only [push_cast,seval]; done) | ((try simp only [g1322]); (try simp only [g1323]); (try simp only [g1324]); (try simp only [g1325]); (try simp only [g1326]); simp only [push_cast,seval]; done) | (exfalso; clear h; simp_all; done)) rfl rfl rfl)
   ·dsimp only
    refine cond_sx h (by kernel_rfl) (fun g1679 h=>?_) (fun g1679 h=>?_)
    ·refine seq_np ?_
     refine reg_f ?_
     obtain ⟨r1328,hr1328,h⟩:=bind_sx h
     refine run_call 14 [iS 3,iS 0] (some 45) (by kernel_rfl) ?_
     refine call_0 (taskmillref_F_spec 3 0 r1328 hr1328) (by simp only [push_cast,seval]) (by simp only [push_cast,seval]) ?_
     refine back_f ?_
     refine rk 1 ?_
     refine rf [(2,.ptr 1 0)] [(0,.row 25 (Enc.cells p)),(1,.row 31 (Enc.cells r1328))] 2 (by kernel_rfl) ?_
     refine wk_id ?_
     obtain rfl:=Option.some.inj h
     refine ret_at (.agg (Enc.cells r1328)) (by kernel_rfl) ?_
     exact ret_e [] [] (by simp only [push_cast,seval]) (by simp only [push_cast,seval]) rfl rfl rfl
    ·refine wk_id ?_
     refine seq_np ?_
     refine seq_np ?_
     refine reg_f ?_
     refine rk 1 ?_
     refine rf [(1,.ptr 0 0),(2,.ptr 1 0),(3,iS 0)] [(0,.row 25 (Enc.cells p)),(1,.row 31 [iS 0,iS 0])] 2 (by kernel_rfl) ?_
     refine wk_id ?_
     refine block_np ?_
     refine loop_sx (S:=Int) (fun a=>([(1,.ptr 0 0),(2,.ptr 1 0),(3,iS a)],[(0,.row 25 (Enc.cells p)),(1,.row 31 [iS 0,iS 0])],2)) h (leSt_m [(0,0),(1,1)] [] (by simp only [push_cast,seval]) (by simp only [push_cast,seval]) rfl rfl rfl) ?_
     rintro i9 o3 R3 h hr3 hn3 hx3 ht3
     try dsimp only at h hn3 ⊢
     unfold taskmillref_ProgramFault_l2 at h
     try dsimp only at h
     refine seq_np ?_
     refine seq_np ?_
     refine reg_f ?_
     refine rk 5 ?_
     refine rf [(1,.ptr 0 0),(2,.ptr 1 0),(3,iS i9),(50,bS (decide (i9 < (p.Pipes.length:Int))))] [(0,.row 25 (Enc.cells p)),(1,.row 31 [iS 0,iS 0])] 2 (by kernel_rfl) ?_
     refine wk_id ?_
     refine cond_sx h (by kernel_rfl) (fun g1678 h=>?_) (fun g1678 h=>?_)
     ·refine wk_id ?_
      refine seq_np ?_
      refine block_np ?_
      refine chk_sx h (fun g1418 h=>?_)
      refine chk_sx h (fun g1421 h=>?_)
      refine seq_cut (A:=Unit) (fun _=>([(1,.ptr 0 0),(2,.ptr 1 0),(3,iS i9),(66,bS ((decide ((ix p.Pipes i9) < 0)) || (decide ((100:Int) < (ix p.Pipes i9)))))],[(0,.row 25 (Enc.cells p)),(1,.row 31 [iS 0,iS 0])],2)) (fun _=>True) (fun K1416 hK1416=>?_) (fun _ _=>?_)
      ·refine reg_f ?_
       have k1417:0≤i9∧i9 < (p.Pipes.length:Int):=by first | simpa only [Bool.and_eq_true,decide_eq_true_eq,bne_iff_ne,ne_eq] using g1418 | (simp at g1418 ⊢; omega) | simp
       refine rs 7 [none,none,none,some ⟨.iptr (fl p.Pipes) ((i9).toNat * 1),[],2,[]⟩,some ⟨iS (ix p.Pipes i9),[],2,[]⟩] _ (by kernel_rfl) (allP_cons (ob_ld p.Pipes i9 1 0 ((i9).toNat * 1) k1417 rfl (by decide) (by first | rfl | omega) (dflS Tryd.prog 3) (iS (ix p.Pipes i9)) rfl 2 []) (allP_cons (ob_ix_l p.Pipes 1 2 i9 k1417) allP_nil)) ?_
       refine run_split 59 (decide ((ix p.Pipes i9) < 0)) (.inl (by kernel_rfl)) (fun g1419=>?_) (fun g1419=>?_)
       ·refine rk 7 ?_
        refine rf [(1,.ptr 0 0),(2,.ptr 1 0),(3,iS i9),(66,bS true)] [(0,.row 25 (Enc.cells p)),(1,.row 31 [iS 0,iS 0])] 2 (by kernel_rfl) ?_
        exact hK1416 () _ _ _ trivial (leSt_m [(0,0),(1,1)] [] (by (try simp only [g1419]) <;> simp only [push_cast,seval]) (by (try simp only [g1419]) <;> simp only [push_cast,seval]) rfl rfl rfl)
       ·have k1420:0≤i9∧i9 < (p.Pipes.length:Int):=by have e:=or_use g1421 (by first | ((try simp only [g1419]) <;> rfl) | ((try simp only [g1419]); rfl) | (exfalso; clear h; simp_all; done)); first | simpa only [Bool.and_eq_true,decide_eq_true_eq,bne_iff_ne,ne_eq] using e | (simp at e ⊢; omega)
        refine rs 7 [none,none,none,some ⟨.iptr (fl p.Pipes) ((i9).toNat * 1),[],2,[]⟩,some ⟨iS (ix p.Pipes i9),[],2,[]⟩] _ (by kernel_rfl) (allP_cons (ob_ld p.Pipes i9 1 0 ((i9).toNat * 1) k1420 rfl (by decide) (by first | rfl | omega) (dflS Tryd.prog 3) (iS (ix p.Pipes i9)) rfl 2 []) (allP_cons (ob_ix_l p.Pipes 1 2 i9 k1420) allP_nil)) ?_
        refine rf [(1,.ptr 0 0),(2,.ptr 1 0),(3,iS i9),(66,bS (decide ((100:Int) < (ix p.Pipes i9))))] [(0,.row 25 (Enc.cells p)),(1,.row 31 [iS 0,iS 0])] 2 (by kernel_rfl) ?_
        exact hK1416 () _ _ _ trivial (leSt_m [(0,0),(1,1)] [] (by (try simp only [g1419]) <;> simp only [push_cast,seval]) (by (try simp only [g1419]) <;> simp only [push_cast,seval]) rfl rfl rfl)
      ·dsimp only
       refine cond_sx h (by kernel_rfl) (fun g1424 h=>?_) (fun g1424 h=>?_)
       ·refine seq_np ?_
        refine reg_f ?_
        refine rk 1 ?_
        obtain ⟨r1423,hr1423,h⟩:=bind_sx h
        refine run_call 14 [iS 8,iS i9] (some 68) (by kernel_rfl) ?_
        refine call_0 (taskmillref_F_spec 8 i9 r1423 hr1423) (by simp only [push_cast,seval]) (by simp only [push_cast,seval]) ?_
        refine back_f ?_
        refine rk 1 ?_
        refine rf [(2,.ptr 1 0)] [(0,.row 25 (Enc.cells p)),(1,.row 31 (Enc.cells r1423))] 2 (by kernel_rfl) ?_
        refine wk_id ?_
        refine rt_cast ht3 ?_
        obtain ⟨r0,h,e0⟩:=map_sx h
        have e1:=hr3 r0 e0.symm
        subst r0
        obtain rfl:=Option.some.inj h
        refine ret_at (.agg (Enc.cells r1423)) (by kernel_rfl) ?_
        exact ret_e [] [] (by simp only [push_cast,seval]) (by simp only [push_cast,seval]) rfl rfl rfl
       ·refine wk_id ?_
        refine wk_id ?_
        refine reg_f ?_
        refine rk 3 ?_
        refine rf [(1,.ptr 0 0),(2,.ptr 1 0),(3,iS (IntKind.i64.wrap (i9+1)))] [(0,.row 25 (Enc.cells p)),(1,.row 31 [iS 0,iS 0])] 2 (by kernel_rfl) ?_
        exact hn3 ((IntKind.i64.wrap (i9+1))) _ _ _ (Option.some.inj h).symm (leSt_m [(0,0),(1,1)] [] (by simp only [push_cast,seval]) (by simp only [push_cast,seval]) rfl rfl rfl)
     ·change R3 (.exit 0) _ _ _
      refine ex_cast hx3 (id:=0) ?_
      obtain ⟨r0,h,e0⟩:=map_sx h
      have e1:=hr3 r0 e0.symm
      subst r0
      refine wk_id ?_
      refine wk_id ?_
      refine seq_np ?_
      refine seq_np ?_
      refine reg_f ?_
      refine rk 1 ?_
      refine rf [(1,.ptr 0 0),(2,.ptr 1 0),(4,iS 0)] [(0,.row 25 (Enc.cells p)),(1,.row 31 [iS 0,iS 0])] 2 (by kernel_rfl) ?_
      refine wk_id ?_
      refine block_np ?_
      refine loop_sx (S:=Int) (fun a=>([(1,.ptr 0 0),(2,.ptr 1 0),(4,iS a)],[(0,.row 25 (Enc.cells p)),(1,.row 31 [iS 0,iS 0])],2)) h (leSt_m [(0,0),(1,1)] [] (by simp only [push_cast,seval]) (by simp only [push_cast,seval]) rfl rfl rfl) ?_
      rintro i15 o4 R4 h hr4 hn4 hx4 ht4
      try dsimp only at h hn4 ⊢
      unfold taskmillref_ProgramFault_l1 at h
      try dsimp only at h
      refine seq_np ?_
      refine seq_np ?_
      refine reg_f ?_
      refine rk 5 ?_
      refine rf [(1,.ptr 0 0),(2,.ptr 1 0),(4,iS i15),(73,bS (decide (i15 < (p.Code.length:Int))))] [(0,.row 25 (Enc.cells p)),(1,.row 31 [iS 0,iS 0])] 2 (by kernel_rfl) ?_
      refine wk_id ?_
      refine cond_sx h (by kernel_rfl) (fun g1677 h=>?_) (fun g1677 h=>?_)
      ·refine wk_id ?_
       refine seq_np ?_
       refine block_np ?_
       refine chk_sx h (fun g1640 h=>?_)
       refine seq_np ?_
       refine reg_f ?_
       have k1639:0≤i15∧i15 < (p.Code.length:Int):=by first | simpa only [Bool.and_eq_true,decide_eq_true_eq,bne_iff_ne,ne_eq] using g1640 | (simp at g1640 ⊢; omega) | simp
       refine rs 7 [none,none,none,some ⟨.iptr (fl p.Code) ((i15).toNat * 3),[],2,[]⟩,some ⟨.agg (Enc.cells (ix p.Code i15)),[],2,[]⟩] _ (by kernel_rfl) (allP_cons (ob_ldw p.Code i15 3 ((i15).toNat * 3) k1639 rfl (by first | rfl | omega) (Enc.cells (ix p.Code i15)) rfl 2 []) (allP_cons (ob_ix_l p.Code 3 2 i15 k1639) allP_nil)) ?_
       refine rf [(1,.ptr 0 0),(2,.ptr 1 0),(4,iS i15),(5,.ptr 2 0)] [(0,.row 25 (Enc.cells p)),(1,.row 31 [iS 0,iS 0]),(2,.row 38 (Enc.cells (ix p.Code i15)))] 3 (by kernel_rfl) ?_
       refine wk_id ?_
       refine seq_np ?_
       refine seq_cut (A:=Unit) (fun _=>([(1,.ptr 0 0),(2,.ptr 1 0),(4,iS i15),(5,.ptr 2 0),(88,bS ((decide ((ix p.Code i15).Op < 1)) || (decide ((22:Int) < (ix p.Code i15).Op))))],[(0,.row 25 (Enc.cells p)),(1,.row 31 [iS 0,iS 0]),(2,.row 38 (Enc.cells (ix p.Code i15)))],3)) (fun _=>True) (fun K1645 hK1645=>?_) (fun _ _=>?_)
       ·refine reg_f ?_
        refine rk 4 ?_
        refine run_split 84 (decide ((ix p.Code i15).Op < 1)) (.inl (by kernel_rfl)) (fun g1646=>?_) (fun g1646=>?_)
        ·refine rk 4 ?_
         refine rf [(1,.ptr 0 0),(2,.ptr 1 0),(4,iS i15),(5,.ptr 2 0),(88,bS true)] [(0,.row 25 (Enc.cells p)),(1,.row 31 [iS 0,iS 0]),(2,.row 38 (Enc.cells (ix p.Code i15)))] 3 (by kernel_rfl) ?_
         exact hK1645 () _ _ _ trivial (leSt_m [(0,0),(1,1),(2,2)] [] (by (try simp only [g1646]) <;> simp only [push_cast,seval]) (by (try simp only [g1646]) <;> simp only [push_cast,seval]) rfl rfl rfl)
        ·refine rk 4 ?_
         refine rf [(1,.ptr 0 0),(2,.ptr 1 0),(4,iS i15),(5,.ptr 2 0),(88,bS (decide ((22:Int) < (ix p.Code i15).Op)))] [(0,.row 25 (Enc.cells p)),(1,.row 31 [iS 0,iS 0]),(2,.row 38 (Enc.cells (ix p.Code i15)))] 3 (by kernel_rfl) ?_
         exact hK1645 () _ _ _ trivial (leSt_m [(0,0),(1,1),(2,2)] [] (by (try simp only [g1646]) <;> simp only [push_cast,seval]) (by (try simp only [g1646]) <;> simp only [push_cast,seval]) rfl rfl rfl)
       ·dsimp only
        refine cond_sx h (by kernel_rfl) (fun g1676 h=>?_) (fun g1676 h=>?_)
        ·refine seq_np ?_
         refine reg_f ?_
         refine rk 1 ?_
         obtain ⟨r1648,hr1648,h⟩:=bind_sx h
         refine run_call 14 [iS 4,iS i15] (some 90) (by kernel_rfl) ?_
         refine call_0 (taskmillref_F_spec 4 i15 r1648 hr1648) (by simp only [push_cast,seval]) (by simp only [push_cast,seval]) ?_
         refine back_f ?_
         refine rk 1 ?_
         refine rf [(2,.ptr 1 0)] [(0,.row 25 (Enc.cells p)),(1,.row 31 (Enc.cells r1648)),(2,.row 38 (Enc.cells (ix p.Code i15)))] 3 (by kernel_rfl) ?_
         refine wk_id ?_
         refine rt_cast ht4 ?_
         obtain ⟨r0,h,e0⟩:=map_sx h
         have e1:=hr4 r0 e0.symm
         subst r0
         obtain rfl:=Option.some.inj h
         refine ret_at (.agg (Enc.cells r1648)) (by kernel_rfl) ?_
         exact ret_e [] [] (by simp only [push_cast,seval]) (by simp only [push_cast,seval]) rfl rfl rfl
        ·refine wk_id ?_
         refine chk_sx h (fun g1663 h=>?_)
         refine chk_sx h (fun g1665 h=>?_)
         refine seq_cut (A:=Bool) (fun a=>([(1,.ptr 0 0),(2,.ptr 1 0),(4,iS i15),(114,bS a)],[(0,.row 25 (Enc.cells p)),(1,.row 31 [iS 0,iS 0])],2)) (fun a=>(taskmillref_ProgramFault_j1 p i15 a) = some o4) (fun K1661 hK1661=>?_) ?_
         ·refine reg_t ?_
          have k1662:0≤(ix p.Code i15).Op∧(ix p.Code i15).Op < (refArgs.length:Int):=by first | simpa only [Bool.and_eq_true,decide_eq_true_eq,bne_iff_ne,ne_eq] using g1663 | (simp at g1663 ⊢; omega) | simp
          have k1664:0≤(0:Int)∧(0:Int) < ((((ix refArgs (ix p.Code i15).Op)).size:Nat):Int):=by first | simpa only [Bool.and_eq_true,decide_eq_true_eq,bne_iff_ne,ne_eq] using g1665 | (simp at g1665 ⊢; omega) | simp
          refine rs 9 [none,none,none,none,some ⟨.iptr (fl refArgs) (((ix p.Code i15).Op).toNat * 1),[],7,[]⟩,some ⟨.v (.string (ix refArgs (ix p.Code i15).Op)),[],8,[]⟩,some ⟨.v (.int .u8 ((((ix refArgs (ix p.Code i15).Op)).data.getD ((0:Int)).toNat 0).toNat:Int)),[],9,[]⟩] _ (by kernel_rfl) (allP_cons (ob_p (v:=.v (.int .u8 ((((ix refArgs (ix p.Code i15).Op)).data.getD ((0:Int)).toNat 0).toNat:Int))) (nx:=9) (r:=[]) k1664) (allP_cons (ob_ld refArgs (ix p.Code i15).Op 1 0 (((ix p.Code i15).Op).toNat * 1) k1662 rfl (by decide) (by first | rfl | omega) (dflS Tryd.prog 9) (.v (.string (ix refArgs (ix p.Code i15).Op))) rfl 8 []) (allP_cons (ob_ix_l refArgs 1 7 (ix p.Code i15).Op k1662) allP_nil))) ?_
          obtain ⟨r1666,hr1666,h⟩:=bind_sx h
          refine run_call 27 [.agg (Enc.cells p),.v (.int .u8 ((((ix refArgs (ix p.Code i15).Op)).data.getD ((0:Int)).toNat 0).toNat:Int)),iS (ix p.Code i15).A] (some 100) (by kernel_rfl) ?_
          refine callE_0 (taskmillref_ArgOk_spec p ((((ix refArgs (ix p.Code i15).Op)).data.getD ((0:Int)).toNat 0).toNat:Int) (ix p.Code i15).A r1666 hr1666) (by simp only [push_cast,seval]) (by simp only [push_cast,seval]) ?_
          refine back_t ?_
          refine rk 2 ?_
          refine run_br h 102 (.inl (by kernel_rfl)) (fun g1667 h=>?_) (fun g1667 h=>?_)
          ·refine rk 12 ?_
           refine rt [(1,.ptr 0 0),(2,.ptr 1 0),(4,iS i15),(114,bS true)] [(0,.row 25 (Enc.cells p)),(1,.row 31 [iS 0,iS 0]),(2,.row 38 (Enc.cells (ix p.Code i15)))] 27 follows (by kernel_rfl) ?_
           exact hK1661 (true) _ _ _ h (leSt_m [(0,0),(1,1)] [] (by (try simp only [g1667]) <;> simp only [push_cast,seval]) (by (try simp only [g1667]) <;> simp only [push_cast,seval]) rfl rfl rfl)
          ·refine chk_sx h (fun g1669 h=>?_)
           have k1668:0≤(ix p.Code i15).Op∧(ix p.Code i15).Op < (refArgs.length:Int):=by first | simpa only [Bool.and_eq_true,decide_eq_true_eq,bne_iff_ne,ne_eq] using g1669 | (simp at g1669 ⊢; omega) | simp
           refine chk_sx h (fun g1671 h=>?_)
           have k1670:0≤(1:Int)∧(1:Int) < ((((ix refArgs (ix p.Code i15).Op)).size:Nat):Int):=by first | simpa only [Bool.and_eq_true,decide_eq_true_eq,bne_iff_ne,ne_eq] using g1671 | (simp at g1671 ⊢; omega) | simp
           refine rs 9 [none,none,none,none,some ⟨.iptr (fl refArgs) (((ix p.Code i15).Op).toNat * 1),[],19,[]⟩,some ⟨.v (.string (ix refArgs (ix p.Code i15).Op)),[],20,[]⟩,some ⟨.v (.int .u8 ((((ix refArgs (ix p.Code i15).Op)).data.getD ((1:Int)).toNat 0).toNat:Int)),[],21,[]⟩] _ (by kernel_rfl) (allP_cons (ob_p (v:=.v (.int .u8 ((((ix refArgs (ix p.Code i15).Op)).data.getD ((1:Int)).toNat 0).toNat:Int))) (nx:=21) (r:=[]) k1670) (allP_cons (ob_ld refArgs (ix p.Code i15).Op 1 0 (((ix p.Code i15).Op).toNat * 1) k1668 rfl (by decide) (by first | rfl | omega) (dflS Tryd.prog 9) (.v (.string (ix refArgs (ix p.Code i15).Op))) rfl 20 []) (allP_cons (ob_ix_l refArgs 1 19 (ix p.Code i15).Op k1668) allP_nil))) ?_
           obtain ⟨r1672,hr1672,h⟩:=bind_sx h
           refine run_call 27 [.agg (Enc.cells p),.v (.int .u8 ((((ix refArgs (ix p.Code i15).Op)).data.getD ((1:Int)).toNat 0).toNat:Int)),iS (ix p.Code i15).B] (some 112) (by kernel_rfl) ?_
           refine callE_0 (taskmillref_ArgOk_spec p ((((ix refArgs (ix p.Code i15).Op)).data.getD ((1:Int)).toNat 0).toNat:Int) (ix p.Code i15).B r1672 hr1672) (by simp only [push_cast,seval]) (by simp only [push_cast,seval]) ?_
           refine back_t ?_
           refine rk 2 ?_
           refine rt [(1,.ptr 0 0),(2,.ptr 1 0),(4,iS i15),(114,bS (!r1672))] [(0,.row 25 (Enc.cells p)),(1,.row 31 [iS 0,iS 0]),(2,.row 38 (Enc.cells (ix p.Code i15)))] 27 follows (by kernel_rfl) ?_
           exact hK1661 ((!r1672)) _ _ _ h (leSt_m [(0,0),(1,1)] [] (by (try simp only [g1667]) <;> simp only [push_cast,seval]) (by (try simp only [g1667]) <;> simp only [push_cast,seval]) rfl rfl rfl)
         ·rintro t114q13 h
          try dsimp only at h ⊢
          unfold taskmillref_ProgramFault_j1 at h
          refine cond_sx h (by kernel_rfl) (fun g1675 h=>?_) (fun g1675 h=>?_)
          ·refine seq_np ?_
           refine reg_f ?_
           refine rk 1 ?_
           obtain ⟨r1674,hr1674,h⟩:=bind_sx h
           refine run_call 14 [iS 5,iS i15] (some 116) (by kernel_rfl) ?_
           refine call_0 (taskmillref_F_spec 5 i15 r1674 hr1674) (by simp only [push_cast,seval]) (by simp only [push_cast,seval]) ?_
           refine back_f ?_
           refine rk 1 ?_
           refine rf [(2,.ptr 1 0)] [(0,.row 25 (Enc.cells p)),(1,.row 31 (Enc.cells r1674))] 2 (by kernel_rfl) ?_
           refine wk_id ?_
           refine rt_cast ht4 ?_
           obtain ⟨r0,h,e0⟩:=map_sx h
           have e1:=hr4 r0 e0.symm
           subst r0
           obtain rfl:=Option.some.inj h
           refine ret_at (.agg (Enc.cells r1674)) (by kernel_rfl) ?_
           exact ret_e [] [] (by simp only [push_cast,seval]) (by simp only [push_cast,seval]) rfl rfl rfl
          ·refine wk_id ?_
           refine wk_id ?_
           refine reg_f ?_
           refine rk 3 ?_
           refine rf [(1,.ptr 0 0),(2,.ptr 1 0),(4,iS (IntKind.i64.wrap (i15+1)))] [(0,.row 25 (Enc.cells p)),(1,.row 31 [iS 0,iS 0])] 2 (by kernel_rfl) ?_
           exact hn4 ((IntKind.i64.wrap (i15+1))) _ _ _ (Option.some.inj h).symm (leSt_m [(0,0),(1,1)] [] (by simp only [push_cast,seval]) (by simp only [push_cast,seval]) rfl rfl rfl)
      ·change R4 (.exit 2) _ _ _
       refine ex_cast hx4 (id:=2) ?_
       obtain ⟨r0,h,e0⟩:=map_sx h
       have e1:=hr4 r0 e0.symm
       subst r0
       refine wk_id ?_
       refine wk_id ?_
       refine seq_np ?_
       refine reg_f ?_
       refine rk 2 ?_
       refine rf [(2,.ptr 1 0)] [(0,.row 25 (Enc.cells p)),(1,.row 31 [iS 0,iS 0])] 2 (by kernel_rfl) ?_
       refine wk_id ?_
       obtain rfl:=Option.some.inj h
       refine ret_at (.agg [iS 0,iS 0]) (by kernel_rfl) ?_
       exact ret_e [] [] (by simp only [push_cast,seval]) (by simp only [push_cast,seval]) rfl rfl rfl

set_option maxRecDepth 100000 in
set_option maxHeartbeats 200000000 in
theorem taskmillref_Decimal_n_spec:∀ (fu:Nat) (n:Int) (r:ByteArray),taskmillref_Decimal_n fu n = some r→SpecW Tryd.prog 45 [iS n] [] 0 (fun x h n=>x = .v (.string r)∧h = []∧n = 0):=by
 intro fu
 induction fu with
 | zero=>intro n r h; exact absurd (show (none:Option (ByteArray)) = some r from h) (by simp)
 | succ fu ih =>
  intro n r h
  have h:taskmillref_Decimal_b (taskmillref_Decimal_n fu) n = some r:=h
  generalize taskmillref_Decimal_n fu = rcf at ih h
  unfold taskmillref_Decimal_b at h
  refine spec_of (draw_ok _) Tryd.func45 rfl (by decide) rfl (by kernel_rfl) ?_
  refine seq_np ?_
  refine reg_f ?_
  refine rk 1 ?_
  refine rf [(0,iS n)] [] 0 (by kernel_rfl) ?_
  refine wk_id ?_
  refine seq_np ?_
  refine seq_np ?_
  refine reg_f ?_
  refine rk 2 ?_
  refine rf [(0,iS n),(4,bS (n == (-9223372036854775808)))] [] 0 (by kernel_rfl) ?_
  refine wk_id ?_
  refine cond_sx h (by kernel_rfl) (fun g1752 h=>?_) (fun g1752 h=>?_)
  ·refine seq_np ?_
   refine reg_f ?_
   refine rk 1 ?_
   refine rf [(2,.v (.string (ByteArray.mk #[45,57,50,50,51,51,55,50,48,51,54,56,53,52,55,55,53,56,48,56])))] [] 0 (by kernel_rfl) ?_
   refine wk_id ?_
   obtain rfl:=Option.some.inj h
   refine ret_at (.v (.string (ByteArray.mk #[45,57,50,50,51,51,55,50,48,51,54,56,53,52,55,55,53,56,48,56]))) (by kernel_rfl) ?_
   exact ret_e [] [] (by simp only [push_cast,seval]) (by simp only [push_cast,seval]) rfl rfl rfl
  ·refine wk_id ?_
   refine seq_np ?_
   refine seq_np ?_
   refine reg_f ?_
   refine rk 2 ?_
   refine rf [(0,iS n),(6,bS (decide (n < 0)))] [] 0 (by kernel_rfl) ?_
   refine wk_id ?_
   refine cond_sx h (by kernel_rfl) (fun g1751 h=>?_) (fun g1751 h=>?_)
   ·refine seq_np ?_
    refine reg_f ?_
    refine rk 2 ?_
    obtain ⟨r1740,hr1740,h⟩:=bind_sx h
    refine run_call 45 [iS (IntKind.i64.wrap (0 - n))] (some 9) (by kernel_rfl) ?_
    refine call_0 (ih (IntKind.i64.wrap (0 - n)) r1740 hr1740) (by simp only [push_cast,seval]) (by simp only [push_cast,seval]) ?_
    refine back_f ?_
    refine chk_sx h (fun g1742 h=>?_)
    have k1741:((ByteArray.mk #[45])).size+(r1740).size≤9223372036854775807:=by first | simpa only [Bool.and_eq_true,decide_eq_true_eq,bne_iff_ne,ne_eq] using g1742 | (simp at g1742 ⊢; omega) | simp
    refine rs 2 [some ⟨.v (.string ((ByteArray.mk #[45])++r1740)),[],0,[]⟩] _ (by kernel_rfl) (allP_cons (ob_p (v:=.v (.string ((ByteArray.mk #[45])++r1740))) (nx:=0) (r:=[]) k1741) allP_nil) ?_
    refine rf [(2,.v (.string ((ByteArray.mk #[45])++r1740)))] [] 0 (by kernel_rfl) ?_
    refine wk_id ?_
    obtain rfl:=Option.some.inj h
    refine ret_at (.v (.string ((ByteArray.mk #[45])++r1740))) (by kernel_rfl) ?_
    exact ret_e [] [] (by simp only [push_cast,seval]) (by simp only [push_cast,seval]) rfl rfl rfl
   ·refine wk_id ?_
    refine seq_np ?_
    refine seq_np ?_
    refine reg_f ?_
    refine rk 2 ?_
    refine rf [(0,iS n),(12,bS (decide (n < 10)))] [] 0 (by kernel_rfl) ?_
    refine wk_id ?_
    refine cond_sx h (by kernel_rfl) (fun g1750 h=>?_) (fun g1750 h=>?_)
    ·refine seq_np ?_
     refine reg_f ?_
     refine rs 6 [none,none,none,none,some ⟨.v (.string (bytL (([(Ku8.mk (IntKind.u8.wrap (IntKind.i64.wrap ((48:Int)+n))))]:List Ku8).map Ku8.v))),[],1,[0]⟩] _ (by kernel_rfl) (allP_cons (ob_str_o .u8 bytL Ku8.v (fun _=>rfl) ([(Ku8.mk (IntKind.u8.wrap (IntKind.i64.wrap ((48:Int)+n))))]:List Ku8) 0 1) allP_nil) ?_
     refine rf [(2,.v (.string (bytL (([(Ku8.mk (IntKind.u8.wrap (IntKind.i64.wrap ((48:Int)+n))))]:List Ku8).map Ku8.v))))] [(0,.row 5 (fl ([(Ku8.mk (IntKind.u8.wrap (IntKind.i64.wrap ((48:Int)+n))))]:List Ku8)))] 1 (by kernel_rfl) ?_
     refine wk_id ?_
     obtain rfl:=Option.some.inj h
     refine ret_at (.v (.string (bytL (([(Ku8.mk (IntKind.u8.wrap (IntKind.i64.wrap ((48:Int)+n))))]:List Ku8).map Ku8.v)))) (by kernel_rfl) ?_
     exact ret_e [] [] (by simp only [push_cast,seval]) (by simp only [push_cast,seval]) rfl rfl rfl
    ·refine wk_id ?_
     refine seq_np ?_
     refine reg_t ?_
     refine rk 2 ?_
     obtain ⟨r1747,hr1747,h⟩:=bind_sx h
     refine run_call 45 [iS (IntKind.i64.wrap (Int.tdiv n 10))] (some 20) (by kernel_rfl) ?_
     refine callE_0 (ih (IntKind.i64.wrap (Int.tdiv n 10)) r1747 hr1747) (by simp only [push_cast,seval]) (by simp only [push_cast,seval]) ?_
     refine back_t ?_
     refine chk_sx h (fun g1749 h=>?_)
     have k1748:(r1747).size+((bytL (([(Ku8.mk (IntKind.u8.wrap (IntKind.i64.wrap ((48:Int)+(Int.tmod n 10)))))]:List Ku8).map Ku8.v))).size≤9223372036854775807:=by first | simpa only [Bool.and_eq_true,decide_eq_true_eq,bne_iff_ne,ne_eq] using g1749 | (simp at g1749 ⊢; omega) | simp
     refine rs 8 [none,none,none,none,none,some ⟨.v (.string (bytL (([(Ku8.mk (IntKind.u8.wrap (IntKind.i64.wrap ((48:Int)+(Int.tmod n 10)))))]:List Ku8).map Ku8.v))),[],9,[7]⟩,some ⟨.v (.string (r1747++(bytL (([(Ku8.mk (IntKind.u8.wrap (IntKind.i64.wrap ((48:Int)+(Int.tmod n 10)))))]:List Ku8).map Ku8.v)))),[],10,[]⟩] _ (by kernel_rfl) (allP_cons (ob_p (v:=.v (.string (r1747++(bytL (([(Ku8.mk (IntKind.u8.wrap (IntKind.i64.wrap ((48:Int)+(Int.tmod n 10)))))]:List Ku8).map Ku8.v))))) (nx:=10) (r:=[]) k1748) (allP_cons (ob_str_o .u8 bytL Ku8.v (fun _=>rfl) ([(Ku8.mk (IntKind.u8.wrap (IntKind.i64.wrap ((48:Int)+(Int.tmod n 10)))))]:List Ku8) 7 9) allP_nil)) ?_
     refine rt [(2,.v (.string (r1747++(bytL (([(Ku8.mk (IntKind.u8.wrap (IntKind.i64.wrap ((48:Int)+(Int.tmod n 10)))))]:List Ku8).map Ku8.v)))))] [(7,.row 5 (fl ([(Ku8.mk (IntKind.u8.wrap (IntKind.i64.wrap ((48:Int)+(Int.tmod n 10)))))]:List Ku8)))] 12 follows (by kernel_rfl) ?_
     refine wk_id ?_
     obtain rfl:=Option.some.inj h
     refine ret_at (.v (.string (r1747++(bytL (([(Ku8.mk (IntKind.u8.wrap (IntKind.i64.wrap ((48:Int)+(Int.tmod n 10)))))]:List Ku8).map Ku8.v))))) (by kernel_rfl) ?_
     exact ret_e [] [] (by simp only [push_cast,seval]) (by simp only [push_cast,seval]) rfl rfl rfl
set_option maxRecDepth 100000 in
theorem taskmillref_Decimal_spec (n:Int) (r:ByteArray) (h:taskmillref_Decimal n = some r):SpecW Tryd.prog 45 [iS n] [] 0 (fun x h n=>x = .v (.string r)∧h = []∧n = 0):=taskmillref_Decimal_n_spec 5000 n r h

set_option maxRecDepth 100000 in
set_option maxHeartbeats 200000000 in
theorem taskmillref_LineOf_spec (c:GInstr) (r:ByteArray) (h:taskmillref_LineOf c = some r):SpecW Tryd.prog 34 [.agg (Enc.cells c)] [] 0 (fun x h n=>x = .v (.string r)∧h = []∧n = 0):=by
 unfold taskmillref_LineOf at h
 refine spec_of (draw_ok _) Tryd.func34 rfl (by decide) rfl (by kernel_rfl) ?_
 refine seq_np ?_
 refine reg_f ?_
 refine rk 2 ?_
 refine rf [(1,.ptr 0 0)] [(0,.row 38 (Enc.cells c))] 1 (by kernel_rfl) ?_
 refine wk_id ?_
 refine chk_sx h (fun g1832 h=>?_)
 refine seq_np ?_
 refine reg_f ?_
 have k1831:0≤c.Op∧c.Op < (refNames.length:Int):=by first | simpa only [Bool.and_eq_true,decide_eq_true_eq,bne_iff_ne,ne_eq] using g1832 | (simp at g1832 ⊢; omega) | simp
 refine rs 6 [none,none,none,some ⟨.iptr (fl refNames) ((c.Op).toNat * 1),[],1,[]⟩,some ⟨.v (.string (ix refNames c.Op)),[],1,[]⟩] _ (by kernel_rfl) (allP_cons (ob_ld refNames c.Op 1 0 ((c.Op).toNat * 1) k1831 rfl (by decide) (by first | rfl | omega) (dflS Tryd.prog 9) (.v (.string (ix refNames c.Op))) rfl 1 []) (allP_cons (ob_ix_l refNames 1 1 c.Op k1831) allP_nil)) ?_
 refine rf [(1,.ptr 0 0),(3,.v (.string (ix refNames c.Op)))] [(0,.row 38 (Enc.cells c))] 1 (by kernel_rfl) ?_
 refine wk_id ?_
 refine seq_np ?_
 refine reg_f ?_
 refine rk 6 ?_
 refine rf [(1,.ptr 0 0),(3,.v (.string (ix refNames c.Op))),(4,.own 1 0 ([c.A,c.B]:List Int).length)] [(0,.row 38 (Enc.cells c)),(1,.row 3 (fl ([c.A,c.B]:List Int)))] 2 (by kernel_rfl) ?_
 refine wk_id ?_
 refine seq_np ?_
 refine seq_np ?_
 refine reg_f ?_
 refine rk 1 ?_
 refine rf [(1,.ptr 0 0),(3,.v (.string (ix refNames c.Op))),(4,.own 1 0 ([c.A,c.B]:List Int).length),(5,iS 0)] [(0,.row 38 (Enc.cells c)),(1,.row 3 (fl ([c.A,c.B]:List Int)))] 2 (by kernel_rfl) ?_
 refine wk_id ?_
 refine block_np ?_
 refine loop_sx (S:=ByteArray×Int) (fun a=>([(1,.ptr 0 0),(3,.v (.string a.1)),(4,.own 1 0 ([c.A,c.B]:List Int).length),(5,iS a.2)],[(0,.row 38 (Enc.cells c)),(1,.row 3 (fl ([c.A,c.B]:List Int)))],2)) h (leSt_m [(0,0),(1,1)] [] (by simp only [push_cast,seval]) (by simp only [push_cast,seval]) rfl rfl rfl) ?_
 rintro ⟨s29,i7⟩ o2 R2 h hr2 hn2 hx2 ht2
 try dsimp only at h hn2 ⊢
 unfold taskmillref_LineOf_l1 at h
 try dsimp only at h
 refine seq_np ?_
 refine seq_np ?_
 refine reg_f ?_
 refine rk 2 ?_
 refine rf [(1,.ptr 0 0),(3,.v (.string s29)),(4,.own 1 0 ([c.A,c.B]:List Int).length),(5,iS i7),(17,bS (decide (i7 < 2)))] [(0,.row 38 (Enc.cells c)),(1,.row 3 (fl ([c.A,c.B]:List Int)))] 2 (by kernel_rfl) ?_
 refine wk_id ?_
 refine cond_sx h (by kernel_rfl) (fun g2286 h=>?_) (fun g2286 h=>?_)
 ·refine wk_id ?_
  refine seq_np ?_
  refine block_cut (A:=ByteArray) (fun a=>([(1,.ptr 0 0),(3,.v (.string a)),(4,.own 1 0 ([c.A,c.B]:List Int).length),(5,iS i7)],[(0,.row 38 (Enc.cells c)),(1,.row 3 (fl ([c.A,c.B]:List Int)))],2)) (fun a=>(taskmillref_LineOf_j1 c i7 a) = some o2) (fun K2181 hK2181=>?_) ?_
  ·refine seq_np ?_
   refine chk_sx h (fun g2214 h=>?_)
   refine chk_sx h (fun g2216 h=>?_)
   refine seq_np ?_
   refine reg_f ?_
   have k2213:0≤c.Op∧c.Op < (refArgs.length:Int):=by first | simpa only [Bool.and_eq_true,decide_eq_true_eq,bne_iff_ne,ne_eq] using g2214 | (simp at g2214 ⊢; omega) | simp
   have k2215:0≤i7∧i7 < ((((ix refArgs c.Op)).size:Nat):Int):=by first | simpa only [Bool.and_eq_true,decide_eq_true_eq,bne_iff_ne,ne_eq] using g2216 | (simp at g2216 ⊢; omega) | simp
   refine rs 7 [none,none,none,some ⟨.iptr (fl refArgs) ((c.Op).toNat * 1),[],2,[]⟩,some ⟨.v (.string (ix refArgs c.Op)),[],2,[]⟩,none,some ⟨.v (.int .u8 ((((ix refArgs c.Op)).data.getD (i7).toNat 0).toNat:Int)),[],2,[]⟩] _ (by kernel_rfl) (allP_cons (ob_p (v:=.v (.int .u8 ((((ix refArgs c.Op)).data.getD (i7).toNat 0).toNat:Int))) (nx:=2) (r:=[]) k2215) (allP_cons (ob_ld refArgs c.Op 1 0 ((c.Op).toNat * 1) k2213 rfl (by decide) (by first | rfl | omega) (dflS Tryd.prog 9) (.v (.string (ix refArgs c.Op))) rfl 2 []) (allP_cons (ob_ix_l refArgs 1 2 c.Op k2213) allP_nil))) ?_
   refine rf [(1,.ptr 0 0),(3,.v (.string s29)),(4,.own 1 0 ([c.A,c.B]:List Int).length),(5,iS i7),(26,.v (.int .u8 ((((ix refArgs c.Op)).data.getD (i7).toNat 0).toNat:Int)))] [(0,.row 38 (Enc.cells c)),(1,.row 3 (fl ([c.A,c.B]:List Int)))] 2 (by kernel_rfl) ?_
   refine wk_id ?_
   refine block_cut (A:=ByteArray) (fun a=>([(1,.ptr 0 0),(3,.v (.string a)),(4,.own 1 0 ([c.A,c.B]:List Int).length),(5,iS i7)],[(0,.row 38 (Enc.cells c)),(1,.row 3 (fl ([c.A,c.B]:List Int)))],2)) (fun a=>(taskmillref_LineOf_j2 c i7 a) = some o2) (fun K2239 hK2239=>?_) ?_
   ·refine seq_np ?_
    refine reg_f ?_
    refine rk 2 ?_
    refine rf [(1,.ptr 0 0),(3,.v (.string s29)),(4,.own 1 0 ([c.A,c.B]:List Int).length),(5,iS i7),(26,.v (.int .u8 ((((ix refArgs c.Op)).data.getD (i7).toNat 0).toNat:Int))),(39,bS (((((ix refArgs c.Op)).data.getD (i7).toNat 0).toNat:Int) == 45))] [(0,.row 38 (Enc.cells c)),(1,.row 3 (fl ([c.A,c.B]:List Int)))] 2 (by kernel_rfl) ?_
    refine wk_id ?_
    refine cond_sx h (by kernel_rfl) (fun g2275 h=>?_) (fun g2275 h=>?_)
    ·exact hK2181 (s29) _ _ _ h (leSt_m [(0,0),(1,1)] [] (by simp only [push_cast,seval]) (by simp only [push_cast,seval]) rfl rfl rfl)
    ·refine seq_cut (A:=Bool) (fun a=>([(1,.ptr 0 0),(3,.v (.string s29)),(4,.own 1 0 ([c.A,c.B]:List Int).length),(5,iS i7),(26,.v (.int .u8 ((((ix refArgs c.Op)).data.getD (i7).toNat 0).toNat:Int))),(41,bS a)],[(0,.row 38 (Enc.cells c)),(1,.row 3 (fl ([c.A,c.B]:List Int)))],2)) (fun a=>(taskmillref_LineOf_j3 c s29 i7 a) = some o2) (fun K2242 hK2242=>?_) ?_
     ·refine seq_np ?_
      refine reg_f ?_
      refine rk 2 ?_
      refine rf [(1,.ptr 0 0),(3,.v (.string s29)),(4,.own 1 0 ([c.A,c.B]:List Int).length),(5,iS i7),(26,.v (.int .u8 ((((ix refArgs c.Op)).data.getD (i7).toNat 0).toNat:Int))),(41,bS (((((ix refArgs c.Op)).data.getD (i7).toNat 0).toNat:Int) == 110))] [(0,.row 38 (Enc.cells c)),(1,.row 3 (fl ([c.A,c.B]:List Int)))] 2 (by kernel_rfl) ?_
      refine wk_id ?_
      refine cond_sx h (by kernel_rfl) (fun g2243 h=>?_) (fun g2243 h=>?_)
      ·exact hK2242 ((((((ix refArgs c.Op)).data.getD (i7).toNat 0).toNat:Int) == 110)) _ _ _ h (leSt_m [(0,0),(1,1)] [] (by simp only [push_cast,seval]) (by simp only [push_cast,seval]) rfl rfl rfl)
      ·refine reg_f ?_
       refine rk 2 ?_
       refine rf [(1,.ptr 0 0),(3,.v (.string s29)),(4,.own 1 0 ([c.A,c.B]:List Int).length),(5,iS i7),(26,.v (.int .u8 ((((ix refArgs c.Op)).data.getD (i7).toNat 0).toNat:Int))),(41,bS (((((ix refArgs c.Op)).data.getD (i7).toNat 0).toNat:Int) == 107))] [(0,.row 38 (Enc.cells c)),(1,.row 3 (fl ([c.A,c.B]:List Int)))] 2 (by kernel_rfl) ?_
       exact hK2242 ((((((ix refArgs c.Op)).data.getD (i7).toNat 0).toNat:Int) == 107)) _ _ _ h (leSt_m [(0,0),(1,1)] [] (by simp only [push_cast,seval]) (by simp only [push_cast,seval]) rfl rfl rfl)
     ·rintro t41q15 h
      try dsimp only at h ⊢
      unfold taskmillref_LineOf_j3 at h
      refine cond_sx h (by kernel_rfl) (fun g2274 h=>?_) (fun g2274 h=>?_)
      ·refine chk_sx h (fun g2247 h=>?_)
       refine reg_f ?_
       have k2246:(s29).size+((ByteArray.mk #[32])).size≤9223372036854775807:=by first | simpa only [Bool.and_eq_true,decide_eq_true_eq,bne_iff_ne,ne_eq] using g2247 | (simp at g2247 ⊢; omega) | simp
       refine rs 3 [none,some ⟨.v (.string (s29++(ByteArray.mk #[32]))),[],2,[]⟩] _ (by kernel_rfl) (allP_cons (ob_p (v:=.v (.string (s29++(ByteArray.mk #[32])))) (nx:=2) (r:=[]) k2246) allP_nil) ?_
       refine rf [(1,.ptr 0 0),(3,.v (.string (s29++(ByteArray.mk #[32])))),(4,.own 1 0 ([c.A,c.B]:List Int).length),(5,iS i7)] [(0,.row 38 (Enc.cells c)),(1,.row 3 (fl ([c.A,c.B]:List Int)))] 2 (by kernel_rfl) ?_
       exact hK2239 ((s29++(ByteArray.mk #[32]))) _ _ _ h (leSt_m [(0,0),(1,1)] [] (by simp only [push_cast,seval]) (by simp only [push_cast,seval]) rfl rfl rfl)
      ·refine seq_np ?_
       refine reg_f ?_
       refine rk 2 ?_
       refine rf [(1,.ptr 0 0),(3,.v (.string s29)),(4,.own 1 0 ([c.A,c.B]:List Int).length),(5,iS i7),(26,.v (.int .u8 ((((ix refArgs c.Op)).data.getD (i7).toNat 0).toNat:Int))),(46,bS (((((ix refArgs c.Op)).data.getD (i7).toNat 0).toNat:Int) == 99))] [(0,.row 38 (Enc.cells c)),(1,.row 3 (fl ([c.A,c.B]:List Int)))] 2 (by kernel_rfl) ?_
       refine wk_id ?_
       refine cond_sx h (by kernel_rfl) (fun g2273 h=>?_) (fun g2273 h=>?_)
       ·refine chk_sx h (fun g2251 h=>?_)
        refine reg_f ?_
        have k2250:(s29).size+((ByteArray.mk #[32,64])).size≤9223372036854775807:=by first | simpa only [Bool.and_eq_true,decide_eq_true_eq,bne_iff_ne,ne_eq] using g2251 | (simp at g2251 ⊢; omega) | simp
        refine rs 3 [none,some ⟨.v (.string (s29++(ByteArray.mk #[32,64]))),[],2,[]⟩] _ (by kernel_rfl) (allP_cons (ob_p (v:=.v (.string (s29++(ByteArray.mk #[32,64])))) (nx:=2) (r:=[]) k2250) allP_nil) ?_
        refine rf [(1,.ptr 0 0),(3,.v (.string (s29++(ByteArray.mk #[32,64])))),(4,.own 1 0 ([c.A,c.B]:List Int).length),(5,iS i7)] [(0,.row 38 (Enc.cells c)),(1,.row 3 (fl ([c.A,c.B]:List Int)))] 2 (by kernel_rfl) ?_
        exact hK2239 ((s29++(ByteArray.mk #[32,64]))) _ _ _ h (leSt_m [(0,0),(1,1)] [] (by simp only [push_cast,seval]) (by simp only [push_cast,seval]) rfl rfl rfl)
       ·refine seq_np ?_
        refine reg_f ?_
        refine rk 2 ?_
        refine rf [(1,.ptr 0 0),(3,.v (.string s29)),(4,.own 1 0 ([c.A,c.B]:List Int).length),(5,iS i7),(50,bS (((((ix refArgs c.Op)).data.getD (i7).toNat 0).toNat:Int) == 109))] [(0,.row 38 (Enc.cells c)),(1,.row 3 (fl ([c.A,c.B]:List Int)))] 2 (by kernel_rfl) ?_
        refine wk_id ?_
        refine cond_sx h (by kernel_rfl) (fun g2272 h=>?_) (fun g2272 h=>?_)
        ·refine chk_sx h (fun g2255 h=>?_)
         refine reg_f ?_
         have k2254:(s29).size+((ByteArray.mk #[32,99])).size≤9223372036854775807:=by first | simpa only [Bool.and_eq_true,decide_eq_true_eq,bne_iff_ne,ne_eq] using g2255 | (simp at g2255 ⊢; omega) | simp
         refine rs 3 [none,some ⟨.v (.string (s29++(ByteArray.mk #[32,99]))),[],2,[]⟩] _ (by kernel_rfl) (allP_cons (ob_p (v:=.v (.string (s29++(ByteArray.mk #[32,99])))) (nx:=2) (r:=[]) k2254) allP_nil) ?_
         refine rf [(1,.ptr 0 0),(3,.v (.string (s29++(ByteArray.mk #[32,99])))),(4,.own 1 0 ([c.A,c.B]:List Int).length),(5,iS i7)] [(0,.row 38 (Enc.cells c)),(1,.row 3 (fl ([c.A,c.B]:List Int)))] 2 (by kernel_rfl) ?_
         exact hK2239 ((s29++(ByteArray.mk #[32,99]))) _ _ _ h (leSt_m [(0,0),(1,1)] [] (by simp only [push_cast,seval]) (by simp only [push_cast,seval]) rfl rfl rfl)
        ·refine chk_sx h (fun g2265 h=>?_)
         refine chk_sx h (fun g2267 h=>?_)
         refine chk_sx h (fun g2269 h=>?_)
         refine chk_sx h (fun g2271 h=>?_)
         refine reg_f ?_
         have k2264:(s29).size+((ByteArray.mk #[32])).size≤9223372036854775807:=by first | simpa only [Bool.and_eq_true,decide_eq_true_eq,bne_iff_ne,ne_eq] using g2265 | (simp at g2265 ⊢; omega) | simp
         have k2266:0≤c.Op∧c.Op < (refArgs.length:Int):=by first | simpa only [Bool.and_eq_true,decide_eq_true_eq,bne_iff_ne,ne_eq] using g2267 | (simp at g2267 ⊢; omega) | simp
         have k2268:0≤i7∧i7≤(IntKind.i64.wrap (i7+1))∧(IntKind.i64.wrap (i7+1))≤((((ix refArgs c.Op)).size:Nat):Int):=by first | simpa only [Bool.and_eq_true,decide_eq_true_eq,bne_iff_ne,ne_eq] using g2269 | (simp at g2269 ⊢; omega) | simp
         have k2270:((s29++(ByteArray.mk #[32]))).size+((((ix refArgs c.Op)).extract (i7).toNat ((IntKind.i64.wrap (i7+1))).toNat)).size≤9223372036854775807:=by first | simpa only [Bool.and_eq_true,decide_eq_true_eq,bne_iff_ne,ne_eq] using g2271 | (simp at g2271 ⊢; omega) | simp
         refine rs 13 [none,some ⟨.v (.string (s29++(ByteArray.mk #[32]))),[],2,[]⟩,none,none,none,some ⟨.iptr (fl refArgs) ((c.Op).toNat * 1),[],2,[]⟩,some ⟨.v (.string (ix refArgs c.Op)),[],2,[]⟩,none,none,none,some ⟨.v (.string (((ix refArgs c.Op)).extract (i7).toNat ((IntKind.i64.wrap (i7+1))).toNat)),[],2,[]⟩,some ⟨.v (.string ((s29++(ByteArray.mk #[32]))++(((ix refArgs c.Op)).extract (i7).toNat ((IntKind.i64.wrap (i7+1))).toNat))),[],2,[]⟩] _ (by kernel_rfl) (allP_cons (ob_p (v:=.v (.string ((s29++(ByteArray.mk #[32]))++(((ix refArgs c.Op)).extract (i7).toNat ((IntKind.i64.wrap (i7+1))).toNat)))) (nx:=2) (r:=[]) k2270) (allP_cons (ob_p (v:=.v (.string (((ix refArgs c.Op)).extract (i7).toNat ((IntKind.i64.wrap (i7+1))).toNat))) (nx:=2) (r:=[]) k2268) (allP_cons (ob_ld refArgs c.Op 1 0 ((c.Op).toNat * 1) k2266 rfl (by decide) (by first | rfl | omega) (dflS Tryd.prog 9) (.v (.string (ix refArgs c.Op))) rfl 2 []) (allP_cons (ob_ix_l refArgs 1 2 c.Op k2266) (allP_cons (ob_p (v:=.v (.string (s29++(ByteArray.mk #[32])))) (nx:=2) (r:=[]) k2264) allP_nil))))) ?_
         refine rf [(1,.ptr 0 0),(3,.v (.string ((s29++(ByteArray.mk #[32]))++(((ix refArgs c.Op)).extract (i7).toNat ((IntKind.i64.wrap (i7+1))).toNat)))),(4,.own 1 0 ([c.A,c.B]:List Int).length),(5,iS i7)] [(0,.row 38 (Enc.cells c)),(1,.row 3 (fl ([c.A,c.B]:List Int)))] 2 (by kernel_rfl) ?_
         exact hK2239 (((s29++(ByteArray.mk #[32]))++(((ix refArgs c.Op)).extract (i7).toNat ((IntKind.i64.wrap (i7+1))).toNat))) _ _ _ h (leSt_m [(0,0),(1,1)] [] (by simp only [push_cast,seval]) (by simp only [push_cast,seval]) rfl rfl rfl)
   ·rintro s35 h
    try dsimp only at h ⊢
    unfold taskmillref_LineOf_j2 at h
    refine wk_id ?_
    refine chk_sx h (fun g2282 h=>?_)
    refine reg_f ?_
    have k2281:0≤i7∧i7 < ((([c.A,c.B]:List Int).length:Nat):Int):=by first | simpa only [Bool.and_eq_true,decide_eq_true_eq,bne_iff_ne,ne_eq] using g2282 | (simp at g2282 ⊢; omega) | simp
    refine rs 5 [none,none,none,some ⟨.ptr 1 (0+(i7).toNat * 1),[],2,[1]⟩,some ⟨iS (ix ([c.A,c.B]:List Int) i7),[],2,[1]⟩] _ (by kernel_rfl) (allP_cons (ob_ld ([c.A,c.B]:List Int) i7 1 0 (0+(i7).toNat * 1) k2281 rfl (by decide) (by first | rfl | omega) (dflS Tryd.prog 3) (iS (ix ([c.A,c.B]:List Int) i7)) rfl 2 [1]) (allP_cons (ob_ix_o 1 ([c.A,c.B]:List Int).length 0 1 2 i7 k2281) allP_nil)) ?_
    obtain ⟨r2283,hr2283,h⟩:=bind_sx h
    refine run_call 45 [iS (ix ([c.A,c.B]:List Int) i7)] (some 59) (by kernel_rfl) ?_
    refine call_0 (taskmillref_Decimal_spec (ix ([c.A,c.B]:List Int) i7) r2283 hr2283) (by simp only [push_cast,seval]) (by simp only [push_cast,seval]) ?_
    refine back_f ?_
    refine chk_sx h (fun g2285 h=>?_)
    have k2284:(s35).size+(r2283).size≤9223372036854775807:=by first | simpa only [Bool.and_eq_true,decide_eq_true_eq,bne_iff_ne,ne_eq] using g2285 | (simp at g2285 ⊢; omega) | simp
    refine rs 2 [some ⟨.v (.string (s35++r2283)),[],2,[]⟩] _ (by kernel_rfl) (allP_cons (ob_p (v:=.v (.string (s35++r2283))) (nx:=2) (r:=[]) k2284) allP_nil) ?_
    refine rf [(1,.ptr 0 0),(3,.v (.string (s35++r2283))),(4,.own 1 0 ([c.A,c.B]:List Int).length),(5,iS i7)] [(0,.row 38 (Enc.cells c)),(1,.row 3 (fl ([c.A,c.B]:List Int)))] 2 (by kernel_rfl) ?_
    exact hK2181 ((s35++r2283)) _ _ _ h (leSt_m [(0,0),(1,1)] [] (by simp only [push_cast,seval]) (by simp only [push_cast,seval]) rfl rfl rfl)
  ·rintro s33 h
   try dsimp only at h ⊢
   unfold taskmillref_LineOf_j1 at h
   refine wk_id ?_
   refine reg_f ?_
   refine rk 3 ?_
   refine rf [(1,.ptr 0 0),(3,.v (.string s33)),(4,.own 1 0 ([c.A,c.B]:List Int).length),(5,iS (IntKind.i64.wrap (i7+1)))] [(0,.row 38 (Enc.cells c)),(1,.row 3 (fl ([c.A,c.B]:List Int)))] 2 (by kernel_rfl) ?_
   exact hn2 (s33,(IntKind.i64.wrap (i7+1))) _ _ _ (Option.some.inj h).symm (leSt_m [(0,0),(1,1)] [] (by simp only [push_cast,seval]) (by simp only [push_cast,seval]) rfl rfl rfl)
 ·change R2 (.exit 0) _ _ _
  refine ex_cast hx2 (id:=0) ?_
  obtain ⟨r0,h,e0⟩:=map_sx h
  have e1:=hr2 r0 e0.symm
  subst r0
  refine wk_id ?_
  refine wk_id ?_
  refine seq_np ?_
  refine reg_f ?_
  refine rk 2 ?_
  refine rf [(2,.v (.string s29))] [(0,.row 38 (Enc.cells c)),(1,.row 3 (fl ([c.A,c.B]:List Int)))] 2 (by kernel_rfl) ?_
  refine wk_id ?_
  obtain rfl:=Option.some.inj h
  refine ret_at (.v (.string s29)) (by kernel_rfl) ?_
  exact ret_e [] [] (by simp only [push_cast,seval]) (by simp only [push_cast,seval]) rfl rfl rfl

set_option maxRecDepth 100000 in
set_option maxHeartbeats 200000000 in
theorem taskmillref_TextOf_spec (l:(List GInstr)) (r:ByteArray) (h:taskmillref_TextOf l = some r):SpecW Tryd.prog 18 [.sl l.length (fl l)] [] 0 (fun x h n=>x = .v (.string r)∧h = []∧n = 0):=by
 unfold taskmillref_TextOf at h
 refine spec_of (draw_ok _) Tryd.func18 rfl (by decide) rfl (by kernel_rfl) ?_
 refine seq_np ?_
 refine reg_f ?_
 refine rk 1 ?_
 refine rf [(0,.sl l.length (fl l))] [] 0 (by kernel_rfl) ?_
 refine wk_id ?_
 refine seq_np ?_
 refine reg_f ?_
 refine rk 1 ?_
 refine rf [(0,.sl l.length (fl l)),(3,.v (.string ByteArray.empty))] [] 0 (by kernel_rfl) ?_
 refine wk_id ?_
 refine seq_np ?_
 refine seq_np ?_
 refine reg_f ?_
 refine rk 1 ?_
 refine rf [(0,.sl l.length (fl l)),(3,.v (.string ByteArray.empty)),(4,iS 0)] [] 0 (by kernel_rfl) ?_
 refine wk_id ?_
 refine block_np ?_
 refine loop_sx (S:=ByteArray×Int) (fun a=>([(0,.sl l.length (fl l)),(3,.v (.string a.1)),(4,iS a.2)],[],0)) h (leSt_m [] [] (by simp only [push_cast,seval]) (by simp only [push_cast,seval]) rfl rfl rfl) ?_
 rintro ⟨s7,i7⟩ o2 R2 h hr2 hn2 hx2 ht2
 try dsimp only at h hn2 ⊢
 unfold taskmillref_TextOf_l1 at h
 try dsimp only at h
 refine seq_np ?_
 refine seq_np ?_
 refine reg_f ?_
 refine rk 4 ?_
 refine rf [(0,.sl l.length (fl l)),(3,.v (.string s7)),(4,iS i7),(8,bS (decide (i7 < (l.length:Int))))] [] 0 (by kernel_rfl) ?_
 refine wk_id ?_
 refine cond_sx h (by kernel_rfl) (fun g2405 h=>?_) (fun g2405 h=>?_)
 ·refine wk_id ?_
  refine seq_np ?_
  refine block_np ?_
  refine chk_sx h (fun g2399 h=>?_)
  refine reg_f ?_
  have k2398:0≤i7∧i7 < (l.length:Int):=by first | simpa only [Bool.and_eq_true,decide_eq_true_eq,bne_iff_ne,ne_eq] using g2399 | (simp at g2399 ⊢; omega) | simp
  refine rs 5 [none,none,none,some ⟨.iptr (fl l) ((i7).toNat * 3),[],0,[]⟩,some ⟨.agg (Enc.cells (ix l i7)),[],0,[]⟩] _ (by kernel_rfl) (allP_cons (ob_ldw l i7 3 ((i7).toNat * 3) k2398 rfl (by first | rfl | omega) (Enc.cells (ix l i7)) rfl 0 []) (allP_cons (ob_ix_l l 3 0 i7 k2398) allP_nil)) ?_
  obtain ⟨r2400,hr2400,h⟩:=bind_sx h
  refine run_call 34 [.agg (Enc.cells (ix l i7))] (some 16) (by kernel_rfl) ?_
  refine call_0 (taskmillref_LineOf_spec (ix l i7) r2400 hr2400) (by simp only [push_cast,seval]) (by simp only [push_cast,seval]) ?_
  refine back_f ?_
  refine chk_sx h (fun g2402 h=>?_)
  have k2401:(s7).size+(r2400).size≤9223372036854775807:=by first | simpa only [Bool.and_eq_true,decide_eq_true_eq,bne_iff_ne,ne_eq] using g2402 | (simp at g2402 ⊢; omega) | simp
  refine chk_sx h (fun g2404 h=>?_)
  have k2403:((s7++r2400)).size+((ByteArray.mk #[10])).size≤9223372036854775807:=by first | simpa only [Bool.and_eq_true,decide_eq_true_eq,bne_iff_ne,ne_eq] using g2404 | (simp at g2404 ⊢; omega) | simp
  refine rs 3 [some ⟨.v (.string (s7++r2400)),[],0,[]⟩,some ⟨.v (.string ((s7++r2400)++(ByteArray.mk #[10]))),[],0,[]⟩] _ (by kernel_rfl) (allP_cons (ob_p (v:=.v (.string ((s7++r2400)++(ByteArray.mk #[10])))) (nx:=0) (r:=[]) k2403) (allP_cons (ob_p (v:=.v (.string (s7++r2400))) (nx:=0) (r:=[]) k2401) allP_nil)) ?_
  refine rf [(0,.sl l.length (fl l)),(3,.v (.string ((s7++r2400)++(ByteArray.mk #[10])))),(4,iS i7)] [] 0 (by kernel_rfl) ?_
  refine wk_id ?_
  refine wk_id ?_
  refine reg_f ?_
  refine rk 3 ?_
  refine rf [(0,.sl l.length (fl l)),(3,.v (.string ((s7++r2400)++(ByteArray.mk #[10])))),(4,iS (IntKind.i64.wrap (i7+1)))] [] 0 (by kernel_rfl) ?_
  exact hn2 (((s7++r2400)++(ByteArray.mk #[10])),(IntKind.i64.wrap (i7+1))) _ _ _ (Option.some.inj h).symm (leSt_m [] [] (by simp only [push_cast,seval]) (by simp only [push_cast,seval]) rfl rfl rfl)
 ·change R2 (.exit 0) _ _ _
  refine ex_cast hx2 (id:=0) ?_
  obtain ⟨r0,h,e0⟩:=map_sx h
  have e1:=hr2 r0 e0.symm
  subst r0
  refine wk_id ?_
  refine wk_id ?_
  refine seq_np ?_
  refine reg_f ?_
  refine rk 2 ?_
  refine rf [(2,.v (.string s7))] [] 0 (by kernel_rfl) ?_
  refine wk_id ?_
  obtain rfl:=Option.some.inj h
  refine ret_at (.v (.string s7)) (by kernel_rfl) ?_
  exact ret_e [] [] (by simp only [push_cast,seval]) (by simp only [push_cast,seval]) rfl rfl rfl

set_option maxRecDepth 100000 in
set_option maxHeartbeats 200000000 in
theorem taskmilllaw_sameCode_spec (xa:(List GInstr)) (b:(List GInstr)) (r:Bool) (h:taskmilllaw_sameCode xa b = some r):SpecW Tryd.prog 13 [.sl xa.length (fl xa),.sl b.length (fl b)] [] 0 (fun x h n=>x = bS r∧h = []∧n = 0):=by
 unfold taskmilllaw_sameCode at h
 refine spec_of (draw_ok _) Tryd.func13 rfl (by decide) rfl (by kernel_rfl) ?_
 refine seq_np ?_
 refine reg_f ?_
 refine rk 1 ?_
 refine rf [(0,.sl xa.length (fl xa)),(1,.sl b.length (fl b))] [] 0 (by kernel_rfl) ?_
 refine wk_id ?_
 refine seq_np ?_
 refine seq_np ?_
 refine reg_f ?_
 refine rk 5 ?_
 refine rf [(0,.sl xa.length (fl xa)),(1,.sl b.length (fl b)),(10,bS ((xa.length:Int) != (b.length:Int)))] [] 0 (by kernel_rfl) ?_
 refine wk_id ?_
 refine cond_sx h (by kernel_rfl) (fun g2508 h=>?_) (fun g2508 h=>?_)
 ·refine seq_np ?_
  refine reg_f ?_
  refine rk 1 ?_
  refine rf [(4,bS false)] [] 0 (by kernel_rfl) ?_
  refine wk_id ?_
  obtain rfl:=Option.some.inj h
  refine ret_at (bS false) (by kernel_rfl) ?_
  exact ret_e [] [] (by simp only [push_cast,seval]) (by simp only [push_cast,seval]) rfl rfl rfl
 ·refine wk_id ?_
  refine seq_np ?_
  refine seq_np ?_
  refine reg_f ?_
  refine rk 1 ?_
  refine rf [(0,.sl xa.length (fl xa)),(1,.sl b.length (fl b)),(5,iS 0)] [] 0 (by kernel_rfl) ?_
  refine wk_id ?_
  refine block_np ?_
  refine loop_sx (S:=Int) (fun a=>([(0,.sl xa.length (fl xa)),(1,.sl b.length (fl b)),(5,iS a)],[],0)) h (leSt_m [] [] (by simp only [push_cast,seval]) (by simp only [push_cast,seval]) rfl rfl rfl) ?_
  rintro i7 o2 R2 h hr2 hn2 hx2 ht2
  try dsimp only at h hn2 ⊢
  unfold taskmilllaw_sameCode_l1 at h
  try dsimp only at h
  refine seq_np ?_
  refine seq_np ?_
  refine reg_f ?_
  refine rk 4 ?_
  refine rf [(0,.sl xa.length (fl xa)),(1,.sl b.length (fl b)),(5,iS i7),(14,bS (decide (i7 < (xa.length:Int))))] [] 0 (by kernel_rfl) ?_
  refine wk_id ?_
  refine cond_sx h (by kernel_rfl) (fun g2507 h=>?_) (fun g2507 h=>?_)
  ·refine wk_id ?_
   refine seq_np ?_
   refine block_np ?_
   refine chk_sx h (fun g2503 h=>?_)
   refine chk_sx h (fun g2505 h=>?_)
   refine seq_np ?_
   refine reg_t ?_
   have k2502:0≤i7∧i7 < (xa.length:Int):=by first | simpa only [Bool.and_eq_true,decide_eq_true_eq,bne_iff_ne,ne_eq] using g2503 | (simp at g2503 ⊢; omega) | simp
   have k2504:0≤i7∧i7 < (b.length:Int):=by first | simpa only [Bool.and_eq_true,decide_eq_true_eq,bne_iff_ne,ne_eq] using g2505 | (simp at g2505 ⊢; omega) | simp
   refine rs 9 [none,none,some ⟨.iptr (fl xa) ((i7).toNat * 3),[],2,[]⟩,some ⟨.agg (Enc.cells (ix xa i7)),[],3,[]⟩,none,none,some ⟨.iptr (fl b) ((i7).toNat * 3),[],6,[]⟩,some ⟨.agg (Enc.cells (ix b i7)),[],7,[]⟩] _ (by kernel_rfl) (allP_cons (ob_ldw b i7 3 ((i7).toNat * 3) k2504 rfl (by first | rfl | omega) (Enc.cells (ix b i7)) rfl 7 []) (allP_cons (ob_ix_l b 3 6 i7 k2504) (allP_cons (ob_ldw xa i7 3 ((i7).toNat * 3) k2502 rfl (by first | rfl | omega) (Enc.cells (ix xa i7)) rfl 3 []) (allP_cons (ob_ix_l xa 3 2 i7 k2502) allP_nil)))) ?_
   refine rt [(0,.sl xa.length (fl xa)),(1,.sl b.length (fl b)),(5,iS i7),(25,bS (!(((ix xa i7).Op == (ix b i7).Op) && (((ix xa i7).A == (ix b i7).A) && (((ix xa i7).B == (ix b i7).B) && true)))))] [] 9 follows (by kernel_rfl) ?_
   refine wk_id ?_
   refine cond_sx h (by kernel_rfl) (fun g2506 h=>?_) (fun g2506 h=>?_)
   ·refine seq_np ?_
    refine reg_f ?_
    refine rk 1 ?_
    refine rf [(4,bS false)] [] 9 (by kernel_rfl) ?_
    refine wk_id ?_
    refine rt_cast ht2 ?_
    obtain ⟨r0,h,e0⟩:=map_sx h
    have e1:=hr2 r0 e0.symm
    subst r0
    obtain rfl:=Option.some.inj h
    refine ret_at (bS false) (by kernel_rfl) ?_
    exact ret_e [] [] (by simp only [push_cast,seval]) (by simp only [push_cast,seval]) rfl rfl rfl
   ·refine wk_id ?_
    refine wk_id ?_
    refine reg_f ?_
    refine rk 3 ?_
    refine rf [(0,.sl xa.length (fl xa)),(1,.sl b.length (fl b)),(5,iS (IntKind.i64.wrap (i7+1)))] [] 9 (by kernel_rfl) ?_
    exact hn2 ((IntKind.i64.wrap (i7+1))) _ _ _ (Option.some.inj h).symm (leSt_m [] [] (by simp only [push_cast,seval]) (by simp only [push_cast,seval]) rfl rfl rfl)
  ·change R2 (.exit 0) _ _ _
   refine ex_cast hx2 (id:=0) ?_
   obtain ⟨r0,h,e0⟩:=map_sx h
   have e1:=hr2 r0 e0.symm
   subst r0
   refine wk_id ?_
   refine wk_id ?_
   refine seq_np ?_
   refine reg_f ?_
   refine rk 1 ?_
   refine rf [(4,bS true)] [] 0 (by kernel_rfl) ?_
   refine wk_id ?_
   obtain rfl:=Option.some.inj h
   refine ret_at (bS true) (by kernel_rfl) ?_
   exact ret_e [] [] (by simp only [push_cast,seval]) (by simp only [push_cast,seval]) rfl rfl rfl

set_option maxRecDepth 100000 in
set_option maxHeartbeats 200000000 in
theorem taskmillref_LinesOf_spec (s:ByteArray) (r:Int×(List ByteArray)) (h:taskmillref_LinesOf s = some r):SpecW Tryd.prog 19 [.v (.string s)] [] 0 (fun x h n=>x = .tup [.own 0 0 r.2.length,iS r.1]∧h = [(0,.row 9 (fl r.2))]∧n = 1):=by
 unfold taskmillref_LinesOf at h
 refine spec_of (draw_ok _) Tryd.func19 rfl (by decide) rfl (by kernel_rfl) ?_
 refine seq_np ?_
 refine reg_f ?_
 refine rk 2 ?_
 refine rf [(0,.v (.string s))] [] 0 (by kernel_rfl) ?_
 refine wk_id ?_
 refine seq_np ?_
 refine reg_f ?_
 refine rk 1 ?_
 refine rf [(0,.v (.string s)),(4,.v (.slice none 0 0))] [] 0 (by kernel_rfl) ?_
 refine wk_id ?_
 refine seq_np ?_
 refine reg_f ?_
 refine rk 1 ?_
 refine rf [(0,.v (.string s)),(4,.v (.slice none 0 0)),(5,iS 0)] [] 0 (by kernel_rfl) ?_
 refine wk_id ?_
 refine seq_np ?_
 refine seq_np ?_
 refine reg_f ?_
 refine rk 1 ?_
 refine rf [(0,.v (.string s)),(4,.v (.slice none 0 0)),(5,iS 0),(6,iS 0)] [] 0 (by kernel_rfl) ?_
 refine wk_id ?_
 refine block_np ?_
 refine loop_sx (S:=Int×Int×(List ByteArray)) (fun a=>([(0,.v (.string s)),(4,.own 0 0 a.2.2.length),(5,iS a.1),(6,iS a.2.1)],[(0,.row 9 (fl a.2.2))],1)) h (leSt_m [] [] (by simp only [push_cast,seval]) (by simp only [push_cast,seval]) rfl rfl rfl) ?_
 rintro ⟨last18,i7,c0q19⟩ o2 R2 h hr2 hn2 hx2 ht2
 try dsimp only at h hn2 ⊢
 unfold taskmillref_LinesOf_l1 at h
 try dsimp only at h
 refine seq_np ?_
 refine seq_np ?_
 refine reg_f ?_
 refine rk 4 ?_
 refine rf [(0,.v (.string s)),(4,.own 0 0 c0q19.length),(5,iS last18),(6,iS i7),(10,bS (decide (i7 < (((s).size:Nat):Int))))] [(0,.row 9 (fl c0q19))] 1 (by kernel_rfl) ?_
 refine wk_id ?_
 refine cond_sx h (by kernel_rfl) (fun g2666 h=>?_) (fun g2666 h=>?_)
 ·refine wk_id ?_
  refine seq_np ?_
  refine block_cut (A:=Int×(List ByteArray)) (fun a=>([(0,.v (.string s)),(4,.own 0 0 a.2.length),(5,iS a.1),(6,iS i7)],[(0,.row 9 (fl a.2))],1)) (fun a=>(taskmillref_LinesOf_j1 s i7 a.1 a.2) = some o2) (fun K2650 hK2650=>?_) ?_
  ·refine chk_sx h (fun g2654 h=>?_)
   refine seq_np ?_
   refine reg_f ?_
   have k2653:0≤i7∧i7 < (((s).size:Nat):Int):=by first | simpa only [Bool.and_eq_true,decide_eq_true_eq,bne_iff_ne,ne_eq] using g2654 | (simp at g2654 ⊢; omega) | simp
   refine rs 4 [none,none,some ⟨.v (.int .u8 (((s).data.getD (i7).toNat 0).toNat:Int)),[],1,[]⟩] _ (by kernel_rfl) (allP_cons (ob_p (v:=.v (.int .u8 (((s).data.getD (i7).toNat 0).toNat:Int))) (nx:=1) (r:=[]) k2653) allP_nil) ?_
   refine rf [(0,.v (.string s)),(4,.own 0 0 c0q19.length),(5,iS last18),(6,iS i7),(16,bS ((((s).data.getD (i7).toNat 0).toNat:Int) == 10))] [(0,.row 9 (fl c0q19))] 1 (by kernel_rfl) ?_
   refine wk_id ?_
   refine cond_sx h (by kernel_rfl) (fun g2663 h=>?_) (fun g2663 h=>?_)
   ·refine chk_sx h (fun g2660 h=>?_)
    refine chk_sx h (fun g2662 h=>?_)
    refine seq_np ?_
    refine reg_f ?_
    have k2659:0≤last18∧last18≤i7∧i7≤(((s).size:Nat):Int):=by first | simpa only [Bool.and_eq_true,decide_eq_true_eq,bne_iff_ne,ne_eq] using g2660 | (simp at g2660 ⊢; omega) | simp
    have k2661:(c0q19++([((s).extract (last18).toNat (i7).toNat)]:List ByteArray)).length * 16≤140737488355328:=by first | simpa only [Bool.and_eq_true,decide_eq_true_eq,bne_iff_ne,ne_eq] using g2662 | (simp at g2662 ⊢; omega) | simp
    refine rs 8 [none,none,none,none,some ⟨.v (.string ((s).extract (last18).toNat (i7).toNat)),[],1,[]⟩,none,some ⟨.own 2 0 (c0q19++([((s).extract (last18).toNat (i7).toNat)]:List ByteArray)).length,[(2,.row 9 (fl (c0q19++([((s).extract (last18).toNat (i7).toNat)]:List ByteArray)))),(0,.dead)],3,[0,1]⟩] _ (by kernel_rfl) (allP_cons (ob_app (P:=Tryd.prog) c0q19 ([((s).extract (last18).toNat (i7).toNat)]:List ByteArray) 1 16 rfl (appCells (fl ([((s).extract (last18).toNat (i7).toNat)]:List ByteArray)) 0 (([((s).extract (last18).toNat (i7).toNat)]:List ByteArray).length * 1)) ([((s).extract (last18).toNat (i7).toNat)]:List ByteArray).length (app_own ([((s).extract (last18).toNat (i7).toNat)]:List ByteArray) 1 rfl) rfl (0+([((s).extract (last18).toNat (i7).toNat)]:List ByteArray).length * 1≤(fl ([((s).extract (last18).toNat (i7).toNat)]:List ByteArray)).length) (app_own_le ([((s).extract (last18).toNat (i7).toNat)]:List ByteArray) 1 rfl) 9 (by kernel_rfl) (by decide) k2661 0 2 [1]) (allP_cons (ob_p (v:=.v (.string ((s).extract (last18).toNat (i7).toNat))) (nx:=1) (r:=[]) k2659) allP_nil)) ?_
    refine rf [(0,.v (.string s)),(4,.own 2 0 (c0q19++([((s).extract (last18).toNat (i7).toNat)]:List ByteArray)).length),(6,iS i7)] [(0,.dead),(1,.row 9 (fl ([((s).extract (last18).toNat (i7).toNat)]:List ByteArray))),(2,.row 9 (fl (c0q19++([((s).extract (last18).toNat (i7).toNat)]:List ByteArray))))] 3 (by kernel_rfl) ?_
    refine wk_id ?_
    refine reg_f ?_
    refine rk 3 ?_
    refine rf [(0,.v (.string s)),(4,.own 2 0 (c0q19++([((s).extract (last18).toNat (i7).toNat)]:List ByteArray)).length),(5,iS (IntKind.i64.wrap (i7+1))),(6,iS i7)] [(0,.dead),(1,.row 9 (fl ([((s).extract (last18).toNat (i7).toNat)]:List ByteArray))),(2,.row 9 (fl (c0q19++([((s).extract (last18).toNat (i7).toNat)]:List ByteArray))))] 3 (by kernel_rfl) ?_
    exact hK2650 ((IntKind.i64.wrap (i7+1)),(c0q19++([((s).extract (last18).toNat (i7).toNat)]:List ByteArray))) _ _ _ h (leSt_m [(0,2)] [] (by simp only [push_cast,seval]) (by simp only [push_cast,seval]) rfl rfl rfl)
   ·exact hK2650 (last18,c0q19) _ _ _ h (leSt_m [(0,0)] [] (by simp only [push_cast,seval]) (by simp only [push_cast,seval]) rfl rfl rfl)
  ·rintro ⟨last20,c0q21⟩ h
   try dsimp only at h ⊢
   unfold taskmillref_LinesOf_j1 at h
   refine wk_id ?_
   refine reg_f ?_
   refine rk 3 ?_
   refine rf [(0,.v (.string s)),(4,.own 0 0 c0q21.length),(5,iS last20),(6,iS (IntKind.i64.wrap (i7+1)))] [(0,.row 9 (fl c0q21))] 1 (by kernel_rfl) ?_
   exact hn2 (last20,(IntKind.i64.wrap (i7+1)),c0q21) _ _ _ (Option.some.inj h).symm (leSt_m [(0,0)] [] (by simp only [push_cast,seval]) (by simp only [push_cast,seval]) rfl rfl rfl)
 ·change R2 (.exit 0) _ _ _
  refine ex_cast hx2 (id:=0) ?_
  obtain ⟨r0,h,e0⟩:=map_sx h
  have e1:=hr2 r0 e0.symm
  subst r0
  refine wk_id ?_
  refine wk_id ?_
  refine seq_np ?_
  refine seq_np ?_
  refine reg_f ?_
  refine rk 4 ?_
  refine rf [(4,.own 0 0 c0q19.length),(29,bS (decide (last18 < (((s).size:Nat):Int))))] [(0,.row 9 (fl c0q19))] 1 (by kernel_rfl) ?_
  refine wk_id ?_
  refine cond_sx h (by kernel_rfl) (fun g2665 h=>?_) (fun g2665 h=>?_)
  ·refine seq_np ?_
   refine reg_f ?_
   refine rk 5 ?_
   refine rf [(2,.own 0 0 c0q19.length),(3,iS (c0q19.length:Int))] [(0,.row 9 (fl c0q19))] 1 (by kernel_rfl) ?_
   refine wk_id ?_
   obtain rfl:=Option.some.inj h
   refine ret_at (.tup [.own 0 0 c0q19.length,iS (c0q19.length:Int)]) (by kernel_rfl) ?_
   exact ret_e [(0,0)] [] (by simp only [push_cast,seval]) (by simp only [push_cast,seval]) rfl rfl rfl
  ·refine wk_id ?_
   refine seq_np ?_
   refine reg_f ?_
   refine rk 3 ?_
   refine rf [(2,.own 0 0 c0q19.length),(3,iS (-1))] [(0,.row 9 (fl c0q19))] 1 (by kernel_rfl) ?_
   refine wk_id ?_
   obtain rfl:=Option.some.inj h
   refine ret_at (.tup [.own 0 0 c0q19.length,iS (-1)]) (by kernel_rfl) ?_
   exact ret_e [(0,0)] [] (by simp only [push_cast,seval]) (by simp only [push_cast,seval]) rfl rfl rfl

set_option maxRecDepth 100000 in
set_option maxHeartbeats 200000000 in
theorem taskmillref_Words_spec (s:ByteArray) (r:(List ByteArray)) (h:taskmillref_Words s = some r):SpecW Tryd.prog 35 [.v (.string s)] [] 0 (fun x h n=>x = .own 0 0 r.length∧h = [(0,.row 9 (fl r))]∧n = 1):=by
 unfold taskmillref_Words at h
 refine spec_of (draw_ok _) Tryd.func35 rfl (by decide) rfl (by kernel_rfl) ?_
 refine seq_np ?_
 refine reg_f ?_
 refine rk 1 ?_
 refine rf [(0,.v (.string s))] [] 0 (by kernel_rfl) ?_
 refine wk_id ?_
 refine seq_np ?_
 refine reg_f ?_
 refine rk 1 ?_
 refine rf [(0,.v (.string s)),(3,.v (.slice none 0 0))] [] 0 (by kernel_rfl) ?_
 refine wk_id ?_
 refine seq_np ?_
 refine reg_f ?_
 refine rk 1 ?_
 refine rf [(0,.v (.string s)),(3,.v (.slice none 0 0)),(4,.v (.string ByteArray.empty))] [] 0 (by kernel_rfl) ?_
 refine wk_id ?_
 refine seq_np ?_
 refine seq_np ?_
 refine reg_f ?_
 refine rk 1 ?_
 refine rf [(0,.v (.string s)),(3,.v (.slice none 0 0)),(4,.v (.string ByteArray.empty)),(5,iS 0)] [] 0 (by kernel_rfl) ?_
 refine wk_id ?_
 refine block_np ?_
 refine loop_sx (S:=ByteArray×Int×(List ByteArray)) (fun a=>([(0,.v (.string s)),(3,.own 0 0 a.2.2.length),(4,.v (.string a.1)),(5,iS a.2.1)],[(0,.row 9 (fl a.2.2))],1)) h (leSt_m [] [] (by simp only [push_cast,seval]) (by simp only [push_cast,seval]) rfl rfl rfl) ?_
 rintro ⟨w18,i7,c0q19⟩ o2 R2 h hr2 hn2 hx2 ht2
 try dsimp only at h hn2 ⊢
 unfold taskmillref_Words_l1 at h
 try dsimp only at h
 refine seq_np ?_
 refine seq_np ?_
 refine reg_f ?_
 refine rk 4 ?_
 refine rf [(0,.v (.string s)),(3,.own 0 0 c0q19.length),(4,.v (.string w18)),(5,iS i7),(9,bS (decide (i7 < (((s).size:Nat):Int))))] [(0,.row 9 (fl c0q19))] 1 (by kernel_rfl) ?_
 refine wk_id ?_
 refine cond_sx h (by kernel_rfl) (fun g2854 h=>?_) (fun g2854 h=>?_)
 ·refine wk_id ?_
  refine seq_np ?_
  refine block_cut (A:=ByteArray×(List ByteArray)) (fun a=>([(0,.v (.string s)),(3,.own 0 0 a.2.length),(4,.v (.string a.1)),(5,iS i7)],[(0,.row 9 (fl a.2))],1)) (fun a=>(taskmillref_Words_j1 s i7 a.1 a.2) = some o2) (fun K2832 hK2832=>?_) ?_
  ·refine chk_sx h (fun g2836 h=>?_)
   refine seq_np ?_
   refine reg_f ?_
   have k2835:0≤i7∧i7 < (((s).size:Nat):Int):=by first | simpa only [Bool.and_eq_true,decide_eq_true_eq,bne_iff_ne,ne_eq] using g2836 | (simp at g2836 ⊢; omega) | simp
   refine rs 4 [none,none,some ⟨.v (.int .u8 (((s).data.getD (i7).toNat 0).toNat:Int)),[],1,[]⟩] _ (by kernel_rfl) (allP_cons (ob_p (v:=.v (.int .u8 (((s).data.getD (i7).toNat 0).toNat:Int))) (nx:=1) (r:=[]) k2835) allP_nil) ?_
   refine rf [(0,.v (.string s)),(3,.own 0 0 c0q19.length),(4,.v (.string w18)),(5,iS i7),(15,bS ((((s).data.getD (i7).toNat 0).toNat:Int) == 32))] [(0,.row 9 (fl c0q19))] 1 (by kernel_rfl) ?_
   refine wk_id ?_
   refine cond_sx h (by kernel_rfl) (fun g2849 h=>?_) (fun g2849 h=>?_)
   ·refine chk_sx h (fun g2840 h=>?_)
    refine seq_np ?_
    refine reg_f ?_
    have k2839:(c0q19++([w18]:List ByteArray)).length * 16≤140737488355328:=by first | simpa only [Bool.and_eq_true,decide_eq_true_eq,bne_iff_ne,ne_eq] using g2840 | (simp at g2840 ⊢; omega) | simp
    refine rs 5 [none,none,none,some ⟨.own 2 0 (c0q19++([w18]:List ByteArray)).length,[(2,.row 9 (fl (c0q19++([w18]:List ByteArray)))),(0,.dead)],3,[0,1]⟩] _ (by kernel_rfl) (allP_cons (ob_app (P:=Tryd.prog) c0q19 ([w18]:List ByteArray) 1 16 rfl (appCells (fl ([w18]:List ByteArray)) 0 (([w18]:List ByteArray).length * 1)) ([w18]:List ByteArray).length (app_own ([w18]:List ByteArray) 1 rfl) rfl (0+([w18]:List ByteArray).length * 1≤(fl ([w18]:List ByteArray)).length) (app_own_le ([w18]:List ByteArray) 1 rfl) 9 (by kernel_rfl) (by decide) k2839 0 2 [1]) allP_nil) ?_
    refine rf [(0,.v (.string s)),(3,.own 2 0 (c0q19++([w18]:List ByteArray)).length),(5,iS i7)] [(0,.dead),(1,.row 9 (fl ([w18]:List ByteArray))),(2,.row 9 (fl (c0q19++([w18]:List ByteArray))))] 3 (by kernel_rfl) ?_
    refine wk_id ?_
    refine reg_f ?_
    refine rk 1 ?_
    refine rf [(0,.v (.string s)),(3,.own 2 0 (c0q19++([w18]:List ByteArray)).length),(4,.v (.string ByteArray.empty)),(5,iS i7)] [(0,.dead),(1,.row 9 (fl ([w18]:List ByteArray))),(2,.row 9 (fl (c0q19++([w18]:List ByteArray))))] 3 (by kernel_rfl) ?_
    exact hK2832 (ByteArray.empty,(c0q19++([w18]:List ByteArray))) _ _ _ h (leSt_m [(0,2)] [] (by simp only [push_cast,seval]) (by simp only [push_cast,seval]) rfl rfl rfl)
   ·refine chk_sx h (fun g2846 h=>?_)
    refine chk_sx h (fun g2848 h=>?_)
    refine reg_f ?_
    have k2845:0≤i7∧i7≤(IntKind.i64.wrap (i7+1))∧(IntKind.i64.wrap (i7+1))≤(((s).size:Nat):Int):=by first | simpa only [Bool.and_eq_true,decide_eq_true_eq,bne_iff_ne,ne_eq] using g2846 | (simp at g2846 ⊢; omega) | simp
    have k2847:(w18).size+(((s).extract (i7).toNat ((IntKind.i64.wrap (i7+1))).toNat)).size≤9223372036854775807:=by first | simpa only [Bool.and_eq_true,decide_eq_true_eq,bne_iff_ne,ne_eq] using g2848 | (simp at g2848 ⊢; omega) | simp
    refine rs 8 [none,none,none,none,none,some ⟨.v (.string ((s).extract (i7).toNat ((IntKind.i64.wrap (i7+1))).toNat)),[],1,[]⟩,some ⟨.v (.string (w18++((s).extract (i7).toNat ((IntKind.i64.wrap (i7+1))).toNat))),[],1,[]⟩] _ (by kernel_rfl) (allP_cons (ob_p (v:=.v (.string (w18++((s).extract (i7).toNat ((IntKind.i64.wrap (i7+1))).toNat)))) (nx:=1) (r:=[]) k2847) (allP_cons (ob_p (v:=.v (.string ((s).extract (i7).toNat ((IntKind.i64.wrap (i7+1))).toNat))) (nx:=1) (r:=[]) k2845) allP_nil)) ?_
    refine rf [(0,.v (.string s)),(3,.own 0 0 c0q19.length),(4,.v (.string (w18++((s).extract (i7).toNat ((IntKind.i64.wrap (i7+1))).toNat)))),(5,iS i7)] [(0,.row 9 (fl c0q19))] 1 (by kernel_rfl) ?_
    exact hK2832 ((w18++((s).extract (i7).toNat ((IntKind.i64.wrap (i7+1))).toNat)),c0q19) _ _ _ h (leSt_m [(0,0)] [] (by simp only [push_cast,seval]) (by simp only [push_cast,seval]) rfl rfl rfl)
  ·rintro ⟨w20,c0q21⟩ h
   try dsimp only at h ⊢
   unfold taskmillref_Words_j1 at h
   refine wk_id ?_
   refine reg_f ?_
   refine rk 3 ?_
   refine rf [(0,.v (.string s)),(3,.own 0 0 c0q21.length),(4,.v (.string w20)),(5,iS (IntKind.i64.wrap (i7+1)))] [(0,.row 9 (fl c0q21))] 1 (by kernel_rfl) ?_
   exact hn2 (w20,(IntKind.i64.wrap (i7+1)),c0q21) _ _ _ (Option.some.inj h).symm (leSt_m [(0,0)] [] (by simp only [push_cast,seval]) (by simp only [push_cast,seval]) rfl rfl rfl)
 ·change R2 (.exit 0) _ _ _
  refine ex_cast hx2 (id:=0) ?_
  obtain ⟨r0,h,e0⟩:=map_sx h
  have e1:=hr2 r0 e0.symm
  subst r0
  refine wk_id ?_
  refine wk_id ?_
  refine chk_sx h (fun g2853 h=>?_)
  refine seq_np ?_
  refine reg_f ?_
  have k2852:(c0q19++([w18]:List ByteArray)).length * 16≤140737488355328:=by first | simpa only [Bool.and_eq_true,decide_eq_true_eq,bne_iff_ne,ne_eq] using g2853 | (simp at g2853 ⊢; omega) | simp
  refine rs 5 [none,none,none,some ⟨.own 2 0 (c0q19++([w18]:List ByteArray)).length,[(2,.row 9 (fl (c0q19++([w18]:List ByteArray)))),(0,.dead)],3,[0,1]⟩] _ (by kernel_rfl) (allP_cons (ob_app (P:=Tryd.prog) c0q19 ([w18]:List ByteArray) 1 16 rfl (appCells (fl ([w18]:List ByteArray)) 0 (([w18]:List ByteArray).length * 1)) ([w18]:List ByteArray).length (app_own ([w18]:List ByteArray) 1 rfl) rfl (0+([w18]:List ByteArray).length * 1≤(fl ([w18]:List ByteArray)).length) (app_own_le ([w18]:List ByteArray) 1 rfl) 9 (by kernel_rfl) (by decide) k2852 0 2 [1]) allP_nil) ?_
  refine rf [(2,.own 2 0 (c0q19++([w18]:List ByteArray)).length)] [(0,.dead),(1,.row 9 (fl ([w18]:List ByteArray))),(2,.row 9 (fl (c0q19++([w18]:List ByteArray))))] 3 (by kernel_rfl) ?_
  refine wk_id ?_
  obtain rfl:=Option.some.inj h
  refine ret_at (.own 2 0 (c0q19++([w18]:List ByteArray)).length) (by kernel_rfl) ?_
  exact ret_e [(0,2)] [] (by simp only [push_cast,seval]) (by simp only [push_cast,seval]) rfl rfl rfl

set_option maxRecDepth 100000 in
set_option maxHeartbeats 200000000 in
theorem taskmillref_NumberOf_spec (s:ByteArray) (r:Int×Bool) (h:taskmillref_NumberOf s = some r):SpecW Tryd.prog 36 [.v (.string s)] [] 0 (fun x h n=>x = .tup [iS r.1,bS r.2]∧h = []∧n = 0):=by
 unfold taskmillref_NumberOf at h
 refine spec_of (draw_ok _) Tryd.func36 rfl (by decide) rfl (by kernel_rfl) ?_
 refine seq_np ?_
 refine reg_f ?_
 refine rk 2 ?_
 refine rf [(0,.v (.string s))] [] 0 (by kernel_rfl) ?_
 refine wk_id ?_
 refine seq_np ?_
 refine reg_f ?_
 refine rk 2 ?_
 refine rf [(0,.v (.string s)),(4,.v (.string s))] [] 0 (by kernel_rfl) ?_
 refine wk_id ?_
 refine seq_cut (A:=ByteArray) (fun a=>([(0,.v (.string s)),(4,.v (.string a))],[],0)) (fun a=>(taskmillref_NumberOf_j2 s a) = some r) (fun K2955 hK2955=>?_) ?_
 ·refine chk_sx h (fun g2962 h=>?_)
  refine seq_cut (A:=Unit) (fun _=>([(0,.v (.string s)),(4,.v (.string s)),(15,bS ((decide ((0:Int) < (((s).size:Nat):Int))) && ((((s).data.getD ((0:Int)).toNat 0).toNat:Int) == 45)))],[],0)) (fun _=>True) (fun K2959 hK2959=>?_) (fun _ _=>?_)
  ·refine reg_f ?_
   refine rk 4 ?_
   refine run_split 11 (decide ((0:Int) < (((s).size:Nat):Int))) (.inl (by kernel_rfl)) (fun g2960=>?_) (fun g2960=>?_)
   ·have k2961:0≤(0:Int)∧(0:Int) < (((s).size:Nat):Int):=by have e:=or_use g2962 (by first | ((try simp only [g2960]) <;> rfl) | ((try simp only [g2960]); rfl) | (exfalso; clear h; simp_all; done)); first | simpa only [Bool.and_eq_true,decide_eq_true_eq,bne_iff_ne,ne_eq] using e | (simp at e ⊢; omega)
    refine rs 4 [none,some ⟨.v (.int .u8 (((s).data.getD ((0:Int)).toNat 0).toNat:Int)),[],0,[]⟩] _ (by kernel_rfl) (allP_cons (ob_p (v:=.v (.int .u8 (((s).data.getD ((0:Int)).toNat 0).toNat:Int))) (nx:=0) (r:=[]) k2961) allP_nil) ?_
    refine rf [(0,.v (.string s)),(4,.v (.string s)),(15,bS ((((s).data.getD ((0:Int)).toNat 0).toNat:Int) == 45))] [] 0 (by kernel_rfl) ?_
    exact hK2959 () _ _ _ trivial (leSt_m [] [] (by (try simp only [g2960]) <;> simp only [push_cast,seval]) (by (try simp only [g2960]) <;> simp only [push_cast,seval]) rfl rfl rfl)
   ·refine rk 4 ?_
    refine rf [(0,.v (.string s)),(4,.v (.string s)),(15,bS false)] [] 0 (by kernel_rfl) ?_
    exact hK2959 () _ _ _ trivial (leSt_m [] [] (by (try simp only [g2960]) <;> simp only [push_cast,seval]) (by (try simp only [g2960]) <;> simp only [push_cast,seval]) rfl rfl rfl)
  ·dsimp only
   refine cond_sx h (by kernel_rfl) (fun g2967 h=>?_) (fun g2967 h=>?_)
   ·refine chk_sx h (fun g2966 h=>?_)
    refine reg_f ?_
    have k2965:0≤(1:Int)∧(1:Int)≤(((s).size:Nat):Int)∧(((s).size:Nat):Int)≤(((s).size:Nat):Int):=by first | simpa only [Bool.and_eq_true,decide_eq_true_eq,bne_iff_ne,ne_eq] using g2966 | (simp at g2966 ⊢; omega) | simp
    refine rs 3 [none,some ⟨.v (.string ((s).extract ((1:Int)).toNat ((((s).size:Nat):Int)).toNat)),[],0,[]⟩] _ (by kernel_rfl) (allP_cons (ob_p (v:=.v (.string ((s).extract ((1:Int)).toNat ((((s).size:Nat):Int)).toNat))) (nx:=0) (r:=[]) k2965) allP_nil) ?_
    refine rf [(0,.v (.string s)),(4,.v (.string ((s).extract ((1:Int)).toNat ((((s).size:Nat):Int)).toNat)))] [] 0 (by kernel_rfl) ?_
    exact hK2955 (((s).extract ((1:Int)).toNat ((((s).size:Nat):Int)).toNat)) _ _ _ h (leSt_m [] [] (by simp only [push_cast,seval]) (by simp only [push_cast,seval]) rfl rfl rfl)
   ·exact hK2955 (s) _ _ _ h (leSt_m [] [] (by simp only [push_cast,seval]) (by simp only [push_cast,seval]) rfl rfl rfl)
 ·rintro d1 h
  try dsimp only at h ⊢
  unfold taskmillref_NumberOf_j2 at h
  refine seq_np ?_
  refine seq_cut (A:=Unit) (fun _=>([(0,.v (.string s)),(4,.v (.string d1)),(25,bS ((decide ((((d1).size:Nat):Int) < 1)) || (decide ((19:Int) < (((d1).size:Nat):Int)))))],[],0)) (fun _=>True) (fun K2971 hK2971=>?_) (fun _ _=>?_)
  ·refine reg_f ?_
   refine rk 4 ?_
   refine run_split 21 (decide ((((d1).size:Nat):Int) < 1)) (.inl (by kernel_rfl)) (fun g2972=>?_) (fun g2972=>?_)
   ·refine rk 4 ?_
    refine rf [(0,.v (.string s)),(4,.v (.string d1)),(25,bS true)] [] 0 (by kernel_rfl) ?_
    exact hK2971 () _ _ _ trivial (leSt_m [] [] (by (try simp only [g2972]) <;> simp only [push_cast,seval]) (by (try simp only [g2972]) <;> simp only [push_cast,seval]) rfl rfl rfl)
   ·refine rk 4 ?_
    refine rf [(0,.v (.string s)),(4,.v (.string d1)),(25,bS (decide ((19:Int) < (((d1).size:Nat):Int))))] [] 0 (by kernel_rfl) ?_
    exact hK2971 () _ _ _ trivial (leSt_m [] [] (by (try simp only [g2972]) <;> simp only [push_cast,seval]) (by (try simp only [g2972]) <;> simp only [push_cast,seval]) rfl rfl rfl)
  ·dsimp only
   refine cond_sx h (by kernel_rfl) (fun g3094 h=>?_) (fun g3094 h=>?_)
   ·refine seq_np ?_
    refine reg_f ?_
    refine rk 2 ?_
    refine rf [(2,iS 0),(3,bS false)] [] 0 (by kernel_rfl) ?_
    refine wk_id ?_
    obtain rfl:=Option.some.inj h
    refine ret_at (.tup [iS 0,bS false]) (by kernel_rfl) ?_
    exact ret_e [] [] (by simp only [push_cast,seval]) (by simp only [push_cast,seval]) rfl rfl rfl
   ·refine wk_id ?_
    refine seq_np ?_
    refine reg_f ?_
    refine rk 1 ?_
    refine rf [(0,.v (.string s)),(4,.v (.string d1)),(5,iS 0)] [] 0 (by kernel_rfl) ?_
    refine wk_id ?_
    refine seq_np ?_
    refine seq_np ?_
    refine reg_f ?_
    refine rk 1 ?_
    refine rf [(0,.v (.string s)),(4,.v (.string d1)),(5,iS 0),(6,iS 0)] [] 0 (by kernel_rfl) ?_
    refine wk_id ?_
    refine block_np ?_
    refine loop_sx (S:=Int×Int) (fun a=>([(0,.v (.string s)),(4,.v (.string d1)),(5,iS a.1),(6,iS a.2)],[],0)) h (leSt_m [] [] (by simp only [push_cast,seval]) (by simp only [push_cast,seval]) rfl rfl rfl) ?_
    rintro ⟨n8,i7⟩ o2 R2 h hr2 hn2 hx2 ht2
    try dsimp only at h hn2 ⊢
    unfold taskmillref_NumberOf_l1 at h
    try dsimp only at h
    refine seq_np ?_
    refine seq_np ?_
    refine reg_f ?_
    refine rk 4 ?_
    refine rf [(0,.v (.string s)),(4,.v (.string d1)),(5,iS n8),(6,iS i7),(29,bS (decide (i7 < (((d1).size:Nat):Int))))] [] 0 (by kernel_rfl) ?_
    refine wk_id ?_
    refine cond_sx h (by kernel_rfl) (fun g3093 h=>?_) (fun g3093 h=>?_)
    ·refine wk_id ?_
     refine seq_np ?_
     refine block_np ?_
     refine seq_np ?_
     refine chk_sx h (fun g3078 h=>?_)
     refine chk_sx h (fun g3081 h=>?_)
     refine seq_cut (A:=Unit) (fun _=>([(0,.v (.string s)),(4,.v (.string d1)),(5,iS n8),(6,iS i7),(41,bS ((decide ((((d1).data.getD (i7).toNat 0).toNat:Int) < 48)) || (decide ((57:Int) < (((d1).data.getD (i7).toNat 0).toNat:Int)))))],[],0)) (fun _=>True) (fun K3076 hK3076=>?_) (fun _ _=>?_)
     ·refine reg_f ?_
      have k3077:0≤i7∧i7 < (((d1).size:Nat):Int):=by first | simpa only [Bool.and_eq_true,decide_eq_true_eq,bne_iff_ne,ne_eq] using g3078 | (simp at g3078 ⊢; omega) | simp
      refine rs 5 [none,none,some ⟨.v (.int .u8 (((d1).data.getD (i7).toNat 0).toNat:Int)),[],0,[]⟩] _ (by kernel_rfl) (allP_cons (ob_p (v:=.v (.int .u8 (((d1).data.getD (i7).toNat 0).toNat:Int))) (nx:=0) (r:=[]) k3077) allP_nil) ?_
      refine run_split 36 (decide ((((d1).data.getD (i7).toNat 0).toNat:Int) < 48)) (.inl (by kernel_rfl)) (fun g3079=>?_) (fun g3079=>?_)
      ·refine rk 5 ?_
       refine rf [(0,.v (.string s)),(4,.v (.string d1)),(5,iS n8),(6,iS i7),(41,bS true)] [] 0 (by kernel_rfl) ?_
       exact hK3076 () _ _ _ trivial (leSt_m [] [] (by (try simp only [g3079]) <;> simp only [push_cast,seval]) (by (try simp only [g3079]) <;> simp only [push_cast,seval]) rfl rfl rfl)
      ·have k3080:0≤i7∧i7 < (((d1).size:Nat):Int):=by have e:=or_use g3081 (by first | ((try simp only [g3079]) <;> rfl) | ((try simp only [g3079]); rfl) | (exfalso; clear h; simp_all; done)); first | simpa only [Bool.and_eq_true,decide_eq_true_eq,bne_iff_ne,ne_eq] using e | (simp at e ⊢; omega)
       refine rs 5 [none,none,some ⟨.v (.int .u8 (((d1).data.getD (i7).toNat 0).toNat:Int)),[],0,[]⟩] _ (by kernel_rfl) (allP_cons (ob_p (v:=.v (.int .u8 (((d1).data.getD (i7).toNat 0).toNat:Int))) (nx:=0) (r:=[]) k3080) allP_nil) ?_
       refine rf [(0,.v (.string s)),(4,.v (.string d1)),(5,iS n8),(6,iS i7),(41,bS (decide ((57:Int) < (((d1).data.getD (i7).toNat 0).toNat:Int))))] [] 0 (by kernel_rfl) ?_
       exact hK3076 () _ _ _ trivial (leSt_m [] [] (by (try simp only [g3079]) <;> simp only [push_cast,seval]) (by (try simp only [g3079]) <;> simp only [push_cast,seval]) rfl rfl rfl)
     ·dsimp only
      refine cond_sx h (by kernel_rfl) (fun g3086 h=>?_) (fun g3086 h=>?_)
      ·refine seq_np ?_
       refine reg_f ?_
       refine rk 2 ?_
       refine rf [(2,iS 0),(3,bS false)] [] 0 (by kernel_rfl) ?_
       refine wk_id ?_
       refine rt_cast ht2 ?_
       obtain ⟨r0,h,e0⟩:=map_sx h
       have e1:=hr2 r0 e0.symm
       subst r0
       obtain rfl:=Option.some.inj h
       refine ret_at (.tup [iS 0,bS false]) (by kernel_rfl) ?_
       exact ret_e [] [] (by simp only [push_cast,seval]) (by simp only [push_cast,seval]) rfl rfl rfl
      ·refine wk_id ?_
       refine chk_sx h (fun g3085 h=>?_)
       refine reg_f ?_
       have k3084:0≤i7∧i7 < (((d1).size:Nat):Int):=by first | simpa only [Bool.and_eq_true,decide_eq_true_eq,bne_iff_ne,ne_eq] using g3085 | (simp at g3085 ⊢; omega) | simp
       refine rs 9 [none,none,none,none,some ⟨.v (.int .u8 (((d1).data.getD (i7).toNat 0).toNat:Int)),[],0,[]⟩] _ (by kernel_rfl) (allP_cons (ob_p (v:=.v (.int .u8 (((d1).data.getD (i7).toNat 0).toNat:Int))) (nx:=0) (r:=[]) k3084) allP_nil) ?_
       refine rf [(0,.v (.string s)),(4,.v (.string d1)),(5,iS (IntKind.i64.wrap ((IntKind.i64.wrap (n8 * 10)) - (IntKind.i64.wrap (IntKind.u8.wrap ((((d1).data.getD (i7).toNat 0).toNat:Int) - 48)))))),(6,iS i7)] [] 0 (by kernel_rfl) ?_
       refine wk_id ?_
       refine wk_id ?_
       refine reg_f ?_
       refine rk 3 ?_
       refine rf [(0,.v (.string s)),(4,.v (.string d1)),(5,iS (IntKind.i64.wrap ((IntKind.i64.wrap (n8 * 10)) - (IntKind.i64.wrap (IntKind.u8.wrap ((((d1).data.getD (i7).toNat 0).toNat:Int) - 48)))))),(6,iS (IntKind.i64.wrap (i7+1)))] [] 0 (by kernel_rfl) ?_
       exact hn2 ((IntKind.i64.wrap ((IntKind.i64.wrap (n8 * 10)) - (IntKind.i64.wrap (IntKind.u8.wrap ((((d1).data.getD (i7).toNat 0).toNat:Int) - 48))))),(IntKind.i64.wrap (i7+1))) _ _ _ (Option.some.inj h).symm (leSt_m [] [] (by simp only [push_cast,seval]) (by simp only [push_cast,seval]) rfl rfl rfl)
    ·change R2 (.exit 0) _ _ _
     refine ex_cast hx2 (id:=0) ?_
     obtain ⟨r0,h,e0⟩:=map_sx h
     have e1:=hr2 r0 e0.symm
     subst r0
     refine wk_id ?_
     refine wk_id ?_
     refine seq_cut (A:=Int) (fun a=>([(0,.v (.string s)),(5,iS a)],[],0)) (fun a=>(taskmillref_NumberOf_j1 s a) = some r) (fun K3089 hK3089=>?_) ?_
     ·refine seq_np ?_
      refine reg_f ?_
      refine rs 3 [none,none,some ⟨bS (decide (s = d1)),[],0,[]⟩] _ (by kernel_rfl) (allP_cons (ob_p (v:=bS (decide (s = d1))) (nx:=0) (r:=[]) trivial) allP_nil) ?_
      refine rf [(0,.v (.string s)),(5,iS n8),(52,bS (decide (s = d1)))] [] 0 (by kernel_rfl) ?_
      refine wk_id ?_
      refine cond_sx h (by kernel_rfl) (fun g3090 h=>?_) (fun g3090 h=>?_)
      ·refine reg_f ?_
       refine rk 3 ?_
       refine rf [(0,.v (.string s)),(5,iS (IntKind.i64.wrap (0 - n8)))] [] 0 (by kernel_rfl) ?_
       exact hK3089 ((IntKind.i64.wrap (0 - n8))) _ _ _ h (leSt_m [] [] (by simp only [push_cast,seval]) (by simp only [push_cast,seval]) rfl rfl rfl)
      ·exact hK3089 (n8) _ _ _ h (leSt_m [] [] (by simp only [push_cast,seval]) (by simp only [push_cast,seval]) rfl rfl rfl)
     ·rintro n9 h
      try dsimp only at h ⊢
      unfold taskmillref_NumberOf_j1 at h
      refine seq_np ?_
      refine reg_f ?_
      refine rk 2 ?_
      obtain ⟨r3092,hr3092,h⟩:=bind_sx h
      refine run_call 45 [iS n9] (some 57) (by kernel_rfl) ?_
      refine call_0 (taskmillref_Decimal_spec n9 r3092 hr3092) (by simp only [push_cast,seval]) (by simp only [push_cast,seval]) ?_
      refine back_f ?_
      refine rs 4 [none,some ⟨bS (decide (r3092 = s)),[],0,[]⟩] _ (by kernel_rfl) (allP_cons (ob_p (v:=bS (decide (r3092 = s))) (nx:=0) (r:=[]) trivial) allP_nil) ?_
      refine rf [(2,iS n9),(3,bS (decide (r3092 = s)))] [] 0 (by kernel_rfl) ?_
      refine wk_id ?_
      obtain rfl:=Option.some.inj h
      refine ret_at (.tup [iS n9,bS (decide (r3092 = s))]) (by kernel_rfl) ?_
      exact ret_e [] [] (by simp only [push_cast,seval]) (by simp only [push_cast,seval]) rfl rfl rfl

set_option maxRecDepth 100000 in
set_option maxHeartbeats 200000000 in
theorem taskmillref_InstrOf_spec (s:ByteArray) (r:GInstr×Bool) (h:taskmillref_InstrOf s = some r):SpecW Tryd.prog 20 [.v (.string s)] [] 0 (fun x h n=>x = .tup [.agg (Enc.cells r.1),bS r.2]∧h = []∧n = 0):=by
 unfold taskmillref_InstrOf at h
 refine spec_of (draw_ok _) Tryd.func20 rfl (by decide) rfl (by kernel_rfl) ?_
 refine seq_np ?_
 refine reg_f ?_
 refine rk 2 ?_
 refine rf [(0,.v (.string s)),(2,.ptr 0 0)] [(0,.row 38 [iS 0,iS 0,iS 0])] 1 (by kernel_rfl) ?_
 refine wk_id ?_
 refine seq_np ?_
 refine reg_f ?_
 refine rk 1 ?_
 obtain ⟨r3169,hr3169,h⟩:=bind_sx h
 refine call_x (taskmillref_Words_spec s r3169 hr3169) (args:=[.v (.string s)]) (dst:=(some 16)) (by kernel_rfl) [(0,.row 38 [iS 0,iS 0,iS 0])] 1 (by kernel_rfl) [] [] (.own 1 0 r3169.length) [(1,.row 9 (fl r3169))] (by simp only [push_cast,seval]) (by simp only [push_cast,seval]) (by kernel_rfl) (.inl rfl) (by simp only [push_cast,seval]) (by simp only [push_cast,seval]) ?_
 refine rk 1 ?_
 refine rf [(2,.ptr 0 0),(4,.own 1 0 r3169.length)] [(0,.row 38 [iS 0,iS 0,iS 0]),(1,.row 9 (fl r3169))] 2 (by kernel_rfl) ?_
 refine wk_id ?_
 refine seq_np ?_
 refine reg_f ?_
 refine rk 1 ?_
 refine rf [(2,.ptr 0 0),(4,.own 1 0 r3169.length),(5,iS 0)] [(0,.row 38 [iS 0,iS 0,iS 0]),(1,.row 9 (fl r3169))] 2 (by kernel_rfl) ?_
 refine wk_id ?_
 refine seq_np ?_
 refine seq_np ?_
 refine reg_f ?_
 refine rk 1 ?_
 refine rf [(2,.ptr 0 0),(4,.own 1 0 r3169.length),(5,iS 0),(6,iS 1)] [(0,.row 38 [iS 0,iS 0,iS 0]),(1,.row 9 (fl r3169))] 2 (by kernel_rfl) ?_
 refine wk_id ?_
 refine block_np ?_
 refine loop_sx (S:=Int×Int×(List ByteArray)) (fun a=>([(2,.ptr 0 0),(4,.own 1 0 a.2.2.length),(5,iS a.1),(6,iS a.2.1)],[(0,.row 38 [iS 0,iS 0,iS 0]),(1,.row 9 (fl a.2.2))],2)) h (leSt_m [(0,0),(1,1)] [] (by simp only [push_cast,seval]) (by simp only [push_cast,seval]) rfl rfl rfl) ?_
 rintro ⟨op18,i9,c1q11⟩ o3 R3 h hr3 hn3 hx3 ht3
 try dsimp only at h hn3 ⊢
 unfold taskmillref_InstrOf_l2 at h
 try dsimp only at h
 refine seq_np ?_
 refine seq_np ?_
 refine reg_f ?_
 refine rk 4 ?_
 refine rf [(2,.ptr 0 0),(4,.own 1 0 c1q11.length),(5,iS op18),(6,iS i9),(20,bS (decide (i9 < (refNames.length:Int))))] [(0,.row 38 [iS 0,iS 0,iS 0]),(1,.row 9 (fl c1q11))] 2 (by kernel_rfl) ?_
 refine wk_id ?_
 refine cond_sx h (by kernel_rfl) (fun g3649 h=>?_) (fun g3649 h=>?_)
 ·refine wk_id ?_
  refine seq_np ?_
  refine block_cut (A:=Int) (fun a=>([(2,.ptr 0 0),(4,.own 1 0 c1q11.length),(5,iS a),(6,iS i9)],[(0,.row 38 [iS 0,iS 0,iS 0]),(1,.row 9 (fl c1q11))],2)) (fun a=>(taskmillref_InstrOf_j1 i9 c1q11 a) = some o3) (fun K3251 hK3251=>?_) ?_
  ·refine chk_sx h (fun g3257 h=>?_)
   refine chk_sx h (fun g3259 h=>?_)
   refine seq_np ?_
   refine reg_t ?_
   have k3256:0≤i9∧i9 < (refNames.length:Int):=by first | simpa only [Bool.and_eq_true,decide_eq_true_eq,bne_iff_ne,ne_eq] using g3257 | (simp at g3257 ⊢; omega) | simp
   have k3258:0≤(0:Int)∧(0:Int) < (c1q11.length:Int):=by first | simpa only [Bool.and_eq_true,decide_eq_true_eq,bne_iff_ne,ne_eq] using g3259 | (simp at g3259 ⊢; omega) | simp
   refine rs 8 [none,none,some ⟨.iptr (fl refNames) ((i9).toNat * 1),[],4,[]⟩,some ⟨.v (.string (ix refNames i9)),[],5,[]⟩,none,some ⟨.ptr 1 (0+((0:Int)).toNat * 1),[],7,[1]⟩,some ⟨.v (.string (ix c1q11 (0:Int))),[],8,[1]⟩,some ⟨bS (decide ((ix refNames i9) = (ix c1q11 (0:Int)))),[],9,[]⟩] _ (by kernel_rfl) (allP_cons (ob_p (v:=bS (decide ((ix refNames i9) = (ix c1q11 (0:Int))))) (nx:=9) (r:=[]) trivial) (allP_cons (ob_ld c1q11 (0:Int) 1 0 (0+((0:Int)).toNat * 1) k3258 rfl (by decide) (by first | rfl | omega) (dflS Tryd.prog 9) (.v (.string (ix c1q11 (0:Int)))) rfl 8 [1]) (allP_cons (ob_ix_o 1 c1q11.length 0 1 7 0 k3258) (allP_cons (ob_ld refNames i9 1 0 ((i9).toNat * 1) k3256 rfl (by decide) (by first | rfl | omega) (dflS Tryd.prog 9) (.v (.string (ix refNames i9))) rfl 5 []) (allP_cons (ob_ix_l refNames 1 4 i9 k3256) allP_nil))))) ?_
   refine rt [(2,.ptr 0 0),(4,.own 1 0 c1q11.length),(5,iS op18),(6,iS i9),(30,bS (decide ((ix refNames i9) = (ix c1q11 (0:Int)))))] [(0,.row 38 [iS 0,iS 0,iS 0]),(1,.row 9 (fl c1q11))] 10 follows (by kernel_rfl) ?_
   refine wk_id ?_
   refine cond_sx h (by kernel_rfl) (fun g3260 h=>?_) (fun g3260 h=>?_)
   ·refine reg_f ?_
    refine rk 2 ?_
    refine rf [(2,.ptr 0 0),(4,.own 1 0 c1q11.length),(5,iS i9),(6,iS i9)] [(0,.row 38 [iS 0,iS 0,iS 0]),(1,.row 9 (fl c1q11))] 10 (by kernel_rfl) ?_
    exact hK3251 (i9) _ _ _ h (leSt_m [(0,0),(1,1)] [] (by simp only [push_cast,seval]) (by simp only [push_cast,seval]) rfl rfl rfl)
   ·exact hK3251 (op18) _ _ _ h (leSt_m [(0,0),(1,1)] [] (by simp only [push_cast,seval]) (by simp only [push_cast,seval]) rfl rfl rfl)
  ·rintro op20 h
   try dsimp only at h ⊢
   unfold taskmillref_InstrOf_j1 at h
   refine wk_id ?_
   refine reg_f ?_
   refine rk 3 ?_
   refine rf [(2,.ptr 0 0),(4,.own 1 0 c1q11.length),(5,iS op20),(6,iS (IntKind.i64.wrap (i9+1)))] [(0,.row 38 [iS 0,iS 0,iS 0]),(1,.row 9 (fl c1q11))] 2 (by kernel_rfl) ?_
   exact hn3 (op20,(IntKind.i64.wrap (i9+1)),c1q11) _ _ _ (Option.some.inj h).symm (leSt_m [(0,0),(1,1)] [] (by simp only [push_cast,seval]) (by simp only [push_cast,seval]) rfl rfl rfl)
 ·change R3 (.exit 0) _ _ _
  refine ex_cast hx3 (id:=0) ?_
  obtain ⟨r0,h,e0⟩:=map_sx h
  have e1:=hr3 r0 e0.symm
  subst r0
  refine wk_id ?_
  refine wk_id ?_
  refine seq_np ?_
  refine seq_np ?_
  refine reg_f ?_
  refine rk 2 ?_
  refine rf [(2,.ptr 0 0),(4,.own 1 0 c1q11.length),(5,iS op18),(33,bS (op18 == 0))] [(0,.row 38 [iS 0,iS 0,iS 0]),(1,.row 9 (fl c1q11))] 2 (by kernel_rfl) ?_
  refine wk_id ?_
  refine cond_sx h (by kernel_rfl) (fun g3648 h=>?_) (fun g3648 h=>?_)
  ·refine seq_np ?_
   refine reg_f ?_
   refine rk 3 ?_
   refine rf [(2,.ptr 0 0),(3,bS false)] [(0,.row 38 [iS 0,iS 0,iS 0]),(1,.row 9 (fl c1q11))] 2 (by kernel_rfl) ?_
   refine wk_id ?_
   obtain rfl:=Option.some.inj h
   refine ret_at (.tup [.agg [iS 0,iS 0,iS 0],bS false]) (by kernel_rfl) ?_
   exact ret_e [] [] (by simp only [push_cast,seval]) (by simp only [push_cast,seval]) rfl rfl rfl
  ·refine wk_id ?_
   refine seq_np ?_
   refine reg_f ?_
   refine rk 2 ?_
   refine rf [(2,.ptr 0 0),(4,.own 1 0 c1q11.length),(5,iS op18),(7,.own 2 0 ([0,0]:List Int).length)] [(0,.row 38 [iS 0,iS 0,iS 0]),(1,.row 9 (fl c1q11)),(2,.row 3 (fl ([0,0]:List Int)))] 3 (by kernel_rfl) ?_
   refine wk_id ?_
   refine seq_np ?_
   refine reg_f ?_
   refine rk 1 ?_
   refine rf [(2,.ptr 0 0),(4,.own 1 0 c1q11.length),(5,iS op18),(7,.own 2 0 ([0,0]:List Int).length),(8,iS 1)] [(0,.row 38 [iS 0,iS 0,iS 0]),(1,.row 9 (fl c1q11)),(2,.row 3 (fl ([0,0]:List Int)))] 3 (by kernel_rfl) ?_
   refine wk_id ?_
   refine seq_np ?_
   refine seq_np ?_
   refine reg_f ?_
   refine rk 1 ?_
   refine rf [(2,.ptr 0 0),(4,.own 1 0 c1q11.length),(5,iS op18),(7,.own 2 0 ([0,0]:List Int).length),(8,iS 1),(9,iS 0)] [(0,.row 38 [iS 0,iS 0,iS 0]),(1,.row 9 (fl c1q11)),(2,.row 3 (fl ([0,0]:List Int)))] 3 (by kernel_rfl) ?_
   refine wk_id ?_
   refine block_np ?_
   refine loop_sx (S:=Int×Int×(List Int)) (fun a=>([(2,.ptr 0 0),(4,.own 1 0 c1q11.length),(5,iS op18),(7,.own 2 0 a.2.2.length),(8,iS a.1),(9,iS a.2.1)],[(0,.row 38 [iS 0,iS 0,iS 0]),(1,.row 9 (fl c1q11)),(2,.row 3 (fl a.2.2))],3)) h (leSt_m [(0,0),(1,1),(2,2)] [] (by simp only [push_cast,seval]) (by simp only [push_cast,seval]) rfl rfl rfl) ?_
   rintro ⟨xat18,i15,c2q18⟩ o4 R4 h hr4 hn4 hx4 ht4
   try dsimp only at h hn4 ⊢
   unfold taskmillref_InstrOf_l1 at h
   try dsimp only at h
   refine seq_np ?_
   refine seq_np ?_
   refine reg_f ?_
   refine rk 2 ?_
   refine rf [(2,.ptr 0 0),(4,.own 1 0 c1q11.length),(5,iS op18),(7,.own 2 0 c2q18.length),(8,iS xat18),(9,iS i15),(37,bS (decide (i15 < 2)))] [(0,.row 38 [iS 0,iS 0,iS 0]),(1,.row 9 (fl c1q11)),(2,.row 3 (fl c2q18))] 3 (by kernel_rfl) ?_
   refine wk_id ?_
   refine cond_sx h (by kernel_rfl) (fun g3647 h=>?_) (fun g3647 h=>?_)
   ·refine wk_id ?_
    refine seq_np ?_
    refine block_cut (A:=Int×(List Int)) (fun a=>([(2,.ptr 0 0),(4,.own 1 0 c1q11.length),(5,iS op18),(7,.own 2 0 a.2.length),(8,iS a.1),(9,iS i15)],[(0,.row 38 [iS 0,iS 0,iS 0]),(1,.row 9 (fl c1q11)),(2,.row 3 (fl a.2))],3)) (fun a=>(taskmillref_InstrOf_j2 op18 c1q11 i15 a.1 a.2) = some o4) (fun K3570 hK3570=>?_) ?_
    ·refine chk_sx h (fun g3576 h=>?_)
     refine chk_sx h (fun g3578 h=>?_)
     refine seq_np ?_
     refine reg_f ?_
     have k3575:0≤op18∧op18 < (refArgs.length:Int):=by first | simpa only [Bool.and_eq_true,decide_eq_true_eq,bne_iff_ne,ne_eq] using g3576 | (simp at g3576 ⊢; omega) | simp
     have k3577:0≤i15∧i15 < ((((ix refArgs op18)).size:Nat):Int):=by first | simpa only [Bool.and_eq_true,decide_eq_true_eq,bne_iff_ne,ne_eq] using g3578 | (simp at g3578 ⊢; omega) | simp
     refine rs 7 [none,none,some ⟨.iptr (fl refArgs) ((op18).toNat * 1),[],3,[]⟩,some ⟨.v (.string (ix refArgs op18)),[],3,[]⟩,none,some ⟨.v (.int .u8 ((((ix refArgs op18)).data.getD (i15).toNat 0).toNat:Int)),[],3,[]⟩] _ (by kernel_rfl) (allP_cons (ob_p (v:=.v (.int .u8 ((((ix refArgs op18)).data.getD (i15).toNat 0).toNat:Int))) (nx:=3) (r:=[]) k3577) (allP_cons (ob_ld refArgs op18 1 0 ((op18).toNat * 1) k3575 rfl (by decide) (by first | rfl | omega) (dflS Tryd.prog 9) (.v (.string (ix refArgs op18))) rfl 3 []) (allP_cons (ob_ix_l refArgs 1 3 op18 k3575) allP_nil))) ?_
     refine rf [(2,.ptr 0 0),(4,.own 1 0 c1q11.length),(5,iS op18),(7,.own 2 0 c2q18.length),(8,iS xat18),(9,iS i15),(10,.v (.int .u8 ((((ix refArgs op18)).data.getD (i15).toNat 0).toNat:Int)))] [(0,.row 38 [iS 0,iS 0,iS 0]),(1,.row 9 (fl c1q11)),(2,.row 3 (fl c2q18))] 3 (by kernel_rfl) ?_
     refine wk_id ?_
     refine seq_np ?_
     refine seq_np ?_
     refine reg_f ?_
     refine rk 2 ?_
     refine rf [(2,.ptr 0 0),(4,.own 1 0 c1q11.length),(5,iS op18),(7,.own 2 0 c2q18.length),(8,iS xat18),(9,iS i15),(10,.v (.int .u8 ((((ix refArgs op18)).data.getD (i15).toNat 0).toNat:Int))),(47,bS (((((ix refArgs op18)).data.getD (i15).toNat 0).toNat:Int) == 45))] [(0,.row 38 [iS 0,iS 0,iS 0]),(1,.row 9 (fl c1q11)),(2,.row 3 (fl c2q18))] 3 (by kernel_rfl) ?_
     refine wk_id ?_
     refine cond_sx h (by kernel_rfl) (fun g3638 h=>?_) (fun g3638 h=>?_)
     ·exact hK3570 (xat18,c2q18) _ _ _ h (leSt_m [(0,0),(1,1),(2,2)] [] (by simp only [push_cast,seval]) (by simp only [push_cast,seval]) rfl rfl rfl)
     ·refine wk_id ?_
      refine seq_np ?_
      refine seq_np ?_
      refine reg_f ?_
      refine rk 4 ?_
      refine rf [(2,.ptr 0 0),(4,.own 1 0 c1q11.length),(5,iS op18),(7,.own 2 0 c2q18.length),(8,iS xat18),(9,iS i15),(10,.v (.int .u8 ((((ix refArgs op18)).data.getD (i15).toNat 0).toNat:Int))),(51,bS (decide ((c1q11.length:Int)≤xat18)))] [(0,.row 38 [iS 0,iS 0,iS 0]),(1,.row 9 (fl c1q11)),(2,.row 3 (fl c2q18))] 3 (by kernel_rfl) ?_
      refine wk_id ?_
      refine cond_sx h (by kernel_rfl) (fun g3637 h=>?_) (fun g3637 h=>?_)
      ·refine seq_np ?_
       refine reg_f ?_
       refine rk 3 ?_
       refine rf [(2,.ptr 0 0),(3,bS false)] [(0,.row 38 [iS 0,iS 0,iS 0]),(1,.row 9 (fl c1q11)),(2,.row 3 (fl c2q18))] 3 (by kernel_rfl) ?_
       refine wk_id ?_
       refine rt_cast ht4 ?_
       obtain ⟨r0,h,e0⟩:=map_sx h
       have e1:=hr4 r0 e0.symm
       subst r0
       obtain rfl:=Option.some.inj h
       refine ret_at (.tup [.agg [iS 0,iS 0,iS 0],bS false]) (by kernel_rfl) ?_
       exact ret_e [] [] (by simp only [push_cast,seval]) (by simp only [push_cast,seval]) rfl rfl rfl
      ·refine wk_id ?_
       refine chk_sx h (fun g3584 h=>?_)
       refine seq_np ?_
       refine reg_f ?_
       have k3583:0≤xat18∧xat18 < (c1q11.length:Int):=by first | simpa only [Bool.and_eq_true,decide_eq_true_eq,bne_iff_ne,ne_eq] using g3584 | (simp at g3584 ⊢; omega) | simp
       refine rs 5 [none,none,some ⟨.ptr 1 (0+(xat18).toNat * 1),[],3,[1]⟩,some ⟨.v (.string (ix c1q11 xat18)),[],3,[1]⟩] _ (by kernel_rfl) (allP_cons (ob_ld c1q11 xat18 1 0 (0+(xat18).toNat * 1) k3583 rfl (by decide) (by first | rfl | omega) (dflS Tryd.prog 9) (.v (.string (ix c1q11 xat18))) rfl 3 [1]) (allP_cons (ob_ix_o 1 c1q11.length 0 1 3 xat18 k3583) allP_nil)) ?_
       refine rf [(2,.ptr 0 0),(4,.own 1 0 c1q11.length),(5,iS op18),(7,.own 2 0 c2q18.length),(8,iS xat18),(9,iS i15),(10,.v (.int .u8 ((((ix refArgs op18)).data.getD (i15).toNat 0).toNat:Int))),(11,.v (.string (ix c1q11 xat18)))] [(0,.row 38 [iS 0,iS 0,iS 0]),(1,.row 9 (fl c1q11)),(2,.row 3 (fl c2q18))] 3 (by kernel_rfl) ?_
       refine wk_id ?_
       refine seq_cut (A:=ByteArray) (fun a=>([(2,.ptr 0 0),(4,.own 1 0 c1q11.length),(5,iS op18),(7,.own 2 0 c2q18.length),(8,iS xat18),(9,iS i15),(11,.v (.string a))],[(0,.row 38 [iS 0,iS 0,iS 0]),(1,.row 9 (fl c1q11)),(2,.row 3 (fl c2q18))],3)) (fun a=>(taskmillref_InstrOf_j3 op18 c1q11 xat18 i15 c2q18 a) = some o4) (fun K3600 hK3600=>?_) ?_
       ·refine seq_cut (A:=Unit) (fun _=>([(2,.ptr 0 0),(4,.own 1 0 c1q11.length),(5,iS op18),(7,.own 2 0 c2q18.length),(8,iS xat18),(9,iS i15),(10,.v (.int .u8 ((((ix refArgs op18)).data.getD (i15).toNat 0).toNat:Int))),(11,.v (.string (ix c1q11 xat18))),(62,bS ((((((ix refArgs op18)).data.getD (i15).toNat 0).toNat:Int) != 110) && (((((ix refArgs op18)).data.getD (i15).toNat 0).toNat:Int) != 107)))],[(0,.row 38 [iS 0,iS 0,iS 0]),(1,.row 9 (fl c1q11)),(2,.row 3 (fl c2q18))],3)) (fun _=>True) (fun K3602 hK3602=>?_) (fun _ _=>?_)
        ·refine reg_f ?_
         refine rk 3 ?_
         refine run_split 59 (((((ix refArgs op18)).data.getD (i15).toNat 0).toNat:Int) != 110) (.inl (by kernel_rfl)) (fun g3603=>?_) (fun g3603=>?_)
         ·refine rk 3 ?_
          refine rf [(2,.ptr 0 0),(4,.own 1 0 c1q11.length),(5,iS op18),(7,.own 2 0 c2q18.length),(8,iS xat18),(9,iS i15),(10,.v (.int .u8 ((((ix refArgs op18)).data.getD (i15).toNat 0).toNat:Int))),(11,.v (.string (ix c1q11 xat18))),(62,bS (((((ix refArgs op18)).data.getD (i15).toNat 0).toNat:Int) != 107))] [(0,.row 38 [iS 0,iS 0,iS 0]),(1,.row 9 (fl c1q11)),(2,.row 3 (fl c2q18))] 3 (by kernel_rfl) ?_
          exact hK3602 () _ _ _ trivial (leSt_m [(0,0),(1,1),(2,2)] [] (by (try simp only [g3603]) <;> simp only [push_cast,seval]) (by (try simp only [g3603]) <;> simp only [push_cast,seval]) rfl rfl rfl)
         ·refine rk 3 ?_
          refine rf [(2,.ptr 0 0),(4,.own 1 0 c1q11.length),(5,iS op18),(7,.own 2 0 c2q18.length),(8,iS xat18),(9,iS i15),(10,.v (.int .u8 ((((ix refArgs op18)).data.getD (i15).toNat 0).toNat:Int))),(11,.v (.string (ix c1q11 xat18))),(62,bS false)] [(0,.row 38 [iS 0,iS 0,iS 0]),(1,.row 9 (fl c1q11)),(2,.row 3 (fl c2q18))] 3 (by kernel_rfl) ?_
          exact hK3602 () _ _ _ trivial (leSt_m [(0,0),(1,1),(2,2)] [] (by (try simp only [g3603]) <;> simp only [push_cast,seval]) (by (try simp only [g3603]) <;> simp only [push_cast,seval]) rfl rfl rfl)
        ·dsimp only
         refine cond_sx h (by kernel_rfl) (fun g3628 h=>?_) (fun g3628 h=>?_)
         ·refine seq_np ?_
          refine reg_f ?_
          refine rk 2 ?_
          refine rf [(2,.ptr 0 0),(4,.own 1 0 c1q11.length),(5,iS op18),(7,.own 2 0 c2q18.length),(8,iS xat18),(9,iS i15),(10,.v (.int .u8 ((((ix refArgs op18)).data.getD (i15).toNat 0).toNat:Int))),(11,.v (.string (ix c1q11 xat18))),(12,.v (.int .u8 ((((ix refArgs op18)).data.getD (i15).toNat 0).toNat:Int)))] [(0,.row 38 [iS 0,iS 0,iS 0]),(1,.row 9 (fl c1q11)),(2,.row 3 (fl c2q18))] 3 (by kernel_rfl) ?_
          refine wk_id ?_
          refine seq_cut (A:=Int) (fun a=>([(2,.ptr 0 0),(4,.own 1 0 c1q11.length),(5,iS op18),(7,.own 2 0 c2q18.length),(8,iS xat18),(9,iS i15),(10,.v (.int .u8 ((((ix refArgs op18)).data.getD (i15).toNat 0).toNat:Int))),(11,.v (.string (ix c1q11 xat18))),(12,.v (.int .u8 a))],[(0,.row 38 [iS 0,iS 0,iS 0]),(1,.row 9 (fl c1q11)),(2,.row 3 (fl c2q18))],3)) (fun a=>(taskmillref_InstrOf_j5 op18 c1q11 xat18 i15 c2q18 a) = some o4) (fun K3606 hK3606=>?_) ?_
          ·refine seq_np ?_
           refine reg_f ?_
           refine rk 2 ?_
           refine rf [(2,.ptr 0 0),(4,.own 1 0 c1q11.length),(5,iS op18),(7,.own 2 0 c2q18.length),(8,iS xat18),(9,iS i15),(10,.v (.int .u8 ((((ix refArgs op18)).data.getD (i15).toNat 0).toNat:Int))),(11,.v (.string (ix c1q11 xat18))),(12,.v (.int .u8 ((((ix refArgs op18)).data.getD (i15).toNat 0).toNat:Int))),(65,bS (((((ix refArgs op18)).data.getD (i15).toNat 0).toNat:Int) == 99))] [(0,.row 38 [iS 0,iS 0,iS 0]),(1,.row 9 (fl c1q11)),(2,.row 3 (fl c2q18))] 3 (by kernel_rfl) ?_
           refine wk_id ?_
           refine cond_sx h (by kernel_rfl) (fun g3607 h=>?_) (fun g3607 h=>?_)
           ·refine reg_f ?_
            refine rk 1 ?_
            refine rf [(2,.ptr 0 0),(4,.own 1 0 c1q11.length),(5,iS op18),(7,.own 2 0 c2q18.length),(8,iS xat18),(9,iS i15),(10,.v (.int .u8 ((((ix refArgs op18)).data.getD (i15).toNat 0).toNat:Int))),(11,.v (.string (ix c1q11 xat18))),(12,.v (.int .u8 64))] [(0,.row 38 [iS 0,iS 0,iS 0]),(1,.row 9 (fl c1q11)),(2,.row 3 (fl c2q18))] 3 (by kernel_rfl) ?_
            exact hK3606 (64) _ _ _ h (leSt_m [(0,0),(1,1),(2,2)] [] (by simp only [push_cast,seval]) (by simp only [push_cast,seval]) rfl rfl rfl)
           ·exact hK3606 (((((ix refArgs op18)).data.getD (i15).toNat 0).toNat:Int)) _ _ _ h (leSt_m [(0,0),(1,1),(2,2)] [] (by simp only [push_cast,seval]) (by simp only [push_cast,seval]) rfl rfl rfl)
          ·rintro letter28 h
           try dsimp only at h ⊢
           unfold taskmillref_InstrOf_j5 at h
           refine seq_cut (A:=Int) (fun a=>([(2,.ptr 0 0),(4,.own 1 0 c1q11.length),(5,iS op18),(7,.own 2 0 c2q18.length),(8,iS xat18),(9,iS i15),(11,.v (.string (ix c1q11 xat18))),(12,.v (.int .u8 a))],[(0,.row 38 [iS 0,iS 0,iS 0]),(1,.row 9 (fl c1q11)),(2,.row 3 (fl c2q18))],3)) (fun a=>(taskmillref_InstrOf_j4 op18 c1q11 xat18 i15 c2q18 a) = some o4) (fun K3610 hK3610=>?_) ?_
           ·refine seq_np ?_
            refine reg_f ?_
            refine rk 2 ?_
            refine rf [(2,.ptr 0 0),(4,.own 1 0 c1q11.length),(5,iS op18),(7,.own 2 0 c2q18.length),(8,iS xat18),(9,iS i15),(11,.v (.string (ix c1q11 xat18))),(12,.v (.int .u8 letter28)),(67,bS (((((ix refArgs op18)).data.getD (i15).toNat 0).toNat:Int) == 109))] [(0,.row 38 [iS 0,iS 0,iS 0]),(1,.row 9 (fl c1q11)),(2,.row 3 (fl c2q18))] 3 (by kernel_rfl) ?_
            refine wk_id ?_
            refine cond_sx h (by kernel_rfl) (fun g3611 h=>?_) (fun g3611 h=>?_)
            ·refine reg_f ?_
             refine rk 1 ?_
             refine rf [(2,.ptr 0 0),(4,.own 1 0 c1q11.length),(5,iS op18),(7,.own 2 0 c2q18.length),(8,iS xat18),(9,iS i15),(11,.v (.string (ix c1q11 xat18))),(12,.v (.int .u8 99))] [(0,.row 38 [iS 0,iS 0,iS 0]),(1,.row 9 (fl c1q11)),(2,.row 3 (fl c2q18))] 3 (by kernel_rfl) ?_
             exact hK3610 (99) _ _ _ h (leSt_m [(0,0),(1,1),(2,2)] [] (by simp only [push_cast,seval]) (by simp only [push_cast,seval]) rfl rfl rfl)
            ·exact hK3610 (letter28) _ _ _ h (leSt_m [(0,0),(1,1),(2,2)] [] (by simp only [push_cast,seval]) (by simp only [push_cast,seval]) rfl rfl rfl)
           ·rintro letter29 h
            try dsimp only at h ⊢
            unfold taskmillref_InstrOf_j4 at h
            refine seq_np ?_
            refine chk_sx h (fun g3622 h=>?_)
            refine seq_cut (A:=Unit) (fun _=>([(2,.ptr 0 0),(4,.own 1 0 c1q11.length),(5,iS op18),(7,.own 2 0 c2q18.length),(8,iS xat18),(9,iS i15),(11,.v (.string (ix c1q11 xat18))),(75,bS ((decide ((ix c1q11 xat18) = ByteArray.empty)) || (((((ix c1q11 xat18)).data.getD ((0:Int)).toNat 0).toNat:Int) != letter29)))],[(0,.row 38 [iS 0,iS 0,iS 0]),(1,.row 9 (fl c1q11)),(2,.row 3 (fl c2q18))],3)) (fun _=>True) (fun K3619 hK3619=>?_) (fun _ _=>?_)
            ·refine reg_f ?_
             refine rs 3 [none,some ⟨bS (decide ((ix c1q11 xat18) = ByteArray.empty)),[],3,[]⟩] _ (by kernel_rfl) (allP_cons (ob_p (v:=bS (decide ((ix c1q11 xat18) = ByteArray.empty))) (nx:=3) (r:=[]) trivial) allP_nil) ?_
             refine run_split 70 (decide ((ix c1q11 xat18) = ByteArray.empty)) (.inl (by kernel_rfl)) (fun g3620=>?_) (fun g3620=>?_)
             ·refine rk 5 ?_
              refine rf [(2,.ptr 0 0),(4,.own 1 0 c1q11.length),(5,iS op18),(7,.own 2 0 c2q18.length),(8,iS xat18),(9,iS i15),(11,.v (.string (ix c1q11 xat18))),(75,bS true)] [(0,.row 38 [iS 0,iS 0,iS 0]),(1,.row 9 (fl c1q11)),(2,.row 3 (fl c2q18))] 3 (by kernel_rfl) ?_
              exact hK3619 () _ _ _ trivial (leSt_m [(0,0),(1,1),(2,2)] [] (by (try simp only [g3620]) <;> simp only [push_cast,seval]) (by (try simp only [g3620]) <;> simp only [push_cast,seval]) rfl rfl rfl)
             ·have k3621:0≤(0:Int)∧(0:Int) < ((((ix c1q11 xat18)).size:Nat):Int):=by have e:=or_use g3622 (by first | ((try simp only [g3620]) <;> rfl) | ((try simp only [g3620]); rfl) | (exfalso; clear h; simp_all; done)); first | simpa only [Bool.and_eq_true,decide_eq_true_eq,bne_iff_ne,ne_eq] using e | (simp at e ⊢; omega)
              refine rs 5 [none,some ⟨.v (.int .u8 ((((ix c1q11 xat18)).data.getD ((0:Int)).toNat 0).toNat:Int)),[],3,[]⟩] _ (by kernel_rfl) (allP_cons (ob_p (v:=.v (.int .u8 ((((ix c1q11 xat18)).data.getD ((0:Int)).toNat 0).toNat:Int))) (nx:=3) (r:=[]) k3621) allP_nil) ?_
              refine rf [(2,.ptr 0 0),(4,.own 1 0 c1q11.length),(5,iS op18),(7,.own 2 0 c2q18.length),(8,iS xat18),(9,iS i15),(11,.v (.string (ix c1q11 xat18))),(75,bS (((((ix c1q11 xat18)).data.getD ((0:Int)).toNat 0).toNat:Int) != letter29))] [(0,.row 38 [iS 0,iS 0,iS 0]),(1,.row 9 (fl c1q11)),(2,.row 3 (fl c2q18))] 3 (by kernel_rfl) ?_
              exact hK3619 () _ _ _ trivial (leSt_m [(0,0),(1,1),(2,2)] [] (by (try simp only [g3620]) <;> simp only [push_cast,seval]) (by (try simp only [g3620]) <;> simp only [push_cast,seval]) rfl rfl rfl)
            ·dsimp only
             refine cond_sx h (by kernel_rfl) (fun g3627 h=>?_) (fun g3627 h=>?_)
             ·refine seq_np ?_
              refine reg_f ?_
              refine rk 3 ?_
              refine rf [(2,.ptr 0 0),(3,bS false)] [(0,.row 38 [iS 0,iS 0,iS 0]),(1,.row 9 (fl c1q11)),(2,.row 3 (fl c2q18))] 3 (by kernel_rfl) ?_
              refine wk_id ?_
              refine rt_cast ht4 ?_
              obtain ⟨r0,h,e0⟩:=map_sx h
              have e1:=hr4 r0 e0.symm
              subst r0
              obtain rfl:=Option.some.inj h
              refine ret_at (.tup [.agg [iS 0,iS 0,iS 0],bS false]) (by kernel_rfl) ?_
              exact ret_e [] [] (by simp only [push_cast,seval]) (by simp only [push_cast,seval]) rfl rfl rfl
             ·refine wk_id ?_
              refine chk_sx h (fun g3626 h=>?_)
              refine reg_f ?_
              have k3625:0≤(1:Int)∧(1:Int)≤((((ix c1q11 xat18)).size:Nat):Int)∧((((ix c1q11 xat18)).size:Nat):Int)≤((((ix c1q11 xat18)).size:Nat):Int):=by first | simpa only [Bool.and_eq_true,decide_eq_true_eq,bne_iff_ne,ne_eq] using g3626 | (simp at g3626 ⊢; omega) | simp
              refine rs 3 [none,some ⟨.v (.string (((ix c1q11 xat18)).extract ((1:Int)).toNat (((((ix c1q11 xat18)).size:Nat):Int)).toNat)),[],3,[]⟩] _ (by kernel_rfl) (allP_cons (ob_p (v:=.v (.string (((ix c1q11 xat18)).extract ((1:Int)).toNat (((((ix c1q11 xat18)).size:Nat):Int)).toNat))) (nx:=3) (r:=[]) k3625) allP_nil) ?_
              refine rf [(2,.ptr 0 0),(4,.own 1 0 c1q11.length),(5,iS op18),(7,.own 2 0 c2q18.length),(8,iS xat18),(9,iS i15),(11,.v (.string (((ix c1q11 xat18)).extract ((1:Int)).toNat (((((ix c1q11 xat18)).size:Nat):Int)).toNat)))] [(0,.row 38 [iS 0,iS 0,iS 0]),(1,.row 9 (fl c1q11)),(2,.row 3 (fl c2q18))] 3 (by kernel_rfl) ?_
              exact hK3600 ((((ix c1q11 xat18)).extract ((1:Int)).toNat (((((ix c1q11 xat18)).size:Nat):Int)).toNat)) _ _ _ h (leSt_m [(0,0),(1,1),(2,2)] [] (by simp only [push_cast,seval]) (by simp only [push_cast,seval]) rfl rfl rfl)
         ·exact hK3600 ((ix c1q11 xat18)) _ _ _ h (leSt_m [(0,0),(1,1),(2,2)] [] (by simp only [push_cast,seval]) (by simp only [push_cast,seval]) rfl rfl rfl)
       ·rintro t13 h
        try dsimp only at h ⊢
        unfold taskmillref_InstrOf_j3 at h
        refine seq_np ?_
        refine reg_f ?_
        refine rk 1 ?_
        obtain ⟨r3630,hr3630,h⟩:=bind_sx h
        refine run_call 36 [.v (.string t13)] (some 81) (by kernel_rfl) ?_
        refine call_0 (taskmillref_NumberOf_spec t13 r3630 hr3630) (by simp only [push_cast,seval]) (by simp only [push_cast,seval]) ?_
        refine back_f ?_
        refine rk 5 ?_
        refine rf [(2,.ptr 0 0),(4,.own 1 0 c1q11.length),(5,iS op18),(7,.own 2 0 c2q18.length),(8,iS xat18),(9,iS i15),(13,iS r3630.1),(14,bS r3630.2)] [(0,.row 38 [iS 0,iS 0,iS 0]),(1,.row 9 (fl c1q11)),(2,.row 3 (fl c2q18))] 3 (by kernel_rfl) ?_
        refine wk_id ?_
        refine seq_np ?_
        refine seq_np ?_
        refine reg_f ?_
        refine rk 2 ?_
        refine rf [(2,.ptr 0 0),(4,.own 1 0 c1q11.length),(5,iS op18),(7,.own 2 0 c2q18.length),(8,iS xat18),(9,iS i15),(13,iS r3630.1),(85,bS (!r3630.2))] [(0,.row 38 [iS 0,iS 0,iS 0]),(1,.row 9 (fl c1q11)),(2,.row 3 (fl c2q18))] 3 (by kernel_rfl) ?_
        refine wk_id ?_
        refine cond_sx h (by kernel_rfl) (fun g3636 h=>?_) (fun g3636 h=>?_)
        ·refine seq_np ?_
         refine reg_f ?_
         refine rk 3 ?_
         refine rf [(2,.ptr 0 0),(3,bS false)] [(0,.row 38 [iS 0,iS 0,iS 0]),(1,.row 9 (fl c1q11)),(2,.row 3 (fl c2q18))] 3 (by kernel_rfl) ?_
         refine wk_id ?_
         refine rt_cast ht4 ?_
         obtain ⟨r0,h,e0⟩:=map_sx h
         have e1:=hr4 r0 e0.symm
         subst r0
         obtain rfl:=Option.some.inj h
         refine ret_at (.tup [.agg [iS 0,iS 0,iS 0],bS false]) (by kernel_rfl) ?_
         exact ret_e [] [] (by simp only [push_cast,seval]) (by simp only [push_cast,seval]) rfl rfl rfl
        ·refine wk_id ?_
         refine chk_sx h (fun g3635 h=>?_)
         refine seq_np ?_
         refine reg_f ?_
         have k3634:0≤i15∧i15 < (c2q18.length:Int):=by first | simpa only [Bool.and_eq_true,decide_eq_true_eq,bne_iff_ne,ne_eq] using g3635 | (simp at g3635 ⊢; omega) | simp
         refine rs 5 [none,none,none,some ⟨.ptr 2 (0+(i15).toNat * 1),[],3,[2]⟩,some ⟨.any,[(2,.row 3 (fl (c2q18.set i15.toNat r3630.1)))],3,[2]⟩] _ (by kernel_rfl) (allP_cons (ob_st (P:=Tryd.prog) c2q18 i15 1 0 (0+(i15).toNat * 1) k3634 rfl [iS r3630.1] r3630.1 (Nat.le_of_ble_eq_true rfl) (by first | rfl | omega) rfl 2 3 3 3 (by kernel_rfl) rfl) (allP_cons (ob_ix_o 2 c2q18.length 0 1 3 i15 k3634) allP_nil)) ?_
         refine run_eqF 7 (.own 2 0 c2q18.length) (.own 2 0 (c2q18.set i15.toNat r3630.1).length) (congrArg (fun nq=>(.own 2 0 nq:SV)) (show c2q18.length = (c2q18.set i15.toNat r3630.1).length from (List.length_set ..).symm)) (by kernel_rfl) ?_
         refine rf [(2,.ptr 0 0),(4,.own 1 0 c1q11.length),(5,iS op18),(7,.own 2 0 (c2q18.set i15.toNat r3630.1).length),(8,iS xat18),(9,iS i15)] [(0,.row 38 [iS 0,iS 0,iS 0]),(1,.row 9 (fl c1q11)),(2,.row 3 (fl (c2q18.set i15.toNat r3630.1)))] 3 (by kernel_rfl) ?_
         refine wk_id ?_
         refine reg_f ?_
         refine rk 3 ?_
         refine rf [(2,.ptr 0 0),(4,.own 1 0 c1q11.length),(5,iS op18),(7,.own 2 0 (c2q18.set i15.toNat r3630.1).length),(8,iS (IntKind.i64.wrap (xat18+1))),(9,iS i15)] [(0,.row 38 [iS 0,iS 0,iS 0]),(1,.row 9 (fl c1q11)),(2,.row 3 (fl (c2q18.set i15.toNat r3630.1)))] 3 (by kernel_rfl) ?_
         exact hK3570 ((IntKind.i64.wrap (xat18+1)),(c2q18.set i15.toNat r3630.1)) _ _ _ h (leSt_m [(0,0),(1,1),(2,2)] [] (by simp only [push_cast,seval]) (by simp only [push_cast,seval]) rfl rfl rfl)
    ·rintro ⟨xat20,c2q20⟩ h
     try dsimp only at h ⊢
     unfold taskmillref_InstrOf_j2 at h
     refine wk_id ?_
     refine reg_f ?_
     refine rk 3 ?_
     refine rf [(2,.ptr 0 0),(4,.own 1 0 c1q11.length),(5,iS op18),(7,.own 2 0 c2q20.length),(8,iS xat20),(9,iS (IntKind.i64.wrap (i15+1)))] [(0,.row 38 [iS 0,iS 0,iS 0]),(1,.row 9 (fl c1q11)),(2,.row 3 (fl c2q20))] 3 (by kernel_rfl) ?_
     exact hn4 (xat20,(IntKind.i64.wrap (i15+1)),c2q20) _ _ _ (Option.some.inj h).symm (leSt_m [(0,0),(1,1),(2,2)] [] (by simp only [push_cast,seval]) (by simp only [push_cast,seval]) rfl rfl rfl)
   ·change R4 (.exit 2) _ _ _
    refine ex_cast hx4 (id:=2) ?_
    obtain ⟨r0,h,e0⟩:=map_sx h
    have e1:=hr4 r0 e0.symm
    subst r0
    refine wk_id ?_
    refine wk_id ?_
    refine chk_sx h (fun g3644 h=>?_)
    refine chk_sx h (fun g3646 h=>?_)
    refine seq_np ?_
    refine reg_t ?_
    have k3643:0≤(0:Int)∧(0:Int) < (c2q18.length:Int):=by first | simpa only [Bool.and_eq_true,decide_eq_true_eq,bne_iff_ne,ne_eq] using g3644 | (simp at g3644 ⊢; omega) | simp
    have k3645:0≤(1:Int)∧(1:Int) < (c2q18.length:Int):=by first | simpa only [Bool.and_eq_true,decide_eq_true_eq,bne_iff_ne,ne_eq] using g3646 | (simp at g3646 ⊢; omega) | simp
    refine rs 14 [none,none,some ⟨.ptr 2 (0+((0:Int)).toNat * 1),[],5,[2]⟩,some ⟨iS (ix c2q18 (0:Int)),[],6,[2]⟩,none,some ⟨.ptr 2 (0+((1:Int)).toNat * 1),[],8,[2]⟩,some ⟨iS (ix c2q18 (1:Int)),[],9,[2]⟩] _ (by kernel_rfl) (allP_cons (ob_ld c2q18 (1:Int) 1 0 (0+((1:Int)).toNat * 1) k3645 rfl (by decide) (by first | rfl | omega) (dflS Tryd.prog 3) (iS (ix c2q18 (1:Int))) rfl 9 [2]) (allP_cons (ob_ix_o 2 c2q18.length 0 1 8 1 k3645) (allP_cons (ob_ld c2q18 (0:Int) 1 0 (0+((0:Int)).toNat * 1) k3643 rfl (by decide) (by first | rfl | omega) (dflS Tryd.prog 3) (iS (ix c2q18 (0:Int))) rfl 6 [2]) (allP_cons (ob_ix_o 2 c2q18.length 0 1 5 0 k3643) allP_nil)))) ?_
    refine rt [(2,.ptr 0 0),(3,bS (xat18 == (c1q11.length:Int)))] [(0,.row 38 [iS op18,iS (ix c2q18 (0:Int)),iS (ix c2q18 (1:Int))]),(1,.row 9 (fl c1q11)),(2,.row 3 (fl c2q18))] 17 follows (by kernel_rfl) ?_
    refine wk_id ?_
    obtain rfl:=Option.some.inj h
    refine ret_at (.tup [.agg [iS op18,iS (ix c2q18 (0:Int)),iS (ix c2q18 (1:Int))],bS (xat18 == (c1q11.length:Int))]) (by kernel_rfl) ?_
    exact ret_e [] [] (by simp only [push_cast,seval]) (by simp only [push_cast,seval]) rfl rfl rfl

end Go.Proofs.YtdckaaiidagodaaDoor
