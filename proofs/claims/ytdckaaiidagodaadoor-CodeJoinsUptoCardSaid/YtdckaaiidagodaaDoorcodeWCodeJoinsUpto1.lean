/-
 What laws of the chapter code compute, and lemmas on it.
 No conditions.
-/
import Derived.Test.YtdckaaiidagodaaDoorProg
import Derived.Test.YtdckaaiidagodaaDoorcodeG
set_option linter.unusedSimpArgs false
set_option linter.unusedVariables false
set_option linter.unusedSectionVars false
namespace Go.Proofs.YtdckaaiidagodaaDoor
open Go Go.Sx
attribute [local irreducible] Wk RunAt
theorem follows:Tryd.prog.follows .mixedOrders = true:=by kernel_rfl
attribute [local bitvec_to_nat] leL_flD renL_flD leL_flP renL_flP leC_famP leC_famP0 flP_0 ren_famP noN_eq lenP_same lenP_one lenP_app lenP_set lenP_famP Nat.le_refl List.length_set leC_mpP leC_mpP1 mapLe_eq mapLe1_eq ren_mpP ren_mpP1
theorem rk {P:Program} {fr:Fr} {hp:Hp} {nx:Nat} {ops:Array Oper} {d:Bool} {l:List Oper} {acc:List Nms} {K:Fr→Hp→Nat→Prop} (n:Nat) (k:RunAt P d ops (List.drop n l) (getSeg (evalS P d ops n l [] ⟨fr,hp,nx,acc,[]⟩)).fr (getSeg (evalS P d ops n l [] ⟨fr,hp,nx,acc,[]⟩)).hp (getSeg (evalS P d ops n l [] ⟨fr,hp,nx,acc,[]⟩)).nx (getSeg (evalS P d ops n l [] ⟨fr,hp,nx,acc,[]⟩)).acc K) (h:(evalS P d ops n l [] ⟨fr,hp,nx,acc,[]⟩).map (·.obs) = some []:=by kernel_rfl):RunAt P d ops l fr hp nx acc K:=rs n [] [] h allP_nil k
set_option maxRecDepth 100000 in
set_option maxHeartbeats 200000000 in
theorem cc_fresh_spec (b:Nat) (w:World) (h0:w.cell? ⟨b,0,none⟩ = some (.pointer none)) (hsh:w.shape? b = some (67,2)) (hfz:w.frozen? ⟨b,0,none⟩ = false) :
  Calls Tryd.prog 37 #[.pointer (some ⟨b,0,none⟩)] w fun e w'=>e = .returned (.tuple #[])∧w' = w.setCell ⟨b,0,none⟩ (.pointer (some ⟨b,0,none⟩)):=by
 have mixed:=follows
 obtain ⟨j,hj,hjs⟩:∃ j,Tryd.prog.info? 67 = some j∧j.size = 2:=Option.map_eq_some_iff.1 (show (Tryd.prog.info? 67).map (·.size) = some 2 by kernel_rfl)
 go_enter Tryd.func37,Tryd.ntmps37
 go_wp2
 rw [Lib.run_to_unsafe w ⟨b,0,none⟩ (t:=67) (by kernel_rfl) (by kernel_rfl) hj (by rw [hjs]; decide) hsh (Nat.zero_lt_succ 1)]
 simp only [Result.andThen]
 rw [Oper.upon_value]
 go_wp2
 rw [run_callFunc_extern Tryd.func46 (by kernel_rfl) (by kernel_rfl) (by kernel_rfl) (e:=Extern.AbiNoEscape.same) (by kernel_rfl)]
 rw [Lib.run_noEscape]
 simp only [Result.andThen]
 rw [Oper.upon_value]
 go_wp2
 rw [Lib.run_from_unsafe w ⟨b,0,none⟩ (u:=67) (by kernel_rfl) (by kernel_rfl) hj hsh (by kernel_rfl)]
 simp only [Result.andThen]
 rw [Oper.upon_value]
 go_wp2
 go_end0
 exact ⟨rfl,rfl⟩
set_option maxRecDepth 100000 in
set_option maxHeartbeats 1000000 in
theorem cc_used_spec (b:Nat) (w:World) (h0:w.cell? ⟨b,0,none⟩ = some (.pointer (some ⟨b,0,none⟩))) :
  Calls Tryd.prog 37 #[.pointer (some ⟨b,0,none⟩)] w fun e w'=>e = .returned (.tuple #[])∧w' = w:=by
 have mixed:=follows
 obtain ⟨j,hj,hjs⟩:∃ j,Tryd.prog.info? 67 = some j∧j.size = 2:=Option.map_eq_some_iff.1 (show (Tryd.prog.info? 67).map (·.size) = some 2 by kernel_rfl)
 go_enter Tryd.func37,Tryd.ntmps37
 go_wp2
 rw [Lib.run_neq_ptr_same w _ (te:=67) (by kernel_rfl) hj]
 go_wp2
 go_end0
 exact ⟨rfl,rfl⟩
theorem cc_ok_spec:CallOk Tryd.prog (ccHook 37 67):=copyCheck_ok (fn_of Tryd.func37 (by kernel_rfl) (by kernel_rfl)) cc_fresh_spec cc_used_spec
theorem taskmilllaw_codeBegun_spec (r:Bool) (h:taskmilllaw_codeBegun = some r):SpecW Tryd.prog 7 [] [] 0 (fun x h n=>x = bS r∧h = []∧n = 0):=by
 unfold taskmilllaw_codeBegun at h
 obtain rfl:=Option.some.inj h
 exact closed_callH follows cc_ok_spec 10000 1000 (by kernel_rfl)

set_option maxRecDepth 100000 in
set_option maxHeartbeats 200000000 in
theorem code_fault_spec (code:Int) (xat:Int) (r:Fault) (h:code_fault code xat = some r):SpecW Tryd.prog 23 [iS code,iS xat] [] 0 (fun x h n=>x = .agg (Enc.cells r)∧h = []∧n = 0):=by
 unfold code_fault at h
 refine spec_of (draw_ok _) Tryd.func23 rfl (by decide) rfl (by kernel_rfl) ?_
 refine seq_np ?_
 refine reg_f ?_
 refine rk 1 ?_
 refine rf [(0,iS code),(1,iS xat),(4,.ptr 0 0)] [(0,.row 31 [iS 0,iS 0])] 1 (by kernel_rfl) ?_
 refine wk_id ?_
 refine seq_np ?_
 refine reg_f ?_
 refine rk 4 ?_
 refine rf [(4,.ptr 0 0)] [(0,.row 31 [iS code,iS xat])] 1 (by kernel_rfl) ?_
 refine wk_id ?_
 obtain rfl:=Option.some.inj h
 refine ret_at (.agg [iS code,iS xat]) (by kernel_rfl) ?_
 exact ret_e [] [] (by simp only [push_cast,seval]) (by simp only [push_cast,seval]) rfl rfl rfl

set_option maxRecDepth 100000 in
set_option maxHeartbeats 200000000 in
theorem strings_Cut_spec (s:ByteArray) (sep:ByteArray) (r:ByteArray×ByteArray×Bool) (h:strings_Cut s sep = some r):SpecW Tryd.prog 32 [.v (.string s),.v (.string sep)] [] 0 (fun x h n=>x = .tup [.v (.string r.1),.v (.string r.2.1),bS r.2.2]∧h = []∧n = 0):=by
 unfold strings_Cut at h
 obtain ⟨h1,rfl⟩:=bif_some h
 exact cd_cut_spec s sep h1

set_option maxRecDepth 100000 in
set_option maxHeartbeats 200000000 in
theorem strings_Split_spec (s:ByteArray) (sep:ByteArray) (r:List ByteArray) (h:strings_Split s sep = some r):SpecW Tryd.prog 40 [.v (.string s),.v (.string sep)] [] 0 (fun x h n=>x = .own 0 0 r.length∧h = [(0,.row 9 (fl r))]∧n = 1):=by
 unfold strings_Split at h
 obtain ⟨h1,rfl⟩:=bif_some h
 exact cd_split_spec s sep h1.1 h1.2

set_option maxRecDepth 100000 in
set_option maxHeartbeats 200000000 in
theorem code_line_1_spec (k:kind) (t1:(List ByteArray)) (r:Bool) (h:code_line_1 k t1 = some r):SpecW Tryd.prog 42 [.agg (Enc.cells k),.iptr [.sl t1.length (fl t1)] 0] [] 0 (fun x h n=>x = bS r∧h = []∧n = 0):=by
 unfold code_line_1 at h
 refine spec_of (draw_ok _) Tryd.func42 rfl (by decide) rfl (by kernel_rfl) ?_
 refine seq_np ?_
 refine reg_f ?_
 refine rk 2 ?_
 refine rf [(1,.iptr [.sl t1.length (fl t1)] 0),(2,.ptr 0 0)] [(0,.row 58 (Enc.cells k))] 1 (by kernel_rfl) ?_
 refine wk_id ?_
 refine chk_sx h (fun g20 h=>?_)
 refine seq_cut (A:=Unit) (fun _=>([(3,bS ((decide (k.name = (ix t1 (0:Int)))) && (!decide (k.name = ByteArray.empty))))],[(0,.row 58 (Enc.cells k))],13)) (fun _=>True) (fun K18 hK18=>?_) (fun _ _=>?_)
 ·refine reg_t ?_
  have k19:0≤(0:Int)∧(0:Int) < (t1.length:Int):=by first | simpa only [Bool.and_eq_true,decide_eq_true_eq,bne_iff_ne,ne_eq] using g20 | (simp at g20 ⊢; omega) | simp
  refine rs 7 [none,none,none,some ⟨.iptr (fl t1) (((0:Int)).toNat * 1),[],4,[]⟩,some ⟨.v (.string (ix t1 (0:Int))),[],5,[]⟩,some ⟨bS (decide (k.name = (ix t1 (0:Int)))),[],6,[]⟩] _ (by kernel_rfl) (allP_cons (ob_p (v:=bS (decide (k.name = (ix t1 (0:Int))))) (nx:=6) (r:=[]) trivial) (allP_cons (ob_ld t1 (0:Int) 1 0 (((0:Int)).toNat * 1) k19 rfl (by decide) (by first | rfl | omega) (dflS Tryd.prog 9) (.v (.string (ix t1 (0:Int)))) rfl 5 []) (allP_cons (ob_ix_l t1 1 4 0 k19) allP_nil))) ?_
  refine run_split 10 (decide (k.name = (ix t1 (0:Int)))) (.inl (by kernel_rfl)) (fun g21=>?_) (fun g21=>?_)
  ·refine rs 5 [none,none,some ⟨bS (!decide (k.name = ByteArray.empty)),[],10,[]⟩] _ (by kernel_rfl) (allP_cons (ob_p (v:=bS (!decide (k.name = ByteArray.empty))) (nx:=10) (r:=[]) trivial) allP_nil) ?_
   refine rt [(3,bS (!decide (k.name = ByteArray.empty)))] [(0,.row 58 (Enc.cells k))] 13 follows (by kernel_rfl) ?_
   exact hK18 () _ _ _ trivial (leSt_m [(0,0)] [] (by (try simp only [g21]) <;> simp only [push_cast,seval]) (by (try simp only [g21]) <;> simp only [push_cast,seval]) rfl rfl rfl)
  ·refine rk 5 ?_
   refine rt [(3,bS false)] [(0,.row 58 (Enc.cells k))] 13 follows (by kernel_rfl) ?_
   exact hK18 () _ _ _ trivial (leSt_m [(0,0)] [] (by (try simp only [g21]) <;> simp only [push_cast,seval]) (by (try simp only [g21]) <;> simp only [push_cast,seval]) rfl rfl rfl)
 ·dsimp only
  obtain rfl:=Option.some.inj h
  refine ret_at (bS ((decide (k.name = (ix t1 (0:Int)))) && (!decide (k.name = ByteArray.empty)))) (by kernel_rfl) ?_
  exact ret_e [] [] (by simp only [push_cast,seval]) (by simp only [push_cast,seval]) rfl rfl rfl

set_option maxRecDepth 100000 in
set_option maxHeartbeats 200000000 in
theorem slices_IndexFunc_kind_spec (s:(List kind)) (f:(List ByteArray)) (r:Int) (h:slices_IndexFunc_kind s f = some r):SpecW Tryd.prog 41 [.sl s.length (fl s),.clo 42 [.iptr [.sl f.length (fl f)] 0]] [] 0 (fun x h n=>x = iS r∧h = []∧n = 0):=by
 unfold slices_IndexFunc_kind at h
 refine spec_of (draw_ok _) Tryd.func41 rfl (by decide) rfl (by kernel_rfl) ?_
 refine seq_np ?_
 refine reg_f ?_
 refine rk 1 ?_
 refine rf [(0,.sl s.length (fl s)),(1,.clo 42 [.iptr [.sl f.length (fl f)] 0])] [] 0 (by kernel_rfl) ?_
 refine wk_id ?_
 refine seq_np ?_
 refine seq_np ?_
 refine reg_f ?_
 refine rk 3 ?_
 refine rf [(0,.sl s.length (fl s)),(1,.clo 42 [.iptr [.sl f.length (fl f)] 0]),(7,iS (s.length:Int)),(8,iS 0)] [] 0 (by kernel_rfl) ?_
 refine wk_id ?_
 refine block_np ?_
 refine loop_sx (S:=Int) (fun a=>([(0,.sl s.length (fl s)),(1,.clo 42 [.iptr [.sl f.length (fl f)] 0]),(7,iS (s.length:Int)),(8,iS a)],[],0)) h (leSt_m [] [] (by simp only [push_cast,seval]) (by simp only [push_cast,seval]) rfl rfl rfl) ?_
 rintro t8q7 o2 R2 h hr2 hn2 hx2 ht2
 try dsimp only at h hn2 ⊢
 unfold slices_IndexFunc_kind_l1 at h
 try dsimp only at h
 refine seq_np ?_
 refine reg_f ?_
 refine rk 1 ?_
 refine rf [(0,.sl s.length (fl s)),(1,.clo 42 [.iptr [.sl f.length (fl f)] 0]),(7,iS (s.length:Int)),(8,iS t8q7),(9,bS (decide (t8q7 < (s.length:Int))))] [] 0 (by kernel_rfl) ?_
 refine wk_id ?_
 refine seq_np ?_
 refine cond_sx h (by kernel_rfl) (fun g94 h=>?_) (fun g94 h=>?_)
 ·refine wk_id ?_
  refine seq_np ?_
  refine block_np ?_
  refine seq_np ?_
  refine reg_f ?_
  refine rk 2 ?_
  refine rf [(0,.sl s.length (fl s)),(1,.clo 42 [.iptr [.sl f.length (fl f)] 0]),(5,iS t8q7),(7,iS (s.length:Int)),(8,iS t8q7)] [] 0 (by kernel_rfl) ?_
  refine wk_id ?_
  refine chk_sx h (fun g91 h=>?_)
  refine seq_np ?_
  refine reg_f ?_
  have k90:0≤t8q7∧t8q7 < (s.length:Int):=by first | simpa only [Bool.and_eq_true,decide_eq_true_eq,bne_iff_ne,ne_eq] using g91 | (simp at g91 ⊢; omega) | simp
  refine rs 5 [none,none,none,some ⟨.iptr (fl s) ((t8q7).toNat * 2),[],0,[]⟩,some ⟨.agg (Enc.cells (ix s t8q7)),[],0,[]⟩] _ (by kernel_rfl) (allP_cons (ob_ldw s t8q7 2 ((t8q7).toNat * 2) k90 rfl (by first | rfl | omega) (Enc.cells (ix s t8q7)) rfl 0 []) (allP_cons (ob_ix_l s 2 0 t8q7 k90) allP_nil)) ?_
  obtain ⟨r92,hr92,h⟩:=bind_sx h
  refine run_call 42 [.agg (Enc.cells (ix s t8q7)),.iptr [.sl f.length (fl f)] 0] (some 16) (by kernel_rfl) ?_
  refine call_0 (code_line_1_spec (ix s t8q7) f r92 hr92) (by simp only [push_cast,seval]) (by simp only [push_cast,seval]) ?_
  refine back_f ?_
  refine rf [(0,.sl s.length (fl s)),(1,.clo 42 [.iptr [.sl f.length (fl f)] 0]),(5,iS t8q7),(7,iS (s.length:Int)),(8,iS t8q7),(16,bS r92)] [] 0 (by kernel_rfl) ?_
  refine wk_id ?_
  refine cond_sx h (by kernel_rfl) (fun g93 h=>?_) (fun g93 h=>?_)
  ·refine seq_np ?_
   refine reg_f ?_
   refine rk 2 ?_
   refine rf [(4,iS t8q7)] [] 0 (by kernel_rfl) ?_
   refine wk_id ?_
   refine rt_cast ht2 ?_
   obtain ⟨r0,h,e0⟩:=map_sx h
   have e1:=hr2 r0 e0.symm
   subst r0
   obtain rfl:=Option.some.inj h
   refine ret_at (iS t8q7) (by kernel_rfl) ?_
   exact ret_e [] [] (by simp only [push_cast,seval]) (by simp only [push_cast,seval]) rfl rfl rfl
  ·refine wk_id ?_
   refine wk_id ?_
   refine reg_f ?_
   refine rk 2 ?_
   refine rf [(0,.sl s.length (fl s)),(1,.clo 42 [.iptr [.sl f.length (fl f)] 0]),(7,iS (s.length:Int)),(8,iS (IntKind.i64.wrap (t8q7+1)))] [] 0 (by kernel_rfl) ?_
   exact hn2 ((IntKind.i64.wrap (t8q7+1))) _ _ _ (Option.some.inj h).symm (leSt_m [] [] (by simp only [push_cast,seval]) (by simp only [push_cast,seval]) rfl rfl rfl)
 ·change R2 (.exit 0) _ _ _
  refine ex_cast hx2 (id:=0) ?_
  obtain ⟨r0,h,e0⟩:=map_sx h
  have e1:=hr2 r0 e0.symm
  subst r0
  refine wk_id ?_
  refine wk_id ?_
  refine seq_np ?_
  refine reg_f ?_
  refine rk 1 ?_
  refine rf [(4,iS (-1))] [] 0 (by kernel_rfl) ?_
  refine wk_id ?_
  obtain rfl:=Option.some.inj h
  refine ret_at (iS (-1)) (by kernel_rfl) ?_
  exact ret_e [] [] (by simp only [push_cast,seval]) (by simp only [push_cast,seval]) rfl rfl rfl

set_option maxRecDepth 100000 in
set_option maxHeartbeats 200000000 in
theorem code_letter_spec (k:Int) (r:ByteArray) (h:code_letter k = some r):SpecW Tryd.prog 29 [.v (.int .u8 k)] [] 0 (fun x h n=>x = .v (.string r)∧h = []∧n = 0):=by
 unfold code_letter at h
 refine spec_of (draw_ok _) Tryd.func29 rfl (by decide) rfl (by kernel_rfl) ?_
 refine seq_np ?_
 refine reg_f ?_
 refine rk 1 ?_
 refine rf [(0,.v (.int .u8 k))] [] 0 (by kernel_rfl) ?_
 refine wk_id ?_
 refine seq_np ?_
 refine seq_np ?_
 refine reg_f ?_
 refine rk 1 ?_
 refine rf [(0,.v (.int .u8 k)),(3,.v (.int .u8 k))] [] 0 (by kernel_rfl) ?_
 refine wk_id ?_
 refine block_np ?_
 refine seq_cut (A:=Bool) (fun a=>([(0,.v (.int .u8 k)),(3,.v (.int .u8 k)),(4,bS a)],[],0)) (fun a=>(code_letter_j1 k a) = some r) (fun K131 hK131=>?_) ?_
 ·refine seq_np ?_
  refine reg_f ?_
  refine rk 2 ?_
  refine rf [(0,.v (.int .u8 k)),(3,.v (.int .u8 k)),(4,bS (k == 110))] [] 0 (by kernel_rfl) ?_
  refine wk_id ?_
  refine cond_sx h (by kernel_rfl) (fun g133 h=>?_) (fun g133 h=>?_)
  ·exact hK131 ((k == 110)) _ _ _ h (leSt_m [] [] (by simp only [push_cast,seval]) (by simp only [push_cast,seval]) rfl rfl rfl)
  ·refine seq_np ?_
   refine reg_f ?_
   refine rk 2 ?_
   refine rf [(0,.v (.int .u8 k)),(3,.v (.int .u8 k)),(4,bS (k == 107))] [] 0 (by kernel_rfl) ?_
   refine wk_id ?_
   refine cond_sx h (by kernel_rfl) (fun g132 h=>?_) (fun g132 h=>?_)
   ·exact hK131 ((k == 107)) _ _ _ h (leSt_m [] [] (by simp only [push_cast,seval]) (by simp only [push_cast,seval]) rfl rfl rfl)
   ·refine reg_f ?_
    refine rk 2 ?_
    refine rf [(0,.v (.int .u8 k)),(3,.v (.int .u8 k)),(4,bS (k == 45))] [] 0 (by kernel_rfl) ?_
    exact hK131 ((k == 45)) _ _ _ h (leSt_m [] [] (by simp only [push_cast,seval]) (by simp only [push_cast,seval]) rfl rfl rfl)
 ·rintro t4q3 h
  try dsimp only at h ⊢
  unfold code_letter_j1 at h
  refine cond_sx h (by kernel_rfl) (fun g136 h=>?_) (fun g136 h=>?_)
  ·refine seq_np ?_
   refine reg_f ?_
   refine rk 1 ?_
   refine rf [(2,.v (.string ByteArray.empty))] [] 0 (by kernel_rfl) ?_
   refine wk_id ?_
   obtain rfl:=Option.some.inj h
   refine ret_at (.v (.string ByteArray.empty)) (by kernel_rfl) ?_
   exact ret_e [] [] (by simp only [push_cast,seval]) (by simp only [push_cast,seval]) rfl rfl rfl
  ·refine seq_np ?_
   refine reg_f ?_
   refine rk 2 ?_
   refine rf [(0,.v (.int .u8 k)),(3,.v (.int .u8 k)),(8,bS (k == 99))] [] 0 (by kernel_rfl) ?_
   refine wk_id ?_
   refine cond_sx h (by kernel_rfl) (fun g135 h=>?_) (fun g135 h=>?_)
   ·refine seq_np ?_
    refine reg_f ?_
    refine rk 1 ?_
    refine rf [(2,.v (.string (ByteArray.mk #[64])))] [] 0 (by kernel_rfl) ?_
    refine wk_id ?_
    obtain rfl:=Option.some.inj h
    refine ret_at (.v (.string (ByteArray.mk #[64]))) (by kernel_rfl) ?_
    exact ret_e [] [] (by simp only [push_cast,seval]) (by simp only [push_cast,seval]) rfl rfl rfl
   ·refine seq_np ?_
    refine reg_f ?_
    refine rk 2 ?_
    refine rf [(0,.v (.int .u8 k)),(10,bS (k == 109))] [] 0 (by kernel_rfl) ?_
    refine wk_id ?_
    refine cond_sx h (by kernel_rfl) (fun g134 h=>?_) (fun g134 h=>?_)
    ·refine seq_np ?_
     refine reg_f ?_
     refine rk 1 ?_
     refine rf [(2,.v (.string (ByteArray.mk #[99])))] [] 0 (by kernel_rfl) ?_
     refine wk_id ?_
     obtain rfl:=Option.some.inj h
     refine ret_at (.v (.string (ByteArray.mk #[99]))) (by kernel_rfl) ?_
     exact ret_e [] [] (by simp only [push_cast,seval]) (by simp only [push_cast,seval]) rfl rfl rfl
    ·refine wk_id ?_
     refine wk_id ?_
     refine seq_np ?_
     refine reg_f ?_
     refine rk 4 ?_
     refine rf [(2,.v (.string (Utf8.encode (IntKind.i32.wrap k))))] [] 0 (by kernel_rfl) ?_
     refine wk_id ?_
     obtain rfl:=Option.some.inj h
     refine ret_at (.v (.string (Utf8.encode (IntKind.i32.wrap k)))) (by kernel_rfl) ?_
     exact ret_e [] [] (by simp only [push_cast,seval]) (by simp only [push_cast,seval]) rfl rfl rfl

set_option maxRecDepth 100000 in
set_option maxHeartbeats 200000000 in
theorem stringslite_HasPrefix_spec (s:ByteArray) (xprefix:ByteArray) (r:Bool) (h:stringslite_HasPrefix s xprefix = some r):SpecW Tryd.prog 64 [.v (.string s),.v (.string xprefix)] [] 0 (fun x h n=>x = bS r∧h = []∧n = 0):=by
 unfold stringslite_HasPrefix at h
 refine spec_of (draw_ok _) Tryd.func64 rfl (by decide) rfl (by kernel_rfl) ?_
 refine seq_np ?_
 refine reg_f ?_
 refine rk 1 ?_
 refine rf [(0,.v (.string s)),(1,.v (.string xprefix))] [] 0 (by kernel_rfl) ?_
 refine wk_id ?_
 refine chk_sx h (fun g147 h=>?_)
 refine seq_cut (A:=Unit) (fun _=>([(4,bS ((decide ((((xprefix).size:Nat):Int)≤(((s).size:Nat):Int))) && (decide (((s).extract ((0:Int)).toNat ((((xprefix).size:Nat):Int)).toNat) = xprefix))))],[],0)) (fun _=>True) (fun K144 hK144=>?_) (fun _ _=>?_)
 ·refine reg_f ?_
  refine rk 6 ?_
  refine run_split 10 (decide ((((xprefix).size:Nat):Int)≤(((s).size:Nat):Int))) (.inl (by kernel_rfl)) (fun g145=>?_) (fun g145=>?_)
  ·have k146:0≤(0:Int)∧(0:Int)≤(((xprefix).size:Nat):Int)∧(((xprefix).size:Nat):Int)≤(((s).size:Nat):Int):=by have e:=or_use g147 (by first | ((try simp only [g145]) <;> rfl) | ((try simp only [g145]); rfl) | (exfalso; clear h; simp_all; done)); first | simpa only [Bool.and_eq_true,decide_eq_true_eq,bne_iff_ne,ne_eq] using e | (simp at e ⊢; omega)
   refine rs 8 [none,none,none,some ⟨.v (.string ((s).extract ((0:Int)).toNat ((((xprefix).size:Nat):Int)).toNat)),[],0,[]⟩,none,some ⟨bS (decide (((s).extract ((0:Int)).toNat ((((xprefix).size:Nat):Int)).toNat) = xprefix)),[],0,[]⟩] _ (by kernel_rfl) (allP_cons (ob_p (v:=bS (decide (((s).extract ((0:Int)).toNat ((((xprefix).size:Nat):Int)).toNat) = xprefix))) (nx:=0) (r:=[]) trivial) (allP_cons (ob_p (v:=.v (.string ((s).extract ((0:Int)).toNat ((((xprefix).size:Nat):Int)).toNat))) (nx:=0) (r:=[]) k146) allP_nil)) ?_
   refine rf [(4,bS (decide (((s).extract ((0:Int)).toNat ((((xprefix).size:Nat):Int)).toNat) = xprefix)))] [] 0 (by kernel_rfl) ?_
   exact hK144 () _ _ _ trivial (leSt_m [] [] (by (try simp only [g145]) <;> simp only [push_cast,seval]) (by (try simp only [g145]) <;> simp only [push_cast,seval]) rfl rfl rfl)
  ·refine rk 8 ?_
   refine rf [(4,bS false)] [] 0 (by kernel_rfl) ?_
   exact hK144 () _ _ _ trivial (leSt_m [] [] (by (try simp only [g145]) <;> simp only [push_cast,seval]) (by (try simp only [g145]) <;> simp only [push_cast,seval]) rfl rfl rfl)
 ·dsimp only
  obtain rfl:=Option.some.inj h
  refine ret_at (bS ((decide ((((xprefix).size:Nat):Int)≤(((s).size:Nat):Int))) && (decide (((s).extract ((0:Int)).toNat ((((xprefix).size:Nat):Int)).toNat) = xprefix)))) (by kernel_rfl) ?_
  exact ret_e [] [] (by simp only [push_cast,seval]) (by simp only [push_cast,seval]) rfl rfl rfl

set_option maxRecDepth 100000 in
set_option maxHeartbeats 200000000 in
theorem stringslite_CutPrefix_spec (s:ByteArray) (xprefix:ByteArray) (r:ByteArray×Bool) (h:stringslite_CutPrefix s xprefix = some r):SpecW Tryd.prog 50 [.v (.string s),.v (.string xprefix)] [] 0 (fun x h n=>x = .tup [.v (.string r.1),bS r.2]∧h = []∧n = 0):=by
 unfold stringslite_CutPrefix at h
 refine spec_of (draw_ok _) Tryd.func50 rfl (by decide) rfl (by kernel_rfl) ?_
 refine seq_np ?_
 refine reg_f ?_
 refine rk 2 ?_
 refine rf [(0,.v (.string s)),(1,.v (.string xprefix))] [] 0 (by kernel_rfl) ?_
 refine wk_id ?_
 refine seq_np ?_
 refine seq_np ?_
 refine reg_f ?_
 refine rk 2 ?_
 obtain ⟨r155,hr155,h⟩:=bind_sx h
 refine run_call 64 [.v (.string s),.v (.string xprefix)] (some 8) (by kernel_rfl) ?_
 refine call_0 (stringslite_HasPrefix_spec s xprefix r155 hr155) (by simp only [push_cast,seval]) (by simp only [push_cast,seval]) ?_
 refine back_f ?_
 refine rk 1 ?_
 refine rf [(0,.v (.string s)),(1,.v (.string xprefix)),(9,bS (!r155))] [] 0 (by kernel_rfl) ?_
 refine wk_id ?_
 refine cond_sx h (by kernel_rfl) (fun g160 h=>?_) (fun g160 h=>?_)
 ·refine seq_np ?_
  refine reg_f ?_
  refine rk 3 ?_
  refine rf [(4,.v (.string s)),(5,bS false)] [] 0 (by kernel_rfl) ?_
  refine wk_id ?_
  obtain rfl:=Option.some.inj h
  refine ret_at (.tup [.v (.string s),bS false]) (by kernel_rfl) ?_
  exact ret_e [] [] (by simp only [push_cast,seval]) (by simp only [push_cast,seval]) rfl rfl rfl
 ·refine wk_id ?_
  refine chk_sx h (fun g159 h=>?_)
  refine seq_np ?_
  refine reg_f ?_
  have k158:0≤(((xprefix).size:Nat):Int)∧(((xprefix).size:Nat):Int)≤(((s).size:Nat):Int)∧(((s).size:Nat):Int)≤(((s).size:Nat):Int):=by first | simpa only [Bool.and_eq_true,decide_eq_true_eq,bne_iff_ne,ne_eq] using g159 | (simp at g159 ⊢; omega) | simp
  refine rs 6 [none,none,none,some ⟨.v (.string ((s).extract ((((xprefix).size:Nat):Int)).toNat ((((s).size:Nat):Int)).toNat)),[],0,[]⟩] _ (by kernel_rfl) (allP_cons (ob_p (v:=.v (.string ((s).extract ((((xprefix).size:Nat):Int)).toNat ((((s).size:Nat):Int)).toNat))) (nx:=0) (r:=[]) k158) allP_nil) ?_
  refine rf [(4,.v (.string ((s).extract ((((xprefix).size:Nat):Int)).toNat ((((s).size:Nat):Int)).toNat))),(5,bS true)] [] 0 (by kernel_rfl) ?_
  refine wk_id ?_
  obtain rfl:=Option.some.inj h
  refine ret_at (.tup [.v (.string ((s).extract ((((xprefix).size:Nat):Int)).toNat ((((s).size:Nat):Int)).toNat)),bS true]) (by kernel_rfl) ?_
  exact ret_e [] [] (by simp only [push_cast,seval]) (by simp only [push_cast,seval]) rfl rfl rfl

set_option maxRecDepth 100000 in
set_option maxHeartbeats 200000000 in
theorem strings_CutPrefix_spec (s:ByteArray) (xprefix:ByteArray) (r:ByteArray×Bool) (h:strings_CutPrefix s xprefix = some r):SpecW Tryd.prog 43 [.v (.string s),.v (.string xprefix)] [] 0 (fun x h n=>x = .tup [.v (.string r.1),bS r.2]∧h = []∧n = 0):=by
 unfold strings_CutPrefix at h
 refine spec_of (draw_ok _) Tryd.func43 rfl (by decide) rfl (by kernel_rfl) ?_
 refine seq_np ?_
 refine reg_f ?_
 refine rk 2 ?_
 refine rf [(0,.v (.string s)),(1,.v (.string xprefix))] [] 0 (by kernel_rfl) ?_
 refine wk_id ?_
 refine seq_np ?_
 refine reg_f ?_
 refine rk 2 ?_
 obtain ⟨r163,hr163,h⟩:=bind_sx h
 refine run_call 50 [.v (.string s),.v (.string xprefix)] (some 8) (by kernel_rfl) ?_
 refine call_0 (stringslite_CutPrefix_spec s xprefix r163 hr163) (by simp only [push_cast,seval]) (by simp only [push_cast,seval]) ?_
 refine back_f ?_
 refine rk 4 ?_
 refine rf [(4,.v (.string r163.1)),(5,bS r163.2)] [] 0 (by kernel_rfl) ?_
 refine wk_id ?_
 obtain rfl:=Option.some.inj h
 refine ret_at (.tup [.v (.string r163.1),bS r163.2]) (by kernel_rfl) ?_
 exact ret_e [] [] (by simp only [push_cast,seval]) (by simp only [push_cast,seval]) rfl rfl rfl

set_option maxRecDepth 100000 in
set_option maxHeartbeats 200000000 in
theorem strconv_Atoi_spec (s:ByteArray) (hK0:(atoiK s) = true) (r:Int) (h:strconv_Atoi s = some r):SpecW Tryd.prog 44 [.v (.string s)] [] 0 (fun x h n=>x = .tup [iS r,.v .nilIface]∧h = []∧n = 0):=by
 unfold strconv_Atoi at h
 obtain ⟨h1,rfl⟩:=bif_some h
 exact cd_atoi_ok_spec s h1 hK0

set_option maxRecDepth 100000 in
set_option maxHeartbeats 200000000 in
theorem strconv_Itoa_spec (i:Int) (r:ByteArray) (h:strconv_Itoa i = some r):SpecW Tryd.prog 30 [iS i] [] 0 (fun x h n=>x = .v (.string r)∧h = []∧n = 0):=by
 unfold strconv_Itoa at h
 obtain ⟨h1,rfl⟩:=bif_some h
 exact cd_itoa_spec i h1.1 h1.2

set_option maxRecDepth 100000 in
set_option maxHeartbeats 200000000 in
theorem strconv_Atoi_1_spec (s:ByteArray) (hK0:(atoiK s) = false) (r:Int) (h:strconv_Atoi_1 s = some r):SpecW Tryd.prog 44 [.v (.string s)] [] 0 (fun x h n=>x = .tup [iS r,.ifc 109 (.any)]∧h = []∧n = 0):=by
 unfold strconv_Atoi_1 at h
 obtain ⟨h1,rfl⟩:=bif_some h
 exact cd_atoi_bad_spec s h1 hK0

set_option maxRecDepth 100000 in
set_option maxHeartbeats 200000000 in
theorem code_line_spec (s:ByteArray) (r:GInstr×Bool) (h:code_line s = some r):SpecW Tryd.prog 33 [.v (.string s)] [] 0 (fun x h n=>x = .tup [.agg (Enc.cells r.1),bS r.2]∧h = []∧n = 0):=by
 unfold code_line at h
 refine spec_of (draw_ok _) Tryd.func33 rfl (by decide) rfl (by kernel_rfl) ?_
 refine seq_np ?_
 refine reg_f ?_
 refine rk 2 ?_
 refine rf [(0,.v (.string s)),(2,.ptr 0 0)] [(0,.row 38 [iS 0,iS 0,iS 0])] 1 (by kernel_rfl) ?_
 refine wk_id ?_
 refine seq_np ?_
 refine reg_f ?_
 refine rk 1 ?_
 obtain ⟨r244,hr244,h⟩:=bind_sx h
 refine call_x (strings_Split_spec s (ByteArray.mk #[32]) r244 hr244) (args:=[.v (.string s),.v (.string (ByteArray.mk #[32]))]) (dst:=(some 15)) (by kernel_rfl) [(0,.row 38 [iS 0,iS 0,iS 0])] 1 (by kernel_rfl) [] [] (.own 1 0 r244.length) [(1,.row 9 (fl r244))] (by simp only [push_cast,seval]) (by simp only [push_cast,seval]) (by kernel_rfl) (.inl rfl) (by simp only [push_cast,seval]) (by simp only [push_cast,seval]) ?_
 refine rk 2 ?_
 refine rf [(2,.ptr 0 0),(4,.ptr 2 0)] [(0,.row 38 [iS 0,iS 0,iS 0]),(1,.row 9 (fl r244)),(2,.row 48 [.own 1 0 r244.length])] 3 (by kernel_rfl) ?_
 refine wk_id ?_
 refine seq_np ?_
 refine reg_f ?_
 refine rs 2 [some ⟨.sl codeKinds.length (fl codeKinds),[],3,[]⟩] _ (by kernel_rfl) (allP_cons (ob_tabsl codeKinds kindsTab (by kernel_rfl) 23 46 3 rfl (by kernel_rfl)) allP_nil) ?_
 obtain ⟨r246,hr246,h⟩:=bind_sx h
 refine call_x (slices_IndexFunc_kind_spec codeKinds r244 r246 hr246) (args:=[.sl codeKinds.length (fl codeKinds),.clo 42 [.ptr 2 0]]) (dst:=(some 18)) (by kernel_rfl) [(0,.row 38 [iS 0,iS 0,iS 0]),(1,.row 9 (fl r244)),(2,.row 48 [.own 1 0 r244.length])] 3 (by kernel_rfl) [] [1,2] (iS r246) [] (by simp only [push_cast,seval]) (by simp only [push_cast,seval]) (by kernel_rfl) (.inr ⟨by simp only [push_cast,seval],by simp only [push_cast,seval]⟩) (by simp only [push_cast,seval]) (by simp only [push_cast,seval]) ?_
 refine rk 1 ?_
 refine rf [(2,.ptr 0 0),(4,.ptr 2 0),(5,iS r246)] [(0,.row 38 [iS 0,iS 0,iS 0]),(1,.row 9 (fl r244)),(2,.row 48 [.own 1 0 r244.length])] 3 (by kernel_rfl) ?_
 refine wk_id ?_
 refine seq_np ?_
 refine seq_np ?_
 refine reg_f ?_
 refine rk 2 ?_
 refine rf [(2,.ptr 0 0),(4,.ptr 2 0),(5,iS r246),(20,bS (decide (r246 < 0)))] [(0,.row 38 [iS 0,iS 0,iS 0]),(1,.row 9 (fl r244)),(2,.row 48 [.own 1 0 r244.length])] 3 (by kernel_rfl) ?_
 refine wk_id ?_
 refine cond_sx h (by kernel_rfl) (fun g592 h=>?_) (fun g592 h=>?_)
 ·refine seq_np ?_
  refine reg_f ?_
  refine rk 3 ?_
  refine rf [(2,.ptr 0 0),(3,bS false)] [(0,.row 38 [iS 0,iS 0,iS 0]),(1,.row 9 (fl r244)),(2,.row 48 [.own 1 0 r244.length])] 3 (by kernel_rfl) ?_
  refine wk_id ?_
  obtain rfl:=Option.some.inj h
  refine ret_at (.tup [.agg [iS 0,iS 0,iS 0],bS false]) (by kernel_rfl) ?_
  exact ret_e [] [] (by simp only [push_cast,seval]) (by simp only [push_cast,seval]) rfl rfl rfl
 ·refine wk_id ?_
  refine seq_np ?_
  refine reg_f ?_
  refine rk 6 ?_
  refine rf [(2,.ptr 0 0),(4,.ptr 2 0),(5,iS r246),(6,.ptr 4 0),(7,.own 3 0 ([0,0]:List Int).length)] [(0,.row 38 [iS 0,iS 0,iS 0]),(1,.row 9 (fl r244)),(2,.row 48 [.own 1 0 r244.length]),(3,.row 3 (fl ([0,0]:List Int))),(4,.row 38 [iS r246,iS 0,iS 0])] 5 (by kernel_rfl) ?_
  refine wk_id ?_
  refine chk_sx h (fun g251 h=>?_)
  refine seq_np ?_
  refine reg_f ?_
  have k250:0≤(1:Int)∧(1:Int)≤(r244.length:Int)∧(r244.length:Int)≤(r244.length:Int):=by first | simpa only [Bool.and_eq_true,decide_eq_true_eq,bne_iff_ne,ne_eq] using g251 | (simp at g251 ⊢; omega) | simp
  refine rk 1 ?_
  refine run_cutO r244 (some 26) 1 1 9 (1:Int) (r244.length:Int) (by kernel_rfl) rfl k250 ?_
  refine rk 1 ?_
  refine rf [(2,.ptr 0 0),(4,.ptr 2 0),(5,iS r246),(6,.ptr 4 0),(7,.own 3 0 ([0,0]:List Int).length)] [(0,.row 38 [iS 0,iS 0,iS 0]),(1,.dead),(2,.row 48 [.own 5 0 (cut r244 (1:Int) (r244.length:Int)).length]),(3,.row 3 (fl ([0,0]:List Int))),(4,.row 38 [iS r246,iS 0,iS 0]),(5,.row 9 (fl (cut r244 (1:Int) (r244.length:Int))))] 6 (by kernel_rfl) ?_
  refine wk_id ?_
  refine seq_np ?_
  refine seq_np ?_
  refine reg_f ?_
  refine rk 1 ?_
  refine rf [(2,.ptr 0 0),(4,.ptr 2 0),(5,iS r246),(6,.ptr 4 0),(7,.own 3 0 ([0,0]:List Int).length),(27,iS 0)] [(0,.row 38 [iS 0,iS 0,iS 0]),(1,.dead),(2,.row 48 [.own 5 0 (cut r244 (1:Int) (r244.length:Int)).length]),(3,.row 3 (fl ([0,0]:List Int))),(4,.row 38 [iS r246,iS 0,iS 0]),(5,.row 9 (fl (cut r244 (1:Int) (r244.length:Int))))] 6 (by kernel_rfl) ?_
  refine wk_id ?_
  refine block_np ?_
  refine loop_sx (S:=Int×Int×Int×(List Int)×(List ByteArray)) (fun a=>([(2,.ptr 0 0),(4,.ptr 1 0),(5,iS a.1),(6,.ptr 2 0),(7,.own 3 0 a.2.2.2.1.length),(27,iS a.2.1)],[(0,.row 38 [iS 0,iS 0,iS 0]),(1,.row 48 [.own 4 0 a.2.2.2.2.length]),(2,.row 38 [iS a.2.2.1,iS 0,iS 0]),(3,.row 3 (fl a.2.2.2.1)),(4,.row 9 (fl a.2.2.2.2))],5)) h (leSt_m [(0,0),(1,2),(2,4),(3,3),(4,5)] [] (by simp only [push_cast,seval]) (by simp only [push_cast,seval]) rfl rfl rfl) ?_
  rintro ⟨op11,t27q7,c2_Op11,c3q18,c4q22⟩ o2 R2 h hr2 hn2 hx2 ht2
  try dsimp only at h hn2 ⊢
  unfold code_line_l1 at h
  try dsimp only at h
  refine seq_np ?_
  refine reg_f ?_
  refine rk 1 ?_
  refine rf [(2,.ptr 0 0),(4,.ptr 1 0),(5,iS op11),(6,.ptr 2 0),(7,.own 3 0 c3q18.length),(27,iS t27q7),(28,bS (decide (t27q7 < 2)))] [(0,.row 38 [iS 0,iS 0,iS 0]),(1,.row 48 [.own 4 0 c4q22.length]),(2,.row 38 [iS c2_Op11,iS 0,iS 0]),(3,.row 3 (fl c3q18)),(4,.row 9 (fl c4q22))] 5 (by kernel_rfl) ?_
  refine wk_id ?_
  refine seq_np ?_
  refine cond_sx h (by kernel_rfl) (fun g591 h=>?_) (fun g591 h=>?_)
  ·refine wk_id ?_
   refine seq_np ?_
   refine block_cut (A:=(List Int)×(List ByteArray)) (fun a=>([(2,.ptr 0 0),(4,.ptr 1 0),(5,iS op11),(6,.ptr 2 0),(7,.own 3 0 a.1.length),(27,iS t27q7)],[(0,.row 38 [iS 0,iS 0,iS 0]),(1,.row 48 [.own 4 0 a.2.length]),(2,.row 38 [iS c2_Op11,iS 0,iS 0]),(3,.row 3 (fl a.1)),(4,.row 9 (fl a.2))],5)) (fun a=>(code_line_j1 op11 t27q7 c2_Op11 a.1 a.2) = some o2) (fun K530 hK530=>?_) ?_
   ·refine seq_np ?_
    refine reg_f ?_
    refine rk 2 ?_
    refine rf [(2,.ptr 0 0),(4,.ptr 1 0),(5,iS op11),(6,.ptr 2 0),(7,.own 3 0 c3q18.length),(8,iS t27q7),(27,iS t27q7)] [(0,.row 38 [iS 0,iS 0,iS 0]),(1,.row 48 [.own 4 0 c4q22.length]),(2,.row 38 [iS c2_Op11,iS 0,iS 0]),(3,.row 3 (fl c3q18)),(4,.row 9 (fl c4q22))] 5 (by kernel_rfl) ?_
    refine wk_id ?_
    refine chk_sx h (fun g536 h=>?_)
    refine chk_sx h (fun g538 h=>?_)
    refine seq_np ?_
    refine reg_f ?_
    have k535:0≤op11∧op11 < (codeKinds.length:Int):=by first | simpa only [Bool.and_eq_true,decide_eq_true_eq,bne_iff_ne,ne_eq] using g536 | (simp at g536 ⊢; omega) | simp
    have k537:0≤t27q7∧t27q7 < ((((ix codeKinds op11).args).size:Nat):Int):=by first | simpa only [Bool.and_eq_true,decide_eq_true_eq,bne_iff_ne,ne_eq] using g538 | (simp at g538 ⊢; omega) | simp
    refine rs 7 [none,some ⟨.iptr (fl codeKinds) ((op11).toNat * 2),[],5,[]⟩,none,some ⟨.v (.string (ix codeKinds op11).args),[],5,[]⟩,none,some ⟨.v (.int .u8 ((((ix codeKinds op11).args).data.getD (t27q7).toNat 0).toNat:Int)),[],5,[]⟩] _ (by kernel_rfl) (allP_cons (ob_p (v:=.v (.int .u8 ((((ix codeKinds op11).args).data.getD (t27q7).toNat 0).toNat:Int))) (nx:=5) (r:=[]) k537) (allP_cons (ob_ld codeKinds op11 2 1 (((op11).toNat * 2)+1) k535 rfl (by decide) (by first | rfl | omega) (dflS Tryd.prog 9) (.v (.string (ix codeKinds op11).args)) rfl 5 []) (allP_cons (ob_tab codeKinds kindsTab (by kernel_rfl) 23 2 5 rfl op11 k535) allP_nil))) ?_
    refine rf [(2,.ptr 0 0),(4,.ptr 1 0),(5,iS op11),(6,.ptr 2 0),(7,.own 3 0 c3q18.length),(8,iS t27q7),(9,.v (.int .u8 ((((ix codeKinds op11).args).data.getD (t27q7).toNat 0).toNat:Int))),(27,iS t27q7)] [(0,.row 38 [iS 0,iS 0,iS 0]),(1,.row 48 [.own 4 0 c4q22.length]),(2,.row 38 [iS c2_Op11,iS 0,iS 0]),(3,.row 3 (fl c3q18)),(4,.row 9 (fl c4q22))] 5 (by kernel_rfl) ?_
    refine wk_id ?_
    refine seq_np ?_
    refine seq_np ?_
    refine reg_f ?_
    refine rk 2 ?_
    refine rf [(2,.ptr 0 0),(4,.ptr 1 0),(5,iS op11),(6,.ptr 2 0),(7,.own 3 0 c3q18.length),(8,iS t27q7),(9,.v (.int .u8 ((((ix codeKinds op11).args).data.getD (t27q7).toNat 0).toNat:Int))),(27,iS t27q7),(37,bS (((((ix codeKinds op11).args).data.getD (t27q7).toNat 0).toNat:Int) == 45))] [(0,.row 38 [iS 0,iS 0,iS 0]),(1,.row 48 [.own 4 0 c4q22.length]),(2,.row 38 [iS c2_Op11,iS 0,iS 0]),(3,.row 3 (fl c3q18)),(4,.row 9 (fl c4q22))] 5 (by kernel_rfl) ?_
    refine wk_id ?_
    refine cond_sx h (by kernel_rfl) (fun g582 h=>?_) (fun g582 h=>?_)
    ·exact hK530 (c3q18,c4q22) _ _ _ h (leSt_m [(0,0),(1,1),(2,2),(3,3),(4,4)] [] (by simp only [push_cast,seval]) (by simp only [push_cast,seval]) rfl rfl rfl)
    ·refine wk_id ?_
     refine seq_np ?_
     refine seq_np ?_
     refine reg_f ?_
     refine rk 3 ?_
     refine rf [(2,.ptr 0 0),(4,.ptr 1 0),(5,iS op11),(6,.ptr 2 0),(7,.own 3 0 c3q18.length),(8,iS t27q7),(9,.v (.int .u8 ((((ix codeKinds op11).args).data.getD (t27q7).toNat 0).toNat:Int))),(27,iS t27q7),(40,bS ((c4q22.length:Int) == 0))] [(0,.row 38 [iS 0,iS 0,iS 0]),(1,.row 48 [.own 4 0 c4q22.length]),(2,.row 38 [iS c2_Op11,iS 0,iS 0]),(3,.row 3 (fl c3q18)),(4,.row 9 (fl c4q22))] 5 (by kernel_rfl) ?_
     refine wk_id ?_
     refine cond_sx h (by kernel_rfl) (fun g581 h=>?_) (fun g581 h=>?_)
     ·refine seq_np ?_
      refine reg_f ?_
      refine rk 3 ?_
      refine rf [(2,.ptr 0 0),(3,bS false)] [(0,.row 38 [iS c2_Op11,iS 0,iS 0]),(1,.row 48 [.own 4 0 c4q22.length]),(2,.row 38 [iS c2_Op11,iS 0,iS 0]),(3,.row 3 (fl c3q18)),(4,.row 9 (fl c4q22))] 5 (by kernel_rfl) ?_
      refine wk_id ?_
      refine rt_cast ht2 ?_
      obtain ⟨r0,h,e0⟩:=map_sx h
      have e1:=hr2 r0 e0.symm
      subst r0
      obtain rfl:=Option.some.inj h
      refine ret_at (.tup [.agg [iS c2_Op11,iS 0,iS 0],bS false]) (by kernel_rfl) ?_
      exact ret_e [] [] (by simp only [push_cast,seval]) (by simp only [push_cast,seval]) rfl rfl rfl
     ·refine wk_id ?_
      refine chk_sx h (fun g546 h=>?_)
      refine seq_np ?_
      refine reg_t ?_
      have k545:0≤(0:Int)∧(0:Int) < (c4q22.length:Int):=by first | simpa only [Bool.and_eq_true,decide_eq_true_eq,bne_iff_ne,ne_eq] using g546 | (simp at g546 ⊢; omega) | simp
      refine rs 4 [none,some ⟨.ptr 4 (0+((0:Int)).toNat * 1),[],6,[4]⟩,some ⟨.v (.string (ix c4q22 (0:Int))),[],7,[4]⟩] _ (by kernel_rfl) (allP_cons (ob_ld c4q22 (0:Int) 1 0 (0+((0:Int)).toNat * 1) k545 rfl (by decide) (by first | rfl | omega) (dflS Tryd.prog 9) (.v (.string (ix c4q22 (0:Int)))) rfl 7 [4]) (allP_cons (ob_ix_o 4 c4q22.length 0 1 6 0 k545) allP_nil)) ?_
      obtain ⟨r547,hr547,h⟩:=bind_sx h
      refine run_call 29 [.v (.int .u8 ((((ix codeKinds op11).args).data.getD (t27q7).toNat 0).toNat:Int))] (some 47) (by kernel_rfl) ?_
      refine callE_0 (code_letter_spec ((((ix codeKinds op11).args).data.getD (t27q7).toNat 0).toNat:Int) r547 hr547) (by simp only [push_cast,seval]) (by simp only [push_cast,seval]) ?_
      refine back_t ?_
      obtain ⟨r548,hr548,h⟩:=bind_sx h
      refine run_call 43 [.v (.string (ix c4q22 (0:Int))),.v (.string r547)] (some 48) (by kernel_rfl) ?_
      refine callE_0 (strings_CutPrefix_spec (ix c4q22 (0:Int)) r547 r548 hr548) (by simp only [push_cast,seval]) (by simp only [push_cast,seval]) ?_
      refine back_t ?_
      refine rk 5 ?_
      refine rt [(2,.ptr 0 0),(4,.ptr 1 0),(5,iS op11),(6,.ptr 2 0),(7,.own 3 0 c3q18.length),(8,iS t27q7),(10,.v (.string r548.1)),(11,bS r548.2),(27,iS t27q7)] [(0,.row 38 [iS 0,iS 0,iS 0]),(1,.row 48 [.own 4 0 c4q22.length]),(2,.row 38 [iS c2_Op11,iS 0,iS 0]),(3,.row 3 (fl c3q18)),(4,.row 9 (fl c4q22))] 16 follows (by kernel_rfl) ?_
      refine wk_id ?_
      refine bsplit_sx h (fun g549 h=>?_) (fun g549 h=>?_)
      ·refine seq_np ?_
       refine reg_f ?_
       refine rk 1 ?_
       obtain ⟨r551,hr551,h⟩:=bind_sx h
       refine run_call 44 [.v (.string r548.1)] (some 53) (by kernel_rfl) ?_
       refine call_0 (strconv_Atoi_spec r548.1 g549 r551 hr551) (by simp only [push_cast,seval]) (by simp only [push_cast,seval]) ?_
       refine back_f ?_
       refine rk 5 ?_
       refine rf [(2,.ptr 0 0),(4,.ptr 1 0),(5,iS op11),(6,.ptr 2 0),(7,.own 3 0 c3q18.length),(8,iS t27q7),(10,.v (.string r548.1)),(11,bS r548.2),(12,iS r551),(13,.v .nilIface),(27,iS t27q7)] [(0,.row 38 [iS 0,iS 0,iS 0]),(1,.row 48 [.own 4 0 c4q22.length]),(2,.row 38 [iS c2_Op11,iS 0,iS 0]),(3,.row 3 (fl c3q18)),(4,.row 9 (fl c4q22))] 16 (by kernel_rfl) ?_
       refine wk_id ?_
       refine seq_np ?_
       refine seq_cut (A:=Int×Bool) (fun a=>([(2,.ptr 0 0),(4,.ptr 1 0),(5,iS op11),(6,.ptr 2 0),(7,.own 3 0 c3q18.length),(8,iS t27q7),(12,iS a.1),(27,iS t27q7),(67,bS a.2)],[(0,.row 38 [iS 0,iS 0,iS 0]),(1,.row 48 [.own 4 0 c4q22.length]),(2,.row 38 [iS c2_Op11,iS 0,iS 0]),(3,.row 3 (fl c3q18)),(4,.row 9 (fl c4q22))],5)) (fun a=>(code_line_j2 op11 t27q7 c2_Op11 c3q18 c4q22 a.1 a.2) = some o2) (fun K560 hK560=>?_) ?_
       ·refine reg_f ?_
        refine rk 3 ?_
        refine run_br h 58 (.inl (by kernel_rfl)) (fun g561 h=>?_) (fun g561 h=>?_)
        ·refine rk 9 ?_
         refine rf [(2,.ptr 0 0),(4,.ptr 1 0),(5,iS op11),(6,.ptr 2 0),(7,.own 3 0 c3q18.length),(8,iS t27q7),(12,iS r551),(27,iS t27q7),(67,bS true)] [(0,.row 38 [iS 0,iS 0,iS 0]),(1,.row 48 [.own 4 0 c4q22.length]),(2,.row 38 [iS c2_Op11,iS 0,iS 0]),(3,.row 3 (fl c3q18)),(4,.row 9 (fl c4q22))] 16 (by kernel_rfl) ?_
         exact hK560 (r551,true) _ _ _ h (leSt_m [(0,0),(1,1),(2,2),(3,3),(4,4)] [] (by (try simp only [g561]) <;> simp only [push_cast,seval]) (by (try simp only [g561]) <;> simp only [push_cast,seval]) rfl rfl rfl)
        ·refine rk 5 ?_
         obtain ⟨r562,hr562,h⟩:=bind_sx h
         refine run_call 30 [iS r551] (some 64) (by kernel_rfl) ?_
         refine call_0 (strconv_Itoa_spec r551 r562 hr562) (by simp only [push_cast,seval]) (by simp only [push_cast,seval]) ?_
         refine back_f ?_
         refine rs 3 [none,some ⟨bS (!decide (r562 = r548.1)),[],16,[]⟩] _ (by kernel_rfl) (allP_cons (ob_p (v:=bS (!decide (r562 = r548.1))) (nx:=16) (r:=[]) trivial) allP_nil) ?_
         refine rf [(2,.ptr 0 0),(4,.ptr 1 0),(5,iS op11),(6,.ptr 2 0),(7,.own 3 0 c3q18.length),(8,iS t27q7),(12,iS r551),(27,iS t27q7),(67,bS (!decide (r562 = r548.1)))] [(0,.row 38 [iS 0,iS 0,iS 0]),(1,.row 48 [.own 4 0 c4q22.length]),(2,.row 38 [iS c2_Op11,iS 0,iS 0]),(3,.row 3 (fl c3q18)),(4,.row 9 (fl c4q22))] 16 (by kernel_rfl) ?_
         exact hK560 (r551,(!decide (r562 = r548.1))) _ _ _ h (leSt_m [(0,0),(1,1),(2,2),(3,3),(4,4)] [] (by (try simp only [g561]) <;> simp only [push_cast,seval]) (by (try simp only [g561]) <;> simp only [push_cast,seval]) rfl rfl rfl)
       ·rintro ⟨n27,t67q14⟩ h
        try dsimp only at h ⊢
        unfold code_line_j2 at h
        refine cond_sx h (by kernel_rfl) (fun g571 h=>?_) (fun g571 h=>?_)
        ·refine seq_np ?_
         refine reg_f ?_
         refine rk 3 ?_
         refine rf [(2,.ptr 0 0),(3,bS false)] [(0,.row 38 [iS c2_Op11,iS 0,iS 0]),(1,.row 48 [.own 4 0 c4q22.length]),(2,.row 38 [iS c2_Op11,iS 0,iS 0]),(3,.row 3 (fl c3q18)),(4,.row 9 (fl c4q22))] 5 (by kernel_rfl) ?_
         refine wk_id ?_
         refine rt_cast ht2 ?_
         obtain ⟨r0,h,e0⟩:=map_sx h
         have e1:=hr2 r0 e0.symm
         subst r0
         obtain rfl:=Option.some.inj h
         refine ret_at (.tup [.agg [iS c2_Op11,iS 0,iS 0],bS false]) (by kernel_rfl) ?_
         exact ret_e [] [] (by simp only [push_cast,seval]) (by simp only [push_cast,seval]) rfl rfl rfl
        ·refine wk_id ?_
         refine chk_sx h (fun g566 h=>?_)
         refine seq_np ?_
         refine reg_f ?_
         have k565:0≤t27q7∧t27q7 < (c3q18.length:Int):=by first | simpa only [Bool.and_eq_true,decide_eq_true_eq,bne_iff_ne,ne_eq] using g566 | (simp at g566 ⊢; omega) | simp
         refine rs 5 [none,none,none,some ⟨.ptr 3 (0+(t27q7).toNat * 1),[],5,[3]⟩,some ⟨.any,[(3,.row 3 (fl (c3q18.set t27q7.toNat n27)))],5,[3]⟩] _ (by kernel_rfl) (allP_cons (ob_st (P:=Tryd.prog) c3q18 t27q7 1 0 (0+(t27q7).toNat * 1) k565 rfl [iS n27] n27 (Nat.le_of_ble_eq_true rfl) (by first | rfl | omega) rfl 3 5 3 3 (by kernel_rfl) rfl) (allP_cons (ob_ix_o 3 c3q18.length 0 1 5 t27q7 k565) allP_nil)) ?_
         refine run_eqF 7 (.own 3 0 c3q18.length) (.own 3 0 (c3q18.set t27q7.toNat n27).length) (congrArg (fun nq=>(.own 3 0 nq:SV)) (show c3q18.length = (c3q18.set t27q7.toNat n27).length from (List.length_set ..).symm)) (by kernel_rfl) ?_
         refine rf [(2,.ptr 0 0),(4,.ptr 1 0),(5,iS op11),(6,.ptr 2 0),(7,.own 3 0 (c3q18.set t27q7.toNat n27).length),(27,iS t27q7)] [(0,.row 38 [iS 0,iS 0,iS 0]),(1,.row 48 [.own 4 0 c4q22.length]),(2,.row 38 [iS c2_Op11,iS 0,iS 0]),(3,.row 3 (fl (c3q18.set t27q7.toNat n27))),(4,.row 9 (fl c4q22))] 5 (by kernel_rfl) ?_
         refine wk_id ?_
         refine chk_sx h (fun g570 h=>?_)
         refine reg_f ?_
         have k569:0≤(1:Int)∧(1:Int)≤(c4q22.length:Int)∧(c4q22.length:Int)≤(c4q22.length:Int):=by first | simpa only [Bool.and_eq_true,decide_eq_true_eq,bne_iff_ne,ne_eq] using g570 | (simp at g570 ⊢; omega) | simp
         refine rk 1 ?_
         refine run_cutO c4q22 (some 74) 4 1 9 (1:Int) (c4q22.length:Int) (by kernel_rfl) rfl k569 ?_
         refine rk 1 ?_
         refine rf [(2,.ptr 0 0),(4,.ptr 1 0),(5,iS op11),(6,.ptr 2 0),(7,.own 3 0 (c3q18.set t27q7.toNat n27).length),(27,iS t27q7)] [(0,.row 38 [iS 0,iS 0,iS 0]),(1,.row 48 [.own 5 0 (cut c4q22 (1:Int) (c4q22.length:Int)).length]),(2,.row 38 [iS c2_Op11,iS 0,iS 0]),(3,.row 3 (fl (c3q18.set t27q7.toNat n27))),(4,.dead),(5,.row 9 (fl (cut c4q22 (1:Int) (c4q22.length:Int))))] 6 (by kernel_rfl) ?_
         exact hK530 ((c3q18.set t27q7.toNat n27),(cut c4q22 (1:Int) (c4q22.length:Int))) _ _ _ h (leSt_m [(0,0),(1,1),(2,2),(3,3),(4,5)] [] (by simp only [push_cast,seval]) (by simp only [push_cast,seval]) rfl rfl rfl)
      ·refine seq_np ?_
       refine reg_f ?_
       refine rk 1 ?_
       obtain ⟨r573,hr573,h⟩:=bind_sx h
       refine run_call 44 [.v (.string r548.1)] (some 53) (by kernel_rfl) ?_
       refine call_0 (strconv_Atoi_1_spec r548.1 g549 r573 hr573) (by simp only [push_cast,seval]) (by simp only [push_cast,seval]) ?_
       refine back_f ?_
       refine rk 5 ?_
       refine rf [(2,.ptr 0 0),(4,.ptr 1 0),(5,iS op11),(6,.ptr 2 0),(7,.own 3 0 c3q18.length),(8,iS t27q7),(10,.v (.string r548.1)),(11,bS r548.2),(12,iS r573),(13,.ifc 109 (.any)),(27,iS t27q7)] [(0,.row 38 [iS 0,iS 0,iS 0]),(1,.row 48 [.own 4 0 c4q22.length]),(2,.row 38 [iS c2_Op11,iS 0,iS 0]),(3,.row 3 (fl c3q18)),(4,.row 9 (fl c4q22))] 16 (by kernel_rfl) ?_
       refine wk_id ?_
       refine seq_np ?_
       refine seq_cut (A:=Int) (fun a=>([(2,.ptr 0 0),(4,.ptr 1 0),(5,iS op11),(6,.ptr 2 0),(7,.own 3 0 c3q18.length),(8,iS t27q7),(12,iS a),(27,iS t27q7),(67,bS true)],[(0,.row 38 [iS 0,iS 0,iS 0]),(1,.row 48 [.own 4 0 c4q22.length]),(2,.row 38 [iS c2_Op11,iS 0,iS 0]),(3,.row 3 (fl c3q18)),(4,.row 9 (fl c4q22))],5)) (fun a=>(code_line_j3 op11 t27q7 c2_Op11 c3q18 c4q22 a) = some o2) (fun K579 hK579=>?_) ?_
       ·refine reg_f ?_
        refine rk 3 ?_
        refine run_br h 58 (.inl (by kernel_rfl)) (fun g580 h=>?_) (fun g580 h=>?_)
        ·refine rk 9 ?_
         refine rf [(2,.ptr 0 0),(4,.ptr 1 0),(5,iS op11),(6,.ptr 2 0),(7,.own 3 0 c3q18.length),(8,iS t27q7),(12,iS r573),(27,iS t27q7),(67,bS true)] [(0,.row 38 [iS 0,iS 0,iS 0]),(1,.row 48 [.own 4 0 c4q22.length]),(2,.row 38 [iS c2_Op11,iS 0,iS 0]),(3,.row 3 (fl c3q18)),(4,.row 9 (fl c4q22))] 16 (by kernel_rfl) ?_
         exact hK579 (r573) _ _ _ h (leSt_m [(0,0),(1,1),(2,2),(3,3),(4,4)] [] (by (try simp only [g580]) <;> simp only [push_cast,seval]) (by (try simp only [g580]) <;> simp only [push_cast,seval]) rfl rfl rfl)
        ·refine rk 9 ?_
         refine rf [(2,.ptr 0 0),(4,.ptr 1 0),(5,iS op11),(6,.ptr 2 0),(7,.own 3 0 c3q18.length),(8,iS t27q7),(12,iS r573),(27,iS t27q7),(67,bS true)] [(0,.row 38 [iS 0,iS 0,iS 0]),(1,.row 48 [.own 4 0 c4q22.length]),(2,.row 38 [iS c2_Op11,iS 0,iS 0]),(3,.row 3 (fl c3q18)),(4,.row 9 (fl c4q22))] 16 (by kernel_rfl) ?_
         exact hK579 (r573) _ _ _ h (leSt_m [(0,0),(1,1),(2,2),(3,3),(4,4)] [] (by (try simp only [g580]) <;> simp only [push_cast,seval]) (by (try simp only [g580]) <;> simp only [push_cast,seval]) rfl rfl rfl)
       ·rintro n29 h
        try dsimp only at h ⊢
        unfold code_line_j3 at h
        refine cond_t (by kernel_rfl) ?_
        refine seq_np ?_
        refine reg_f ?_
        refine rk 3 ?_
        refine rf [(2,.ptr 0 0),(3,bS false)] [(0,.row 38 [iS c2_Op11,iS 0,iS 0]),(1,.row 48 [.own 4 0 c4q22.length]),(2,.row 38 [iS c2_Op11,iS 0,iS 0]),(3,.row 3 (fl c3q18)),(4,.row 9 (fl c4q22))] 5 (by kernel_rfl) ?_
        refine wk_id ?_
        refine rt_cast ht2 ?_
        obtain ⟨r0,h,e0⟩:=map_sx h
        have e1:=hr2 r0 e0.symm
        subst r0
        obtain rfl:=Option.some.inj h
        refine ret_at (.tup [.agg [iS c2_Op11,iS 0,iS 0],bS false]) (by kernel_rfl) ?_
        exact ret_e [] [] (by simp only [push_cast,seval]) (by simp only [push_cast,seval]) rfl rfl rfl
   ·rintro ⟨c3q20,c4q24⟩ h
    try dsimp only at h ⊢
    unfold code_line_j1 at h
    refine wk_id ?_
    refine reg_f ?_
    refine rk 2 ?_
    refine rf [(2,.ptr 0 0),(4,.ptr 1 0),(5,iS op11),(6,.ptr 2 0),(7,.own 3 0 c3q20.length),(27,iS (IntKind.i64.wrap (t27q7+1)))] [(0,.row 38 [iS 0,iS 0,iS 0]),(1,.row 48 [.own 4 0 c4q24.length]),(2,.row 38 [iS c2_Op11,iS 0,iS 0]),(3,.row 3 (fl c3q20)),(4,.row 9 (fl c4q24))] 5 (by kernel_rfl) ?_
    exact hn2 (op11,(IntKind.i64.wrap (t27q7+1)),c2_Op11,c3q20,c4q24) _ _ _ (Option.some.inj h).symm (leSt_m [(0,0),(1,1),(2,2),(3,3),(4,4)] [] (by simp only [push_cast,seval]) (by simp only [push_cast,seval]) rfl rfl rfl)
  ·change R2 (.exit 0) _ _ _
   refine ex_cast hx2 (id:=0) ?_
   obtain ⟨r0,h,e0⟩:=map_sx h
   have e1:=hr2 r0 e0.symm
   subst r0
   refine wk_id ?_
   refine wk_id ?_
   refine chk_sx h (fun g588 h=>?_)
   refine chk_sx h (fun g590 h=>?_)
   refine seq_np ?_
   refine reg_t ?_
   have k587:0≤(0:Int)∧(0:Int) < (c3q18.length:Int):=by first | simpa only [Bool.and_eq_true,decide_eq_true_eq,bne_iff_ne,ne_eq] using g588 | (simp at g588 ⊢; omega) | simp
   have k589:0≤(1:Int)∧(1:Int) < (c3q18.length:Int):=by first | simpa only [Bool.and_eq_true,decide_eq_true_eq,bne_iff_ne,ne_eq] using g590 | (simp at g590 ⊢; omega) | simp
   refine rs 10 [none,some ⟨.ptr 3 (0+((0:Int)).toNat * 1),[],6,[3]⟩,some ⟨iS (ix c3q18 (0:Int)),[],7,[3]⟩,none,some ⟨.ptr 3 (0+((1:Int)).toNat * 1),[],9,[3]⟩,some ⟨iS (ix c3q18 (1:Int)),[],10,[3]⟩] _ (by kernel_rfl) (allP_cons (ob_ld c3q18 (1:Int) 1 0 (0+((1:Int)).toNat * 1) k589 rfl (by decide) (by first | rfl | omega) (dflS Tryd.prog 3) (iS (ix c3q18 (1:Int))) rfl 10 [3]) (allP_cons (ob_ix_o 3 c3q18.length 0 1 9 1 k589) (allP_cons (ob_ld c3q18 (0:Int) 1 0 (0+((0:Int)).toNat * 1) k587 rfl (by decide) (by first | rfl | omega) (dflS Tryd.prog 3) (iS (ix c3q18 (0:Int))) rfl 7 [3]) (allP_cons (ob_ix_o 3 c3q18.length 0 1 6 0 k587) allP_nil)))) ?_
   refine rt [(2,.ptr 0 0),(4,.ptr 1 0),(6,.ptr 2 0)] [(0,.row 38 [iS 0,iS 0,iS 0]),(1,.row 48 [.own 4 0 c4q22.length]),(2,.row 38 [iS c2_Op11,iS (ix c3q18 (0:Int)),iS (ix c3q18 (1:Int))]),(3,.row 3 (fl c3q18)),(4,.row 9 (fl c4q22))] 15 follows (by kernel_rfl) ?_
   refine wk_id ?_
   refine seq_np ?_
   refine reg_t ?_
   refine rk 6 ?_
   refine rt [(2,.ptr 0 0),(3,bS ((c4q22.length:Int) == 0))] [(0,.row 38 [iS c2_Op11,iS (ix c3q18 (0:Int)),iS (ix c3q18 (1:Int))]),(1,.row 48 [.own 4 0 c4q22.length]),(2,.row 38 [iS c2_Op11,iS (ix c3q18 (0:Int)),iS (ix c3q18 (1:Int))]),(3,.row 3 (fl c3q18)),(4,.row 9 (fl c4q22))] 21 follows (by kernel_rfl) ?_
   refine wk_id ?_
   obtain rfl:=Option.some.inj h
   refine ret_at (.tup [.agg [iS c2_Op11,iS (ix c3q18 (0:Int)),iS (ix c3q18 (1:Int))],bS ((c4q22.length:Int) == 0)]) (by kernel_rfl) ?_
   exact ret_e [] [] (by simp only [push_cast,seval]) (by simp only [push_cast,seval]) rfl rfl rfl

set_option maxRecDepth 100000 in
set_option maxHeartbeats 200000000 in
theorem code_Parse_spec (text:ByteArray) (r:Fault×(List GInstr)) (h:code_Parse text = some r):SpecW Tryd.prog 17 [.v (.string text)] [] 0 (fun x h n=>x = .tup [.own 0 0 r.2.length,.agg (Enc.cells r.1)]∧h = [(0,.row 38 (fl r.2))]∧n = 1):=by
 unfold code_Parse at h
 refine spec_of (draw_ok _) Tryd.func17 rfl (by decide) rfl (by kernel_rfl) ?_
 refine seq_np ?_
 refine reg_f ?_
 refine rk 2 ?_
 refine rf [(0,.v (.string text)),(3,.ptr 0 0)] [(0,.row 31 [iS 0,iS 0])] 1 (by kernel_rfl) ?_
 refine wk_id ?_
 refine seq_np ?_
 refine seq_np ?_
 refine reg_f ?_
 refine rk 3 ?_
 refine rf [(0,.v (.string text)),(3,.ptr 0 0),(13,bS (decide ((20000:Int) < (((text).size:Nat):Int))))] [(0,.row 31 [iS 0,iS 0])] 1 (by kernel_rfl) ?_
 refine wk_id ?_
 refine cond_sx h (by kernel_rfl) (fun g720 h=>?_) (fun g720 h=>?_)
 ·refine seq_np ?_
  refine reg_f ?_
  obtain ⟨r619,hr619,h⟩:=bind_sx h
  refine run_call 23 [iS 2,iS 0] (some 14) (by kernel_rfl) ?_
  refine call_0 (code_fault_spec 2 0 r619 hr619) (by simp only [push_cast,seval]) (by simp only [push_cast,seval]) ?_
  refine back_f ?_
  refine rk 2 ?_
  refine rf [(2,.v (.slice none 0 0)),(3,.ptr 0 0)] [(0,.row 31 (Enc.cells r619))] 1 (by kernel_rfl) ?_
  refine wk_id ?_
  obtain rfl:=Option.some.inj h
  refine ret_at (.tup [.v (.slice none 0 0),.agg (Enc.cells r619)]) (by kernel_rfl) ?_
  exact ret_e [] [] (by simp only [push_cast,seval]) (by simp only [push_cast,seval]) rfl rfl rfl
 ·refine wk_id ?_
  refine seq_np ?_
  refine reg_f ?_
  refine rk 1 ?_
  refine rf [(0,.v (.string text)),(3,.ptr 0 0),(4,.v (.slice none 0 0))] [(0,.row 31 [iS 0,iS 0])] 1 (by kernel_rfl) ?_
  refine wk_id ?_
  refine seq_np ?_
  refine seq_np ?_
  refine reg_f ?_
  refine rk 1 ?_
  refine rf [(0,.v (.string text)),(3,.ptr 0 0),(4,.v (.slice none 0 0)),(5,iS 0)] [(0,.row 31 [iS 0,iS 0])] 1 (by kernel_rfl) ?_
  refine wk_id ?_
  refine block_np ?_
  refine loop_sx (S:=ByteArray×Int×(List GInstr)) (fun a=>([(0,.v (.string a.1)),(3,.ptr 0 0),(4,.own 1 0 a.2.2.length),(5,iS a.2.1)],[(0,.row 31 [iS 0,iS 0]),(1,.row 38 (fl a.2.2))],2)) h (leSt_m [(0,0)] [] (by simp only [push_cast,seval]) (by simp only [push_cast,seval]) rfl rfl rfl) ?_
  rintro ⟨text8,n7,c1q7⟩ o2 R2 h hr2 hn2 hx2 ht2
  try dsimp only at h hn2 ⊢
  unfold code_Parse_l1 at h
  try dsimp only at h
  refine seq_np ?_
  refine seq_np ?_
  refine reg_f ?_
  refine rs 2 [none,some ⟨bS (!decide (text8 = ByteArray.empty)),[],2,[]⟩] _ (by kernel_rfl) (allP_cons (ob_p (v:=bS (!decide (text8 = ByteArray.empty))) (nx:=2) (r:=[]) trivial) allP_nil) ?_
  refine rf [(0,.v (.string text8)),(3,.ptr 0 0),(4,.own 1 0 c1q7.length),(5,iS n7),(16,bS (!decide (text8 = ByteArray.empty)))] [(0,.row 31 [iS 0,iS 0]),(1,.row 38 (fl c1q7))] 2 (by kernel_rfl) ?_
  refine wk_id ?_
  refine cond_sx h (by kernel_rfl) (fun g719 h=>?_) (fun g719 h=>?_)
  ·refine wk_id ?_
   refine seq_np ?_
   refine block_np ?_
   refine seq_np ?_
   refine reg_f ?_
   refine rk 1 ?_
   obtain ⟨r703,hr703,h⟩:=bind_sx h
   refine run_call 32 [.v (.string text8),.v (.string (ByteArray.mk #[10]))] (some 21) (by kernel_rfl) ?_
   refine call_0 (strings_Cut_spec text8 (ByteArray.mk #[10]) r703 hr703) (by simp only [push_cast,seval]) (by simp only [push_cast,seval]) ?_
   refine back_f ?_
   refine rk 7 ?_
   refine rf [(3,.ptr 0 0),(4,.own 1 0 c1q7.length),(5,iS n7),(6,.v (.string r703.1)),(7,.v (.string r703.2.1)),(8,bS r703.2.2)] [(0,.row 31 [iS 0,iS 0]),(1,.row 38 (fl c1q7))] 2 (by kernel_rfl) ?_
   refine wk_id ?_
   refine seq_np ?_
   refine reg_f ?_
   refine rk 1 ?_
   obtain ⟨r705,hr705,h⟩:=bind_sx h
   refine run_call 33 [.v (.string r703.1)] (some 27) (by kernel_rfl) ?_
   refine call_0 (code_line_spec r703.1 r705 hr705) (by simp only [push_cast,seval]) (by simp only [push_cast,seval]) ?_
   refine back_f ?_
   refine rk 6 ?_
   refine rf [(3,.ptr 0 0),(4,.own 1 0 c1q7.length),(5,iS n7),(7,.v (.string r703.2.1)),(8,bS r703.2.2),(9,.ptr 2 0),(10,bS r705.2)] [(0,.row 31 [iS 0,iS 0]),(1,.row 38 (fl c1q7)),(2,.row 38 (Enc.cells r705.1))] 3 (by kernel_rfl) ?_
   refine wk_id ?_
   refine seq_np ?_
   refine seq_cut (A:=Unit) (fun _=>([(3,.ptr 0 0),(4,.own 1 0 c1q7.length),(5,iS n7),(7,.v (.string r703.2.1)),(9,.ptr 2 0),(35,bS ((!r703.2.2) || (!r705.2)))],[(0,.row 31 [iS 0,iS 0]),(1,.row 38 (fl c1q7)),(2,.row 38 (Enc.cells r705.1))],3)) (fun _=>True) (fun K710 hK710=>?_) (fun _ _=>?_)
   ·refine reg_f ?_
    refine rk 3 ?_
    refine run_split 32 (!r703.2.2) (.inl (by kernel_rfl)) (fun g711=>?_) (fun g711=>?_)
    ·refine rk 3 ?_
     refine rf [(3,.ptr 0 0),(4,.own 1 0 c1q7.length),(5,iS n7),(7,.v (.string r703.2.1)),(9,.ptr 2 0),(35,bS true)] [(0,.row 31 [iS 0,iS 0]),(1,.row 38 (fl c1q7)),(2,.row 38 (Enc.cells r705.1))] 3 (by kernel_rfl) ?_
     exact hK710 () _ _ _ trivial (leSt_m [(0,0),(1,1),(2,2)] [] (by (try simp only [g711]) <;> simp only [push_cast,seval]) (by (try simp only [g711]) <;> simp only [push_cast,seval]) rfl rfl rfl)
    ·refine rk 3 ?_
     refine rf [(3,.ptr 0 0),(4,.own 1 0 c1q7.length),(5,iS n7),(7,.v (.string r703.2.1)),(9,.ptr 2 0),(35,bS (!r705.2))] [(0,.row 31 [iS 0,iS 0]),(1,.row 38 (fl c1q7)),(2,.row 38 (Enc.cells r705.1))] 3 (by kernel_rfl) ?_
     exact hK710 () _ _ _ trivial (leSt_m [(0,0),(1,1),(2,2)] [] (by (try simp only [g711]) <;> simp only [push_cast,seval]) (by (try simp only [g711]) <;> simp only [push_cast,seval]) rfl rfl rfl)
   ·dsimp only
    refine cond_sx h (by kernel_rfl) (fun g718 h=>?_) (fun g718 h=>?_)
    ·refine seq_np ?_
     refine reg_f ?_
     refine rk 1 ?_
     obtain ⟨r713,hr713,h⟩:=bind_sx h
     refine run_call 23 [iS 1,iS n7] (some 37) (by kernel_rfl) ?_
     refine call_0 (code_fault_spec 1 n7 r713 hr713) (by simp only [push_cast,seval]) (by simp only [push_cast,seval]) ?_
     refine back_f ?_
     refine rk 2 ?_
     refine rf [(2,.v (.slice none 0 0)),(3,.ptr 0 0)] [(0,.row 31 (Enc.cells r713)),(1,.row 38 (fl c1q7)),(2,.row 38 (Enc.cells r705.1))] 3 (by kernel_rfl) ?_
     refine wk_id ?_
     refine rt_cast ht2 ?_
     obtain ⟨r0,h,e0⟩:=map_sx h
     have e1:=hr2 r0 e0.symm
     subst r0
     obtain rfl:=Option.some.inj h
     refine ret_at (.tup [.v (.slice none 0 0),.agg (Enc.cells r713)]) (by kernel_rfl) ?_
     exact ret_e [] [] (by simp only [push_cast,seval]) (by simp only [push_cast,seval]) rfl rfl rfl
    ·refine wk_id ?_
     refine chk_sx h (fun g717 h=>?_)
     refine seq_np ?_
     refine reg_f ?_
     have k716:(c1q7++([r705.1]:List GInstr)).length * 24≤140737488355328:=by first | simpa only [Bool.and_eq_true,decide_eq_true_eq,bne_iff_ne,ne_eq] using g717 | (simp at g717 ⊢; omega) | simp
     refine rs 5 [none,none,none,some ⟨.own 4 0 (c1q7++([r705.1]:List GInstr)).length,[(4,.row 38 (fl (c1q7++([r705.1]:List GInstr)))),(1,.dead)],5,[1,3]⟩] _ (by kernel_rfl) (allP_cons (ob_app (P:=Tryd.prog) c1q7 ([r705.1]:List GInstr) 3 24 rfl (appCells (fl ([r705.1]:List GInstr)) 0 (([r705.1]:List GInstr).length * 3)) ([r705.1]:List GInstr).length (app_own ([r705.1]:List GInstr) 3 rfl) rfl (0+([r705.1]:List GInstr).length * 3≤(fl ([r705.1]:List GInstr)).length) (app_own_le ([r705.1]:List GInstr) 3 rfl) 38 (by kernel_rfl) (by decide) k716 1 4 [3]) allP_nil) ?_
     refine rf [(3,.ptr 0 0),(4,.own 4 0 (c1q7++([r705.1]:List GInstr)).length),(5,iS n7),(7,.v (.string r703.2.1))] [(0,.row 31 [iS 0,iS 0]),(1,.dead),(2,.row 38 (Enc.cells r705.1)),(3,.row 38 (fl ([r705.1]:List GInstr))),(4,.row 38 (fl (c1q7++([r705.1]:List GInstr))))] 5 (by kernel_rfl) ?_
     refine wk_id ?_
     refine reg_f ?_
     refine rk 2 ?_
     refine rf [(0,.v (.string r703.2.1)),(3,.ptr 0 0),(4,.own 4 0 (c1q7++([r705.1]:List GInstr)).length),(5,iS n7)] [(0,.row 31 [iS 0,iS 0]),(1,.dead),(2,.row 38 (Enc.cells r705.1)),(3,.row 38 (fl ([r705.1]:List GInstr))),(4,.row 38 (fl (c1q7++([r705.1]:List GInstr))))] 5 (by kernel_rfl) ?_
     refine wk_id ?_
     refine wk_id ?_
     refine reg_f ?_
     refine rk 3 ?_
     refine rf [(0,.v (.string r703.2.1)),(3,.ptr 0 0),(4,.own 4 0 (c1q7++([r705.1]:List GInstr)).length),(5,iS (IntKind.i64.wrap (n7+1)))] [(0,.row 31 [iS 0,iS 0]),(1,.dead),(2,.row 38 (Enc.cells r705.1)),(3,.row 38 (fl ([r705.1]:List GInstr))),(4,.row 38 (fl (c1q7++([r705.1]:List GInstr))))] 5 (by kernel_rfl) ?_
     exact hn2 (r703.2.1,(IntKind.i64.wrap (n7+1)),(c1q7++([r705.1]:List GInstr))) _ _ _ (Option.some.inj h).symm (leSt_m [(0,0),(1,4)] [] (by simp only [push_cast,seval]) (by simp only [push_cast,seval]) rfl rfl rfl)
  ·change R2 (.exit 0) _ _ _
   refine ex_cast hx2 (id:=0) ?_
   obtain ⟨r0,h,e0⟩:=map_sx h
   have e1:=hr2 r0 e0.symm
   subst r0
   refine wk_id ?_
   refine wk_id ?_
   refine seq_np ?_
   refine reg_f ?_
   refine rk 4 ?_
   refine rf [(2,.own 1 0 c1q7.length),(3,.ptr 0 0)] [(0,.row 31 [iS 0,iS 0]),(1,.row 38 (fl c1q7))] 2 (by kernel_rfl) ?_
   refine wk_id ?_
   obtain rfl:=Option.some.inj h
   refine ret_at (.tup [.own 1 0 c1q7.length,.agg [iS 0,iS 0]]) (by kernel_rfl) ?_
   exact ret_e [(0,1)] [] (by simp only [push_cast,seval]) (by simp only [push_cast,seval]) rfl rfl rfl

set_option maxRecDepth 100000 in
set_option maxHeartbeats 200000000 in
theorem taskmillref_F_spec (code:Int) (xat:Int) (r:Fault) (h:taskmillref_F code xat = some r):SpecW Tryd.prog 14 [iS code,iS xat] [] 0 (fun x h n=>x = .agg (Enc.cells r)∧h = []∧n = 0):=by
 unfold taskmillref_F at h
 refine spec_of (draw_ok _) Tryd.func14 rfl (by decide) rfl (by kernel_rfl) ?_
 refine seq_np ?_
 refine reg_f ?_
 refine rk 1 ?_
 refine rf [(0,iS code),(1,iS xat),(4,.ptr 0 0)] [(0,.row 31 [iS 0,iS 0])] 1 (by kernel_rfl) ?_
 refine wk_id ?_
 refine seq_np ?_
 refine reg_f ?_
 refine rk 4 ?_
 refine rf [(4,.ptr 0 0)] [(0,.row 31 [iS code,iS xat])] 1 (by kernel_rfl) ?_
 refine wk_id ?_
 obtain rfl:=Option.some.inj h
 refine ret_at (.agg [iS code,iS xat]) (by kernel_rfl) ?_
 exact ret_e [] [] (by simp only [push_cast,seval]) (by simp only [push_cast,seval]) rfl rfl rfl

set_option maxRecDepth 100000 in
set_option maxHeartbeats 200000000 in
theorem taskmilllaw_ownCode_spec (l:(List GInstr)) (r:(List GInstr)) (h:taskmilllaw_ownCode l = some r):SpecW Tryd.prog 21 [.sl l.length (fl l)] [] 0 (fun x h n=>x = .own 0 0 r.length∧h = [(0,.row 38 (fl r))]∧n = 1):=by
 unfold taskmilllaw_ownCode at h
 refine spec_of (draw_ok _) Tryd.func21 rfl (by decide) rfl (by kernel_rfl) ?_
 refine seq_np ?_
 refine reg_f ?_
 refine rk 1 ?_
 refine rf [(0,.sl l.length (fl l))] [] 0 (by kernel_rfl) ?_
 refine wk_id ?_
 refine chk_sx h (fun g748 h=>?_)
 refine seq_np ?_
 refine reg_f ?_
 have k747:l.length * 24≤140737488355328:=by first | simpa only [Bool.and_eq_true,decide_eq_true_eq,bne_iff_ne,ne_eq] using g748 | (simp at g748 ⊢; omega) | simp
 refine rs 3 [none,some ⟨.own 0 0 l.length,[(0,.row 38 (fl l))],1,[]⟩] _ (by kernel_rfl) (allP_cons (ob_app0 (P:=Tryd.prog) l 3 24 rfl (fl l) l.length rfl rfl ((fl l).length = l.length * 3) (app_sl l 3 rfl) 38 (by kernel_rfl) (by decide) k747 0 []) allP_nil) ?_
 refine rf [(2,.own 0 0 l.length)] [(0,.row 38 (fl l))] 1 (by kernel_rfl) ?_
 refine wk_id ?_
 obtain rfl:=Option.some.inj h
 refine ret_at (.own 0 0 l.length) (by kernel_rfl) ?_
 exact ret_e [(0,0)] [] (by simp only [push_cast,seval]) (by simp only [push_cast,seval]) rfl rfl rfl

set_option maxRecDepth 100000 in
set_option maxHeartbeats 200000000 in
theorem taskmilllaw_sameCode_spec (xa:(List GInstr)) (b:(List GInstr)) (r:Bool) (h:taskmilllaw_sameCode xa b = some r):SpecW Tryd.prog 13 [.sl xa.length (fl xa),.sl b.length (fl b)] [] 0 (fun x h n=>x = bS r∧h = []∧n = 0):=by
 unfold taskmilllaw_sameCode at h
 refine spec_of (draw_ok _) Tryd.func13 rfl (by decide) rfl (by kernel_rfl) ?_
 refine seq_np ?_
 refine reg_f ?_
 refine rk 1 ?_
 refine rf [(0,.sl xa.length (fl xa)),(1,.sl b.length (fl b))] [] 0 (by kernel_rfl) ?_
 refine wk_id ?_
 refine seq_np ?_
 refine seq_np ?_
 refine reg_f ?_
 refine rk 5 ?_
 refine rf [(0,.sl xa.length (fl xa)),(1,.sl b.length (fl b)),(10,bS ((xa.length:Int) != (b.length:Int)))] [] 0 (by kernel_rfl) ?_
 refine wk_id ?_
 refine cond_sx h (by kernel_rfl) (fun g845 h=>?_) (fun g845 h=>?_)
 ·refine seq_np ?_
  refine reg_f ?_
  refine rk 1 ?_
  refine rf [(4,bS false)] [] 0 (by kernel_rfl) ?_
  refine wk_id ?_
  obtain rfl:=Option.some.inj h
  refine ret_at (bS false) (by kernel_rfl) ?_
  exact ret_e [] [] (by simp only [push_cast,seval]) (by simp only [push_cast,seval]) rfl rfl rfl
 ·refine wk_id ?_
  refine seq_np ?_
  refine seq_np ?_
  refine reg_f ?_
  refine rk 1 ?_
  refine rf [(0,.sl xa.length (fl xa)),(1,.sl b.length (fl b)),(5,iS 0)] [] 0 (by kernel_rfl) ?_
  refine wk_id ?_
  refine block_np ?_
  refine loop_sx (S:=Int) (fun a=>([(0,.sl xa.length (fl xa)),(1,.sl b.length (fl b)),(5,iS a)],[],0)) h (leSt_m [] [] (by simp only [push_cast,seval]) (by simp only [push_cast,seval]) rfl rfl rfl) ?_
  rintro i7 o2 R2 h hr2 hn2 hx2 ht2
  try dsimp only at h hn2 ⊢
  unfold taskmilllaw_sameCode_l1 at h
  try dsimp only at h
  refine seq_np ?_
  refine seq_np ?_
  refine reg_f ?_
  refine rk 4 ?_
  refine rf [(0,.sl xa.length (fl xa)),(1,.sl b.length (fl b)),(5,iS i7),(14,bS (decide (i7 < (xa.length:Int))))] [] 0 (by kernel_rfl) ?_
  refine wk_id ?_
  refine cond_sx h (by kernel_rfl) (fun g844 h=>?_) (fun g844 h=>?_)
  ·refine wk_id ?_
   refine seq_np ?_
   refine block_np ?_
   refine chk_sx h (fun g840 h=>?_)
   refine chk_sx h (fun g842 h=>?_)
   refine seq_np ?_
   refine reg_t ?_
   have k839:0≤i7∧i7 < (xa.length:Int):=by first | simpa only [Bool.and_eq_true,decide_eq_true_eq,bne_iff_ne,ne_eq] using g840 | (simp at g840 ⊢; omega) | simp
   have k841:0≤i7∧i7 < (b.length:Int):=by first | simpa only [Bool.and_eq_true,decide_eq_true_eq,bne_iff_ne,ne_eq] using g842 | (simp at g842 ⊢; omega) | simp
   refine rs 9 [none,none,some ⟨.iptr (fl xa) ((i7).toNat * 3),[],2,[]⟩,some ⟨.agg (Enc.cells (ix xa i7)),[],3,[]⟩,none,none,some ⟨.iptr (fl b) ((i7).toNat * 3),[],6,[]⟩,some ⟨.agg (Enc.cells (ix b i7)),[],7,[]⟩] _ (by kernel_rfl) (allP_cons (ob_ldw b i7 3 ((i7).toNat * 3) k841 rfl (by first | rfl | omega) (Enc.cells (ix b i7)) rfl 7 []) (allP_cons (ob_ix_l b 3 6 i7 k841) (allP_cons (ob_ldw xa i7 3 ((i7).toNat * 3) k839 rfl (by first | rfl | omega) (Enc.cells (ix xa i7)) rfl 3 []) (allP_cons (ob_ix_l xa 3 2 i7 k839) allP_nil)))) ?_
   refine rt [(0,.sl xa.length (fl xa)),(1,.sl b.length (fl b)),(5,iS i7),(25,bS (!(((ix xa i7).Op == (ix b i7).Op) && (((ix xa i7).A == (ix b i7).A) && (((ix xa i7).B == (ix b i7).B) && true)))))] [] 9 follows (by kernel_rfl) ?_
   refine wk_id ?_
   refine cond_sx h (by kernel_rfl) (fun g843 h=>?_) (fun g843 h=>?_)
   ·refine seq_np ?_
    refine reg_f ?_
    refine rk 1 ?_
    refine rf [(4,bS false)] [] 9 (by kernel_rfl) ?_
    refine wk_id ?_
    refine rt_cast ht2 ?_
    obtain ⟨r0,h,e0⟩:=map_sx h
    have e1:=hr2 r0 e0.symm
    subst r0
    obtain rfl:=Option.some.inj h
    refine ret_at (bS false) (by kernel_rfl) ?_
    exact ret_e [] [] (by simp only [push_cast,seval]) (by simp only [push_cast,seval]) rfl rfl rfl
   ·refine wk_id ?_
    refine wk_id ?_
    refine reg_f ?_
    refine rk 3 ?_
    refine rf [(0,.sl xa.length (fl xa)),(1,.sl b.length (fl b)),(5,iS (IntKind.i64.wrap (i7+1)))] [] 9 (by kernel_rfl) ?_
    exact hn2 ((IntKind.i64.wrap (i7+1))) _ _ _ (Option.some.inj h).symm (leSt_m [] [] (by simp only [push_cast,seval]) (by simp only [push_cast,seval]) rfl rfl rfl)
  ·change R2 (.exit 0) _ _ _
   refine ex_cast hx2 (id:=0) ?_
   obtain ⟨r0,h,e0⟩:=map_sx h
   have e1:=hr2 r0 e0.symm
   subst r0
   refine wk_id ?_
   refine wk_id ?_
   refine seq_np ?_
   refine reg_f ?_
   refine rk 1 ?_
   refine rf [(4,bS true)] [] 0 (by kernel_rfl) ?_
   refine wk_id ?_
   obtain rfl:=Option.some.inj h
   refine ret_at (bS true) (by kernel_rfl) ?_
   exact ret_e [] [] (by simp only [push_cast,seval]) (by simp only [push_cast,seval]) rfl rfl rfl

set_option maxRecDepth 100000 in
set_option maxHeartbeats 200000000 in
theorem taskmilllaw_CodeJoins_spec (xa:ByteArray) (b:ByteArray) (r:Bool) (h:taskmilllaw_CodeJoins xa b = some r):SpecW Tryd.prog 6 [.v (.string xa),.v (.string b)] [] 0 (fun x h n=>x = bS r∧h = []∧n = 0):=by
 unfold taskmilllaw_CodeJoins at h
 refine spec_of (draw_ok _) Tryd.func6 rfl (by decide) rfl (by kernel_rfl) ?_
 refine seq_np ?_
 refine reg_f ?_
 refine rk 1 ?_
 refine rf [(0,.v (.string xa)),(1,.v (.string b))] [] 0 (by kernel_rfl) ?_
 refine wk_id ?_
 refine seq_np ?_
 refine seq_np ?_
 refine reg_f ?_
 obtain ⟨r852,hr852,h⟩:=bind_sx h
 refine run_call 7 [] (some 11) (by kernel_rfl) ?_
 refine call_0 (taskmilllaw_codeBegun_spec r852 hr852) (by simp only [push_cast,seval]) (by simp only [push_cast,seval]) ?_
 refine back_f ?_
 refine rk 1 ?_
 refine rf [(0,.v (.string xa)),(1,.v (.string b)),(12,bS (!r852))] [] 0 (by kernel_rfl) ?_
 refine wk_id ?_
 refine cond_sx h (by kernel_rfl) (fun g923 h=>?_) (fun g923 h=>?_)
 ·refine seq_np ?_
  refine reg_f ?_
  refine rk 1 ?_
  refine rf [(4,bS false)] [] 0 (by kernel_rfl) ?_
  refine wk_id ?_
  obtain rfl:=Option.some.inj h
  refine ret_at (bS false) (by kernel_rfl) ?_
  exact ret_e [] [] (by simp only [push_cast,seval]) (by simp only [push_cast,seval]) rfl rfl rfl
 ·refine wk_id ?_
  refine seq_np ?_
  refine seq_np ?_
  refine reg_f ?_
  refine rk 6 ?_
  refine rf [(0,.v (.string xa)),(1,.v (.string b)),(18,bS (decide ((20000:Int) < (IntKind.i64.wrap ((((xa).size:Nat):Int)+(((b).size:Nat):Int))))))] [] 0 (by kernel_rfl) ?_
  refine wk_id ?_
  refine cond_sx h (by kernel_rfl) (fun g922 h=>?_) (fun g922 h=>?_)
  ·refine seq_np ?_
   refine reg_f ?_
   refine rk 1 ?_
   refine rf [(4,bS true)] [] 0 (by kernel_rfl) ?_
   refine wk_id ?_
   obtain rfl:=Option.some.inj h
   refine ret_at (bS true) (by kernel_rfl) ?_
   exact ret_e [] [] (by simp only [push_cast,seval]) (by simp only [push_cast,seval]) rfl rfl rfl
  ·refine wk_id ?_
   refine seq_np ?_
   refine reg_f ?_
   refine rk 1 ?_
   obtain ⟨r855,hr855,h⟩:=bind_sx h
   refine call_x (code_Parse_spec xa r855 hr855) (args:=[.v (.string xa)]) (dst:=(some 21)) (by kernel_rfl) [] 0 (by kernel_rfl) [] [] (.tup [.own 0 0 r855.2.length,.agg (Enc.cells r855.1)]) [(0,.row 38 (fl r855.2))] (by simp only [push_cast,seval]) (by simp only [push_cast,seval]) (by kernel_rfl) (.inl rfl) (by simp only [push_cast,seval]) (by simp only [push_cast,seval]) ?_
   refine rk 6 ?_
   refine rf [(0,.v (.string xa)),(1,.v (.string b)),(5,.own 0 0 r855.2.length),(6,.ptr 1 0)] [(0,.row 38 (fl r855.2)),(1,.row 31 (Enc.cells r855.1))] 2 (by kernel_rfl) ?_
   refine wk_id ?_
   refine seq_np ?_
   refine reg_f ?_
   refine rk 1 ?_
   obtain ⟨r857,hr857,h⟩:=bind_sx h
   refine call_x (code_Parse_spec b r857 hr857) (args:=[.v (.string b)]) (dst:=(some 26)) (by kernel_rfl) [(0,.row 38 (fl r855.2)),(1,.row 31 (Enc.cells r855.1))] 2 (by kernel_rfl) [] [] (.tup [.own 2 0 r857.2.length,.agg (Enc.cells r857.1)]) [(2,.row 38 (fl r857.2))] (by simp only [push_cast,seval]) (by simp only [push_cast,seval]) (by kernel_rfl) (.inl rfl) (by simp only [push_cast,seval]) (by simp only [push_cast,seval]) ?_
   refine rk 6 ?_
   refine rf [(0,.v (.string xa)),(1,.v (.string b)),(5,.own 0 0 r855.2.length),(6,.ptr 1 0),(7,.own 2 0 r857.2.length),(8,.ptr 3 0)] [(0,.row 38 (fl r855.2)),(1,.row 31 (Enc.cells r855.1)),(2,.row 38 (fl r857.2)),(3,.row 31 (Enc.cells r857.1))] 4 (by kernel_rfl) ?_
   refine wk_id ?_
   refine chk_sx h (fun g862 h=>?_)
   refine seq_np ?_
   refine reg_f ?_
   have k861:(xa).size+(b).size≤9223372036854775807:=by first | simpa only [Bool.and_eq_true,decide_eq_true_eq,bne_iff_ne,ne_eq] using g862 | (simp at g862 ⊢; omega) | simp
   refine rs 3 [none,none,some ⟨.v (.string (xa++b)),[],4,[]⟩] _ (by kernel_rfl) (allP_cons (ob_p (v:=.v (.string (xa++b))) (nx:=4) (r:=[]) k861) allP_nil) ?_
   obtain ⟨r863,hr863,h⟩:=bind_sx h
   refine call_x (code_Parse_spec (xa++b) r863 hr863) (args:=[.v (.string (xa++b))]) (dst:=(some 33)) (by kernel_rfl) [(0,.row 38 (fl r855.2)),(1,.row 31 (Enc.cells r855.1)),(2,.row 38 (fl r857.2)),(3,.row 31 (Enc.cells r857.1))] 4 (by kernel_rfl) [] [] (.tup [.own 4 0 r863.2.length,.agg (Enc.cells r863.1)]) [(4,.row 38 (fl r863.2))] (by simp only [push_cast,seval]) (by simp only [push_cast,seval]) (by kernel_rfl) (.inl rfl) (by simp only [push_cast,seval]) (by simp only [push_cast,seval]) ?_
   refine rk 6 ?_
   refine rf [(0,.v (.string xa)),(5,.own 0 0 r855.2.length),(6,.ptr 1 0),(7,.own 2 0 r857.2.length),(8,.ptr 3 0),(9,.own 4 0 r863.2.length),(10,.ptr 5 0)] [(0,.row 38 (fl r855.2)),(1,.row 31 (Enc.cells r855.1)),(2,.row 38 (fl r857.2)),(3,.row 31 (Enc.cells r857.1)),(4,.row 38 (fl r863.2)),(5,.row 31 (Enc.cells r863.1))] 6 (by kernel_rfl) ?_
   refine wk_id ?_
   refine seq_np ?_
   refine seq_cut (A:=Unit) (fun _=>([(0,.v (.string xa)),(5,.own 0 0 r855.2.length),(6,.ptr 1 0),(7,.own 2 0 r857.2.length),(8,.ptr 3 0),(9,.own 4 0 r863.2.length),(10,.ptr 5 0),(43,bS ((r855.1.Code != 0) || (r857.1.Code != 0)))],[(0,.row 38 (fl r855.2)),(1,.row 31 (Enc.cells r855.1)),(2,.row 38 (fl r857.2)),(3,.row 31 (Enc.cells r857.1)),(4,.row 38 (fl r863.2)),(5,.row 31 (Enc.cells r863.1))],6)) (fun _=>True) (fun K881 hK881=>?_) (fun _ _=>?_)
   ·refine reg_f ?_
    refine rk 4 ?_
    refine run_split 39 (r855.1.Code != 0) (.inl (by kernel_rfl)) (fun g882=>?_) (fun g882=>?_)
    ·refine rk 4 ?_
     refine rf [(0,.v (.string xa)),(5,.own 0 0 r855.2.length),(6,.ptr 1 0),(7,.own 2 0 r857.2.length),(8,.ptr 3 0),(9,.own 4 0 r863.2.length),(10,.ptr 5 0),(43,bS true)] [(0,.row 38 (fl r855.2)),(1,.row 31 (Enc.cells r855.1)),(2,.row 38 (fl r857.2)),(3,.row 31 (Enc.cells r857.1)),(4,.row 38 (fl r863.2)),(5,.row 31 (Enc.cells r863.1))] 6 (by kernel_rfl) ?_
     exact hK881 () _ _ _ trivial (leSt_m [(0,0),(1,1),(2,2),(3,3),(4,4),(5,5)] [] (by (try simp only [g882]) <;> simp only [push_cast,seval]) (by (try simp only [g882]) <;> simp only [push_cast,seval]) rfl rfl rfl)
    ·refine rk 4 ?_
     refine rf [(0,.v (.string xa)),(5,.own 0 0 r855.2.length),(6,.ptr 1 0),(7,.own 2 0 r857.2.length),(8,.ptr 3 0),(9,.own 4 0 r863.2.length),(10,.ptr 5 0),(43,bS (r857.1.Code != 0))] [(0,.row 38 (fl r855.2)),(1,.row 31 (Enc.cells r855.1)),(2,.row 38 (fl r857.2)),(3,.row 31 (Enc.cells r857.1)),(4,.row 38 (fl r863.2)),(5,.row 31 (Enc.cells r863.1))] 6 (by kernel_rfl) ?_
     exact hK881 () _ _ _ trivial (leSt_m [(0,0),(1,1),(2,2),(3,3),(4,4),(5,5)] [] (by (try simp only [g882]) <;> simp only [push_cast,seval]) (by (try simp only [g882]) <;> simp only [push_cast,seval]) rfl rfl rfl)
   ·dsimp only
    refine cond_sx h (by kernel_rfl) (fun g921 h=>?_) (fun g921 h=>?_)
    ·refine seq_cut (A:=Bool) (fun a=>([(4,bS a)],[],0)) (fun a=>(taskmilllaw_CodeJoins_j1 a) = some r) (fun K896 hK896=>?_) ?_
     ·refine reg_t ?_
      refine rk 4 ?_
      refine run_br h 47 (.inl (by kernel_rfl)) (fun g897 h=>?_) (fun g897 h=>?_)
      ·refine rk 4 ?_
       refine run_br h 51 (.inr (by kernel_rfl)) (fun g898 h=>?_) (fun g898 h=>?_)
       ·refine rk 31 ?_
        refine rt [(4,bS true)] [(0,.row 38 (fl r855.2)),(1,.row 31 (Enc.cells r855.1)),(2,.row 38 (fl r857.2)),(3,.row 31 (Enc.cells r857.1)),(4,.row 38 (fl r863.2)),(5,.row 31 (Enc.cells r863.1))] 45 follows (by kernel_rfl) ?_
        exact hK896 (true) _ _ _ h (leSt_m [] [] (by first | ((try simp only [g897,g898]) <;> simp only [push_cast,seval]; done) | ((try simp only [g897]); (try simp only [g898]); simp only [push_cast,seval]; done) | (exfalso; clear h; simp_all; done)) (by first | ((try simp only [g897,g898]) <;> simp only [push_cast,seval]; done) | ((try simp only [g897]); (try simp only [g898]); simp only [push_cast,seval]; done) | (exfalso; clear h; simp_all; done)) rfl rfl rfl)
       ·refine rk 4 ?_
        refine run_br h 55 (.inr (by kernel_rfl)) (fun g899 h=>?_) (fun g899 h=>?_)
        ·refine rn 12 [(0,.v (.string xa)),(5,.own 0 0 r855.2.length),(6,.ptr 1 0),(8,.ptr 3 0),(10,.ptr 5 0),(47,bS true),(51,.gd true (bS false)),(55,.gd true (bS true))] [(0,.row 38 (fl r855.2)),(1,.row 31 (Enc.cells r855.1)),(2,.row 38 (fl r857.2)),(3,.row 31 (Enc.cells r857.1)),(4,.row 38 (fl r863.2)),(5,.row 31 (Enc.cells r863.1))] 18 (by kernel_rfl) ?_
         refine chk_sx h (fun g901 h=>?_)
         have k900:0≤(IntKind.i64.wrap ((((xa).size:Nat):Int) - 1))∧(IntKind.i64.wrap ((((xa).size:Nat):Int) - 1)) < (((xa).size:Nat):Int):=by first | simpa only [Bool.and_eq_true,decide_eq_true_eq,bne_iff_ne,ne_eq] using g901 | (simp at g901 ⊢; omega) | simp
         refine rs 10 [none,none,none,none,some ⟨.v (.int .u8 (((xa).data.getD ((IntKind.i64.wrap ((((xa).size:Nat):Int) - 1))).toNat 0).toNat:Int)),[],22,[]⟩] _ (by kernel_rfl) (allP_cons (ob_p (v:=.v (.int .u8 (((xa).data.getD ((IntKind.i64.wrap ((((xa).size:Nat):Int) - 1))).toNat 0).toNat:Int))) (nx:=22) (r:=[]) k900) allP_nil) ?_
         refine run_br h 65 (.inl (by kernel_rfl)) (fun g902 h=>?_) (fun g902 h=>?_)
         ·refine rk 17 ?_
          refine rt [(4,bS true)] [(0,.row 38 (fl r855.2)),(1,.row 31 (Enc.cells r855.1)),(2,.row 38 (fl r857.2)),(3,.row 31 (Enc.cells r857.1)),(4,.row 38 (fl r863.2)),(5,.row 31 (Enc.cells r863.1))] 45 follows (by kernel_rfl) ?_
          exact hK896 (true) _ _ _ h (leSt_m [] [] (by first | ((try simp only [g897,g898,g899,g902]) <;> simp only [push_cast,seval]; done) | ((try simp only [g897]); (try simp only [g898]); (try simp only [g899]); (try simp only [g902]); simp only [push_cast,seval]; done) | (exfalso; clear h; simp_all; done)) (by first | ((try simp only [g897,g898,g899,g902]) <;> simp only [push_cast,seval]; done) | ((try simp only [g897]); (try simp only [g898]); (try simp only [g899]); (try simp only [g902]); simp only [push_cast,seval]; done) | (exfalso; clear h; simp_all; done)) rfl rfl rfl)
         ·refine rk 4 ?_
          refine run_br h 69 (.inr (by kernel_rfl)) (fun g903 h=>?_) (fun g903 h=>?_)
          ·refine rk 8 ?_
           obtain ⟨r904,hr904,h⟩:=bind_sx h
           refine run_call 14 [iS r857.1.Code,iS (IntKind.i64.wrap ((r855.2.length:Int)+r857.1.At))] (some 78) (by kernel_rfl) ?_
           refine callE_0 (taskmillref_F_spec r857.1.Code (IntKind.i64.wrap ((r855.2.length:Int)+r857.1.At)) r904 hr904) (by simp only [push_cast,seval]) (by simp only [push_cast,seval]) ?_
           refine back_t ?_
           refine rn 35 [(65,bS false),(69,.gd true (bS true)),(70,.gd true (.agg (Enc.cells r863.1))),(78,.agg (Enc.cells r904))] [(0,.row 38 (fl r855.2)),(1,.row 31 (Enc.cells r855.1)),(2,.row 38 (fl r857.2)),(3,.row 31 (Enc.cells r857.1)),(4,.row 38 (fl r863.2)),(5,.row 31 (Enc.cells r863.1))] 41 (by kernel_rfl) ?_
           refine rk 4 ?_
           refine rt [(4,bS ((r863.1.Code == r904.Code) && ((r863.1.At == r904.At) && true)))] [(0,.row 38 (fl r855.2)),(1,.row 31 (Enc.cells r855.1)),(2,.row 38 (fl r857.2)),(3,.row 31 (Enc.cells r857.1)),(4,.row 38 (fl r863.2)),(5,.row 31 (Enc.cells r863.1))] 45 follows (by kernel_rfl) ?_
           exact hK896 (((r863.1.Code == r904.Code) && ((r863.1.At == r904.At) && true))) _ _ _ h (leSt_m [] [] (by first | ((try simp only [g897,g898,g899,g902,g903]) <;> simp only [push_cast,seval]; done) | ((try simp only [g897]); (try simp only [g898]); (try simp only [g899]); (try simp only [g902]); (try simp only [g903]); simp only [push_cast,seval]; done) | (exfalso; clear h; simp_all; done)) (by first | ((try simp only [g897,g898,g899,g902,g903]) <;> simp only [push_cast,seval]; done) | ((try simp only [g897]); (try simp only [g898]); (try simp only [g899]); (try simp only [g902]); (try simp only [g903]); simp only [push_cast,seval]; done) | (exfalso; clear h; simp_all; done)) rfl rfl rfl)
          ·refine rk 13 ?_
           refine rt [(4,bS false)] [(0,.row 38 (fl r855.2)),(1,.row 31 (Enc.cells r855.1)),(2,.row 38 (fl r857.2)),(3,.row 31 (Enc.cells r857.1)),(4,.row 38 (fl r863.2)),(5,.row 31 (Enc.cells r863.1))] 45 follows (by kernel_rfl) ?_
           exact hK896 (false) _ _ _ h (leSt_m [] [] (by first | ((try simp only [g897,g898,g899,g902,g903]) <;> simp only [push_cast,seval]; done) | ((try simp only [g897]); (try simp only [g898]); (try simp only [g899]); (try simp only [g902]); (try simp only [g903]); simp only [push_cast,seval]; done) | (exfalso; clear h; simp_all; done)) (by first | ((try simp only [g897,g898,g899,g902,g903]) <;> simp only [push_cast,seval]; done) | ((try simp only [g897]); (try simp only [g898]); (try simp only [g899]); (try simp only [g902]); (try simp only [g903]); simp only [push_cast,seval]; done) | (exfalso; clear h; simp_all; done)) rfl rfl rfl)
        ·refine rn 12 [(0,.v (.string xa)),(5,.own 0 0 r855.2.length),(6,.ptr 1 0),(8,.ptr 3 0),(10,.ptr 5 0),(47,bS true),(51,.gd true (bS false)),(55,.gd true (bS false))] [(0,.row 38 (fl r855.2)),(1,.row 31 (Enc.cells r855.1)),(2,.row 38 (fl r857.2)),(3,.row 31 (Enc.cells r857.1)),(4,.row 38 (fl r863.2)),(5,.row 31 (Enc.cells r863.1))] 18 (by kernel_rfl) ?_
         refine rk 14 ?_
         refine run_br h 69 (.inr (by kernel_rfl)) (fun g905 h=>?_) (fun g905 h=>?_)
         ·refine rk 8 ?_
          obtain ⟨r906,hr906,h⟩:=bind_sx h
          refine run_call 14 [iS r857.1.Code,iS (IntKind.i64.wrap ((r855.2.length:Int)+r857.1.At))] (some 78) (by kernel_rfl) ?_
          refine callE_0 (taskmillref_F_spec r857.1.Code (IntKind.i64.wrap ((r855.2.length:Int)+r857.1.At)) r906 hr906) (by simp only [push_cast,seval]) (by simp only [push_cast,seval]) ?_
          refine back_t ?_
          refine rk 4 ?_
          refine rt [(4,bS ((r863.1.Code == r906.Code) && ((r863.1.At == r906.At) && true)))] [(0,.row 38 (fl r855.2)),(1,.row 31 (Enc.cells r855.1)),(2,.row 38 (fl r857.2)),(3,.row 31 (Enc.cells r857.1)),(4,.row 38 (fl r863.2)),(5,.row 31 (Enc.cells r863.1))] 45 follows (by kernel_rfl) ?_
          exact hK896 (((r863.1.Code == r906.Code) && ((r863.1.At == r906.At) && true))) _ _ _ h (leSt_m [] [] (by first | ((try simp only [g897,g898,g899,g905]) <;> simp only [push_cast,seval]; done) | ((try simp only [g897]); (try simp only [g898]); (try simp only [g899]); (try simp only [g905]); simp only [push_cast,seval]; done) | (exfalso; clear h; simp_all; done)) (by first | ((try simp only [g897,g898,g899,g905]) <;> simp only [push_cast,seval]; done) | ((try simp only [g897]); (try simp only [g898]); (try simp only [g899]); (try simp only [g905]); simp only [push_cast,seval]; done) | (exfalso; clear h; simp_all; done)) rfl rfl rfl)
         ·refine rk 13 ?_
          refine rt [(4,bS false)] [(0,.row 38 (fl r855.2)),(1,.row 31 (Enc.cells r855.1)),(2,.row 38 (fl r857.2)),(3,.row 31 (Enc.cells r857.1)),(4,.row 38 (fl r863.2)),(5,.row 31 (Enc.cells r863.1))] 45 follows (by kernel_rfl) ?_
          exact hK896 (false) _ _ _ h (leSt_m [] [] (by first | ((try simp only [g897,g898,g899,g905]) <;> simp only [push_cast,seval]; done) | ((try simp only [g897]); (try simp only [g898]); (try simp only [g899]); (try simp only [g905]); simp only [push_cast,seval]; done) | (exfalso; clear h; simp_all; done)) (by first | ((try simp only [g897,g898,g899,g905]) <;> simp only [push_cast,seval]; done) | ((try simp only [g897]); (try simp only [g898]); (try simp only [g899]); (try simp only [g905]); simp only [push_cast,seval]; done) | (exfalso; clear h; simp_all; done)) rfl rfl rfl)
      ·refine rk 22 ?_
       refine run_br h 69 (.inr (by kernel_rfl)) (fun g907 h=>?_) (fun g907 h=>?_)
       ·refine rk 8 ?_
        obtain ⟨r908,hr908,h⟩:=bind_sx h
        refine run_call 14 [iS r857.1.Code,iS (IntKind.i64.wrap ((r855.2.length:Int)+r857.1.At))] (some 78) (by kernel_rfl) ?_
        refine callE_0 (taskmillref_F_spec r857.1.Code (IntKind.i64.wrap ((r855.2.length:Int)+r857.1.At)) r908 hr908) (by simp only [push_cast,seval]) (by simp only [push_cast,seval]) ?_
        refine back_t ?_
        refine rn 35 [(65,bS false),(69,.gd true (bS true)),(70,.gd true (.agg (Enc.cells r863.1))),(78,.agg (Enc.cells r908))] [(0,.row 38 (fl r855.2)),(1,.row 31 (Enc.cells r855.1)),(2,.row 38 (fl r857.2)),(3,.row 31 (Enc.cells r857.1)),(4,.row 38 (fl r863.2)),(5,.row 31 (Enc.cells r863.1))] 41 (by kernel_rfl) ?_
        refine rk 4 ?_
        refine rt [(4,bS ((r863.1.Code == r908.Code) && ((r863.1.At == r908.At) && true)))] [(0,.row 38 (fl r855.2)),(1,.row 31 (Enc.cells r855.1)),(2,.row 38 (fl r857.2)),(3,.row 31 (Enc.cells r857.1)),(4,.row 38 (fl r863.2)),(5,.row 31 (Enc.cells r863.1))] 45 follows (by kernel_rfl) ?_
        exact hK896 (((r863.1.Code == r908.Code) && ((r863.1.At == r908.At) && true))) _ _ _ h (leSt_m [] [] (by first | ((try simp only [g897,g907]) <;> simp only [push_cast,seval]; done) | ((try simp only [g897]); (try simp only [g907]); simp only [push_cast,seval]; done) | (exfalso; clear h; simp_all; done)) (by first | ((try simp only [g897,g907]) <;> simp only [push_cast,seval]; done) | ((try simp only [g897]); (try simp only [g907]); simp only [push_cast,seval]; done) | (exfalso; clear h; simp_all; done)) rfl rfl rfl)
       ·refine rk 13 ?_
        refine rt [(4,bS false)] [(0,.row 38 (fl r855.2)),(1,.row 31 (Enc.cells r855.1)),(2,.row 38 (fl r857.2)),(3,.row 31 (Enc.cells r857.1)),(4,.row 38 (fl r863.2)),(5,.row 31 (Enc.cells r863.1))] 45 follows (by kernel_rfl) ?_
        exact hK896 (false) _ _ _ h (leSt_m [] [] (by first | ((try simp only [g897,g907]) <;> simp only [push_cast,seval]; done) | ((try simp only [g897]); (try simp only [g907]); simp only [push_cast,seval]; done) | (exfalso; clear h; simp_all; done)) (by first | ((try simp only [g897,g907]) <;> simp only [push_cast,seval]; done) | ((try simp only [g897]); (try simp only [g907]); simp only [push_cast,seval]; done) | (exfalso; clear h; simp_all; done)) rfl rfl rfl)
     ·rintro t4q3 h
      try dsimp only at h ⊢
      unfold taskmilllaw_CodeJoins_j1 at h
      obtain rfl:=Option.some.inj h
      refine ret_at (bS t4q3) (by kernel_rfl) ?_
      exact ret_e [] [] (by simp only [push_cast,seval]) (by simp only [push_cast,seval]) rfl rfl rfl
    ·refine wk_id ?_
     refine seq_cut (A:=Bool) (fun a=>([(4,bS a)],[],0)) (fun a=>(taskmilllaw_CodeJoins_j2 a) = some r) (fun K915 hK915=>?_) ?_
     ·refine reg_f ?_
      refine rk 4 ?_
      refine run_br h 85 (.inl (by kernel_rfl)) (fun g916 h=>?_) (fun g916 h=>?_)
      ·refine rk 2 ?_
       obtain ⟨r917,hr917,h⟩:=bind_sx h
       refine call_x (taskmilllaw_ownCode_spec r855.2 r917 hr917) (args:=[.own 0 0 r855.2.length]) (dst:=(some 88)) (by kernel_rfl) [(0,.row 38 (fl r855.2)),(1,.row 31 (Enc.cells r855.1)),(2,.row 38 (fl r857.2)),(3,.row 31 (Enc.cells r857.1)),(4,.row 38 (fl r863.2)),(5,.row 31 (Enc.cells r863.1))] 6 (by kernel_rfl) [] [0] (.own 6 0 r917.length) [(6,.row 38 (fl r917))] (by simp only [push_cast,seval]) (by simp only [push_cast,seval]) (by kernel_rfl) (.inr ⟨by simp only [push_cast,seval],by simp only [push_cast,seval]⟩) (by simp only [push_cast,seval]) (by simp only [push_cast,seval]) ?_
       refine chk_sx h (fun g919 h=>?_)
       have k918:(r917++r857.2).length * 24≤140737488355328:=by first | simpa only [Bool.and_eq_true,decide_eq_true_eq,bne_iff_ne,ne_eq] using g919 | (simp at g919 ⊢; omega) | simp
       refine rs 2 [none,some ⟨.own 7 0 (r917++r857.2).length,[(7,.row 38 (fl (r917++r857.2))),(6,.dead)],8,[6,2]⟩] _ (by kernel_rfl) (allP_cons (ob_app (P:=Tryd.prog) r917 r857.2 3 24 rfl (appCells (fl r857.2) 0 (r857.2.length * 3)) r857.2.length (app_own r857.2 3 rfl) rfl (0+r857.2.length * 3≤(fl r857.2).length) (app_own_le r857.2 3 rfl) 38 (by kernel_rfl) (by decide) k918 6 7 [2]) allP_nil) ?_
       obtain ⟨r920,hr920,h⟩:=bind_sx h
       refine call_x (taskmilllaw_sameCode_spec r863.2 (r917++r857.2) r920 hr920) (args:=[.own 4 0 r863.2.length,.own 7 0 (r917++r857.2).length]) (dst:=(some 91)) (by kernel_rfl) [(0,.row 38 (fl r855.2)),(1,.row 31 (Enc.cells r855.1)),(2,.row 38 (fl r857.2)),(3,.row 31 (Enc.cells r857.1)),(4,.row 38 (fl r863.2)),(5,.row 31 (Enc.cells r863.1)),(6,.dead),(7,.row 38 (fl (r917++r857.2)))] 8 (by kernel_rfl) [] [4,7] (bS r920) [] (by simp only [push_cast,seval]) (by simp only [push_cast,seval]) (by kernel_rfl) (.inr ⟨by simp only [push_cast,seval],by simp only [push_cast,seval]⟩) (by simp only [push_cast,seval]) (by simp only [push_cast,seval]) ?_
       refine rk 2 ?_
       refine rf [(4,bS r920)] [(0,.row 38 (fl r855.2)),(1,.row 31 (Enc.cells r855.1)),(2,.row 38 (fl r857.2)),(3,.row 31 (Enc.cells r857.1)),(4,.row 38 (fl r863.2)),(5,.row 31 (Enc.cells r863.1)),(6,.dead),(7,.row 38 (fl (r917++r857.2)))] 8 (by kernel_rfl) ?_
       exact hK915 (r920) _ _ _ h (leSt_m [] [] (by (try simp only [g916]) <;> simp only [push_cast,seval]) (by (try simp only [g916]) <;> simp only [push_cast,seval]) rfl rfl rfl)
      ·refine rk 8 ?_
       refine rf [(4,bS false)] [(0,.row 38 (fl r855.2)),(1,.row 31 (Enc.cells r855.1)),(2,.row 38 (fl r857.2)),(3,.row 31 (Enc.cells r857.1)),(4,.row 38 (fl r863.2)),(5,.row 31 (Enc.cells r863.1))] 6 (by kernel_rfl) ?_
       exact hK915 (false) _ _ _ h (leSt_m [] [] (by (try simp only [g916]) <;> simp only [push_cast,seval]) (by (try simp only [g916]) <;> simp only [push_cast,seval]) rfl rfl rfl)
     ·rintro t4q4 h
      try dsimp only at h ⊢
      unfold taskmilllaw_CodeJoins_j2 at h
      obtain rfl:=Option.some.inj h
      refine ret_at (bS t4q4) (by kernel_rfl) ?_
      exact ret_e [] [] (by simp only [push_cast,seval]) (by simp only [push_cast,seval]) rfl rfl rfl

end Go.Proofs.YtdckaaiidagodaaDoor
