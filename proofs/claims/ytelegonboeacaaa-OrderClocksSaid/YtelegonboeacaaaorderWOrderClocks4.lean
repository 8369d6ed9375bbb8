/-
 What laws of the chapter order compute, and lemmas on it.
 No conditions.
-/
import Derived.Test.YtelegonboeacaaaorderWOrderClocks3
set_option linter.unusedSimpArgs false
set_option linter.unusedVariables false
namespace Go.Proofs.Ytelegonboeacaaa
open Go Go.Sx
attribute [local irreducible] Wk RunAt
attribute [local bitvec_to_nat] leL_flD renL_flD leL_flP renL_flP leC_famP leC_famP0 flP_0 ren_famP noN_eq lenP_same lenP_one lenP_app lenP_set lenP_famP Nat.le_refl List.length_set leC_mpP leC_mpP1 mapLe_eq mapLe1_eq ren_mpP ren_mpP1
set_option maxRecDepth 100000 in
set_option maxHeartbeats 200000000 in
theorem taskmilllaw_OrderClocks_spec (t:(List GEvent)) (pipes:(List Int)) (i:Int) (k:Int) (r:Bool) (h:taskmilllaw_OrderClocks t pipes i k = some r):SpecW Try.prog 4 [.sl t.length (fl t),.sl pipes.length (fl pipes),iS i,iS k] [] 0 (fun x h n=>x = bS r∧h = []∧n = 0):=by
 unfold taskmilllaw_OrderClocks at h
 refine spec_of (draw_ok _) Try.func4 rfl (by decide) rfl (by kernel_rfl) ?_
 refine seq_np ?_
 refine reg_f ?_
 refine rk 1 ?_
 refine rf [(0,.sl t.length (fl t)),(1,.sl pipes.length (fl pipes)),(2,iS i),(3,iS k)] [] 0 (by kernel_rfl) ?_
 refine wk_id ?_
 refine seq_np ?_
 refine seq_np ?_
 refine reg_f ?_
 obtain ⟨r11331,hr11331,h⟩:=bind_sx h
 refine run_call 10 [] (some 24) (by kernel_rfl) ?_
 refine call_0 (taskmilllaw_orderBegun_spec r11331 hr11331) (by simp only [bitvec_to_nat,push_cast,seval]) (by simp only [bitvec_to_nat,push_cast,seval]) ?_
 refine back_f ?_
 refine rk 1 ?_
 refine rf [(0,.sl t.length (fl t)),(1,.sl pipes.length (fl pipes)),(2,iS i),(3,iS k),(25,bS (!r11331))] [] 0 (by kernel_rfl) ?_
 refine wk_id ?_
 refine cond_sx h (by kernel_rfl) (fun g12251 h=>?_) (fun g12251 h=>?_)
 ·refine seq_np ?_
  refine reg_f ?_
  refine rk 1 ?_
  refine rf [(8,bS false)] [] 0 (by kernel_rfl) ?_
  refine wk_id ?_
  obtain rfl:=Option.some.inj h
  refine ret_at (bS false) (by kernel_rfl) ?_
  exact ret_e [] [] (by simp only [bitvec_to_nat,push_cast,seval]) (by simp only [bitvec_to_nat,push_cast,seval]) rfl rfl rfl
 ·refine wk_id ?_
  refine seq_np ?_
  refine seq_cut (A:=Unit) (fun _=>([(0,.sl t.length (fl t)),(1,.sl pipes.length (fl pipes)),(2,iS i),(3,iS k),(43,bS (bif (decide ((300:Int) < (t.length:Int))) then ((decide ((t.length:Int) < 2000)) || ((decide ((3000:Int) < (t.length:Int))) || (decide ((100:Int) < (pipes.length:Int))))) else ((decide ((3000:Int) < (t.length:Int))) || (decide ((100:Int) < (pipes.length:Int))))))],[],0)) (fun _=>True) (fun K11341 hK11341=>?_) (fun _ _=>?_)
  ·refine reg_f ?_
   refine rk 4 ?_
   refine run_split 29 (decide ((300:Int) < (t.length:Int))) (.inl (by kernel_rfl)) (fun g11342=>?_) (fun g11342=>?_)
   ·refine rk 5 ?_
    refine run_split 34 (decide ((t.length:Int) < 2000)) (.inl (by kernel_rfl)) (fun g11343=>?_) (fun g11343=>?_)
    ·refine rk 9 ?_
     refine rf [(0,.sl t.length (fl t)),(1,.sl pipes.length (fl pipes)),(2,iS i),(3,iS k),(43,bS true)] [] 0 (by kernel_rfl) ?_
     exact hK11341 () _ _ _ trivial (leSt_m [] [] (by first | ((try simp only [g11342,g11343]) <;> simp only [bitvec_to_nat,push_cast,seval]; done) | ((try simp only [g11342]); (try simp only [g11343]); simp only [bitvec_to_nat,push_cast,seval]; done) | (exfalso; clear h; simp_all; done)) (by first | ((try simp only [g11342,g11343]) <;> simp only [bitvec_to_nat,push_cast,seval]; done) | ((try simp only [g11342]); (try simp only [g11343]); simp only [bitvec_to_nat,push_cast,seval]; done) | (exfalso; clear h; simp_all; done)) rfl rfl rfl)
    ·refine rk 5 ?_
     refine run_split 39 (decide ((3000:Int) < (t.length:Int))) (.inl (by kernel_rfl)) (fun g11344=>?_) (fun g11344=>?_)
     ·refine rn 14 [(0,.sl t.length (fl t)),(1,.sl pipes.length (fl pipes)),(2,iS i),(3,iS k),(39,bS true)] [] 0 (by kernel_rfl) ?_
      refine rk 4 ?_
      refine rf [(0,.sl t.length (fl t)),(1,.sl pipes.length (fl pipes)),(2,iS i),(3,iS k),(43,bS true)] [] 0 (by kernel_rfl) ?_
      exact hK11341 () _ _ _ trivial (leSt_m [] [] (by first | ((try simp only [g11342,g11343,g11344]) <;> simp only [bitvec_to_nat,push_cast,seval]; done) | ((try simp only [g11342]); (try simp only [g11343]); (try simp only [g11344]); simp only [bitvec_to_nat,push_cast,seval]; done) | (exfalso; clear h; simp_all; done)) (by first | ((try simp only [g11342,g11343,g11344]) <;> simp only [bitvec_to_nat,push_cast,seval]; done) | ((try simp only [g11342]); (try simp only [g11343]); (try simp only [g11344]); simp only [bitvec_to_nat,push_cast,seval]; done) | (exfalso; clear h; simp_all; done)) rfl rfl rfl)
     ·refine rn 14 [(0,.sl t.length (fl t)),(1,.sl pipes.length (fl pipes)),(2,iS i),(3,iS k),(39,bS false)] [] 0 (by kernel_rfl) ?_
      refine rk 4 ?_
      refine rf [(0,.sl t.length (fl t)),(1,.sl pipes.length (fl pipes)),(2,iS i),(3,iS k),(43,bS (decide ((100:Int) < (pipes.length:Int))))] [] 0 (by kernel_rfl) ?_
      exact hK11341 () _ _ _ trivial (leSt_m [] [] (by first | ((try simp only [g11342,g11343,g11344]) <;> simp only [bitvec_to_nat,push_cast,seval]; done) | ((try simp only [g11342]); (try simp only [g11343]); (try simp only [g11344]); simp only [bitvec_to_nat,push_cast,seval]; done) | (exfalso; clear h; simp_all; done)) (by first | ((try simp only [g11342,g11343,g11344]) <;> simp only [bitvec_to_nat,push_cast,seval]; done) | ((try simp only [g11342]); (try simp only [g11343]); (try simp only [g11344]); simp only [bitvec_to_nat,push_cast,seval]; done) | (exfalso; clear h; simp_all; done)) rfl rfl rfl)
   ·refine rk 10 ?_
    refine run_split 39 (decide ((3000:Int) < (t.length:Int))) (.inl (by kernel_rfl)) (fun g11345=>?_) (fun g11345=>?_)
    ·refine rk 4 ?_
     refine rf [(0,.sl t.length (fl t)),(1,.sl pipes.length (fl pipes)),(2,iS i),(3,iS k),(43,bS true)] [] 0 (by kernel_rfl) ?_
     exact hK11341 () _ _ _ trivial (leSt_m [] [] (by first | ((try simp only [g11342,g11345]) <;> simp only [bitvec_to_nat,push_cast,seval]; done) | ((try simp only [g11342]); (try simp only [g11345]); simp only [bitvec_to_nat,push_cast,seval]; done) | (exfalso; clear h; simp_all; done)) (by first | ((try simp only [g11342,g11345]) <;> simp only [bitvec_to_nat,push_cast,seval]; done) | ((try simp only [g11342]); (try simp only [g11345]); simp only [bitvec_to_nat,push_cast,seval]; done) | (exfalso; clear h; simp_all; done)) rfl rfl rfl)
    ·refine rk 4 ?_
     refine rf [(0,.sl t.length (fl t)),(1,.sl pipes.length (fl pipes)),(2,iS i),(3,iS k),(43,bS (decide ((100:Int) < (pipes.length:Int))))] [] 0 (by kernel_rfl) ?_
     exact hK11341 () _ _ _ trivial (leSt_m [] [] (by first | ((try simp only [g11342,g11345]) <;> simp only [bitvec_to_nat,push_cast,seval]; done) | ((try simp only [g11342]); (try simp only [g11345]); simp only [bitvec_to_nat,push_cast,seval]; done) | (exfalso; clear h; simp_all; done)) (by first | ((try simp only [g11342,g11345]) <;> simp only [bitvec_to_nat,push_cast,seval]; done) | ((try simp only [g11342]); (try simp only [g11345]); simp only [bitvec_to_nat,push_cast,seval]; done) | (exfalso; clear h; simp_all; done)) rfl rfl rfl)
  ·dsimp only
   refine cond_sx h (by kernel_rfl) (fun g12250 h=>?_) (fun g12250 h=>?_)
   ·refine seq_np ?_
    refine reg_f ?_
    refine rk 1 ?_
    refine rf [(8,bS true)] [] 0 (by kernel_rfl) ?_
    refine wk_id ?_
    obtain rfl:=Option.some.inj h
    refine ret_at (bS true) (by kernel_rfl) ?_
    exact ret_e [] [] (by simp only [bitvec_to_nat,push_cast,seval]) (by simp only [bitvec_to_nat,push_cast,seval]) rfl rfl rfl
   ·refine wk_id ?_
    refine seq_np ?_
    refine reg_f ?_
    refine rk 1 ?_
    obtain ⟨r11348,hr11348,h⟩:=bind_sx h
    refine call_x (taskmilllaw_ownTrace_spec t r11348 hr11348) (args:=[.sl t.length (fl t)]) (dst:=(some 45)) (by kernel_rfl) [] 0 (by kernel_rfl) [] [] (.own 0 0 r11348.length) [(0,.row 31 (fl r11348))] (by simp only [bitvec_to_nat,push_cast,seval]) (by simp only [bitvec_to_nat,push_cast,seval]) (by kernel_rfl) (.inl rfl) (by simp only [bitvec_to_nat,push_cast,seval]) (by simp only [bitvec_to_nat,push_cast,seval]) ?_
    refine rk 1 ?_
    obtain ⟨r11349,hr11349,h⟩:=bind_sx h
    refine call_x (taskmilllaw_own_spec pipes r11349 hr11349) (args:=[.sl pipes.length (fl pipes)]) (dst:=(some 47)) (by kernel_rfl) [(0,.row 31 (fl r11348))] 1 (by kernel_rfl) [] [] (.own 1 0 r11349.length) [(1,.row 3 (fl r11349))] (by simp only [bitvec_to_nat,push_cast,seval]) (by simp only [bitvec_to_nat,push_cast,seval]) (by kernel_rfl) (.inl rfl) (by simp only [bitvec_to_nat,push_cast,seval]) (by simp only [bitvec_to_nat,push_cast,seval]) ?_
    refine rk 2 ?_
    refine rf [(0,.sl t.length (fl t)),(1,.sl pipes.length (fl pipes)),(2,iS i),(3,iS k),(9,.own 0 0 r11348.length),(10,.own 1 0 r11349.length)] [(0,.row 31 (fl r11348)),(1,.row 3 (fl r11349))] 2 (by kernel_rfl) ?_
    refine wk_id ?_
    refine seq_np ?_
    refine reg_f ?_
    refine rk 2 ?_
    obtain ⟨r11351,hr11351,h⟩:=bind_sx h
    refine call_x (order_Check_spec r11348 r11349 r11351 hr11351) (args:=[.own 0 0 r11348.length,.own 1 0 r11349.length]) (dst:=(some 50)) (by kernel_rfl) [(0,.row 31 (fl r11348)),(1,.row 3 (fl r11349))] 2 (by kernel_rfl) [] [0,1] (.agg (Enc.cells r11351)) [] (by simp only [bitvec_to_nat,push_cast,seval]) (by simp only [bitvec_to_nat,push_cast,seval]) (by kernel_rfl) (.inr ⟨by simp only [bitvec_to_nat,push_cast,seval],by simp only [bitvec_to_nat,push_cast,seval]⟩) (by simp only [bitvec_to_nat,push_cast,seval]) (by simp only [bitvec_to_nat,push_cast,seval]) ?_
    refine rk 2 ?_
    refine rf [(0,.sl t.length (fl t)),(1,.sl pipes.length (fl pipes)),(2,iS i),(3,iS k),(9,.own 0 0 r11348.length),(10,.own 1 0 r11349.length),(11,.ptr 2 0)] [(0,.row 31 (fl r11348)),(1,.row 3 (fl r11349)),(2,.row 26 (Enc.cells r11351))] 3 (by kernel_rfl) ?_
    refine wk_mk [(0,.sl t.length (fl t)),(1,.sl pipes.length (fl pipes)),(2,iS i),(3,iS k),(9,.sl r11348.length (fl r11348)),(10,.sl r11349.length (fl r11349)),(11,.ptr 2 0)] [(2,.row 26 (Enc.cells r11351))] 3 (leSt_m [(2,2)] [0,1] (by simp only [leS_frz,leS_cut,leL_flD,renL_flD,leL_flP,renL_flP,leC_famP,leC_famP0,flP_0,ren_famP,noN_eq,lenP_same,lenP_one,lenP_app,lenP_set,lenP_famP,Nat.le_refl,List.length_set,leC_mpP,leC_mpP1,mapLe_eq,mapLe1_eq,ren_mpP,ren_mpP1,push_cast,seval]) (by simp only [leS_frz,leS_cut,leL_flD,renL_flD,leL_flP,renL_flP,leC_famP,leC_famP0,flP_0,ren_famP,noN_eq,lenP_same,lenP_one,lenP_app,lenP_set,lenP_famP,Nat.le_refl,List.length_set,leC_mpP,leC_mpP1,mapLe_eq,mapLe1_eq,ren_mpP,ren_mpP1,push_cast,seval]) rfl rfl rfl) ?_
    refine seq_np ?_
    refine reg_f ?_
    refine rk 2 ?_
    obtain ⟨r11353,hr11353,h⟩:=bind_sx h
    refine call_x (order_Clocks_spec r11348 r11349 r11353 hr11353) (args:=[.sl r11348.length (fl r11348),.sl r11349.length (fl r11349)]) (dst:=(some 54)) (by kernel_rfl) [(2,.row 26 (Enc.cells r11351))] 3 (by kernel_rfl) [] [] (.tup [.own 3 0 r11353.2.length,.agg (Enc.cells r11353.1)]) [(3,.row 23 (fl r11353.2))] (by simp only [bitvec_to_nat,push_cast,seval]) (by simp only [bitvec_to_nat,push_cast,seval]) (by kernel_rfl) (.inl rfl) (by simp only [bitvec_to_nat,push_cast,seval]) (by simp only [bitvec_to_nat,push_cast,seval]) ?_
    refine rk 6 ?_
    refine rf [(0,.sl t.length (fl t)),(1,.sl pipes.length (fl pipes)),(2,iS i),(3,iS k),(9,.sl r11348.length (fl r11348)),(10,.sl r11349.length (fl r11349)),(11,.ptr 2 0),(12,.own 3 0 r11353.2.length),(13,.ptr 4 0)] [(2,.row 26 (Enc.cells r11351)),(3,.row 23 (fl r11353.2)),(4,.row 26 (Enc.cells r11353.1))] 5 (by kernel_rfl) ?_
    refine wk_id ?_
    refine seq_np ?_
    refine reg_f ?_
    refine rk 4 ?_
    obtain ⟨r11355,hr11355,h⟩:=bind_sx h
    refine run_call 12 [.sl r11348.length (fl r11348),.sl r11349.length (fl r11349),iS i,iS k] (some 62) (by kernel_rfl) ?_
    refine call_0 (order_Before_spec r11348 r11349 i k r11355 hr11355) (by simp only [bitvec_to_nat,push_cast,seval]) (by simp only [bitvec_to_nat,push_cast,seval]) ?_
    refine back_f ?_
    refine rk 6 ?_
    refine rf [(0,.sl t.length (fl t)),(1,.sl pipes.length (fl pipes)),(2,iS i),(3,iS k),(9,.sl r11348.length (fl r11348)),(10,.sl r11349.length (fl r11349)),(11,.ptr 2 0),(12,.own 3 0 r11353.2.length),(13,.ptr 4 0),(14,bS r11355.1),(15,.ptr 5 0)] [(2,.row 26 (Enc.cells r11351)),(3,.row 23 (fl r11353.2)),(4,.row 26 (Enc.cells r11353.1)),(5,.row 26 (Enc.cells r11355.2))] 6 (by kernel_rfl) ?_
    refine wk_id ?_
    refine seq_np ?_
    refine reg_f ?_
    refine rk 2 ?_
    obtain ⟨r11357,hr11357,h⟩:=bind_sx h
    refine run_call 11 [.sl t.length (fl t),.sl pipes.length (fl pipes)] (some 67) (by kernel_rfl) ?_
    refine call_0 (taskmillref_TraceFault_spec t pipes r11357 hr11357) (by simp only [bitvec_to_nat,push_cast,seval]) (by simp only [bitvec_to_nat,push_cast,seval]) ?_
    refine back_f ?_
    refine rk 2 ?_
    refine rf [(0,.sl t.length (fl t)),(1,.sl pipes.length (fl pipes)),(2,iS i),(3,iS k),(9,.sl r11348.length (fl r11348)),(10,.sl r11349.length (fl r11349)),(11,.ptr 2 0),(12,.own 3 0 r11353.2.length),(13,.ptr 4 0),(14,bS r11355.1),(15,.ptr 5 0),(16,.ptr 6 0)] [(2,.row 26 (Enc.cells r11351)),(3,.row 23 (fl r11353.2)),(4,.row 26 (Enc.cells r11353.1)),(5,.row 26 (Enc.cells r11355.2)),(6,.row 26 (Enc.cells r11357))] 7 (by kernel_rfl) ?_
    refine wk_id ?_
    refine seq_np ?_
    refine seq_cut (A:=Bool×Bool×(List (List Int))×Fault×Fault) (fun a=>([(0,.sl t.length (fl t)),(1,.sl pipes.length (fl pipes)),(2,iS i),(3,iS k),(12,.own 0 0 a.2.2.1.length),(14,bS a.1),(15,.ptr 1 0),(16,.ptr 2 0),(87,bS a.2.1)],[(0,.row 23 (fl a.2.2.1)),(1,.row 26 (Enc.cells a.2.2.2.1)),(2,.row 26 (Enc.cells a.2.2.2.2))],3)) (fun a=>(taskmilllaw_OrderClocks_j5 t pipes i k a.1 a.2.1 a.2.2.1 a.2.2.2.1 a.2.2.2.2) = some r) (fun K11372 hK11372=>?_) ?_
    ·refine reg_f ?_
     refine rk 4 ?_
     refine run_br h 71 (.inl (by kernel_rfl)) (fun g11373 h=>?_) (fun g11373 h=>?_)
     ·refine rk 16 ?_
      refine rf [(0,.sl t.length (fl t)),(1,.sl pipes.length (fl pipes)),(2,iS i),(3,iS k),(12,.own 3 0 r11353.2.length),(14,bS r11355.1),(15,.ptr 5 0),(16,.ptr 6 0),(87,bS true)] [(2,.row 26 (Enc.cells r11351)),(3,.row 23 (fl r11353.2)),(4,.row 26 (Enc.cells r11353.1)),(5,.row 26 (Enc.cells r11355.2)),(6,.row 26 (Enc.cells r11357))] 7 (by kernel_rfl) ?_
      exact hK11372 (r11355.1,true,r11353.2,r11355.2,r11357) _ _ _ h (leSt_m [(0,3),(1,5),(2,6)] [] (by (try simp only [g11373]) <;> simp only [bitvec_to_nat,push_cast,seval]) (by (try simp only [g11373]) <;> simp only [bitvec_to_nat,push_cast,seval]) rfl rfl rfl)
     ·refine rk 5 ?_
      refine run_br h 76 (.inl (by kernel_rfl)) (fun g11374 h=>?_) (fun g11374 h=>?_)
      ·refine rk 11 ?_
       refine rf [(0,.sl t.length (fl t)),(1,.sl pipes.length (fl pipes)),(2,iS i),(3,iS k),(12,.own 3 0 r11353.2.length),(14,bS r11355.1),(15,.ptr 5 0),(16,.ptr 6 0),(87,bS true)] [(2,.row 26 (Enc.cells r11351)),(3,.row 23 (fl r11353.2)),(4,.row 26 (Enc.cells r11353.1)),(5,.row 26 (Enc.cells r11355.2)),(6,.row 26 (Enc.cells r11357))] 7 (by kernel_rfl) ?_
       exact hK11372 (r11355.1,true,r11353.2,r11355.2,r11357) _ _ _ h (leSt_m [(0,3),(1,5),(2,6)] [] (by first | ((try simp only [g11373,g11374]) <;> simp only [bitvec_to_nat,push_cast,seval]; done) | ((try simp only [g11373]); (try simp only [g11374]); simp only [bitvec_to_nat,push_cast,seval]; done) | (exfalso; clear h; simp_all; done)) (by first | ((try simp only [g11373,g11374]) <;> simp only [bitvec_to_nat,push_cast,seval]; done) | ((try simp only [g11373]); (try simp only [g11374]); simp only [bitvec_to_nat,push_cast,seval]; done) | (exfalso; clear h; simp_all; done)) rfl rfl rfl)
      ·refine rk 2 ?_
       obtain ⟨r11375,hr11375,h⟩:=bind_sx h
       refine run_call 17 [.sl r11348.length (fl r11348),.sl t.length (fl t)] (some 79) (by kernel_rfl) ?_
       refine call_0 (taskmillref_SameTrace_spec r11348 t r11375 hr11375) (by simp only [bitvec_to_nat,push_cast,seval]) (by simp only [bitvec_to_nat,push_cast,seval]) ?_
       refine back_f ?_
       refine rn 12 [(0,.sl t.length (fl t)),(1,.sl pipes.length (fl pipes)),(2,iS i),(3,iS k),(10,.sl r11349.length (fl r11349)),(12,.own 3 0 r11353.2.length),(14,bS r11355.1),(15,.ptr 5 0),(16,.ptr 6 0),(76,bS false),(79,bS r11375)] [(2,.row 26 (Enc.cells r11351)),(3,.row 23 (fl r11353.2)),(4,.row 26 (Enc.cells r11353.1)),(5,.row 26 (Enc.cells r11355.2)),(6,.row 26 (Enc.cells r11357))] 7 (by kernel_rfl) ?_
       refine rk 3 ?_
       refine run_br h 82 (.inl (by kernel_rfl)) (fun g11376 h=>?_) (fun g11376 h=>?_)
       ·refine rk 5 ?_
        refine rf [(0,.sl t.length (fl t)),(1,.sl pipes.length (fl pipes)),(2,iS i),(3,iS k),(12,.own 3 0 r11353.2.length),(14,bS r11355.1),(15,.ptr 5 0),(16,.ptr 6 0),(87,bS true)] [(2,.row 26 (Enc.cells r11351)),(3,.row 23 (fl r11353.2)),(4,.row 26 (Enc.cells r11353.1)),(5,.row 26 (Enc.cells r11355.2)),(6,.row 26 (Enc.cells r11357))] 7 (by kernel_rfl) ?_
        exact hK11372 (r11355.1,true,r11353.2,r11355.2,r11357) _ _ _ h (leSt_m [(0,3),(1,5),(2,6)] [] (by first | ((try simp only [g11373,g11374,g11376]) <;> simp only [bitvec_to_nat,push_cast,seval]; done) | ((try simp only [g11373]); (try simp only [g11374]); (try simp only [g11376]); simp only [bitvec_to_nat,push_cast,seval]; done) | (exfalso; clear h; simp_all; done)) (by first | ((try simp only [g11373,g11374,g11376]) <;> simp only [bitvec_to_nat,push_cast,seval]; done) | ((try simp only [g11373]); (try simp only [g11374]); (try simp only [g11376]); simp only [bitvec_to_nat,push_cast,seval]; done) | (exfalso; clear h; simp_all; done)) rfl rfl rfl)
       ·refine rk 2 ?_
        obtain ⟨r11377,hr11377,h⟩:=bind_sx h
        refine run_call 18 [.sl r11349.length (fl r11349),.sl pipes.length (fl pipes)] (some 85) (by kernel_rfl) ?_
        refine call_0 (taskmillref_Ints_spec r11349 pipes r11377 hr11377) (by simp only [bitvec_to_nat,push_cast,seval]) (by simp only [bitvec_to_nat,push_cast,seval]) ?_
        refine back_f ?_
        refine rk 2 ?_
        refine rf [(0,.sl t.length (fl t)),(1,.sl pipes.length (fl pipes)),(2,iS i),(3,iS k),(12,.own 3 0 r11353.2.length),(14,bS r11355.1),(15,.ptr 5 0),(16,.ptr 6 0),(87,bS (!r11377))] [(2,.row 26 (Enc.cells r11351)),(3,.row 23 (fl r11353.2)),(4,.row 26 (Enc.cells r11353.1)),(5,.row 26 (Enc.cells r11355.2)),(6,.row 26 (Enc.cells r11357))] 7 (by kernel_rfl) ?_
        exact hK11372 (r11355.1,(!r11377),r11353.2,r11355.2,r11357) _ _ _ h (leSt_m [(0,3),(1,5),(2,6)] [] (by first | ((try simp only [g11373,g11374,g11376]) <;> simp only [bitvec_to_nat,push_cast,seval]; done) | ((try simp only [g11373]); (try simp only [g11374]); (try simp only [g11376]); simp only [bitvec_to_nat,push_cast,seval]; done) | (exfalso; clear h; simp_all; done)) (by first | ((try simp only [g11373,g11374,g11376]) <;> simp only [bitvec_to_nat,push_cast,seval]; done) | ((try simp only [g11373]); (try simp only [g11374]); (try simp only [g11376]); simp only [bitvec_to_nat,push_cast,seval]; done) | (exfalso; clear h; simp_all; done)) rfl rfl rfl)
    ·rintro ⟨xis2,t87q2,c0q2,c1q2,c2q15⟩ h
     try dsimp only at h ⊢
     unfold taskmilllaw_OrderClocks_j5 at h
     refine cond_sx h (by kernel_rfl) (fun g12249 h=>?_) (fun g12249 h=>?_)
     ·refine seq_np ?_
      refine reg_f ?_
      refine rk 1 ?_
      refine rf [(8,bS false)] [(0,.row 23 (fl c0q2)),(1,.row 26 (Enc.cells c1q2)),(2,.row 26 (Enc.cells c2q15))] 3 (by kernel_rfl) ?_
      refine wk_id ?_
      obtain rfl:=Option.some.inj h
      refine ret_at (bS false) (by kernel_rfl) ?_
      exact ret_e [] [] (by simp only [bitvec_to_nat,push_cast,seval]) (by simp only [bitvec_to_nat,push_cast,seval]) rfl rfl rfl
     ·refine wk_id ?_
      refine seq_np ?_
      refine reg_f ?_
      refine rk 3 ?_
      refine rf [(0,.sl t.length (fl t)),(1,.sl pipes.length (fl pipes)),(2,iS i),(3,iS k),(12,.own 0 0 c0q2.length),(14,bS xis2),(15,.ptr 1 0),(16,.ptr 2 0),(17,.ptr 3 0)] [(0,.row 23 (fl c0q2)),(1,.row 26 (Enc.cells c1q2)),(2,.row 26 (Enc.cells c2q15)),(3,.row 26 (Enc.cells c2q15))] 4 (by kernel_rfl) ?_
      refine wk_id ?_
      refine seq_cut (A:=Fault) (fun a=>([(0,.sl t.length (fl t)),(1,.sl pipes.length (fl pipes)),(2,iS i),(3,iS k),(12,.own 0 0 c0q2.length),(14,bS xis2),(15,.ptr 1 0),(16,.ptr 2 0),(17,.ptr 3 0)],[(0,.row 23 (fl c0q2)),(1,.row 26 (Enc.cells c1q2)),(2,.row 26 (Enc.cells c2q15)),(3,.row 26 (Enc.cells a))],4)) (fun a=>(taskmilllaw_OrderClocks_j4 t pipes i k xis2 c0q2 c1q2 c2q15 a) = some r) (fun K11385 hK11385=>?_) ?_
      ·refine seq_cut (A:=Unit) (fun _=>([(0,.sl t.length (fl t)),(1,.sl pipes.length (fl pipes)),(2,iS i),(3,iS k),(12,.own 0 0 c0q2.length),(14,bS xis2),(15,.ptr 1 0),(16,.ptr 2 0),(17,.ptr 3 0),(111,bS ((c2q15.Code == 0) && ((decide (i < 0)) || ((decide ((t.length:Int)≤i)) || ((decide (k < 0)) || (decide ((t.length:Int)≤k)))))))],[(0,.row 23 (fl c0q2)),(1,.row 26 (Enc.cells c1q2)),(2,.row 26 (Enc.cells c2q15)),(3,.row 26 (Enc.cells c2q15))],4)) (fun _=>True) (fun K11390 hK11390=>?_) (fun _ _=>?_)
       ·refine reg_f ?_
        refine rk 4 ?_
        refine run_split 92 (c2q15.Code == 0) (.inl (by kernel_rfl)) (fun g11391=>?_) (fun g11391=>?_)
        ·refine rk 3 ?_
         refine run_split 95 (decide (i < 0)) (.inr (by kernel_rfl)) (fun g11392=>?_) (fun g11392=>?_)
         ·refine rk 16 ?_
          refine rf [(0,.sl t.length (fl t)),(1,.sl pipes.length (fl pipes)),(2,iS i),(3,iS k),(12,.own 0 0 c0q2.length),(14,bS xis2),(15,.ptr 1 0),(16,.ptr 2 0),(17,.ptr 3 0),(111,bS true)] [(0,.row 23 (fl c0q2)),(1,.row 26 (Enc.cells c1q2)),(2,.row 26 (Enc.cells c2q15)),(3,.row 26 (Enc.cells c2q15))] 4 (by kernel_rfl) ?_
          exact hK11390 () _ _ _ trivial (leSt_m [(0,0),(1,1),(2,2),(3,3)] [] (by first | ((try simp only [g11391,g11392]) <;> simp only [bitvec_to_nat,push_cast,seval]; done) | ((try simp only [g11391]); (try simp only [g11392]); simp only [bitvec_to_nat,push_cast,seval]; done) | (exfalso; clear h; simp_all; done)) (by first | ((try simp only [g11391,g11392]) <;> simp only [bitvec_to_nat,push_cast,seval]; done) | ((try simp only [g11391]); (try simp only [g11392]); simp only [bitvec_to_nat,push_cast,seval]; done) | (exfalso; clear h; simp_all; done)) rfl rfl rfl)
         ·refine rk 6 ?_
          refine run_split 101 (decide ((t.length:Int)≤i)) (.inr (by kernel_rfl)) (fun g11393=>?_) (fun g11393=>?_)
          ·refine rn 13 [(0,.sl t.length (fl t)),(1,.sl pipes.length (fl pipes)),(2,iS i),(3,iS k),(12,.own 0 0 c0q2.length),(14,bS xis2),(15,.ptr 1 0),(16,.ptr 2 0),(17,.ptr 3 0),(92,bS true),(101,.gd true (bS true))] [(0,.row 23 (fl c0q2)),(1,.row 26 (Enc.cells c1q2)),(2,.row 26 (Enc.cells c2q15)),(3,.row 26 (Enc.cells c2q15))] 4 (by kernel_rfl) ?_
           refine rk 10 ?_
           refine rf [(0,.sl t.length (fl t)),(1,.sl pipes.length (fl pipes)),(2,iS i),(3,iS k),(12,.own 0 0 c0q2.length),(14,bS xis2),(15,.ptr 1 0),(16,.ptr 2 0),(17,.ptr 3 0),(111,bS true)] [(0,.row 23 (fl c0q2)),(1,.row 26 (Enc.cells c1q2)),(2,.row 26 (Enc.cells c2q15)),(3,.row 26 (Enc.cells c2q15))] 4 (by kernel_rfl) ?_
           exact hK11390 () _ _ _ trivial (leSt_m [(0,0),(1,1),(2,2),(3,3)] [] (by first | ((try simp only [g11391,g11392,g11393]) <;> simp only [bitvec_to_nat,push_cast,seval]; done) | ((try simp only [g11391]); (try simp only [g11392]); (try simp only [g11393]); simp only [bitvec_to_nat,push_cast,seval]; done) | (exfalso; clear h; simp_all; done)) (by first | ((try simp only [g11391,g11392,g11393]) <;> simp only [bitvec_to_nat,push_cast,seval]; done) | ((try simp only [g11391]); (try simp only [g11392]); (try simp only [g11393]); simp only [bitvec_to_nat,push_cast,seval]; done) | (exfalso; clear h; simp_all; done)) rfl rfl rfl)
          ·refine rn 13 [(0,.sl t.length (fl t)),(1,.sl pipes.length (fl pipes)),(2,iS i),(3,iS k),(12,.own 0 0 c0q2.length),(14,bS xis2),(15,.ptr 1 0),(16,.ptr 2 0),(17,.ptr 3 0),(92,bS true),(101,.gd true (bS false))] [(0,.row 23 (fl c0q2)),(1,.row 26 (Enc.cells c1q2)),(2,.row 26 (Enc.cells c2q15)),(3,.row 26 (Enc.cells c2q15))] 4 (by kernel_rfl) ?_
           refine rk 4 ?_
           refine run_split 105 (decide (k < 0)) (.inr (by kernel_rfl)) (fun g11394=>?_) (fun g11394=>?_)
           ·refine rk 6 ?_
            refine rf [(0,.sl t.length (fl t)),(1,.sl pipes.length (fl pipes)),(2,iS i),(3,iS k),(12,.own 0 0 c0q2.length),(14,bS xis2),(15,.ptr 1 0),(16,.ptr 2 0),(17,.ptr 3 0),(111,bS true)] [(0,.row 23 (fl c0q2)),(1,.row 26 (Enc.cells c1q2)),(2,.row 26 (Enc.cells c2q15)),(3,.row 26 (Enc.cells c2q15))] 4 (by kernel_rfl) ?_
            exact hK11390 () _ _ _ trivial (leSt_m [(0,0),(1,1),(2,2),(3,3)] [] (by first | ((try simp only [g11391,g11392,g11393,g11394]) <;> simp only [bitvec_to_nat,push_cast,seval]; done) | ((try simp only [g11391]); (try simp only [g11392]); (try simp only [g11393]); (try simp only [g11394]); simp only [bitvec_to_nat,push_cast,seval]; done) | (exfalso; clear h; simp_all; done)) (by first | ((try simp only [g11391,g11392,g11393,g11394]) <;> simp only [bitvec_to_nat,push_cast,seval]; done) | ((try simp only [g11391]); (try simp only [g11392]); (try simp only [g11393]); (try simp only [g11394]); simp only [bitvec_to_nat,push_cast,seval]; done) | (exfalso; clear h; simp_all; done)) rfl rfl rfl)
           ·refine rk 6 ?_
            refine rf [(0,.sl t.length (fl t)),(1,.sl pipes.length (fl pipes)),(2,iS i),(3,iS k),(12,.own 0 0 c0q2.length),(14,bS xis2),(15,.ptr 1 0),(16,.ptr 2 0),(17,.ptr 3 0),(111,bS (decide ((t.length:Int)≤k)))] [(0,.row 23 (fl c0q2)),(1,.row 26 (Enc.cells c1q2)),(2,.row 26 (Enc.cells c2q15)),(3,.row 26 (Enc.cells c2q15))] 4 (by kernel_rfl) ?_
            exact hK11390 () _ _ _ trivial (leSt_m [(0,0),(1,1),(2,2),(3,3)] [] (by first | ((try simp only [g11391,g11392,g11393,g11394]) <;> simp only [bitvec_to_nat,push_cast,seval]; done) | ((try simp only [g11391]); (try simp only [g11392]); (try simp only [g11393]); (try simp only [g11394]); simp only [bitvec_to_nat,push_cast,seval]; done) | (exfalso; clear h; simp_all; done)) (by first | ((try simp only [g11391,g11392,g11393,g11394]) <;> simp only [bitvec_to_nat,push_cast,seval]; done) | ((try simp only [g11391]); (try simp only [g11392]); (try simp only [g11393]); (try simp only [g11394]); simp only [bitvec_to_nat,push_cast,seval]; done) | (exfalso; clear h; simp_all; done)) rfl rfl rfl)
        ·refine rk 19 ?_
         refine rf [(0,.sl t.length (fl t)),(1,.sl pipes.length (fl pipes)),(2,iS i),(3,iS k),(12,.own 0 0 c0q2.length),(14,bS xis2),(15,.ptr 1 0),(16,.ptr 2 0),(17,.ptr 3 0),(111,bS false)] [(0,.row 23 (fl c0q2)),(1,.row 26 (Enc.cells c1q2)),(2,.row 26 (Enc.cells c2q15)),(3,.row 26 (Enc.cells c2q15))] 4 (by kernel_rfl) ?_
         exact hK11390 () _ _ _ trivial (leSt_m [(0,0),(1,1),(2,2),(3,3)] [] (by (try simp only [g11391]) <;> simp only [bitvec_to_nat,push_cast,seval]) (by (try simp only [g11391]) <;> simp only [bitvec_to_nat,push_cast,seval]) rfl rfl rfl)
       ·dsimp only
        refine cond_sx h (by kernel_rfl) (fun g11397 h=>?_) (fun g11397 h=>?_)
        ·refine reg_f ?_
         obtain ⟨r11396,hr11396,h⟩:=bind_sx h
         refine run_call 19 [iS 3,iS (-1)] (some 112) (by kernel_rfl) ?_
         refine call_0 (taskmillref_F_spec 3 (-1) r11396 hr11396) (by simp only [bitvec_to_nat,push_cast,seval]) (by simp only [bitvec_to_nat,push_cast,seval]) ?_
         refine back_f ?_
         refine rk 1 ?_
         refine rf [(0,.sl t.length (fl t)),(1,.sl pipes.length (fl pipes)),(2,iS i),(3,iS k),(12,.own 0 0 c0q2.length),(14,bS xis2),(15,.ptr 1 0),(16,.ptr 2 0),(17,.ptr 3 0)] [(0,.row 23 (fl c0q2)),(1,.row 26 (Enc.cells c1q2)),(2,.row 26 (Enc.cells c2q15)),(3,.row 26 (Enc.cells r11396))] 4 (by kernel_rfl) ?_
         exact hK11385 (r11396) _ _ _ h (leSt_m [(0,0),(1,1),(2,2),(3,3)] [] (by simp only [bitvec_to_nat,push_cast,seval]) (by simp only [bitvec_to_nat,push_cast,seval]) rfl rfl rfl)
        ·exact hK11385 (c2q15) _ _ _ h (leSt_m [(0,0),(1,1),(2,2),(3,3)] [] (by simp only [bitvec_to_nat,push_cast,seval]) (by simp only [bitvec_to_nat,push_cast,seval]) rfl rfl rfl)
      ·rintro c3q1 h
       try dsimp only at h ⊢
       unfold taskmilllaw_OrderClocks_j4 at h
       refine seq_np ?_
       refine seq_cut (A:=Unit) (fun _=>([(0,.sl t.length (fl t)),(1,.sl pipes.length (fl pipes)),(2,iS i),(3,iS k),(12,.own 0 0 c0q2.length),(14,bS xis2),(16,.ptr 2 0),(17,.ptr 3 0),(123,bS ((!((c1q2.Code == c3q1.Code) && ((c1q2.At == c3q1.At) && true))) || ((c3q1.Code != 0) && xis2)))],[(0,.row 23 (fl c0q2)),(1,.row 26 (Enc.cells c1q2)),(2,.row 26 (Enc.cells c2q15)),(3,.row 26 (Enc.cells c3q1))],4)) (fun _=>True) (fun K11403 hK11403=>?_) (fun _ _=>?_)
       ·refine reg_f ?_
        refine rk 4 ?_
        refine run_split 116 (!((c1q2.Code == c3q1.Code) && ((c1q2.At == c3q1.At) && true))) (.inl (by kernel_rfl)) (fun g11404=>?_) (fun g11404=>?_)
        ·refine rk 7 ?_
         refine rf [(0,.sl t.length (fl t)),(1,.sl pipes.length (fl pipes)),(2,iS i),(3,iS k),(12,.own 0 0 c0q2.length),(14,bS xis2),(16,.ptr 2 0),(17,.ptr 3 0),(123,bS true)] [(0,.row 23 (fl c0q2)),(1,.row 26 (Enc.cells c1q2)),(2,.row 26 (Enc.cells c2q15)),(3,.row 26 (Enc.cells c3q1))] 4 (by kernel_rfl) ?_
         exact hK11403 () _ _ _ trivial (leSt_m [(0,0),(1,1),(2,2),(3,3)] [] (by (try simp only [g11404]) <;> simp only [bitvec_to_nat,push_cast,seval]) (by (try simp only [g11404]) <;> simp only [bitvec_to_nat,push_cast,seval]) rfl rfl rfl)
        ·refine rk 4 ?_
         refine run_split 120 (c3q1.Code != 0) (.inr (by kernel_rfl)) (fun g11405=>?_) (fun g11405=>?_)
         ·refine rk 3 ?_
          refine rf [(0,.sl t.length (fl t)),(1,.sl pipes.length (fl pipes)),(2,iS i),(3,iS k),(12,.own 0 0 c0q2.length),(14,bS xis2),(16,.ptr 2 0),(17,.ptr 3 0),(123,bS xis2)] [(0,.row 23 (fl c0q2)),(1,.row 26 (Enc.cells c1q2)),(2,.row 26 (Enc.cells c2q15)),(3,.row 26 (Enc.cells c3q1))] 4 (by kernel_rfl) ?_
          exact hK11403 () _ _ _ trivial (leSt_m [(0,0),(1,1),(2,2),(3,3)] [] (by first | ((try simp only [g11404,g11405]) <;> simp only [bitvec_to_nat,push_cast,seval]; done) | ((try simp only [g11404]); (try simp only [g11405]); simp only [bitvec_to_nat,push_cast,seval]; done) | (exfalso; clear h; simp_all; done)) (by first | ((try simp only [g11404,g11405]) <;> simp only [bitvec_to_nat,push_cast,seval]; done) | ((try simp only [g11404]); (try simp only [g11405]); simp only [bitvec_to_nat,push_cast,seval]; done) | (exfalso; clear h; simp_all; done)) rfl rfl rfl)
         ·refine rk 3 ?_
          refine rf [(0,.sl t.length (fl t)),(1,.sl pipes.length (fl pipes)),(2,iS i),(3,iS k),(12,.own 0 0 c0q2.length),(14,bS xis2),(16,.ptr 2 0),(17,.ptr 3 0),(123,bS false)] [(0,.row 23 (fl c0q2)),(1,.row 26 (Enc.cells c1q2)),(2,.row 26 (Enc.cells c2q15)),(3,.row 26 (Enc.cells c3q1))] 4 (by kernel_rfl) ?_
          exact hK11403 () _ _ _ trivial (leSt_m [(0,0),(1,1),(2,2),(3,3)] [] (by first | ((try simp only [g11404,g11405]) <;> simp only [bitvec_to_nat,push_cast,seval]; done) | ((try simp only [g11404]); (try simp only [g11405]); simp only [bitvec_to_nat,push_cast,seval]; done) | (exfalso; clear h; simp_all; done)) (by first | ((try simp only [g11404,g11405]) <;> simp only [bitvec_to_nat,push_cast,seval]; done) | ((try simp only [g11404]); (try simp only [g11405]); simp only [bitvec_to_nat,push_cast,seval]; done) | (exfalso; clear h; simp_all; done)) rfl rfl rfl)
       ·dsimp only
        refine cond_sx h (by kernel_rfl) (fun g12248 h=>?_) (fun g12248 h=>?_)
        ·refine seq_np ?_
         refine reg_f ?_
         refine rk 1 ?_
         refine rf [(8,bS false)] [(0,.row 23 (fl c0q2)),(1,.row 26 (Enc.cells c1q2)),(2,.row 26 (Enc.cells c2q15)),(3,.row 26 (Enc.cells c3q1))] 4 (by kernel_rfl) ?_
         refine wk_id ?_
         obtain rfl:=Option.some.inj h
         refine ret_at (bS false) (by kernel_rfl) ?_
         exact ret_e [] [] (by simp only [bitvec_to_nat,push_cast,seval]) (by simp only [bitvec_to_nat,push_cast,seval]) rfl rfl rfl
        ·refine wk_id ?_
         refine seq_np ?_
         refine seq_np ?_
         refine reg_f ?_
         refine rk 3 ?_
         refine rf [(0,.sl t.length (fl t)),(1,.sl pipes.length (fl pipes)),(2,iS i),(3,iS k),(12,.own 0 0 c0q2.length),(14,bS xis2),(17,.ptr 3 0),(126,bS (c2q15.Code != 0))] [(0,.row 23 (fl c0q2)),(1,.row 26 (Enc.cells c1q2)),(2,.row 26 (Enc.cells c2q15)),(3,.row 26 (Enc.cells c3q1))] 4 (by kernel_rfl) ?_
         refine wk_id ?_
         refine cond_sx h (by kernel_rfl) (fun g12247 h=>?_) (fun g12247 h=>?_)
         ·refine seq_np ?_
          refine reg_f ?_
          refine rk 4 ?_
          refine rf [(8,bS ((c0q2.length:Int) == 0))] [(0,.row 23 (fl c0q2)),(1,.row 26 (Enc.cells c1q2)),(2,.row 26 (Enc.cells c2q15)),(3,.row 26 (Enc.cells c3q1))] 4 (by kernel_rfl) ?_
          refine wk_id ?_
          obtain rfl:=Option.some.inj h
          refine ret_at (bS ((c0q2.length:Int) == 0)) (by kernel_rfl) ?_
          exact ret_e [] [] (by simp only [bitvec_to_nat,push_cast,seval]) (by simp only [bitvec_to_nat,push_cast,seval]) rfl rfl rfl
         ·refine wk_id ?_
          refine seq_np ?_
          refine seq_np ?_
          refine reg_f ?_
          refine rk 3 ?_
          refine rf [(0,.sl t.length (fl t)),(1,.sl pipes.length (fl pipes)),(2,iS i),(3,iS k),(12,.own 0 0 c0q2.length),(14,bS xis2),(17,.ptr 3 0),(132,bS (decide ((300:Int) < (t.length:Int))))] [(0,.row 23 (fl c0q2)),(1,.row 26 (Enc.cells c1q2)),(2,.row 26 (Enc.cells c2q15)),(3,.row 26 (Enc.cells c3q1))] 4 (by kernel_rfl) ?_
          refine wk_id ?_
          refine cond_sx h (by kernel_rfl) (fun g12246 h=>?_) (fun g12246 h=>?_)
          ·refine seq_np ?_
           refine reg_f ?_
           refine rk 6 ?_
           refine rf [(8,bS ((c0q2.length:Int) == (t.length:Int)))] [(0,.row 23 (fl c0q2)),(1,.row 26 (Enc.cells c1q2)),(2,.row 26 (Enc.cells c2q15)),(3,.row 26 (Enc.cells c3q1))] 4 (by kernel_rfl) ?_
           refine wk_id ?_
           obtain rfl:=Option.some.inj h
           refine ret_at (bS ((c0q2.length:Int) == (t.length:Int))) (by kernel_rfl) ?_
           exact ret_e [] [] (by simp only [bitvec_to_nat,push_cast,seval]) (by simp only [bitvec_to_nat,push_cast,seval]) rfl rfl rfl
          ·refine wk_id ?_
           refine seq_np ?_
           refine reg_f ?_
           refine rk 2 ?_
           obtain ⟨r11409,hr11409,h⟩:=bind_sx h
           refine call_x (taskmillref_Reach_spec t pipes r11409 hr11409) (args:=[.sl t.length (fl t),.sl pipes.length (fl pipes)]) (dst:=(some 140)) (by kernel_rfl) [(0,.row 23 (fl c0q2)),(1,.row 26 (Enc.cells c1q2)),(2,.row 26 (Enc.cells c2q15)),(3,.row 26 (Enc.cells c3q1))] 4 (by kernel_rfl) [] [] (.own 4 0 r11409.length) [(4,.row 43 (flD dLListBool [5] r11409)),((.s 5 0),.fam (famD dLListBool 0 r11409))] (by simp only [bitvec_to_nat,push_cast,seval]) (by simp only [bitvec_to_nat,push_cast,seval]) (by kernel_rfl) (.inl rfl) (by first | (simp only [bitvec_to_nat,push_cast,seval]; done) | (simp only [bitvec_to_nat,push_cast,seval]; kernel_rfl) | kernel_rfl) (by first | (simp only [bitvec_to_nat,push_cast,seval]; done) | (simp only [bitvec_to_nat,push_cast,seval]; kernel_rfl) | kernel_rfl) ?_
           refine rk 1 ?_
           refine rf [(0,.sl t.length (fl t)),(2,iS i),(3,iS k),(12,.own 0 0 c0q2.length),(14,bS xis2),(17,.ptr 3 0),(18,.own 4 0 r11409.length)] [(0,.row 23 (fl c0q2)),(1,.row 26 (Enc.cells c1q2)),(2,.row 26 (Enc.cells c2q15)),(3,.row 26 (Enc.cells c3q1)),(4,.row 43 (flD dLListBool [5] r11409)),((.s 5 0),.fam (famD dLListBool 0 r11409))] 6 (by kernel_rfl) ?_
           refine wk_id ?_
           refine seq_np ?_
           refine reg_f ?_
           refine rk 1 ?_
           refine rf [(0,.sl t.length (fl t)),(2,iS i),(3,iS k),(12,.own 0 0 c0q2.length),(14,bS xis2),(17,.ptr 3 0),(18,.own 4 0 r11409.length),(19,iS 0)] [(0,.row 23 (fl c0q2)),(1,.row 26 (Enc.cells c1q2)),(2,.row 26 (Enc.cells c2q15)),(3,.row 26 (Enc.cells c3q1)),(4,.row 43 (flD dLListBool [5] r11409)),((.s 5 0),.fam (famD dLListBool 0 r11409))] 6 (by kernel_rfl) ?_
           refine wk_id ?_
           refine seq_np ?_
           refine seq_np ?_
           refine reg_f ?_
           refine rk 1 ?_
           refine rf [(0,.sl t.length (fl t)),(2,iS i),(3,iS k),(12,.own 0 0 c0q2.length),(14,bS xis2),(17,.ptr 3 0),(18,.own 4 0 r11409.length),(19,iS 0),(20,iS 0)] [(0,.row 23 (fl c0q2)),(1,.row 26 (Enc.cells c1q2)),(2,.row 26 (Enc.cells c2q15)),(3,.row 26 (Enc.cells c3q1)),(4,.row 43 (flD dLListBool [5] r11409)),((.s 5 0),.fam (famD dLListBool 0 r11409))] 6 (by kernel_rfl) ?_
           refine wk_id ?_
           refine block_np ?_
           refine loop_sx (S:=Int×Int×(List (List Bool))) (fun a=>([(0,.sl t.length (fl t)),(2,iS i),(3,iS k),(12,.own 0 0 c0q2.length),(14,bS xis2),(17,.ptr 1 0),(18,.own 2 0 a.2.2.length),(19,iS a.1),(20,iS a.2.1)],[(0,.row 23 (fl c0q2)),(1,.row 26 (Enc.cells c3q1)),(2,.row 43 (flD dLListBool [3] a.2.2)),((.s 3 0),.fam (famD dLListBool 0 a.2.2))],4)) h (leSt_m [(0,0),(1,3),(2,4),((.s 3 0),(.s 5 0))] [] (by simp only [bitvec_to_nat,push_cast,seval]) (by simp only [bitvec_to_nat,push_cast,seval]) rfl rfl rfl) ?_
           rintro ⟨most29,xa9,c2q24⟩ o4 R4 h hr4 hn4 hx4 ht4
           try dsimp only at h hn4 ⊢
           unfold taskmilllaw_OrderClocks_l3 at h
           try dsimp only at h
           refine seq_np ?_
           refine seq_np ?_
           refine reg_f ?_
           refine rk 4 ?_
           refine rf [(0,.sl t.length (fl t)),(2,iS i),(3,iS k),(12,.own 0 0 c0q2.length),(14,bS xis2),(17,.ptr 1 0),(18,.own 2 0 c2q24.length),(19,iS most29),(20,iS xa9),(144,bS (decide (xa9 < (t.length:Int))))] [(0,.row 23 (fl c0q2)),(1,.row 26 (Enc.cells c3q1)),(2,.row 43 (flD dLListBool [3] c2q24)),((.s 3 0),.fam (famD dLListBool 0 c2q24))] 4 (by kernel_rfl) ?_
           refine wk_id ?_
           refine cond_sx h (by kernel_rfl) (fun g12245 h=>?_) (fun g12245 h=>?_)
           ·refine wk_id ?_
            refine seq_np ?_
            refine block_cut (A:=Int) (fun a=>([(0,.sl t.length (fl t)),(2,iS i),(3,iS k),(12,.own 0 0 c0q2.length),(14,bS xis2),(17,.ptr 1 0),(18,.own 2 0 c2q24.length),(19,iS a),(20,iS xa9)],[(0,.row 23 (fl c0q2)),(1,.row 26 (Enc.cells c3q1)),(2,.row 43 (flD dLListBool [3] c2q24)),((.s 3 0),.fam (famD dLListBool 0 c2q24))],4)) (fun a=>(taskmilllaw_OrderClocks_j1 t i k xis2 c0q2 c3q1 xa9 c2q24 a) = some o4) (fun K11591 hK11591=>?_) ?_
            ·refine seq_cut (A:=Int) (fun a=>([(0,.sl t.length (fl t)),(2,iS i),(3,iS k),(12,.own 0 0 c0q2.length),(14,bS xis2),(17,.ptr 1 0),(18,.own 2 0 c2q24.length),(19,iS a),(20,iS xa9)],[(0,.row 23 (fl c0q2)),(1,.row 26 (Enc.cells c3q1)),(2,.row 43 (flD dLListBool [3] c2q24)),((.s 3 0),.fam (famD dLListBool 0 c2q24))],4)) (fun a=>(taskmilllaw_OrderClocks_j2 t i k xis2 c0q2 c3q1 xa9 c2q24 a) = some o4) (fun K11598 hK11598=>?_) ?_
             ·refine chk_sx h (fun g11602 h=>?_)
              refine seq_np ?_
              refine reg_f ?_
              have k11601:0≤xa9∧xa9 < (t.length:Int):=by first | simpa only [Bool.and_eq_true,decide_eq_true_eq,bne_iff_ne,ne_eq] using g11602 | (simp at g11602 ⊢; omega)
              refine rs 7 [none,none,some ⟨.iptr (fl t) ((xa9).toNat * 4),[],4,[]⟩,none,some ⟨iS (ix t xa9).Task,[],4,[]⟩] _ (by kernel_rfl) (allP_cons (ob_ld t xa9 4 0 (((xa9).toNat * 4)+0) k11601 rfl (by decide) (by first | rfl | omega) (dflS Try.prog 3) (iS (ix t xa9).Task) rfl 4 []) (allP_cons (ob_ix_l t 4 4 xa9 k11601) allP_nil)) ?_
              refine rf [(0,.sl t.length (fl t)),(2,iS i),(3,iS k),(12,.own 0 0 c0q2.length),(14,bS xis2),(17,.ptr 1 0),(18,.own 2 0 c2q24.length),(19,iS most29),(20,iS xa9),(153,bS (decide (most29 < (ix t xa9).Task)))] [(0,.row 23 (fl c0q2)),(1,.row 26 (Enc.cells c3q1)),(2,.row 43 (flD dLListBool [3] c2q24)),((.s 3 0),.fam (famD dLListBool 0 c2q24))] 4 (by kernel_rfl) ?_
              refine wk_id ?_
              refine cond_sx h (by kernel_rfl) (fun g11607 h=>?_) (fun g11607 h=>?_)
              ·refine chk_sx h (fun g11606 h=>?_)
               refine reg_f ?_
               have k11605:0≤xa9∧xa9 < (t.length:Int):=by first | simpa only [Bool.and_eq_true,decide_eq_true_eq,bne_iff_ne,ne_eq] using g11606 | (simp at g11606 ⊢; omega)
               refine rs 6 [none,none,some ⟨.iptr (fl t) ((xa9).toNat * 4),[],4,[]⟩,none,some ⟨iS (ix t xa9).Task,[],4,[]⟩] _ (by kernel_rfl) (allP_cons (ob_ld t xa9 4 0 (((xa9).toNat * 4)+0) k11605 rfl (by decide) (by first | rfl | omega) (dflS Try.prog 3) (iS (ix t xa9).Task) rfl 4 []) (allP_cons (ob_ix_l t 4 4 xa9 k11605) allP_nil)) ?_
               refine rf [(0,.sl t.length (fl t)),(2,iS i),(3,iS k),(12,.own 0 0 c0q2.length),(14,bS xis2),(17,.ptr 1 0),(18,.own 2 0 c2q24.length),(19,iS (ix t xa9).Task),(20,iS xa9)] [(0,.row 23 (fl c0q2)),(1,.row 26 (Enc.cells c3q1)),(2,.row 43 (flD dLListBool [3] c2q24)),((.s 3 0),.fam (famD dLListBool 0 c2q24))] 4 (by kernel_rfl) ?_
               exact hK11598 ((ix t xa9).Task) _ _ _ h (leSt_m [(0,0),(1,1),(2,2),((.s 3 0),(.s 3 0))] [] (by simp only [bitvec_to_nat,push_cast,seval]) (by simp only [bitvec_to_nat,push_cast,seval]) rfl rfl rfl)
              ·exact hK11598 (most29) _ _ _ h (leSt_m [(0,0),(1,1),(2,2),((.s 3 0),(.s 3 0))] [] (by simp only [bitvec_to_nat,push_cast,seval]) (by simp only [bitvec_to_nat,push_cast,seval]) rfl rfl rfl)
             ·rintro most34 h
              try dsimp only at h ⊢
              unfold taskmilllaw_OrderClocks_j2 at h
              refine chk_sx h (fun g11615 h=>?_)
              refine chk_sx h (fun g11618 h=>?_)
              refine seq_cut (A:=Unit) (fun _=>([(0,.sl t.length (fl t)),(2,iS i),(3,iS k),(12,.own 0 0 c0q2.length),(14,bS xis2),(17,.ptr 1 0),(18,.own 2 0 c2q24.length),(19,iS most34),(20,iS xa9),(173,bS (((ix t xa9).Op == 11) && (decide (most34 < (ix t xa9).Value))))],[(0,.row 23 (fl c0q2)),(1,.row 26 (Enc.cells c3q1)),(2,.row 43 (flD dLListBool [3] c2q24)),((.s 3 0),.fam (famD dLListBool 0 c2q24))],4)) (fun _=>True) (fun K11613 hK11613=>?_) (fun _ _=>?_)
              ·refine reg_f ?_
               have k11614:0≤xa9∧xa9 < (t.length:Int):=by first | simpa only [Bool.and_eq_true,decide_eq_true_eq,bne_iff_ne,ne_eq] using g11615 | (simp at g11615 ⊢; omega)
               refine rs 7 [none,none,some ⟨.iptr (fl t) ((xa9).toNat * 4),[],4,[]⟩,none,some ⟨iS (ix t xa9).Op,[],4,[]⟩] _ (by kernel_rfl) (allP_cons (ob_ld t xa9 4 1 (((xa9).toNat * 4)+1) k11614 rfl (by decide) (by first | rfl | omega) (dflS Try.prog 3) (iS (ix t xa9).Op) rfl 4 []) (allP_cons (ob_ix_l t 4 4 xa9 k11614) allP_nil)) ?_
               refine run_split 165 ((ix t xa9).Op == 11) (.inl (by kernel_rfl)) (fun g11616=>?_) (fun g11616=>?_)
               ·have k11617:0≤xa9∧xa9 < (t.length:Int):=by have e:=or_use g11618 (by first | ((try simp only [g11616]) <;> rfl) | ((try simp only [g11616]); rfl) | (exfalso; clear h; simp_all; done)); first | simpa only [Bool.and_eq_true,decide_eq_true_eq,bne_iff_ne,ne_eq] using e | (simp at e ⊢; omega)
                refine rs 8 [none,none,some ⟨.iptr (fl t) ((xa9).toNat * 4),[],4,[]⟩,none,some ⟨iS (ix t xa9).Value,[],4,[]⟩] _ (by kernel_rfl) (allP_cons (ob_ld t xa9 4 3 (((xa9).toNat * 4)+3) k11617 rfl (by decide) (by first | rfl | omega) (dflS Try.prog 3) (iS (ix t xa9).Value) rfl 4 []) (allP_cons (ob_ix_l t 4 4 xa9 k11617) allP_nil)) ?_
                refine rf [(0,.sl t.length (fl t)),(2,iS i),(3,iS k),(12,.own 0 0 c0q2.length),(14,bS xis2),(17,.ptr 1 0),(18,.own 2 0 c2q24.length),(19,iS most34),(20,iS xa9),(173,bS (decide (most34 < (ix t xa9).Value)))] [(0,.row 23 (fl c0q2)),(1,.row 26 (Enc.cells c3q1)),(2,.row 43 (flD dLListBool [3] c2q24)),((.s 3 0),.fam (famD dLListBool 0 c2q24))] 4 (by kernel_rfl) ?_
                exact hK11613 () _ _ _ trivial (leSt_m [(0,0),(1,1),(2,2),((.s 3 0),(.s 3 0))] [] (by (try simp only [g11616]) <;> simp only [bitvec_to_nat,push_cast,seval]) (by (try simp only [g11616]) <;> simp only [bitvec_to_nat,push_cast,seval]) rfl rfl rfl)
               ·refine rk 8 ?_
                refine rf [(0,.sl t.length (fl t)),(2,iS i),(3,iS k),(12,.own 0 0 c0q2.length),(14,bS xis2),(17,.ptr 1 0),(18,.own 2 0 c2q24.length),(19,iS most34),(20,iS xa9),(173,bS false)] [(0,.row 23 (fl c0q2)),(1,.row 26 (Enc.cells c3q1)),(2,.row 43 (flD dLListBool [3] c2q24)),((.s 3 0),.fam (famD dLListBool 0 c2q24))] 4 (by kernel_rfl) ?_
                exact hK11613 () _ _ _ trivial (leSt_m [(0,0),(1,1),(2,2),((.s 3 0),(.s 3 0))] [] (by (try simp only [g11616]) <;> simp only [bitvec_to_nat,push_cast,seval]) (by (try simp only [g11616]) <;> simp only [bitvec_to_nat,push_cast,seval]) rfl rfl rfl)
              ·dsimp only
               refine cond_sx h (by kernel_rfl) (fun g11623 h=>?_) (fun g11623 h=>?_)
               ·refine chk_sx h (fun g11622 h=>?_)
                refine reg_f ?_
                have k11621:0≤xa9∧xa9 < (t.length:Int):=by first | simpa only [Bool.and_eq_true,decide_eq_true_eq,bne_iff_ne,ne_eq] using g11622 | (simp at g11622 ⊢; omega)
                refine rs 6 [none,none,some ⟨.iptr (fl t) ((xa9).toNat * 4),[],4,[]⟩,none,some ⟨iS (ix t xa9).Value,[],4,[]⟩] _ (by kernel_rfl) (allP_cons (ob_ld t xa9 4 3 (((xa9).toNat * 4)+3) k11621 rfl (by decide) (by first | rfl | omega) (dflS Try.prog 3) (iS (ix t xa9).Value) rfl 4 []) (allP_cons (ob_ix_l t 4 4 xa9 k11621) allP_nil)) ?_
                refine rf [(0,.sl t.length (fl t)),(2,iS i),(3,iS k),(12,.own 0 0 c0q2.length),(14,bS xis2),(17,.ptr 1 0),(18,.own 2 0 c2q24.length),(19,iS (ix t xa9).Value),(20,iS xa9)] [(0,.row 23 (fl c0q2)),(1,.row 26 (Enc.cells c3q1)),(2,.row 43 (flD dLListBool [3] c2q24)),((.s 3 0),.fam (famD dLListBool 0 c2q24))] 4 (by kernel_rfl) ?_
                exact hK11591 ((ix t xa9).Value) _ _ _ h (leSt_m [(0,0),(1,1),(2,2),((.s 3 0),(.s 3 0))] [] (by simp only [bitvec_to_nat,push_cast,seval]) (by simp only [bitvec_to_nat,push_cast,seval]) rfl rfl rfl)
               ·exact hK11591 (most34) _ _ _ h (leSt_m [(0,0),(1,1),(2,2),((.s 3 0),(.s 3 0))] [] (by simp only [bitvec_to_nat,push_cast,seval]) (by simp only [bitvec_to_nat,push_cast,seval]) rfl rfl rfl)
            ·rintro most33 h
             try dsimp only at h ⊢
             unfold taskmilllaw_OrderClocks_j1 at h
             refine wk_id ?_
             refine reg_f ?_
             refine rk 3 ?_
             refine rf [(0,.sl t.length (fl t)),(2,iS i),(3,iS k),(12,.own 0 0 c0q2.length),(14,bS xis2),(17,.ptr 1 0),(18,.own 2 0 c2q24.length),(19,iS most33),(20,iS (IntKind.i64.wrap (xa9+1)))] [(0,.row 23 (fl c0q2)),(1,.row 26 (Enc.cells c3q1)),(2,.row 43 (flD dLListBool [3] c2q24)),((.s 3 0),.fam (famD dLListBool 0 c2q24))] 4 (by kernel_rfl) ?_
             exact hn4 (most33,(IntKind.i64.wrap (xa9+1)),c2q24) _ _ _ (Option.some.inj h).symm (leSt_m [(0,0),(1,1),(2,2),((.s 3 0),(.s 3 0))] [] (by simp only [bitvec_to_nat,push_cast,seval]) (by simp only [bitvec_to_nat,push_cast,seval]) rfl rfl rfl)
           ·change R4 (.exit 0) _ _ _
            refine ex_cast hx4 (id:=0) ?_
            obtain ⟨r0,h,e0⟩:=map_sx h
            have e1:=hr4 r0 e0.symm
            subst r0
            refine wk_id ?_
            refine wk_id ?_
            refine seq_np ?_
            refine chk_sx h (fun g11641 h=>?_)
            refine chk_sx h (fun g11643 h=>?_)
            refine seq_cut (A:=Unit) (fun _=>([(0,.sl t.length (fl t)),(12,.own 0 0 c0q2.length),(18,.own 2 0 c2q24.length),(19,iS most29),(199,bS (((c0q2.length:Int) != (t.length:Int)) || ((c3q1.Code == 0) && (xis2 != (ix (ixD c2q24 k) i)))))],[(0,.row 23 (fl c0q2)),(1,.row 26 (Enc.cells c3q1)),(2,.row 43 (flD dLListBool [3] c2q24)),((.s 3 0),.fam (famD dLListBool 0 c2q24))],4)) (fun _=>True) (fun K11637 hK11637=>?_) (fun _ _=>?_)
            ·refine reg_f ?_
             refine rk 6 ?_
             refine run_split 184 ((c0q2.length:Int) != (t.length:Int)) (.inl (by kernel_rfl)) (fun g11638=>?_) (fun g11638=>?_)
             ·refine rk 15 ?_
              refine rf [(0,.sl t.length (fl t)),(12,.own 0 0 c0q2.length),(18,.own 2 0 c2q24.length),(19,iS most29),(199,bS true)] [(0,.row 23 (fl c0q2)),(1,.row 26 (Enc.cells c3q1)),(2,.row 43 (flD dLListBool [3] c2q24)),((.s 3 0),.fam (famD dLListBool 0 c2q24))] 4 (by kernel_rfl) ?_
              exact hK11637 () _ _ _ trivial (leSt_m [(0,0),(1,1),(2,2),((.s 3 0),(.s 3 0))] [] (by (try simp only [g11638]) <;> simp only [bitvec_to_nat,push_cast,seval]) (by (try simp only [g11638]) <;> simp only [bitvec_to_nat,push_cast,seval]) rfl rfl rfl)
             ·refine rk 4 ?_
              refine run_split 188 (c3q1.Code == 0) (.inr (by kernel_rfl)) (fun g11639=>?_) (fun g11639=>?_)
              ·have k11640:0≤k∧k < (c2q24.length:Int):=by have e:=or_use g11641 (by first | ((try simp only [g11638,g11639]) <;> rfl) | ((try simp only [g11638]); (try simp only [g11639]); rfl) | (exfalso; clear h; simp_all; done)); first | simpa only [Bool.and_eq_true,decide_eq_true_eq,bne_iff_ne,ne_eq] using e | (simp at e ⊢; omega)
               have k11642:0≤i∧i < (((ixD c2q24 k).length:Nat):Int):=by have e:=or_use g11643 (by first | ((try simp only [g11638,g11639]) <;> rfl) | ((try simp only [g11638]); (try simp only [g11639]); rfl) | (exfalso; clear h; simp_all; done)); first | simpa only [Bool.and_eq_true,decide_eq_true_eq,bne_iff_ne,ne_eq] using e | (simp at e ⊢; omega)
               refine rs 11 [none,none,none,some ⟨.ptr 2 (0+(k).toNat * 1),[],4,[2]⟩,some ⟨.own (.s 3 k) 0 (ixD c2q24 k).length,[],4,[2]⟩,none,some ⟨.ptr (.s 3 k) (0+(i).toNat * 1),[],4,[(.s 3 0)]⟩,some ⟨bS (ix (ixD c2q24 k) i),[],4,[(.s 3 0)]⟩] _ (by kernel_rfl) (allP_cons (ob_ld (ixD c2q24 k) i 1 0 (0+(i).toNat * 1) k11642 rfl (by decide) (by first | rfl | omega) (dflS Try.prog 4) (bS (ix (ixD c2q24 k) i)) rfl 4 [(.s 3 0)]) (allP_cons (ob_ix_o (.s 3 k) (ixD c2q24 k).length 0 1 4 i k11642) (allP_cons (ob_ldD dLListBool [3] c2q24 k 1 0 (0+(k).toNat * 1) k11640 rfl (by decide) (by first | rfl | omega) (dflS Try.prog 43) (.own (.s 3 k) 0 (ixD c2q24 k).length) rfl 4 [2]) (allP_cons (ob_ix_o 2 c2q24.length 0 1 4 k k11640) allP_nil)))) ?_
               refine rf [(0,.sl t.length (fl t)),(12,.own 0 0 c0q2.length),(18,.own 2 0 c2q24.length),(19,iS most29),(199,bS (xis2 != (ix (ixD c2q24 k) i)))] [(0,.row 23 (fl c0q2)),(1,.row 26 (Enc.cells c3q1)),(2,.row 43 (flD dLListBool [3] c2q24)),((.s 3 0),.fam (famD dLListBool 0 c2q24))] 4 (by kernel_rfl) ?_
               exact hK11637 () _ _ _ trivial (leSt_m [(0,0),(1,1),(2,2),((.s 3 0),(.s 3 0))] [] (by first | ((try simp only [g11638,g11639]) <;> simp only [bitvec_to_nat,push_cast,seval]; done) | ((try simp only [g11638]); (try simp only [g11639]); simp only [bitvec_to_nat,push_cast,seval]; done) | (exfalso; clear h; simp_all; done)) (by first | ((try simp only [g11638,g11639]) <;> simp only [bitvec_to_nat,push_cast,seval]; done) | ((try simp only [g11638]); (try simp only [g11639]); simp only [bitvec_to_nat,push_cast,seval]; done) | (exfalso; clear h; simp_all; done)) rfl rfl rfl)
              ·refine rk 11 ?_
               refine rf [(0,.sl t.length (fl t)),(12,.own 0 0 c0q2.length),(18,.own 2 0 c2q24.length),(19,iS most29),(199,bS false)] [(0,.row 23 (fl c0q2)),(1,.row 26 (Enc.cells c3q1)),(2,.row 43 (flD dLListBool [3] c2q24)),((.s 3 0),.fam (famD dLListBool 0 c2q24))] 4 (by kernel_rfl) ?_
               exact hK11637 () _ _ _ trivial (leSt_m [(0,0),(1,1),(2,2),((.s 3 0),(.s 3 0))] [] (by first | ((try simp only [g11638,g11639]) <;> simp only [bitvec_to_nat,push_cast,seval]; done) | ((try simp only [g11638]); (try simp only [g11639]); simp only [bitvec_to_nat,push_cast,seval]; done) | (exfalso; clear h; simp_all; done)) (by first | ((try simp only [g11638,g11639]) <;> simp only [bitvec_to_nat,push_cast,seval]; done) | ((try simp only [g11638]); (try simp only [g11639]); simp only [bitvec_to_nat,push_cast,seval]; done) | (exfalso; clear h; simp_all; done)) rfl rfl rfl)
            ·dsimp only
             refine cond_sx h (by kernel_rfl) (fun g12244 h=>?_) (fun g12244 h=>?_)
             ·refine seq_np ?_
              refine reg_f ?_
              refine rk 1 ?_
              refine rf [(8,bS false)] [(0,.row 23 (fl c0q2)),(1,.row 26 (Enc.cells c3q1)),(2,.row 43 (flD dLListBool [3] c2q24)),((.s 3 0),.fam (famD dLListBool 0 c2q24))] 4 (by kernel_rfl) ?_
              refine wk_id ?_
              obtain rfl:=Option.some.inj h
              refine ret_at (bS false) (by kernel_rfl) ?_
              exact ret_e [] [] (by simp only [bitvec_to_nat,push_cast,seval]) (by simp only [bitvec_to_nat,push_cast,seval]) rfl rfl rfl
             ·refine wk_id ?_
              refine seq_np ?_
              refine seq_np ?_
              refine reg_f ?_
              refine rk 1 ?_
              refine rf [(0,.sl t.length (fl t)),(12,.own 0 0 c0q2.length),(18,.own 2 0 c2q24.length),(19,iS most29),(21,iS 0)] [(0,.row 23 (fl c0q2)),(1,.row 26 (Enc.cells c3q1)),(2,.row 43 (flD dLListBool [3] c2q24)),((.s 3 0),.fam (famD dLListBool 0 c2q24))] 4 (by kernel_rfl) ?_
              refine wk_id ?_
              refine block_np ?_
              refine loop_sx (S:=Int) (fun a=>([(0,.sl t.length (fl t)),(12,.own 0 0 c0q2.length),(18,.own 1 0 c2q24.length),(19,iS most29),(21,iS a)],[(0,.row 23 (fl c0q2)),(1,.row 43 (flD dLListBool [2] c2q24)),((.s 2 0),.fam (famD dLListBool 0 c2q24))],3)) h (leSt_m [(0,0),(1,2),((.s 2 0),(.s 3 0))] [] (by simp only [bitvec_to_nat,push_cast,seval]) (by simp only [bitvec_to_nat,push_cast,seval]) rfl rfl rfl) ?_
              rintro xa15 o5 R5 h hr5 hn5 hx5 ht5
              try dsimp only at h hn5 ⊢
              unfold taskmilllaw_OrderClocks_l2 at h
              try dsimp only at h
              refine seq_np ?_
              refine seq_np ?_
              refine reg_f ?_
              refine rk 4 ?_
              refine rf [(0,.sl t.length (fl t)),(12,.own 0 0 c0q2.length),(18,.own 1 0 c2q24.length),(19,iS most29),(21,iS xa15),(203,bS (decide (xa15 < (t.length:Int))))] [(0,.row 23 (fl c0q2)),(1,.row 43 (flD dLListBool [2] c2q24)),((.s 2 0),.fam (famD dLListBool 0 c2q24))] 3 (by kernel_rfl) ?_
              refine wk_id ?_
              refine cond_sx h (by kernel_rfl) (fun g12243 h=>?_) (fun g12243 h=>?_)
              ·refine wk_id ?_
               refine seq_np ?_
               refine block_np ?_
               refine chk_sx h (fun g12063 h=>?_)
               refine seq_np ?_
               refine reg_f ?_
               have k12062:0≤most29∧most29≤4611686018427387904∧(8:Int) * most29≤140737488355328:=by first | simpa only [Bool.and_eq_true,decide_eq_true_eq,bne_iff_ne,ne_eq] using g12063 | (simp at g12063 ⊢; omega)
               refine rs 3 [none,some ⟨.own 3 0 (List.replicate (most29).toNat (default:Int)).length,[(3,.row 3 (fl (List.replicate (most29).toNat (default:Int))))],4,[]⟩] _ (by kernel_rfl) (allP_cons (ob_mk (P:=Try.prog) (α:=Int) most29 3 8 (by kernel_rfl) [iS 0] rfl 1 rfl (by decide) k12062 3) allP_nil) ?_
               refine rf [(0,.sl t.length (fl t)),(12,.own 0 0 c0q2.length),(18,.own 1 0 c2q24.length),(19,iS most29),(21,iS xa15),(22,.own 3 0 (List.replicate (most29).toNat (default:Int)).length)] [(0,.row 23 (fl c0q2)),(1,.row 43 (flD dLListBool [2] c2q24)),((.s 2 0),.fam (famD dLListBool 0 c2q24)),(3,.row 3 (fl (List.replicate (most29).toNat (default:Int))))] 4 (by kernel_rfl) ?_
               refine wk_id ?_
               refine chk_sx h (fun g12069 h=>?_)
               refine chk_sx h (fun g12071 h=>?_)
               refine seq_np ?_
               refine reg_f ?_
               have k12068:0≤xa15∧xa15 < (t.length:Int):=by first | simpa only [Bool.and_eq_true,decide_eq_true_eq,bne_iff_ne,ne_eq] using g12069 | (simp at g12069 ⊢; omega)
               have k12070:0≤(IntKind.i64.wrap ((ix t xa15).Task - 1))∧(IntKind.i64.wrap ((ix t xa15).Task - 1)) < (((List.replicate (most29).toNat (default:Int)).length:Nat):Int):=by first | simpa only [Bool.and_eq_true,decide_eq_true_eq,bne_iff_ne,ne_eq] using g12071 | (simp at g12071 ⊢; omega)
               refine rs 9 [none,none,none,some ⟨.iptr (fl t) ((xa15).toNat * 4),[],4,[]⟩,none,some ⟨iS (ix t xa15).Task,[],4,[]⟩,none,some ⟨.ptr 3 (0+((IntKind.i64.wrap ((ix t xa15).Task - 1))).toNat * 1),[],4,[3]⟩,some ⟨.any,[(3,.row 3 (fl ((List.replicate (most29).toNat (default:Int)).set (IntKind.i64.wrap ((ix t xa15).Task - 1)).toNat 1)))],4,[3]⟩] _ (by kernel_rfl) (allP_cons (ob_st (P:=Try.prog) (List.replicate (most29).toNat (default:Int)) (IntKind.i64.wrap ((ix t xa15).Task - 1)) 1 0 (0+((IntKind.i64.wrap ((ix t xa15).Task - 1))).toNat * 1) k12070 rfl [iS 1] 1 (Nat.le_of_ble_eq_true rfl) (by first | rfl | omega) rfl 3 4 3 3 (by kernel_rfl) rfl) (allP_cons (ob_ix_o 3 (List.replicate (most29).toNat (default:Int)).length 0 1 4 (IntKind.i64.wrap ((ix t xa15).Task - 1)) k12070) (allP_cons (ob_ld t xa15 4 0 (((xa15).toNat * 4)+0) k12068 rfl (by decide) (by first | rfl | omega) (dflS Try.prog 3) (iS (ix t xa15).Task) rfl 4 []) (allP_cons (ob_ix_l t 4 4 xa15 k12068) allP_nil)))) ?_
               refine run_eqF 22 (.own 3 0 (List.replicate (most29).toNat (default:Int)).length) (.own 3 0 ((List.replicate (most29).toNat (default:Int)).set (IntKind.i64.wrap ((ix t xa15).Task - 1)).toNat 1).length) (congrArg (fun nq=>(.own 3 0 nq:SV)) (show (List.replicate (most29).toNat (default:Int)).length = ((List.replicate (most29).toNat (default:Int)).set (IntKind.i64.wrap ((ix t xa15).Task - 1)).toNat 1).length from (List.length_set ..).symm)) (by kernel_rfl) ?_
               refine rf [(0,.sl t.length (fl t)),(12,.own 0 0 c0q2.length),(18,.own 1 0 c2q24.length),(19,iS most29),(21,iS xa15),(22,.own 3 0 ((List.replicate (most29).toNat (default:Int)).set (IntKind.i64.wrap ((ix t xa15).Task - 1)).toNat 1).length)] [(0,.row 23 (fl c0q2)),(1,.row 43 (flD dLListBool [2] c2q24)),((.s 2 0),.fam (famD dLListBool 0 c2q24)),(3,.row 3 (fl ((List.replicate (most29).toNat (default:Int)).set (IntKind.i64.wrap ((ix t xa15).Task - 1)).toNat 1)))] 4 (by kernel_rfl) ?_
               refine wk_id ?_
               refine seq_np ?_
               refine seq_np ?_
               refine reg_f ?_
               refine rk 1 ?_
               refine rf [(0,.sl t.length (fl t)),(12,.own 0 0 c0q2.length),(18,.own 1 0 c2q24.length),(19,iS most29),(21,iS xa15),(22,.own 3 0 ((List.replicate (most29).toNat (default:Int)).set (IntKind.i64.wrap ((ix t xa15).Task - 1)).toNat 1).length),(23,iS 0)] [(0,.row 23 (fl c0q2)),(1,.row 43 (flD dLListBool [2] c2q24)),((.s 2 0),.fam (famD dLListBool 0 c2q24)),(3,.row 3 (fl ((List.replicate (most29).toNat (default:Int)).set (IntKind.i64.wrap ((ix t xa15).Task - 1)).toNat 1)))] 4 (by kernel_rfl) ?_
               refine wk_id ?_
               refine block_np ?_
               refine loop_sx (S:=Int×(List Int)) (fun a=>([(0,.sl t.length (fl t)),(12,.own 0 0 c0q2.length),(18,.own 1 0 c2q24.length),(19,iS most29),(21,iS xa15),(22,.own 2 0 a.2.length),(23,iS a.1)],[(0,.row 23 (fl c0q2)),(1,.row 43 (flD dLListBool [3] c2q24)),(2,.row 3 (fl a.2)),((.s 3 0),.fam (famD dLListBool 0 c2q24))],4)) h (leSt_m [(0,0),(1,1),(2,3),((.s 3 0),(.s 2 0))] [] (by simp only [bitvec_to_nat,push_cast,seval]) (by simp only [bitvec_to_nat,push_cast,seval]) rfl rfl rfl) ?_
               rintro ⟨b23,c2q73⟩ o6 R6 h hr6 hn6 hx6 ht6
               try dsimp only at h hn6 ⊢
               unfold taskmilllaw_OrderClocks_l1 at h
               try dsimp only at h
               refine seq_np ?_
               refine seq_np ?_
               refine reg_f ?_
               refine rk 3 ?_
               refine rf [(0,.sl t.length (fl t)),(12,.own 0 0 c0q2.length),(18,.own 1 0 c2q24.length),(19,iS most29),(21,iS xa15),(22,.own 2 0 c2q73.length),(23,iS b23),(218,bS (decide (b23 < xa15)))] [(0,.row 23 (fl c0q2)),(1,.row 43 (flD dLListBool [3] c2q24)),(2,.row 3 (fl c2q73)),((.s 3 0),.fam (famD dLListBool 0 c2q24))] 4 (by kernel_rfl) ?_
               refine wk_id ?_
               refine cond_sx h (by kernel_rfl) (fun g12242 h=>?_) (fun g12242 h=>?_)
               ·refine wk_id ?_
                refine seq_np ?_
                refine block_cut (A:=(List Int)) (fun a=>([(0,.sl t.length (fl t)),(12,.own 0 0 c0q2.length),(18,.own 1 0 c2q24.length),(19,iS most29),(21,iS xa15),(22,.own 2 0 a.length),(23,iS b23)],[(0,.row 23 (fl c0q2)),(1,.row 43 (flD dLListBool [3] c2q24)),(2,.row 3 (fl a)),((.s 3 0),.fam (famD dLListBool 0 c2q24))],4)) (fun a=>(taskmilllaw_OrderClocks_j3 t c0q2 most29 c2q24 xa15 b23 a) = some o6) (fun K12213 hK12213=>?_) ?_
                ·refine chk_sx h (fun g12219 h=>?_)
                 refine chk_sx h (fun g12221 h=>?_)
                 refine seq_np ?_
                 refine reg_f ?_
                 have k12218:0≤xa15∧xa15 < (c2q24.length:Int):=by first | simpa only [Bool.and_eq_true,decide_eq_true_eq,bne_iff_ne,ne_eq] using g12219 | (simp at g12219 ⊢; omega)
                 have k12220:0≤b23∧b23 < (((ixD c2q24 xa15).length:Nat):Int):=by first | simpa only [Bool.and_eq_true,decide_eq_true_eq,bne_iff_ne,ne_eq] using g12221 | (simp at g12221 ⊢; omega)
                 refine rs 7 [none,none,some ⟨.ptr 1 (0+(xa15).toNat * 1),[],4,[1]⟩,some ⟨.own (.s 3 xa15) 0 (ixD c2q24 xa15).length,[],4,[1]⟩,none,some ⟨.ptr (.s 3 xa15) (0+(b23).toNat * 1),[],4,[(.s 3 0)]⟩,some ⟨bS (ix (ixD c2q24 xa15) b23),[],4,[(.s 3 0)]⟩] _ (by kernel_rfl) (allP_cons (ob_ld (ixD c2q24 xa15) b23 1 0 (0+(b23).toNat * 1) k12220 rfl (by decide) (by first | rfl | omega) (dflS Try.prog 4) (bS (ix (ixD c2q24 xa15) b23)) rfl 4 [(.s 3 0)]) (allP_cons (ob_ix_o (.s 3 xa15) (ixD c2q24 xa15).length 0 1 4 b23 k12220) (allP_cons (ob_ldD dLListBool [3] c2q24 xa15 1 0 (0+(xa15).toNat * 1) k12218 rfl (by decide) (by first | rfl | omega) (dflS Try.prog 43) (.own (.s 3 xa15) 0 (ixD c2q24 xa15).length) rfl 4 [1]) (allP_cons (ob_ix_o 1 c2q24.length 0 1 4 xa15 k12218) allP_nil)))) ?_
                 refine rf [(0,.sl t.length (fl t)),(12,.own 0 0 c0q2.length),(18,.own 1 0 c2q24.length),(19,iS most29),(21,iS xa15),(22,.own 2 0 c2q73.length),(23,iS b23),(227,bS (ix (ixD c2q24 xa15) b23))] [(0,.row 23 (fl c0q2)),(1,.row 43 (flD dLListBool [3] c2q24)),(2,.row 3 (fl c2q73)),((.s 3 0),.fam (famD dLListBool 0 c2q24))] 4 (by kernel_rfl) ?_
                 refine wk_id ?_
                 refine cond_sx h (by kernel_rfl) (fun g12234 h=>?_) (fun g12234 h=>?_)
                 ·refine chk_sx h (fun g12229 h=>?_)
                  refine chk_sx h (fun g12231 h=>?_)
                  refine chk_sx h (fun g12233 h=>?_)
                  refine reg_f ?_
                  have k12228:0≤b23∧b23 < (t.length:Int):=by first | simpa only [Bool.and_eq_true,decide_eq_true_eq,bne_iff_ne,ne_eq] using g12229 | (simp at g12229 ⊢; omega)
                  have k12230:0≤(IntKind.i64.wrap ((ix t b23).Task - 1))∧(IntKind.i64.wrap ((ix t b23).Task - 1)) < (c2q73.length:Int):=by first | simpa only [Bool.and_eq_true,decide_eq_true_eq,bne_iff_ne,ne_eq] using g12231 | (simp at g12231 ⊢; omega)
                  have k12232:0≤(IntKind.i64.wrap ((ix t b23).Task - 1))∧(IntKind.i64.wrap ((ix t b23).Task - 1)) < (c2q73.length:Int):=by first | simpa only [Bool.and_eq_true,decide_eq_true_eq,bne_iff_ne,ne_eq] using g12233 | (simp at g12233 ⊢; omega)
                  refine rs 12 [none,none,none,some ⟨.iptr (fl t) ((b23).toNat * 4),[],4,[]⟩,none,some ⟨iS (ix t b23).Task,[],4,[]⟩,none,some ⟨.ptr 2 (0+((IntKind.i64.wrap ((ix t b23).Task - 1))).toNat * 1),[],4,[2]⟩,some ⟨iS (ix c2q73 (IntKind.i64.wrap ((ix t b23).Task - 1))),[],4,[2]⟩,none,some ⟨.ptr 2 (0+((IntKind.i64.wrap ((ix t b23).Task - 1))).toNat * 1),[],4,[2]⟩,some ⟨.any,[(2,.row 3 (fl (c2q73.set (IntKind.i64.wrap ((ix t b23).Task - 1)).toNat (IntKind.i64.wrap ((ix c2q73 (IntKind.i64.wrap ((ix t b23).Task - 1)))+1)))))],4,[2]⟩] _ (by kernel_rfl) (allP_cons (ob_st (P:=Try.prog) c2q73 (IntKind.i64.wrap ((ix t b23).Task - 1)) 1 0 (0+((IntKind.i64.wrap ((ix t b23).Task - 1))).toNat * 1) k12232 rfl [iS (IntKind.i64.wrap ((ix c2q73 (IntKind.i64.wrap ((ix t b23).Task - 1)))+1))] (IntKind.i64.wrap ((ix c2q73 (IntKind.i64.wrap ((ix t b23).Task - 1)))+1)) (Nat.le_of_ble_eq_true rfl) (by first | rfl | omega) rfl 2 4 3 3 (by kernel_rfl) rfl) (allP_cons (ob_ix_o 2 c2q73.length 0 1 4 (IntKind.i64.wrap ((ix t b23).Task - 1)) k12232) (allP_cons (ob_ld c2q73 (IntKind.i64.wrap ((ix t b23).Task - 1)) 1 0 (0+((IntKind.i64.wrap ((ix t b23).Task - 1))).toNat * 1) k12230 rfl (by decide) (by first | rfl | omega) (dflS Try.prog 3) (iS (ix c2q73 (IntKind.i64.wrap ((ix t b23).Task - 1)))) rfl 4 [2]) (allP_cons (ob_ix_o 2 c2q73.length 0 1 4 (IntKind.i64.wrap ((ix t b23).Task - 1)) k12230) (allP_cons (ob_ld t b23 4 0 (((b23).toNat * 4)+0) k12228 rfl (by decide) (by first | rfl | omega) (dflS Try.prog 3) (iS (ix t b23).Task) rfl 4 []) (allP_cons (ob_ix_l t 4 4 b23 k12228) allP_nil)))))) ?_
                  refine run_eqF 22 (.own 2 0 c2q73.length) (.own 2 0 (c2q73.set (IntKind.i64.wrap ((ix t b23).Task - 1)).toNat (IntKind.i64.wrap ((ix c2q73 (IntKind.i64.wrap ((ix t b23).Task - 1)))+1))).length) (congrArg (fun nq=>(.own 2 0 nq:SV)) (show c2q73.length = (c2q73.set (IntKind.i64.wrap ((ix t b23).Task - 1)).toNat (IntKind.i64.wrap ((ix c2q73 (IntKind.i64.wrap ((ix t b23).Task - 1)))+1))).length from (List.length_set ..).symm)) (by kernel_rfl) ?_
                  refine rf [(0,.sl t.length (fl t)),(12,.own 0 0 c0q2.length),(18,.own 1 0 c2q24.length),(19,iS most29),(21,iS xa15),(22,.own 2 0 (c2q73.set (IntKind.i64.wrap ((ix t b23).Task - 1)).toNat (IntKind.i64.wrap ((ix c2q73 (IntKind.i64.wrap ((ix t b23).Task - 1)))+1))).length),(23,iS b23)] [(0,.row 23 (fl c0q2)),(1,.row 43 (flD dLListBool [3] c2q24)),(2,.row 3 (fl (c2q73.set (IntKind.i64.wrap ((ix t b23).Task - 1)).toNat (IntKind.i64.wrap ((ix c2q73 (IntKind.i64.wrap ((ix t b23).Task - 1)))+1))))),((.s 3 0),.fam (famD dLListBool 0 c2q24))] 4 (by kernel_rfl) ?_
                  exact hK12213 ((c2q73.set (IntKind.i64.wrap ((ix t b23).Task - 1)).toNat (IntKind.i64.wrap ((ix c2q73 (IntKind.i64.wrap ((ix t b23).Task - 1)))+1)))) _ _ _ h (leSt_m [(0,0),(1,1),(2,2),((.s 3 0),(.s 3 0))] [] (by simp only [bitvec_to_nat,push_cast,seval]) (by simp only [bitvec_to_nat,push_cast,seval]) rfl rfl rfl)
                 ·exact hK12213 (c2q73) _ _ _ h (leSt_m [(0,0),(1,1),(2,2),((.s 3 0),(.s 3 0))] [] (by simp only [bitvec_to_nat,push_cast,seval]) (by simp only [bitvec_to_nat,push_cast,seval]) rfl rfl rfl)
                ·rintro c2q75 h
                 try dsimp only at h ⊢
                 unfold taskmilllaw_OrderClocks_j3 at h
                 refine wk_id ?_
                 refine reg_f ?_
                 refine rk 3 ?_
                 refine rf [(0,.sl t.length (fl t)),(12,.own 0 0 c0q2.length),(18,.own 1 0 c2q24.length),(19,iS most29),(21,iS xa15),(22,.own 2 0 c2q75.length),(23,iS (IntKind.i64.wrap (b23+1)))] [(0,.row 23 (fl c0q2)),(1,.row 43 (flD dLListBool [3] c2q24)),(2,.row 3 (fl c2q75)),((.s 3 0),.fam (famD dLListBool 0 c2q24))] 4 (by kernel_rfl) ?_
                 exact hn6 ((IntKind.i64.wrap (b23+1)),c2q75) _ _ _ (Option.some.inj h).symm (leSt_m [(0,0),(1,1),(2,2),((.s 3 0),(.s 3 0))] [] (by simp only [bitvec_to_nat,push_cast,seval]) (by simp only [bitvec_to_nat,push_cast,seval]) rfl rfl rfl)
               ·change R6 (.exit 4) _ _ _
                refine ex_cast hx6 (id:=4) ?_
                obtain ⟨r0,h,e0⟩:=map_sx h
                have e1:=hr6 r0 e0.symm
                subst r0
                refine wk_id ?_
                refine wk_id ?_
                refine chk_sx h (fun g12239 h=>?_)
                refine seq_np ?_
                refine reg_f ?_
                have k12238:0≤xa15∧xa15 < (c0q2.length:Int):=by first | simpa only [Bool.and_eq_true,decide_eq_true_eq,bne_iff_ne,ne_eq] using g12239 | (simp at g12239 ⊢; omega)
                refine rs 5 [none,none,some ⟨.ptr 0 (0+(xa15).toNat * 1),[],4,[0]⟩,some ⟨.sl (ix c0q2 xa15).length (fl (ix c0q2 xa15)),[],4,[0]⟩] _ (by kernel_rfl) (allP_cons (ob_ld c0q2 xa15 1 0 (0+(xa15).toNat * 1) k12238 rfl (by decide) (by first | rfl | omega) (dflS Try.prog 23) (.sl (ix c0q2 xa15).length (fl (ix c0q2 xa15))) rfl 4 [0]) (allP_cons (ob_ix_o 0 c0q2.length 0 1 4 xa15 k12238) allP_nil)) ?_
                obtain ⟨r12240,hr12240,h⟩:=bind_sx h
                refine call_x (taskmillref_Ints_spec (ix c0q2 xa15) c2q73 r12240 hr12240) (args:=[.sl (ix c0q2 xa15).length (fl (ix c0q2 xa15)),.own 2 0 c2q73.length]) (dst:=(some 244)) (by kernel_rfl) [(0,.row 23 (fl c0q2)),(1,.row 43 (flD dLListBool [3] c2q24)),(2,.row 3 (fl c2q73)),((.s 3 0),.fam (famD dLListBool 0 c2q24))] 4 (by kernel_rfl) [] [2] (bS r12240) [] (by simp only [bitvec_to_nat,push_cast,seval]) (by simp only [bitvec_to_nat,push_cast,seval]) (by kernel_rfl) (.inr ⟨by simp only [bitvec_to_nat,push_cast,seval],by simp only [bitvec_to_nat,push_cast,seval]⟩) (by simp only [bitvec_to_nat,push_cast,seval]) (by simp only [bitvec_to_nat,push_cast,seval]) ?_
                refine rk 1 ?_
                refine rf [(0,.sl t.length (fl t)),(12,.own 0 0 c0q2.length),(18,.own 1 0 c2q24.length),(19,iS most29),(21,iS xa15),(245,bS (!r12240))] [(0,.row 23 (fl c0q2)),(1,.row 43 (flD dLListBool [3] c2q24)),(2,.row 3 (fl c2q73)),((.s 3 0),.fam (famD dLListBool 0 c2q24))] 4 (by kernel_rfl) ?_
                refine wk_id ?_
                refine cond_sx h (by kernel_rfl) (fun g12241 h=>?_) (fun g12241 h=>?_)
                ·refine seq_np ?_
                 refine reg_f ?_
                 refine rk 1 ?_
                 refine rf [(8,bS false)] [(0,.row 23 (fl c0q2)),(1,.row 43 (flD dLListBool [3] c2q24)),(2,.row 3 (fl c2q73)),((.s 3 0),.fam (famD dLListBool 0 c2q24))] 4 (by kernel_rfl) ?_
                 refine wk_id ?_
                 refine rt_cast ht5 ?_
                 obtain ⟨r0,h,e0⟩:=map_sx h
                 have e1:=hr5 r0 e0.symm
                 subst r0
                 obtain rfl:=Option.some.inj h
                 refine ret_at (bS false) (by kernel_rfl) ?_
                 exact ret_e [] [] (by simp only [bitvec_to_nat,push_cast,seval]) (by simp only [bitvec_to_nat,push_cast,seval]) rfl rfl rfl
                ·refine wk_id ?_
                 refine wk_id ?_
                 refine reg_f ?_
                 refine rk 3 ?_
                 refine rf [(0,.sl t.length (fl t)),(12,.own 0 0 c0q2.length),(18,.own 1 0 c2q24.length),(19,iS most29),(21,iS (IntKind.i64.wrap (xa15+1)))] [(0,.row 23 (fl c0q2)),(1,.row 43 (flD dLListBool [3] c2q24)),(2,.row 3 (fl c2q73)),((.s 3 0),.fam (famD dLListBool 0 c2q24))] 4 (by kernel_rfl) ?_
                 exact hn5 ((IntKind.i64.wrap (xa15+1))) _ _ _ (Option.some.inj h).symm (leSt_m [(0,0),(1,1),((.s 2 0),(.s 3 0))] [] (by simp only [bitvec_to_nat,push_cast,seval]) (by simp only [bitvec_to_nat,push_cast,seval]) rfl rfl rfl)
              ·change R5 (.exit 2) _ _ _
               refine ex_cast hx5 (id:=2) ?_
               obtain ⟨r0,h,e0⟩:=map_sx h
               have e1:=hr5 r0 e0.symm
               subst r0
               refine wk_id ?_
               refine wk_id ?_
               refine seq_np ?_
               refine reg_f ?_
               refine rk 1 ?_
               refine rf [(8,bS true)] [(0,.row 23 (fl c0q2)),(1,.row 43 (flD dLListBool [2] c2q24)),((.s 2 0),.fam (famD dLListBool 0 c2q24))] 3 (by kernel_rfl) ?_
               refine wk_id ?_
               obtain rfl:=Option.some.inj h
               refine ret_at (bS true) (by kernel_rfl) ?_
               exact ret_e [] [] (by simp only [bitvec_to_nat,push_cast,seval]) (by simp only [bitvec_to_nat,push_cast,seval]) rfl rfl rfl

end Go.Proofs.Ytelegonboeacaaa
