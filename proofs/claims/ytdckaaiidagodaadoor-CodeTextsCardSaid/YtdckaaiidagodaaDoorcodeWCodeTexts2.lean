/-
 What laws of the chapter code compute, and lemmas on it.
 No conditions.
-/
import Derived.Test.YtdckaaiidagodaaDoorcodeWCodeTexts1
set_option linter.unusedSimpArgs false
set_option linter.unusedVariables false
set_option linter.unusedSectionVars false
namespace Go.Proofs.YtdckaaiidagodaaDoor
open Go Go.Sx
attribute [local irreducible] Wk RunAt
attribute [local bitvec_to_nat] leL_flD renL_flD leL_flP renL_flP leC_famP leC_famP0 flP_0 ren_famP noN_eq lenP_same lenP_one lenP_app lenP_set lenP_famP Nat.le_refl List.length_set leC_mpP leC_mpP1 mapLe_eq mapLe1_eq ren_mpP ren_mpP1
set_option maxRecDepth 100000 in
set_option maxHeartbeats 200000000 in
theorem taskmilllaw_CodeTexts_spec (p:GProgram) (text:ByteArray) (r:Bool) (h:taskmilllaw_CodeTexts p text = some r):SpecW Tryd.prog 5 [.agg (Enc.cells p),.v (.string text)] [] 0 (fun x h n=>x = bS r∧h = []∧n = 0):=by
 unfold taskmilllaw_CodeTexts at h
 refine spec_of (draw_ok _) Tryd.func5 rfl (by decide) rfl (by kernel_rfl) ?_
 refine seq_np ?_
 refine reg_f ?_
 refine rk 2 ?_
 refine rf [(1,.v (.string text)),(2,.ptr 0 0)] [(0,.row 25 (Enc.cells p))] 1 (by kernel_rfl) ?_
 refine wk_id ?_
 refine seq_np ?_
 refine seq_np ?_
 refine reg_f ?_
 obtain ⟨r3692,hr3692,h⟩:=bind_sx h
 refine run_call 7 [] (some 18) (by kernel_rfl) ?_
 refine call_0 (taskmilllaw_codeBegun_spec r3692 hr3692) (by simp only [push_cast,seval]) (by simp only [push_cast,seval]) ?_
 refine back_f ?_
 refine rk 1 ?_
 refine rf [(1,.v (.string text)),(2,.ptr 0 0),(19,bS (!r3692))] [(0,.row 25 (Enc.cells p))] 1 (by kernel_rfl) ?_
 refine wk_id ?_
 refine cond_sx h (by kernel_rfl) (fun g3954 h=>?_) (fun g3954 h=>?_)
 ·refine seq_np ?_
  refine reg_f ?_
  refine rk 1 ?_
  refine rf [(4,bS false)] [(0,.row 25 (Enc.cells p))] 1 (by kernel_rfl) ?_
  refine wk_id ?_
  obtain rfl:=Option.some.inj h
  refine ret_at (bS false) (by kernel_rfl) ?_
  exact ret_e [] [] (by simp only [push_cast,seval]) (by simp only [push_cast,seval]) rfl rfl rfl
 ·refine wk_id ?_
  refine seq_np ?_
  refine seq_cut (A:=Bool) (fun a=>([(1,.v (.string text)),(2,.ptr 0 0),(26,bS a)],[(0,.row 25 (Enc.cells p))],1)) (fun a=>(taskmilllaw_CodeTexts_j6 p text a) = some r) (fun K3701 hK3701=>?_) ?_
  ·refine reg_f ?_
   refine rk 1 ?_
   obtain ⟨r3702,hr3702,h⟩:=bind_sx h
   refine run_call 8 [.agg (Enc.cells p)] (some 21) (by kernel_rfl) ?_
   refine call_0 (taskmilllaw_vastProgram_spec p r3702 hr3702) (by simp only [push_cast,seval]) (by simp only [push_cast,seval]) ?_
   refine back_f ?_
   refine rk 1 ?_
   refine run_br h 22 (.inl (by kernel_rfl)) (fun g3703 h=>?_) (fun g3703 h=>?_)
   ·refine rk 4 ?_
    refine rf [(1,.v (.string text)),(2,.ptr 0 0),(26,bS true)] [(0,.row 25 (Enc.cells p))] 1 (by kernel_rfl) ?_
    exact hK3701 (true) _ _ _ h (leSt_m [(0,0)] [] (by (try simp only [g3703]) <;> simp only [push_cast,seval]) (by (try simp only [g3703]) <;> simp only [push_cast,seval]) rfl rfl rfl)
   ·refine rk 4 ?_
    refine rf [(1,.v (.string text)),(2,.ptr 0 0),(26,bS (decide ((30000:Int) < (((text).size:Nat):Int))))] [(0,.row 25 (Enc.cells p))] 1 (by kernel_rfl) ?_
    exact hK3701 ((decide ((30000:Int) < (((text).size:Nat):Int)))) _ _ _ h (leSt_m [(0,0)] [] (by (try simp only [g3703]) <;> simp only [push_cast,seval]) (by (try simp only [g3703]) <;> simp only [push_cast,seval]) rfl rfl rfl)
  ·rintro t26q2 h
   try dsimp only at h ⊢
   unfold taskmilllaw_CodeTexts_j6 at h
   refine cond_sx h (by kernel_rfl) (fun g3953 h=>?_) (fun g3953 h=>?_)
   ·refine seq_np ?_
    refine reg_f ?_
    refine rk 1 ?_
    refine rf [(4,bS true)] [(0,.row 25 (Enc.cells p))] 1 (by kernel_rfl) ?_
    refine wk_id ?_
    obtain rfl:=Option.some.inj h
    refine ret_at (bS true) (by kernel_rfl) ?_
    exact ret_e [] [] (by simp only [push_cast,seval]) (by simp only [push_cast,seval]) rfl rfl rfl
   ·refine wk_id ?_
    refine seq_np ?_
    refine reg_f ?_
    refine rk 1 ?_
    obtain ⟨r3706,hr3706,h⟩:=bind_sx h
    refine call_x (taskmilllaw_ownProgram_spec p r3706 hr3706) (args:=[.agg (Enc.cells p)]) (dst:=(some 29)) (by kernel_rfl) [(0,.row 25 (Enc.cells p))] 1 (by kernel_rfl) [] [] (.agg [.own 1 0 r3706.2.2.2.1.length,iS r3706.1,.own 2 0 r3706.2.2.2.2.length,iS r3706.2.1,iS r3706.2.2.1]) [(1,.row 38 (fl r3706.2.2.2.1)),(2,.row 3 (fl r3706.2.2.2.2))] (by simp only [push_cast,seval]) (by simp only [push_cast,seval]) (by kernel_rfl) (.inl rfl) (by simp only [push_cast,seval]) (by simp only [push_cast,seval]) ?_
    obtain ⟨r3707,hr3707,h⟩:=bind_sx h
    refine call_x (code_Text_spec (GProgram.mk r3706.2.2.2.1 r3706.1 r3706.2.2.2.2 r3706.2.1 r3706.2.2.1) r3707 hr3707) (args:=[.agg [.own 1 0 r3706.2.2.2.1.length,iS r3706.1,.own 2 0 r3706.2.2.2.2.length,iS r3706.2.1,iS r3706.2.2.1]]) (dst:=(some 30)) (by kernel_rfl) [(0,.row 25 (Enc.cells p)),(1,.row 38 (fl r3706.2.2.2.1)),(2,.row 3 (fl r3706.2.2.2.2))] 3 (by kernel_rfl) [] [1,2] (.tup [.v (.string r3707.1),.agg (Enc.cells r3707.2)]) [] (by simp only [push_cast,seval]) (by simp only [push_cast,seval]) (by kernel_rfl) (.inr ⟨by simp only [push_cast,seval],by simp only [push_cast,seval]⟩) (by simp only [push_cast,seval]) (by simp only [push_cast,seval]) ?_
    refine rk 6 ?_
    refine rf [(1,.v (.string text)),(2,.ptr 0 0),(5,.v (.string r3707.1)),(6,.ptr 3 0)] [(0,.row 25 (Enc.cells p)),(1,.row 38 (fl r3706.2.2.2.1)),(2,.row 3 (fl r3706.2.2.2.2)),(3,.row 31 (Enc.cells r3707.2))] 4 (by kernel_rfl) ?_
    refine wk_id ?_
    refine seq_np ?_
    refine reg_f ?_
    refine rk 1 ?_
    obtain ⟨r3709,hr3709,h⟩:=bind_sx h
    refine call_x (code_Parse_spec text r3709 hr3709) (args:=[.v (.string text)]) (dst:=(some 35)) (by kernel_rfl) [(0,.row 25 (Enc.cells p)),(1,.row 38 (fl r3706.2.2.2.1)),(2,.row 3 (fl r3706.2.2.2.2)),(3,.row 31 (Enc.cells r3707.2))] 4 (by kernel_rfl) [] [] (.tup [.own 4 0 r3709.2.length,.agg (Enc.cells r3709.1)]) [(4,.row 38 (fl r3709.2))] (by simp only [push_cast,seval]) (by simp only [push_cast,seval]) (by kernel_rfl) (.inl rfl) (by simp only [push_cast,seval]) (by simp only [push_cast,seval]) ?_
    refine rk 6 ?_
    refine rf [(1,.v (.string text)),(2,.ptr 0 0),(5,.v (.string r3707.1)),(6,.ptr 3 0),(7,.own 4 0 r3709.2.length),(8,.ptr 5 0)] [(0,.row 25 (Enc.cells p)),(1,.row 38 (fl r3706.2.2.2.1)),(2,.row 3 (fl r3706.2.2.2.2)),(3,.row 31 (Enc.cells r3707.2)),(4,.row 38 (fl r3709.2)),(5,.row 31 (Enc.cells r3709.1))] 6 (by kernel_rfl) ?_
    refine wk_id ?_
    refine seq_np ?_
    refine reg_f ?_
    refine rk 1 ?_
    obtain ⟨r3711,hr3711,h⟩:=bind_sx h
    refine run_call 12 [.agg (Enc.cells p)] (some 39) (by kernel_rfl) ?_
    refine call_0 (taskmillref_ProgramFault_spec p r3711 hr3711) (by simp only [push_cast,seval]) (by simp only [push_cast,seval]) ?_
    refine back_f ?_
    refine rk 2 ?_
    refine rf [(1,.v (.string text)),(2,.ptr 0 0),(5,.v (.string r3707.1)),(6,.ptr 3 0),(7,.own 4 0 r3709.2.length),(8,.ptr 5 0),(9,.ptr 6 0)] [(0,.row 25 (Enc.cells p)),(1,.row 38 (fl r3706.2.2.2.1)),(2,.row 3 (fl r3706.2.2.2.2)),(3,.row 31 (Enc.cells r3707.2)),(4,.row 38 (fl r3709.2)),(5,.row 31 (Enc.cells r3709.1)),(6,.row 31 (Enc.cells r3711))] 7 (by kernel_rfl) ?_
    refine wk_id ?_
    refine seq_np ?_
    refine seq_cut (A:=ByteArray×Bool×(List GInstr)×Fault×Fault) (fun a=>([(1,.v (.string text)),(2,.ptr 0 0),(5,.v (.string a.1)),(7,.own 1 0 a.2.2.1.length),(8,.ptr 2 0),(9,.ptr 3 0),(63,bS a.2.1)],[(0,.row 25 (Enc.cells p)),(1,.row 38 (fl a.2.2.1)),(2,.row 31 (Enc.cells a.2.2.2.1)),(3,.row 31 (Enc.cells a.2.2.2.2))],4)) (fun a=>(taskmilllaw_CodeTexts_j5 p text a.1 a.2.1 a.2.2.1 a.2.2.2.1 a.2.2.2.2) = some r) (fun K3730 hK3730=>?_) ?_
    ·refine reg_f ?_
     refine rk 4 ?_
     refine run_br h 43 (.inl (by kernel_rfl)) (fun g3731 h=>?_) (fun g3731 h=>?_)
     ·refine rk 20 ?_
      refine rf [(1,.v (.string text)),(2,.ptr 0 0),(5,.v (.string r3707.1)),(7,.own 4 0 r3709.2.length),(8,.ptr 5 0),(9,.ptr 6 0),(63,bS true)] [(0,.row 25 (Enc.cells p)),(1,.row 38 (fl r3706.2.2.2.1)),(2,.row 3 (fl r3706.2.2.2.2)),(3,.row 31 (Enc.cells r3707.2)),(4,.row 38 (fl r3709.2)),(5,.row 31 (Enc.cells r3709.1)),(6,.row 31 (Enc.cells r3711))] 7 (by kernel_rfl) ?_
      exact hK3730 (r3707.1,true,r3709.2,r3709.1,r3711) _ _ _ h (leSt_m [(0,0),(1,4),(2,5),(3,6)] [] (by (try simp only [g3731]) <;> simp only [push_cast,seval]) (by (try simp only [g3731]) <;> simp only [push_cast,seval]) rfl rfl rfl)
     ·refine rk 4 ?_
      refine run_br h 47 (.inr (by kernel_rfl)) (fun g3732 h=>?_) (fun g3732 h=>?_)
      ·refine rs 5 [none,some ⟨bS (!decide (r3707.1 = ByteArray.empty)),[],7,[]⟩] _ (by kernel_rfl) (allP_cons (ob_p (v:=bS (!decide (r3707.1 = ByteArray.empty))) (nx:=7) (r:=[]) trivial) allP_nil) ?_
       refine run_br h 52 (.inl (by kernel_rfl)) (fun g3733 h=>?_) (fun g3733 h=>?_)
       ·refine rn 13 [(1,.v (.string text)),(2,.ptr 0 0),(5,.v (.string r3707.1)),(7,.own 4 0 r3709.2.length),(8,.ptr 5 0),(9,.ptr 6 0),(52,bS true)] [(0,.row 25 (Enc.cells p)),(1,.row 38 (fl r3706.2.2.2.1)),(2,.row 3 (fl r3706.2.2.2.2)),(3,.row 31 (Enc.cells r3707.2)),(4,.row 38 (fl r3709.2)),(5,.row 31 (Enc.cells r3709.1)),(6,.row 31 (Enc.cells r3711))] 7 (by kernel_rfl) ?_
        refine rk 11 ?_
        refine rf [(1,.v (.string text)),(2,.ptr 0 0),(5,.v (.string r3707.1)),(7,.own 4 0 r3709.2.length),(8,.ptr 5 0),(9,.ptr 6 0),(63,bS true)] [(0,.row 25 (Enc.cells p)),(1,.row 38 (fl r3706.2.2.2.1)),(2,.row 3 (fl r3706.2.2.2.2)),(3,.row 31 (Enc.cells r3707.2)),(4,.row 38 (fl r3709.2)),(5,.row 31 (Enc.cells r3709.1)),(6,.row 31 (Enc.cells r3711))] 7 (by kernel_rfl) ?_
        exact hK3730 (r3707.1,true,r3709.2,r3709.1,r3711) _ _ _ h (leSt_m [(0,0),(1,4),(2,5),(3,6)] [] (by first | ((try simp only [g3731,g3732,g3733]) <;> simp only [push_cast,seval]; done) | ((try simp only [g3731]); (try simp only [g3732]); (try simp only [g3733]); simp only [push_cast,seval]; done) | (exfalso; clear h; simp_all; done)) (by first | ((try simp only [g3731,g3732,g3733]) <;> simp only [push_cast,seval]; done) | ((try simp only [g3731]); (try simp only [g3732]); (try simp only [g3733]); simp only [push_cast,seval]; done) | (exfalso; clear h; simp_all; done)) rfl rfl rfl)
       ·refine rn 13 [(1,.v (.string text)),(2,.ptr 0 0),(5,.v (.string r3707.1)),(7,.own 4 0 r3709.2.length),(8,.ptr 5 0),(9,.ptr 6 0),(52,bS false)] [(0,.row 25 (Enc.cells p)),(1,.row 38 (fl r3706.2.2.2.1)),(2,.row 3 (fl r3706.2.2.2.2)),(3,.row 31 (Enc.cells r3707.2)),(4,.row 38 (fl r3709.2)),(5,.row 31 (Enc.cells r3709.1)),(6,.row 31 (Enc.cells r3711))] 7 (by kernel_rfl) ?_
        refine rk 4 ?_
        refine run_br h 56 (.inr (by kernel_rfl)) (fun g3734 h=>?_) (fun g3734 h=>?_)
        ·refine rk 3 ?_
         obtain ⟨r3735,hr3735,h⟩:=bind_sx h
         refine run_call 18 [.sl p.Code.length (fl p.Code)] (some 60) (by kernel_rfl) ?_
         refine call_0 (taskmillref_TextOf_spec p.Code r3735 hr3735) (by simp only [push_cast,seval]) (by simp only [push_cast,seval]) ?_
         refine back_f ?_
         refine rs 3 [some ⟨bS (!decide (r3707.1 = r3735)),[],7,[]⟩] _ (by kernel_rfl) (allP_cons (ob_p (v:=bS (!decide (r3707.1 = r3735))) (nx:=7) (r:=[]) trivial) allP_nil) ?_
         refine rf [(1,.v (.string text)),(2,.ptr 0 0),(5,.v (.string r3707.1)),(7,.own 4 0 r3709.2.length),(8,.ptr 5 0),(9,.ptr 6 0),(63,bS (!decide (r3707.1 = r3735)))] [(0,.row 25 (Enc.cells p)),(1,.row 38 (fl r3706.2.2.2.1)),(2,.row 3 (fl r3706.2.2.2.2)),(3,.row 31 (Enc.cells r3707.2)),(4,.row 38 (fl r3709.2)),(5,.row 31 (Enc.cells r3709.1)),(6,.row 31 (Enc.cells r3711))] 7 (by kernel_rfl) ?_
         exact hK3730 (r3707.1,(!decide (r3707.1 = r3735)),r3709.2,r3709.1,r3711) _ _ _ h (leSt_m [(0,0),(1,4),(2,5),(3,6)] [] (by first | ((try simp only [g3731,g3732,g3733,g3734]) <;> simp only [push_cast,seval]; done) | ((try simp only [g3731]); (try simp only [g3732]); (try simp only [g3733]); (try simp only [g3734]); simp only [push_cast,seval]; done) | (exfalso; clear h; simp_all; done)) (by first | ((try simp only [g3731,g3732,g3733,g3734]) <;> simp only [push_cast,seval]; done) | ((try simp only [g3731]); (try simp only [g3732]); (try simp only [g3733]); (try simp only [g3734]); simp only [push_cast,seval]; done) | (exfalso; clear h; simp_all; done)) rfl rfl rfl)
        ·refine rk 7 ?_
         refine rf [(1,.v (.string text)),(2,.ptr 0 0),(5,.v (.string r3707.1)),(7,.own 4 0 r3709.2.length),(8,.ptr 5 0),(9,.ptr 6 0),(63,bS false)] [(0,.row 25 (Enc.cells p)),(1,.row 38 (fl r3706.2.2.2.1)),(2,.row 3 (fl r3706.2.2.2.2)),(3,.row 31 (Enc.cells r3707.2)),(4,.row 38 (fl r3709.2)),(5,.row 31 (Enc.cells r3709.1)),(6,.row 31 (Enc.cells r3711))] 7 (by kernel_rfl) ?_
         exact hK3730 (r3707.1,false,r3709.2,r3709.1,r3711) _ _ _ h (leSt_m [(0,0),(1,4),(2,5),(3,6)] [] (by first | ((try simp only [g3731,g3732,g3733,g3734]) <;> simp only [push_cast,seval]; done) | ((try simp only [g3731]); (try simp only [g3732]); (try simp only [g3733]); (try simp only [g3734]); simp only [push_cast,seval]; done) | (exfalso; clear h; simp_all; done)) (by first | ((try simp only [g3731,g3732,g3733,g3734]) <;> simp only [push_cast,seval]; done) | ((try simp only [g3731]); (try simp only [g3732]); (try simp only [g3733]); (try simp only [g3734]); simp only [push_cast,seval]; done) | (exfalso; clear h; simp_all; done)) rfl rfl rfl)
      ·refine rk 9 ?_
       refine run_br h 56 (.inr (by kernel_rfl)) (fun g3736 h=>?_) (fun g3736 h=>?_)
       ·refine rn 17 [(1,.v (.string text)),(2,.ptr 0 0),(5,.v (.string r3707.1)),(7,.own 4 0 r3709.2.length),(8,.ptr 5 0),(9,.ptr 6 0),(52,bS false),(56,.gd true (bS true))] [(0,.row 25 (Enc.cells p)),(1,.row 38 (fl r3706.2.2.2.1)),(2,.row 3 (fl r3706.2.2.2.2)),(3,.row 31 (Enc.cells r3707.2)),(4,.row 38 (fl r3709.2)),(5,.row 31 (Enc.cells r3709.1)),(6,.row 31 (Enc.cells r3711))] 7 (by kernel_rfl) ?_
        refine rk 3 ?_
        obtain ⟨r3737,hr3737,h⟩:=bind_sx h
        refine run_call 18 [.sl p.Code.length (fl p.Code)] (some 60) (by kernel_rfl) ?_
        refine call_0 (taskmillref_TextOf_spec p.Code r3737 hr3737) (by simp only [push_cast,seval]) (by simp only [push_cast,seval]) ?_
        refine back_f ?_
        refine rs 3 [some ⟨bS (!decide (r3707.1 = r3737)),[],7,[]⟩] _ (by kernel_rfl) (allP_cons (ob_p (v:=bS (!decide (r3707.1 = r3737))) (nx:=7) (r:=[]) trivial) allP_nil) ?_
        refine rf [(1,.v (.string text)),(2,.ptr 0 0),(5,.v (.string r3707.1)),(7,.own 4 0 r3709.2.length),(8,.ptr 5 0),(9,.ptr 6 0),(63,bS (!decide (r3707.1 = r3737)))] [(0,.row 25 (Enc.cells p)),(1,.row 38 (fl r3706.2.2.2.1)),(2,.row 3 (fl r3706.2.2.2.2)),(3,.row 31 (Enc.cells r3707.2)),(4,.row 38 (fl r3709.2)),(5,.row 31 (Enc.cells r3709.1)),(6,.row 31 (Enc.cells r3711))] 7 (by kernel_rfl) ?_
        exact hK3730 (r3707.1,(!decide (r3707.1 = r3737)),r3709.2,r3709.1,r3711) _ _ _ h (leSt_m [(0,0),(1,4),(2,5),(3,6)] [] (by first | ((try simp only [g3731,g3732,g3736]) <;> simp only [push_cast,seval]; done) | ((try simp only [g3731]); (try simp only [g3732]); (try simp only [g3736]); simp only [push_cast,seval]; done) | (exfalso; clear h; simp_all; done)) (by first | ((try simp only [g3731,g3732,g3736]) <;> simp only [push_cast,seval]; done) | ((try simp only [g3731]); (try simp only [g3732]); (try simp only [g3736]); simp only [push_cast,seval]; done) | (exfalso; clear h; simp_all; done)) rfl rfl rfl)
       ·refine rn 17 [(1,.v (.string text)),(2,.ptr 0 0),(5,.v (.string r3707.1)),(7,.own 4 0 r3709.2.length),(8,.ptr 5 0),(9,.ptr 6 0),(52,bS false),(56,.gd true (bS false))] [(0,.row 25 (Enc.cells p)),(1,.row 38 (fl r3706.2.2.2.1)),(2,.row 3 (fl r3706.2.2.2.2)),(3,.row 31 (Enc.cells r3707.2)),(4,.row 38 (fl r3709.2)),(5,.row 31 (Enc.cells r3709.1)),(6,.row 31 (Enc.cells r3711))] 7 (by kernel_rfl) ?_
        refine rk 7 ?_
        refine rf [(1,.v (.string text)),(2,.ptr 0 0),(5,.v (.string r3707.1)),(7,.own 4 0 r3709.2.length),(8,.ptr 5 0),(9,.ptr 6 0),(63,bS false)] [(0,.row 25 (Enc.cells p)),(1,.row 38 (fl r3706.2.2.2.1)),(2,.row 3 (fl r3706.2.2.2.2)),(3,.row 31 (Enc.cells r3707.2)),(4,.row 38 (fl r3709.2)),(5,.row 31 (Enc.cells r3709.1)),(6,.row 31 (Enc.cells r3711))] 7 (by kernel_rfl) ?_
        exact hK3730 (r3707.1,false,r3709.2,r3709.1,r3711) _ _ _ h (leSt_m [(0,0),(1,4),(2,5),(3,6)] [] (by first | ((try simp only [g3731,g3732,g3736]) <;> simp only [push_cast,seval]; done) | ((try simp only [g3731]); (try simp only [g3732]); (try simp only [g3736]); simp only [push_cast,seval]; done) | (exfalso; clear h; simp_all; done)) (by first | ((try simp only [g3731,g3732,g3736]) <;> simp only [push_cast,seval]; done) | ((try simp only [g3731]); (try simp only [g3732]); (try simp only [g3736]); simp only [push_cast,seval]; done) | (exfalso; clear h; simp_all; done)) rfl rfl rfl)
    ·rintro ⟨s2,t63q2,c1q2,c2q8,c3q6⟩ h
     try dsimp only at h ⊢
     unfold taskmilllaw_CodeTexts_j5 at h
     refine cond_sx h (by kernel_rfl) (fun g3952 h=>?_) (fun g3952 h=>?_)
     ·refine seq_np ?_
      refine reg_f ?_
      refine rk 1 ?_
      refine rf [(4,bS false)] [(0,.row 25 (Enc.cells p)),(1,.row 38 (fl c1q2)),(2,.row 31 (Enc.cells c2q8)),(3,.row 31 (Enc.cells c3q6))] 4 (by kernel_rfl) ?_
      refine wk_id ?_
      obtain rfl:=Option.some.inj h
      refine ret_at (bS false) (by kernel_rfl) ?_
      exact ret_e [] [] (by simp only [push_cast,seval]) (by simp only [push_cast,seval]) rfl rfl rfl
     ·refine wk_id ?_
      refine seq_cut (A:=Unit) (fun a=>([(1,.v (.string text)),(7,.own 0 0 c1q2.length),(8,.ptr 1 0),(9,.ptr 2 0)],[(0,.row 38 (fl c1q2)),(1,.row 31 (Enc.cells c2q8)),(2,.row 31 (Enc.cells c3q6))],3)) (fun a=>(taskmilllaw_CodeTexts_j3 text c1q2 c2q8 c3q6) = some r) (fun K3747 hK3747=>?_) ?_
      ·refine seq_cut (A:=Unit) (fun _=>([(1,.v (.string text)),(2,.ptr 0 0),(5,.v (.string s2)),(7,.own 1 0 c1q2.length),(8,.ptr 2 0),(9,.ptr 3 0),(71,bS ((c3q6.Code == 0) && (decide ((((s2).size:Nat):Int)≤20000))))],[(0,.row 25 (Enc.cells p)),(1,.row 38 (fl c1q2)),(2,.row 31 (Enc.cells c2q8)),(3,.row 31 (Enc.cells c3q6))],4)) (fun _=>True) (fun K3749 hK3749=>?_) (fun _ _=>?_)
       ·refine reg_f ?_
        refine rk 4 ?_
        refine run_split 67 (c3q6.Code == 0) (.inl (by kernel_rfl)) (fun g3750=>?_) (fun g3750=>?_)
        ·refine rk 4 ?_
         refine rf [(1,.v (.string text)),(2,.ptr 0 0),(5,.v (.string s2)),(7,.own 1 0 c1q2.length),(8,.ptr 2 0),(9,.ptr 3 0),(71,bS (decide ((((s2).size:Nat):Int)≤20000)))] [(0,.row 25 (Enc.cells p)),(1,.row 38 (fl c1q2)),(2,.row 31 (Enc.cells c2q8)),(3,.row 31 (Enc.cells c3q6))] 4 (by kernel_rfl) ?_
         exact hK3749 () _ _ _ trivial (leSt_m [(0,0),(1,1),(2,2),(3,3)] [] (by (try simp only [g3750]) <;> simp only [push_cast,seval]) (by (try simp only [g3750]) <;> simp only [push_cast,seval]) rfl rfl rfl)
        ·refine rk 4 ?_
         refine rf [(1,.v (.string text)),(2,.ptr 0 0),(5,.v (.string s2)),(7,.own 1 0 c1q2.length),(8,.ptr 2 0),(9,.ptr 3 0),(71,bS false)] [(0,.row 25 (Enc.cells p)),(1,.row 38 (fl c1q2)),(2,.row 31 (Enc.cells c2q8)),(3,.row 31 (Enc.cells c3q6))] 4 (by kernel_rfl) ?_
         exact hK3749 () _ _ _ trivial (leSt_m [(0,0),(1,1),(2,2),(3,3)] [] (by (try simp only [g3750]) <;> simp only [push_cast,seval]) (by (try simp only [g3750]) <;> simp only [push_cast,seval]) rfl rfl rfl)
       ·dsimp only
        refine cond_sx h (by kernel_rfl) (fun g3760 h=>?_) (fun g3760 h=>?_)
        ·refine seq_np ?_
         refine reg_f ?_
         refine rk 1 ?_
         obtain ⟨r3752,hr3752,h⟩:=bind_sx h
         refine call_x (code_Parse_spec s2 r3752 hr3752) (args:=[.v (.string s2)]) (dst:=(some 74)) (by kernel_rfl) [(0,.row 25 (Enc.cells p)),(1,.row 38 (fl c1q2)),(2,.row 31 (Enc.cells c2q8)),(3,.row 31 (Enc.cells c3q6))] 4 (by kernel_rfl) [] [] (.tup [.own 4 0 r3752.2.length,.agg (Enc.cells r3752.1)]) [(4,.row 38 (fl r3752.2))] (by simp only [push_cast,seval]) (by simp only [push_cast,seval]) (by kernel_rfl) (.inl rfl) (by simp only [push_cast,seval]) (by simp only [push_cast,seval]) ?_
         refine rk 6 ?_
         refine rf [(1,.v (.string text)),(2,.ptr 0 0),(7,.own 1 0 c1q2.length),(8,.ptr 2 0),(9,.ptr 3 0),(10,.own 4 0 r3752.2.length),(11,.ptr 5 0)] [(0,.row 25 (Enc.cells p)),(1,.row 38 (fl c1q2)),(2,.row 31 (Enc.cells c2q8)),(3,.row 31 (Enc.cells c3q6)),(4,.row 38 (fl r3752.2)),(5,.row 31 (Enc.cells r3752.1))] 6 (by kernel_rfl) ?_
         refine wk_id ?_
         refine seq_cut (A:=Bool) (fun a=>([(1,.v (.string text)),(7,.own 0 0 c1q2.length),(8,.ptr 1 0),(9,.ptr 2 0),(86,bS a)],[(0,.row 38 (fl c1q2)),(1,.row 31 (Enc.cells c2q8)),(2,.row 31 (Enc.cells c3q6))],3)) (fun a=>(taskmilllaw_CodeTexts_j4 text c1q2 c2q8 c3q6 a) = some r) (fun K3756 hK3756=>?_) ?_
         ·refine reg_f ?_
          refine rk 4 ?_
          refine run_br h 80 (.inl (by kernel_rfl)) (fun g3757 h=>?_) (fun g3757 h=>?_)
          ·refine rk 6 ?_
           refine rf [(1,.v (.string text)),(7,.own 1 0 c1q2.length),(8,.ptr 2 0),(9,.ptr 3 0),(86,bS true)] [(0,.row 25 (Enc.cells p)),(1,.row 38 (fl c1q2)),(2,.row 31 (Enc.cells c2q8)),(3,.row 31 (Enc.cells c3q6)),(4,.row 38 (fl r3752.2)),(5,.row 31 (Enc.cells r3752.1))] 6 (by kernel_rfl) ?_
           exact hK3756 (true) _ _ _ h (leSt_m [(0,1),(1,2),(2,3)] [] (by (try simp only [g3757]) <;> simp only [push_cast,seval]) (by (try simp only [g3757]) <;> simp only [push_cast,seval]) rfl rfl rfl)
          ·refine rk 3 ?_
           obtain ⟨r3758,hr3758,h⟩:=bind_sx h
           refine call_x (taskmilllaw_sameCode_spec r3752.2 p.Code r3758 hr3758) (args:=[.own 4 0 r3752.2.length,.sl p.Code.length (fl p.Code)]) (dst:=(some 84)) (by kernel_rfl) [(0,.row 25 (Enc.cells p)),(1,.row 38 (fl c1q2)),(2,.row 31 (Enc.cells c2q8)),(3,.row 31 (Enc.cells c3q6)),(4,.row 38 (fl r3752.2)),(5,.row 31 (Enc.cells r3752.1))] 6 (by kernel_rfl) [] [4] (bS r3758) [] (by simp only [push_cast,seval]) (by simp only [push_cast,seval]) (by kernel_rfl) (.inr ⟨by simp only [push_cast,seval],by simp only [push_cast,seval]⟩) (by simp only [push_cast,seval]) (by simp only [push_cast,seval]) ?_
           refine rk 2 ?_
           refine rf [(1,.v (.string text)),(7,.own 1 0 c1q2.length),(8,.ptr 2 0),(9,.ptr 3 0),(86,bS (!r3758))] [(0,.row 25 (Enc.cells p)),(1,.row 38 (fl c1q2)),(2,.row 31 (Enc.cells c2q8)),(3,.row 31 (Enc.cells c3q6)),(4,.row 38 (fl r3752.2)),(5,.row 31 (Enc.cells r3752.1))] 6 (by kernel_rfl) ?_
           exact hK3756 ((!r3758)) _ _ _ h (leSt_m [(0,1),(1,2),(2,3)] [] (by (try simp only [g3757]) <;> simp only [push_cast,seval]) (by (try simp only [g3757]) <;> simp only [push_cast,seval]) rfl rfl rfl)
         ·rintro t86q2 h
          try dsimp only at h ⊢
          unfold taskmilllaw_CodeTexts_j4 at h
          refine cond_sx h (by kernel_rfl) (fun g3759 h=>?_) (fun g3759 h=>?_)
          ·refine seq_np ?_
           refine reg_f ?_
           refine rk 1 ?_
           refine rf [(4,bS false)] [(0,.row 38 (fl c1q2)),(1,.row 31 (Enc.cells c2q8)),(2,.row 31 (Enc.cells c3q6))] 3 (by kernel_rfl) ?_
           refine wk_id ?_
           obtain rfl:=Option.some.inj h
           refine ret_at (bS false) (by kernel_rfl) ?_
           exact ret_e [] [] (by simp only [push_cast,seval]) (by simp only [push_cast,seval]) rfl rfl rfl
          ·exact hK3747 () _ _ _ h (leSt_m [(0,0),(1,1),(2,2)] [] (by simp only [push_cast,seval]) (by simp only [push_cast,seval]) rfl rfl rfl)
        ·exact hK3747 () _ _ _ h (leSt_m [(0,1),(1,2),(2,3)] [] (by simp only [push_cast,seval]) (by simp only [push_cast,seval]) rfl rfl rfl)
      ·rintro _ h
       try dsimp only at h ⊢
       unfold taskmilllaw_CodeTexts_j3 at h
       refine seq_np ?_
       refine reg_f ?_
       refine rk 2 ?_
       refine rf [(1,.v (.string text)),(7,.own 0 0 c1q2.length),(8,.ptr 1 0),(9,.ptr 2 0)] [(0,.row 38 (fl c1q2)),(1,.row 31 (Enc.cells c2q8)),(2,.row 31 [iS 0,iS 0])] 3 (by kernel_rfl) ?_
       refine wk_id ?_
       refine seq_np ?_
       refine reg_f ?_
       refine rk 1 ?_
       refine rf [(1,.v (.string text)),(7,.own 0 0 c1q2.length),(8,.ptr 1 0),(9,.ptr 2 0),(12,.v (.slice none 0 0))] [(0,.row 38 (fl c1q2)),(1,.row 31 (Enc.cells c2q8)),(2,.row 31 [iS 0,iS 0])] 3 (by kernel_rfl) ?_
       refine wk_id ?_
       refine seq_cut (A:=Fault×(List GInstr)) (fun a=>([(7,.own 0 0 c1q2.length),(8,.ptr 1 0),(9,.ptr 2 0),(12,.own 3 0 a.2.length)],[(0,.row 38 (fl c1q2)),(1,.row 31 (Enc.cells c2q8)),(2,.row 31 (Enc.cells a.1)),(3,.row 38 (fl a.2))],4)) (fun a=>(taskmilllaw_CodeTexts_j1 c1q2 c2q8 a.1 a.2) = some r) (fun K3802 hK3802=>?_) ?_
       ·refine seq_np ?_
        refine reg_f ?_
        refine rk 3 ?_
        refine rf [(1,.v (.string text)),(7,.own 0 0 c1q2.length),(8,.ptr 1 0),(9,.ptr 2 0),(12,.v (.slice none 0 0)),(90,bS (decide ((20000:Int) < (((text).size:Nat):Int))))] [(0,.row 38 (fl c1q2)),(1,.row 31 (Enc.cells c2q8)),(2,.row 31 [iS 0,iS 0])] 3 (by kernel_rfl) ?_
        refine wk_id ?_
        refine cond_sx h (by kernel_rfl) (fun g3945 h=>?_) (fun g3945 h=>?_)
        ·refine reg_f ?_
         obtain ⟨r3804,hr3804,h⟩:=bind_sx h
         refine run_call 14 [iS 2,iS 0] (some 91) (by kernel_rfl) ?_
         refine call_0 (taskmillref_F_spec 2 0 r3804 hr3804) (by simp only [push_cast,seval]) (by simp only [push_cast,seval]) ?_
         refine back_f ?_
         refine rk 1 ?_
         refine rf [(7,.own 0 0 c1q2.length),(8,.ptr 1 0),(9,.ptr 2 0),(12,.v (.slice none 0 0))] [(0,.row 38 (fl c1q2)),(1,.row 31 (Enc.cells c2q8)),(2,.row 31 (Enc.cells r3804))] 3 (by kernel_rfl) ?_
         exact hK3802 (r3804,[]) _ _ _ h (leSt_m [(0,0),(1,1),(2,2)] [] (by simp only [push_cast,seval]) (by simp only [push_cast,seval]) rfl rfl rfl)
        ·refine seq_np ?_
         refine reg_f ?_
         refine rk 1 ?_
         obtain ⟨r3806,hr3806,h⟩:=bind_sx h
         refine call_x (taskmillref_LinesOf_spec text r3806 hr3806) (args:=[.v (.string text)]) (dst:=(some 94)) (by kernel_rfl) [(0,.row 38 (fl c1q2)),(1,.row 31 (Enc.cells c2q8)),(2,.row 31 [iS 0,iS 0])] 3 (by kernel_rfl) [] [] (.tup [.own 3 0 r3806.2.length,iS r3806.1]) [(3,.row 9 (fl r3806.2))] (by simp only [push_cast,seval]) (by simp only [push_cast,seval]) (by kernel_rfl) (.inl rfl) (by simp only [push_cast,seval]) (by simp only [push_cast,seval]) ?_
         refine rk 5 ?_
         refine rf [(7,.own 0 0 c1q2.length),(8,.ptr 1 0),(9,.ptr 2 0),(12,.v (.slice none 0 0)),(13,.own 3 0 r3806.2.length),(14,iS r3806.1)] [(0,.row 38 (fl c1q2)),(1,.row 31 (Enc.cells c2q8)),(2,.row 31 [iS 0,iS 0]),(3,.row 9 (fl r3806.2))] 4 (by kernel_rfl) ?_
         refine wk_id ?_
         refine seq_np ?_
         refine seq_np ?_
         refine reg_f ?_
         refine rk 1 ?_
         refine rf [(7,.own 0 0 c1q2.length),(8,.ptr 1 0),(9,.ptr 2 0),(12,.v (.slice none 0 0)),(13,.own 3 0 r3806.2.length),(14,iS r3806.1),(15,iS 0)] [(0,.row 38 (fl c1q2)),(1,.row 31 (Enc.cells c2q8)),(2,.row 31 [iS 0,iS 0]),(3,.row 9 (fl r3806.2))] 4 (by kernel_rfl) ?_
         refine wk_id ?_
         refine block_np ?_
         refine loop_sx (S:=Int×Int×Fault×(List GInstr)×(List ByteArray)) (fun a=>([(7,.own 0 0 c1q2.length),(8,.ptr 1 0),(9,.ptr 2 0),(12,.own 3 0 a.2.2.2.1.length),(13,.own 4 0 a.2.2.2.2.length),(14,iS a.1),(15,iS a.2.1)],[(0,.row 38 (fl c1q2)),(1,.row 31 (Enc.cells c2q8)),(2,.row 31 (Enc.cells a.2.2.1)),(3,.row 38 (fl a.2.2.2.1)),(4,.row 9 (fl a.2.2.2.2))],5)) h (leSt_m [(0,0),(1,1),(2,2),(4,3)] [] (by simp only [push_cast,seval]) (by simp only [push_cast,seval]) rfl rfl rfl) ?_
         rintro ⟨bad14,i9,c2q28,c3q19,c4q14⟩ o2 R2 h hr2 hn2 hx2 ht2
         try dsimp only at h hn2 ⊢
         unfold taskmilllaw_CodeTexts_l1 at h
         try dsimp only at h
         refine seq_np ?_
         refine seq_cut (A:=Unit) (fun _=>([(7,.own 0 0 c1q2.length),(8,.ptr 1 0),(9,.ptr 2 0),(12,.own 3 0 c3q19.length),(13,.own 4 0 c4q14.length),(14,iS bad14),(15,iS i9),(105,bS ((decide (i9 < (c4q14.length:Int))) && (c2q28.Code == 0)))],[(0,.row 38 (fl c1q2)),(1,.row 31 (Enc.cells c2q8)),(2,.row 31 (Enc.cells c2q28)),(3,.row 38 (fl c3q19)),(4,.row 9 (fl c4q14))],5)) (fun _=>True) (fun K3901 hK3901=>?_) (fun _ _=>?_)
         ·refine reg_f ?_
          refine rk 5 ?_
          refine run_split 101 (decide (i9 < (c4q14.length:Int))) (.inl (by kernel_rfl)) (fun g3902=>?_) (fun g3902=>?_)
          ·refine rk 4 ?_
           refine rf [(7,.own 0 0 c1q2.length),(8,.ptr 1 0),(9,.ptr 2 0),(12,.own 3 0 c3q19.length),(13,.own 4 0 c4q14.length),(14,iS bad14),(15,iS i9),(105,bS (c2q28.Code == 0))] [(0,.row 38 (fl c1q2)),(1,.row 31 (Enc.cells c2q8)),(2,.row 31 (Enc.cells c2q28)),(3,.row 38 (fl c3q19)),(4,.row 9 (fl c4q14))] 5 (by kernel_rfl) ?_
           exact hK3901 () _ _ _ trivial (leSt_m [(0,0),(1,1),(2,2),(3,3),(4,4)] [] (by (try simp only [g3902]) <;> simp only [push_cast,seval]) (by (try simp only [g3902]) <;> simp only [push_cast,seval]) rfl rfl rfl)
          ·refine rk 4 ?_
           refine rf [(7,.own 0 0 c1q2.length),(8,.ptr 1 0),(9,.ptr 2 0),(12,.own 3 0 c3q19.length),(13,.own 4 0 c4q14.length),(14,iS bad14),(15,iS i9),(105,bS false)] [(0,.row 38 (fl c1q2)),(1,.row 31 (Enc.cells c2q8)),(2,.row 31 (Enc.cells c2q28)),(3,.row 38 (fl c3q19)),(4,.row 9 (fl c4q14))] 5 (by kernel_rfl) ?_
           exact hK3901 () _ _ _ trivial (leSt_m [(0,0),(1,1),(2,2),(3,3),(4,4)] [] (by (try simp only [g3902]) <;> simp only [push_cast,seval]) (by (try simp only [g3902]) <;> simp only [push_cast,seval]) rfl rfl rfl)
         ·dsimp only
          refine cond_sx h (by kernel_rfl) (fun g3944 h=>?_) (fun g3944 h=>?_)
          ·refine wk_id ?_
           refine seq_np ?_
           refine block_np ?_
           refine chk_sx h (fun g3925 h=>?_)
           refine seq_np ?_
           refine reg_f ?_
           have k3924:0≤i9∧i9 < (c4q14.length:Int):=by first | simpa only [Bool.and_eq_true,decide_eq_true_eq,bne_iff_ne,ne_eq] using g3925 | (simp at g3925 ⊢; omega) | simp
           refine rs 4 [none,none,some ⟨.ptr 4 (0+(i9).toNat * 1),[],5,[4]⟩,some ⟨.v (.string (ix c4q14 i9)),[],5,[4]⟩] _ (by kernel_rfl) (allP_cons (ob_ld c4q14 i9 1 0 (0+(i9).toNat * 1) k3924 rfl (by decide) (by first | rfl | omega) (dflS Tryd.prog 9) (.v (.string (ix c4q14 i9))) rfl 5 [4]) (allP_cons (ob_ix_o 4 c4q14.length 0 1 5 i9 k3924) allP_nil)) ?_
           obtain ⟨r3926,hr3926,h⟩:=bind_sx h
           refine run_call 20 [.v (.string (ix c4q14 i9))] (some 113) (by kernel_rfl) ?_
           refine call_0 (taskmillref_InstrOf_spec (ix c4q14 i9) r3926 hr3926) (by simp only [push_cast,seval]) (by simp only [push_cast,seval]) ?_
           refine back_f ?_
           refine rk 6 ?_
           refine rf [(7,.own 0 0 c1q2.length),(8,.ptr 1 0),(9,.ptr 2 0),(12,.own 3 0 c3q19.length),(13,.own 4 0 c4q14.length),(14,iS bad14),(15,iS i9),(16,.ptr 5 0),(17,bS r3926.2)] [(0,.row 38 (fl c1q2)),(1,.row 31 (Enc.cells c2q8)),(2,.row 31 (Enc.cells c2q28)),(3,.row 38 (fl c3q19)),(4,.row 9 (fl c4q14)),(5,.row 38 (Enc.cells r3926.1))] 6 (by kernel_rfl) ?_
           refine wk_id ?_
           refine seq_cut (A:=Fault×GInstr) (fun a=>([(7,.own 0 0 c1q2.length),(8,.ptr 1 0),(9,.ptr 2 0),(12,.own 3 0 c3q19.length),(13,.own 4 0 c4q14.length),(14,iS bad14),(15,iS i9),(16,.ptr 5 0)],[(0,.row 38 (fl c1q2)),(1,.row 31 (Enc.cells c2q8)),(2,.row 31 (Enc.cells a.1)),(3,.row 38 (fl c3q19)),(4,.row 9 (fl c4q14)),(5,.row 38 (Enc.cells a.2))],6)) (fun a=>(taskmilllaw_CodeTexts_j2 c1q2 c2q8 bad14 i9 c3q19 c4q14 a.1 a.2) = some o2) (fun K3930 hK3930=>?_) ?_
           ·refine seq_np ?_
            refine reg_f ?_
            refine rk 2 ?_
            refine rf [(7,.own 0 0 c1q2.length),(8,.ptr 1 0),(9,.ptr 2 0),(12,.own 3 0 c3q19.length),(13,.own 4 0 c4q14.length),(14,iS bad14),(15,iS i9),(16,.ptr 5 0),(117,bS (!r3926.2))] [(0,.row 38 (fl c1q2)),(1,.row 31 (Enc.cells c2q8)),(2,.row 31 (Enc.cells c2q28)),(3,.row 38 (fl c3q19)),(4,.row 9 (fl c4q14)),(5,.row 38 (Enc.cells r3926.1))] 6 (by kernel_rfl) ?_
            refine wk_id ?_
            refine cond_sx h (by kernel_rfl) (fun g3933 h=>?_) (fun g3933 h=>?_)
            ·refine reg_f ?_
             refine rk 1 ?_
             obtain ⟨r3932,hr3932,h⟩:=bind_sx h
             refine run_call 14 [iS 1,iS i9] (some 119) (by kernel_rfl) ?_
             refine call_0 (taskmillref_F_spec 1 i9 r3932 hr3932) (by simp only [push_cast,seval]) (by simp only [push_cast,seval]) ?_
             refine back_f ?_
             refine rk 1 ?_
             refine rf [(7,.own 0 0 c1q2.length),(8,.ptr 1 0),(9,.ptr 2 0),(12,.own 3 0 c3q19.length),(13,.own 4 0 c4q14.length),(14,iS bad14),(15,iS i9),(16,.ptr 5 0)] [(0,.row 38 (fl c1q2)),(1,.row 31 (Enc.cells c2q8)),(2,.row 31 (Enc.cells r3932)),(3,.row 38 (fl c3q19)),(4,.row 9 (fl c4q14)),(5,.row 38 (Enc.cells r3926.1))] 6 (by kernel_rfl) ?_
             exact hK3930 (r3932,r3926.1) _ _ _ h (leSt_m [(0,0),(1,1),(2,2),(3,3),(4,4),(5,5)] [] (by simp only [push_cast,seval]) (by simp only [push_cast,seval]) rfl rfl rfl)
            ·exact hK3930 (c2q28,r3926.1) _ _ _ h (leSt_m [(0,0),(1,1),(2,2),(3,3),(4,4),(5,5)] [] (by simp only [push_cast,seval]) (by simp only [push_cast,seval]) rfl rfl rfl)
           ·rintro ⟨c2q31,c5q11⟩ h
            try dsimp only at h ⊢
            unfold taskmilllaw_CodeTexts_j2 at h
            refine chk_sx h (fun g3937 h=>?_)
            refine reg_f ?_
            have k3936:(c3q19++([c5q11]:List GInstr)).length * 24≤140737488355328:=by first | simpa only [Bool.and_eq_true,decide_eq_true_eq,bne_iff_ne,ne_eq] using g3937 | (simp at g3937 ⊢; omega) | simp
            refine rs 5 [none,none,none,some ⟨.own 7 0 (c3q19++([c5q11]:List GInstr)).length,[(7,.row 38 (fl (c3q19++([c5q11]:List GInstr)))),(3,.dead)],8,[3,6]⟩] _ (by kernel_rfl) (allP_cons (ob_app (P:=Tryd.prog) c3q19 ([c5q11]:List GInstr) 3 24 rfl (appCells (fl ([c5q11]:List GInstr)) 0 (([c5q11]:List GInstr).length * 3)) ([c5q11]:List GInstr).length (app_own ([c5q11]:List GInstr) 3 rfl) rfl (0+([c5q11]:List GInstr).length * 3≤(fl ([c5q11]:List GInstr)).length) (app_own_le ([c5q11]:List GInstr) 3 rfl) 38 (by kernel_rfl) (by decide) k3936 3 7 [6]) allP_nil) ?_
            refine rf [(7,.own 0 0 c1q2.length),(8,.ptr 1 0),(9,.ptr 2 0),(12,.own 7 0 (c3q19++([c5q11]:List GInstr)).length),(13,.own 4 0 c4q14.length),(14,iS bad14),(15,iS i9)] [(0,.row 38 (fl c1q2)),(1,.row 31 (Enc.cells c2q8)),(2,.row 31 (Enc.cells c2q31)),(3,.dead),(4,.row 9 (fl c4q14)),(5,.row 38 (Enc.cells c5q11)),(6,.row 38 (fl ([c5q11]:List GInstr))),(7,.row 38 (fl (c3q19++([c5q11]:List GInstr))))] 8 (by kernel_rfl) ?_
            refine wk_id ?_
            refine wk_id ?_
            refine reg_f ?_
            refine rk 3 ?_
            refine rf [(7,.own 0 0 c1q2.length),(8,.ptr 1 0),(9,.ptr 2 0),(12,.own 7 0 (c3q19++([c5q11]:List GInstr)).length),(13,.own 4 0 c4q14.length),(14,iS bad14),(15,iS (IntKind.i64.wrap (i9+1)))] [(0,.row 38 (fl c1q2)),(1,.row 31 (Enc.cells c2q8)),(2,.row 31 (Enc.cells c2q31)),(3,.dead),(4,.row 9 (fl c4q14)),(5,.row 38 (Enc.cells c5q11)),(6,.row 38 (fl ([c5q11]:List GInstr))),(7,.row 38 (fl (c3q19++([c5q11]:List GInstr))))] 8 (by kernel_rfl) ?_
            exact hn2 (bad14,(IntKind.i64.wrap (i9+1)),c2q31,(c3q19++([c5q11]:List GInstr)),c4q14) _ _ _ (Option.some.inj h).symm (leSt_m [(0,0),(1,1),(2,2),(3,7),(4,4)] [] (by simp only [push_cast,seval]) (by simp only [push_cast,seval]) rfl rfl rfl)
          ·change R2 (.exit 0) _ _ _
           refine ex_cast hx2 (id:=0) ?_
           obtain ⟨r0,h,e0⟩:=map_sx h
           have e1:=hr2 r0 e0.symm
           subst r0
           refine wk_id ?_
           refine wk_id ?_
           refine seq_cut (A:=Unit) (fun _=>([(7,.own 0 0 c1q2.length),(8,.ptr 1 0),(9,.ptr 2 0),(12,.own 3 0 c3q19.length),(14,iS bad14),(130,bS ((c2q28.Code == 0) && (decide ((0:Int)≤bad14))))],[(0,.row 38 (fl c1q2)),(1,.row 31 (Enc.cells c2q8)),(2,.row 31 (Enc.cells c2q28)),(3,.row 38 (fl c3q19)),(4,.row 9 (fl c4q14))],5)) (fun _=>True) (fun K3939 hK3939=>?_) (fun _ _=>?_)
           ·refine reg_f ?_
            refine rk 4 ?_
            refine run_split 127 (c2q28.Code == 0) (.inl (by kernel_rfl)) (fun g3940=>?_) (fun g3940=>?_)
            ·refine rk 3 ?_
             refine rf [(7,.own 0 0 c1q2.length),(8,.ptr 1 0),(9,.ptr 2 0),(12,.own 3 0 c3q19.length),(14,iS bad14),(130,bS (decide ((0:Int)≤bad14)))] [(0,.row 38 (fl c1q2)),(1,.row 31 (Enc.cells c2q8)),(2,.row 31 (Enc.cells c2q28)),(3,.row 38 (fl c3q19)),(4,.row 9 (fl c4q14))] 5 (by kernel_rfl) ?_
             exact hK3939 () _ _ _ trivial (leSt_m [(0,0),(1,1),(2,2),(3,3),(4,4)] [] (by (try simp only [g3940]) <;> simp only [push_cast,seval]) (by (try simp only [g3940]) <;> simp only [push_cast,seval]) rfl rfl rfl)
            ·refine rk 3 ?_
             refine rf [(7,.own 0 0 c1q2.length),(8,.ptr 1 0),(9,.ptr 2 0),(12,.own 3 0 c3q19.length),(14,iS bad14),(130,bS false)] [(0,.row 38 (fl c1q2)),(1,.row 31 (Enc.cells c2q8)),(2,.row 31 (Enc.cells c2q28)),(3,.row 38 (fl c3q19)),(4,.row 9 (fl c4q14))] 5 (by kernel_rfl) ?_
             exact hK3939 () _ _ _ trivial (leSt_m [(0,0),(1,1),(2,2),(3,3),(4,4)] [] (by (try simp only [g3940]) <;> simp only [push_cast,seval]) (by (try simp only [g3940]) <;> simp only [push_cast,seval]) rfl rfl rfl)
           ·dsimp only
            refine cond_sx h (by kernel_rfl) (fun g3943 h=>?_) (fun g3943 h=>?_)
            ·refine reg_f ?_
             refine rk 1 ?_
             obtain ⟨r3942,hr3942,h⟩:=bind_sx h
             refine run_call 14 [iS 1,iS bad14] (some 132) (by kernel_rfl) ?_
             refine call_0 (taskmillref_F_spec 1 bad14 r3942 hr3942) (by simp only [push_cast,seval]) (by simp only [push_cast,seval]) ?_
             refine back_f ?_
             refine rk 1 ?_
             refine rf [(7,.own 0 0 c1q2.length),(8,.ptr 1 0),(9,.ptr 2 0),(12,.own 3 0 c3q19.length)] [(0,.row 38 (fl c1q2)),(1,.row 31 (Enc.cells c2q8)),(2,.row 31 (Enc.cells r3942)),(3,.row 38 (fl c3q19)),(4,.row 9 (fl c4q14))] 5 (by kernel_rfl) ?_
             exact hK3802 (r3942,c3q19) _ _ _ h (leSt_m [(0,0),(1,1),(2,2),(3,3)] [] (by simp only [push_cast,seval]) (by simp only [push_cast,seval]) rfl rfl rfl)
            ·exact hK3802 (c2q28,c3q19) _ _ _ h (leSt_m [(0,0),(1,1),(2,2),(3,3)] [] (by simp only [push_cast,seval]) (by simp only [push_cast,seval]) rfl rfl rfl)
       ·rintro ⟨c2q14,c3q10⟩ h
        try dsimp only at h ⊢
        unfold taskmilllaw_CodeTexts_j1 at h
        refine seq_np ?_
        refine seq_np ?_
        refine reg_f ?_
        refine rk 3 ?_
        refine rf [(7,.own 0 0 c1q2.length),(9,.ptr 2 0),(12,.own 3 0 c3q10.length),(135,bS (!((c2q8.Code == c2q14.Code) && ((c2q8.At == c2q14.At) && true))))] [(0,.row 38 (fl c1q2)),(1,.row 31 (Enc.cells c2q8)),(2,.row 31 (Enc.cells c2q14)),(3,.row 38 (fl c3q10))] 4 (by kernel_rfl) ?_
        refine wk_id ?_
        refine cond_sx h (by kernel_rfl) (fun g3951 h=>?_) (fun g3951 h=>?_)
        ·refine seq_np ?_
         refine reg_f ?_
         refine rk 1 ?_
         refine rf [(4,bS false)] [(0,.row 38 (fl c1q2)),(1,.row 31 (Enc.cells c2q8)),(2,.row 31 (Enc.cells c2q14)),(3,.row 38 (fl c3q10))] 4 (by kernel_rfl) ?_
         refine wk_id ?_
         obtain rfl:=Option.some.inj h
         refine ret_at (bS false) (by kernel_rfl) ?_
         exact ret_e [] [] (by simp only [push_cast,seval]) (by simp only [push_cast,seval]) rfl rfl rfl
        ·refine wk_id ?_
         refine seq_np ?_
         refine seq_np ?_
         refine reg_f ?_
         refine rk 3 ?_
         refine rf [(7,.own 0 0 c1q2.length),(12,.own 3 0 c3q10.length),(138,bS (c2q14.Code != 0))] [(0,.row 38 (fl c1q2)),(1,.row 31 (Enc.cells c2q8)),(2,.row 31 (Enc.cells c2q14)),(3,.row 38 (fl c3q10))] 4 (by kernel_rfl) ?_
         refine wk_id ?_
         refine cond_sx h (by kernel_rfl) (fun g3950 h=>?_) (fun g3950 h=>?_)
         ·refine seq_np ?_
          refine reg_f ?_
          refine rk 4 ?_
          refine rf [(4,bS ((c1q2.length:Int) == 0))] [(0,.row 38 (fl c1q2)),(1,.row 31 (Enc.cells c2q8)),(2,.row 31 (Enc.cells c2q14)),(3,.row 38 (fl c3q10))] 4 (by kernel_rfl) ?_
          refine wk_id ?_
          obtain rfl:=Option.some.inj h
          refine ret_at (bS ((c1q2.length:Int) == 0)) (by kernel_rfl) ?_
          exact ret_e [] [] (by simp only [push_cast,seval]) (by simp only [push_cast,seval]) rfl rfl rfl
         ·refine wk_id ?_
          refine seq_np ?_
          refine reg_f ?_
          refine rk 2 ?_
          obtain ⟨r3949,hr3949,h⟩:=bind_sx h
          refine call_x (taskmilllaw_sameCode_spec c1q2 c3q10 r3949 hr3949) (args:=[.own 0 0 c1q2.length,.own 3 0 c3q10.length]) (dst:=(some 144)) (by kernel_rfl) [(0,.row 38 (fl c1q2)),(1,.row 31 (Enc.cells c2q8)),(2,.row 31 (Enc.cells c2q14)),(3,.row 38 (fl c3q10))] 4 (by kernel_rfl) [] [0,3] (bS r3949) [] (by simp only [push_cast,seval]) (by simp only [push_cast,seval]) (by kernel_rfl) (.inr ⟨by simp only [push_cast,seval],by simp only [push_cast,seval]⟩) (by simp only [push_cast,seval]) (by simp only [push_cast,seval]) ?_
          refine rk 1 ?_
          refine rf [(4,bS r3949)] [(0,.row 38 (fl c1q2)),(1,.row 31 (Enc.cells c2q8)),(2,.row 31 (Enc.cells c2q14)),(3,.row 38 (fl c3q10))] 4 (by kernel_rfl) ?_
          refine wk_id ?_
          obtain rfl:=Option.some.inj h
          refine ret_at (bS r3949) (by kernel_rfl) ?_
          exact ret_e [] [] (by simp only [push_cast,seval]) (by simp only [push_cast,seval]) rfl rfl rfl

end Go.Proofs.YtdckaaiidagodaaDoor
