/-
 What laws of the chapter frame compute, and lemmas on it.
 No conditions.
-/
import Derived.Test.YteelocnklamegaaDoorframeWFrameRuns2
set_option linter.unusedSimpArgs false
set_option linter.unusedVariables false
set_option linter.unusedSectionVars false
namespace Go.Proofs.YteelocnklamegaaDoor
open Go Go.Sx
attribute [local irreducible] Wk RunAt
attribute [local bitvec_to_nat] leL_flD renL_flD leL_flP renL_flP leC_famP leC_famP0 flP_0 ren_famP noN_eq lenP_same lenP_one lenP_app lenP_set lenP_famP Nat.le_refl List.length_set leC_mpP leC_mpP1 mapLe_eq mapLe1_eq ren_mpP ren_mpP1
set_option maxRecDepth 100000 in
set_option maxHeartbeats 200000000 in
theorem taskmilllaw_FrameRuns_spec (funcs:(List (List Deed))) (r:Bool) (h:taskmilllaw_FrameRuns funcs = some r):SpecW Tryd.prog 3 [.sl funcs.length (fl funcs)] [] 0 (fun x h n=>x = bS r∧h = []∧n = 0):=by
 unfold taskmilllaw_FrameRuns at h
 refine spec_of (draw_ok _) Tryd.func3 rfl (by decide) rfl (by kernel_rfl) ?_
 refine seq_np ?_
 refine reg_f ?_
 refine rk 1 ?_
 refine rf [(0,.sl funcs.length (fl funcs))] [] 0 (by kernel_rfl) ?_
 refine wk_id ?_
 refine seq_np ?_
 refine seq_np ?_
 refine reg_f ?_
 obtain ⟨r4690,hr4690,h⟩:=bind_sx h
 refine run_call 8 [] (some 16) (by kernel_rfl) ?_
 refine call_0 (taskmilllaw_frameBegun_spec r4690 hr4690) (by simp only [push_cast,leL_flD,renL_flD,seval]) (by simp only [push_cast,leL_flD,renL_flD,seval]) ?_
 refine back_f ?_
 refine rk 1 ?_
 refine rf [(0,.sl funcs.length (fl funcs)),(17,bS (!r4690))] [] 0 (by kernel_rfl) ?_
 refine wk_id ?_
 refine cond_sx h (by kernel_rfl) (fun g4736 h=>?_) (fun g4736 h=>?_)
 ·refine seq_np ?_
  refine reg_f ?_
  refine rk 1 ?_
  refine rf [(2,bS false)] [] 0 (by kernel_rfl) ?_
  refine wk_id ?_
  obtain rfl:=Option.some.inj h
  refine ret_at (bS false) (by kernel_rfl) ?_
  exact ret_e [] [] (by simp only [push_cast,leL_flD,renL_flD,seval]) (by simp only [push_cast,leL_flD,renL_flD,seval]) rfl rfl rfl
 ·refine wk_id ?_
  refine seq_np ?_
  refine seq_np ?_
  refine reg_f ?_
  refine rk 1 ?_
  obtain ⟨r4694,hr4694,h⟩:=bind_sx h
  refine run_call 9 [.sl funcs.length (fl funcs)] (some 19) (by kernel_rfl) ?_
  refine call_0 (taskmilllaw_vastDeeds_spec funcs r4694 hr4694) (by simp only [push_cast,leL_flD,renL_flD,seval]) (by simp only [push_cast,leL_flD,renL_flD,seval]) ?_
  refine back_f ?_
  refine rf [(0,.sl funcs.length (fl funcs)),(19,bS r4694)] [] 0 (by kernel_rfl) ?_
  refine wk_id ?_
  refine cond_sx h (by kernel_rfl) (fun g4735 h=>?_) (fun g4735 h=>?_)
  ·refine seq_np ?_
   refine reg_f ?_
   refine rk 1 ?_
   refine rf [(2,bS true)] [] 0 (by kernel_rfl) ?_
   refine wk_id ?_
   obtain rfl:=Option.some.inj h
   refine ret_at (bS true) (by kernel_rfl) ?_
   exact ret_e [] [] (by simp only [push_cast,leL_flD,renL_flD,seval]) (by simp only [push_cast,leL_flD,renL_flD,seval]) rfl rfl rfl
  ·refine wk_id ?_
   refine seq_np ?_
   refine reg_f ?_
   refine rk 1 ?_
   obtain ⟨r4697,hr4697,h⟩:=bind_sx h
   refine call_x (taskmilllaw_ownDeeds_spec funcs r4697 hr4697) (args:=[.sl funcs.length (fl funcs)]) (dst:=(some 21)) (by kernel_rfl) [] 0 (by kernel_rfl) [] [] (.own 0 0 r4697.length) [(0,.row 36 (flD dLListDeed [1] r4697)),((.s 1 0),.fam (famD dLListDeed 0 r4697))] (by simp only [push_cast,leL_flD,renL_flD,seval]) (by simp only [push_cast,leL_flD,renL_flD,seval]) (by kernel_rfl) (.inl rfl) (by first | (simp only [push_cast,leL_flD,renL_flD,seval]; done) | (simp only [push_cast,leL_flD,renL_flD,seval]; kernel_rfl) | kernel_rfl) (by first | (simp only [push_cast,leL_flD,renL_flD,seval]; done) | (simp only [push_cast,leL_flD,renL_flD,seval]; kernel_rfl) | kernel_rfl) ?_
   obtain ⟨r4698,hr4698,h⟩:=bind_sx h
   refine call_x (frame_Check_spec r4697 r4698 hr4698) (args:=[.own 0 0 r4697.length]) (dst:=(some 22)) (by kernel_rfl) [(0,.row 36 (flD dLListDeed [1] r4697)),((.s 1 0),.fam (famD dLListDeed 0 r4697))] 2 (by kernel_rfl) [] [0,(.s 1 0)] (.agg (Enc.cells r4698)) [] (by simp only [↓leS_frzD dLListDeed [1] r4697,leS_frz,leL_flD,renL_flD,push_cast,seval]) (by simp only [↓leS_frzD dLListDeed [1] r4697,leS_frz,leL_flD,renL_flD,push_cast,seval]) (by kernel_rfl) (.inr ⟨by simp only [push_cast,leL_flD,renL_flD,seval],by simp only [push_cast,leL_flD,renL_flD,seval]⟩) (by simp only [push_cast,leL_flD,renL_flD,seval]) (by simp only [push_cast,leL_flD,renL_flD,seval]) ?_
   refine rk 2 ?_
   refine rf [(0,.sl funcs.length (fl funcs)),(3,.ptr 2 0)] [(0,.row 36 (flD dLListDeed [1] r4697)),((.s 1 0),.fam (famD dLListDeed 0 r4697)),(2,.row 26 (Enc.cells r4698))] 3 (by kernel_rfl) ?_
   refine wk_id ?_
   refine seq_np ?_
   refine reg_f ?_
   refine rk 1 ?_
   obtain ⟨r4701,hr4701,h⟩:=bind_sx h
   refine call_x (taskmilllaw_ownDeeds_spec funcs r4701 hr4701) (args:=[.sl funcs.length (fl funcs)]) (dst:=(some 25)) (by kernel_rfl) [(0,.row 36 (flD dLListDeed [1] r4697)),((.s 1 0),.fam (famD dLListDeed 0 r4697)),(2,.row 26 (Enc.cells r4698))] 3 (by kernel_rfl) [] [] (.own 3 0 r4701.length) [(3,.row 36 (flD dLListDeed [4] r4701)),((.s 4 0),.fam (famD dLListDeed 0 r4701))] (by simp only [push_cast,leL_flD,renL_flD,seval]) (by simp only [push_cast,leL_flD,renL_flD,seval]) (by kernel_rfl) (.inl rfl) (by first | (simp only [push_cast,leL_flD,renL_flD,seval]; done) | (simp only [push_cast,leL_flD,renL_flD,seval]; kernel_rfl) | kernel_rfl) (by first | (simp only [push_cast,leL_flD,renL_flD,seval]; done) | (simp only [push_cast,leL_flD,renL_flD,seval]; kernel_rfl) | kernel_rfl) ?_
   obtain ⟨r4702,hr4702,h⟩:=bind_sx h
   refine call_x (frame_Run_spec r4701 r4702 hr4702) (args:=[.own 3 0 r4701.length]) (dst:=(some 26)) (by kernel_rfl) [(0,.row 36 (flD dLListDeed [1] r4697)),((.s 1 0),.fam (famD dLListDeed 0 r4697)),(2,.row 26 (Enc.cells r4698)),(3,.row 36 (flD dLListDeed [4] r4701)),((.s 4 0),.fam (famD dLListDeed 0 r4701))] 5 (by kernel_rfl) [] [3,(.s 4 0)] (.tup [.own 5 0 r4702.2.2.2.length,iS r4702.1,bS r4702.2.1,.agg (Enc.cells r4702.2.2.1)]) [(5,.row 3 (fl r4702.2.2.2))] (by simp only [↓leS_frzD dLListDeed [4] r4701,leS_frz,leL_flD,renL_flD,push_cast,seval]) (by simp only [↓leS_frzD dLListDeed [4] r4701,leS_frz,leL_flD,renL_flD,push_cast,seval]) (by kernel_rfl) (.inr ⟨by simp only [push_cast,leL_flD,renL_flD,seval],by simp only [push_cast,leL_flD,renL_flD,seval]⟩) (by simp only [push_cast,leL_flD,renL_flD,seval]) (by simp only [push_cast,leL_flD,renL_flD,seval]) ?_
   refine rk 10 ?_
   refine rf [(0,.sl funcs.length (fl funcs)),(3,.ptr 2 0),(4,.own 5 0 r4702.2.2.2.length),(5,iS r4702.1),(6,bS r4702.2.1),(7,.ptr 6 0)] [(0,.row 36 (flD dLListDeed [1] r4697)),((.s 1 0),.fam (famD dLListDeed 0 r4697)),(2,.row 26 (Enc.cells r4698)),(3,.row 36 (flD dLListDeed [4] r4701)),((.s 4 0),.fam (famD dLListDeed 0 r4701)),(5,.row 3 (fl r4702.2.2.2)),(6,.row 26 (Enc.cells r4702.2.2.1))] 7 (by kernel_rfl) ?_
   refine wk_id ?_
   refine seq_np ?_
   refine reg_f ?_
   refine rk 1 ?_
   obtain ⟨r4704,hr4704,h⟩:=bind_sx h
   refine run_call 13 [.sl funcs.length (fl funcs)] (some 32) (by kernel_rfl) ?_
   refine call_0 (taskmillref_DeedsFault_spec funcs r4704 hr4704) (by simp only [push_cast,leL_flD,renL_flD,seval]) (by simp only [push_cast,leL_flD,renL_flD,seval]) ?_
   refine back_f ?_
   refine rk 2 ?_
   refine rf [(0,.sl funcs.length (fl funcs)),(3,.ptr 2 0),(4,.own 5 0 r4702.2.2.2.length),(5,iS r4702.1),(6,bS r4702.2.1),(7,.ptr 6 0),(8,.ptr 7 0)] [(0,.row 36 (flD dLListDeed [1] r4697)),((.s 1 0),.fam (famD dLListDeed 0 r4697)),(2,.row 26 (Enc.cells r4698)),(3,.row 36 (flD dLListDeed [4] r4701)),((.s 4 0),.fam (famD dLListDeed 0 r4701)),(5,.row 3 (fl r4702.2.2.2)),(6,.row 26 (Enc.cells r4702.2.2.1)),(7,.row 26 (Enc.cells r4704))] 8 (by kernel_rfl) ?_
   refine wk_id ?_
   refine seq_np ?_
   refine seq_np ?_
   refine reg_f ?_
   refine rk 3 ?_
   refine rf [(0,.sl funcs.length (fl funcs)),(4,.own 5 0 r4702.2.2.2.length),(5,iS r4702.1),(6,bS r4702.2.1),(7,.ptr 6 0),(8,.ptr 7 0),(35,bS (!((r4698.Code == r4704.Code) && ((r4698.At == r4704.At) && true))))] [(0,.row 36 (flD dLListDeed [1] r4697)),((.s 1 0),.fam (famD dLListDeed 0 r4697)),(2,.row 26 (Enc.cells r4698)),(3,.row 36 (flD dLListDeed [4] r4701)),((.s 4 0),.fam (famD dLListDeed 0 r4701)),(5,.row 3 (fl r4702.2.2.2)),(6,.row 26 (Enc.cells r4702.2.2.1)),(7,.row 26 (Enc.cells r4704))] 8 (by kernel_rfl) ?_
   refine wk_id ?_
   refine cond_sx h (by kernel_rfl) (fun g4734 h=>?_) (fun g4734 h=>?_)
   ·refine seq_np ?_
    refine reg_f ?_
    refine rk 1 ?_
    refine rf [(2,bS false)] [(0,.row 36 (flD dLListDeed [1] r4697)),((.s 1 0),.fam (famD dLListDeed 0 r4697)),(2,.row 26 (Enc.cells r4698)),(3,.row 36 (flD dLListDeed [4] r4701)),((.s 4 0),.fam (famD dLListDeed 0 r4701)),(5,.row 3 (fl r4702.2.2.2)),(6,.row 26 (Enc.cells r4702.2.2.1)),(7,.row 26 (Enc.cells r4704))] 8 (by kernel_rfl) ?_
    refine wk_id ?_
    obtain rfl:=Option.some.inj h
    refine ret_at (bS false) (by kernel_rfl) ?_
    exact ret_e [] [] (by simp only [push_cast,leL_flD,renL_flD,seval]) (by simp only [push_cast,leL_flD,renL_flD,seval]) rfl rfl rfl
   ·refine wk_id ?_
    refine seq_np ?_
    refine reg_f ?_
    refine rk 1 ?_
    refine rf [(0,.sl funcs.length (fl funcs)),(4,.own 5 0 r4702.2.2.2.length),(5,iS r4702.1),(6,bS r4702.2.1),(7,.ptr 6 0),(8,.ptr 7 0),(9,.v (.slice none 0 0))] [(0,.row 36 (flD dLListDeed [1] r4697)),((.s 1 0),.fam (famD dLListDeed 0 r4697)),(2,.row 26 (Enc.cells r4698)),(3,.row 36 (flD dLListDeed [4] r4701)),((.s 4 0),.fam (famD dLListDeed 0 r4701)),(5,.row 3 (fl r4702.2.2.2)),(6,.row 26 (Enc.cells r4702.2.2.1)),(7,.row 26 (Enc.cells r4704))] 8 (by kernel_rfl) ?_
    refine wk_id ?_
    refine seq_np ?_
    refine reg_f ?_
    refine rk 1 ?_
    refine rf [(0,.sl funcs.length (fl funcs)),(4,.own 5 0 r4702.2.2.2.length),(5,iS r4702.1),(6,bS r4702.2.1),(7,.ptr 6 0),(8,.ptr 7 0),(9,.v (.slice none 0 0)),(10,iS 0)] [(0,.row 36 (flD dLListDeed [1] r4697)),((.s 1 0),.fam (famD dLListDeed 0 r4697)),(2,.row 26 (Enc.cells r4698)),(3,.row 36 (flD dLListDeed [4] r4701)),((.s 4 0),.fam (famD dLListDeed 0 r4701)),(5,.row 3 (fl r4702.2.2.2)),(6,.row 26 (Enc.cells r4702.2.2.1)),(7,.row 26 (Enc.cells r4704))] 8 (by kernel_rfl) ?_
    refine wk_id ?_
    refine seq_np ?_
    refine reg_f ?_
    refine rk 1 ?_
    refine rf [(0,.sl funcs.length (fl funcs)),(4,.own 5 0 r4702.2.2.2.length),(5,iS r4702.1),(6,bS r4702.2.1),(7,.ptr 6 0),(8,.ptr 7 0),(9,.v (.slice none 0 0)),(10,iS 0),(11,bS false)] [(0,.row 36 (flD dLListDeed [1] r4697)),((.s 1 0),.fam (famD dLListDeed 0 r4697)),(2,.row 26 (Enc.cells r4698)),(3,.row 36 (flD dLListDeed [4] r4701)),((.s 4 0),.fam (famD dLListDeed 0 r4701)),(5,.row 3 (fl r4702.2.2.2)),(6,.row 26 (Enc.cells r4702.2.2.1)),(7,.row 26 (Enc.cells r4704))] 8 (by kernel_rfl) ?_
    refine wk_id ?_
    refine seq_cut (A:=Int×Bool×Int×Bool×(List Int)×Fault×Fault×(List Int)) (fun a=>([(4,.own 0 0 a.2.2.2.2.1.length),(5,iS a.1),(6,bS a.2.1),(7,.ptr 1 0),(8,.ptr 2 0),(9,.own 3 0 a.2.2.2.2.2.2.2.length),(10,iS a.2.2.1),(11,bS a.2.2.2.1)],[(0,.row 3 (fl a.2.2.2.2.1)),(1,.row 26 (Enc.cells a.2.2.2.2.2.1)),(2,.row 26 (Enc.cells a.2.2.2.2.2.2.1)),(3,.row 3 (fl a.2.2.2.2.2.2.2))],4)) (fun a=>(taskmilllaw_FrameRuns_j2 a.1 a.2.1 a.2.2.1 a.2.2.2.1 a.2.2.2.2.1 a.2.2.2.2.2.1 a.2.2.2.2.2.2.1 a.2.2.2.2.2.2.2) = some r) (fun K4713 hK4713=>?_) ?_
    ·refine seq_np ?_
     refine reg_f ?_
     refine rk 3 ?_
     refine rf [(0,.sl funcs.length (fl funcs)),(4,.own 5 0 r4702.2.2.2.length),(5,iS r4702.1),(6,bS r4702.2.1),(7,.ptr 6 0),(8,.ptr 7 0),(9,.v (.slice none 0 0)),(10,iS 0),(11,bS false),(38,bS (r4704.Code == 0))] [(0,.row 36 (flD dLListDeed [1] r4697)),((.s 1 0),.fam (famD dLListDeed 0 r4697)),(2,.row 26 (Enc.cells r4698)),(3,.row 36 (flD dLListDeed [4] r4701)),((.s 4 0),.fam (famD dLListDeed 0 r4701)),(5,.row 3 (fl r4702.2.2.2)),(6,.row 26 (Enc.cells r4702.2.2.1)),(7,.row 26 (Enc.cells r4704))] 8 (by kernel_rfl) ?_
     refine wk_id ?_
     refine cond_sx h (by kernel_rfl) (fun g4723 h=>?_) (fun g4723 h=>?_)
     ·refine seq_np ?_
      refine reg_f ?_
      refine rk 1 ?_
      obtain ⟨r4715,hr4715,h⟩:=bind_sx h
      refine call_x (taskmillref_RanFrames_spec funcs r4715 hr4715) (args:=[.sl funcs.length (fl funcs)]) (dst:=(some 41)) (by kernel_rfl) [(0,.row 36 (flD dLListDeed [1] r4697)),((.s 1 0),.fam (famD dLListDeed 0 r4697)),(2,.row 26 (Enc.cells r4698)),(3,.row 36 (flD dLListDeed [4] r4701)),((.s 4 0),.fam (famD dLListDeed 0 r4701)),(5,.row 3 (fl r4702.2.2.2)),(6,.row 26 (Enc.cells r4702.2.2.1)),(7,.row 26 (Enc.cells r4704))] 8 (by kernel_rfl) [] [] (.tup [.own 8 0 r4715.2.2.2.length,iS r4715.1,bS r4715.2.1,bS r4715.2.2.1]) [(8,.row 3 (fl r4715.2.2.2))] (by simp only [push_cast,leL_flD,renL_flD,seval]) (by simp only [push_cast,leL_flD,renL_flD,seval]) (by kernel_rfl) (.inl rfl) (by simp only [push_cast,leL_flD,renL_flD,seval]) (by simp only [push_cast,leL_flD,renL_flD,seval]) ?_
      refine rk 9 ?_
      refine rf [(4,.own 5 0 r4702.2.2.2.length),(5,iS r4702.1),(6,bS r4702.2.1),(7,.ptr 6 0),(8,.ptr 7 0),(12,.own 8 0 r4715.2.2.2.length),(13,iS r4715.1),(14,bS r4715.2.1),(15,bS r4715.2.2.1)] [(0,.row 36 (flD dLListDeed [1] r4697)),((.s 1 0),.fam (famD dLListDeed 0 r4697)),(2,.row 26 (Enc.cells r4698)),(3,.row 36 (flD dLListDeed [4] r4701)),((.s 4 0),.fam (famD dLListDeed 0 r4701)),(5,.row 3 (fl r4702.2.2.2)),(6,.row 26 (Enc.cells r4702.2.2.1)),(7,.row 26 (Enc.cells r4704)),(8,.row 3 (fl r4715.2.2.2))] 9 (by kernel_rfl) ?_
      refine wk_id ?_
      refine seq_cut (A:=Int×Bool×Int×Bool×(List Int)×Fault×Fault×(List Int)) (fun a=>([(4,.own 0 0 a.2.2.2.2.1.length),(5,iS a.1),(6,bS a.2.1),(7,.ptr 1 0),(8,.ptr 2 0),(12,.own 3 0 a.2.2.2.2.2.2.2.length),(13,iS a.2.2.1),(14,bS a.2.2.2.1)],[(0,.row 3 (fl a.2.2.2.2.1)),(1,.row 26 (Enc.cells a.2.2.2.2.2.1)),(2,.row 26 (Enc.cells a.2.2.2.2.2.2.1)),(3,.row 3 (fl a.2.2.2.2.2.2.2))],4)) (fun a=>(taskmilllaw_FrameRuns_j3 a.1 a.2.1 a.2.2.1 a.2.2.2.1 a.2.2.2.2.1 a.2.2.2.2.2.1 a.2.2.2.2.2.2.1 a.2.2.2.2.2.2.2) = some r) (fun K4719 hK4719=>?_) ?_
      ·refine seq_np ?_
       refine reg_f ?_
       refine rk 2 ?_
       refine rf [(4,.own 5 0 r4702.2.2.2.length),(5,iS r4702.1),(6,bS r4702.2.1),(7,.ptr 6 0),(8,.ptr 7 0),(12,.own 8 0 r4715.2.2.2.length),(13,iS r4715.1),(14,bS r4715.2.1),(47,bS (!r4715.2.2.1))] [(0,.row 36 (flD dLListDeed [1] r4697)),((.s 1 0),.fam (famD dLListDeed 0 r4697)),(2,.row 26 (Enc.cells r4698)),(3,.row 36 (flD dLListDeed [4] r4701)),((.s 4 0),.fam (famD dLListDeed 0 r4701)),(5,.row 3 (fl r4702.2.2.2)),(6,.row 26 (Enc.cells r4702.2.2.1)),(7,.row 26 (Enc.cells r4704)),(8,.row 3 (fl r4715.2.2.2))] 9 (by kernel_rfl) ?_
       refine wk_id ?_
       refine cond_sx h (by kernel_rfl) (fun g4722 h=>?_) (fun g4722 h=>?_)
       ·refine reg_f ?_
        obtain ⟨r4721,hr4721,h⟩:=bind_sx h
        refine run_call 15 [iS 9,iS 0] (some 48) (by kernel_rfl) ?_
        refine call_0 (taskmillref_F_spec 9 0 r4721 hr4721) (by simp only [push_cast,leL_flD,renL_flD,seval]) (by simp only [push_cast,leL_flD,renL_flD,seval]) ?_
        refine back_f ?_
        refine rk 1 ?_
        refine rf [(4,.own 5 0 r4702.2.2.2.length),(5,iS r4702.1),(6,bS r4702.2.1),(7,.ptr 6 0),(8,.ptr 7 0),(12,.own 8 0 r4715.2.2.2.length),(13,iS r4715.1),(14,bS r4715.2.1)] [(0,.row 36 (flD dLListDeed [1] r4697)),((.s 1 0),.fam (famD dLListDeed 0 r4697)),(2,.row 26 (Enc.cells r4698)),(3,.row 36 (flD dLListDeed [4] r4701)),((.s 4 0),.fam (famD dLListDeed 0 r4701)),(5,.row 3 (fl r4702.2.2.2)),(6,.row 26 (Enc.cells r4702.2.2.1)),(7,.row 26 (Enc.cells r4721)),(8,.row 3 (fl r4715.2.2.2))] 9 (by kernel_rfl) ?_
        exact hK4719 (r4702.1,r4702.2.1,r4715.1,r4715.2.1,r4702.2.2.2,r4702.2.2.1,r4721,r4715.2.2.2) _ _ _ h (leSt_m [(0,5),(1,6),(2,7),(3,8)] [] (by simp only [push_cast,leL_flD,renL_flD,seval]) (by simp only [push_cast,leL_flD,renL_flD,seval]) rfl rfl rfl)
       ·exact hK4719 (r4702.1,r4702.2.1,r4715.1,r4715.2.1,r4702.2.2.2,r4702.2.2.1,r4704,r4715.2.2.2) _ _ _ h (leSt_m [(0,5),(1,6),(2,7),(3,8)] [] (by simp only [push_cast,leL_flD,renL_flD,seval]) (by simp only [push_cast,leL_flD,renL_flD,seval]) rfl rfl rfl)
      ·rintro ⟨v4,p4,b2,d2,c0q4,c1q4,c2q4,c3q4⟩ h
       try dsimp only at h ⊢
       unfold taskmilllaw_FrameRuns_j3 at h
       refine seq_np ?_
       refine reg_f ?_
       refine rk 2 ?_
       refine rf [(4,.own 0 0 c0q4.length),(5,iS v4),(6,bS p4),(7,.ptr 1 0),(8,.ptr 2 0),(9,.own 3 0 c3q4.length),(13,iS b2),(14,bS d2)] [(0,.row 3 (fl c0q4)),(1,.row 26 (Enc.cells c1q4)),(2,.row 26 (Enc.cells c2q4)),(3,.row 3 (fl c3q4))] 4 (by kernel_rfl) ?_
       refine wk_id ?_
       refine seq_np ?_
       refine reg_f ?_
       refine rk 2 ?_
       refine rf [(4,.own 0 0 c0q4.length),(5,iS v4),(6,bS p4),(7,.ptr 1 0),(8,.ptr 2 0),(9,.own 3 0 c3q4.length),(10,iS b2),(14,bS d2)] [(0,.row 3 (fl c0q4)),(1,.row 26 (Enc.cells c1q4)),(2,.row 26 (Enc.cells c2q4)),(3,.row 3 (fl c3q4))] 4 (by kernel_rfl) ?_
       refine wk_id ?_
       refine reg_f ?_
       refine rk 2 ?_
       refine rf [(4,.own 0 0 c0q4.length),(5,iS v4),(6,bS p4),(7,.ptr 1 0),(8,.ptr 2 0),(9,.own 3 0 c3q4.length),(10,iS b2),(11,bS d2)] [(0,.row 3 (fl c0q4)),(1,.row 26 (Enc.cells c1q4)),(2,.row 26 (Enc.cells c2q4)),(3,.row 3 (fl c3q4))] 4 (by kernel_rfl) ?_
       exact hK4713 (v4,p4,b2,d2,c0q4,c1q4,c2q4,c3q4) _ _ _ h (leSt_m [(0,0),(1,1),(2,2),(3,3)] [] (by simp only [push_cast,leL_flD,renL_flD,seval]) (by simp only [push_cast,leL_flD,renL_flD,seval]) rfl rfl rfl)
     ·exact hK4713 (r4702.1,r4702.2.1,0,false,r4702.2.2.2,r4702.2.2.1,r4704,[]) _ _ _ h (leSt_m [(0,5),(1,6),(2,7)] [] (by simp only [push_cast,leL_flD,renL_flD,seval]) (by simp only [push_cast,leL_flD,renL_flD,seval]) rfl rfl rfl)
    ·rintro ⟨v3,p3,value1,panics1,c0q3,c1q3,c2q3,c3q3⟩ h
     try dsimp only at h ⊢
     unfold taskmilllaw_FrameRuns_j2 at h
     refine seq_cut (A:=Bool) (fun a=>([(2,bS a)],[],0)) (fun a=>(taskmilllaw_FrameRuns_j1 a) = some r) (fun K4729 hK4729=>?_) ?_
     ·refine reg_f ?_
      refine rk 4 ?_
      refine run_br h 55 (.inl (by kernel_rfl)) (fun g4730 h=>?_) (fun g4730 h=>?_)
      ·refine rk 5 ?_
       refine run_br h 60 (.inl (by kernel_rfl)) (fun g4731 h=>?_) (fun g4731 h=>?_)
       ·refine rk 5 ?_
        refine run_br h 65 (.inl (by kernel_rfl)) (fun g4732 h=>?_) (fun g4732 h=>?_)
        ·refine rn 14 [(4,.own 0 0 c0q3.length),(9,.own 3 0 c3q3.length),(65,bS true)] [(0,.row 3 (fl c0q3)),(1,.row 26 (Enc.cells c1q3)),(2,.row 26 (Enc.cells c2q3)),(3,.row 3 (fl c3q3))] 4 (by kernel_rfl) ?_
         refine rk 2 ?_
         obtain ⟨r4733,hr4733,h⟩:=bind_sx h
         refine call_x (taskmillref_Ints_spec c0q3 c3q3 r4733 hr4733) (args:=[.own 0 0 c0q3.length,.own 3 0 c3q3.length]) (dst:=(some 68)) (by kernel_rfl) [(0,.row 3 (fl c0q3)),(1,.row 26 (Enc.cells c1q3)),(2,.row 26 (Enc.cells c2q3)),(3,.row 3 (fl c3q3))] 4 (by kernel_rfl) [] [0,3] (bS r4733) [] (by simp only [push_cast,leL_flD,renL_flD,seval]) (by simp only [push_cast,leL_flD,renL_flD,seval]) (by kernel_rfl) (.inr ⟨by simp only [push_cast,leL_flD,renL_flD,seval],by simp only [push_cast,leL_flD,renL_flD,seval]⟩) (by simp only [push_cast,leL_flD,renL_flD,seval]) (by simp only [push_cast,leL_flD,renL_flD,seval]) ?_
         refine rk 2 ?_
         refine rf [(2,bS r4733)] [(0,.row 3 (fl c0q3)),(1,.row 26 (Enc.cells c1q3)),(2,.row 26 (Enc.cells c2q3)),(3,.row 3 (fl c3q3))] 4 (by kernel_rfl) ?_
         exact hK4729 (r4733) _ _ _ h (leSt_m [] [] (by first | ((try simp only [g4730,g4731,g4732]) <;> simp only [push_cast,leL_flD,renL_flD,seval]; done) | ((try simp only [g4730]); (try simp only [g4731]); (try simp only [g4732]); simp only [push_cast,leL_flD,renL_flD,seval]; done) | (exfalso; clear h; simp_all; done)) (by first | ((try simp only [g4730,g4731,g4732]) <;> simp only [push_cast,leL_flD,renL_flD,seval]; done) | ((try simp only [g4730]); (try simp only [g4731]); (try simp only [g4732]); simp only [push_cast,leL_flD,renL_flD,seval]; done) | (exfalso; clear h; simp_all; done)) rfl rfl rfl)
        ·refine rn 14 [(4,.own 0 0 c0q3.length),(9,.own 3 0 c3q3.length),(65,bS false)] [(0,.row 3 (fl c0q3)),(1,.row 26 (Enc.cells c1q3)),(2,.row 26 (Enc.cells c2q3)),(3,.row 3 (fl c3q3))] 4 (by kernel_rfl) ?_
         refine rk 5 ?_
         refine rf [(2,bS false)] [(0,.row 3 (fl c0q3)),(1,.row 26 (Enc.cells c1q3)),(2,.row 26 (Enc.cells c2q3)),(3,.row 3 (fl c3q3))] 4 (by kernel_rfl) ?_
         exact hK4729 (false) _ _ _ h (leSt_m [] [] (by first | ((try simp only [g4730,g4731,g4732]) <;> simp only [push_cast,leL_flD,renL_flD,seval]; done) | ((try simp only [g4730]); (try simp only [g4731]); (try simp only [g4732]); simp only [push_cast,leL_flD,renL_flD,seval]; done) | (exfalso; clear h; simp_all; done)) (by first | ((try simp only [g4730,g4731,g4732]) <;> simp only [push_cast,leL_flD,renL_flD,seval]; done) | ((try simp only [g4730]); (try simp only [g4731]); (try simp only [g4732]); simp only [push_cast,leL_flD,renL_flD,seval]; done) | (exfalso; clear h; simp_all; done)) rfl rfl rfl)
       ·refine rk 10 ?_
        refine rf [(2,bS false)] [(0,.row 3 (fl c0q3)),(1,.row 26 (Enc.cells c1q3)),(2,.row 26 (Enc.cells c2q3)),(3,.row 3 (fl c3q3))] 4 (by kernel_rfl) ?_
        exact hK4729 (false) _ _ _ h (leSt_m [] [] (by first | ((try simp only [g4730,g4731]) <;> simp only [push_cast,leL_flD,renL_flD,seval]; done) | ((try simp only [g4730]); (try simp only [g4731]); simp only [push_cast,leL_flD,renL_flD,seval]; done) | (exfalso; clear h; simp_all; done)) (by first | ((try simp only [g4730,g4731]) <;> simp only [push_cast,leL_flD,renL_flD,seval]; done) | ((try simp only [g4730]); (try simp only [g4731]); simp only [push_cast,leL_flD,renL_flD,seval]; done) | (exfalso; clear h; simp_all; done)) rfl rfl rfl)
      ·refine rk 15 ?_
       refine rf [(2,bS false)] [(0,.row 3 (fl c0q3)),(1,.row 26 (Enc.cells c1q3)),(2,.row 26 (Enc.cells c2q3)),(3,.row 3 (fl c3q3))] 4 (by kernel_rfl) ?_
       exact hK4729 (false) _ _ _ h (leSt_m [] [] (by (try simp only [g4730]) <;> simp only [push_cast,leL_flD,renL_flD,seval]) (by (try simp only [g4730]) <;> simp only [push_cast,leL_flD,renL_flD,seval]) rfl rfl rfl)
     ·rintro t2q1 h
      try dsimp only at h ⊢
      unfold taskmilllaw_FrameRuns_j1 at h
      obtain rfl:=Option.some.inj h
      refine ret_at (bS t2q1) (by kernel_rfl) ?_
      exact ret_e [] [] (by simp only [push_cast,leL_flD,renL_flD,seval]) (by simp only [push_cast,leL_flD,renL_flD,seval]) rfl rfl rfl

end Go.Proofs.YteelocnklamegaaDoor
