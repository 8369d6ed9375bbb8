/-
 What laws of the chapter race compute, and lemmas on it.
 No conditions.
-/
import Derived.Test.YtelegonboeacaaaProg
import Derived.Test.YtelegonboeacaaaraceG
set_option linter.unusedSimpArgs false
set_option linter.unusedVariables false
namespace Go.Proofs.Ytelegonboeacaaa
open Go Go.Sx
attribute [local irreducible] Wk RunAt
theorem follows : Try.prog.follows .mixedOrders = true := by kernel_rfl
set_option maxRecDepth 100000 in
set_option maxHeartbeats 200000000 in
theorem taskmilllaw_raceBegun_spec (r : Bool) (h : taskmilllaw_raceBegun = some r) : SpecW Try.prog 23 [] [] 0 (fun x h n => x = bS r ∧ h = [] ∧ n = 0) := by
 unfold taskmilllaw_raceBegun at h
 obtain rfl := Option.some.inj h
 exact closed_call follows 10000 1000 (by kernel_rfl)

set_option maxRecDepth 100000 in
set_option maxHeartbeats 200000000 in
theorem taskmilllaw_ownTrace_spec (l : (List GEvent)) (r : (List GEvent)) (h : taskmilllaw_ownTrace l = some r) : SpecW Try.prog 13 [.sl l.length (fl l)] [] 0 (fun x h n => x = .own 0 0 r.length ∧ h = [(0, .row 31 (fl r))] ∧ n = 1) := by
 unfold taskmilllaw_ownTrace at h
 refine spec_of (draw_ok _) Try.func13 rfl (by decide) rfl (by kernel_rfl) ?_
 refine seq_np ?_
 refine reg_f ?_
 refine rs 1 [] [] (by kernel_rfl) allP_nil ?_
 refine rf [(0, .sl l.length (fl l))] [] 0 (by kernel_rfl) ?_
 refine wk_id ?_
 refine chk_sx h (fun g10 h => ?_)
 refine seq_np ?_
 refine reg_f ?_
 have k9 : l.length * 32 ≤ 140737488355328 := by first | simpa only [Bool.and_eq_true, decide_eq_true_eq, bne_iff_ne, ne_eq] using g10 | (simp at g10 ⊢; omega)
 refine rs 3 [none, some ⟨.own 0 0 l.length, [(0, .row 31 (fl l))], 1, []⟩] _ (by kernel_rfl) (allP_cons (ob_app0 (P := Try.prog) l 4 32 rfl (fl l) l.length rfl rfl ((fl l).length = l.length * 4) (app_sl l 4 rfl) 31 (by kernel_rfl) (by decide) k9 0 []) allP_nil) ?_
 refine rf [(2, .own 0 0 l.length)] [(0, .row 31 (fl l))] 1 (by kernel_rfl) ?_
 refine wk_id ?_
 obtain rfl := Option.some.inj h
 refine ret_at (.own 0 0 l.length) (by kernel_rfl) ?_
 exact ret_e [(0, 0)] [] (by simp only [push_cast, seval]) (by simp only [push_cast, seval]) rfl rfl rfl

set_option maxRecDepth 100000 in
set_option maxHeartbeats 200000000 in
theorem taskmilllaw_own_spec (l : (List Int)) (r : (List Int)) (h : taskmilllaw_own l = some r) : SpecW Try.prog 14 [.sl l.length (fl l)] [] 0 (fun x h n => x = .own 0 0 r.length ∧ h = [(0, .row 3 (fl r))] ∧ n = 1) := by
 unfold taskmilllaw_own at h
 refine spec_of (draw_ok _) Try.func14 rfl (by decide) rfl (by kernel_rfl) ?_
 refine seq_np ?_
 refine reg_f ?_
 refine rs 1 [] [] (by kernel_rfl) allP_nil ?_
 refine rf [(0, .sl l.length (fl l))] [] 0 (by kernel_rfl) ?_
 refine wk_id ?_
 refine chk_sx h (fun g17 h => ?_)
 refine seq_np ?_
 refine reg_f ?_
 have k16 : l.length * 8 ≤ 140737488355328 := by first | simpa only [Bool.and_eq_true, decide_eq_true_eq, bne_iff_ne, ne_eq] using g17 | (simp at g17 ⊢; omega)
 refine rs 3 [none, some ⟨.own 0 0 l.length, [(0, .row 3 (fl l))], 1, []⟩] _ (by kernel_rfl) (allP_cons (ob_app0 (P := Try.prog) l 1 8 rfl (fl l) l.length rfl rfl ((fl l).length = l.length * 1) (app_sl l 1 rfl) 3 (by kernel_rfl) (by decide) k16 0 []) allP_nil) ?_
 refine rf [(2, .own 0 0 l.length)] [(0, .row 3 (fl l))] 1 (by kernel_rfl) ?_
 refine wk_id ?_
 obtain rfl := Option.some.inj h
 refine ret_at (.own 0 0 l.length) (by kernel_rfl) ?_
 exact ret_e [(0, 0)] [] (by simp only [push_cast, seval]) (by simp only [push_cast, seval]) rfl rfl rfl

set_option maxRecDepth 100000 in
set_option maxHeartbeats 200000000 in
theorem order_fault_spec (code : Int) (xat : Int) (r : Fault) (h : order_fault code xat = some r) : SpecW Try.prog 32 [iS code, iS xat] [] 0 (fun x h n => x = .agg (Enc.cells r) ∧ h = [] ∧ n = 0) := by
 unfold order_fault at h
 refine spec_of (draw_ok _) Try.func32 rfl (by decide) rfl (by kernel_rfl) ?_
 refine seq_np ?_
 refine reg_f ?_
 refine rs 1 [] [] (by kernel_rfl) allP_nil ?_
 refine rf [(0, iS code), (1, iS xat), (4, .ptr 0 0)] [(0, .row 26 [iS 0, iS 0])] 1 (by kernel_rfl) ?_
 refine wk_id ?_
 refine seq_np ?_
 refine reg_f ?_
 refine rs 4 [] [] (by kernel_rfl) allP_nil ?_
 refine rf [(4, .ptr 0 0)] [(0, .row 26 [iS code, iS xat])] 1 (by kernel_rfl) ?_
 refine wk_id ?_
 obtain rfl := Option.some.inj h
 refine ret_at (.agg [iS code, iS xat]) (by kernel_rfl) ?_
 exact ret_e [] [] (by simp only [push_cast, seval]) (by simp only [push_cast, seval]) rfl rfl rfl

set_option maxRecDepth 100000 in
set_option maxHeartbeats 200000000 in
theorem order_Check_spec (trace : (List GEvent)) (pipes : (List Int)) (r : Fault) (h : order_Check trace pipes = some r) : SpecW Try.prog 15 [.sl trace.length (fl trace), .sl pipes.length (fl pipes)] [] 0 (fun x h n => x = .agg (Enc.cells r) ∧ h = [] ∧ n = 0) := by
 unfold order_Check at h
 refine spec_of (draw_ok _) Try.func15 rfl (by decide) rfl (by kernel_rfl) ?_
 refine seq_np ?_
 refine reg_f ?_
 refine rs 1 [] [] (by kernel_rfl) allP_nil ?_
 refine rf [(0, .sl trace.length (fl trace)), (1, .sl pipes.length (fl pipes)), (4, .ptr 0 0)] [(0, .row 26 [iS 0, iS 0])] 1 (by kernel_rfl) ?_
 refine wk_id ?_
 refine seq_np ?_
 refine seq_cut (A := Unit) (fun _ => ([(0, .sl trace.length (fl trace)), (1, .sl pipes.length (fl pipes)), (4, .ptr 0 0), (16, bS ((decide ((2000 : Int) < ((trace.length : Nat) : Int))) || (decide ((20 : Int) < ((pipes.length : Nat) : Int)))))], [(0, .row 26 [iS 0, iS 0])], 1)) (fun _ => True) (fun K106 hK106 => ?_) (fun _ _ => ?_)
 ·refine reg_f ?_
  refine rs 4 [] [] (by kernel_rfl) allP_nil ?_
  refine run_split 12 (decide ((2000 : Int) < ((trace.length : Nat) : Int))) (.inl (by kernel_rfl)) (fun g107 => ?_) (fun g107 => ?_)
  ·refine rs 4 [] [] (by kernel_rfl) allP_nil ?_
   refine rf [(0, .sl trace.length (fl trace)), (1, .sl pipes.length (fl pipes)), (4, .ptr 0 0), (16, bS true)] [(0, .row 26 [iS 0, iS 0])] 1 (by kernel_rfl) ?_
   exact hK106 () _ _ _ trivial (leSt_m [(0, 0)] [] (by (try simp only [g107]) <;> simp only [push_cast, seval]) (by (try simp only [g107]) <;> simp only [push_cast, seval]) rfl rfl rfl)
  ·refine rs 4 [] [] (by kernel_rfl) allP_nil ?_
   refine rf [(0, .sl trace.length (fl trace)), (1, .sl pipes.length (fl pipes)), (4, .ptr 0 0), (16, bS (decide ((20 : Int) < ((pipes.length : Nat) : Int))))] [(0, .row 26 [iS 0, iS 0])] 1 (by kernel_rfl) ?_
   exact hK106 () _ _ _ trivial (leSt_m [(0, 0)] [] (by (try simp only [g107]) <;> simp only [push_cast, seval]) (by (try simp only [g107]) <;> simp only [push_cast, seval]) rfl rfl rfl)
 ·dsimp only
  refine cond_sx h (by kernel_rfl) (fun g441 h => ?_) (fun g441 h => ?_)
  ·refine seq_np ?_
   refine reg_f ?_
   obtain ⟨r109, hr109, h⟩ := bind_sx h
   refine run_call 32 [iS 2, iS 0] (some 17) (by kernel_rfl) ?_
   refine call_0 (order_fault_spec 2 0 r109 hr109) (by simp only [push_cast, seval]) (by simp only [push_cast, seval]) ?_
   refine back_f ?_
   refine rs 1 [] [] (by kernel_rfl) allP_nil ?_
   refine rf [(4, .ptr 0 0)] [(0, .row 26 (Enc.cells r109))] 1 (by kernel_rfl) ?_
   refine wk_id ?_
   obtain rfl := Option.some.inj h
   refine ret_at (.agg (Enc.cells r109)) (by kernel_rfl) ?_
   exact ret_e [] [] (by simp only [push_cast, seval]) (by simp only [push_cast, seval]) rfl rfl rfl
  ·refine wk_id ?_
   refine seq_np ?_
   refine seq_np ?_
   refine reg_f ?_
   refine rs 3 [] [] (by kernel_rfl) allP_nil ?_
   refine rf [(0, .sl trace.length (fl trace)), (1, .sl pipes.length (fl pipes)), (4, .ptr 0 0), (18, .sl pipes.length (fl pipes)), (19, iS ((pipes.length : Nat) : Int)), (20, iS 0)] [(0, .row 26 [iS 0, iS 0])] 1 (by kernel_rfl) ?_
   refine wk_id ?_
   refine block_np ?_
   refine loop_sx (S := Int) (fun a => ([(0, .sl trace.length (fl trace)), (1, .sl pipes.length (fl pipes)), (4, .ptr 0 0), (18, .sl pipes.length (fl pipes)), (19, iS ((pipes.length : Nat) : Int)), (20, iS a)], [(0, .row 26 [iS 0, iS 0])], 1)) h (leSt_m [(0, 0)] [] (by simp only [push_cast, seval]) (by simp only [push_cast, seval]) rfl rfl rfl) ?_
   rintro t20q7 o3 R3 h hr3 hn3 hx3 ht3
   try dsimp only at h hn3 ⊢
   unfold order_Check_l2 at h
   try dsimp only at h
   refine seq_np ?_
   refine reg_f ?_
   refine rs 1 [] [] (by kernel_rfl) allP_nil ?_
   refine rf [(0, .sl trace.length (fl trace)), (1, .sl pipes.length (fl pipes)), (4, .ptr 0 0), (18, .sl pipes.length (fl pipes)), (19, iS ((pipes.length : Nat) : Int)), (20, iS t20q7), (21, bS (decide (t20q7 < ((pipes.length : Nat) : Int))))] [(0, .row 26 [iS 0, iS 0])] 1 (by kernel_rfl) ?_
   refine wk_id ?_
   refine seq_np ?_
   refine cond_sx h (by kernel_rfl) (fun g440 h => ?_) (fun g440 h => ?_)
   ·refine wk_id ?_
    refine seq_np ?_
    refine block_np ?_
    refine chk_sx h (fun g175 h => ?_)
    refine seq_np ?_
    refine reg_f ?_
    have k174 : 0 ≤ t20q7 ∧ t20q7 < ((pipes.length : Nat) : Int) := by first | simpa only [Bool.and_eq_true, decide_eq_true_eq, bne_iff_ne, ne_eq] using g175 | (simp at g175 ⊢; omega)
    refine rs 5 [none, some ⟨.iptr (fl pipes) ((t20q7).toNat * 1), [], 1, []⟩, some ⟨iS (ix pipes t20q7), [], 1, []⟩] _ (by kernel_rfl) (allP_cons (ob_ld pipes t20q7 1 0 ((t20q7).toNat * 1) k174 rfl (by decide) (by first | rfl | omega) (dflS Try.prog 3) (iS (ix pipes t20q7)) rfl 1 []) (allP_cons (ob_ix_l pipes 1 1 t20q7 k174) allP_nil)) ?_
    refine rf [(0, .sl trace.length (fl trace)), (1, .sl pipes.length (fl pipes)), (4, .ptr 0 0), (5, iS t20q7), (6, iS (ix pipes t20q7)), (18, .sl pipes.length (fl pipes)), (19, iS ((pipes.length : Nat) : Int)), (20, iS t20q7)] [(0, .row 26 [iS 0, iS 0])] 1 (by kernel_rfl) ?_
    refine wk_id ?_
    refine seq_cut (A := Unit) (fun _ => ([(0, .sl trace.length (fl trace)), (1, .sl pipes.length (fl pipes)), (4, .ptr 0 0), (5, iS t20q7), (18, .sl pipes.length (fl pipes)), (19, iS ((pipes.length : Nat) : Int)), (20, iS t20q7), (30, bS ((decide ((ix pipes t20q7) < 0)) || (decide ((100 : Int) < (ix pipes t20q7)))))], [(0, .row 26 [iS 0, iS 0])], 1)) (fun _ => True) (fun K177 hK177 => ?_) (fun _ _ => ?_)
    ·refine reg_f ?_
     refine rs 3 [] [] (by kernel_rfl) allP_nil ?_
     refine run_split 27 (decide ((ix pipes t20q7) < 0)) (.inl (by kernel_rfl)) (fun g178 => ?_) (fun g178 => ?_)
     ·refine rs 3 [] [] (by kernel_rfl) allP_nil ?_
      refine rf [(0, .sl trace.length (fl trace)), (1, .sl pipes.length (fl pipes)), (4, .ptr 0 0), (5, iS t20q7), (18, .sl pipes.length (fl pipes)), (19, iS ((pipes.length : Nat) : Int)), (20, iS t20q7), (30, bS true)] [(0, .row 26 [iS 0, iS 0])] 1 (by kernel_rfl) ?_
      exact hK177 () _ _ _ trivial (leSt_m [(0, 0)] [] (by (try simp only [g178]) <;> simp only [push_cast, seval]) (by (try simp only [g178]) <;> simp only [push_cast, seval]) rfl rfl rfl)
     ·refine rs 3 [] [] (by kernel_rfl) allP_nil ?_
      refine rf [(0, .sl trace.length (fl trace)), (1, .sl pipes.length (fl pipes)), (4, .ptr 0 0), (5, iS t20q7), (18, .sl pipes.length (fl pipes)), (19, iS ((pipes.length : Nat) : Int)), (20, iS t20q7), (30, bS (decide ((100 : Int) < (ix pipes t20q7))))] [(0, .row 26 [iS 0, iS 0])] 1 (by kernel_rfl) ?_
      exact hK177 () _ _ _ trivial (leSt_m [(0, 0)] [] (by (try simp only [g178]) <;> simp only [push_cast, seval]) (by (try simp only [g178]) <;> simp only [push_cast, seval]) rfl rfl rfl)
    ·dsimp only
     refine cond_sx h (by kernel_rfl) (fun g181 h => ?_) (fun g181 h => ?_)
     ·refine seq_np ?_
      refine reg_f ?_
      refine rs 1 [] [] (by kernel_rfl) allP_nil ?_
      obtain ⟨r180, hr180, h⟩ := bind_sx h
      refine run_call 32 [iS 8, iS t20q7] (some 32) (by kernel_rfl) ?_
      refine call_0 (order_fault_spec 8 t20q7 r180 hr180) (by simp only [push_cast, seval]) (by simp only [push_cast, seval]) ?_
      refine back_f ?_
      refine rs 1 [] [] (by kernel_rfl) allP_nil ?_
      refine rf [(4, .ptr 0 0)] [(0, .row 26 (Enc.cells r180))] 1 (by kernel_rfl) ?_
      refine wk_id ?_
      refine rt_cast ht3 ?_
      obtain ⟨r0, h, e0⟩ := map_sx h
      have e1 := hr3 r0 e0.symm
      subst r0
      obtain rfl := Option.some.inj h
      refine ret_at (.agg (Enc.cells r180)) (by kernel_rfl) ?_
      exact ret_e [] [] (by simp only [push_cast, seval]) (by simp only [push_cast, seval]) rfl rfl rfl
     ·refine wk_id ?_
      refine wk_id ?_
      refine reg_f ?_
      refine rs 2 [] [] (by kernel_rfl) allP_nil ?_
      refine rf [(0, .sl trace.length (fl trace)), (1, .sl pipes.length (fl pipes)), (4, .ptr 0 0), (18, .sl pipes.length (fl pipes)), (19, iS ((pipes.length : Nat) : Int)), (20, iS (IntKind.i64.wrap (t20q7 + 1)))] [(0, .row 26 [iS 0, iS 0])] 1 (by kernel_rfl) ?_
      exact hn3 ((IntKind.i64.wrap (t20q7 + 1))) _ _ _ (Option.some.inj h).symm (leSt_m [(0, 0)] [] (by simp only [push_cast, seval]) (by simp only [push_cast, seval]) rfl rfl rfl)
   ·change R3 (.exit 0) _ _ _
    refine ex_cast hx3 (id := 0) ?_
    obtain ⟨r0, h, e0⟩ := map_sx h
    have e1 := hr3 r0 e0.symm
    subst r0
    refine wk_id ?_
    refine wk_id ?_
    refine seq_np ?_
    refine seq_np ?_
    refine reg_f ?_
    refine rs 3 [] [] (by kernel_rfl) allP_nil ?_
    refine rf [(1, .sl pipes.length (fl pipes)), (4, .ptr 0 0), (34, .sl trace.length (fl trace)), (35, iS ((trace.length : Nat) : Int)), (36, iS 0)] [(0, .row 26 [iS 0, iS 0])] 1 (by kernel_rfl) ?_
    refine wk_id ?_
    refine block_np ?_
    refine loop_sx (S := Int) (fun a => ([(1, .sl pipes.length (fl pipes)), (4, .ptr 0 0), (34, .sl trace.length (fl trace)), (35, iS ((trace.length : Nat) : Int)), (36, iS a)], [(0, .row 26 [iS 0, iS 0])], 1)) h (leSt_m [(0, 0)] [] (by simp only [push_cast, seval]) (by simp only [push_cast, seval]) rfl rfl rfl) ?_
    rintro t36q7 o4 R4 h hr4 hn4 hx4 ht4
    try dsimp only at h hn4 ⊢
    unfold order_Check_l1 at h
    try dsimp only at h
    refine seq_np ?_
    refine reg_f ?_
    refine rs 1 [] [] (by kernel_rfl) allP_nil ?_
    refine rf [(1, .sl pipes.length (fl pipes)), (4, .ptr 0 0), (34, .sl trace.length (fl trace)), (35, iS ((trace.length : Nat) : Int)), (36, iS t36q7), (37, bS (decide (t36q7 < ((trace.length : Nat) : Int))))] [(0, .row 26 [iS 0, iS 0])] 1 (by kernel_rfl) ?_
    refine wk_id ?_
    refine seq_np ?_
    refine cond_sx h (by kernel_rfl) (fun g439 h => ?_) (fun g439 h => ?_)
    ·refine wk_id ?_
     refine seq_np ?_
     refine block_np ?_
     refine chk_sx h (fun g387 h => ?_)
     refine seq_np ?_
     refine reg_f ?_
     have k386 : 0 ≤ t36q7 ∧ t36q7 < ((trace.length : Nat) : Int) := by first | simpa only [Bool.and_eq_true, decide_eq_true_eq, bne_iff_ne, ne_eq] using g387 | (simp at g387 ⊢; omega)
     refine rs 6 [none, some ⟨.iptr (fl trace) ((t36q7).toNat * 4), [], 1, []⟩, some ⟨.agg (Enc.cells (ix trace t36q7)), [], 1, []⟩] _ (by kernel_rfl) (allP_cons (ob_ldw trace t36q7 4 ((t36q7).toNat * 4) k386 rfl (by first | rfl | omega) (Enc.cells (ix trace t36q7)) rfl 1 []) (allP_cons (ob_ix_l trace 4 1 t36q7 k386) allP_nil)) ?_
     refine rf [(1, .sl pipes.length (fl pipes)), (4, .ptr 0 0), (7, iS t36q7), (8, .ptr 1 0), (34, .sl trace.length (fl trace)), (35, iS ((trace.length : Nat) : Int)), (36, iS t36q7)] [(0, .row 26 [iS 0, iS 0]), (1, .row 31 (Enc.cells (ix trace t36q7)))] 2 (by kernel_rfl) ?_
     refine wk_id ?_
     refine block_np ?_
     refine seq_cut (A := Unit) (fun _ => ([(1, .sl pipes.length (fl pipes)), (4, .ptr 0 0), (7, iS t36q7), (8, .ptr 1 0), (34, .sl trace.length (fl trace)), (35, iS ((trace.length : Nat) : Int)), (36, iS t36q7), (41, bS ((decide ((ix trace t36q7).Task < 1)) || (decide ((64 : Int) < (ix trace t36q7).Task))))], [(0, .row 26 [iS 0, iS 0]), (1, .row 31 (Enc.cells (ix trace t36q7)))], 2)) (fun _ => True) (fun K406 hK406 => ?_) (fun _ _ => ?_)
     ·refine reg_f ?_
      refine rs 4 [] [] (by kernel_rfl) allP_nil ?_
      refine run_split 45 (decide ((ix trace t36q7).Task < 1)) (.inl (by kernel_rfl)) (fun g407 => ?_) (fun g407 => ?_)
      ·refine rs 5 [] [] (by kernel_rfl) allP_nil ?_
       refine rf [(1, .sl pipes.length (fl pipes)), (4, .ptr 0 0), (7, iS t36q7), (8, .ptr 1 0), (34, .sl trace.length (fl trace)), (35, iS ((trace.length : Nat) : Int)), (36, iS t36q7), (41, bS true)] [(0, .row 26 [iS 0, iS 0]), (1, .row 31 (Enc.cells (ix trace t36q7)))] 2 (by kernel_rfl) ?_
       exact hK406 () _ _ _ trivial (leSt_m [(0, 0), (1, 1)] [] (by (try simp only [g407]) <;> simp only [push_cast, seval]) (by (try simp only [g407]) <;> simp only [push_cast, seval]) rfl rfl rfl)
      ·refine rs 5 [] [] (by kernel_rfl) allP_nil ?_
       refine rf [(1, .sl pipes.length (fl pipes)), (4, .ptr 0 0), (7, iS t36q7), (8, .ptr 1 0), (34, .sl trace.length (fl trace)), (35, iS ((trace.length : Nat) : Int)), (36, iS t36q7), (41, bS (decide ((64 : Int) < (ix trace t36q7).Task)))] [(0, .row 26 [iS 0, iS 0]), (1, .row 31 (Enc.cells (ix trace t36q7)))] 2 (by kernel_rfl) ?_
       exact hK406 () _ _ _ trivial (leSt_m [(0, 0), (1, 1)] [] (by (try simp only [g407]) <;> simp only [push_cast, seval]) (by (try simp only [g407]) <;> simp only [push_cast, seval]) rfl rfl rfl)
     ·dsimp only
      refine cond_sx h (by kernel_rfl) (fun g438 h => ?_) (fun g438 h => ?_)
      ·refine seq_np ?_
       refine reg_f ?_
       refine rs 1 [] [] (by kernel_rfl) allP_nil ?_
       obtain ⟨r409, hr409, h⟩ := bind_sx h
       refine run_call 32 [iS 3, iS t36q7] (some 51) (by kernel_rfl) ?_
       refine call_0 (order_fault_spec 3 t36q7 r409 hr409) (by simp only [push_cast, seval]) (by simp only [push_cast, seval]) ?_
       refine back_f ?_
       refine rs 1 [] [] (by kernel_rfl) allP_nil ?_
       refine rf [(4, .ptr 0 0)] [(0, .row 26 (Enc.cells r409)), (1, .row 31 (Enc.cells (ix trace t36q7)))] 2 (by kernel_rfl) ?_
       refine wk_id ?_
       refine rt_cast ht4 ?_
       obtain ⟨r0, h, e0⟩ := map_sx h
       have e1 := hr4 r0 e0.symm
       subst r0
       obtain rfl := Option.some.inj h
       refine ret_at (.agg (Enc.cells r409)) (by kernel_rfl) ?_
       exact ret_e [] [] (by simp only [push_cast, seval]) (by simp only [push_cast, seval]) rfl rfl rfl
      ·refine seq_cut (A := Unit) (fun _ => ([(1, .sl pipes.length (fl pipes)), (4, .ptr 0 0), (7, iS t36q7), (8, .ptr 1 0), (34, .sl trace.length (fl trace)), (35, iS ((trace.length : Nat) : Int)), (36, iS t36q7), (52, bS ((decide ((ix trace t36q7).Op < 8)) || (decide ((22 : Int) < (ix trace t36q7).Op))))], [(0, .row 26 [iS 0, iS 0]), (1, .row 31 (Enc.cells (ix trace t36q7)))], 2)) (fun _ => True) (fun K411 hK411 => ?_) (fun _ _ => ?_)
       ·refine reg_f ?_
        refine rs 4 [] [] (by kernel_rfl) allP_nil ?_
        refine run_split 56 (decide ((ix trace t36q7).Op < 8)) (.inl (by kernel_rfl)) (fun g412 => ?_) (fun g412 => ?_)
        ·refine rs 5 [] [] (by kernel_rfl) allP_nil ?_
         refine rf [(1, .sl pipes.length (fl pipes)), (4, .ptr 0 0), (7, iS t36q7), (8, .ptr 1 0), (34, .sl trace.length (fl trace)), (35, iS ((trace.length : Nat) : Int)), (36, iS t36q7), (52, bS true)] [(0, .row 26 [iS 0, iS 0]), (1, .row 31 (Enc.cells (ix trace t36q7)))] 2 (by kernel_rfl) ?_
         exact hK411 () _ _ _ trivial (leSt_m [(0, 0), (1, 1)] [] (by (try simp only [g412]) <;> simp only [push_cast, seval]) (by (try simp only [g412]) <;> simp only [push_cast, seval]) rfl rfl rfl)
        ·refine rs 5 [] [] (by kernel_rfl) allP_nil ?_
         refine rf [(1, .sl pipes.length (fl pipes)), (4, .ptr 0 0), (7, iS t36q7), (8, .ptr 1 0), (34, .sl trace.length (fl trace)), (35, iS ((trace.length : Nat) : Int)), (36, iS t36q7), (52, bS (decide ((22 : Int) < (ix trace t36q7).Op)))] [(0, .row 26 [iS 0, iS 0]), (1, .row 31 (Enc.cells (ix trace t36q7)))] 2 (by kernel_rfl) ?_
         exact hK411 () _ _ _ trivial (leSt_m [(0, 0), (1, 1)] [] (by (try simp only [g412]) <;> simp only [push_cast, seval]) (by (try simp only [g412]) <;> simp only [push_cast, seval]) rfl rfl rfl)
       ·dsimp only
        refine cond_sx h (by kernel_rfl) (fun g437 h => ?_) (fun g437 h => ?_)
        ·refine seq_np ?_
         refine reg_f ?_
         refine rs 1 [] [] (by kernel_rfl) allP_nil ?_
         obtain ⟨r414, hr414, h⟩ := bind_sx h
         refine run_call 32 [iS 4, iS t36q7] (some 62) (by kernel_rfl) ?_
         refine call_0 (order_fault_spec 4 t36q7 r414 hr414) (by simp only [push_cast, seval]) (by simp only [push_cast, seval]) ?_
         refine back_f ?_
         refine rs 1 [] [] (by kernel_rfl) allP_nil ?_
         refine rf [(4, .ptr 0 0)] [(0, .row 26 (Enc.cells r414)), (1, .row 31 (Enc.cells (ix trace t36q7)))] 2 (by kernel_rfl) ?_
         refine wk_id ?_
         refine rt_cast ht4 ?_
         obtain ⟨r0, h, e0⟩ := map_sx h
         have e1 := hr4 r0 e0.symm
         subst r0
         obtain rfl := Option.some.inj h
         refine ret_at (.agg (Enc.cells r414)) (by kernel_rfl) ?_
         exact ret_e [] [] (by simp only [push_cast, seval]) (by simp only [push_cast, seval]) rfl rfl rfl
        ·refine seq_cut (A := Unit) (fun _ => ([(1, .sl pipes.length (fl pipes)), (4, .ptr 0 0), (7, iS t36q7), (8, .ptr 1 0), (34, .sl trace.length (fl trace)), (35, iS ((trace.length : Nat) : Int)), (36, iS t36q7), (63, bS ((decide ((ix trace t36q7).Obj < 0)) || ((decide ((20 : Int) < (ix trace t36q7).Obj)) || (bif ((ix trace t36q7).Op == 14) then (decide (((pipes.length : Nat) : Int) ≤ (ix trace t36q7).Obj)) else (bif ((ix trace t36q7).Op == 15) then (decide (((pipes.length : Nat) : Int) ≤ (ix trace t36q7).Obj)) else (((ix trace t36q7).Op == 16) && (decide (((pipes.length : Nat) : Int) ≤ (ix trace t36q7).Obj))))))))], [(0, .row 26 [iS 0, iS 0]), (1, .row 31 (Enc.cells (ix trace t36q7)))], 2)) (fun _ => True) (fun K420 hK420 => ?_) (fun _ _ => ?_)
         ·refine reg_f ?_
          refine rs 4 [] [] (by kernel_rfl) allP_nil ?_
          refine run_split 67 (decide ((ix trace t36q7).Obj < 0)) (.inl (by kernel_rfl)) (fun g421 => ?_) (fun g421 => ?_)
          ·refine rs 27 [] [] (by kernel_rfl) allP_nil ?_
           refine rf [(1, .sl pipes.length (fl pipes)), (4, .ptr 0 0), (7, iS t36q7), (8, .ptr 1 0), (34, .sl trace.length (fl trace)), (35, iS ((trace.length : Nat) : Int)), (36, iS t36q7), (63, bS true)] [(0, .row 26 [iS 0, iS 0]), (1, .row 31 (Enc.cells (ix trace t36q7)))] 2 (by kernel_rfl) ?_
           exact hK420 () _ _ _ trivial (leSt_m [(0, 0), (1, 1)] [] (by (try simp only [g421]) <;> simp only [push_cast, seval]) (by (try simp only [g421]) <;> simp only [push_cast, seval]) rfl rfl rfl)
          ·refine rs 5 [] [] (by kernel_rfl) allP_nil ?_
           refine run_split 72 (decide ((20 : Int) < (ix trace t36q7).Obj)) (.inl (by kernel_rfl)) (fun g422 => ?_) (fun g422 => ?_)
           ·refine rs 22 [] [] (by kernel_rfl) allP_nil ?_
            refine rf [(1, .sl pipes.length (fl pipes)), (4, .ptr 0 0), (7, iS t36q7), (8, .ptr 1 0), (34, .sl trace.length (fl trace)), (35, iS ((trace.length : Nat) : Int)), (36, iS t36q7), (63, bS true)] [(0, .row 26 [iS 0, iS 0]), (1, .row 31 (Enc.cells (ix trace t36q7)))] 2 (by kernel_rfl) ?_
            exact hK420 () _ _ _ trivial (leSt_m [(0, 0), (1, 1)] [] (by first | ((try simp only [g421, g422]) <;> simp only [push_cast, seval]; done) | ((try simp only [g421]); (try simp only [g422]); simp only [push_cast, seval]; done) | (exfalso; clear h; simp_all; done)) (by first | ((try simp only [g421, g422]) <;> simp only [push_cast, seval]; done) | ((try simp only [g421]); (try simp only [g422]); simp only [push_cast, seval]; done) | (exfalso; clear h; simp_all; done)) rfl rfl rfl)
           ·refine rs 4 [] [] (by kernel_rfl) allP_nil ?_
            refine run_split 76 ((ix trace t36q7).Op == 14) (.inr (by kernel_rfl)) (fun g423 => ?_) (fun g423 => ?_)
            ·refine rn 13 [(1, .sl pipes.length (fl pipes)), (4, .ptr 0 0), (7, iS t36q7), (8, .ptr 1 0), (34, .sl trace.length (fl trace)), (35, iS ((trace.length : Nat) : Int)), (36, iS t36q7), (72, bS false), (76, .gd true (bS true))] [(0, .row 26 [iS 0, iS 0]), (1, .row 31 (Enc.cells (ix trace t36q7)))] 2 (by kernel_rfl) ?_
             refine rs 18 [] [] (by kernel_rfl) allP_nil ?_
             refine rf [(1, .sl pipes.length (fl pipes)), (4, .ptr 0 0), (7, iS t36q7), (8, .ptr 1 0), (34, .sl trace.length (fl trace)), (35, iS ((trace.length : Nat) : Int)), (36, iS t36q7), (63, bS (decide (((pipes.length : Nat) : Int) ≤ (ix trace t36q7).Obj)))] [(0, .row 26 [iS 0, iS 0]), (1, .row 31 (Enc.cells (ix trace t36q7)))] 2 (by kernel_rfl) ?_
             exact hK420 () _ _ _ trivial (leSt_m [(0, 0), (1, 1)] [] (by first | ((try simp only [g421, g422, g423]) <;> simp only [push_cast, seval]; done) | ((try simp only [g421]); (try simp only [g422]); (try simp only [g423]); simp only [push_cast, seval]; done) | (exfalso; clear h; simp_all; done)) (by first | ((try simp only [g421, g422, g423]) <;> simp only [push_cast, seval]; done) | ((try simp only [g421]); (try simp only [g422]); (try simp only [g423]); simp only [push_cast, seval]; done) | (exfalso; clear h; simp_all; done)) rfl rfl rfl)
            ·refine rn 13 [(1, .sl pipes.length (fl pipes)), (4, .ptr 0 0), (7, iS t36q7), (8, .ptr 1 0), (34, .sl trace.length (fl trace)), (35, iS ((trace.length : Nat) : Int)), (36, iS t36q7), (72, bS false), (76, .gd true (bS false))] [(0, .row 26 [iS 0, iS 0]), (1, .row 31 (Enc.cells (ix trace t36q7)))] 2 (by kernel_rfl) ?_
             refine rs 5 [] [] (by kernel_rfl) allP_nil ?_
             refine run_split 81 ((ix trace t36q7).Op == 15) (.inr (by kernel_rfl)) (fun g424 => ?_) (fun g424 => ?_)
             ·refine rs 13 [] [] (by kernel_rfl) allP_nil ?_
              refine rf [(1, .sl pipes.length (fl pipes)), (4, .ptr 0 0), (7, iS t36q7), (8, .ptr 1 0), (34, .sl trace.length (fl trace)), (35, iS ((trace.length : Nat) : Int)), (36, iS t36q7), (63, bS (decide (((pipes.length : Nat) : Int) ≤ (ix trace t36q7).Obj)))] [(0, .row 26 [iS 0, iS 0]), (1, .row 31 (Enc.cells (ix trace t36q7)))] 2 (by kernel_rfl) ?_
              exact hK420 () _ _ _ trivial (leSt_m [(0, 0), (1, 1)] [] (by first | ((try simp only [g421, g422, g423, g424]) <;> simp only [push_cast, seval]; done) | ((try simp only [g421]); (try simp only [g422]); (try simp only [g423]); (try simp only [g424]); simp only [push_cast, seval]; done) | (exfalso; clear h; simp_all; done)) (by first | ((try simp only [g421, g422, g423, g424]) <;> simp only [push_cast, seval]; done) | ((try simp only [g421]); (try simp only [g422]); (try simp only [g423]); (try simp only [g424]); simp only [push_cast, seval]; done) | (exfalso; clear h; simp_all; done)) rfl rfl rfl)
             ·refine rs 5 [] [] (by kernel_rfl) allP_nil ?_
              refine run_split 86 ((ix trace t36q7).Op == 16) (.inr (by kernel_rfl)) (fun g425 => ?_) (fun g425 => ?_)
              ·refine rs 8 [] [] (by kernel_rfl) allP_nil ?_
               refine rf [(1, .sl pipes.length (fl pipes)), (4, .ptr 0 0), (7, iS t36q7), (8, .ptr 1 0), (34, .sl trace.length (fl trace)), (35, iS ((trace.length : Nat) : Int)), (36, iS t36q7), (63, bS (decide (((pipes.length : Nat) : Int) ≤ (ix trace t36q7).Obj)))] [(0, .row 26 [iS 0, iS 0]), (1, .row 31 (Enc.cells (ix trace t36q7)))] 2 (by kernel_rfl) ?_
               exact hK420 () _ _ _ trivial (leSt_m [(0, 0), (1, 1)] [] (by first | ((try simp only [g421, g422, g423, g424, g425]) <;> simp only [push_cast, seval]; done) | ((try simp only [g421]); (try simp only [g422]); (try simp only [g423]); (try simp only [g424]); (try simp only [g425]); simp only [push_cast, seval]; done) | (exfalso; clear h; simp_all; done)) (by first | ((try simp only [g421, g422, g423, g424, g425]) <;> simp only [push_cast, seval]; done) | ((try simp only [g421]); (try simp only [g422]); (try simp only [g423]); (try simp only [g424]); (try simp only [g425]); simp only [push_cast, seval]; done) | (exfalso; clear h; simp_all; done)) rfl rfl rfl)
              ·refine rs 8 [] [] (by kernel_rfl) allP_nil ?_
               refine rf [(1, .sl pipes.length (fl pipes)), (4, .ptr 0 0), (7, iS t36q7), (8, .ptr 1 0), (34, .sl trace.length (fl trace)), (35, iS ((trace.length : Nat) : Int)), (36, iS t36q7), (63, bS false)] [(0, .row 26 [iS 0, iS 0]), (1, .row 31 (Enc.cells (ix trace t36q7)))] 2 (by kernel_rfl) ?_
               exact hK420 () _ _ _ trivial (leSt_m [(0, 0), (1, 1)] [] (by first | ((try simp only [g421, g422, g423, g424, g425]) <;> simp only [push_cast, seval]; done) | ((try simp only [g421]); (try simp only [g422]); (try simp only [g423]); (try simp only [g424]); (try simp only [g425]); simp only [push_cast, seval]; done) | (exfalso; clear h; simp_all; done)) (by first | ((try simp only [g421, g422, g423, g424, g425]) <;> simp only [push_cast, seval]; done) | ((try simp only [g421]); (try simp only [g422]); (try simp only [g423]); (try simp only [g424]); (try simp only [g425]); simp only [push_cast, seval]; done) | (exfalso; clear h; simp_all; done)) rfl rfl rfl)
         ·dsimp only
          refine cond_sx h (by kernel_rfl) (fun g436 h => ?_) (fun g436 h => ?_)
          ·refine seq_np ?_
           refine reg_f ?_
           refine rs 1 [] [] (by kernel_rfl) allP_nil ?_
           obtain ⟨r427, hr427, h⟩ := bind_sx h
           refine run_call 32 [iS 5, iS t36q7] (some 95) (by kernel_rfl) ?_
           refine call_0 (order_fault_spec 5 t36q7 r427 hr427) (by simp only [push_cast, seval]) (by simp only [push_cast, seval]) ?_
           refine back_f ?_
           refine rs 1 [] [] (by kernel_rfl) allP_nil ?_
           refine rf [(4, .ptr 0 0)] [(0, .row 26 (Enc.cells r427)), (1, .row 31 (Enc.cells (ix trace t36q7)))] 2 (by kernel_rfl) ?_
           refine wk_id ?_
           refine rt_cast ht4 ?_
           obtain ⟨r0, h, e0⟩ := map_sx h
           have e1 := hr4 r0 e0.symm
           subst r0
           obtain rfl := Option.some.inj h
           refine ret_at (.agg (Enc.cells r427)) (by kernel_rfl) ?_
           exact ret_e [] [] (by simp only [push_cast, seval]) (by simp only [push_cast, seval]) rfl rfl rfl
          ·refine seq_cut (A := Unit) (fun _ => ([(1, .sl pipes.length (fl pipes)), (4, .ptr 0 0), (7, iS t36q7), (34, .sl trace.length (fl trace)), (35, iS ((trace.length : Nat) : Int)), (36, iS t36q7), (96, bS (((ix trace t36q7).Op == 11) && ((decide ((ix trace t36q7).Value < 1)) || (decide ((64 : Int) < (ix trace t36q7).Value)))))], [(0, .row 26 [iS 0, iS 0]), (1, .row 31 (Enc.cells (ix trace t36q7)))], 2)) (fun _ => True) (fun K430 hK430 => ?_) (fun _ _ => ?_)
           ·refine reg_f ?_
            refine rs 4 [] [] (by kernel_rfl) allP_nil ?_
            refine run_split 100 ((ix trace t36q7).Op == 11) (.inl (by kernel_rfl)) (fun g431 => ?_) (fun g431 => ?_)
            ·refine rs 4 [] [] (by kernel_rfl) allP_nil ?_
             refine run_split 104 (decide ((ix trace t36q7).Value < 1)) (.inr (by kernel_rfl)) (fun g432 => ?_) (fun g432 => ?_)
             ·refine rs 6 [] [] (by kernel_rfl) allP_nil ?_
              refine rf [(1, .sl pipes.length (fl pipes)), (4, .ptr 0 0), (7, iS t36q7), (34, .sl trace.length (fl trace)), (35, iS ((trace.length : Nat) : Int)), (36, iS t36q7), (96, bS true)] [(0, .row 26 [iS 0, iS 0]), (1, .row 31 (Enc.cells (ix trace t36q7)))] 2 (by kernel_rfl) ?_
              exact hK430 () _ _ _ trivial (leSt_m [(0, 0), (1, 1)] [] (by first | ((try simp only [g431, g432]) <;> simp only [push_cast, seval]; done) | ((try simp only [g431]); (try simp only [g432]); simp only [push_cast, seval]; done) | (exfalso; clear h; simp_all; done)) (by first | ((try simp only [g431, g432]) <;> simp only [push_cast, seval]; done) | ((try simp only [g431]); (try simp only [g432]); simp only [push_cast, seval]; done) | (exfalso; clear h; simp_all; done)) rfl rfl rfl)
             ·refine rs 6 [] [] (by kernel_rfl) allP_nil ?_
              refine rf [(1, .sl pipes.length (fl pipes)), (4, .ptr 0 0), (7, iS t36q7), (34, .sl trace.length (fl trace)), (35, iS ((trace.length : Nat) : Int)), (36, iS t36q7), (96, bS (decide ((64 : Int) < (ix trace t36q7).Value)))] [(0, .row 26 [iS 0, iS 0]), (1, .row 31 (Enc.cells (ix trace t36q7)))] 2 (by kernel_rfl) ?_
              exact hK430 () _ _ _ trivial (leSt_m [(0, 0), (1, 1)] [] (by first | ((try simp only [g431, g432]) <;> simp only [push_cast, seval]; done) | ((try simp only [g431]); (try simp only [g432]); simp only [push_cast, seval]; done) | (exfalso; clear h; simp_all; done)) (by first | ((try simp only [g431, g432]) <;> simp only [push_cast, seval]; done) | ((try simp only [g431]); (try simp only [g432]); simp only [push_cast, seval]; done) | (exfalso; clear h; simp_all; done)) rfl rfl rfl)
            ·refine rs 10 [] [] (by kernel_rfl) allP_nil ?_
             refine rf [(1, .sl pipes.length (fl pipes)), (4, .ptr 0 0), (7, iS t36q7), (34, .sl trace.length (fl trace)), (35, iS ((trace.length : Nat) : Int)), (36, iS t36q7), (96, bS false)] [(0, .row 26 [iS 0, iS 0]), (1, .row 31 (Enc.cells (ix trace t36q7)))] 2 (by kernel_rfl) ?_
             exact hK430 () _ _ _ trivial (leSt_m [(0, 0), (1, 1)] [] (by (try simp only [g431]) <;> simp only [push_cast, seval]) (by (try simp only [g431]) <;> simp only [push_cast, seval]) rfl rfl rfl)
           ·dsimp only
            refine cond_sx h (by kernel_rfl) (fun g435 h => ?_) (fun g435 h => ?_)
            ·refine seq_np ?_
             refine reg_f ?_
             refine rs 1 [] [] (by kernel_rfl) allP_nil ?_
             obtain ⟨r434, hr434, h⟩ := bind_sx h
             refine run_call 32 [iS 5, iS t36q7] (some 111) (by kernel_rfl) ?_
             refine call_0 (order_fault_spec 5 t36q7 r434 hr434) (by simp only [push_cast, seval]) (by simp only [push_cast, seval]) ?_
             refine back_f ?_
             refine rs 1 [] [] (by kernel_rfl) allP_nil ?_
             refine rf [(4, .ptr 0 0)] [(0, .row 26 (Enc.cells r434)), (1, .row 31 (Enc.cells (ix trace t36q7)))] 2 (by kernel_rfl) ?_
             refine wk_id ?_
             refine rt_cast ht4 ?_
             obtain ⟨r0, h, e0⟩ := map_sx h
             have e1 := hr4 r0 e0.symm
             subst r0
             obtain rfl := Option.some.inj h
             refine ret_at (.agg (Enc.cells r434)) (by kernel_rfl) ?_
             exact ret_e [] [] (by simp only [push_cast, seval]) (by simp only [push_cast, seval]) rfl rfl rfl
            ·refine wk_id ?_
             refine wk_id ?_
             refine wk_id ?_
             refine reg_f ?_
             refine rs 2 [] [] (by kernel_rfl) allP_nil ?_
             refine rf [(1, .sl pipes.length (fl pipes)), (4, .ptr 0 0), (34, .sl trace.length (fl trace)), (35, iS ((trace.length : Nat) : Int)), (36, iS (IntKind.i64.wrap (t36q7 + 1)))] [(0, .row 26 [iS 0, iS 0]), (1, .row 31 (Enc.cells (ix trace t36q7)))] 2 (by kernel_rfl) ?_
             exact hn4 ((IntKind.i64.wrap (t36q7 + 1))) _ _ _ (Option.some.inj h).symm (leSt_m [(0, 0)] [] (by simp only [push_cast, seval]) (by simp only [push_cast, seval]) rfl rfl rfl)
    ·change R4 (.exit 2) _ _ _
     refine ex_cast hx4 (id := 2) ?_
     obtain ⟨r0, h, e0⟩ := map_sx h
     have e1 := hr4 r0 e0.symm
     subst r0
     refine wk_id ?_
     refine wk_id ?_
     refine seq_np ?_
     refine reg_f ?_
     refine rs 2 [] [] (by kernel_rfl) allP_nil ?_
     refine rf [(4, .ptr 0 0)] [(0, .row 26 [iS 0, iS 0])] 1 (by kernel_rfl) ?_
     refine wk_id ?_
     obtain rfl := Option.some.inj h
     refine ret_at (.agg [iS 0, iS 0]) (by kernel_rfl) ?_
     exact ret_e [] [] (by simp only [push_cast, seval]) (by simp only [push_cast, seval]) rfl rfl rfl

set_option maxRecDepth 100000 in
set_option maxHeartbeats 200000000 in
theorem race_access_spec (e : GEvent) (r : Bool) (h : race_access e = some r) : SpecW Try.prog 40 [.agg (Enc.cells e)] [] 0 (fun x h n => x = bS r ∧ h = [] ∧ n = 0) := by
 unfold race_access at h
 refine spec_of (draw_ok _) Try.func40 rfl (by decide) rfl (by kernel_rfl) ?_
 refine seq_np ?_
 refine reg_f ?_
 refine rs 2 [] [] (by kernel_rfl) allP_nil ?_
 refine rf [(1, .ptr 0 0)] [(0, .row 31 (Enc.cells e))] 1 (by kernel_rfl) ?_
 refine wk_id ?_
 refine seq_cut (A := Unit) (fun _ => ([(2, bS ((e.Op == 12) || (e.Op == 13)))], [(0, .row 31 (Enc.cells e))], 1)) (fun _ => True) (fun K449 hK449 => ?_) (fun _ _ => ?_)
 ·refine reg_f ?_
  refine rs 4 [] [] (by kernel_rfl) allP_nil ?_
  refine run_split 6 (e.Op == 12) (.inl (by kernel_rfl)) (fun g450 => ?_) (fun g450 => ?_)
  ·refine rs 5 [] [] (by kernel_rfl) allP_nil ?_
   refine rf [(2, bS true)] [(0, .row 31 (Enc.cells e))] 1 (by kernel_rfl) ?_
   exact hK449 () _ _ _ trivial (leSt_m [(0, 0)] [] (by (try simp only [g450]) <;> simp only [push_cast, seval]) (by (try simp only [g450]) <;> simp only [push_cast, seval]) rfl rfl rfl)
  ·refine rs 5 [] [] (by kernel_rfl) allP_nil ?_
   refine rf [(2, bS (e.Op == 13))] [(0, .row 31 (Enc.cells e))] 1 (by kernel_rfl) ?_
   exact hK449 () _ _ _ trivial (leSt_m [(0, 0)] [] (by (try simp only [g450]) <;> simp only [push_cast, seval]) (by (try simp only [g450]) <;> simp only [push_cast, seval]) rfl rfl rfl)
 ·dsimp only
  obtain rfl := Option.some.inj h
  refine ret_at (bS ((e.Op == 12) || (e.Op == 13))) (by kernel_rfl) ?_
  exact ret_e [] [] (by simp only [push_cast, seval]) (by simp only [push_cast, seval]) rfl rfl rfl

set_option maxRecDepth 100000 in
set_option maxHeartbeats 200000000 in
theorem slices_Index_int_spec (s : (List Int)) (v : Int) (r : Int) (h : slices_Index_int s v = some r) : SpecW Try.prog 48 [.sl s.length (fl s), iS v] [] 0 (fun x h n => x = iS r ∧ h = [] ∧ n = 0) := by
 unfold slices_Index_int at h
 refine spec_of (draw_ok _) Try.func48 rfl (by decide) rfl (by kernel_rfl) ?_
 refine seq_np ?_
 refine reg_f ?_
 refine rs 1 [] [] (by kernel_rfl) allP_nil ?_
 refine rf [(0, .sl s.length (fl s)), (1, iS v)] [] 0 (by kernel_rfl) ?_
 refine wk_id ?_
 refine seq_np ?_
 refine seq_np ?_
 refine reg_f ?_
 refine rs 3 [] [] (by kernel_rfl) allP_nil ?_
 refine rf [(0, .sl s.length (fl s)), (1, iS v), (7, iS ((s.length : Nat) : Int)), (8, iS 0)] [] 0 (by kernel_rfl) ?_
 refine wk_id ?_
 refine block_np ?_
 refine loop_sx (S := Int) (fun a => ([(0, .sl s.length (fl s)), (1, iS v), (7, iS ((s.length : Nat) : Int)), (8, iS a)], [], 0)) h (leSt_m [] [] (by simp only [push_cast, leL_flD, renL_flD, seval]) (by simp only [push_cast, leL_flD, renL_flD, seval]) rfl rfl rfl) ?_
 rintro t8q7 o2 R2 h hr2 hn2 hx2 ht2
 try dsimp only at h hn2 ⊢
 unfold slices_Index_int_l1 at h
 try dsimp only at h
 refine seq_np ?_
 refine reg_f ?_
 refine rs 1 [] [] (by kernel_rfl) allP_nil ?_
 refine rf [(0, .sl s.length (fl s)), (1, iS v), (7, iS ((s.length : Nat) : Int)), (8, iS t8q7), (9, bS (decide (t8q7 < ((s.length : Nat) : Int))))] [] 0 (by kernel_rfl) ?_
 refine wk_id ?_
 refine seq_np ?_
 refine cond_sx h (by kernel_rfl) (fun g547 h => ?_) (fun g547 h => ?_)
 ·refine wk_id ?_
  refine seq_np ?_
  refine block_np ?_
  refine seq_np ?_
  refine reg_f ?_
  refine rs 2 [] [] (by kernel_rfl) allP_nil ?_
  refine rf [(0, .sl s.length (fl s)), (1, iS v), (5, iS t8q7), (7, iS ((s.length : Nat) : Int)), (8, iS t8q7)] [] 0 (by kernel_rfl) ?_
  refine wk_id ?_
  refine chk_sx h (fun g545 h => ?_)
  refine seq_np ?_
  refine reg_f ?_
  have k544 : 0 ≤ t8q7 ∧ t8q7 < ((s.length : Nat) : Int) := by first | simpa only [Bool.and_eq_true, decide_eq_true_eq, bne_iff_ne, ne_eq] using g545 | (simp at g545 ⊢; omega)
  refine rs 6 [none, none, none, some ⟨.iptr (fl s) ((t8q7).toNat * 1), [], 0, []⟩, some ⟨iS (ix s t8q7), [], 0, []⟩] _ (by kernel_rfl) (allP_cons (ob_ld s t8q7 1 0 ((t8q7).toNat * 1) k544 rfl (by decide) (by first | rfl | omega) (dflS Try.prog 3) (iS (ix s t8q7)) rfl 0 []) (allP_cons (ob_ix_l s 1 0 t8q7 k544) allP_nil)) ?_
  refine rf [(0, .sl s.length (fl s)), (1, iS v), (5, iS t8q7), (7, iS ((s.length : Nat) : Int)), (8, iS t8q7), (16, bS (v == (ix s t8q7)))] [] 0 (by kernel_rfl) ?_
  refine wk_id ?_
  refine cond_sx h (by kernel_rfl) (fun g546 h => ?_) (fun g546 h => ?_)
  ·refine seq_np ?_
   refine reg_f ?_
   refine rs 2 [] [] (by kernel_rfl) allP_nil ?_
   refine rf [(4, iS t8q7)] [] 0 (by kernel_rfl) ?_
   refine wk_id ?_
   refine rt_cast ht2 ?_
   obtain ⟨r0, h, e0⟩ := map_sx h
   have e1 := hr2 r0 e0.symm
   subst r0
   obtain rfl := Option.some.inj h
   refine ret_at (iS t8q7) (by kernel_rfl) ?_
   exact ret_e [] [] (by simp only [push_cast, leL_flD, renL_flD, seval]) (by simp only [push_cast, leL_flD, renL_flD, seval]) rfl rfl rfl
  ·refine wk_id ?_
   refine wk_id ?_
   refine reg_f ?_
   refine rs 2 [] [] (by kernel_rfl) allP_nil ?_
   refine rf [(0, .sl s.length (fl s)), (1, iS v), (7, iS ((s.length : Nat) : Int)), (8, iS (IntKind.i64.wrap (t8q7 + 1)))] [] 0 (by kernel_rfl) ?_
   exact hn2 ((IntKind.i64.wrap (t8q7 + 1))) _ _ _ (Option.some.inj h).symm (leSt_m [] [] (by simp only [push_cast, leL_flD, renL_flD, seval]) (by simp only [push_cast, leL_flD, renL_flD, seval]) rfl rfl rfl)
 ·change R2 (.exit 0) _ _ _
  refine ex_cast hx2 (id := 0) ?_
  obtain ⟨r0, h, e0⟩ := map_sx h
  have e1 := hr2 r0 e0.symm
  subst r0
  refine wk_id ?_
  refine wk_id ?_
  refine seq_np ?_
  refine reg_f ?_
  refine rs 1 [] [] (by kernel_rfl) allP_nil ?_
  refine rf [(4, iS (-1))] [] 0 (by kernel_rfl) ?_
  refine wk_id ?_
  obtain rfl := Option.some.inj h
  refine ret_at (iS (-1)) (by kernel_rfl) ?_
  exact ret_e [] [] (by simp only [push_cast, leL_flD, renL_flD, seval]) (by simp only [push_cast, leL_flD, renL_flD, seval]) rfl rfl rfl

set_option maxRecDepth 100000 in
set_option maxHeartbeats 200000000 in
theorem slices_Contains_int_spec (s : (List Int)) (v : Int) (r : Bool) (h : slices_Contains_int s v = some r) : SpecW Try.prog 43 [.sl s.length (fl s), iS v] [] 0 (fun x h n => x = bS r ∧ h = [] ∧ n = 0) := by
 unfold slices_Contains_int at h
 refine spec_of (draw_ok _) Try.func43 rfl (by decide) rfl (by kernel_rfl) ?_
 refine seq_np ?_
 refine reg_f ?_
 refine rs 1 [] [] (by kernel_rfl) allP_nil ?_
 refine rf [(0, .sl s.length (fl s)), (1, iS v)] [] 0 (by kernel_rfl) ?_
 refine wk_id ?_
 refine seq_np ?_
 refine reg_f ?_
 refine rs 2 [] [] (by kernel_rfl) allP_nil ?_
 obtain ⟨r550, hr550, h⟩ := bind_sx h
 refine run_call 48 [.sl s.length (fl s), iS v] (some 7) (by kernel_rfl) ?_
 refine call_0 (slices_Index_int_spec s v r550 hr550) (by simp only [push_cast, leL_flD, renL_flD, seval]) (by simp only [push_cast, leL_flD, renL_flD, seval]) ?_
 refine back_f ?_
 refine rs 2 [] [] (by kernel_rfl) allP_nil ?_
 refine rf [(4, bS (decide ((0 : Int) ≤ r550)))] [] 0 (by kernel_rfl) ?_
 refine wk_id ?_
 obtain rfl := Option.some.inj h
 refine ret_at (bS (decide ((0 : Int) ≤ r550))) (by kernel_rfl) ?_
 exact ret_e [] [] (by simp only [push_cast, leL_flD, renL_flD, seval]) (by simp only [push_cast, leL_flD, renL_flD, seval]) rfl rfl rfl

set_option maxRecDepth 100000 in
set_option maxHeartbeats 200000000 in
theorem race_Guards_1_spec (l : Int) (t1 : (List Int)) (r : Bool) (h : race_Guards_1 l t1 = some r) : SpecW Try.prog 42 [iS l, .iptr [.sl t1.length (fl t1)] 0] [] 0 (fun x h n => x = bS r ∧ h = [] ∧ n = 0) := by
 unfold race_Guards_1 at h
 refine spec_of (draw_ok _) Try.func42 rfl (by decide) rfl (by kernel_rfl) ?_
 refine seq_np ?_
 refine reg_f ?_
 refine rs 1 [] [] (by kernel_rfl) allP_nil ?_
 refine rf [(0, iS l), (1, .iptr [.sl t1.length (fl t1)] 0)] [] 0 (by kernel_rfl) ?_
 refine wk_id ?_
 refine seq_np ?_
 refine reg_f ?_
 refine rs 2 [] [] (by kernel_rfl) allP_nil ?_
 obtain ⟨r553, hr553, h⟩ := bind_sx h
 refine run_call 43 [.sl t1.length (fl t1), iS l] (some 6) (by kernel_rfl) ?_
 refine call_0 (slices_Contains_int_spec t1 l r553 hr553) (by simp only [push_cast, leL_flD, renL_flD, seval]) (by simp only [push_cast, leL_flD, renL_flD, seval]) ?_
 refine back_f ?_
 refine rs 2 [] [] (by kernel_rfl) allP_nil ?_
 refine rf [(3, bS (!r553))] [] 0 (by kernel_rfl) ?_
 refine wk_id ?_
 obtain rfl := Option.some.inj h
 refine ret_at (bS (!r553)) (by kernel_rfl) ?_
 exact ret_e [] [] (by simp only [push_cast, leL_flD, renL_flD, seval]) (by simp only [push_cast, leL_flD, renL_flD, seval]) rfl rfl rfl

set_option maxRecDepth 100000 in
set_option maxHeartbeats 200000000 in
theorem slices_IndexFunc_int_spec (s : (List Int)) (f : (List Int)) (r : Int) (h : slices_IndexFunc_int s f = some r) : SpecW Try.prog 47 [.sl s.length (fl s), .clo 42 [.iptr [.sl f.length (fl f)] 0]] [] 0 (fun x h n => x = iS r ∧ h = [] ∧ n = 0) := by
 unfold slices_IndexFunc_int at h
 refine spec_of (draw_ok _) Try.func47 rfl (by decide) rfl (by kernel_rfl) ?_
 refine seq_np ?_
 refine reg_f ?_
 refine rs 1 [] [] (by kernel_rfl) allP_nil ?_
 refine rf [(0, .sl s.length (fl s)), (1, .clo 42 [.iptr [.sl f.length (fl f)] 0])] [] 0 (by kernel_rfl) ?_
 refine wk_id ?_
 refine seq_np ?_
 refine seq_np ?_
 refine reg_f ?_
 refine rs 3 [] [] (by kernel_rfl) allP_nil ?_
 refine rf [(0, .sl s.length (fl s)), (1, .clo 42 [.iptr [.sl f.length (fl f)] 0]), (7, iS ((s.length : Nat) : Int)), (8, iS 0)] [] 0 (by kernel_rfl) ?_
 refine wk_id ?_
 refine block_np ?_
 refine loop_sx (S := Int) (fun a => ([(0, .sl s.length (fl s)), (1, .clo 42 [.iptr [.sl f.length (fl f)] 0]), (7, iS ((s.length : Nat) : Int)), (8, iS a)], [], 0)) h (leSt_m [] [] (by simp only [push_cast, leL_flD, renL_flD, seval]) (by simp only [push_cast, leL_flD, renL_flD, seval]) rfl rfl rfl) ?_
 rintro t8q7 o2 R2 h hr2 hn2 hx2 ht2
 try dsimp only at h hn2 ⊢
 unfold slices_IndexFunc_int_l1 at h
 try dsimp only at h
 refine seq_np ?_
 refine reg_f ?_
 refine rs 1 [] [] (by kernel_rfl) allP_nil ?_
 refine rf [(0, .sl s.length (fl s)), (1, .clo 42 [.iptr [.sl f.length (fl f)] 0]), (7, iS ((s.length : Nat) : Int)), (8, iS t8q7), (9, bS (decide (t8q7 < ((s.length : Nat) : Int))))] [] 0 (by kernel_rfl) ?_
 refine wk_id ?_
 refine seq_np ?_
 refine cond_sx h (by kernel_rfl) (fun g626 h => ?_) (fun g626 h => ?_)
 ·refine wk_id ?_
  refine seq_np ?_
  refine block_np ?_
  refine seq_np ?_
  refine reg_f ?_
  refine rs 2 [] [] (by kernel_rfl) allP_nil ?_
  refine rf [(0, .sl s.length (fl s)), (1, .clo 42 [.iptr [.sl f.length (fl f)] 0]), (5, iS t8q7), (7, iS ((s.length : Nat) : Int)), (8, iS t8q7)] [] 0 (by kernel_rfl) ?_
  refine wk_id ?_
  refine chk_sx h (fun g623 h => ?_)
  refine seq_np ?_
  refine reg_f ?_
  have k622 : 0 ≤ t8q7 ∧ t8q7 < ((s.length : Nat) : Int) := by first | simpa only [Bool.and_eq_true, decide_eq_true_eq, bne_iff_ne, ne_eq] using g623 | (simp at g623 ⊢; omega)
  refine rs 5 [none, none, none, some ⟨.iptr (fl s) ((t8q7).toNat * 1), [], 0, []⟩, some ⟨iS (ix s t8q7), [], 0, []⟩] _ (by kernel_rfl) (allP_cons (ob_ld s t8q7 1 0 ((t8q7).toNat * 1) k622 rfl (by decide) (by first | rfl | omega) (dflS Try.prog 3) (iS (ix s t8q7)) rfl 0 []) (allP_cons (ob_ix_l s 1 0 t8q7 k622) allP_nil)) ?_
  obtain ⟨r624, hr624, h⟩ := bind_sx h
  refine run_call 42 [iS (ix s t8q7), .iptr [.sl f.length (fl f)] 0] (some 16) (by kernel_rfl) ?_
  refine call_0 (race_Guards_1_spec (ix s t8q7) f r624 hr624) (by simp only [push_cast, leL_flD, renL_flD, seval]) (by simp only [push_cast, leL_flD, renL_flD, seval]) ?_
  refine back_f ?_
  refine rf [(0, .sl s.length (fl s)), (1, .clo 42 [.iptr [.sl f.length (fl f)] 0]), (5, iS t8q7), (7, iS ((s.length : Nat) : Int)), (8, iS t8q7), (16, bS r624)] [] 0 (by kernel_rfl) ?_
  refine wk_id ?_
  refine cond_sx h (by kernel_rfl) (fun g625 h => ?_) (fun g625 h => ?_)
  ·refine seq_np ?_
   refine reg_f ?_
   refine rs 2 [] [] (by kernel_rfl) allP_nil ?_
   refine rf [(4, iS t8q7)] [] 0 (by kernel_rfl) ?_
   refine wk_id ?_
   refine rt_cast ht2 ?_
   obtain ⟨r0, h, e0⟩ := map_sx h
   have e1 := hr2 r0 e0.symm
   subst r0
   obtain rfl := Option.some.inj h
   refine ret_at (iS t8q7) (by kernel_rfl) ?_
   exact ret_e [] [] (by simp only [push_cast, leL_flD, renL_flD, seval]) (by simp only [push_cast, leL_flD, renL_flD, seval]) rfl rfl rfl
  ·refine wk_id ?_
   refine wk_id ?_
   refine reg_f ?_
   refine rs 2 [] [] (by kernel_rfl) allP_nil ?_
   refine rf [(0, .sl s.length (fl s)), (1, .clo 42 [.iptr [.sl f.length (fl f)] 0]), (7, iS ((s.length : Nat) : Int)), (8, iS (IntKind.i64.wrap (t8q7 + 1)))] [] 0 (by kernel_rfl) ?_
   exact hn2 ((IntKind.i64.wrap (t8q7 + 1))) _ _ _ (Option.some.inj h).symm (leSt_m [] [] (by simp only [push_cast, leL_flD, renL_flD, seval]) (by simp only [push_cast, leL_flD, renL_flD, seval]) rfl rfl rfl)
 ·change R2 (.exit 0) _ _ _
  refine ex_cast hx2 (id := 0) ?_
  obtain ⟨r0, h, e0⟩ := map_sx h
  have e1 := hr2 r0 e0.symm
  subst r0
  refine wk_id ?_
  refine wk_id ?_
  refine seq_np ?_
  refine reg_f ?_
  refine rs 1 [] [] (by kernel_rfl) allP_nil ?_
  refine rf [(4, iS (-1))] [] 0 (by kernel_rfl) ?_
  refine wk_id ?_
  obtain rfl := Option.some.inj h
  refine ret_at (iS (-1)) (by kernel_rfl) ?_
  exact ret_e [] [] (by simp only [push_cast, leL_flD, renL_flD, seval]) (by simp only [push_cast, leL_flD, renL_flD, seval]) rfl rfl rfl

set_option maxRecDepth 100000 in
set_option maxHeartbeats 200000000 in
theorem slices_DeleteFunc_int_2_spec (c0 : (List Int)) (c2 : (List Int)) (r : (List Int)) (h : slices_DeleteFunc_int_2 c0 c2 = some r) : SpecW Try.prog 41 [.own 0 0 c0.length, .clo 42 [.ptr 1 0]] [(0, .row 3 (fl c0)), (1, .row 23 [.own 2 0 c2.length]), (2, .row 3 (fl c2))] 3 (fun x h n => x = .own 3 0 r.length ∧ h = [(0, .dead), (1, .row 23 [.own 2 0 c2.length]), (2, .row 3 (fl c2)), (3, .row 3 (fl r))] ∧ n = 4) := by
 unfold slices_DeleteFunc_int_2 at h
 refine spec_of (draw_ok _) Try.func41 rfl (by decide) rfl (by kernel_rfl) ?_
 refine seq_np ?_
 refine reg_f ?_
 refine rs 1 [] [] (by kernel_rfl) allP_nil ?_
 refine rf [(0, .own 0 0 c0.length), (1, .clo 42 [.ptr 1 0])] [(0, .row 3 (fl c0)), (1, .row 23 [.own 2 0 c2.length]), (2, .row 3 (fl c2))] 3 (by kernel_rfl) ?_
 refine wk_id ?_
 refine seq_np ?_
 refine reg_f ?_
 refine rs 2 [] [] (by kernel_rfl) allP_nil ?_
 obtain ⟨r681, hr681, h⟩ := bind_sx h
 refine call_x (slices_IndexFunc_int_spec c0 c2 r681 hr681) (args := [.own 0 0 c0.length, .clo 42 [.ptr 1 0]]) (dst := (some 10)) (by kernel_rfl) [(0, .row 3 (fl c0)), (1, .row 23 [.own 2 0 c2.length]), (2, .row 3 (fl c2))] 3 (by kernel_rfl) [] [0, 2, 1] (iS r681) [] (by simp only [push_cast, leL_flD, renL_flD, seval]) (by simp only [push_cast, leL_flD, renL_flD, seval]) (by kernel_rfl) (.inr ⟨by simp only [push_cast, leL_flD, renL_flD, seval], by simp only [push_cast, leL_flD, renL_flD, seval]⟩) (by simp only [push_cast, leL_flD, renL_flD, seval]) (by simp only [push_cast, leL_flD, renL_flD, seval]) ?_
 refine rs 1 [] [] (by kernel_rfl) allP_nil ?_
 refine rf [(0, .own 0 0 c0.length), (1, .clo 42 [.ptr 1 0]), (5, iS r681)] [(0, .row 3 (fl c0)), (1, .row 23 [.own 2 0 c2.length]), (2, .row 3 (fl c2))] 3 (by kernel_rfl) ?_
 refine wk_id ?_
 refine seq_np ?_
 refine seq_np ?_
 refine reg_f ?_
 refine rs 2 [] [] (by kernel_rfl) allP_nil ?_
 refine rf [(0, .own 0 0 c0.length), (1, .clo 42 [.ptr 1 0]), (5, iS r681), (12, bS (r681 == (-1)))] [(0, .row 3 (fl c0)), (1, .row 23 [.own 2 0 c2.length]), (2, .row 3 (fl c2))] 3 (by kernel_rfl) ?_
 refine wk_id ?_
 refine cond_sx h (by kernel_rfl) (fun g801 h => ?_) (fun g801 h => ?_)
 ·refine seq_np ?_
  refine reg_f ?_
  refine rs 2 [] [] (by kernel_rfl) allP_nil ?_
  refine rf [(4, .own 0 0 c0.length)] [(0, .row 3 (fl c0)), (1, .row 23 [.own 2 0 c2.length]), (2, .row 3 (fl c2))] 3 (by kernel_rfl) ?_
  refine wk_id ?_
  obtain rfl := Option.some.inj h
  refine ret_at (.own 0 0 c0.length) (by kernel_rfl) ?_
  exact ret_e [(1, 1), (2, 2), (3, 0)] [] (by simp only [push_cast, leL_flD, renL_flD, seval]) (by simp only [push_cast, leL_flD, renL_flD, seval]) rfl rfl rfl
 ·refine wk_id ?_
  refine seq_np ?_
  refine seq_np ?_
  refine reg_f ?_
  refine rs 3 [] [] (by kernel_rfl) allP_nil ?_
  refine rf [(0, .own 0 0 c0.length), (1, .clo 42 [.ptr 1 0]), (5, iS r681), (6, iS (IntKind.i64.wrap (r681 + 1)))] [(0, .row 3 (fl c0)), (1, .row 23 [.own 2 0 c2.length]), (2, .row 3 (fl c2))] 3 (by kernel_rfl) ?_
  refine wk_id ?_
  refine block_np ?_
  refine loop_sx (S := Int × Int × (List Int)) (fun a => ([(0, .own 0 0 a.2.2.length), (1, .clo 42 [.ptr 1 0]), (5, iS a.1), (6, iS a.2.1)], [(0, .row 3 (fl a.2.2)), (1, .row 23 [.own 2 0 c2.length]), (2, .row 3 (fl c2))], 3)) h (leSt_m [(0, 0), (1, 1), (2, 2)] [] (by simp only [push_cast, leL_flD, renL_flD, seval]) (by simp only [push_cast, leL_flD, renL_flD, seval]) rfl rfl rfl) ?_
  rintro ⟨i22, j11, c0q19⟩ o2 R2 h hr2 hn2 hx2 ht2
  try dsimp only at h hn2 ⊢
  unfold slices_DeleteFunc_int_2_l1 at h
  try dsimp only at h
  refine seq_np ?_
  refine seq_np ?_
  refine reg_f ?_
  refine rs 4 [] [] (by kernel_rfl) allP_nil ?_
  refine rf [(0, .own 0 0 c0q19.length), (1, .clo 42 [.ptr 1 0]), (5, iS i22), (6, iS j11), (19, bS (decide (j11 < ((c0q19.length : Nat) : Int))))] [(0, .row 3 (fl c0q19)), (1, .row 23 [.own 2 0 c2.length]), (2, .row 3 (fl c2))] 3 (by kernel_rfl) ?_
  refine wk_id ?_
  refine cond_sx h (by kernel_rfl) (fun g800 h => ?_) (fun g800 h => ?_)
  ·refine wk_id ?_
   refine seq_np ?_
   refine block_cut (A := Int × (List Int)) (fun a => ([(0, .own 0 0 a.2.length), (1, .clo 42 [.ptr 1 0]), (5, iS a.1), (6, iS j11)], [(0, .row 3 (fl a.2)), (1, .row 23 [.own 2 0 c2.length]), (2, .row 3 (fl c2))], 3)) (fun a => (slices_DeleteFunc_int_2_j1 c2 j11 a.1 a.2) = some o2) (fun K774 hK774 => ?_) ?_
   ·refine chk_sx h (fun g778 h => ?_)
    refine seq_np ?_
    refine reg_f ?_
    have k777 : 0 ≤ j11 ∧ j11 < ((c0q19.length : Nat) : Int) := by first | simpa only [Bool.and_eq_true, decide_eq_true_eq, bne_iff_ne, ne_eq] using g778 | (simp at g778 ⊢; omega)
    refine rs 5 [none, none, some ⟨.ptr 0 (0 + (j11).toNat * 1), [], 3, [0]⟩, some ⟨iS (ix c0q19 j11), [], 3, [0]⟩] _ (by kernel_rfl) (allP_cons (ob_ld c0q19 j11 1 0 (0 + (j11).toNat * 1) k777 rfl (by decide) (by first | rfl | omega) (dflS Try.prog 3) (iS (ix c0q19 j11)) rfl 3 [0]) (allP_cons (ob_ix_o 0 c0q19.length 0 1 3 j11 k777) allP_nil)) ?_
    refine rf [(0, .own 0 0 c0q19.length), (1, .clo 42 [.ptr 1 0]), (5, iS i22), (6, iS j11), (7, iS (ix c0q19 j11))] [(0, .row 3 (fl c0q19)), (1, .row 23 [.own 2 0 c2.length]), (2, .row 3 (fl c2))] 3 (by kernel_rfl) ?_
    refine wk_id ?_
    refine seq_np ?_
    refine reg_f ?_
    refine rs 2 [] [] (by kernel_rfl) allP_nil ?_
    obtain ⟨r780, hr780, h⟩ := bind_sx h
    refine call_x (race_Guards_1_spec (ix c0q19 j11) c2 r780 hr780) (args := [iS (ix c0q19 j11), .ptr 1 0]) (dst := (some 28)) (by kernel_rfl) [(0, .row 3 (fl c0q19)), (1, .row 23 [.own 2 0 c2.length]), (2, .row 3 (fl c2))] 3 (by kernel_rfl) [] [2, 1] (bS r780) [] (by simp only [push_cast, leL_flD, renL_flD, seval]) (by simp only [push_cast, leL_flD, renL_flD, seval]) (by kernel_rfl) (.inr ⟨by simp only [push_cast, leL_flD, renL_flD, seval], by simp only [push_cast, leL_flD, renL_flD, seval]⟩) (by simp only [push_cast, leL_flD, renL_flD, seval]) (by simp only [push_cast, leL_flD, renL_flD, seval]) ?_
    refine rs 1 [] [] (by kernel_rfl) allP_nil ?_
    refine rf [(0, .own 0 0 c0q19.length), (1, .clo 42 [.ptr 1 0]), (5, iS i22), (6, iS j11), (7, iS (ix c0q19 j11)), (29, bS (!r780))] [(0, .row 3 (fl c0q19)), (1, .row 23 [.own 2 0 c2.length]), (2, .row 3 (fl c2))] 3 (by kernel_rfl) ?_
    refine wk_id ?_
    refine cond_sx h (by kernel_rfl) (fun g785 h => ?_) (fun g785 h => ?_)
    ·refine chk_sx h (fun g784 h => ?_)
     refine seq_np ?_
     refine reg_f ?_
     have k783 : 0 ≤ i22 ∧ i22 < ((c0q19.length : Nat) : Int) := by first | simpa only [Bool.and_eq_true, decide_eq_true_eq, bne_iff_ne, ne_eq] using g784 | (simp at g784 ⊢; omega)
     refine rs 5 [none, none, none, some ⟨.ptr 0 (0 + (i22).toNat * 1), [], 3, [0]⟩, some ⟨.any, [(0, .row 3 (fl (c0q19.set i22.toNat (ix c0q19 j11))))], 3, [0]⟩] _ (by kernel_rfl) (allP_cons (ob_st (P := Try.prog) c0q19 i22 1 0 (0 + (i22).toNat * 1) k783 rfl [iS (ix c0q19 j11)] (ix c0q19 j11) (Nat.le_of_ble_eq_true rfl) (by first | rfl | omega) rfl 0 3 3 3 (by kernel_rfl) rfl) (allP_cons (ob_ix_o 0 c0q19.length 0 1 3 i22 k783) allP_nil)) ?_
     refine run_eqF 0 (.own 0 0 c0q19.length) (.own 0 0 (c0q19.set i22.toNat (ix c0q19 j11)).length) (congrArg (fun nq => (.own 0 0 nq : SV)) (show c0q19.length = (c0q19.set i22.toNat (ix c0q19 j11)).length from (List.length_set ..).symm)) (by kernel_rfl) ?_
     refine rf [(0, .own 0 0 (c0q19.set i22.toNat (ix c0q19 j11)).length), (1, .clo 42 [.ptr 1 0]), (5, iS i22), (6, iS j11)] [(0, .row 3 (fl (c0q19.set i22.toNat (ix c0q19 j11)))), (1, .row 23 [.own 2 0 c2.length]), (2, .row 3 (fl c2))] 3 (by kernel_rfl) ?_
     refine wk_id ?_
     refine reg_f ?_
     refine rs 3 [] [] (by kernel_rfl) allP_nil ?_
     refine rf [(0, .own 0 0 (c0q19.set i22.toNat (ix c0q19 j11)).length), (1, .clo 42 [.ptr 1 0]), (5, iS (IntKind.i64.wrap (i22 + 1))), (6, iS j11)] [(0, .row 3 (fl (c0q19.set i22.toNat (ix c0q19 j11)))), (1, .row 23 [.own 2 0 c2.length]), (2, .row 3 (fl c2))] 3 (by kernel_rfl) ?_
     exact hK774 ((IntKind.i64.wrap (i22 + 1)), (c0q19.set i22.toNat (ix c0q19 j11))) _ _ _ h (leSt_m [(0, 0), (1, 1), (2, 2)] [] (by simp only [push_cast, leL_flD, renL_flD, seval]) (by simp only [push_cast, leL_flD, renL_flD, seval]) rfl rfl rfl)
    ·exact hK774 (i22, c0q19) _ _ _ h (leSt_m [(0, 0), (1, 1), (2, 2)] [] (by simp only [push_cast, leL_flD, renL_flD, seval]) (by simp only [push_cast, leL_flD, renL_flD, seval]) rfl rfl rfl)
   ·rintro ⟨i24, c0q21⟩ h
    try dsimp only at h ⊢
    unfold slices_DeleteFunc_int_2_j1 at h
    refine wk_id ?_
    refine reg_f ?_
    refine rs 3 [] [] (by kernel_rfl) allP_nil ?_
    refine rf [(0, .own 0 0 c0q21.length), (1, .clo 42 [.ptr 1 0]), (5, iS i24), (6, iS (IntKind.i64.wrap (j11 + 1)))] [(0, .row 3 (fl c0q21)), (1, .row 23 [.own 2 0 c2.length]), (2, .row 3 (fl c2))] 3 (by kernel_rfl) ?_
    exact hn2 (i24, (IntKind.i64.wrap (j11 + 1)), c0q21) _ _ _ (Option.some.inj h).symm (leSt_m [(0, 0), (1, 1), (2, 2)] [] (by simp only [push_cast, leL_flD, renL_flD, seval]) (by simp only [push_cast, leL_flD, renL_flD, seval]) rfl rfl rfl)
  ·change R2 (.exit 0) _ _ _
   refine ex_cast hx2 (id := 0) ?_
   obtain ⟨r0, h, e0⟩ := map_sx h
   have e1 := hr2 r0 e0.symm
   subst r0
   refine wk_id ?_
   refine wk_id ?_
   refine chk_sx h (fun g792 h => ?_)
   refine seq_np ?_
   refine reg_f ?_
   have k791 : 0 ≤ i22 ∧ i22 ≤ ((c0q19.length : Nat) : Int) ∧ ((c0q19.length : Nat) : Int) ≤ ((c0q19.length : Nat) : Int) := by first | simpa only [Bool.and_eq_true, decide_eq_true_eq, bne_iff_ne, ne_eq] using g792 | (simp at g792 ⊢; omega)
   have f793 : (cut c0q19 i22 ((c0q19.length : Nat) : Int)).length = (((c0q19.length : Nat) : Int)).toNat - (i22).toNat ∧ 0 ≤ i22 ∧ i22 ≤ ((c0q19.length : Nat) : Int) ∧ ((c0q19.length : Nat) : Int) ≤ ((c0q19.length : Nat) : Int) := ⟨cut_len _ _ _ k791, k791⟩
   refine rs 3 [none, none, some ⟨.own 0 ((i22).toNat * 1) (cut c0q19 i22 ((c0q19.length : Nat) : Int)).length, [], 3, [0]⟩] _ (by kernel_rfl) (allP_cons (ob_cutP (P := Try.prog) c0q19 i22 ((c0q19.length : Nat) : Int) 1 3 0 3 (by kernel_rfl) k791) allP_nil) ?_
   have k794 : (wipe c0q19 i22 ((c0q19.length : Nat) : Int)).length = c0q19.length := wipe_len (by omega)
   refine run_clr c0q19 none 0 ((i22).toNat * 1) (cut c0q19 i22 ((c0q19.length : Nat) : Int)).length 1 3 [.v (.int .i64 0)] i22 ((c0q19.length : Nat) : Int) (by kernel_rfl) rfl rfl (by decide) (by first | rfl | simp) f793 ?_
   have f795 : (cut c0q19 i22 ((c0q19.length : Nat) : Int)).length = (((c0q19.length : Nat) : Int)).toNat - (i22).toNat ∧ 0 ≤ i22 ∧ i22 ≤ ((c0q19.length : Nat) : Int) ∧ ((c0q19.length : Nat) : Int) ≤ (((wipe c0q19 i22 ((c0q19.length : Nat) : Int)).length : Nat) : Int) := ⟨f793.1, f793.2.1, f793.2.2.1, by rw [k794]; exact f793.2.2.2⟩
   refine run_eqF 0 (.own 0 0 c0q19.length) (.own 0 0 (wipe c0q19 i22 ((c0q19.length : Nat) : Int)).length) (congrArg (fun nq => (.own 0 0 nq : SV)) (show c0q19.length = (wipe c0q19 i22 ((c0q19.length : Nat) : Int)).length from k794.symm)) (by kernel_rfl) ?_
   refine rf [(0, .own 0 0 (wipe c0q19 i22 ((c0q19.length : Nat) : Int)).length), (5, iS i22)] [(0, .row 3 (fl (wipe c0q19 i22 ((c0q19.length : Nat) : Int)))), (1, .row 23 [.own 2 0 c2.length]), (2, .row 3 (fl c2))] 3 (by kernel_rfl) ?_
   refine wk_id ?_
   refine chk_sx h (fun g799 h => ?_)
   refine seq_np ?_
   refine reg_f ?_
   have k798 : 0 ≤ (0 : Int) ∧ (0 : Int) ≤ i22 ∧ i22 ≤ (((wipe c0q19 i22 ((c0q19.length : Nat) : Int)).length : Nat) : Int) := by first | simpa only [Bool.and_eq_true, decide_eq_true_eq, bne_iff_ne, ne_eq] using g799 | (simp at g799 ⊢; omega)
   refine rs 2 [] [] (by kernel_rfl) allP_nil ?_
   refine run_cutO (wipe c0q19 i22 ((c0q19.length : Nat) : Int)) (some 41) 0 1 3 (0 : Int) i22 (by kernel_rfl) rfl k798 ?_
   refine rs 1 [] [] (by kernel_rfl) allP_nil ?_
   refine rf [(4, .own 3 0 (cut (wipe c0q19 i22 ((c0q19.length : Nat) : Int)) (0 : Int) i22).length)] [(0, .dead), (1, .row 23 [.own 2 0 c2.length]), (2, .row 3 (fl c2)), (3, .row 3 (fl (cut (wipe c0q19 i22 ((c0q19.length : Nat) : Int)) (0 : Int) i22)))] 4 (by kernel_rfl) ?_
   refine wk_id ?_
   obtain rfl := Option.some.inj h
   refine ret_at (.own 3 0 (cut (wipe c0q19 i22 ((c0q19.length : Nat) : Int)) (0 : Int) i22).length) (by kernel_rfl) ?_
   exact ret_e [(1, 1), (2, 2), (3, 3)] [] (by simp only [push_cast, leL_flD, renL_flD, seval]) (by simp only [push_cast, leL_flD, renL_flD, seval]) rfl rfl rfl

set_option maxRecDepth 100000 in
set_option maxHeartbeats 200000000 in
theorem race_Guards_spec (trace : (List GEvent)) (pipes : (List Int)) (r : Fault × (List (List Int))) (h : race_Guards trace pipes = some r) : SpecW Try.prog 29 [.sl trace.length (fl trace), .sl pipes.length (fl pipes)] [] 0 (fun x h n => x = .tup [.own 0 0 r.2.length, .agg (Enc.cells r.1)] ∧ h = [(0, .row 23 (flD dLListInt [1] r.2)), ((.s 1 0), .fam (famD dLListInt 0 r.2))] ∧ n = 2) := by
 unfold race_Guards at h
 refine spec_of (draw_ok _) Try.func29 rfl (by decide) rfl (by kernel_rfl) ?_
 refine seq_np ?_
 refine reg_f ?_
 refine rs 2 [] [] (by kernel_rfl) allP_nil ?_
 refine rf [(0, .sl trace.length (fl trace)), (1, .sl pipes.length (fl pipes)), (5, .ptr 0 0)] [(0, .row 26 [iS 0, iS 0])] 1 (by kernel_rfl) ?_
 refine wk_id ?_
 refine seq_np ?_
 refine seq_np ?_
 refine reg_f ?_
 refine rs 2 [] [] (by kernel_rfl) allP_nil ?_
 obtain ⟨r905, hr905, h⟩ := bind_sx h
 refine run_call 15 [.sl trace.length (fl trace), .sl pipes.length (fl pipes)] (some 18) (by kernel_rfl) ?_
 refine call_0 (order_Check_spec trace pipes r905 hr905) (by simp only [push_cast, leL_flD, renL_flD, seval]) (by simp only [push_cast, leL_flD, renL_flD, seval]) ?_
 refine back_f ?_
 refine rs 2 [] [] (by kernel_rfl) allP_nil ?_
 refine rf [(0, .sl trace.length (fl trace)), (5, .ptr 0 0), (6, .ptr 1 0)] [(0, .row 26 [iS 0, iS 0]), (1, .row 26 (Enc.cells r905))] 2 (by kernel_rfl) ?_
 refine wk_id ?_
 refine seq_np ?_
 refine reg_f ?_
 refine rs 3 [] [] (by kernel_rfl) allP_nil ?_
 refine rf [(0, .sl trace.length (fl trace)), (5, .ptr 0 0), (6, .ptr 1 0), (21, bS (r905.Code != 0))] [(0, .row 26 [iS 0, iS 0]), (1, .row 26 (Enc.cells r905))] 2 (by kernel_rfl) ?_
 refine wk_id ?_
 refine cond_sx h (by kernel_rfl) (fun g1523 h => ?_) (fun g1523 h => ?_)
 ·refine seq_np ?_
  refine reg_t ?_
  refine rs 3 [] [] (by kernel_rfl) allP_nil ?_
  refine rt [(4, .v (.slice none 0 0)), (5, .ptr 0 0)] [(0, .row 26 (Enc.cells r905)), (1, .row 26 (Enc.cells r905))] 5 follows (by kernel_rfl) ?_
  refine wk_id ?_
  obtain rfl := Option.some.inj h
  refine ret_at (.tup [.v (.slice none 0 0), .agg (Enc.cells r905)]) (by kernel_rfl) ?_
  exact ret_e [] [] (by simp only [push_cast, leL_flD, renL_flD, seval]) (by simp only [push_cast, leL_flD, renL_flD, seval]) rfl rfl rfl
 ·refine wk_id ?_
  refine seq_np ?_
  refine reg_f ?_
  refine rs 2 [] [] (by kernel_rfl) allP_nil ?_
  refine rf [(0, .sl trace.length (fl trace)), (5, .ptr 0 0), (7, .mp 2)] [(0, .row 26 [iS 0, iS 0]), (1, .row 26 (Enc.cells r905)), (2, .map (mE ([] : List (hold × Int))))] 3 (by kernel_rfl) ?_
  refine wk_id ?_
  refine seq_np ?_
  refine reg_f ?_
  refine rs 1 [] [] (by kernel_rfl) allP_nil ?_
  refine rf [(0, .sl trace.length (fl trace)), (5, .ptr 0 0), (7, .mp 2), (8, .v (.slice none 0 0))] [(0, .row 26 [iS 0, iS 0]), (1, .row 26 (Enc.cells r905)), (2, .map (mE ([] : List (hold × Int))))] 3 (by kernel_rfl) ?_
  refine wk_id ?_
  refine seq_np ?_
  refine reg_f ?_
  refine rs 2 [] [] (by kernel_rfl) allP_nil ?_
  refine rf [(0, .sl trace.length (fl trace)), (5, .ptr 0 0), (7, .mp 2), (8, .v (.slice none 0 0)), (9, .mp 3)] [(0, .row 26 [iS 0, iS 0]), (1, .row 26 (Enc.cells r905)), (2, .map (mE ([] : List (hold × Int)))), (3, .map (mi []))] 4 (by kernel_rfl) ?_
  refine wk_id ?_
  refine seq_np ?_
  refine reg_f ?_
  refine rs 1 [] [] (by kernel_rfl) allP_nil ?_
  refine rf [(0, .sl trace.length (fl trace)), (5, .ptr 0 0), (7, .mp 2), (8, .v (.slice none 0 0)), (9, .mp 3), (10, iS 0)] [(0, .row 26 [iS 0, iS 0]), (1, .row 26 (Enc.cells r905)), (2, .map (mE ([] : List (hold × Int)))), (3, .map (mi []))] 4 (by kernel_rfl) ?_
  refine wk_id ?_
  refine seq_np ?_
  refine seq_np ?_
  refine reg_f ?_
  refine rs 3 [] [] (by kernel_rfl) allP_nil ?_
  refine rf [(5, .ptr 0 0), (7, .mp 2), (8, .v (.slice none 0 0)), (9, .mp 3), (10, iS 0), (25, .sl trace.length (fl trace)), (26, iS ((trace.length : Nat) : Int)), (27, iS 0)] [(0, .row 26 [iS 0, iS 0]), (1, .row 26 (Enc.cells r905)), (2, .map (mE ([] : List (hold × Int)))), (3, .map (mi []))] 4 (by kernel_rfl) ?_
  refine wk_id ?_
  refine block_np ?_
  refine loop_sx (S := Int × Int × (List (hold × Int)) × (List (List Int)) × (List (Int × Int))) (fun a => ([(5, .ptr 0 0), (7, .mp 1), (8, .own 2 0 a.2.2.2.1.length), (9, .mp 3), (10, iS a.1), (25, .sl trace.length (fl trace)), (26, iS ((trace.length : Nat) : Int)), (27, iS a.2.1)], [(0, .row 26 [iS 0, iS 0]), (1, .map (mE a.2.2.1)), (2, .row 23 (flD dLListInt [4] a.2.2.2.1)), (3, .map (mi a.2.2.2.2)), ((.s 4 0), .fam (famD dLListInt 0 a.2.2.2.1))], 5)) h (leSt_m [(0, 0), (1, 2), (3, 3)] [] (by simp only [push_cast, leL_flD, renL_flD, seval]) (by simp only [push_cast, leL_flD, renL_flD, seval]) rfl rfl rfl) ?_
  rintro ⟨last18, t27q7, c1q18, c2q40, c3q18⟩ o4 R4 h hr4 hn4 hx4 ht4
  try dsimp only at h hn4 ⊢
  unfold race_Guards_l3 at h
  try dsimp only at h
  refine seq_np ?_
  refine reg_f ?_
  refine rs 1 [] [] (by kernel_rfl) allP_nil ?_
  refine rf [(5, .ptr 0 0), (7, .mp 1), (8, .own 2 0 c2q40.length), (9, .mp 3), (10, iS last18), (25, .sl trace.length (fl trace)), (26, iS ((trace.length : Nat) : Int)), (27, iS t27q7), (28, bS (decide (t27q7 < ((trace.length : Nat) : Int))))] [(0, .row 26 [iS 0, iS 0]), (1, .map (mE c1q18)), (2, .row 23 (flD dLListInt [4] c2q40)), (3, .map (mi c3q18)), ((.s 4 0), .fam (famD dLListInt 0 c2q40))] 5 (by kernel_rfl) ?_
  refine wk_id ?_
  refine seq_np ?_
  refine cond_sx h (by kernel_rfl) (fun g1522 h => ?_) (fun g1522 h => ?_)
  ·refine wk_id ?_
   refine seq_np ?_
   refine block_np ?_
   refine chk_sx h (fun g1361 h => ?_)
   refine seq_np ?_
   refine reg_f ?_
   have k1360 : 0 ≤ t27q7 ∧ t27q7 < ((trace.length : Nat) : Int) := by first | simpa only [Bool.and_eq_true, decide_eq_true_eq, bne_iff_ne, ne_eq] using g1361 | (simp at g1361 ⊢; omega)
   refine rs 4 [some ⟨.iptr (fl trace) ((t27q7).toNat * 4), [], 5, []⟩, some ⟨.agg (Enc.cells (ix trace t27q7)), [], 5, []⟩] _ (by kernel_rfl) (allP_cons (ob_ldw trace t27q7 4 ((t27q7).toNat * 4) k1360 rfl (by first | rfl | omega) (Enc.cells (ix trace t27q7)) rfl 5 []) (allP_cons (ob_ix_l trace 4 5 t27q7 k1360) allP_nil)) ?_
   refine rf [(5, .ptr 0 0), (7, .mp 1), (8, .own 2 0 c2q40.length), (9, .mp 3), (10, iS last18), (12, .ptr 5 0), (25, .sl trace.length (fl trace)), (26, iS ((trace.length : Nat) : Int)), (27, iS t27q7)] [(0, .row 26 [iS 0, iS 0]), (1, .map (mE c1q18)), (2, .row 23 (flD dLListInt [4] c2q40)), (3, .map (mi c3q18)), ((.s 4 0), .fam (famD dLListInt 0 c2q40)), (5, .row 31 (Enc.cells (ix trace t27q7)))] 6 (by kernel_rfl) ?_
   refine wk_id ?_
   refine seq_np ?_
   refine reg_f ?_
   refine rs 7 [] [] (by kernel_rfl) allP_nil ?_
   refine rf [(5, .ptr 0 0), (7, .mp 1), (8, .own 2 0 c2q40.length), (9, .mp 3), (10, iS last18), (12, .ptr 5 0), (13, .ptr 6 0), (25, .sl trace.length (fl trace)), (26, iS ((trace.length : Nat) : Int)), (27, iS t27q7)] [(0, .row 26 [iS 0, iS 0]), (1, .map (mE c1q18)), (2, .row 23 (flD dLListInt [4] c2q40)), (3, .map (mi c3q18)), ((.s 4 0), .fam (famD dLListInt 0 c2q40)), (5, .row 31 (Enc.cells (ix trace t27q7))), (6, .row 73 [iS (ix trace t27q7).Task, iS (ix trace t27q7).Obj])] 7 (by kernel_rfl) ?_
   refine wk_id ?_
   refine block_cut (A := Int × (List (hold × Int)) × (List (List Int)) × (List (Int × Int))) (fun a => ([(5, .ptr 0 0), (7, .mp 1), (8, .own 2 0 a.2.2.1.length), (9, .mp 3), (10, iS a.1), (25, .sl trace.length (fl trace)), (26, iS ((trace.length : Nat) : Int)), (27, iS t27q7)], [(0, .row 26 [iS 0, iS 0]), (1, .map (mE a.2.1)), (2, .row 23 (flD dLListInt [4] a.2.2.1)), (3, .map (mi a.2.2.2)), ((.s 4 0), .fam (famD dLListInt 0 a.2.2.1))], 5)) (fun a => (race_Guards_j1 trace t27q7 a.1 a.2.1 a.2.2.1 a.2.2.2) = some o4) (fun K1403 hK1403 => ?_) ?_
   ·refine seq_np ?_
    refine reg_f ?_
    refine rs 4 [] [] (by kernel_rfl) allP_nil ?_
    refine rf [(5, .ptr 0 0), (7, .mp 1), (8, .own 2 0 c2q40.length), (9, .mp 3), (10, iS last18), (12, .ptr 5 0), (13, .ptr 6 0), (25, .sl trace.length (fl trace)), (26, iS ((trace.length : Nat) : Int)), (27, iS t27q7), (36, bS ((ix trace t27q7).Op == 17))] [(0, .row 26 [iS 0, iS 0]), (1, .map (mE c1q18)), (2, .row 23 (flD dLListInt [4] c2q40)), (3, .map (mi c3q18)), ((.s 4 0), .fam (famD dLListInt 0 c2q40)), (5, .row 31 (Enc.cells (ix trace t27q7))), (6, .row 73 [iS (ix trace t27q7).Task, iS (ix trace t27q7).Obj])] 7 (by kernel_rfl) ?_
    refine wk_id ?_
    refine cond_sx h (by kernel_rfl) (fun g1521 h => ?_) (fun g1521 h => ?_)
    ·refine reg_t ?_
     refine rs 7 [none, none, some ⟨iS (meGet c1q18 (hold.mk (ix trace t27q7).Task (ix trace t27q7).Obj)), [], 9, [1]⟩, none, some ⟨.tup [iS (meGet c1q18 (hold.mk (ix trace t27q7).Task (ix trace t27q7).Obj)), iS (mePos c1q18 (hold.mk (ix trace t27q7).Task (ix trace t27q7).Obj))], [(1, .map (mE (meSet c1q18 (hold.mk (ix trace t27q7).Task (ix trace t27q7).Obj) (meGet c1q18 (hold.mk (ix trace t27q7).Task (ix trace t27q7).Obj)))))], 11, [1]⟩, none, some ⟨.any, [(1, .map (mE (meSet c1q18 (hold.mk (ix trace t27q7).Task (ix trace t27q7).Obj) (IntKind.i64.wrap ((meGet c1q18 (hold.mk (ix trace t27q7).Task (ix trace t27q7).Obj)) + 1)))))], 13, [1]⟩] _ (by kernel_rfl) (allP_cons (ob_estE (K := hold) (hold.mk (ix trace t27q7).Task (ix trace t27q7).Obj) (meGet c1q18 (hold.mk (ix trace t27q7).Task (ix trace t27q7).Obj)) (IntKind.i64.wrap ((meGet c1q18 (hold.mk (ix trace t27q7).Task (ix trace t27q7).Obj)) + 1)) c1q18 1 13) (allP_cons (ob_mentE (K := hold) (hold.mk (ix trace t27q7).Task (ix trace t27q7).Obj) _ rfl c1q18 1 11) (allP_cons (ob_lookE (K := hold) (hold.mk (ix trace t27q7).Task (ix trace t27q7).Obj) _ rfl c1q18 1 9) allP_nil))) ?_
     refine rt [(5, .ptr 0 0), (7, .mp 1), (8, .own 2 0 c2q40.length), (9, .mp 3), (10, iS last18), (25, .sl trace.length (fl trace)), (26, iS ((trace.length : Nat) : Int)), (27, iS t27q7)] [(0, .row 26 [iS 0, iS 0]), (1, .map (mE (meSet c1q18 (hold.mk (ix trace t27q7).Task (ix trace t27q7).Obj) (IntKind.i64.wrap ((meGet c1q18 (hold.mk (ix trace t27q7).Task (ix trace t27q7).Obj)) + 1))))), (2, .row 23 (flD dLListInt [4] c2q40)), (3, .map (mi c3q18)), ((.s 4 0), .fam (famD dLListInt 0 c2q40)), (5, .row 31 (Enc.cells (ix trace t27q7))), (6, .row 73 [iS (ix trace t27q7).Task, iS (ix trace t27q7).Obj])] 14 follows (by kernel_rfl) ?_
     exact hK1403 (last18, (meSet c1q18 (hold.mk (ix trace t27q7).Task (ix trace t27q7).Obj) (IntKind.i64.wrap ((meGet c1q18 (hold.mk (ix trace t27q7).Task (ix trace t27q7).Obj)) + 1))), c2q40, c3q18) _ _ _ h (leSt_m [(0, 0), (1, 1), (2, 2), (3, 3), ((.s 4 0), (.s 4 0))] [] (by simp only [push_cast, leL_flD, renL_flD, seval]) (by simp only [push_cast, leL_flD, renL_flD, seval]) rfl rfl rfl)
    ·refine seq_np ?_
     refine reg_f ?_
     refine rs 4 [] [] (by kernel_rfl) allP_nil ?_
     refine rf [(5, .ptr 0 0), (7, .mp 1), (8, .own 2 0 c2q40.length), (9, .mp 3), (10, iS last18), (12, .ptr 5 0), (13, .ptr 6 0), (25, .sl trace.length (fl trace)), (26, iS ((trace.length : Nat) : Int)), (27, iS t27q7), (46, bS ((ix trace t27q7).Op == 18))] [(0, .row 26 [iS 0, iS 0]), (1, .map (mE c1q18)), (2, .row 23 (flD dLListInt [4] c2q40)), (3, .map (mi c3q18)), ((.s 4 0), .fam (famD dLListInt 0 c2q40)), (5, .row 31 (Enc.cells (ix trace t27q7))), (6, .row 73 [iS (ix trace t27q7).Task, iS (ix trace t27q7).Obj])] 7 (by kernel_rfl) ?_
     refine wk_id ?_
     refine cond_sx h (by kernel_rfl) (fun g1520 h => ?_) (fun g1520 h => ?_)
     ·refine reg_t ?_
      refine rs 8 [none, none, none, none, some ⟨iS (meGet c1q18 (hold.mk (ix trace t27q7).Task (ix trace t27q7).Obj)), [], 11, [1]⟩, none, none, some ⟨.any, [(1, .map (mE (meSet c1q18 (hold.mk (ix trace t27q7).Task (ix trace t27q7).Obj) (max (0 : Int) (IntKind.i64.wrap ((meGet c1q18 (hold.mk (ix trace t27q7).Task (ix trace t27q7).Obj)) - 1))))))], 14, [1]⟩] _ (by kernel_rfl) (allP_cons (ob_msetE (K := hold) (hold.mk (ix trace t27q7).Task (ix trace t27q7).Obj) _ rfl (max (0 : Int) (IntKind.i64.wrap ((meGet c1q18 (hold.mk (ix trace t27q7).Task (ix trace t27q7).Obj)) - 1))) c1q18 1 14) (allP_cons (ob_lookE (K := hold) (hold.mk (ix trace t27q7).Task (ix trace t27q7).Obj) _ rfl c1q18 1 11) allP_nil)) ?_
      refine rt [(5, .ptr 0 0), (7, .mp 1), (8, .own 2 0 c2q40.length), (9, .mp 3), (10, iS last18), (25, .sl trace.length (fl trace)), (26, iS ((trace.length : Nat) : Int)), (27, iS t27q7)] [(0, .row 26 [iS 0, iS 0]), (1, .map (mE (meSet c1q18 (hold.mk (ix trace t27q7).Task (ix trace t27q7).Obj) (max (0 : Int) (IntKind.i64.wrap ((meGet c1q18 (hold.mk (ix trace t27q7).Task (ix trace t27q7).Obj)) - 1)))))), (2, .row 23 (flD dLListInt [4] c2q40)), (3, .map (mi c3q18)), ((.s 4 0), .fam (famD dLListInt 0 c2q40)), (5, .row 31 (Enc.cells (ix trace t27q7))), (6, .row 73 [iS (ix trace t27q7).Task, iS (ix trace t27q7).Obj])] 15 follows (by kernel_rfl) ?_
      exact hK1403 (last18, (meSet c1q18 (hold.mk (ix trace t27q7).Task (ix trace t27q7).Obj) (max (0 : Int) (IntKind.i64.wrap ((meGet c1q18 (hold.mk (ix trace t27q7).Task (ix trace t27q7).Obj)) - 1)))), c2q40, c3q18) _ _ _ h (leSt_m [(0, 0), (1, 1), (2, 2), (3, 3), ((.s 4 0), (.s 4 0))] [] (by simp only [push_cast, leL_flD, renL_flD, seval]) (by simp only [push_cast, leL_flD, renL_flD, seval]) rfl rfl rfl)
     ·refine seq_np ?_
      refine reg_f ?_
      refine rs 1 [] [] (by kernel_rfl) allP_nil ?_
      obtain ⟨r1405, hr1405, h⟩ := bind_sx h
      refine run_call 40 [.agg (Enc.cells (ix trace t27q7))] (some 59) (by kernel_rfl) ?_
      refine call_0 (race_access_spec (ix trace t27q7) r1405 hr1405) (by simp only [push_cast, leL_flD, renL_flD, seval]) (by simp only [push_cast, leL_flD, renL_flD, seval]) ?_
      refine back_f ?_
      refine rs 1 [] [] (by kernel_rfl) allP_nil ?_
      refine rf [(5, .ptr 0 0), (7, .mp 1), (8, .own 2 0 c2q40.length), (9, .mp 3), (10, iS last18), (12, .ptr 5 0), (25, .sl trace.length (fl trace)), (26, iS ((trace.length : Nat) : Int)), (27, iS t27q7), (57, bS r1405)] [(0, .row 26 [iS 0, iS 0]), (1, .map (mE c1q18)), (2, .row 23 (flD dLListInt [4] c2q40)), (3, .map (mi c3q18)), ((.s 4 0), .fam (famD dLListInt 0 c2q40)), (5, .row 31 (Enc.cells (ix trace t27q7))), (6, .row 73 [iS (ix trace t27q7).Task, iS (ix trace t27q7).Obj])] 7 (by kernel_rfl) ?_
      refine wk_id ?_
      refine cond_sx h (by kernel_rfl) (fun g1519 h => ?_) (fun g1519 h => ?_)
      ·refine seq_np ?_
       refine reg_f ?_
       refine rs 6 [] [] (by kernel_rfl) allP_nil ?_
       refine rf [(5, .ptr 0 0), (7, .mp 1), (8, .own 2 0 c2q40.length), (9, .mp 3), (10, iS (max last18 (IntKind.i64.wrap ((ix trace t27q7).Obj + 1)))), (12, .ptr 5 0), (25, .sl trace.length (fl trace)), (26, iS ((trace.length : Nat) : Int)), (27, iS t27q7)] [(0, .row 26 [iS 0, iS 0]), (1, .map (mE c1q18)), (2, .row 23 (flD dLListInt [4] c2q40)), (3, .map (mi c3q18)), ((.s 4 0), .fam (famD dLListInt 0 c2q40)), (5, .row 31 (Enc.cells (ix trace t27q7))), (6, .row 73 [iS (ix trace t27q7).Task, iS (ix trace t27q7).Obj])] 7 (by kernel_rfl) ?_
       refine wk_id ?_
       refine seq_np ?_
       refine block_np ?_
       refine loop_sx (S := (List (List Int))) (fun a => ([(5, .ptr 0 0), (7, .mp 1), (8, .own 2 0 a.length), (9, .mp 3), (10, iS (max last18 (IntKind.i64.wrap ((ix trace t27q7).Obj + 1)))), (12, .ptr 4 0), (25, .sl trace.length (fl trace)), (26, iS ((trace.length : Nat) : Int)), (27, iS t27q7)], [(0, .row 26 [iS 0, iS 0]), (1, .map (mE c1q18)), (2, .row 23 (flD dLListInt [5] a)), (3, .map (mi c3q18)), (4, .row 31 (Enc.cells (ix trace t27q7))), ((.s 5 0), .fam (famD dLListInt 0 a))], 6)) h (leSt_m [(0, 0), (1, 1), (2, 2), (3, 3), (4, 5), ((.s 5 0), (.s 4 0))] [] (by simp only [push_cast, leL_flD, renL_flD, seval]) (by simp only [push_cast, leL_flD, renL_flD, seval]) rfl rfl rfl) ?_
       rintro c2q55 o5 R5 h hr5 hn5 hx5 ht5
       try dsimp only at h hn5 ⊢
       unfold race_Guards_l2 at h
       try dsimp only at h
       refine seq_np ?_
       refine seq_np ?_
       refine reg_f ?_
       refine rs 4 [] [] (by kernel_rfl) allP_nil ?_
       refine rf [(5, .ptr 0 0), (7, .mp 1), (8, .own 2 0 c2q55.length), (9, .mp 3), (10, iS (max last18 (IntKind.i64.wrap ((ix trace t27q7).Obj + 1)))), (12, .ptr 4 0), (25, .sl trace.length (fl trace)), (26, iS ((trace.length : Nat) : Int)), (27, iS t27q7), (68, bS (decide (((c2q55.length : Nat) : Int) < (max last18 (IntKind.i64.wrap ((ix trace t27q7).Obj + 1))))))] [(0, .row 26 [iS 0, iS 0]), (1, .map (mE c1q18)), (2, .row 23 (flD dLListInt [5] c2q55)), (3, .map (mi c3q18)), (4, .row 31 (Enc.cells (ix trace t27q7))), ((.s 5 0), .fam (famD dLListInt 0 c2q55))] 6 (by kernel_rfl) ?_
       refine wk_id ?_
       refine cond_sx h (by kernel_rfl) (fun g1518 h => ?_) (fun g1518 h => ?_)
       ·refine wk_id ?_
        refine block_np ?_
        refine chk_sx h (fun g1437 h => ?_)
        refine reg_f ?_
        have k1436 : (c2q55 ++ [([] : (List Int))]).length * 24 ≤ 140737488355328 := by first | simpa only [Bool.and_eq_true, decide_eq_true_eq, bne_iff_ne, ne_eq] using g1437 | (simp at g1437 ⊢; omega)
        refine rs 2 [] [] (by kernel_rfl) allP_nil ?_
        refine run_opG (some 71) _ ⟨.own 7 0 (c2q55 ++ [([] : (List Int))]).length, [(7, .row 23 (flN dLListInt (nA [(some 5)] [none] ((c2q55.length : Nat) : Int)) 0 (c2q55 ++ [([] : (List Int))]))), (2, .dead)], 8, [2, 6]⟩ [((.s 8 0), .fam (famD dLListInt 0 (c2q55 ++ [([] : (List Int))]))), (7, .row 23 (flD dLListInt [8] (c2q55 ++ [([] : (List Int))]))), ((.s 5 0), .dead)] 1 [7, (.s 5 0)] [(.s 5 0)] (by kernel_rfl) (ob_appN (P := Try.prog) dLListInt [5] [none] c2q55 ([] : (List Int)) 1 24 rfl (appCells ([.v (.slice none 0 0)] : List SV) 0 (1 * 1)) rfl rfl rfl (0 + 1 * 1 ≤ ([.v (.slice none 0 0)] : List SV).length) (by first | exact (Nat.le_of_ble_eq_true rfl : 0 + 1 * 1 ≤ ([.v (.slice none 0 0)] : List SV).length) | decide) 23 (by kernel_rfl) (by decide) k1436 2 7 [6]) (ghost_A 8 dLListInt (c2q55 ++ [([] : (List Int))]) 7 23 [(some 5)] [none] ((c2q55.length : Nat) : Int) (flD dLListInt [8] (c2q55 ++ [([] : (List Int))])) 0 (some 5) none (by kernel_rfl) (flN_done dLListInt [8] ((c2q55.length : Nat) : Int) (c2q55 ++ [([] : (List Int))]) rfl) (by kernel_rfl) ⟨_, (by kernel_rfl), off_app _ _⟩ (S_app (fun a => nilLeaf dLListInt 0 a) ⟨_, rfl⟩)) (by kernel_rfl) ?_
        refine rs 1 [] [] (by kernel_rfl) allP_nil ?_
        refine rf [(5, .ptr 0 0), (7, .mp 1), (8, .own 7 0 (c2q55 ++ [([] : (List Int))]).length), (9, .mp 3), (10, iS (max last18 (IntKind.i64.wrap ((ix trace t27q7).Obj + 1)))), (12, .ptr 4 0), (25, .sl trace.length (fl trace)), (26, iS ((trace.length : Nat) : Int)), (27, iS t27q7)] [(0, .row 26 [iS 0, iS 0]), (1, .map (mE c1q18)), (2, .dead), (3, .map (mi c3q18)), (4, .row 31 (Enc.cells (ix trace t27q7))), ((.s 5 0), .dead), (6, .row 23 [.v (.slice none 0 0)]), (7, .row 23 (flD dLListInt [8] (c2q55 ++ [([] : (List Int))]))), ((.s 8 0), .fam (famD dLListInt 0 (c2q55 ++ [([] : (List Int))])))] 9 (by kernel_rfl) ?_
        refine wk_id ?_
        exact hn5 ((c2q55 ++ [([] : (List Int))])) _ _ _ (Option.some.inj h).symm (leSt_m [(0, 0), (1, 1), (2, 7), (3, 3), (4, 4), ((.s 5 0), (.s 8 0))] [] (by simp only [push_cast, leL_flD, renL_flD, seval]) (by simp only [push_cast, leL_flD, renL_flD, seval]) rfl rfl rfl)
       ·change R5 (.exit 3) _ _ _
        refine ex_cast hx5 (id := 3) ?_
        obtain ⟨r0, h, e0⟩ := map_sx h
        have e1 := hr5 r0 e0.symm
        subst r0
        refine wk_id ?_
        refine wk_id ?_
        refine seq_np ?_
        refine reg_f ?_
        refine rs 1 [] [] (by kernel_rfl) allP_nil ?_
        refine rf [(5, .ptr 0 0), (7, .mp 1), (8, .own 2 0 c2q55.length), (9, .mp 3), (10, iS (max last18 (IntKind.i64.wrap ((ix trace t27q7).Obj + 1)))), (12, .ptr 4 0), (14, .ptr 6 0), (25, .sl trace.length (fl trace)), (26, iS ((trace.length : Nat) : Int)), (27, iS t27q7)] [(0, .row 26 [iS 0, iS 0]), (1, .map (mE c1q18)), (2, .row 23 (flD dLListInt [5] c2q55)), (3, .map (mi c3q18)), (4, .row 31 (Enc.cells (ix trace t27q7))), ((.s 5 0), .fam (famD dLListInt 0 c2q55)), (6, .row 23 [.v (.slice none 0 0)])] 7 (by kernel_rfl) ?_
        refine wk_id ?_
        refine seq_np ?_
        refine seq_np ?_
        refine reg_f ?_
        refine rs 1 [] [] (by kernel_rfl) allP_nil ?_
        refine rf [(5, .ptr 0 0), (7, .mp 1), (8, .own 2 0 c2q55.length), (9, .mp 3), (10, iS (max last18 (IntKind.i64.wrap ((ix trace t27q7).Obj + 1)))), (12, .ptr 4 0), (14, .ptr 6 0), (25, .sl trace.length (fl trace)), (26, iS ((trace.length : Nat) : Int)), (27, iS t27q7), (72, iS 0)] [(0, .row 26 [iS 0, iS 0]), (1, .map (mE c1q18)), (2, .row 23 (flD dLListInt [5] c2q55)), (3, .map (mi c3q18)), (4, .row 31 (Enc.cells (ix trace t27q7))), ((.s 5 0), .fam (famD dLListInt 0 c2q55)), (6, .row 23 [.v (.slice none 0 0)])] 7 (by kernel_rfl) ?_
        refine wk_id ?_
        refine block_np ?_
        refine loop_sx (S := Int × (List Int)) (fun a => ([(5, .ptr 0 0), (7, .mp 1), (8, .own 2 0 c2q55.length), (9, .mp 3), (10, iS (max last18 (IntKind.i64.wrap ((ix trace t27q7).Obj + 1)))), (12, .ptr 4 0), (14, .ptr 5 0), (25, .sl trace.length (fl trace)), (26, iS ((trace.length : Nat) : Int)), (27, iS t27q7), (72, iS a.1)], [(0, .row 26 [iS 0, iS 0]), (1, .map (mE c1q18)), (2, .row 23 (flD dLListInt [6] c2q55)), (3, .map (mi c3q18)), (4, .row 31 (Enc.cells (ix trace t27q7))), (5, .row 23 [.own 7 0 a.2.length]), ((.s 6 0), .fam (famD dLListInt 0 c2q55)), (7, .row 3 (fl a.2))], 8)) h (leSt_m [(0, 0), (1, 1), (2, 2), (3, 3), (4, 4), (5, 6), ((.s 6 0), (.s 5 0))] [] (by simp only [push_cast, leL_flD, renL_flD, seval]) (by simp only [push_cast, leL_flD, renL_flD, seval]) rfl rfl rfl) ?_
        rintro ⟨t72q33, c7q83⟩ o6 R6 h hr6 hn6 hx6 ht6
        try dsimp only at h hn6 ⊢
        unfold race_Guards_l1 at h
        try dsimp only at h
        refine seq_np ?_
        refine reg_f ?_
        refine rs 1 [] [] (by kernel_rfl) allP_nil ?_
        refine rf [(5, .ptr 0 0), (7, .mp 1), (8, .own 2 0 c2q55.length), (9, .mp 3), (10, iS (max last18 (IntKind.i64.wrap ((ix trace t27q7).Obj + 1)))), (12, .ptr 4 0), (14, .ptr 5 0), (25, .sl trace.length (fl trace)), (26, iS ((trace.length : Nat) : Int)), (27, iS t27q7), (72, iS t72q33), (73, bS (decide (t72q33 < 21)))] [(0, .row 26 [iS 0, iS 0]), (1, .map (mE c1q18)), (2, .row 23 (flD dLListInt [6] c2q55)), (3, .map (mi c3q18)), (4, .row 31 (Enc.cells (ix trace t27q7))), (5, .row 23 [.own 7 0 c7q83.length]), ((.s 6 0), .fam (famD dLListInt 0 c2q55)), (7, .row 3 (fl c7q83))] 8 (by kernel_rfl) ?_
        refine wk_id ?_
        refine seq_np ?_
        refine cond_sx h (by kernel_rfl) (fun g1517 h => ?_) (fun g1517 h => ?_)
        ·refine wk_id ?_
         refine seq_np ?_
         refine block_cut (A := (List Int)) (fun a => ([(5, .ptr 0 0), (7, .mp 1), (8, .own 2 0 c2q55.length), (9, .mp 3), (10, iS (max last18 (IntKind.i64.wrap ((ix trace t27q7).Obj + 1)))), (12, .ptr 4 0), (14, .ptr 5 0), (25, .sl trace.length (fl trace)), (26, iS ((trace.length : Nat) : Int)), (27, iS t27q7), (72, iS t72q33)], [(0, .row 26 [iS 0, iS 0]), (1, .map (mE c1q18)), (2, .row 23 (flD dLListInt [6] c2q55)), (3, .map (mi c3q18)), (4, .row 31 (Enc.cells (ix trace t27q7))), (5, .row 23 [.own 7 0 a.length]), ((.s 6 0), .fam (famD dLListInt 0 c2q55)), (7, .row 3 (fl a))], 8)) (fun a => (race_Guards_j2 trace last18 t27q7 c1q18 c3q18 c2q55 t72q33 a) = some o6) (fun K1496 hK1496 => ?_) ?_
         ·refine seq_np ?_
          refine reg_f ?_
          refine rs 2 [] [] (by kernel_rfl) allP_nil ?_
          refine rf [(5, .ptr 0 0), (7, .mp 1), (8, .own 2 0 c2q55.length), (9, .mp 3), (10, iS (max last18 (IntKind.i64.wrap ((ix trace t27q7).Obj + 1)))), (12, .ptr 4 0), (14, .ptr 5 0), (15, iS t72q33), (25, .sl trace.length (fl trace)), (26, iS ((trace.length : Nat) : Int)), (27, iS t27q7), (72, iS t72q33)] [(0, .row 26 [iS 0, iS 0]), (1, .map (mE c1q18)), (2, .row 23 (flD dLListInt [6] c2q55)), (3, .map (mi c3q18)), (4, .row 31 (Enc.cells (ix trace t27q7))), (5, .row 23 [.own 7 0 c7q83.length]), ((.s 6 0), .fam (famD dLListInt 0 c2q55)), (7, .row 3 (fl c7q83))] 8 (by kernel_rfl) ?_
          refine wk_id ?_
          refine seq_np ?_
          refine reg_f ?_
          refine rs 7 [none, none, none, none, none, some ⟨iS (meGet c1q18 (hold.mk (ix trace t27q7).Task t72q33)), [], 8, [1]⟩] _ (by kernel_rfl) (allP_cons (ob_lookE (K := hold) (hold.mk (ix trace t27q7).Task t72q33) _ rfl c1q18 1 8) allP_nil) ?_
          refine rf [(5, .ptr 0 0), (7, .mp 1), (8, .own 2 0 c2q55.length), (9, .mp 3), (10, iS (max last18 (IntKind.i64.wrap ((ix trace t27q7).Obj + 1)))), (12, .ptr 4 0), (14, .ptr 5 0), (15, iS t72q33), (25, .sl trace.length (fl trace)), (26, iS ((trace.length : Nat) : Int)), (27, iS t27q7), (72, iS t72q33), (81, bS (decide ((0 : Int) < (meGet c1q18 (hold.mk (ix trace t27q7).Task t72q33)))))] [(0, .row 26 [iS 0, iS 0]), (1, .map (mE c1q18)), (2, .row 23 (flD dLListInt [6] c2q55)), (3, .map (mi c3q18)), (4, .row 31 (Enc.cells (ix trace t27q7))), (5, .row 23 [.own 7 0 c7q83.length]), ((.s 6 0), .fam (famD dLListInt 0 c2q55)), (7, .row 3 (fl c7q83))] 8 (by kernel_rfl) ?_
          refine wk_id ?_
          refine cond_sx h (by kernel_rfl) (fun g1501 h => ?_) (fun g1501 h => ?_)
          ·refine chk_sx h (fun g1500 h => ?_)
           refine reg_f ?_
           have k1499 : (c7q83 ++ ([t72q33] : List Int)).length * 8 ≤ 140737488355328 := by first | simpa only [Bool.and_eq_true, decide_eq_true_eq, bne_iff_ne, ne_eq] using g1500 | (simp at g1500 ⊢; omega)
           refine rs 5 [none, none, none, some ⟨.own 9 0 (c7q83 ++ ([t72q33] : List Int)).length, [(9, .row 3 (fl (c7q83 ++ ([t72q33] : List Int)))), (7, .dead)], 10, [7, 8]⟩] _ (by kernel_rfl) (allP_cons (ob_app (P := Try.prog) c7q83 ([t72q33] : List Int) 1 8 rfl (appCells (fl ([t72q33] : List Int)) 0 (([t72q33] : List Int).length * 1)) ([t72q33] : List Int).length (app_own ([t72q33] : List Int) 1 rfl) rfl (0 + ([t72q33] : List Int).length * 1 ≤ (fl ([t72q33] : List Int)).length) (app_own_le ([t72q33] : List Int) 1 rfl) 3 (by kernel_rfl) (by decide) k1499 7 9 [8]) allP_nil) ?_
           refine rf [(5, .ptr 0 0), (7, .mp 1), (8, .own 2 0 c2q55.length), (9, .mp 3), (10, iS (max last18 (IntKind.i64.wrap ((ix trace t27q7).Obj + 1)))), (12, .ptr 4 0), (14, .ptr 5 0), (25, .sl trace.length (fl trace)), (26, iS ((trace.length : Nat) : Int)), (27, iS t27q7), (72, iS t72q33)] [(0, .row 26 [iS 0, iS 0]), (1, .map (mE c1q18)), (2, .row 23 (flD dLListInt [6] c2q55)), (3, .map (mi c3q18)), (4, .row 31 (Enc.cells (ix trace t27q7))), (5, .row 23 [.own 9 0 (c7q83 ++ ([t72q33] : List Int)).length]), ((.s 6 0), .fam (famD dLListInt 0 c2q55)), (7, .dead), (8, .row 3 (fl ([t72q33] : List Int))), (9, .row 3 (fl (c7q83 ++ ([t72q33] : List Int))))] 10 (by kernel_rfl) ?_
           exact hK1496 ((c7q83 ++ ([t72q33] : List Int))) _ _ _ h (leSt_m [(0, 0), (1, 1), (2, 2), (3, 3), (4, 4), (5, 5), ((.s 6 0), (.s 6 0)), (7, 9)] [] (by simp only [push_cast, leL_flD, renL_flD, seval]) (by simp only [push_cast, leL_flD, renL_flD, seval]) rfl rfl rfl)
          ·exact hK1496 (c7q83) _ _ _ h (leSt_m [(0, 0), (1, 1), (2, 2), (3, 3), (4, 4), (5, 5), ((.s 6 0), (.s 6 0)), (7, 7)] [] (by simp only [push_cast, leL_flD, renL_flD, seval]) (by simp only [push_cast, leL_flD, renL_flD, seval]) rfl rfl rfl)
         ·rintro c7q85 h
          try dsimp only at h ⊢
          unfold race_Guards_j2 at h
          refine wk_id ?_
          refine reg_f ?_
          refine rs 2 [] [] (by kernel_rfl) allP_nil ?_
          refine rf [(5, .ptr 0 0), (7, .mp 1), (8, .own 2 0 c2q55.length), (9, .mp 3), (10, iS (max last18 (IntKind.i64.wrap ((ix trace t27q7).Obj + 1)))), (12, .ptr 4 0), (14, .ptr 5 0), (25, .sl trace.length (fl trace)), (26, iS ((trace.length : Nat) : Int)), (27, iS t27q7), (72, iS (IntKind.i64.wrap (t72q33 + 1)))] [(0, .row 26 [iS 0, iS 0]), (1, .map (mE c1q18)), (2, .row 23 (flD dLListInt [6] c2q55)), (3, .map (mi c3q18)), (4, .row 31 (Enc.cells (ix trace t27q7))), (5, .row 23 [.own 7 0 c7q85.length]), ((.s 6 0), .fam (famD dLListInt 0 c2q55)), (7, .row 3 (fl c7q85))] 8 (by kernel_rfl) ?_
          exact hn6 ((IntKind.i64.wrap (t72q33 + 1)), c7q85) _ _ _ (Option.some.inj h).symm (leSt_m [(0, 0), (1, 1), (2, 2), (3, 3), (4, 4), (5, 5), ((.s 6 0), (.s 6 0)), (7, 7)] [] (by simp only [push_cast, leL_flD, renL_flD, seval]) (by simp only [push_cast, leL_flD, renL_flD, seval]) rfl rfl rfl)
        ·change R6 (.exit 5) _ _ _
         refine ex_cast hx6 (id := 5) ?_
         obtain ⟨r0, h, e0⟩ := map_sx h
         have e1 := hr6 r0 e0.symm
         subst r0
         refine wk_id ?_
         refine wk_id ?_
         refine seq_np ?_
         refine reg_f ?_
         refine rs 5 [none, none, none, some ⟨iS (miGet c3q18 (ix trace t27q7).Obj), [], 8, [3]⟩] _ (by kernel_rfl) (allP_cons (ob_look (.int .i64) rfl (ix trace t27q7).Obj c3q18 3 8) allP_nil) ?_
         refine rf [(5, .ptr 0 0), (7, .mp 1), (8, .own 2 0 c2q55.length), (9, .mp 3), (10, iS (max last18 (IntKind.i64.wrap ((ix trace t27q7).Obj + 1)))), (12, .ptr 4 0), (14, .ptr 5 0), (25, .sl trace.length (fl trace)), (26, iS ((trace.length : Nat) : Int)), (27, iS t27q7), (91, bS ((miGet c3q18 (ix trace t27q7).Obj) == 0))] [(0, .row 26 [iS 0, iS 0]), (1, .map (mE c1q18)), (2, .row 23 (flD dLListInt [6] c2q55)), (3, .map (mi c3q18)), (4, .row 31 (Enc.cells (ix trace t27q7))), (5, .row 23 [.own 7 0 c7q83.length]), ((.s 6 0), .fam (famD dLListInt 0 c2q55)), (7, .row 3 (fl c7q83))] 8 (by kernel_rfl) ?_
         refine wk_id ?_
         refine cond_sx h (by kernel_rfl) (fun g1516 h => ?_) (fun g1516 h => ?_)
         ·refine chk_sx h (fun g1505 h => ?_)
          refine reg_t ?_
          have k1504 : 0 ≤ (ix trace t27q7).Obj ∧ (ix trace t27q7).Obj < ((c2q55.length : Nat) : Int) := by first | simpa only [Bool.and_eq_true, decide_eq_true_eq, bne_iff_ne, ne_eq] using g1505 | (simp at g1505 ⊢; omega)
          refine rs 8 [none, none, none, none, none, none, none, some ⟨.ptr 2 (0 + ((ix trace t27q7).Obj).toNat * 1), [], 15, [2]⟩] _ (by kernel_rfl) (allP_cons (ob_ix_o 2 c2q55.length 0 1 15 (ix trace t27q7).Obj k1504) allP_nil) ?_
          refine run_opG none _ ⟨.any, [(2, .row 23 (flN dLListInt (nA [(some 6)] [(some (Nm.t 7))] (ix trace t27q7).Obj) 0 (c2q55.set (ix trace t27q7).Obj.toNat (c7q83 : (List Int)))))], 16, [2]⟩ [((.s 16 0), .fam (famD dLListInt 0 (c2q55.set (ix trace t27q7).Obj.toNat (c7q83 : (List Int))))), (2, .row 23 (flD dLListInt [16] (c2q55.set (ix trace t27q7).Obj.toNat (c7q83 : (List Int))))), ((.s 6 0), .dead), (7, .dead)] 1 [2, (.s 6 0), 7] [(.s 6 0), 7] (by kernel_rfl) (ob_stN (P := Try.prog) dLListInt [6] [(some (Nm.t 7))] c2q55 (ix trace t27q7).Obj 1 0 (0 + ((ix trace t27q7).Obj).toNat * 1) k1504 rfl [.own 7 0 c7q83.length] (c7q83 : (List Int)) (Nat.le_of_ble_eq_true rfl) (by first | rfl | omega) rfl rfl 2 16 23 23 (by kernel_rfl) rfl) (ghost_A 16 dLListInt (c2q55.set (ix trace t27q7).Obj.toNat (c7q83 : (List Int))) 2 23 [(some 6)] [(some (Nm.t 7))] (ix trace t27q7).Obj (flD dLListInt [16] (c2q55.set (ix trace t27q7).Obj.toNat (c7q83 : (List Int)))) 0 (some 6) (some 7) (by kernel_rfl) (flN_done dLListInt [16] (ix trace t27q7).Obj (c2q55.set (ix trace t27q7).Obj.toNat (c7q83 : (List Int))) rfl) (by kernel_rfl) ⟨_, (by kernel_rfl), (off_set c2q55 (ix trace t27q7).Obj (c7q83 : (List Int)) k1504)⟩ (S_set (fun a => getH _ (.t 7) = chD dLListInt 0 a) k1504 rfl)) (by kernel_rfl) ?_
          refine run_eqF 8 (.own 2 0 c2q55.length) (.own 2 0 (c2q55.set (ix trace t27q7).Obj.toNat (c7q83 : (List Int))).length) (congrArg (fun nq => (.own 2 0 nq : SV)) (show c2q55.length = (c2q55.set (ix trace t27q7).Obj.toNat (c7q83 : (List Int))).length from (List.length_set ..).symm)) (by kernel_rfl) ?_
          refine rs 1 [some ⟨.any, [(3, .map (mi (miSet c3q18 (ix trace t27q7).Obj 1)))], 18, [3]⟩] _ (by kernel_rfl) (allP_cons (ob_mset (.int .i64) rfl (ix trace t27q7).Obj 1 c3q18 3 18) allP_nil) ?_
          refine rt [(5, .ptr 0 0), (7, .mp 1), (8, .own 2 0 (c2q55.set (ix trace t27q7).Obj.toNat (c7q83 : (List Int))).length), (9, .mp 3), (10, iS (max last18 (IntKind.i64.wrap ((ix trace t27q7).Obj + 1)))), (25, .sl trace.length (fl trace)), (26, iS ((trace.length : Nat) : Int)), (27, iS t27q7)] [(0, .row 26 [iS 0, iS 0]), (1, .map (mE c1q18)), (2, .row 23 (flD dLListInt [16] (c2q55.set (ix trace t27q7).Obj.toNat (c7q83 : (List Int))))), (3, .map (mi (miSet c3q18 (ix trace t27q7).Obj 1))), (4, .row 31 (Enc.cells (ix trace t27q7))), (5, .row 23 [.own 7 0 c7q83.length]), ((.s 6 0), .dead), (7, .dead), ((.s 16 0), .fam (famD dLListInt 0 (c2q55.set (ix trace t27q7).Obj.toNat (c7q83 : (List Int)))))] 19 follows (by kernel_rfl) ?_
          exact hK1403 ((max last18 (IntKind.i64.wrap ((ix trace t27q7).Obj + 1))), c1q18, (c2q55.set (ix trace t27q7).Obj.toNat (c7q83 : (List Int))), (miSet c3q18 (ix trace t27q7).Obj 1)) _ _ _ h (leSt_m [(0, 0), (1, 1), (2, 2), (3, 3), ((.s 4 0), (.s 16 0))] [] (by simp only [push_cast, leL_flD, renL_flD, seval]) (by simp only [push_cast, leL_flD, renL_flD, seval]) rfl rfl rfl)
         ·refine chk_sx h (fun g1512 h => ?_)
          refine reg_t ?_
          have k1511 : 0 ≤ (ix trace t27q7).Obj ∧ (ix trace t27q7).Obj < ((c2q55.length : Nat) : Int) := by first | simpa only [Bool.and_eq_true, decide_eq_true_eq, bne_iff_ne, ne_eq] using g1512 | (simp at g1512 ⊢; omega)
          refine rs 9 [none, none, none, none, none, none, some ⟨.ptr 2 (0 + ((ix trace t27q7).Obj).toNat * 1), [], 14, [2]⟩, some ⟨.own (.s 6 (ix trace t27q7).Obj) 0 (ixD c2q55 (ix trace t27q7).Obj).length, [], 15, [2]⟩] _ (by kernel_rfl) (allP_cons (ob_ldD dLListInt [6] c2q55 (ix trace t27q7).Obj 1 0 (0 + ((ix trace t27q7).Obj).toNat * 1) k1511 rfl (by decide) (by first | rfl | omega) (dflS Try.prog 23) (.own (.s 6 (ix trace t27q7).Obj) 0 (ixD c2q55 (ix trace t27q7).Obj).length) rfl 15 [2]) (allP_cons (ob_ix_o 2 c2q55.length 0 1 14 (ix trace t27q7).Obj k1511) allP_nil)) ?_
          obtain ⟨r1513, hr1513, h⟩ := bind_sx h
          refine call_xT (slices_DeleteFunc_int_2_spec (ixD c2q55 (ix trace t27q7).Obj) c7q83 r1513 hr1513) (args := [.own (.s 6 (ix trace t27q7).Obj) 0 (ixD c2q55 (ix trace t27q7).Obj).length, .clo 42 [.ptr 5 0]]) (dst := (some 109)) (by kernel_rfl) [(0, .row 26 [iS 0, iS 0]), (1, .map (mE c1q18)), (2, .row 23 (flD dLListInt [6] c2q55)), (3, .map (mi c3q18)), (4, .row 31 (Enc.cells (ix trace t27q7))), (5, .row 23 [.own 7 0 c7q83.length]), ((.s 6 0), .fam (famD dLListInt 0 c2q55)), (7, .row 3 (fl c7q83))] 17 (by kernel_rfl) [(0, (.s 6 (ix trace t27q7).Obj)), (1, 5), (2, 7)] [] (.own 20 0 r1513.length) [((.s 6 0), .fam (upI (famD dLListInt 0 c2q55) (ix trace t27q7).Obj (.dead))), (5, .row 23 [.own 7 0 c7q83.length]), (7, .row 3 (fl c7q83)), (20, .row 3 (fl r1513)), ((.s 6 0), .fam (upI (famD dLListInt 0 c2q55) (ix trace t27q7).Obj (.dead))), (5, .dead), (7, .dead)] [Nm.t 5, Nm.t 7] [((.s 6 0), .fam (upI (famD dLListInt 0 c2q55) (ix trace t27q7).Obj (.dead))), (20, .row 3 (fl r1513)), ((.s 6 0), .fam (upI (famD dLListInt 0 c2q55) (ix trace t27q7).Obj (.dead)))] (by simp only [push_cast, leL_flD, renL_flD, seval]) (by simp only [push_cast, leL_flD, renL_flD, seval]) (by kernel_rfl) (.inl rfl) (by first | (simp only [push_cast, leL_flD, renL_flD, seval]; done) | (simp only [push_cast, leL_flD, renL_flD, seval]; kernel_rfl) | kernel_rfl) (by first | (simp only [push_cast, leL_flD, renL_flD, seval]; done) | (simp only [push_cast, leL_flD, renL_flD, seval]; kernel_rfl) | kernel_rfl) (by kernel_rfl) (And.intro (still_t (by kernel_rfl)) (And.intro (still_t (by kernel_rfl)) trivial)) ?_
          refine chk_sx h (fun g1515 h => ?_)
          have k1514 : 0 ≤ (ix trace t27q7).Obj ∧ (ix trace t27q7).Obj < ((c2q55.length : Nat) : Int) := by first | simpa only [Bool.and_eq_true, decide_eq_true_eq, bne_iff_ne, ne_eq] using g1515 | (simp at g1515 ⊢; omega)
          refine rs 1 [some ⟨.ptr 2 (0 + ((ix trace t27q7).Obj).toNat * 1), [], 22, [2]⟩] _ (by kernel_rfl) (allP_cons (ob_ix_o 2 c2q55.length 0 1 22 (ix trace t27q7).Obj k1514) allP_nil) ?_
          refine run_opGb none _ ⟨.any, [(2, .row 23 (flN dLListInt (nA [(some 6)] [(some (Nm.t 20))] (ix trace t27q7).Obj) 0 (c2q55.set (ix trace t27q7).Obj.toNat (r1513 : (List Int)))))], 23, [2]⟩ [((.s 23 0), .fam (famD dLListInt 0 (c2q55.set (ix trace t27q7).Obj.toNat (r1513 : (List Int))))), (2, .row 23 (flD dLListInt [23] (c2q55.set (ix trace t27q7).Obj.toNat (r1513 : (List Int))))), ((.s 6 0), .dead), (20, .dead)] 1 [2, (.s 6 0), 20] [(.s 6 0), 20] (by kernel_rfl) (ob_stN (P := Try.prog) dLListInt [6] [(some (Nm.t 20))] c2q55 (ix trace t27q7).Obj 1 0 (0 + ((ix trace t27q7).Obj).toNat * 1) k1514 rfl [.own 20 0 r1513.length] (r1513 : (List Int)) (Nat.le_of_ble_eq_true rfl) (by first | rfl | omega) rfl rfl 2 23 23 23 (by kernel_rfl) rfl) (ghost_A 23 dLListInt (c2q55.set (ix trace t27q7).Obj.toNat (r1513 : (List Int))) 2 23 [(some 6)] [(some (Nm.t 20))] (ix trace t27q7).Obj (flD dLListInt [23] (c2q55.set (ix trace t27q7).Obj.toNat (r1513 : (List Int)))) 0 (some 6) (some 20) (by kernel_rfl) (flN_done dLListInt [23] (ix trace t27q7).Obj (c2q55.set (ix trace t27q7).Obj.toNat (r1513 : (List Int))) rfl) (by kernel_rfl) ⟨_, (by kernel_rfl), (off_hole c2q55 (ix trace t27q7).Obj (r1513 : (List Int)) k1514 (.dead))⟩ (S_set (fun a => getH _ (.t 20) = chD dLListInt 0 a) k1514 rfl)) (by kernel_rfl) (And.intro (born_fam (upI (famD dLListInt 0 c2q55) (ix trace t27q7).Obj (.dead)) (by kernel_rfl)) (And.intro (by kernel_rfl) trivial)) ?_
          refine run_eqF 8 (.own 2 0 c2q55.length) (.own 2 0 (c2q55.set (ix trace t27q7).Obj.toNat (r1513 : (List Int))).length) (congrArg (fun nq => (.own 2 0 nq : SV)) (show c2q55.length = (c2q55.set (ix trace t27q7).Obj.toNat (r1513 : (List Int))).length from (List.length_set ..).symm)) (by kernel_rfl) ?_
          refine rt [(5, .ptr 0 0), (7, .mp 1), (8, .own 2 0 (c2q55.set (ix trace t27q7).Obj.toNat (r1513 : (List Int))).length), (9, .mp 3), (10, iS (max last18 (IntKind.i64.wrap ((ix trace t27q7).Obj + 1)))), (25, .sl trace.length (fl trace)), (26, iS ((trace.length : Nat) : Int)), (27, iS t27q7)] [(0, .row 26 [iS 0, iS 0]), (1, .map (mE c1q18)), (2, .row 23 (flD dLListInt [23] (c2q55.set (ix trace t27q7).Obj.toNat (r1513 : (List Int))))), (3, .map (mi c3q18)), (4, .row 31 (Enc.cells (ix trace t27q7))), (5, .row 23 [.own 7 0 c7q83.length]), ((.s 6 0), .dead), (7, .row 3 (fl c7q83)), (20, .dead), ((.s 23 0), .fam (famD dLListInt 0 (c2q55.set (ix trace t27q7).Obj.toNat (r1513 : (List Int)))))] 25 follows (by kernel_rfl) ?_
          exact hK1403 ((max last18 (IntKind.i64.wrap ((ix trace t27q7).Obj + 1))), c1q18, (c2q55.set (ix trace t27q7).Obj.toNat (r1513 : (List Int))), c3q18) _ _ _ h (leSt_m [(0, 0), (1, 1), (2, 2), (3, 3), ((.s 4 0), (.s 23 0))] [] (by simp only [push_cast, leL_flD, renL_flD, seval]) (by simp only [push_cast, leL_flD, renL_flD, seval]) rfl rfl rfl)
      ·exact hK1403 (last18, c1q18, c2q40, c3q18) _ _ _ h (leSt_m [(0, 0), (1, 1), (2, 2), (3, 3), ((.s 4 0), (.s 4 0))] [] (by simp only [push_cast, leL_flD, renL_flD, seval]) (by simp only [push_cast, leL_flD, renL_flD, seval]) rfl rfl rfl)
   ·rintro ⟨last21, c1q21, c2q49, c3q21⟩ h
    try dsimp only at h ⊢
    unfold race_Guards_j1 at h
    refine wk_id ?_
    refine wk_id ?_
    refine reg_f ?_
    refine rs 2 [] [] (by kernel_rfl) allP_nil ?_
    refine rf [(5, .ptr 0 0), (7, .mp 1), (8, .own 2 0 c2q49.length), (9, .mp 3), (10, iS last21), (25, .sl trace.length (fl trace)), (26, iS ((trace.length : Nat) : Int)), (27, iS (IntKind.i64.wrap (t27q7 + 1)))] [(0, .row 26 [iS 0, iS 0]), (1, .map (mE c1q21)), (2, .row 23 (flD dLListInt [4] c2q49)), (3, .map (mi c3q21)), ((.s 4 0), .fam (famD dLListInt 0 c2q49))] 5 (by kernel_rfl) ?_
    exact hn4 (last21, (IntKind.i64.wrap (t27q7 + 1)), c1q21, c2q49, c3q21) _ _ _ (Option.some.inj h).symm (leSt_m [(0, 0), (1, 1), (2, 2), (3, 3), ((.s 4 0), (.s 4 0))] [] (by simp only [push_cast, leL_flD, renL_flD, seval]) (by simp only [push_cast, leL_flD, renL_flD, seval]) rfl rfl rfl)
  ·change R4 (.exit 0) _ _ _
   refine ex_cast hx4 (id := 0) ?_
   obtain ⟨r0, h, e0⟩ := map_sx h
   have e1 := hr4 r0 e0.symm
   subst r0
   refine wk_id ?_
   refine wk_id ?_
   refine seq_np ?_
   refine reg_f ?_
   refine rs 4 [] [] (by kernel_rfl) allP_nil ?_
   refine rf [(4, .own 2 0 c2q40.length), (5, .ptr 0 0)] [(0, .row 26 [iS 0, iS 0]), (1, .map (mE c1q18)), (2, .row 23 (flD dLListInt [4] c2q40)), (3, .map (mi c3q18)), ((.s 4 0), .fam (famD dLListInt 0 c2q40))] 5 (by kernel_rfl) ?_
   refine wk_id ?_
   obtain rfl := Option.some.inj h
   refine ret_at (.tup [.own 2 0 c2q40.length, .agg [iS 0, iS 0]]) (by kernel_rfl) ?_
   exact ret_e [(0, 2), ((.s 1 0), (.s 4 0))] [] (by simp only [push_cast, leL_flD, renL_flD, seval]) (by simp only [push_cast, leL_flD, renL_flD, seval]) rfl rfl rfl

set_option maxRecDepth 100000 in
set_option maxHeartbeats 200000000 in
theorem taskmillref_F_spec (code : Int) (xat : Int) (r : Fault) (h : taskmillref_F code xat = some r) : SpecW Try.prog 19 [iS code, iS xat] [] 0 (fun x h n => x = .agg (Enc.cells r) ∧ h = [] ∧ n = 0) := by
 unfold taskmillref_F at h
 refine spec_of (draw_ok _) Try.func19 rfl (by decide) rfl (by kernel_rfl) ?_
 refine seq_np ?_
 refine reg_f ?_
 refine rs 1 [] [] (by kernel_rfl) allP_nil ?_
 refine rf [(0, iS code), (1, iS xat), (4, .ptr 0 0)] [(0, .row 26 [iS 0, iS 0])] 1 (by kernel_rfl) ?_
 refine wk_id ?_
 refine seq_np ?_
 refine reg_f ?_
 refine rs 4 [] [] (by kernel_rfl) allP_nil ?_
 refine rf [(4, .ptr 0 0)] [(0, .row 26 [iS code, iS xat])] 1 (by kernel_rfl) ?_
 refine wk_id ?_
 obtain rfl := Option.some.inj h
 refine ret_at (.agg [iS code, iS xat]) (by kernel_rfl) ?_
 exact ret_e [] [] (by simp only [push_cast, leL_flD, renL_flD, seval]) (by simp only [push_cast, leL_flD, renL_flD, seval]) rfl rfl rfl

set_option maxRecDepth 100000 in
set_option maxHeartbeats 200000000 in
theorem taskmillref_TraceFault_spec (t : (List GEvent)) (pipes : (List Int)) (r : Fault) (h : taskmillref_TraceFault t pipes = some r) : SpecW Try.prog 11 [.sl t.length (fl t), .sl pipes.length (fl pipes)] [] 0 (fun x h n => x = .agg (Enc.cells r) ∧ h = [] ∧ n = 0) := by
 unfold taskmillref_TraceFault at h
 refine spec_of (draw_ok _) Try.func11 rfl (by decide) rfl (by kernel_rfl) ?_
 refine seq_np ?_
 refine reg_f ?_
 refine rs 1 [] [] (by kernel_rfl) allP_nil ?_
 refine rf [(0, .sl t.length (fl t)), (1, .sl pipes.length (fl pipes)), (4, .ptr 0 0)] [(0, .row 26 [iS 0, iS 0])] 1 (by kernel_rfl) ?_
 refine wk_id ?_
 refine seq_np ?_
 refine seq_cut (A := Unit) (fun _ => ([(0, .sl t.length (fl t)), (1, .sl pipes.length (fl pipes)), (4, .ptr 0 0), (16, bS ((decide ((2000 : Int) < ((t.length : Nat) : Int))) || (decide ((20 : Int) < ((pipes.length : Nat) : Int)))))], [(0, .row 26 [iS 0, iS 0])], 1)) (fun _ => True) (fun K1618 hK1618 => ?_) (fun _ _ => ?_)
 ·refine reg_f ?_
  refine rs 4 [] [] (by kernel_rfl) allP_nil ?_
  refine run_split 12 (decide ((2000 : Int) < ((t.length : Nat) : Int))) (.inl (by kernel_rfl)) (fun g1619 => ?_) (fun g1619 => ?_)
  ·refine rs 4 [] [] (by kernel_rfl) allP_nil ?_
   refine rf [(0, .sl t.length (fl t)), (1, .sl pipes.length (fl pipes)), (4, .ptr 0 0), (16, bS true)] [(0, .row 26 [iS 0, iS 0])] 1 (by kernel_rfl) ?_
   exact hK1618 () _ _ _ trivial (leSt_m [(0, 0)] [] (by (try simp only [g1619]) <;> simp only [push_cast, leL_flD, renL_flD, seval]) (by (try simp only [g1619]) <;> simp only [push_cast, leL_flD, renL_flD, seval]) rfl rfl rfl)
  ·refine rs 4 [] [] (by kernel_rfl) allP_nil ?_
   refine rf [(0, .sl t.length (fl t)), (1, .sl pipes.length (fl pipes)), (4, .ptr 0 0), (16, bS (decide ((20 : Int) < ((pipes.length : Nat) : Int))))] [(0, .row 26 [iS 0, iS 0])] 1 (by kernel_rfl) ?_
   exact hK1618 () _ _ _ trivial (leSt_m [(0, 0)] [] (by (try simp only [g1619]) <;> simp only [push_cast, leL_flD, renL_flD, seval]) (by (try simp only [g1619]) <;> simp only [push_cast, leL_flD, renL_flD, seval]) rfl rfl rfl)
 ·dsimp only
  refine cond_sx h (by kernel_rfl) (fun g1972 h => ?_) (fun g1972 h => ?_)
  ·refine seq_np ?_
   refine reg_f ?_
   obtain ⟨r1621, hr1621, h⟩ := bind_sx h
   refine run_call 19 [iS 2, iS 0] (some 17) (by kernel_rfl) ?_
   refine call_0 (taskmillref_F_spec 2 0 r1621 hr1621) (by simp only [push_cast, leL_flD, renL_flD, seval]) (by simp only [push_cast, leL_flD, renL_flD, seval]) ?_
   refine back_f ?_
   refine rs 1 [] [] (by kernel_rfl) allP_nil ?_
   refine rf [(4, .ptr 0 0)] [(0, .row 26 (Enc.cells r1621))] 1 (by kernel_rfl) ?_
   refine wk_id ?_
   obtain rfl := Option.some.inj h
   refine ret_at (.agg (Enc.cells r1621)) (by kernel_rfl) ?_
   exact ret_e [] [] (by simp only [push_cast, leL_flD, renL_flD, seval]) (by simp only [push_cast, leL_flD, renL_flD, seval]) rfl rfl rfl
  ·refine wk_id ?_
   refine seq_np ?_
   refine seq_np ?_
   refine reg_f ?_
   refine rs 1 [] [] (by kernel_rfl) allP_nil ?_
   refine rf [(0, .sl t.length (fl t)), (1, .sl pipes.length (fl pipes)), (4, .ptr 0 0), (5, iS 0)] [(0, .row 26 [iS 0, iS 0])] 1 (by kernel_rfl) ?_
   refine wk_id ?_
   refine block_np ?_
   refine loop_sx (S := Int) (fun a => ([(0, .sl t.length (fl t)), (1, .sl pipes.length (fl pipes)), (4, .ptr 0 0), (5, iS a)], [(0, .row 26 [iS 0, iS 0])], 1)) h (leSt_m [(0, 0)] [] (by simp only [push_cast, leL_flD, renL_flD, seval]) (by simp only [push_cast, leL_flD, renL_flD, seval]) rfl rfl rfl) ?_
   rintro i9 o3 R3 h hr3 hn3 hx3 ht3
   try dsimp only at h hn3 ⊢
   unfold taskmillref_TraceFault_l2 at h
   try dsimp only at h
   refine seq_np ?_
   refine seq_np ?_
   refine reg_f ?_
   refine rs 4 [] [] (by kernel_rfl) allP_nil ?_
   refine rf [(0, .sl t.length (fl t)), (1, .sl pipes.length (fl pipes)), (4, .ptr 0 0), (5, iS i9), (21, bS (decide (i9 < ((pipes.length : Nat) : Int))))] [(0, .row 26 [iS 0, iS 0])] 1 (by kernel_rfl) ?_
   refine wk_id ?_
   refine cond_sx h (by kernel_rfl) (fun g1971 h => ?_) (fun g1971 h => ?_)
   ·refine wk_id ?_
    refine seq_np ?_
    refine block_np ?_
    refine chk_sx h (fun g1711 h => ?_)
    refine chk_sx h (fun g1714 h => ?_)
    refine seq_cut (A := Unit) (fun _ => ([(0, .sl t.length (fl t)), (1, .sl pipes.length (fl pipes)), (4, .ptr 0 0), (5, iS i9), (35, bS ((decide ((ix pipes i9) < 0)) || (decide ((100 : Int) < (ix pipes i9)))))], [(0, .row 26 [iS 0, iS 0])], 1)) (fun _ => True) (fun K1709 hK1709 => ?_) (fun _ _ => ?_)
    ·refine reg_f ?_
     have k1710 : 0 ≤ i9 ∧ i9 < ((pipes.length : Nat) : Int) := by first | simpa only [Bool.and_eq_true, decide_eq_true_eq, bne_iff_ne, ne_eq] using g1711 | (simp at g1711 ⊢; omega)
     refine rs 6 [none, none, some ⟨.iptr (fl pipes) ((i9).toNat * 1), [], 1, []⟩, some ⟨iS (ix pipes i9), [], 1, []⟩] _ (by kernel_rfl) (allP_cons (ob_ld pipes i9 1 0 ((i9).toNat * 1) k1710 rfl (by decide) (by first | rfl | omega) (dflS Try.prog 3) (iS (ix pipes i9)) rfl 1 []) (allP_cons (ob_ix_l pipes 1 1 i9 k1710) allP_nil)) ?_
     refine run_split 29 (decide ((ix pipes i9) < 0)) (.inl (by kernel_rfl)) (fun g1712 => ?_) (fun g1712 => ?_)
     ·refine rs 6 [] [] (by kernel_rfl) allP_nil ?_
      refine rf [(0, .sl t.length (fl t)), (1, .sl pipes.length (fl pipes)), (4, .ptr 0 0), (5, iS i9), (35, bS true)] [(0, .row 26 [iS 0, iS 0])] 1 (by kernel_rfl) ?_
      exact hK1709 () _ _ _ trivial (leSt_m [(0, 0)] [] (by (try simp only [g1712]) <;> simp only [push_cast, leL_flD, renL_flD, seval]) (by (try simp only [g1712]) <;> simp only [push_cast, leL_flD, renL_flD, seval]) rfl rfl rfl)
     ·have k1713 : 0 ≤ i9 ∧ i9 < ((pipes.length : Nat) : Int) := by have e := or_use g1714 (by first | ((try simp only [g1712]) <;> rfl) | ((try simp only [g1712]); rfl) | (exfalso; clear h; simp_all; done)); first | simpa only [Bool.and_eq_true, decide_eq_true_eq, bne_iff_ne, ne_eq] using e | (simp at e ⊢; omega)
      refine rs 6 [none, none, some ⟨.iptr (fl pipes) ((i9).toNat * 1), [], 1, []⟩, some ⟨iS (ix pipes i9), [], 1, []⟩] _ (by kernel_rfl) (allP_cons (ob_ld pipes i9 1 0 ((i9).toNat * 1) k1713 rfl (by decide) (by first | rfl | omega) (dflS Try.prog 3) (iS (ix pipes i9)) rfl 1 []) (allP_cons (ob_ix_l pipes 1 1 i9 k1713) allP_nil)) ?_
      refine rf [(0, .sl t.length (fl t)), (1, .sl pipes.length (fl pipes)), (4, .ptr 0 0), (5, iS i9), (35, bS (decide ((100 : Int) < (ix pipes i9))))] [(0, .row 26 [iS 0, iS 0])] 1 (by kernel_rfl) ?_
      exact hK1709 () _ _ _ trivial (leSt_m [(0, 0)] [] (by (try simp only [g1712]) <;> simp only [push_cast, leL_flD, renL_flD, seval]) (by (try simp only [g1712]) <;> simp only [push_cast, leL_flD, renL_flD, seval]) rfl rfl rfl)
    ·dsimp only
     refine cond_sx h (by kernel_rfl) (fun g1717 h => ?_) (fun g1717 h => ?_)
     ·refine seq_np ?_
      refine reg_f ?_
      refine rs 1 [] [] (by kernel_rfl) allP_nil ?_
      obtain ⟨r1716, hr1716, h⟩ := bind_sx h
      refine run_call 19 [iS 8, iS i9] (some 37) (by kernel_rfl) ?_
      refine call_0 (taskmillref_F_spec 8 i9 r1716 hr1716) (by simp only [push_cast, leL_flD, renL_flD, seval]) (by simp only [push_cast, leL_flD, renL_flD, seval]) ?_
      refine back_f ?_
      refine rs 1 [] [] (by kernel_rfl) allP_nil ?_
      refine rf [(4, .ptr 0 0)] [(0, .row 26 (Enc.cells r1716))] 1 (by kernel_rfl) ?_
      refine wk_id ?_
      refine rt_cast ht3 ?_
      obtain ⟨r0, h, e0⟩ := map_sx h
      have e1 := hr3 r0 e0.symm
      subst r0
      obtain rfl := Option.some.inj h
      refine ret_at (.agg (Enc.cells r1716)) (by kernel_rfl) ?_
      exact ret_e [] [] (by simp only [push_cast, leL_flD, renL_flD, seval]) (by simp only [push_cast, leL_flD, renL_flD, seval]) rfl rfl rfl
     ·refine wk_id ?_
      refine wk_id ?_
      refine reg_f ?_
      refine rs 3 [] [] (by kernel_rfl) allP_nil ?_
      refine rf [(0, .sl t.length (fl t)), (1, .sl pipes.length (fl pipes)), (4, .ptr 0 0), (5, iS (IntKind.i64.wrap (i9 + 1)))] [(0, .row 26 [iS 0, iS 0])] 1 (by kernel_rfl) ?_
      exact hn3 ((IntKind.i64.wrap (i9 + 1))) _ _ _ (Option.some.inj h).symm (leSt_m [(0, 0)] [] (by simp only [push_cast, leL_flD, renL_flD, seval]) (by simp only [push_cast, leL_flD, renL_flD, seval]) rfl rfl rfl)
   ·change R3 (.exit 0) _ _ _
    refine ex_cast hx3 (id := 0) ?_
    obtain ⟨r0, h, e0⟩ := map_sx h
    have e1 := hr3 r0 e0.symm
    subst r0
    refine wk_id ?_
    refine wk_id ?_
    refine seq_np ?_
    refine seq_np ?_
    refine reg_f ?_
    refine rs 1 [] [] (by kernel_rfl) allP_nil ?_
    refine rf [(0, .sl t.length (fl t)), (1, .sl pipes.length (fl pipes)), (4, .ptr 0 0), (6, iS 0)] [(0, .row 26 [iS 0, iS 0])] 1 (by kernel_rfl) ?_
    refine wk_id ?_
    refine block_np ?_
    refine loop_sx (S := Int) (fun a => ([(0, .sl t.length (fl t)), (1, .sl pipes.length (fl pipes)), (4, .ptr 0 0), (6, iS a)], [(0, .row 26 [iS 0, iS 0])], 1)) h (leSt_m [(0, 0)] [] (by simp only [push_cast, leL_flD, renL_flD, seval]) (by simp only [push_cast, leL_flD, renL_flD, seval]) rfl rfl rfl) ?_
    rintro i15 o4 R4 h hr4 hn4 hx4 ht4
    try dsimp only at h hn4 ⊢
    unfold taskmillref_TraceFault_l1 at h
    try dsimp only at h
    refine seq_np ?_
    refine seq_np ?_
    refine reg_f ?_
    refine rs 4 [] [] (by kernel_rfl) allP_nil ?_
    refine rf [(0, .sl t.length (fl t)), (1, .sl pipes.length (fl pipes)), (4, .ptr 0 0), (6, iS i15), (41, bS (decide (i15 < ((t.length : Nat) : Int))))] [(0, .row 26 [iS 0, iS 0])] 1 (by kernel_rfl) ?_
    refine wk_id ?_
    refine cond_sx h (by kernel_rfl) (fun g1970 h => ?_) (fun g1970 h => ?_)
    ·refine wk_id ?_
     refine seq_np ?_
     refine block_np ?_
     refine chk_sx h (fun g1923 h => ?_)
     refine seq_np ?_
     refine reg_f ?_
     have k1922 : 0 ≤ i15 ∧ i15 < ((t.length : Nat) : Int) := by first | simpa only [Bool.and_eq_true, decide_eq_true_eq, bne_iff_ne, ne_eq] using g1923 | (simp at g1923 ⊢; omega)
     refine rs 6 [none, none, some ⟨.iptr (fl t) ((i15).toNat * 4), [], 1, []⟩, some ⟨.agg (Enc.cells (ix t i15)), [], 1, []⟩] _ (by kernel_rfl) (allP_cons (ob_ldw t i15 4 ((i15).toNat * 4) k1922 rfl (by first | rfl | omega) (Enc.cells (ix t i15)) rfl 1 []) (allP_cons (ob_ix_l t 4 1 i15 k1922) allP_nil)) ?_
     refine rf [(0, .sl t.length (fl t)), (1, .sl pipes.length (fl pipes)), (4, .ptr 0 0), (6, iS i15), (7, .ptr 1 0)] [(0, .row 26 [iS 0, iS 0]), (1, .row 31 (Enc.cells (ix t i15)))] 2 (by kernel_rfl) ?_
     refine wk_id ?_
     refine seq_np ?_
     refine seq_cut (A := Unit) (fun _ => ([(0, .sl t.length (fl t)), (1, .sl pipes.length (fl pipes)), (4, .ptr 0 0), (6, iS i15), (7, .ptr 1 0), (55, bS ((decide ((ix t i15).Task < 1)) || (decide ((64 : Int) < (ix t i15).Task))))], [(0, .row 26 [iS 0, iS 0]), (1, .row 31 (Enc.cells (ix t i15)))], 2)) (fun _ => True) (fun K1928 hK1928 => ?_) (fun _ _ => ?_)
     ·refine reg_f ?_
      refine rs 4 [] [] (by kernel_rfl) allP_nil ?_
      refine run_split 51 (decide ((ix t i15).Task < 1)) (.inl (by kernel_rfl)) (fun g1929 => ?_) (fun g1929 => ?_)
      ·refine rs 4 [] [] (by kernel_rfl) allP_nil ?_
       refine rf [(0, .sl t.length (fl t)), (1, .sl pipes.length (fl pipes)), (4, .ptr 0 0), (6, iS i15), (7, .ptr 1 0), (55, bS true)] [(0, .row 26 [iS 0, iS 0]), (1, .row 31 (Enc.cells (ix t i15)))] 2 (by kernel_rfl) ?_
       exact hK1928 () _ _ _ trivial (leSt_m [(0, 0), (1, 1)] [] (by (try simp only [g1929]) <;> simp only [push_cast, leL_flD, renL_flD, seval]) (by (try simp only [g1929]) <;> simp only [push_cast, leL_flD, renL_flD, seval]) rfl rfl rfl)
      ·refine rs 4 [] [] (by kernel_rfl) allP_nil ?_
       refine rf [(0, .sl t.length (fl t)), (1, .sl pipes.length (fl pipes)), (4, .ptr 0 0), (6, iS i15), (7, .ptr 1 0), (55, bS (decide ((64 : Int) < (ix t i15).Task)))] [(0, .row 26 [iS 0, iS 0]), (1, .row 31 (Enc.cells (ix t i15)))] 2 (by kernel_rfl) ?_
       exact hK1928 () _ _ _ trivial (leSt_m [(0, 0), (1, 1)] [] (by (try simp only [g1929]) <;> simp only [push_cast, leL_flD, renL_flD, seval]) (by (try simp only [g1929]) <;> simp only [push_cast, leL_flD, renL_flD, seval]) rfl rfl rfl)
     ·dsimp only
      refine cond_sx h (by kernel_rfl) (fun g1969 h => ?_) (fun g1969 h => ?_)
      ·refine seq_np ?_
       refine reg_f ?_
       refine rs 1 [] [] (by kernel_rfl) allP_nil ?_
       obtain ⟨r1931, hr1931, h⟩ := bind_sx h
       refine run_call 19 [iS 3, iS i15] (some 57) (by kernel_rfl) ?_
       refine call_0 (taskmillref_F_spec 3 i15 r1931 hr1931) (by simp only [push_cast, leL_flD, renL_flD, seval]) (by simp only [push_cast, leL_flD, renL_flD, seval]) ?_
       refine back_f ?_
       refine rs 1 [] [] (by kernel_rfl) allP_nil ?_
       refine rf [(4, .ptr 0 0)] [(0, .row 26 (Enc.cells r1931)), (1, .row 31 (Enc.cells (ix t i15)))] 2 (by kernel_rfl) ?_
       refine wk_id ?_
       refine rt_cast ht4 ?_
       obtain ⟨r0, h, e0⟩ := map_sx h
       have e1 := hr4 r0 e0.symm
       subst r0
       obtain rfl := Option.some.inj h
       refine ret_at (.agg (Enc.cells r1931)) (by kernel_rfl) ?_
       exact ret_e [] [] (by simp only [push_cast, leL_flD, renL_flD, seval]) (by simp only [push_cast, leL_flD, renL_flD, seval]) rfl rfl rfl
      ·refine wk_id ?_
       refine seq_np ?_
       refine seq_cut (A := Unit) (fun _ => ([(0, .sl t.length (fl t)), (1, .sl pipes.length (fl pipes)), (4, .ptr 0 0), (6, iS i15), (7, .ptr 1 0), (65, bS ((decide ((ix t i15).Op < 8)) || (decide ((22 : Int) < (ix t i15).Op))))], [(0, .row 26 [iS 0, iS 0]), (1, .row 31 (Enc.cells (ix t i15)))], 2)) (fun _ => True) (fun K1936 hK1936 => ?_) (fun _ _ => ?_)
       ·refine reg_f ?_
        refine rs 4 [] [] (by kernel_rfl) allP_nil ?_
        refine run_split 61 (decide ((ix t i15).Op < 8)) (.inl (by kernel_rfl)) (fun g1937 => ?_) (fun g1937 => ?_)
        ·refine rs 4 [] [] (by kernel_rfl) allP_nil ?_
         refine rf [(0, .sl t.length (fl t)), (1, .sl pipes.length (fl pipes)), (4, .ptr 0 0), (6, iS i15), (7, .ptr 1 0), (65, bS true)] [(0, .row 26 [iS 0, iS 0]), (1, .row 31 (Enc.cells (ix t i15)))] 2 (by kernel_rfl) ?_
         exact hK1936 () _ _ _ trivial (leSt_m [(0, 0), (1, 1)] [] (by (try simp only [g1937]) <;> simp only [push_cast, leL_flD, renL_flD, seval]) (by (try simp only [g1937]) <;> simp only [push_cast, leL_flD, renL_flD, seval]) rfl rfl rfl)
        ·refine rs 4 [] [] (by kernel_rfl) allP_nil ?_
         refine rf [(0, .sl t.length (fl t)), (1, .sl pipes.length (fl pipes)), (4, .ptr 0 0), (6, iS i15), (7, .ptr 1 0), (65, bS (decide ((22 : Int) < (ix t i15).Op)))] [(0, .row 26 [iS 0, iS 0]), (1, .row 31 (Enc.cells (ix t i15)))] 2 (by kernel_rfl) ?_
         exact hK1936 () _ _ _ trivial (leSt_m [(0, 0), (1, 1)] [] (by (try simp only [g1937]) <;> simp only [push_cast, leL_flD, renL_flD, seval]) (by (try simp only [g1937]) <;> simp only [push_cast, leL_flD, renL_flD, seval]) rfl rfl rfl)
       ·dsimp only
        refine cond_sx h (by kernel_rfl) (fun g1968 h => ?_) (fun g1968 h => ?_)
        ·refine seq_np ?_
         refine reg_f ?_
         refine rs 1 [] [] (by kernel_rfl) allP_nil ?_
         obtain ⟨r1939, hr1939, h⟩ := bind_sx h
         refine run_call 19 [iS 4, iS i15] (some 67) (by kernel_rfl) ?_
         refine call_0 (taskmillref_F_spec 4 i15 r1939 hr1939) (by simp only [push_cast, leL_flD, renL_flD, seval]) (by simp only [push_cast, leL_flD, renL_flD, seval]) ?_
         refine back_f ?_
         refine rs 1 [] [] (by kernel_rfl) allP_nil ?_
         refine rf [(4, .ptr 0 0)] [(0, .row 26 (Enc.cells r1939)), (1, .row 31 (Enc.cells (ix t i15)))] 2 (by kernel_rfl) ?_
         refine wk_id ?_
         refine rt_cast ht4 ?_
         obtain ⟨r0, h, e0⟩ := map_sx h
         have e1 := hr4 r0 e0.symm
         subst r0
         obtain rfl := Option.some.inj h
         refine ret_at (.agg (Enc.cells r1939)) (by kernel_rfl) ?_
         exact ret_e [] [] (by simp only [push_cast, leL_flD, renL_flD, seval]) (by simp only [push_cast, leL_flD, renL_flD, seval]) rfl rfl rfl
        ·refine wk_id ?_
         refine seq_cut (A := Unit) (fun _ => ([(0, .sl t.length (fl t)), (1, .sl pipes.length (fl pipes)), (4, .ptr 0 0), (6, iS i15), (7, .ptr 1 0), (8, bS (((ix t i15).Op == 14) || (((ix t i15).Op == 15) || ((ix t i15).Op == 16))))], [(0, .row 26 [iS 0, iS 0]), (1, .row 31 (Enc.cells (ix t i15)))], 2)) (fun _ => True) (fun K1942 hK1942 => ?_) (fun _ _ => ?_)
         ·refine reg_f ?_
          refine rs 4 [] [] (by kernel_rfl) allP_nil ?_
          refine run_split 71 ((ix t i15).Op == 14) (.inl (by kernel_rfl)) (fun g1943 => ?_) (fun g1943 => ?_)
          ·refine rs 10 [] [] (by kernel_rfl) allP_nil ?_
           refine rf [(0, .sl t.length (fl t)), (1, .sl pipes.length (fl pipes)), (4, .ptr 0 0), (6, iS i15), (7, .ptr 1 0), (8, bS true)] [(0, .row 26 [iS 0, iS 0]), (1, .row 31 (Enc.cells (ix t i15)))] 2 (by kernel_rfl) ?_
           exact hK1942 () _ _ _ trivial (leSt_m [(0, 0), (1, 1)] [] (by (try simp only [g1943]) <;> simp only [push_cast, leL_flD, renL_flD, seval]) (by (try simp only [g1943]) <;> simp only [push_cast, leL_flD, renL_flD, seval]) rfl rfl rfl)
          ·refine rs 5 [] [] (by kernel_rfl) allP_nil ?_
           refine run_split 76 ((ix t i15).Op == 15) (.inl (by kernel_rfl)) (fun g1944 => ?_) (fun g1944 => ?_)
           ·refine rs 5 [] [] (by kernel_rfl) allP_nil ?_
            refine rf [(0, .sl t.length (fl t)), (1, .sl pipes.length (fl pipes)), (4, .ptr 0 0), (6, iS i15), (7, .ptr 1 0), (8, bS true)] [(0, .row 26 [iS 0, iS 0]), (1, .row 31 (Enc.cells (ix t i15)))] 2 (by kernel_rfl) ?_
            exact hK1942 () _ _ _ trivial (leSt_m [(0, 0), (1, 1)] [] (by first | ((try simp only [g1943, g1944]) <;> simp only [push_cast, leL_flD, renL_flD, seval]; done) | ((try simp only [g1943]); (try simp only [g1944]); simp only [push_cast, leL_flD, renL_flD, seval]; done) | (exfalso; clear h; simp_all; done)) (by first | ((try simp only [g1943, g1944]) <;> simp only [push_cast, leL_flD, renL_flD, seval]; done) | ((try simp only [g1943]); (try simp only [g1944]); simp only [push_cast, leL_flD, renL_flD, seval]; done) | (exfalso; clear h; simp_all; done)) rfl rfl rfl)
           ·refine rs 5 [] [] (by kernel_rfl) allP_nil ?_
            refine rf [(0, .sl t.length (fl t)), (1, .sl pipes.length (fl pipes)), (4, .ptr 0 0), (6, iS i15), (7, .ptr 1 0), (8, bS ((ix t i15).Op == 16))] [(0, .row 26 [iS 0, iS 0]), (1, .row 31 (Enc.cells (ix t i15)))] 2 (by kernel_rfl) ?_
            exact hK1942 () _ _ _ trivial (leSt_m [(0, 0), (1, 1)] [] (by first | ((try simp only [g1943, g1944]) <;> simp only [push_cast, leL_flD, renL_flD, seval]; done) | ((try simp only [g1943]); (try simp only [g1944]); simp only [push_cast, leL_flD, renL_flD, seval]; done) | (exfalso; clear h; simp_all; done)) (by first | ((try simp only [g1943, g1944]) <;> simp only [push_cast, leL_flD, renL_flD, seval]; done) | ((try simp only [g1943]); (try simp only [g1944]); simp only [push_cast, leL_flD, renL_flD, seval]; done) | (exfalso; clear h; simp_all; done)) rfl rfl rfl)
         ·dsimp only
          refine seq_np ?_
          refine seq_cut (A := Unit) (fun _ => ([(0, .sl t.length (fl t)), (1, .sl pipes.length (fl pipes)), (4, .ptr 0 0), (6, iS i15), (7, .ptr 1 0), (98, bS ((decide ((ix t i15).Obj < 0)) || ((decide ((20 : Int) < (ix t i15).Obj)) || ((((ix t i15).Op == 14) || (((ix t i15).Op == 15) || ((ix t i15).Op == 16))) && (decide (((pipes.length : Nat) : Int) ≤ (ix t i15).Obj))))))], [(0, .row 26 [iS 0, iS 0]), (1, .row 31 (Enc.cells (ix t i15)))], 2)) (fun _ => True) (fun K1953 hK1953 => ?_) (fun _ _ => ?_)
          ·refine reg_f ?_
           refine rs 4 [] [] (by kernel_rfl) allP_nil ?_
           refine run_split 84 (decide ((ix t i15).Obj < 0)) (.inl (by kernel_rfl)) (fun g1954 => ?_) (fun g1954 => ?_)
           ·refine rs 14 [] [] (by kernel_rfl) allP_nil ?_
            refine rf [(0, .sl t.length (fl t)), (1, .sl pipes.length (fl pipes)), (4, .ptr 0 0), (6, iS i15), (7, .ptr 1 0), (98, bS true)] [(0, .row 26 [iS 0, iS 0]), (1, .row 31 (Enc.cells (ix t i15)))] 2 (by kernel_rfl) ?_
            exact hK1953 () _ _ _ trivial (leSt_m [(0, 0), (1, 1)] [] (by (try simp only [g1954]) <;> simp only [push_cast, leL_flD, renL_flD, seval]) (by (try simp only [g1954]) <;> simp only [push_cast, leL_flD, renL_flD, seval]) rfl rfl rfl)
           ·refine rs 5 [] [] (by kernel_rfl) allP_nil ?_
            refine run_split 89 (decide ((20 : Int) < (ix t i15).Obj)) (.inl (by kernel_rfl)) (fun g1955 => ?_) (fun g1955 => ?_)
            ·refine rs 9 [] [] (by kernel_rfl) allP_nil ?_
             refine rf [(0, .sl t.length (fl t)), (1, .sl pipes.length (fl pipes)), (4, .ptr 0 0), (6, iS i15), (7, .ptr 1 0), (98, bS true)] [(0, .row 26 [iS 0, iS 0]), (1, .row 31 (Enc.cells (ix t i15)))] 2 (by kernel_rfl) ?_
             exact hK1953 () _ _ _ trivial (leSt_m [(0, 0), (1, 1)] [] (by first | ((try simp only [g1954, g1955]) <;> simp only [push_cast, leL_flD, renL_flD, seval]; done) | ((try simp only [g1954]); (try simp only [g1955]); simp only [push_cast, leL_flD, renL_flD, seval]; done) | (exfalso; clear h; simp_all; done)) (by first | ((try simp only [g1954, g1955]) <;> simp only [push_cast, leL_flD, renL_flD, seval]; done) | ((try simp only [g1954]); (try simp only [g1955]); simp only [push_cast, leL_flD, renL_flD, seval]; done) | (exfalso; clear h; simp_all; done)) rfl rfl rfl)
            ·refine rs 2 [] [] (by kernel_rfl) allP_nil ?_
             refine run_split 91 (((ix t i15).Op == 14) || (((ix t i15).Op == 15) || ((ix t i15).Op == 16))) (.inr (by kernel_rfl)) (fun g1956 => ?_) (fun g1956 => ?_)
             ·refine rn 11 [(0, .sl t.length (fl t)), (1, .sl pipes.length (fl pipes)), (4, .ptr 0 0), (6, iS i15), (7, .ptr 1 0), (89, bS false), (91, .gd true (bS true))] [(0, .row 26 [iS 0, iS 0]), (1, .row 31 (Enc.cells (ix t i15)))] 2 (by kernel_rfl) ?_
              refine rs 7 [] [] (by kernel_rfl) allP_nil ?_
              refine rf [(0, .sl t.length (fl t)), (1, .sl pipes.length (fl pipes)), (4, .ptr 0 0), (6, iS i15), (7, .ptr 1 0), (98, bS (decide (((pipes.length : Nat) : Int) ≤ (ix t i15).Obj)))] [(0, .row 26 [iS 0, iS 0]), (1, .row 31 (Enc.cells (ix t i15)))] 2 (by kernel_rfl) ?_
              exact hK1953 () _ _ _ trivial (leSt_m [(0, 0), (1, 1)] [] (by first | ((try simp only [g1954, g1955, g1956]) <;> simp only [push_cast, leL_flD, renL_flD, seval]; done) | ((try simp only [g1954]); (try simp only [g1955]); (try simp only [g1956]); simp only [push_cast, leL_flD, renL_flD, seval]; done) | (exfalso; clear h; simp_all; done)) (by first | ((try simp only [g1954, g1955, g1956]) <;> simp only [push_cast, leL_flD, renL_flD, seval]; done) | ((try simp only [g1954]); (try simp only [g1955]); (try simp only [g1956]); simp only [push_cast, leL_flD, renL_flD, seval]; done) | (exfalso; clear h; simp_all; done)) rfl rfl rfl)
             ·refine rn 11 [(0, .sl t.length (fl t)), (1, .sl pipes.length (fl pipes)), (4, .ptr 0 0), (6, iS i15), (7, .ptr 1 0), (89, bS false), (91, .gd true (bS false))] [(0, .row 26 [iS 0, iS 0]), (1, .row 31 (Enc.cells (ix t i15)))] 2 (by kernel_rfl) ?_
              refine rs 7 [] [] (by kernel_rfl) allP_nil ?_
              refine rf [(0, .sl t.length (fl t)), (1, .sl pipes.length (fl pipes)), (4, .ptr 0 0), (6, iS i15), (7, .ptr 1 0), (98, bS false)] [(0, .row 26 [iS 0, iS 0]), (1, .row 31 (Enc.cells (ix t i15)))] 2 (by kernel_rfl) ?_
              exact hK1953 () _ _ _ trivial (leSt_m [(0, 0), (1, 1)] [] (by first | ((try simp only [g1954, g1955, g1956]) <;> simp only [push_cast, leL_flD, renL_flD, seval]; done) | ((try simp only [g1954]); (try simp only [g1955]); (try simp only [g1956]); simp only [push_cast, leL_flD, renL_flD, seval]; done) | (exfalso; clear h; simp_all; done)) (by first | ((try simp only [g1954, g1955, g1956]) <;> simp only [push_cast, leL_flD, renL_flD, seval]; done) | ((try simp only [g1954]); (try simp only [g1955]); (try simp only [g1956]); simp only [push_cast, leL_flD, renL_flD, seval]; done) | (exfalso; clear h; simp_all; done)) rfl rfl rfl)
          ·dsimp only
           refine cond_sx h (by kernel_rfl) (fun g1967 h => ?_) (fun g1967 h => ?_)
           ·refine seq_np ?_
            refine reg_f ?_
            refine rs 1 [] [] (by kernel_rfl) allP_nil ?_
            obtain ⟨r1958, hr1958, h⟩ := bind_sx h
            refine run_call 19 [iS 5, iS i15] (some 100) (by kernel_rfl) ?_
            refine call_0 (taskmillref_F_spec 5 i15 r1958 hr1958) (by simp only [push_cast, leL_flD, renL_flD, seval]) (by simp only [push_cast, leL_flD, renL_flD, seval]) ?_
            refine back_f ?_
            refine rs 1 [] [] (by kernel_rfl) allP_nil ?_
            refine rf [(4, .ptr 0 0)] [(0, .row 26 (Enc.cells r1958)), (1, .row 31 (Enc.cells (ix t i15)))] 2 (by kernel_rfl) ?_
            refine wk_id ?_
            refine rt_cast ht4 ?_
            obtain ⟨r0, h, e0⟩ := map_sx h
            have e1 := hr4 r0 e0.symm
            subst r0
            obtain rfl := Option.some.inj h
            refine ret_at (.agg (Enc.cells r1958)) (by kernel_rfl) ?_
            exact ret_e [] [] (by simp only [push_cast, leL_flD, renL_flD, seval]) (by simp only [push_cast, leL_flD, renL_flD, seval]) rfl rfl rfl
           ·refine wk_id ?_
            refine seq_cut (A := Unit) (fun _ => ([(0, .sl t.length (fl t)), (1, .sl pipes.length (fl pipes)), (4, .ptr 0 0), (6, iS i15), (113, bS (((ix t i15).Op == 11) && ((decide ((ix t i15).Value < 1)) || (decide ((64 : Int) < (ix t i15).Value)))))], [(0, .row 26 [iS 0, iS 0]), (1, .row 31 (Enc.cells (ix t i15)))], 2)) (fun _ => True) (fun K1961 hK1961 => ?_) (fun _ _ => ?_)
            ·refine reg_f ?_
             refine rs 4 [] [] (by kernel_rfl) allP_nil ?_
             refine run_split 104 ((ix t i15).Op == 11) (.inl (by kernel_rfl)) (fun g1962 => ?_) (fun g1962 => ?_)
             ·refine rs 4 [] [] (by kernel_rfl) allP_nil ?_
              refine run_split 108 (decide ((ix t i15).Value < 1)) (.inr (by kernel_rfl)) (fun g1963 => ?_) (fun g1963 => ?_)
              ·refine rs 5 [] [] (by kernel_rfl) allP_nil ?_
               refine rf [(0, .sl t.length (fl t)), (1, .sl pipes.length (fl pipes)), (4, .ptr 0 0), (6, iS i15), (113, bS true)] [(0, .row 26 [iS 0, iS 0]), (1, .row 31 (Enc.cells (ix t i15)))] 2 (by kernel_rfl) ?_
               exact hK1961 () _ _ _ trivial (leSt_m [(0, 0), (1, 1)] [] (by first | ((try simp only [g1962, g1963]) <;> simp only [push_cast, leL_flD, renL_flD, seval]; done) | ((try simp only [g1962]); (try simp only [g1963]); simp only [push_cast, leL_flD, renL_flD, seval]; done) | (exfalso; clear h; simp_all; done)) (by first | ((try simp only [g1962, g1963]) <;> simp only [push_cast, leL_flD, renL_flD, seval]; done) | ((try simp only [g1962]); (try simp only [g1963]); simp only [push_cast, leL_flD, renL_flD, seval]; done) | (exfalso; clear h; simp_all; done)) rfl rfl rfl)
              ·refine rs 5 [] [] (by kernel_rfl) allP_nil ?_
               refine rf [(0, .sl t.length (fl t)), (1, .sl pipes.length (fl pipes)), (4, .ptr 0 0), (6, iS i15), (113, bS (decide ((64 : Int) < (ix t i15).Value)))] [(0, .row 26 [iS 0, iS 0]), (1, .row 31 (Enc.cells (ix t i15)))] 2 (by kernel_rfl) ?_
               exact hK1961 () _ _ _ trivial (leSt_m [(0, 0), (1, 1)] [] (by first | ((try simp only [g1962, g1963]) <;> simp only [push_cast, leL_flD, renL_flD, seval]; done) | ((try simp only [g1962]); (try simp only [g1963]); simp only [push_cast, leL_flD, renL_flD, seval]; done) | (exfalso; clear h; simp_all; done)) (by first | ((try simp only [g1962, g1963]) <;> simp only [push_cast, leL_flD, renL_flD, seval]; done) | ((try simp only [g1962]); (try simp only [g1963]); simp only [push_cast, leL_flD, renL_flD, seval]; done) | (exfalso; clear h; simp_all; done)) rfl rfl rfl)
             ·refine rs 9 [] [] (by kernel_rfl) allP_nil ?_
              refine rf [(0, .sl t.length (fl t)), (1, .sl pipes.length (fl pipes)), (4, .ptr 0 0), (6, iS i15), (113, bS false)] [(0, .row 26 [iS 0, iS 0]), (1, .row 31 (Enc.cells (ix t i15)))] 2 (by kernel_rfl) ?_
              exact hK1961 () _ _ _ trivial (leSt_m [(0, 0), (1, 1)] [] (by (try simp only [g1962]) <;> simp only [push_cast, leL_flD, renL_flD, seval]) (by (try simp only [g1962]) <;> simp only [push_cast, leL_flD, renL_flD, seval]) rfl rfl rfl)
            ·dsimp only
             refine cond_sx h (by kernel_rfl) (fun g1966 h => ?_) (fun g1966 h => ?_)
             ·refine seq_np ?_
              refine reg_f ?_
              refine rs 1 [] [] (by kernel_rfl) allP_nil ?_
              obtain ⟨r1965, hr1965, h⟩ := bind_sx h
              refine run_call 19 [iS 5, iS i15] (some 115) (by kernel_rfl) ?_
              refine call_0 (taskmillref_F_spec 5 i15 r1965 hr1965) (by simp only [push_cast, leL_flD, renL_flD, seval]) (by simp only [push_cast, leL_flD, renL_flD, seval]) ?_
              refine back_f ?_
              refine rs 1 [] [] (by kernel_rfl) allP_nil ?_
              refine rf [(4, .ptr 0 0)] [(0, .row 26 (Enc.cells r1965)), (1, .row 31 (Enc.cells (ix t i15)))] 2 (by kernel_rfl) ?_
              refine wk_id ?_
              refine rt_cast ht4 ?_
              obtain ⟨r0, h, e0⟩ := map_sx h
              have e1 := hr4 r0 e0.symm
              subst r0
              obtain rfl := Option.some.inj h
              refine ret_at (.agg (Enc.cells r1965)) (by kernel_rfl) ?_
              exact ret_e [] [] (by simp only [push_cast, leL_flD, renL_flD, seval]) (by simp only [push_cast, leL_flD, renL_flD, seval]) rfl rfl rfl
             ·refine wk_id ?_
              refine wk_id ?_
              refine reg_f ?_
              refine rs 3 [] [] (by kernel_rfl) allP_nil ?_
              refine rf [(0, .sl t.length (fl t)), (1, .sl pipes.length (fl pipes)), (4, .ptr 0 0), (6, iS (IntKind.i64.wrap (i15 + 1)))] [(0, .row 26 [iS 0, iS 0]), (1, .row 31 (Enc.cells (ix t i15)))] 2 (by kernel_rfl) ?_
              exact hn4 ((IntKind.i64.wrap (i15 + 1))) _ _ _ (Option.some.inj h).symm (leSt_m [(0, 0)] [] (by simp only [push_cast, leL_flD, renL_flD, seval]) (by simp only [push_cast, leL_flD, renL_flD, seval]) rfl rfl rfl)
    ·change R4 (.exit 2) _ _ _
     refine ex_cast hx4 (id := 2) ?_
     obtain ⟨r0, h, e0⟩ := map_sx h
     have e1 := hr4 r0 e0.symm
     subst r0
     refine wk_id ?_
     refine wk_id ?_
     refine seq_np ?_
     refine reg_f ?_
     refine rs 2 [] [] (by kernel_rfl) allP_nil ?_
     refine rf [(4, .ptr 0 0)] [(0, .row 26 [iS 0, iS 0])] 1 (by kernel_rfl) ?_
     refine wk_id ?_
     obtain rfl := Option.some.inj h
     refine ret_at (.agg [iS 0, iS 0]) (by kernel_rfl) ?_
     exact ret_e [] [] (by simp only [push_cast, leL_flD, renL_flD, seval]) (by simp only [push_cast, leL_flD, renL_flD, seval]) rfl rfl rfl

set_option maxRecDepth 100000 in
set_option maxHeartbeats 200000000 in
theorem taskmillref_Access_spec (e : GEvent) (r : Bool) (h : taskmillref_Access e = some r) : SpecW Try.prog 28 [.agg (Enc.cells e)] [] 0 (fun x h n => x = bS r ∧ h = [] ∧ n = 0) := by
 unfold taskmillref_Access at h
 refine spec_of (draw_ok _) Try.func28 rfl (by decide) rfl (by kernel_rfl) ?_
 refine seq_np ?_
 refine reg_f ?_
 refine rs 2 [] [] (by kernel_rfl) allP_nil ?_
 refine rf [(1, .ptr 0 0)] [(0, .row 31 (Enc.cells e))] 1 (by kernel_rfl) ?_
 refine wk_id ?_
 refine seq_cut (A := Unit) (fun _ => ([(2, bS ((e.Op == 12) || (e.Op == 13)))], [(0, .row 31 (Enc.cells e))], 1)) (fun _ => True) (fun K1981 hK1981 => ?_) (fun _ _ => ?_)
 ·refine reg_f ?_
  refine rs 4 [] [] (by kernel_rfl) allP_nil ?_
  refine run_split 6 (e.Op == 12) (.inl (by kernel_rfl)) (fun g1982 => ?_) (fun g1982 => ?_)
  ·refine rs 5 [] [] (by kernel_rfl) allP_nil ?_
   refine rf [(2, bS true)] [(0, .row 31 (Enc.cells e))] 1 (by kernel_rfl) ?_
   exact hK1981 () _ _ _ trivial (leSt_m [(0, 0)] [] (by (try simp only [g1982]) <;> simp only [push_cast, leL_flD, renL_flD, seval]) (by (try simp only [g1982]) <;> simp only [push_cast, leL_flD, renL_flD, seval]) rfl rfl rfl)
  ·refine rs 5 [] [] (by kernel_rfl) allP_nil ?_
   refine rf [(2, bS (e.Op == 13))] [(0, .row 31 (Enc.cells e))] 1 (by kernel_rfl) ?_
   exact hK1981 () _ _ _ trivial (leSt_m [(0, 0)] [] (by (try simp only [g1982]) <;> simp only [push_cast, leL_flD, renL_flD, seval]) (by (try simp only [g1982]) <;> simp only [push_cast, leL_flD, renL_flD, seval]) rfl rfl rfl)
 ·dsimp only
  obtain rfl := Option.some.inj h
  refine ret_at (bS ((e.Op == 12) || (e.Op == 13))) (by kernel_rfl) ?_
  exact ret_e [] [] (by simp only [push_cast, leL_flD, renL_flD, seval]) (by simp only [push_cast, leL_flD, renL_flD, seval]) rfl rfl rfl

set_option maxRecDepth 100000 in
set_option maxHeartbeats 200000000 in
theorem taskmillref_Holds_spec (t : (List GEvent)) (xat : Int) (lock : Int) (r : Int) (h : taskmillref_Holds t xat lock = some r) : SpecW Try.prog 30 [.sl t.length (fl t), iS xat, iS lock] [] 0 (fun x h n => x = iS r ∧ h = [] ∧ n = 0) := by
 unfold taskmillref_Holds at h
 refine spec_of (draw_ok _) Try.func30 rfl (by decide) rfl (by kernel_rfl) ?_
 refine seq_np ?_
 refine reg_f ?_
 refine rs 1 [] [] (by kernel_rfl) allP_nil ?_
 refine rf [(0, .sl t.length (fl t)), (1, iS xat), (2, iS lock)] [] 0 (by kernel_rfl) ?_
 refine wk_id ?_
 refine seq_np ?_
 refine reg_f ?_
 refine rs 1 [] [] (by kernel_rfl) allP_nil ?_
 refine rf [(0, .sl t.length (fl t)), (1, iS xat), (2, iS lock), (7, iS 0)] [] 0 (by kernel_rfl) ?_
 refine wk_id ?_
 refine seq_np ?_
 refine seq_np ?_
 refine reg_f ?_
 refine rs 1 [] [] (by kernel_rfl) allP_nil ?_
 refine rf [(0, .sl t.length (fl t)), (1, iS xat), (2, iS lock), (7, iS 0), (8, iS 0)] [] 0 (by kernel_rfl) ?_
 refine wk_id ?_
 refine block_np ?_
 refine loop_sx (S := Int × Int) (fun a => ([(0, .sl t.length (fl t)), (1, iS xat), (2, iS lock), (7, iS a.1), (8, iS a.2)], [], 0)) h (leSt_m [] [] (by simp only [push_cast, leL_flD, renL_flD, seval]) (by simp only [push_cast, leL_flD, renL_flD, seval]) rfl rfl rfl) ?_
 rintro ⟨n29, i7⟩ o2 R2 h hr2 hn2 hx2 ht2
 try dsimp only at h hn2 ⊢
 unfold taskmillref_Holds_l1 at h
 try dsimp only at h
 refine seq_np ?_
 refine seq_np ?_
 refine reg_f ?_
 refine rs 3 [] [] (by kernel_rfl) allP_nil ?_
 refine rf [(0, .sl t.length (fl t)), (1, iS xat), (2, iS lock), (7, iS n29), (8, iS i7), (11, bS (decide (i7 < xat)))] [] 0 (by kernel_rfl) ?_
 refine wk_id ?_
 refine cond_sx h (by kernel_rfl) (fun g2339 h => ?_) (fun g2339 h => ?_)
 ·refine wk_id ?_
  refine seq_np ?_
  refine block_cut (A := Int) (fun a => ([(0, .sl t.length (fl t)), (1, iS xat), (2, iS lock), (7, iS a), (8, iS i7)], [], 0)) (fun a => (taskmillref_Holds_j1 t xat lock i7 a) = some o2) (fun K2296 hK2296 => ?_) ?_
  ·refine seq_np ?_
   refine chk_sx h (fun g2314 h => ?_)
   refine chk_sx h (fun g2316 h => ?_)
   refine chk_sx h (fun g2319 h => ?_)
   refine seq_cut (A := Unit) (fun _ => ([(0, .sl t.length (fl t)), (1, iS xat), (2, iS lock), (7, iS n29), (8, iS i7), (33, bS (((ix t i7).Task != (ix t xat).Task) || ((ix t i7).Obj != lock)))], [], 20)) (fun _ => True) (fun K2312 hK2312 => ?_) (fun _ _ => ?_)
   ·refine reg_t ?_
    have k2313 : 0 ≤ i7 ∧ i7 < ((t.length : Nat) : Int) := by first | simpa only [Bool.and_eq_true, decide_eq_true_eq, bne_iff_ne, ne_eq] using g2314 | (simp at g2314 ⊢; omega)
    have k2315 : 0 ≤ xat ∧ xat < ((t.length : Nat) : Int) := by first | simpa only [Bool.and_eq_true, decide_eq_true_eq, bne_iff_ne, ne_eq] using g2316 | (simp at g2316 ⊢; omega)
    refine rs 12 [none, none, some ⟨.iptr (fl t) ((i7).toNat * 4), [], 2, []⟩, none, some ⟨iS (ix t i7).Task, [], 4, []⟩, none, none, some ⟨.iptr (fl t) ((xat).toNat * 4), [], 7, []⟩, none, some ⟨iS (ix t xat).Task, [], 9, []⟩] _ (by kernel_rfl) (allP_cons (ob_ld t xat 4 0 (((xat).toNat * 4) + 0) k2315 rfl (by decide) (by first | rfl | omega) (dflS Try.prog 3) (iS (ix t xat).Task) rfl 9 []) (allP_cons (ob_ix_l t 4 7 xat k2315) (allP_cons (ob_ld t i7 4 0 (((i7).toNat * 4) + 0) k2313 rfl (by decide) (by first | rfl | omega) (dflS Try.prog 3) (iS (ix t i7).Task) rfl 4 []) (allP_cons (ob_ix_l t 4 2 i7 k2313) allP_nil)))) ?_
    refine run_split 25 ((ix t i7).Task != (ix t xat).Task) (.inl (by kernel_rfl)) (fun g2317 => ?_) (fun g2317 => ?_)
    ·refine rs 8 [] [] (by kernel_rfl) allP_nil ?_
     refine rt [(0, .sl t.length (fl t)), (1, iS xat), (2, iS lock), (7, iS n29), (8, iS i7), (33, bS true)] [] 20 follows (by kernel_rfl) ?_
     exact hK2312 () _ _ _ trivial (leSt_m [] [] (by (try simp only [g2317]) <;> simp only [push_cast, leL_flD, renL_flD, seval]) (by (try simp only [g2317]) <;> simp only [push_cast, leL_flD, renL_flD, seval]) rfl rfl rfl)
    ·have k2318 : 0 ≤ i7 ∧ i7 < ((t.length : Nat) : Int) := by have e := or_use g2319 (by first | ((try simp only [g2317]) <;> rfl) | ((try simp only [g2317]); rfl) | (exfalso; clear h; simp_all; done)); first | simpa only [Bool.and_eq_true, decide_eq_true_eq, bne_iff_ne, ne_eq] using e | (simp at e ⊢; omega)
     refine rs 8 [none, none, some ⟨.iptr (fl t) ((i7).toNat * 4), [], 14, []⟩, none, some ⟨iS (ix t i7).Obj, [], 16, []⟩] _ (by kernel_rfl) (allP_cons (ob_ld t i7 4 2 (((i7).toNat * 4) + 2) k2318 rfl (by decide) (by first | rfl | omega) (dflS Try.prog 3) (iS (ix t i7).Obj) rfl 16 []) (allP_cons (ob_ix_l t 4 14 i7 k2318) allP_nil)) ?_
     refine rt [(0, .sl t.length (fl t)), (1, iS xat), (2, iS lock), (7, iS n29), (8, iS i7), (33, bS ((ix t i7).Obj != lock))] [] 20 follows (by kernel_rfl) ?_
     exact hK2312 () _ _ _ trivial (leSt_m [] [] (by (try simp only [g2317]) <;> simp only [push_cast, leL_flD, renL_flD, seval]) (by (try simp only [g2317]) <;> simp only [push_cast, leL_flD, renL_flD, seval]) rfl rfl rfl)
   ·dsimp only
    refine cond_sx h (by kernel_rfl) (fun g2338 h => ?_) (fun g2338 h => ?_)
    ·exact hK2296 (n29) _ _ _ h (leSt_m [] [] (by simp only [push_cast, leL_flD, renL_flD, seval]) (by simp only [push_cast, leL_flD, renL_flD, seval]) rfl rfl rfl)
    ·refine wk_id ?_
     refine seq_cut (A := Int) (fun a => ([(0, .sl t.length (fl t)), (1, iS xat), (2, iS lock), (7, iS a), (8, iS i7)], [], 0)) (fun a => (taskmillref_Holds_j2 t xat lock i7 a) = some o2) (fun K2324 hK2324 => ?_) ?_
     ·refine chk_sx h (fun g2328 h => ?_)
      refine seq_np ?_
      refine reg_f ?_
      have k2327 : 0 ≤ i7 ∧ i7 < ((t.length : Nat) : Int) := by first | simpa only [Bool.and_eq_true, decide_eq_true_eq, bne_iff_ne, ne_eq] using g2328 | (simp at g2328 ⊢; omega)
      refine rs 6 [none, none, some ⟨.iptr (fl t) ((i7).toNat * 4), [], 20, []⟩, none, some ⟨iS (ix t i7).Op, [], 20, []⟩] _ (by kernel_rfl) (allP_cons (ob_ld t i7 4 1 (((i7).toNat * 4) + 1) k2327 rfl (by decide) (by first | rfl | omega) (dflS Try.prog 3) (iS (ix t i7).Op) rfl 20 []) (allP_cons (ob_ix_l t 4 20 i7 k2327) allP_nil)) ?_
      refine rf [(0, .sl t.length (fl t)), (1, iS xat), (2, iS lock), (7, iS n29), (8, iS i7), (39, bS ((ix t i7).Op == 17))] [] 20 (by kernel_rfl) ?_
      refine wk_id ?_
      refine cond_sx h (by kernel_rfl) (fun g2329 h => ?_) (fun g2329 h => ?_)
      ·refine reg_f ?_
       refine rs 3 [] [] (by kernel_rfl) allP_nil ?_
       refine rf [(0, .sl t.length (fl t)), (1, iS xat), (2, iS lock), (7, iS (IntKind.i64.wrap (n29 + 1))), (8, iS i7)] [] 20 (by kernel_rfl) ?_
       exact hK2324 ((IntKind.i64.wrap (n29 + 1))) _ _ _ h (leSt_m [] [] (by simp only [push_cast, leL_flD, renL_flD, seval]) (by simp only [push_cast, leL_flD, renL_flD, seval]) rfl rfl rfl)
      ·exact hK2324 (n29) _ _ _ h (leSt_m [] [] (by simp only [push_cast, leL_flD, renL_flD, seval]) (by simp only [push_cast, leL_flD, renL_flD, seval]) rfl rfl rfl)
     ·rintro n34 h
      try dsimp only at h ⊢
      unfold taskmillref_Holds_j2 at h
      refine chk_sx h (fun g2335 h => ?_)
      refine seq_cut (A := Unit) (fun _ => ([(0, .sl t.length (fl t)), (1, iS xat), (2, iS lock), (7, iS n34), (8, iS i7), (51, bS (((ix t i7).Op == 18) && (decide ((0 : Int) < n34))))], [], 0)) (fun _ => True) (fun K2333 hK2333 => ?_) (fun _ _ => ?_)
      ·refine reg_f ?_
       have k2334 : 0 ≤ i7 ∧ i7 < ((t.length : Nat) : Int) := by first | simpa only [Bool.and_eq_true, decide_eq_true_eq, bne_iff_ne, ne_eq] using g2335 | (simp at g2335 ⊢; omega)
       refine rs 7 [none, none, some ⟨.iptr (fl t) ((i7).toNat * 4), [], 0, []⟩, none, some ⟨iS (ix t i7).Op, [], 0, []⟩] _ (by kernel_rfl) (allP_cons (ob_ld t i7 4 1 (((i7).toNat * 4) + 1) k2334 rfl (by decide) (by first | rfl | omega) (dflS Try.prog 3) (iS (ix t i7).Op) rfl 0 []) (allP_cons (ob_ix_l t 4 0 i7 k2334) allP_nil)) ?_
       refine run_split 48 ((ix t i7).Op == 18) (.inl (by kernel_rfl)) (fun g2336 => ?_) (fun g2336 => ?_)
       ·refine rs 3 [] [] (by kernel_rfl) allP_nil ?_
        refine rf [(0, .sl t.length (fl t)), (1, iS xat), (2, iS lock), (7, iS n34), (8, iS i7), (51, bS (decide ((0 : Int) < n34)))] [] 0 (by kernel_rfl) ?_
        exact hK2333 () _ _ _ trivial (leSt_m [] [] (by (try simp only [g2336]) <;> simp only [push_cast, leL_flD, renL_flD, seval]) (by (try simp only [g2336]) <;> simp only [push_cast, leL_flD, renL_flD, seval]) rfl rfl rfl)
       ·refine rs 3 [] [] (by kernel_rfl) allP_nil ?_
        refine rf [(0, .sl t.length (fl t)), (1, iS xat), (2, iS lock), (7, iS n34), (8, iS i7), (51, bS false)] [] 0 (by kernel_rfl) ?_
        exact hK2333 () _ _ _ trivial (leSt_m [] [] (by (try simp only [g2336]) <;> simp only [push_cast, leL_flD, renL_flD, seval]) (by (try simp only [g2336]) <;> simp only [push_cast, leL_flD, renL_flD, seval]) rfl rfl rfl)
      ·dsimp only
       refine cond_sx h (by kernel_rfl) (fun g2337 h => ?_) (fun g2337 h => ?_)
       ·refine reg_f ?_
        refine rs 3 [] [] (by kernel_rfl) allP_nil ?_
        refine rf [(0, .sl t.length (fl t)), (1, iS xat), (2, iS lock), (7, iS (IntKind.i64.wrap (n34 - 1))), (8, iS i7)] [] 0 (by kernel_rfl) ?_
        exact hK2296 ((IntKind.i64.wrap (n34 - 1))) _ _ _ h (leSt_m [] [] (by simp only [push_cast, leL_flD, renL_flD, seval]) (by simp only [push_cast, leL_flD, renL_flD, seval]) rfl rfl rfl)
       ·exact hK2296 (n34) _ _ _ h (leSt_m [] [] (by simp only [push_cast, leL_flD, renL_flD, seval]) (by simp only [push_cast, leL_flD, renL_flD, seval]) rfl rfl rfl)
  ·rintro n33 h
   try dsimp only at h ⊢
   unfold taskmillref_Holds_j1 at h
   refine wk_id ?_
   refine reg_f ?_
   refine rs 3 [] [] (by kernel_rfl) allP_nil ?_
   refine rf [(0, .sl t.length (fl t)), (1, iS xat), (2, iS lock), (7, iS n33), (8, iS (IntKind.i64.wrap (i7 + 1)))] [] 0 (by kernel_rfl) ?_
   exact hn2 (n33, (IntKind.i64.wrap (i7 + 1))) _ _ _ (Option.some.inj h).symm (leSt_m [] [] (by simp only [push_cast, leL_flD, renL_flD, seval]) (by simp only [push_cast, leL_flD, renL_flD, seval]) rfl rfl rfl)
 ·change R2 (.exit 0) _ _ _
  refine ex_cast hx2 (id := 0) ?_
  obtain ⟨r0, h, e0⟩ := map_sx h
  have e1 := hr2 r0 e0.symm
  subst r0
  refine wk_id ?_
  refine wk_id ?_
  refine seq_np ?_
  refine reg_f ?_
  refine rs 2 [] [] (by kernel_rfl) allP_nil ?_
  refine rf [(6, iS n29)] [] 0 (by kernel_rfl) ?_
  refine wk_id ?_
  obtain rfl := Option.some.inj h
  refine ret_at (iS n29) (by kernel_rfl) ?_
  exact ret_e [] [] (by simp only [push_cast, leL_flD, renL_flD, seval]) (by simp only [push_cast, leL_flD, renL_flD, seval]) rfl rfl rfl

set_option maxRecDepth 100000 in
set_option maxHeartbeats 200000000 in
theorem taskmillref_Ints_spec (xa : (List Int)) (b : (List Int)) (r : Bool) (h : taskmillref_Ints xa b = some r) : SpecW Try.prog 18 [.sl xa.length (fl xa), .sl b.length (fl b)] [] 0 (fun x h n => x = bS r ∧ h = [] ∧ n = 0) := by
 unfold taskmillref_Ints at h
 refine spec_of (draw_ok _) Try.func18 rfl (by decide) rfl (by kernel_rfl) ?_
 refine seq_np ?_
 refine reg_f ?_
 refine rs 1 [] [] (by kernel_rfl) allP_nil ?_
 refine rf [(0, .sl xa.length (fl xa)), (1, .sl b.length (fl b))] [] 0 (by kernel_rfl) ?_
 refine wk_id ?_
 refine seq_np ?_
 refine seq_np ?_
 refine reg_f ?_
 refine rs 5 [] [] (by kernel_rfl) allP_nil ?_
 refine rf [(0, .sl xa.length (fl xa)), (1, .sl b.length (fl b)), (10, bS (((xa.length : Nat) : Int) != ((b.length : Nat) : Int)))] [] 0 (by kernel_rfl) ?_
 refine wk_id ?_
 refine cond_sx h (by kernel_rfl) (fun g2573 h => ?_) (fun g2573 h => ?_)
 ·refine seq_np ?_
  refine reg_f ?_
  refine rs 1 [] [] (by kernel_rfl) allP_nil ?_
  refine rf [(4, bS false)] [] 0 (by kernel_rfl) ?_
  refine wk_id ?_
  obtain rfl := Option.some.inj h
  refine ret_at (bS false) (by kernel_rfl) ?_
  exact ret_e [] [] (by simp only [push_cast, leL_flD, renL_flD, seval]) (by simp only [push_cast, leL_flD, renL_flD, seval]) rfl rfl rfl
 ·refine wk_id ?_
  refine seq_np ?_
  refine seq_np ?_
  refine reg_f ?_
  refine rs 1 [] [] (by kernel_rfl) allP_nil ?_
  refine rf [(0, .sl xa.length (fl xa)), (1, .sl b.length (fl b)), (5, iS 0)] [] 0 (by kernel_rfl) ?_
  refine wk_id ?_
  refine block_np ?_
  refine loop_sx (S := Int) (fun a => ([(0, .sl xa.length (fl xa)), (1, .sl b.length (fl b)), (5, iS a)], [], 0)) h (leSt_m [] [] (by simp only [push_cast, leL_flD, renL_flD, seval]) (by simp only [push_cast, leL_flD, renL_flD, seval]) rfl rfl rfl) ?_
  rintro i7 o2 R2 h hr2 hn2 hx2 ht2
  try dsimp only at h hn2 ⊢
  unfold taskmillref_Ints_l1 at h
  try dsimp only at h
  refine seq_np ?_
  refine seq_np ?_
  refine reg_f ?_
  refine rs 4 [] [] (by kernel_rfl) allP_nil ?_
  refine rf [(0, .sl xa.length (fl xa)), (1, .sl b.length (fl b)), (5, iS i7), (14, bS (decide (i7 < ((xa.length : Nat) : Int))))] [] 0 (by kernel_rfl) ?_
  refine wk_id ?_
  refine cond_sx h (by kernel_rfl) (fun g2572 h => ?_) (fun g2572 h => ?_)
  ·refine wk_id ?_
   refine seq_np ?_
   refine block_np ?_
   refine chk_sx h (fun g2568 h => ?_)
   refine chk_sx h (fun g2570 h => ?_)
   refine seq_np ?_
   refine reg_t ?_
   have k2567 : 0 ≤ i7 ∧ i7 < ((xa.length : Nat) : Int) := by first | simpa only [Bool.and_eq_true, decide_eq_true_eq, bne_iff_ne, ne_eq] using g2568 | (simp at g2568 ⊢; omega)
   have k2569 : 0 ≤ i7 ∧ i7 < ((b.length : Nat) : Int) := by first | simpa only [Bool.and_eq_true, decide_eq_true_eq, bne_iff_ne, ne_eq] using g2570 | (simp at g2570 ⊢; omega)
   refine rs 9 [none, none, some ⟨.iptr (fl xa) ((i7).toNat * 1), [], 2, []⟩, some ⟨iS (ix xa i7), [], 3, []⟩, none, none, some ⟨.iptr (fl b) ((i7).toNat * 1), [], 6, []⟩, some ⟨iS (ix b i7), [], 7, []⟩] _ (by kernel_rfl) (allP_cons (ob_ld b i7 1 0 ((i7).toNat * 1) k2569 rfl (by decide) (by first | rfl | omega) (dflS Try.prog 3) (iS (ix b i7)) rfl 7 []) (allP_cons (ob_ix_l b 1 6 i7 k2569) (allP_cons (ob_ld xa i7 1 0 ((i7).toNat * 1) k2567 rfl (by decide) (by first | rfl | omega) (dflS Try.prog 3) (iS (ix xa i7)) rfl 3 []) (allP_cons (ob_ix_l xa 1 2 i7 k2567) allP_nil)))) ?_
   refine rt [(0, .sl xa.length (fl xa)), (1, .sl b.length (fl b)), (5, iS i7), (25, bS ((ix xa i7) != (ix b i7)))] [] 9 follows (by kernel_rfl) ?_
   refine wk_id ?_
   refine cond_sx h (by kernel_rfl) (fun g2571 h => ?_) (fun g2571 h => ?_)
   ·refine seq_np ?_
    refine reg_f ?_
    refine rs 1 [] [] (by kernel_rfl) allP_nil ?_
    refine rf [(4, bS false)] [] 9 (by kernel_rfl) ?_
    refine wk_id ?_
    refine rt_cast ht2 ?_
    obtain ⟨r0, h, e0⟩ := map_sx h
    have e1 := hr2 r0 e0.symm
    subst r0
    obtain rfl := Option.some.inj h
    refine ret_at (bS false) (by kernel_rfl) ?_
    exact ret_e [] [] (by simp only [push_cast, leL_flD, renL_flD, seval]) (by simp only [push_cast, leL_flD, renL_flD, seval]) rfl rfl rfl
   ·refine wk_id ?_
    refine wk_id ?_
    refine reg_f ?_
    refine rs 3 [] [] (by kernel_rfl) allP_nil ?_
    refine rf [(0, .sl xa.length (fl xa)), (1, .sl b.length (fl b)), (5, iS (IntKind.i64.wrap (i7 + 1)))] [] 9 (by kernel_rfl) ?_
    exact hn2 ((IntKind.i64.wrap (i7 + 1))) _ _ _ (Option.some.inj h).symm (leSt_m [] [] (by simp only [push_cast, leL_flD, renL_flD, seval]) (by simp only [push_cast, leL_flD, renL_flD, seval]) rfl rfl rfl)
  ·change R2 (.exit 0) _ _ _
   refine ex_cast hx2 (id := 0) ?_
   obtain ⟨r0, h, e0⟩ := map_sx h
   have e1 := hr2 r0 e0.symm
   subst r0
   refine wk_id ?_
   refine wk_id ?_
   refine seq_np ?_
   refine reg_f ?_
   refine rs 1 [] [] (by kernel_rfl) allP_nil ?_
   refine rf [(4, bS true)] [] 0 (by kernel_rfl) ?_
   refine wk_id ?_
   obtain rfl := Option.some.inj h
   refine ret_at (bS true) (by kernel_rfl) ?_
   exact ret_e [] [] (by simp only [push_cast, leL_flD, renL_flD, seval]) (by simp only [push_cast, leL_flD, renL_flD, seval]) rfl rfl rfl

set_option maxRecDepth 100000 in
set_option maxHeartbeats 200000000 in
theorem taskmilllaw_RaceGuards_spec (t : (List GEvent)) (pipes : (List Int)) (r : Bool) (h : taskmilllaw_RaceGuards t pipes = some r) : SpecW Try.prog 9 [.sl t.length (fl t), .sl pipes.length (fl pipes)] [] 0 (fun x h n => x = bS r ∧ h = [] ∧ n = 0) := by
 unfold taskmilllaw_RaceGuards at h
 refine spec_of (draw_ok _) Try.func9 rfl (by decide) rfl (by kernel_rfl) ?_
 refine seq_np ?_
 refine reg_f ?_
 refine rs 1 [] [] (by kernel_rfl) allP_nil ?_
 refine rf [(0, .sl t.length (fl t)), (1, .sl pipes.length (fl pipes))] [] 0 (by kernel_rfl) ?_
 refine wk_id ?_
 refine seq_np ?_
 refine seq_np ?_
 refine reg_f ?_
 obtain ⟨r2884, hr2884, h⟩ := bind_sx h
 refine run_call 23 [] (some 16) (by kernel_rfl) ?_
 refine call_0 (taskmilllaw_raceBegun_spec r2884 hr2884) (by simp only [push_cast, leL_flD, renL_flD, seval]) (by simp only [push_cast, leL_flD, renL_flD, seval]) ?_
 refine back_f ?_
 refine rs 1 [] [] (by kernel_rfl) allP_nil ?_
 refine rf [(0, .sl t.length (fl t)), (1, .sl pipes.length (fl pipes)), (17, bS (!r2884))] [] 0 (by kernel_rfl) ?_
 refine wk_id ?_
 refine cond_sx h (by kernel_rfl) (fun g5254 h => ?_) (fun g5254 h => ?_)
 ·refine seq_np ?_
  refine reg_f ?_
  refine rs 1 [] [] (by kernel_rfl) allP_nil ?_
  refine rf [(4, bS false)] [] 0 (by kernel_rfl) ?_
  refine wk_id ?_
  obtain rfl := Option.some.inj h
  refine ret_at (bS false) (by kernel_rfl) ?_
  exact ret_e [] [] (by simp only [push_cast, leL_flD, renL_flD, seval]) (by simp only [push_cast, leL_flD, renL_flD, seval]) rfl rfl rfl
 ·refine wk_id ?_
  refine seq_np ?_
  refine seq_cut (A := Unit) (fun _ => ([(0, .sl t.length (fl t)), (1, .sl pipes.length (fl pipes)), (25, bS ((decide ((300 : Int) < ((t.length : Nat) : Int))) || (decide ((100 : Int) < ((pipes.length : Nat) : Int)))))], [], 0)) (fun _ => True) (fun K2888 hK2888 => ?_) (fun _ _ => ?_)
  ·refine reg_f ?_
   refine rs 4 [] [] (by kernel_rfl) allP_nil ?_
   refine run_split 21 (decide ((300 : Int) < ((t.length : Nat) : Int))) (.inl (by kernel_rfl)) (fun g2889 => ?_) (fun g2889 => ?_)
   ·refine rs 4 [] [] (by kernel_rfl) allP_nil ?_
    refine rf [(0, .sl t.length (fl t)), (1, .sl pipes.length (fl pipes)), (25, bS true)] [] 0 (by kernel_rfl) ?_
    exact hK2888 () _ _ _ trivial (leSt_m [] [] (by (try simp only [g2889]) <;> simp only [push_cast, leL_flD, renL_flD, seval]) (by (try simp only [g2889]) <;> simp only [push_cast, leL_flD, renL_flD, seval]) rfl rfl rfl)
   ·refine rs 4 [] [] (by kernel_rfl) allP_nil ?_
    refine rf [(0, .sl t.length (fl t)), (1, .sl pipes.length (fl pipes)), (25, bS (decide ((100 : Int) < ((pipes.length : Nat) : Int))))] [] 0 (by kernel_rfl) ?_
    exact hK2888 () _ _ _ trivial (leSt_m [] [] (by (try simp only [g2889]) <;> simp only [push_cast, leL_flD, renL_flD, seval]) (by (try simp only [g2889]) <;> simp only [push_cast, leL_flD, renL_flD, seval]) rfl rfl rfl)
  ·dsimp only
   refine cond_sx h (by kernel_rfl) (fun g5253 h => ?_) (fun g5253 h => ?_)
   ·refine seq_np ?_
    refine reg_f ?_
    refine rs 1 [] [] (by kernel_rfl) allP_nil ?_
    refine rf [(4, bS true)] [] 0 (by kernel_rfl) ?_
    refine wk_id ?_
    obtain rfl := Option.some.inj h
    refine ret_at (bS true) (by kernel_rfl) ?_
    exact ret_e [] [] (by simp only [push_cast, leL_flD, renL_flD, seval]) (by simp only [push_cast, leL_flD, renL_flD, seval]) rfl rfl rfl
   ·refine wk_id ?_
    refine seq_np ?_
    refine reg_f ?_
    refine rs 1 [] [] (by kernel_rfl) allP_nil ?_
    obtain ⟨r2893, hr2893, h⟩ := bind_sx h
    refine call_x (taskmilllaw_ownTrace_spec t r2893 hr2893) (args := [.sl t.length (fl t)]) (dst := (some 28)) (by kernel_rfl) [] 0 (by kernel_rfl) [] [] (.own 0 0 r2893.length) [(0, .row 31 (fl r2893))] (by simp only [push_cast, leL_flD, renL_flD, seval]) (by simp only [push_cast, leL_flD, renL_flD, seval]) (by kernel_rfl) (.inl rfl) (by simp only [push_cast, leL_flD, renL_flD, seval]) (by simp only [push_cast, leL_flD, renL_flD, seval]) ?_
    refine rs 1 [] [] (by kernel_rfl) allP_nil ?_
    obtain ⟨r2894, hr2894, h⟩ := bind_sx h
    refine call_x (taskmilllaw_own_spec pipes r2894 hr2894) (args := [.sl pipes.length (fl pipes)]) (dst := (some 30)) (by kernel_rfl) [(0, .row 31 (fl r2893))] 1 (by kernel_rfl) [] [] (.own 1 0 r2894.length) [(1, .row 3 (fl r2894))] (by simp only [push_cast, leL_flD, renL_flD, seval]) (by simp only [push_cast, leL_flD, renL_flD, seval]) (by kernel_rfl) (.inl rfl) (by simp only [push_cast, leL_flD, renL_flD, seval]) (by simp only [push_cast, leL_flD, renL_flD, seval]) ?_
    obtain ⟨r2895, hr2895, h⟩ := bind_sx h
    refine call_x (SpecW.give (SpecW.give (race_Guards_spec r2893 r2894 r2895 hr2895) [(0, .row 31 (fl r2893))] [.own 0 0 r2893.length, .sl r2894.length (fl r2894)] [] (.tup [.own 1 0 r2895.2.length, .agg (Enc.cells r2895.1)]) [(1, .row 23 (flD dLListInt [2] r2895.2)), ((.s 2 0), .fam (famD dLListInt 0 r2895.2))] (by first | simp only [push_cast, leL_flD, renL_flD, seval] | simp only [push_cast, List.mem_singleton, true_and, and_true, leL_flD, renL_flD, seval]) (by simp only [push_cast, leL_flD, renL_flD, seval]) (by simp only [push_cast, leL_flD, renL_flD, seval]) (by simp only [push_cast, leL_flD, renL_flD, seval]) rfl (by first | (simp only [push_cast, leL_flD, renL_flD, seval]; done) | (simp only [push_cast, leL_flD, renL_flD, seval]; kernel_rfl) | kernel_rfl) (by first | (simp only [push_cast, leL_flD, renL_flD, seval]; done) | (simp only [push_cast, leL_flD, renL_flD, seval]; kernel_rfl) | kernel_rfl) rfl) [(0, .row 31 (fl r2893)), (1, .row 3 (fl r2894))] [.own 0 0 r2893.length, .own 1 0 r2894.length] [(0, 0)] (.tup [.own 3 0 r2895.2.length, .agg (Enc.cells r2895.1)]) [(3, .row 23 (flD dLListInt [4] r2895.2)), ((.s 4 0), .fam (famD dLListInt 0 r2895.2)), (0, .dead)] (by first | simp only [push_cast, leL_flD, renL_flD, seval] | simp only [push_cast, List.mem_singleton, true_and, and_true, leL_flD, renL_flD, seval]) (by simp only [push_cast, leL_flD, renL_flD, seval]) (by simp only [push_cast, leL_flD, renL_flD, seval]) (by simp only [push_cast, leL_flD, renL_flD, seval]) rfl (by first | (simp only [push_cast, leL_flD, renL_flD, seval]; done) | (simp only [push_cast, leL_flD, renL_flD, seval]; kernel_rfl) | kernel_rfl) (by first | (simp only [push_cast, leL_flD, renL_flD, seval]; done) | (simp only [push_cast, leL_flD, renL_flD, seval]; kernel_rfl) | kernel_rfl) rfl) (args := [.own 0 0 r2893.length, .own 1 0 r2894.length]) (dst := (some 31)) (by kernel_rfl) [(0, .row 31 (fl r2893)), (1, .row 3 (fl r2894))] 2 (by kernel_rfl) [(0, 0), (1, 1)] [] (.tup [.own 5 0 r2895.2.length, .agg (Enc.cells r2895.1)]) [(5, .row 23 (flD dLListInt [6] r2895.2)), ((.s 6 0), .fam (famD dLListInt 0 r2895.2)), (0, .dead), (0, .dead), (1, .dead)] (by simp only [push_cast, leL_flD, renL_flD, seval]) (by simp only [push_cast, leL_flD, renL_flD, seval]) (by kernel_rfl) (.inl rfl) (by first | (simp only [push_cast, leL_flD, renL_flD, seval]; done) | (simp only [push_cast, leL_flD, renL_flD, seval]; kernel_rfl) | kernel_rfl) (by first | (simp only [push_cast, leL_flD, renL_flD, seval]; done) | (simp only [push_cast, leL_flD, renL_flD, seval]; kernel_rfl) | kernel_rfl) ?_
    refine rn 5 [(0, .sl t.length (fl t)), (1, .sl pipes.length (fl pipes)), (31, .tup [.own 5 0 r2895.2.length, .agg (Enc.cells r2895.1)])] [(0, .dead), (1, .dead), (5, .row 23 (flD dLListInt [6] r2895.2)), ((.s 6 0), .fam (famD dLListInt 0 r2895.2))] 7 (by kernel_rfl) ?_
    refine rs 6 [] [] (by kernel_rfl) allP_nil ?_
    refine rf [(0, .sl t.length (fl t)), (1, .sl pipes.length (fl pipes)), (5, .own 5 0 r2895.2.length), (6, .ptr 7 0)] [(0, .dead), (1, .dead), (5, .row 23 (flD dLListInt [6] r2895.2)), ((.s 6 0), .fam (famD dLListInt 0 r2895.2)), (7, .row 26 (Enc.cells r2895.1))] 8 (by kernel_rfl) ?_
    refine wk_id ?_
    refine seq_np ?_
    refine reg_f ?_
    refine rs 2 [] [] (by kernel_rfl) allP_nil ?_
    obtain ⟨r2897, hr2897, h⟩ := bind_sx h
    refine run_call 11 [.sl t.length (fl t), .sl pipes.length (fl pipes)] (some 36) (by kernel_rfl) ?_
    refine call_0 (taskmillref_TraceFault_spec t pipes r2897 hr2897) (by simp only [push_cast, leL_flD, renL_flD, seval]) (by simp only [push_cast, leL_flD, renL_flD, seval]) ?_
    refine back_f ?_
    refine rs 2 [] [] (by kernel_rfl) allP_nil ?_
    refine rf [(0, .sl t.length (fl t)), (5, .own 5 0 r2895.2.length), (6, .ptr 7 0), (7, .ptr 8 0)] [(0, .dead), (1, .dead), (5, .row 23 (flD dLListInt [6] r2895.2)), ((.s 6 0), .fam (famD dLListInt 0 r2895.2)), (7, .row 26 (Enc.cells r2895.1)), (8, .row 26 (Enc.cells r2897))] 9 (by kernel_rfl) ?_
    refine wk_id ?_
    refine seq_np ?_
    refine seq_np ?_
    refine reg_f ?_
    refine rs 3 [] [] (by kernel_rfl) allP_nil ?_
    refine rf [(0, .sl t.length (fl t)), (5, .own 5 0 r2895.2.length), (7, .ptr 8 0), (39, bS (!((r2895.1.Code == r2897.Code) && ((r2895.1.At == r2897.At) && true))))] [(0, .dead), (1, .dead), (5, .row 23 (flD dLListInt [6] r2895.2)), ((.s 6 0), .fam (famD dLListInt 0 r2895.2)), (7, .row 26 (Enc.cells r2895.1)), (8, .row 26 (Enc.cells r2897))] 9 (by kernel_rfl) ?_
    refine wk_id ?_
    refine cond_sx h (by kernel_rfl) (fun g5252 h => ?_) (fun g5252 h => ?_)
    ·refine seq_np ?_
     refine reg_f ?_
     refine rs 1 [] [] (by kernel_rfl) allP_nil ?_
     refine rf [(4, bS false)] [(0, .dead), (1, .dead), (5, .row 23 (flD dLListInt [6] r2895.2)), ((.s 6 0), .fam (famD dLListInt 0 r2895.2)), (7, .row 26 (Enc.cells r2895.1)), (8, .row 26 (Enc.cells r2897))] 9 (by kernel_rfl) ?_
     refine wk_id ?_
     obtain rfl := Option.some.inj h
     refine ret_at (bS false) (by kernel_rfl) ?_
     exact ret_e [] [] (by simp only [push_cast, leL_flD, renL_flD, seval]) (by simp only [push_cast, leL_flD, renL_flD, seval]) rfl rfl rfl
    ·refine wk_id ?_
     refine seq_np ?_
     refine seq_np ?_
     refine reg_f ?_
     refine rs 3 [] [] (by kernel_rfl) allP_nil ?_
     refine rf [(0, .sl t.length (fl t)), (5, .own 5 0 r2895.2.length), (42, bS (r2897.Code != 0))] [(0, .dead), (1, .dead), (5, .row 23 (flD dLListInt [6] r2895.2)), ((.s 6 0), .fam (famD dLListInt 0 r2895.2)), (7, .row 26 (Enc.cells r2895.1)), (8, .row 26 (Enc.cells r2897))] 9 (by kernel_rfl) ?_
     refine wk_id ?_
     refine cond_sx h (by kernel_rfl) (fun g5251 h => ?_) (fun g5251 h => ?_)
     ·refine seq_np ?_
      refine reg_f ?_
      refine rs 4 [] [] (by kernel_rfl) allP_nil ?_
      refine rf [(4, bS (((r2895.2.length : Nat) : Int) == 0))] [(0, .dead), (1, .dead), (5, .row 23 (flD dLListInt [6] r2895.2)), ((.s 6 0), .fam (famD dLListInt 0 r2895.2)), (7, .row 26 (Enc.cells r2895.1)), (8, .row 26 (Enc.cells r2897))] 9 (by kernel_rfl) ?_
      refine wk_id ?_
      obtain rfl := Option.some.inj h
      refine ret_at (bS (((r2895.2.length : Nat) : Int) == 0)) (by kernel_rfl) ?_
      exact ret_e [] [] (by simp only [push_cast, leL_flD, renL_flD, seval]) (by simp only [push_cast, leL_flD, renL_flD, seval]) rfl rfl rfl
     ·refine wk_id ?_
      refine seq_np ?_
      refine reg_f ?_
      refine rs 1 [] [] (by kernel_rfl) allP_nil ?_
      refine rf [(0, .sl t.length (fl t)), (5, .own 5 0 r2895.2.length), (8, iS 0)] [(0, .dead), (1, .dead), (5, .row 23 (flD dLListInt [6] r2895.2)), ((.s 6 0), .fam (famD dLListInt 0 r2895.2)), (7, .row 26 (Enc.cells r2895.1)), (8, .row 26 (Enc.cells r2897))] 9 (by kernel_rfl) ?_
      refine wk_id ?_
      refine seq_np ?_
      refine seq_np ?_
      refine reg_f ?_
      refine rs 1 [] [] (by kernel_rfl) allP_nil ?_
      refine rf [(0, .sl t.length (fl t)), (5, .own 5 0 r2895.2.length), (8, iS 0), (9, iS 0)] [(0, .dead), (1, .dead), (5, .row 23 (flD dLListInt [6] r2895.2)), ((.s 6 0), .fam (famD dLListInt 0 r2895.2)), (7, .row 26 (Enc.cells r2895.1)), (8, .row 26 (Enc.cells r2897))] 9 (by kernel_rfl) ?_
      refine wk_id ?_
      refine block_np ?_
      refine loop_sx (S := Int × Int × (List (List Int))) (fun a => ([(0, .sl t.length (fl t)), (5, .own 0 0 a.2.2.length), (8, iS a.1), (9, iS a.2.1)], [(0, .row 23 (flD dLListInt [1] a.2.2)), ((.s 1 0), .fam (famD dLListInt 0 a.2.2))], 2)) h (leSt_m [(0, 5), ((.s 1 0), (.s 6 0))] [] (by simp only [push_cast, leL_flD, renL_flD, seval]) (by simp only [push_cast, leL_flD, renL_flD, seval]) rfl rfl rfl) ?_
      rintro ⟨cells18, i25, c0q11⟩ o5 R5 h hr5 hn5 hx5 ht5
      try dsimp only at h hn5 ⊢
      unfold taskmilllaw_RaceGuards_l4 at h
      try dsimp only at h
      refine seq_np ?_
      refine seq_np ?_
      refine reg_f ?_
      refine rs 4 [] [] (by kernel_rfl) allP_nil ?_
      refine rf [(0, .sl t.length (fl t)), (5, .own 0 0 c0q11.length), (8, iS cells18), (9, iS i25), (49, bS (decide (i25 < ((t.length : Nat) : Int))))] [(0, .row 23 (flD dLListInt [1] c0q11)), ((.s 1 0), .fam (famD dLListInt 0 c0q11))] 2 (by kernel_rfl) ?_
      refine wk_id ?_
      refine cond_sx h (by kernel_rfl) (fun g5250 h => ?_) (fun g5250 h => ?_)
      ·refine wk_id ?_
       refine seq_np ?_
       refine block_cut (A := Int) (fun a => ([(0, .sl t.length (fl t)), (5, .own 0 0 c0q11.length), (8, iS a), (9, iS i25)], [(0, .row 23 (flD dLListInt [1] c0q11)), ((.s 1 0), .fam (famD dLListInt 0 c0q11))], 2)) (fun a => (taskmilllaw_RaceGuards_j1 t i25 c0q11 a) = some o5) (fun K3041 hK3041 => ?_) ?_
       ·refine chk_sx h (fun g3051 h => ?_)
        refine seq_cut (A := Bool) (fun a => ([(0, .sl t.length (fl t)), (5, .own 0 0 c0q11.length), (8, iS cells18), (9, iS i25), (66, bS a)], [(0, .row 23 (flD dLListInt [1] c0q11)), ((.s 1 0), .fam (famD dLListInt 0 c0q11))], 2)) (fun a => (taskmilllaw_RaceGuards_j2 t cells18 i25 c0q11 a) = some o5) (fun K3049 hK3049 => ?_) ?_
        ·refine reg_f ?_
         have k3050 : 0 ≤ i25 ∧ i25 < ((t.length : Nat) : Int) := by first | simpa only [Bool.and_eq_true, decide_eq_true_eq, bne_iff_ne, ne_eq] using g3051 | (simp at g3051 ⊢; omega)
         refine rs 4 [none, none, some ⟨.iptr (fl t) ((i25).toNat * 4), [], 2, []⟩, some ⟨.agg (Enc.cells (ix t i25)), [], 2, []⟩] _ (by kernel_rfl) (allP_cons (ob_ldw t i25 4 ((i25).toNat * 4) k3050 rfl (by first | rfl | omega) (Enc.cells (ix t i25)) rfl 2 []) (allP_cons (ob_ix_l t 4 2 i25 k3050) allP_nil)) ?_
         obtain ⟨r3052, hr3052, h⟩ := bind_sx h
         refine run_call 28 [.agg (Enc.cells (ix t i25))] (some 56) (by kernel_rfl) ?_
         refine call_0 (taskmillref_Access_spec (ix t i25) r3052 hr3052) (by simp only [push_cast, leL_flD, renL_flD, seval]) (by simp only [push_cast, leL_flD, renL_flD, seval]) ?_
         refine back_f ?_
         refine rs 1 [] [] (by kernel_rfl) allP_nil ?_
         refine run_br h 57 (.inl (by kernel_rfl)) (fun g3053 h => ?_) (fun g3053 h => ?_)
         ·refine chk_sx h (fun g3055 h => ?_)
          have k3054 : 0 ≤ i25 ∧ i25 < ((t.length : Nat) : Int) := by first | simpa only [Bool.and_eq_true, decide_eq_true_eq, bne_iff_ne, ne_eq] using g3055 | (simp at g3055 ⊢; omega)
          refine rs 9 [none, none, some ⟨.iptr (fl t) ((i25).toNat * 4), [], 2, []⟩, none, some ⟨iS (ix t i25).Obj, [], 2, []⟩] _ (by kernel_rfl) (allP_cons (ob_ld t i25 4 2 (((i25).toNat * 4) + 2) k3054 rfl (by decide) (by first | rfl | omega) (dflS Try.prog 3) (iS (ix t i25).Obj) rfl 2 []) (allP_cons (ob_ix_l t 4 2 i25 k3054) allP_nil)) ?_
          refine rf [(0, .sl t.length (fl t)), (5, .own 0 0 c0q11.length), (8, iS cells18), (9, iS i25), (66, bS (decide (cells18 < (IntKind.i64.wrap ((ix t i25).Obj + 1)))))] [(0, .row 23 (flD dLListInt [1] c0q11)), ((.s 1 0), .fam (famD dLListInt 0 c0q11))] 2 (by kernel_rfl) ?_
          exact hK3049 ((decide (cells18 < (IntKind.i64.wrap ((ix t i25).Obj + 1))))) _ _ _ h (leSt_m [(0, 0), ((.s 1 0), (.s 1 0))] [] (by (try simp only [g3053]) <;> simp only [push_cast, leL_flD, renL_flD, seval]) (by (try simp only [g3053]) <;> simp only [push_cast, leL_flD, renL_flD, seval]) rfl rfl rfl)
         ·refine rs 9 [] [] (by kernel_rfl) allP_nil ?_
          refine rf [(0, .sl t.length (fl t)), (5, .own 0 0 c0q11.length), (8, iS cells18), (9, iS i25), (66, bS false)] [(0, .row 23 (flD dLListInt [1] c0q11)), ((.s 1 0), .fam (famD dLListInt 0 c0q11))] 2 (by kernel_rfl) ?_
          exact hK3049 (false) _ _ _ h (leSt_m [(0, 0), ((.s 1 0), (.s 1 0))] [] (by (try simp only [g3053]) <;> simp only [push_cast, leL_flD, renL_flD, seval]) (by (try simp only [g3053]) <;> simp only [push_cast, leL_flD, renL_flD, seval]) rfl rfl rfl)
        ·rintro t66q13 h
         try dsimp only at h ⊢
         unfold taskmilllaw_RaceGuards_j2 at h
         refine cond_sx h (by kernel_rfl) (fun g3060 h => ?_) (fun g3060 h => ?_)
         ·refine chk_sx h (fun g3059 h => ?_)
          refine reg_f ?_
          have k3058 : 0 ≤ i25 ∧ i25 < ((t.length : Nat) : Int) := by first | simpa only [Bool.and_eq_true, decide_eq_true_eq, bne_iff_ne, ne_eq] using g3059 | (simp at g3059 ⊢; omega)
          refine rs 7 [none, none, some ⟨.iptr (fl t) ((i25).toNat * 4), [], 2, []⟩, none, some ⟨iS (ix t i25).Obj, [], 2, []⟩] _ (by kernel_rfl) (allP_cons (ob_ld t i25 4 2 (((i25).toNat * 4) + 2) k3058 rfl (by decide) (by first | rfl | omega) (dflS Try.prog 3) (iS (ix t i25).Obj) rfl 2 []) (allP_cons (ob_ix_l t 4 2 i25 k3058) allP_nil)) ?_
          refine rf [(0, .sl t.length (fl t)), (5, .own 0 0 c0q11.length), (8, iS (IntKind.i64.wrap ((ix t i25).Obj + 1))), (9, iS i25)] [(0, .row 23 (flD dLListInt [1] c0q11)), ((.s 1 0), .fam (famD dLListInt 0 c0q11))] 2 (by kernel_rfl) ?_
          exact hK3041 ((IntKind.i64.wrap ((ix t i25).Obj + 1))) _ _ _ h (leSt_m [(0, 0), ((.s 1 0), (.s 1 0))] [] (by simp only [push_cast, leL_flD, renL_flD, seval]) (by simp only [push_cast, leL_flD, renL_flD, seval]) rfl rfl rfl)
         ·exact hK3041 (cells18) _ _ _ h (leSt_m [(0, 0), ((.s 1 0), (.s 1 0))] [] (by simp only [push_cast, leL_flD, renL_flD, seval]) (by simp only [push_cast, leL_flD, renL_flD, seval]) rfl rfl rfl)
       ·rintro cells20 h
        try dsimp only at h ⊢
        unfold taskmilllaw_RaceGuards_j1 at h
        refine wk_id ?_
        refine reg_f ?_
        refine rs 3 [] [] (by kernel_rfl) allP_nil ?_
        refine rf [(0, .sl t.length (fl t)), (5, .own 0 0 c0q11.length), (8, iS cells20), (9, iS (IntKind.i64.wrap (i25 + 1)))] [(0, .row 23 (flD dLListInt [1] c0q11)), ((.s 1 0), .fam (famD dLListInt 0 c0q11))] 2 (by kernel_rfl) ?_
        exact hn5 (cells20, (IntKind.i64.wrap (i25 + 1)), c0q11) _ _ _ (Option.some.inj h).symm (leSt_m [(0, 0), ((.s 1 0), (.s 1 0))] [] (by simp only [push_cast, leL_flD, renL_flD, seval]) (by simp only [push_cast, leL_flD, renL_flD, seval]) rfl rfl rfl)
      ·change R5 (.exit 0) _ _ _
       refine ex_cast hx5 (id := 0) ?_
       obtain ⟨r0, h, e0⟩ := map_sx h
       have e1 := hr5 r0 e0.symm
       subst r0
       refine wk_id ?_
       refine wk_id ?_
       refine seq_np ?_
       refine seq_np ?_
       refine reg_f ?_
       refine rs 4 [] [] (by kernel_rfl) allP_nil ?_
       refine rf [(0, .sl t.length (fl t)), (5, .own 0 0 c0q11.length), (8, iS cells18), (76, bS (((c0q11.length : Nat) : Int) != cells18))] [(0, .row 23 (flD dLListInt [1] c0q11)), ((.s 1 0), .fam (famD dLListInt 0 c0q11))] 2 (by kernel_rfl) ?_
       refine wk_id ?_
       refine cond_sx h (by kernel_rfl) (fun g5249 h => ?_) (fun g5249 h => ?_)
       ·refine seq_np ?_
        refine reg_f ?_
        refine rs 1 [] [] (by kernel_rfl) allP_nil ?_
        refine rf [(4, bS false)] [(0, .row 23 (flD dLListInt [1] c0q11)), ((.s 1 0), .fam (famD dLListInt 0 c0q11))] 2 (by kernel_rfl) ?_
        refine wk_id ?_
        obtain rfl := Option.some.inj h
        refine ret_at (bS false) (by kernel_rfl) ?_
        exact ret_e [] [] (by simp only [push_cast, leL_flD, renL_flD, seval]) (by simp only [push_cast, leL_flD, renL_flD, seval]) rfl rfl rfl
       ·refine wk_id ?_
        refine seq_np ?_
        refine seq_np ?_
        refine reg_f ?_
        refine rs 1 [] [] (by kernel_rfl) allP_nil ?_
        refine rf [(0, .sl t.length (fl t)), (5, .own 0 0 c0q11.length), (8, iS cells18), (10, iS 0)] [(0, .row 23 (flD dLListInt [1] c0q11)), ((.s 1 0), .fam (famD dLListInt 0 c0q11))] 2 (by kernel_rfl) ?_
        refine wk_id ?_
        refine block_np ?_
        refine loop_sx (S := Int) (fun a => ([(0, .sl t.length (fl t)), (5, .own 0 0 c0q11.length), (8, iS cells18), (10, iS a)], [(0, .row 23 (flD dLListInt [1] c0q11)), ((.s 1 0), .fam (famD dLListInt 0 c0q11))], 2)) h (leSt_m [(0, 0), ((.s 1 0), (.s 1 0))] [] (by simp only [push_cast, leL_flD, renL_flD, seval]) (by simp only [push_cast, leL_flD, renL_flD, seval]) rfl rfl rfl) ?_
        rintro c7 o6 R6 h hr6 hn6 hx6 ht6
        try dsimp only at h hn6 ⊢
        unfold taskmilllaw_RaceGuards_l3 at h
        try dsimp only at h
        refine seq_np ?_
        refine seq_np ?_
        refine reg_f ?_
        refine rs 3 [] [] (by kernel_rfl) allP_nil ?_
        refine rf [(0, .sl t.length (fl t)), (5, .own 0 0 c0q11.length), (8, iS cells18), (10, iS c7), (79, bS (decide (c7 < cells18)))] [(0, .row 23 (flD dLListInt [1] c0q11)), ((.s 1 0), .fam (famD dLListInt 0 c0q11))] 2 (by kernel_rfl) ?_
        refine wk_id ?_
        refine cond_sx h (by kernel_rfl) (fun g5248 h => ?_) (fun g5248 h => ?_)
        ·refine wk_id ?_
         refine seq_np ?_
         refine block_np ?_
         refine seq_np ?_
         refine reg_f ?_
         refine rs 1 [] [] (by kernel_rfl) allP_nil ?_
         refine rf [(0, .sl t.length (fl t)), (5, .own 0 0 c0q11.length), (8, iS cells18), (10, iS c7), (11, .v (.slice none 0 0))] [(0, .row 23 (flD dLListInt [1] c0q11)), ((.s 1 0), .fam (famD dLListInt 0 c0q11))] 2 (by kernel_rfl) ?_
         refine wk_id ?_
         refine seq_np ?_
         refine seq_np ?_
         refine reg_f ?_
         refine rs 1 [] [] (by kernel_rfl) allP_nil ?_
         refine rf [(0, .sl t.length (fl t)), (5, .own 0 0 c0q11.length), (8, iS cells18), (10, iS c7), (11, .v (.slice none 0 0)), (12, iS 0)] [(0, .row 23 (flD dLListInt [1] c0q11)), ((.s 1 0), .fam (famD dLListInt 0 c0q11))] 2 (by kernel_rfl) ?_
         refine wk_id ?_
         refine block_np ?_
         refine loop_sx (S := Int × (List Int)) (fun a => ([(0, .sl t.length (fl t)), (5, .own 0 0 c0q11.length), (8, iS cells18), (10, iS c7), (11, .own 1 0 a.2.length), (12, iS a.1)], [(0, .row 23 (flD dLListInt [2] c0q11)), (1, .row 3 (fl a.2)), ((.s 2 0), .fam (famD dLListInt 0 c0q11))], 3)) h (leSt_m [(0, 0), ((.s 2 0), (.s 1 0))] [] (by simp only [push_cast, leL_flD, renL_flD, seval]) (by simp only [push_cast, leL_flD, renL_flD, seval]) rfl rfl rfl) ?_
         rintro ⟨lock31, c1q78⟩ o7 R7 h hr7 hn7 hx7 ht7
         try dsimp only at h hn7 ⊢
         unfold taskmilllaw_RaceGuards_l2 at h
         try dsimp only at h
         refine seq_np ?_
         refine seq_np ?_
         refine reg_f ?_
         refine rs 2 [] [] (by kernel_rfl) allP_nil ?_
         refine rf [(0, .sl t.length (fl t)), (5, .own 0 0 c0q11.length), (8, iS cells18), (10, iS c7), (11, .own 1 0 c1q78.length), (12, iS lock31), (83, bS (decide (lock31 ≤ 20)))] [(0, .row 23 (flD dLListInt [2] c0q11)), (1, .row 3 (fl c1q78)), ((.s 2 0), .fam (famD dLListInt 0 c0q11))] 3 (by kernel_rfl) ?_
         refine wk_id ?_
         refine cond_sx h (by kernel_rfl) (fun g5247 h => ?_) (fun g5247 h => ?_)
         ·refine wk_id ?_
          refine seq_np ?_
          refine block_cut (A := (List Int)) (fun a => ([(0, .sl t.length (fl t)), (5, .own 0 0 c0q11.length), (8, iS cells18), (10, iS c7), (11, .own 1 0 a.length), (12, iS lock31)], [(0, .row 23 (flD dLListInt [2] c0q11)), (1, .row 3 (fl a)), ((.s 2 0), .fam (famD dLListInt 0 c0q11))], 3)) (fun a => (taskmilllaw_RaceGuards_j3 t cells18 c0q11 c7 lock31 a) = some o7) (fun K5072 hK5072 => ?_) ?_
          ·refine seq_np ?_
           refine reg_f ?_
           refine rs 2 [] [] (by kernel_rfl) allP_nil ?_
           refine rf [(0, .sl t.length (fl t)), (5, .own 0 0 c0q11.length), (8, iS cells18), (10, iS c7), (11, .own 1 0 c1q78.length), (12, iS lock31), (13, bS true), (14, bS false)] [(0, .row 23 (flD dLListInt [2] c0q11)), (1, .row 3 (fl c1q78)), ((.s 2 0), .fam (famD dLListInt 0 c0q11))] 3 (by kernel_rfl) ?_
           refine wk_id ?_
           refine seq_np ?_
           refine seq_np ?_
           refine reg_f ?_
           refine rs 1 [] [] (by kernel_rfl) allP_nil ?_
           refine rf [(0, .sl t.length (fl t)), (5, .own 0 0 c0q11.length), (8, iS cells18), (10, iS c7), (11, .own 1 0 c1q78.length), (12, iS lock31), (13, bS true), (14, bS false), (15, iS 0)] [(0, .row 23 (flD dLListInt [2] c0q11)), (1, .row 3 (fl c1q78)), ((.s 2 0), .fam (famD dLListInt 0 c0q11))] 3 (by kernel_rfl) ?_
           refine wk_id ?_
           refine block_np ?_
           refine loop_sx (S := Bool × Bool × Int) (fun a => ([(0, .sl t.length (fl t)), (5, .own 0 0 c0q11.length), (8, iS cells18), (10, iS c7), (11, .own 1 0 c1q78.length), (12, iS lock31), (13, bS a.1), (14, bS a.2.1), (15, iS a.2.2)], [(0, .row 23 (flD dLListInt [2] c0q11)), (1, .row 3 (fl c1q78)), ((.s 2 0), .fam (famD dLListInt 0 c0q11))], 3)) h (leSt_m [(0, 0), (1, 1), ((.s 2 0), (.s 2 0))] [] (by simp only [push_cast, leL_flD, renL_flD, seval]) (by simp only [push_cast, leL_flD, renL_flD, seval]) rfl rfl rfl) ?_
           rintro ⟨all258, xsome258, i111⟩ o8 R8 h hr8 hn8 hx8 ht8
           try dsimp only at h hn8 ⊢
           unfold taskmilllaw_RaceGuards_l1 at h
           try dsimp only at h
           refine seq_np ?_
           refine seq_np ?_
           refine reg_f ?_
           refine rs 4 [] [] (by kernel_rfl) allP_nil ?_
           refine rf [(0, .sl t.length (fl t)), (5, .own 0 0 c0q11.length), (8, iS cells18), (10, iS c7), (11, .own 1 0 c1q78.length), (12, iS lock31), (13, bS all258), (14, bS xsome258), (15, iS i111), (89, bS (decide (i111 < ((t.length : Nat) : Int))))] [(0, .row 23 (flD dLListInt [2] c0q11)), (1, .row 3 (fl c1q78)), ((.s 2 0), .fam (famD dLListInt 0 c0q11))] 3 (by kernel_rfl) ?_
           refine wk_id ?_
           refine cond_sx h (by kernel_rfl) (fun g5239 h => ?_) (fun g5239 h => ?_)
           ·refine wk_id ?_
            refine seq_np ?_
            refine block_cut (A := Bool × Bool) (fun a => ([(0, .sl t.length (fl t)), (5, .own 0 0 c0q11.length), (8, iS cells18), (10, iS c7), (11, .own 1 0 c1q78.length), (12, iS lock31), (13, bS a.1), (14, bS a.2), (15, iS i111)], [(0, .row 23 (flD dLListInt [2] c0q11)), (1, .row 3 (fl c1q78)), ((.s 2 0), .fam (famD dLListInt 0 c0q11))], 3)) (fun a => (taskmilllaw_RaceGuards_j4 t cells18 c0q11 c7 lock31 c1q78 i111 a.1 a.2) = some o8) (fun K5211 hK5211 => ?_) ?_
            ·refine chk_sx h (fun g5221 h => ?_)
             refine seq_cut (A := Bool) (fun a => ([(0, .sl t.length (fl t)), (5, .own 0 0 c0q11.length), (8, iS cells18), (10, iS c7), (11, .own 1 0 c1q78.length), (12, iS lock31), (13, bS all258), (14, bS xsome258), (15, iS i111), (105, bS a)], [(0, .row 23 (flD dLListInt [2] c0q11)), (1, .row 3 (fl c1q78)), ((.s 2 0), .fam (famD dLListInt 0 c0q11))], 3)) (fun a => (taskmilllaw_RaceGuards_j5 t cells18 c0q11 c7 lock31 c1q78 all258 xsome258 i111 a) = some o8) (fun K5219 hK5219 => ?_) ?_
             ·refine reg_f ?_
              have k5220 : 0 ≤ i111 ∧ i111 < ((t.length : Nat) : Int) := by first | simpa only [Bool.and_eq_true, decide_eq_true_eq, bne_iff_ne, ne_eq] using g5221 | (simp at g5221 ⊢; omega)
              refine rs 4 [none, none, some ⟨.iptr (fl t) ((i111).toNat * 4), [], 3, []⟩, some ⟨.agg (Enc.cells (ix t i111)), [], 3, []⟩] _ (by kernel_rfl) (allP_cons (ob_ldw t i111 4 ((i111).toNat * 4) k5220 rfl (by first | rfl | omega) (Enc.cells (ix t i111)) rfl 3 []) (allP_cons (ob_ix_l t 4 3 i111 k5220) allP_nil)) ?_
              obtain ⟨r5222, hr5222, h⟩ := bind_sx h
              refine run_call 28 [.agg (Enc.cells (ix t i111))] (some 96) (by kernel_rfl) ?_
              refine call_0 (taskmillref_Access_spec (ix t i111) r5222 hr5222) (by simp only [push_cast, leL_flD, renL_flD, seval]) (by simp only [push_cast, leL_flD, renL_flD, seval]) ?_
              refine back_f ?_
              refine rs 1 [] [] (by kernel_rfl) allP_nil ?_
              refine run_br h 97 (.inl (by kernel_rfl)) (fun g5223 h => ?_) (fun g5223 h => ?_)
              ·refine chk_sx h (fun g5225 h => ?_)
               have k5224 : 0 ≤ i111 ∧ i111 < ((t.length : Nat) : Int) := by first | simpa only [Bool.and_eq_true, decide_eq_true_eq, bne_iff_ne, ne_eq] using g5225 | (simp at g5225 ⊢; omega)
               refine rs 8 [none, none, some ⟨.iptr (fl t) ((i111).toNat * 4), [], 3, []⟩, none, some ⟨iS (ix t i111).Obj, [], 3, []⟩] _ (by kernel_rfl) (allP_cons (ob_ld t i111 4 2 (((i111).toNat * 4) + 2) k5224 rfl (by decide) (by first | rfl | omega) (dflS Try.prog 3) (iS (ix t i111).Obj) rfl 3 []) (allP_cons (ob_ix_l t 4 3 i111 k5224) allP_nil)) ?_
               refine rf [(0, .sl t.length (fl t)), (5, .own 0 0 c0q11.length), (8, iS cells18), (10, iS c7), (11, .own 1 0 c1q78.length), (12, iS lock31), (13, bS all258), (14, bS xsome258), (15, iS i111), (105, bS ((ix t i111).Obj == c7))] [(0, .row 23 (flD dLListInt [2] c0q11)), (1, .row 3 (fl c1q78)), ((.s 2 0), .fam (famD dLListInt 0 c0q11))] 3 (by kernel_rfl) ?_
               exact hK5219 (((ix t i111).Obj == c7)) _ _ _ h (leSt_m [(0, 0), (1, 1), ((.s 2 0), (.s 2 0))] [] (by (try simp only [g5223]) <;> simp only [push_cast, leL_flD, renL_flD, seval]) (by (try simp only [g5223]) <;> simp only [push_cast, leL_flD, renL_flD, seval]) rfl rfl rfl)
              ·refine rs 8 [] [] (by kernel_rfl) allP_nil ?_
               refine rf [(0, .sl t.length (fl t)), (5, .own 0 0 c0q11.length), (8, iS cells18), (10, iS c7), (11, .own 1 0 c1q78.length), (12, iS lock31), (13, bS all258), (14, bS xsome258), (15, iS i111), (105, bS false)] [(0, .row 23 (flD dLListInt [2] c0q11)), (1, .row 3 (fl c1q78)), ((.s 2 0), .fam (famD dLListInt 0 c0q11))] 3 (by kernel_rfl) ?_
               exact hK5219 (false) _ _ _ h (leSt_m [(0, 0), (1, 1), ((.s 2 0), (.s 2 0))] [] (by (try simp only [g5223]) <;> simp only [push_cast, leL_flD, renL_flD, seval]) (by (try simp only [g5223]) <;> simp only [push_cast, leL_flD, renL_flD, seval]) rfl rfl rfl)
             ·rintro t105q157 h
              try dsimp only at h ⊢
              unfold taskmilllaw_RaceGuards_j5 at h
              refine cond_sx h (by kernel_rfl) (fun g5230 h => ?_) (fun g5230 h => ?_)
              ·refine seq_np ?_
               refine reg_f ?_
               refine rs 1 [] [] (by kernel_rfl) allP_nil ?_
               refine rf [(0, .sl t.length (fl t)), (5, .own 0 0 c0q11.length), (8, iS cells18), (10, iS c7), (11, .own 1 0 c1q78.length), (12, iS lock31), (13, bS all258), (14, bS true), (15, iS i111)] [(0, .row 23 (flD dLListInt [2] c0q11)), (1, .row 3 (fl c1q78)), ((.s 2 0), .fam (famD dLListInt 0 c0q11))] 3 (by kernel_rfl) ?_
               refine wk_id ?_
               refine reg_f ?_
               refine rs 2 [] [] (by kernel_rfl) allP_nil ?_
               refine run_br h 107 (.inl (by kernel_rfl)) (fun g5228 h => ?_) (fun g5228 h => ?_)
               ·refine rs 3 [] [] (by kernel_rfl) allP_nil ?_
                obtain ⟨r5229, hr5229, h⟩ := bind_sx h
                refine run_call 30 [.sl t.length (fl t), iS i111, iS lock31] (some 111) (by kernel_rfl) ?_
                refine call_0 (taskmillref_Holds_spec t i111 lock31 r5229 hr5229) (by simp only [push_cast, leL_flD, renL_flD, seval]) (by simp only [push_cast, leL_flD, renL_flD, seval]) ?_
                refine back_f ?_
                refine rs 3 [] [] (by kernel_rfl) allP_nil ?_
                refine rf [(0, .sl t.length (fl t)), (5, .own 0 0 c0q11.length), (8, iS cells18), (10, iS c7), (11, .own 1 0 c1q78.length), (12, iS lock31), (13, bS (decide ((0 : Int) < r5229))), (14, bS true), (15, iS i111)] [(0, .row 23 (flD dLListInt [2] c0q11)), (1, .row 3 (fl c1q78)), ((.s 2 0), .fam (famD dLListInt 0 c0q11))] 3 (by kernel_rfl) ?_
                exact hK5211 ((decide ((0 : Int) < r5229)), true) _ _ _ h (leSt_m [(0, 0), (1, 1), ((.s 2 0), (.s 2 0))] [] (by (try simp only [g5228]) <;> simp only [push_cast, leL_flD, renL_flD, seval]) (by (try simp only [g5228]) <;> simp only [push_cast, leL_flD, renL_flD, seval]) rfl rfl rfl)
               ·refine rs 7 [] [] (by kernel_rfl) allP_nil ?_
                refine rf [(0, .sl t.length (fl t)), (5, .own 0 0 c0q11.length), (8, iS cells18), (10, iS c7), (11, .own 1 0 c1q78.length), (12, iS lock31), (13, bS false), (14, bS true), (15, iS i111)] [(0, .row 23 (flD dLListInt [2] c0q11)), (1, .row 3 (fl c1q78)), ((.s 2 0), .fam (famD dLListInt 0 c0q11))] 3 (by kernel_rfl) ?_
                exact hK5211 (false, true) _ _ _ h (leSt_m [(0, 0), (1, 1), ((.s 2 0), (.s 2 0))] [] (by (try simp only [g5228]) <;> simp only [push_cast, leL_flD, renL_flD, seval]) (by (try simp only [g5228]) <;> simp only [push_cast, leL_flD, renL_flD, seval]) rfl rfl rfl)
              ·exact hK5211 (all258, xsome258) _ _ _ h (leSt_m [(0, 0), (1, 1), ((.s 2 0), (.s 2 0))] [] (by simp only [push_cast, leL_flD, renL_flD, seval]) (by simp only [push_cast, leL_flD, renL_flD, seval]) rfl rfl rfl)
            ·rintro ⟨all260, xsome260⟩ h
             try dsimp only at h ⊢
             unfold taskmilllaw_RaceGuards_j4 at h
             refine wk_id ?_
             refine reg_f ?_
             refine rs 3 [] [] (by kernel_rfl) allP_nil ?_
             refine rf [(0, .sl t.length (fl t)), (5, .own 0 0 c0q11.length), (8, iS cells18), (10, iS c7), (11, .own 1 0 c1q78.length), (12, iS lock31), (13, bS all260), (14, bS xsome260), (15, iS (IntKind.i64.wrap (i111 + 1)))] [(0, .row 23 (flD dLListInt [2] c0q11)), (1, .row 3 (fl c1q78)), ((.s 2 0), .fam (famD dLListInt 0 c0q11))] 3 (by kernel_rfl) ?_
             exact hn8 (all260, xsome260, (IntKind.i64.wrap (i111 + 1))) _ _ _ (Option.some.inj h).symm (leSt_m [(0, 0), (1, 1), ((.s 2 0), (.s 2 0))] [] (by simp only [push_cast, leL_flD, renL_flD, seval]) (by simp only [push_cast, leL_flD, renL_flD, seval]) rfl rfl rfl)
           ·change R8 (.exit 6) _ _ _
            refine ex_cast hx8 (id := 6) ?_
            obtain ⟨r0, h, e0⟩ := map_sx h
            have e1 := hr8 r0 e0.symm
            subst r0
            refine wk_id ?_
            refine wk_id ?_
            refine seq_cut (A := Unit) (fun _ => ([(0, .sl t.length (fl t)), (5, .own 0 0 c0q11.length), (8, iS cells18), (10, iS c7), (11, .own 1 0 c1q78.length), (12, iS lock31), (117, bS (all258 && xsome258))], [(0, .row 23 (flD dLListInt [2] c0q11)), (1, .row 3 (fl c1q78)), ((.s 2 0), .fam (famD dLListInt 0 c0q11))], 3)) (fun _ => True) (fun K5232 hK5232 => ?_) (fun _ _ => ?_)
            ·refine reg_f ?_
             refine rs 2 [] [] (by kernel_rfl) allP_nil ?_
             refine run_split 115 all258 (.inl (by kernel_rfl)) (fun g5233 => ?_) (fun g5233 => ?_)
             ·refine rs 2 [] [] (by kernel_rfl) allP_nil ?_
              refine rf [(0, .sl t.length (fl t)), (5, .own 0 0 c0q11.length), (8, iS cells18), (10, iS c7), (11, .own 1 0 c1q78.length), (12, iS lock31), (117, bS xsome258)] [(0, .row 23 (flD dLListInt [2] c0q11)), (1, .row 3 (fl c1q78)), ((.s 2 0), .fam (famD dLListInt 0 c0q11))] 3 (by kernel_rfl) ?_
              exact hK5232 () _ _ _ trivial (leSt_m [(0, 0), (1, 1), ((.s 2 0), (.s 2 0))] [] (by (try simp only [g5233]) <;> simp only [push_cast, leL_flD, renL_flD, seval]) (by (try simp only [g5233]) <;> simp only [push_cast, leL_flD, renL_flD, seval]) rfl rfl rfl)
             ·refine rs 2 [] [] (by kernel_rfl) allP_nil ?_
              refine rf [(0, .sl t.length (fl t)), (5, .own 0 0 c0q11.length), (8, iS cells18), (10, iS c7), (11, .own 1 0 c1q78.length), (12, iS lock31), (117, bS false)] [(0, .row 23 (flD dLListInt [2] c0q11)), (1, .row 3 (fl c1q78)), ((.s 2 0), .fam (famD dLListInt 0 c0q11))] 3 (by kernel_rfl) ?_
              exact hK5232 () _ _ _ trivial (leSt_m [(0, 0), (1, 1), ((.s 2 0), (.s 2 0))] [] (by (try simp only [g5233]) <;> simp only [push_cast, leL_flD, renL_flD, seval]) (by (try simp only [g5233]) <;> simp only [push_cast, leL_flD, renL_flD, seval]) rfl rfl rfl)
            ·dsimp only
             refine cond_sx h (by kernel_rfl) (fun g5238 h => ?_) (fun g5238 h => ?_)
             ·refine chk_sx h (fun g5237 h => ?_)
              refine reg_f ?_
              have k5236 : (c1q78 ++ ([lock31] : List Int)).length * 8 ≤ 140737488355328 := by first | simpa only [Bool.and_eq_true, decide_eq_true_eq, bne_iff_ne, ne_eq] using g5237 | (simp at g5237 ⊢; omega)
              refine rs 5 [none, none, none, some ⟨.own 4 0 (c1q78 ++ ([lock31] : List Int)).length, [(4, .row 3 (fl (c1q78 ++ ([lock31] : List Int)))), (1, .dead)], 5, [1, 3]⟩] _ (by kernel_rfl) (allP_cons (ob_app (P := Try.prog) c1q78 ([lock31] : List Int) 1 8 rfl (appCells (fl ([lock31] : List Int)) 0 (([lock31] : List Int).length * 1)) ([lock31] : List Int).length (app_own ([lock31] : List Int) 1 rfl) rfl (0 + ([lock31] : List Int).length * 1 ≤ (fl ([lock31] : List Int)).length) (app_own_le ([lock31] : List Int) 1 rfl) 3 (by kernel_rfl) (by decide) k5236 1 4 [3]) allP_nil) ?_
              refine rf [(0, .sl t.length (fl t)), (5, .own 0 0 c0q11.length), (8, iS cells18), (10, iS c7), (11, .own 4 0 (c1q78 ++ ([lock31] : List Int)).length), (12, iS lock31)] [(0, .row 23 (flD dLListInt [2] c0q11)), (1, .dead), ((.s 2 0), .fam (famD dLListInt 0 c0q11)), (3, .row 3 (fl ([lock31] : List Int))), (4, .row 3 (fl (c1q78 ++ ([lock31] : List Int))))] 5 (by kernel_rfl) ?_
              exact hK5072 ((c1q78 ++ ([lock31] : List Int))) _ _ _ h (leSt_m [(0, 0), (1, 4), ((.s 2 0), (.s 2 0))] [] (by simp only [push_cast, leL_flD, renL_flD, seval]) (by simp only [push_cast, leL_flD, renL_flD, seval]) rfl rfl rfl)
             ·exact hK5072 (c1q78) _ _ _ h (leSt_m [(0, 0), (1, 1), ((.s 2 0), (.s 2 0))] [] (by simp only [push_cast, leL_flD, renL_flD, seval]) (by simp only [push_cast, leL_flD, renL_flD, seval]) rfl rfl rfl)
          ·rintro c1q80 h
           try dsimp only at h ⊢
           unfold taskmilllaw_RaceGuards_j3 at h
           refine wk_id ?_
           refine reg_f ?_
           refine rs 3 [] [] (by kernel_rfl) allP_nil ?_
           refine rf [(0, .sl t.length (fl t)), (5, .own 0 0 c0q11.length), (8, iS cells18), (10, iS c7), (11, .own 1 0 c1q80.length), (12, iS (IntKind.i64.wrap (lock31 + 1)))] [(0, .row 23 (flD dLListInt [2] c0q11)), (1, .row 3 (fl c1q80)), ((.s 2 0), .fam (famD dLListInt 0 c0q11))] 3 (by kernel_rfl) ?_
           exact hn7 ((IntKind.i64.wrap (lock31 + 1)), c1q80) _ _ _ (Option.some.inj h).symm (leSt_m [(0, 0), (1, 1), ((.s 2 0), (.s 2 0))] [] (by simp only [push_cast, leL_flD, renL_flD, seval]) (by simp only [push_cast, leL_flD, renL_flD, seval]) rfl rfl rfl)
         ·change R7 (.exit 4) _ _ _
          refine ex_cast hx7 (id := 4) ?_
          obtain ⟨r0, h, e0⟩ := map_sx h
          have e1 := hr7 r0 e0.symm
          subst r0
          refine wk_id ?_
          refine wk_id ?_
          refine chk_sx h (fun g5244 h => ?_)
          refine seq_np ?_
          refine reg_f ?_
          have k5243 : 0 ≤ c7 ∧ c7 < ((c0q11.length : Nat) : Int) := by first | simpa only [Bool.and_eq_true, decide_eq_true_eq, bne_iff_ne, ne_eq] using g5244 | (simp at g5244 ⊢; omega)
          refine rs 5 [none, none, some ⟨.ptr 0 (0 + (c7).toNat * 1), [], 3, [0]⟩, some ⟨.own (.s 2 c7) 0 (ixD c0q11 c7).length, [], 3, [0]⟩] _ (by kernel_rfl) (allP_cons (ob_ldD dLListInt [2] c0q11 c7 1 0 (0 + (c7).toNat * 1) k5243 rfl (by decide) (by first | rfl | omega) (dflS Try.prog 23) (.own (.s 2 c7) 0 (ixD c0q11 c7).length) rfl 3 [0]) (allP_cons (ob_ix_o 0 c0q11.length 0 1 3 c7 k5243) allP_nil)) ?_
          obtain ⟨r5245, hr5245, h⟩ := bind_sx h
          refine call_x (taskmillref_Ints_spec (ixD c0q11 c7) c1q78 r5245 hr5245) (args := [.own (.s 2 c7) 0 (ixD c0q11 c7).length, .own 1 0 c1q78.length]) (dst := (some 127)) (by kernel_rfl) [(0, .row 23 (flD dLListInt [2] c0q11)), (1, .row 3 (fl c1q78)), ((.s 2 0), .fam (famD dLListInt 0 c0q11))] 3 (by kernel_rfl) [] [1, (.s 2 0)] (bS r5245) [] (by simp only [push_cast, leL_flD, renL_flD, seval]) (by simp only [push_cast, leL_flD, renL_flD, seval]) (by kernel_rfl) (.inr ⟨by simp only [push_cast, leL_flD, renL_flD, seval], by simp only [push_cast, leL_flD, renL_flD, seval]⟩) (by simp only [push_cast, leL_flD, renL_flD, seval]) (by simp only [push_cast, leL_flD, renL_flD, seval]) ?_
          refine rs 1 [] [] (by kernel_rfl) allP_nil ?_
          refine rf [(0, .sl t.length (fl t)), (5, .own 0 0 c0q11.length), (8, iS cells18), (10, iS c7), (128, bS (!r5245))] [(0, .row 23 (flD dLListInt [2] c0q11)), (1, .row 3 (fl c1q78)), ((.s 2 0), .fam (famD dLListInt 0 c0q11))] 3 (by kernel_rfl) ?_
          refine wk_id ?_
          refine cond_sx h (by kernel_rfl) (fun g5246 h => ?_) (fun g5246 h => ?_)
          ·refine seq_np ?_
           refine reg_f ?_
           refine rs 1 [] [] (by kernel_rfl) allP_nil ?_
           refine rf [(4, bS false)] [(0, .row 23 (flD dLListInt [2] c0q11)), (1, .row 3 (fl c1q78)), ((.s 2 0), .fam (famD dLListInt 0 c0q11))] 3 (by kernel_rfl) ?_
           refine wk_id ?_
           refine rt_cast ht6 ?_
           obtain ⟨r0, h, e0⟩ := map_sx h
           have e1 := hr6 r0 e0.symm
           subst r0
           obtain rfl := Option.some.inj h
           refine ret_at (bS false) (by kernel_rfl) ?_
           exact ret_e [] [] (by simp only [push_cast, leL_flD, renL_flD, seval]) (by simp only [push_cast, leL_flD, renL_flD, seval]) rfl rfl rfl
          ·refine wk_id ?_
           refine wk_id ?_
           refine reg_f ?_
           refine rs 3 [] [] (by kernel_rfl) allP_nil ?_
           refine rf [(0, .sl t.length (fl t)), (5, .own 0 0 c0q11.length), (8, iS cells18), (10, iS (IntKind.i64.wrap (c7 + 1)))] [(0, .row 23 (flD dLListInt [2] c0q11)), (1, .row 3 (fl c1q78)), ((.s 2 0), .fam (famD dLListInt 0 c0q11))] 3 (by kernel_rfl) ?_
           exact hn6 ((IntKind.i64.wrap (c7 + 1))) _ _ _ (Option.some.inj h).symm (leSt_m [(0, 0), ((.s 1 0), (.s 2 0))] [] (by simp only [push_cast, leL_flD, renL_flD, seval]) (by simp only [push_cast, leL_flD, renL_flD, seval]) rfl rfl rfl)
        ·change R6 (.exit 2) _ _ _
         refine ex_cast hx6 (id := 2) ?_
         obtain ⟨r0, h, e0⟩ := map_sx h
         have e1 := hr6 r0 e0.symm
         subst r0
         refine wk_id ?_
         refine wk_id ?_
         refine seq_np ?_
         refine reg_f ?_
         refine rs 1 [] [] (by kernel_rfl) allP_nil ?_
         refine rf [(4, bS true)] [(0, .row 23 (flD dLListInt [1] c0q11)), ((.s 1 0), .fam (famD dLListInt 0 c0q11))] 2 (by kernel_rfl) ?_
         refine wk_id ?_
         obtain rfl := Option.some.inj h
         refine ret_at (bS true) (by kernel_rfl) ?_
         exact ret_e [] [] (by simp only [push_cast, leL_flD, renL_flD, seval]) (by simp only [push_cast, leL_flD, renL_flD, seval]) rfl rfl rfl

end Go.Proofs.Ytelegonboeacaaa
