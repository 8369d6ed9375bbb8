/-
  What laws of the chapter utfd compute, and lemmas on it.
  No conditions.
-/
import Derived.Test.YtbnhbaehapalnaaDoorProg
import Derived.Test.YtbnhbaehapalnaaDoorutfdG
set_option linter.unusedSimpArgs false
set_option linter.unusedVariables false
namespace Go.Proofs.YtbnhbaehapalnaaDoor
open Go Go.Sx
attribute [local irreducible] Wk RunAt
theorem follows : Tryd.prog.follows .mixedOrders = true := by kernel_rfl
set_option maxRecDepth 100000 in
set_option maxHeartbeats 200000000 in
theorem utf_fault_spec (code : Int) (xat : Int) (r : Fault) (h : utf_fault code xat = some r) : SpecW Tryd.prog 15 [iS code, iS xat] [] 0 (fun x h n => x = .agg (Enc.cells r) ∧ h = [] ∧ n = 0) := by
  unfold utf_fault at h
  refine spec_of (draw_ok _) Tryd.func15 rfl (by decide) rfl (by kernel_rfl) ?_
  refine seq_np ?_
  refine reg_f ?_
  refine rs 1 [] [] (by kernel_rfl) allP_nil ?_
  refine rf [(0, iS code), (1, iS xat), (4, .ptr 0 0)] [(0, .row 25 [iS 0, iS 0])] 1 (by kernel_rfl) ?_
  refine wk_id ?_
  refine seq_np ?_
  refine reg_f ?_
  refine rs 4 [] [] (by kernel_rfl) allP_nil ?_
  refine rf [(4, .ptr 0 0)] [(0, .row 25 [iS code, iS xat])] 1 (by kernel_rfl) ?_
  refine wk_id ?_
  obtain rfl := Option.some.inj h
  refine ret_at (.agg [iS code, iS xat]) (by kernel_rfl) ?_
  exact ret_e [] [] (by simp only [push_cast, seval]) (by simp only [push_cast, seval]) rfl rfl rfl

set_option maxRecDepth 100000 in
set_option maxHeartbeats 200000000 in
theorem utf_Range_spec (text : ByteArray) (r : Fault × (List S35)) (h : utf_Range text = some r) : SpecW Tryd.prog 7 [.v (.string text)] [] 0 (fun x h n => x = .tup [.own 0 0 r.2.length, .agg (Enc.cells r.1)] ∧ h = [(0, .row 35 (fl r.2))] ∧ n = 1) := by
  unfold utf_Range at h
  refine spec_of (draw_ok _) Tryd.func7 rfl (by decide) rfl (by kernel_rfl) ?_
  refine seq_np ?_
  refine reg_f ?_
  refine rs 2 [] [] (by kernel_rfl) allP_nil ?_
  refine rf [(0, .v (.string text)), (3, .ptr 0 0)] [(0, .row 25 [iS 0, iS 0])] 1 (by kernel_rfl) ?_
  refine wk_id ?_
  refine seq_np ?_
  refine seq_np ?_
  refine reg_f ?_
  refine rs 3 [] [] (by kernel_rfl) allP_nil ?_
  refine rf [(0, .v (.string text)), (3, .ptr 0 0), (9, bS (decide ((20000 : Int) < (((text).size : Nat) : Int))))] [(0, .row 25 [iS 0, iS 0])] 1 (by kernel_rfl) ?_
  refine wk_id ?_
  refine cond_sx h (by kernel_rfl) (fun g49 h => ?_) (fun g49 h => ?_)
  · refine seq_np ?_
    refine reg_f ?_
    obtain ⟨r16, hr16, h⟩ := bind_sx h
    refine run_call 15 [iS 2, iS 0] (some 10) (by kernel_rfl) ?_
    refine call_0 (utf_fault_spec 2 0 r16 hr16) (by simp only [push_cast, seval]) (by simp only [push_cast, seval]) ?_
    refine back_f ?_
    refine rs 2 [] [] (by kernel_rfl) allP_nil ?_
    refine rf [(2, .v (.slice none 0 0)), (3, .ptr 0 0)] [(0, .row 25 (Enc.cells r16))] 1 (by kernel_rfl) ?_
    refine wk_id ?_
    obtain rfl := Option.some.inj h
    refine ret_at (.tup [.v (.slice none 0 0), .agg (Enc.cells r16)]) (by kernel_rfl) ?_
    exact ret_e [] [] (by simp only [push_cast, seval]) (by simp only [push_cast, seval]) rfl rfl rfl
  · refine wk_id ?_
    refine seq_np ?_
    refine reg_f ?_
    refine rs 1 [] [] (by kernel_rfl) allP_nil ?_
    refine rf [(0, .v (.string text)), (3, .ptr 0 0), (4, .v (.slice none 0 0))] [(0, .row 25 [iS 0, iS 0])] 1 (by kernel_rfl) ?_
    refine wk_id ?_
    refine seq_np ?_
    refine seq_np ?_
    refine reg_f ?_
    refine rs 2 [none, some ⟨.it 1, [(1, .obj text 0)], 2, []⟩] _ (by kernel_rfl) (allP_cons (ob_range text 1) allP_nil) ?_
    refine rf [(3, .ptr 0 0), (4, .v (.slice none 0 0)), (12, .it 1)] [(0, .row 25 [iS 0, iS 0]), (1, .obj text 0)] 2 (by kernel_rfl) ?_
    refine wk_id ?_
    refine block_np ?_
    refine loop_sx (S := (List S35) × Nat) (fun a => ([(3, .ptr 0 0), (4, .own 1 0 a.1.length), (12, .it 2)], [(0, .row 25 [iS 0, iS 0]), (1, .row 35 (fl a.1)), (2, .obj text a.2)], 3)) h (leSt_m [(0, 0), (2, 1)] [] (by simp only [push_cast, seval]) (by simp only [push_cast, seval]) rfl rfl rfl) ?_
    rintro ⟨c1q7, c2q7⟩ o2 R2 h hr2 hn2 hx2 ht2
    try dsimp only at h hn2 ⊢
    unfold utf_Range_l1 at h
    try dsimp only at h
    refine bsplit_sx h (fun g44 h => ?_) (fun g44 h => ?_)
    · refine seq_np ?_
      refine reg_f ?_
      refine rs 2 [some ⟨.tup [bS true, iS ((c2q7 : Nat) : Int), .v (.int .i32 (((Utf8.decode text c2q7).1 : Nat) : Int))], [(2, .obj text (c2q7 + (Utf8.decode text c2q7).2))], 3, [2]⟩] _ (by kernel_rfl) (allP_cons (ob_next_t text c2q7 2 3 g44) allP_nil) ?_
      refine rf [(3, .ptr 0 0), (4, .own 1 0 c1q7.length), (12, .it 2), (13, .tup [bS true, iS ((c2q7 : Nat) : Int), .v (.int .i32 (((Utf8.decode text c2q7).1 : Nat) : Int))]), (14, bS true)] [(0, .row 25 [iS 0, iS 0]), (1, .row 35 (fl c1q7)), (2, .obj text (c2q7 + (Utf8.decode text c2q7).2))] 3 (by kernel_rfl) ?_
      refine wk_id ?_
      refine seq_np ?_
      refine cond_t (by kernel_rfl) ?_
      refine wk_id ?_
      refine block_np ?_
      refine seq_np ?_
      refine reg_f ?_
      refine rs 4 [] [] (by kernel_rfl) allP_nil ?_
      refine rf [(3, .ptr 0 0), (4, .own 1 0 c1q7.length), (5, iS ((c2q7 : Nat) : Int)), (6, .v (.int .i32 (((Utf8.decode text c2q7).1 : Nat) : Int))), (12, .it 2)] [(0, .row 25 [iS 0, iS 0]), (1, .row 35 (fl c1q7)), (2, .obj text (c2q7 + (Utf8.decode text c2q7).2))] 3 (by kernel_rfl) ?_
      refine wk_id ?_
      refine chk_sx h (fun g48 h => ?_)
      refine reg_f ?_
      have k47 : (c1q7 ++ ([(S35.mk ((c2q7 : Nat) : Int) (IntKind.i64.wrap (((Utf8.decode text c2q7).1 : Nat) : Int)))] : List S35)).length * 16 ≤ 140737488355328 := by first | simpa only [Bool.and_eq_true, decide_eq_true_eq, bne_iff_ne, ne_eq] using g48 | (simp at g48 ⊢; omega)
      refine rs 8 [none, none, none, none, none, none, some ⟨.own 4 0 (c1q7 ++ ([(S35.mk ((c2q7 : Nat) : Int) (IntKind.i64.wrap (((Utf8.decode text c2q7).1 : Nat) : Int)))] : List S35)).length, [(4, .row 35 (fl (c1q7 ++ ([(S35.mk ((c2q7 : Nat) : Int) (IntKind.i64.wrap (((Utf8.decode text c2q7).1 : Nat) : Int)))] : List S35)))), (1, .dead)], 5, [1, 3]⟩] _ (by kernel_rfl) (allP_cons (ob_app (P := Tryd.prog) c1q7 ([(S35.mk ((c2q7 : Nat) : Int) (IntKind.i64.wrap (((Utf8.decode text c2q7).1 : Nat) : Int)))] : List S35) 2 16 rfl (appCells (fl ([(S35.mk ((c2q7 : Nat) : Int) (IntKind.i64.wrap (((Utf8.decode text c2q7).1 : Nat) : Int)))] : List S35)) 0 (([(S35.mk ((c2q7 : Nat) : Int) (IntKind.i64.wrap (((Utf8.decode text c2q7).1 : Nat) : Int)))] : List S35).length * 2)) ([(S35.mk ((c2q7 : Nat) : Int) (IntKind.i64.wrap (((Utf8.decode text c2q7).1 : Nat) : Int)))] : List S35).length (app_own ([(S35.mk ((c2q7 : Nat) : Int) (IntKind.i64.wrap (((Utf8.decode text c2q7).1 : Nat) : Int)))] : List S35) 2 rfl) rfl (0 + ([(S35.mk ((c2q7 : Nat) : Int) (IntKind.i64.wrap (((Utf8.decode text c2q7).1 : Nat) : Int)))] : List S35).length * 2 ≤ (fl ([(S35.mk ((c2q7 : Nat) : Int) (IntKind.i64.wrap (((Utf8.decode text c2q7).1 : Nat) : Int)))] : List S35)).length) (app_own_le ([(S35.mk ((c2q7 : Nat) : Int) (IntKind.i64.wrap (((Utf8.decode text c2q7).1 : Nat) : Int)))] : List S35) 2 rfl) 35 (by kernel_rfl) (by decide) k47 1 4 [3]) allP_nil) ?_
      refine rf [(3, .ptr 0 0), (4, .own 4 0 (c1q7 ++ ([(S35.mk ((c2q7 : Nat) : Int) (IntKind.i64.wrap (((Utf8.decode text c2q7).1 : Nat) : Int)))] : List S35)).length), (12, .it 2)] [(0, .row 25 [iS 0, iS 0]), (1, .dead), (2, .obj text (c2q7 + (Utf8.decode text c2q7).2)), (3, .row 35 (fl ([(S35.mk ((c2q7 : Nat) : Int) (IntKind.i64.wrap (((Utf8.decode text c2q7).1 : Nat) : Int)))] : List S35))), (4, .row 35 (fl (c1q7 ++ ([(S35.mk ((c2q7 : Nat) : Int) (IntKind.i64.wrap (((Utf8.decode text c2q7).1 : Nat) : Int)))] : List S35))))] 5 (by kernel_rfl) ?_
      refine wk_id ?_
      exact hn2 ((c1q7 ++ ([(S35.mk ((c2q7 : Nat) : Int) (IntKind.i64.wrap (((Utf8.decode text c2q7).1 : Nat) : Int)))] : List S35)), (c2q7 + (Utf8.decode text c2q7).2)) _ _ _ (Option.some.inj h).symm (leSt_m [(0, 0), (1, 4), (2, 2)] [] (by simp only [push_cast, seval]) (by simp only [push_cast, seval]) rfl rfl rfl)
    · refine seq_np ?_
      refine reg_f ?_
      refine rs 2 [some ⟨.tup [bS false], [], 3, [2]⟩] _ (by kernel_rfl) (allP_cons (ob_next_f text c2q7 2 3 g44) allP_nil) ?_
      refine rf [(3, .ptr 0 0), (4, .own 1 0 c1q7.length), (12, .it 2), (13, .tup [bS false]), (14, bS false)] [(0, .row 25 [iS 0, iS 0]), (1, .row 35 (fl c1q7)), (2, .obj text c2q7)] 3 (by kernel_rfl) ?_
      refine wk_id ?_
      refine seq_np ?_
      refine cond_f (by kernel_rfl) ?_
      change R2 (.exit 0) _ _ _
      refine ex_cast hx2 (id := 0) ?_
      obtain ⟨r0, h, e0⟩ := map_sx h
      have e1 := hr2 r0 e0.symm
      subst r0
      refine wk_id ?_
      refine wk_id ?_
      refine seq_np ?_
      refine reg_f ?_
      refine rs 4 [] [] (by kernel_rfl) allP_nil ?_
      refine rf [(2, .own 1 0 c1q7.length), (3, .ptr 0 0)] [(0, .row 25 [iS 0, iS 0]), (1, .row 35 (fl c1q7)), (2, .obj text c2q7)] 3 (by kernel_rfl) ?_
      refine wk_id ?_
      obtain rfl := Option.some.inj h
      refine ret_at (.tup [.own 1 0 c1q7.length, .agg [iS 0, iS 0]]) (by kernel_rfl) ?_
      exact ret_e [(0, 1)] [] (by simp only [push_cast, seval]) (by simp only [push_cast, seval]) rfl rfl rfl

set_option maxRecDepth 100000 in
set_option maxHeartbeats 200000000 in
theorem taskmillref_SameOff_spec (xa : (List S35)) (b : (List S35)) (r : Bool) (h : taskmillref_SameOff xa b = some r) : SpecW Tryd.prog 11 [.sl xa.length (fl xa), .sl b.length (fl b)] [] 0 (fun x h n => x = bS r ∧ h = [] ∧ n = 0) := by
  unfold taskmillref_SameOff at h
  refine spec_of (draw_ok _) Tryd.func11 rfl (by decide) rfl (by kernel_rfl) ?_
  refine seq_np ?_
  refine reg_f ?_
  refine rs 1 [] [] (by kernel_rfl) allP_nil ?_
  refine rf [(0, .sl xa.length (fl xa)), (1, .sl b.length (fl b))] [] 0 (by kernel_rfl) ?_
  refine wk_id ?_
  refine seq_np ?_
  refine seq_np ?_
  refine reg_f ?_
  refine rs 5 [] [] (by kernel_rfl) allP_nil ?_
  refine rf [(0, .sl xa.length (fl xa)), (1, .sl b.length (fl b)), (10, bS (((xa.length : Nat) : Int) != ((b.length : Nat) : Int)))] [] 0 (by kernel_rfl) ?_
  refine wk_id ?_
  refine cond_sx h (by kernel_rfl) (fun g145 h => ?_) (fun g145 h => ?_)
  · refine seq_np ?_
    refine reg_f ?_
    refine rs 1 [] [] (by kernel_rfl) allP_nil ?_
    refine rf [(4, bS false)] [] 0 (by kernel_rfl) ?_
    refine wk_id ?_
    obtain rfl := Option.some.inj h
    refine ret_at (bS false) (by kernel_rfl) ?_
    exact ret_e [] [] (by simp only [push_cast, seval]) (by simp only [push_cast, seval]) rfl rfl rfl
  · refine wk_id ?_
    refine seq_np ?_
    refine seq_np ?_
    refine reg_f ?_
    refine rs 1 [] [] (by kernel_rfl) allP_nil ?_
    refine rf [(0, .sl xa.length (fl xa)), (1, .sl b.length (fl b)), (5, iS 0)] [] 0 (by kernel_rfl) ?_
    refine wk_id ?_
    refine block_np ?_
    refine loop_sx (S := Int) (fun a => ([(0, .sl xa.length (fl xa)), (1, .sl b.length (fl b)), (5, iS a)], [], 0)) h (leSt_m [] [] (by simp only [push_cast, seval]) (by simp only [push_cast, seval]) rfl rfl rfl) ?_
    rintro i7 o2 R2 h hr2 hn2 hx2 ht2
    try dsimp only at h hn2 ⊢
    unfold taskmillref_SameOff_l1 at h
    try dsimp only at h
    refine seq_np ?_
    refine seq_np ?_
    refine reg_f ?_
    refine rs 4 [] [] (by kernel_rfl) allP_nil ?_
    refine rf [(0, .sl xa.length (fl xa)), (1, .sl b.length (fl b)), (5, iS i7), (14, bS (decide (i7 < ((xa.length : Nat) : Int))))] [] 0 (by kernel_rfl) ?_
    refine wk_id ?_
    refine cond_sx h (by kernel_rfl) (fun g144 h => ?_) (fun g144 h => ?_)
    · refine wk_id ?_
      refine seq_np ?_
      refine block_np ?_
      refine chk_sx h (fun g140 h => ?_)
      refine chk_sx h (fun g142 h => ?_)
      refine seq_np ?_
      refine reg_t ?_
      have k139 : 0 ≤ i7 ∧ i7 < ((xa.length : Nat) : Int) := by first | simpa only [Bool.and_eq_true, decide_eq_true_eq, bne_iff_ne, ne_eq] using g140 | (simp at g140 ⊢; omega)
      have k141 : 0 ≤ i7 ∧ i7 < ((b.length : Nat) : Int) := by first | simpa only [Bool.and_eq_true, decide_eq_true_eq, bne_iff_ne, ne_eq] using g142 | (simp at g142 ⊢; omega)
      refine rs 9 [none, none, some ⟨.iptr (fl xa) ((i7).toNat * 2), [], 2, []⟩, some ⟨.agg (Enc.cells (ix xa i7)), [], 3, []⟩, none, none, some ⟨.iptr (fl b) ((i7).toNat * 2), [], 6, []⟩, some ⟨.agg (Enc.cells (ix b i7)), [], 7, []⟩] _ (by kernel_rfl) (allP_cons (ob_ldw b i7 2 ((i7).toNat * 2) k141 rfl (by first | rfl | omega) [iS (ix b i7).e0, iS (ix b i7).e1] rfl 7 []) (allP_cons (ob_ix_l b 2 6 i7 k141) (allP_cons (ob_ldw xa i7 2 ((i7).toNat * 2) k139 rfl (by first | rfl | omega) [iS (ix xa i7).e0, iS (ix xa i7).e1] rfl 3 []) (allP_cons (ob_ix_l xa 2 2 i7 k139) allP_nil)))) ?_
      refine rt [(0, .sl xa.length (fl xa)), (1, .sl b.length (fl b)), (5, iS i7), (25, bS (!(((ix xa i7).e0 == (ix b i7).e0) && (((ix xa i7).e1 == (ix b i7).e1) && true))))] [] 9 follows (by kernel_rfl) ?_
      refine wk_id ?_
      refine cond_sx h (by kernel_rfl) (fun g143 h => ?_) (fun g143 h => ?_)
      · refine seq_np ?_
        refine reg_f ?_
        refine rs 1 [] [] (by kernel_rfl) allP_nil ?_
        refine rf [(4, bS false)] [] 9 (by kernel_rfl) ?_
        refine wk_id ?_
        refine rt_cast ht2 ?_
        obtain ⟨r0, h, e0⟩ := map_sx h
        have e1 := hr2 r0 e0.symm
        subst r0
        obtain rfl := Option.some.inj h
        refine ret_at (bS false) (by kernel_rfl) ?_
        exact ret_e [] [] (by simp only [push_cast, seval]) (by simp only [push_cast, seval]) rfl rfl rfl
      · refine wk_id ?_
        refine wk_id ?_
        refine reg_f ?_
        refine rs 3 [] [] (by kernel_rfl) allP_nil ?_
        refine rf [(0, .sl xa.length (fl xa)), (1, .sl b.length (fl b)), (5, iS (IntKind.i64.wrap (i7 + 1)))] [] 9 (by kernel_rfl) ?_
        exact hn2 ((IntKind.i64.wrap (i7 + 1))) _ _ _ (Option.some.inj h).symm (leSt_m [] [] (by simp only [push_cast, seval]) (by simp only [push_cast, seval]) rfl rfl rfl)
    · change R2 (.exit 0) _ _ _
      refine ex_cast hx2 (id := 0) ?_
      obtain ⟨r0, h, e0⟩ := map_sx h
      have e1 := hr2 r0 e0.symm
      subst r0
      refine wk_id ?_
      refine wk_id ?_
      refine seq_np ?_
      refine reg_f ?_
      refine rs 1 [] [] (by kernel_rfl) allP_nil ?_
      refine rf [(4, bS true)] [] 0 (by kernel_rfl) ?_
      refine wk_id ?_
      obtain rfl := Option.some.inj h
      refine ret_at (bS true) (by kernel_rfl) ?_
      exact ret_e [] [] (by simp only [push_cast, seval]) (by simp only [push_cast, seval]) rfl rfl rfl

set_option maxRecDepth 100000 in
set_option maxHeartbeats 200000000 in
theorem taskmilllaw_utfBegun_spec (r : Bool) (h : taskmilllaw_utfBegun = some r) : SpecW Tryd.prog 6 [] [] 0 (fun x h n => x = bS r ∧ h = [] ∧ n = 0) := by
  unfold taskmilllaw_utfBegun at h
  refine spec_of (draw_ok _) Tryd.func6 rfl (by decide) rfl (by kernel_rfl) ?_
  refine seq_np ?_
  refine reg_f ?_
  refine rs 1 [] [] (by kernel_rfl) allP_nil ?_
  refine rf [] [] 0 (by kernel_rfl) ?_
  refine wk_id ?_
  refine seq_np ?_
  refine reg_f ?_
  obtain ⟨r150, hr150, h⟩ := bind_sx h
  refine call_x (utf_Range_spec (ByteArray.mk #[195, 164, 255]) r150 hr150) (args := [.v (.string (ByteArray.mk #[195, 164, 255]))]) (dst := (some 4)) (by kernel_rfl) [] 0 (by kernel_rfl) [] [] (.tup [.own 0 0 r150.2.length, .agg (Enc.cells r150.1)]) [(0, .row 35 (fl r150.2))] (by simp only [push_cast, seval]) (by simp only [push_cast, seval]) (by kernel_rfl) (.inl rfl) (by simp only [push_cast, seval]) (by simp only [push_cast, seval]) ?_
  refine rs 6 [] [] (by kernel_rfl) allP_nil ?_
  refine rf [(1, .own 0 0 r150.2.length), (2, .ptr 1 0)] [(0, .row 35 (fl r150.2)), (1, .row 25 (Enc.cells r150.1))] 2 (by kernel_rfl) ?_
  refine wk_id ?_
  refine seq_cut (A := Bool) (fun a => ([(0, bS a)], [], 0)) (fun a => (taskmilllaw_utfBegun_j1 a) = some r) (fun K154 hK154 => ?_) ?_
  · refine reg_f ?_
    refine rs 4 [] [] (by kernel_rfl) allP_nil ?_
    refine run_br h 10 (.inl (by kernel_rfl)) (fun g155 h => ?_) (fun g155 h => ?_)
    · refine rs 4 [] [] (by kernel_rfl) allP_nil ?_
      obtain ⟨r156, hr156, h⟩ := bind_sx h
      refine call_x (taskmillref_SameOff_spec r150.2 ([(S35.mk 0 228), (S35.mk 2 65533)] : List S35) r156 hr156) (args := [.own 0 0 r150.2.length, .own 2 0 ([(S35.mk 0 228), (S35.mk 2 65533)] : List S35).length]) (dst := (some 15)) (by kernel_rfl) [(0, .row 35 (fl r150.2)), (1, .row 25 (Enc.cells r150.1)), (2, .row 35 (fl ([(S35.mk 0 228), (S35.mk 2 65533)] : List S35)))] 3 (by kernel_rfl) [] [0, 2] (bS r156) [] (by simp only [push_cast, seval]) (by simp only [push_cast, seval]) (by kernel_rfl) (.inr ⟨by simp only [push_cast, seval], by simp only [push_cast, seval]⟩) (by simp only [push_cast, seval]) (by simp only [push_cast, seval]) ?_
      refine rs 2 [] [] (by kernel_rfl) allP_nil ?_
      refine rf [(0, bS r156)] [(0, .row 35 (fl r150.2)), (1, .row 25 (Enc.cells r150.1)), (2, .row 35 (fl ([(S35.mk 0 228), (S35.mk 2 65533)] : List S35)))] 3 (by kernel_rfl) ?_
      exact hK154 (r156) _ _ _ h (leSt_m [] [] (by (try simp only [g155]) <;> simp only [push_cast, seval]) (by (try simp only [g155]) <;> simp only [push_cast, seval]) rfl rfl rfl)
    · refine rs 7 [] [] (by kernel_rfl) allP_nil ?_
      refine rf [(0, bS false)] [(0, .row 35 (fl r150.2)), (1, .row 25 (Enc.cells r150.1))] 2 (by kernel_rfl) ?_
      exact hK154 (false) _ _ _ h (leSt_m [] [] (by (try simp only [g155]) <;> simp only [push_cast, seval]) (by (try simp only [g155]) <;> simp only [push_cast, seval]) rfl rfl rfl)
  · rintro t0q1 h
    try dsimp only at h ⊢
    unfold taskmilllaw_utfBegun_j1 at h
    obtain rfl := Option.some.inj h
    refine ret_at (bS t0q1) (by kernel_rfl) ?_
    exact ret_e [] [] (by simp only [push_cast, seval]) (by simp only [push_cast, seval]) rfl rfl rfl

set_option maxRecDepth 100000 in
set_option maxHeartbeats 200000000 in
theorem utf8_decodeRuneInStringSlow_spec (s : ByteArray) (r : Int × Int) (h : utf8_decodeRuneInStringSlow s = some r) : SpecW Tryd.prog 19 [.v (.string s)] [] 0 (fun x h n => x = .tup [.v (.int .i32 r.1), iS r.2] ∧ h = [] ∧ n = 0) := by
  unfold utf8_decodeRuneInStringSlow at h
  refine spec_of (draw_ok _) Tryd.func19 rfl (by decide) rfl (by kernel_rfl) ?_
  refine seq_np ?_
  refine reg_f ?_
  refine rs 2 [] [] (by kernel_rfl) allP_nil ?_
  refine rf [(0, .v (.string s))] [] 0 (by kernel_rfl) ?_
  refine wk_id ?_
  refine seq_np ?_
  refine reg_f ?_
  refine rs 3 [] [] (by kernel_rfl) allP_nil ?_
  refine rf [(0, .v (.string s)), (4, iS (((s).size : Nat) : Int))] [] 0 (by kernel_rfl) ?_
  refine wk_id ?_
  refine seq_np ?_
  refine seq_np ?_
  refine reg_f ?_
  refine rs 2 [] [] (by kernel_rfl) allP_nil ?_
  refine rf [(0, .v (.string s)), (4, iS (((s).size : Nat) : Int)), (16, bS (decide ((((s).size : Nat) : Int) < 1)))] [] 0 (by kernel_rfl) ?_
  refine wk_id ?_
  refine cond_sx h (by kernel_rfl) (fun g253 h => ?_) (fun g253 h => ?_)
  · refine seq_np ?_
    refine reg_f ?_
    refine rs 2 [] [] (by kernel_rfl) allP_nil ?_
    refine rf [(2, .v (.int .i32 65533)), (3, iS 0)] [] 0 (by kernel_rfl) ?_
    refine wk_id ?_
    obtain rfl := Option.some.inj h
    refine ret_at (.tup [.v (.int .i32 65533), iS 0]) (by kernel_rfl) ?_
    exact ret_e [] [] (by simp only [push_cast, seval]) (by simp only [push_cast, seval]) rfl rfl rfl
  · refine wk_id ?_
    refine chk_sx h (fun g200 h => ?_)
    refine seq_np ?_
    refine reg_f ?_
    have k199 : 0 ≤ (0 : Int) ∧ (0 : Int) < (((s).size : Nat) : Int) := by first | simpa only [Bool.and_eq_true, decide_eq_true_eq, bne_iff_ne, ne_eq] using g200 | (simp at g200 ⊢; omega)
    refine rs 3 [none, some ⟨.v (.int .u8 (((s).data.getD ((0 : Int)).toNat 0).toNat : Int)), [], 0, []⟩] _ (by kernel_rfl) (allP_cons (ob_p (v := .v (.int .u8 (((s).data.getD ((0 : Int)).toNat 0).toNat : Int))) (nx := 0) (r := []) k199) allP_nil) ?_
    refine rf [(0, .v (.string s)), (4, iS (((s).size : Nat) : Int)), (5, .v (.int .u8 (((s).data.getD ((0 : Int)).toNat 0).toNat : Int)))] [] 0 (by kernel_rfl) ?_
    refine wk_id ?_
    refine chk_sx h (fun g204 h => ?_)
    refine seq_np ?_
    refine reg_f ?_
    have k203 : 0 ≤ (((s).data.getD ((0 : Int)).toNat 0).toNat : Int) ∧ (((s).data.getD ((0 : Int)).toNat 0).toNat : Int) < ((utf8First.length : Nat) : Int) := by first | simpa only [Bool.and_eq_true, decide_eq_true_eq, bne_iff_ne, ne_eq] using g204 | (simp at g204 ⊢; omega)
    refine rs 4 [none, some ⟨.iptr (fl utf8First) (((((s).data.getD ((0 : Int)).toNat 0).toNat : Int)).toNat * 1), [], 0, []⟩, some ⟨.v (.int .u8 (ix utf8First (((s).data.getD ((0 : Int)).toNat 0).toNat : Int)).v), [], 0, []⟩] _ (by kernel_rfl) (allP_cons (ob_ld utf8First (((s).data.getD ((0 : Int)).toNat 0).toNat : Int) 1 0 (((((s).data.getD ((0 : Int)).toNat 0).toNat : Int)).toNat * 1) k203 rfl (by decide) (by first | rfl | omega) (dflS Tryd.prog 5) (.v (.int .u8 (ix utf8First (((s).data.getD ((0 : Int)).toNat 0).toNat : Int)).v)) rfl 0 []) (allP_cons (ob_tab utf8First (firstTab.map SV.v) (by kernel_rfl) 256 1 0 rfl (((s).data.getD ((0 : Int)).toNat 0).toNat : Int) k203) allP_nil)) ?_
    refine rf [(0, .v (.string s)), (4, iS (((s).size : Nat) : Int)), (5, .v (.int .u8 (((s).data.getD ((0 : Int)).toNat 0).toNat : Int))), (6, .v (.int .u8 (ix utf8First (((s).data.getD ((0 : Int)).toNat 0).toNat : Int)).v))] [] 0 (by kernel_rfl) ?_
    refine wk_id ?_
    refine seq_np ?_
    refine seq_np ?_
    refine reg_f ?_
    refine rs 2 [] [] (by kernel_rfl) allP_nil ?_
    refine rf [(0, .v (.string s)), (4, iS (((s).size : Nat) : Int)), (5, .v (.int .u8 (((s).data.getD ((0 : Int)).toNat 0).toNat : Int))), (6, .v (.int .u8 (ix utf8First (((s).data.getD ((0 : Int)).toNat 0).toNat : Int)).v)), (23, bS (decide ((240 : Int) ≤ (ix utf8First (((s).data.getD ((0 : Int)).toNat 0).toNat : Int)).v)))] [] 0 (by kernel_rfl) ?_
    refine wk_id ?_
    refine cond_sx h (by kernel_rfl) (fun g252 h => ?_) (fun g252 h => ?_)
    · refine seq_np ?_
      refine reg_f ?_
      refine rs 5 [] [] (by kernel_rfl) allP_nil ?_
      refine rf [(0, .v (.string s)), (7, .v (.int .i32 (Int.fdiv (IntKind.i32.wrap ((IntKind.i32.wrap (ix utf8First (((s).data.getD ((0 : Int)).toNat 0).toNat : Int)).v) * 2 ^ (min ((31 : Int)).toNat (IntKind.i32).bits))) (2 ^ (min ((31 : Int)).toNat (IntKind.i32).bits)))))] [] 0 (by kernel_rfl) ?_
      refine wk_id ?_
      refine chk_sx h (fun g211 h => ?_)
      refine seq_np ?_
      refine reg_f ?_
      have k210 : 0 ≤ (0 : Int) ∧ (0 : Int) < (((s).size : Nat) : Int) := by first | simpa only [Bool.and_eq_true, decide_eq_true_eq, bne_iff_ne, ne_eq] using g211 | (simp at g211 ⊢; omega)
      refine rs 10 [none, some ⟨.v (.int .u8 (((s).data.getD ((0 : Int)).toNat 0).toNat : Int)), [], 0, []⟩] _ (by kernel_rfl) (allP_cons (ob_p (v := .v (.int .u8 (((s).data.getD ((0 : Int)).toNat 0).toNat : Int))) (nx := 0) (r := []) k210) allP_nil) ?_
      refine rf [(2, .v (.int .i32 (IntKind.i32.wrap (((BitVec.ofInt (IntKind.i32).bits (IntKind.i32.wrap (((BitVec.ofInt (IntKind.i32).bits (IntKind.i32.wrap (((s).data.getD ((0 : Int)).toNat 0).toNat : Int)) &&& ~~~ BitVec.ofInt (IntKind.i32).bits (Int.fdiv (IntKind.i32.wrap ((IntKind.i32.wrap (ix utf8First (((s).data.getD ((0 : Int)).toNat 0).toNat : Int)).v) * 2 ^ (min ((31 : Int)).toNat (IntKind.i32).bits))) (2 ^ (min ((31 : Int)).toNat (IntKind.i32).bits)))).toNat : Nat) : Int)) ||| BitVec.ofInt (IntKind.i32).bits (IntKind.i32.wrap (((BitVec.ofInt (IntKind.i32).bits 65533 &&& BitVec.ofInt (IntKind.i32).bits (Int.fdiv (IntKind.i32.wrap ((IntKind.i32.wrap (ix utf8First (((s).data.getD ((0 : Int)).toNat 0).toNat : Int)).v) * 2 ^ (min ((31 : Int)).toNat (IntKind.i32).bits))) (2 ^ (min ((31 : Int)).toNat (IntKind.i32).bits)))).toNat : Nat) : Int))).toNat : Nat) : Int)))), (3, iS 1)] [] 0 (by kernel_rfl) ?_
      refine wk_id ?_
      obtain rfl := Option.some.inj h
      refine ret_at (.tup [.v (.int .i32 (IntKind.i32.wrap (((BitVec.ofInt (IntKind.i32).bits (IntKind.i32.wrap (((BitVec.ofInt (IntKind.i32).bits (IntKind.i32.wrap (((s).data.getD ((0 : Int)).toNat 0).toNat : Int)) &&& ~~~ BitVec.ofInt (IntKind.i32).bits (Int.fdiv (IntKind.i32.wrap ((IntKind.i32.wrap (ix utf8First (((s).data.getD ((0 : Int)).toNat 0).toNat : Int)).v) * 2 ^ (min ((31 : Int)).toNat (IntKind.i32).bits))) (2 ^ (min ((31 : Int)).toNat (IntKind.i32).bits)))).toNat : Nat) : Int)) ||| BitVec.ofInt (IntKind.i32).bits (IntKind.i32.wrap (((BitVec.ofInt (IntKind.i32).bits 65533 &&& BitVec.ofInt (IntKind.i32).bits (Int.fdiv (IntKind.i32.wrap ((IntKind.i32.wrap (ix utf8First (((s).data.getD ((0 : Int)).toNat 0).toNat : Int)).v) * 2 ^ (min ((31 : Int)).toNat (IntKind.i32).bits))) (2 ^ (min ((31 : Int)).toNat (IntKind.i32).bits)))).toNat : Nat) : Int))).toNat : Nat) : Int))), iS 1]) (by kernel_rfl) ?_
      exact ret_e [] [] (by simp only [push_cast, seval]) (by simp only [push_cast, seval]) rfl rfl rfl
    · refine wk_id ?_
      refine seq_np ?_
      refine reg_f ?_
      refine rs 4 [] [] (by kernel_rfl) allP_nil ?_
      refine rf [(0, .v (.string s)), (4, iS (((s).size : Nat) : Int)), (5, .v (.int .u8 (((s).data.getD ((0 : Int)).toNat 0).toNat : Int))), (6, .v (.int .u8 (ix utf8First (((s).data.getD ((0 : Int)).toNat 0).toNat : Int)).v)), (8, iS (IntKind.i64.wrap (IntKind.u8.wrap (((BitVec.ofInt (IntKind.u8).bits (ix utf8First (((s).data.getD ((0 : Int)).toNat 0).toNat : Int)).v &&& BitVec.ofInt (IntKind.u8).bits 7).toNat : Nat) : Int))))] [] 0 (by kernel_rfl) ?_
      refine wk_id ?_
      refine chk_sx h (fun g215 h => ?_)
      refine seq_np ?_
      refine reg_f ?_
      have k214 : 0 ≤ (Int.fdiv (ix utf8First (((s).data.getD ((0 : Int)).toNat 0).toNat : Int)).v (2 ^ (min ((4 : Int)).toNat (IntKind.u8).bits))) ∧ (Int.fdiv (ix utf8First (((s).data.getD ((0 : Int)).toNat 0).toNat : Int)).v (2 ^ (min ((4 : Int)).toNat (IntKind.u8).bits))) < ((utf8Accept.length : Nat) : Int) := by first | simpa only [Bool.and_eq_true, decide_eq_true_eq, bne_iff_ne, ne_eq] using g215 | (simp at g215 ⊢; omega)
      refine rs 6 [none, none, some ⟨.iptr (fl utf8Accept) (((Int.fdiv (ix utf8First (((s).data.getD ((0 : Int)).toNat 0).toNat : Int)).v (2 ^ (min ((4 : Int)).toNat (IntKind.u8).bits)))).toNat * 2), [], 0, []⟩, some ⟨.agg (Enc.cells (ix utf8Accept (Int.fdiv (ix utf8First (((s).data.getD ((0 : Int)).toNat 0).toNat : Int)).v (2 ^ (min ((4 : Int)).toNat (IntKind.u8).bits))))), [], 0, []⟩] _ (by kernel_rfl) (allP_cons (ob_ldw utf8Accept (Int.fdiv (ix utf8First (((s).data.getD ((0 : Int)).toNat 0).toNat : Int)).v (2 ^ (min ((4 : Int)).toNat (IntKind.u8).bits))) 2 (((Int.fdiv (ix utf8First (((s).data.getD ((0 : Int)).toNat 0).toNat : Int)).v (2 ^ (min ((4 : Int)).toNat (IntKind.u8).bits)))).toNat * 2) k214 rfl (by first | rfl | omega) [.v (.int .u8 (ix utf8Accept (Int.fdiv (ix utf8First (((s).data.getD ((0 : Int)).toNat 0).toNat : Int)).v (2 ^ (min ((4 : Int)).toNat (IntKind.u8).bits)))).lo), .v (.int .u8 (ix utf8Accept (Int.fdiv (ix utf8First (((s).data.getD ((0 : Int)).toNat 0).toNat : Int)).v (2 ^ (min ((4 : Int)).toNat (IntKind.u8).bits)))).hi)] rfl 0 []) (allP_cons (ob_tab utf8Accept (acceptTab.map SV.v) (by kernel_rfl) 16 2 0 rfl (Int.fdiv (ix utf8First (((s).data.getD ((0 : Int)).toNat 0).toNat : Int)).v (2 ^ (min ((4 : Int)).toNat (IntKind.u8).bits))) k214) allP_nil)) ?_
      refine rf [(0, .v (.string s)), (4, iS (((s).size : Nat) : Int)), (5, .v (.int .u8 (((s).data.getD ((0 : Int)).toNat 0).toNat : Int))), (8, iS (IntKind.i64.wrap (IntKind.u8.wrap (((BitVec.ofInt (IntKind.u8).bits (ix utf8First (((s).data.getD ((0 : Int)).toNat 0).toNat : Int)).v &&& BitVec.ofInt (IntKind.u8).bits 7).toNat : Nat) : Int)))), (9, .ptr 0 0)] [(0, .row 54 (Enc.cells (ix utf8Accept (Int.fdiv (ix utf8First (((s).data.getD ((0 : Int)).toNat 0).toNat : Int)).v (2 ^ (min ((4 : Int)).toNat (IntKind.u8).bits))))))] 1 (by kernel_rfl) ?_
      refine wk_id ?_
      refine seq_np ?_
      refine seq_np ?_
      refine reg_f ?_
      refine rs 3 [] [] (by kernel_rfl) allP_nil ?_
      refine rf [(0, .v (.string s)), (5, .v (.int .u8 (((s).data.getD ((0 : Int)).toNat 0).toNat : Int))), (8, iS (IntKind.i64.wrap (IntKind.u8.wrap (((BitVec.ofInt (IntKind.u8).bits (ix utf8First (((s).data.getD ((0 : Int)).toNat 0).toNat : Int)).v &&& BitVec.ofInt (IntKind.u8).bits 7).toNat : Nat) : Int)))), (9, .ptr 0 0), (45, bS (decide ((((s).size : Nat) : Int) < (IntKind.i64.wrap (IntKind.u8.wrap (((BitVec.ofInt (IntKind.u8).bits (ix utf8First (((s).data.getD ((0 : Int)).toNat 0).toNat : Int)).v &&& BitVec.ofInt (IntKind.u8).bits 7).toNat : Nat) : Int))))))] [(0, .row 54 (Enc.cells (ix utf8Accept (Int.fdiv (ix utf8First (((s).data.getD ((0 : Int)).toNat 0).toNat : Int)).v (2 ^ (min ((4 : Int)).toNat (IntKind.u8).bits))))))] 1 (by kernel_rfl) ?_
      refine wk_id ?_
      refine cond_sx h (by kernel_rfl) (fun g251 h => ?_) (fun g251 h => ?_)
      · refine seq_np ?_
        refine reg_f ?_
        refine rs 2 [] [] (by kernel_rfl) allP_nil ?_
        refine rf [(2, .v (.int .i32 65533)), (3, iS 1)] [(0, .row 54 (Enc.cells (ix utf8Accept (Int.fdiv (ix utf8First (((s).data.getD ((0 : Int)).toNat 0).toNat : Int)).v (2 ^ (min ((4 : Int)).toNat (IntKind.u8).bits))))))] 1 (by kernel_rfl) ?_
        refine wk_id ?_
        obtain rfl := Option.some.inj h
        refine ret_at (.tup [.v (.int .i32 65533), iS 1]) (by kernel_rfl) ?_
        exact ret_e [] [] (by simp only [push_cast, seval]) (by simp only [push_cast, seval]) rfl rfl rfl
      · refine wk_id ?_
        refine chk_sx h (fun g220 h => ?_)
        refine seq_np ?_
        refine reg_f ?_
        have k219 : 0 ≤ (1 : Int) ∧ (1 : Int) < (((s).size : Nat) : Int) := by first | simpa only [Bool.and_eq_true, decide_eq_true_eq, bne_iff_ne, ne_eq] using g220 | (simp at g220 ⊢; omega)
        refine rs 3 [none, some ⟨.v (.int .u8 (((s).data.getD ((1 : Int)).toNat 0).toNat : Int)), [], 1, []⟩] _ (by kernel_rfl) (allP_cons (ob_p (v := .v (.int .u8 (((s).data.getD ((1 : Int)).toNat 0).toNat : Int))) (nx := 1) (r := []) k219) allP_nil) ?_
        refine rf [(0, .v (.string s)), (5, .v (.int .u8 (((s).data.getD ((0 : Int)).toNat 0).toNat : Int))), (8, iS (IntKind.i64.wrap (IntKind.u8.wrap (((BitVec.ofInt (IntKind.u8).bits (ix utf8First (((s).data.getD ((0 : Int)).toNat 0).toNat : Int)).v &&& BitVec.ofInt (IntKind.u8).bits 7).toNat : Nat) : Int)))), (9, .ptr 0 0), (10, .v (.int .u8 (((s).data.getD ((1 : Int)).toNat 0).toNat : Int)))] [(0, .row 54 (Enc.cells (ix utf8Accept (Int.fdiv (ix utf8First (((s).data.getD ((0 : Int)).toNat 0).toNat : Int)).v (2 ^ (min ((4 : Int)).toNat (IntKind.u8).bits))))))] 1 (by kernel_rfl) ?_
        refine wk_id ?_
        refine seq_np ?_
        refine seq_cut (A := Unit) (fun _ => ([(0, .v (.string s)), (5, .v (.int .u8 (((s).data.getD ((0 : Int)).toNat 0).toNat : Int))), (8, iS (IntKind.i64.wrap (IntKind.u8.wrap (((BitVec.ofInt (IntKind.u8).bits (ix utf8First (((s).data.getD ((0 : Int)).toNat 0).toNat : Int)).v &&& BitVec.ofInt (IntKind.u8).bits 7).toNat : Nat) : Int)))), (10, .v (.int .u8 (((s).data.getD ((1 : Int)).toNat 0).toNat : Int))), (57, bS ((decide ((((s).data.getD ((1 : Int)).toNat 0).toNat : Int) < (ix utf8Accept (Int.fdiv (ix utf8First (((s).data.getD ((0 : Int)).toNat 0).toNat : Int)).v (2 ^ (min ((4 : Int)).toNat (IntKind.u8).bits)))).lo)) || (decide ((ix utf8Accept (Int.fdiv (ix utf8First (((s).data.getD ((0 : Int)).toNat 0).toNat : Int)).v (2 ^ (min ((4 : Int)).toNat (IntKind.u8).bits)))).hi < (((s).data.getD ((1 : Int)).toNat 0).toNat : Int)))))], [(0, .row 54 (Enc.cells (ix utf8Accept (Int.fdiv (ix utf8First (((s).data.getD ((0 : Int)).toNat 0).toNat : Int)).v (2 ^ (min ((4 : Int)).toNat (IntKind.u8).bits))))))], 1)) (fun _ => True) (fun K224 hK224 => ?_) (fun _ _ => ?_)
        · refine reg_f ?_
          refine rs 5 [] [] (by kernel_rfl) allP_nil ?_
          refine run_split 52 (decide ((((s).data.getD ((1 : Int)).toNat 0).toNat : Int) < (ix utf8Accept (Int.fdiv (ix utf8First (((s).data.getD ((0 : Int)).toNat 0).toNat : Int)).v (2 ^ (min ((4 : Int)).toNat (IntKind.u8).bits)))).lo)) (.inl (by kernel_rfl)) (fun g225 => ?_) (fun g225 => ?_)
          · refine rs 5 [] [] (by kernel_rfl) allP_nil ?_
            refine rf [(0, .v (.string s)), (5, .v (.int .u8 (((s).data.getD ((0 : Int)).toNat 0).toNat : Int))), (8, iS (IntKind.i64.wrap (IntKind.u8.wrap (((BitVec.ofInt (IntKind.u8).bits (ix utf8First (((s).data.getD ((0 : Int)).toNat 0).toNat : Int)).v &&& BitVec.ofInt (IntKind.u8).bits 7).toNat : Nat) : Int)))), (10, .v (.int .u8 (((s).data.getD ((1 : Int)).toNat 0).toNat : Int))), (57, bS true)] [(0, .row 54 (Enc.cells (ix utf8Accept (Int.fdiv (ix utf8First (((s).data.getD ((0 : Int)).toNat 0).toNat : Int)).v (2 ^ (min ((4 : Int)).toNat (IntKind.u8).bits))))))] 1 (by kernel_rfl) ?_
            exact hK224 () _ _ _ trivial (leSt_m [(0, 0)] [] (by (try simp only [g225]) <;> simp only [push_cast, seval]) (by (try simp only [g225]) <;> simp only [push_cast, seval]) rfl rfl rfl)
          · refine rs 5 [] [] (by kernel_rfl) allP_nil ?_
            refine rf [(0, .v (.string s)), (5, .v (.int .u8 (((s).data.getD ((0 : Int)).toNat 0).toNat : Int))), (8, iS (IntKind.i64.wrap (IntKind.u8.wrap (((BitVec.ofInt (IntKind.u8).bits (ix utf8First (((s).data.getD ((0 : Int)).toNat 0).toNat : Int)).v &&& BitVec.ofInt (IntKind.u8).bits 7).toNat : Nat) : Int)))), (10, .v (.int .u8 (((s).data.getD ((1 : Int)).toNat 0).toNat : Int))), (57, bS (decide ((ix utf8Accept (Int.fdiv (ix utf8First (((s).data.getD ((0 : Int)).toNat 0).toNat : Int)).v (2 ^ (min ((4 : Int)).toNat (IntKind.u8).bits)))).hi < (((s).data.getD ((1 : Int)).toNat 0).toNat : Int))))] [(0, .row 54 (Enc.cells (ix utf8Accept (Int.fdiv (ix utf8First (((s).data.getD ((0 : Int)).toNat 0).toNat : Int)).v (2 ^ (min ((4 : Int)).toNat (IntKind.u8).bits))))))] 1 (by kernel_rfl) ?_
            exact hK224 () _ _ _ trivial (leSt_m [(0, 0)] [] (by (try simp only [g225]) <;> simp only [push_cast, seval]) (by (try simp only [g225]) <;> simp only [push_cast, seval]) rfl rfl rfl)
        · dsimp only
          refine cond_sx h (by kernel_rfl) (fun g250 h => ?_) (fun g250 h => ?_)
          · refine seq_np ?_
            refine reg_f ?_
            refine rs 2 [] [] (by kernel_rfl) allP_nil ?_
            refine rf [(2, .v (.int .i32 65533)), (3, iS 1)] [(0, .row 54 (Enc.cells (ix utf8Accept (Int.fdiv (ix utf8First (((s).data.getD ((0 : Int)).toNat 0).toNat : Int)).v (2 ^ (min ((4 : Int)).toNat (IntKind.u8).bits))))))] 1 (by kernel_rfl) ?_
            refine wk_id ?_
            obtain rfl := Option.some.inj h
            refine ret_at (.tup [.v (.int .i32 65533), iS 1]) (by kernel_rfl) ?_
            exact ret_e [] [] (by simp only [push_cast, seval]) (by simp only [push_cast, seval]) rfl rfl rfl
          · refine wk_id ?_
            refine seq_np ?_
            refine seq_np ?_
            refine reg_f ?_
            refine rs 2 [] [] (by kernel_rfl) allP_nil ?_
            refine rf [(0, .v (.string s)), (5, .v (.int .u8 (((s).data.getD ((0 : Int)).toNat 0).toNat : Int))), (8, iS (IntKind.i64.wrap (IntKind.u8.wrap (((BitVec.ofInt (IntKind.u8).bits (ix utf8First (((s).data.getD ((0 : Int)).toNat 0).toNat : Int)).v &&& BitVec.ofInt (IntKind.u8).bits 7).toNat : Nat) : Int)))), (10, .v (.int .u8 (((s).data.getD ((1 : Int)).toNat 0).toNat : Int))), (59, bS (decide ((IntKind.i64.wrap (IntKind.u8.wrap (((BitVec.ofInt (IntKind.u8).bits (ix utf8First (((s).data.getD ((0 : Int)).toNat 0).toNat : Int)).v &&& BitVec.ofInt (IntKind.u8).bits 7).toNat : Nat) : Int))) ≤ 2)))] [(0, .row 54 (Enc.cells (ix utf8Accept (Int.fdiv (ix utf8First (((s).data.getD ((0 : Int)).toNat 0).toNat : Int)).v (2 ^ (min ((4 : Int)).toNat (IntKind.u8).bits))))))] 1 (by kernel_rfl) ?_
            refine wk_id ?_
            refine cond_sx h (by kernel_rfl) (fun g249 h => ?_) (fun g249 h => ?_)
            · refine seq_np ?_
              refine reg_f ?_
              refine rs 10 [] [] (by kernel_rfl) allP_nil ?_
              refine rf [(2, .v (.int .i32 (IntKind.i32.wrap (((BitVec.ofInt (IntKind.i32).bits (IntKind.i32.wrap ((IntKind.i32.wrap (IntKind.u8.wrap (((BitVec.ofInt (IntKind.u8).bits (((s).data.getD ((0 : Int)).toNat 0).toNat : Int) &&& BitVec.ofInt (IntKind.u8).bits 31).toNat : Nat) : Int))) * 2 ^ (min ((6 : Int)).toNat (IntKind.i32).bits))) ||| BitVec.ofInt (IntKind.i32).bits (IntKind.i32.wrap (IntKind.u8.wrap (((BitVec.ofInt (IntKind.u8).bits (((s).data.getD ((1 : Int)).toNat 0).toNat : Int) &&& BitVec.ofInt (IntKind.u8).bits 63).toNat : Nat) : Int)))).toNat : Nat) : Int)))), (3, iS 2)] [(0, .row 54 (Enc.cells (ix utf8Accept (Int.fdiv (ix utf8First (((s).data.getD ((0 : Int)).toNat 0).toNat : Int)).v (2 ^ (min ((4 : Int)).toNat (IntKind.u8).bits))))))] 1 (by kernel_rfl) ?_
              refine wk_id ?_
              obtain rfl := Option.some.inj h
              refine ret_at (.tup [.v (.int .i32 (IntKind.i32.wrap (((BitVec.ofInt (IntKind.i32).bits (IntKind.i32.wrap ((IntKind.i32.wrap (IntKind.u8.wrap (((BitVec.ofInt (IntKind.u8).bits (((s).data.getD ((0 : Int)).toNat 0).toNat : Int) &&& BitVec.ofInt (IntKind.u8).bits 31).toNat : Nat) : Int))) * 2 ^ (min ((6 : Int)).toNat (IntKind.i32).bits))) ||| BitVec.ofInt (IntKind.i32).bits (IntKind.i32.wrap (IntKind.u8.wrap (((BitVec.ofInt (IntKind.u8).bits (((s).data.getD ((1 : Int)).toNat 0).toNat : Int) &&& BitVec.ofInt (IntKind.u8).bits 63).toNat : Nat) : Int)))).toNat : Nat) : Int))), iS 2]) (by kernel_rfl) ?_
              exact ret_e [] [] (by simp only [push_cast, seval]) (by simp only [push_cast, seval]) rfl rfl rfl
            · refine wk_id ?_
              refine chk_sx h (fun g230 h => ?_)
              refine seq_np ?_
              refine reg_f ?_
              have k229 : 0 ≤ (2 : Int) ∧ (2 : Int) < (((s).size : Nat) : Int) := by first | simpa only [Bool.and_eq_true, decide_eq_true_eq, bne_iff_ne, ne_eq] using g230 | (simp at g230 ⊢; omega)
              refine rs 3 [none, some ⟨.v (.int .u8 (((s).data.getD ((2 : Int)).toNat 0).toNat : Int)), [], 1, []⟩] _ (by kernel_rfl) (allP_cons (ob_p (v := .v (.int .u8 (((s).data.getD ((2 : Int)).toNat 0).toNat : Int))) (nx := 1) (r := []) k229) allP_nil) ?_
              refine rf [(0, .v (.string s)), (5, .v (.int .u8 (((s).data.getD ((0 : Int)).toNat 0).toNat : Int))), (8, iS (IntKind.i64.wrap (IntKind.u8.wrap (((BitVec.ofInt (IntKind.u8).bits (ix utf8First (((s).data.getD ((0 : Int)).toNat 0).toNat : Int)).v &&& BitVec.ofInt (IntKind.u8).bits 7).toNat : Nat) : Int)))), (10, .v (.int .u8 (((s).data.getD ((1 : Int)).toNat 0).toNat : Int))), (11, .v (.int .u8 (((s).data.getD ((2 : Int)).toNat 0).toNat : Int)))] [(0, .row 54 (Enc.cells (ix utf8Accept (Int.fdiv (ix utf8First (((s).data.getD ((0 : Int)).toNat 0).toNat : Int)).v (2 ^ (min ((4 : Int)).toNat (IntKind.u8).bits))))))] 1 (by kernel_rfl) ?_
              refine wk_id ?_
              refine seq_np ?_
              refine seq_cut (A := Unit) (fun _ => ([(0, .v (.string s)), (5, .v (.int .u8 (((s).data.getD ((0 : Int)).toNat 0).toNat : Int))), (8, iS (IntKind.i64.wrap (IntKind.u8.wrap (((BitVec.ofInt (IntKind.u8).bits (ix utf8First (((s).data.getD ((0 : Int)).toNat 0).toNat : Int)).v &&& BitVec.ofInt (IntKind.u8).bits 7).toNat : Nat) : Int)))), (10, .v (.int .u8 (((s).data.getD ((1 : Int)).toNat 0).toNat : Int))), (11, .v (.int .u8 (((s).data.getD ((2 : Int)).toNat 0).toNat : Int))), (75, bS ((decide ((((s).data.getD ((2 : Int)).toNat 0).toNat : Int) < 128)) || (decide ((191 : Int) < (((s).data.getD ((2 : Int)).toNat 0).toNat : Int)))))], [(0, .row 54 (Enc.cells (ix utf8Accept (Int.fdiv (ix utf8First (((s).data.getD ((0 : Int)).toNat 0).toNat : Int)).v (2 ^ (min ((4 : Int)).toNat (IntKind.u8).bits))))))], 1)) (fun _ => True) (fun K234 hK234 => ?_) (fun _ _ => ?_)
              · refine reg_f ?_
                refine rs 3 [] [] (by kernel_rfl) allP_nil ?_
                refine run_split 72 (decide ((((s).data.getD ((2 : Int)).toNat 0).toNat : Int) < 128)) (.inl (by kernel_rfl)) (fun g235 => ?_) (fun g235 => ?_)
                · refine rs 3 [] [] (by kernel_rfl) allP_nil ?_
                  refine rf [(0, .v (.string s)), (5, .v (.int .u8 (((s).data.getD ((0 : Int)).toNat 0).toNat : Int))), (8, iS (IntKind.i64.wrap (IntKind.u8.wrap (((BitVec.ofInt (IntKind.u8).bits (ix utf8First (((s).data.getD ((0 : Int)).toNat 0).toNat : Int)).v &&& BitVec.ofInt (IntKind.u8).bits 7).toNat : Nat) : Int)))), (10, .v (.int .u8 (((s).data.getD ((1 : Int)).toNat 0).toNat : Int))), (11, .v (.int .u8 (((s).data.getD ((2 : Int)).toNat 0).toNat : Int))), (75, bS true)] [(0, .row 54 (Enc.cells (ix utf8Accept (Int.fdiv (ix utf8First (((s).data.getD ((0 : Int)).toNat 0).toNat : Int)).v (2 ^ (min ((4 : Int)).toNat (IntKind.u8).bits))))))] 1 (by kernel_rfl) ?_
                  exact hK234 () _ _ _ trivial (leSt_m [(0, 0)] [] (by (try simp only [g235]) <;> simp only [push_cast, seval]) (by (try simp only [g235]) <;> simp only [push_cast, seval]) rfl rfl rfl)
                · refine rs 3 [] [] (by kernel_rfl) allP_nil ?_
                  refine rf [(0, .v (.string s)), (5, .v (.int .u8 (((s).data.getD ((0 : Int)).toNat 0).toNat : Int))), (8, iS (IntKind.i64.wrap (IntKind.u8.wrap (((BitVec.ofInt (IntKind.u8).bits (ix utf8First (((s).data.getD ((0 : Int)).toNat 0).toNat : Int)).v &&& BitVec.ofInt (IntKind.u8).bits 7).toNat : Nat) : Int)))), (10, .v (.int .u8 (((s).data.getD ((1 : Int)).toNat 0).toNat : Int))), (11, .v (.int .u8 (((s).data.getD ((2 : Int)).toNat 0).toNat : Int))), (75, bS (decide ((191 : Int) < (((s).data.getD ((2 : Int)).toNat 0).toNat : Int))))] [(0, .row 54 (Enc.cells (ix utf8Accept (Int.fdiv (ix utf8First (((s).data.getD ((0 : Int)).toNat 0).toNat : Int)).v (2 ^ (min ((4 : Int)).toNat (IntKind.u8).bits))))))] 1 (by kernel_rfl) ?_
                  exact hK234 () _ _ _ trivial (leSt_m [(0, 0)] [] (by (try simp only [g235]) <;> simp only [push_cast, seval]) (by (try simp only [g235]) <;> simp only [push_cast, seval]) rfl rfl rfl)
              · dsimp only
                refine cond_sx h (by kernel_rfl) (fun g248 h => ?_) (fun g248 h => ?_)
                · refine seq_np ?_
                  refine reg_f ?_
                  refine rs 2 [] [] (by kernel_rfl) allP_nil ?_
                  refine rf [(2, .v (.int .i32 65533)), (3, iS 1)] [(0, .row 54 (Enc.cells (ix utf8Accept (Int.fdiv (ix utf8First (((s).data.getD ((0 : Int)).toNat 0).toNat : Int)).v (2 ^ (min ((4 : Int)).toNat (IntKind.u8).bits))))))] 1 (by kernel_rfl) ?_
                  refine wk_id ?_
                  obtain rfl := Option.some.inj h
                  refine ret_at (.tup [.v (.int .i32 65533), iS 1]) (by kernel_rfl) ?_
                  exact ret_e [] [] (by simp only [push_cast, seval]) (by simp only [push_cast, seval]) rfl rfl rfl
                · refine wk_id ?_
                  refine seq_np ?_
                  refine seq_np ?_
                  refine reg_f ?_
                  refine rs 2 [] [] (by kernel_rfl) allP_nil ?_
                  refine rf [(0, .v (.string s)), (5, .v (.int .u8 (((s).data.getD ((0 : Int)).toNat 0).toNat : Int))), (10, .v (.int .u8 (((s).data.getD ((1 : Int)).toNat 0).toNat : Int))), (11, .v (.int .u8 (((s).data.getD ((2 : Int)).toNat 0).toNat : Int))), (77, bS (decide ((IntKind.i64.wrap (IntKind.u8.wrap (((BitVec.ofInt (IntKind.u8).bits (ix utf8First (((s).data.getD ((0 : Int)).toNat 0).toNat : Int)).v &&& BitVec.ofInt (IntKind.u8).bits 7).toNat : Nat) : Int))) ≤ 3)))] [(0, .row 54 (Enc.cells (ix utf8Accept (Int.fdiv (ix utf8First (((s).data.getD ((0 : Int)).toNat 0).toNat : Int)).v (2 ^ (min ((4 : Int)).toNat (IntKind.u8).bits))))))] 1 (by kernel_rfl) ?_
                  refine wk_id ?_
                  refine cond_sx h (by kernel_rfl) (fun g247 h => ?_) (fun g247 h => ?_)
                  · refine seq_np ?_
                    refine reg_f ?_
                    refine rs 15 [] [] (by kernel_rfl) allP_nil ?_
                    refine rf [(2, .v (.int .i32 (IntKind.i32.wrap (((BitVec.ofInt (IntKind.i32).bits (IntKind.i32.wrap (((BitVec.ofInt (IntKind.i32).bits (IntKind.i32.wrap ((IntKind.i32.wrap (IntKind.u8.wrap (((BitVec.ofInt (IntKind.u8).bits (((s).data.getD ((0 : Int)).toNat 0).toNat : Int) &&& BitVec.ofInt (IntKind.u8).bits 15).toNat : Nat) : Int))) * 2 ^ (min ((12 : Int)).toNat (IntKind.i32).bits))) ||| BitVec.ofInt (IntKind.i32).bits (IntKind.i32.wrap ((IntKind.i32.wrap (IntKind.u8.wrap (((BitVec.ofInt (IntKind.u8).bits (((s).data.getD ((1 : Int)).toNat 0).toNat : Int) &&& BitVec.ofInt (IntKind.u8).bits 63).toNat : Nat) : Int))) * 2 ^ (min ((6 : Int)).toNat (IntKind.i32).bits)))).toNat : Nat) : Int)) ||| BitVec.ofInt (IntKind.i32).bits (IntKind.i32.wrap (IntKind.u8.wrap (((BitVec.ofInt (IntKind.u8).bits (((s).data.getD ((2 : Int)).toNat 0).toNat : Int) &&& BitVec.ofInt (IntKind.u8).bits 63).toNat : Nat) : Int)))).toNat : Nat) : Int)))), (3, iS 3)] [(0, .row 54 (Enc.cells (ix utf8Accept (Int.fdiv (ix utf8First (((s).data.getD ((0 : Int)).toNat 0).toNat : Int)).v (2 ^ (min ((4 : Int)).toNat (IntKind.u8).bits))))))] 1 (by kernel_rfl) ?_
                    refine wk_id ?_
                    obtain rfl := Option.some.inj h
                    refine ret_at (.tup [.v (.int .i32 (IntKind.i32.wrap (((BitVec.ofInt (IntKind.i32).bits (IntKind.i32.wrap (((BitVec.ofInt (IntKind.i32).bits (IntKind.i32.wrap ((IntKind.i32.wrap (IntKind.u8.wrap (((BitVec.ofInt (IntKind.u8).bits (((s).data.getD ((0 : Int)).toNat 0).toNat : Int) &&& BitVec.ofInt (IntKind.u8).bits 15).toNat : Nat) : Int))) * 2 ^ (min ((12 : Int)).toNat (IntKind.i32).bits))) ||| BitVec.ofInt (IntKind.i32).bits (IntKind.i32.wrap ((IntKind.i32.wrap (IntKind.u8.wrap (((BitVec.ofInt (IntKind.u8).bits (((s).data.getD ((1 : Int)).toNat 0).toNat : Int) &&& BitVec.ofInt (IntKind.u8).bits 63).toNat : Nat) : Int))) * 2 ^ (min ((6 : Int)).toNat (IntKind.i32).bits)))).toNat : Nat) : Int)) ||| BitVec.ofInt (IntKind.i32).bits (IntKind.i32.wrap (IntKind.u8.wrap (((BitVec.ofInt (IntKind.u8).bits (((s).data.getD ((2 : Int)).toNat 0).toNat : Int) &&& BitVec.ofInt (IntKind.u8).bits 63).toNat : Nat) : Int)))).toNat : Nat) : Int))), iS 3]) (by kernel_rfl) ?_
                    exact ret_e [] [] (by simp only [push_cast, seval]) (by simp only [push_cast, seval]) rfl rfl rfl
                  · refine wk_id ?_
                    refine chk_sx h (fun g240 h => ?_)
                    refine seq_np ?_
                    refine reg_f ?_
                    have k239 : 0 ≤ (3 : Int) ∧ (3 : Int) < (((s).size : Nat) : Int) := by first | simpa only [Bool.and_eq_true, decide_eq_true_eq, bne_iff_ne, ne_eq] using g240 | (simp at g240 ⊢; omega)
                    refine rs 3 [none, some ⟨.v (.int .u8 (((s).data.getD ((3 : Int)).toNat 0).toNat : Int)), [], 1, []⟩] _ (by kernel_rfl) (allP_cons (ob_p (v := .v (.int .u8 (((s).data.getD ((3 : Int)).toNat 0).toNat : Int))) (nx := 1) (r := []) k239) allP_nil) ?_
                    refine rf [(5, .v (.int .u8 (((s).data.getD ((0 : Int)).toNat 0).toNat : Int))), (10, .v (.int .u8 (((s).data.getD ((1 : Int)).toNat 0).toNat : Int))), (11, .v (.int .u8 (((s).data.getD ((2 : Int)).toNat 0).toNat : Int))), (12, .v (.int .u8 (((s).data.getD ((3 : Int)).toNat 0).toNat : Int)))] [(0, .row 54 (Enc.cells (ix utf8Accept (Int.fdiv (ix utf8First (((s).data.getD ((0 : Int)).toNat 0).toNat : Int)).v (2 ^ (min ((4 : Int)).toNat (IntKind.u8).bits))))))] 1 (by kernel_rfl) ?_
                    refine wk_id ?_
                    refine seq_np ?_
                    refine seq_cut (A := Unit) (fun _ => ([(5, .v (.int .u8 (((s).data.getD ((0 : Int)).toNat 0).toNat : Int))), (10, .v (.int .u8 (((s).data.getD ((1 : Int)).toNat 0).toNat : Int))), (11, .v (.int .u8 (((s).data.getD ((2 : Int)).toNat 0).toNat : Int))), (12, .v (.int .u8 (((s).data.getD ((3 : Int)).toNat 0).toNat : Int))), (98, bS ((decide ((((s).data.getD ((3 : Int)).toNat 0).toNat : Int) < 128)) || (decide ((191 : Int) < (((s).data.getD ((3 : Int)).toNat 0).toNat : Int)))))], [(0, .row 54 (Enc.cells (ix utf8Accept (Int.fdiv (ix utf8First (((s).data.getD ((0 : Int)).toNat 0).toNat : Int)).v (2 ^ (min ((4 : Int)).toNat (IntKind.u8).bits))))))], 1)) (fun _ => True) (fun K244 hK244 => ?_) (fun _ _ => ?_)
                    · refine reg_f ?_
                      refine rs 3 [] [] (by kernel_rfl) allP_nil ?_
                      refine run_split 95 (decide ((((s).data.getD ((3 : Int)).toNat 0).toNat : Int) < 128)) (.inl (by kernel_rfl)) (fun g245 => ?_) (fun g245 => ?_)
                      · refine rs 3 [] [] (by kernel_rfl) allP_nil ?_
                        refine rf [(5, .v (.int .u8 (((s).data.getD ((0 : Int)).toNat 0).toNat : Int))), (10, .v (.int .u8 (((s).data.getD ((1 : Int)).toNat 0).toNat : Int))), (11, .v (.int .u8 (((s).data.getD ((2 : Int)).toNat 0).toNat : Int))), (12, .v (.int .u8 (((s).data.getD ((3 : Int)).toNat 0).toNat : Int))), (98, bS true)] [(0, .row 54 (Enc.cells (ix utf8Accept (Int.fdiv (ix utf8First (((s).data.getD ((0 : Int)).toNat 0).toNat : Int)).v (2 ^ (min ((4 : Int)).toNat (IntKind.u8).bits))))))] 1 (by kernel_rfl) ?_
                        exact hK244 () _ _ _ trivial (leSt_m [(0, 0)] [] (by (try simp only [g245]) <;> simp only [push_cast, seval]) (by (try simp only [g245]) <;> simp only [push_cast, seval]) rfl rfl rfl)
                      · refine rs 3 [] [] (by kernel_rfl) allP_nil ?_
                        refine rf [(5, .v (.int .u8 (((s).data.getD ((0 : Int)).toNat 0).toNat : Int))), (10, .v (.int .u8 (((s).data.getD ((1 : Int)).toNat 0).toNat : Int))), (11, .v (.int .u8 (((s).data.getD ((2 : Int)).toNat 0).toNat : Int))), (12, .v (.int .u8 (((s).data.getD ((3 : Int)).toNat 0).toNat : Int))), (98, bS (decide ((191 : Int) < (((s).data.getD ((3 : Int)).toNat 0).toNat : Int))))] [(0, .row 54 (Enc.cells (ix utf8Accept (Int.fdiv (ix utf8First (((s).data.getD ((0 : Int)).toNat 0).toNat : Int)).v (2 ^ (min ((4 : Int)).toNat (IntKind.u8).bits))))))] 1 (by kernel_rfl) ?_
                        exact hK244 () _ _ _ trivial (leSt_m [(0, 0)] [] (by (try simp only [g245]) <;> simp only [push_cast, seval]) (by (try simp only [g245]) <;> simp only [push_cast, seval]) rfl rfl rfl)
                    · dsimp only
                      refine cond_sx h (by kernel_rfl) (fun g246 h => ?_) (fun g246 h => ?_)
                      · refine seq_np ?_
                        refine reg_f ?_
                        refine rs 2 [] [] (by kernel_rfl) allP_nil ?_
                        refine rf [(2, .v (.int .i32 65533)), (3, iS 1)] [(0, .row 54 (Enc.cells (ix utf8Accept (Int.fdiv (ix utf8First (((s).data.getD ((0 : Int)).toNat 0).toNat : Int)).v (2 ^ (min ((4 : Int)).toNat (IntKind.u8).bits))))))] 1 (by kernel_rfl) ?_
                        refine wk_id ?_
                        obtain rfl := Option.some.inj h
                        refine ret_at (.tup [.v (.int .i32 65533), iS 1]) (by kernel_rfl) ?_
                        exact ret_e [] [] (by simp only [push_cast, seval]) (by simp only [push_cast, seval]) rfl rfl rfl
                      · refine wk_id ?_
                        refine seq_np ?_
                        refine reg_f ?_
                        refine rs 20 [] [] (by kernel_rfl) allP_nil ?_
                        refine rf [(2, .v (.int .i32 (IntKind.i32.wrap (((BitVec.ofInt (IntKind.i32).bits (IntKind.i32.wrap (((BitVec.ofInt (IntKind.i32).bits (IntKind.i32.wrap (((BitVec.ofInt (IntKind.i32).bits (IntKind.i32.wrap ((IntKind.i32.wrap (IntKind.u8.wrap (((BitVec.ofInt (IntKind.u8).bits (((s).data.getD ((0 : Int)).toNat 0).toNat : Int) &&& BitVec.ofInt (IntKind.u8).bits 7).toNat : Nat) : Int))) * 2 ^ (min ((18 : Int)).toNat (IntKind.i32).bits))) ||| BitVec.ofInt (IntKind.i32).bits (IntKind.i32.wrap ((IntKind.i32.wrap (IntKind.u8.wrap (((BitVec.ofInt (IntKind.u8).bits (((s).data.getD ((1 : Int)).toNat 0).toNat : Int) &&& BitVec.ofInt (IntKind.u8).bits 63).toNat : Nat) : Int))) * 2 ^ (min ((12 : Int)).toNat (IntKind.i32).bits)))).toNat : Nat) : Int)) ||| BitVec.ofInt (IntKind.i32).bits (IntKind.i32.wrap ((IntKind.i32.wrap (IntKind.u8.wrap (((BitVec.ofInt (IntKind.u8).bits (((s).data.getD ((2 : Int)).toNat 0).toNat : Int) &&& BitVec.ofInt (IntKind.u8).bits 63).toNat : Nat) : Int))) * 2 ^ (min ((6 : Int)).toNat (IntKind.i32).bits)))).toNat : Nat) : Int)) ||| BitVec.ofInt (IntKind.i32).bits (IntKind.i32.wrap (IntKind.u8.wrap (((BitVec.ofInt (IntKind.u8).bits (((s).data.getD ((3 : Int)).toNat 0).toNat : Int) &&& BitVec.ofInt (IntKind.u8).bits 63).toNat : Nat) : Int)))).toNat : Nat) : Int)))), (3, iS 4)] [(0, .row 54 (Enc.cells (ix utf8Accept (Int.fdiv (ix utf8First (((s).data.getD ((0 : Int)).toNat 0).toNat : Int)).v (2 ^ (min ((4 : Int)).toNat (IntKind.u8).bits))))))] 1 (by kernel_rfl) ?_
                        refine wk_id ?_
                        obtain rfl := Option.some.inj h
                        refine ret_at (.tup [.v (.int .i32 (IntKind.i32.wrap (((BitVec.ofInt (IntKind.i32).bits (IntKind.i32.wrap (((BitVec.ofInt (IntKind.i32).bits (IntKind.i32.wrap (((BitVec.ofInt (IntKind.i32).bits (IntKind.i32.wrap ((IntKind.i32.wrap (IntKind.u8.wrap (((BitVec.ofInt (IntKind.u8).bits (((s).data.getD ((0 : Int)).toNat 0).toNat : Int) &&& BitVec.ofInt (IntKind.u8).bits 7).toNat : Nat) : Int))) * 2 ^ (min ((18 : Int)).toNat (IntKind.i32).bits))) ||| BitVec.ofInt (IntKind.i32).bits (IntKind.i32.wrap ((IntKind.i32.wrap (IntKind.u8.wrap (((BitVec.ofInt (IntKind.u8).bits (((s).data.getD ((1 : Int)).toNat 0).toNat : Int) &&& BitVec.ofInt (IntKind.u8).bits 63).toNat : Nat) : Int))) * 2 ^ (min ((12 : Int)).toNat (IntKind.i32).bits)))).toNat : Nat) : Int)) ||| BitVec.ofInt (IntKind.i32).bits (IntKind.i32.wrap ((IntKind.i32.wrap (IntKind.u8.wrap (((BitVec.ofInt (IntKind.u8).bits (((s).data.getD ((2 : Int)).toNat 0).toNat : Int) &&& BitVec.ofInt (IntKind.u8).bits 63).toNat : Nat) : Int))) * 2 ^ (min ((6 : Int)).toNat (IntKind.i32).bits)))).toNat : Nat) : Int)) ||| BitVec.ofInt (IntKind.i32).bits (IntKind.i32.wrap (IntKind.u8.wrap (((BitVec.ofInt (IntKind.u8).bits (((s).data.getD ((3 : Int)).toNat 0).toNat : Int) &&& BitVec.ofInt (IntKind.u8).bits 63).toNat : Nat) : Int)))).toNat : Nat) : Int))), iS 4]) (by kernel_rfl) ?_
                        exact ret_e [] [] (by simp only [push_cast, seval]) (by simp only [push_cast, seval]) rfl rfl rfl

set_option maxRecDepth 100000 in
set_option maxHeartbeats 200000000 in
theorem utf8_DecodeRuneInString_spec (s : ByteArray) (r : Int × Int) (h : utf8_DecodeRuneInString s = some r) : SpecW Tryd.prog 16 [.v (.string s)] [] 0 (fun x h n => x = .tup [.v (.int .i32 r.1), iS r.2] ∧ h = [] ∧ n = 0) := by
  unfold utf8_DecodeRuneInString at h
  refine spec_of (draw_ok _) Tryd.func16 rfl (by decide) rfl (by kernel_rfl) ?_
  refine seq_np ?_
  refine reg_f ?_
  refine rs 2 [] [] (by kernel_rfl) allP_nil ?_
  refine rf [(0, .v (.string s))] [] 0 (by kernel_rfl) ?_
  refine wk_id ?_
  refine seq_np ?_
  refine chk_sx h (fun g269 h => ?_)
  refine seq_cut (A := Unit) (fun _ => ([(0, .v (.string s)), (10, bS ((!decide (s = ByteArray.empty)) && (decide ((((s).data.getD ((0 : Int)).toNat 0).toNat : Int) < 128))))], [], 0)) (fun _ => True) (fun K266 hK266 => ?_) (fun _ _ => ?_)
  · refine reg_f ?_
    refine rs 3 [none, some ⟨bS (!decide (s = ByteArray.empty)), [], 0, []⟩] _ (by kernel_rfl) (allP_cons (ob_p (v := bS (!decide (s = ByteArray.empty))) (nx := 0) (r := []) trivial) allP_nil) ?_
    refine run_split 6 (!decide (s = ByteArray.empty)) (.inl (by kernel_rfl)) (fun g267 => ?_) (fun g267 => ?_)
    · have k268 : 0 ≤ (0 : Int) ∧ (0 : Int) < (((s).size : Nat) : Int) := by have e := or_use g269 (by first | ((try simp only [g267]) <;> rfl) | ((try simp only [g267]); rfl) | (exfalso; clear h; simp_all; done)); first | simpa only [Bool.and_eq_true, decide_eq_true_eq, bne_iff_ne, ne_eq] using e | (simp at e ⊢; omega)
      refine rs 4 [none, some ⟨.v (.int .u8 (((s).data.getD ((0 : Int)).toNat 0).toNat : Int)), [], 0, []⟩] _ (by kernel_rfl) (allP_cons (ob_p (v := .v (.int .u8 (((s).data.getD ((0 : Int)).toNat 0).toNat : Int))) (nx := 0) (r := []) k268) allP_nil) ?_
      refine rf [(0, .v (.string s)), (10, bS (decide ((((s).data.getD ((0 : Int)).toNat 0).toNat : Int) < 128)))] [] 0 (by kernel_rfl) ?_
      exact hK266 () _ _ _ trivial (leSt_m [] [] (by (try simp only [g267]) <;> simp only [push_cast, seval]) (by (try simp only [g267]) <;> simp only [push_cast, seval]) rfl rfl rfl)
    · refine rs 4 [] [] (by kernel_rfl) allP_nil ?_
      refine rf [(0, .v (.string s)), (10, bS false)] [] 0 (by kernel_rfl) ?_
      exact hK266 () _ _ _ trivial (leSt_m [] [] (by (try simp only [g267]) <;> simp only [push_cast, seval]) (by (try simp only [g267]) <;> simp only [push_cast, seval]) rfl rfl rfl)
  · dsimp only
    refine cond_sx h (by kernel_rfl) (fun g276 h => ?_) (fun g276 h => ?_)
    · refine chk_sx h (fun g273 h => ?_)
      refine seq_np ?_
      refine reg_f ?_
      have k272 : 0 ≤ (0 : Int) ∧ (0 : Int) < (((s).size : Nat) : Int) := by first | simpa only [Bool.and_eq_true, decide_eq_true_eq, bne_iff_ne, ne_eq] using g273 | (simp at g273 ⊢; omega)
      refine rs 5 [none, some ⟨.v (.int .u8 (((s).data.getD ((0 : Int)).toNat 0).toNat : Int)), [], 0, []⟩] _ (by kernel_rfl) (allP_cons (ob_p (v := .v (.int .u8 (((s).data.getD ((0 : Int)).toNat 0).toNat : Int))) (nx := 0) (r := []) k272) allP_nil) ?_
      refine rf [(2, .v (.int .i32 (IntKind.i32.wrap (((s).data.getD ((0 : Int)).toNat 0).toNat : Int)))), (3, iS 1)] [] 0 (by kernel_rfl) ?_
      refine wk_id ?_
      obtain rfl := Option.some.inj h
      refine ret_at (.tup [.v (.int .i32 (IntKind.i32.wrap (((s).data.getD ((0 : Int)).toNat 0).toNat : Int))), iS 1]) (by kernel_rfl) ?_
      exact ret_e [] [] (by simp only [push_cast, seval]) (by simp only [push_cast, seval]) rfl rfl rfl
    · refine reg_f ?_
      refine rs 1 [] [] (by kernel_rfl) allP_nil ?_
      obtain ⟨r275, hr275, h⟩ := bind_sx h
      refine run_call 19 [.v (.string s)] (some 16) (by kernel_rfl) ?_
      refine call_0 (utf8_decodeRuneInStringSlow_spec s r275 hr275) (by simp only [push_cast, seval]) (by simp only [push_cast, seval]) ?_
      refine back_f ?_
      refine rs 5 [] [] (by kernel_rfl) allP_nil ?_
      refine rf [(2, .v (.int .i32 r275.1)), (3, iS r275.2)] [] 0 (by kernel_rfl) ?_
      refine wk_id ?_
      obtain rfl := Option.some.inj h
      refine ret_at (.tup [.v (.int .i32 r275.1), iS r275.2]) (by kernel_rfl) ?_
      exact ret_e [] [] (by simp only [push_cast, seval]) (by simp only [push_cast, seval]) rfl rfl rfl

set_option maxRecDepth 100000 in
set_option maxHeartbeats 200000000 in
theorem utf_Valid_spec (text : ByteArray) (r : Bool × Int × Fault) (h : utf_Valid text = some r) : SpecW Tryd.prog 8 [.v (.string text)] [] 0 (fun x h n => x = .tup [bS r.1, iS r.2.1, .agg (Enc.cells r.2.2)] ∧ h = [] ∧ n = 0) := by
  unfold utf_Valid at h
  refine spec_of (draw_ok _) Tryd.func8 rfl (by decide) rfl (by kernel_rfl) ?_
  refine seq_np ?_
  refine reg_f ?_
  refine rs 3 [] [] (by kernel_rfl) allP_nil ?_
  refine rf [(0, .v (.string text)), (4, .ptr 0 0)] [(0, .row 25 [iS 0, iS 0])] 1 (by kernel_rfl) ?_
  refine wk_id ?_
  refine seq_np ?_
  refine seq_np ?_
  refine reg_f ?_
  refine rs 3 [] [] (by kernel_rfl) allP_nil ?_
  refine rf [(0, .v (.string text)), (4, .ptr 0 0), (10, bS (decide ((20000 : Int) < (((text).size : Nat) : Int))))] [(0, .row 25 [iS 0, iS 0])] 1 (by kernel_rfl) ?_
  refine wk_id ?_
  refine cond_sx h (by kernel_rfl) (fun g362 h => ?_) (fun g362 h => ?_)
  · refine seq_np ?_
    refine reg_f ?_
    obtain ⟨r296, hr296, h⟩ := bind_sx h
    refine run_call 15 [iS 2, iS 0] (some 11) (by kernel_rfl) ?_
    refine call_0 (utf_fault_spec 2 0 r296 hr296) (by simp only [push_cast, seval]) (by simp only [push_cast, seval]) ?_
    refine back_f ?_
    refine rs 3 [] [] (by kernel_rfl) allP_nil ?_
    refine rf [(2, bS false), (3, iS 0), (4, .ptr 0 0)] [(0, .row 25 (Enc.cells r296))] 1 (by kernel_rfl) ?_
    refine wk_id ?_
    obtain rfl := Option.some.inj h
    refine ret_at (.tup [bS false, iS 0, .agg (Enc.cells r296)]) (by kernel_rfl) ?_
    exact ret_e [] [] (by simp only [push_cast, seval]) (by simp only [push_cast, seval]) rfl rfl rfl
  · refine wk_id ?_
    refine seq_np ?_
    refine seq_np ?_
    refine reg_f ?_
    refine rs 1 [] [] (by kernel_rfl) allP_nil ?_
    refine rf [(0, .v (.string text)), (4, .ptr 0 0), (5, iS 0)] [(0, .row 25 [iS 0, iS 0])] 1 (by kernel_rfl) ?_
    refine wk_id ?_
    refine block_np ?_
    refine loop_sx (S := Int) (fun a => ([(0, .v (.string text)), (4, .ptr 0 0), (5, iS a)], [(0, .row 25 [iS 0, iS 0])], 1)) h (leSt_m [(0, 0)] [] (by simp only [push_cast, seval]) (by simp only [push_cast, seval]) rfl rfl rfl) ?_
    rintro i7 o2 R2 h hr2 hn2 hx2 ht2
    try dsimp only at h hn2 ⊢
    unfold utf_Valid_l1 at h
    try dsimp only at h
    refine seq_np ?_
    refine seq_np ?_
    refine reg_f ?_
    refine rs 4 [] [] (by kernel_rfl) allP_nil ?_
    refine rf [(0, .v (.string text)), (4, .ptr 0 0), (5, iS i7), (15, bS (decide (i7 < (((text).size : Nat) : Int))))] [(0, .row 25 [iS 0, iS 0])] 1 (by kernel_rfl) ?_
    refine wk_id ?_
    refine cond_sx h (by kernel_rfl) (fun g361 h => ?_) (fun g361 h => ?_)
    · refine wk_id ?_
      refine block_np ?_
      refine chk_sx h (fun g353 h => ?_)
      refine seq_np ?_
      refine reg_f ?_
      have k352 : 0 ≤ i7 ∧ i7 ≤ (((text).size : Nat) : Int) ∧ (((text).size : Nat) : Int) ≤ (((text).size : Nat) : Int) := by first | simpa only [Bool.and_eq_true, decide_eq_true_eq, bne_iff_ne, ne_eq] using g353 | (simp at g353 ⊢; omega)
      refine rs 3 [none, none, some ⟨.v (.string ((text).extract (i7).toNat ((((text).size : Nat) : Int)).toNat)), [], 1, []⟩] _ (by kernel_rfl) (allP_cons (ob_p (v := .v (.string ((text).extract (i7).toNat ((((text).size : Nat) : Int)).toNat))) (nx := 1) (r := []) k352) allP_nil) ?_
      obtain ⟨r354, hr354, h⟩ := bind_sx h
      refine run_call 16 [.v (.string ((text).extract (i7).toNat ((((text).size : Nat) : Int)).toNat))] (some 20) (by kernel_rfl) ?_
      refine call_0 (utf8_DecodeRuneInString_spec ((text).extract (i7).toNat ((((text).size : Nat) : Int)).toNat) r354 hr354) (by simp only [push_cast, seval]) (by simp only [push_cast, seval]) ?_
      refine back_f ?_
      refine rs 5 [] [] (by kernel_rfl) allP_nil ?_
      refine rf [(0, .v (.string text)), (4, .ptr 0 0), (5, iS i7), (6, .v (.int .i32 r354.1)), (7, iS r354.2)] [(0, .row 25 [iS 0, iS 0])] 1 (by kernel_rfl) ?_
      refine wk_id ?_
      refine seq_np ?_
      refine seq_cut (A := Unit) (fun _ => ([(0, .v (.string text)), (4, .ptr 0 0), (5, iS i7), (7, iS r354.2), (28, bS ((r354.1 == 65533) && (r354.2 == 1)))], [(0, .row 25 [iS 0, iS 0])], 1)) (fun _ => True) (fun K358 hK358 => ?_) (fun _ _ => ?_)
      · refine reg_f ?_
        refine rs 3 [] [] (by kernel_rfl) allP_nil ?_
        refine run_split 25 (r354.1 == 65533) (.inl (by kernel_rfl)) (fun g359 => ?_) (fun g359 => ?_)
        · refine rs 3 [] [] (by kernel_rfl) allP_nil ?_
          refine rf [(0, .v (.string text)), (4, .ptr 0 0), (5, iS i7), (7, iS r354.2), (28, bS (r354.2 == 1))] [(0, .row 25 [iS 0, iS 0])] 1 (by kernel_rfl) ?_
          exact hK358 () _ _ _ trivial (leSt_m [(0, 0)] [] (by (try simp only [g359]) <;> simp only [push_cast, seval]) (by (try simp only [g359]) <;> simp only [push_cast, seval]) rfl rfl rfl)
        · refine rs 3 [] [] (by kernel_rfl) allP_nil ?_
          refine rf [(0, .v (.string text)), (4, .ptr 0 0), (5, iS i7), (7, iS r354.2), (28, bS false)] [(0, .row 25 [iS 0, iS 0])] 1 (by kernel_rfl) ?_
          exact hK358 () _ _ _ trivial (leSt_m [(0, 0)] [] (by (try simp only [g359]) <;> simp only [push_cast, seval]) (by (try simp only [g359]) <;> simp only [push_cast, seval]) rfl rfl rfl)
      · dsimp only
        refine cond_sx h (by kernel_rfl) (fun g360 h => ?_) (fun g360 h => ?_)
        · refine seq_np ?_
          refine reg_f ?_
          refine rs 5 [] [] (by kernel_rfl) allP_nil ?_
          refine rf [(2, bS false), (3, iS i7), (4, .ptr 0 0)] [(0, .row 25 [iS 0, iS 0])] 1 (by kernel_rfl) ?_
          refine wk_id ?_
          refine rt_cast ht2 ?_
          obtain ⟨r0, h, e0⟩ := map_sx h
          have e1 := hr2 r0 e0.symm
          subst r0
          obtain rfl := Option.some.inj h
          refine ret_at (.tup [bS false, iS i7, .agg [iS 0, iS 0]]) (by kernel_rfl) ?_
          exact ret_e [] [] (by simp only [push_cast, seval]) (by simp only [push_cast, seval]) rfl rfl rfl
        · refine wk_id ?_
          refine reg_f ?_
          refine rs 4 [] [] (by kernel_rfl) allP_nil ?_
          refine rf [(0, .v (.string text)), (4, .ptr 0 0), (5, iS (IntKind.i64.wrap (i7 + r354.2)))] [(0, .row 25 [iS 0, iS 0])] 1 (by kernel_rfl) ?_
          refine wk_id ?_
          exact hn2 ((IntKind.i64.wrap (i7 + r354.2))) _ _ _ (Option.some.inj h).symm (leSt_m [(0, 0)] [] (by simp only [push_cast, seval]) (by simp only [push_cast, seval]) rfl rfl rfl)
    · change R2 (.exit 0) _ _ _
      refine ex_cast hx2 (id := 0) ?_
      obtain ⟨r0, h, e0⟩ := map_sx h
      have e1 := hr2 r0 e0.symm
      subst r0
      refine wk_id ?_
      refine wk_id ?_
      refine seq_np ?_
      refine reg_f ?_
      refine rs 4 [] [] (by kernel_rfl) allP_nil ?_
      refine rf [(2, bS true), (3, iS 0), (4, .ptr 0 0)] [(0, .row 25 [iS 0, iS 0])] 1 (by kernel_rfl) ?_
      refine wk_id ?_
      obtain rfl := Option.some.inj h
      refine ret_at (.tup [bS true, iS 0, .agg [iS 0, iS 0]]) (by kernel_rfl) ?_
      exact ret_e [] [] (by simp only [push_cast, seval]) (by simp only [push_cast, seval]) rfl rfl rfl

set_option maxRecDepth 100000 in
set_option maxHeartbeats 200000000 in
theorem taskmillref_IsLetter_spec (n : Int) (r : Bool) (h : taskmillref_IsLetter n = some r) : SpecW Tryd.prog 12 [iS n] [] 0 (fun x h n => x = bS r ∧ h = [] ∧ n = 0) := by
  unfold taskmillref_IsLetter at h
  refine spec_of (draw_ok _) Tryd.func12 rfl (by decide) rfl (by kernel_rfl) ?_
  refine seq_np ?_
  refine reg_f ?_
  refine rs 1 [] [] (by kernel_rfl) allP_nil ?_
  refine rf [(0, iS n)] [] 0 (by kernel_rfl) ?_
  refine wk_id ?_
  refine seq_cut (A := Unit) (fun _ => ([(2, bS ((decide ((0 : Int) ≤ n)) && ((decide (n ≤ 1114111)) && ((!(decide ((55296 : Int) ≤ n))) || (!(decide (n ≤ 57343)))))))], [], 0)) (fun _ => True) (fun K384 hK384 => ?_) (fun _ _ => ?_)
  · refine reg_f ?_
    refine rs 3 [] [] (by kernel_rfl) allP_nil ?_
    refine run_split 5 (decide ((0 : Int) ≤ n)) (.inl (by kernel_rfl)) (fun g385 => ?_) (fun g385 => ?_)
    · refine rs 4 [] [] (by kernel_rfl) allP_nil ?_
      refine run_split 9 (decide (n ≤ 1114111)) (.inl (by kernel_rfl)) (fun g386 => ?_) (fun g386 => ?_)
      · refine rs 3 [] [] (by kernel_rfl) allP_nil ?_
        refine run_split 12 (decide ((55296 : Int) ≤ n)) (.inr (by kernel_rfl)) (fun g387 => ?_) (fun g387 => ?_)
        · refine rn 10 [(0, iS n), (9, bS true), (12, .gd true (bS true))] [] 0 (by kernel_rfl) ?_
          refine rs 6 [] [] (by kernel_rfl) allP_nil ?_
          refine rf [(2, bS (!(decide (n ≤ 57343))))] [] 0 (by kernel_rfl) ?_
          exact hK384 () _ _ _ trivial (leSt_m [] [] (by first | ((try simp only [g385, g386, g387]) <;> simp only [push_cast, seval]; done) | ((try simp only [g385]); (try simp only [g386]); (try simp only [g387]); simp only [push_cast, seval]; done) | (exfalso; clear h; simp_all; done)) (by first | ((try simp only [g385, g386, g387]) <;> simp only [push_cast, seval]; done) | ((try simp only [g385]); (try simp only [g386]); (try simp only [g387]); simp only [push_cast, seval]; done) | (exfalso; clear h; simp_all; done)) rfl rfl rfl)
        · refine rn 10 [(0, iS n), (9, bS true), (12, .gd true (bS false))] [] 0 (by kernel_rfl) ?_
          refine rs 6 [] [] (by kernel_rfl) allP_nil ?_
          refine rf [(2, bS true)] [] 0 (by kernel_rfl) ?_
          exact hK384 () _ _ _ trivial (leSt_m [] [] (by first | ((try simp only [g385, g386, g387]) <;> simp only [push_cast, seval]; done) | ((try simp only [g385]); (try simp only [g386]); (try simp only [g387]); simp only [push_cast, seval]; done) | (exfalso; clear h; simp_all; done)) (by first | ((try simp only [g385, g386, g387]) <;> simp only [push_cast, seval]; done) | ((try simp only [g385]); (try simp only [g386]); (try simp only [g387]); simp only [push_cast, seval]; done) | (exfalso; clear h; simp_all; done)) rfl rfl rfl)
      · refine rs 9 [] [] (by kernel_rfl) allP_nil ?_
        refine rf [(2, bS false)] [] 0 (by kernel_rfl) ?_
        exact hK384 () _ _ _ trivial (leSt_m [] [] (by first | ((try simp only [g385, g386]) <;> simp only [push_cast, seval]; done) | ((try simp only [g385]); (try simp only [g386]); simp only [push_cast, seval]; done) | (exfalso; clear h; simp_all; done)) (by first | ((try simp only [g385, g386]) <;> simp only [push_cast, seval]; done) | ((try simp only [g385]); (try simp only [g386]); simp only [push_cast, seval]; done) | (exfalso; clear h; simp_all; done)) rfl rfl rfl)
    · refine rs 13 [] [] (by kernel_rfl) allP_nil ?_
      refine rf [(2, bS false)] [] 0 (by kernel_rfl) ?_
      exact hK384 () _ _ _ trivial (leSt_m [] [] (by (try simp only [g385]) <;> simp only [push_cast, seval]) (by (try simp only [g385]) <;> simp only [push_cast, seval]) rfl rfl rfl)
  · dsimp only
    obtain rfl := Option.some.inj h
    refine ret_at (bS ((decide ((0 : Int) ≤ n)) && ((decide (n ≤ 1114111)) && ((!(decide ((55296 : Int) ≤ n))) || (!(decide (n ≤ 57343))))))) (by kernel_rfl) ?_
    exact ret_e [] [] (by simp only [push_cast, seval]) (by simp only [push_cast, seval]) rfl rfl rfl

set_option maxRecDepth 100000 in
set_option maxHeartbeats 200000000 in
theorem utf_Write_spec (letters : (List Int)) (r : ByteArray × Fault) (h : utf_Write letters = some r) : SpecW Tryd.prog 13 [.sl letters.length (fl letters)] [] 0 (fun x h n => x = .tup [.v (.string r.1), .agg (Enc.cells r.2)] ∧ h = [] ∧ n = 0) := by
  unfold utf_Write at h
  refine spec_of (draw_ok _) Tryd.func13 rfl (by decide) rfl (by kernel_rfl) ?_
  refine seq_np ?_
  refine reg_f ?_
  refine rs 2 [] [] (by kernel_rfl) allP_nil ?_
  refine rf [(0, .sl letters.length (fl letters)), (3, .ptr 0 0)] [(0, .row 25 [iS 0, iS 0])] 1 (by kernel_rfl) ?_
  refine wk_id ?_
  refine seq_np ?_
  refine seq_np ?_
  refine reg_f ?_
  refine rs 3 [] [] (by kernel_rfl) allP_nil ?_
  refine rf [(0, .sl letters.length (fl letters)), (3, .ptr 0 0), (9, bS (decide ((5000 : Int) < ((letters.length : Nat) : Int))))] [(0, .row 25 [iS 0, iS 0])] 1 (by kernel_rfl) ?_
  refine wk_id ?_
  refine cond_sx h (by kernel_rfl) (fun g1443 h => ?_) (fun g1443 h => ?_)
  · refine seq_np ?_
    refine reg_f ?_
    obtain ⟨r1307, hr1307, h⟩ := bind_sx h
    refine run_call 15 [iS 2, iS 0] (some 10) (by kernel_rfl) ?_
    refine call_0 (utf_fault_spec 2 0 r1307 hr1307) (by simp only [push_cast, seval]) (by simp only [push_cast, seval]) ?_
    refine back_f ?_
    refine rs 2 [] [] (by kernel_rfl) allP_nil ?_
    refine rf [(2, .v (.string ByteArray.empty)), (3, .ptr 0 0)] [(0, .row 25 (Enc.cells r1307))] 1 (by kernel_rfl) ?_
    refine wk_id ?_
    obtain rfl := Option.some.inj h
    refine ret_at (.tup [.v (.string ByteArray.empty), .agg (Enc.cells r1307)]) (by kernel_rfl) ?_
    exact ret_e [] [] (by simp only [push_cast, seval]) (by simp only [push_cast, seval]) rfl rfl rfl
  · refine wk_id ?_
    refine seq_np ?_
    refine reg_f ?_
    refine rs 1 [] [] (by kernel_rfl) allP_nil ?_
    refine rf [(0, .sl letters.length (fl letters)), (3, .ptr 0 0), (4, .v (.slice none 0 0))] [(0, .row 25 [iS 0, iS 0])] 1 (by kernel_rfl) ?_
    refine wk_id ?_
    refine seq_np ?_
    refine seq_np ?_
    refine reg_f ?_
    refine rs 3 [] [] (by kernel_rfl) allP_nil ?_
    refine rf [(3, .ptr 0 0), (4, .v (.slice none 0 0)), (11, .sl letters.length (fl letters)), (12, iS ((letters.length : Nat) : Int)), (13, iS 0)] [(0, .row 25 [iS 0, iS 0])] 1 (by kernel_rfl) ?_
    refine wk_id ?_
    refine block_np ?_
    refine loop_sx (S := Int × (List Ki32)) (fun a => ([(3, .ptr 0 0), (4, .own 1 0 a.2.length), (11, .sl letters.length (fl letters)), (12, iS ((letters.length : Nat) : Int)), (13, iS a.1)], [(0, .row 25 [iS 0, iS 0]), (1, .row 21 (fl a.2))], 2)) h (leSt_m [(0, 0)] [] (by simp only [push_cast, seval]) (by simp only [push_cast, seval]) rfl rfl rfl) ?_
    rintro ⟨t13q7, c1q7⟩ o2 R2 h hr2 hn2 hx2 ht2
    try dsimp only at h hn2 ⊢
    unfold utf_Write_l1 at h
    try dsimp only at h
    refine seq_np ?_
    refine reg_f ?_
    refine rs 1 [] [] (by kernel_rfl) allP_nil ?_
    refine rf [(3, .ptr 0 0), (4, .own 1 0 c1q7.length), (11, .sl letters.length (fl letters)), (12, iS ((letters.length : Nat) : Int)), (13, iS t13q7), (14, bS (decide (t13q7 < ((letters.length : Nat) : Int))))] [(0, .row 25 [iS 0, iS 0]), (1, .row 21 (fl c1q7))] 2 (by kernel_rfl) ?_
    refine wk_id ?_
    refine seq_np ?_
    refine cond_sx h (by kernel_rfl) (fun g1442 h => ?_) (fun g1442 h => ?_)
    · refine wk_id ?_
      refine seq_np ?_
      refine block_np ?_
      refine chk_sx h (fun g1423 h => ?_)
      refine seq_np ?_
      refine reg_f ?_
      have k1422 : 0 ≤ t13q7 ∧ t13q7 < ((letters.length : Nat) : Int) := by first | simpa only [Bool.and_eq_true, decide_eq_true_eq, bne_iff_ne, ne_eq] using g1423 | (simp at g1423 ⊢; omega)
      refine rs 3 [some ⟨.iptr (fl letters) ((t13q7).toNat * 1), [], 2, []⟩, some ⟨iS (ix letters t13q7), [], 2, []⟩] _ (by kernel_rfl) (allP_cons (ob_ld letters t13q7 1 0 ((t13q7).toNat * 1) k1422 rfl (by decide) (by first | rfl | omega) (dflS Tryd.prog 3) (iS (ix letters t13q7)) rfl 2 []) (allP_cons (ob_ix_l letters 1 2 t13q7 k1422) allP_nil)) ?_
      refine rf [(3, .ptr 0 0), (4, .own 1 0 c1q7.length), (6, iS (ix letters t13q7)), (11, .sl letters.length (fl letters)), (12, iS ((letters.length : Nat) : Int)), (13, iS t13q7)] [(0, .row 25 [iS 0, iS 0]), (1, .row 21 (fl c1q7))] 2 (by kernel_rfl) ?_
      refine wk_id ?_
      refine seq_cut (A := Int) (fun a => ([(3, .ptr 0 0), (4, .own 1 0 c1q7.length), (6, iS a), (11, .sl letters.length (fl letters)), (12, iS ((letters.length : Nat) : Int)), (13, iS t13q7)], [(0, .row 25 [iS 0, iS 0]), (1, .row 21 (fl c1q7))], 2)) (fun a => (utf_Write_j1 letters t13q7 c1q7 a) = some o2) (fun K1429 hK1429 => ?_) ?_
      · refine seq_cut (A := Unit) (fun _ => ([(3, .ptr 0 0), (4, .own 1 0 c1q7.length), (6, iS (ix letters t13q7)), (11, .sl letters.length (fl letters)), (12, iS ((letters.length : Nat) : Int)), (13, iS t13q7), (30, bS ((decide ((ix letters t13q7) < 0)) || ((decide ((1114111 : Int) < (ix letters t13q7))) || ((decide ((55296 : Int) ≤ (ix letters t13q7))) && (decide ((ix letters t13q7) ≤ 57343))))))], [(0, .row 25 [iS 0, iS 0]), (1, .row 21 (fl c1q7))], 2)) (fun _ => True) (fun K1433 hK1433 => ?_) (fun _ _ => ?_)
        · refine reg_f ?_
          refine rs 3 [] [] (by kernel_rfl) allP_nil ?_
          refine run_split 19 (decide ((ix letters t13q7) < 0)) (.inl (by kernel_rfl)) (fun g1434 => ?_) (fun g1434 => ?_)
          · refine rs 11 [] [] (by kernel_rfl) allP_nil ?_
            refine rf [(3, .ptr 0 0), (4, .own 1 0 c1q7.length), (6, iS (ix letters t13q7)), (11, .sl letters.length (fl letters)), (12, iS ((letters.length : Nat) : Int)), (13, iS t13q7), (30, bS true)] [(0, .row 25 [iS 0, iS 0]), (1, .row 21 (fl c1q7))] 2 (by kernel_rfl) ?_
            exact hK1433 () _ _ _ trivial (leSt_m [(0, 0), (1, 1)] [] (by (try simp only [g1434]) <;> simp only [push_cast, seval]) (by (try simp only [g1434]) <;> simp only [push_cast, seval]) rfl rfl rfl)
          · refine rs 4 [] [] (by kernel_rfl) allP_nil ?_
            refine run_split 23 (decide ((1114111 : Int) < (ix letters t13q7))) (.inl (by kernel_rfl)) (fun g1435 => ?_) (fun g1435 => ?_)
            · refine rs 7 [] [] (by kernel_rfl) allP_nil ?_
              refine rf [(3, .ptr 0 0), (4, .own 1 0 c1q7.length), (6, iS (ix letters t13q7)), (11, .sl letters.length (fl letters)), (12, iS ((letters.length : Nat) : Int)), (13, iS t13q7), (30, bS true)] [(0, .row 25 [iS 0, iS 0]), (1, .row 21 (fl c1q7))] 2 (by kernel_rfl) ?_
              exact hK1433 () _ _ _ trivial (leSt_m [(0, 0), (1, 1)] [] (by first | ((try simp only [g1434, g1435]) <;> simp only [push_cast, seval]; done) | ((try simp only [g1434]); (try simp only [g1435]); simp only [push_cast, seval]; done) | (exfalso; clear h; simp_all; done)) (by first | ((try simp only [g1434, g1435]) <;> simp only [push_cast, seval]; done) | ((try simp only [g1434]); (try simp only [g1435]); simp only [push_cast, seval]; done) | (exfalso; clear h; simp_all; done)) rfl rfl rfl)
            · refine rs 3 [] [] (by kernel_rfl) allP_nil ?_
              refine run_split 26 (decide ((55296 : Int) ≤ (ix letters t13q7))) (.inr (by kernel_rfl)) (fun g1436 => ?_) (fun g1436 => ?_)
              · refine rn 10 [(3, .ptr 0 0), (4, .own 1 0 c1q7.length), (6, iS (ix letters t13q7)), (11, .sl letters.length (fl letters)), (12, iS ((letters.length : Nat) : Int)), (13, iS t13q7), (23, bS false), (26, .gd true (bS true))] [(0, .row 25 [iS 0, iS 0]), (1, .row 21 (fl c1q7))] 2 (by kernel_rfl) ?_
                refine rs 4 [] [] (by kernel_rfl) allP_nil ?_
                refine rf [(3, .ptr 0 0), (4, .own 1 0 c1q7.length), (6, iS (ix letters t13q7)), (11, .sl letters.length (fl letters)), (12, iS ((letters.length : Nat) : Int)), (13, iS t13q7), (30, bS (decide ((ix letters t13q7) ≤ 57343)))] [(0, .row 25 [iS 0, iS 0]), (1, .row 21 (fl c1q7))] 2 (by kernel_rfl) ?_
                exact hK1433 () _ _ _ trivial (leSt_m [(0, 0), (1, 1)] [] (by first | ((try simp only [g1434, g1435, g1436]) <;> simp only [push_cast, seval]; done) | ((try simp only [g1434]); (try simp only [g1435]); (try simp only [g1436]); simp only [push_cast, seval]; done) | (exfalso; clear h; simp_all; done)) (by first | ((try simp only [g1434, g1435, g1436]) <;> simp only [push_cast, seval]; done) | ((try simp only [g1434]); (try simp only [g1435]); (try simp only [g1436]); simp only [push_cast, seval]; done) | (exfalso; clear h; simp_all; done)) rfl rfl rfl)
              · refine rn 10 [(3, .ptr 0 0), (4, .own 1 0 c1q7.length), (6, iS (ix letters t13q7)), (11, .sl letters.length (fl letters)), (12, iS ((letters.length : Nat) : Int)), (13, iS t13q7), (23, bS false), (26, .gd true (bS false))] [(0, .row 25 [iS 0, iS 0]), (1, .row 21 (fl c1q7))] 2 (by kernel_rfl) ?_
                refine rs 4 [] [] (by kernel_rfl) allP_nil ?_
                refine rf [(3, .ptr 0 0), (4, .own 1 0 c1q7.length), (6, iS (ix letters t13q7)), (11, .sl letters.length (fl letters)), (12, iS ((letters.length : Nat) : Int)), (13, iS t13q7), (30, bS false)] [(0, .row 25 [iS 0, iS 0]), (1, .row 21 (fl c1q7))] 2 (by kernel_rfl) ?_
                exact hK1433 () _ _ _ trivial (leSt_m [(0, 0), (1, 1)] [] (by first | ((try simp only [g1434, g1435, g1436]) <;> simp only [push_cast, seval]; done) | ((try simp only [g1434]); (try simp only [g1435]); (try simp only [g1436]); simp only [push_cast, seval]; done) | (exfalso; clear h; simp_all; done)) (by first | ((try simp only [g1434, g1435, g1436]) <;> simp only [push_cast, seval]; done) | ((try simp only [g1434]); (try simp only [g1435]); (try simp only [g1436]); simp only [push_cast, seval]; done) | (exfalso; clear h; simp_all; done)) rfl rfl rfl)
        · dsimp only
          refine cond_sx h (by kernel_rfl) (fun g1437 h => ?_) (fun g1437 h => ?_)
          · refine reg_f ?_
            refine rs 1 [] [] (by kernel_rfl) allP_nil ?_
            refine rf [(3, .ptr 0 0), (4, .own 1 0 c1q7.length), (6, iS 65533), (11, .sl letters.length (fl letters)), (12, iS ((letters.length : Nat) : Int)), (13, iS t13q7)] [(0, .row 25 [iS 0, iS 0]), (1, .row 21 (fl c1q7))] 2 (by kernel_rfl) ?_
            exact hK1429 (65533) _ _ _ h (leSt_m [(0, 0), (1, 1)] [] (by simp only [push_cast, seval]) (by simp only [push_cast, seval]) rfl rfl rfl)
          · exact hK1429 ((ix letters t13q7)) _ _ _ h (leSt_m [(0, 0), (1, 1)] [] (by simp only [push_cast, seval]) (by simp only [push_cast, seval]) rfl rfl rfl)
      · rintro x13 h
        try dsimp only at h ⊢
        unfold utf_Write_j1 at h
        refine chk_sx h (fun g1441 h => ?_)
        refine reg_f ?_
        have k1440 : (c1q7 ++ ([(Ki32.mk (IntKind.i32.wrap x13))] : List Ki32)).length * 4 ≤ 140737488355328 := by first | simpa only [Bool.and_eq_true, decide_eq_true_eq, bne_iff_ne, ne_eq] using g1441 | (simp at g1441 ⊢; omega)
        refine rs 6 [none, none, none, none, some ⟨.own 3 0 (c1q7 ++ ([(Ki32.mk (IntKind.i32.wrap x13))] : List Ki32)).length, [(3, .row 21 (fl (c1q7 ++ ([(Ki32.mk (IntKind.i32.wrap x13))] : List Ki32)))), (1, .dead)], 4, [1, 2]⟩] _ (by kernel_rfl) (allP_cons (ob_app (P := Tryd.prog) c1q7 ([(Ki32.mk (IntKind.i32.wrap x13))] : List Ki32) 1 4 rfl (appCells (fl ([(Ki32.mk (IntKind.i32.wrap x13))] : List Ki32)) 0 (([(Ki32.mk (IntKind.i32.wrap x13))] : List Ki32).length * 1)) ([(Ki32.mk (IntKind.i32.wrap x13))] : List Ki32).length (app_own ([(Ki32.mk (IntKind.i32.wrap x13))] : List Ki32) 1 rfl) rfl (0 + ([(Ki32.mk (IntKind.i32.wrap x13))] : List Ki32).length * 1 ≤ (fl ([(Ki32.mk (IntKind.i32.wrap x13))] : List Ki32)).length) (app_own_le ([(Ki32.mk (IntKind.i32.wrap x13))] : List Ki32) 1 rfl) 21 (by kernel_rfl) (by decide) k1440 1 3 [2]) allP_nil) ?_
        refine rf [(3, .ptr 0 0), (4, .own 3 0 (c1q7 ++ ([(Ki32.mk (IntKind.i32.wrap x13))] : List Ki32)).length), (11, .sl letters.length (fl letters)), (12, iS ((letters.length : Nat) : Int)), (13, iS t13q7)] [(0, .row 25 [iS 0, iS 0]), (1, .dead), (2, .row 21 (fl ([(Ki32.mk (IntKind.i32.wrap x13))] : List Ki32))), (3, .row 21 (fl (c1q7 ++ ([(Ki32.mk (IntKind.i32.wrap x13))] : List Ki32))))] 4 (by kernel_rfl) ?_
        refine wk_id ?_
        refine wk_id ?_
        refine reg_f ?_
        refine rs 2 [] [] (by kernel_rfl) allP_nil ?_
        refine rf [(3, .ptr 0 0), (4, .own 3 0 (c1q7 ++ ([(Ki32.mk (IntKind.i32.wrap x13))] : List Ki32)).length), (11, .sl letters.length (fl letters)), (12, iS ((letters.length : Nat) : Int)), (13, iS (IntKind.i64.wrap (t13q7 + 1)))] [(0, .row 25 [iS 0, iS 0]), (1, .dead), (2, .row 21 (fl ([(Ki32.mk (IntKind.i32.wrap x13))] : List Ki32))), (3, .row 21 (fl (c1q7 ++ ([(Ki32.mk (IntKind.i32.wrap x13))] : List Ki32))))] 4 (by kernel_rfl) ?_
        exact hn2 ((IntKind.i64.wrap (t13q7 + 1)), (c1q7 ++ ([(Ki32.mk (IntKind.i32.wrap x13))] : List Ki32))) _ _ _ (Option.some.inj h).symm (leSt_m [(0, 0), (1, 3)] [] (by simp only [push_cast, seval]) (by simp only [push_cast, seval]) rfl rfl rfl)
    · change R2 (.exit 0) _ _ _
      refine ex_cast hx2 (id := 0) ?_
      obtain ⟨r0, h, e0⟩ := map_sx h
      have e1 := hr2 r0 e0.symm
      subst r0
      refine wk_id ?_
      refine wk_id ?_
      refine seq_np ?_
      refine reg_f ?_
      refine rs 5 [none, some ⟨.v (.string (encL (c1q7.map Ki32.v))), [], 2, [1]⟩] _ (by kernel_rfl) (allP_cons (ob_str_o .i32 encL Ki32.v (fun _ => rfl) c1q7 1 2) allP_nil) ?_
      refine rf [(2, .v (.string (encL (c1q7.map Ki32.v)))), (3, .ptr 0 0)] [(0, .row 25 [iS 0, iS 0]), (1, .row 21 (fl c1q7))] 2 (by kernel_rfl) ?_
      refine wk_id ?_
      obtain rfl := Option.some.inj h
      refine ret_at (.tup [.v (.string (encL (c1q7.map Ki32.v))), .agg [iS 0, iS 0]]) (by kernel_rfl) ?_
      exact ret_e [] [] (by simp only [push_cast, seval]) (by simp only [push_cast, seval]) rfl rfl rfl

set_option maxRecDepth 100000 in
set_option maxHeartbeats 200000000 in
theorem slices_Reverse_rune_1_spec (c0 : (List Ki32)) (r : (List Ki32)) (h : slices_Reverse_rune_1 c0 = some r) : SpecW Tryd.prog 18 [.own 0 0 c0.length] [(0, .row 21 (fl c0))] 1 (fun x h n => x = .tup [] ∧ h = [(0, .row 21 (fl r))] ∧ n = 1) := by
  unfold slices_Reverse_rune_1 at h
  refine spec_of (draw_ok _) Tryd.func18 rfl (by decide) rfl (by kernel_rfl) ?_
  refine seq_np ?_
  refine reg_f ?_
  refine rs 5 [] [] (by kernel_rfl) allP_nil ?_
  refine rf [(0, .own 0 0 c0.length), (2, iS 0), (3, iS (IntKind.i64.wrap (((c0.length : Nat) : Int) - 1)))] [(0, .row 21 (fl c0))] 1 (by kernel_rfl) ?_
  refine wk_id ?_
  refine block_np ?_
  refine loop_sx (S := Int × Int × (List Ki32)) (fun a => ([(0, .own 0 0 a.2.2.length), (2, iS a.1), (3, iS a.2.1)], [(0, .row 21 (fl a.2.2))], 1)) h (leSt_m [(0, 0)] [] (by simp only [push_cast, seval]) (by simp only [push_cast, seval]) rfl rfl rfl) ?_
  rintro ⟨i3, j3, c0q5⟩ o2 R2 h hr2 hn2 hx2 ht2
  try dsimp only at h hn2 ⊢
  unfold slices_Reverse_rune_1_l1 at h
  try dsimp only at h
  refine seq_np ?_
  refine seq_np ?_
  refine reg_f ?_
  refine rs 3 [] [] (by kernel_rfl) allP_nil ?_
  refine rf [(0, .own 0 0 c0q5.length), (2, iS i3), (3, iS j3), (9, bS (decide (i3 < j3)))] [(0, .row 21 (fl c0q5))] 1 (by kernel_rfl) ?_
  refine wk_id ?_
  refine cond_sx h (by kernel_rfl) (fun g1569 h => ?_) (fun g1569 h => ?_)
  · refine wk_id ?_
    refine seq_np ?_
    refine block_np ?_
    refine chk_sx h (fun g1562 h => ?_)
    refine chk_sx h (fun g1564 h => ?_)
    refine chk_sx h (fun g1566 h => ?_)
    refine chk_sx h (fun g1568 h => ?_)
    refine reg_t ?_
    have k1561 : 0 ≤ j3 ∧ j3 < ((c0q5.length : Nat) : Int) := by first | simpa only [Bool.and_eq_true, decide_eq_true_eq, bne_iff_ne, ne_eq] using g1562 | (simp at g1562 ⊢; omega)
    have k1563 : 0 ≤ i3 ∧ i3 < ((c0q5.length : Nat) : Int) := by first | simpa only [Bool.and_eq_true, decide_eq_true_eq, bne_iff_ne, ne_eq] using g1564 | (simp at g1564 ⊢; omega)
    have k1565 : 0 ≤ i3 ∧ i3 < ((c0q5.length : Nat) : Int) := by first | simpa only [Bool.and_eq_true, decide_eq_true_eq, bne_iff_ne, ne_eq] using g1566 | (simp at g1566 ⊢; omega)
    refine rs 14 [none, none, none, none, none, none, some ⟨.ptr 0 (0 + (j3).toNat * 1), [], 7, [0]⟩, some ⟨.v (.int .i32 (ix c0q5 j3).v), [], 8, [0]⟩, none, none, some ⟨.ptr 0 (0 + (i3).toNat * 1), [], 11, [0]⟩, some ⟨.v (.int .i32 (ix c0q5 i3).v), [], 12, [0]⟩, some ⟨.ptr 0 (0 + (i3).toNat * 1), [], 13, [0]⟩, some ⟨.any, [(0, .row 21 (fl (c0q5.set i3.toNat (Ki32.mk (ix c0q5 j3).v))))], 14, [0]⟩] _ (by kernel_rfl) (allP_cons (ob_st (P := Tryd.prog) c0q5 i3 1 0 (0 + (i3).toNat * 1) k1565 rfl [.v (.int .i32 (ix c0q5 j3).v)] (Ki32.mk (ix c0q5 j3).v) (Nat.le_of_ble_eq_true rfl) (by first | rfl | omega) rfl 0 14 21 21 (by kernel_rfl) rfl) (allP_cons (ob_ix_o 0 c0q5.length 0 1 13 i3 k1565) (allP_cons (ob_ld c0q5 i3 1 0 (0 + (i3).toNat * 1) k1563 rfl (by decide) (by first | rfl | omega) (dflS Tryd.prog 21) (.v (.int .i32 (ix c0q5 i3).v)) rfl 12 [0]) (allP_cons (ob_ix_o 0 c0q5.length 0 1 11 i3 k1563) (allP_cons (ob_ld c0q5 j3 1 0 (0 + (j3).toNat * 1) k1561 rfl (by decide) (by first | rfl | omega) (dflS Tryd.prog 21) (.v (.int .i32 (ix c0q5 j3).v)) rfl 8 [0]) (allP_cons (ob_ix_o 0 c0q5.length 0 1 7 j3 k1561) allP_nil)))))) ?_
    refine run_eqF 0 (.own 0 0 c0q5.length) (.own 0 0 (c0q5.set i3.toNat (Ki32.mk (ix c0q5 j3).v)).length) (congrArg (fun nq => (.own 0 0 nq : SV)) (show c0q5.length = (c0q5.set i3.toNat (Ki32.mk (ix c0q5 j3).v)).length from (List.length_set ..).symm)) (by kernel_rfl) ?_
    refine run_eqF 16 (.own 0 0 c0q5.length) (.own 0 0 (c0q5.set i3.toNat (Ki32.mk (ix c0q5 j3).v)).length) (congrArg (fun nq => (.own 0 0 nq : SV)) (show c0q5.length = (c0q5.set i3.toNat (Ki32.mk (ix c0q5 j3).v)).length from (List.length_set ..).symm)) (by kernel_rfl) ?_
    have k1567 : 0 ≤ j3 ∧ j3 < (((c0q5.set i3.toNat (Ki32.mk (ix c0q5 j3).v)).length : Nat) : Int) := by first | simpa only [Bool.and_eq_true, decide_eq_true_eq, bne_iff_ne, ne_eq] using g1568 | (simp at g1568 ⊢; omega)
    refine rs 2 [some ⟨.ptr 0 (0 + (j3).toNat * 1), [], 15, [0]⟩, some ⟨.any, [(0, .row 21 (fl ((c0q5.set i3.toNat (Ki32.mk (ix c0q5 j3).v)).set j3.toNat (Ki32.mk (ix c0q5 i3).v))))], 16, [0]⟩] _ (by kernel_rfl) (allP_cons (ob_st (P := Tryd.prog) (c0q5.set i3.toNat (Ki32.mk (ix c0q5 j3).v)) j3 1 0 (0 + (j3).toNat * 1) k1567 rfl [.v (.int .i32 (ix c0q5 i3).v)] (Ki32.mk (ix c0q5 i3).v) (Nat.le_of_ble_eq_true rfl) (by first | rfl | omega) rfl 0 16 21 21 (by kernel_rfl) rfl) (allP_cons (ob_ix_o 0 (c0q5.set i3.toNat (Ki32.mk (ix c0q5 j3).v)).length 0 1 15 j3 k1567) allP_nil)) ?_
    refine run_eqF 0 (.own 0 0 (c0q5.set i3.toNat (Ki32.mk (ix c0q5 j3).v)).length) (.own 0 0 ((c0q5.set i3.toNat (Ki32.mk (ix c0q5 j3).v)).set j3.toNat (Ki32.mk (ix c0q5 i3).v)).length) (congrArg (fun nq => (.own 0 0 nq : SV)) (show (c0q5.set i3.toNat (Ki32.mk (ix c0q5 j3).v)).length = ((c0q5.set i3.toNat (Ki32.mk (ix c0q5 j3).v)).set j3.toNat (Ki32.mk (ix c0q5 i3).v)).length from (List.length_set ..).symm)) (by kernel_rfl) ?_
    refine rt [(0, .own 0 0 ((c0q5.set i3.toNat (Ki32.mk (ix c0q5 j3).v)).set j3.toNat (Ki32.mk (ix c0q5 i3).v)).length), (2, iS i3), (3, iS j3)] [(0, .row 21 (fl ((c0q5.set i3.toNat (Ki32.mk (ix c0q5 j3).v)).set j3.toNat (Ki32.mk (ix c0q5 i3).v))))] 17 follows (by kernel_rfl) ?_
    refine wk_id ?_
    refine wk_id ?_
    refine reg_f ?_
    refine rs 6 [] [] (by kernel_rfl) allP_nil ?_
    refine rf [(0, .own 0 0 ((c0q5.set i3.toNat (Ki32.mk (ix c0q5 j3).v)).set j3.toNat (Ki32.mk (ix c0q5 i3).v)).length), (2, iS (IntKind.i64.wrap (i3 + 1))), (3, iS (IntKind.i64.wrap (j3 - 1)))] [(0, .row 21 (fl ((c0q5.set i3.toNat (Ki32.mk (ix c0q5 j3).v)).set j3.toNat (Ki32.mk (ix c0q5 i3).v))))] 17 (by kernel_rfl) ?_
    exact hn2 ((IntKind.i64.wrap (i3 + 1)), (IntKind.i64.wrap (j3 - 1)), ((c0q5.set i3.toNat (Ki32.mk (ix c0q5 j3).v)).set j3.toNat (Ki32.mk (ix c0q5 i3).v))) _ _ _ (Option.some.inj h).symm (leSt_m [(0, 0)] [] (by simp only [push_cast, seval]) (by simp only [push_cast, seval]) rfl rfl rfl)
  · change R2 (.exit 0) _ _ _
    refine ex_cast hx2 (id := 0) ?_
    obtain ⟨r0, h, e0⟩ := map_sx h
    have e1 := hr2 r0 e0.symm
    subst r0
    refine wk_id ?_
    obtain rfl := Option.some.inj h
    refine ret_an (.tup []) (by kernel_rfl) ?_
    exact ret_e [(0, 0)] [] (by simp only [push_cast, seval]) (by simp only [push_cast, seval]) rfl rfl rfl

set_option maxRecDepth 100000 in
set_option maxHeartbeats 200000000 in
theorem utf_Turn_spec (text : ByteArray) (r : ByteArray × Fault) (h : utf_Turn text = some r) : SpecW Tryd.prog 14 [.v (.string text)] [] 0 (fun x h n => x = .tup [.v (.string r.1), .agg (Enc.cells r.2)] ∧ h = [] ∧ n = 0) := by
  unfold utf_Turn at h
  refine spec_of (draw_ok _) Tryd.func14 rfl (by decide) rfl (by kernel_rfl) ?_
  refine seq_np ?_
  refine reg_f ?_
  refine rs 2 [] [] (by kernel_rfl) allP_nil ?_
  refine rf [(0, .v (.string text)), (3, .ptr 0 0)] [(0, .row 25 [iS 0, iS 0])] 1 (by kernel_rfl) ?_
  refine wk_id ?_
  refine seq_np ?_
  refine seq_np ?_
  refine reg_f ?_
  refine rs 3 [] [] (by kernel_rfl) allP_nil ?_
  refine rf [(0, .v (.string text)), (3, .ptr 0 0), (7, bS (decide ((20000 : Int) < (((text).size : Nat) : Int))))] [(0, .row 25 [iS 0, iS 0])] 1 (by kernel_rfl) ?_
  refine wk_id ?_
  refine cond_sx h (by kernel_rfl) (fun g1587 h => ?_) (fun g1587 h => ?_)
  · refine seq_np ?_
    refine reg_f ?_
    obtain ⟨r1576, hr1576, h⟩ := bind_sx h
    refine run_call 15 [iS 2, iS 0] (some 8) (by kernel_rfl) ?_
    refine call_0 (utf_fault_spec 2 0 r1576 hr1576) (by simp only [push_cast, seval]) (by simp only [push_cast, seval]) ?_
    refine back_f ?_
    refine rs 2 [] [] (by kernel_rfl) allP_nil ?_
    refine rf [(2, .v (.string ByteArray.empty)), (3, .ptr 0 0)] [(0, .row 25 (Enc.cells r1576))] 1 (by kernel_rfl) ?_
    refine wk_id ?_
    obtain rfl := Option.some.inj h
    refine ret_at (.tup [.v (.string ByteArray.empty), .agg (Enc.cells r1576)]) (by kernel_rfl) ?_
    exact ret_e [] [] (by simp only [push_cast, seval]) (by simp only [push_cast, seval]) rfl rfl rfl
  · refine wk_id ?_
    refine chk_sx h (fun g1580 h => ?_)
    refine seq_np ?_
    refine reg_f ?_
    have k1579 : (runesOf text).length ≤ 70368744177664 := by first | simpa only [Bool.and_eq_true, decide_eq_true_eq, bne_iff_ne, ne_eq] using g1580 | (simp at g1580 ⊢; omega)
    refine rs 3 [none, some ⟨.own 1 0 ((runesOf text).map Ki32.mk).length, [(1, .row 21 (fl ((runesOf text).map Ki32.mk)))], 2, []⟩] _ (by kernel_rfl) (allP_cons (ob_runes Ki32.mk (fun _ => rfl) text 21 1 k1579) allP_nil) ?_
    refine rf [(3, .ptr 0 0), (4, .own 1 0 ((runesOf text).map Ki32.mk).length)] [(0, .row 25 [iS 0, iS 0]), (1, .row 21 (fl ((runesOf text).map Ki32.mk)))] 2 (by kernel_rfl) ?_
    refine wk_id ?_
    refine seq_np ?_
    refine reg_f ?_
    refine rs 1 [] [] (by kernel_rfl) allP_nil ?_
    obtain ⟨r1584, hr1584, h⟩ := bind_sx h
    refine call_x (slices_Reverse_rune_1_spec ((runesOf text).map Ki32.mk) r1584 hr1584) (args := [.own 1 0 ((runesOf text).map Ki32.mk).length]) (dst := (some 12)) (by kernel_rfl) [(0, .row 25 [iS 0, iS 0]), (1, .row 21 (fl ((runesOf text).map Ki32.mk)))] 2 (by kernel_rfl) [(0, 1)] [] (.tup []) [(1, .row 21 (fl r1584)), (1, .dead)] (by simp only [push_cast, seval]) (by simp only [push_cast, seval]) (by kernel_rfl) (.inl rfl) (by simp only [push_cast, seval]) (by simp only [push_cast, seval]) ?_
    refine chk_sx h (fun g1586 h => ?_)
    have e1585 : ((runesOf text).map Ki32.mk).length = r1584.length := (of_decide_eq_true g1586).symm
    refine run_eqF 4 (.own 1 0 ((runesOf text).map Ki32.mk).length) (.own 1 0 r1584.length) (congrArg (fun nq => (.own 1 0 nq : SV)) (show ((runesOf text).map Ki32.mk).length = r1584.length from e1585)) (by kernel_rfl) ?_
    refine rf [(3, .ptr 0 0), (4, .own 1 0 r1584.length)] [(0, .row 25 [iS 0, iS 0]), (1, .row 21 (fl r1584))] 3 (by kernel_rfl) ?_
    refine wk_id ?_
    refine seq_np ?_
    refine reg_f ?_
    refine rs 5 [none, some ⟨.v (.string (encL (r1584.map Ki32.v))), [], 3, [1]⟩] _ (by kernel_rfl) (allP_cons (ob_str_o .i32 encL Ki32.v (fun _ => rfl) r1584 1 3) allP_nil) ?_
    refine rf [(2, .v (.string (encL (r1584.map Ki32.v)))), (3, .ptr 0 0)] [(0, .row 25 [iS 0, iS 0]), (1, .row 21 (fl r1584))] 3 (by kernel_rfl) ?_
    refine wk_id ?_
    obtain rfl := Option.some.inj h
    refine ret_at (.tup [.v (.string (encL (r1584.map Ki32.v))), .agg [iS 0, iS 0]]) (by kernel_rfl) ?_
    exact ret_e [] [] (by simp only [push_cast, seval]) (by simp only [push_cast, seval]) rfl rfl rfl

set_option maxRecDepth 100000 in
set_option maxHeartbeats 200000000 in
theorem taskmilllaw_UtfBack_spec (text : ByteArray) (letters : (List Int)) (r : Bool) (h : taskmilllaw_UtfBack text letters = some r) : SpecW Tryd.prog 5 [.v (.string text), .sl letters.length (fl letters)] [] 0 (fun x h n => x = bS r ∧ h = [] ∧ n = 0) := by
  unfold taskmilllaw_UtfBack at h
  refine spec_of (draw_ok _) Tryd.func5 rfl (by decide) rfl (by kernel_rfl) ?_
  refine seq_np ?_
  refine reg_f ?_
  refine rs 1 [] [] (by kernel_rfl) allP_nil ?_
  refine rf [(0, .v (.string text)), (1, .sl letters.length (fl letters))] [] 0 (by kernel_rfl) ?_
  refine wk_id ?_
  refine seq_np ?_
  refine seq_np ?_
  refine reg_f ?_
  obtain ⟨r1617, hr1617, h⟩ := bind_sx h
  refine run_call 6 [] (some 22) (by kernel_rfl) ?_
  refine call_0 (taskmilllaw_utfBegun_spec r1617 hr1617) (by simp only [push_cast, seval]) (by simp only [push_cast, seval]) ?_
  refine back_f ?_
  refine rs 1 [] [] (by kernel_rfl) allP_nil ?_
  refine rf [(0, .v (.string text)), (1, .sl letters.length (fl letters)), (23, bS (!r1617))] [] 0 (by kernel_rfl) ?_
  refine wk_id ?_
  refine cond_sx h (by kernel_rfl) (fun g1897 h => ?_) (fun g1897 h => ?_)
  · refine seq_np ?_
    refine reg_f ?_
    refine rs 1 [] [] (by kernel_rfl) allP_nil ?_
    refine rf [(4, bS false)] [] 0 (by kernel_rfl) ?_
    refine wk_id ?_
    obtain rfl := Option.some.inj h
    refine ret_at (bS false) (by kernel_rfl) ?_
    exact ret_e [] [] (by simp only [push_cast, seval]) (by simp only [push_cast, seval]) rfl rfl rfl
  · refine wk_id ?_
    refine seq_np ?_
    refine seq_cut (A := Unit) (fun _ => ([(0, .v (.string text)), (1, .sl letters.length (fl letters)), (31, bS ((decide ((20000 : Int) < (((text).size : Nat) : Int))) || (decide ((4000 : Int) < ((letters.length : Nat) : Int)))))], [], 0)) (fun _ => True) (fun K1621 hK1621 => ?_) (fun _ _ => ?_)
    · refine reg_f ?_
      refine rs 4 [] [] (by kernel_rfl) allP_nil ?_
      refine run_split 27 (decide ((20000 : Int) < (((text).size : Nat) : Int))) (.inl (by kernel_rfl)) (fun g1622 => ?_) (fun g1622 => ?_)
      · refine rs 4 [] [] (by kernel_rfl) allP_nil ?_
        refine rf [(0, .v (.string text)), (1, .sl letters.length (fl letters)), (31, bS true)] [] 0 (by kernel_rfl) ?_
        exact hK1621 () _ _ _ trivial (leSt_m [] [] (by (try simp only [g1622]) <;> simp only [push_cast, seval]) (by (try simp only [g1622]) <;> simp only [push_cast, seval]) rfl rfl rfl)
      · refine rs 4 [] [] (by kernel_rfl) allP_nil ?_
        refine rf [(0, .v (.string text)), (1, .sl letters.length (fl letters)), (31, bS (decide ((4000 : Int) < ((letters.length : Nat) : Int))))] [] 0 (by kernel_rfl) ?_
        exact hK1621 () _ _ _ trivial (leSt_m [] [] (by (try simp only [g1622]) <;> simp only [push_cast, seval]) (by (try simp only [g1622]) <;> simp only [push_cast, seval]) rfl rfl rfl)
    · dsimp only
      refine cond_sx h (by kernel_rfl) (fun g1896 h => ?_) (fun g1896 h => ?_)
      · refine seq_np ?_
        refine reg_f ?_
        refine rs 1 [] [] (by kernel_rfl) allP_nil ?_
        refine rf [(4, bS true)] [] 0 (by kernel_rfl) ?_
        refine wk_id ?_
        obtain rfl := Option.some.inj h
        refine ret_at (bS true) (by kernel_rfl) ?_
        exact ret_e [] [] (by simp only [push_cast, seval]) (by simp only [push_cast, seval]) rfl rfl rfl
      · refine wk_id ?_
        refine seq_np ?_
        refine reg_f ?_
        refine rs 1 [] [] (by kernel_rfl) allP_nil ?_
        refine rf [(0, .v (.string text)), (1, .sl letters.length (fl letters)), (5, bS true)] [] 0 (by kernel_rfl) ?_
        refine wk_id ?_
        refine seq_np ?_
        refine seq_np ?_
        refine reg_f ?_
        refine rs 1 [] [] (by kernel_rfl) allP_nil ?_
        refine rf [(0, .v (.string text)), (1, .sl letters.length (fl letters)), (5, bS true), (6, iS 0)] [] 0 (by kernel_rfl) ?_
        refine wk_id ?_
        refine block_np ?_
        refine loop_sx (S := Bool × Int) (fun a => ([(0, .v (.string text)), (1, .sl letters.length (fl letters)), (5, bS a.1), (6, iS a.2)], [], 0)) h (leSt_m [] [] (by simp only [push_cast, seval]) (by simp only [push_cast, seval]) rfl rfl rfl) ?_
        rintro ⟨ok14, i11⟩ o4 R4 h hr4 hn4 hx4 ht4
        try dsimp only at h hn4 ⊢
        unfold taskmilllaw_UtfBack_l3 at h
        try dsimp only at h
        refine seq_np ?_
        refine seq_np ?_
        refine reg_f ?_
        refine rs 4 [] [] (by kernel_rfl) allP_nil ?_
        refine rf [(0, .v (.string text)), (1, .sl letters.length (fl letters)), (5, bS ok14), (6, iS i11), (35, bS (decide (i11 < ((letters.length : Nat) : Int))))] [] 0 (by kernel_rfl) ?_
        refine wk_id ?_
        refine cond_sx h (by kernel_rfl) (fun g1895 h => ?_) (fun g1895 h => ?_)
        · refine wk_id ?_
          refine seq_np ?_
          refine block_cut (A := Bool) (fun a => ([(0, .v (.string text)), (1, .sl letters.length (fl letters)), (5, bS a), (6, iS i11)], [], 0)) (fun a => (taskmilllaw_UtfBack_j1 text letters i11 a) = some o4) (fun K1685 hK1685 => ?_) ?_
          · refine reg_f ?_
            refine rs 2 [] [] (by kernel_rfl) allP_nil ?_
            refine run_br h 39 (.inl (by kernel_rfl)) (fun g1690 h => ?_) (fun g1690 h => ?_)
            · refine chk_sx h (fun g1692 h => ?_)
              have k1691 : 0 ≤ i11 ∧ i11 < ((letters.length : Nat) : Int) := by first | simpa only [Bool.and_eq_true, decide_eq_true_eq, bne_iff_ne, ne_eq] using g1692 | (simp at g1692 ⊢; omega)
              refine rs 4 [none, none, some ⟨.iptr (fl letters) ((i11).toNat * 1), [], 0, []⟩, some ⟨iS (ix letters i11), [], 0, []⟩] _ (by kernel_rfl) (allP_cons (ob_ld letters i11 1 0 ((i11).toNat * 1) k1691 rfl (by decide) (by first | rfl | omega) (dflS Tryd.prog 3) (iS (ix letters i11)) rfl 0 []) (allP_cons (ob_ix_l letters 1 0 i11 k1691) allP_nil)) ?_
              obtain ⟨r1693, hr1693, h⟩ := bind_sx h
              refine run_call 12 [iS (ix letters i11)] (some 44) (by kernel_rfl) ?_
              refine call_0 (taskmillref_IsLetter_spec (ix letters i11) r1693 hr1693) (by simp only [push_cast, seval]) (by simp only [push_cast, seval]) ?_
              refine back_f ?_
              refine rs 2 [] [] (by kernel_rfl) allP_nil ?_
              refine rf [(0, .v (.string text)), (1, .sl letters.length (fl letters)), (5, bS r1693), (6, iS i11)] [] 0 (by kernel_rfl) ?_
              exact hK1685 (r1693) _ _ _ h (leSt_m [] [] (by (try simp only [g1690]) <;> simp only [push_cast, seval]) (by (try simp only [g1690]) <;> simp only [push_cast, seval]) rfl rfl rfl)
            · refine rs 7 [] [] (by kernel_rfl) allP_nil ?_
              refine rf [(0, .v (.string text)), (1, .sl letters.length (fl letters)), (5, bS false), (6, iS i11)] [] 0 (by kernel_rfl) ?_
              exact hK1685 (false) _ _ _ h (leSt_m [] [] (by (try simp only [g1690]) <;> simp only [push_cast, seval]) (by (try simp only [g1690]) <;> simp only [push_cast, seval]) rfl rfl rfl)
          · rintro ok16 h
            try dsimp only at h ⊢
            unfold taskmilllaw_UtfBack_j1 at h
            refine wk_id ?_
            refine reg_f ?_
            refine rs 3 [] [] (by kernel_rfl) allP_nil ?_
            refine rf [(0, .v (.string text)), (1, .sl letters.length (fl letters)), (5, bS ok16), (6, iS (IntKind.i64.wrap (i11 + 1)))] [] 0 (by kernel_rfl) ?_
            exact hn4 (ok16, (IntKind.i64.wrap (i11 + 1))) _ _ _ (Option.some.inj h).symm (leSt_m [] [] (by simp only [push_cast, seval]) (by simp only [push_cast, seval]) rfl rfl rfl)
        · change R4 (.exit 0) _ _ _
          refine ex_cast hx4 (id := 0) ?_
          obtain ⟨r0, h, e0⟩ := map_sx h
          have e1 := hr4 r0 e0.symm
          subst r0
          refine wk_id ?_
          refine wk_id ?_
          refine seq_np ?_
          refine reg_f ?_
          refine rs 1 [] [] (by kernel_rfl) allP_nil ?_
          obtain ⟨r1695, hr1695, h⟩ := bind_sx h
          refine run_call 13 [.sl letters.length (fl letters)] (some 48) (by kernel_rfl) ?_
          refine call_0 (utf_Write_spec letters r1695 hr1695) (by simp only [push_cast, seval]) (by simp only [push_cast, seval]) ?_
          refine back_f ?_
          refine rs 6 [] [] (by kernel_rfl) allP_nil ?_
          refine rf [(0, .v (.string text)), (1, .sl letters.length (fl letters)), (5, bS ok14), (7, .v (.string r1695.1)), (8, .ptr 0 0)] [(0, .row 25 (Enc.cells r1695.2))] 1 (by kernel_rfl) ?_
          refine wk_id ?_
          refine seq_np ?_
          refine seq_np ?_
          refine reg_f ?_
          refine rs 3 [] [] (by kernel_rfl) allP_nil ?_
          refine rf [(0, .v (.string text)), (1, .sl letters.length (fl letters)), (5, bS ok14), (7, .v (.string r1695.1)), (8, .ptr 0 0), (53, bS (r1695.2.Code != 0))] [(0, .row 25 (Enc.cells r1695.2))] 1 (by kernel_rfl) ?_
          refine wk_id ?_
          refine cond_sx h (by kernel_rfl) (fun g1894 h => ?_) (fun g1894 h => ?_)
          · refine seq_np ?_
            refine reg_f ?_
            refine rs 1 [] [] (by kernel_rfl) allP_nil ?_
            refine rf [(4, bS false)] [(0, .row 25 (Enc.cells r1695.2))] 1 (by kernel_rfl) ?_
            refine wk_id ?_
            obtain rfl := Option.some.inj h
            refine ret_at (bS false) (by kernel_rfl) ?_
            exact ret_e [] [] (by simp only [push_cast, seval]) (by simp only [push_cast, seval]) rfl rfl rfl
          · refine wk_id ?_
            refine seq_np ?_
            refine reg_f ?_
            refine rs 1 [] [] (by kernel_rfl) allP_nil ?_
            obtain ⟨r1698, hr1698, h⟩ := bind_sx h
            refine run_call 8 [.v (.string r1695.1)] (some 56) (by kernel_rfl) ?_
            refine call_0 (utf_Valid_spec r1695.1 r1698 hr1698) (by simp only [push_cast, seval]) (by simp only [push_cast, seval]) ?_
            refine back_f ?_
            refine rs 8 [] [] (by kernel_rfl) allP_nil ?_
            refine rf [(0, .v (.string text)), (1, .sl letters.length (fl letters)), (5, bS ok14), (7, .v (.string r1695.1)), (8, .ptr 0 0), (9, bS r1698.1), (11, .ptr 1 0)] [(0, .row 25 (Enc.cells r1695.2)), (1, .row 25 (Enc.cells r1698.2.2))] 2 (by kernel_rfl) ?_
            refine wk_id ?_
            refine seq_np ?_
            refine reg_f ?_
            refine rs 1 [] [] (by kernel_rfl) allP_nil ?_
            obtain ⟨r1700, hr1700, h⟩ := bind_sx h
            refine call_x (utf_Range_spec r1695.1 r1700 hr1700) (args := [.v (.string r1695.1)]) (dst := (some 62)) (by kernel_rfl) [(0, .row 25 (Enc.cells r1695.2)), (1, .row 25 (Enc.cells r1698.2.2))] 2 (by kernel_rfl) [] [] (.tup [.own 2 0 r1700.2.length, .agg (Enc.cells r1700.1)]) [(2, .row 35 (fl r1700.2))] (by simp only [push_cast, seval]) (by simp only [push_cast, seval]) (by kernel_rfl) (.inl rfl) (by simp only [push_cast, seval]) (by simp only [push_cast, seval]) ?_
            refine rs 6 [] [] (by kernel_rfl) allP_nil ?_
            refine rf [(0, .v (.string text)), (1, .sl letters.length (fl letters)), (5, bS ok14), (8, .ptr 0 0), (9, bS r1698.1), (11, .ptr 1 0), (12, .own 2 0 r1700.2.length), (13, .ptr 3 0)] [(0, .row 25 (Enc.cells r1695.2)), (1, .row 25 (Enc.cells r1698.2.2)), (2, .row 35 (fl r1700.2)), (3, .row 25 (Enc.cells r1700.1))] 4 (by kernel_rfl) ?_
            refine wk_id ?_
            refine seq_np ?_
            refine seq_cut (A := Unit) (fun _ => ([(0, .v (.string text)), (1, .sl letters.length (fl letters)), (5, bS ok14), (8, .ptr 0 0), (11, .ptr 1 0), (12, .own 2 0 r1700.2.length), (13, .ptr 3 0), (83, bS ((r1698.2.2.Code != 0) || ((r1700.1.Code != 0) || ((!r1698.1) || (((r1700.2.length : Nat) : Int) != ((letters.length : Nat) : Int))))))], [(0, .row 25 (Enc.cells r1695.2)), (1, .row 25 (Enc.cells r1698.2.2)), (2, .row 35 (fl r1700.2)), (3, .row 25 (Enc.cells r1700.1))], 4)) (fun _ => True) (fun K1708 hK1708 => ?_) (fun _ _ => ?_)
            · refine reg_f ?_
              refine rs 4 [] [] (by kernel_rfl) allP_nil ?_
              refine run_split 68 (r1698.2.2.Code != 0) (.inl (by kernel_rfl)) (fun g1709 => ?_) (fun g1709 => ?_)
              · refine rs 15 [] [] (by kernel_rfl) allP_nil ?_
                refine rf [(0, .v (.string text)), (1, .sl letters.length (fl letters)), (5, bS ok14), (8, .ptr 0 0), (11, .ptr 1 0), (12, .own 2 0 r1700.2.length), (13, .ptr 3 0), (83, bS true)] [(0, .row 25 (Enc.cells r1695.2)), (1, .row 25 (Enc.cells r1698.2.2)), (2, .row 35 (fl r1700.2)), (3, .row 25 (Enc.cells r1700.1))] 4 (by kernel_rfl) ?_
                exact hK1708 () _ _ _ trivial (leSt_m [(0, 0), (1, 1), (2, 2), (3, 3)] [] (by (try simp only [g1709]) <;> simp only [push_cast, seval]) (by (try simp only [g1709]) <;> simp only [push_cast, seval]) rfl rfl rfl)
              · refine rs 5 [] [] (by kernel_rfl) allP_nil ?_
                refine run_split 73 (r1700.1.Code != 0) (.inl (by kernel_rfl)) (fun g1710 => ?_) (fun g1710 => ?_)
                · refine rs 10 [] [] (by kernel_rfl) allP_nil ?_
                  refine rf [(0, .v (.string text)), (1, .sl letters.length (fl letters)), (5, bS ok14), (8, .ptr 0 0), (11, .ptr 1 0), (12, .own 2 0 r1700.2.length), (13, .ptr 3 0), (83, bS true)] [(0, .row 25 (Enc.cells r1695.2)), (1, .row 25 (Enc.cells r1698.2.2)), (2, .row 35 (fl r1700.2)), (3, .row 25 (Enc.cells r1700.1))] 4 (by kernel_rfl) ?_
                  exact hK1708 () _ _ _ trivial (leSt_m [(0, 0), (1, 1), (2, 2), (3, 3)] [] (by first | ((try simp only [g1709, g1710]) <;> simp only [push_cast, seval]; done) | ((try simp only [g1709]); (try simp only [g1710]); simp only [push_cast, seval]; done) | (exfalso; clear h; simp_all; done)) (by first | ((try simp only [g1709, g1710]) <;> simp only [push_cast, seval]; done) | ((try simp only [g1709]); (try simp only [g1710]); simp only [push_cast, seval]; done) | (exfalso; clear h; simp_all; done)) rfl rfl rfl)
                · refine rs 4 [] [] (by kernel_rfl) allP_nil ?_
                  refine run_split 77 (!r1698.1) (.inl (by kernel_rfl)) (fun g1711 => ?_) (fun g1711 => ?_)
                  · refine rn 13 [(0, .v (.string text)), (1, .sl letters.length (fl letters)), (5, bS ok14), (8, .ptr 0 0), (11, .ptr 1 0), (12, .own 2 0 r1700.2.length), (13, .ptr 3 0), (77, bS true)] [(0, .row 25 (Enc.cells r1695.2)), (1, .row 25 (Enc.cells r1698.2.2)), (2, .row 35 (fl r1700.2)), (3, .row 25 (Enc.cells r1700.1))] 4 (by kernel_rfl) ?_
                    refine rs 6 [] [] (by kernel_rfl) allP_nil ?_
                    refine rf [(0, .v (.string text)), (1, .sl letters.length (fl letters)), (5, bS ok14), (8, .ptr 0 0), (11, .ptr 1 0), (12, .own 2 0 r1700.2.length), (13, .ptr 3 0), (83, bS true)] [(0, .row 25 (Enc.cells r1695.2)), (1, .row 25 (Enc.cells r1698.2.2)), (2, .row 35 (fl r1700.2)), (3, .row 25 (Enc.cells r1700.1))] 4 (by kernel_rfl) ?_
                    exact hK1708 () _ _ _ trivial (leSt_m [(0, 0), (1, 1), (2, 2), (3, 3)] [] (by first | ((try simp only [g1709, g1710, g1711]) <;> simp only [push_cast, seval]; done) | ((try simp only [g1709]); (try simp only [g1710]); (try simp only [g1711]); simp only [push_cast, seval]; done) | (exfalso; clear h; simp_all; done)) (by first | ((try simp only [g1709, g1710, g1711]) <;> simp only [push_cast, seval]; done) | ((try simp only [g1709]); (try simp only [g1710]); (try simp only [g1711]); simp only [push_cast, seval]; done) | (exfalso; clear h; simp_all; done)) rfl rfl rfl)
                  · refine rn 13 [(0, .v (.string text)), (1, .sl letters.length (fl letters)), (5, bS ok14), (8, .ptr 0 0), (11, .ptr 1 0), (12, .own 2 0 r1700.2.length), (13, .ptr 3 0), (77, bS false)] [(0, .row 25 (Enc.cells r1695.2)), (1, .row 25 (Enc.cells r1698.2.2)), (2, .row 35 (fl r1700.2)), (3, .row 25 (Enc.cells r1700.1))] 4 (by kernel_rfl) ?_
                    refine rs 6 [] [] (by kernel_rfl) allP_nil ?_
                    refine rf [(0, .v (.string text)), (1, .sl letters.length (fl letters)), (5, bS ok14), (8, .ptr 0 0), (11, .ptr 1 0), (12, .own 2 0 r1700.2.length), (13, .ptr 3 0), (83, bS (((r1700.2.length : Nat) : Int) != ((letters.length : Nat) : Int)))] [(0, .row 25 (Enc.cells r1695.2)), (1, .row 25 (Enc.cells r1698.2.2)), (2, .row 35 (fl r1700.2)), (3, .row 25 (Enc.cells r1700.1))] 4 (by kernel_rfl) ?_
                    exact hK1708 () _ _ _ trivial (leSt_m [(0, 0), (1, 1), (2, 2), (3, 3)] [] (by first | ((try simp only [g1709, g1710, g1711]) <;> simp only [push_cast, seval]; done) | ((try simp only [g1709]); (try simp only [g1710]); (try simp only [g1711]); simp only [push_cast, seval]; done) | (exfalso; clear h; simp_all; done)) (by first | ((try simp only [g1709, g1710, g1711]) <;> simp only [push_cast, seval]; done) | ((try simp only [g1709]); (try simp only [g1710]); (try simp only [g1711]); simp only [push_cast, seval]; done) | (exfalso; clear h; simp_all; done)) rfl rfl rfl)
            · dsimp only
              refine cond_sx h (by kernel_rfl) (fun g1893 h => ?_) (fun g1893 h => ?_)
              · refine seq_np ?_
                refine reg_f ?_
                refine rs 1 [] [] (by kernel_rfl) allP_nil ?_
                refine rf [(4, bS false)] [(0, .row 25 (Enc.cells r1695.2)), (1, .row 25 (Enc.cells r1698.2.2)), (2, .row 35 (fl r1700.2)), (3, .row 25 (Enc.cells r1700.1))] 4 (by kernel_rfl) ?_
                refine wk_id ?_
                obtain rfl := Option.some.inj h
                refine ret_at (bS false) (by kernel_rfl) ?_
                exact ret_e [] [] (by simp only [push_cast, seval]) (by simp only [push_cast, seval]) rfl rfl rfl
              · refine wk_id ?_
                refine seq_np ?_
                refine seq_np ?_
                refine reg_f ?_
                refine rs 1 [] [] (by kernel_rfl) allP_nil ?_
                refine rf [(0, .v (.string text)), (1, .sl letters.length (fl letters)), (5, bS ok14), (8, .ptr 0 0), (11, .ptr 1 0), (12, .own 2 0 r1700.2.length), (13, .ptr 3 0), (14, iS 0)] [(0, .row 25 (Enc.cells r1695.2)), (1, .row 25 (Enc.cells r1698.2.2)), (2, .row 35 (fl r1700.2)), (3, .row 25 (Enc.cells r1700.1))] 4 (by kernel_rfl) ?_
                refine wk_id ?_
                refine block_np ?_
                refine loop_sx (S := Int × Fault × Fault × (List S35) × Fault) (fun a => ([(0, .v (.string text)), (1, .sl letters.length (fl letters)), (5, bS ok14), (8, .ptr 0 0), (11, .ptr 1 0), (12, .own 2 0 a.2.2.2.1.length), (13, .ptr 3 0), (14, iS a.1)], [(0, .row 25 (Enc.cells a.2.1)), (1, .row 25 (Enc.cells a.2.2.1)), (2, .row 35 (fl a.2.2.2.1)), (3, .row 25 (Enc.cells a.2.2.2.2))], 4)) h (leSt_m [(0, 0), (1, 1), (2, 2), (3, 3)] [] (by simp only [push_cast, seval]) (by simp only [push_cast, seval]) rfl rfl rfl) ?_
                rintro ⟨i17, c0q14, c1q14, c2q13, c3q11⟩ o5 R5 h hr5 hn5 hx5 ht5
                try dsimp only at h hn5 ⊢
                unfold taskmilllaw_UtfBack_l2 at h
                try dsimp only at h
                refine seq_np ?_
                refine seq_cut (A := Unit) (fun _ => ([(0, .v (.string text)), (1, .sl letters.length (fl letters)), (5, bS ok14), (8, .ptr 0 0), (11, .ptr 1 0), (12, .own 2 0 c2q13.length), (13, .ptr 3 0), (14, iS i17), (90, bS ((decide (i17 < ((c2q13.length : Nat) : Int))) && ok14))], [(0, .row 25 (Enc.cells c0q14)), (1, .row 25 (Enc.cells c1q14)), (2, .row 35 (fl c2q13)), (3, .row 25 (Enc.cells c3q11))], 4)) (fun _ => True) (fun K1774 hK1774 => ?_) (fun _ _ => ?_)
                · refine reg_f ?_
                  refine rs 5 [] [] (by kernel_rfl) allP_nil ?_
                  refine run_split 88 (decide (i17 < ((c2q13.length : Nat) : Int))) (.inl (by kernel_rfl)) (fun g1775 => ?_) (fun g1775 => ?_)
                  · refine rs 2 [] [] (by kernel_rfl) allP_nil ?_
                    refine rf [(0, .v (.string text)), (1, .sl letters.length (fl letters)), (5, bS ok14), (8, .ptr 0 0), (11, .ptr 1 0), (12, .own 2 0 c2q13.length), (13, .ptr 3 0), (14, iS i17), (90, bS ok14)] [(0, .row 25 (Enc.cells c0q14)), (1, .row 25 (Enc.cells c1q14)), (2, .row 35 (fl c2q13)), (3, .row 25 (Enc.cells c3q11))] 4 (by kernel_rfl) ?_
                    exact hK1774 () _ _ _ trivial (leSt_m [(0, 0), (1, 1), (2, 2), (3, 3)] [] (by (try simp only [g1775]) <;> simp only [push_cast, seval]) (by (try simp only [g1775]) <;> simp only [push_cast, seval]) rfl rfl rfl)
                  · refine rs 2 [] [] (by kernel_rfl) allP_nil ?_
                    refine rf [(0, .v (.string text)), (1, .sl letters.length (fl letters)), (5, bS ok14), (8, .ptr 0 0), (11, .ptr 1 0), (12, .own 2 0 c2q13.length), (13, .ptr 3 0), (14, iS i17), (90, bS false)] [(0, .row 25 (Enc.cells c0q14)), (1, .row 25 (Enc.cells c1q14)), (2, .row 35 (fl c2q13)), (3, .row 25 (Enc.cells c3q11))] 4 (by kernel_rfl) ?_
                    exact hK1774 () _ _ _ trivial (leSt_m [(0, 0), (1, 1), (2, 2), (3, 3)] [] (by (try simp only [g1775]) <;> simp only [push_cast, seval]) (by (try simp only [g1775]) <;> simp only [push_cast, seval]) rfl rfl rfl)
                · dsimp only
                  refine cond_sx h (by kernel_rfl) (fun g1892 h => ?_) (fun g1892 h => ?_)
                  · refine wk_id ?_
                    refine seq_np ?_
                    refine block_np ?_
                    refine chk_sx h (fun g1791 h => ?_)
                    refine chk_sx h (fun g1793 h => ?_)
                    refine seq_np ?_
                    refine reg_t ?_
                    have k1790 : 0 ≤ i17 ∧ i17 < ((c2q13.length : Nat) : Int) := by first | simpa only [Bool.and_eq_true, decide_eq_true_eq, bne_iff_ne, ne_eq] using g1791 | (simp at g1791 ⊢; omega)
                    have k1792 : 0 ≤ i17 ∧ i17 < ((letters.length : Nat) : Int) := by first | simpa only [Bool.and_eq_true, decide_eq_true_eq, bne_iff_ne, ne_eq] using g1793 | (simp at g1793 ⊢; omega)
                    refine rs 10 [none, none, some ⟨.ptr 2 (0 + (i17).toNat * 2), [], 6, [2]⟩, none, some ⟨iS (ix c2q13 i17).e1, [], 8, [2]⟩, none, none, some ⟨.iptr (fl letters) ((i17).toNat * 1), [], 11, []⟩, some ⟨iS (ix letters i17), [], 12, []⟩] _ (by kernel_rfl) (allP_cons (ob_ld letters i17 1 0 ((i17).toNat * 1) k1792 rfl (by decide) (by first | rfl | omega) (dflS Tryd.prog 3) (iS (ix letters i17)) rfl 12 []) (allP_cons (ob_ix_l letters 1 11 i17 k1792) (allP_cons (ob_ld c2q13 i17 2 1 ((0 + (i17).toNat * 2) + 1) k1790 rfl (by decide) (by first | rfl | omega) (dflS Tryd.prog 3) (iS (ix c2q13 i17).e1) rfl 8 [2]) (allP_cons (ob_ix_o 2 c2q13.length 0 2 6 i17 k1790) allP_nil)))) ?_
                    refine rt [(0, .v (.string text)), (1, .sl letters.length (fl letters)), (5, bS ok14), (8, .ptr 0 0), (11, .ptr 1 0), (12, .own 2 0 c2q13.length), (13, .ptr 3 0), (14, iS i17), (102, bS ((ix c2q13 i17).e1 != (ix letters i17)))] [(0, .row 25 (Enc.cells c0q14)), (1, .row 25 (Enc.cells c1q14)), (2, .row 35 (fl c2q13)), (3, .row 25 (Enc.cells c3q11))] 14 follows (by kernel_rfl) ?_
                    refine wk_id ?_
                    refine cond_sx h (by kernel_rfl) (fun g1794 h => ?_) (fun g1794 h => ?_)
                    · refine seq_np ?_
                      refine reg_f ?_
                      refine rs 1 [] [] (by kernel_rfl) allP_nil ?_
                      refine rf [(4, bS false)] [(0, .row 25 (Enc.cells c0q14)), (1, .row 25 (Enc.cells c1q14)), (2, .row 35 (fl c2q13)), (3, .row 25 (Enc.cells c3q11))] 14 (by kernel_rfl) ?_
                      refine wk_id ?_
                      refine rt_cast ht5 ?_
                      obtain ⟨r0, h, e0⟩ := map_sx h
                      have e1 := hr5 r0 e0.symm
                      subst r0
                      obtain rfl := Option.some.inj h
                      refine ret_at (bS false) (by kernel_rfl) ?_
                      exact ret_e [] [] (by simp only [push_cast, seval]) (by simp only [push_cast, seval]) rfl rfl rfl
                    · refine wk_id ?_
                      refine wk_id ?_
                      refine reg_f ?_
                      refine rs 3 [] [] (by kernel_rfl) allP_nil ?_
                      refine rf [(0, .v (.string text)), (1, .sl letters.length (fl letters)), (5, bS ok14), (8, .ptr 0 0), (11, .ptr 1 0), (12, .own 2 0 c2q13.length), (13, .ptr 3 0), (14, iS (IntKind.i64.wrap (i17 + 1)))] [(0, .row 25 (Enc.cells c0q14)), (1, .row 25 (Enc.cells c1q14)), (2, .row 35 (fl c2q13)), (3, .row 25 (Enc.cells c3q11))] 14 (by kernel_rfl) ?_
                      exact hn5 ((IntKind.i64.wrap (i17 + 1)), c0q14, c1q14, c2q13, c3q11) _ _ _ (Option.some.inj h).symm (leSt_m [(0, 0), (1, 1), (2, 2), (3, 3)] [] (by simp only [push_cast, seval]) (by simp only [push_cast, seval]) rfl rfl rfl)
                  · change R5 (.exit 2) _ _ _
                    refine ex_cast hx5 (id := 2) ?_
                    obtain ⟨r0, h, e0⟩ := map_sx h
                    have e1 := hr5 r0 e0.symm
                    subst r0
                    refine wk_id ?_
                    refine wk_id ?_
                    refine seq_np ?_
                    refine reg_f ?_
                    refine rs 1 [] [] (by kernel_rfl) allP_nil ?_
                    obtain ⟨r1796, hr1796, h⟩ := bind_sx h
                    refine run_call 8 [.v (.string text)] (some 105) (by kernel_rfl) ?_
                    refine call_0 (utf_Valid_spec text r1796 hr1796) (by simp only [push_cast, seval]) (by simp only [push_cast, seval]) ?_
                    refine back_f ?_
                    refine rs 6 [] [] (by kernel_rfl) allP_nil ?_
                    refine rf [(0, .v (.string text)), (8, .ptr 0 0), (9, bS r1796.1), (11, .ptr 1 0), (13, .ptr 3 0)] [(0, .row 25 (Enc.cells r1796.2.2)), (1, .row 25 (Enc.cells c1q14)), (2, .row 35 (fl c2q13)), (3, .row 25 (Enc.cells c3q11))] 4 (by kernel_rfl) ?_
                    refine wk_id ?_
                    refine seq_np ?_
                    refine seq_cut (A := Unit) (fun _ => ([(0, .v (.string text)), (8, .ptr 0 0), (11, .ptr 1 0), (13, .ptr 3 0), (115, bS ((r1796.2.2.Code != 0) || (!r1796.1)))], [(0, .row 25 (Enc.cells r1796.2.2)), (1, .row 25 (Enc.cells c1q14)), (2, .row 35 (fl c2q13)), (3, .row 25 (Enc.cells c3q11))], 4)) (fun _ => True) (fun K1800 hK1800 => ?_) (fun _ _ => ?_)
                    · refine reg_f ?_
                      refine rs 4 [] [] (by kernel_rfl) allP_nil ?_
                      refine run_split 112 (r1796.2.2.Code != 0) (.inl (by kernel_rfl)) (fun g1801 => ?_) (fun g1801 => ?_)
                      · refine rs 3 [] [] (by kernel_rfl) allP_nil ?_
                        refine rf [(0, .v (.string text)), (8, .ptr 0 0), (11, .ptr 1 0), (13, .ptr 3 0), (115, bS true)] [(0, .row 25 (Enc.cells r1796.2.2)), (1, .row 25 (Enc.cells c1q14)), (2, .row 35 (fl c2q13)), (3, .row 25 (Enc.cells c3q11))] 4 (by kernel_rfl) ?_
                        exact hK1800 () _ _ _ trivial (leSt_m [(0, 0), (1, 1), (2, 2), (3, 3)] [] (by (try simp only [g1801]) <;> simp only [push_cast, seval]) (by (try simp only [g1801]) <;> simp only [push_cast, seval]) rfl rfl rfl)
                      · refine rs 3 [] [] (by kernel_rfl) allP_nil ?_
                        refine rf [(0, .v (.string text)), (8, .ptr 0 0), (11, .ptr 1 0), (13, .ptr 3 0), (115, bS (!r1796.1))] [(0, .row 25 (Enc.cells r1796.2.2)), (1, .row 25 (Enc.cells c1q14)), (2, .row 35 (fl c2q13)), (3, .row 25 (Enc.cells c3q11))] 4 (by kernel_rfl) ?_
                        exact hK1800 () _ _ _ trivial (leSt_m [(0, 0), (1, 1), (2, 2), (3, 3)] [] (by (try simp only [g1801]) <;> simp only [push_cast, seval]) (by (try simp only [g1801]) <;> simp only [push_cast, seval]) rfl rfl rfl)
                    · dsimp only
                      refine cond_sx h (by kernel_rfl) (fun g1891 h => ?_) (fun g1891 h => ?_)
                      · refine seq_np ?_
                        refine reg_f ?_
                        refine rs 4 [] [] (by kernel_rfl) allP_nil ?_
                        refine rf [(4, bS (r1796.2.2.Code == 0))] [(0, .row 25 (Enc.cells r1796.2.2)), (1, .row 25 (Enc.cells c1q14)), (2, .row 35 (fl c2q13)), (3, .row 25 (Enc.cells c3q11))] 4 (by kernel_rfl) ?_
                        refine wk_id ?_
                        obtain rfl := Option.some.inj h
                        refine ret_at (bS (r1796.2.2.Code == 0)) (by kernel_rfl) ?_
                        exact ret_e [] [] (by simp only [push_cast, seval]) (by simp only [push_cast, seval]) rfl rfl rfl
                      · refine wk_id ?_
                        refine seq_np ?_
                        refine reg_f ?_
                        refine rs 1 [] [] (by kernel_rfl) allP_nil ?_
                        obtain ⟨r1803, hr1803, h⟩ := bind_sx h
                        refine call_x (utf_Range_spec text r1803 hr1803) (args := [.v (.string text)]) (dst := (some 121)) (by kernel_rfl) [(0, .row 25 (Enc.cells r1796.2.2)), (1, .row 25 (Enc.cells c1q14)), (2, .row 35 (fl c2q13)), (3, .row 25 (Enc.cells c3q11))] 4 (by kernel_rfl) [] [] (.tup [.own 4 0 r1803.2.length, .agg (Enc.cells r1803.1)]) [(4, .row 35 (fl r1803.2))] (by simp only [push_cast, seval]) (by simp only [push_cast, seval]) (by kernel_rfl) (.inl rfl) (by simp only [push_cast, seval]) (by simp only [push_cast, seval]) ?_
                        refine rs 5 [] [] (by kernel_rfl) allP_nil ?_
                        refine rf [(0, .v (.string text)), (8, .ptr 0 0), (11, .ptr 1 0), (13, .ptr 3 0), (15, .own 4 0 r1803.2.length)] [(0, .row 25 (Enc.cells r1796.2.2)), (1, .row 25 (Enc.cells r1803.1)), (2, .row 35 (fl c2q13)), (3, .row 25 (Enc.cells c3q11)), (4, .row 35 (fl r1803.2))] 5 (by kernel_rfl) ?_
                        refine wk_id ?_
                        refine seq_np ?_
                        refine reg_f ?_
                        refine rs 1 [] [] (by kernel_rfl) allP_nil ?_
                        obtain ⟨r1805, hr1805, h⟩ := bind_sx h
                        refine run_call 14 [.v (.string text)] (some 126) (by kernel_rfl) ?_
                        refine call_0 (utf_Turn_spec text r1805 hr1805) (by simp only [push_cast, seval]) (by simp only [push_cast, seval]) ?_
                        refine back_f ?_
                        refine rs 5 [] [] (by kernel_rfl) allP_nil ?_
                        refine rf [(0, .v (.string text)), (8, .ptr 0 0), (11, .ptr 1 0), (13, .ptr 3 0), (15, .own 4 0 r1803.2.length), (16, .v (.string r1805.1))] [(0, .row 25 (Enc.cells r1796.2.2)), (1, .row 25 (Enc.cells r1803.1)), (2, .row 35 (fl c2q13)), (3, .row 25 (Enc.cells r1805.2)), (4, .row 35 (fl r1803.2))] 5 (by kernel_rfl) ?_
                        refine wk_id ?_
                        refine seq_np ?_
                        refine reg_f ?_
                        refine rs 1 [] [] (by kernel_rfl) allP_nil ?_
                        obtain ⟨r1807, hr1807, h⟩ := bind_sx h
                        refine run_call 14 [.v (.string r1805.1)] (some 131) (by kernel_rfl) ?_
                        refine call_0 (utf_Turn_spec r1805.1 r1807 hr1807) (by simp only [push_cast, seval]) (by simp only [push_cast, seval]) ?_
                        refine back_f ?_
                        refine rs 6 [] [] (by kernel_rfl) allP_nil ?_
                        refine rf [(0, .v (.string text)), (8, .ptr 0 0), (11, .ptr 1 0), (13, .ptr 3 0), (15, .own 4 0 r1803.2.length), (16, .v (.string r1805.1)), (17, .v (.string r1807.1)), (18, .ptr 5 0)] [(0, .row 25 (Enc.cells r1796.2.2)), (1, .row 25 (Enc.cells r1803.1)), (2, .row 35 (fl c2q13)), (3, .row 25 (Enc.cells r1805.2)), (4, .row 35 (fl r1803.2)), (5, .row 25 (Enc.cells r1807.2))] 6 (by kernel_rfl) ?_
                        refine wk_id ?_
                        refine seq_np ?_
                        refine seq_cut (A := Unit) (fun _ => ([(0, .v (.string text)), (8, .ptr 0 0), (15, .own 4 0 r1803.2.length), (158, bS ((r1803.1.Code != 0) || ((r1805.2.Code != 0) || ((r1807.2.Code != 0) || ((!decide (r1807.1 = text)) || ((((r1805.1).size : Nat) : Int) != (((text).size : Nat) : Int)))))))], [(0, .row 25 (Enc.cells r1796.2.2)), (1, .row 25 (Enc.cells r1803.1)), (2, .row 35 (fl c2q13)), (3, .row 25 (Enc.cells r1805.2)), (4, .row 35 (fl r1803.2)), (5, .row 25 (Enc.cells r1807.2))], 6)) (fun _ => True) (fun K1817 hK1817 => ?_) (fun _ _ => ?_)
                        · refine reg_f ?_
                          refine rs 4 [] [] (by kernel_rfl) allP_nil ?_
                          refine run_split 137 (r1803.1.Code != 0) (.inl (by kernel_rfl)) (fun g1818 => ?_) (fun g1818 => ?_)
                          · refine rs 21 [] [] (by kernel_rfl) allP_nil ?_
                            refine rf [(0, .v (.string text)), (8, .ptr 0 0), (15, .own 4 0 r1803.2.length), (158, bS true)] [(0, .row 25 (Enc.cells r1796.2.2)), (1, .row 25 (Enc.cells r1803.1)), (2, .row 35 (fl c2q13)), (3, .row 25 (Enc.cells r1805.2)), (4, .row 35 (fl r1803.2)), (5, .row 25 (Enc.cells r1807.2))] 6 (by kernel_rfl) ?_
                            exact hK1817 () _ _ _ trivial (leSt_m [(0, 0), (1, 1), (2, 2), (3, 3), (4, 4), (5, 5)] [] (by (try simp only [g1818]) <;> simp only [push_cast, seval]) (by (try simp only [g1818]) <;> simp only [push_cast, seval]) rfl rfl rfl)
                          · refine rs 5 [] [] (by kernel_rfl) allP_nil ?_
                            refine run_split 142 (r1805.2.Code != 0) (.inl (by kernel_rfl)) (fun g1819 => ?_) (fun g1819 => ?_)
                            · refine rs 16 [] [] (by kernel_rfl) allP_nil ?_
                              refine rf [(0, .v (.string text)), (8, .ptr 0 0), (15, .own 4 0 r1803.2.length), (158, bS true)] [(0, .row 25 (Enc.cells r1796.2.2)), (1, .row 25 (Enc.cells r1803.1)), (2, .row 35 (fl c2q13)), (3, .row 25 (Enc.cells r1805.2)), (4, .row 35 (fl r1803.2)), (5, .row 25 (Enc.cells r1807.2))] 6 (by kernel_rfl) ?_
                              exact hK1817 () _ _ _ trivial (leSt_m [(0, 0), (1, 1), (2, 2), (3, 3), (4, 4), (5, 5)] [] (by first | ((try simp only [g1818, g1819]) <;> simp only [push_cast, seval]; done) | ((try simp only [g1818]); (try simp only [g1819]); simp only [push_cast, seval]; done) | (exfalso; clear h; simp_all; done)) (by first | ((try simp only [g1818, g1819]) <;> simp only [push_cast, seval]; done) | ((try simp only [g1818]); (try simp only [g1819]); simp only [push_cast, seval]; done) | (exfalso; clear h; simp_all; done)) rfl rfl rfl)
                            · refine rs 5 [] [] (by kernel_rfl) allP_nil ?_
                              refine run_split 147 (r1807.2.Code != 0) (.inl (by kernel_rfl)) (fun g1820 => ?_) (fun g1820 => ?_)
                              · refine rn 14 [(0, .v (.string text)), (8, .ptr 0 0), (15, .own 4 0 r1803.2.length), (16, .v (.string r1805.1)), (17, .v (.string r1807.1)), (147, bS true)] [(0, .row 25 (Enc.cells r1796.2.2)), (1, .row 25 (Enc.cells r1803.1)), (2, .row 35 (fl c2q13)), (3, .row 25 (Enc.cells r1805.2)), (4, .row 35 (fl r1803.2)), (5, .row 25 (Enc.cells r1807.2))] 6 (by kernel_rfl) ?_
                                refine rs 11 [] [] (by kernel_rfl) allP_nil ?_
                                refine rf [(0, .v (.string text)), (8, .ptr 0 0), (15, .own 4 0 r1803.2.length), (158, bS true)] [(0, .row 25 (Enc.cells r1796.2.2)), (1, .row 25 (Enc.cells r1803.1)), (2, .row 35 (fl c2q13)), (3, .row 25 (Enc.cells r1805.2)), (4, .row 35 (fl r1803.2)), (5, .row 25 (Enc.cells r1807.2))] 6 (by kernel_rfl) ?_
                                exact hK1817 () _ _ _ trivial (leSt_m [(0, 0), (1, 1), (2, 2), (3, 3), (4, 4), (5, 5)] [] (by first | ((try simp only [g1818, g1819, g1820]) <;> simp only [push_cast, seval]; done) | ((try simp only [g1818]); (try simp only [g1819]); (try simp only [g1820]); simp only [push_cast, seval]; done) | (exfalso; clear h; simp_all; done)) (by first | ((try simp only [g1818, g1819, g1820]) <;> simp only [push_cast, seval]; done) | ((try simp only [g1818]); (try simp only [g1819]); (try simp only [g1820]); simp only [push_cast, seval]; done) | (exfalso; clear h; simp_all; done)) rfl rfl rfl)
                              · refine rn 14 [(0, .v (.string text)), (8, .ptr 0 0), (15, .own 4 0 r1803.2.length), (16, .v (.string r1805.1)), (17, .v (.string r1807.1)), (147, bS false)] [(0, .row 25 (Enc.cells r1796.2.2)), (1, .row 25 (Enc.cells r1803.1)), (2, .row 35 (fl c2q13)), (3, .row 25 (Enc.cells r1805.2)), (4, .row 35 (fl r1803.2)), (5, .row 25 (Enc.cells r1807.2))] 6 (by kernel_rfl) ?_
                                refine rs 5 [none, none, some ⟨bS (!decide (r1807.1 = text)), [], 6, []⟩] _ (by kernel_rfl) (allP_cons (ob_p (v := bS (!decide (r1807.1 = text))) (nx := 6) (r := []) trivial) allP_nil) ?_
                                refine run_split 152 (!decide (r1807.1 = text)) (.inl (by kernel_rfl)) (fun g1821 => ?_) (fun g1821 => ?_)
                                · refine rs 6 [] [] (by kernel_rfl) allP_nil ?_
                                  refine rf [(0, .v (.string text)), (8, .ptr 0 0), (15, .own 4 0 r1803.2.length), (158, bS true)] [(0, .row 25 (Enc.cells r1796.2.2)), (1, .row 25 (Enc.cells r1803.1)), (2, .row 35 (fl c2q13)), (3, .row 25 (Enc.cells r1805.2)), (4, .row 35 (fl r1803.2)), (5, .row 25 (Enc.cells r1807.2))] 6 (by kernel_rfl) ?_
                                  exact hK1817 () _ _ _ trivial (leSt_m [(0, 0), (1, 1), (2, 2), (3, 3), (4, 4), (5, 5)] [] (by first | ((try simp only [g1818, g1819, g1820, g1821]) <;> simp only [push_cast, seval]; done) | ((try simp only [g1818]); (try simp only [g1819]); (try simp only [g1820]); (try simp only [g1821]); simp only [push_cast, seval]; done) | (exfalso; clear h; simp_all; done)) (by first | ((try simp only [g1818, g1819, g1820, g1821]) <;> simp only [push_cast, seval]; done) | ((try simp only [g1818]); (try simp only [g1819]); (try simp only [g1820]); (try simp only [g1821]); simp only [push_cast, seval]; done) | (exfalso; clear h; simp_all; done)) rfl rfl rfl)
                                · refine rs 6 [] [] (by kernel_rfl) allP_nil ?_
                                  refine rf [(0, .v (.string text)), (8, .ptr 0 0), (15, .own 4 0 r1803.2.length), (158, bS ((((r1805.1).size : Nat) : Int) != (((text).size : Nat) : Int)))] [(0, .row 25 (Enc.cells r1796.2.2)), (1, .row 25 (Enc.cells r1803.1)), (2, .row 35 (fl c2q13)), (3, .row 25 (Enc.cells r1805.2)), (4, .row 35 (fl r1803.2)), (5, .row 25 (Enc.cells r1807.2))] 6 (by kernel_rfl) ?_
                                  exact hK1817 () _ _ _ trivial (leSt_m [(0, 0), (1, 1), (2, 2), (3, 3), (4, 4), (5, 5)] [] (by first | ((try simp only [g1818, g1819, g1820, g1821]) <;> simp only [push_cast, seval]; done) | ((try simp only [g1818]); (try simp only [g1819]); (try simp only [g1820]); (try simp only [g1821]); simp only [push_cast, seval]; done) | (exfalso; clear h; simp_all; done)) (by first | ((try simp only [g1818, g1819, g1820, g1821]) <;> simp only [push_cast, seval]; done) | ((try simp only [g1818]); (try simp only [g1819]); (try simp only [g1820]); (try simp only [g1821]); simp only [push_cast, seval]; done) | (exfalso; clear h; simp_all; done)) rfl rfl rfl)
                        · dsimp only
                          refine cond_sx h (by kernel_rfl) (fun g1890 h => ?_) (fun g1890 h => ?_)
                          · refine seq_np ?_
                            refine reg_f ?_
                            refine rs 1 [] [] (by kernel_rfl) allP_nil ?_
                            refine rf [(4, bS false)] [(0, .row 25 (Enc.cells r1796.2.2)), (1, .row 25 (Enc.cells r1803.1)), (2, .row 35 (fl c2q13)), (3, .row 25 (Enc.cells r1805.2)), (4, .row 35 (fl r1803.2)), (5, .row 25 (Enc.cells r1807.2))] 6 (by kernel_rfl) ?_
                            refine wk_id ?_
                            obtain rfl := Option.some.inj h
                            refine ret_at (bS false) (by kernel_rfl) ?_
                            exact ret_e [] [] (by simp only [push_cast, seval]) (by simp only [push_cast, seval]) rfl rfl rfl
                          · refine wk_id ?_
                            refine seq_np ?_
                            refine reg_f ?_
                            refine rs 1 [] [] (by kernel_rfl) allP_nil ?_
                            refine rf [(0, .v (.string text)), (8, .ptr 0 0), (15, .own 4 0 r1803.2.length), (19, .v (.slice none 0 0))] [(0, .row 25 (Enc.cells r1796.2.2)), (1, .row 25 (Enc.cells r1803.1)), (2, .row 35 (fl c2q13)), (3, .row 25 (Enc.cells r1805.2)), (4, .row 35 (fl r1803.2)), (5, .row 25 (Enc.cells r1807.2))] 6 (by kernel_rfl) ?_
                            refine wk_id ?_
                            refine seq_np ?_
                            refine seq_np ?_
                            refine reg_f ?_
                            refine rs 1 [] [] (by kernel_rfl) allP_nil ?_
                            refine rf [(0, .v (.string text)), (8, .ptr 0 0), (15, .own 4 0 r1803.2.length), (19, .v (.slice none 0 0)), (20, iS 0)] [(0, .row 25 (Enc.cells r1796.2.2)), (1, .row 25 (Enc.cells r1803.1)), (2, .row 35 (fl c2q13)), (3, .row 25 (Enc.cells r1805.2)), (4, .row 35 (fl r1803.2)), (5, .row 25 (Enc.cells r1807.2))] 6 (by kernel_rfl) ?_
                            refine wk_id ?_
                            refine block_np ?_
                            refine loop_sx (S := Int × Fault × (List S35) × (List Int)) (fun a => ([(0, .v (.string text)), (8, .ptr 0 0), (15, .own 1 0 a.2.2.1.length), (19, .own 2 0 a.2.2.2.length), (20, iS a.1)], [(0, .row 25 (Enc.cells a.2.1)), (1, .row 35 (fl a.2.2.1)), (2, .row 3 (fl a.2.2.2))], 3)) h (leSt_m [(0, 0), (1, 4)] [] (by simp only [push_cast, seval]) (by simp only [push_cast, seval]) rfl rfl rfl) ?_
                            rintro ⟨i23, c0q23, c1q23, c2q19⟩ o6 R6 h hr6 hn6 hx6 ht6
                            try dsimp only at h hn6 ⊢
                            unfold taskmilllaw_UtfBack_l1 at h
                            try dsimp only at h
                            refine seq_np ?_
                            refine seq_np ?_
                            refine reg_f ?_
                            refine rs 4 [] [] (by kernel_rfl) allP_nil ?_
                            refine rf [(0, .v (.string text)), (8, .ptr 0 0), (15, .own 1 0 c1q23.length), (19, .own 2 0 c2q19.length), (20, iS i23), (162, bS (decide (i23 < ((c1q23.length : Nat) : Int))))] [(0, .row 25 (Enc.cells c0q23)), (1, .row 35 (fl c1q23)), (2, .row 3 (fl c2q19))] 3 (by kernel_rfl) ?_
                            refine wk_id ?_
                            refine cond_sx h (by kernel_rfl) (fun g1889 h => ?_) (fun g1889 h => ?_)
                            · refine wk_id ?_
                              refine seq_np ?_
                              refine block_np ?_
                              refine chk_sx h (fun g1879 h => ?_)
                              refine chk_sx h (fun g1881 h => ?_)
                              refine reg_f ?_
                              have k1878 : 0 ≤ i23 ∧ i23 < ((c1q23.length : Nat) : Int) := by first | simpa only [Bool.and_eq_true, decide_eq_true_eq, bne_iff_ne, ne_eq] using g1879 | (simp at g1879 ⊢; omega)
                              have k1880 : (c2q19 ++ ([(ix c1q23 i23).e1] : List Int)).length * 8 ≤ 140737488355328 := by first | simpa only [Bool.and_eq_true, decide_eq_true_eq, bne_iff_ne, ne_eq] using g1881 | (simp at g1881 ⊢; omega)
                              refine rs 9 [none, none, none, some ⟨.ptr 1 (0 + (i23).toNat * 2), [], 3, [1]⟩, none, some ⟨iS (ix c1q23 i23).e1, [], 3, [1]⟩, none, some ⟨.own 4 0 (c2q19 ++ ([(ix c1q23 i23).e1] : List Int)).length, [(4, .row 3 (fl (c2q19 ++ ([(ix c1q23 i23).e1] : List Int)))), (2, .dead)], 5, [2, 3]⟩] _ (by kernel_rfl) (allP_cons (ob_app (P := Tryd.prog) c2q19 ([(ix c1q23 i23).e1] : List Int) 1 8 rfl (appCells (fl ([(ix c1q23 i23).e1] : List Int)) 0 (([(ix c1q23 i23).e1] : List Int).length * 1)) ([(ix c1q23 i23).e1] : List Int).length (app_own ([(ix c1q23 i23).e1] : List Int) 1 rfl) rfl (0 + ([(ix c1q23 i23).e1] : List Int).length * 1 ≤ (fl ([(ix c1q23 i23).e1] : List Int)).length) (app_own_le ([(ix c1q23 i23).e1] : List Int) 1 rfl) 3 (by kernel_rfl) (by decide) k1880 2 4 [3]) (allP_cons (ob_ld c1q23 i23 2 1 ((0 + (i23).toNat * 2) + 1) k1878 rfl (by decide) (by first | rfl | omega) (dflS Tryd.prog 3) (iS (ix c1q23 i23).e1) rfl 3 [1]) (allP_cons (ob_ix_o 1 c1q23.length 0 2 3 i23 k1878) allP_nil))) ?_
                              refine rf [(0, .v (.string text)), (8, .ptr 0 0), (15, .own 1 0 c1q23.length), (19, .own 4 0 (c2q19 ++ ([(ix c1q23 i23).e1] : List Int)).length), (20, iS i23)] [(0, .row 25 (Enc.cells c0q23)), (1, .row 35 (fl c1q23)), (2, .dead), (3, .row 3 (fl ([(ix c1q23 i23).e1] : List Int))), (4, .row 3 (fl (c2q19 ++ ([(ix c1q23 i23).e1] : List Int))))] 5 (by kernel_rfl) ?_
                              refine wk_id ?_
                              refine wk_id ?_
                              refine reg_f ?_
                              refine rs 3 [] [] (by kernel_rfl) allP_nil ?_
                              refine rf [(0, .v (.string text)), (8, .ptr 0 0), (15, .own 1 0 c1q23.length), (19, .own 4 0 (c2q19 ++ ([(ix c1q23 i23).e1] : List Int)).length), (20, iS (IntKind.i64.wrap (i23 + 1)))] [(0, .row 25 (Enc.cells c0q23)), (1, .row 35 (fl c1q23)), (2, .dead), (3, .row 3 (fl ([(ix c1q23 i23).e1] : List Int))), (4, .row 3 (fl (c2q19 ++ ([(ix c1q23 i23).e1] : List Int))))] 5 (by kernel_rfl) ?_
                              exact hn6 ((IntKind.i64.wrap (i23 + 1)), c0q23, c1q23, (c2q19 ++ ([(ix c1q23 i23).e1] : List Int))) _ _ _ (Option.some.inj h).symm (leSt_m [(0, 0), (1, 1), (2, 4)] [] (by simp only [push_cast, seval]) (by simp only [push_cast, seval]) rfl rfl rfl)
                            · change R6 (.exit 4) _ _ _
                              refine ex_cast hx6 (id := 4) ?_
                              obtain ⟨r0, h, e0⟩ := map_sx h
                              have e1 := hr6 r0 e0.symm
                              subst r0
                              refine wk_id ?_
                              refine wk_id ?_
                              refine seq_np ?_
                              refine seq_np ?_
                              refine reg_f ?_
                              refine rs 3 [] [] (by kernel_rfl) allP_nil ?_
                              refine rf [(0, .v (.string text)), (8, .ptr 0 0), (19, .own 2 0 c2q19.length), (175, bS (decide ((5000 : Int) < ((c2q19.length : Nat) : Int))))] [(0, .row 25 (Enc.cells c0q23)), (1, .row 35 (fl c1q23)), (2, .row 3 (fl c2q19))] 3 (by kernel_rfl) ?_
                              refine wk_id ?_
                              refine cond_sx h (by kernel_rfl) (fun g1888 h => ?_) (fun g1888 h => ?_)
                              · refine seq_np ?_
                                refine reg_f ?_
                                refine rs 1 [] [] (by kernel_rfl) allP_nil ?_
                                refine rf [(4, bS true)] [(0, .row 25 (Enc.cells c0q23)), (1, .row 35 (fl c1q23)), (2, .row 3 (fl c2q19))] 3 (by kernel_rfl) ?_
                                refine wk_id ?_
                                obtain rfl := Option.some.inj h
                                refine ret_at (bS true) (by kernel_rfl) ?_
                                exact ret_e [] [] (by simp only [push_cast, seval]) (by simp only [push_cast, seval]) rfl rfl rfl
                              · refine wk_id ?_
                                refine seq_np ?_
                                refine reg_f ?_
                                refine rs 1 [] [] (by kernel_rfl) allP_nil ?_
                                obtain ⟨r1884, hr1884, h⟩ := bind_sx h
                                refine call_x (utf_Write_spec c2q19 r1884 hr1884) (args := [.own 2 0 c2q19.length]) (dst := (some 178)) (by kernel_rfl) [(0, .row 25 (Enc.cells c0q23)), (1, .row 35 (fl c1q23)), (2, .row 3 (fl c2q19))] 3 (by kernel_rfl) [] [2] (.tup [.v (.string r1884.1), .agg (Enc.cells r1884.2)]) [] (by simp only [push_cast, seval]) (by simp only [push_cast, seval]) (by kernel_rfl) (.inr ⟨by simp only [push_cast, seval], by simp only [push_cast, seval]⟩) (by simp only [push_cast, seval]) (by simp only [push_cast, seval]) ?_
                                refine rs 5 [] [] (by kernel_rfl) allP_nil ?_
                                refine rf [(0, .v (.string text)), (8, .ptr 0 0), (21, .v (.string r1884.1))] [(0, .row 25 (Enc.cells r1884.2)), (1, .row 35 (fl c1q23)), (2, .row 3 (fl c2q19))] 3 (by kernel_rfl) ?_
                                refine wk_id ?_
                                refine seq_cut (A := Unit) (fun _ => ([(4, bS ((r1884.2.Code == 0) && (decide (r1884.1 = text))))], [(0, .row 25 (Enc.cells r1884.2)), (1, .row 35 (fl c1q23)), (2, .row 3 (fl c2q19))], 3)) (fun _ => True) (fun K1886 hK1886 => ?_) (fun _ _ => ?_)
                                · refine reg_f ?_
                                  refine rs 4 [] [] (by kernel_rfl) allP_nil ?_
                                  refine run_split 184 (r1884.2.Code == 0) (.inl (by kernel_rfl)) (fun g1887 => ?_) (fun g1887 => ?_)
                                  · refine rs 5 [none, none, some ⟨bS (decide (r1884.1 = text)), [], 3, []⟩] _ (by kernel_rfl) (allP_cons (ob_p (v := bS (decide (r1884.1 = text))) (nx := 3) (r := []) trivial) allP_nil) ?_
                                    refine rf [(4, bS (decide (r1884.1 = text)))] [(0, .row 25 (Enc.cells r1884.2)), (1, .row 35 (fl c1q23)), (2, .row 3 (fl c2q19))] 3 (by kernel_rfl) ?_
                                    exact hK1886 () _ _ _ trivial (leSt_m [(0, 0), (1, 1), (2, 2)] [] (by (try simp only [g1887]) <;> simp only [push_cast, seval]) (by (try simp only [g1887]) <;> simp only [push_cast, seval]) rfl rfl rfl)
                                  · refine rs 5 [] [] (by kernel_rfl) allP_nil ?_
                                    refine rf [(4, bS false)] [(0, .row 25 (Enc.cells r1884.2)), (1, .row 35 (fl c1q23)), (2, .row 3 (fl c2q19))] 3 (by kernel_rfl) ?_
                                    exact hK1886 () _ _ _ trivial (leSt_m [(0, 0), (1, 1), (2, 2)] [] (by (try simp only [g1887]) <;> simp only [push_cast, seval]) (by (try simp only [g1887]) <;> simp only [push_cast, seval]) rfl rfl rfl)
                                · dsimp only
                                  obtain rfl := Option.some.inj h
                                  refine ret_at (bS ((r1884.2.Code == 0) && (decide (r1884.1 = text)))) (by kernel_rfl) ?_
                                  exact ret_e [] [] (by simp only [push_cast, seval]) (by simp only [push_cast, seval]) rfl rfl rfl

end Go.Proofs.YtbnhbaehapalnaaDoor
