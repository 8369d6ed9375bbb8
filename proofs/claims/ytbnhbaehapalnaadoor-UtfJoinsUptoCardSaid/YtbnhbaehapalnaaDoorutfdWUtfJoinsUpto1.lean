/-
  What laws of the chapter utfd compute, and lemmas on it.
  No conditions.
-/
import Derived.Test.YtbnhbaehapalnaaDoorProg
import Derived.Test.YtbnhbaehapalnaaDoorutfdG
set_option linter.unusedSimpArgs false
set_option linter.unusedVariables false
namespace Go.Proofs.YtbnhbaehapalnaaDoor
open Go Go.Sx
attribute [local irreducible] Wk RunAt
theorem follows : Tryd.prog.follows .mixedOrders = true := by kernel_rfl
set_option maxRecDepth 100000 in
set_option maxHeartbeats 200000000 in
theorem utf_fault_spec (code : Int) (xat : Int) (r : Fault) (h : utf_fault code xat = some r) : SpecW Tryd.prog 15 [iS code, iS xat] [] 0 (fun x h n => x = .agg (Enc.cells r) ∧ h = [] ∧ n = 0) := by
  unfold utf_fault at h
  refine spec_of (draw_ok _) Tryd.func15 rfl (by decide) rfl (by kernel_rfl) ?_
  refine seq_np ?_
  refine reg_f ?_
  refine rs 1 [] [] (by kernel_rfl) allP_nil ?_
  refine rf [(0, iS code), (1, iS xat), (4, .ptr 0 0)] [(0, .row 25 [iS 0, iS 0])] 1 (by kernel_rfl) ?_
  refine wk_id ?_
  refine seq_np ?_
  refine reg_f ?_
  refine rs 4 [] [] (by kernel_rfl) allP_nil ?_
  refine rf [(4, .ptr 0 0)] [(0, .row 25 [iS code, iS xat])] 1 (by kernel_rfl) ?_
  refine wk_id ?_
  obtain rfl := Option.some.inj h
  refine ret_at (.agg [iS code, iS xat]) (by kernel_rfl) ?_
  exact ret_e [] [] (by simp only [push_cast, seval]) (by simp only [push_cast, seval]) rfl rfl rfl

set_option maxRecDepth 100000 in
set_option maxHeartbeats 200000000 in
theorem utf_Range_spec (text : ByteArray) (r : Fault × (List S35)) (h : utf_Range text = some r) : SpecW Tryd.prog 7 [.v (.string text)] [] 0 (fun x h n => x = .tup [.own 0 0 r.2.length, .agg (Enc.cells r.1)] ∧ h = [(0, .row 35 (fl r.2))] ∧ n = 1) := by
  unfold utf_Range at h
  refine spec_of (draw_ok _) Tryd.func7 rfl (by decide) rfl (by kernel_rfl) ?_
  refine seq_np ?_
  refine reg_f ?_
  refine rs 2 [] [] (by kernel_rfl) allP_nil ?_
  refine rf [(0, .v (.string text)), (3, .ptr 0 0)] [(0, .row 25 [iS 0, iS 0])] 1 (by kernel_rfl) ?_
  refine wk_id ?_
  refine seq_np ?_
  refine seq_np ?_
  refine reg_f ?_
  refine rs 3 [] [] (by kernel_rfl) allP_nil ?_
  refine rf [(0, .v (.string text)), (3, .ptr 0 0), (9, bS (decide ((20000 : Int) < (((text).size : Nat) : Int))))] [(0, .row 25 [iS 0, iS 0])] 1 (by kernel_rfl) ?_
  refine wk_id ?_
  refine cond_sx h (by kernel_rfl) (fun g49 h => ?_) (fun g49 h => ?_)
  · refine seq_np ?_
    refine reg_f ?_
    obtain ⟨r16, hr16, h⟩ := bind_sx h
    refine run_call 15 [iS 2, iS 0] (some 10) (by kernel_rfl) ?_
    refine call_0 (utf_fault_spec 2 0 r16 hr16) (by simp only [push_cast, seval]) (by simp only [push_cast, seval]) ?_
    refine back_f ?_
    refine rs 2 [] [] (by kernel_rfl) allP_nil ?_
    refine rf [(2, .v (.slice none 0 0)), (3, .ptr 0 0)] [(0, .row 25 (Enc.cells r16))] 1 (by kernel_rfl) ?_
    refine wk_id ?_
    obtain rfl := Option.some.inj h
    refine ret_at (.tup [.v (.slice none 0 0), .agg (Enc.cells r16)]) (by kernel_rfl) ?_
    exact ret_e [] [] (by simp only [push_cast, seval]) (by simp only [push_cast, seval]) rfl rfl rfl
  · refine wk_id ?_
    refine seq_np ?_
    refine reg_f ?_
    refine rs 1 [] [] (by kernel_rfl) allP_nil ?_
    refine rf [(0, .v (.string text)), (3, .ptr 0 0), (4, .v (.slice none 0 0))] [(0, .row 25 [iS 0, iS 0])] 1 (by kernel_rfl) ?_
    refine wk_id ?_
    refine seq_np ?_
    refine seq_np ?_
    refine reg_f ?_
    refine rs 2 [none, some ⟨.it 1, [(1, .obj text 0)], 2, []⟩] _ (by kernel_rfl) (allP_cons (ob_range text 1) allP_nil) ?_
    refine rf [(3, .ptr 0 0), (4, .v (.slice none 0 0)), (12, .it 1)] [(0, .row 25 [iS 0, iS 0]), (1, .obj text 0)] 2 (by kernel_rfl) ?_
    refine wk_id ?_
    refine block_np ?_
    refine loop_sx (S := (List S35) × Nat) (fun a => ([(3, .ptr 0 0), (4, .own 1 0 a.1.length), (12, .it 2)], [(0, .row 25 [iS 0, iS 0]), (1, .row 35 (fl a.1)), (2, .obj text a.2)], 3)) h (leSt_m [(0, 0), (2, 1)] [] (by simp only [push_cast, seval]) (by simp only [push_cast, seval]) rfl rfl rfl) ?_
    rintro ⟨c1q7, c2q7⟩ o2 R2 h hr2 hn2 hx2 ht2
    try dsimp only at h hn2 ⊢
    unfold utf_Range_l1 at h
    try dsimp only at h
    refine bsplit_sx h (fun g44 h => ?_) (fun g44 h => ?_)
    · refine seq_np ?_
      refine reg_f ?_
      refine rs 2 [some ⟨.tup [bS true, iS ((c2q7 : Nat) : Int), .v (.int .i32 (((Utf8.decode text c2q7).1 : Nat) : Int))], [(2, .obj text (c2q7 + (Utf8.decode text c2q7).2))], 3, [2]⟩] _ (by kernel_rfl) (allP_cons (ob_next_t text c2q7 2 3 g44) allP_nil) ?_
      refine rf [(3, .ptr 0 0), (4, .own 1 0 c1q7.length), (12, .it 2), (13, .tup [bS true, iS ((c2q7 : Nat) : Int), .v (.int .i32 (((Utf8.decode text c2q7).1 : Nat) : Int))]), (14, bS true)] [(0, .row 25 [iS 0, iS 0]), (1, .row 35 (fl c1q7)), (2, .obj text (c2q7 + (Utf8.decode text c2q7).2))] 3 (by kernel_rfl) ?_
      refine wk_id ?_
      refine seq_np ?_
      refine cond_t (by kernel_rfl) ?_
      refine wk_id ?_
      refine block_np ?_
      refine seq_np ?_
      refine reg_f ?_
      refine rs 4 [] [] (by kernel_rfl) allP_nil ?_
      refine rf [(3, .ptr 0 0), (4, .own 1 0 c1q7.length), (5, iS ((c2q7 : Nat) : Int)), (6, .v (.int .i32 (((Utf8.decode text c2q7).1 : Nat) : Int))), (12, .it 2)] [(0, .row 25 [iS 0, iS 0]), (1, .row 35 (fl c1q7)), (2, .obj text (c2q7 + (Utf8.decode text c2q7).2))] 3 (by kernel_rfl) ?_
      refine wk_id ?_
      refine chk_sx h (fun g48 h => ?_)
      refine reg_f ?_
      have k47 : (c1q7 ++ ([(S35.mk ((c2q7 : Nat) : Int) (IntKind.i64.wrap (((Utf8.decode text c2q7).1 : Nat) : Int)))] : List S35)).length * 16 ≤ 140737488355328 := by first | simpa only [Bool.and_eq_true, decide_eq_true_eq, bne_iff_ne, ne_eq] using g48 | (simp at g48 ⊢; omega)
      refine rs 8 [none, none, none, none, none, none, some ⟨.own 4 0 (c1q7 ++ ([(S35.mk ((c2q7 : Nat) : Int) (IntKind.i64.wrap (((Utf8.decode text c2q7).1 : Nat) : Int)))] : List S35)).length, [(4, .row 35 (fl (c1q7 ++ ([(S35.mk ((c2q7 : Nat) : Int) (IntKind.i64.wrap (((Utf8.decode text c2q7).1 : Nat) : Int)))] : List S35)))), (1, .dead)], 5, [1, 3]⟩] _ (by kernel_rfl) (allP_cons (ob_app (P := Tryd.prog) c1q7 ([(S35.mk ((c2q7 : Nat) : Int) (IntKind.i64.wrap (((Utf8.decode text c2q7).1 : Nat) : Int)))] : List S35) 2 16 rfl (appCells (fl ([(S35.mk ((c2q7 : Nat) : Int) (IntKind.i64.wrap (((Utf8.decode text c2q7).1 : Nat) : Int)))] : List S35)) 0 (([(S35.mk ((c2q7 : Nat) : Int) (IntKind.i64.wrap (((Utf8.decode text c2q7).1 : Nat) : Int)))] : List S35).length * 2)) ([(S35.mk ((c2q7 : Nat) : Int) (IntKind.i64.wrap (((Utf8.decode text c2q7).1 : Nat) : Int)))] : List S35).length (app_own ([(S35.mk ((c2q7 : Nat) : Int) (IntKind.i64.wrap (((Utf8.decode text c2q7).1 : Nat) : Int)))] : List S35) 2 rfl) rfl (0 + ([(S35.mk ((c2q7 : Nat) : Int) (IntKind.i64.wrap (((Utf8.decode text c2q7).1 : Nat) : Int)))] : List S35).length * 2 ≤ (fl ([(S35.mk ((c2q7 : Nat) : Int) (IntKind.i64.wrap (((Utf8.decode text c2q7).1 : Nat) : Int)))] : List S35)).length) (app_own_le ([(S35.mk ((c2q7 : Nat) : Int) (IntKind.i64.wrap (((Utf8.decode text c2q7).1 : Nat) : Int)))] : List S35) 2 rfl) 35 (by kernel_rfl) (by decide) k47 1 4 [3]) allP_nil) ?_
      refine rf [(3, .ptr 0 0), (4, .own 4 0 (c1q7 ++ ([(S35.mk ((c2q7 : Nat) : Int) (IntKind.i64.wrap (((Utf8.decode text c2q7).1 : Nat) : Int)))] : List S35)).length), (12, .it 2)] [(0, .row 25 [iS 0, iS 0]), (1, .dead), (2, .obj text (c2q7 + (Utf8.decode text c2q7).2)), (3, .row 35 (fl ([(S35.mk ((c2q7 : Nat) : Int) (IntKind.i64.wrap (((Utf8.decode text c2q7).1 : Nat) : Int)))] : List S35))), (4, .row 35 (fl (c1q7 ++ ([(S35.mk ((c2q7 : Nat) : Int) (IntKind.i64.wrap (((Utf8.decode text c2q7).1 : Nat) : Int)))] : List S35))))] 5 (by kernel_rfl) ?_
      refine wk_id ?_
      exact hn2 ((c1q7 ++ ([(S35.mk ((c2q7 : Nat) : Int) (IntKind.i64.wrap (((Utf8.decode text c2q7).1 : Nat) : Int)))] : List S35)), (c2q7 + (Utf8.decode text c2q7).2)) _ _ _ (Option.some.inj h).symm (leSt_m [(0, 0), (1, 4), (2, 2)] [] (by simp only [push_cast, seval]) (by simp only [push_cast, seval]) rfl rfl rfl)
    · refine seq_np ?_
      refine reg_f ?_
      refine rs 2 [some ⟨.tup [bS false], [], 3, [2]⟩] _ (by kernel_rfl) (allP_cons (ob_next_f text c2q7 2 3 g44) allP_nil) ?_
      refine rf [(3, .ptr 0 0), (4, .own 1 0 c1q7.length), (12, .it 2), (13, .tup [bS false]), (14, bS false)] [(0, .row 25 [iS 0, iS 0]), (1, .row 35 (fl c1q7)), (2, .obj text c2q7)] 3 (by kernel_rfl) ?_
      refine wk_id ?_
      refine seq_np ?_
      refine cond_f (by kernel_rfl) ?_
      change R2 (.exit 0) _ _ _
      refine ex_cast hx2 (id := 0) ?_
      obtain ⟨r0, h, e0⟩ := map_sx h
      have e1 := hr2 r0 e0.symm
      subst r0
      refine wk_id ?_
      refine wk_id ?_
      refine seq_np ?_
      refine reg_f ?_
      refine rs 4 [] [] (by kernel_rfl) allP_nil ?_
      refine rf [(2, .own 1 0 c1q7.length), (3, .ptr 0 0)] [(0, .row 25 [iS 0, iS 0]), (1, .row 35 (fl c1q7)), (2, .obj text c2q7)] 3 (by kernel_rfl) ?_
      refine wk_id ?_
      obtain rfl := Option.some.inj h
      refine ret_at (.tup [.own 1 0 c1q7.length, .agg [iS 0, iS 0]]) (by kernel_rfl) ?_
      exact ret_e [(0, 1)] [] (by simp only [push_cast, seval]) (by simp only [push_cast, seval]) rfl rfl rfl

set_option maxRecDepth 100000 in
set_option maxHeartbeats 200000000 in
theorem taskmillref_SameOff_spec (xa : (List S35)) (b : (List S35)) (r : Bool) (h : taskmillref_SameOff xa b = some r) : SpecW Tryd.prog 11 [.sl xa.length (fl xa), .sl b.length (fl b)] [] 0 (fun x h n => x = bS r ∧ h = [] ∧ n = 0) := by
  unfold taskmillref_SameOff at h
  refine spec_of (draw_ok _) Tryd.func11 rfl (by decide) rfl (by kernel_rfl) ?_
  refine seq_np ?_
  refine reg_f ?_
  refine rs 1 [] [] (by kernel_rfl) allP_nil ?_
  refine rf [(0, .sl xa.length (fl xa)), (1, .sl b.length (fl b))] [] 0 (by kernel_rfl) ?_
  refine wk_id ?_
  refine seq_np ?_
  refine seq_np ?_
  refine reg_f ?_
  refine rs 5 [] [] (by kernel_rfl) allP_nil ?_
  refine rf [(0, .sl xa.length (fl xa)), (1, .sl b.length (fl b)), (10, bS (((xa.length : Nat) : Int) != ((b.length : Nat) : Int)))] [] 0 (by kernel_rfl) ?_
  refine wk_id ?_
  refine cond_sx h (by kernel_rfl) (fun g145 h => ?_) (fun g145 h => ?_)
  · refine seq_np ?_
    refine reg_f ?_
    refine rs 1 [] [] (by kernel_rfl) allP_nil ?_
    refine rf [(4, bS false)] [] 0 (by kernel_rfl) ?_
    refine wk_id ?_
    obtain rfl := Option.some.inj h
    refine ret_at (bS false) (by kernel_rfl) ?_
    exact ret_e [] [] (by simp only [push_cast, seval]) (by simp only [push_cast, seval]) rfl rfl rfl
  · refine wk_id ?_
    refine seq_np ?_
    refine seq_np ?_
    refine reg_f ?_
    refine rs 1 [] [] (by kernel_rfl) allP_nil ?_
    refine rf [(0, .sl xa.length (fl xa)), (1, .sl b.length (fl b)), (5, iS 0)] [] 0 (by kernel_rfl) ?_
    refine wk_id ?_
    refine block_np ?_
    refine loop_sx (S := Int) (fun a => ([(0, .sl xa.length (fl xa)), (1, .sl b.length (fl b)), (5, iS a)], [], 0)) h (leSt_m [] [] (by simp only [push_cast, seval]) (by simp only [push_cast, seval]) rfl rfl rfl) ?_
    rintro i7 o2 R2 h hr2 hn2 hx2 ht2
    try dsimp only at h hn2 ⊢
    unfold taskmillref_SameOff_l1 at h
    try dsimp only at h
    refine seq_np ?_
    refine seq_np ?_
    refine reg_f ?_
    refine rs 4 [] [] (by kernel_rfl) allP_nil ?_
    refine rf [(0, .sl xa.length (fl xa)), (1, .sl b.length (fl b)), (5, iS i7), (14, bS (decide (i7 < ((xa.length : Nat) : Int))))] [] 0 (by kernel_rfl) ?_
    refine wk_id ?_
    refine cond_sx h (by kernel_rfl) (fun g144 h => ?_) (fun g144 h => ?_)
    · refine wk_id ?_
      refine seq_np ?_
      refine block_np ?_
      refine chk_sx h (fun g140 h => ?_)
      refine chk_sx h (fun g142 h => ?_)
      refine seq_np ?_
      refine reg_t ?_
      have k139 : 0 ≤ i7 ∧ i7 < ((xa.length : Nat) : Int) := by first | simpa only [Bool.and_eq_true, decide_eq_true_eq, bne_iff_ne, ne_eq] using g140 | (simp at g140 ⊢; omega)
      have k141 : 0 ≤ i7 ∧ i7 < ((b.length : Nat) : Int) := by first | simpa only [Bool.and_eq_true, decide_eq_true_eq, bne_iff_ne, ne_eq] using g142 | (simp at g142 ⊢; omega)
      refine rs 9 [none, none, some ⟨.iptr (fl xa) ((i7).toNat * 2), [], 2, []⟩, some ⟨.agg (Enc.cells (ix xa i7)), [], 3, []⟩, none, none, some ⟨.iptr (fl b) ((i7).toNat * 2), [], 6, []⟩, some ⟨.agg (Enc.cells (ix b i7)), [], 7, []⟩] _ (by kernel_rfl) (allP_cons (ob_ldw b i7 2 ((i7).toNat * 2) k141 rfl (by first | rfl | omega) [iS (ix b i7).e0, iS (ix b i7).e1] rfl 7 []) (allP_cons (ob_ix_l b 2 6 i7 k141) (allP_cons (ob_ldw xa i7 2 ((i7).toNat * 2) k139 rfl (by first | rfl | omega) [iS (ix xa i7).e0, iS (ix xa i7).e1] rfl 3 []) (allP_cons (ob_ix_l xa 2 2 i7 k139) allP_nil)))) ?_
      refine rt [(0, .sl xa.length (fl xa)), (1, .sl b.length (fl b)), (5, iS i7), (25, bS (!(((ix xa i7).e0 == (ix b i7).e0) && (((ix xa i7).e1 == (ix b i7).e1) && true))))] [] 9 follows (by kernel_rfl) ?_
      refine wk_id ?_
      refine cond_sx h (by kernel_rfl) (fun g143 h => ?_) (fun g143 h => ?_)
      · refine seq_np ?_
        refine reg_f ?_
        refine rs 1 [] [] (by kernel_rfl) allP_nil ?_
        refine rf [(4, bS false)] [] 9 (by kernel_rfl) ?_
        refine wk_id ?_
        refine rt_cast ht2 ?_
        obtain ⟨r0, h, e0⟩ := map_sx h
        have e1 := hr2 r0 e0.symm
        subst r0
        obtain rfl := Option.some.inj h
        refine ret_at (bS false) (by kernel_rfl) ?_
        exact ret_e [] [] (by simp only [push_cast, seval]) (by simp only [push_cast, seval]) rfl rfl rfl
      · refine wk_id ?_
        refine wk_id ?_
        refine reg_f ?_
        refine rs 3 [] [] (by kernel_rfl) allP_nil ?_
        refine rf [(0, .sl xa.length (fl xa)), (1, .sl b.length (fl b)), (5, iS (IntKind.i64.wrap (i7 + 1)))] [] 9 (by kernel_rfl) ?_
        exact hn2 ((IntKind.i64.wrap (i7 + 1))) _ _ _ (Option.some.inj h).symm (leSt_m [] [] (by simp only [push_cast, seval]) (by simp only [push_cast, seval]) rfl rfl rfl)
    · change R2 (.exit 0) _ _ _
      refine ex_cast hx2 (id := 0) ?_
      obtain ⟨r0, h, e0⟩ := map_sx h
      have e1 := hr2 r0 e0.symm
      subst r0
      refine wk_id ?_
      refine wk_id ?_
      refine seq_np ?_
      refine reg_f ?_
      refine rs 1 [] [] (by kernel_rfl) allP_nil ?_
      refine rf [(4, bS true)] [] 0 (by kernel_rfl) ?_
      refine wk_id ?_
      obtain rfl := Option.some.inj h
      refine ret_at (bS true) (by kernel_rfl) ?_
      exact ret_e [] [] (by simp only [push_cast, seval]) (by simp only [push_cast, seval]) rfl rfl rfl

set_option maxRecDepth 100000 in
set_option maxHeartbeats 200000000 in
theorem taskmilllaw_utfBegun_spec (r : Bool) (h : taskmilllaw_utfBegun = some r) : SpecW Tryd.prog 6 [] [] 0 (fun x h n => x = bS r ∧ h = [] ∧ n = 0) := by
  unfold taskmilllaw_utfBegun at h
  refine spec_of (draw_ok _) Tryd.func6 rfl (by decide) rfl (by kernel_rfl) ?_
  refine seq_np ?_
  refine reg_f ?_
  refine rs 1 [] [] (by kernel_rfl) allP_nil ?_
  refine rf [] [] 0 (by kernel_rfl) ?_
  refine wk_id ?_
  refine seq_np ?_
  refine reg_f ?_
  obtain ⟨r150, hr150, h⟩ := bind_sx h
  refine call_x (utf_Range_spec (ByteArray.mk #[195, 164, 255]) r150 hr150) (args := [.v (.string (ByteArray.mk #[195, 164, 255]))]) (dst := (some 4)) (by kernel_rfl) [] 0 (by kernel_rfl) [] [] (.tup [.own 0 0 r150.2.length, .agg (Enc.cells r150.1)]) [(0, .row 35 (fl r150.2))] (by simp only [push_cast, seval]) (by simp only [push_cast, seval]) (by kernel_rfl) (.inl rfl) (by simp only [push_cast, seval]) (by simp only [push_cast, seval]) ?_
  refine rs 6 [] [] (by kernel_rfl) allP_nil ?_
  refine rf [(1, .own 0 0 r150.2.length), (2, .ptr 1 0)] [(0, .row 35 (fl r150.2)), (1, .row 25 (Enc.cells r150.1))] 2 (by kernel_rfl) ?_
  refine wk_id ?_
  refine seq_cut (A := Bool) (fun a => ([(0, bS a)], [], 0)) (fun a => (taskmilllaw_utfBegun_j1 a) = some r) (fun K154 hK154 => ?_) ?_
  · refine reg_f ?_
    refine rs 4 [] [] (by kernel_rfl) allP_nil ?_
    refine run_br h 10 (.inl (by kernel_rfl)) (fun g155 h => ?_) (fun g155 h => ?_)
    · refine rs 4 [] [] (by kernel_rfl) allP_nil ?_
      obtain ⟨r156, hr156, h⟩ := bind_sx h
      refine call_x (taskmillref_SameOff_spec r150.2 ([(S35.mk 0 228), (S35.mk 2 65533)] : List S35) r156 hr156) (args := [.own 0 0 r150.2.length, .own 2 0 ([(S35.mk 0 228), (S35.mk 2 65533)] : List S35).length]) (dst := (some 15)) (by kernel_rfl) [(0, .row 35 (fl r150.2)), (1, .row 25 (Enc.cells r150.1)), (2, .row 35 (fl ([(S35.mk 0 228), (S35.mk 2 65533)] : List S35)))] 3 (by kernel_rfl) [] [0, 2] (bS r156) [] (by simp only [push_cast, seval]) (by simp only [push_cast, seval]) (by kernel_rfl) (.inr ⟨by simp only [push_cast, seval], by simp only [push_cast, seval]⟩) (by simp only [push_cast, seval]) (by simp only [push_cast, seval]) ?_
      refine rs 2 [] [] (by kernel_rfl) allP_nil ?_
      refine rf [(0, bS r156)] [(0, .row 35 (fl r150.2)), (1, .row 25 (Enc.cells r150.1)), (2, .row 35 (fl ([(S35.mk 0 228), (S35.mk 2 65533)] : List S35)))] 3 (by kernel_rfl) ?_
      exact hK154 (r156) _ _ _ h (leSt_m [] [] (by (try simp only [g155]) <;> simp only [push_cast, seval]) (by (try simp only [g155]) <;> simp only [push_cast, seval]) rfl rfl rfl)
    · refine rs 7 [] [] (by kernel_rfl) allP_nil ?_
      refine rf [(0, bS false)] [(0, .row 35 (fl r150.2)), (1, .row 25 (Enc.cells r150.1))] 2 (by kernel_rfl) ?_
      exact hK154 (false) _ _ _ h (leSt_m [] [] (by (try simp only [g155]) <;> simp only [push_cast, seval]) (by (try simp only [g155]) <;> simp only [push_cast, seval]) rfl rfl rfl)
  · rintro t0q1 h
    try dsimp only at h ⊢
    unfold taskmilllaw_utfBegun_j1 at h
    obtain rfl := Option.some.inj h
    refine ret_at (bS t0q1) (by kernel_rfl) ?_
    exact ret_e [] [] (by simp only [push_cast, seval]) (by simp only [push_cast, seval]) rfl rfl rfl

set_option maxRecDepth 100000 in
set_option maxHeartbeats 200000000 in
theorem utf8_decodeRuneInStringSlow_spec (s : ByteArray) (r : Int × Int) (h : utf8_decodeRuneInStringSlow s = some r) : SpecW Tryd.prog 19 [.v (.string s)] [] 0 (fun x h n => x = .tup [.v (.int .i32 r.1), iS r.2] ∧ h = [] ∧ n = 0) := by
  unfold utf8_decodeRuneInStringSlow at h
  refine spec_of (draw_ok _) Tryd.func19 rfl (by decide) rfl (by kernel_rfl) ?_
  refine seq_np ?_
  refine reg_f ?_
  refine rs 2 [] [] (by kernel_rfl) allP_nil ?_
  refine rf [(0, .v (.string s))] [] 0 (by kernel_rfl) ?_
  refine wk_id ?_
  refine seq_np ?_
  refine reg_f ?_
  refine rs 3 [] [] (by kernel_rfl) allP_nil ?_
  refine rf [(0, .v (.string s)), (4, iS (((s).size : Nat) : Int))] [] 0 (by kernel_rfl) ?_
  refine wk_id ?_
  refine seq_np ?_
  refine seq_np ?_
  refine reg_f ?_
  refine rs 2 [] [] (by kernel_rfl) allP_nil ?_
  refine rf [(0, .v (.string s)), (4, iS (((s).size : Nat) : Int)), (16, bS (decide ((((s).size : Nat) : Int) < 1)))] [] 0 (by kernel_rfl) ?_
  refine wk_id ?_
  refine cond_sx h (by kernel_rfl) (fun g253 h => ?_) (fun g253 h => ?_)
  · refine seq_np ?_
    refine reg_f ?_
    refine rs 2 [] [] (by kernel_rfl) allP_nil ?_
    refine rf [(2, .v (.int .i32 65533)), (3, iS 0)] [] 0 (by kernel_rfl) ?_
    refine wk_id ?_
    obtain rfl := Option.some.inj h
    refine ret_at (.tup [.v (.int .i32 65533), iS 0]) (by kernel_rfl) ?_
    exact ret_e [] [] (by simp only [push_cast, seval]) (by simp only [push_cast, seval]) rfl rfl rfl
  · refine wk_id ?_
    refine chk_sx h (fun g200 h => ?_)
    refine seq_np ?_
    refine reg_f ?_
    have k199 : 0 ≤ (0 : Int) ∧ (0 : Int) < (((s).size : Nat) : Int) := by first | simpa only [Bool.and_eq_true, decide_eq_true_eq, bne_iff_ne, ne_eq] using g200 | (simp at g200 ⊢; omega)
    refine rs 3 [none, some ⟨.v (.int .u8 (((s).data.getD ((0 : Int)).toNat 0).toNat : Int)), [], 0, []⟩] _ (by kernel_rfl) (allP_cons (ob_p (v := .v (.int .u8 (((s).data.getD ((0 : Int)).toNat 0).toNat : Int))) (nx := 0) (r := []) k199) allP_nil) ?_
    refine rf [(0, .v (.string s)), (4, iS (((s).size : Nat) : Int)), (5, .v (.int .u8 (((s).data.getD ((0 : Int)).toNat 0).toNat : Int)))] [] 0 (by kernel_rfl) ?_
    refine wk_id ?_
    refine chk_sx h (fun g204 h => ?_)
    refine seq_np ?_
    refine reg_f ?_
    have k203 : 0 ≤ (((s).data.getD ((0 : Int)).toNat 0).toNat : Int) ∧ (((s).data.getD ((0 : Int)).toNat 0).toNat : Int) < ((utf8First.length : Nat) : Int) := by first | simpa only [Bool.and_eq_true, decide_eq_true_eq, bne_iff_ne, ne_eq] using g204 | (simp at g204 ⊢; omega)
    refine rs 4 [none, some ⟨.iptr (fl utf8First) (((((s).data.getD ((0 : Int)).toNat 0).toNat : Int)).toNat * 1), [], 0, []⟩, some ⟨.v (.int .u8 (ix utf8First (((s).data.getD ((0 : Int)).toNat 0).toNat : Int)).v), [], 0, []⟩] _ (by kernel_rfl) (allP_cons (ob_ld utf8First (((s).data.getD ((0 : Int)).toNat 0).toNat : Int) 1 0 (((((s).data.getD ((0 : Int)).toNat 0).toNat : Int)).toNat * 1) k203 rfl (by decide) (by first | rfl | omega) (dflS Tryd.prog 5) (.v (.int .u8 (ix utf8First (((s).data.getD ((0 : Int)).toNat 0).toNat : Int)).v)) rfl 0 []) (allP_cons (ob_tab utf8First (firstTab.map SV.v) (by kernel_rfl) 256 1 0 rfl (((s).data.getD ((0 : Int)).toNat 0).toNat : Int) k203) allP_nil)) ?_
    refine rf [(0, .v (.string s)), (4, iS (((s).size : Nat) : Int)), (5, .v (.int .u8 (((s).data.getD ((0 : Int)).toNat 0).toNat : Int))), (6, .v (.int .u8 (ix utf8First (((s).data.getD ((0 : Int)).toNat 0).toNat : Int)).v))] [] 0 (by kernel_rfl) ?_
    refine wk_id ?_
    refine seq_np ?_
    refine seq_np ?_
    refine reg_f ?_
    refine rs 2 [] [] (by kernel_rfl) allP_nil ?_
    refine rf [(0, .v (.string s)), (4, iS (((s).size : Nat) : Int)), (5, .v (.int .u8 (((s).data.getD ((0 : Int)).toNat 0).toNat : Int))), (6, .v (.int .u8 (ix utf8First (((s).data.getD ((0 : Int)).toNat 0).toNat : Int)).v)), (23, bS (decide ((240 : Int) ≤ (ix utf8First (((s).data.getD ((0 : Int)).toNat 0).toNat : Int)).v)))] [] 0 (by kernel_rfl) ?_
    refine wk_id ?_
    refine cond_sx h (by kernel_rfl) (fun g252 h => ?_) (fun g252 h => ?_)
    · refine seq_np ?_
      refine reg_f ?_
      refine rs 5 [] [] (by kernel_rfl) allP_nil ?_
      refine rf [(0, .v (.string s)), (7, .v (.int .i32 (Int.fdiv (IntKind.i32.wrap ((IntKind.i32.wrap (ix utf8First (((s).data.getD ((0 : Int)).toNat 0).toNat : Int)).v) * 2 ^ (min ((31 : Int)).toNat (IntKind.i32).bits))) (2 ^ (min ((31 : Int)).toNat (IntKind.i32).bits)))))] [] 0 (by kernel_rfl) ?_
      refine wk_id ?_
      refine chk_sx h (fun g211 h => ?_)
      refine seq_np ?_
      refine reg_f ?_
      have k210 : 0 ≤ (0 : Int) ∧ (0 : Int) < (((s).size : Nat) : Int) := by first | simpa only [Bool.and_eq_true, decide_eq_true_eq, bne_iff_ne, ne_eq] using g211 | (simp at g211 ⊢; omega)
      refine rs 10 [none, some ⟨.v (.int .u8 (((s).data.getD ((0 : Int)).toNat 0).toNat : Int)), [], 0, []⟩] _ (by kernel_rfl) (allP_cons (ob_p (v := .v (.int .u8 (((s).data.getD ((0 : Int)).toNat 0).toNat : Int))) (nx := 0) (r := []) k210) allP_nil) ?_
      refine rf [(2, .v (.int .i32 (IntKind.i32.wrap (((BitVec.ofInt (IntKind.i32).bits (IntKind.i32.wrap (((BitVec.ofInt (IntKind.i32).bits (IntKind.i32.wrap (((s).data.getD ((0 : Int)).toNat 0).toNat : Int)) &&& ~~~ BitVec.ofInt (IntKind.i32).bits (Int.fdiv (IntKind.i32.wrap ((IntKind.i32.wrap (ix utf8First (((s).data.getD ((0 : Int)).toNat 0).toNat : Int)).v) * 2 ^ (min ((31 : Int)).toNat (IntKind.i32).bits))) (2 ^ (min ((31 : Int)).toNat (IntKind.i32).bits)))).toNat : Nat) : Int)) ||| BitVec.ofInt (IntKind.i32).bits (IntKind.i32.wrap (((BitVec.ofInt (IntKind.i32).bits 65533 &&& BitVec.ofInt (IntKind.i32).bits (Int.fdiv (IntKind.i32.wrap ((IntKind.i32.wrap (ix utf8First (((s).data.getD ((0 : Int)).toNat 0).toNat : Int)).v) * 2 ^ (min ((31 : Int)).toNat (IntKind.i32).bits))) (2 ^ (min ((31 : Int)).toNat (IntKind.i32).bits)))).toNat : Nat) : Int))).toNat : Nat) : Int)))), (3, iS 1)] [] 0 (by kernel_rfl) ?_
      refine wk_id ?_
      obtain rfl := Option.some.inj h
      refine ret_at (.tup [.v (.int .i32 (IntKind.i32.wrap (((BitVec.ofInt (IntKind.i32).bits (IntKind.i32.wrap (((BitVec.ofInt (IntKind.i32).bits (IntKind.i32.wrap (((s).data.getD ((0 : Int)).toNat 0).toNat : Int)) &&& ~~~ BitVec.ofInt (IntKind.i32).bits (Int.fdiv (IntKind.i32.wrap ((IntKind.i32.wrap (ix utf8First (((s).data.getD ((0 : Int)).toNat 0).toNat : Int)).v) * 2 ^ (min ((31 : Int)).toNat (IntKind.i32).bits))) (2 ^ (min ((31 : Int)).toNat (IntKind.i32).bits)))).toNat : Nat) : Int)) ||| BitVec.ofInt (IntKind.i32).bits (IntKind.i32.wrap (((BitVec.ofInt (IntKind.i32).bits 65533 &&& BitVec.ofInt (IntKind.i32).bits (Int.fdiv (IntKind.i32.wrap ((IntKind.i32.wrap (ix utf8First (((s).data.getD ((0 : Int)).toNat 0).toNat : Int)).v) * 2 ^ (min ((31 : Int)).toNat (IntKind.i32).bits))) (2 ^ (min ((31 : Int)).toNat (IntKind.i32).bits)))).toNat : Nat) : Int))).toNat : Nat) : Int))), iS 1]) (by kernel_rfl) ?_
      exact ret_e [] [] (by simp only [push_cast, seval]) (by simp only [push_cast, seval]) rfl rfl rfl
    · refine wk_id ?_
      refine seq_np ?_
      refine reg_f ?_
      refine rs 4 [] [] (by kernel_rfl) allP_nil ?_
      refine rf [(0, .v (.string s)), (4, iS (((s).size : Nat) : Int)), (5, .v (.int .u8 (((s).data.getD ((0 : Int)).toNat 0).toNat : Int))), (6, .v (.int .u8 (ix utf8First (((s).data.getD ((0 : Int)).toNat 0).toNat : Int)).v)), (8, iS (IntKind.i64.wrap (IntKind.u8.wrap (((BitVec.ofInt (IntKind.u8).bits (ix utf8First (((s).data.getD ((0 : Int)).toNat 0).toNat : Int)).v &&& BitVec.ofInt (IntKind.u8).bits 7).toNat : Nat) : Int))))] [] 0 (by kernel_rfl) ?_
      refine wk_id ?_
      refine chk_sx h (fun g215 h => ?_)
      refine seq_np ?_
      refine reg_f ?_
      have k214 : 0 ≤ (Int.fdiv (ix utf8First (((s).data.getD ((0 : Int)).toNat 0).toNat : Int)).v (2 ^ (min ((4 : Int)).toNat (IntKind.u8).bits))) ∧ (Int.fdiv (ix utf8First (((s).data.getD ((0 : Int)).toNat 0).toNat : Int)).v (2 ^ (min ((4 : Int)).toNat (IntKind.u8).bits))) < ((utf8Accept.length : Nat) : Int) := by first | simpa only [Bool.and_eq_true, decide_eq_true_eq, bne_iff_ne, ne_eq] using g215 | (simp at g215 ⊢; omega)
      refine rs 6 [none, none, some ⟨.iptr (fl utf8Accept) (((Int.fdiv (ix utf8First (((s).data.getD ((0 : Int)).toNat 0).toNat : Int)).v (2 ^ (min ((4 : Int)).toNat (IntKind.u8).bits)))).toNat * 2), [], 0, []⟩, some ⟨.agg (Enc.cells (ix utf8Accept (Int.fdiv (ix utf8First (((s).data.getD ((0 : Int)).toNat 0).toNat : Int)).v (2 ^ (min ((4 : Int)).toNat (IntKind.u8).bits))))), [], 0, []⟩] _ (by kernel_rfl) (allP_cons (ob_ldw utf8Accept (Int.fdiv (ix utf8First (((s).data.getD ((0 : Int)).toNat 0).toNat : Int)).v (2 ^ (min ((4 : Int)).toNat (IntKind.u8).bits))) 2 (((Int.fdiv (ix utf8First (((s).data.getD ((0 : Int)).toNat 0).toNat : Int)).v (2 ^ (min ((4 : Int)).toNat (IntKind.u8).bits)))).toNat * 2) k214 rfl (by first | rfl | omega) [.v (.int .u8 (ix utf8Accept (Int.fdiv (ix utf8First (((s).data.getD ((0 : Int)).toNat 0).toNat : Int)).v (2 ^ (min ((4 : Int)).toNat (IntKind.u8).bits)))).lo), .v (.int .u8 (ix utf8Accept (Int.fdiv (ix utf8First (((s).data.getD ((0 : Int)).toNat 0).toNat : Int)).v (2 ^ (min ((4 : Int)).toNat (IntKind.u8).bits)))).hi)] rfl 0 []) (allP_cons (ob_tab utf8Accept (acceptTab.map SV.v) (by kernel_rfl) 16 2 0 rfl (Int.fdiv (ix utf8First (((s).data.getD ((0 : Int)).toNat 0).toNat : Int)).v (2 ^ (min ((4 : Int)).toNat (IntKind.u8).bits))) k214) allP_nil)) ?_
      refine rf [(0, .v (.string s)), (4, iS (((s).size : Nat) : Int)), (5, .v (.int .u8 (((s).data.getD ((0 : Int)).toNat 0).toNat : Int))), (8, iS (IntKind.i64.wrap (IntKind.u8.wrap (((BitVec.ofInt (IntKind.u8).bits (ix utf8First (((s).data.getD ((0 : Int)).toNat 0).toNat : Int)).v &&& BitVec.ofInt (IntKind.u8).bits 7).toNat : Nat) : Int)))), (9, .ptr 0 0)] [(0, .row 54 (Enc.cells (ix utf8Accept (Int.fdiv (ix utf8First (((s).data.getD ((0 : Int)).toNat 0).toNat : Int)).v (2 ^ (min ((4 : Int)).toNat (IntKind.u8).bits))))))] 1 (by kernel_rfl) ?_
      refine wk_id ?_
      refine seq_np ?_
      refine seq_np ?_
      refine reg_f ?_
      refine rs 3 [] [] (by kernel_rfl) allP_nil ?_
      refine rf [(0, .v (.string s)), (5, .v (.int .u8 (((s).data.getD ((0 : Int)).toNat 0).toNat : Int))), (8, iS (IntKind.i64.wrap (IntKind.u8.wrap (((BitVec.ofInt (IntKind.u8).bits (ix utf8First (((s).data.getD ((0 : Int)).toNat 0).toNat : Int)).v &&& BitVec.ofInt (IntKind.u8).bits 7).toNat : Nat) : Int)))), (9, .ptr 0 0), (45, bS (decide ((((s).size : Nat) : Int) < (IntKind.i64.wrap (IntKind.u8.wrap (((BitVec.ofInt (IntKind.u8).bits (ix utf8First (((s).data.getD ((0 : Int)).toNat 0).toNat : Int)).v &&& BitVec.ofInt (IntKind.u8).bits 7).toNat : Nat) : Int))))))] [(0, .row 54 (Enc.cells (ix utf8Accept (Int.fdiv (ix utf8First (((s).data.getD ((0 : Int)).toNat 0).toNat : Int)).v (2 ^ (min ((4 : Int)).toNat (IntKind.u8).bits))))))] 1 (by kernel_rfl) ?_
      refine wk_id ?_
      refine cond_sx h (by kernel_rfl) (fun g251 h => ?_) (fun g251 h => ?_)
      · refine seq_np ?_
        refine reg_f ?_
        refine rs 2 [] [] (by kernel_rfl) allP_nil ?_
        refine rf [(2, .v (.int .i32 65533)), (3, iS 1)] [(0, .row 54 (Enc.cells (ix utf8Accept (Int.fdiv (ix utf8First (((s).data.getD ((0 : Int)).toNat 0).toNat : Int)).v (2 ^ (min ((4 : Int)).toNat (IntKind.u8).bits))))))] 1 (by kernel_rfl) ?_
        refine wk_id ?_
        obtain rfl := Option.some.inj h
        refine ret_at (.tup [.v (.int .i32 65533), iS 1]) (by kernel_rfl) ?_
        exact ret_e [] [] (by simp only [push_cast, seval]) (by simp only [push_cast, seval]) rfl rfl rfl
      · refine wk_id ?_
        refine chk_sx h (fun g220 h => ?_)
        refine seq_np ?_
        refine reg_f ?_
        have k219 : 0 ≤ (1 : Int) ∧ (1 : Int) < (((s).size : Nat) : Int) := by first | simpa only [Bool.and_eq_true, decide_eq_true_eq, bne_iff_ne, ne_eq] using g220 | (simp at g220 ⊢; omega)
        refine rs 3 [none, some ⟨.v (.int .u8 (((s).data.getD ((1 : Int)).toNat 0).toNat : Int)), [], 1, []⟩] _ (by kernel_rfl) (allP_cons (ob_p (v := .v (.int .u8 (((s).data.getD ((1 : Int)).toNat 0).toNat : Int))) (nx := 1) (r := []) k219) allP_nil) ?_
        refine rf [(0, .v (.string s)), (5, .v (.int .u8 (((s).data.getD ((0 : Int)).toNat 0).toNat : Int))), (8, iS (IntKind.i64.wrap (IntKind.u8.wrap (((BitVec.ofInt (IntKind.u8).bits (ix utf8First (((s).data.getD ((0 : Int)).toNat 0).toNat : Int)).v &&& BitVec.ofInt (IntKind.u8).bits 7).toNat : Nat) : Int)))), (9, .ptr 0 0), (10, .v (.int .u8 (((s).data.getD ((1 : Int)).toNat 0).toNat : Int)))] [(0, .row 54 (Enc.cells (ix utf8Accept (Int.fdiv (ix utf8First (((s).data.getD ((0 : Int)).toNat 0).toNat : Int)).v (2 ^ (min ((4 : Int)).toNat (IntKind.u8).bits))))))] 1 (by kernel_rfl) ?_
        refine wk_id ?_
        refine seq_np ?_
        refine seq_cut (A := Unit) (fun _ => ([(0, .v (.string s)), (5, .v (.int .u8 (((s).data.getD ((0 : Int)).toNat 0).toNat : Int))), (8, iS (IntKind.i64.wrap (IntKind.u8.wrap (((BitVec.ofInt (IntKind.u8).bits (ix utf8First (((s).data.getD ((0 : Int)).toNat 0).toNat : Int)).v &&& BitVec.ofInt (IntKind.u8).bits 7).toNat : Nat) : Int)))), (10, .v (.int .u8 (((s).data.getD ((1 : Int)).toNat 0).toNat : Int))), (57, bS ((decide ((((s).data.getD ((1 : Int)).toNat 0).toNat : Int) < (ix utf8Accept (Int.fdiv (ix utf8First (((s).data.getD ((0 : Int)).toNat 0).toNat : Int)).v (2 ^ (min ((4 : Int)).toNat (IntKind.u8).bits)))).lo)) || (decide ((ix utf8Accept (Int.fdiv (ix utf8First (((s).data.getD ((0 : Int)).toNat 0).toNat : Int)).v (2 ^ (min ((4 : Int)).toNat (IntKind.u8).bits)))).hi < (((s).data.getD ((1 : Int)).toNat 0).toNat : Int)))))], [(0, .row 54 (Enc.cells (ix utf8Accept (Int.fdiv (ix utf8First (((s).data.getD ((0 : Int)).toNat 0).toNat : Int)).v (2 ^ (min ((4 : Int)).toNat (IntKind.u8).bits))))))], 1)) (fun _ => True) (fun K224 hK224 => ?_) (fun _ _ => ?_)
        · refine reg_f ?_
          refine rs 5 [] [] (by kernel_rfl) allP_nil ?_
          refine run_split 52 (decide ((((s).data.getD ((1 : Int)).toNat 0).toNat : Int) < (ix utf8Accept (Int.fdiv (ix utf8First (((s).data.getD ((0 : Int)).toNat 0).toNat : Int)).v (2 ^ (min ((4 : Int)).toNat (IntKind.u8).bits)))).lo)) (.inl (by kernel_rfl)) (fun g225 => ?_) (fun g225 => ?_)
          · refine rs 5 [] [] (by kernel_rfl) allP_nil ?_
            refine rf [(0, .v (.string s)), (5, .v (.int .u8 (((s).data.getD ((0 : Int)).toNat 0).toNat : Int))), (8, iS (IntKind.i64.wrap (IntKind.u8.wrap (((BitVec.ofInt (IntKind.u8).bits (ix utf8First (((s).data.getD ((0 : Int)).toNat 0).toNat : Int)).v &&& BitVec.ofInt (IntKind.u8).bits 7).toNat : Nat) : Int)))), (10, .v (.int .u8 (((s).data.getD ((1 : Int)).toNat 0).toNat : Int))), (57, bS true)] [(0, .row 54 (Enc.cells (ix utf8Accept (Int.fdiv (ix utf8First (((s).data.getD ((0 : Int)).toNat 0).toNat : Int)).v (2 ^ (min ((4 : Int)).toNat (IntKind.u8).bits))))))] 1 (by kernel_rfl) ?_
            exact hK224 () _ _ _ trivial (leSt_m [(0, 0)] [] (by (try simp only [g225]) <;> simp only [push_cast, seval]) (by (try simp only [g225]) <;> simp only [push_cast, seval]) rfl rfl rfl)
          · refine rs 5 [] [] (by kernel_rfl) allP_nil ?_
            refine rf [(0, .v (.string s)), (5, .v (.int .u8 (((s).data.getD ((0 : Int)).toNat 0).toNat : Int))), (8, iS (IntKind.i64.wrap (IntKind.u8.wrap (((BitVec.ofInt (IntKind.u8).bits (ix utf8First (((s).data.getD ((0 : Int)).toNat 0).toNat : Int)).v &&& BitVec.ofInt (IntKind.u8).bits 7).toNat : Nat) : Int)))), (10, .v (.int .u8 (((s).data.getD ((1 : Int)).toNat 0).toNat : Int))), (57, bS (decide ((ix utf8Accept (Int.fdiv (ix utf8First (((s).data.getD ((0 : Int)).toNat 0).toNat : Int)).v (2 ^ (min ((4 : Int)).toNat (IntKind.u8).bits)))).hi < (((s).data.getD ((1 : Int)).toNat 0).toNat : Int))))] [(0, .row 54 (Enc.cells (ix utf8Accept (Int.fdiv (ix utf8First (((s).data.getD ((0 : Int)).toNat 0).toNat : Int)).v (2 ^ (min ((4 : Int)).toNat (IntKind.u8).bits))))))] 1 (by kernel_rfl) ?_
            exact hK224 () _ _ _ trivial (leSt_m [(0, 0)] [] (by (try simp only [g225]) <;> simp only [push_cast, seval]) (by (try simp only [g225]) <;> simp only [push_cast, seval]) rfl rfl rfl)
        · dsimp only
          refine cond_sx h (by kernel_rfl) (fun g250 h => ?_) (fun g250 h => ?_)
          · refine seq_np ?_
            refine reg_f ?_
            refine rs 2 [] [] (by kernel_rfl) allP_nil ?_
            refine rf [(2, .v (.int .i32 65533)), (3, iS 1)] [(0, .row 54 (Enc.cells (ix utf8Accept (Int.fdiv (ix utf8First (((s).data.getD ((0 : Int)).toNat 0).toNat : Int)).v (2 ^ (min ((4 : Int)).toNat (IntKind.u8).bits))))))] 1 (by kernel_rfl) ?_
            refine wk_id ?_
            obtain rfl := Option.some.inj h
            refine ret_at (.tup [.v (.int .i32 65533), iS 1]) (by kernel_rfl) ?_
            exact ret_e [] [] (by simp only [push_cast, seval]) (by simp only [push_cast, seval]) rfl rfl rfl
          · refine wk_id ?_
            refine seq_np ?_
            refine seq_np ?_
            refine reg_f ?_
            refine rs 2 [] [] (by kernel_rfl) allP_nil ?_
            refine rf [(0, .v (.string s)), (5, .v (.int .u8 (((s).data.getD ((0 : Int)).toNat 0).toNat : Int))), (8, iS (IntKind.i64.wrap (IntKind.u8.wrap (((BitVec.ofInt (IntKind.u8).bits (ix utf8First (((s).data.getD ((0 : Int)).toNat 0).toNat : Int)).v &&& BitVec.ofInt (IntKind.u8).bits 7).toNat : Nat) : Int)))), (10, .v (.int .u8 (((s).data.getD ((1 : Int)).toNat 0).toNat : Int))), (59, bS (decide ((IntKind.i64.wrap (IntKind.u8.wrap (((BitVec.ofInt (IntKind.u8).bits (ix utf8First (((s).data.getD ((0 : Int)).toNat 0).toNat : Int)).v &&& BitVec.ofInt (IntKind.u8).bits 7).toNat : Nat) : Int))) ≤ 2)))] [(0, .row 54 (Enc.cells (ix utf8Accept (Int.fdiv (ix utf8First (((s).data.getD ((0 : Int)).toNat 0).toNat : Int)).v (2 ^ (min ((4 : Int)).toNat (IntKind.u8).bits))))))] 1 (by kernel_rfl) ?_
            refine wk_id ?_
            refine cond_sx h (by kernel_rfl) (fun g249 h => ?_) (fun g249 h => ?_)
            · refine seq_np ?_
              refine reg_f ?_
              refine rs 10 [] [] (by kernel_rfl) allP_nil ?_
              refine rf [(2, .v (.int .i32 (IntKind.i32.wrap (((BitVec.ofInt (IntKind.i32).bits (IntKind.i32.wrap ((IntKind.i32.wrap (IntKind.u8.wrap (((BitVec.ofInt (IntKind.u8).bits (((s).data.getD ((0 : Int)).toNat 0).toNat : Int) &&& BitVec.ofInt (IntKind.u8).bits 31).toNat : Nat) : Int))) * 2 ^ (min ((6 : Int)).toNat (IntKind.i32).bits))) ||| BitVec.ofInt (IntKind.i32).bits (IntKind.i32.wrap (IntKind.u8.wrap (((BitVec.ofInt (IntKind.u8).bits (((s).data.getD ((1 : Int)).toNat 0).toNat : Int) &&& BitVec.ofInt (IntKind.u8).bits 63).toNat : Nat) : Int)))).toNat : Nat) : Int)))), (3, iS 2)] [(0, .row 54 (Enc.cells (ix utf8Accept (Int.fdiv (ix utf8First (((s).data.getD ((0 : Int)).toNat 0).toNat : Int)).v (2 ^ (min ((4 : Int)).toNat (IntKind.u8).bits))))))] 1 (by kernel_rfl) ?_
              refine wk_id ?_
              obtain rfl := Option.some.inj h
              refine ret_at (.tup [.v (.int .i32 (IntKind.i32.wrap (((BitVec.ofInt (IntKind.i32).bits (IntKind.i32.wrap ((IntKind.i32.wrap (IntKind.u8.wrap (((BitVec.ofInt (IntKind.u8).bits (((s).data.getD ((0 : Int)).toNat 0).toNat : Int) &&& BitVec.ofInt (IntKind.u8).bits 31).toNat : Nat) : Int))) * 2 ^ (min ((6 : Int)).toNat (IntKind.i32).bits))) ||| BitVec.ofInt (IntKind.i32).bits (IntKind.i32.wrap (IntKind.u8.wrap (((BitVec.ofInt (IntKind.u8).bits (((s).data.getD ((1 : Int)).toNat 0).toNat : Int) &&& BitVec.ofInt (IntKind.u8).bits 63).toNat : Nat) : Int)))).toNat : Nat) : Int))), iS 2]) (by kernel_rfl) ?_
              exact ret_e [] [] (by simp only [push_cast, seval]) (by simp only [push_cast, seval]) rfl rfl rfl
            · refine wk_id ?_
              refine chk_sx h (fun g230 h => ?_)
              refine seq_np ?_
              refine reg_f ?_
              have k229 : 0 ≤ (2 : Int) ∧ (2 : Int) < (((s).size : Nat) : Int) := by first | simpa only [Bool.and_eq_true, decide_eq_true_eq, bne_iff_ne, ne_eq] using g230 | (simp at g230 ⊢; omega)
              refine rs 3 [none, some ⟨.v (.int .u8 (((s).data.getD ((2 : Int)).toNat 0).toNat : Int)), [], 1, []⟩] _ (by kernel_rfl) (allP_cons (ob_p (v := .v (.int .u8 (((s).data.getD ((2 : Int)).toNat 0).toNat : Int))) (nx := 1) (r := []) k229) allP_nil) ?_
              refine rf [(0, .v (.string s)), (5, .v (.int .u8 (((s).data.getD ((0 : Int)).toNat 0).toNat : Int))), (8, iS (IntKind.i64.wrap (IntKind.u8.wrap (((BitVec.ofInt (IntKind.u8).bits (ix utf8First (((s).data.getD ((0 : Int)).toNat 0).toNat : Int)).v &&& BitVec.ofInt (IntKind.u8).bits 7).toNat : Nat) : Int)))), (10, .v (.int .u8 (((s).data.getD ((1 : Int)).toNat 0).toNat : Int))), (11, .v (.int .u8 (((s).data.getD ((2 : Int)).toNat 0).toNat : Int)))] [(0, .row 54 (Enc.cells (ix utf8Accept (Int.fdiv (ix utf8First (((s).data.getD ((0 : Int)).toNat 0).toNat : Int)).v (2 ^ (min ((4 : Int)).toNat (IntKind.u8).bits))))))] 1 (by kernel_rfl) ?_
              refine wk_id ?_
              refine seq_np ?_
              refine seq_cut (A := Unit) (fun _ => ([(0, .v (.string s)), (5, .v (.int .u8 (((s).data.getD ((0 : Int)).toNat 0).toNat : Int))), (8, iS (IntKind.i64.wrap (IntKind.u8.wrap (((BitVec.ofInt (IntKind.u8).bits (ix utf8First (((s).data.getD ((0 : Int)).toNat 0).toNat : Int)).v &&& BitVec.ofInt (IntKind.u8).bits 7).toNat : Nat) : Int)))), (10, .v (.int .u8 (((s).data.getD ((1 : Int)).toNat 0).toNat : Int))), (11, .v (.int .u8 (((s).data.getD ((2 : Int)).toNat 0).toNat : Int))), (75, bS ((decide ((((s).data.getD ((2 : Int)).toNat 0).toNat : Int) < 128)) || (decide ((191 : Int) < (((s).data.getD ((2 : Int)).toNat 0).toNat : Int)))))], [(0, .row 54 (Enc.cells (ix utf8Accept (Int.fdiv (ix utf8First (((s).data.getD ((0 : Int)).toNat 0).toNat : Int)).v (2 ^ (min ((4 : Int)).toNat (IntKind.u8).bits))))))], 1)) (fun _ => True) (fun K234 hK234 => ?_) (fun _ _ => ?_)
              · refine reg_f ?_
                refine rs 3 [] [] (by kernel_rfl) allP_nil ?_
                refine run_split 72 (decide ((((s).data.getD ((2 : Int)).toNat 0).toNat : Int) < 128)) (.inl (by kernel_rfl)) (fun g235 => ?_) (fun g235 => ?_)
                · refine rs 3 [] [] (by kernel_rfl) allP_nil ?_
                  refine rf [(0, .v (.string s)), (5, .v (.int .u8 (((s).data.getD ((0 : Int)).toNat 0).toNat : Int))), (8, iS (IntKind.i64.wrap (IntKind.u8.wrap (((BitVec.ofInt (IntKind.u8).bits (ix utf8First (((s).data.getD ((0 : Int)).toNat 0).toNat : Int)).v &&& BitVec.ofInt (IntKind.u8).bits 7).toNat : Nat) : Int)))), (10, .v (.int .u8 (((s).data.getD ((1 : Int)).toNat 0).toNat : Int))), (11, .v (.int .u8 (((s).data.getD ((2 : Int)).toNat 0).toNat : Int))), (75, bS true)] [(0, .row 54 (Enc.cells (ix utf8Accept (Int.fdiv (ix utf8First (((s).data.getD ((0 : Int)).toNat 0).toNat : Int)).v (2 ^ (min ((4 : Int)).toNat (IntKind.u8).bits))))))] 1 (by kernel_rfl) ?_
                  exact hK234 () _ _ _ trivial (leSt_m [(0, 0)] [] (by (try simp only [g235]) <;> simp only [push_cast, seval]) (by (try simp only [g235]) <;> simp only [push_cast, seval]) rfl rfl rfl)
                · refine rs 3 [] [] (by kernel_rfl) allP_nil ?_
                  refine rf [(0, .v (.string s)), (5, .v (.int .u8 (((s).data.getD ((0 : Int)).toNat 0).toNat : Int))), (8, iS (IntKind.i64.wrap (IntKind.u8.wrap (((BitVec.ofInt (IntKind.u8).bits (ix utf8First (((s).data.getD ((0 : Int)).toNat 0).toNat : Int)).v &&& BitVec.ofInt (IntKind.u8).bits 7).toNat : Nat) : Int)))), (10, .v (.int .u8 (((s).data.getD ((1 : Int)).toNat 0).toNat : Int))), (11, .v (.int .u8 (((s).data.getD ((2 : Int)).toNat 0).toNat : Int))), (75, bS (decide ((191 : Int) < (((s).data.getD ((2 : Int)).toNat 0).toNat : Int))))] [(0, .row 54 (Enc.cells (ix utf8Accept (Int.fdiv (ix utf8First (((s).data.getD ((0 : Int)).toNat 0).toNat : Int)).v (2 ^ (min ((4 : Int)).toNat (IntKind.u8).bits))))))] 1 (by kernel_rfl) ?_
                  exact hK234 () _ _ _ trivial (leSt_m [(0, 0)] [] (by (try simp only [g235]) <;> simp only [push_cast, seval]) (by (try simp only [g235]) <;> simp only [push_cast, seval]) rfl rfl rfl)
              · dsimp only
                refine cond_sx h (by kernel_rfl) (fun g248 h => ?_) (fun g248 h => ?_)
                · refine seq_np ?_
                  refine reg_f ?_
                  refine rs 2 [] [] (by kernel_rfl) allP_nil ?_
                  refine rf [(2, .v (.int .i32 65533)), (3, iS 1)] [(0, .row 54 (Enc.cells (ix utf8Accept (Int.fdiv (ix utf8First (((s).data.getD ((0 : Int)).toNat 0).toNat : Int)).v (2 ^ (min ((4 : Int)).toNat (IntKind.u8).bits))))))] 1 (by kernel_rfl) ?_
                  refine wk_id ?_
                  obtain rfl := Option.some.inj h
                  refine ret_at (.tup [.v (.int .i32 65533), iS 1]) (by kernel_rfl) ?_
                  exact ret_e [] [] (by simp only [push_cast, seval]) (by simp only [push_cast, seval]) rfl rfl rfl
                · refine wk_id ?_
                  refine seq_np ?_
                  refine seq_np ?_
                  refine reg_f ?_
                  refine rs 2 [] [] (by kernel_rfl) allP_nil ?_
                  refine rf [(0, .v (.string s)), (5, .v (.int .u8 (((s).data.getD ((0 : Int)).toNat 0).toNat : Int))), (10, .v (.int .u8 (((s).data.getD ((1 : Int)).toNat 0).toNat : Int))), (11, .v (.int .u8 (((s).data.getD ((2 : Int)).toNat 0).toNat : Int))), (77, bS (decide ((IntKind.i64.wrap (IntKind.u8.wrap (((BitVec.ofInt (IntKind.u8).bits (ix utf8First (((s).data.getD ((0 : Int)).toNat 0).toNat : Int)).v &&& BitVec.ofInt (IntKind.u8).bits 7).toNat : Nat) : Int))) ≤ 3)))] [(0, .row 54 (Enc.cells (ix utf8Accept (Int.fdiv (ix utf8First (((s).data.getD ((0 : Int)).toNat 0).toNat : Int)).v (2 ^ (min ((4 : Int)).toNat (IntKind.u8).bits))))))] 1 (by kernel_rfl) ?_
                  refine wk_id ?_
                  refine cond_sx h (by kernel_rfl) (fun g247 h => ?_) (fun g247 h => ?_)
                  · refine seq_np ?_
                    refine reg_f ?_
                    refine rs 15 [] [] (by kernel_rfl) allP_nil ?_
                    refine rf [(2, .v (.int .i32 (IntKind.i32.wrap (((BitVec.ofInt (IntKind.i32).bits (IntKind.i32.wrap (((BitVec.ofInt (IntKind.i32).bits (IntKind.i32.wrap ((IntKind.i32.wrap (IntKind.u8.wrap (((BitVec.ofInt (IntKind.u8).bits (((s).data.getD ((0 : Int)).toNat 0).toNat : Int) &&& BitVec.ofInt (IntKind.u8).bits 15).toNat : Nat) : Int))) * 2 ^ (min ((12 : Int)).toNat (IntKind.i32).bits))) ||| BitVec.ofInt (IntKind.i32).bits (IntKind.i32.wrap ((IntKind.i32.wrap (IntKind.u8.wrap (((BitVec.ofInt (IntKind.u8).bits (((s).data.getD ((1 : Int)).toNat 0).toNat : Int) &&& BitVec.ofInt (IntKind.u8).bits 63).toNat : Nat) : Int))) * 2 ^ (min ((6 : Int)).toNat (IntKind.i32).bits)))).toNat : Nat) : Int)) ||| BitVec.ofInt (IntKind.i32).bits (IntKind.i32.wrap (IntKind.u8.wrap (((BitVec.ofInt (IntKind.u8).bits (((s).data.getD ((2 : Int)).toNat 0).toNat : Int) &&& BitVec.ofInt (IntKind.u8).bits 63).toNat : Nat) : Int)))).toNat : Nat) : Int)))), (3, iS 3)] [(0, .row 54 (Enc.cells (ix utf8Accept (Int.fdiv (ix utf8First (((s).data.getD ((0 : Int)).toNat 0).toNat : Int)).v (2 ^ (min ((4 : Int)).toNat (IntKind.u8).bits))))))] 1 (by kernel_rfl) ?_
                    refine wk_id ?_
                    obtain rfl := Option.some.inj h
                    refine ret_at (.tup [.v (.int .i32 (IntKind.i32.wrap (((BitVec.ofInt (IntKind.i32).bits (IntKind.i32.wrap (((BitVec.ofInt (IntKind.i32).bits (IntKind.i32.wrap ((IntKind.i32.wrap (IntKind.u8.wrap (((BitVec.ofInt (IntKind.u8).bits (((s).data.getD ((0 : Int)).toNat 0).toNat : Int) &&& BitVec.ofInt (IntKind.u8).bits 15).toNat : Nat) : Int))) * 2 ^ (min ((12 : Int)).toNat (IntKind.i32).bits))) ||| BitVec.ofInt (IntKind.i32).bits (IntKind.i32.wrap ((IntKind.i32.wrap (IntKind.u8.wrap (((BitVec.ofInt (IntKind.u8).bits (((s).data.getD ((1 : Int)).toNat 0).toNat : Int) &&& BitVec.ofInt (IntKind.u8).bits 63).toNat : Nat) : Int))) * 2 ^ (min ((6 : Int)).toNat (IntKind.i32).bits)))).toNat : Nat) : Int)) ||| BitVec.ofInt (IntKind.i32).bits (IntKind.i32.wrap (IntKind.u8.wrap (((BitVec.ofInt (IntKind.u8).bits (((s).data.getD ((2 : Int)).toNat 0).toNat : Int) &&& BitVec.ofInt (IntKind.u8).bits 63).toNat : Nat) : Int)))).toNat : Nat) : Int))), iS 3]) (by kernel_rfl) ?_
                    exact ret_e [] [] (by simp only [push_cast, seval]) (by simp only [push_cast, seval]) rfl rfl rfl
                  · refine wk_id ?_
                    refine chk_sx h (fun g240 h => ?_)
                    refine seq_np ?_
                    refine reg_f ?_
                    have k239 : 0 ≤ (3 : Int) ∧ (3 : Int) < (((s).size : Nat) : Int) := by first | simpa only [Bool.and_eq_true, decide_eq_true_eq, bne_iff_ne, ne_eq] using g240 | (simp at g240 ⊢; omega)
                    refine rs 3 [none, some ⟨.v (.int .u8 (((s).data.getD ((3 : Int)).toNat 0).toNat : Int)), [], 1, []⟩] _ (by kernel_rfl) (allP_cons (ob_p (v := .v (.int .u8 (((s).data.getD ((3 : Int)).toNat 0).toNat : Int))) (nx := 1) (r := []) k239) allP_nil) ?_
                    refine rf [(5, .v (.int .u8 (((s).data.getD ((0 : Int)).toNat 0).toNat : Int))), (10, .v (.int .u8 (((s).data.getD ((1 : Int)).toNat 0).toNat : Int))), (11, .v (.int .u8 (((s).data.getD ((2 : Int)).toNat 0).toNat : Int))), (12, .v (.int .u8 (((s).data.getD ((3 : Int)).toNat 0).toNat : Int)))] [(0, .row 54 (Enc.cells (ix utf8Accept (Int.fdiv (ix utf8First (((s).data.getD ((0 : Int)).toNat 0).toNat : Int)).v (2 ^ (min ((4 : Int)).toNat (IntKind.u8).bits))))))] 1 (by kernel_rfl) ?_
                    refine wk_id ?_
                    refine seq_np ?_
                    refine seq_cut (A := Unit) (fun _ => ([(5, .v (.int .u8 (((s).data.getD ((0 : Int)).toNat 0).toNat : Int))), (10, .v (.int .u8 (((s).data.getD ((1 : Int)).toNat 0).toNat : Int))), (11, .v (.int .u8 (((s).data.getD ((2 : Int)).toNat 0).toNat : Int))), (12, .v (.int .u8 (((s).data.getD ((3 : Int)).toNat 0).toNat : Int))), (98, bS ((decide ((((s).data.getD ((3 : Int)).toNat 0).toNat : Int) < 128)) || (decide ((191 : Int) < (((s).data.getD ((3 : Int)).toNat 0).toNat : Int)))))], [(0, .row 54 (Enc.cells (ix utf8Accept (Int.fdiv (ix utf8First (((s).data.getD ((0 : Int)).toNat 0).toNat : Int)).v (2 ^ (min ((4 : Int)).toNat (IntKind.u8).bits))))))], 1)) (fun _ => True) (fun K244 hK244 => ?_) (fun _ _ => ?_)
                    · refine reg_f ?_
                      refine rs 3 [] [] (by kernel_rfl) allP_nil ?_
                      refine run_split 95 (decide ((((s).data.getD ((3 : Int)).toNat 0).toNat : Int) < 128)) (.inl (by kernel_rfl)) (fun g245 => ?_) (fun g245 => ?_)
                      · refine rs 3 [] [] (by kernel_rfl) allP_nil ?_
                        refine rf [(5, .v (.int .u8 (((s).data.getD ((0 : Int)).toNat 0).toNat : Int))), (10, .v (.int .u8 (((s).data.getD ((1 : Int)).toNat 0).toNat : Int))), (11, .v (.int .u8 (((s).data.getD ((2 : Int)).toNat 0).toNat : Int))), (12, .v (.int .u8 (((s).data.getD ((3 : Int)).toNat 0).toNat : Int))), (98, bS true)] [(0, .row 54 (Enc.cells (ix utf8Accept (Int.fdiv (ix utf8First (((s).data.getD ((0 : Int)).toNat 0).toNat : Int)).v (2 ^ (min ((4 : Int)).toNat (IntKind.u8).bits))))))] 1 (by kernel_rfl) ?_
                        exact hK244 () _ _ _ trivial (leSt_m [(0, 0)] [] (by (try simp only [g245]) <;> simp only [push_cast, seval]) (by (try simp only [g245]) <;> simp only [push_cast, seval]) rfl rfl rfl)
                      · refine rs 3 [] [] (by kernel_rfl) allP_nil ?_
                        refine rf [(5, .v (.int .u8 (((s).data.getD ((0 : Int)).toNat 0).toNat : Int))), (10, .v (.int .u8 (((s).data.getD ((1 : Int)).toNat 0).toNat : Int))), (11, .v (.int .u8 (((s).data.getD ((2 : Int)).toNat 0).toNat : Int))), (12, .v (.int .u8 (((s).data.getD ((3 : Int)).toNat 0).toNat : Int))), (98, bS (decide ((191 : Int) < (((s).data.getD ((3 : Int)).toNat 0).toNat : Int))))] [(0, .row 54 (Enc.cells (ix utf8Accept (Int.fdiv (ix utf8First (((s).data.getD ((0 : Int)).toNat 0).toNat : Int)).v (2 ^ (min ((4 : Int)).toNat (IntKind.u8).bits))))))] 1 (by kernel_rfl) ?_
                        exact hK244 () _ _ _ trivial (leSt_m [(0, 0)] [] (by (try simp only [g245]) <;> simp only [push_cast, seval]) (by (try simp only [g245]) <;> simp only [push_cast, seval]) rfl rfl rfl)
                    · dsimp only
                      refine cond_sx h (by kernel_rfl) (fun g246 h => ?_) (fun g246 h => ?_)
                      · refine seq_np ?_
                        refine reg_f ?_
                        refine rs 2 [] [] (by kernel_rfl) allP_nil ?_
                        refine rf [(2, .v (.int .i32 65533)), (3, iS 1)] [(0, .row 54 (Enc.cells (ix utf8Accept (Int.fdiv (ix utf8First (((s).data.getD ((0 : Int)).toNat 0).toNat : Int)).v (2 ^ (min ((4 : Int)).toNat (IntKind.u8).bits))))))] 1 (by kernel_rfl) ?_
                        refine wk_id ?_
                        obtain rfl := Option.some.inj h
                        refine ret_at (.tup [.v (.int .i32 65533), iS 1]) (by kernel_rfl) ?_
                        exact ret_e [] [] (by simp only [push_cast, seval]) (by simp only [push_cast, seval]) rfl rfl rfl
                      · refine wk_id ?_
                        refine seq_np ?_
                        refine reg_f ?_
                        refine rs 20 [] [] (by kernel_rfl) allP_nil ?_
                        refine rf [(2, .v (.int .i32 (IntKind.i32.wrap (((BitVec.ofInt (IntKind.i32).bits (IntKind.i32.wrap (((BitVec.ofInt (IntKind.i32).bits (IntKind.i32.wrap (((BitVec.ofInt (IntKind.i32).bits (IntKind.i32.wrap ((IntKind.i32.wrap (IntKind.u8.wrap (((BitVec.ofInt (IntKind.u8).bits (((s).data.getD ((0 : Int)).toNat 0).toNat : Int) &&& BitVec.ofInt (IntKind.u8).bits 7).toNat : Nat) : Int))) * 2 ^ (min ((18 : Int)).toNat (IntKind.i32).bits))) ||| BitVec.ofInt (IntKind.i32).bits (IntKind.i32.wrap ((IntKind.i32.wrap (IntKind.u8.wrap (((BitVec.ofInt (IntKind.u8).bits (((s).data.getD ((1 : Int)).toNat 0).toNat : Int) &&& BitVec.ofInt (IntKind.u8).bits 63).toNat : Nat) : Int))) * 2 ^ (min ((12 : Int)).toNat (IntKind.i32).bits)))).toNat : Nat) : Int)) ||| BitVec.ofInt (IntKind.i32).bits (IntKind.i32.wrap ((IntKind.i32.wrap (IntKind.u8.wrap (((BitVec.ofInt (IntKind.u8).bits (((s).data.getD ((2 : Int)).toNat 0).toNat : Int) &&& BitVec.ofInt (IntKind.u8).bits 63).toNat : Nat) : Int))) * 2 ^ (min ((6 : Int)).toNat (IntKind.i32).bits)))).toNat : Nat) : Int)) ||| BitVec.ofInt (IntKind.i32).bits (IntKind.i32.wrap (IntKind.u8.wrap (((BitVec.ofInt (IntKind.u8).bits (((s).data.getD ((3 : Int)).toNat 0).toNat : Int) &&& BitVec.ofInt (IntKind.u8).bits 63).toNat : Nat) : Int)))).toNat : Nat) : Int)))), (3, iS 4)] [(0, .row 54 (Enc.cells (ix utf8Accept (Int.fdiv (ix utf8First (((s).data.getD ((0 : Int)).toNat 0).toNat : Int)).v (2 ^ (min ((4 : Int)).toNat (IntKind.u8).bits))))))] 1 (by kernel_rfl) ?_
                        refine wk_id ?_
                        obtain rfl := Option.some.inj h
                        refine ret_at (.tup [.v (.int .i32 (IntKind.i32.wrap (((BitVec.ofInt (IntKind.i32).bits (IntKind.i32.wrap (((BitVec.ofInt (IntKind.i32).bits (IntKind.i32.wrap (((BitVec.ofInt (IntKind.i32).bits (IntKind.i32.wrap ((IntKind.i32.wrap (IntKind.u8.wrap (((BitVec.ofInt (IntKind.u8).bits (((s).data.getD ((0 : Int)).toNat 0).toNat : Int) &&& BitVec.ofInt (IntKind.u8).bits 7).toNat : Nat) : Int))) * 2 ^ (min ((18 : Int)).toNat (IntKind.i32).bits))) ||| BitVec.ofInt (IntKind.i32).bits (IntKind.i32.wrap ((IntKind.i32.wrap (IntKind.u8.wrap (((BitVec.ofInt (IntKind.u8).bits (((s).data.getD ((1 : Int)).toNat 0).toNat : Int) &&& BitVec.ofInt (IntKind.u8).bits 63).toNat : Nat) : Int))) * 2 ^ (min ((12 : Int)).toNat (IntKind.i32).bits)))).toNat : Nat) : Int)) ||| BitVec.ofInt (IntKind.i32).bits (IntKind.i32.wrap ((IntKind.i32.wrap (IntKind.u8.wrap (((BitVec.ofInt (IntKind.u8).bits (((s).data.getD ((2 : Int)).toNat 0).toNat : Int) &&& BitVec.ofInt (IntKind.u8).bits 63).toNat : Nat) : Int))) * 2 ^ (min ((6 : Int)).toNat (IntKind.i32).bits)))).toNat : Nat) : Int)) ||| BitVec.ofInt (IntKind.i32).bits (IntKind.i32.wrap (IntKind.u8.wrap (((BitVec.ofInt (IntKind.u8).bits (((s).data.getD ((3 : Int)).toNat 0).toNat : Int) &&& BitVec.ofInt (IntKind.u8).bits 63).toNat : Nat) : Int)))).toNat : Nat) : Int))), iS 4]) (by kernel_rfl) ?_
                        exact ret_e [] [] (by simp only [push_cast, seval]) (by simp only [push_cast, seval]) rfl rfl rfl

set_option maxRecDepth 100000 in
set_option maxHeartbeats 200000000 in
theorem utf8_DecodeRuneInString_spec (s : ByteArray) (r : Int × Int) (h : utf8_DecodeRuneInString s = some r) : SpecW Tryd.prog 16 [.v (.string s)] [] 0 (fun x h n => x = .tup [.v (.int .i32 r.1), iS r.2] ∧ h = [] ∧ n = 0) := by
  unfold utf8_DecodeRuneInString at h
  refine spec_of (draw_ok _) Tryd.func16 rfl (by decide) rfl (by kernel_rfl) ?_
  refine seq_np ?_
  refine reg_f ?_
  refine rs 2 [] [] (by kernel_rfl) allP_nil ?_
  refine rf [(0, .v (.string s))] [] 0 (by kernel_rfl) ?_
  refine wk_id ?_
  refine seq_np ?_
  refine chk_sx h (fun g269 h => ?_)
  refine seq_cut (A := Unit) (fun _ => ([(0, .v (.string s)), (10, bS ((!decide (s = ByteArray.empty)) && (decide ((((s).data.getD ((0 : Int)).toNat 0).toNat : Int) < 128))))], [], 0)) (fun _ => True) (fun K266 hK266 => ?_) (fun _ _ => ?_)
  · refine reg_f ?_
    refine rs 3 [none, some ⟨bS (!decide (s = ByteArray.empty)), [], 0, []⟩] _ (by kernel_rfl) (allP_cons (ob_p (v := bS (!decide (s = ByteArray.empty))) (nx := 0) (r := []) trivial) allP_nil) ?_
    refine run_split 6 (!decide (s = ByteArray.empty)) (.inl (by kernel_rfl)) (fun g267 => ?_) (fun g267 => ?_)
    · have k268 : 0 ≤ (0 : Int) ∧ (0 : Int) < (((s).size : Nat) : Int) := by have e := or_use g269 (by first | ((try simp only [g267]) <;> rfl) | ((try simp only [g267]); rfl) | (exfalso; clear h; simp_all; done)); first | simpa only [Bool.and_eq_true, decide_eq_true_eq, bne_iff_ne, ne_eq] using e | (simp at e ⊢; omega)
      refine rs 4 [none, some ⟨.v (.int .u8 (((s).data.getD ((0 : Int)).toNat 0).toNat : Int)), [], 0, []⟩] _ (by kernel_rfl) (allP_cons (ob_p (v := .v (.int .u8 (((s).data.getD ((0 : Int)).toNat 0).toNat : Int))) (nx := 0) (r := []) k268) allP_nil) ?_
      refine rf [(0, .v (.string s)), (10, bS (decide ((((s).data.getD ((0 : Int)).toNat 0).toNat : Int) < 128)))] [] 0 (by kernel_rfl) ?_
      exact hK266 () _ _ _ trivial (leSt_m [] [] (by (try simp only [g267]) <;> simp only [push_cast, seval]) (by (try simp only [g267]) <;> simp only [push_cast, seval]) rfl rfl rfl)
    · refine rs 4 [] [] (by kernel_rfl) allP_nil ?_
      refine rf [(0, .v (.string s)), (10, bS false)] [] 0 (by kernel_rfl) ?_
      exact hK266 () _ _ _ trivial (leSt_m [] [] (by (try simp only [g267]) <;> simp only [push_cast, seval]) (by (try simp only [g267]) <;> simp only [push_cast, seval]) rfl rfl rfl)
  · dsimp only
    refine cond_sx h (by kernel_rfl) (fun g276 h => ?_) (fun g276 h => ?_)
    · refine chk_sx h (fun g273 h => ?_)
      refine seq_np ?_
      refine reg_f ?_
      have k272 : 0 ≤ (0 : Int) ∧ (0 : Int) < (((s).size : Nat) : Int) := by first | simpa only [Bool.and_eq_true, decide_eq_true_eq, bne_iff_ne, ne_eq] using g273 | (simp at g273 ⊢; omega)
      refine rs 5 [none, some ⟨.v (.int .u8 (((s).data.getD ((0 : Int)).toNat 0).toNat : Int)), [], 0, []⟩] _ (by kernel_rfl) (allP_cons (ob_p (v := .v (.int .u8 (((s).data.getD ((0 : Int)).toNat 0).toNat : Int))) (nx := 0) (r := []) k272) allP_nil) ?_
      refine rf [(2, .v (.int .i32 (IntKind.i32.wrap (((s).data.getD ((0 : Int)).toNat 0).toNat : Int)))), (3, iS 1)] [] 0 (by kernel_rfl) ?_
      refine wk_id ?_
      obtain rfl := Option.some.inj h
      refine ret_at (.tup [.v (.int .i32 (IntKind.i32.wrap (((s).data.getD ((0 : Int)).toNat 0).toNat : Int))), iS 1]) (by kernel_rfl) ?_
      exact ret_e [] [] (by simp only [push_cast, seval]) (by simp only [push_cast, seval]) rfl rfl rfl
    · refine reg_f ?_
      refine rs 1 [] [] (by kernel_rfl) allP_nil ?_
      obtain ⟨r275, hr275, h⟩ := bind_sx h
      refine run_call 19 [.v (.string s)] (some 16) (by kernel_rfl) ?_
      refine call_0 (utf8_decodeRuneInStringSlow_spec s r275 hr275) (by simp only [push_cast, seval]) (by simp only [push_cast, seval]) ?_
      refine back_f ?_
      refine rs 5 [] [] (by kernel_rfl) allP_nil ?_
      refine rf [(2, .v (.int .i32 r275.1)), (3, iS r275.2)] [] 0 (by kernel_rfl) ?_
      refine wk_id ?_
      obtain rfl := Option.some.inj h
      refine ret_at (.tup [.v (.int .i32 r275.1), iS r275.2]) (by kernel_rfl) ?_
      exact ret_e [] [] (by simp only [push_cast, seval]) (by simp only [push_cast, seval]) rfl rfl rfl

set_option maxRecDepth 100000 in
set_option maxHeartbeats 200000000 in
theorem utf_Valid_spec (text : ByteArray) (r : Bool × Int × Fault) (h : utf_Valid text = some r) : SpecW Tryd.prog 8 [.v (.string text)] [] 0 (fun x h n => x = .tup [bS r.1, iS r.2.1, .agg (Enc.cells r.2.2)] ∧ h = [] ∧ n = 0) := by
  unfold utf_Valid at h
  refine spec_of (draw_ok _) Tryd.func8 rfl (by decide) rfl (by kernel_rfl) ?_
  refine seq_np ?_
  refine reg_f ?_
  refine rs 3 [] [] (by kernel_rfl) allP_nil ?_
  refine rf [(0, .v (.string text)), (4, .ptr 0 0)] [(0, .row 25 [iS 0, iS 0])] 1 (by kernel_rfl) ?_
  refine wk_id ?_
  refine seq_np ?_
  refine seq_np ?_
  refine reg_f ?_
  refine rs 3 [] [] (by kernel_rfl) allP_nil ?_
  refine rf [(0, .v (.string text)), (4, .ptr 0 0), (10, bS (decide ((20000 : Int) < (((text).size : Nat) : Int))))] [(0, .row 25 [iS 0, iS 0])] 1 (by kernel_rfl) ?_
  refine wk_id ?_
  refine cond_sx h (by kernel_rfl) (fun g362 h => ?_) (fun g362 h => ?_)
  · refine seq_np ?_
    refine reg_f ?_
    obtain ⟨r296, hr296, h⟩ := bind_sx h
    refine run_call 15 [iS 2, iS 0] (some 11) (by kernel_rfl) ?_
    refine call_0 (utf_fault_spec 2 0 r296 hr296) (by simp only [push_cast, seval]) (by simp only [push_cast, seval]) ?_
    refine back_f ?_
    refine rs 3 [] [] (by kernel_rfl) allP_nil ?_
    refine rf [(2, bS false), (3, iS 0), (4, .ptr 0 0)] [(0, .row 25 (Enc.cells r296))] 1 (by kernel_rfl) ?_
    refine wk_id ?_
    obtain rfl := Option.some.inj h
    refine ret_at (.tup [bS false, iS 0, .agg (Enc.cells r296)]) (by kernel_rfl) ?_
    exact ret_e [] [] (by simp only [push_cast, seval]) (by simp only [push_cast, seval]) rfl rfl rfl
  · refine wk_id ?_
    refine seq_np ?_
    refine seq_np ?_
    refine reg_f ?_
    refine rs 1 [] [] (by kernel_rfl) allP_nil ?_
    refine rf [(0, .v (.string text)), (4, .ptr 0 0), (5, iS 0)] [(0, .row 25 [iS 0, iS 0])] 1 (by kernel_rfl) ?_
    refine wk_id ?_
    refine block_np ?_
    refine loop_sx (S := Int) (fun a => ([(0, .v (.string text)), (4, .ptr 0 0), (5, iS a)], [(0, .row 25 [iS 0, iS 0])], 1)) h (leSt_m [(0, 0)] [] (by simp only [push_cast, seval]) (by simp only [push_cast, seval]) rfl rfl rfl) ?_
    rintro i7 o2 R2 h hr2 hn2 hx2 ht2
    try dsimp only at h hn2 ⊢
    unfold utf_Valid_l1 at h
    try dsimp only at h
    refine seq_np ?_
    refine seq_np ?_
    refine reg_f ?_
    refine rs 4 [] [] (by kernel_rfl) allP_nil ?_
    refine rf [(0, .v (.string text)), (4, .ptr 0 0), (5, iS i7), (15, bS (decide (i7 < (((text).size : Nat) : Int))))] [(0, .row 25 [iS 0, iS 0])] 1 (by kernel_rfl) ?_
    refine wk_id ?_
    refine cond_sx h (by kernel_rfl) (fun g361 h => ?_) (fun g361 h => ?_)
    · refine wk_id ?_
      refine block_np ?_
      refine chk_sx h (fun g353 h => ?_)
      refine seq_np ?_
      refine reg_f ?_
      have k352 : 0 ≤ i7 ∧ i7 ≤ (((text).size : Nat) : Int) ∧ (((text).size : Nat) : Int) ≤ (((text).size : Nat) : Int) := by first | simpa only [Bool.and_eq_true, decide_eq_true_eq, bne_iff_ne, ne_eq] using g353 | (simp at g353 ⊢; omega)
      refine rs 3 [none, none, some ⟨.v (.string ((text).extract (i7).toNat ((((text).size : Nat) : Int)).toNat)), [], 1, []⟩] _ (by kernel_rfl) (allP_cons (ob_p (v := .v (.string ((text).extract (i7).toNat ((((text).size : Nat) : Int)).toNat))) (nx := 1) (r := []) k352) allP_nil) ?_
      obtain ⟨r354, hr354, h⟩ := bind_sx h
      refine run_call 16 [.v (.string ((text).extract (i7).toNat ((((text).size : Nat) : Int)).toNat))] (some 20) (by kernel_rfl) ?_
      refine call_0 (utf8_DecodeRuneInString_spec ((text).extract (i7).toNat ((((text).size : Nat) : Int)).toNat) r354 hr354) (by simp only [push_cast, seval]) (by simp only [push_cast, seval]) ?_
      refine back_f ?_
      refine rs 5 [] [] (by kernel_rfl) allP_nil ?_
      refine rf [(0, .v (.string text)), (4, .ptr 0 0), (5, iS i7), (6, .v (.int .i32 r354.1)), (7, iS r354.2)] [(0, .row 25 [iS 0, iS 0])] 1 (by kernel_rfl) ?_
      refine wk_id ?_
      refine seq_np ?_
      refine seq_cut (A := Unit) (fun _ => ([(0, .v (.string text)), (4, .ptr 0 0), (5, iS i7), (7, iS r354.2), (28, bS ((r354.1 == 65533) && (r354.2 == 1)))], [(0, .row 25 [iS 0, iS 0])], 1)) (fun _ => True) (fun K358 hK358 => ?_) (fun _ _ => ?_)
      · refine reg_f ?_
        refine rs 3 [] [] (by kernel_rfl) allP_nil ?_
        refine run_split 25 (r354.1 == 65533) (.inl (by kernel_rfl)) (fun g359 => ?_) (fun g359 => ?_)
        · refine rs 3 [] [] (by kernel_rfl) allP_nil ?_
          refine rf [(0, .v (.string text)), (4, .ptr 0 0), (5, iS i7), (7, iS r354.2), (28, bS (r354.2 == 1))] [(0, .row 25 [iS 0, iS 0])] 1 (by kernel_rfl) ?_
          exact hK358 () _ _ _ trivial (leSt_m [(0, 0)] [] (by (try simp only [g359]) <;> simp only [push_cast, seval]) (by (try simp only [g359]) <;> simp only [push_cast, seval]) rfl rfl rfl)
        · refine rs 3 [] [] (by kernel_rfl) allP_nil ?_
          refine rf [(0, .v (.string text)), (4, .ptr 0 0), (5, iS i7), (7, iS r354.2), (28, bS false)] [(0, .row 25 [iS 0, iS 0])] 1 (by kernel_rfl) ?_
          exact hK358 () _ _ _ trivial (leSt_m [(0, 0)] [] (by (try simp only [g359]) <;> simp only [push_cast, seval]) (by (try simp only [g359]) <;> simp only [push_cast, seval]) rfl rfl rfl)
      · dsimp only
        refine cond_sx h (by kernel_rfl) (fun g360 h => ?_) (fun g360 h => ?_)
        · refine seq_np ?_
          refine reg_f ?_
          refine rs 5 [] [] (by kernel_rfl) allP_nil ?_
          refine rf [(2, bS false), (3, iS i7), (4, .ptr 0 0)] [(0, .row 25 [iS 0, iS 0])] 1 (by kernel_rfl) ?_
          refine wk_id ?_
          refine rt_cast ht2 ?_
          obtain ⟨r0, h, e0⟩ := map_sx h
          have e1 := hr2 r0 e0.symm
          subst r0
          obtain rfl := Option.some.inj h
          refine ret_at (.tup [bS false, iS i7, .agg [iS 0, iS 0]]) (by kernel_rfl) ?_
          exact ret_e [] [] (by simp only [push_cast, seval]) (by simp only [push_cast, seval]) rfl rfl rfl
        · refine wk_id ?_
          refine reg_f ?_
          refine rs 4 [] [] (by kernel_rfl) allP_nil ?_
          refine rf [(0, .v (.string text)), (4, .ptr 0 0), (5, iS (IntKind.i64.wrap (i7 + r354.2)))] [(0, .row 25 [iS 0, iS 0])] 1 (by kernel_rfl) ?_
          refine wk_id ?_
          exact hn2 ((IntKind.i64.wrap (i7 + r354.2))) _ _ _ (Option.some.inj h).symm (leSt_m [(0, 0)] [] (by simp only [push_cast, seval]) (by simp only [push_cast, seval]) rfl rfl rfl)
    · change R2 (.exit 0) _ _ _
      refine ex_cast hx2 (id := 0) ?_
      obtain ⟨r0, h, e0⟩ := map_sx h
      have e1 := hr2 r0 e0.symm
      subst r0
      refine wk_id ?_
      refine wk_id ?_
      refine seq_np ?_
      refine reg_f ?_
      refine rs 4 [] [] (by kernel_rfl) allP_nil ?_
      refine rf [(2, bS true), (3, iS 0), (4, .ptr 0 0)] [(0, .row 25 [iS 0, iS 0])] 1 (by kernel_rfl) ?_
      refine wk_id ?_
      obtain rfl := Option.some.inj h
      refine ret_at (.tup [bS true, iS 0, .agg [iS 0, iS 0]]) (by kernel_rfl) ?_
      exact ret_e [] [] (by simp only [push_cast, seval]) (by simp only [push_cast, seval]) rfl rfl rfl

set_option maxRecDepth 100000 in
set_option maxHeartbeats 200000000 in
theorem taskmilllaw_UtfJoins_spec (xa : ByteArray) (b : ByteArray) (r : Bool) (h : taskmilllaw_UtfJoins xa b = some r) : SpecW Tryd.prog 4 [.v (.string xa), .v (.string b)] [] 0 (fun x h n => x = bS r ∧ h = [] ∧ n = 0) := by
  unfold taskmilllaw_UtfJoins at h
  refine spec_of (draw_ok _) Tryd.func4 rfl (by decide) rfl (by kernel_rfl) ?_
  refine seq_np ?_
  refine reg_f ?_
  refine rs 1 [] [] (by kernel_rfl) allP_nil ?_
  refine rf [(0, .v (.string xa)), (1, .v (.string b))] [] 0 (by kernel_rfl) ?_
  refine wk_id ?_
  refine seq_np ?_
  refine seq_np ?_
  refine reg_f ?_
  obtain ⟨r1099, hr1099, h⟩ := bind_sx h
  refine run_call 6 [] (some 20) (by kernel_rfl) ?_
  refine call_0 (taskmilllaw_utfBegun_spec r1099 hr1099) (by simp only [push_cast, seval]) (by simp only [push_cast, seval]) ?_
  refine back_f ?_
  refine rs 1 [] [] (by kernel_rfl) allP_nil ?_
  refine rf [(0, .v (.string xa)), (1, .v (.string b)), (21, bS (!r1099))] [] 0 (by kernel_rfl) ?_
  refine wk_id ?_
  refine cond_sx h (by kernel_rfl) (fun g1244 h => ?_) (fun g1244 h => ?_)
  · refine seq_np ?_
    refine reg_f ?_
    refine rs 1 [] [] (by kernel_rfl) allP_nil ?_
    refine rf [(4, bS false)] [] 0 (by kernel_rfl) ?_
    refine wk_id ?_
    obtain rfl := Option.some.inj h
    refine ret_at (bS false) (by kernel_rfl) ?_
    exact ret_e [] [] (by simp only [push_cast, seval]) (by simp only [push_cast, seval]) rfl rfl rfl
  · refine wk_id ?_
    refine seq_np ?_
    refine seq_np ?_
    refine reg_f ?_
    refine rs 6 [] [] (by kernel_rfl) allP_nil ?_
    refine rf [(0, .v (.string xa)), (1, .v (.string b)), (27, bS (decide ((20000 : Int) < (IntKind.i64.wrap ((((xa).size : Nat) : Int) + (((b).size : Nat) : Int))))))] [] 0 (by kernel_rfl) ?_
    refine wk_id ?_
    refine cond_sx h (by kernel_rfl) (fun g1243 h => ?_) (fun g1243 h => ?_)
    · refine seq_np ?_
      refine reg_f ?_
      refine rs 1 [] [] (by kernel_rfl) allP_nil ?_
      refine rf [(4, bS true)] [] 0 (by kernel_rfl) ?_
      refine wk_id ?_
      obtain rfl := Option.some.inj h
      refine ret_at (bS true) (by kernel_rfl) ?_
      exact ret_e [] [] (by simp only [push_cast, seval]) (by simp only [push_cast, seval]) rfl rfl rfl
    · refine wk_id ?_
      refine seq_np ?_
      refine reg_f ?_
      refine rs 1 [] [] (by kernel_rfl) allP_nil ?_
      obtain ⟨r1102, hr1102, h⟩ := bind_sx h
      refine run_call 8 [.v (.string xa)] (some 30) (by kernel_rfl) ?_
      refine call_0 (utf_Valid_spec xa r1102 hr1102) (by simp only [push_cast, seval]) (by simp only [push_cast, seval]) ?_
      refine back_f ?_
      refine rs 8 [] [] (by kernel_rfl) allP_nil ?_
      refine rf [(0, .v (.string xa)), (1, .v (.string b)), (5, bS r1102.1), (7, .ptr 0 0)] [(0, .row 25 (Enc.cells r1102.2.2))] 1 (by kernel_rfl) ?_
      refine wk_id ?_
      refine seq_np ?_
      refine reg_f ?_
      refine rs 1 [] [] (by kernel_rfl) allP_nil ?_
      obtain ⟨r1104, hr1104, h⟩ := bind_sx h
      refine run_call 8 [.v (.string b)] (some 36) (by kernel_rfl) ?_
      refine call_0 (utf_Valid_spec b r1104 hr1104) (by simp only [push_cast, seval]) (by simp only [push_cast, seval]) ?_
      refine back_f ?_
      refine rs 8 [] [] (by kernel_rfl) allP_nil ?_
      refine rf [(0, .v (.string xa)), (1, .v (.string b)), (5, bS r1102.1), (7, .ptr 0 0), (8, bS r1104.1), (10, .ptr 1 0)] [(0, .row 25 (Enc.cells r1102.2.2)), (1, .row 25 (Enc.cells r1104.2.2))] 2 (by kernel_rfl) ?_
      refine wk_id ?_
      refine seq_np ?_
      refine seq_cut (A := Unit) (fun _ => ([(0, .v (.string xa)), (1, .v (.string b)), (7, .ptr 0 0), (10, .ptr 1 0), (55, bS ((r1102.2.2.Code != 0) || ((r1104.2.2.Code != 0) || ((!r1102.1) || (!r1104.1)))))], [(0, .row 25 (Enc.cells r1102.2.2)), (1, .row 25 (Enc.cells r1104.2.2))], 2)) (fun _ => True) (fun K1113 hK1113 => ?_) (fun _ _ => ?_)
      · refine reg_f ?_
        refine rs 4 [] [] (by kernel_rfl) allP_nil ?_
        refine run_split 43 (r1102.2.2.Code != 0) (.inl (by kernel_rfl)) (fun g1114 => ?_) (fun g1114 => ?_)
        · refine rs 12 [] [] (by kernel_rfl) allP_nil ?_
          refine rf [(0, .v (.string xa)), (1, .v (.string b)), (7, .ptr 0 0), (10, .ptr 1 0), (55, bS true)] [(0, .row 25 (Enc.cells r1102.2.2)), (1, .row 25 (Enc.cells r1104.2.2))] 2 (by kernel_rfl) ?_
          exact hK1113 () _ _ _ trivial (leSt_m [(0, 0), (1, 1)] [] (by (try simp only [g1114]) <;> simp only [push_cast, seval]) (by (try simp only [g1114]) <;> simp only [push_cast, seval]) rfl rfl rfl)
        · refine rs 5 [] [] (by kernel_rfl) allP_nil ?_
          refine run_split 48 (r1104.2.2.Code != 0) (.inl (by kernel_rfl)) (fun g1115 => ?_) (fun g1115 => ?_)
          · refine rs 7 [] [] (by kernel_rfl) allP_nil ?_
            refine rf [(0, .v (.string xa)), (1, .v (.string b)), (7, .ptr 0 0), (10, .ptr 1 0), (55, bS true)] [(0, .row 25 (Enc.cells r1102.2.2)), (1, .row 25 (Enc.cells r1104.2.2))] 2 (by kernel_rfl) ?_
            exact hK1113 () _ _ _ trivial (leSt_m [(0, 0), (1, 1)] [] (by first | ((try simp only [g1114, g1115]) <;> simp only [push_cast, seval]; done) | ((try simp only [g1114]); (try simp only [g1115]); simp only [push_cast, seval]; done) | (exfalso; clear h; simp_all; done)) (by first | ((try simp only [g1114, g1115]) <;> simp only [push_cast, seval]; done) | ((try simp only [g1114]); (try simp only [g1115]); simp only [push_cast, seval]; done) | (exfalso; clear h; simp_all; done)) rfl rfl rfl)
          · refine rs 4 [] [] (by kernel_rfl) allP_nil ?_
            refine run_split 52 (!r1102.1) (.inl (by kernel_rfl)) (fun g1116 => ?_) (fun g1116 => ?_)
            · refine rn 13 [(0, .v (.string xa)), (1, .v (.string b)), (7, .ptr 0 0), (8, bS r1104.1), (10, .ptr 1 0), (52, bS true)] [(0, .row 25 (Enc.cells r1102.2.2)), (1, .row 25 (Enc.cells r1104.2.2))] 2 (by kernel_rfl) ?_
              refine rs 3 [] [] (by kernel_rfl) allP_nil ?_
              refine rf [(0, .v (.string xa)), (1, .v (.string b)), (7, .ptr 0 0), (10, .ptr 1 0), (55, bS true)] [(0, .row 25 (Enc.cells r1102.2.2)), (1, .row 25 (Enc.cells r1104.2.2))] 2 (by kernel_rfl) ?_
              exact hK1113 () _ _ _ trivial (leSt_m [(0, 0), (1, 1)] [] (by first | ((try simp only [g1114, g1115, g1116]) <;> simp only [push_cast, seval]; done) | ((try simp only [g1114]); (try simp only [g1115]); (try simp only [g1116]); simp only [push_cast, seval]; done) | (exfalso; clear h; simp_all; done)) (by first | ((try simp only [g1114, g1115, g1116]) <;> simp only [push_cast, seval]; done) | ((try simp only [g1114]); (try simp only [g1115]); (try simp only [g1116]); simp only [push_cast, seval]; done) | (exfalso; clear h; simp_all; done)) rfl rfl rfl)
            · refine rn 13 [(0, .v (.string xa)), (1, .v (.string b)), (7, .ptr 0 0), (8, bS r1104.1), (10, .ptr 1 0), (52, bS false)] [(0, .row 25 (Enc.cells r1102.2.2)), (1, .row 25 (Enc.cells r1104.2.2))] 2 (by kernel_rfl) ?_
              refine rs 3 [] [] (by kernel_rfl) allP_nil ?_
              refine rf [(0, .v (.string xa)), (1, .v (.string b)), (7, .ptr 0 0), (10, .ptr 1 0), (55, bS (!r1104.1))] [(0, .row 25 (Enc.cells r1102.2.2)), (1, .row 25 (Enc.cells r1104.2.2))] 2 (by kernel_rfl) ?_
              exact hK1113 () _ _ _ trivial (leSt_m [(0, 0), (1, 1)] [] (by first | ((try simp only [g1114, g1115, g1116]) <;> simp only [push_cast, seval]; done) | ((try simp only [g1114]); (try simp only [g1115]); (try simp only [g1116]); simp only [push_cast, seval]; done) | (exfalso; clear h; simp_all; done)) (by first | ((try simp only [g1114, g1115, g1116]) <;> simp only [push_cast, seval]; done) | ((try simp only [g1114]); (try simp only [g1115]); (try simp only [g1116]); simp only [push_cast, seval]; done) | (exfalso; clear h; simp_all; done)) rfl rfl rfl)
      · dsimp only
        refine cond_sx h (by kernel_rfl) (fun g1242 h => ?_) (fun g1242 h => ?_)
        · refine seq_cut (A := Unit) (fun _ => ([(4, bS ((r1102.2.2.Code == 0) && (r1104.2.2.Code == 0)))], [(0, .row 25 (Enc.cells r1102.2.2)), (1, .row 25 (Enc.cells r1104.2.2))], 2)) (fun _ => True) (fun K1118 hK1118 => ?_) (fun _ _ => ?_)
          · refine reg_f ?_
            refine rs 4 [] [] (by kernel_rfl) allP_nil ?_
            refine run_split 59 (r1102.2.2.Code == 0) (.inl (by kernel_rfl)) (fun g1119 => ?_) (fun g1119 => ?_)
            · refine rs 5 [] [] (by kernel_rfl) allP_nil ?_
              refine rf [(4, bS (r1104.2.2.Code == 0))] [(0, .row 25 (Enc.cells r1102.2.2)), (1, .row 25 (Enc.cells r1104.2.2))] 2 (by kernel_rfl) ?_
              exact hK1118 () _ _ _ trivial (leSt_m [(0, 0), (1, 1)] [] (by (try simp only [g1119]) <;> simp only [push_cast, seval]) (by (try simp only [g1119]) <;> simp only [push_cast, seval]) rfl rfl rfl)
            · refine rs 5 [] [] (by kernel_rfl) allP_nil ?_
              refine rf [(4, bS false)] [(0, .row 25 (Enc.cells r1102.2.2)), (1, .row 25 (Enc.cells r1104.2.2))] 2 (by kernel_rfl) ?_
              exact hK1118 () _ _ _ trivial (leSt_m [(0, 0), (1, 1)] [] (by (try simp only [g1119]) <;> simp only [push_cast, seval]) (by (try simp only [g1119]) <;> simp only [push_cast, seval]) rfl rfl rfl)
          · dsimp only
            obtain rfl := Option.some.inj h
            refine ret_at (bS ((r1102.2.2.Code == 0) && (r1104.2.2.Code == 0))) (by kernel_rfl) ?_
            exact ret_e [] [] (by simp only [push_cast, seval]) (by simp only [push_cast, seval]) rfl rfl rfl
        · refine wk_id ?_
          refine seq_np ?_
          refine reg_f ?_
          refine rs 1 [] [] (by kernel_rfl) allP_nil ?_
          obtain ⟨r1121, hr1121, h⟩ := bind_sx h
          refine call_x (utf_Range_spec xa r1121 hr1121) (args := [.v (.string xa)]) (dst := (some 66)) (by kernel_rfl) [(0, .row 25 (Enc.cells r1102.2.2)), (1, .row 25 (Enc.cells r1104.2.2))] 2 (by kernel_rfl) [] [] (.tup [.own 2 0 r1121.2.length, .agg (Enc.cells r1121.1)]) [(2, .row 35 (fl r1121.2))] (by simp only [push_cast, seval]) (by simp only [push_cast, seval]) (by kernel_rfl) (.inl rfl) (by simp only [push_cast, seval]) (by simp only [push_cast, seval]) ?_
          refine rs 5 [] [] (by kernel_rfl) allP_nil ?_
          refine rf [(0, .v (.string xa)), (1, .v (.string b)), (7, .ptr 0 0), (10, .ptr 1 0), (11, .own 2 0 r1121.2.length)] [(0, .row 25 (Enc.cells r1121.1)), (1, .row 25 (Enc.cells r1104.2.2)), (2, .row 35 (fl r1121.2))] 3 (by kernel_rfl) ?_
          refine wk_id ?_
          refine seq_np ?_
          refine reg_f ?_
          refine rs 1 [] [] (by kernel_rfl) allP_nil ?_
          obtain ⟨r1123, hr1123, h⟩ := bind_sx h
          refine call_x (utf_Range_spec b r1123 hr1123) (args := [.v (.string b)]) (dst := (some 71)) (by kernel_rfl) [(0, .row 25 (Enc.cells r1121.1)), (1, .row 25 (Enc.cells r1104.2.2)), (2, .row 35 (fl r1121.2))] 3 (by kernel_rfl) [] [] (.tup [.own 3 0 r1123.2.length, .agg (Enc.cells r1123.1)]) [(3, .row 35 (fl r1123.2))] (by simp only [push_cast, seval]) (by simp only [push_cast, seval]) (by kernel_rfl) (.inl rfl) (by simp only [push_cast, seval]) (by simp only [push_cast, seval]) ?_
          refine rs 5 [] [] (by kernel_rfl) allP_nil ?_
          refine rf [(0, .v (.string xa)), (1, .v (.string b)), (7, .ptr 0 0), (10, .ptr 1 0), (11, .own 2 0 r1121.2.length), (12, .own 3 0 r1123.2.length)] [(0, .row 25 (Enc.cells r1121.1)), (1, .row 25 (Enc.cells r1123.1)), (2, .row 35 (fl r1121.2)), (3, .row 35 (fl r1123.2))] 4 (by kernel_rfl) ?_
          refine wk_id ?_
          refine chk_sx h (fun g1128 h => ?_)
          refine seq_np ?_
          refine reg_f ?_
          have k1127 : (xa).size + (b).size ≤ 9223372036854775807 := by first | simpa only [Bool.and_eq_true, decide_eq_true_eq, bne_iff_ne, ne_eq] using g1128 | (simp at g1128 ⊢; omega)
          refine rs 3 [none, none, some ⟨.v (.string (xa ++ b)), [], 4, []⟩] _ (by kernel_rfl) (allP_cons (ob_p (v := .v (.string (xa ++ b))) (nx := 4) (r := []) k1127) allP_nil) ?_
          obtain ⟨r1129, hr1129, h⟩ := bind_sx h
          refine call_x (utf_Range_spec (xa ++ b) r1129 hr1129) (args := [.v (.string (xa ++ b))]) (dst := (some 78)) (by kernel_rfl) [(0, .row 25 (Enc.cells r1121.1)), (1, .row 25 (Enc.cells r1123.1)), (2, .row 35 (fl r1121.2)), (3, .row 35 (fl r1123.2))] 4 (by kernel_rfl) [] [] (.tup [.own 4 0 r1129.2.length, .agg (Enc.cells r1129.1)]) [(4, .row 35 (fl r1129.2))] (by simp only [push_cast, seval]) (by simp only [push_cast, seval]) (by kernel_rfl) (.inl rfl) (by simp only [push_cast, seval]) (by simp only [push_cast, seval]) ?_
          refine rs 6 [] [] (by kernel_rfl) allP_nil ?_
          refine rf [(0, .v (.string xa)), (1, .v (.string b)), (7, .ptr 0 0), (10, .ptr 1 0), (11, .own 2 0 r1121.2.length), (12, .own 3 0 r1123.2.length), (13, .own 4 0 r1129.2.length), (14, .ptr 5 0)] [(0, .row 25 (Enc.cells r1121.1)), (1, .row 25 (Enc.cells r1123.1)), (2, .row 35 (fl r1121.2)), (3, .row 35 (fl r1123.2)), (4, .row 35 (fl r1129.2)), (5, .row 25 (Enc.cells r1129.1))] 6 (by kernel_rfl) ?_
          refine wk_id ?_
          refine chk_sx h (fun g1134 h => ?_)
          refine seq_np ?_
          refine reg_f ?_
          have k1133 : (xa).size + (b).size ≤ 9223372036854775807 := by first | simpa only [Bool.and_eq_true, decide_eq_true_eq, bne_iff_ne, ne_eq] using g1134 | (simp at g1134 ⊢; omega)
          refine rs 3 [none, none, some ⟨.v (.string (xa ++ b)), [], 6, []⟩] _ (by kernel_rfl) (allP_cons (ob_p (v := .v (.string (xa ++ b))) (nx := 6) (r := []) k1133) allP_nil) ?_
          obtain ⟨r1135, hr1135, h⟩ := bind_sx h
          refine run_call 8 [.v (.string (xa ++ b))] (some 85) (by kernel_rfl) ?_
          refine call_0 (utf_Valid_spec (xa ++ b) r1135 hr1135) (by simp only [push_cast, seval]) (by simp only [push_cast, seval]) ?_
          refine back_f ?_
          refine rs 8 [] [] (by kernel_rfl) allP_nil ?_
          refine rf [(0, .v (.string xa)), (7, .ptr 0 0), (10, .ptr 1 0), (11, .own 2 0 r1121.2.length), (12, .own 3 0 r1123.2.length), (13, .own 4 0 r1129.2.length), (14, .ptr 5 0), (15, bS r1135.1), (17, .ptr 6 0)] [(0, .row 25 (Enc.cells r1121.1)), (1, .row 25 (Enc.cells r1123.1)), (2, .row 35 (fl r1121.2)), (3, .row 35 (fl r1123.2)), (4, .row 35 (fl r1129.2)), (5, .row 25 (Enc.cells r1129.1)), (6, .row 25 (Enc.cells r1135.2.2))] 7 (by kernel_rfl) ?_
          refine wk_id ?_
          refine seq_np ?_
          refine seq_cut (A := Unit) (fun _ => ([(0, .v (.string xa)), (11, .own 2 0 r1121.2.length), (12, .own 3 0 r1123.2.length), (13, .own 4 0 r1129.2.length), (110, bS ((r1121.1.Code != 0) || ((r1123.1.Code != 0) || ((r1129.1.Code != 0) || ((r1135.2.2.Code != 0) || (!r1135.1))))))], [(0, .row 25 (Enc.cells r1121.1)), (1, .row 25 (Enc.cells r1123.1)), (2, .row 35 (fl r1121.2)), (3, .row 35 (fl r1123.2)), (4, .row 35 (fl r1129.2)), (5, .row 25 (Enc.cells r1129.1)), (6, .row 25 (Enc.cells r1135.2.2))], 7)) (fun _ => True) (fun K1145 hK1145 => ?_) (fun _ _ => ?_)
          · refine reg_f ?_
            refine rs 4 [] [] (by kernel_rfl) allP_nil ?_
            refine run_split 92 (r1121.1.Code != 0) (.inl (by kernel_rfl)) (fun g1146 => ?_) (fun g1146 => ?_)
            · refine rs 18 [] [] (by kernel_rfl) allP_nil ?_
              refine rf [(0, .v (.string xa)), (11, .own 2 0 r1121.2.length), (12, .own 3 0 r1123.2.length), (13, .own 4 0 r1129.2.length), (110, bS true)] [(0, .row 25 (Enc.cells r1121.1)), (1, .row 25 (Enc.cells r1123.1)), (2, .row 35 (fl r1121.2)), (3, .row 35 (fl r1123.2)), (4, .row 35 (fl r1129.2)), (5, .row 25 (Enc.cells r1129.1)), (6, .row 25 (Enc.cells r1135.2.2))] 7 (by kernel_rfl) ?_
              exact hK1145 () _ _ _ trivial (leSt_m [(0, 0), (1, 1), (2, 2), (3, 3), (4, 4), (5, 5), (6, 6)] [] (by (try simp only [g1146]) <;> simp only [push_cast, seval]) (by (try simp only [g1146]) <;> simp only [push_cast, seval]) rfl rfl rfl)
            · refine rs 5 [] [] (by kernel_rfl) allP_nil ?_
              refine run_split 97 (r1123.1.Code != 0) (.inl (by kernel_rfl)) (fun g1147 => ?_) (fun g1147 => ?_)
              · refine rs 13 [] [] (by kernel_rfl) allP_nil ?_
                refine rf [(0, .v (.string xa)), (11, .own 2 0 r1121.2.length), (12, .own 3 0 r1123.2.length), (13, .own 4 0 r1129.2.length), (110, bS true)] [(0, .row 25 (Enc.cells r1121.1)), (1, .row 25 (Enc.cells r1123.1)), (2, .row 35 (fl r1121.2)), (3, .row 35 (fl r1123.2)), (4, .row 35 (fl r1129.2)), (5, .row 25 (Enc.cells r1129.1)), (6, .row 25 (Enc.cells r1135.2.2))] 7 (by kernel_rfl) ?_
                exact hK1145 () _ _ _ trivial (leSt_m [(0, 0), (1, 1), (2, 2), (3, 3), (4, 4), (5, 5), (6, 6)] [] (by first | ((try simp only [g1146, g1147]) <;> simp only [push_cast, seval]; done) | ((try simp only [g1146]); (try simp only [g1147]); simp only [push_cast, seval]; done) | (exfalso; clear h; simp_all; done)) (by first | ((try simp only [g1146, g1147]) <;> simp only [push_cast, seval]; done) | ((try simp only [g1146]); (try simp only [g1147]); simp only [push_cast, seval]; done) | (exfalso; clear h; simp_all; done)) rfl rfl rfl)
              · refine rs 5 [] [] (by kernel_rfl) allP_nil ?_
                refine run_split 102 (r1129.1.Code != 0) (.inl (by kernel_rfl)) (fun g1148 => ?_) (fun g1148 => ?_)
                · refine rn 14 [(0, .v (.string xa)), (11, .own 2 0 r1121.2.length), (12, .own 3 0 r1123.2.length), (13, .own 4 0 r1129.2.length), (15, bS r1135.1), (17, .ptr 6 0), (102, bS true)] [(0, .row 25 (Enc.cells r1121.1)), (1, .row 25 (Enc.cells r1123.1)), (2, .row 35 (fl r1121.2)), (3, .row 35 (fl r1123.2)), (4, .row 35 (fl r1129.2)), (5, .row 25 (Enc.cells r1129.1)), (6, .row 25 (Enc.cells r1135.2.2))] 7 (by kernel_rfl) ?_
                  refine rs 8 [] [] (by kernel_rfl) allP_nil ?_
                  refine rf [(0, .v (.string xa)), (11, .own 2 0 r1121.2.length), (12, .own 3 0 r1123.2.length), (13, .own 4 0 r1129.2.length), (110, bS true)] [(0, .row 25 (Enc.cells r1121.1)), (1, .row 25 (Enc.cells r1123.1)), (2, .row 35 (fl r1121.2)), (3, .row 35 (fl r1123.2)), (4, .row 35 (fl r1129.2)), (5, .row 25 (Enc.cells r1129.1)), (6, .row 25 (Enc.cells r1135.2.2))] 7 (by kernel_rfl) ?_
                  exact hK1145 () _ _ _ trivial (leSt_m [(0, 0), (1, 1), (2, 2), (3, 3), (4, 4), (5, 5), (6, 6)] [] (by first | ((try simp only [g1146, g1147, g1148]) <;> simp only [push_cast, seval]; done) | ((try simp only [g1146]); (try simp only [g1147]); (try simp only [g1148]); simp only [push_cast, seval]; done) | (exfalso; clear h; simp_all; done)) (by first | ((try simp only [g1146, g1147, g1148]) <;> simp only [push_cast, seval]; done) | ((try simp only [g1146]); (try simp only [g1147]); (try simp only [g1148]); simp only [push_cast, seval]; done) | (exfalso; clear h; simp_all; done)) rfl rfl rfl)
                · refine rn 14 [(0, .v (.string xa)), (11, .own 2 0 r1121.2.length), (12, .own 3 0 r1123.2.length), (13, .own 4 0 r1129.2.length), (15, bS r1135.1), (17, .ptr 6 0), (102, bS false)] [(0, .row 25 (Enc.cells r1121.1)), (1, .row 25 (Enc.cells r1123.1)), (2, .row 35 (fl r1121.2)), (3, .row 35 (fl r1123.2)), (4, .row 35 (fl r1129.2)), (5, .row 25 (Enc.cells r1129.1)), (6, .row 25 (Enc.cells r1135.2.2))] 7 (by kernel_rfl) ?_
                  refine rs 5 [] [] (by kernel_rfl) allP_nil ?_
                  refine run_split 107 (r1135.2.2.Code != 0) (.inl (by kernel_rfl)) (fun g1149 => ?_) (fun g1149 => ?_)
                  · refine rs 3 [] [] (by kernel_rfl) allP_nil ?_
                    refine rf [(0, .v (.string xa)), (11, .own 2 0 r1121.2.length), (12, .own 3 0 r1123.2.length), (13, .own 4 0 r1129.2.length), (110, bS true)] [(0, .row 25 (Enc.cells r1121.1)), (1, .row 25 (Enc.cells r1123.1)), (2, .row 35 (fl r1121.2)), (3, .row 35 (fl r1123.2)), (4, .row 35 (fl r1129.2)), (5, .row 25 (Enc.cells r1129.1)), (6, .row 25 (Enc.cells r1135.2.2))] 7 (by kernel_rfl) ?_
                    exact hK1145 () _ _ _ trivial (leSt_m [(0, 0), (1, 1), (2, 2), (3, 3), (4, 4), (5, 5), (6, 6)] [] (by first | ((try simp only [g1146, g1147, g1148, g1149]) <;> simp only [push_cast, seval]; done) | ((try simp only [g1146]); (try simp only [g1147]); (try simp only [g1148]); (try simp only [g1149]); simp only [push_cast, seval]; done) | (exfalso; clear h; simp_all; done)) (by first | ((try simp only [g1146, g1147, g1148, g1149]) <;> simp only [push_cast, seval]; done) | ((try simp only [g1146]); (try simp only [g1147]); (try simp only [g1148]); (try simp only [g1149]); simp only [push_cast, seval]; done) | (exfalso; clear h; simp_all; done)) rfl rfl rfl)
                  · refine rs 3 [] [] (by kernel_rfl) allP_nil ?_
                    refine rf [(0, .v (.string xa)), (11, .own 2 0 r1121.2.length), (12, .own 3 0 r1123.2.length), (13, .own 4 0 r1129.2.length), (110, bS (!r1135.1))] [(0, .row 25 (Enc.cells r1121.1)), (1, .row 25 (Enc.cells r1123.1)), (2, .row 35 (fl r1121.2)), (3, .row 35 (fl r1123.2)), (4, .row 35 (fl r1129.2)), (5, .row 25 (Enc.cells r1129.1)), (6, .row 25 (Enc.cells r1135.2.2))] 7 (by kernel_rfl) ?_
                    exact hK1145 () _ _ _ trivial (leSt_m [(0, 0), (1, 1), (2, 2), (3, 3), (4, 4), (5, 5), (6, 6)] [] (by first | ((try simp only [g1146, g1147, g1148, g1149]) <;> simp only [push_cast, seval]; done) | ((try simp only [g1146]); (try simp only [g1147]); (try simp only [g1148]); (try simp only [g1149]); simp only [push_cast, seval]; done) | (exfalso; clear h; simp_all; done)) (by first | ((try simp only [g1146, g1147, g1148, g1149]) <;> simp only [push_cast, seval]; done) | ((try simp only [g1146]); (try simp only [g1147]); (try simp only [g1148]); (try simp only [g1149]); simp only [push_cast, seval]; done) | (exfalso; clear h; simp_all; done)) rfl rfl rfl)
          · dsimp only
            refine cond_sx h (by kernel_rfl) (fun g1241 h => ?_) (fun g1241 h => ?_)
            · refine seq_np ?_
              refine reg_f ?_
              refine rs 1 [] [] (by kernel_rfl) allP_nil ?_
              refine rf [(4, bS false)] [(0, .row 25 (Enc.cells r1121.1)), (1, .row 25 (Enc.cells r1123.1)), (2, .row 35 (fl r1121.2)), (3, .row 35 (fl r1123.2)), (4, .row 35 (fl r1129.2)), (5, .row 25 (Enc.cells r1129.1)), (6, .row 25 (Enc.cells r1135.2.2))] 7 (by kernel_rfl) ?_
              refine wk_id ?_
              obtain rfl := Option.some.inj h
              refine ret_at (bS false) (by kernel_rfl) ?_
              exact ret_e [] [] (by simp only [push_cast, seval]) (by simp only [push_cast, seval]) rfl rfl rfl
            · refine wk_id ?_
              refine chk_sx h (fun g1153 h => ?_)
              refine seq_np ?_
              refine reg_f ?_
              have k1152 : r1121.2.length * 16 ≤ 140737488355328 := by first | simpa only [Bool.and_eq_true, decide_eq_true_eq, bne_iff_ne, ne_eq] using g1153 | (simp at g1153 ⊢; omega)
              refine rs 3 [none, some ⟨.own 7 0 r1121.2.length, [(7, .row 35 (fl r1121.2))], 8, [2]⟩] _ (by kernel_rfl) (allP_cons (ob_app0 (P := Tryd.prog) r1121.2 2 16 rfl (appCells (fl r1121.2) 0 (r1121.2.length * 2)) r1121.2.length (app_own r1121.2 2 rfl) rfl (0 + r1121.2.length * 2 ≤ (fl r1121.2).length) (app_own_le r1121.2 2 rfl) 35 (by kernel_rfl) (by decide) k1152 7 [2]) allP_nil) ?_
              refine rf [(0, .v (.string xa)), (12, .own 3 0 r1123.2.length), (13, .own 4 0 r1129.2.length), (18, .own 7 0 r1121.2.length)] [(0, .row 25 (Enc.cells r1121.1)), (1, .row 25 (Enc.cells r1123.1)), (2, .row 35 (fl r1121.2)), (3, .row 35 (fl r1123.2)), (4, .row 35 (fl r1129.2)), (5, .row 25 (Enc.cells r1129.1)), (6, .row 25 (Enc.cells r1135.2.2)), (7, .row 35 (fl r1121.2))] 8 (by kernel_rfl) ?_
              refine wk_id ?_
              refine seq_np ?_
              refine seq_np ?_
              refine reg_f ?_
              refine rs 1 [] [] (by kernel_rfl) allP_nil ?_
              refine rf [(0, .v (.string xa)), (12, .own 3 0 r1123.2.length), (13, .own 4 0 r1129.2.length), (18, .own 7 0 r1121.2.length), (19, iS 0)] [(0, .row 25 (Enc.cells r1121.1)), (1, .row 25 (Enc.cells r1123.1)), (2, .row 35 (fl r1121.2)), (3, .row 35 (fl r1123.2)), (4, .row 35 (fl r1129.2)), (5, .row 25 (Enc.cells r1129.1)), (6, .row 25 (Enc.cells r1135.2.2)), (7, .row 35 (fl r1121.2))] 8 (by kernel_rfl) ?_
              refine wk_id ?_
              refine block_np ?_
              refine loop_sx (S := Int × (List S35) × (List S35) × (List S35)) (fun a => ([(0, .v (.string xa)), (12, .own 0 0 a.2.1.length), (13, .own 1 0 a.2.2.1.length), (18, .own 2 0 a.2.2.2.length), (19, iS a.1)], [(0, .row 35 (fl a.2.1)), (1, .row 35 (fl a.2.2.1)), (2, .row 35 (fl a.2.2.2))], 3)) h (leSt_m [(0, 3), (1, 4), (2, 7)] [] (by simp only [push_cast, seval]) (by simp only [push_cast, seval]) rfl rfl rfl) ?_
              rintro ⟨i7, c0q11, c1q11, c2q11⟩ o2 R2 h hr2 hn2 hx2 ht2
              try dsimp only at h hn2 ⊢
              unfold taskmilllaw_UtfJoins_l1 at h
              try dsimp only at h
              refine seq_np ?_
              refine seq_np ?_
              refine reg_f ?_
              refine rs 4 [] [] (by kernel_rfl) allP_nil ?_
              refine rf [(0, .v (.string xa)), (12, .own 0 0 c0q11.length), (13, .own 1 0 c1q11.length), (18, .own 2 0 c2q11.length), (19, iS i7), (116, bS (decide (i7 < ((c0q11.length : Nat) : Int))))] [(0, .row 35 (fl c0q11)), (1, .row 35 (fl c1q11)), (2, .row 35 (fl c2q11))] 3 (by kernel_rfl) ?_
              refine wk_id ?_
              refine cond_sx h (by kernel_rfl) (fun g1240 h => ?_) (fun g1240 h => ?_)
              · refine wk_id ?_
                refine seq_np ?_
                refine block_np ?_
                refine chk_sx h (fun g1233 h => ?_)
                refine chk_sx h (fun g1235 h => ?_)
                refine chk_sx h (fun g1237 h => ?_)
                refine reg_t ?_
                have k1232 : 0 ≤ i7 ∧ i7 < ((c0q11.length : Nat) : Int) := by first | simpa only [Bool.and_eq_true, decide_eq_true_eq, bne_iff_ne, ne_eq] using g1233 | (simp at g1233 ⊢; omega)
                have k1234 : 0 ≤ i7 ∧ i7 < ((c0q11.length : Nat) : Int) := by first | simpa only [Bool.and_eq_true, decide_eq_true_eq, bne_iff_ne, ne_eq] using g1235 | (simp at g1235 ⊢; omega)
                have k1236 : (c2q11 ++ ([(S35.mk (IntKind.i64.wrap ((ix c0q11 i7).e0 + (((xa).size : Nat) : Int))) (ix c0q11 i7).e1)] : List S35)).length * 16 ≤ 140737488355328 := by first | simpa only [Bool.and_eq_true, decide_eq_true_eq, bne_iff_ne, ne_eq] using g1237 | (simp at g1237 ⊢; omega)
                refine rs 18 [none, none, none, some ⟨.ptr 0 (0 + (i7).toNat * 2), [], 6, [0]⟩, none, some ⟨iS (ix c0q11 i7).e0, [], 8, [0]⟩, none, none, none, none, none, some ⟨.ptr 0 (0 + (i7).toNat * 2), [], 14, [0]⟩, none, some ⟨iS (ix c0q11 i7).e1, [], 16, [0]⟩, none, none, some ⟨.own 20 0 (c2q11 ++ ([(S35.mk (IntKind.i64.wrap ((ix c0q11 i7).e0 + (((xa).size : Nat) : Int))) (ix c0q11 i7).e1)] : List S35)).length, [(20, .row 35 (fl (c2q11 ++ ([(S35.mk (IntKind.i64.wrap ((ix c0q11 i7).e0 + (((xa).size : Nat) : Int))) (ix c0q11 i7).e1)] : List S35)))), (2, .dead)], 21, [2, 18]⟩] _ (by kernel_rfl) (allP_cons (ob_app (P := Tryd.prog) c2q11 ([(S35.mk (IntKind.i64.wrap ((ix c0q11 i7).e0 + (((xa).size : Nat) : Int))) (ix c0q11 i7).e1)] : List S35) 2 16 rfl (appCells (fl ([(S35.mk (IntKind.i64.wrap ((ix c0q11 i7).e0 + (((xa).size : Nat) : Int))) (ix c0q11 i7).e1)] : List S35)) 0 (([(S35.mk (IntKind.i64.wrap ((ix c0q11 i7).e0 + (((xa).size : Nat) : Int))) (ix c0q11 i7).e1)] : List S35).length * 2)) ([(S35.mk (IntKind.i64.wrap ((ix c0q11 i7).e0 + (((xa).size : Nat) : Int))) (ix c0q11 i7).e1)] : List S35).length (app_own ([(S35.mk (IntKind.i64.wrap ((ix c0q11 i7).e0 + (((xa).size : Nat) : Int))) (ix c0q11 i7).e1)] : List S35) 2 rfl) rfl (0 + ([(S35.mk (IntKind.i64.wrap ((ix c0q11 i7).e0 + (((xa).size : Nat) : Int))) (ix c0q11 i7).e1)] : List S35).length * 2 ≤ (fl ([(S35.mk (IntKind.i64.wrap ((ix c0q11 i7).e0 + (((xa).size : Nat) : Int))) (ix c0q11 i7).e1)] : List S35)).length) (app_own_le ([(S35.mk (IntKind.i64.wrap ((ix c0q11 i7).e0 + (((xa).size : Nat) : Int))) (ix c0q11 i7).e1)] : List S35) 2 rfl) 35 (by kernel_rfl) (by decide) k1236 2 20 [18]) (allP_cons (ob_ld c0q11 i7 2 1 ((0 + (i7).toNat * 2) + 1) k1234 rfl (by decide) (by first | rfl | omega) (dflS Tryd.prog 3) (iS (ix c0q11 i7).e1) rfl 16 [0]) (allP_cons (ob_ix_o 0 c0q11.length 0 2 14 i7 k1234) (allP_cons (ob_ld c0q11 i7 2 0 ((0 + (i7).toNat * 2) + 0) k1232 rfl (by decide) (by first | rfl | omega) (dflS Tryd.prog 3) (iS (ix c0q11 i7).e0) rfl 8 [0]) (allP_cons (ob_ix_o 0 c0q11.length 0 2 6 i7 k1232) allP_nil))))) ?_
                refine rt [(0, .v (.string xa)), (12, .own 0 0 c0q11.length), (13, .own 1 0 c1q11.length), (18, .own 20 0 (c2q11 ++ ([(S35.mk (IntKind.i64.wrap ((ix c0q11 i7).e0 + (((xa).size : Nat) : Int))) (ix c0q11 i7).e1)] : List S35)).length), (19, iS i7)] [(0, .row 35 (fl c0q11)), (1, .row 35 (fl c1q11)), (2, .dead), (18, .row 35 (fl ([(S35.mk (IntKind.i64.wrap ((ix c0q11 i7).e0 + (((xa).size : Nat) : Int))) (ix c0q11 i7).e1)] : List S35))), (20, .row 35 (fl (c2q11 ++ ([(S35.mk (IntKind.i64.wrap ((ix c0q11 i7).e0 + (((xa).size : Nat) : Int))) (ix c0q11 i7).e1)] : List S35))))] 23 follows (by kernel_rfl) ?_
                refine wk_id ?_
                refine wk_id ?_
                refine reg_f ?_
                refine rs 3 [] [] (by kernel_rfl) allP_nil ?_
                refine rf [(0, .v (.string xa)), (12, .own 0 0 c0q11.length), (13, .own 1 0 c1q11.length), (18, .own 20 0 (c2q11 ++ ([(S35.mk (IntKind.i64.wrap ((ix c0q11 i7).e0 + (((xa).size : Nat) : Int))) (ix c0q11 i7).e1)] : List S35)).length), (19, iS (IntKind.i64.wrap (i7 + 1)))] [(0, .row 35 (fl c0q11)), (1, .row 35 (fl c1q11)), (2, .dead), (18, .row 35 (fl ([(S35.mk (IntKind.i64.wrap ((ix c0q11 i7).e0 + (((xa).size : Nat) : Int))) (ix c0q11 i7).e1)] : List S35))), (20, .row 35 (fl (c2q11 ++ ([(S35.mk (IntKind.i64.wrap ((ix c0q11 i7).e0 + (((xa).size : Nat) : Int))) (ix c0q11 i7).e1)] : List S35))))] 23 (by kernel_rfl) ?_
                exact hn2 ((IntKind.i64.wrap (i7 + 1)), c0q11, c1q11, (c2q11 ++ ([(S35.mk (IntKind.i64.wrap ((ix c0q11 i7).e0 + (((xa).size : Nat) : Int))) (ix c0q11 i7).e1)] : List S35))) _ _ _ (Option.some.inj h).symm (leSt_m [(0, 0), (1, 1), (2, 20)] [] (by simp only [push_cast, seval]) (by simp only [push_cast, seval]) rfl rfl rfl)
              · change R2 (.exit 0) _ _ _
                refine ex_cast hx2 (id := 0) ?_
                obtain ⟨r0, h, e0⟩ := map_sx h
                have e1 := hr2 r0 e0.symm
                subst r0
                refine wk_id ?_
                refine wk_id ?_
                refine seq_np ?_
                refine reg_f ?_
                refine rs 2 [] [] (by kernel_rfl) allP_nil ?_
                obtain ⟨r1239, hr1239, h⟩ := bind_sx h
                refine call_x (taskmillref_SameOff_spec c1q11 c2q11 r1239 hr1239) (args := [.own 1 0 c1q11.length, .own 2 0 c2q11.length]) (dst := (some 138)) (by kernel_rfl) [(0, .row 35 (fl c0q11)), (1, .row 35 (fl c1q11)), (2, .row 35 (fl c2q11))] 3 (by kernel_rfl) [] [1, 2] (bS r1239) [] (by simp only [push_cast, seval]) (by simp only [push_cast, seval]) (by kernel_rfl) (.inr ⟨by simp only [push_cast, seval], by simp only [push_cast, seval]⟩) (by simp only [push_cast, seval]) (by simp only [push_cast, seval]) ?_
                refine rs 1 [] [] (by kernel_rfl) allP_nil ?_
                refine rf [(4, bS r1239)] [(0, .row 35 (fl c0q11)), (1, .row 35 (fl c1q11)), (2, .row 35 (fl c2q11))] 3 (by kernel_rfl) ?_
                refine wk_id ?_
                obtain rfl := Option.some.inj h
                refine ret_at (bS r1239) (by kernel_rfl) ?_
                exact ret_e [] [] (by simp only [push_cast, seval]) (by simp only [push_cast, seval]) rfl rfl rfl

end Go.Proofs.YtbnhbaehapalnaaDoor
