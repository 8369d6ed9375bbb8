/-
  What laws of the chapter utfd compute, and lemmas on it.
  No conditions.
-/
import Derived.Test.YtbnhbaehapalnaaDoorProg
import Derived.Test.YtbnhbaehapalnaaDoorutfdG
set_option linter.unusedSimpArgs false
set_option linter.unusedVariables false
namespace Go.Proofs.YtbnhbaehapalnaaDoor
open Go Go.Sx
attribute [local irreducible] Wk RunAt
theorem follows : Tryd.prog.follows .mixedOrders = true := by kernel_rfl
set_option maxRecDepth 100000 in
set_option maxHeartbeats 200000000 in
theorem utf_fault_spec (code : Int) (xat : Int) (r : Fault) (h : utf_fault code xat = some r) : SpecW Tryd.prog 15 [iS code, iS xat] [] 0 (fun x h n => x = .agg (Enc.cells r) ∧ h = [] ∧ n = 0) := by
  unfold utf_fault at h
  refine spec_of (draw_ok _) Tryd.func15 rfl (by decide) rfl (by kernel_rfl) ?_
  refine seq_np ?_
  refine reg_f ?_
  refine rs 1 [] [] (by kernel_rfl) allP_nil ?_
  refine rf [(0, iS code), (1, iS xat), (4, .ptr 0 0)] [(0, .row 25 [iS 0, iS 0])] 1 (by kernel_rfl) ?_
  refine wk_id ?_
  refine seq_np ?_
  refine reg_f ?_
  refine rs 4 [] [] (by kernel_rfl) allP_nil ?_
  refine rf [(4, .ptr 0 0)] [(0, .row 25 [iS code, iS xat])] 1 (by kernel_rfl) ?_
  refine wk_id ?_
  obtain rfl := Option.some.inj h
  refine ret_at (.agg [iS code, iS xat]) (by kernel_rfl) ?_
  exact ret_e [] [] (by simp only [push_cast, seval]) (by simp only [push_cast, seval]) rfl rfl rfl

set_option maxRecDepth 100000 in
set_option maxHeartbeats 200000000 in
theorem utf_Range_spec (text : ByteArray) (r : Fault × (List S35)) (h : utf_Range text = some r) : SpecW Tryd.prog 7 [.v (.string text)] [] 0 (fun x h n => x = .tup [.own 0 0 r.2.length, .agg (Enc.cells r.1)] ∧ h = [(0, .row 35 (fl r.2))] ∧ n = 1) := by
  unfold utf_Range at h
  refine spec_of (draw_ok _) Tryd.func7 rfl (by decide) rfl (by kernel_rfl) ?_
  refine seq_np ?_
  refine reg_f ?_
  refine rs 2 [] [] (by kernel_rfl) allP_nil ?_
  refine rf [(0, .v (.string text)), (3, .ptr 0 0)] [(0, .row 25 [iS 0, iS 0])] 1 (by kernel_rfl) ?_
  refine wk_id ?_
  refine seq_np ?_
  refine seq_np ?_
  refine reg_f ?_
  refine rs 3 [] [] (by kernel_rfl) allP_nil ?_
  refine rf [(0, .v (.string text)), (3, .ptr 0 0), (9, bS (decide ((20000 : Int) < (((text).size : Nat) : Int))))] [(0, .row 25 [iS 0, iS 0])] 1 (by kernel_rfl) ?_
  refine wk_id ?_
  refine cond_sx h (by kernel_rfl) (fun g49 h => ?_) (fun g49 h => ?_)
  · refine seq_np ?_
    refine reg_f ?_
    obtain ⟨r16, hr16, h⟩ := bind_sx h
    refine run_call 15 [iS 2, iS 0] (some 10) (by kernel_rfl) ?_
    refine call_0 (utf_fault_spec 2 0 r16 hr16) (by simp only [push_cast, seval]) (by simp only [push_cast, seval]) ?_
    refine back_f ?_
    refine rs 2 [] [] (by kernel_rfl) allP_nil ?_
    refine rf [(2, .v (.slice none 0 0)), (3, .ptr 0 0)] [(0, .row 25 (Enc.cells r16))] 1 (by kernel_rfl) ?_
    refine wk_id ?_
    obtain rfl := Option.some.inj h
    refine ret_at (.tup [.v (.slice none 0 0), .agg (Enc.cells r16)]) (by kernel_rfl) ?_
    exact ret_e [] [] (by simp only [push_cast, seval]) (by simp only [push_cast, seval]) rfl rfl rfl
  · refine wk_id ?_
    refine seq_np ?_
    refine reg_f ?_
    refine rs 1 [] [] (by kernel_rfl) allP_nil ?_
    refine rf [(0, .v (.string text)), (3, .ptr 0 0), (4, .v (.slice none 0 0))] [(0, .row 25 [iS 0, iS 0])] 1 (by kernel_rfl) ?_
    refine wk_id ?_
    refine seq_np ?_
    refine seq_np ?_
    refine reg_f ?_
    refine rs 2 [none, some ⟨.it 1, [(1, .obj text 0)], 2, []⟩] _ (by kernel_rfl) (allP_cons (ob_range text 1) allP_nil) ?_
    refine rf [(3, .ptr 0 0), (4, .v (.slice none 0 0)), (12, .it 1)] [(0, .row 25 [iS 0, iS 0]), (1, .obj text 0)] 2 (by kernel_rfl) ?_
    refine wk_id ?_
    refine block_np ?_
    refine loop_sx (S := (List S35) × Nat) (fun a => ([(3, .ptr 0 0), (4, .own 1 0 a.1.length), (12, .it 2)], [(0, .row 25 [iS 0, iS 0]), (1, .row 35 (fl a.1)), (2, .obj text a.2)], 3)) h (leSt_m [(0, 0), (2, 1)] [] (by simp only [push_cast, seval]) (by simp only [push_cast, seval]) rfl rfl rfl) ?_
    rintro ⟨c1q7, c2q7⟩ o2 R2 h hr2 hn2 hx2 ht2
    try dsimp only at h hn2 ⊢
    unfold utf_Range_l1 at h
    try dsimp only at h
    refine bsplit_sx h (fun g44 h => ?_) (fun g44 h => ?_)
    · refine seq_np ?_
      refine reg_f ?_
      refine rs 2 [some ⟨.tup [bS true, iS ((c2q7 : Nat) : Int), .v (.int .i32 (((Utf8.decode text c2q7).1 : Nat) : Int))], [(2, .obj text (c2q7 + (Utf8.decode text c2q7).2))], 3, [2]⟩] _ (by kernel_rfl) (allP_cons (ob_next_t text c2q7 2 3 g44) allP_nil) ?_
      refine rf [(3, .ptr 0 0), (4, .own 1 0 c1q7.length), (12, .it 2), (13, .tup [bS true, iS ((c2q7 : Nat) : Int), .v (.int .i32 (((Utf8.decode text c2q7).1 : Nat) : Int))]), (14, bS true)] [(0, .row 25 [iS 0, iS 0]), (1, .row 35 (fl c1q7)), (2, .obj text (c2q7 + (Utf8.decode text c2q7).2))] 3 (by kernel_rfl) ?_
      refine wk_id ?_
      refine seq_np ?_
      refine cond_t (by kernel_rfl) ?_
      refine wk_id ?_
      refine block_np ?_
      refine seq_np ?_
      refine reg_f ?_
      refine rs 4 [] [] (by kernel_rfl) allP_nil ?_
      refine rf [(3, .ptr 0 0), (4, .own 1 0 c1q7.length), (5, iS ((c2q7 : Nat) : Int)), (6, .v (.int .i32 (((Utf8.decode text c2q7).1 : Nat) : Int))), (12, .it 2)] [(0, .row 25 [iS 0, iS 0]), (1, .row 35 (fl c1q7)), (2, .obj text (c2q7 + (Utf8.decode text c2q7).2))] 3 (by kernel_rfl) ?_
      refine wk_id ?_
      refine chk_sx h (fun g48 h => ?_)
      refine reg_f ?_
      have k47 : (c1q7 ++ ([(S35.mk ((c2q7 : Nat) : Int) (IntKind.i64.wrap (((Utf8.decode text c2q7).1 : Nat) : Int)))] : List S35)).length * 16 ≤ 140737488355328 := by first | simpa only [Bool.and_eq_true, decide_eq_true_eq, bne_iff_ne, ne_eq] using g48 | (simp at g48 ⊢; omega)
      refine rs 8 [none, none, none, none, none, none, some ⟨.own 4 0 (c1q7 ++ ([(S35.mk ((c2q7 : Nat) : Int) (IntKind.i64.wrap (((Utf8.decode text c2q7).1 : Nat) : Int)))] : List S35)).length, [(4, .row 35 (fl (c1q7 ++ ([(S35.mk ((c2q7 : Nat) : Int) (IntKind.i64.wrap (((Utf8.decode text c2q7).1 : Nat) : Int)))] : List S35)))), (1, .dead)], 5, [1, 3]⟩] _ (by kernel_rfl) (allP_cons (ob_app (P := Tryd.prog) c1q7 ([(S35.mk ((c2q7 : Nat) : Int) (IntKind.i64.wrap (((Utf8.decode text c2q7).1 : Nat) : Int)))] : List S35) 2 16 rfl (appCells (fl ([(S35.mk ((c2q7 : Nat) : Int) (IntKind.i64.wrap (((Utf8.decode text c2q7).1 : Nat) : Int)))] : List S35)) 0 (([(S35.mk ((c2q7 : Nat) : Int) (IntKind.i64.wrap (((Utf8.decode text c2q7).1 : Nat) : Int)))] : List S35).length * 2)) ([(S35.mk ((c2q7 : Nat) : Int) (IntKind.i64.wrap (((Utf8.decode text c2q7).1 : Nat) : Int)))] : List S35).length (app_own ([(S35.mk ((c2q7 : Nat) : Int) (IntKind.i64.wrap (((Utf8.decode text c2q7).1 : Nat) : Int)))] : List S35) 2 rfl) rfl (0 + ([(S35.mk ((c2q7 : Nat) : Int) (IntKind.i64.wrap (((Utf8.decode text c2q7).1 : Nat) : Int)))] : List S35).length * 2 ≤ (fl ([(S35.mk ((c2q7 : Nat) : Int) (IntKind.i64.wrap (((Utf8.decode text c2q7).1 : Nat) : Int)))] : List S35)).length) (app_own_le ([(S35.mk ((c2q7 : Nat) : Int) (IntKind.i64.wrap (((Utf8.decode text c2q7).1 : Nat) : Int)))] : List S35) 2 rfl) 35 (by kernel_rfl) (by decide) k47 1 4 [3]) allP_nil) ?_
      refine rf [(3, .ptr 0 0), (4, .own 4 0 (c1q7 ++ ([(S35.mk ((c2q7 : Nat) : Int) (IntKind.i64.wrap (((Utf8.decode text c2q7).1 : Nat) : Int)))] : List S35)).length), (12, .it 2)] [(0, .row 25 [iS 0, iS 0]), (1, .dead), (2, .obj text (c2q7 + (Utf8.decode text c2q7).2)), (3, .row 35 (fl ([(S35.mk ((c2q7 : Nat) : Int) (IntKind.i64.wrap (((Utf8.decode text c2q7).1 : Nat) : Int)))] : List S35))), (4, .row 35 (fl (c1q7 ++ ([(S35.mk ((c2q7 : Nat) : Int) (IntKind.i64.wrap (((Utf8.decode text c2q7).1 : Nat) : Int)))] : List S35))))] 5 (by kernel_rfl) ?_
      refine wk_id ?_
      exact hn2 ((c1q7 ++ ([(S35.mk ((c2q7 : Nat) : Int) (IntKind.i64.wrap (((Utf8.decode text c2q7).1 : Nat) : Int)))] : List S35)), (c2q7 + (Utf8.decode text c2q7).2)) _ _ _ (Option.some.inj h).symm (leSt_m [(0, 0), (1, 4), (2, 2)] [] (by simp only [push_cast, seval]) (by simp only [push_cast, seval]) rfl rfl rfl)
    · refine seq_np ?_
      refine reg_f ?_
      refine rs 2 [some ⟨.tup [bS false], [], 3, [2]⟩] _ (by kernel_rfl) (allP_cons (ob_next_f text c2q7 2 3 g44) allP_nil) ?_
      refine rf [(3, .ptr 0 0), (4, .own 1 0 c1q7.length), (12, .it 2), (13, .tup [bS false]), (14, bS false)] [(0, .row 25 [iS 0, iS 0]), (1, .row 35 (fl c1q7)), (2, .obj text c2q7)] 3 (by kernel_rfl) ?_
      refine wk_id ?_
      refine seq_np ?_
      refine cond_f (by kernel_rfl) ?_
      change R2 (.exit 0) _ _ _
      refine ex_cast hx2 (id := 0) ?_
      obtain ⟨r0, h, e0⟩ := map_sx h
      have e1 := hr2 r0 e0.symm
      subst r0
      refine wk_id ?_
      refine wk_id ?_
      refine seq_np ?_
      refine reg_f ?_
      refine rs 4 [] [] (by kernel_rfl) allP_nil ?_
      refine rf [(2, .own 1 0 c1q7.length), (3, .ptr 0 0)] [(0, .row 25 [iS 0, iS 0]), (1, .row 35 (fl c1q7)), (2, .obj text c2q7)] 3 (by kernel_rfl) ?_
      refine wk_id ?_
      obtain rfl := Option.some.inj h
      refine ret_at (.tup [.own 1 0 c1q7.length, .agg [iS 0, iS 0]]) (by kernel_rfl) ?_
      exact ret_e [(0, 1)] [] (by simp only [push_cast, seval]) (by simp only [push_cast, seval]) rfl rfl rfl

set_option maxRecDepth 100000 in
set_option maxHeartbeats 200000000 in
theorem taskmillref_SameOff_spec (xa : (List S35)) (b : (List S35)) (r : Bool) (h : taskmillref_SameOff xa b = some r) : SpecW Tryd.prog 11 [.sl xa.length (fl xa), .sl b.length (fl b)] [] 0 (fun x h n => x = bS r ∧ h = [] ∧ n = 0) := by
  unfold taskmillref_SameOff at h
  refine spec_of (draw_ok _) Tryd.func11 rfl (by decide) rfl (by kernel_rfl) ?_
  refine seq_np ?_
  refine reg_f ?_
  refine rs 1 [] [] (by kernel_rfl) allP_nil ?_
  refine rf [(0, .sl xa.length (fl xa)), (1, .sl b.length (fl b))] [] 0 (by kernel_rfl) ?_
  refine wk_id ?_
  refine seq_np ?_
  refine seq_np ?_
  refine reg_f ?_
  refine rs 5 [] [] (by kernel_rfl) allP_nil ?_
  refine rf [(0, .sl xa.length (fl xa)), (1, .sl b.length (fl b)), (10, bS (((xa.length : Nat) : Int) != ((b.length : Nat) : Int)))] [] 0 (by kernel_rfl) ?_
  refine wk_id ?_
  refine cond_sx h (by kernel_rfl) (fun g145 h => ?_) (fun g145 h => ?_)
  · refine seq_np ?_
    refine reg_f ?_
    refine rs 1 [] [] (by kernel_rfl) allP_nil ?_
    refine rf [(4, bS false)] [] 0 (by kernel_rfl) ?_
    refine wk_id ?_
    obtain rfl := Option.some.inj h
    refine ret_at (bS false) (by kernel_rfl) ?_
    exact ret_e [] [] (by simp only [push_cast, seval]) (by simp only [push_cast, seval]) rfl rfl rfl
  · refine wk_id ?_
    refine seq_np ?_
    refine seq_np ?_
    refine reg_f ?_
    refine rs 1 [] [] (by kernel_rfl) allP_nil ?_
    refine rf [(0, .sl xa.length (fl xa)), (1, .sl b.length (fl b)), (5, iS 0)] [] 0 (by kernel_rfl) ?_
    refine wk_id ?_
    refine block_np ?_
    refine loop_sx (S := Int) (fun a => ([(0, .sl xa.length (fl xa)), (1, .sl b.length (fl b)), (5, iS a)], [], 0)) h (leSt_m [] [] (by simp only [push_cast, seval]) (by simp only [push_cast, seval]) rfl rfl rfl) ?_
    rintro i7 o2 R2 h hr2 hn2 hx2 ht2
    try dsimp only at h hn2 ⊢
    unfold taskmillref_SameOff_l1 at h
    try dsimp only at h
    refine seq_np ?_
    refine seq_np ?_
    refine reg_f ?_
    refine rs 4 [] [] (by kernel_rfl) allP_nil ?_
    refine rf [(0, .sl xa.length (fl xa)), (1, .sl b.length (fl b)), (5, iS i7), (14, bS (decide (i7 < ((xa.length : Nat) : Int))))] [] 0 (by kernel_rfl) ?_
    refine wk_id ?_
    refine cond_sx h (by kernel_rfl) (fun g144 h => ?_) (fun g144 h => ?_)
    · refine wk_id ?_
      refine seq_np ?_
      refine block_np ?_
      refine chk_sx h (fun g140 h => ?_)
      refine chk_sx h (fun g142 h => ?_)
      refine seq_np ?_
      refine reg_t ?_
      have k139 : 0 ≤ i7 ∧ i7 < ((xa.length : Nat) : Int) := by first | simpa only [Bool.and_eq_true, decide_eq_true_eq, bne_iff_ne, ne_eq] using g140 | (simp at g140 ⊢; omega)
      have k141 : 0 ≤ i7 ∧ i7 < ((b.length : Nat) : Int) := by first | simpa only [Bool.and_eq_true, decide_eq_true_eq, bne_iff_ne, ne_eq] using g142 | (simp at g142 ⊢; omega)
      refine rs 9 [none, none, some ⟨.iptr (fl xa) ((i7).toNat * 2), [], 2, []⟩, some ⟨.agg (Enc.cells (ix xa i7)), [], 3, []⟩, none, none, some ⟨.iptr (fl b) ((i7).toNat * 2), [], 6, []⟩, some ⟨.agg (Enc.cells (ix b i7)), [], 7, []⟩] _ (by kernel_rfl) (allP_cons (ob_ldw b i7 2 ((i7).toNat * 2) k141 rfl (by first | rfl | omega) [iS (ix b i7).e0, iS (ix b i7).e1] rfl 7 []) (allP_cons (ob_ix_l b 2 6 i7 k141) (allP_cons (ob_ldw xa i7 2 ((i7).toNat * 2) k139 rfl (by first | rfl | omega) [iS (ix xa i7).e0, iS (ix xa i7).e1] rfl 3 []) (allP_cons (ob_ix_l xa 2 2 i7 k139) allP_nil)))) ?_
      refine rt [(0, .sl xa.length (fl xa)), (1, .sl b.length (fl b)), (5, iS i7), (25, bS (!(((ix xa i7).e0 == (ix b i7).e0) && (((ix xa i7).e1 == (ix b i7).e1) && true))))] [] 9 follows (by kernel_rfl) ?_
      refine wk_id ?_
      refine cond_sx h (by kernel_rfl) (fun g143 h => ?_) (fun g143 h => ?_)
      · refine seq_np ?_
        refine reg_f ?_
        refine rs 1 [] [] (by kernel_rfl) allP_nil ?_
        refine rf [(4, bS false)] [] 9 (by kernel_rfl) ?_
        refine wk_id ?_
        refine rt_cast ht2 ?_
        obtain ⟨r0, h, e0⟩ := map_sx h
        have e1 := hr2 r0 e0.symm
        subst r0
        obtain rfl := Option.some.inj h
        refine ret_at (bS false) (by kernel_rfl) ?_
        exact ret_e [] [] (by simp only [push_cast, seval]) (by simp only [push_cast, seval]) rfl rfl rfl
      · refine wk_id ?_
        refine wk_id ?_
        refine reg_f ?_
        refine rs 3 [] [] (by kernel_rfl) allP_nil ?_
        refine rf [(0, .sl xa.length (fl xa)), (1, .sl b.length (fl b)), (5, iS (IntKind.i64.wrap (i7 + 1)))] [] 9 (by kernel_rfl) ?_
        exact hn2 ((IntKind.i64.wrap (i7 + 1))) _ _ _ (Option.some.inj h).symm (leSt_m [] [] (by simp only [push_cast, seval]) (by simp only [push_cast, seval]) rfl rfl rfl)
    · change R2 (.exit 0) _ _ _
      refine ex_cast hx2 (id := 0) ?_
      obtain ⟨r0, h, e0⟩ := map_sx h
      have e1 := hr2 r0 e0.symm
      subst r0
      refine wk_id ?_
      refine wk_id ?_
      refine seq_np ?_
      refine reg_f ?_
      refine rs 1 [] [] (by kernel_rfl) allP_nil ?_
      refine rf [(4, bS true)] [] 0 (by kernel_rfl) ?_
      refine wk_id ?_
      obtain rfl := Option.some.inj h
      refine ret_at (bS true) (by kernel_rfl) ?_
      exact ret_e [] [] (by simp only [push_cast, seval]) (by simp only [push_cast, seval]) rfl rfl rfl

set_option maxRecDepth 100000 in
set_option maxHeartbeats 200000000 in
theorem taskmilllaw_utfBegun_spec (r : Bool) (h : taskmilllaw_utfBegun = some r) : SpecW Tryd.prog 6 [] [] 0 (fun x h n => x = bS r ∧ h = [] ∧ n = 0) := by
  unfold taskmilllaw_utfBegun at h
  refine spec_of (draw_ok _) Tryd.func6 rfl (by decide) rfl (by kernel_rfl) ?_
  refine seq_np ?_
  refine reg_f ?_
  refine rs 1 [] [] (by kernel_rfl) allP_nil ?_
  refine rf [] [] 0 (by kernel_rfl) ?_
  refine wk_id ?_
  refine seq_np ?_
  refine reg_f ?_
  obtain ⟨r150, hr150, h⟩ := bind_sx h
  refine call_x (utf_Range_spec (ByteArray.mk #[195, 164, 255]) r150 hr150) (args := [.v (.string (ByteArray.mk #[195, 164, 255]))]) (dst := (some 4)) (by kernel_rfl) [] 0 (by kernel_rfl) [] [] (.tup [.own 0 0 r150.2.length, .agg (Enc.cells r150.1)]) [(0, .row 35 (fl r150.2))] (by simp only [push_cast, seval]) (by simp only [push_cast, seval]) (by kernel_rfl) (.inl rfl) (by simp only [push_cast, seval]) (by simp only [push_cast, seval]) ?_
  refine rs 6 [] [] (by kernel_rfl) allP_nil ?_
  refine rf [(1, .own 0 0 r150.2.length), (2, .ptr 1 0)] [(0, .row 35 (fl r150.2)), (1, .row 25 (Enc.cells r150.1))] 2 (by kernel_rfl) ?_
  refine wk_id ?_
  refine seq_cut (A := Bool) (fun a => ([(0, bS a)], [], 0)) (fun a => (taskmilllaw_utfBegun_j1 a) = some r) (fun K154 hK154 => ?_) ?_
  · refine reg_f ?_
    refine rs 4 [] [] (by kernel_rfl) allP_nil ?_
    refine run_br h 10 (.inl (by kernel_rfl)) (fun g155 h => ?_) (fun g155 h => ?_)
    · refine rs 4 [] [] (by kernel_rfl) allP_nil ?_
      obtain ⟨r156, hr156, h⟩ := bind_sx h
      refine call_x (taskmillref_SameOff_spec r150.2 ([(S35.mk 0 228), (S35.mk 2 65533)] : List S35) r156 hr156) (args := [.own 0 0 r150.2.length, .own 2 0 ([(S35.mk 0 228), (S35.mk 2 65533)] : List S35).length]) (dst := (some 15)) (by kernel_rfl) [(0, .row 35 (fl r150.2)), (1, .row 25 (Enc.cells r150.1)), (2, .row 35 (fl ([(S35.mk 0 228), (S35.mk 2 65533)] : List S35)))] 3 (by kernel_rfl) [] [0, 2] (bS r156) [] (by simp only [push_cast, seval]) (by simp only [push_cast, seval]) (by kernel_rfl) (.inr ⟨by simp only [push_cast, seval], by simp only [push_cast, seval]⟩) (by simp only [push_cast, seval]) (by simp only [push_cast, seval]) ?_
      refine rs 2 [] [] (by kernel_rfl) allP_nil ?_
      refine rf [(0, bS r156)] [(0, .row 35 (fl r150.2)), (1, .row 25 (Enc.cells r150.1)), (2, .row 35 (fl ([(S35.mk 0 228), (S35.mk 2 65533)] : List S35)))] 3 (by kernel_rfl) ?_
      exact hK154 (r156) _ _ _ h (leSt_m [] [] (by (try simp only [g155]) <;> simp only [push_cast, seval]) (by (try simp only [g155]) <;> simp only [push_cast, seval]) rfl rfl rfl)
    · refine rs 7 [] [] (by kernel_rfl) allP_nil ?_
      refine rf [(0, bS false)] [(0, .row 35 (fl r150.2)), (1, .row 25 (Enc.cells r150.1))] 2 (by kernel_rfl) ?_
      exact hK154 (false) _ _ _ h (leSt_m [] [] (by (try simp only [g155]) <;> simp only [push_cast, seval]) (by (try simp only [g155]) <;> simp only [push_cast, seval]) rfl rfl rfl)
  · rintro t0q1 h
    try dsimp only at h ⊢
    unfold taskmilllaw_utfBegun_j1 at h
    obtain rfl := Option.some.inj h
    refine ret_at (bS t0q1) (by kernel_rfl) ?_
    exact ret_e [] [] (by simp only [push_cast, seval]) (by simp only [push_cast, seval]) rfl rfl rfl

set_option maxRecDepth 100000 in
set_option maxHeartbeats 200000000 in
theorem utf8_decodeRuneInStringSlow_spec (s : ByteArray) (r : Int × Int) (h : utf8_decodeRuneInStringSlow s = some r) : SpecW Tryd.prog 19 [.v (.string s)] [] 0 (fun x h n => x = .tup [.v (.int .i32 r.1), iS r.2] ∧ h = [] ∧ n = 0) := by
  unfold utf8_decodeRuneInStringSlow at h
  refine spec_of (draw_ok _) Tryd.func19 rfl (by decide) rfl (by kernel_rfl) ?_
  refine seq_np ?_
  refine reg_f ?_
  refine rs 2 [] [] (by kernel_rfl) allP_nil ?_
  refine rf [(0, .v (.string s))] [] 0 (by kernel_rfl) ?_
  refine wk_id ?_
  refine seq_np ?_
  refine reg_f ?_
  refine rs 3 [] [] (by kernel_rfl) allP_nil ?_
  refine rf [(0, .v (.string s)), (4, iS (((s).size : Nat) : Int))] [] 0 (by kernel_rfl) ?_
  refine wk_id ?_
  refine seq_np ?_
  refine seq_np ?_
  refine reg_f ?_
  refine rs 2 [] [] (by kernel_rfl) allP_nil ?_
  refine rf [(0, .v (.string s)), (4, iS (((s).size : Nat) : Int)), (16, bS (decide ((((s).size : Nat) : Int) < 1)))] [] 0 (by kernel_rfl) ?_
  refine wk_id ?_
  refine cond_sx h (by kernel_rfl) (fun g253 h => ?_) (fun g253 h => ?_)
  · refine seq_np ?_
    refine reg_f ?_
    refine rs 2 [] [] (by kernel_rfl) allP_nil ?_
    refine rf [(2, .v (.int .i32 65533)), (3, iS 0)] [] 0 (by kernel_rfl) ?_
    refine wk_id ?_
    obtain rfl := Option.some.inj h
    refine ret_at (.tup [.v (.int .i32 65533), iS 0]) (by kernel_rfl) ?_
    exact ret_e [] [] (by simp only [push_cast, seval]) (by simp only [push_cast, seval]) rfl rfl rfl
  · refine wk_id ?_
    refine chk_sx h (fun g200 h => ?_)
    refine seq_np ?_
    refine reg_f ?_
    have k199 : 0 ≤ (0 : Int) ∧ (0 : Int) < (((s).size : Nat) : Int) := by first | simpa only [Bool.and_eq_true, decide_eq_true_eq, bne_iff_ne, ne_eq] using g200 | (simp at g200 ⊢; omega)
    refine rs 3 [none, some ⟨.v (.int .u8 (((s).data.getD ((0 : Int)).toNat 0).toNat : Int)), [], 0, []⟩] _ (by kernel_rfl) (allP_cons (ob_p (v := .v (.int .u8 (((s).data.getD ((0 : Int)).toNat 0).toNat : Int))) (nx := 0) (r := []) k199) allP_nil) ?_
    refine rf [(0, .v (.string s)), (4, iS (((s).size : Nat) : Int)), (5, .v (.int .u8 (((s).data.getD ((0 : Int)).toNat 0).toNat : Int)))] [] 0 (by kernel_rfl) ?_
    refine wk_id ?_
    refine chk_sx h (fun g204 h => ?_)
    refine seq_np ?_
    refine reg_f ?_
    have k203 : 0 ≤ (((s).data.getD ((0 : Int)).toNat 0).toNat : Int) ∧ (((s).data.getD ((0 : Int)).toNat 0).toNat : Int) < ((utf8First.length : Nat) : Int) := by first | simpa only [Bool.and_eq_true, decide_eq_true_eq, bne_iff_ne, ne_eq] using g204 | (simp at g204 ⊢; omega)
    refine rs 4 [none, some ⟨.iptr (fl utf8First) (((((s).data.getD ((0 : Int)).toNat 0).toNat : Int)).toNat * 1), [], 0, []⟩, some ⟨.v (.int .u8 (ix utf8First (((s).data.getD ((0 : Int)).toNat 0).toNat : Int)).v), [], 0, []⟩] _ (by kernel_rfl) (allP_cons (ob_ld utf8First (((s).data.getD ((0 : Int)).toNat 0).toNat : Int) 1 0 (((((s).data.getD ((0 : Int)).toNat 0).toNat : Int)).toNat * 1) k203 rfl (by decide) (by first | rfl | omega) (dflS Tryd.prog 5) (.v (.int .u8 (ix utf8First (((s).data.getD ((0 : Int)).toNat 0).toNat : Int)).v)) rfl 0 []) (allP_cons (ob_tab utf8First (firstTab.map SV.v) (by kernel_rfl) 256 1 0 rfl (((s).data.getD ((0 : Int)).toNat 0).toNat : Int) k203) allP_nil)) ?_
    refine rf [(0, .v (.string s)), (4, iS (((s).size : Nat) : Int)), (5, .v (.int .u8 (((s).data.getD ((0 : Int)).toNat 0).toNat : Int))), (6, .v (.int .u8 (ix utf8First (((s).data.getD ((0 : Int)).toNat 0).toNat : Int)).v))] [] 0 (by kernel_rfl) ?_
    refine wk_id ?_
    refine seq_np ?_
    refine seq_np ?_
    refine reg_f ?_
    refine rs 2 [] [] (by kernel_rfl) allP_nil ?_
    refine rf [(0, .v (.string s)), (4, iS (((s).size : Nat) : Int)), (5, .v (.int .u8 (((s).data.getD ((0 : Int)).toNat 0).toNat : Int))), (6, .v (.int .u8 (ix utf8First (((s).data.getD ((0 : Int)).toNat 0).toNat : Int)).v)), (23, bS (decide ((240 : Int) ≤ (ix utf8First (((s).data.getD ((0 : Int)).toNat 0).toNat : Int)).v)))] [] 0 (by kernel_rfl) ?_
    refine wk_id ?_
    refine cond_sx h (by kernel_rfl) (fun g252 h => ?_) (fun g252 h => ?_)
    · refine seq_np ?_
      refine reg_f ?_
      refine rs 5 [] [] (by kernel_rfl) allP_nil ?_
      refine rf [(0, .v (.string s)), (7, .v (.int .i32 (Int.fdiv (IntKind.i32.wrap ((IntKind.i32.wrap (ix utf8First (((s).data.getD ((0 : Int)).toNat 0).toNat : Int)).v) * 2 ^ (min ((31 : Int)).toNat (IntKind.i32).bits))) (2 ^ (min ((31 : Int)).toNat (IntKind.i32).bits)))))] [] 0 (by kernel_rfl) ?_
      refine wk_id ?_
      refine chk_sx h (fun g211 h => ?_)
      refine seq_np ?_
      refine reg_f ?_
      have k210 : 0 ≤ (0 : Int) ∧ (0 : Int) < (((s).size : Nat) : Int) := by first | simpa only [Bool.and_eq_true, decide_eq_true_eq, bne_iff_ne, ne_eq] using g211 | (simp at g211 ⊢; omega)
      refine rs 10 [none, some ⟨.v (.int .u8 (((s).data.getD ((0 : Int)).toNat 0).toNat : Int)), [], 0, []⟩] _ (by kernel_rfl) (allP_cons (ob_p (v := .v (.int .u8 (((s).data.getD ((0 : Int)).toNat 0).toNat : Int))) (nx := 0) (r := []) k210) allP_nil) ?_
      refine rf [(2, .v (.int .i32 (IntKind.i32.wrap (((BitVec.ofInt (IntKind.i32).bits (IntKind.i32.wrap (((BitVec.ofInt (IntKind.i32).bits (IntKind.i32.wrap (((s).data.getD ((0 : Int)).toNat 0).toNat : Int)) &&& ~~~ BitVec.ofInt (IntKind.i32).bits (Int.fdiv (IntKind.i32.wrap ((IntKind.i32.wrap (ix utf8First (((s).data.getD ((0 : Int)).toNat 0).toNat : Int)).v) * 2 ^ (min ((31 : Int)).toNat (IntKind.i32).bits))) (2 ^ (min ((31 : Int)).toNat (IntKind.i32).bits)))).toNat : Nat) : Int)) ||| BitVec.ofInt (IntKind.i32).bits (IntKind.i32.wrap (((BitVec.ofInt (IntKind.i32).bits 65533 &&& BitVec.ofInt (IntKind.i32).bits (Int.fdiv (IntKind.i32.wrap ((IntKind.i32.wrap (ix utf8First (((s).data.getD ((0 : Int)).toNat 0).toNat : Int)).v) * 2 ^ (min ((31 : Int)).toNat (IntKind.i32).bits))) (2 ^ (min ((31 : Int)).toNat (IntKind.i32).bits)))).toNat : Nat) : Int))).toNat : Nat) : Int)))), (3, iS 1)] [] 0 (by kernel_rfl) ?_
      refine wk_id ?_
      obtain rfl := Option.some.inj h
      refine ret_at (.tup [.v (.int .i32 (IntKind.i32.wrap (((BitVec.ofInt (IntKind.i32).bits (IntKind.i32.wrap (((BitVec.ofInt (IntKind.i32).bits (IntKind.i32.wrap (((s).data.getD ((0 : Int)).toNat 0).toNat : Int)) &&& ~~~ BitVec.ofInt (IntKind.i32).bits (Int.fdiv (IntKind.i32.wrap ((IntKind.i32.wrap (ix utf8First (((s).data.getD ((0 : Int)).toNat 0).toNat : Int)).v) * 2 ^ (min ((31 : Int)).toNat (IntKind.i32).bits))) (2 ^ (min ((31 : Int)).toNat (IntKind.i32).bits)))).toNat : Nat) : Int)) ||| BitVec.ofInt (IntKind.i32).bits (IntKind.i32.wrap (((BitVec.ofInt (IntKind.i32).bits 65533 &&& BitVec.ofInt (IntKind.i32).bits (Int.fdiv (IntKind.i32.wrap ((IntKind.i32.wrap (ix utf8First (((s).data.getD ((0 : Int)).toNat 0).toNat : Int)).v) * 2 ^ (min ((31 : Int)).toNat (IntKind.i32).bits))) (2 ^ (min ((31 : Int)).toNat (IntKind.i32).bits)))).toNat : Nat) : Int))).toNat : Nat) : Int))), iS 1]) (by kernel_rfl) ?_
      exact ret_e [] [] (by simp only [push_cast, seval]) (by simp only [push_cast, seval]) rfl rfl rfl
    · refine wk_id ?_
      refine seq_np ?_
      refine reg_f ?_
      refine rs 4 [] [] (by kernel_rfl) allP_nil ?_
      refine rf [(0, .v (.string s)), (4, iS (((s).size : Nat) : Int)), (5, .v (.int .u8 (((s).data.getD ((0 : Int)).toNat 0).toNat : Int))), (6, .v (.int .u8 (ix utf8First (((s).data.getD ((0 : Int)).toNat 0).toNat : Int)).v)), (8, iS (IntKind.i64.wrap (IntKind.u8.wrap (((BitVec.ofInt (IntKind.u8).bits (ix utf8First (((s).data.getD ((0 : Int)).toNat 0).toNat : Int)).v &&& BitVec.ofInt (IntKind.u8).bits 7).toNat : Nat) : Int))))] [] 0 (by kernel_rfl) ?_
      refine wk_id ?_
      refine chk_sx h (fun g215 h => ?_)
      refine seq_np ?_
      refine reg_f ?_
      have k214 : 0 ≤ (Int.fdiv (ix utf8First (((s).data.getD ((0 : Int)).toNat 0).toNat : Int)).v (2 ^ (min ((4 : Int)).toNat (IntKind.u8).bits))) ∧ (Int.fdiv (ix utf8First (((s).data.getD ((0 : Int)).toNat 0).toNat : Int)).v (2 ^ (min ((4 : Int)).toNat (IntKind.u8).bits))) < ((utf8Accept.length : Nat) : Int) := by first | simpa only [Bool.and_eq_true, decide_eq_true_eq, bne_iff_ne, ne_eq] using g215 | (simp at g215 ⊢; omega)
      refine rs 6 [none, none, some ⟨.iptr (fl utf8Accept) (((Int.fdiv (ix utf8First (((s).data.getD ((0 : Int)).toNat 0).toNat : Int)).v (2 ^ (min ((4 : Int)).toNat (IntKind.u8).bits)))).toNat * 2), [], 0, []⟩, some ⟨.agg (Enc.cells (ix utf8Accept (Int.fdiv (ix utf8First (((s).data.getD ((0 : Int)).toNat 0).toNat : Int)).v (2 ^ (min ((4 : Int)).toNat (IntKind.u8).bits))))), [], 0, []⟩] _ (by kernel_rfl) (allP_cons (ob_ldw utf8Accept (Int.fdiv (ix utf8First (((s).data.getD ((0 : Int)).toNat 0).toNat : Int)).v (2 ^ (min ((4 : Int)).toNat (IntKind.u8).bits))) 2 (((Int.fdiv (ix utf8First (((s).data.getD ((0 : Int)).toNat 0).toNat : Int)).v (2 ^ (min ((4 : Int)).toNat (IntKind.u8).bits)))).toNat * 2) k214 rfl (by first | rfl | omega) [.v (.int .u8 (ix utf8Accept (Int.fdiv (ix utf8First (((s).data.getD ((0 : Int)).toNat 0).toNat : Int)).v (2 ^ (min ((4 : Int)).toNat (IntKind.u8).bits)))).lo), .v (.int .u8 (ix utf8Accept (Int.fdiv (ix utf8First (((s).data.getD ((0 : Int)).toNat 0).toNat : Int)).v (2 ^ (min ((4 : Int)).toNat (IntKind.u8).bits)))).hi)] rfl 0 []) (allP_cons (ob_tab utf8Accept (acceptTab.map SV.v) (by kernel_rfl) 16 2 0 rfl (Int.fdiv (ix utf8First (((s).data.getD ((0 : Int)).toNat 0).toNat : Int)).v (2 ^ (min ((4 : Int)).toNat (IntKind.u8).bits))) k214) allP_nil)) ?_
      refine rf [(0, .v (.string s)), (4, iS (((s).size : Nat) : Int)), (5, .v (.int .u8 (((s).data.getD ((0 : Int)).toNat 0).toNat : Int))), (8, iS (IntKind.i64.wrap (IntKind.u8.wrap (((BitVec.ofInt (IntKind.u8).bits (ix utf8First (((s).data.getD ((0 : Int)).toNat 0).toNat : Int)).v &&& BitVec.ofInt (IntKind.u8).bits 7).toNat : Nat) : Int)))), (9, .ptr 0 0)] [(0, .row 54 (Enc.cells (ix utf8Accept (Int.fdiv (ix utf8First (((s).data.getD ((0 : Int)).toNat 0).toNat : Int)).v (2 ^ (min ((4 : Int)).toNat (IntKind.u8).bits))))))] 1 (by kernel_rfl) ?_
      refine wk_id ?_
      refine seq_np ?_
      refine seq_np ?_
      refine reg_f ?_
      refine rs 3 [] [] (by kernel_rfl) allP_nil ?_
      refine rf [(0, .v (.string s)), (5, .v (.int .u8 (((s).data.getD ((0 : Int)).toNat 0).toNat : Int))), (8, iS (IntKind.i64.wrap (IntKind.u8.wrap (((BitVec.ofInt (IntKind.u8).bits (ix utf8First (((s).data.getD ((0 : Int)).toNat 0).toNat : Int)).v &&& BitVec.ofInt (IntKind.u8).bits 7).toNat : Nat) : Int)))), (9, .ptr 0 0), (45, bS (decide ((((s).size : Nat) : Int) < (IntKind.i64.wrap (IntKind.u8.wrap (((BitVec.ofInt (IntKind.u8).bits (ix utf8First (((s).data.getD ((0 : Int)).toNat 0).toNat : Int)).v &&& BitVec.ofInt (IntKind.u8).bits 7).toNat : Nat) : Int))))))] [(0, .row 54 (Enc.cells (ix utf8Accept (Int.fdiv (ix utf8First (((s).data.getD ((0 : Int)).toNat 0).toNat : Int)).v (2 ^ (min ((4 : Int)).toNat (IntKind.u8).bits))))))] 1 (by kernel_rfl) ?_
      refine wk_id ?_
      refine cond_sx h (by kernel_rfl) (fun g251 h => ?_) (fun g251 h => ?_)
      · refine seq_np ?_
        refine reg_f ?_
        refine rs 2 [] [] (by kernel_rfl) allP_nil ?_
        refine rf [(2, .v (.int .i32 65533)), (3, iS 1)] [(0, .row 54 (Enc.cells (ix utf8Accept (Int.fdiv (ix utf8First (((s).data.getD ((0 : Int)).toNat 0).toNat : Int)).v (2 ^ (min ((4 : Int)).toNat (IntKind.u8).bits))))))] 1 (by kernel_rfl) ?_
        refine wk_id ?_
        obtain rfl := Option.some.inj h
        refine ret_at (.tup [.v (.int .i32 65533), iS 1]) (by kernel_rfl) ?_
        exact ret_e [] [] (by simp only [push_cast, seval]) (by simp only [push_cast, seval]) rfl rfl rfl
      · refine wk_id ?_
        refine chk_sx h (fun g220 h => ?_)
        refine seq_np ?_
        refine reg_f ?_
        have k219 : 0 ≤ (1 : Int) ∧ (1 : Int) < (((s).size : Nat) : Int) := by first | simpa only [Bool.and_eq_true, decide_eq_true_eq, bne_iff_ne, ne_eq] using g220 | (simp at g220 ⊢; omega)
        refine rs 3 [none, some ⟨.v (.int .u8 (((s).data.getD ((1 : Int)).toNat 0).toNat : Int)), [], 1, []⟩] _ (by kernel_rfl) (allP_cons (ob_p (v := .v (.int .u8 (((s).data.getD ((1 : Int)).toNat 0).toNat : Int))) (nx := 1) (r := []) k219) allP_nil) ?_
        refine rf [(0, .v (.string s)), (5, .v (.int .u8 (((s).data.getD ((0 : Int)).toNat 0).toNat : Int))), (8, iS (IntKind.i64.wrap (IntKind.u8.wrap (((BitVec.ofInt (IntKind.u8).bits (ix utf8First (((s).data.getD ((0 : Int)).toNat 0).toNat : Int)).v &&& BitVec.ofInt (IntKind.u8).bits 7).toNat : Nat) : Int)))), (9, .ptr 0 0), (10, .v (.int .u8 (((s).data.getD ((1 : Int)).toNat 0).toNat : Int)))] [(0, .row 54 (Enc.cells (ix utf8Accept (Int.fdiv (ix utf8First (((s).data.getD ((0 : Int)).toNat 0).toNat : Int)).v (2 ^ (min ((4 : Int)).toNat (IntKind.u8).bits))))))] 1 (by kernel_rfl) ?_
        refine wk_id ?_
        refine seq_np ?_
        refine seq_cut (A := Unit) (fun _ => ([(0, .v (.string s)), (5, .v (.int .u8 (((s).data.getD ((0 : Int)).toNat 0).toNat : Int))), (8, iS (IntKind.i64.wrap (IntKind.u8.wrap (((BitVec.ofInt (IntKind.u8).bits (ix utf8First (((s).data.getD ((0 : Int)).toNat 0).toNat : Int)).v &&& BitVec.ofInt (IntKind.u8).bits 7).toNat : Nat) : Int)))), (10, .v (.int .u8 (((s).data.getD ((1 : Int)).toNat 0).toNat : Int))), (57, bS ((decide ((((s).data.getD ((1 : Int)).toNat 0).toNat : Int) < (ix utf8Accept (Int.fdiv (ix utf8First (((s).data.getD ((0 : Int)).toNat 0).toNat : Int)).v (2 ^ (min ((4 : Int)).toNat (IntKind.u8).bits)))).lo)) || (decide ((ix utf8Accept (Int.fdiv (ix utf8First (((s).data.getD ((0 : Int)).toNat 0).toNat : Int)).v (2 ^ (min ((4 : Int)).toNat (IntKind.u8).bits)))).hi < (((s).data.getD ((1 : Int)).toNat 0).toNat : Int)))))], [(0, .row 54 (Enc.cells (ix utf8Accept (Int.fdiv (ix utf8First (((s).data.getD ((0 : Int)).toNat 0).toNat : Int)).v (2 ^ (min ((4 : Int)).toNat (IntKind.u8).bits))))))], 1)) (fun _ => True) (fun K224 hK224 => ?_) (fun _ _ => ?_)
        · refine reg_f ?_
          refine rs 5 [] [] (by kernel_rfl) allP_nil ?_
          refine run_split 52 (decide ((((s).data.getD ((1 : Int)).toNat 0).toNat : Int) < (ix utf8Accept (Int.fdiv (ix utf8First (((s).data.getD ((0 : Int)).toNat 0).toNat : Int)).v (2 ^ (min ((4 : Int)).toNat (IntKind.u8).bits)))).lo)) (.inl (by kernel_rfl)) (fun g225 => ?_) (fun g225 => ?_)
          · refine rs 5 [] [] (by kernel_rfl) allP_nil ?_
            refine rf [(0, .v (.string s)), (5, .v (.int .u8 (((s).data.getD ((0 : Int)).toNat 0).toNat : Int))), (8, iS (IntKind.i64.wrap (IntKind.u8.wrap (((BitVec.ofInt (IntKind.u8).bits (ix utf8First (((s).data.getD ((0 : Int)).toNat 0).toNat : Int)).v &&& BitVec.ofInt (IntKind.u8).bits 7).toNat : Nat) : Int)))), (10, .v (.int .u8 (((s).data.getD ((1 : Int)).toNat 0).toNat : Int))), (57, bS true)] [(0, .row 54 (Enc.cells (ix utf8Accept (Int.fdiv (ix utf8First (((s).data.getD ((0 : Int)).toNat 0).toNat : Int)).v (2 ^ (min ((4 : Int)).toNat (IntKind.u8).bits))))))] 1 (by kernel_rfl) ?_
            exact hK224 () _ _ _ trivial (leSt_m [(0, 0)] [] (by (try simp only [g225]) <;> simp only [push_cast, seval]) (by (try simp only [g225]) <;> simp only [push_cast, seval]) rfl rfl rfl)
          · refine rs 5 [] [] (by kernel_rfl) allP_nil ?_
            refine rf [(0, .v (.string s)), (5, .v (.int .u8 (((s).data.getD ((0 : Int)).toNat 0).toNat : Int))), (8, iS (IntKind.i64.wrap (IntKind.u8.wrap (((BitVec.ofInt (IntKind.u8).bits (ix utf8First (((s).data.getD ((0 : Int)).toNat 0).toNat : Int)).v &&& BitVec.ofInt (IntKind.u8).bits 7).toNat : Nat) : Int)))), (10, .v (.int .u8 (((s).data.getD ((1 : Int)).toNat 0).toNat : Int))), (57, bS (decide ((ix utf8Accept (Int.fdiv (ix utf8First (((s).data.getD ((0 : Int)).toNat 0).toNat : Int)).v (2 ^ (min ((4 : Int)).toNat (IntKind.u8).bits)))).hi < (((s).data.getD ((1 : Int)).toNat 0).toNat : Int))))] [(0, .row 54 (Enc.cells (ix utf8Accept (Int.fdiv (ix utf8First (((s).data.getD ((0 : Int)).toNat 0).toNat : Int)).v (2 ^ (min ((4 : Int)).toNat (IntKind.u8).bits))))))] 1 (by kernel_rfl) ?_
            exact hK224 () _ _ _ trivial (leSt_m [(0, 0)] [] (by (try simp only [g225]) <;> simp only [push_cast, seval]) (by (try simp only [g225]) <;> simp only [push_cast, seval]) rfl rfl rfl)
        · dsimp only
          refine cond_sx h (by kernel_rfl) (fun g250 h => ?_) (fun g250 h => ?_)
          · refine seq_np ?_
            refine reg_f ?_
            refine rs 2 [] [] (by kernel_rfl) allP_nil ?_
            refine rf [(2, .v (.int .i32 65533)), (3, iS 1)] [(0, .row 54 (Enc.cells (ix utf8Accept (Int.fdiv (ix utf8First (((s).data.getD ((0 : Int)).toNat 0).toNat : Int)).v (2 ^ (min ((4 : Int)).toNat (IntKind.u8).bits))))))] 1 (by kernel_rfl) ?_
            refine wk_id ?_
            obtain rfl := Option.some.inj h
            refine ret_at (.tup [.v (.int .i32 65533), iS 1]) (by kernel_rfl) ?_
            exact ret_e [] [] (by simp only [push_cast, seval]) (by simp only [push_cast, seval]) rfl rfl rfl
          · refine wk_id ?_
            refine seq_np ?_
            refine seq_np ?_
            refine reg_f ?_
            refine rs 2 [] [] (by kernel_rfl) allP_nil ?_
            refine rf [(0, .v (.string s)), (5, .v (.int .u8 (((s).data.getD ((0 : Int)).toNat 0).toNat : Int))), (8, iS (IntKind.i64.wrap (IntKind.u8.wrap (((BitVec.ofInt (IntKind.u8).bits (ix utf8First (((s).data.getD ((0 : Int)).toNat 0).toNat : Int)).v &&& BitVec.ofInt (IntKind.u8).bits 7).toNat : Nat) : Int)))), (10, .v (.int .u8 (((s).data.getD ((1 : Int)).toNat 0).toNat : Int))), (59, bS (decide ((IntKind.i64.wrap (IntKind.u8.wrap (((BitVec.ofInt (IntKind.u8).bits (ix utf8First (((s).data.getD ((0 : Int)).toNat 0).toNat : Int)).v &&& BitVec.ofInt (IntKind.u8).bits 7).toNat : Nat) : Int))) ≤ 2)))] [(0, .row 54 (Enc.cells (ix utf8Accept (Int.fdiv (ix utf8First (((s).data.getD ((0 : Int)).toNat 0).toNat : Int)).v (2 ^ (min ((4 : Int)).toNat (IntKind.u8).bits))))))] 1 (by kernel_rfl) ?_
            refine wk_id ?_
            refine cond_sx h (by kernel_rfl) (fun g249 h => ?_) (fun g249 h => ?_)
            · refine seq_np ?_
              refine reg_f ?_
              refine rs 10 [] [] (by kernel_rfl) allP_nil ?_
              refine rf [(2, .v (.int .i32 (IntKind.i32.wrap (((BitVec.ofInt (IntKind.i32).bits (IntKind.i32.wrap ((IntKind.i32.wrap (IntKind.u8.wrap (((BitVec.ofInt (IntKind.u8).bits (((s).data.getD ((0 : Int)).toNat 0).toNat : Int) &&& BitVec.ofInt (IntKind.u8).bits 31).toNat : Nat) : Int))) * 2 ^ (min ((6 : Int)).toNat (IntKind.i32).bits))) ||| BitVec.ofInt (IntKind.i32).bits (IntKind.i32.wrap (IntKind.u8.wrap (((BitVec.ofInt (IntKind.u8).bits (((s).data.getD ((1 : Int)).toNat 0).toNat : Int) &&& BitVec.ofInt (IntKind.u8).bits 63).toNat : Nat) : Int)))).toNat : Nat) : Int)))), (3, iS 2)] [(0, .row 54 (Enc.cells (ix utf8Accept (Int.fdiv (ix utf8First (((s).data.getD ((0 : Int)).toNat 0).toNat : Int)).v (2 ^ (min ((4 : Int)).toNat (IntKind.u8).bits))))))] 1 (by kernel_rfl) ?_
              refine wk_id ?_
              obtain rfl := Option.some.inj h
              refine ret_at (.tup [.v (.int .i32 (IntKind.i32.wrap (((BitVec.ofInt (IntKind.i32).bits (IntKind.i32.wrap ((IntKind.i32.wrap (IntKind.u8.wrap (((BitVec.ofInt (IntKind.u8).bits (((s).data.getD ((0 : Int)).toNat 0).toNat : Int) &&& BitVec.ofInt (IntKind.u8).bits 31).toNat : Nat) : Int))) * 2 ^ (min ((6 : Int)).toNat (IntKind.i32).bits))) ||| BitVec.ofInt (IntKind.i32).bits (IntKind.i32.wrap (IntKind.u8.wrap (((BitVec.ofInt (IntKind.u8).bits (((s).data.getD ((1 : Int)).toNat 0).toNat : Int) &&& BitVec.ofInt (IntKind.u8).bits 63).toNat : Nat) : Int)))).toNat : Nat) : Int))), iS 2]) (by kernel_rfl) ?_
              exact ret_e [] [] (by simp only [push_cast, seval]) (by simp only [push_cast, seval]) rfl rfl rfl
            · refine wk_id ?_
              refine chk_sx h (fun g230 h => ?_)
              refine seq_np ?_
              refine reg_f ?_
              have k229 : 0 ≤ (2 : Int) ∧ (2 : Int) < (((s).size : Nat) : Int) := by first | simpa only [Bool.and_eq_true, decide_eq_true_eq, bne_iff_ne, ne_eq] using g230 | (simp at g230 ⊢; omega)
              refine rs 3 [none, some ⟨.v (.int .u8 (((s).data.getD ((2 : Int)).toNat 0).toNat : Int)), [], 1, []⟩] _ (by kernel_rfl) (allP_cons (ob_p (v := .v (.int .u8 (((s).data.getD ((2 : Int)).toNat 0).toNat : Int))) (nx := 1) (r := []) k229) allP_nil) ?_
              refine rf [(0, .v (.string s)), (5, .v (.int .u8 (((s).data.getD ((0 : Int)).toNat 0).toNat : Int))), (8, iS (IntKind.i64.wrap (IntKind.u8.wrap (((BitVec.ofInt (IntKind.u8).bits (ix utf8First (((s).data.getD ((0 : Int)).toNat 0).toNat : Int)).v &&& BitVec.ofInt (IntKind.u8).bits 7).toNat : Nat) : Int)))), (10, .v (.int .u8 (((s).data.getD ((1 : Int)).toNat 0).toNat : Int))), (11, .v (.int .u8 (((s).data.getD ((2 : Int)).toNat 0).toNat : Int)))] [(0, .row 54 (Enc.cells (ix utf8Accept (Int.fdiv (ix utf8First (((s).data.getD ((0 : Int)).toNat 0).toNat : Int)).v (2 ^ (min ((4 : Int)).toNat (IntKind.u8).bits))))))] 1 (by kernel_rfl) ?_
              refine wk_id ?_
              refine seq_np ?_
              refine seq_cut (A := Unit) (fun _ => ([(0, .v (.string s)), (5, .v (.int .u8 (((s).data.getD ((0 : Int)).toNat 0).toNat : Int))), (8, iS (IntKind.i64.wrap (IntKind.u8.wrap (((BitVec.ofInt (IntKind.u8).bits (ix utf8First (((s).data.getD ((0 : Int)).toNat 0).toNat : Int)).v &&& BitVec.ofInt (IntKind.u8).bits 7).toNat : Nat) : Int)))), (10, .v (.int .u8 (((s).data.getD ((1 : Int)).toNat 0).toNat : Int))), (11, .v (.int .u8 (((s).data.getD ((2 : Int)).toNat 0).toNat : Int))), (75, bS ((decide ((((s).data.getD ((2 : Int)).toNat 0).toNat : Int) < 128)) || (decide ((191 : Int) < (((s).data.getD ((2 : Int)).toNat 0).toNat : Int)))))], [(0, .row 54 (Enc.cells (ix utf8Accept (Int.fdiv (ix utf8First (((s).data.getD ((0 : Int)).toNat 0).toNat : Int)).v (2 ^ (min ((4 : Int)).toNat (IntKind.u8).bits))))))], 1)) (fun _ => True) (fun K234 hK234 => ?_) (fun _ _ => ?_)
              · refine reg_f ?_
                refine rs 3 [] [] (by kernel_rfl) allP_nil ?_
                refine run_split 72 (decide ((((s).data.getD ((2 : Int)).toNat 0).toNat : Int) < 128)) (.inl (by kernel_rfl)) (fun g235 => ?_) (fun g235 => ?_)
                · refine rs 3 [] [] (by kernel_rfl) allP_nil ?_
                  refine rf [(0, .v (.string s)), (5, .v (.int .u8 (((s).data.getD ((0 : Int)).toNat 0).toNat : Int))), (8, iS (IntKind.i64.wrap (IntKind.u8.wrap (((BitVec.ofInt (IntKind.u8).bits (ix utf8First (((s).data.getD ((0 : Int)).toNat 0).toNat : Int)).v &&& BitVec.ofInt (IntKind.u8).bits 7).toNat : Nat) : Int)))), (10, .v (.int .u8 (((s).data.getD ((1 : Int)).toNat 0).toNat : Int))), (11, .v (.int .u8 (((s).data.getD ((2 : Int)).toNat 0).toNat : Int))), (75, bS true)] [(0, .row 54 (Enc.cells (ix utf8Accept (Int.fdiv (ix utf8First (((s).data.getD ((0 : Int)).toNat 0).toNat : Int)).v (2 ^ (min ((4 : Int)).toNat (IntKind.u8).bits))))))] 1 (by kernel_rfl) ?_
                  exact hK234 () _ _ _ trivial (leSt_m [(0, 0)] [] (by (try simp only [g235]) <;> simp only [push_cast, seval]) (by (try simp only [g235]) <;> simp only [push_cast, seval]) rfl rfl rfl)
                · refine rs 3 [] [] (by kernel_rfl) allP_nil ?_
                  refine rf [(0, .v (.string s)), (5, .v (.int .u8 (((s).data.getD ((0 : Int)).toNat 0).toNat : Int))), (8, iS (IntKind.i64.wrap (IntKind.u8.wrap (((BitVec.ofInt (IntKind.u8).bits (ix utf8First (((s).data.getD ((0 : Int)).toNat 0).toNat : Int)).v &&& BitVec.ofInt (IntKind.u8).bits 7).toNat : Nat) : Int)))), (10, .v (.int .u8 (((s).data.getD ((1 : Int)).toNat 0).toNat : Int))), (11, .v (.int .u8 (((s).data.getD ((2 : Int)).toNat 0).toNat : Int))), (75, bS (decide ((191 : Int) < (((s).data.getD ((2 : Int)).toNat 0).toNat : Int))))] [(0, .row 54 (Enc.cells (ix utf8Accept (Int.fdiv (ix utf8First (((s).data.getD ((0 : Int)).toNat 0).toNat : Int)).v (2 ^ (min ((4 : Int)).toNat (IntKind.u8).bits))))))] 1 (by kernel_rfl) ?_
                  exact hK234 () _ _ _ trivial (leSt_m [(0, 0)] [] (by (try simp only [g235]) <;> simp only [push_cast, seval]) (by (try simp only [g235]) <;> simp only [push_cast, seval]) rfl rfl rfl)
              · dsimp only
                refine cond_sx h (by kernel_rfl) (fun g248 h => ?_) (fun g248 h => ?_)
                · refine seq_np ?_
                  refine reg_f ?_
                  refine rs 2 [] [] (by kernel_rfl) allP_nil ?_
                  refine rf [(2, .v (.int .i32 65533)), (3, iS 1)] [(0, .row 54 (Enc.cells (ix utf8Accept (Int.fdiv (ix utf8First (((s).data.getD ((0 : Int)).toNat 0).toNat : Int)).v (2 ^ (min ((4 : Int)).toNat (IntKind.u8).bits))))))] 1 (by kernel_rfl) ?_
                  refine wk_id ?_
                  obtain rfl := Option.some.inj h
                  refine ret_at (.tup [.v (.int .i32 65533), iS 1]) (by kernel_rfl) ?_
                  exact ret_e [] [] (by simp only [push_cast, seval]) (by simp only [push_cast, seval]) rfl rfl rfl
                · refine wk_id ?_
                  refine seq_np ?_
                  refine seq_np ?_
                  refine reg_f ?_
                  refine rs 2 [] [] (by kernel_rfl) allP_nil ?_
                  refine rf [(0, .v (.string s)), (5, .v (.int .u8 (((s).data.getD ((0 : Int)).toNat 0).toNat : Int))), (10, .v (.int .u8 (((s).data.getD ((1 : Int)).toNat 0).toNat : Int))), (11, .v (.int .u8 (((s).data.getD ((2 : Int)).toNat 0).toNat : Int))), (77, bS (decide ((IntKind.i64.wrap (IntKind.u8.wrap (((BitVec.ofInt (IntKind.u8).bits (ix utf8First (((s).data.getD ((0 : Int)).toNat 0).toNat : Int)).v &&& BitVec.ofInt (IntKind.u8).bits 7).toNat : Nat) : Int))) ≤ 3)))] [(0, .row 54 (Enc.cells (ix utf8Accept (Int.fdiv (ix utf8First (((s).data.getD ((0 : Int)).toNat 0).toNat : Int)).v (2 ^ (min ((4 : Int)).toNat (IntKind.u8).bits))))))] 1 (by kernel_rfl) ?_
                  refine wk_id ?_
                  refine cond_sx h (by kernel_rfl) (fun g247 h => ?_) (fun g247 h => ?_)
                  · refine seq_np ?_
                    refine reg_f ?_
                    refine rs 15 [] [] (by kernel_rfl) allP_nil ?_
                    refine rf [(2, .v (.int .i32 (IntKind.i32.wrap (((BitVec.ofInt (IntKind.i32).bits (IntKind.i32.wrap (((BitVec.ofInt (IntKind.i32).bits (IntKind.i32.wrap ((IntKind.i32.wrap (IntKind.u8.wrap (((BitVec.ofInt (IntKind.u8).bits (((s).data.getD ((0 : Int)).toNat 0).toNat : Int) &&& BitVec.ofInt (IntKind.u8).bits 15).toNat : Nat) : Int))) * 2 ^ (min ((12 : Int)).toNat (IntKind.i32).bits))) ||| BitVec.ofInt (IntKind.i32).bits (IntKind.i32.wrap ((IntKind.i32.wrap (IntKind.u8.wrap (((BitVec.ofInt (IntKind.u8).bits (((s).data.getD ((1 : Int)).toNat 0).toNat : Int) &&& BitVec.ofInt (IntKind.u8).bits 63).toNat : Nat) : Int))) * 2 ^ (min ((6 : Int)).toNat (IntKind.i32).bits)))).toNat : Nat) : Int)) ||| BitVec.ofInt (IntKind.i32).bits (IntKind.i32.wrap (IntKind.u8.wrap (((BitVec.ofInt (IntKind.u8).bits (((s).data.getD ((2 : Int)).toNat 0).toNat : Int) &&& BitVec.ofInt (IntKind.u8).bits 63).toNat : Nat) : Int)))).toNat : Nat) : Int)))), (3, iS 3)] [(0, .row 54 (Enc.cells (ix utf8Accept (Int.fdiv (ix utf8First (((s).data.getD ((0 : Int)).toNat 0).toNat : Int)).v (2 ^ (min ((4 : Int)).toNat (IntKind.u8).bits))))))] 1 (by kernel_rfl) ?_
                    refine wk_id ?_
                    obtain rfl := Option.some.inj h
                    refine ret_at (.tup [.v (.int .i32 (IntKind.i32.wrap (((BitVec.ofInt (IntKind.i32).bits (IntKind.i32.wrap (((BitVec.ofInt (IntKind.i32).bits (IntKind.i32.wrap ((IntKind.i32.wrap (IntKind.u8.wrap (((BitVec.ofInt (IntKind.u8).bits (((s).data.getD ((0 : Int)).toNat 0).toNat : Int) &&& BitVec.ofInt (IntKind.u8).bits 15).toNat : Nat) : Int))) * 2 ^ (min ((12 : Int)).toNat (IntKind.i32).bits))) ||| BitVec.ofInt (IntKind.i32).bits (IntKind.i32.wrap ((IntKind.i32.wrap (IntKind.u8.wrap (((BitVec.ofInt (IntKind.u8).bits (((s).data.getD ((1 : Int)).toNat 0).toNat : Int) &&& BitVec.ofInt (IntKind.u8).bits 63).toNat : Nat) : Int))) * 2 ^ (min ((6 : Int)).toNat (IntKind.i32).bits)))).toNat : Nat) : Int)) ||| BitVec.ofInt (IntKind.i32).bits (IntKind.i32.wrap (IntKind.u8.wrap (((BitVec.ofInt (IntKind.u8).bits (((s).data.getD ((2 : Int)).toNat 0).toNat : Int) &&& BitVec.ofInt (IntKind.u8).bits 63).toNat : Nat) : Int)))).toNat : Nat) : Int))), iS 3]) (by kernel_rfl) ?_
                    exact ret_e [] [] (by simp only [push_cast, seval]) (by simp only [push_cast, seval]) rfl rfl rfl
                  · refine wk_id ?_
                    refine chk_sx h (fun g240 h => ?_)
                    refine seq_np ?_
                    refine reg_f ?_
                    have k239 : 0 ≤ (3 : Int) ∧ (3 : Int) < (((s).size : Nat) : Int) := by first | simpa only [Bool.and_eq_true, decide_eq_true_eq, bne_iff_ne, ne_eq] using g240 | (simp at g240 ⊢; omega)
                    refine rs 3 [none, some ⟨.v (.int .u8 (((s).data.getD ((3 : Int)).toNat 0).toNat : Int)), [], 1, []⟩] _ (by kernel_rfl) (allP_cons (ob_p (v := .v (.int .u8 (((s).data.getD ((3 : Int)).toNat 0).toNat : Int))) (nx := 1) (r := []) k239) allP_nil) ?_
                    refine rf [(5, .v (.int .u8 (((s).data.getD ((0 : Int)).toNat 0).toNat : Int))), (10, .v (.int .u8 (((s).data.getD ((1 : Int)).toNat 0).toNat : Int))), (11, .v (.int .u8 (((s).data.getD ((2 : Int)).toNat 0).toNat : Int))), (12, .v (.int .u8 (((s).data.getD ((3 : Int)).toNat 0).toNat : Int)))] [(0, .row 54 (Enc.cells (ix utf8Accept (Int.fdiv (ix utf8First (((s).data.getD ((0 : Int)).toNat 0).toNat : Int)).v (2 ^ (min ((4 : Int)).toNat (IntKind.u8).bits))))))] 1 (by kernel_rfl) ?_
                    refine wk_id ?_
                    refine seq_np ?_
                    refine seq_cut (A := Unit) (fun _ => ([(5, .v (.int .u8 (((s).data.getD ((0 : Int)).toNat 0).toNat : Int))), (10, .v (.int .u8 (((s).data.getD ((1 : Int)).toNat 0).toNat : Int))), (11, .v (.int .u8 (((s).data.getD ((2 : Int)).toNat 0).toNat : Int))), (12, .v (.int .u8 (((s).data.getD ((3 : Int)).toNat 0).toNat : Int))), (98, bS ((decide ((((s).data.getD ((3 : Int)).toNat 0).toNat : Int) < 128)) || (decide ((191 : Int) < (((s).data.getD ((3 : Int)).toNat 0).toNat : Int)))))], [(0, .row 54 (Enc.cells (ix utf8Accept (Int.fdiv (ix utf8First (((s).data.getD ((0 : Int)).toNat 0).toNat : Int)).v (2 ^ (min ((4 : Int)).toNat (IntKind.u8).bits))))))], 1)) (fun _ => True) (fun K244 hK244 => ?_) (fun _ _ => ?_)
                    · refine reg_f ?_
                      refine rs 3 [] [] (by kernel_rfl) allP_nil ?_
                      refine run_split 95 (decide ((((s).data.getD ((3 : Int)).toNat 0).toNat : Int) < 128)) (.inl (by kernel_rfl)) (fun g245 => ?_) (fun g245 => ?_)
                      · refine rs 3 [] [] (by kernel_rfl) allP_nil ?_
                        refine rf [(5, .v (.int .u8 (((s).data.getD ((0 : Int)).toNat 0).toNat : Int))), (10, .v (.int .u8 (((s).data.getD ((1 : Int)).toNat 0).toNat : Int))), (11, .v (.int .u8 (((s).data.getD ((2 : Int)).toNat 0).toNat : Int))), (12, .v (.int .u8 (((s).data.getD ((3 : Int)).toNat 0).toNat : Int))), (98, bS true)] [(0, .row 54 (Enc.cells (ix utf8Accept (Int.fdiv (ix utf8First (((s).data.getD ((0 : Int)).toNat 0).toNat : Int)).v (2 ^ (min ((4 : Int)).toNat (IntKind.u8).bits))))))] 1 (by kernel_rfl) ?_
                        exact hK244 () _ _ _ trivial (leSt_m [(0, 0)] [] (by (try simp only [g245]) <;> simp only [push_cast, seval]) (by (try simp only [g245]) <;> simp only [push_cast, seval]) rfl rfl rfl)
                      · refine rs 3 [] [] (by kernel_rfl) allP_nil ?_
                        refine rf [(5, .v (.int .u8 (((s).data.getD ((0 : Int)).toNat 0).toNat : Int))), (10, .v (.int .u8 (((s).data.getD ((1 : Int)).toNat 0).toNat : Int))), (11, .v (.int .u8 (((s).data.getD ((2 : Int)).toNat 0).toNat : Int))), (12, .v (.int .u8 (((s).data.getD ((3 : Int)).toNat 0).toNat : Int))), (98, bS (decide ((191 : Int) < (((s).data.getD ((3 : Int)).toNat 0).toNat : Int))))] [(0, .row 54 (Enc.cells (ix utf8Accept (Int.fdiv (ix utf8First (((s).data.getD ((0 : Int)).toNat 0).toNat : Int)).v (2 ^ (min ((4 : Int)).toNat (IntKind.u8).bits))))))] 1 (by kernel_rfl) ?_
                        exact hK244 () _ _ _ trivial (leSt_m [(0, 0)] [] (by (try simp only [g245]) <;> simp only [push_cast, seval]) (by (try simp only [g245]) <;> simp only [push_cast, seval]) rfl rfl rfl)
                    · dsimp only
                      refine cond_sx h (by kernel_rfl) (fun g246 h => ?_) (fun g246 h => ?_)
                      · refine seq_np ?_
                        refine reg_f ?_
                        refine rs 2 [] [] (by kernel_rfl) allP_nil ?_
                        refine rf [(2, .v (.int .i32 65533)), (3, iS 1)] [(0, .row 54 (Enc.cells (ix utf8Accept (Int.fdiv (ix utf8First (((s).data.getD ((0 : Int)).toNat 0).toNat : Int)).v (2 ^ (min ((4 : Int)).toNat (IntKind.u8).bits))))))] 1 (by kernel_rfl) ?_
                        refine wk_id ?_
                        obtain rfl := Option.some.inj h
                        refine ret_at (.tup [.v (.int .i32 65533), iS 1]) (by kernel_rfl) ?_
                        exact ret_e [] [] (by simp only [push_cast, seval]) (by simp only [push_cast, seval]) rfl rfl rfl
                      · refine wk_id ?_
                        refine seq_np ?_
                        refine reg_f ?_
                        refine rs 20 [] [] (by kernel_rfl) allP_nil ?_
                        refine rf [(2, .v (.int .i32 (IntKind.i32.wrap (((BitVec.ofInt (IntKind.i32).bits (IntKind.i32.wrap (((BitVec.ofInt (IntKind.i32).bits (IntKind.i32.wrap (((BitVec.ofInt (IntKind.i32).bits (IntKind.i32.wrap ((IntKind.i32.wrap (IntKind.u8.wrap (((BitVec.ofInt (IntKind.u8).bits (((s).data.getD ((0 : Int)).toNat 0).toNat : Int) &&& BitVec.ofInt (IntKind.u8).bits 7).toNat : Nat) : Int))) * 2 ^ (min ((18 : Int)).toNat (IntKind.i32).bits))) ||| BitVec.ofInt (IntKind.i32).bits (IntKind.i32.wrap ((IntKind.i32.wrap (IntKind.u8.wrap (((BitVec.ofInt (IntKind.u8).bits (((s).data.getD ((1 : Int)).toNat 0).toNat : Int) &&& BitVec.ofInt (IntKind.u8).bits 63).toNat : Nat) : Int))) * 2 ^ (min ((12 : Int)).toNat (IntKind.i32).bits)))).toNat : Nat) : Int)) ||| BitVec.ofInt (IntKind.i32).bits (IntKind.i32.wrap ((IntKind.i32.wrap (IntKind.u8.wrap (((BitVec.ofInt (IntKind.u8).bits (((s).data.getD ((2 : Int)).toNat 0).toNat : Int) &&& BitVec.ofInt (IntKind.u8).bits 63).toNat : Nat) : Int))) * 2 ^ (min ((6 : Int)).toNat (IntKind.i32).bits)))).toNat : Nat) : Int)) ||| BitVec.ofInt (IntKind.i32).bits (IntKind.i32.wrap (IntKind.u8.wrap (((BitVec.ofInt (IntKind.u8).bits (((s).data.getD ((3 : Int)).toNat 0).toNat : Int) &&& BitVec.ofInt (IntKind.u8).bits 63).toNat : Nat) : Int)))).toNat : Nat) : Int)))), (3, iS 4)] [(0, .row 54 (Enc.cells (ix utf8Accept (Int.fdiv (ix utf8First (((s).data.getD ((0 : Int)).toNat 0).toNat : Int)).v (2 ^ (min ((4 : Int)).toNat (IntKind.u8).bits))))))] 1 (by kernel_rfl) ?_
                        refine wk_id ?_
                        obtain rfl := Option.some.inj h
                        refine ret_at (.tup [.v (.int .i32 (IntKind.i32.wrap (((BitVec.ofInt (IntKind.i32).bits (IntKind.i32.wrap (((BitVec.ofInt (IntKind.i32).bits (IntKind.i32.wrap (((BitVec.ofInt (IntKind.i32).bits (IntKind.i32.wrap ((IntKind.i32.wrap (IntKind.u8.wrap (((BitVec.ofInt (IntKind.u8).bits (((s).data.getD ((0 : Int)).toNat 0).toNat : Int) &&& BitVec.ofInt (IntKind.u8).bits 7).toNat : Nat) : Int))) * 2 ^ (min ((18 : Int)).toNat (IntKind.i32).bits))) ||| BitVec.ofInt (IntKind.i32).bits (IntKind.i32.wrap ((IntKind.i32.wrap (IntKind.u8.wrap (((BitVec.ofInt (IntKind.u8).bits (((s).data.getD ((1 : Int)).toNat 0).toNat : Int) &&& BitVec.ofInt (IntKind.u8).bits 63).toNat : Nat) : Int))) * 2 ^ (min ((12 : Int)).toNat (IntKind.i32).bits)))).toNat : Nat) : Int)) ||| BitVec.ofInt (IntKind.i32).bits (IntKind.i32.wrap ((IntKind.i32.wrap (IntKind.u8.wrap (((BitVec.ofInt (IntKind.u8).bits (((s).data.getD ((2 : Int)).toNat 0).toNat : Int) &&& BitVec.ofInt (IntKind.u8).bits 63).toNat : Nat) : Int))) * 2 ^ (min ((6 : Int)).toNat (IntKind.i32).bits)))).toNat : Nat) : Int)) ||| BitVec.ofInt (IntKind.i32).bits (IntKind.i32.wrap (IntKind.u8.wrap (((BitVec.ofInt (IntKind.u8).bits (((s).data.getD ((3 : Int)).toNat 0).toNat : Int) &&& BitVec.ofInt (IntKind.u8).bits 63).toNat : Nat) : Int)))).toNat : Nat) : Int))), iS 4]) (by kernel_rfl) ?_
                        exact ret_e [] [] (by simp only [push_cast, seval]) (by simp only [push_cast, seval]) rfl rfl rfl

set_option maxRecDepth 100000 in
set_option maxHeartbeats 200000000 in
theorem utf8_DecodeRuneInString_spec (s : ByteArray) (r : Int × Int) (h : utf8_DecodeRuneInString s = some r) : SpecW Tryd.prog 16 [.v (.string s)] [] 0 (fun x h n => x = .tup [.v (.int .i32 r.1), iS r.2] ∧ h = [] ∧ n = 0) := by
  unfold utf8_DecodeRuneInString at h
  refine spec_of (draw_ok _) Tryd.func16 rfl (by decide) rfl (by kernel_rfl) ?_
  refine seq_np ?_
  refine reg_f ?_
  refine rs 2 [] [] (by kernel_rfl) allP_nil ?_
  refine rf [(0, .v (.string s))] [] 0 (by kernel_rfl) ?_
  refine wk_id ?_
  refine seq_np ?_
  refine chk_sx h (fun g269 h => ?_)
  refine seq_cut (A := Unit) (fun _ => ([(0, .v (.string s)), (10, bS ((!decide (s = ByteArray.empty)) && (decide ((((s).data.getD ((0 : Int)).toNat 0).toNat : Int) < 128))))], [], 0)) (fun _ => True) (fun K266 hK266 => ?_) (fun _ _ => ?_)
  · refine reg_f ?_
    refine rs 3 [none, some ⟨bS (!decide (s = ByteArray.empty)), [], 0, []⟩] _ (by kernel_rfl) (allP_cons (ob_p (v := bS (!decide (s = ByteArray.empty))) (nx := 0) (r := []) trivial) allP_nil) ?_
    refine run_split 6 (!decide (s = ByteArray.empty)) (.inl (by kernel_rfl)) (fun g267 => ?_) (fun g267 => ?_)
    · have k268 : 0 ≤ (0 : Int) ∧ (0 : Int) < (((s).size : Nat) : Int) := by have e := or_use g269 (by first | ((try simp only [g267]) <;> rfl) | ((try simp only [g267]); rfl) | (exfalso; clear h; simp_all; done)); first | simpa only [Bool.and_eq_true, decide_eq_true_eq, bne_iff_ne, ne_eq] using e | (simp at e ⊢; omega)
      refine rs 4 [none, some ⟨.v (.int .u8 (((s).data.getD ((0 : Int)).toNat 0).toNat : Int)), [], 0, []⟩] _ (by kernel_rfl) (allP_cons (ob_p (v := .v (.int .u8 (((s).data.getD ((0 : Int)).toNat 0).toNat : Int))) (nx := 0) (r := []) k268) allP_nil) ?_
      refine rf [(0, .v (.string s)), (10, bS (decide ((((s).data.getD ((0 : Int)).toNat 0).toNat : Int) < 128)))] [] 0 (by kernel_rfl) ?_
      exact hK266 () _ _ _ trivial (leSt_m [] [] (by (try simp only [g267]) <;> simp only [push_cast, seval]) (by (try simp only [g267]) <;> simp only [push_cast, seval]) rfl rfl rfl)
    · refine rs 4 [] [] (by kernel_rfl) allP_nil ?_
      refine rf [(0, .v (.string s)), (10, bS false)] [] 0 (by kernel_rfl) ?_
      exact hK266 () _ _ _ trivial (leSt_m [] [] (by (try simp only [g267]) <;> simp only [push_cast, seval]) (by (try simp only [g267]) <;> simp only [push_cast, seval]) rfl rfl rfl)
  · dsimp only
    refine cond_sx h (by kernel_rfl) (fun g276 h => ?_) (fun g276 h => ?_)
    · refine chk_sx h (fun g273 h => ?_)
      refine seq_np ?_
      refine reg_f ?_
      have k272 : 0 ≤ (0 : Int) ∧ (0 : Int) < (((s).size : Nat) : Int) := by first | simpa only [Bool.and_eq_true, decide_eq_true_eq, bne_iff_ne, ne_eq] using g273 | (simp at g273 ⊢; omega)
      refine rs 5 [none, some ⟨.v (.int .u8 (((s).data.getD ((0 : Int)).toNat 0).toNat : Int)), [], 0, []⟩] _ (by kernel_rfl) (allP_cons (ob_p (v := .v (.int .u8 (((s).data.getD ((0 : Int)).toNat 0).toNat : Int))) (nx := 0) (r := []) k272) allP_nil) ?_
      refine rf [(2, .v (.int .i32 (IntKind.i32.wrap (((s).data.getD ((0 : Int)).toNat 0).toNat : Int)))), (3, iS 1)] [] 0 (by kernel_rfl) ?_
      refine wk_id ?_
      obtain rfl := Option.some.inj h
      refine ret_at (.tup [.v (.int .i32 (IntKind.i32.wrap (((s).data.getD ((0 : Int)).toNat 0).toNat : Int))), iS 1]) (by kernel_rfl) ?_
      exact ret_e [] [] (by simp only [push_cast, seval]) (by simp only [push_cast, seval]) rfl rfl rfl
    · refine reg_f ?_
      refine rs 1 [] [] (by kernel_rfl) allP_nil ?_
      obtain ⟨r275, hr275, h⟩ := bind_sx h
      refine run_call 19 [.v (.string s)] (some 16) (by kernel_rfl) ?_
      refine call_0 (utf8_decodeRuneInStringSlow_spec s r275 hr275) (by simp only [push_cast, seval]) (by simp only [push_cast, seval]) ?_
      refine back_f ?_
      refine rs 5 [] [] (by kernel_rfl) allP_nil ?_
      refine rf [(2, .v (.int .i32 r275.1)), (3, iS r275.2)] [] 0 (by kernel_rfl) ?_
      refine wk_id ?_
      obtain rfl := Option.some.inj h
      refine ret_at (.tup [.v (.int .i32 r275.1), iS r275.2]) (by kernel_rfl) ?_
      exact ret_e [] [] (by simp only [push_cast, seval]) (by simp only [push_cast, seval]) rfl rfl rfl

set_option maxRecDepth 100000 in
set_option maxHeartbeats 200000000 in
theorem utf_Valid_spec (text : ByteArray) (r : Bool × Int × Fault) (h : utf_Valid text = some r) : SpecW Tryd.prog 8 [.v (.string text)] [] 0 (fun x h n => x = .tup [bS r.1, iS r.2.1, .agg (Enc.cells r.2.2)] ∧ h = [] ∧ n = 0) := by
  unfold utf_Valid at h
  refine spec_of (draw_ok _) Tryd.func8 rfl (by decide) rfl (by kernel_rfl) ?_
  refine seq_np ?_
  refine reg_f ?_
  refine rs 3 [] [] (by kernel_rfl) allP_nil ?_
  refine rf [(0, .v (.string text)), (4, .ptr 0 0)] [(0, .row 25 [iS 0, iS 0])] 1 (by kernel_rfl) ?_
  refine wk_id ?_
  refine seq_np ?_
  refine seq_np ?_
  refine reg_f ?_
  refine rs 3 [] [] (by kernel_rfl) allP_nil ?_
  refine rf [(0, .v (.string text)), (4, .ptr 0 0), (10, bS (decide ((20000 : Int) < (((text).size : Nat) : Int))))] [(0, .row 25 [iS 0, iS 0])] 1 (by kernel_rfl) ?_
  refine wk_id ?_
  refine cond_sx h (by kernel_rfl) (fun g362 h => ?_) (fun g362 h => ?_)
  · refine seq_np ?_
    refine reg_f ?_
    obtain ⟨r296, hr296, h⟩ := bind_sx h
    refine run_call 15 [iS 2, iS 0] (some 11) (by kernel_rfl) ?_
    refine call_0 (utf_fault_spec 2 0 r296 hr296) (by simp only [push_cast, seval]) (by simp only [push_cast, seval]) ?_
    refine back_f ?_
    refine rs 3 [] [] (by kernel_rfl) allP_nil ?_
    refine rf [(2, bS false), (3, iS 0), (4, .ptr 0 0)] [(0, .row 25 (Enc.cells r296))] 1 (by kernel_rfl) ?_
    refine wk_id ?_
    obtain rfl := Option.some.inj h
    refine ret_at (.tup [bS false, iS 0, .agg (Enc.cells r296)]) (by kernel_rfl) ?_
    exact ret_e [] [] (by simp only [push_cast, seval]) (by simp only [push_cast, seval]) rfl rfl rfl
  · refine wk_id ?_
    refine seq_np ?_
    refine seq_np ?_
    refine reg_f ?_
    refine rs 1 [] [] (by kernel_rfl) allP_nil ?_
    refine rf [(0, .v (.string text)), (4, .ptr 0 0), (5, iS 0)] [(0, .row 25 [iS 0, iS 0])] 1 (by kernel_rfl) ?_
    refine wk_id ?_
    refine block_np ?_
    refine loop_sx (S := Int) (fun a => ([(0, .v (.string text)), (4, .ptr 0 0), (5, iS a)], [(0, .row 25 [iS 0, iS 0])], 1)) h (leSt_m [(0, 0)] [] (by simp only [push_cast, seval]) (by simp only [push_cast, seval]) rfl rfl rfl) ?_
    rintro i7 o2 R2 h hr2 hn2 hx2 ht2
    try dsimp only at h hn2 ⊢
    unfold utf_Valid_l1 at h
    try dsimp only at h
    refine seq_np ?_
    refine seq_np ?_
    refine reg_f ?_
    refine rs 4 [] [] (by kernel_rfl) allP_nil ?_
    refine rf [(0, .v (.string text)), (4, .ptr 0 0), (5, iS i7), (15, bS (decide (i7 < (((text).size : Nat) : Int))))] [(0, .row 25 [iS 0, iS 0])] 1 (by kernel_rfl) ?_
    refine wk_id ?_
    refine cond_sx h (by kernel_rfl) (fun g361 h => ?_) (fun g361 h => ?_)
    · refine wk_id ?_
      refine block_np ?_
      refine chk_sx h (fun g353 h => ?_)
      refine seq_np ?_
      refine reg_f ?_
      have k352 : 0 ≤ i7 ∧ i7 ≤ (((text).size : Nat) : Int) ∧ (((text).size : Nat) : Int) ≤ (((text).size : Nat) : Int) := by first | simpa only [Bool.and_eq_true, decide_eq_true_eq, bne_iff_ne, ne_eq] using g353 | (simp at g353 ⊢; omega)
      refine rs 3 [none, none, some ⟨.v (.string ((text).extract (i7).toNat ((((text).size : Nat) : Int)).toNat)), [], 1, []⟩] _ (by kernel_rfl) (allP_cons (ob_p (v := .v (.string ((text).extract (i7).toNat ((((text).size : Nat) : Int)).toNat))) (nx := 1) (r := []) k352) allP_nil) ?_
      obtain ⟨r354, hr354, h⟩ := bind_sx h
      refine run_call 16 [.v (.string ((text).extract (i7).toNat ((((text).size : Nat) : Int)).toNat))] (some 20) (by kernel_rfl) ?_
      refine call_0 (utf8_DecodeRuneInString_spec ((text).extract (i7).toNat ((((text).size : Nat) : Int)).toNat) r354 hr354) (by simp only [push_cast, seval]) (by simp only [push_cast, seval]) ?_
      refine back_f ?_
      refine rs 5 [] [] (by kernel_rfl) allP_nil ?_
      refine rf [(0, .v (.string text)), (4, .ptr 0 0), (5, iS i7), (6, .v (.int .i32 r354.1)), (7, iS r354.2)] [(0, .row 25 [iS 0, iS 0])] 1 (by kernel_rfl) ?_
      refine wk_id ?_
      refine seq_np ?_
      refine seq_cut (A := Unit) (fun _ => ([(0, .v (.string text)), (4, .ptr 0 0), (5, iS i7), (7, iS r354.2), (28, bS ((r354.1 == 65533) && (r354.2 == 1)))], [(0, .row 25 [iS 0, iS 0])], 1)) (fun _ => True) (fun K358 hK358 => ?_) (fun _ _ => ?_)
      · refine reg_f ?_
        refine rs 3 [] [] (by kernel_rfl) allP_nil ?_
        refine run_split 25 (r354.1 == 65533) (.inl (by kernel_rfl)) (fun g359 => ?_) (fun g359 => ?_)
        · refine rs 3 [] [] (by kernel_rfl) allP_nil ?_
          refine rf [(0, .v (.string text)), (4, .ptr 0 0), (5, iS i7), (7, iS r354.2), (28, bS (r354.2 == 1))] [(0, .row 25 [iS 0, iS 0])] 1 (by kernel_rfl) ?_
          exact hK358 () _ _ _ trivial (leSt_m [(0, 0)] [] (by (try simp only [g359]) <;> simp only [push_cast, seval]) (by (try simp only [g359]) <;> simp only [push_cast, seval]) rfl rfl rfl)
        · refine rs 3 [] [] (by kernel_rfl) allP_nil ?_
          refine rf [(0, .v (.string text)), (4, .ptr 0 0), (5, iS i7), (7, iS r354.2), (28, bS false)] [(0, .row 25 [iS 0, iS 0])] 1 (by kernel_rfl) ?_
          exact hK358 () _ _ _ trivial (leSt_m [(0, 0)] [] (by (try simp only [g359]) <;> simp only [push_cast, seval]) (by (try simp only [g359]) <;> simp only [push_cast, seval]) rfl rfl rfl)
      · dsimp only
        refine cond_sx h (by kernel_rfl) (fun g360 h => ?_) (fun g360 h => ?_)
        · refine seq_np ?_
          refine reg_f ?_
          refine rs 5 [] [] (by kernel_rfl) allP_nil ?_
          refine rf [(2, bS false), (3, iS i7), (4, .ptr 0 0)] [(0, .row 25 [iS 0, iS 0])] 1 (by kernel_rfl) ?_
          refine wk_id ?_
          refine rt_cast ht2 ?_
          obtain ⟨r0, h, e0⟩ := map_sx h
          have e1 := hr2 r0 e0.symm
          subst r0
          obtain rfl := Option.some.inj h
          refine ret_at (.tup [bS false, iS i7, .agg [iS 0, iS 0]]) (by kernel_rfl) ?_
          exact ret_e [] [] (by simp only [push_cast, seval]) (by simp only [push_cast, seval]) rfl rfl rfl
        · refine wk_id ?_
          refine reg_f ?_
          refine rs 4 [] [] (by kernel_rfl) allP_nil ?_
          refine rf [(0, .v (.string text)), (4, .ptr 0 0), (5, iS (IntKind.i64.wrap (i7 + r354.2)))] [(0, .row 25 [iS 0, iS 0])] 1 (by kernel_rfl) ?_
          refine wk_id ?_
          exact hn2 ((IntKind.i64.wrap (i7 + r354.2))) _ _ _ (Option.some.inj h).symm (leSt_m [(0, 0)] [] (by simp only [push_cast, seval]) (by simp only [push_cast, seval]) rfl rfl rfl)
    · change R2 (.exit 0) _ _ _
      refine ex_cast hx2 (id := 0) ?_
      obtain ⟨r0, h, e0⟩ := map_sx h
      have e1 := hr2 r0 e0.symm
      subst r0
      refine wk_id ?_
      refine wk_id ?_
      refine seq_np ?_
      refine reg_f ?_
      refine rs 4 [] [] (by kernel_rfl) allP_nil ?_
      refine rf [(2, bS true), (3, iS 0), (4, .ptr 0 0)] [(0, .row 25 [iS 0, iS 0])] 1 (by kernel_rfl) ?_
      refine wk_id ?_
      obtain rfl := Option.some.inj h
      refine ret_at (.tup [bS true, iS 0, .agg [iS 0, iS 0]]) (by kernel_rfl) ?_
      exact ret_e [] [] (by simp only [push_cast, seval]) (by simp only [push_cast, seval]) rfl rfl rfl

set_option maxRecDepth 100000 in
set_option maxHeartbeats 200000000 in
theorem taskmillref_F_spec (code : Int) (xat : Int) (r : Fault) (h : taskmillref_F code xat = some r) : SpecW Tryd.prog 9 [iS code, iS xat] [] 0 (fun x h n => x = .agg (Enc.cells r) ∧ h = [] ∧ n = 0) := by
  unfold taskmillref_F at h
  refine spec_of (draw_ok _) Tryd.func9 rfl (by decide) rfl (by kernel_rfl) ?_
  refine seq_np ?_
  refine reg_f ?_
  refine rs 1 [] [] (by kernel_rfl) allP_nil ?_
  refine rf [(0, iS code), (1, iS xat), (4, .ptr 0 0)] [(0, .row 25 [iS 0, iS 0])] 1 (by kernel_rfl) ?_
  refine wk_id ?_
  refine seq_np ?_
  refine reg_f ?_
  refine rs 4 [] [] (by kernel_rfl) allP_nil ?_
  refine rf [(4, .ptr 0 0)] [(0, .row 25 [iS code, iS xat])] 1 (by kernel_rfl) ?_
  refine wk_id ?_
  obtain rfl := Option.some.inj h
  refine ret_at (.agg [iS code, iS xat]) (by kernel_rfl) ?_
  exact ret_e [] [] (by simp only [push_cast, seval]) (by simp only [push_cast, seval]) rfl rfl rfl

set_option maxRecDepth 100000 in
set_option maxHeartbeats 200000000 in
theorem taskmillref_IsLetter_spec (n : Int) (r : Bool) (h : taskmillref_IsLetter n = some r) : SpecW Tryd.prog 12 [iS n] [] 0 (fun x h n => x = bS r ∧ h = [] ∧ n = 0) := by
  unfold taskmillref_IsLetter at h
  refine spec_of (draw_ok _) Tryd.func12 rfl (by decide) rfl (by kernel_rfl) ?_
  refine seq_np ?_
  refine reg_f ?_
  refine rs 1 [] [] (by kernel_rfl) allP_nil ?_
  refine rf [(0, iS n)] [] 0 (by kernel_rfl) ?_
  refine wk_id ?_
  refine seq_cut (A := Unit) (fun _ => ([(2, bS ((decide ((0 : Int) ≤ n)) && ((decide (n ≤ 1114111)) && ((!(decide ((55296 : Int) ≤ n))) || (!(decide (n ≤ 57343)))))))], [], 0)) (fun _ => True) (fun K384 hK384 => ?_) (fun _ _ => ?_)
  · refine reg_f ?_
    refine rs 3 [] [] (by kernel_rfl) allP_nil ?_
    refine run_split 5 (decide ((0 : Int) ≤ n)) (.inl (by kernel_rfl)) (fun g385 => ?_) (fun g385 => ?_)
    · refine rs 4 [] [] (by kernel_rfl) allP_nil ?_
      refine run_split 9 (decide (n ≤ 1114111)) (.inl (by kernel_rfl)) (fun g386 => ?_) (fun g386 => ?_)
      · refine rs 3 [] [] (by kernel_rfl) allP_nil ?_
        refine run_split 12 (decide ((55296 : Int) ≤ n)) (.inr (by kernel_rfl)) (fun g387 => ?_) (fun g387 => ?_)
        · refine rn 10 [(0, iS n), (9, bS true), (12, .gd true (bS true))] [] 0 (by kernel_rfl) ?_
          refine rs 6 [] [] (by kernel_rfl) allP_nil ?_
          refine rf [(2, bS (!(decide (n ≤ 57343))))] [] 0 (by kernel_rfl) ?_
          exact hK384 () _ _ _ trivial (leSt_m [] [] (by first | ((try simp only [g385, g386, g387]) <;> simp only [push_cast, seval]; done) | ((try simp only [g385]); (try simp only [g386]); (try simp only [g387]); simp only [push_cast, seval]; done) | (exfalso; clear h; simp_all; done)) (by first | ((try simp only [g385, g386, g387]) <;> simp only [push_cast, seval]; done) | ((try simp only [g385]); (try simp only [g386]); (try simp only [g387]); simp only [push_cast, seval]; done) | (exfalso; clear h; simp_all; done)) rfl rfl rfl)
        · refine rn 10 [(0, iS n), (9, bS true), (12, .gd true (bS false))] [] 0 (by kernel_rfl) ?_
          refine rs 6 [] [] (by kernel_rfl) allP_nil ?_
          refine rf [(2, bS true)] [] 0 (by kernel_rfl) ?_
          exact hK384 () _ _ _ trivial (leSt_m [] [] (by first | ((try simp only [g385, g386, g387]) <;> simp only [push_cast, seval]; done) | ((try simp only [g385]); (try simp only [g386]); (try simp only [g387]); simp only [push_cast, seval]; done) | (exfalso; clear h; simp_all; done)) (by first | ((try simp only [g385, g386, g387]) <;> simp only [push_cast, seval]; done) | ((try simp only [g385]); (try simp only [g386]); (try simp only [g387]); simp only [push_cast, seval]; done) | (exfalso; clear h; simp_all; done)) rfl rfl rfl)
      · refine rs 9 [] [] (by kernel_rfl) allP_nil ?_
        refine rf [(2, bS false)] [] 0 (by kernel_rfl) ?_
        exact hK384 () _ _ _ trivial (leSt_m [] [] (by first | ((try simp only [g385, g386]) <;> simp only [push_cast, seval]; done) | ((try simp only [g385]); (try simp only [g386]); simp only [push_cast, seval]; done) | (exfalso; clear h; simp_all; done)) (by first | ((try simp only [g385, g386]) <;> simp only [push_cast, seval]; done) | ((try simp only [g385]); (try simp only [g386]); simp only [push_cast, seval]; done) | (exfalso; clear h; simp_all; done)) rfl rfl rfl)
    · refine rs 13 [] [] (by kernel_rfl) allP_nil ?_
      refine rf [(2, bS false)] [] 0 (by kernel_rfl) ?_
      exact hK384 () _ _ _ trivial (leSt_m [] [] (by (try simp only [g385]) <;> simp only [push_cast, seval]) (by (try simp only [g385]) <;> simp only [push_cast, seval]) rfl rfl rfl)
  · dsimp only
    obtain rfl := Option.some.inj h
    refine ret_at (bS ((decide ((0 : Int) ≤ n)) && ((decide (n ≤ 1114111)) && ((!(decide ((55296 : Int) ≤ n))) || (!(decide (n ≤ 57343))))))) (by kernel_rfl) ?_
    exact ret_e [] [] (by simp only [push_cast, seval]) (by simp only [push_cast, seval]) rfl rfl rfl

set_option maxRecDepth 100000 in
set_option maxHeartbeats 200000000 in
theorem taskmillref_BytesOf_spec (n : Int) (r : (List Ku8)) (h : taskmillref_BytesOf n = some r) : SpecW Tryd.prog 20 [iS n] [] 0 (fun x h n => x = .own 0 0 r.length ∧ h = [(0, .row 5 (fl r))] ∧ n = 1) := by
  unfold taskmillref_BytesOf at h
  refine spec_of (draw_ok _) Tryd.func20 rfl (by decide) rfl (by kernel_rfl) ?_
  refine seq_np ?_
  refine reg_f ?_
  refine rs 1 [] [] (by kernel_rfl) allP_nil ?_
  refine rf [(0, iS n)] [] 0 (by kernel_rfl) ?_
  refine wk_id ?_
  refine seq_cut (A := Int) (fun a => ([(0, iS a)], [], 0)) (fun a => (taskmillref_BytesOf_j1 a) = some r) (fun K400 hK400 => ?_) ?_
  · refine seq_np ?_
    refine reg_f ?_
    refine rs 1 [] [] (by kernel_rfl) allP_nil ?_
    obtain ⟨r402, hr402, h⟩ := bind_sx h
    refine run_call 12 [iS n] (some 4) (by kernel_rfl) ?_
    refine call_0 (taskmillref_IsLetter_spec n r402 hr402) (by simp only [push_cast, seval]) (by simp only [push_cast, seval]) ?_
    refine back_f ?_
    refine rs 1 [] [] (by kernel_rfl) allP_nil ?_
    refine rf [(0, iS n), (5, bS (!r402))] [] 0 (by kernel_rfl) ?_
    refine wk_id ?_
    refine cond_sx h (by kernel_rfl) (fun g403 h => ?_) (fun g403 h => ?_)
    · refine reg_f ?_
      refine rs 1 [] [] (by kernel_rfl) allP_nil ?_
      refine rf [(0, iS 65533)] [] 0 (by kernel_rfl) ?_
      exact hK400 (65533) _ _ _ h (leSt_m [] [] (by simp only [push_cast, seval]) (by simp only [push_cast, seval]) rfl rfl rfl)
    · exact hK400 (n) _ _ _ h (leSt_m [] [] (by simp only [push_cast, seval]) (by simp only [push_cast, seval]) rfl rfl rfl)
  · rintro n2 h
    try dsimp only at h ⊢
    unfold taskmillref_BytesOf_j1 at h
    refine seq_np ?_
    refine seq_np ?_
    refine reg_f ?_
    refine rs 2 [] [] (by kernel_rfl) allP_nil ?_
    refine rf [(0, iS n2), (7, bS (decide (n2 < 128)))] [] 0 (by kernel_rfl) ?_
    refine wk_id ?_
    refine cond_sx h (by kernel_rfl) (fun g409 h => ?_) (fun g409 h => ?_)
    · refine seq_np ?_
      refine reg_f ?_
      refine rs 4 [] [] (by kernel_rfl) allP_nil ?_
      refine rf [(2, .own 0 0 ([(Ku8.mk (IntKind.u8.wrap n2))] : List Ku8).length)] [(0, .row 5 (fl ([(Ku8.mk (IntKind.u8.wrap n2))] : List Ku8)))] 1 (by kernel_rfl) ?_
      refine wk_id ?_
      obtain rfl := Option.some.inj h
      refine ret_at (.own 0 0 ([(Ku8.mk (IntKind.u8.wrap n2))] : List Ku8).length) (by kernel_rfl) ?_
      exact ret_e [(0, 0)] [] (by simp only [push_cast, seval]) (by simp only [push_cast, seval]) rfl rfl rfl
    · refine wk_id ?_
      refine seq_np ?_
      refine seq_np ?_
      refine reg_f ?_
      refine rs 2 [] [] (by kernel_rfl) allP_nil ?_
      refine rf [(0, iS n2), (12, bS (decide (n2 < 2048)))] [] 0 (by kernel_rfl) ?_
      refine wk_id ?_
      refine cond_sx h (by kernel_rfl) (fun g408 h => ?_) (fun g408 h => ?_)
      · refine seq_np ?_
        refine reg_f ?_
        refine rs 10 [] [] (by kernel_rfl) allP_nil ?_
        refine rf [(2, .own 0 0 ([(Ku8.mk (IntKind.u8.wrap (IntKind.i64.wrap ((192 : Int) + (IntKind.i64.wrap (Int.tdiv n2 64)))))), (Ku8.mk (IntKind.u8.wrap (IntKind.i64.wrap ((128 : Int) + (Int.tmod n2 64)))))] : List Ku8).length)] [(0, .row 5 (fl ([(Ku8.mk (IntKind.u8.wrap (IntKind.i64.wrap ((192 : Int) + (IntKind.i64.wrap (Int.tdiv n2 64)))))), (Ku8.mk (IntKind.u8.wrap (IntKind.i64.wrap ((128 : Int) + (Int.tmod n2 64)))))] : List Ku8)))] 1 (by kernel_rfl) ?_
        refine wk_id ?_
        obtain rfl := Option.some.inj h
        refine ret_at (.own 0 0 ([(Ku8.mk (IntKind.u8.wrap (IntKind.i64.wrap ((192 : Int) + (IntKind.i64.wrap (Int.tdiv n2 64)))))), (Ku8.mk (IntKind.u8.wrap (IntKind.i64.wrap ((128 : Int) + (Int.tmod n2 64)))))] : List Ku8).length) (by kernel_rfl) ?_
        exact ret_e [(0, 0)] [] (by simp only [push_cast, seval]) (by simp only [push_cast, seval]) rfl rfl rfl
      · refine wk_id ?_
        refine seq_np ?_
        refine seq_np ?_
        refine reg_f ?_
        refine rs 2 [] [] (by kernel_rfl) allP_nil ?_
        refine rf [(0, iS n2), (23, bS (decide (n2 < 65536)))] [] 0 (by kernel_rfl) ?_
        refine wk_id ?_
        refine cond_sx h (by kernel_rfl) (fun g407 h => ?_) (fun g407 h => ?_)
        · refine seq_np ?_
          refine reg_f ?_
          refine rs 15 [] [] (by kernel_rfl) allP_nil ?_
          refine rf [(2, .own 0 0 ([(Ku8.mk (IntKind.u8.wrap (IntKind.i64.wrap ((224 : Int) + (IntKind.i64.wrap (Int.tdiv n2 4096)))))), (Ku8.mk (IntKind.u8.wrap (IntKind.i64.wrap ((128 : Int) + (Int.tmod (IntKind.i64.wrap (Int.tdiv n2 64)) 64))))), (Ku8.mk (IntKind.u8.wrap (IntKind.i64.wrap ((128 : Int) + (Int.tmod n2 64)))))] : List Ku8).length)] [(0, .row 5 (fl ([(Ku8.mk (IntKind.u8.wrap (IntKind.i64.wrap ((224 : Int) + (IntKind.i64.wrap (Int.tdiv n2 4096)))))), (Ku8.mk (IntKind.u8.wrap (IntKind.i64.wrap ((128 : Int) + (Int.tmod (IntKind.i64.wrap (Int.tdiv n2 64)) 64))))), (Ku8.mk (IntKind.u8.wrap (IntKind.i64.wrap ((128 : Int) + (Int.tmod n2 64)))))] : List Ku8)))] 1 (by kernel_rfl) ?_
          refine wk_id ?_
          obtain rfl := Option.some.inj h
          refine ret_at (.own 0 0 ([(Ku8.mk (IntKind.u8.wrap (IntKind.i64.wrap ((224 : Int) + (IntKind.i64.wrap (Int.tdiv n2 4096)))))), (Ku8.mk (IntKind.u8.wrap (IntKind.i64.wrap ((128 : Int) + (Int.tmod (IntKind.i64.wrap (Int.tdiv n2 64)) 64))))), (Ku8.mk (IntKind.u8.wrap (IntKind.i64.wrap ((128 : Int) + (Int.tmod n2 64)))))] : List Ku8).length) (by kernel_rfl) ?_
          exact ret_e [(0, 0)] [] (by simp only [push_cast, seval]) (by simp only [push_cast, seval]) rfl rfl rfl
        · refine wk_id ?_
          refine seq_np ?_
          refine reg_f ?_
          refine rs 20 [] [] (by kernel_rfl) allP_nil ?_
          refine rf [(2, .own 0 0 ([(Ku8.mk (IntKind.u8.wrap (IntKind.i64.wrap ((240 : Int) + (IntKind.i64.wrap (Int.tdiv n2 262144)))))), (Ku8.mk (IntKind.u8.wrap (IntKind.i64.wrap ((128 : Int) + (Int.tmod (IntKind.i64.wrap (Int.tdiv n2 4096)) 64))))), (Ku8.mk (IntKind.u8.wrap (IntKind.i64.wrap ((128 : Int) + (Int.tmod (IntKind.i64.wrap (Int.tdiv n2 64)) 64))))), (Ku8.mk (IntKind.u8.wrap (IntKind.i64.wrap ((128 : Int) + (Int.tmod n2 64)))))] : List Ku8).length)] [(0, .row 5 (fl ([(Ku8.mk (IntKind.u8.wrap (IntKind.i64.wrap ((240 : Int) + (IntKind.i64.wrap (Int.tdiv n2 262144)))))), (Ku8.mk (IntKind.u8.wrap (IntKind.i64.wrap ((128 : Int) + (Int.tmod (IntKind.i64.wrap (Int.tdiv n2 4096)) 64))))), (Ku8.mk (IntKind.u8.wrap (IntKind.i64.wrap ((128 : Int) + (Int.tmod (IntKind.i64.wrap (Int.tdiv n2 64)) 64))))), (Ku8.mk (IntKind.u8.wrap (IntKind.i64.wrap ((128 : Int) + (Int.tmod n2 64)))))] : List Ku8)))] 1 (by kernel_rfl) ?_
          refine wk_id ?_
          obtain rfl := Option.some.inj h
          refine ret_at (.own 0 0 ([(Ku8.mk (IntKind.u8.wrap (IntKind.i64.wrap ((240 : Int) + (IntKind.i64.wrap (Int.tdiv n2 262144)))))), (Ku8.mk (IntKind.u8.wrap (IntKind.i64.wrap ((128 : Int) + (Int.tmod (IntKind.i64.wrap (Int.tdiv n2 4096)) 64))))), (Ku8.mk (IntKind.u8.wrap (IntKind.i64.wrap ((128 : Int) + (Int.tmod (IntKind.i64.wrap (Int.tdiv n2 64)) 64))))), (Ku8.mk (IntKind.u8.wrap (IntKind.i64.wrap ((128 : Int) + (Int.tmod n2 64)))))] : List Ku8).length) (by kernel_rfl) ?_
          exact ret_e [(0, 0)] [] (by simp only [push_cast, seval]) (by simp only [push_cast, seval]) rfl rfl rfl

set_option maxRecDepth 100000 in
set_option maxHeartbeats 200000000 in
theorem taskmillref_LetterAt_spec (s : ByteArray) (i : Int) (r : Int × Int) (h : taskmillref_LetterAt s i = some r) : SpecW Tryd.prog 17 [.v (.string s), iS i] [] 0 (fun x h n => x = .tup [iS r.1, iS r.2] ∧ h = [] ∧ n = 0) := by
  unfold taskmillref_LetterAt at h
  refine spec_of (draw_ok _) Tryd.func17 rfl (by decide) rfl (by kernel_rfl) ?_
  refine seq_np ?_
  refine reg_f ?_
  refine rs 2 [] [] (by kernel_rfl) allP_nil ?_
  refine rf [(0, .v (.string s)), (1, iS i)] [] 0 (by kernel_rfl) ?_
  refine wk_id ?_
  refine seq_np ?_
  refine seq_np ?_
  refine reg_f ?_
  refine rs 1 [] [] (by kernel_rfl) allP_nil ?_
  refine rf [(0, .v (.string s)), (1, iS i), (6, iS 1)] [] 0 (by kernel_rfl) ?_
  refine wk_id ?_
  refine block_np ?_
  refine loop_sx (S := Int) (fun a => ([(0, .v (.string s)), (1, iS i), (6, iS a)], [], 0)) h (leSt_m [] [] (by simp only [push_cast, seval]) (by simp only [push_cast, seval]) rfl rfl rfl) ?_
  rintro many7 o3 R3 h hr3 hn3 hx3 ht3
  try dsimp only at h hn3 ⊢
  unfold taskmillref_LetterAt_l2 at h
  try dsimp only at h
  refine seq_np ?_
  refine seq_cut (A := Unit) (fun _ => ([(0, .v (.string s)), (1, iS i), (6, iS many7), (18, bS ((decide (many7 ≤ 4)) && (decide ((IntKind.i64.wrap (i + many7)) ≤ (((s).size : Nat) : Int)))))], [], 0)) (fun _ => True) (fun K697 hK697 => ?_) (fun _ _ => ?_)
  · refine reg_f ?_
    refine rs 3 [] [] (by kernel_rfl) allP_nil ?_
    refine run_split 11 (decide (many7 ≤ 4)) (.inl (by kernel_rfl)) (fun g698 => ?_) (fun g698 => ?_)
    · refine rs 7 [] [] (by kernel_rfl) allP_nil ?_
      refine rf [(0, .v (.string s)), (1, iS i), (6, iS many7), (18, bS (decide ((IntKind.i64.wrap (i + many7)) ≤ (((s).size : Nat) : Int))))] [] 0 (by kernel_rfl) ?_
      exact hK697 () _ _ _ trivial (leSt_m [] [] (by (try simp only [g698]) <;> simp only [push_cast, seval]) (by (try simp only [g698]) <;> simp only [push_cast, seval]) rfl rfl rfl)
    · refine rs 7 [] [] (by kernel_rfl) allP_nil ?_
      refine rf [(0, .v (.string s)), (1, iS i), (6, iS many7), (18, bS false)] [] 0 (by kernel_rfl) ?_
      exact hK697 () _ _ _ trivial (leSt_m [] [] (by (try simp only [g698]) <;> simp only [push_cast, seval]) (by (try simp only [g698]) <;> simp only [push_cast, seval]) rfl rfl rfl)
  · dsimp only
    refine cond_sx h (by kernel_rfl) (fun g861 h => ?_) (fun g861 h => ?_)
    · refine wk_id ?_
      refine seq_np ?_
      refine block_np ?_
      refine seq_np ?_
      refine reg_f ?_
      refine rs 1 [] [] (by kernel_rfl) allP_nil ?_
      refine rf [(0, .v (.string s)), (1, iS i), (6, iS many7), (7, iS 0)] [] 0 (by kernel_rfl) ?_
      refine wk_id ?_
      refine seq_np ?_
      refine seq_np ?_
      refine reg_f ?_
      refine rs 1 [] [] (by kernel_rfl) allP_nil ?_
      refine rf [(0, .v (.string s)), (1, iS i), (6, iS many7), (7, iS 0), (21, iS many7)] [] 0 (by kernel_rfl) ?_
      refine wk_id ?_
      refine block_cut (A := Int) (fun a => ([(0, .v (.string s)), (1, iS i), (6, iS many7), (7, iS a)], [], 0)) (fun a => (taskmillref_LetterAt_j2 s i many7 a) = some o3) (fun K790 hK790 => ?_) ?_
      · refine seq_np ?_
        refine reg_f ?_
        refine rs 2 [] [] (by kernel_rfl) allP_nil ?_
        refine rf [(0, .v (.string s)), (1, iS i), (6, iS many7), (7, iS 0), (21, iS many7), (22, bS (many7 == 1))] [] 0 (by kernel_rfl) ?_
        refine wk_id ?_
        refine cond_sx h (by kernel_rfl) (fun g810 h => ?_) (fun g810 h => ?_)
        · refine chk_sx h (fun g794 h => ?_)
          refine reg_f ?_
          have k793 : 0 ≤ i ∧ i < (((s).size : Nat) : Int) := by first | simpa only [Bool.and_eq_true, decide_eq_true_eq, bne_iff_ne, ne_eq] using g794 | (simp at g794 ⊢; omega)
          refine rs 5 [none, none, some ⟨.v (.int .u8 (((s).data.getD (i).toNat 0).toNat : Int)), [], 0, []⟩] _ (by kernel_rfl) (allP_cons (ob_p (v := .v (.int .u8 (((s).data.getD (i).toNat 0).toNat : Int))) (nx := 0) (r := []) k793) allP_nil) ?_
          refine rf [(0, .v (.string s)), (1, iS i), (6, iS many7), (7, iS (IntKind.i64.wrap (((s).data.getD (i).toNat 0).toNat : Int)))] [] 0 (by kernel_rfl) ?_
          exact hK790 ((IntKind.i64.wrap (((s).data.getD (i).toNat 0).toNat : Int))) _ _ _ h (leSt_m [] [] (by simp only [push_cast, seval]) (by simp only [push_cast, seval]) rfl rfl rfl)
        · refine seq_np ?_
          refine reg_f ?_
          refine rs 2 [] [] (by kernel_rfl) allP_nil ?_
          refine rf [(0, .v (.string s)), (1, iS i), (6, iS many7), (7, iS 0), (21, iS many7), (28, bS (many7 == 2))] [] 0 (by kernel_rfl) ?_
          refine wk_id ?_
          refine cond_sx h (by kernel_rfl) (fun g809 h => ?_) (fun g809 h => ?_)
          · refine chk_sx h (fun g798 h => ?_)
            refine reg_f ?_
            have k797 : 0 ≤ i ∧ i < (((s).size : Nat) : Int) := by first | simpa only [Bool.and_eq_true, decide_eq_true_eq, bne_iff_ne, ne_eq] using g798 | (simp at g798 ⊢; omega)
            refine rs 6 [none, none, some ⟨.v (.int .u8 (((s).data.getD (i).toNat 0).toNat : Int)), [], 0, []⟩] _ (by kernel_rfl) (allP_cons (ob_p (v := .v (.int .u8 (((s).data.getD (i).toNat 0).toNat : Int))) (nx := 0) (r := []) k797) allP_nil) ?_
            refine rf [(0, .v (.string s)), (1, iS i), (6, iS many7), (7, iS (IntKind.i64.wrap ((IntKind.i64.wrap (((s).data.getD (i).toNat 0).toNat : Int)) - 192)))] [] 0 (by kernel_rfl) ?_
            exact hK790 ((IntKind.i64.wrap ((IntKind.i64.wrap (((s).data.getD (i).toNat 0).toNat : Int)) - 192))) _ _ _ h (leSt_m [] [] (by simp only [push_cast, seval]) (by simp only [push_cast, seval]) rfl rfl rfl)
          · refine seq_np ?_
            refine reg_f ?_
            refine rs 2 [] [] (by kernel_rfl) allP_nil ?_
            refine rf [(0, .v (.string s)), (1, iS i), (6, iS many7), (7, iS 0), (21, iS many7), (35, bS (many7 == 3))] [] 0 (by kernel_rfl) ?_
            refine wk_id ?_
            refine cond_sx h (by kernel_rfl) (fun g808 h => ?_) (fun g808 h => ?_)
            · refine chk_sx h (fun g802 h => ?_)
              refine reg_f ?_
              have k801 : 0 ≤ i ∧ i < (((s).size : Nat) : Int) := by first | simpa only [Bool.and_eq_true, decide_eq_true_eq, bne_iff_ne, ne_eq] using g802 | (simp at g802 ⊢; omega)
              refine rs 6 [none, none, some ⟨.v (.int .u8 (((s).data.getD (i).toNat 0).toNat : Int)), [], 0, []⟩] _ (by kernel_rfl) (allP_cons (ob_p (v := .v (.int .u8 (((s).data.getD (i).toNat 0).toNat : Int))) (nx := 0) (r := []) k801) allP_nil) ?_
              refine rf [(0, .v (.string s)), (1, iS i), (6, iS many7), (7, iS (IntKind.i64.wrap ((IntKind.i64.wrap (((s).data.getD (i).toNat 0).toNat : Int)) - 224)))] [] 0 (by kernel_rfl) ?_
              exact hK790 ((IntKind.i64.wrap ((IntKind.i64.wrap (((s).data.getD (i).toNat 0).toNat : Int)) - 224))) _ _ _ h (leSt_m [] [] (by simp only [push_cast, seval]) (by simp only [push_cast, seval]) rfl rfl rfl)
            · refine seq_np ?_
              refine reg_f ?_
              refine rs 2 [] [] (by kernel_rfl) allP_nil ?_
              refine rf [(0, .v (.string s)), (1, iS i), (6, iS many7), (7, iS 0), (42, bS (many7 == 4))] [] 0 (by kernel_rfl) ?_
              refine wk_id ?_
              refine cond_sx h (by kernel_rfl) (fun g807 h => ?_) (fun g807 h => ?_)
              · refine chk_sx h (fun g806 h => ?_)
                refine reg_f ?_
                have k805 : 0 ≤ i ∧ i < (((s).size : Nat) : Int) := by first | simpa only [Bool.and_eq_true, decide_eq_true_eq, bne_iff_ne, ne_eq] using g806 | (simp at g806 ⊢; omega)
                refine rs 6 [none, none, some ⟨.v (.int .u8 (((s).data.getD (i).toNat 0).toNat : Int)), [], 0, []⟩] _ (by kernel_rfl) (allP_cons (ob_p (v := .v (.int .u8 (((s).data.getD (i).toNat 0).toNat : Int))) (nx := 0) (r := []) k805) allP_nil) ?_
                refine rf [(0, .v (.string s)), (1, iS i), (6, iS many7), (7, iS (IntKind.i64.wrap ((IntKind.i64.wrap (((s).data.getD (i).toNat 0).toNat : Int)) - 240)))] [] 0 (by kernel_rfl) ?_
                exact hK790 ((IntKind.i64.wrap ((IntKind.i64.wrap (((s).data.getD (i).toNat 0).toNat : Int)) - 240))) _ _ _ h (leSt_m [] [] (by simp only [push_cast, seval]) (by simp only [push_cast, seval]) rfl rfl rfl)
              · exact hK790 (0) _ _ _ h (leSt_m [] [] (by simp only [push_cast, seval]) (by simp only [push_cast, seval]) rfl rfl rfl)
      · rintro n28 h
        try dsimp only at h ⊢
        unfold taskmillref_LetterAt_j2 at h
        refine wk_id ?_
        refine seq_np ?_
        refine seq_np ?_
        refine reg_f ?_
        refine rs 1 [] [] (by kernel_rfl) allP_nil ?_
        refine rf [(0, .v (.string s)), (1, iS i), (6, iS many7), (7, iS n28), (8, iS 1)] [] 0 (by kernel_rfl) ?_
        refine wk_id ?_
        refine block_np ?_
        refine loop_sx (S := Int × Int) (fun a => ([(0, .v (.string s)), (1, iS i), (6, iS many7), (7, iS a.1), (8, iS a.2)], [], 0)) h (leSt_m [] [] (by simp only [push_cast, seval]) (by simp only [push_cast, seval]) rfl rfl rfl) ?_
        rintro ⟨n34, k23⟩ o4 R4 h hr4 hn4 hx4 ht4
        try dsimp only at h hn4 ⊢
        unfold taskmillref_LetterAt_l1 at h
        try dsimp only at h
        refine seq_np ?_
        refine seq_np ?_
        refine reg_f ?_
        refine rs 3 [] [] (by kernel_rfl) allP_nil ?_
        refine rf [(0, .v (.string s)), (1, iS i), (6, iS many7), (7, iS n34), (8, iS k23), (51, bS (decide (k23 < many7)))] [] 0 (by kernel_rfl) ?_
        refine wk_id ?_
        refine cond_sx h (by kernel_rfl) (fun g860 h => ?_) (fun g860 h => ?_)
        · refine wk_id ?_
          refine seq_np ?_
          refine block_np ?_
          refine chk_sx h (fun g846 h => ?_)
          refine reg_f ?_
          have k845 : 0 ≤ (IntKind.i64.wrap (i + k23)) ∧ (IntKind.i64.wrap (i + k23)) < (((s).size : Nat) : Int) := by first | simpa only [Bool.and_eq_true, decide_eq_true_eq, bne_iff_ne, ne_eq] using g846 | (simp at g846 ⊢; omega)
          refine rs 11 [none, none, none, none, none, none, some ⟨.v (.int .u8 (((s).data.getD ((IntKind.i64.wrap (i + k23))).toNat 0).toNat : Int)), [], 0, []⟩] _ (by kernel_rfl) (allP_cons (ob_p (v := .v (.int .u8 (((s).data.getD ((IntKind.i64.wrap (i + k23))).toNat 0).toNat : Int))) (nx := 0) (r := []) k845) allP_nil) ?_
          refine rf [(0, .v (.string s)), (1, iS i), (6, iS many7), (7, iS (IntKind.i64.wrap ((IntKind.i64.wrap ((IntKind.i64.wrap (n34 * 64)) + (IntKind.i64.wrap (((s).data.getD ((IntKind.i64.wrap (i + k23))).toNat 0).toNat : Int)))) - 128))), (8, iS k23)] [] 0 (by kernel_rfl) ?_
          refine wk_id ?_
          refine wk_id ?_
          refine reg_f ?_
          refine rs 3 [] [] (by kernel_rfl) allP_nil ?_
          refine rf [(0, .v (.string s)), (1, iS i), (6, iS many7), (7, iS (IntKind.i64.wrap ((IntKind.i64.wrap ((IntKind.i64.wrap (n34 * 64)) + (IntKind.i64.wrap (((s).data.getD ((IntKind.i64.wrap (i + k23))).toNat 0).toNat : Int)))) - 128))), (8, iS (IntKind.i64.wrap (k23 + 1)))] [] 0 (by kernel_rfl) ?_
          exact hn4 ((IntKind.i64.wrap ((IntKind.i64.wrap ((IntKind.i64.wrap (n34 * 64)) + (IntKind.i64.wrap (((s).data.getD ((IntKind.i64.wrap (i + k23))).toNat 0).toNat : Int)))) - 128)), (IntKind.i64.wrap (k23 + 1))) _ _ _ (Option.some.inj h).symm (leSt_m [] [] (by simp only [push_cast, seval]) (by simp only [push_cast, seval]) rfl rfl rfl)
        · change R4 (.exit 3) _ _ _
          refine ex_cast hx4 (id := 3) ?_
          obtain ⟨r0, h, e0⟩ := map_sx h
          have e1 := hr4 r0 e0.symm
          subst r0
          refine wk_id ?_
          refine wk_id ?_
          refine seq_cut (A := Bool) (fun a => ([(0, .v (.string s)), (1, iS i), (6, iS many7), (7, iS n34), (77, bS a)], [], 0)) (fun a => (taskmillref_LetterAt_j1 s i many7 n34 a) = some o3) (fun K853 hK853 => ?_) ?_
          · refine reg_t ?_
            refine rs 1 [] [] (by kernel_rfl) allP_nil ?_
            obtain ⟨r854, hr854, h⟩ := bind_sx h
            refine run_call 12 [iS n34] (some 65) (by kernel_rfl) ?_
            refine callE_0 (taskmillref_IsLetter_spec n34 r854 hr854) (by simp only [push_cast, seval]) (by simp only [push_cast, seval]) ?_
            refine back_t ?_
            refine rs 1 [] [] (by kernel_rfl) allP_nil ?_
            refine run_br h 66 (.inl (by kernel_rfl)) (fun g855 h => ?_) (fun g855 h => ?_)
            · refine rs 1 [] [] (by kernel_rfl) allP_nil ?_
              obtain ⟨r856, hr856, h⟩ := bind_sx h
              refine call_x (taskmillref_BytesOf_spec n34 r856 hr856) (args := [iS n34]) (dst := (some 68)) (by kernel_rfl) [] 4 (by kernel_rfl) [] [] (.own 4 0 r856.length) [(4, .row 5 (fl r856))] (by simp only [push_cast, seval]) (by simp only [push_cast, seval]) (by kernel_rfl) (.inl rfl) (by simp only [push_cast, seval]) (by simp only [push_cast, seval]) ?_
              refine rn 5 [(0, .v (.string s)), (1, iS i), (6, iS many7), (7, iS n34), (66, bS true), (68, .own 4 0 r856.length)] [(4, .row 5 (fl r856))] 6 (by kernel_rfl) ?_
              refine chk_sx h (fun g858 h => ?_)
              have k857 : 0 ≤ i ∧ i ≤ (IntKind.i64.wrap (i + many7)) ∧ (IntKind.i64.wrap (i + many7)) ≤ (((s).size : Nat) : Int) := by first | simpa only [Bool.and_eq_true, decide_eq_true_eq, bne_iff_ne, ne_eq] using g858 | (simp at g858 ⊢; omega)
              refine rs 9 [some ⟨.v (.string (bytL (r856.map Ku8.v))), [], 6, [4]⟩, none, none, none, none, none, some ⟨.v (.string ((s).extract (i).toNat ((IntKind.i64.wrap (i + many7))).toNat)), [], 12, []⟩, some ⟨bS (decide ((bytL (r856.map Ku8.v)) = ((s).extract (i).toNat ((IntKind.i64.wrap (i + many7))).toNat))), [], 13, []⟩] _ (by kernel_rfl) (allP_cons (ob_p (v := bS (decide ((bytL (r856.map Ku8.v)) = ((s).extract (i).toNat ((IntKind.i64.wrap (i + many7))).toNat)))) (nx := 13) (r := []) trivial) (allP_cons (ob_p (v := .v (.string ((s).extract (i).toNat ((IntKind.i64.wrap (i + many7))).toNat))) (nx := 12) (r := []) k857) (allP_cons (ob_str_o .u8 bytL Ku8.v (fun _ => rfl) r856 4 6) allP_nil))) ?_
              refine rt [(0, .v (.string s)), (1, iS i), (6, iS many7), (7, iS n34), (77, bS (decide ((bytL (r856.map Ku8.v)) = ((s).extract (i).toNat ((IntKind.i64.wrap (i + many7))).toNat))))] [(4, .row 5 (fl r856))] 15 follows (by kernel_rfl) ?_
              exact hK853 ((decide ((bytL (r856.map Ku8.v)) = ((s).extract (i).toNat ((IntKind.i64.wrap (i + many7))).toNat)))) _ _ _ h (leSt_m [] [] (by (try simp only [g855]) <;> simp only [push_cast, seval]) (by (try simp only [g855]) <;> simp only [push_cast, seval]) rfl rfl rfl)
            · refine rs 11 [] [] (by kernel_rfl) allP_nil ?_
              refine rt [(0, .v (.string s)), (1, iS i), (6, iS many7), (7, iS n34), (77, bS false)] [] 14 follows (by kernel_rfl) ?_
              exact hK853 (false) _ _ _ h (leSt_m [] [] (by (try simp only [g855]) <;> simp only [push_cast, seval]) (by (try simp only [g855]) <;> simp only [push_cast, seval]) rfl rfl rfl)
          · rintro t77q13 h
            try dsimp only at h ⊢
            unfold taskmillref_LetterAt_j1 at h
            refine cond_sx h (by kernel_rfl) (fun g859 h => ?_) (fun g859 h => ?_)
            · refine seq_np ?_
              refine reg_f ?_
              refine rs 4 [] [] (by kernel_rfl) allP_nil ?_
              refine rf [(4, iS n34), (5, iS many7)] [] 0 (by kernel_rfl) ?_
              refine wk_id ?_
              refine rt_cast ht3 ?_
              obtain ⟨r0, h, e0⟩ := map_sx h
              have e1 := hr3 r0 e0.symm
              subst r0
              obtain rfl := Option.some.inj h
              refine ret_at (.tup [iS n34, iS many7]) (by kernel_rfl) ?_
              exact ret_e [] [] (by simp only [push_cast, seval]) (by simp only [push_cast, seval]) rfl rfl rfl
            · refine wk_id ?_
              refine wk_id ?_
              refine reg_f ?_
              refine rs 3 [] [] (by kernel_rfl) allP_nil ?_
              refine rf [(0, .v (.string s)), (1, iS i), (6, iS (IntKind.i64.wrap (many7 + 1)))] [] 0 (by kernel_rfl) ?_
              exact hn3 ((IntKind.i64.wrap (many7 + 1))) _ _ _ (Option.some.inj h).symm (leSt_m [] [] (by simp only [push_cast, seval]) (by simp only [push_cast, seval]) rfl rfl rfl)
    · change R3 (.exit 0) _ _ _
      refine ex_cast hx3 (id := 0) ?_
      obtain ⟨r0, h, e0⟩ := map_sx h
      have e1 := hr3 r0 e0.symm
      subst r0
      refine wk_id ?_
      refine wk_id ?_
      refine seq_np ?_
      refine reg_f ?_
      refine rs 2 [] [] (by kernel_rfl) allP_nil ?_
      refine rf [(4, iS 65533), (5, iS 0)] [] 0 (by kernel_rfl) ?_
      refine wk_id ?_
      obtain rfl := Option.some.inj h
      refine ret_at (.tup [iS 65533, iS 0]) (by kernel_rfl) ?_
      exact ret_e [] [] (by simp only [push_cast, seval]) (by simp only [push_cast, seval]) rfl rfl rfl

set_option maxRecDepth 100000 in
set_option maxHeartbeats 200000000 in
theorem taskmillref_Read_spec (s : ByteArray) (r : Int × (List S35)) (h : taskmillref_Read s = some r) : SpecW Tryd.prog 10 [.v (.string s)] [] 0 (fun x h n => x = .tup [.own 0 0 r.2.length, iS r.1] ∧ h = [(0, .row 35 (fl r.2))] ∧ n = 1) := by
  unfold taskmillref_Read at h
  refine spec_of (draw_ok _) Tryd.func10 rfl (by decide) rfl (by kernel_rfl) ?_
  refine seq_np ?_
  refine reg_f ?_
  refine rs 2 [] [] (by kernel_rfl) allP_nil ?_
  refine rf [(0, .v (.string s))] [] 0 (by kernel_rfl) ?_
  refine wk_id ?_
  refine seq_np ?_
  refine reg_f ?_
  refine rs 1 [] [] (by kernel_rfl) allP_nil ?_
  refine rf [(0, .v (.string s)), (4, .v (.slice none 0 0))] [] 0 (by kernel_rfl) ?_
  refine wk_id ?_
  refine seq_np ?_
  refine reg_f ?_
  refine rs 1 [] [] (by kernel_rfl) allP_nil ?_
  refine rf [(0, .v (.string s)), (4, .v (.slice none 0 0)), (5, iS (-1))] [] 0 (by kernel_rfl) ?_
  refine wk_id ?_
  refine seq_np ?_
  refine seq_np ?_
  refine reg_f ?_
  refine rs 1 [] [] (by kernel_rfl) allP_nil ?_
  refine rf [(0, .v (.string s)), (4, .v (.slice none 0 0)), (5, iS (-1)), (6, iS 0)] [] 0 (by kernel_rfl) ?_
  refine wk_id ?_
  refine block_np ?_
  refine loop_sx (S := Int × Int × (List S35)) (fun a => ([(0, .v (.string s)), (4, .own 0 0 a.2.2.length), (5, iS a.1), (6, iS a.2.1)], [(0, .row 35 (fl a.2.2))], 1)) h (leSt_m [] [] (by simp only [push_cast, seval]) (by simp only [push_cast, seval]) rfl rfl rfl) ?_
  rintro ⟨bad25, i7, c0q26⟩ o2 R2 h hr2 hn2 hx2 ht2
  try dsimp only at h hn2 ⊢
  unfold taskmillref_Read_l1 at h
  try dsimp only at h
  refine seq_np ?_
  refine seq_np ?_
  refine reg_f ?_
  refine rs 4 [] [] (by kernel_rfl) allP_nil ?_
  refine rf [(0, .v (.string s)), (4, .own 0 0 c0q26.length), (5, iS bad25), (6, iS i7), (12, bS (decide (i7 < (((s).size : Nat) : Int))))] [(0, .row 35 (fl c0q26))] 1 (by kernel_rfl) ?_
  refine wk_id ?_
  refine cond_sx h (by kernel_rfl) (fun g981 h => ?_) (fun g981 h => ?_)
  · refine wk_id ?_
    refine block_np ?_
    refine seq_np ?_
    refine reg_f ?_
    refine rs 2 [] [] (by kernel_rfl) allP_nil ?_
    obtain ⟨r965, hr965, h⟩ := bind_sx h
    refine run_call 17 [.v (.string s), iS i7] (some 16) (by kernel_rfl) ?_
    refine call_0 (taskmillref_LetterAt_spec s i7 r965 hr965) (by simp only [push_cast, seval]) (by simp only [push_cast, seval]) ?_
    refine back_f ?_
    refine rs 5 [] [] (by kernel_rfl) allP_nil ?_
    refine rf [(0, .v (.string s)), (4, .own 0 0 c0q26.length), (5, iS bad25), (6, iS i7), (7, iS r965.1), (8, iS r965.2)] [(0, .row 35 (fl c0q26))] 1 (by kernel_rfl) ?_
    refine wk_id ?_
    refine chk_sx h (fun g969 h => ?_)
    refine seq_np ?_
    refine reg_f ?_
    have k968 : (c0q26 ++ ([(S35.mk i7 r965.1)] : List S35)).length * 16 ≤ 140737488355328 := by first | simpa only [Bool.and_eq_true, decide_eq_true_eq, bne_iff_ne, ne_eq] using g969 | (simp at g969 ⊢; omega)
    refine rs 7 [none, none, none, none, none, some ⟨.own 2 0 (c0q26 ++ ([(S35.mk i7 r965.1)] : List S35)).length, [(2, .row 35 (fl (c0q26 ++ ([(S35.mk i7 r965.1)] : List S35)))), (0, .dead)], 3, [0, 1]⟩] _ (by kernel_rfl) (allP_cons (ob_app (P := Tryd.prog) c0q26 ([(S35.mk i7 r965.1)] : List S35) 2 16 rfl (appCells (fl ([(S35.mk i7 r965.1)] : List S35)) 0 (([(S35.mk i7 r965.1)] : List S35).length * 2)) ([(S35.mk i7 r965.1)] : List S35).length (app_own ([(S35.mk i7 r965.1)] : List S35) 2 rfl) rfl (0 + ([(S35.mk i7 r965.1)] : List S35).length * 2 ≤ (fl ([(S35.mk i7 r965.1)] : List S35)).length) (app_own_le ([(S35.mk i7 r965.1)] : List S35) 2 rfl) 35 (by kernel_rfl) (by decide) k968 0 2 [1]) allP_nil) ?_
    refine rf [(0, .v (.string s)), (4, .own 2 0 (c0q26 ++ ([(S35.mk i7 r965.1)] : List S35)).length), (5, iS bad25), (6, iS i7), (8, iS r965.2)] [(0, .dead), (1, .row 35 (fl ([(S35.mk i7 r965.1)] : List S35))), (2, .row 35 (fl (c0q26 ++ ([(S35.mk i7 r965.1)] : List S35))))] 3 (by kernel_rfl) ?_
    refine wk_id ?_
    refine seq_cut (A := Int × Int × (List S35)) (fun a => ([(0, .v (.string s)), (4, .own 0 0 a.2.2.length), (5, iS a.1), (6, iS i7), (8, iS a.2.1)], [(0, .row 35 (fl a.2.2))], 1)) (fun a => (taskmillref_Read_j1 s i7 a.1 a.2.1 a.2.2) = some o2) (fun K975 hK975 => ?_) ?_
    · refine seq_np ?_
      refine reg_f ?_
      refine rs 2 [] [] (by kernel_rfl) allP_nil ?_
      refine rf [(0, .v (.string s)), (4, .own 2 0 (c0q26 ++ ([(S35.mk i7 r965.1)] : List S35)).length), (5, iS bad25), (6, iS i7), (8, iS r965.2), (26, bS (r965.2 == 0))] [(0, .dead), (1, .row 35 (fl ([(S35.mk i7 r965.1)] : List S35))), (2, .row 35 (fl (c0q26 ++ ([(S35.mk i7 r965.1)] : List S35))))] 3 (by kernel_rfl) ?_
      refine wk_id ?_
      refine cond_sx h (by kernel_rfl) (fun g980 h => ?_) (fun g980 h => ?_)
      · refine seq_cut (A := Int × (List S35)) (fun a => ([(0, .v (.string s)), (4, .own 0 0 a.2.length), (5, iS a.1), (6, iS i7)], [(0, .row 35 (fl a.2))], 1)) (fun a => (taskmillref_Read_j2 s i7 a.1 a.2) = some o2) (fun K978 hK978 => ?_) ?_
        · refine seq_np ?_
          refine reg_f ?_
          refine rs 2 [] [] (by kernel_rfl) allP_nil ?_
          refine rf [(0, .v (.string s)), (4, .own 2 0 (c0q26 ++ ([(S35.mk i7 r965.1)] : List S35)).length), (5, iS bad25), (6, iS i7), (28, bS (decide (bad25 < 0)))] [(0, .dead), (1, .row 35 (fl ([(S35.mk i7 r965.1)] : List S35))), (2, .row 35 (fl (c0q26 ++ ([(S35.mk i7 r965.1)] : List S35))))] 3 (by kernel_rfl) ?_
          refine wk_id ?_
          refine cond_sx h (by kernel_rfl) (fun g979 h => ?_) (fun g979 h => ?_)
          · refine reg_f ?_
            refine rs 2 [] [] (by kernel_rfl) allP_nil ?_
            refine rf [(0, .v (.string s)), (4, .own 2 0 (c0q26 ++ ([(S35.mk i7 r965.1)] : List S35)).length), (5, iS i7), (6, iS i7)] [(0, .dead), (1, .row 35 (fl ([(S35.mk i7 r965.1)] : List S35))), (2, .row 35 (fl (c0q26 ++ ([(S35.mk i7 r965.1)] : List S35))))] 3 (by kernel_rfl) ?_
            exact hK978 (i7, (c0q26 ++ ([(S35.mk i7 r965.1)] : List S35))) _ _ _ h (leSt_m [(0, 2)] [] (by simp only [push_cast, seval]) (by simp only [push_cast, seval]) rfl rfl rfl)
          · exact hK978 (bad25, (c0q26 ++ ([(S35.mk i7 r965.1)] : List S35))) _ _ _ h (leSt_m [(0, 2)] [] (by simp only [push_cast, seval]) (by simp only [push_cast, seval]) rfl rfl rfl)
        · rintro ⟨bad28, c0q29⟩ h
          try dsimp only at h ⊢
          unfold taskmillref_Read_j2 at h
          refine reg_f ?_
          refine rs 1 [] [] (by kernel_rfl) allP_nil ?_
          refine rf [(0, .v (.string s)), (4, .own 0 0 c0q29.length), (5, iS bad28), (6, iS i7), (8, iS 1)] [(0, .row 35 (fl c0q29))] 1 (by kernel_rfl) ?_
          exact hK975 (bad28, 1, c0q29) _ _ _ h (leSt_m [(0, 0)] [] (by simp only [push_cast, seval]) (by simp only [push_cast, seval]) rfl rfl rfl)
      · exact hK975 (bad25, r965.2, (c0q26 ++ ([(S35.mk i7 r965.1)] : List S35))) _ _ _ h (leSt_m [(0, 2)] [] (by simp only [push_cast, seval]) (by simp only [push_cast, seval]) rfl rfl rfl)
    · rintro ⟨bad27, many11, c0q28⟩ h
      try dsimp only at h ⊢
      unfold taskmillref_Read_j1 at h
      refine reg_f ?_
      refine rs 4 [] [] (by kernel_rfl) allP_nil ?_
      refine rf [(0, .v (.string s)), (4, .own 0 0 c0q28.length), (5, iS bad27), (6, iS (IntKind.i64.wrap (i7 + many11)))] [(0, .row 35 (fl c0q28))] 1 (by kernel_rfl) ?_
      refine wk_id ?_
      exact hn2 (bad27, (IntKind.i64.wrap (i7 + many11)), c0q28) _ _ _ (Option.some.inj h).symm (leSt_m [(0, 0)] [] (by simp only [push_cast, seval]) (by simp only [push_cast, seval]) rfl rfl rfl)
  · change R2 (.exit 0) _ _ _
    refine ex_cast hx2 (id := 0) ?_
    obtain ⟨r0, h, e0⟩ := map_sx h
    have e1 := hr2 r0 e0.symm
    subst r0
    refine wk_id ?_
    refine wk_id ?_
    refine seq_np ?_
    refine reg_f ?_
    refine rs 4 [] [] (by kernel_rfl) allP_nil ?_
    refine rf [(2, .own 0 0 c0q26.length), (3, iS bad25)] [(0, .row 35 (fl c0q26))] 1 (by kernel_rfl) ?_
    refine wk_id ?_
    obtain rfl := Option.some.inj h
    refine ret_at (.tup [.own 0 0 c0q26.length, iS bad25]) (by kernel_rfl) ?_
    exact ret_e [(0, 0)] [] (by simp only [push_cast, seval]) (by simp only [push_cast, seval]) rfl rfl rfl

set_option maxRecDepth 100000 in
set_option maxHeartbeats 200000000 in
theorem taskmilllaw_UtfReads_spec (text : ByteArray) (r : Bool) (h : taskmilllaw_UtfReads text = some r) : SpecW Tryd.prog 3 [.v (.string text)] [] 0 (fun x h n => x = bS r ∧ h = [] ∧ n = 0) := by
  unfold taskmilllaw_UtfReads at h
  refine spec_of (draw_ok _) Tryd.func3 rfl (by decide) rfl (by kernel_rfl) ?_
  refine seq_np ?_
  refine reg_f ?_
  refine rs 1 [] [] (by kernel_rfl) allP_nil ?_
  refine rf [(0, .v (.string text))] [] 0 (by kernel_rfl) ?_
  refine wk_id ?_
  refine seq_np ?_
  refine seq_np ?_
  refine reg_f ?_
  obtain ⟨r995, hr995, h⟩ := bind_sx h
  refine run_call 6 [] (some 11) (by kernel_rfl) ?_
  refine call_0 (taskmilllaw_utfBegun_spec r995 hr995) (by simp only [push_cast, seval]) (by simp only [push_cast, seval]) ?_
  refine back_f ?_
  refine rs 1 [] [] (by kernel_rfl) allP_nil ?_
  refine rf [(0, .v (.string text)), (12, bS (!r995))] [] 0 (by kernel_rfl) ?_
  refine wk_id ?_
  refine cond_sx h (by kernel_rfl) (fun g1047 h => ?_) (fun g1047 h => ?_)
  · refine seq_np ?_
    refine reg_f ?_
    refine rs 1 [] [] (by kernel_rfl) allP_nil ?_
    refine rf [(2, bS false)] [] 0 (by kernel_rfl) ?_
    refine wk_id ?_
    obtain rfl := Option.some.inj h
    refine ret_at (bS false) (by kernel_rfl) ?_
    exact ret_e [] [] (by simp only [push_cast, seval]) (by simp only [push_cast, seval]) rfl rfl rfl
  · refine wk_id ?_
    refine seq_np ?_
    refine seq_np ?_
    refine reg_f ?_
    refine rs 3 [] [] (by kernel_rfl) allP_nil ?_
    refine rf [(0, .v (.string text)), (15, bS (decide ((30000 : Int) < (((text).size : Nat) : Int))))] [] 0 (by kernel_rfl) ?_
    refine wk_id ?_
    refine cond_sx h (by kernel_rfl) (fun g1046 h => ?_) (fun g1046 h => ?_)
    · refine seq_np ?_
      refine reg_f ?_
      refine rs 1 [] [] (by kernel_rfl) allP_nil ?_
      refine rf [(2, bS true)] [] 0 (by kernel_rfl) ?_
      refine wk_id ?_
      obtain rfl := Option.some.inj h
      refine ret_at (bS true) (by kernel_rfl) ?_
      exact ret_e [] [] (by simp only [push_cast, seval]) (by simp only [push_cast, seval]) rfl rfl rfl
    · refine wk_id ?_
      refine seq_np ?_
      refine reg_f ?_
      refine rs 1 [] [] (by kernel_rfl) allP_nil ?_
      obtain ⟨r998, hr998, h⟩ := bind_sx h
      refine call_x (utf_Range_spec text r998 hr998) (args := [.v (.string text)]) (dst := (some 18)) (by kernel_rfl) [] 0 (by kernel_rfl) [] [] (.tup [.own 0 0 r998.2.length, .agg (Enc.cells r998.1)]) [(0, .row 35 (fl r998.2))] (by simp only [push_cast, seval]) (by simp only [push_cast, seval]) (by kernel_rfl) (.inl rfl) (by simp only [push_cast, seval]) (by simp only [push_cast, seval]) ?_
      refine rs 6 [] [] (by kernel_rfl) allP_nil ?_
      refine rf [(0, .v (.string text)), (3, .own 0 0 r998.2.length), (4, .ptr 1 0)] [(0, .row 35 (fl r998.2)), (1, .row 25 (Enc.cells r998.1))] 2 (by kernel_rfl) ?_
      refine wk_id ?_
      refine seq_np ?_
      refine reg_f ?_
      refine rs 1 [] [] (by kernel_rfl) allP_nil ?_
      obtain ⟨r1000, hr1000, h⟩ := bind_sx h
      refine run_call 8 [.v (.string text)] (some 23) (by kernel_rfl) ?_
      refine call_0 (utf_Valid_spec text r1000 hr1000) (by simp only [push_cast, seval]) (by simp only [push_cast, seval]) ?_
      refine back_f ?_
      refine rs 8 [] [] (by kernel_rfl) allP_nil ?_
      refine rf [(0, .v (.string text)), (3, .own 0 0 r998.2.length), (4, .ptr 1 0), (5, bS r1000.1), (6, iS r1000.2.1), (7, .ptr 2 0)] [(0, .row 35 (fl r998.2)), (1, .row 25 (Enc.cells r998.1)), (2, .row 25 (Enc.cells r1000.2.2))] 3 (by kernel_rfl) ?_
      refine wk_id ?_
      refine seq_np ?_
      refine reg_f ?_
      refine rs 3 [] [] (by kernel_rfl) allP_nil ?_
      refine rf [(0, .v (.string text)), (3, .own 0 0 r998.2.length), (4, .ptr 1 0), (5, bS r1000.1), (6, iS r1000.2.1), (7, .ptr 2 0), (8, .ptr 3 0)] [(0, .row 35 (fl r998.2)), (1, .row 25 (Enc.cells r998.1)), (2, .row 25 (Enc.cells r1000.2.2)), (3, .row 25 [iS 0, iS 0])] 4 (by kernel_rfl) ?_
      refine wk_id ?_
      refine seq_cut (A := Bool × Int × (List S35) × Fault × Fault × Fault) (fun a => ([(0, .v (.string text)), (3, .own 0 0 a.2.2.1.length), (4, .ptr 1 0), (5, bS a.1), (6, iS a.2.1), (7, .ptr 2 0), (8, .ptr 3 0)], [(0, .row 35 (fl a.2.2.1)), (1, .row 25 (Enc.cells a.2.2.2.1)), (2, .row 25 (Enc.cells a.2.2.2.2.1)), (3, .row 25 (Enc.cells a.2.2.2.2.2))], 4)) (fun a => (taskmilllaw_UtfReads_j2 text a.1 a.2.1 a.2.2.1 a.2.2.2.1 a.2.2.2.2.1 a.2.2.2.2.2) = some r) (fun K1004 hK1004 => ?_) ?_
      · refine seq_np ?_
        refine reg_f ?_
        refine rs 3 [] [] (by kernel_rfl) allP_nil ?_
        refine rf [(0, .v (.string text)), (3, .own 0 0 r998.2.length), (4, .ptr 1 0), (5, bS r1000.1), (6, iS r1000.2.1), (7, .ptr 2 0), (8, .ptr 3 0), (30, bS (decide ((20000 : Int) < (((text).size : Nat) : Int))))] [(0, .row 35 (fl r998.2)), (1, .row 25 (Enc.cells r998.1)), (2, .row 25 (Enc.cells r1000.2.2)), (3, .row 25 [iS 0, iS 0])] 4 (by kernel_rfl) ?_
        refine wk_id ?_
        refine cond_sx h (by kernel_rfl) (fun g1007 h => ?_) (fun g1007 h => ?_)
        · refine reg_f ?_
          obtain ⟨r1006, hr1006, h⟩ := bind_sx h
          refine run_call 9 [iS 2, iS 0] (some 31) (by kernel_rfl) ?_
          refine call_0 (taskmillref_F_spec 2 0 r1006 hr1006) (by simp only [push_cast, seval]) (by simp only [push_cast, seval]) ?_
          refine back_f ?_
          refine rs 1 [] [] (by kernel_rfl) allP_nil ?_
          refine rf [(0, .v (.string text)), (3, .own 0 0 r998.2.length), (4, .ptr 1 0), (5, bS r1000.1), (6, iS r1000.2.1), (7, .ptr 2 0), (8, .ptr 3 0)] [(0, .row 35 (fl r998.2)), (1, .row 25 (Enc.cells r998.1)), (2, .row 25 (Enc.cells r1000.2.2)), (3, .row 25 (Enc.cells r1006))] 4 (by kernel_rfl) ?_
          exact hK1004 (r1000.1, r1000.2.1, r998.2, r998.1, r1000.2.2, r1006) _ _ _ h (leSt_m [(0, 0), (1, 1), (2, 2), (3, 3)] [] (by simp only [push_cast, seval]) (by simp only [push_cast, seval]) rfl rfl rfl)
        · exact hK1004 (r1000.1, r1000.2.1, r998.2, r998.1, r1000.2.2, (Fault.mk 0 0)) _ _ _ h (leSt_m [(0, 0), (1, 1), (2, 2), (3, 3)] [] (by simp only [push_cast, seval]) (by simp only [push_cast, seval]) rfl rfl rfl)
      · rintro ⟨xis1, xat1, c0q1, c1q1, c2q1, c3q1⟩ h
        try dsimp only at h ⊢
        unfold taskmilllaw_UtfReads_j2 at h
        refine seq_np ?_
        refine seq_cut (A := Unit) (fun _ => ([(0, .v (.string text)), (3, .own 0 0 c0q1.length), (5, bS xis1), (6, iS xat1), (8, .ptr 3 0), (39, bS ((!((c1q1.Code == c3q1.Code) && ((c1q1.At == c3q1.At) && true))) || (!((c2q1.Code == c3q1.Code) && ((c2q1.At == c3q1.At) && true)))))], [(0, .row 35 (fl c0q1)), (1, .row 25 (Enc.cells c1q1)), (2, .row 25 (Enc.cells c2q1)), (3, .row 25 (Enc.cells c3q1))], 4)) (fun _ => True) (fun K1011 hK1011 => ?_) (fun _ _ => ?_)
        · refine reg_f ?_
          refine rs 4 [] [] (by kernel_rfl) allP_nil ?_
          refine run_split 35 (!((c1q1.Code == c3q1.Code) && ((c1q1.At == c3q1.At) && true))) (.inl (by kernel_rfl)) (fun g1012 => ?_) (fun g1012 => ?_)
          · refine rs 4 [] [] (by kernel_rfl) allP_nil ?_
            refine rf [(0, .v (.string text)), (3, .own 0 0 c0q1.length), (5, bS xis1), (6, iS xat1), (8, .ptr 3 0), (39, bS true)] [(0, .row 35 (fl c0q1)), (1, .row 25 (Enc.cells c1q1)), (2, .row 25 (Enc.cells c2q1)), (3, .row 25 (Enc.cells c3q1))] 4 (by kernel_rfl) ?_
            exact hK1011 () _ _ _ trivial (leSt_m [(0, 0), (1, 1), (2, 2), (3, 3)] [] (by (try simp only [g1012]) <;> simp only [push_cast, seval]) (by (try simp only [g1012]) <;> simp only [push_cast, seval]) rfl rfl rfl)
          · refine rs 4 [] [] (by kernel_rfl) allP_nil ?_
            refine rf [(0, .v (.string text)), (3, .own 0 0 c0q1.length), (5, bS xis1), (6, iS xat1), (8, .ptr 3 0), (39, bS (!((c2q1.Code == c3q1.Code) && ((c2q1.At == c3q1.At) && true))))] [(0, .row 35 (fl c0q1)), (1, .row 25 (Enc.cells c1q1)), (2, .row 25 (Enc.cells c2q1)), (3, .row 25 (Enc.cells c3q1))] 4 (by kernel_rfl) ?_
            exact hK1011 () _ _ _ trivial (leSt_m [(0, 0), (1, 1), (2, 2), (3, 3)] [] (by (try simp only [g1012]) <;> simp only [push_cast, seval]) (by (try simp only [g1012]) <;> simp only [push_cast, seval]) rfl rfl rfl)
        · dsimp only
          refine cond_sx h (by kernel_rfl) (fun g1045 h => ?_) (fun g1045 h => ?_)
          · refine seq_np ?_
            refine reg_f ?_
            refine rs 1 [] [] (by kernel_rfl) allP_nil ?_
            refine rf [(2, bS false)] [(0, .row 35 (fl c0q1)), (1, .row 25 (Enc.cells c1q1)), (2, .row 25 (Enc.cells c2q1)), (3, .row 25 (Enc.cells c3q1))] 4 (by kernel_rfl) ?_
            refine wk_id ?_
            obtain rfl := Option.some.inj h
            refine ret_at (bS false) (by kernel_rfl) ?_
            exact ret_e [] [] (by simp only [push_cast, seval]) (by simp only [push_cast, seval]) rfl rfl rfl
          · refine wk_id ?_
            refine seq_np ?_
            refine seq_np ?_
            refine reg_f ?_
            refine rs 3 [] [] (by kernel_rfl) allP_nil ?_
            refine rf [(0, .v (.string text)), (3, .own 0 0 c0q1.length), (5, bS xis1), (6, iS xat1), (42, bS (c3q1.Code != 0))] [(0, .row 35 (fl c0q1)), (1, .row 25 (Enc.cells c1q1)), (2, .row 25 (Enc.cells c2q1)), (3, .row 25 (Enc.cells c3q1))] 4 (by kernel_rfl) ?_
            refine wk_id ?_
            refine cond_sx h (by kernel_rfl) (fun g1044 h => ?_) (fun g1044 h => ?_)
            · refine seq_cut (A := Unit) (fun _ => ([(2, bS ((((c0q1.length : Nat) : Int) == 0) && ((!xis1) && (xat1 == 0))))], [(0, .row 35 (fl c0q1)), (1, .row 25 (Enc.cells c1q1)), (2, .row 25 (Enc.cells c2q1)), (3, .row 25 (Enc.cells c3q1))], 4)) (fun _ => True) (fun K1018 hK1018 => ?_) (fun _ _ => ?_)
              · refine reg_f ?_
                refine rs 4 [] [] (by kernel_rfl) allP_nil ?_
                refine run_split 46 (((c0q1.length : Nat) : Int) == 0) (.inl (by kernel_rfl)) (fun g1019 => ?_) (fun g1019 => ?_)
                · refine rs 4 [] [] (by kernel_rfl) allP_nil ?_
                  refine run_split 50 (!xis1) (.inl (by kernel_rfl)) (fun g1020 => ?_) (fun g1020 => ?_)
                  · refine rs 4 [] [] (by kernel_rfl) allP_nil ?_
                    refine rf [(2, bS (xat1 == 0))] [(0, .row 35 (fl c0q1)), (1, .row 25 (Enc.cells c1q1)), (2, .row 25 (Enc.cells c2q1)), (3, .row 25 (Enc.cells c3q1))] 4 (by kernel_rfl) ?_
                    exact hK1018 () _ _ _ trivial (leSt_m [(0, 0), (1, 1), (2, 2), (3, 3)] [] (by first | ((try simp only [g1019, g1020]) <;> simp only [push_cast, seval]; done) | ((try simp only [g1019]); (try simp only [g1020]); simp only [push_cast, seval]; done) | (exfalso; clear h; simp_all; done)) (by first | ((try simp only [g1019, g1020]) <;> simp only [push_cast, seval]; done) | ((try simp only [g1019]); (try simp only [g1020]); simp only [push_cast, seval]; done) | (exfalso; clear h; simp_all; done)) rfl rfl rfl)
                  · refine rs 4 [] [] (by kernel_rfl) allP_nil ?_
                    refine rf [(2, bS false)] [(0, .row 35 (fl c0q1)), (1, .row 25 (Enc.cells c1q1)), (2, .row 25 (Enc.cells c2q1)), (3, .row 25 (Enc.cells c3q1))] 4 (by kernel_rfl) ?_
                    exact hK1018 () _ _ _ trivial (leSt_m [(0, 0), (1, 1), (2, 2), (3, 3)] [] (by first | ((try simp only [g1019, g1020]) <;> simp only [push_cast, seval]; done) | ((try simp only [g1019]); (try simp only [g1020]); simp only [push_cast, seval]; done) | (exfalso; clear h; simp_all; done)) (by first | ((try simp only [g1019, g1020]) <;> simp only [push_cast, seval]; done) | ((try simp only [g1019]); (try simp only [g1020]); simp only [push_cast, seval]; done) | (exfalso; clear h; simp_all; done)) rfl rfl rfl)
                · refine rs 8 [] [] (by kernel_rfl) allP_nil ?_
                  refine rf [(2, bS false)] [(0, .row 35 (fl c0q1)), (1, .row 25 (Enc.cells c1q1)), (2, .row 25 (Enc.cells c2q1)), (3, .row 25 (Enc.cells c3q1))] 4 (by kernel_rfl) ?_
                  exact hK1018 () _ _ _ trivial (leSt_m [(0, 0), (1, 1), (2, 2), (3, 3)] [] (by (try simp only [g1019]) <;> simp only [push_cast, seval]) (by (try simp only [g1019]) <;> simp only [push_cast, seval]) rfl rfl rfl)
              · dsimp only
                obtain rfl := Option.some.inj h
                refine ret_at (bS ((((c0q1.length : Nat) : Int) == 0) && ((!xis1) && (xat1 == 0)))) (by kernel_rfl) ?_
                exact ret_e [] [] (by simp only [push_cast, seval]) (by simp only [push_cast, seval]) rfl rfl rfl
            · refine wk_id ?_
              refine seq_np ?_
              refine reg_f ?_
              refine rs 1 [] [] (by kernel_rfl) allP_nil ?_
              obtain ⟨r1022, hr1022, h⟩ := bind_sx h
              refine call_x (taskmillref_Read_spec text r1022 hr1022) (args := [.v (.string text)]) (dst := (some 56)) (by kernel_rfl) [(0, .row 35 (fl c0q1)), (1, .row 25 (Enc.cells c1q1)), (2, .row 25 (Enc.cells c2q1)), (3, .row 25 (Enc.cells c3q1))] 4 (by kernel_rfl) [] [] (.tup [.own 4 0 r1022.2.length, iS r1022.1]) [(4, .row 35 (fl r1022.2))] (by simp only [push_cast, seval]) (by simp only [push_cast, seval]) (by kernel_rfl) (.inl rfl) (by simp only [push_cast, seval]) (by simp only [push_cast, seval]) ?_
              refine rs 5 [] [] (by kernel_rfl) allP_nil ?_
              refine rf [(3, .own 0 0 c0q1.length), (5, bS xis1), (6, iS xat1), (9, .own 4 0 r1022.2.length), (10, iS r1022.1)] [(0, .row 35 (fl c0q1)), (1, .row 25 (Enc.cells c1q1)), (2, .row 25 (Enc.cells c2q1)), (3, .row 25 (Enc.cells c3q1)), (4, .row 35 (fl r1022.2))] 5 (by kernel_rfl) ?_
              refine wk_id ?_
              refine seq_np ?_
              refine seq_cut (A := Int × Bool) (fun a => ([(5, bS xis1), (6, iS xat1), (10, iS a.1), (68, bS a.2)], [], 0)) (fun a => (taskmilllaw_UtfReads_j1 xis1 xat1 a.1 a.2) = some r) (fun K1031 hK1031 => ?_) ?_
              · refine reg_f ?_
                refine rs 2 [] [] (by kernel_rfl) allP_nil ?_
                obtain ⟨r1032, hr1032, h⟩ := bind_sx h
                refine call_x (taskmillref_SameOff_spec c0q1 r1022.2 r1032 hr1032) (args := [.own 0 0 c0q1.length, .own 4 0 r1022.2.length]) (dst := (some 61)) (by kernel_rfl) [(0, .row 35 (fl c0q1)), (1, .row 25 (Enc.cells c1q1)), (2, .row 25 (Enc.cells c2q1)), (3, .row 25 (Enc.cells c3q1)), (4, .row 35 (fl r1022.2))] 5 (by kernel_rfl) [] [0, 4] (bS r1032) [] (by simp only [push_cast, seval]) (by simp only [push_cast, seval]) (by kernel_rfl) (.inr ⟨by simp only [push_cast, seval], by simp only [push_cast, seval]⟩) (by simp only [push_cast, seval]) (by simp only [push_cast, seval]) ?_
                refine rs 2 [] [] (by kernel_rfl) allP_nil ?_
                refine run_br h 63 (.inl (by kernel_rfl)) (fun g1033 h => ?_) (fun g1033 h => ?_)
                · refine rs 5 [] [] (by kernel_rfl) allP_nil ?_
                  refine rf [(5, bS xis1), (6, iS xat1), (10, iS r1022.1), (68, bS true)] [(0, .row 35 (fl c0q1)), (1, .row 25 (Enc.cells c1q1)), (2, .row 25 (Enc.cells c2q1)), (3, .row 25 (Enc.cells c3q1)), (4, .row 35 (fl r1022.2))] 5 (by kernel_rfl) ?_
                  exact hK1031 (r1022.1, true) _ _ _ h (leSt_m [] [] (by (try simp only [g1033]) <;> simp only [push_cast, seval]) (by (try simp only [g1033]) <;> simp only [push_cast, seval]) rfl rfl rfl)
                · refine rs 5 [] [] (by kernel_rfl) allP_nil ?_
                  refine rf [(5, bS xis1), (6, iS xat1), (10, iS r1022.1), (68, bS (xis1 != (decide (r1022.1 < 0))))] [(0, .row 35 (fl c0q1)), (1, .row 25 (Enc.cells c1q1)), (2, .row 25 (Enc.cells c2q1)), (3, .row 25 (Enc.cells c3q1)), (4, .row 35 (fl r1022.2))] 5 (by kernel_rfl) ?_
                  exact hK1031 (r1022.1, (xis1 != (decide (r1022.1 < 0)))) _ _ _ h (leSt_m [] [] (by (try simp only [g1033]) <;> simp only [push_cast, seval]) (by (try simp only [g1033]) <;> simp only [push_cast, seval]) rfl rfl rfl)
              · rintro ⟨bad2, t68q2⟩ h
                try dsimp only at h ⊢
                unfold taskmilllaw_UtfReads_j1 at h
                refine cond_sx h (by kernel_rfl) (fun g1043 h => ?_) (fun g1043 h => ?_)
                · refine seq_np ?_
                  refine reg_f ?_
                  refine rs 1 [] [] (by kernel_rfl) allP_nil ?_
                  refine rf [(2, bS false)] [] 0 (by kernel_rfl) ?_
                  refine wk_id ?_
                  obtain rfl := Option.some.inj h
                  refine ret_at (bS false) (by kernel_rfl) ?_
                  exact ret_e [] [] (by simp only [push_cast, seval]) (by simp only [push_cast, seval]) rfl rfl rfl
                · refine wk_id ?_
                  refine seq_cut (A := Unit) (fun _ => ([(2, bS (bif xis1 then ((xat1 == 0) || ((!xis1) && (xat1 == bad2))) else ((!xis1) && (xat1 == bad2))))], [], 0)) (fun _ => True) (fun K1038 hK1038 => ?_) (fun _ _ => ?_)
                  · refine reg_f ?_
                    refine rs 2 [] [] (by kernel_rfl) allP_nil ?_
                    refine run_split 70 xis1 (.inl (by kernel_rfl)) (fun g1039 => ?_) (fun g1039 => ?_)
                    · refine rs 4 [] [] (by kernel_rfl) allP_nil ?_
                      refine run_split 74 (xat1 == 0) (.inl (by kernel_rfl)) (fun g1040 => ?_) (fun g1040 => ?_)
                      · refine rs 9 [] [] (by kernel_rfl) allP_nil ?_
                        refine rf [(2, bS true)] [] 0 (by kernel_rfl) ?_
                        exact hK1038 () _ _ _ trivial (leSt_m [] [] (by first | ((try simp only [g1039, g1040]) <;> simp only [push_cast, seval]; done) | ((try simp only [g1039]); (try simp only [g1040]); simp only [push_cast, seval]; done) | (exfalso; clear h; simp_all; done)) (by first | ((try simp only [g1039, g1040]) <;> simp only [push_cast, seval]; done) | ((try simp only [g1039]); (try simp only [g1040]); simp only [push_cast, seval]; done) | (exfalso; clear h; simp_all; done)) rfl rfl rfl)
                      · refine rs 3 [] [] (by kernel_rfl) allP_nil ?_
                        refine run_split 77 (!xis1) (.inr (by kernel_rfl)) (fun g1041 => ?_) (fun g1041 => ?_)
                        · refine rn 9 [(6, iS xat1), (10, iS bad2), (74, bS false), (77, .gd true (bS true))] [] 0 (by kernel_rfl) ?_
                          refine rs 6 [] [] (by kernel_rfl) allP_nil ?_
                          refine rf [(2, bS (xat1 == bad2))] [] 0 (by kernel_rfl) ?_
                          exact hK1038 () _ _ _ trivial (leSt_m [] [] (by first | ((try simp only [g1039, g1040, g1041]) <;> simp only [push_cast, seval]; done) | ((try simp only [g1039]); (try simp only [g1040]); (try simp only [g1041]); simp only [push_cast, seval]; done) | (exfalso; clear h; simp_all; done)) (by first | ((try simp only [g1039, g1040, g1041]) <;> simp only [push_cast, seval]; done) | ((try simp only [g1039]); (try simp only [g1040]); (try simp only [g1041]); simp only [push_cast, seval]; done) | (exfalso; clear h; simp_all; done)) rfl rfl rfl)
                        · refine rn 9 [(6, iS xat1), (10, iS bad2), (74, bS false), (77, .gd true (bS false))] [] 0 (by kernel_rfl) ?_
                          refine rs 6 [] [] (by kernel_rfl) allP_nil ?_
                          refine rf [(2, bS false)] [] 0 (by kernel_rfl) ?_
                          exact hK1038 () _ _ _ trivial (leSt_m [] [] (by first | ((try simp only [g1039, g1040, g1041]) <;> simp only [push_cast, seval]; done) | ((try simp only [g1039]); (try simp only [g1040]); (try simp only [g1041]); simp only [push_cast, seval]; done) | (exfalso; clear h; simp_all; done)) (by first | ((try simp only [g1039, g1040, g1041]) <;> simp only [push_cast, seval]; done) | ((try simp only [g1039]); (try simp only [g1040]); (try simp only [g1041]); simp only [push_cast, seval]; done) | (exfalso; clear h; simp_all; done)) rfl rfl rfl)
                    · refine rs 7 [] [] (by kernel_rfl) allP_nil ?_
                      refine run_split 77 (!xis1) (.inr (by kernel_rfl)) (fun g1042 => ?_) (fun g1042 => ?_)
                      · refine rs 6 [] [] (by kernel_rfl) allP_nil ?_
                        refine rf [(2, bS (xat1 == bad2))] [] 0 (by kernel_rfl) ?_
                        exact hK1038 () _ _ _ trivial (leSt_m [] [] (by first | ((try simp only [g1039, g1042]) <;> simp only [push_cast, seval]; done) | ((try simp only [g1039]); (try simp only [g1042]); simp only [push_cast, seval]; done) | (exfalso; clear h; simp_all; done)) (by first | ((try simp only [g1039, g1042]) <;> simp only [push_cast, seval]; done) | ((try simp only [g1039]); (try simp only [g1042]); simp only [push_cast, seval]; done) | (exfalso; clear h; simp_all; done)) rfl rfl rfl)
                      · refine rs 6 [] [] (by kernel_rfl) allP_nil ?_
                        refine rf [(2, bS false)] [] 0 (by kernel_rfl) ?_
                        exact hK1038 () _ _ _ trivial (leSt_m [] [] (by first | ((try simp only [g1039, g1042]) <;> simp only [push_cast, seval]; done) | ((try simp only [g1039]); (try simp only [g1042]); simp only [push_cast, seval]; done) | (exfalso; clear h; simp_all; done)) (by first | ((try simp only [g1039, g1042]) <;> simp only [push_cast, seval]; done) | ((try simp only [g1039]); (try simp only [g1042]); simp only [push_cast, seval]; done) | (exfalso; clear h; simp_all; done)) rfl rfl rfl)
                  · dsimp only
                    obtain rfl := Option.some.inj h
                    refine ret_at (bS (bif xis1 then ((xat1 == 0) || ((!xis1) && (xat1 == bad2))) else ((!xis1) && (xat1 == bad2)))) (by kernel_rfl) ?_
                    exact ret_e [] [] (by simp only [push_cast, seval]) (by simp only [push_cast, seval]) rfl rfl rfl

end Go.Proofs.YtbnhbaehapalnaaDoor
