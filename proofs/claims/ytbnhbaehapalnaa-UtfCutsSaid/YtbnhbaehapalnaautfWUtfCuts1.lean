/-
  What laws of the chapter utf compute, and lemmas on it.
  No conditions.
-/
import Derived.Test.YtbnhbaehapalnaaProg
import Derived.Test.YtbnhbaehapalnaautfG
set_option linter.unusedSimpArgs false
set_option linter.unusedVariables false
namespace Go.Proofs.Ytbnhbaehapalnaa
open Go Go.Sx
attribute [local irreducible] Wk RunAt
theorem follows : Try.prog.follows .mixedOrders = true := by kernel_rfl
set_option maxRecDepth 100000 in
set_option maxHeartbeats 200000000 in
theorem utf_fault_spec (code : Int) (xat : Int) (r : Fault) (h : utf_fault code xat = some r) : SpecW Try.prog 15 [iS code, iS xat] [] 0 (fun x h n => x = .agg (Enc.cells r) ∧ h = [] ∧ n = 0) := by
  unfold utf_fault at h
  refine spec_of (draw_ok _) Try.func15 rfl (by decide) rfl (by kernel_rfl) ?_
  refine seq_np ?_
  refine reg_f ?_
  refine rs 1 [] [] (by kernel_rfl) allP_nil ?_
  refine rf [(0, iS code), (1, iS xat), (4, .ptr 0 0)] [(0, .row 25 [iS 0, iS 0])] 1 (by kernel_rfl) ?_
  refine wk_id ?_
  refine seq_np ?_
  refine reg_f ?_
  refine rs 4 [] [] (by kernel_rfl) allP_nil ?_
  refine rf [(4, .ptr 0 0)] [(0, .row 25 [iS code, iS xat])] 1 (by kernel_rfl) ?_
  refine wk_id ?_
  obtain rfl := Option.some.inj h
  refine ret_at (.agg [iS code, iS xat]) (by kernel_rfl) ?_
  exact ret_e [] [] (by simp only [push_cast, seval]) (by simp only [push_cast, seval]) rfl rfl rfl

set_option maxRecDepth 100000 in
set_option maxHeartbeats 200000000 in
theorem utf_Range_spec (text : ByteArray) (r : Fault × (List S39)) (h : utf_Range text = some r) : SpecW Try.prog 6 [.v (.string text)] [] 0 (fun x h n => x = .tup [.own 0 0 r.2.length, .agg (Enc.cells r.1)] ∧ h = [(0, .row 39 (fl r.2))] ∧ n = 1) := by
  unfold utf_Range at h
  refine spec_of (draw_ok _) Try.func6 rfl (by decide) rfl (by kernel_rfl) ?_
  refine seq_np ?_
  refine reg_f ?_
  refine rs 2 [] [] (by kernel_rfl) allP_nil ?_
  refine rf [(0, .v (.string text)), (3, .ptr 0 0)] [(0, .row 25 [iS 0, iS 0])] 1 (by kernel_rfl) ?_
  refine wk_id ?_
  refine seq_np ?_
  refine seq_np ?_
  refine reg_f ?_
  refine rs 3 [] [] (by kernel_rfl) allP_nil ?_
  refine rf [(0, .v (.string text)), (3, .ptr 0 0), (9, bS (decide ((20000 : Int) < (((text).size : Nat) : Int))))] [(0, .row 25 [iS 0, iS 0])] 1 (by kernel_rfl) ?_
  refine wk_id ?_
  refine cond_sx h (by kernel_rfl) (fun g49 h => ?_) (fun g49 h => ?_)
  · refine seq_np ?_
    refine reg_f ?_
    obtain ⟨r16, hr16, h⟩ := bind_sx h
    refine run_call 15 [iS 2, iS 0] (some 10) (by kernel_rfl) ?_
    refine call_0 (utf_fault_spec 2 0 r16 hr16) (by simp only [push_cast, seval]) (by simp only [push_cast, seval]) ?_
    refine back_f ?_
    refine rs 2 [] [] (by kernel_rfl) allP_nil ?_
    refine rf [(2, .v (.slice none 0 0)), (3, .ptr 0 0)] [(0, .row 25 (Enc.cells r16))] 1 (by kernel_rfl) ?_
    refine wk_id ?_
    obtain rfl := Option.some.inj h
    refine ret_at (.tup [.v (.slice none 0 0), .agg (Enc.cells r16)]) (by kernel_rfl) ?_
    exact ret_e [] [] (by simp only [push_cast, seval]) (by simp only [push_cast, seval]) rfl rfl rfl
  · refine wk_id ?_
    refine seq_np ?_
    refine reg_f ?_
    refine rs 1 [] [] (by kernel_rfl) allP_nil ?_
    refine rf [(0, .v (.string text)), (3, .ptr 0 0), (4, .v (.slice none 0 0))] [(0, .row 25 [iS 0, iS 0])] 1 (by kernel_rfl) ?_
    refine wk_id ?_
    refine seq_np ?_
    refine seq_np ?_
    refine reg_f ?_
    refine rs 2 [none, some ⟨.it 1, [(1, .obj text 0)], 2, []⟩] _ (by kernel_rfl) (allP_cons (ob_range text 1) allP_nil) ?_
    refine rf [(3, .ptr 0 0), (4, .v (.slice none 0 0)), (12, .it 1)] [(0, .row 25 [iS 0, iS 0]), (1, .obj text 0)] 2 (by kernel_rfl) ?_
    refine wk_id ?_
    refine block_np ?_
    refine loop_sx (S := (List S39) × Nat) (fun a => ([(3, .ptr 0 0), (4, .own 1 0 a.1.length), (12, .it 2)], [(0, .row 25 [iS 0, iS 0]), (1, .row 39 (fl a.1)), (2, .obj text a.2)], 3)) h (leSt_m [(0, 0), (2, 1)] [] (by simp only [push_cast, seval]) (by simp only [push_cast, seval]) rfl rfl rfl) ?_
    rintro ⟨c1q7, c2q7⟩ o2 R2 h hr2 hn2 hx2 ht2
    try dsimp only at h hn2 ⊢
    unfold utf_Range_l1 at h
    try dsimp only at h
    refine bsplit_sx h (fun g44 h => ?_) (fun g44 h => ?_)
    · refine seq_np ?_
      refine reg_f ?_
      refine rs 2 [some ⟨.tup [bS true, iS ((c2q7 : Nat) : Int), .v (.int .i32 (((Utf8.decode text c2q7).1 : Nat) : Int))], [(2, .obj text (c2q7 + (Utf8.decode text c2q7).2))], 3, [2]⟩] _ (by kernel_rfl) (allP_cons (ob_next_t text c2q7 2 3 g44) allP_nil) ?_
      refine rf [(3, .ptr 0 0), (4, .own 1 0 c1q7.length), (12, .it 2), (13, .tup [bS true, iS ((c2q7 : Nat) : Int), .v (.int .i32 (((Utf8.decode text c2q7).1 : Nat) : Int))]), (14, bS true)] [(0, .row 25 [iS 0, iS 0]), (1, .row 39 (fl c1q7)), (2, .obj text (c2q7 + (Utf8.decode text c2q7).2))] 3 (by kernel_rfl) ?_
      refine wk_id ?_
      refine seq_np ?_
      refine cond_t (by kernel_rfl) ?_
      refine wk_id ?_
      refine block_np ?_
      refine seq_np ?_
      refine reg_f ?_
      refine rs 4 [] [] (by kernel_rfl) allP_nil ?_
      refine rf [(3, .ptr 0 0), (4, .own 1 0 c1q7.length), (5, iS ((c2q7 : Nat) : Int)), (6, .v (.int .i32 (((Utf8.decode text c2q7).1 : Nat) : Int))), (12, .it 2)] [(0, .row 25 [iS 0, iS 0]), (1, .row 39 (fl c1q7)), (2, .obj text (c2q7 + (Utf8.decode text c2q7).2))] 3 (by kernel_rfl) ?_
      refine wk_id ?_
      refine chk_sx h (fun g48 h => ?_)
      refine reg_f ?_
      have k47 : (c1q7 ++ ([(S39.mk ((c2q7 : Nat) : Int) (IntKind.i64.wrap (((Utf8.decode text c2q7).1 : Nat) : Int)))] : List S39)).length * 16 ≤ 140737488355328 := by first | simpa only [Bool.and_eq_true, decide_eq_true_eq, bne_iff_ne, ne_eq] using g48 | (simp at g48 ⊢; omega)
      refine rs 8 [none, none, none, none, none, none, some ⟨.own 4 0 (c1q7 ++ ([(S39.mk ((c2q7 : Nat) : Int) (IntKind.i64.wrap (((Utf8.decode text c2q7).1 : Nat) : Int)))] : List S39)).length, [(4, .row 39 (fl (c1q7 ++ ([(S39.mk ((c2q7 : Nat) : Int) (IntKind.i64.wrap (((Utf8.decode text c2q7).1 : Nat) : Int)))] : List S39)))), (1, .dead)], 5, [1, 3]⟩] _ (by kernel_rfl) (allP_cons (ob_app (P := Try.prog) c1q7 ([(S39.mk ((c2q7 : Nat) : Int) (IntKind.i64.wrap (((Utf8.decode text c2q7).1 : Nat) : Int)))] : List S39) 2 16 rfl (appCells (fl ([(S39.mk ((c2q7 : Nat) : Int) (IntKind.i64.wrap (((Utf8.decode text c2q7).1 : Nat) : Int)))] : List S39)) 0 (([(S39.mk ((c2q7 : Nat) : Int) (IntKind.i64.wrap (((Utf8.decode text c2q7).1 : Nat) : Int)))] : List S39).length * 2)) ([(S39.mk ((c2q7 : Nat) : Int) (IntKind.i64.wrap (((Utf8.decode text c2q7).1 : Nat) : Int)))] : List S39).length (app_own ([(S39.mk ((c2q7 : Nat) : Int) (IntKind.i64.wrap (((Utf8.decode text c2q7).1 : Nat) : Int)))] : List S39) 2 rfl) rfl (0 + ([(S39.mk ((c2q7 : Nat) : Int) (IntKind.i64.wrap (((Utf8.decode text c2q7).1 : Nat) : Int)))] : List S39).length * 2 ≤ (fl ([(S39.mk ((c2q7 : Nat) : Int) (IntKind.i64.wrap (((Utf8.decode text c2q7).1 : Nat) : Int)))] : List S39)).length) (app_own_le ([(S39.mk ((c2q7 : Nat) : Int) (IntKind.i64.wrap (((Utf8.decode text c2q7).1 : Nat) : Int)))] : List S39) 2 rfl) 39 (by kernel_rfl) (by decide) k47 1 4 [3]) allP_nil) ?_
      refine rf [(3, .ptr 0 0), (4, .own 4 0 (c1q7 ++ ([(S39.mk ((c2q7 : Nat) : Int) (IntKind.i64.wrap (((Utf8.decode text c2q7).1 : Nat) : Int)))] : List S39)).length), (12, .it 2)] [(0, .row 25 [iS 0, iS 0]), (1, .dead), (2, .obj text (c2q7 + (Utf8.decode text c2q7).2)), (3, .row 39 (fl ([(S39.mk ((c2q7 : Nat) : Int) (IntKind.i64.wrap (((Utf8.decode text c2q7).1 : Nat) : Int)))] : List S39))), (4, .row 39 (fl (c1q7 ++ ([(S39.mk ((c2q7 : Nat) : Int) (IntKind.i64.wrap (((Utf8.decode text c2q7).1 : Nat) : Int)))] : List S39))))] 5 (by kernel_rfl) ?_
      refine wk_id ?_
      exact hn2 ((c1q7 ++ ([(S39.mk ((c2q7 : Nat) : Int) (IntKind.i64.wrap (((Utf8.decode text c2q7).1 : Nat) : Int)))] : List S39)), (c2q7 + (Utf8.decode text c2q7).2)) _ _ _ (Option.some.inj h).symm (leSt_m [(0, 0), (1, 4), (2, 2)] [] (by simp only [push_cast, seval]) (by simp only [push_cast, seval]) rfl rfl rfl)
    · refine seq_np ?_
      refine reg_f ?_
      refine rs 2 [some ⟨.tup [bS false], [], 3, [2]⟩] _ (by kernel_rfl) (allP_cons (ob_next_f text c2q7 2 3 g44) allP_nil) ?_
      refine rf [(3, .ptr 0 0), (4, .own 1 0 c1q7.length), (12, .it 2), (13, .tup [bS false]), (14, bS false)] [(0, .row 25 [iS 0, iS 0]), (1, .row 39 (fl c1q7)), (2, .obj text c2q7)] 3 (by kernel_rfl) ?_
      refine wk_id ?_
      refine seq_np ?_
      refine cond_f (by kernel_rfl) ?_
      change R2 (.exit 0) _ _ _
      refine ex_cast hx2 (id := 0) ?_
      obtain ⟨r0, h, e0⟩ := map_sx h
      have e1 := hr2 r0 e0.symm
      subst r0
      refine wk_id ?_
      refine wk_id ?_
      refine seq_np ?_
      refine reg_f ?_
      refine rs 4 [] [] (by kernel_rfl) allP_nil ?_
      refine rf [(2, .own 1 0 c1q7.length), (3, .ptr 0 0)] [(0, .row 25 [iS 0, iS 0]), (1, .row 39 (fl c1q7)), (2, .obj text c2q7)] 3 (by kernel_rfl) ?_
      refine wk_id ?_
      obtain rfl := Option.some.inj h
      refine ret_at (.tup [.own 1 0 c1q7.length, .agg [iS 0, iS 0]]) (by kernel_rfl) ?_
      exact ret_e [(0, 1)] [] (by simp only [push_cast, seval]) (by simp only [push_cast, seval]) rfl rfl rfl

set_option maxRecDepth 100000 in
set_option maxHeartbeats 200000000 in
theorem taskmillref_SameOff_spec (xa : (List S39)) (b : (List S39)) (r : Bool) (h : taskmillref_SameOff xa b = some r) : SpecW Try.prog 14 [.sl xa.length (fl xa), .sl b.length (fl b)] [] 0 (fun x h n => x = bS r ∧ h = [] ∧ n = 0) := by
  unfold taskmillref_SameOff at h
  refine spec_of (draw_ok _) Try.func14 rfl (by decide) rfl (by kernel_rfl) ?_
  refine seq_np ?_
  refine reg_f ?_
  refine rs 1 [] [] (by kernel_rfl) allP_nil ?_
  refine rf [(0, .sl xa.length (fl xa)), (1, .sl b.length (fl b))] [] 0 (by kernel_rfl) ?_
  refine wk_id ?_
  refine seq_np ?_
  refine seq_np ?_
  refine reg_f ?_
  refine rs 5 [] [] (by kernel_rfl) allP_nil ?_
  refine rf [(0, .sl xa.length (fl xa)), (1, .sl b.length (fl b)), (10, bS (((xa.length : Nat) : Int) != ((b.length : Nat) : Int)))] [] 0 (by kernel_rfl) ?_
  refine wk_id ?_
  refine cond_sx h (by kernel_rfl) (fun g145 h => ?_) (fun g145 h => ?_)
  · refine seq_np ?_
    refine reg_f ?_
    refine rs 1 [] [] (by kernel_rfl) allP_nil ?_
    refine rf [(4, bS false)] [] 0 (by kernel_rfl) ?_
    refine wk_id ?_
    obtain rfl := Option.some.inj h
    refine ret_at (bS false) (by kernel_rfl) ?_
    exact ret_e [] [] (by simp only [push_cast, seval]) (by simp only [push_cast, seval]) rfl rfl rfl
  · refine wk_id ?_
    refine seq_np ?_
    refine seq_np ?_
    refine reg_f ?_
    refine rs 1 [] [] (by kernel_rfl) allP_nil ?_
    refine rf [(0, .sl xa.length (fl xa)), (1, .sl b.length (fl b)), (5, iS 0)] [] 0 (by kernel_rfl) ?_
    refine wk_id ?_
    refine block_np ?_
    refine loop_sx (S := Int) (fun a => ([(0, .sl xa.length (fl xa)), (1, .sl b.length (fl b)), (5, iS a)], [], 0)) h (leSt_m [] [] (by simp only [push_cast, seval]) (by simp only [push_cast, seval]) rfl rfl rfl) ?_
    rintro i7 o2 R2 h hr2 hn2 hx2 ht2
    try dsimp only at h hn2 ⊢
    unfold taskmillref_SameOff_l1 at h
    try dsimp only at h
    refine seq_np ?_
    refine seq_np ?_
    refine reg_f ?_
    refine rs 4 [] [] (by kernel_rfl) allP_nil ?_
    refine rf [(0, .sl xa.length (fl xa)), (1, .sl b.length (fl b)), (5, iS i7), (14, bS (decide (i7 < ((xa.length : Nat) : Int))))] [] 0 (by kernel_rfl) ?_
    refine wk_id ?_
    refine cond_sx h (by kernel_rfl) (fun g144 h => ?_) (fun g144 h => ?_)
    · refine wk_id ?_
      refine seq_np ?_
      refine block_np ?_
      refine chk_sx h (fun g140 h => ?_)
      refine chk_sx h (fun g142 h => ?_)
      refine seq_np ?_
      refine reg_t ?_
      have k139 : 0 ≤ i7 ∧ i7 < ((xa.length : Nat) : Int) := by first | simpa only [Bool.and_eq_true, decide_eq_true_eq, bne_iff_ne, ne_eq] using g140 | (simp at g140 ⊢; omega)
      have k141 : 0 ≤ i7 ∧ i7 < ((b.length : Nat) : Int) := by first | simpa only [Bool.and_eq_true, decide_eq_true_eq, bne_iff_ne, ne_eq] using g142 | (simp at g142 ⊢; omega)
      refine rs 9 [none, none, some ⟨.iptr (fl xa) ((i7).toNat * 2), [], 2, []⟩, some ⟨.agg (Enc.cells (ix xa i7)), [], 3, []⟩, none, none, some ⟨.iptr (fl b) ((i7).toNat * 2), [], 6, []⟩, some ⟨.agg (Enc.cells (ix b i7)), [], 7, []⟩] _ (by kernel_rfl) (allP_cons (ob_ldw b i7 2 ((i7).toNat * 2) k141 rfl (by first | rfl | omega) [iS (ix b i7).e0, iS (ix b i7).e1] rfl 7 []) (allP_cons (ob_ix_l b 2 6 i7 k141) (allP_cons (ob_ldw xa i7 2 ((i7).toNat * 2) k139 rfl (by first | rfl | omega) [iS (ix xa i7).e0, iS (ix xa i7).e1] rfl 3 []) (allP_cons (ob_ix_l xa 2 2 i7 k139) allP_nil)))) ?_
      refine rt [(0, .sl xa.length (fl xa)), (1, .sl b.length (fl b)), (5, iS i7), (25, bS (!(((ix xa i7).e0 == (ix b i7).e0) && (((ix xa i7).e1 == (ix b i7).e1) && true))))] [] 9 follows (by kernel_rfl) ?_
      refine wk_id ?_
      refine cond_sx h (by kernel_rfl) (fun g143 h => ?_) (fun g143 h => ?_)
      · refine seq_np ?_
        refine reg_f ?_
        refine rs 1 [] [] (by kernel_rfl) allP_nil ?_
        refine rf [(4, bS false)] [] 9 (by kernel_rfl) ?_
        refine wk_id ?_
        refine rt_cast ht2 ?_
        obtain ⟨r0, h, e0⟩ := map_sx h
        have e1 := hr2 r0 e0.symm
        subst r0
        obtain rfl := Option.some.inj h
        refine ret_at (bS false) (by kernel_rfl) ?_
        exact ret_e [] [] (by simp only [push_cast, seval]) (by simp only [push_cast, seval]) rfl rfl rfl
      · refine wk_id ?_
        refine wk_id ?_
        refine reg_f ?_
        refine rs 3 [] [] (by kernel_rfl) allP_nil ?_
        refine rf [(0, .sl xa.length (fl xa)), (1, .sl b.length (fl b)), (5, iS (IntKind.i64.wrap (i7 + 1)))] [] 9 (by kernel_rfl) ?_
        exact hn2 ((IntKind.i64.wrap (i7 + 1))) _ _ _ (Option.some.inj h).symm (leSt_m [] [] (by simp only [push_cast, seval]) (by simp only [push_cast, seval]) rfl rfl rfl)
    · change R2 (.exit 0) _ _ _
      refine ex_cast hx2 (id := 0) ?_
      obtain ⟨r0, h, e0⟩ := map_sx h
      have e1 := hr2 r0 e0.symm
      subst r0
      refine wk_id ?_
      refine wk_id ?_
      refine seq_np ?_
      refine reg_f ?_
      refine rs 1 [] [] (by kernel_rfl) allP_nil ?_
      refine rf [(4, bS true)] [] 0 (by kernel_rfl) ?_
      refine wk_id ?_
      obtain rfl := Option.some.inj h
      refine ret_at (bS true) (by kernel_rfl) ?_
      exact ret_e [] [] (by simp only [push_cast, seval]) (by simp only [push_cast, seval]) rfl rfl rfl

set_option maxRecDepth 100000 in
set_option maxHeartbeats 200000000 in
theorem taskmilllaw_utfBegun_spec (r : Bool) (h : taskmilllaw_utfBegun = some r) : SpecW Try.prog 5 [] [] 0 (fun x h n => x = bS r ∧ h = [] ∧ n = 0) := by
  unfold taskmilllaw_utfBegun at h
  refine spec_of (draw_ok _) Try.func5 rfl (by decide) rfl (by kernel_rfl) ?_
  refine seq_np ?_
  refine reg_f ?_
  refine rs 1 [] [] (by kernel_rfl) allP_nil ?_
  refine rf [] [] 0 (by kernel_rfl) ?_
  refine wk_id ?_
  refine seq_np ?_
  refine reg_f ?_
  obtain ⟨r150, hr150, h⟩ := bind_sx h
  refine call_x (utf_Range_spec (ByteArray.mk #[195, 164, 255]) r150 hr150) (args := [.v (.string (ByteArray.mk #[195, 164, 255]))]) (dst := (some 4)) (by kernel_rfl) [] 0 (by kernel_rfl) [] [] (.tup [.own 0 0 r150.2.length, .agg (Enc.cells r150.1)]) [(0, .row 39 (fl r150.2))] (by simp only [push_cast, seval]) (by simp only [push_cast, seval]) (by kernel_rfl) (.inl rfl) (by simp only [push_cast, seval]) (by simp only [push_cast, seval]) ?_
  refine rs 6 [] [] (by kernel_rfl) allP_nil ?_
  refine rf [(1, .own 0 0 r150.2.length), (2, .ptr 1 0)] [(0, .row 39 (fl r150.2)), (1, .row 25 (Enc.cells r150.1))] 2 (by kernel_rfl) ?_
  refine wk_id ?_
  refine seq_cut (A := Bool) (fun a => ([(0, bS a)], [], 0)) (fun a => (taskmilllaw_utfBegun_j1 a) = some r) (fun K154 hK154 => ?_) ?_
  · refine reg_f ?_
    refine rs 4 [] [] (by kernel_rfl) allP_nil ?_
    refine run_br h 10 (.inl (by kernel_rfl)) (fun g155 h => ?_) (fun g155 h => ?_)
    · refine rs 4 [] [] (by kernel_rfl) allP_nil ?_
      obtain ⟨r156, hr156, h⟩ := bind_sx h
      refine call_x (taskmillref_SameOff_spec r150.2 ([(S39.mk 0 228), (S39.mk 2 65533)] : List S39) r156 hr156) (args := [.own 0 0 r150.2.length, .own 2 0 ([(S39.mk 0 228), (S39.mk 2 65533)] : List S39).length]) (dst := (some 15)) (by kernel_rfl) [(0, .row 39 (fl r150.2)), (1, .row 25 (Enc.cells r150.1)), (2, .row 39 (fl ([(S39.mk 0 228), (S39.mk 2 65533)] : List S39)))] 3 (by kernel_rfl) [] [0, 2] (bS r156) [] (by simp only [push_cast, seval]) (by simp only [push_cast, seval]) (by kernel_rfl) (.inr ⟨by simp only [push_cast, seval], by simp only [push_cast, seval]⟩) (by simp only [push_cast, seval]) (by simp only [push_cast, seval]) ?_
      refine rs 2 [] [] (by kernel_rfl) allP_nil ?_
      refine rf [(0, bS r156)] [(0, .row 39 (fl r150.2)), (1, .row 25 (Enc.cells r150.1)), (2, .row 39 (fl ([(S39.mk 0 228), (S39.mk 2 65533)] : List S39)))] 3 (by kernel_rfl) ?_
      exact hK154 (r156) _ _ _ h (leSt_m [] [] (by (try simp only [g155]) <;> simp only [push_cast, seval]) (by (try simp only [g155]) <;> simp only [push_cast, seval]) rfl rfl rfl)
    · refine rs 7 [] [] (by kernel_rfl) allP_nil ?_
      refine rf [(0, bS false)] [(0, .row 39 (fl r150.2)), (1, .row 25 (Enc.cells r150.1))] 2 (by kernel_rfl) ?_
      exact hK154 (false) _ _ _ h (leSt_m [] [] (by (try simp only [g155]) <;> simp only [push_cast, seval]) (by (try simp only [g155]) <;> simp only [push_cast, seval]) rfl rfl rfl)
  · rintro t0q1 h
    try dsimp only at h ⊢
    unfold taskmilllaw_utfBegun_j1 at h
    obtain rfl := Option.some.inj h
    refine ret_at (bS t0q1) (by kernel_rfl) ?_
    exact ret_e [] [] (by simp only [push_cast, seval]) (by simp only [push_cast, seval]) rfl rfl rfl

set_option maxRecDepth 100000 in
set_option maxHeartbeats 200000000 in
theorem utf_Cut_spec (text : ByteArray) (xfrom : Int) (to : Int) (r : ByteArray × Fault) (h : utf_Cut text xfrom to = some r) : SpecW Try.prog 7 [.v (.string text), iS xfrom, iS to] [] 0 (fun x h n => x = .tup [.v (.string r.1), .agg (Enc.cells r.2)] ∧ h = [] ∧ n = 0) := by
  unfold utf_Cut at h
  refine spec_of (draw_ok _) Try.func7 rfl (by decide) rfl (by kernel_rfl) ?_
  refine seq_np ?_
  refine reg_f ?_
  refine rs 2 [] [] (by kernel_rfl) allP_nil ?_
  refine rf [(0, .v (.string text)), (1, iS xfrom), (2, iS to), (7, .ptr 0 0)] [(0, .row 25 [iS 0, iS 0])] 1 (by kernel_rfl) ?_
  refine wk_id ?_
  refine seq_np ?_
  refine seq_np ?_
  refine reg_f ?_
  refine rs 3 [] [] (by kernel_rfl) allP_nil ?_
  refine rf [(0, .v (.string text)), (1, iS xfrom), (2, iS to), (7, .ptr 0 0), (12, bS (decide ((20000 : Int) < (((text).size : Nat) : Int))))] [(0, .row 25 [iS 0, iS 0])] 1 (by kernel_rfl) ?_
  refine wk_id ?_
  refine cond_sx h (by kernel_rfl) (fun g253 h => ?_) (fun g253 h => ?_)
  · refine seq_np ?_
    refine reg_f ?_
    obtain ⟨r192, hr192, h⟩ := bind_sx h
    refine run_call 15 [iS 2, iS 0] (some 13) (by kernel_rfl) ?_
    refine call_0 (utf_fault_spec 2 0 r192 hr192) (by simp only [push_cast, seval]) (by simp only [push_cast, seval]) ?_
    refine back_f ?_
    refine rs 2 [] [] (by kernel_rfl) allP_nil ?_
    refine rf [(6, .v (.string ByteArray.empty)), (7, .ptr 0 0)] [(0, .row 25 (Enc.cells r192))] 1 (by kernel_rfl) ?_
    refine wk_id ?_
    obtain rfl := Option.some.inj h
    refine ret_at (.tup [.v (.string ByteArray.empty), .agg (Enc.cells r192)]) (by kernel_rfl) ?_
    exact ret_e [] [] (by simp only [push_cast, seval]) (by simp only [push_cast, seval]) rfl rfl rfl
  · refine wk_id ?_
    refine seq_np ?_
    refine reg_f ?_
    refine rs 1 [] [] (by kernel_rfl) allP_nil ?_
    refine rf [(0, .v (.string text)), (1, iS xfrom), (2, iS to), (7, .ptr 0 0), (8, .v (.slice none 0 0))] [(0, .row 25 [iS 0, iS 0])] 1 (by kernel_rfl) ?_
    refine wk_id ?_
    refine seq_np ?_
    refine seq_np ?_
    refine reg_f ?_
    refine rs 2 [none, some ⟨.it 1, [(1, .obj text 0)], 2, []⟩] _ (by kernel_rfl) (allP_cons (ob_range text 1) allP_nil) ?_
    refine rf [(0, .v (.string text)), (1, iS xfrom), (2, iS to), (7, .ptr 0 0), (8, .v (.slice none 0 0)), (15, .it 1)] [(0, .row 25 [iS 0, iS 0]), (1, .obj text 0)] 2 (by kernel_rfl) ?_
    refine wk_id ?_
    refine block_np ?_
    refine loop_sx (S := (List Int) × Nat) (fun a => ([(0, .v (.string text)), (1, iS xfrom), (2, iS to), (7, .ptr 0 0), (8, .own 1 0 a.1.length), (15, .it 2)], [(0, .row 25 [iS 0, iS 0]), (1, .row 3 (fl a.1)), (2, .obj text a.2)], 3)) h (leSt_m [(0, 0), (2, 1)] [] (by simp only [push_cast, seval]) (by simp only [push_cast, seval]) rfl rfl rfl) ?_
    rintro ⟨c1q7, c2q7⟩ o2 R2 h hr2 hn2 hx2 ht2
    try dsimp only at h hn2 ⊢
    unfold utf_Cut_l1 at h
    try dsimp only at h
    refine bsplit_sx h (fun g220 h => ?_) (fun g220 h => ?_)
    · refine seq_np ?_
      refine reg_f ?_
      refine rs 2 [some ⟨.tup [bS true, iS ((c2q7 : Nat) : Int), .v (.int .i32 (((Utf8.decode text c2q7).1 : Nat) : Int))], [(2, .obj text (c2q7 + (Utf8.decode text c2q7).2))], 3, [2]⟩] _ (by kernel_rfl) (allP_cons (ob_next_t text c2q7 2 3 g220) allP_nil) ?_
      refine rf [(0, .v (.string text)), (1, iS xfrom), (2, iS to), (7, .ptr 0 0), (8, .own 1 0 c1q7.length), (15, .it 2), (16, .tup [bS true, iS ((c2q7 : Nat) : Int), .v (.int .i32 (((Utf8.decode text c2q7).1 : Nat) : Int))]), (17, bS true)] [(0, .row 25 [iS 0, iS 0]), (1, .row 3 (fl c1q7)), (2, .obj text (c2q7 + (Utf8.decode text c2q7).2))] 3 (by kernel_rfl) ?_
      refine wk_id ?_
      refine seq_np ?_
      refine cond_t (by kernel_rfl) ?_
      refine wk_id ?_
      refine block_np ?_
      refine seq_np ?_
      refine reg_f ?_
      refine rs 2 [] [] (by kernel_rfl) allP_nil ?_
      refine rf [(0, .v (.string text)), (1, iS xfrom), (2, iS to), (7, .ptr 0 0), (8, .own 1 0 c1q7.length), (9, iS ((c2q7 : Nat) : Int)), (15, .it 2)] [(0, .row 25 [iS 0, iS 0]), (1, .row 3 (fl c1q7)), (2, .obj text (c2q7 + (Utf8.decode text c2q7).2))] 3 (by kernel_rfl) ?_
      refine wk_id ?_
      refine chk_sx h (fun g224 h => ?_)
      refine reg_f ?_
      have k223 : (c1q7 ++ ([((c2q7 : Nat) : Int)] : List Int)).length * 8 ≤ 140737488355328 := by first | simpa only [Bool.and_eq_true, decide_eq_true_eq, bne_iff_ne, ne_eq] using g224 | (simp at g224 ⊢; omega)
      refine rs 5 [none, none, none, some ⟨.own 4 0 (c1q7 ++ ([((c2q7 : Nat) : Int)] : List Int)).length, [(4, .row 3 (fl (c1q7 ++ ([((c2q7 : Nat) : Int)] : List Int)))), (1, .dead)], 5, [1, 3]⟩] _ (by kernel_rfl) (allP_cons (ob_app (P := Try.prog) c1q7 ([((c2q7 : Nat) : Int)] : List Int) 1 8 rfl (appCells (fl ([((c2q7 : Nat) : Int)] : List Int)) 0 (([((c2q7 : Nat) : Int)] : List Int).length * 1)) ([((c2q7 : Nat) : Int)] : List Int).length (app_own ([((c2q7 : Nat) : Int)] : List Int) 1 rfl) rfl (0 + ([((c2q7 : Nat) : Int)] : List Int).length * 1 ≤ (fl ([((c2q7 : Nat) : Int)] : List Int)).length) (app_own_le ([((c2q7 : Nat) : Int)] : List Int) 1 rfl) 3 (by kernel_rfl) (by decide) k223 1 4 [3]) allP_nil) ?_
      refine rf [(0, .v (.string text)), (1, iS xfrom), (2, iS to), (7, .ptr 0 0), (8, .own 4 0 (c1q7 ++ ([((c2q7 : Nat) : Int)] : List Int)).length), (15, .it 2)] [(0, .row 25 [iS 0, iS 0]), (1, .dead), (2, .obj text (c2q7 + (Utf8.decode text c2q7).2)), (3, .row 3 (fl ([((c2q7 : Nat) : Int)] : List Int))), (4, .row 3 (fl (c1q7 ++ ([((c2q7 : Nat) : Int)] : List Int))))] 5 (by kernel_rfl) ?_
      refine wk_id ?_
      exact hn2 ((c1q7 ++ ([((c2q7 : Nat) : Int)] : List Int)), (c2q7 + (Utf8.decode text c2q7).2)) _ _ _ (Option.some.inj h).symm (leSt_m [(0, 0), (1, 4), (2, 2)] [] (by simp only [push_cast, seval]) (by simp only [push_cast, seval]) rfl rfl rfl)
    · refine seq_np ?_
      refine reg_f ?_
      refine rs 2 [some ⟨.tup [bS false], [], 3, [2]⟩] _ (by kernel_rfl) (allP_cons (ob_next_f text c2q7 2 3 g220) allP_nil) ?_
      refine rf [(0, .v (.string text)), (1, iS xfrom), (2, iS to), (7, .ptr 0 0), (8, .own 1 0 c1q7.length), (15, .it 2), (16, .tup [bS false]), (17, bS false)] [(0, .row 25 [iS 0, iS 0]), (1, .row 3 (fl c1q7)), (2, .obj text c2q7)] 3 (by kernel_rfl) ?_
      refine wk_id ?_
      refine seq_np ?_
      refine cond_f (by kernel_rfl) ?_
      change R2 (.exit 0) _ _ _
      refine ex_cast hx2 (id := 0) ?_
      obtain ⟨r0, h, e0⟩ := map_sx h
      have e1 := hr2 r0 e0.symm
      subst r0
      refine wk_id ?_
      refine wk_id ?_
      refine chk_sx h (fun g228 h => ?_)
      refine seq_np ?_
      refine reg_f ?_
      have k227 : (c1q7 ++ ([(((text).size : Nat) : Int)] : List Int)).length * 8 ≤ 140737488355328 := by first | simpa only [Bool.and_eq_true, decide_eq_true_eq, bne_iff_ne, ne_eq] using g228 | (simp at g228 ⊢; omega)
      refine rs 6 [none, none, none, none, some ⟨.own 4 0 (c1q7 ++ ([(((text).size : Nat) : Int)] : List Int)).length, [(4, .row 3 (fl (c1q7 ++ ([(((text).size : Nat) : Int)] : List Int)))), (1, .dead)], 5, [1, 3]⟩] _ (by kernel_rfl) (allP_cons (ob_app (P := Try.prog) c1q7 ([(((text).size : Nat) : Int)] : List Int) 1 8 rfl (appCells (fl ([(((text).size : Nat) : Int)] : List Int)) 0 (([(((text).size : Nat) : Int)] : List Int).length * 1)) ([(((text).size : Nat) : Int)] : List Int).length (app_own ([(((text).size : Nat) : Int)] : List Int) 1 rfl) rfl (0 + ([(((text).size : Nat) : Int)] : List Int).length * 1 ≤ (fl ([(((text).size : Nat) : Int)] : List Int)).length) (app_own_le ([(((text).size : Nat) : Int)] : List Int) 1 rfl) 3 (by kernel_rfl) (by decide) k227 1 4 [3]) allP_nil) ?_
      refine rf [(0, .v (.string text)), (1, iS xfrom), (2, iS to), (7, .ptr 0 0), (8, .own 4 0 (c1q7 ++ ([(((text).size : Nat) : Int)] : List Int)).length)] [(0, .row 25 [iS 0, iS 0]), (1, .dead), (2, .obj text c2q7), (3, .row 3 (fl ([(((text).size : Nat) : Int)] : List Int))), (4, .row 3 (fl (c1q7 ++ ([(((text).size : Nat) : Int)] : List Int))))] 5 (by kernel_rfl) ?_
      refine wk_id ?_
      refine seq_np ?_
      refine seq_cut (A := Unit) (fun _ => ([(0, .v (.string text)), (1, iS xfrom), (2, iS to), (7, .ptr 0 0), (8, .own 4 0 (c1q7 ++ ([(((text).size : Nat) : Int)] : List Int)).length), (40, bS ((decide (xfrom < 0)) || ((decide (to < xfrom)) || (decide ((((c1q7 ++ ([(((text).size : Nat) : Int)] : List Int)).length : Nat) : Int) ≤ to)))))], [(0, .row 25 [iS 0, iS 0]), (2, .obj text c2q7), (3, .row 3 (fl ([(((text).size : Nat) : Int)] : List Int))), (4, .row 3 (fl (c1q7 ++ ([(((text).size : Nat) : Int)] : List Int))))], 5)) (fun _ => True) (fun K235 hK235 => ?_) (fun _ _ => ?_)
      · refine reg_f ?_
        refine rs 3 [] [] (by kernel_rfl) allP_nil ?_
        refine run_split 30 (decide (xfrom < 0)) (.inl (by kernel_rfl)) (fun g236 => ?_) (fun g236 => ?_)
        · refine rs 10 [] [] (by kernel_rfl) allP_nil ?_
          refine rf [(0, .v (.string text)), (1, iS xfrom), (2, iS to), (7, .ptr 0 0), (8, .own 4 0 (c1q7 ++ ([(((text).size : Nat) : Int)] : List Int)).length), (40, bS true)] [(0, .row 25 [iS 0, iS 0]), (1, .dead), (2, .obj text c2q7), (3, .row 3 (fl ([(((text).size : Nat) : Int)] : List Int))), (4, .row 3 (fl (c1q7 ++ ([(((text).size : Nat) : Int)] : List Int))))] 5 (by kernel_rfl) ?_
          exact hK235 () _ _ _ trivial (leSt_m [(0, 0), (2, 2), (3, 3), (4, 4)] [] (by (try simp only [g236]) <;> simp only [push_cast, seval]) (by (try simp only [g236]) <;> simp only [push_cast, seval]) rfl rfl rfl)
        · refine rs 5 [] [] (by kernel_rfl) allP_nil ?_
          refine run_split 35 (decide (to < xfrom)) (.inl (by kernel_rfl)) (fun g237 => ?_) (fun g237 => ?_)
          · refine rs 5 [] [] (by kernel_rfl) allP_nil ?_
            refine rf [(0, .v (.string text)), (1, iS xfrom), (2, iS to), (7, .ptr 0 0), (8, .own 4 0 (c1q7 ++ ([(((text).size : Nat) : Int)] : List Int)).length), (40, bS true)] [(0, .row 25 [iS 0, iS 0]), (1, .dead), (2, .obj text c2q7), (3, .row 3 (fl ([(((text).size : Nat) : Int)] : List Int))), (4, .row 3 (fl (c1q7 ++ ([(((text).size : Nat) : Int)] : List Int))))] 5 (by kernel_rfl) ?_
            exact hK235 () _ _ _ trivial (leSt_m [(0, 0), (2, 2), (3, 3), (4, 4)] [] (by first | ((try simp only [g236, g237]) <;> simp only [push_cast, seval]; done) | ((try simp only [g236]); (try simp only [g237]); simp only [push_cast, seval]; done) | (exfalso; clear h; simp_all; done)) (by first | ((try simp only [g236, g237]) <;> simp only [push_cast, seval]; done) | ((try simp only [g236]); (try simp only [g237]); simp only [push_cast, seval]; done) | (exfalso; clear h; simp_all; done)) rfl rfl rfl)
          · refine rs 5 [] [] (by kernel_rfl) allP_nil ?_
            refine rf [(0, .v (.string text)), (1, iS xfrom), (2, iS to), (7, .ptr 0 0), (8, .own 4 0 (c1q7 ++ ([(((text).size : Nat) : Int)] : List Int)).length), (40, bS (decide ((((c1q7 ++ ([(((text).size : Nat) : Int)] : List Int)).length : Nat) : Int) ≤ to)))] [(0, .row 25 [iS 0, iS 0]), (1, .dead), (2, .obj text c2q7), (3, .row 3 (fl ([(((text).size : Nat) : Int)] : List Int))), (4, .row 3 (fl (c1q7 ++ ([(((text).size : Nat) : Int)] : List Int))))] 5 (by kernel_rfl) ?_
            exact hK235 () _ _ _ trivial (leSt_m [(0, 0), (2, 2), (3, 3), (4, 4)] [] (by first | ((try simp only [g236, g237]) <;> simp only [push_cast, seval]; done) | ((try simp only [g236]); (try simp only [g237]); simp only [push_cast, seval]; done) | (exfalso; clear h; simp_all; done)) (by first | ((try simp only [g236, g237]) <;> simp only [push_cast, seval]; done) | ((try simp only [g236]); (try simp only [g237]); simp only [push_cast, seval]; done) | (exfalso; clear h; simp_all; done)) rfl rfl rfl)
      · dsimp only
        refine cond_sx h (by kernel_rfl) (fun g252 h => ?_) (fun g252 h => ?_)
        · refine seq_np ?_
          refine reg_f ?_
          obtain ⟨r239, hr239, h⟩ := bind_sx h
          refine run_call 15 [iS 3, iS 0] (some 41) (by kernel_rfl) ?_
          refine call_0 (utf_fault_spec 3 0 r239 hr239) (by simp only [push_cast, seval]) (by simp only [push_cast, seval]) ?_
          refine back_f ?_
          refine rs 2 [] [] (by kernel_rfl) allP_nil ?_
          refine rf [(6, .v (.string ByteArray.empty)), (7, .ptr 0 0)] [(0, .row 25 (Enc.cells r239)), (2, .obj text c2q7), (3, .row 3 (fl ([(((text).size : Nat) : Int)] : List Int))), (4, .row 3 (fl (c1q7 ++ ([(((text).size : Nat) : Int)] : List Int))))] 5 (by kernel_rfl) ?_
          refine wk_id ?_
          obtain rfl := Option.some.inj h
          refine ret_at (.tup [.v (.string ByteArray.empty), .agg (Enc.cells r239)]) (by kernel_rfl) ?_
          exact ret_e [] [] (by simp only [push_cast, seval]) (by simp only [push_cast, seval]) rfl rfl rfl
        · refine wk_id ?_
          refine chk_sx h (fun g247 h => ?_)
          refine chk_sx h (fun g249 h => ?_)
          refine chk_sx h (fun g251 h => ?_)
          refine seq_np ?_
          refine reg_t ?_
          have k246 : 0 ≤ xfrom ∧ xfrom < (((c1q7 ++ ([(((text).size : Nat) : Int)] : List Int)).length : Nat) : Int) := by first | simpa only [Bool.and_eq_true, decide_eq_true_eq, bne_iff_ne, ne_eq] using g247 | (simp at g247 ⊢; omega)
          have k248 : 0 ≤ to ∧ to < (((c1q7 ++ ([(((text).size : Nat) : Int)] : List Int)).length : Nat) : Int) := by first | simpa only [Bool.and_eq_true, decide_eq_true_eq, bne_iff_ne, ne_eq] using g249 | (simp at g249 ⊢; omega)
          have k250 : 0 ≤ (ix (c1q7 ++ ([(((text).size : Nat) : Int)] : List Int)) xfrom) ∧ (ix (c1q7 ++ ([(((text).size : Nat) : Int)] : List Int)) xfrom) ≤ (ix (c1q7 ++ ([(((text).size : Nat) : Int)] : List Int)) to) ∧ (ix (c1q7 ++ ([(((text).size : Nat) : Int)] : List Int)) to) ≤ (((text).size : Nat) : Int) := by first | simpa only [Bool.and_eq_true, decide_eq_true_eq, bne_iff_ne, ne_eq] using g251 | (simp at g251 ⊢; omega)
          refine rs 13 [none, none, none, some ⟨.ptr 4 (0 + (xfrom).toNat * 1), [], 8, [4]⟩, some ⟨iS (ix (c1q7 ++ ([(((text).size : Nat) : Int)] : List Int)) xfrom), [], 9, [4]⟩, none, none, some ⟨.ptr 4 (0 + (to).toNat * 1), [], 12, [4]⟩, some ⟨iS (ix (c1q7 ++ ([(((text).size : Nat) : Int)] : List Int)) to), [], 13, [4]⟩, some ⟨.v (.string ((text).extract ((ix (c1q7 ++ ([(((text).size : Nat) : Int)] : List Int)) xfrom)).toNat ((ix (c1q7 ++ ([(((text).size : Nat) : Int)] : List Int)) to)).toNat)), [], 14, []⟩] _ (by kernel_rfl) (allP_cons (ob_p (v := .v (.string ((text).extract ((ix (c1q7 ++ ([(((text).size : Nat) : Int)] : List Int)) xfrom)).toNat ((ix (c1q7 ++ ([(((text).size : Nat) : Int)] : List Int)) to)).toNat))) (nx := 14) (r := []) k250) (allP_cons (ob_ld (c1q7 ++ ([(((text).size : Nat) : Int)] : List Int)) to 1 0 (0 + (to).toNat * 1) k248 rfl (by decide) (by first | rfl | omega) (dflS Try.prog 3) (iS (ix (c1q7 ++ ([(((text).size : Nat) : Int)] : List Int)) to)) rfl 13 [4]) (allP_cons (ob_ix_o 4 (c1q7 ++ ([(((text).size : Nat) : Int)] : List Int)).length 0 1 12 to k248) (allP_cons (ob_ld (c1q7 ++ ([(((text).size : Nat) : Int)] : List Int)) xfrom 1 0 (0 + (xfrom).toNat * 1) k246 rfl (by decide) (by first | rfl | omega) (dflS Try.prog 3) (iS (ix (c1q7 ++ ([(((text).size : Nat) : Int)] : List Int)) xfrom)) rfl 9 [4]) (allP_cons (ob_ix_o 4 (c1q7 ++ ([(((text).size : Nat) : Int)] : List Int)).length 0 1 8 xfrom k246) allP_nil))))) ?_
          refine rt [(6, .v (.string ((text).extract ((ix (c1q7 ++ ([(((text).size : Nat) : Int)] : List Int)) xfrom)).toNat ((ix (c1q7 ++ ([(((text).size : Nat) : Int)] : List Int)) to)).toNat))), (7, .ptr 0 0)] [(0, .row 25 [iS 0, iS 0]), (2, .obj text c2q7), (3, .row 3 (fl ([(((text).size : Nat) : Int)] : List Int))), (4, .row 3 (fl (c1q7 ++ ([(((text).size : Nat) : Int)] : List Int))))] 18 follows (by kernel_rfl) ?_
          refine wk_id ?_
          obtain rfl := Option.some.inj h
          refine ret_at (.tup [.v (.string ((text).extract ((ix (c1q7 ++ ([(((text).size : Nat) : Int)] : List Int)) xfrom)).toNat ((ix (c1q7 ++ ([(((text).size : Nat) : Int)] : List Int)) to)).toNat)), .agg [iS 0, iS 0]]) (by kernel_rfl) ?_
          exact ret_e [] [] (by simp only [push_cast, seval]) (by simp only [push_cast, seval]) rfl rfl rfl

set_option maxRecDepth 100000 in
set_option maxHeartbeats 200000000 in
theorem taskmilllaw_UtfCuts_spec (text : ByteArray) (xa : Int) (b : Int) (r : Bool) (h : taskmilllaw_UtfCuts text xa b = some r) : SpecW Try.prog 3 [.v (.string text), iS xa, iS b] [] 0 (fun x h n => x = bS r ∧ h = [] ∧ n = 0) := by
  unfold taskmilllaw_UtfCuts at h
  refine spec_of (draw_ok _) Try.func3 rfl (by decide) rfl (by kernel_rfl) ?_
  refine seq_np ?_
  refine reg_f ?_
  refine rs 1 [] [] (by kernel_rfl) allP_nil ?_
  refine rf [(0, .v (.string text)), (1, iS xa), (2, iS b)] [] 0 (by kernel_rfl) ?_
  refine wk_id ?_
  refine seq_np ?_
  refine seq_np ?_
  refine reg_f ?_
  obtain ⟨r270, hr270, h⟩ := bind_sx h
  refine run_call 5 [] (some 17) (by kernel_rfl) ?_
  refine call_0 (taskmilllaw_utfBegun_spec r270 hr270) (by simp only [push_cast, seval]) (by simp only [push_cast, seval]) ?_
  refine back_f ?_
  refine rs 1 [] [] (by kernel_rfl) allP_nil ?_
  refine rf [(0, .v (.string text)), (1, iS xa), (2, iS b), (18, bS (!r270))] [] 0 (by kernel_rfl) ?_
  refine wk_id ?_
  refine cond_sx h (by kernel_rfl) (fun g314 h => ?_) (fun g314 h => ?_)
  · refine seq_np ?_
    refine reg_f ?_
    refine rs 1 [] [] (by kernel_rfl) allP_nil ?_
    refine rf [(6, bS false)] [] 0 (by kernel_rfl) ?_
    refine wk_id ?_
    obtain rfl := Option.some.inj h
    refine ret_at (bS false) (by kernel_rfl) ?_
    exact ret_e [] [] (by simp only [push_cast, seval]) (by simp only [push_cast, seval]) rfl rfl rfl
  · refine wk_id ?_
    refine seq_np ?_
    refine seq_np ?_
    refine reg_f ?_
    refine rs 3 [] [] (by kernel_rfl) allP_nil ?_
    refine rf [(0, .v (.string text)), (1, iS xa), (2, iS b), (21, bS (decide ((20000 : Int) < (((text).size : Nat) : Int))))] [] 0 (by kernel_rfl) ?_
    refine wk_id ?_
    refine cond_sx h (by kernel_rfl) (fun g313 h => ?_) (fun g313 h => ?_)
    · refine seq_np ?_
      refine reg_f ?_
      refine rs 1 [] [] (by kernel_rfl) allP_nil ?_
      refine rf [(6, bS true)] [] 0 (by kernel_rfl) ?_
      refine wk_id ?_
      obtain rfl := Option.some.inj h
      refine ret_at (bS true) (by kernel_rfl) ?_
      exact ret_e [] [] (by simp only [push_cast, seval]) (by simp only [push_cast, seval]) rfl rfl rfl
    · refine wk_id ?_
      refine seq_np ?_
      refine reg_f ?_
      refine rs 1 [] [] (by kernel_rfl) allP_nil ?_
      obtain ⟨r273, hr273, h⟩ := bind_sx h
      refine call_x (utf_Range_spec text r273 hr273) (args := [.v (.string text)]) (dst := (some 24)) (by kernel_rfl) [] 0 (by kernel_rfl) [] [] (.tup [.own 0 0 r273.2.length, .agg (Enc.cells r273.1)]) [(0, .row 39 (fl r273.2))] (by simp only [push_cast, seval]) (by simp only [push_cast, seval]) (by kernel_rfl) (.inl rfl) (by simp only [push_cast, seval]) (by simp only [push_cast, seval]) ?_
      refine rs 6 [] [] (by kernel_rfl) allP_nil ?_
      refine rf [(0, .v (.string text)), (1, iS xa), (2, iS b), (7, .own 0 0 r273.2.length), (8, .ptr 1 0)] [(0, .row 39 (fl r273.2)), (1, .row 25 (Enc.cells r273.1))] 2 (by kernel_rfl) ?_
      refine wk_id ?_
      refine seq_np ?_
      refine seq_cut (A := Unit) (fun _ => ([(0, .v (.string text)), (1, iS xa), (2, iS b), (7, .own 0 0 r273.2.length), (8, .ptr 1 0), (44, bS ((r273.1.Code != 0) || ((decide (xa < 0)) || ((decide (b < xa)) || (decide (((r273.2.length : Nat) : Int) < b))))))], [(0, .row 39 (fl r273.2)), (1, .row 25 (Enc.cells r273.1))], 2)) (fun _ => True) (fun K281 hK281 => ?_) (fun _ _ => ?_)
      · refine reg_f ?_
        refine rs 4 [] [] (by kernel_rfl) allP_nil ?_
        refine run_split 30 (r273.1.Code != 0) (.inl (by kernel_rfl)) (fun g282 => ?_) (fun g282 => ?_)
        · refine rs 14 [] [] (by kernel_rfl) allP_nil ?_
          refine rf [(0, .v (.string text)), (1, iS xa), (2, iS b), (7, .own 0 0 r273.2.length), (8, .ptr 1 0), (44, bS true)] [(0, .row 39 (fl r273.2)), (1, .row 25 (Enc.cells r273.1))] 2 (by kernel_rfl) ?_
          exact hK281 () _ _ _ trivial (leSt_m [(0, 0), (1, 1)] [] (by (try simp only [g282]) <;> simp only [push_cast, seval]) (by (try simp only [g282]) <;> simp only [push_cast, seval]) rfl rfl rfl)
        · refine rs 4 [] [] (by kernel_rfl) allP_nil ?_
          refine run_split 34 (decide (xa < 0)) (.inl (by kernel_rfl)) (fun g283 => ?_) (fun g283 => ?_)
          · refine rs 10 [] [] (by kernel_rfl) allP_nil ?_
            refine rf [(0, .v (.string text)), (1, iS xa), (2, iS b), (7, .own 0 0 r273.2.length), (8, .ptr 1 0), (44, bS true)] [(0, .row 39 (fl r273.2)), (1, .row 25 (Enc.cells r273.1))] 2 (by kernel_rfl) ?_
            exact hK281 () _ _ _ trivial (leSt_m [(0, 0), (1, 1)] [] (by first | ((try simp only [g282, g283]) <;> simp only [push_cast, seval]; done) | ((try simp only [g282]); (try simp only [g283]); simp only [push_cast, seval]; done) | (exfalso; clear h; simp_all; done)) (by first | ((try simp only [g282, g283]) <;> simp only [push_cast, seval]; done) | ((try simp only [g282]); (try simp only [g283]); simp only [push_cast, seval]; done) | (exfalso; clear h; simp_all; done)) rfl rfl rfl)
          · refine rs 5 [] [] (by kernel_rfl) allP_nil ?_
            refine run_split 39 (decide (b < xa)) (.inl (by kernel_rfl)) (fun g284 => ?_) (fun g284 => ?_)
            · refine rn 13 [(0, .v (.string text)), (1, iS xa), (2, iS b), (7, .own 0 0 r273.2.length), (8, .ptr 1 0), (39, bS true)] [(0, .row 39 (fl r273.2)), (1, .row 25 (Enc.cells r273.1))] 2 (by kernel_rfl) ?_
              refine rs 5 [] [] (by kernel_rfl) allP_nil ?_
              refine rf [(0, .v (.string text)), (1, iS xa), (2, iS b), (7, .own 0 0 r273.2.length), (8, .ptr 1 0), (44, bS true)] [(0, .row 39 (fl r273.2)), (1, .row 25 (Enc.cells r273.1))] 2 (by kernel_rfl) ?_
              exact hK281 () _ _ _ trivial (leSt_m [(0, 0), (1, 1)] [] (by first | ((try simp only [g282, g283, g284]) <;> simp only [push_cast, seval]; done) | ((try simp only [g282]); (try simp only [g283]); (try simp only [g284]); simp only [push_cast, seval]; done) | (exfalso; clear h; simp_all; done)) (by first | ((try simp only [g282, g283, g284]) <;> simp only [push_cast, seval]; done) | ((try simp only [g282]); (try simp only [g283]); (try simp only [g284]); simp only [push_cast, seval]; done) | (exfalso; clear h; simp_all; done)) rfl rfl rfl)
            · refine rn 13 [(0, .v (.string text)), (1, iS xa), (2, iS b), (7, .own 0 0 r273.2.length), (8, .ptr 1 0), (39, bS false)] [(0, .row 39 (fl r273.2)), (1, .row 25 (Enc.cells r273.1))] 2 (by kernel_rfl) ?_
              refine rs 5 [] [] (by kernel_rfl) allP_nil ?_
              refine rf [(0, .v (.string text)), (1, iS xa), (2, iS b), (7, .own 0 0 r273.2.length), (8, .ptr 1 0), (44, bS (decide (((r273.2.length : Nat) : Int) < b)))] [(0, .row 39 (fl r273.2)), (1, .row 25 (Enc.cells r273.1))] 2 (by kernel_rfl) ?_
              exact hK281 () _ _ _ trivial (leSt_m [(0, 0), (1, 1)] [] (by first | ((try simp only [g282, g283, g284]) <;> simp only [push_cast, seval]; done) | ((try simp only [g282]); (try simp only [g283]); (try simp only [g284]); simp only [push_cast, seval]; done) | (exfalso; clear h; simp_all; done)) (by first | ((try simp only [g282, g283, g284]) <;> simp only [push_cast, seval]; done) | ((try simp only [g282]); (try simp only [g283]); (try simp only [g284]); simp only [push_cast, seval]; done) | (exfalso; clear h; simp_all; done)) rfl rfl rfl)
      · dsimp only
        refine cond_sx h (by kernel_rfl) (fun g312 h => ?_) (fun g312 h => ?_)
        · refine seq_np ?_
          refine reg_f ?_
          refine rs 4 [] [] (by kernel_rfl) allP_nil ?_
          refine rf [(6, bS (r273.1.Code == 0))] [(0, .row 39 (fl r273.2)), (1, .row 25 (Enc.cells r273.1))] 2 (by kernel_rfl) ?_
          refine wk_id ?_
          obtain rfl := Option.some.inj h
          refine ret_at (bS (r273.1.Code == 0)) (by kernel_rfl) ?_
          exact ret_e [] [] (by simp only [push_cast, seval]) (by simp only [push_cast, seval]) rfl rfl rfl
        · refine wk_id ?_
          refine seq_np ?_
          refine reg_f ?_
          refine rs 2 [] [] (by kernel_rfl) allP_nil ?_
          obtain ⟨r286, hr286, h⟩ := bind_sx h
          refine run_call 7 [.v (.string text), iS 0, iS xa] (some 51) (by kernel_rfl) ?_
          refine call_0 (utf_Cut_spec text 0 xa r286 hr286) (by simp only [push_cast, seval]) (by simp only [push_cast, seval]) ?_
          refine back_f ?_
          refine rs 6 [] [] (by kernel_rfl) allP_nil ?_
          refine rf [(0, .v (.string text)), (1, iS xa), (2, iS b), (7, .own 0 0 r273.2.length), (9, .v (.string r286.1)), (10, .ptr 2 0)] [(0, .row 39 (fl r273.2)), (1, .row 25 (Enc.cells r273.1)), (2, .row 25 (Enc.cells r286.2))] 3 (by kernel_rfl) ?_
          refine wk_id ?_
          refine seq_np ?_
          refine reg_f ?_
          refine rs 3 [] [] (by kernel_rfl) allP_nil ?_
          obtain ⟨r288, hr288, h⟩ := bind_sx h
          refine run_call 7 [.v (.string text), iS xa, iS b] (some 58) (by kernel_rfl) ?_
          refine call_0 (utf_Cut_spec text xa b r288 hr288) (by simp only [push_cast, seval]) (by simp only [push_cast, seval]) ?_
          refine back_f ?_
          refine rs 6 [] [] (by kernel_rfl) allP_nil ?_
          refine rf [(0, .v (.string text)), (1, iS xa), (2, iS b), (7, .own 0 0 r273.2.length), (9, .v (.string r286.1)), (10, .ptr 2 0), (11, .v (.string r288.1)), (12, .ptr 3 0)] [(0, .row 39 (fl r273.2)), (1, .row 25 (Enc.cells r273.1)), (2, .row 25 (Enc.cells r286.2)), (3, .row 25 (Enc.cells r288.2))] 4 (by kernel_rfl) ?_
          refine wk_id ?_
          refine seq_np ?_
          refine reg_f ?_
          refine rs 4 [] [] (by kernel_rfl) allP_nil ?_
          obtain ⟨r290, hr290, h⟩ := bind_sx h
          refine run_call 7 [.v (.string text), iS b, iS ((r273.2.length : Nat) : Int)] (some 66) (by kernel_rfl) ?_
          refine call_0 (utf_Cut_spec text b ((r273.2.length : Nat) : Int) r290 hr290) (by simp only [push_cast, seval]) (by simp only [push_cast, seval]) ?_
          refine back_f ?_
          refine rs 6 [] [] (by kernel_rfl) allP_nil ?_
          refine rf [(0, .v (.string text)), (1, iS xa), (2, iS b), (9, .v (.string r286.1)), (10, .ptr 2 0), (11, .v (.string r288.1)), (12, .ptr 3 0), (13, .v (.string r290.1)), (14, .ptr 4 0)] [(0, .row 39 (fl r273.2)), (1, .row 25 (Enc.cells r273.1)), (2, .row 25 (Enc.cells r286.2)), (3, .row 25 (Enc.cells r288.2)), (4, .row 25 (Enc.cells r290.2))] 5 (by kernel_rfl) ?_
          refine wk_id ?_
          refine seq_np ?_
          refine reg_f ?_
          refine rs 1 [] [] (by kernel_rfl) allP_nil ?_
          obtain ⟨r292, hr292, h⟩ := bind_sx h
          refine call_x (utf_Range_spec r288.1 r292 hr292) (args := [.v (.string r288.1)]) (dst := (some 71)) (by kernel_rfl) [(0, .row 39 (fl r273.2)), (1, .row 25 (Enc.cells r273.1)), (2, .row 25 (Enc.cells r286.2)), (3, .row 25 (Enc.cells r288.2)), (4, .row 25 (Enc.cells r290.2))] 5 (by kernel_rfl) [] [] (.tup [.own 5 0 r292.2.length, .agg (Enc.cells r292.1)]) [(5, .row 39 (fl r292.2))] (by simp only [push_cast, seval]) (by simp only [push_cast, seval]) (by kernel_rfl) (.inl rfl) (by simp only [push_cast, seval]) (by simp only [push_cast, seval]) ?_
          refine rs 6 [] [] (by kernel_rfl) allP_nil ?_
          refine rf [(0, .v (.string text)), (1, iS xa), (2, iS b), (9, .v (.string r286.1)), (10, .ptr 2 0), (11, .v (.string r288.1)), (12, .ptr 3 0), (13, .v (.string r290.1)), (14, .ptr 4 0), (15, .own 5 0 r292.2.length), (16, .ptr 6 0)] [(0, .row 39 (fl r273.2)), (1, .row 25 (Enc.cells r273.1)), (2, .row 25 (Enc.cells r286.2)), (3, .row 25 (Enc.cells r288.2)), (4, .row 25 (Enc.cells r290.2)), (5, .row 39 (fl r292.2)), (6, .row 25 (Enc.cells r292.1))] 7 (by kernel_rfl) ?_
          refine wk_id ?_
          refine chk_sx h (fun g308 h => ?_)
          refine chk_sx h (fun g310 h => ?_)
          refine seq_cut (A := Unit) (fun _ => ([(6, bS ((r286.2.Code == 0) && ((r288.2.Code == 0) && ((r290.2.Code == 0) && ((r292.1.Code == 0) && ((decide (((r286.1 ++ r288.1) ++ r290.1) = text)) && (decide ((IntKind.i64.wrap (b - xa)) ≤ ((r292.2.length : Nat) : Int)))))))))], [(0, .row 39 (fl r273.2)), (1, .row 25 (Enc.cells r273.1)), (2, .row 25 (Enc.cells r286.2)), (3, .row 25 (Enc.cells r288.2)), (4, .row 25 (Enc.cells r290.2)), (5, .row 39 (fl r292.2)), (6, .row 25 (Enc.cells r292.1))], 7)) (fun _ => True) (fun K302 hK302 => ?_) (fun _ _ => ?_)
          · refine reg_f ?_
            refine rs 4 [] [] (by kernel_rfl) allP_nil ?_
            refine run_split 77 (r286.2.Code == 0) (.inl (by kernel_rfl)) (fun g303 => ?_) (fun g303 => ?_)
            · refine rs 5 [] [] (by kernel_rfl) allP_nil ?_
              refine run_split 82 (r288.2.Code == 0) (.inl (by kernel_rfl)) (fun g304 => ?_) (fun g304 => ?_)
              · refine rs 5 [] [] (by kernel_rfl) allP_nil ?_
                refine run_split 87 (r290.2.Code == 0) (.inl (by kernel_rfl)) (fun g305 => ?_) (fun g305 => ?_)
                · refine rn 14 [(0, .v (.string text)), (1, iS xa), (2, iS b), (9, .v (.string r286.1)), (11, .v (.string r288.1)), (13, .v (.string r290.1)), (15, .own 5 0 r292.2.length), (16, .ptr 6 0), (87, bS true)] [(0, .row 39 (fl r273.2)), (1, .row 25 (Enc.cells r273.1)), (2, .row 25 (Enc.cells r286.2)), (3, .row 25 (Enc.cells r288.2)), (4, .row 25 (Enc.cells r290.2)), (5, .row 39 (fl r292.2)), (6, .row 25 (Enc.cells r292.1))] 7 (by kernel_rfl) ?_
                  refine rs 5 [] [] (by kernel_rfl) allP_nil ?_
                  refine run_split 92 (r292.1.Code == 0) (.inl (by kernel_rfl)) (fun g306 => ?_) (fun g306 => ?_)
                  · have k307 : (r286.1).size + (r288.1).size ≤ 9223372036854775807 := by have e := or_use g308 (by first | ((try simp only [g303, g304, g305, g306]) <;> rfl) | ((try simp only [g303]); (try simp only [g304]); (try simp only [g305]); (try simp only [g306]); rfl) | (exfalso; clear h; simp_all; done)); first | simpa only [Bool.and_eq_true, decide_eq_true_eq, bne_iff_ne, ne_eq] using e | (simp at e ⊢; omega)
                    have k309 : ((r286.1 ++ r288.1)).size + (r290.1).size ≤ 9223372036854775807 := by have e := or_use g310 (by first | ((try simp only [g303, g304, g305, g306]) <;> rfl) | ((try simp only [g303]); (try simp only [g304]); (try simp only [g305]); (try simp only [g306]); rfl) | (exfalso; clear h; simp_all; done)); first | simpa only [Bool.and_eq_true, decide_eq_true_eq, bne_iff_ne, ne_eq] using e | (simp at e ⊢; omega)
                    refine rs 9 [none, none, some ⟨.v (.string (r286.1 ++ r288.1)), [], 7, []⟩, none, some ⟨.v (.string ((r286.1 ++ r288.1) ++ r290.1)), [], 7, []⟩, none, some ⟨bS (decide (((r286.1 ++ r288.1) ++ r290.1) = text)), [], 7, []⟩] _ (by kernel_rfl) (allP_cons (ob_p (v := bS (decide (((r286.1 ++ r288.1) ++ r290.1) = text))) (nx := 7) (r := []) trivial) (allP_cons (ob_p (v := .v (.string ((r286.1 ++ r288.1) ++ r290.1))) (nx := 7) (r := []) k309) (allP_cons (ob_p (v := .v (.string (r286.1 ++ r288.1))) (nx := 7) (r := []) k307) allP_nil))) ?_
                    refine run_split 101 (decide (((r286.1 ++ r288.1) ++ r290.1) = text)) (.inl (by kernel_rfl)) (fun g311 => ?_) (fun g311 => ?_)
                    · refine rs 8 [] [] (by kernel_rfl) allP_nil ?_
                      refine rf [(6, bS (decide ((IntKind.i64.wrap (b - xa)) ≤ ((r292.2.length : Nat) : Int))))] [(0, .row 39 (fl r273.2)), (1, .row 25 (Enc.cells r273.1)), (2, .row 25 (Enc.cells r286.2)), (3, .row 25 (Enc.cells r288.2)), (4, .row 25 (Enc.cells r290.2)), (5, .row 39 (fl r292.2)), (6, .row 25 (Enc.cells r292.1))] 7 (by kernel_rfl) ?_
                      exact hK302 () _ _ _ trivial (leSt_m [(0, 0), (1, 1), (2, 2), (3, 3), (4, 4), (5, 5), (6, 6)] [] (by first | ((try simp only [g303, g304, g305, g306, g311]) <;> simp only [push_cast, seval]; done) | ((try simp only [g303]); (try simp only [g304]); (try simp only [g305]); (try simp only [g306]); (try simp only [g311]); simp only [push_cast, seval]; done) | (exfalso; clear h; simp_all; done)) (by first | ((try simp only [g303, g304, g305, g306, g311]) <;> simp only [push_cast, seval]; done) | ((try simp only [g303]); (try simp only [g304]); (try simp only [g305]); (try simp only [g306]); (try simp only [g311]); simp only [push_cast, seval]; done) | (exfalso; clear h; simp_all; done)) rfl rfl rfl)
                    · refine rs 8 [] [] (by kernel_rfl) allP_nil ?_
                      refine rf [(6, bS false)] [(0, .row 39 (fl r273.2)), (1, .row 25 (Enc.cells r273.1)), (2, .row 25 (Enc.cells r286.2)), (3, .row 25 (Enc.cells r288.2)), (4, .row 25 (Enc.cells r290.2)), (5, .row 39 (fl r292.2)), (6, .row 25 (Enc.cells r292.1))] 7 (by kernel_rfl) ?_
                      exact hK302 () _ _ _ trivial (leSt_m [(0, 0), (1, 1), (2, 2), (3, 3), (4, 4), (5, 5), (6, 6)] [] (by first | ((try simp only [g303, g304, g305, g306, g311]) <;> simp only [push_cast, seval]; done) | ((try simp only [g303]); (try simp only [g304]); (try simp only [g305]); (try simp only [g306]); (try simp only [g311]); simp only [push_cast, seval]; done) | (exfalso; clear h; simp_all; done)) (by first | ((try simp only [g303, g304, g305, g306, g311]) <;> simp only [push_cast, seval]; done) | ((try simp only [g303]); (try simp only [g304]); (try simp only [g305]); (try simp only [g306]); (try simp only [g311]); simp only [push_cast, seval]; done) | (exfalso; clear h; simp_all; done)) rfl rfl rfl)
                  · refine rs 17 [] [] (by kernel_rfl) allP_nil ?_
                    refine rf [(6, bS false)] [(0, .row 39 (fl r273.2)), (1, .row 25 (Enc.cells r273.1)), (2, .row 25 (Enc.cells r286.2)), (3, .row 25 (Enc.cells r288.2)), (4, .row 25 (Enc.cells r290.2)), (5, .row 39 (fl r292.2)), (6, .row 25 (Enc.cells r292.1))] 7 (by kernel_rfl) ?_
                    exact hK302 () _ _ _ trivial (leSt_m [(0, 0), (1, 1), (2, 2), (3, 3), (4, 4), (5, 5), (6, 6)] [] (by first | ((try simp only [g303, g304, g305, g306]) <;> simp only [push_cast, seval]; done) | ((try simp only [g303]); (try simp only [g304]); (try simp only [g305]); (try simp only [g306]); simp only [push_cast, seval]; done) | (exfalso; clear h; simp_all; done)) (by first | ((try simp only [g303, g304, g305, g306]) <;> simp only [push_cast, seval]; done) | ((try simp only [g303]); (try simp only [g304]); (try simp only [g305]); (try simp only [g306]); simp only [push_cast, seval]; done) | (exfalso; clear h; simp_all; done)) rfl rfl rfl)
                · refine rn 14 [(0, .v (.string text)), (1, iS xa), (2, iS b), (9, .v (.string r286.1)), (11, .v (.string r288.1)), (13, .v (.string r290.1)), (15, .own 5 0 r292.2.length), (16, .ptr 6 0), (87, bS false)] [(0, .row 39 (fl r273.2)), (1, .row 25 (Enc.cells r273.1)), (2, .row 25 (Enc.cells r286.2)), (3, .row 25 (Enc.cells r288.2)), (4, .row 25 (Enc.cells r290.2)), (5, .row 39 (fl r292.2)), (6, .row 25 (Enc.cells r292.1))] 7 (by kernel_rfl) ?_
                  refine rs 22 [] [] (by kernel_rfl) allP_nil ?_
                  refine rf [(6, bS false)] [(0, .row 39 (fl r273.2)), (1, .row 25 (Enc.cells r273.1)), (2, .row 25 (Enc.cells r286.2)), (3, .row 25 (Enc.cells r288.2)), (4, .row 25 (Enc.cells r290.2)), (5, .row 39 (fl r292.2)), (6, .row 25 (Enc.cells r292.1))] 7 (by kernel_rfl) ?_
                  exact hK302 () _ _ _ trivial (leSt_m [(0, 0), (1, 1), (2, 2), (3, 3), (4, 4), (5, 5), (6, 6)] [] (by first | ((try simp only [g303, g304, g305]) <;> simp only [push_cast, seval]; done) | ((try simp only [g303]); (try simp only [g304]); (try simp only [g305]); simp only [push_cast, seval]; done) | (exfalso; clear h; simp_all; done)) (by first | ((try simp only [g303, g304, g305]) <;> simp only [push_cast, seval]; done) | ((try simp only [g303]); (try simp only [g304]); (try simp only [g305]); simp only [push_cast, seval]; done) | (exfalso; clear h; simp_all; done)) rfl rfl rfl)
              · refine rs 27 [] [] (by kernel_rfl) allP_nil ?_
                refine rf [(6, bS false)] [(0, .row 39 (fl r273.2)), (1, .row 25 (Enc.cells r273.1)), (2, .row 25 (Enc.cells r286.2)), (3, .row 25 (Enc.cells r288.2)), (4, .row 25 (Enc.cells r290.2)), (5, .row 39 (fl r292.2)), (6, .row 25 (Enc.cells r292.1))] 7 (by kernel_rfl) ?_
                exact hK302 () _ _ _ trivial (leSt_m [(0, 0), (1, 1), (2, 2), (3, 3), (4, 4), (5, 5), (6, 6)] [] (by first | ((try simp only [g303, g304]) <;> simp only [push_cast, seval]; done) | ((try simp only [g303]); (try simp only [g304]); simp only [push_cast, seval]; done) | (exfalso; clear h; simp_all; done)) (by first | ((try simp only [g303, g304]) <;> simp only [push_cast, seval]; done) | ((try simp only [g303]); (try simp only [g304]); simp only [push_cast, seval]; done) | (exfalso; clear h; simp_all; done)) rfl rfl rfl)
            · refine rs 32 [] [] (by kernel_rfl) allP_nil ?_
              refine rf [(6, bS false)] [(0, .row 39 (fl r273.2)), (1, .row 25 (Enc.cells r273.1)), (2, .row 25 (Enc.cells r286.2)), (3, .row 25 (Enc.cells r288.2)), (4, .row 25 (Enc.cells r290.2)), (5, .row 39 (fl r292.2)), (6, .row 25 (Enc.cells r292.1))] 7 (by kernel_rfl) ?_
              exact hK302 () _ _ _ trivial (leSt_m [(0, 0), (1, 1), (2, 2), (3, 3), (4, 4), (5, 5), (6, 6)] [] (by (try simp only [g303]) <;> simp only [push_cast, seval]) (by (try simp only [g303]) <;> simp only [push_cast, seval]) rfl rfl rfl)
          · dsimp only
            obtain rfl := Option.some.inj h
            refine ret_at (bS ((r286.2.Code == 0) && ((r288.2.Code == 0) && ((r290.2.Code == 0) && ((r292.1.Code == 0) && ((decide (((r286.1 ++ r288.1) ++ r290.1) = text)) && (decide ((IntKind.i64.wrap (b - xa)) ≤ ((r292.2.length : Nat) : Int))))))))) (by kernel_rfl) ?_
            exact ret_e [] [] (by simp only [push_cast, seval]) (by simp only [push_cast, seval]) rfl rfl rfl

end Go.Proofs.Ytbnhbaehapalnaa
