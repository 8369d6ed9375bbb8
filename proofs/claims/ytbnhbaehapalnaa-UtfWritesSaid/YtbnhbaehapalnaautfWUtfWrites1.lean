/-
  What laws of the chapter utf compute, and lemmas on it.
  No conditions.
-/
import Derived.Test.YtbnhbaehapalnaaProg
import Derived.Test.YtbnhbaehapalnaautfG
set_option linter.unusedSimpArgs false
set_option linter.unusedVariables false
namespace Go.Proofs.Ytbnhbaehapalnaa
open Go Go.Sx
attribute [local irreducible] Wk RunAt
theorem follows : Try.prog.follows .mixedOrders = true := by kernel_rfl
set_option maxRecDepth 100000 in
set_option maxHeartbeats 200000000 in
theorem utf_fault_spec (code : Int) (xat : Int) (r : Fault) (h : utf_fault code xat = some r) : SpecW Try.prog 15 [iS code, iS xat] [] 0 (fun x h n => x = .agg (Enc.cells r) ∧ h = [] ∧ n = 0) := by
  unfold utf_fault at h
  refine spec_of (draw_ok _) Try.func15 rfl (by decide) rfl (by kernel_rfl) ?_
  refine seq_np ?_
  refine reg_f ?_
  refine rs 1 [] [] (by kernel_rfl) allP_nil ?_
  refine rf [(0, iS code), (1, iS xat), (4, .ptr 0 0)] [(0, .row 25 [iS 0, iS 0])] 1 (by kernel_rfl) ?_
  refine wk_id ?_
  refine seq_np ?_
  refine reg_f ?_
  refine rs 4 [] [] (by kernel_rfl) allP_nil ?_
  refine rf [(4, .ptr 0 0)] [(0, .row 25 [iS code, iS xat])] 1 (by kernel_rfl) ?_
  refine wk_id ?_
  obtain rfl := Option.some.inj h
  refine ret_at (.agg [iS code, iS xat]) (by kernel_rfl) ?_
  exact ret_e [] [] (by simp only [push_cast, seval]) (by simp only [push_cast, seval]) rfl rfl rfl

set_option maxRecDepth 100000 in
set_option maxHeartbeats 200000000 in
theorem utf_Range_spec (text : ByteArray) (r : Fault × (List S39)) (h : utf_Range text = some r) : SpecW Try.prog 6 [.v (.string text)] [] 0 (fun x h n => x = .tup [.own 0 0 r.2.length, .agg (Enc.cells r.1)] ∧ h = [(0, .row 39 (fl r.2))] ∧ n = 1) := by
  unfold utf_Range at h
  refine spec_of (draw_ok _) Try.func6 rfl (by decide) rfl (by kernel_rfl) ?_
  refine seq_np ?_
  refine reg_f ?_
  refine rs 2 [] [] (by kernel_rfl) allP_nil ?_
  refine rf [(0, .v (.string text)), (3, .ptr 0 0)] [(0, .row 25 [iS 0, iS 0])] 1 (by kernel_rfl) ?_
  refine wk_id ?_
  refine seq_np ?_
  refine seq_np ?_
  refine reg_f ?_
  refine rs 3 [] [] (by kernel_rfl) allP_nil ?_
  refine rf [(0, .v (.string text)), (3, .ptr 0 0), (9, bS (decide ((20000 : Int) < (((text).size : Nat) : Int))))] [(0, .row 25 [iS 0, iS 0])] 1 (by kernel_rfl) ?_
  refine wk_id ?_
  refine cond_sx h (by kernel_rfl) (fun g49 h => ?_) (fun g49 h => ?_)
  · refine seq_np ?_
    refine reg_f ?_
    obtain ⟨r16, hr16, h⟩ := bind_sx h
    refine run_call 15 [iS 2, iS 0] (some 10) (by kernel_rfl) ?_
    refine call_0 (utf_fault_spec 2 0 r16 hr16) (by simp only [push_cast, seval]) (by simp only [push_cast, seval]) ?_
    refine back_f ?_
    refine rs 2 [] [] (by kernel_rfl) allP_nil ?_
    refine rf [(2, .v (.slice none 0 0)), (3, .ptr 0 0)] [(0, .row 25 (Enc.cells r16))] 1 (by kernel_rfl) ?_
    refine wk_id ?_
    obtain rfl := Option.some.inj h
    refine ret_at (.tup [.v (.slice none 0 0), .agg (Enc.cells r16)]) (by kernel_rfl) ?_
    exact ret_e [] [] (by simp only [push_cast, seval]) (by simp only [push_cast, seval]) rfl rfl rfl
  · refine wk_id ?_
    refine seq_np ?_
    refine reg_f ?_
    refine rs 1 [] [] (by kernel_rfl) allP_nil ?_
    refine rf [(0, .v (.string text)), (3, .ptr 0 0), (4, .v (.slice none 0 0))] [(0, .row 25 [iS 0, iS 0])] 1 (by kernel_rfl) ?_
    refine wk_id ?_
    refine seq_np ?_
    refine seq_np ?_
    refine reg_f ?_
    refine rs 2 [none, some ⟨.it 1, [(1, .obj text 0)], 2, []⟩] _ (by kernel_rfl) (allP_cons (ob_range text 1) allP_nil) ?_
    refine rf [(3, .ptr 0 0), (4, .v (.slice none 0 0)), (12, .it 1)] [(0, .row 25 [iS 0, iS 0]), (1, .obj text 0)] 2 (by kernel_rfl) ?_
    refine wk_id ?_
    refine block_np ?_
    refine loop_sx (S := (List S39) × Nat) (fun a => ([(3, .ptr 0 0), (4, .own 1 0 a.1.length), (12, .it 2)], [(0, .row 25 [iS 0, iS 0]), (1, .row 39 (fl a.1)), (2, .obj text a.2)], 3)) h (leSt_m [(0, 0), (2, 1)] [] (by simp only [push_cast, seval]) (by simp only [push_cast, seval]) rfl rfl rfl) ?_
    rintro ⟨c1q7, c2q7⟩ o2 R2 h hr2 hn2 hx2 ht2
    try dsimp only at h hn2 ⊢
    unfold utf_Range_l1 at h
    try dsimp only at h
    refine bsplit_sx h (fun g44 h => ?_) (fun g44 h => ?_)
    · refine seq_np ?_
      refine reg_f ?_
      refine rs 2 [some ⟨.tup [bS true, iS ((c2q7 : Nat) : Int), .v (.int .i32 (((Utf8.decode text c2q7).1 : Nat) : Int))], [(2, .obj text (c2q7 + (Utf8.decode text c2q7).2))], 3, [2]⟩] _ (by kernel_rfl) (allP_cons (ob_next_t text c2q7 2 3 g44) allP_nil) ?_
      refine rf [(3, .ptr 0 0), (4, .own 1 0 c1q7.length), (12, .it 2), (13, .tup [bS true, iS ((c2q7 : Nat) : Int), .v (.int .i32 (((Utf8.decode text c2q7).1 : Nat) : Int))]), (14, bS true)] [(0, .row 25 [iS 0, iS 0]), (1, .row 39 (fl c1q7)), (2, .obj text (c2q7 + (Utf8.decode text c2q7).2))] 3 (by kernel_rfl) ?_
      refine wk_id ?_
      refine seq_np ?_
      refine cond_t (by kernel_rfl) ?_
      refine wk_id ?_
      refine block_np ?_
      refine seq_np ?_
      refine reg_f ?_
      refine rs 4 [] [] (by kernel_rfl) allP_nil ?_
      refine rf [(3, .ptr 0 0), (4, .own 1 0 c1q7.length), (5, iS ((c2q7 : Nat) : Int)), (6, .v (.int .i32 (((Utf8.decode text c2q7).1 : Nat) : Int))), (12, .it 2)] [(0, .row 25 [iS 0, iS 0]), (1, .row 39 (fl c1q7)), (2, .obj text (c2q7 + (Utf8.decode text c2q7).2))] 3 (by kernel_rfl) ?_
      refine wk_id ?_
      refine chk_sx h (fun g48 h => ?_)
      refine reg_f ?_
      have k47 : (c1q7 ++ ([(S39.mk ((c2q7 : Nat) : Int) (IntKind.i64.wrap (((Utf8.decode text c2q7).1 : Nat) : Int)))] : List S39)).length * 16 ≤ 140737488355328 := by first | simpa only [Bool.and_eq_true, decide_eq_true_eq, bne_iff_ne, ne_eq] using g48 | (simp at g48 ⊢; omega)
      refine rs 8 [none, none, none, none, none, none, some ⟨.own 4 0 (c1q7 ++ ([(S39.mk ((c2q7 : Nat) : Int) (IntKind.i64.wrap (((Utf8.decode text c2q7).1 : Nat) : Int)))] : List S39)).length, [(4, .row 39 (fl (c1q7 ++ ([(S39.mk ((c2q7 : Nat) : Int) (IntKind.i64.wrap (((Utf8.decode text c2q7).1 : Nat) : Int)))] : List S39)))), (1, .dead)], 5, [1, 3]⟩] _ (by kernel_rfl) (allP_cons (ob_app (P := Try.prog) c1q7 ([(S39.mk ((c2q7 : Nat) : Int) (IntKind.i64.wrap (((Utf8.decode text c2q7).1 : Nat) : Int)))] : List S39) 2 16 rfl (appCells (fl ([(S39.mk ((c2q7 : Nat) : Int) (IntKind.i64.wrap (((Utf8.decode text c2q7).1 : Nat) : Int)))] : List S39)) 0 (([(S39.mk ((c2q7 : Nat) : Int) (IntKind.i64.wrap (((Utf8.decode text c2q7).1 : Nat) : Int)))] : List S39).length * 2)) ([(S39.mk ((c2q7 : Nat) : Int) (IntKind.i64.wrap (((Utf8.decode text c2q7).1 : Nat) : Int)))] : List S39).length (app_own ([(S39.mk ((c2q7 : Nat) : Int) (IntKind.i64.wrap (((Utf8.decode text c2q7).1 : Nat) : Int)))] : List S39) 2 rfl) rfl (0 + ([(S39.mk ((c2q7 : Nat) : Int) (IntKind.i64.wrap (((Utf8.decode text c2q7).1 : Nat) : Int)))] : List S39).length * 2 ≤ (fl ([(S39.mk ((c2q7 : Nat) : Int) (IntKind.i64.wrap (((Utf8.decode text c2q7).1 : Nat) : Int)))] : List S39)).length) (app_own_le ([(S39.mk ((c2q7 : Nat) : Int) (IntKind.i64.wrap (((Utf8.decode text c2q7).1 : Nat) : Int)))] : List S39) 2 rfl) 39 (by kernel_rfl) (by decide) k47 1 4 [3]) allP_nil) ?_
      refine rf [(3, .ptr 0 0), (4, .own 4 0 (c1q7 ++ ([(S39.mk ((c2q7 : Nat) : Int) (IntKind.i64.wrap (((Utf8.decode text c2q7).1 : Nat) : Int)))] : List S39)).length), (12, .it 2)] [(0, .row 25 [iS 0, iS 0]), (1, .dead), (2, .obj text (c2q7 + (Utf8.decode text c2q7).2)), (3, .row 39 (fl ([(S39.mk ((c2q7 : Nat) : Int) (IntKind.i64.wrap (((Utf8.decode text c2q7).1 : Nat) : Int)))] : List S39))), (4, .row 39 (fl (c1q7 ++ ([(S39.mk ((c2q7 : Nat) : Int) (IntKind.i64.wrap (((Utf8.decode text c2q7).1 : Nat) : Int)))] : List S39))))] 5 (by kernel_rfl) ?_
      refine wk_id ?_
      exact hn2 ((c1q7 ++ ([(S39.mk ((c2q7 : Nat) : Int) (IntKind.i64.wrap (((Utf8.decode text c2q7).1 : Nat) : Int)))] : List S39)), (c2q7 + (Utf8.decode text c2q7).2)) _ _ _ (Option.some.inj h).symm (leSt_m [(0, 0), (1, 4), (2, 2)] [] (by simp only [push_cast, seval]) (by simp only [push_cast, seval]) rfl rfl rfl)
    · refine seq_np ?_
      refine reg_f ?_
      refine rs 2 [some ⟨.tup [bS false], [], 3, [2]⟩] _ (by kernel_rfl) (allP_cons (ob_next_f text c2q7 2 3 g44) allP_nil) ?_
      refine rf [(3, .ptr 0 0), (4, .own 1 0 c1q7.length), (12, .it 2), (13, .tup [bS false]), (14, bS false)] [(0, .row 25 [iS 0, iS 0]), (1, .row 39 (fl c1q7)), (2, .obj text c2q7)] 3 (by kernel_rfl) ?_
      refine wk_id ?_
      refine seq_np ?_
      refine cond_f (by kernel_rfl) ?_
      change R2 (.exit 0) _ _ _
      refine ex_cast hx2 (id := 0) ?_
      obtain ⟨r0, h, e0⟩ := map_sx h
      have e1 := hr2 r0 e0.symm
      subst r0
      refine wk_id ?_
      refine wk_id ?_
      refine seq_np ?_
      refine reg_f ?_
      refine rs 4 [] [] (by kernel_rfl) allP_nil ?_
      refine rf [(2, .own 1 0 c1q7.length), (3, .ptr 0 0)] [(0, .row 25 [iS 0, iS 0]), (1, .row 39 (fl c1q7)), (2, .obj text c2q7)] 3 (by kernel_rfl) ?_
      refine wk_id ?_
      obtain rfl := Option.some.inj h
      refine ret_at (.tup [.own 1 0 c1q7.length, .agg [iS 0, iS 0]]) (by kernel_rfl) ?_
      exact ret_e [(0, 1)] [] (by simp only [push_cast, seval]) (by simp only [push_cast, seval]) rfl rfl rfl

set_option maxRecDepth 100000 in
set_option maxHeartbeats 200000000 in
theorem taskmillref_SameOff_spec (xa : (List S39)) (b : (List S39)) (r : Bool) (h : taskmillref_SameOff xa b = some r) : SpecW Try.prog 14 [.sl xa.length (fl xa), .sl b.length (fl b)] [] 0 (fun x h n => x = bS r ∧ h = [] ∧ n = 0) := by
  unfold taskmillref_SameOff at h
  refine spec_of (draw_ok _) Try.func14 rfl (by decide) rfl (by kernel_rfl) ?_
  refine seq_np ?_
  refine reg_f ?_
  refine rs 1 [] [] (by kernel_rfl) allP_nil ?_
  refine rf [(0, .sl xa.length (fl xa)), (1, .sl b.length (fl b))] [] 0 (by kernel_rfl) ?_
  refine wk_id ?_
  refine seq_np ?_
  refine seq_np ?_
  refine reg_f ?_
  refine rs 5 [] [] (by kernel_rfl) allP_nil ?_
  refine rf [(0, .sl xa.length (fl xa)), (1, .sl b.length (fl b)), (10, bS (((xa.length : Nat) : Int) != ((b.length : Nat) : Int)))] [] 0 (by kernel_rfl) ?_
  refine wk_id ?_
  refine cond_sx h (by kernel_rfl) (fun g145 h => ?_) (fun g145 h => ?_)
  · refine seq_np ?_
    refine reg_f ?_
    refine rs 1 [] [] (by kernel_rfl) allP_nil ?_
    refine rf [(4, bS false)] [] 0 (by kernel_rfl) ?_
    refine wk_id ?_
    obtain rfl := Option.some.inj h
    refine ret_at (bS false) (by kernel_rfl) ?_
    exact ret_e [] [] (by simp only [push_cast, seval]) (by simp only [push_cast, seval]) rfl rfl rfl
  · refine wk_id ?_
    refine seq_np ?_
    refine seq_np ?_
    refine reg_f ?_
    refine rs 1 [] [] (by kernel_rfl) allP_nil ?_
    refine rf [(0, .sl xa.length (fl xa)), (1, .sl b.length (fl b)), (5, iS 0)] [] 0 (by kernel_rfl) ?_
    refine wk_id ?_
    refine block_np ?_
    refine loop_sx (S := Int) (fun a => ([(0, .sl xa.length (fl xa)), (1, .sl b.length (fl b)), (5, iS a)], [], 0)) h (leSt_m [] [] (by simp only [push_cast, seval]) (by simp only [push_cast, seval]) rfl rfl rfl) ?_
    rintro i7 o2 R2 h hr2 hn2 hx2 ht2
    try dsimp only at h hn2 ⊢
    unfold taskmillref_SameOff_l1 at h
    try dsimp only at h
    refine seq_np ?_
    refine seq_np ?_
    refine reg_f ?_
    refine rs 4 [] [] (by kernel_rfl) allP_nil ?_
    refine rf [(0, .sl xa.length (fl xa)), (1, .sl b.length (fl b)), (5, iS i7), (14, bS (decide (i7 < ((xa.length : Nat) : Int))))] [] 0 (by kernel_rfl) ?_
    refine wk_id ?_
    refine cond_sx h (by kernel_rfl) (fun g144 h => ?_) (fun g144 h => ?_)
    · refine wk_id ?_
      refine seq_np ?_
      refine block_np ?_
      refine chk_sx h (fun g140 h => ?_)
      refine chk_sx h (fun g142 h => ?_)
      refine seq_np ?_
      refine reg_t ?_
      have k139 : 0 ≤ i7 ∧ i7 < ((xa.length : Nat) : Int) := by first | simpa only [Bool.and_eq_true, decide_eq_true_eq, bne_iff_ne, ne_eq] using g140 | (simp at g140 ⊢; omega)
      have k141 : 0 ≤ i7 ∧ i7 < ((b.length : Nat) : Int) := by first | simpa only [Bool.and_eq_true, decide_eq_true_eq, bne_iff_ne, ne_eq] using g142 | (simp at g142 ⊢; omega)
      refine rs 9 [none, none, some ⟨.iptr (fl xa) ((i7).toNat * 2), [], 2, []⟩, some ⟨.agg (Enc.cells (ix xa i7)), [], 3, []⟩, none, none, some ⟨.iptr (fl b) ((i7).toNat * 2), [], 6, []⟩, some ⟨.agg (Enc.cells (ix b i7)), [], 7, []⟩] _ (by kernel_rfl) (allP_cons (ob_ldw b i7 2 ((i7).toNat * 2) k141 rfl (by first | rfl | omega) [iS (ix b i7).e0, iS (ix b i7).e1] rfl 7 []) (allP_cons (ob_ix_l b 2 6 i7 k141) (allP_cons (ob_ldw xa i7 2 ((i7).toNat * 2) k139 rfl (by first | rfl | omega) [iS (ix xa i7).e0, iS (ix xa i7).e1] rfl 3 []) (allP_cons (ob_ix_l xa 2 2 i7 k139) allP_nil)))) ?_
      refine rt [(0, .sl xa.length (fl xa)), (1, .sl b.length (fl b)), (5, iS i7), (25, bS (!(((ix xa i7).e0 == (ix b i7).e0) && (((ix xa i7).e1 == (ix b i7).e1) && true))))] [] 9 follows (by kernel_rfl) ?_
      refine wk_id ?_
      refine cond_sx h (by kernel_rfl) (fun g143 h => ?_) (fun g143 h => ?_)
      · refine seq_np ?_
        refine reg_f ?_
        refine rs 1 [] [] (by kernel_rfl) allP_nil ?_
        refine rf [(4, bS false)] [] 9 (by kernel_rfl) ?_
        refine wk_id ?_
        refine rt_cast ht2 ?_
        obtain ⟨r0, h, e0⟩ := map_sx h
        have e1 := hr2 r0 e0.symm
        subst r0
        obtain rfl := Option.some.inj h
        refine ret_at (bS false) (by kernel_rfl) ?_
        exact ret_e [] [] (by simp only [push_cast, seval]) (by simp only [push_cast, seval]) rfl rfl rfl
      · refine wk_id ?_
        refine wk_id ?_
        refine reg_f ?_
        refine rs 3 [] [] (by kernel_rfl) allP_nil ?_
        refine rf [(0, .sl xa.length (fl xa)), (1, .sl b.length (fl b)), (5, iS (IntKind.i64.wrap (i7 + 1)))] [] 9 (by kernel_rfl) ?_
        exact hn2 ((IntKind.i64.wrap (i7 + 1))) _ _ _ (Option.some.inj h).symm (leSt_m [] [] (by simp only [push_cast, seval]) (by simp only [push_cast, seval]) rfl rfl rfl)
    · change R2 (.exit 0) _ _ _
      refine ex_cast hx2 (id := 0) ?_
      obtain ⟨r0, h, e0⟩ := map_sx h
      have e1 := hr2 r0 e0.symm
      subst r0
      refine wk_id ?_
      refine wk_id ?_
      refine seq_np ?_
      refine reg_f ?_
      refine rs 1 [] [] (by kernel_rfl) allP_nil ?_
      refine rf [(4, bS true)] [] 0 (by kernel_rfl) ?_
      refine wk_id ?_
      obtain rfl := Option.some.inj h
      refine ret_at (bS true) (by kernel_rfl) ?_
      exact ret_e [] [] (by simp only [push_cast, seval]) (by simp only [push_cast, seval]) rfl rfl rfl

set_option maxRecDepth 100000 in
set_option maxHeartbeats 200000000 in
theorem taskmilllaw_utfBegun_spec (r : Bool) (h : taskmilllaw_utfBegun = some r) : SpecW Try.prog 5 [] [] 0 (fun x h n => x = bS r ∧ h = [] ∧ n = 0) := by
  unfold taskmilllaw_utfBegun at h
  refine spec_of (draw_ok _) Try.func5 rfl (by decide) rfl (by kernel_rfl) ?_
  refine seq_np ?_
  refine reg_f ?_
  refine rs 1 [] [] (by kernel_rfl) allP_nil ?_
  refine rf [] [] 0 (by kernel_rfl) ?_
  refine wk_id ?_
  refine seq_np ?_
  refine reg_f ?_
  obtain ⟨r150, hr150, h⟩ := bind_sx h
  refine call_x (utf_Range_spec (ByteArray.mk #[195, 164, 255]) r150 hr150) (args := [.v (.string (ByteArray.mk #[195, 164, 255]))]) (dst := (some 4)) (by kernel_rfl) [] 0 (by kernel_rfl) [] [] (.tup [.own 0 0 r150.2.length, .agg (Enc.cells r150.1)]) [(0, .row 39 (fl r150.2))] (by simp only [push_cast, seval]) (by simp only [push_cast, seval]) (by kernel_rfl) (.inl rfl) (by simp only [push_cast, seval]) (by simp only [push_cast, seval]) ?_
  refine rs 6 [] [] (by kernel_rfl) allP_nil ?_
  refine rf [(1, .own 0 0 r150.2.length), (2, .ptr 1 0)] [(0, .row 39 (fl r150.2)), (1, .row 25 (Enc.cells r150.1))] 2 (by kernel_rfl) ?_
  refine wk_id ?_
  refine seq_cut (A := Bool) (fun a => ([(0, bS a)], [], 0)) (fun a => (taskmilllaw_utfBegun_j1 a) = some r) (fun K154 hK154 => ?_) ?_
  · refine reg_f ?_
    refine rs 4 [] [] (by kernel_rfl) allP_nil ?_
    refine run_br h 10 (.inl (by kernel_rfl)) (fun g155 h => ?_) (fun g155 h => ?_)
    · refine rs 4 [] [] (by kernel_rfl) allP_nil ?_
      obtain ⟨r156, hr156, h⟩ := bind_sx h
      refine call_x (taskmillref_SameOff_spec r150.2 ([(S39.mk 0 228), (S39.mk 2 65533)] : List S39) r156 hr156) (args := [.own 0 0 r150.2.length, .own 2 0 ([(S39.mk 0 228), (S39.mk 2 65533)] : List S39).length]) (dst := (some 15)) (by kernel_rfl) [(0, .row 39 (fl r150.2)), (1, .row 25 (Enc.cells r150.1)), (2, .row 39 (fl ([(S39.mk 0 228), (S39.mk 2 65533)] : List S39)))] 3 (by kernel_rfl) [] [0, 2] (bS r156) [] (by simp only [push_cast, seval]) (by simp only [push_cast, seval]) (by kernel_rfl) (.inr ⟨by simp only [push_cast, seval], by simp only [push_cast, seval]⟩) (by simp only [push_cast, seval]) (by simp only [push_cast, seval]) ?_
      refine rs 2 [] [] (by kernel_rfl) allP_nil ?_
      refine rf [(0, bS r156)] [(0, .row 39 (fl r150.2)), (1, .row 25 (Enc.cells r150.1)), (2, .row 39 (fl ([(S39.mk 0 228), (S39.mk 2 65533)] : List S39)))] 3 (by kernel_rfl) ?_
      exact hK154 (r156) _ _ _ h (leSt_m [] [] (by (try simp only [g155]) <;> simp only [push_cast, seval]) (by (try simp only [g155]) <;> simp only [push_cast, seval]) rfl rfl rfl)
    · refine rs 7 [] [] (by kernel_rfl) allP_nil ?_
      refine rf [(0, bS false)] [(0, .row 39 (fl r150.2)), (1, .row 25 (Enc.cells r150.1))] 2 (by kernel_rfl) ?_
      exact hK154 (false) _ _ _ h (leSt_m [] [] (by (try simp only [g155]) <;> simp only [push_cast, seval]) (by (try simp only [g155]) <;> simp only [push_cast, seval]) rfl rfl rfl)
  · rintro t0q1 h
    try dsimp only at h ⊢
    unfold taskmilllaw_utfBegun_j1 at h
    obtain rfl := Option.some.inj h
    refine ret_at (bS t0q1) (by kernel_rfl) ?_
    exact ret_e [] [] (by simp only [push_cast, seval]) (by simp only [push_cast, seval]) rfl rfl rfl

set_option maxRecDepth 100000 in
set_option maxHeartbeats 200000000 in
theorem utf_Cut_spec (text : ByteArray) (xfrom : Int) (to : Int) (r : ByteArray × Fault) (h : utf_Cut text xfrom to = some r) : SpecW Try.prog 7 [.v (.string text), iS xfrom, iS to] [] 0 (fun x h n => x = .tup [.v (.string r.1), .agg (Enc.cells r.2)] ∧ h = [] ∧ n = 0) := by
  unfold utf_Cut at h
  refine spec_of (draw_ok _) Try.func7 rfl (by decide) rfl (by kernel_rfl) ?_
  refine seq_np ?_
  refine reg_f ?_
  refine rs 2 [] [] (by kernel_rfl) allP_nil ?_
  refine rf [(0, .v (.string text)), (1, iS xfrom), (2, iS to), (7, .ptr 0 0)] [(0, .row 25 [iS 0, iS 0])] 1 (by kernel_rfl) ?_
  refine wk_id ?_
  refine seq_np ?_
  refine seq_np ?_
  refine reg_f ?_
  refine rs 3 [] [] (by kernel_rfl) allP_nil ?_
  refine rf [(0, .v (.string text)), (1, iS xfrom), (2, iS to), (7, .ptr 0 0), (12, bS (decide ((20000 : Int) < (((text).size : Nat) : Int))))] [(0, .row 25 [iS 0, iS 0])] 1 (by kernel_rfl) ?_
  refine wk_id ?_
  refine cond_sx h (by kernel_rfl) (fun g253 h => ?_) (fun g253 h => ?_)
  · refine seq_np ?_
    refine reg_f ?_
    obtain ⟨r192, hr192, h⟩ := bind_sx h
    refine run_call 15 [iS 2, iS 0] (some 13) (by kernel_rfl) ?_
    refine call_0 (utf_fault_spec 2 0 r192 hr192) (by simp only [push_cast, seval]) (by simp only [push_cast, seval]) ?_
    refine back_f ?_
    refine rs 2 [] [] (by kernel_rfl) allP_nil ?_
    refine rf [(6, .v (.string ByteArray.empty)), (7, .ptr 0 0)] [(0, .row 25 (Enc.cells r192))] 1 (by kernel_rfl) ?_
    refine wk_id ?_
    obtain rfl := Option.some.inj h
    refine ret_at (.tup [.v (.string ByteArray.empty), .agg (Enc.cells r192)]) (by kernel_rfl) ?_
    exact ret_e [] [] (by simp only [push_cast, seval]) (by simp only [push_cast, seval]) rfl rfl rfl
  · refine wk_id ?_
    refine seq_np ?_
    refine reg_f ?_
    refine rs 1 [] [] (by kernel_rfl) allP_nil ?_
    refine rf [(0, .v (.string text)), (1, iS xfrom), (2, iS to), (7, .ptr 0 0), (8, .v (.slice none 0 0))] [(0, .row 25 [iS 0, iS 0])] 1 (by kernel_rfl) ?_
    refine wk_id ?_
    refine seq_np ?_
    refine seq_np ?_
    refine reg_f ?_
    refine rs 2 [none, some ⟨.it 1, [(1, .obj text 0)], 2, []⟩] _ (by kernel_rfl) (allP_cons (ob_range text 1) allP_nil) ?_
    refine rf [(0, .v (.string text)), (1, iS xfrom), (2, iS to), (7, .ptr 0 0), (8, .v (.slice none 0 0)), (15, .it 1)] [(0, .row 25 [iS 0, iS 0]), (1, .obj text 0)] 2 (by kernel_rfl) ?_
    refine wk_id ?_
    refine block_np ?_
    refine loop_sx (S := (List Int) × Nat) (fun a => ([(0, .v (.string text)), (1, iS xfrom), (2, iS to), (7, .ptr 0 0), (8, .own 1 0 a.1.length), (15, .it 2)], [(0, .row 25 [iS 0, iS 0]), (1, .row 3 (fl a.1)), (2, .obj text a.2)], 3)) h (leSt_m [(0, 0), (2, 1)] [] (by simp only [push_cast, seval]) (by simp only [push_cast, seval]) rfl rfl rfl) ?_
    rintro ⟨c1q7, c2q7⟩ o2 R2 h hr2 hn2 hx2 ht2
    try dsimp only at h hn2 ⊢
    unfold utf_Cut_l1 at h
    try dsimp only at h
    refine bsplit_sx h (fun g220 h => ?_) (fun g220 h => ?_)
    · refine seq_np ?_
      refine reg_f ?_
      refine rs 2 [some ⟨.tup [bS true, iS ((c2q7 : Nat) : Int), .v (.int .i32 (((Utf8.decode text c2q7).1 : Nat) : Int))], [(2, .obj text (c2q7 + (Utf8.decode text c2q7).2))], 3, [2]⟩] _ (by kernel_rfl) (allP_cons (ob_next_t text c2q7 2 3 g220) allP_nil) ?_
      refine rf [(0, .v (.string text)), (1, iS xfrom), (2, iS to), (7, .ptr 0 0), (8, .own 1 0 c1q7.length), (15, .it 2), (16, .tup [bS true, iS ((c2q7 : Nat) : Int), .v (.int .i32 (((Utf8.decode text c2q7).1 : Nat) : Int))]), (17, bS true)] [(0, .row 25 [iS 0, iS 0]), (1, .row 3 (fl c1q7)), (2, .obj text (c2q7 + (Utf8.decode text c2q7).2))] 3 (by kernel_rfl) ?_
      refine wk_id ?_
      refine seq_np ?_
      refine cond_t (by kernel_rfl) ?_
      refine wk_id ?_
      refine block_np ?_
      refine seq_np ?_
      refine reg_f ?_
      refine rs 2 [] [] (by kernel_rfl) allP_nil ?_
      refine rf [(0, .v (.string text)), (1, iS xfrom), (2, iS to), (7, .ptr 0 0), (8, .own 1 0 c1q7.length), (9, iS ((c2q7 : Nat) : Int)), (15, .it 2)] [(0, .row 25 [iS 0, iS 0]), (1, .row 3 (fl c1q7)), (2, .obj text (c2q7 + (Utf8.decode text c2q7).2))] 3 (by kernel_rfl) ?_
      refine wk_id ?_
      refine chk_sx h (fun g224 h => ?_)
      refine reg_f ?_
      have k223 : (c1q7 ++ ([((c2q7 : Nat) : Int)] : List Int)).length * 8 ≤ 140737488355328 := by first | simpa only [Bool.and_eq_true, decide_eq_true_eq, bne_iff_ne, ne_eq] using g224 | (simp at g224 ⊢; omega)
      refine rs 5 [none, none, none, some ⟨.own 4 0 (c1q7 ++ ([((c2q7 : Nat) : Int)] : List Int)).length, [(4, .row 3 (fl (c1q7 ++ ([((c2q7 : Nat) : Int)] : List Int)))), (1, .dead)], 5, [1, 3]⟩] _ (by kernel_rfl) (allP_cons (ob_app (P := Try.prog) c1q7 ([((c2q7 : Nat) : Int)] : List Int) 1 8 rfl (appCells (fl ([((c2q7 : Nat) : Int)] : List Int)) 0 (([((c2q7 : Nat) : Int)] : List Int).length * 1)) ([((c2q7 : Nat) : Int)] : List Int).length (app_own ([((c2q7 : Nat) : Int)] : List Int) 1 rfl) rfl (0 + ([((c2q7 : Nat) : Int)] : List Int).length * 1 ≤ (fl ([((c2q7 : Nat) : Int)] : List Int)).length) (app_own_le ([((c2q7 : Nat) : Int)] : List Int) 1 rfl) 3 (by kernel_rfl) (by decide) k223 1 4 [3]) allP_nil) ?_
      refine rf [(0, .v (.string text)), (1, iS xfrom), (2, iS to), (7, .ptr 0 0), (8, .own 4 0 (c1q7 ++ ([((c2q7 : Nat) : Int)] : List Int)).length), (15, .it 2)] [(0, .row 25 [iS 0, iS 0]), (1, .dead), (2, .obj text (c2q7 + (Utf8.decode text c2q7).2)), (3, .row 3 (fl ([((c2q7 : Nat) : Int)] : List Int))), (4, .row 3 (fl (c1q7 ++ ([((c2q7 : Nat) : Int)] : List Int))))] 5 (by kernel_rfl) ?_
      refine wk_id ?_
      exact hn2 ((c1q7 ++ ([((c2q7 : Nat) : Int)] : List Int)), (c2q7 + (Utf8.decode text c2q7).2)) _ _ _ (Option.some.inj h).symm (leSt_m [(0, 0), (1, 4), (2, 2)] [] (by simp only [push_cast, seval]) (by simp only [push_cast, seval]) rfl rfl rfl)
    · refine seq_np ?_
      refine reg_f ?_
      refine rs 2 [some ⟨.tup [bS false], [], 3, [2]⟩] _ (by kernel_rfl) (allP_cons (ob_next_f text c2q7 2 3 g220) allP_nil) ?_
      refine rf [(0, .v (.string text)), (1, iS xfrom), (2, iS to), (7, .ptr 0 0), (8, .own 1 0 c1q7.length), (15, .it 2), (16, .tup [bS false]), (17, bS false)] [(0, .row 25 [iS 0, iS 0]), (1, .row 3 (fl c1q7)), (2, .obj text c2q7)] 3 (by kernel_rfl) ?_
      refine wk_id ?_
      refine seq_np ?_
      refine cond_f (by kernel_rfl) ?_
      change R2 (.exit 0) _ _ _
      refine ex_cast hx2 (id := 0) ?_
      obtain ⟨r0, h, e0⟩ := map_sx h
      have e1 := hr2 r0 e0.symm
      subst r0
      refine wk_id ?_
      refine wk_id ?_
      refine chk_sx h (fun g228 h => ?_)
      refine seq_np ?_
      refine reg_f ?_
      have k227 : (c1q7 ++ ([(((text).size : Nat) : Int)] : List Int)).length * 8 ≤ 140737488355328 := by first | simpa only [Bool.and_eq_true, decide_eq_true_eq, bne_iff_ne, ne_eq] using g228 | (simp at g228 ⊢; omega)
      refine rs 6 [none, none, none, none, some ⟨.own 4 0 (c1q7 ++ ([(((text).size : Nat) : Int)] : List Int)).length, [(4, .row 3 (fl (c1q7 ++ ([(((text).size : Nat) : Int)] : List Int)))), (1, .dead)], 5, [1, 3]⟩] _ (by kernel_rfl) (allP_cons (ob_app (P := Try.prog) c1q7 ([(((text).size : Nat) : Int)] : List Int) 1 8 rfl (appCells (fl ([(((text).size : Nat) : Int)] : List Int)) 0 (([(((text).size : Nat) : Int)] : List Int).length * 1)) ([(((text).size : Nat) : Int)] : List Int).length (app_own ([(((text).size : Nat) : Int)] : List Int) 1 rfl) rfl (0 + ([(((text).size : Nat) : Int)] : List Int).length * 1 ≤ (fl ([(((text).size : Nat) : Int)] : List Int)).length) (app_own_le ([(((text).size : Nat) : Int)] : List Int) 1 rfl) 3 (by kernel_rfl) (by decide) k227 1 4 [3]) allP_nil) ?_
      refine rf [(0, .v (.string text)), (1, iS xfrom), (2, iS to), (7, .ptr 0 0), (8, .own 4 0 (c1q7 ++ ([(((text).size : Nat) : Int)] : List Int)).length)] [(0, .row 25 [iS 0, iS 0]), (1, .dead), (2, .obj text c2q7), (3, .row 3 (fl ([(((text).size : Nat) : Int)] : List Int))), (4, .row 3 (fl (c1q7 ++ ([(((text).size : Nat) : Int)] : List Int))))] 5 (by kernel_rfl) ?_
      refine wk_id ?_
      refine seq_np ?_
      refine seq_cut (A := Unit) (fun _ => ([(0, .v (.string text)), (1, iS xfrom), (2, iS to), (7, .ptr 0 0), (8, .own 4 0 (c1q7 ++ ([(((text).size : Nat) : Int)] : List Int)).length), (40, bS ((decide (xfrom < 0)) || ((decide (to < xfrom)) || (decide ((((c1q7 ++ ([(((text).size : Nat) : Int)] : List Int)).length : Nat) : Int) ≤ to)))))], [(0, .row 25 [iS 0, iS 0]), (2, .obj text c2q7), (3, .row 3 (fl ([(((text).size : Nat) : Int)] : List Int))), (4, .row 3 (fl (c1q7 ++ ([(((text).size : Nat) : Int)] : List Int))))], 5)) (fun _ => True) (fun K235 hK235 => ?_) (fun _ _ => ?_)
      · refine reg_f ?_
        refine rs 3 [] [] (by kernel_rfl) allP_nil ?_
        refine run_split 30 (decide (xfrom < 0)) (.inl (by kernel_rfl)) (fun g236 => ?_) (fun g236 => ?_)
        · refine rs 10 [] [] (by kernel_rfl) allP_nil ?_
          refine rf [(0, .v (.string text)), (1, iS xfrom), (2, iS to), (7, .ptr 0 0), (8, .own 4 0 (c1q7 ++ ([(((text).size : Nat) : Int)] : List Int)).length), (40, bS true)] [(0, .row 25 [iS 0, iS 0]), (1, .dead), (2, .obj text c2q7), (3, .row 3 (fl ([(((text).size : Nat) : Int)] : List Int))), (4, .row 3 (fl (c1q7 ++ ([(((text).size : Nat) : Int)] : List Int))))] 5 (by kernel_rfl) ?_
          exact hK235 () _ _ _ trivial (leSt_m [(0, 0), (2, 2), (3, 3), (4, 4)] [] (by (try simp only [g236]) <;> simp only [push_cast, seval]) (by (try simp only [g236]) <;> simp only [push_cast, seval]) rfl rfl rfl)
        · refine rs 5 [] [] (by kernel_rfl) allP_nil ?_
          refine run_split 35 (decide (to < xfrom)) (.inl (by kernel_rfl)) (fun g237 => ?_) (fun g237 => ?_)
          · refine rs 5 [] [] (by kernel_rfl) allP_nil ?_
            refine rf [(0, .v (.string text)), (1, iS xfrom), (2, iS to), (7, .ptr 0 0), (8, .own 4 0 (c1q7 ++ ([(((text).size : Nat) : Int)] : List Int)).length), (40, bS true)] [(0, .row 25 [iS 0, iS 0]), (1, .dead), (2, .obj text c2q7), (3, .row 3 (fl ([(((text).size : Nat) : Int)] : List Int))), (4, .row 3 (fl (c1q7 ++ ([(((text).size : Nat) : Int)] : List Int))))] 5 (by kernel_rfl) ?_
            exact hK235 () _ _ _ trivial (leSt_m [(0, 0), (2, 2), (3, 3), (4, 4)] [] (by first | ((try simp only [g236, g237]) <;> simp only [push_cast, seval]; done) | ((try simp only [g236]); (try simp only [g237]); simp only [push_cast, seval]; done) | (exfalso; clear h; simp_all; done)) (by first | ((try simp only [g236, g237]) <;> simp only [push_cast, seval]; done) | ((try simp only [g236]); (try simp only [g237]); simp only [push_cast, seval]; done) | (exfalso; clear h; simp_all; done)) rfl rfl rfl)
          · refine rs 5 [] [] (by kernel_rfl) allP_nil ?_
            refine rf [(0, .v (.string text)), (1, iS xfrom), (2, iS to), (7, .ptr 0 0), (8, .own 4 0 (c1q7 ++ ([(((text).size : Nat) : Int)] : List Int)).length), (40, bS (decide ((((c1q7 ++ ([(((text).size : Nat) : Int)] : List Int)).length : Nat) : Int) ≤ to)))] [(0, .row 25 [iS 0, iS 0]), (1, .dead), (2, .obj text c2q7), (3, .row 3 (fl ([(((text).size : Nat) : Int)] : List Int))), (4, .row 3 (fl (c1q7 ++ ([(((text).size : Nat) : Int)] : List Int))))] 5 (by kernel_rfl) ?_
            exact hK235 () _ _ _ trivial (leSt_m [(0, 0), (2, 2), (3, 3), (4, 4)] [] (by first | ((try simp only [g236, g237]) <;> simp only [push_cast, seval]; done) | ((try simp only [g236]); (try simp only [g237]); simp only [push_cast, seval]; done) | (exfalso; clear h; simp_all; done)) (by first | ((try simp only [g236, g237]) <;> simp only [push_cast, seval]; done) | ((try simp only [g236]); (try simp only [g237]); simp only [push_cast, seval]; done) | (exfalso; clear h; simp_all; done)) rfl rfl rfl)
      · dsimp only
        refine cond_sx h (by kernel_rfl) (fun g252 h => ?_) (fun g252 h => ?_)
        · refine seq_np ?_
          refine reg_f ?_
          obtain ⟨r239, hr239, h⟩ := bind_sx h
          refine run_call 15 [iS 3, iS 0] (some 41) (by kernel_rfl) ?_
          refine call_0 (utf_fault_spec 3 0 r239 hr239) (by simp only [push_cast, seval]) (by simp only [push_cast, seval]) ?_
          refine back_f ?_
          refine rs 2 [] [] (by kernel_rfl) allP_nil ?_
          refine rf [(6, .v (.string ByteArray.empty)), (7, .ptr 0 0)] [(0, .row 25 (Enc.cells r239)), (2, .obj text c2q7), (3, .row 3 (fl ([(((text).size : Nat) : Int)] : List Int))), (4, .row 3 (fl (c1q7 ++ ([(((text).size : Nat) : Int)] : List Int))))] 5 (by kernel_rfl) ?_
          refine wk_id ?_
          obtain rfl := Option.some.inj h
          refine ret_at (.tup [.v (.string ByteArray.empty), .agg (Enc.cells r239)]) (by kernel_rfl) ?_
          exact ret_e [] [] (by simp only [push_cast, seval]) (by simp only [push_cast, seval]) rfl rfl rfl
        · refine wk_id ?_
          refine chk_sx h (fun g247 h => ?_)
          refine chk_sx h (fun g249 h => ?_)
          refine chk_sx h (fun g251 h => ?_)
          refine seq_np ?_
          refine reg_t ?_
          have k246 : 0 ≤ xfrom ∧ xfrom < (((c1q7 ++ ([(((text).size : Nat) : Int)] : List Int)).length : Nat) : Int) := by first | simpa only [Bool.and_eq_true, decide_eq_true_eq, bne_iff_ne, ne_eq] using g247 | (simp at g247 ⊢; omega)
          have k248 : 0 ≤ to ∧ to < (((c1q7 ++ ([(((text).size : Nat) : Int)] : List Int)).length : Nat) : Int) := by first | simpa only [Bool.and_eq_true, decide_eq_true_eq, bne_iff_ne, ne_eq] using g249 | (simp at g249 ⊢; omega)
          have k250 : 0 ≤ (ix (c1q7 ++ ([(((text).size : Nat) : Int)] : List Int)) xfrom) ∧ (ix (c1q7 ++ ([(((text).size : Nat) : Int)] : List Int)) xfrom) ≤ (ix (c1q7 ++ ([(((text).size : Nat) : Int)] : List Int)) to) ∧ (ix (c1q7 ++ ([(((text).size : Nat) : Int)] : List Int)) to) ≤ (((text).size : Nat) : Int) := by first | simpa only [Bool.and_eq_true, decide_eq_true_eq, bne_iff_ne, ne_eq] using g251 | (simp at g251 ⊢; omega)
          refine rs 13 [none, none, none, some ⟨.ptr 4 (0 + (xfrom).toNat * 1), [], 8, [4]⟩, some ⟨iS (ix (c1q7 ++ ([(((text).size : Nat) : Int)] : List Int)) xfrom), [], 9, [4]⟩, none, none, some ⟨.ptr 4 (0 + (to).toNat * 1), [], 12, [4]⟩, some ⟨iS (ix (c1q7 ++ ([(((text).size : Nat) : Int)] : List Int)) to), [], 13, [4]⟩, some ⟨.v (.string ((text).extract ((ix (c1q7 ++ ([(((text).size : Nat) : Int)] : List Int)) xfrom)).toNat ((ix (c1q7 ++ ([(((text).size : Nat) : Int)] : List Int)) to)).toNat)), [], 14, []⟩] _ (by kernel_rfl) (allP_cons (ob_p (v := .v (.string ((text).extract ((ix (c1q7 ++ ([(((text).size : Nat) : Int)] : List Int)) xfrom)).toNat ((ix (c1q7 ++ ([(((text).size : Nat) : Int)] : List Int)) to)).toNat))) (nx := 14) (r := []) k250) (allP_cons (ob_ld (c1q7 ++ ([(((text).size : Nat) : Int)] : List Int)) to 1 0 (0 + (to).toNat * 1) k248 rfl (by decide) (by first | rfl | omega) (dflS Try.prog 3) (iS (ix (c1q7 ++ ([(((text).size : Nat) : Int)] : List Int)) to)) rfl 13 [4]) (allP_cons (ob_ix_o 4 (c1q7 ++ ([(((text).size : Nat) : Int)] : List Int)).length 0 1 12 to k248) (allP_cons (ob_ld (c1q7 ++ ([(((text).size : Nat) : Int)] : List Int)) xfrom 1 0 (0 + (xfrom).toNat * 1) k246 rfl (by decide) (by first | rfl | omega) (dflS Try.prog 3) (iS (ix (c1q7 ++ ([(((text).size : Nat) : Int)] : List Int)) xfrom)) rfl 9 [4]) (allP_cons (ob_ix_o 4 (c1q7 ++ ([(((text).size : Nat) : Int)] : List Int)).length 0 1 8 xfrom k246) allP_nil))))) ?_
          refine rt [(6, .v (.string ((text).extract ((ix (c1q7 ++ ([(((text).size : Nat) : Int)] : List Int)) xfrom)).toNat ((ix (c1q7 ++ ([(((text).size : Nat) : Int)] : List Int)) to)).toNat))), (7, .ptr 0 0)] [(0, .row 25 [iS 0, iS 0]), (2, .obj text c2q7), (3, .row 3 (fl ([(((text).size : Nat) : Int)] : List Int))), (4, .row 3 (fl (c1q7 ++ ([(((text).size : Nat) : Int)] : List Int))))] 18 follows (by kernel_rfl) ?_
          refine wk_id ?_
          obtain rfl := Option.some.inj h
          refine ret_at (.tup [.v (.string ((text).extract ((ix (c1q7 ++ ([(((text).size : Nat) : Int)] : List Int)) xfrom)).toNat ((ix (c1q7 ++ ([(((text).size : Nat) : Int)] : List Int)) to)).toNat)), .agg [iS 0, iS 0]]) (by kernel_rfl) ?_
          exact ret_e [] [] (by simp only [push_cast, seval]) (by simp only [push_cast, seval]) rfl rfl rfl

set_option maxRecDepth 100000 in
set_option maxHeartbeats 200000000 in
theorem taskmilllaw_own_spec (l : (List Int)) (r : (List Int)) (h : taskmilllaw_own l = some r) : SpecW Try.prog 9 [.sl l.length (fl l)] [] 0 (fun x h n => x = .own 0 0 r.length ∧ h = [(0, .row 3 (fl r))] ∧ n = 1) := by
  unfold taskmilllaw_own at h
  refine spec_of (draw_ok _) Try.func9 rfl (by decide) rfl (by kernel_rfl) ?_
  refine seq_np ?_
  refine reg_f ?_
  refine rs 1 [] [] (by kernel_rfl) allP_nil ?_
  refine rf [(0, .sl l.length (fl l))] [] 0 (by kernel_rfl) ?_
  refine wk_id ?_
  refine chk_sx h (fun g324 h => ?_)
  refine seq_np ?_
  refine reg_f ?_
  have k323 : l.length * 8 ≤ 140737488355328 := by first | simpa only [Bool.and_eq_true, decide_eq_true_eq, bne_iff_ne, ne_eq] using g324 | (simp at g324 ⊢; omega)
  refine rs 3 [none, some ⟨.own 0 0 l.length, [(0, .row 3 (fl l))], 1, []⟩] _ (by kernel_rfl) (allP_cons (ob_app0 (P := Try.prog) l 1 8 rfl (fl l) l.length rfl rfl ((fl l).length = l.length * 1) (app_sl l 1 rfl) 3 (by kernel_rfl) (by decide) k323 0 []) allP_nil) ?_
  refine rf [(2, .own 0 0 l.length)] [(0, .row 3 (fl l))] 1 (by kernel_rfl) ?_
  refine wk_id ?_
  obtain rfl := Option.some.inj h
  refine ret_at (.own 0 0 l.length) (by kernel_rfl) ?_
  exact ret_e [(0, 0)] [] (by simp only [push_cast, seval]) (by simp only [push_cast, seval]) rfl rfl rfl

set_option maxRecDepth 100000 in
set_option maxHeartbeats 200000000 in
theorem utf_Write_spec (letters : (List Int)) (r : ByteArray × Fault) (h : utf_Write letters = some r) : SpecW Try.prog 8 [.sl letters.length (fl letters)] [] 0 (fun x h n => x = .tup [.v (.string r.1), .agg (Enc.cells r.2)] ∧ h = [] ∧ n = 0) := by
  unfold utf_Write at h
  refine spec_of (draw_ok _) Try.func8 rfl (by decide) rfl (by kernel_rfl) ?_
  refine seq_np ?_
  refine reg_f ?_
  refine rs 2 [] [] (by kernel_rfl) allP_nil ?_
  refine rf [(0, .sl letters.length (fl letters)), (3, .ptr 0 0)] [(0, .row 25 [iS 0, iS 0])] 1 (by kernel_rfl) ?_
  refine wk_id ?_
  refine seq_np ?_
  refine seq_np ?_
  refine reg_f ?_
  refine rs 3 [] [] (by kernel_rfl) allP_nil ?_
  refine rf [(0, .sl letters.length (fl letters)), (3, .ptr 0 0), (9, bS (decide ((5000 : Int) < ((letters.length : Nat) : Int))))] [(0, .row 25 [iS 0, iS 0])] 1 (by kernel_rfl) ?_
  refine wk_id ?_
  refine cond_sx h (by kernel_rfl) (fun g501 h => ?_) (fun g501 h => ?_)
  · refine seq_np ?_
    refine reg_f ?_
    obtain ⟨r365, hr365, h⟩ := bind_sx h
    refine run_call 15 [iS 2, iS 0] (some 10) (by kernel_rfl) ?_
    refine call_0 (utf_fault_spec 2 0 r365 hr365) (by simp only [push_cast, seval]) (by simp only [push_cast, seval]) ?_
    refine back_f ?_
    refine rs 2 [] [] (by kernel_rfl) allP_nil ?_
    refine rf [(2, .v (.string ByteArray.empty)), (3, .ptr 0 0)] [(0, .row 25 (Enc.cells r365))] 1 (by kernel_rfl) ?_
    refine wk_id ?_
    obtain rfl := Option.some.inj h
    refine ret_at (.tup [.v (.string ByteArray.empty), .agg (Enc.cells r365)]) (by kernel_rfl) ?_
    exact ret_e [] [] (by simp only [push_cast, seval]) (by simp only [push_cast, seval]) rfl rfl rfl
  · refine wk_id ?_
    refine seq_np ?_
    refine reg_f ?_
    refine rs 1 [] [] (by kernel_rfl) allP_nil ?_
    refine rf [(0, .sl letters.length (fl letters)), (3, .ptr 0 0), (4, .v (.slice none 0 0))] [(0, .row 25 [iS 0, iS 0])] 1 (by kernel_rfl) ?_
    refine wk_id ?_
    refine seq_np ?_
    refine seq_np ?_
    refine reg_f ?_
    refine rs 3 [] [] (by kernel_rfl) allP_nil ?_
    refine rf [(3, .ptr 0 0), (4, .v (.slice none 0 0)), (11, .sl letters.length (fl letters)), (12, iS ((letters.length : Nat) : Int)), (13, iS 0)] [(0, .row 25 [iS 0, iS 0])] 1 (by kernel_rfl) ?_
    refine wk_id ?_
    refine block_np ?_
    refine loop_sx (S := Int × (List Ki32)) (fun a => ([(3, .ptr 0 0), (4, .own 1 0 a.2.length), (11, .sl letters.length (fl letters)), (12, iS ((letters.length : Nat) : Int)), (13, iS a.1)], [(0, .row 25 [iS 0, iS 0]), (1, .row 21 (fl a.2))], 2)) h (leSt_m [(0, 0)] [] (by simp only [push_cast, seval]) (by simp only [push_cast, seval]) rfl rfl rfl) ?_
    rintro ⟨t13q7, c1q7⟩ o2 R2 h hr2 hn2 hx2 ht2
    try dsimp only at h hn2 ⊢
    unfold utf_Write_l1 at h
    try dsimp only at h
    refine seq_np ?_
    refine reg_f ?_
    refine rs 1 [] [] (by kernel_rfl) allP_nil ?_
    refine rf [(3, .ptr 0 0), (4, .own 1 0 c1q7.length), (11, .sl letters.length (fl letters)), (12, iS ((letters.length : Nat) : Int)), (13, iS t13q7), (14, bS (decide (t13q7 < ((letters.length : Nat) : Int))))] [(0, .row 25 [iS 0, iS 0]), (1, .row 21 (fl c1q7))] 2 (by kernel_rfl) ?_
    refine wk_id ?_
    refine seq_np ?_
    refine cond_sx h (by kernel_rfl) (fun g500 h => ?_) (fun g500 h => ?_)
    · refine wk_id ?_
      refine seq_np ?_
      refine block_np ?_
      refine chk_sx h (fun g481 h => ?_)
      refine seq_np ?_
      refine reg_f ?_
      have k480 : 0 ≤ t13q7 ∧ t13q7 < ((letters.length : Nat) : Int) := by first | simpa only [Bool.and_eq_true, decide_eq_true_eq, bne_iff_ne, ne_eq] using g481 | (simp at g481 ⊢; omega)
      refine rs 3 [some ⟨.iptr (fl letters) ((t13q7).toNat * 1), [], 2, []⟩, some ⟨iS (ix letters t13q7), [], 2, []⟩] _ (by kernel_rfl) (allP_cons (ob_ld letters t13q7 1 0 ((t13q7).toNat * 1) k480 rfl (by decide) (by first | rfl | omega) (dflS Try.prog 3) (iS (ix letters t13q7)) rfl 2 []) (allP_cons (ob_ix_l letters 1 2 t13q7 k480) allP_nil)) ?_
      refine rf [(3, .ptr 0 0), (4, .own 1 0 c1q7.length), (6, iS (ix letters t13q7)), (11, .sl letters.length (fl letters)), (12, iS ((letters.length : Nat) : Int)), (13, iS t13q7)] [(0, .row 25 [iS 0, iS 0]), (1, .row 21 (fl c1q7))] 2 (by kernel_rfl) ?_
      refine wk_id ?_
      refine seq_cut (A := Int) (fun a => ([(3, .ptr 0 0), (4, .own 1 0 c1q7.length), (6, iS a), (11, .sl letters.length (fl letters)), (12, iS ((letters.length : Nat) : Int)), (13, iS t13q7)], [(0, .row 25 [iS 0, iS 0]), (1, .row 21 (fl c1q7))], 2)) (fun a => (utf_Write_j1 letters t13q7 c1q7 a) = some o2) (fun K487 hK487 => ?_) ?_
      · refine seq_cut (A := Unit) (fun _ => ([(3, .ptr 0 0), (4, .own 1 0 c1q7.length), (6, iS (ix letters t13q7)), (11, .sl letters.length (fl letters)), (12, iS ((letters.length : Nat) : Int)), (13, iS t13q7), (30, bS ((decide ((ix letters t13q7) < 0)) || ((decide ((1114111 : Int) < (ix letters t13q7))) || ((decide ((55296 : Int) ≤ (ix letters t13q7))) && (decide ((ix letters t13q7) ≤ 57343))))))], [(0, .row 25 [iS 0, iS 0]), (1, .row 21 (fl c1q7))], 2)) (fun _ => True) (fun K491 hK491 => ?_) (fun _ _ => ?_)
        · refine reg_f ?_
          refine rs 3 [] [] (by kernel_rfl) allP_nil ?_
          refine run_split 19 (decide ((ix letters t13q7) < 0)) (.inl (by kernel_rfl)) (fun g492 => ?_) (fun g492 => ?_)
          · refine rs 11 [] [] (by kernel_rfl) allP_nil ?_
            refine rf [(3, .ptr 0 0), (4, .own 1 0 c1q7.length), (6, iS (ix letters t13q7)), (11, .sl letters.length (fl letters)), (12, iS ((letters.length : Nat) : Int)), (13, iS t13q7), (30, bS true)] [(0, .row 25 [iS 0, iS 0]), (1, .row 21 (fl c1q7))] 2 (by kernel_rfl) ?_
            exact hK491 () _ _ _ trivial (leSt_m [(0, 0), (1, 1)] [] (by (try simp only [g492]) <;> simp only [push_cast, seval]) (by (try simp only [g492]) <;> simp only [push_cast, seval]) rfl rfl rfl)
          · refine rs 4 [] [] (by kernel_rfl) allP_nil ?_
            refine run_split 23 (decide ((1114111 : Int) < (ix letters t13q7))) (.inl (by kernel_rfl)) (fun g493 => ?_) (fun g493 => ?_)
            · refine rs 7 [] [] (by kernel_rfl) allP_nil ?_
              refine rf [(3, .ptr 0 0), (4, .own 1 0 c1q7.length), (6, iS (ix letters t13q7)), (11, .sl letters.length (fl letters)), (12, iS ((letters.length : Nat) : Int)), (13, iS t13q7), (30, bS true)] [(0, .row 25 [iS 0, iS 0]), (1, .row 21 (fl c1q7))] 2 (by kernel_rfl) ?_
              exact hK491 () _ _ _ trivial (leSt_m [(0, 0), (1, 1)] [] (by first | ((try simp only [g492, g493]) <;> simp only [push_cast, seval]; done) | ((try simp only [g492]); (try simp only [g493]); simp only [push_cast, seval]; done) | (exfalso; clear h; simp_all; done)) (by first | ((try simp only [g492, g493]) <;> simp only [push_cast, seval]; done) | ((try simp only [g492]); (try simp only [g493]); simp only [push_cast, seval]; done) | (exfalso; clear h; simp_all; done)) rfl rfl rfl)
            · refine rs 3 [] [] (by kernel_rfl) allP_nil ?_
              refine run_split 26 (decide ((55296 : Int) ≤ (ix letters t13q7))) (.inr (by kernel_rfl)) (fun g494 => ?_) (fun g494 => ?_)
              · refine rn 10 [(3, .ptr 0 0), (4, .own 1 0 c1q7.length), (6, iS (ix letters t13q7)), (11, .sl letters.length (fl letters)), (12, iS ((letters.length : Nat) : Int)), (13, iS t13q7), (23, bS false), (26, .gd true (bS true))] [(0, .row 25 [iS 0, iS 0]), (1, .row 21 (fl c1q7))] 2 (by kernel_rfl) ?_
                refine rs 4 [] [] (by kernel_rfl) allP_nil ?_
                refine rf [(3, .ptr 0 0), (4, .own 1 0 c1q7.length), (6, iS (ix letters t13q7)), (11, .sl letters.length (fl letters)), (12, iS ((letters.length : Nat) : Int)), (13, iS t13q7), (30, bS (decide ((ix letters t13q7) ≤ 57343)))] [(0, .row 25 [iS 0, iS 0]), (1, .row 21 (fl c1q7))] 2 (by kernel_rfl) ?_
                exact hK491 () _ _ _ trivial (leSt_m [(0, 0), (1, 1)] [] (by first | ((try simp only [g492, g493, g494]) <;> simp only [push_cast, seval]; done) | ((try simp only [g492]); (try simp only [g493]); (try simp only [g494]); simp only [push_cast, seval]; done) | (exfalso; clear h; simp_all; done)) (by first | ((try simp only [g492, g493, g494]) <;> simp only [push_cast, seval]; done) | ((try simp only [g492]); (try simp only [g493]); (try simp only [g494]); simp only [push_cast, seval]; done) | (exfalso; clear h; simp_all; done)) rfl rfl rfl)
              · refine rn 10 [(3, .ptr 0 0), (4, .own 1 0 c1q7.length), (6, iS (ix letters t13q7)), (11, .sl letters.length (fl letters)), (12, iS ((letters.length : Nat) : Int)), (13, iS t13q7), (23, bS false), (26, .gd true (bS false))] [(0, .row 25 [iS 0, iS 0]), (1, .row 21 (fl c1q7))] 2 (by kernel_rfl) ?_
                refine rs 4 [] [] (by kernel_rfl) allP_nil ?_
                refine rf [(3, .ptr 0 0), (4, .own 1 0 c1q7.length), (6, iS (ix letters t13q7)), (11, .sl letters.length (fl letters)), (12, iS ((letters.length : Nat) : Int)), (13, iS t13q7), (30, bS false)] [(0, .row 25 [iS 0, iS 0]), (1, .row 21 (fl c1q7))] 2 (by kernel_rfl) ?_
                exact hK491 () _ _ _ trivial (leSt_m [(0, 0), (1, 1)] [] (by first | ((try simp only [g492, g493, g494]) <;> simp only [push_cast, seval]; done) | ((try simp only [g492]); (try simp only [g493]); (try simp only [g494]); simp only [push_cast, seval]; done) | (exfalso; clear h; simp_all; done)) (by first | ((try simp only [g492, g493, g494]) <;> simp only [push_cast, seval]; done) | ((try simp only [g492]); (try simp only [g493]); (try simp only [g494]); simp only [push_cast, seval]; done) | (exfalso; clear h; simp_all; done)) rfl rfl rfl)
        · dsimp only
          refine cond_sx h (by kernel_rfl) (fun g495 h => ?_) (fun g495 h => ?_)
          · refine reg_f ?_
            refine rs 1 [] [] (by kernel_rfl) allP_nil ?_
            refine rf [(3, .ptr 0 0), (4, .own 1 0 c1q7.length), (6, iS 65533), (11, .sl letters.length (fl letters)), (12, iS ((letters.length : Nat) : Int)), (13, iS t13q7)] [(0, .row 25 [iS 0, iS 0]), (1, .row 21 (fl c1q7))] 2 (by kernel_rfl) ?_
            exact hK487 (65533) _ _ _ h (leSt_m [(0, 0), (1, 1)] [] (by simp only [push_cast, seval]) (by simp only [push_cast, seval]) rfl rfl rfl)
          · exact hK487 ((ix letters t13q7)) _ _ _ h (leSt_m [(0, 0), (1, 1)] [] (by simp only [push_cast, seval]) (by simp only [push_cast, seval]) rfl rfl rfl)
      · rintro x13 h
        try dsimp only at h ⊢
        unfold utf_Write_j1 at h
        refine chk_sx h (fun g499 h => ?_)
        refine reg_f ?_
        have k498 : (c1q7 ++ ([(Ki32.mk (IntKind.i32.wrap x13))] : List Ki32)).length * 4 ≤ 140737488355328 := by first | simpa only [Bool.and_eq_true, decide_eq_true_eq, bne_iff_ne, ne_eq] using g499 | (simp at g499 ⊢; omega)
        refine rs 6 [none, none, none, none, some ⟨.own 3 0 (c1q7 ++ ([(Ki32.mk (IntKind.i32.wrap x13))] : List Ki32)).length, [(3, .row 21 (fl (c1q7 ++ ([(Ki32.mk (IntKind.i32.wrap x13))] : List Ki32)))), (1, .dead)], 4, [1, 2]⟩] _ (by kernel_rfl) (allP_cons (ob_app (P := Try.prog) c1q7 ([(Ki32.mk (IntKind.i32.wrap x13))] : List Ki32) 1 4 rfl (appCells (fl ([(Ki32.mk (IntKind.i32.wrap x13))] : List Ki32)) 0 (([(Ki32.mk (IntKind.i32.wrap x13))] : List Ki32).length * 1)) ([(Ki32.mk (IntKind.i32.wrap x13))] : List Ki32).length (app_own ([(Ki32.mk (IntKind.i32.wrap x13))] : List Ki32) 1 rfl) rfl (0 + ([(Ki32.mk (IntKind.i32.wrap x13))] : List Ki32).length * 1 ≤ (fl ([(Ki32.mk (IntKind.i32.wrap x13))] : List Ki32)).length) (app_own_le ([(Ki32.mk (IntKind.i32.wrap x13))] : List Ki32) 1 rfl) 21 (by kernel_rfl) (by decide) k498 1 3 [2]) allP_nil) ?_
        refine rf [(3, .ptr 0 0), (4, .own 3 0 (c1q7 ++ ([(Ki32.mk (IntKind.i32.wrap x13))] : List Ki32)).length), (11, .sl letters.length (fl letters)), (12, iS ((letters.length : Nat) : Int)), (13, iS t13q7)] [(0, .row 25 [iS 0, iS 0]), (1, .dead), (2, .row 21 (fl ([(Ki32.mk (IntKind.i32.wrap x13))] : List Ki32))), (3, .row 21 (fl (c1q7 ++ ([(Ki32.mk (IntKind.i32.wrap x13))] : List Ki32))))] 4 (by kernel_rfl) ?_
        refine wk_id ?_
        refine wk_id ?_
        refine reg_f ?_
        refine rs 2 [] [] (by kernel_rfl) allP_nil ?_
        refine rf [(3, .ptr 0 0), (4, .own 3 0 (c1q7 ++ ([(Ki32.mk (IntKind.i32.wrap x13))] : List Ki32)).length), (11, .sl letters.length (fl letters)), (12, iS ((letters.length : Nat) : Int)), (13, iS (IntKind.i64.wrap (t13q7 + 1)))] [(0, .row 25 [iS 0, iS 0]), (1, .dead), (2, .row 21 (fl ([(Ki32.mk (IntKind.i32.wrap x13))] : List Ki32))), (3, .row 21 (fl (c1q7 ++ ([(Ki32.mk (IntKind.i32.wrap x13))] : List Ki32))))] 4 (by kernel_rfl) ?_
        exact hn2 ((IntKind.i64.wrap (t13q7 + 1)), (c1q7 ++ ([(Ki32.mk (IntKind.i32.wrap x13))] : List Ki32))) _ _ _ (Option.some.inj h).symm (leSt_m [(0, 0), (1, 3)] [] (by simp only [push_cast, seval]) (by simp only [push_cast, seval]) rfl rfl rfl)
    · change R2 (.exit 0) _ _ _
      refine ex_cast hx2 (id := 0) ?_
      obtain ⟨r0, h, e0⟩ := map_sx h
      have e1 := hr2 r0 e0.symm
      subst r0
      refine wk_id ?_
      refine wk_id ?_
      refine seq_np ?_
      refine reg_f ?_
      refine rs 5 [none, some ⟨.v (.string (encL (c1q7.map Ki32.v))), [], 2, [1]⟩] _ (by kernel_rfl) (allP_cons (ob_str_o .i32 encL Ki32.v (fun _ => rfl) c1q7 1 2) allP_nil) ?_
      refine rf [(2, .v (.string (encL (c1q7.map Ki32.v)))), (3, .ptr 0 0)] [(0, .row 25 [iS 0, iS 0]), (1, .row 21 (fl c1q7))] 2 (by kernel_rfl) ?_
      refine wk_id ?_
      obtain rfl := Option.some.inj h
      refine ret_at (.tup [.v (.string (encL (c1q7.map Ki32.v))), .agg [iS 0, iS 0]]) (by kernel_rfl) ?_
      exact ret_e [] [] (by simp only [push_cast, seval]) (by simp only [push_cast, seval]) rfl rfl rfl

set_option maxRecDepth 100000 in
set_option maxHeartbeats 200000000 in
theorem slices_Reverse_rune_1_spec (c0 : (List Ki32)) (r : (List Ki32)) (h : slices_Reverse_rune_1 c0 = some r) : SpecW Try.prog 16 [.own 0 0 c0.length] [(0, .row 21 (fl c0))] 1 (fun x h n => x = .tup [] ∧ h = [(0, .row 21 (fl r))] ∧ n = 1) := by
  unfold slices_Reverse_rune_1 at h
  refine spec_of (draw_ok _) Try.func16 rfl (by decide) rfl (by kernel_rfl) ?_
  refine seq_np ?_
  refine reg_f ?_
  refine rs 5 [] [] (by kernel_rfl) allP_nil ?_
  refine rf [(0, .own 0 0 c0.length), (2, iS 0), (3, iS (IntKind.i64.wrap (((c0.length : Nat) : Int) - 1)))] [(0, .row 21 (fl c0))] 1 (by kernel_rfl) ?_
  refine wk_id ?_
  refine block_np ?_
  refine loop_sx (S := Int × Int × (List Ki32)) (fun a => ([(0, .own 0 0 a.2.2.length), (2, iS a.1), (3, iS a.2.1)], [(0, .row 21 (fl a.2.2))], 1)) h (leSt_m [(0, 0)] [] (by simp only [push_cast, seval]) (by simp only [push_cast, seval]) rfl rfl rfl) ?_
  rintro ⟨i3, j3, c0q5⟩ o2 R2 h hr2 hn2 hx2 ht2
  try dsimp only at h hn2 ⊢
  unfold slices_Reverse_rune_1_l1 at h
  try dsimp only at h
  refine seq_np ?_
  refine seq_np ?_
  refine reg_f ?_
  refine rs 3 [] [] (by kernel_rfl) allP_nil ?_
  refine rf [(0, .own 0 0 c0q5.length), (2, iS i3), (3, iS j3), (9, bS (decide (i3 < j3)))] [(0, .row 21 (fl c0q5))] 1 (by kernel_rfl) ?_
  refine wk_id ?_
  refine cond_sx h (by kernel_rfl) (fun g594 h => ?_) (fun g594 h => ?_)
  · refine wk_id ?_
    refine seq_np ?_
    refine block_np ?_
    refine chk_sx h (fun g587 h => ?_)
    refine chk_sx h (fun g589 h => ?_)
    refine chk_sx h (fun g591 h => ?_)
    refine chk_sx h (fun g593 h => ?_)
    refine reg_t ?_
    have k586 : 0 ≤ j3 ∧ j3 < ((c0q5.length : Nat) : Int) := by first | simpa only [Bool.and_eq_true, decide_eq_true_eq, bne_iff_ne, ne_eq] using g587 | (simp at g587 ⊢; omega)
    have k588 : 0 ≤ i3 ∧ i3 < ((c0q5.length : Nat) : Int) := by first | simpa only [Bool.and_eq_true, decide_eq_true_eq, bne_iff_ne, ne_eq] using g589 | (simp at g589 ⊢; omega)
    have k590 : 0 ≤ i3 ∧ i3 < ((c0q5.length : Nat) : Int) := by first | simpa only [Bool.and_eq_true, decide_eq_true_eq, bne_iff_ne, ne_eq] using g591 | (simp at g591 ⊢; omega)
    refine rs 14 [none, none, none, none, none, none, some ⟨.ptr 0 (0 + (j3).toNat * 1), [], 7, [0]⟩, some ⟨.v (.int .i32 (ix c0q5 j3).v), [], 8, [0]⟩, none, none, some ⟨.ptr 0 (0 + (i3).toNat * 1), [], 11, [0]⟩, some ⟨.v (.int .i32 (ix c0q5 i3).v), [], 12, [0]⟩, some ⟨.ptr 0 (0 + (i3).toNat * 1), [], 13, [0]⟩, some ⟨.any, [(0, .row 21 (fl (c0q5.set i3.toNat (Ki32.mk (ix c0q5 j3).v))))], 14, [0]⟩] _ (by kernel_rfl) (allP_cons (ob_st (P := Try.prog) c0q5 i3 1 0 (0 + (i3).toNat * 1) k590 rfl [.v (.int .i32 (ix c0q5 j3).v)] (Ki32.mk (ix c0q5 j3).v) (Nat.le_of_ble_eq_true rfl) (by first | rfl | omega) rfl 0 14 21 21 (by kernel_rfl) rfl) (allP_cons (ob_ix_o 0 c0q5.length 0 1 13 i3 k590) (allP_cons (ob_ld c0q5 i3 1 0 (0 + (i3).toNat * 1) k588 rfl (by decide) (by first | rfl | omega) (dflS Try.prog 21) (.v (.int .i32 (ix c0q5 i3).v)) rfl 12 [0]) (allP_cons (ob_ix_o 0 c0q5.length 0 1 11 i3 k588) (allP_cons (ob_ld c0q5 j3 1 0 (0 + (j3).toNat * 1) k586 rfl (by decide) (by first | rfl | omega) (dflS Try.prog 21) (.v (.int .i32 (ix c0q5 j3).v)) rfl 8 [0]) (allP_cons (ob_ix_o 0 c0q5.length 0 1 7 j3 k586) allP_nil)))))) ?_
    refine run_eqF 0 (.own 0 0 c0q5.length) (.own 0 0 (c0q5.set i3.toNat (Ki32.mk (ix c0q5 j3).v)).length) (congrArg (fun nq => (.own 0 0 nq : SV)) (show c0q5.length = (c0q5.set i3.toNat (Ki32.mk (ix c0q5 j3).v)).length from (List.length_set ..).symm)) (by kernel_rfl) ?_
    refine run_eqF 16 (.own 0 0 c0q5.length) (.own 0 0 (c0q5.set i3.toNat (Ki32.mk (ix c0q5 j3).v)).length) (congrArg (fun nq => (.own 0 0 nq : SV)) (show c0q5.length = (c0q5.set i3.toNat (Ki32.mk (ix c0q5 j3).v)).length from (List.length_set ..).symm)) (by kernel_rfl) ?_
    have k592 : 0 ≤ j3 ∧ j3 < (((c0q5.set i3.toNat (Ki32.mk (ix c0q5 j3).v)).length : Nat) : Int) := by first | simpa only [Bool.and_eq_true, decide_eq_true_eq, bne_iff_ne, ne_eq] using g593 | (simp at g593 ⊢; omega)
    refine rs 2 [some ⟨.ptr 0 (0 + (j3).toNat * 1), [], 15, [0]⟩, some ⟨.any, [(0, .row 21 (fl ((c0q5.set i3.toNat (Ki32.mk (ix c0q5 j3).v)).set j3.toNat (Ki32.mk (ix c0q5 i3).v))))], 16, [0]⟩] _ (by kernel_rfl) (allP_cons (ob_st (P := Try.prog) (c0q5.set i3.toNat (Ki32.mk (ix c0q5 j3).v)) j3 1 0 (0 + (j3).toNat * 1) k592 rfl [.v (.int .i32 (ix c0q5 i3).v)] (Ki32.mk (ix c0q5 i3).v) (Nat.le_of_ble_eq_true rfl) (by first | rfl | omega) rfl 0 16 21 21 (by kernel_rfl) rfl) (allP_cons (ob_ix_o 0 (c0q5.set i3.toNat (Ki32.mk (ix c0q5 j3).v)).length 0 1 15 j3 k592) allP_nil)) ?_
    refine run_eqF 0 (.own 0 0 (c0q5.set i3.toNat (Ki32.mk (ix c0q5 j3).v)).length) (.own 0 0 ((c0q5.set i3.toNat (Ki32.mk (ix c0q5 j3).v)).set j3.toNat (Ki32.mk (ix c0q5 i3).v)).length) (congrArg (fun nq => (.own 0 0 nq : SV)) (show (c0q5.set i3.toNat (Ki32.mk (ix c0q5 j3).v)).length = ((c0q5.set i3.toNat (Ki32.mk (ix c0q5 j3).v)).set j3.toNat (Ki32.mk (ix c0q5 i3).v)).length from (List.length_set ..).symm)) (by kernel_rfl) ?_
    refine rt [(0, .own 0 0 ((c0q5.set i3.toNat (Ki32.mk (ix c0q5 j3).v)).set j3.toNat (Ki32.mk (ix c0q5 i3).v)).length), (2, iS i3), (3, iS j3)] [(0, .row 21 (fl ((c0q5.set i3.toNat (Ki32.mk (ix c0q5 j3).v)).set j3.toNat (Ki32.mk (ix c0q5 i3).v))))] 17 follows (by kernel_rfl) ?_
    refine wk_id ?_
    refine wk_id ?_
    refine reg_f ?_
    refine rs 6 [] [] (by kernel_rfl) allP_nil ?_
    refine rf [(0, .own 0 0 ((c0q5.set i3.toNat (Ki32.mk (ix c0q5 j3).v)).set j3.toNat (Ki32.mk (ix c0q5 i3).v)).length), (2, iS (IntKind.i64.wrap (i3 + 1))), (3, iS (IntKind.i64.wrap (j3 - 1)))] [(0, .row 21 (fl ((c0q5.set i3.toNat (Ki32.mk (ix c0q5 j3).v)).set j3.toNat (Ki32.mk (ix c0q5 i3).v))))] 17 (by kernel_rfl) ?_
    exact hn2 ((IntKind.i64.wrap (i3 + 1)), (IntKind.i64.wrap (j3 - 1)), ((c0q5.set i3.toNat (Ki32.mk (ix c0q5 j3).v)).set j3.toNat (Ki32.mk (ix c0q5 i3).v))) _ _ _ (Option.some.inj h).symm (leSt_m [(0, 0)] [] (by simp only [push_cast, seval]) (by simp only [push_cast, seval]) rfl rfl rfl)
  · change R2 (.exit 0) _ _ _
    refine ex_cast hx2 (id := 0) ?_
    obtain ⟨r0, h, e0⟩ := map_sx h
    have e1 := hr2 r0 e0.symm
    subst r0
    refine wk_id ?_
    obtain rfl := Option.some.inj h
    refine ret_an (.tup []) (by kernel_rfl) ?_
    exact ret_e [(0, 0)] [] (by simp only [push_cast, seval]) (by simp only [push_cast, seval]) rfl rfl rfl

set_option maxRecDepth 100000 in
set_option maxHeartbeats 200000000 in
theorem utf_Turn_spec (text : ByteArray) (r : ByteArray × Fault) (h : utf_Turn text = some r) : SpecW Try.prog 10 [.v (.string text)] [] 0 (fun x h n => x = .tup [.v (.string r.1), .agg (Enc.cells r.2)] ∧ h = [] ∧ n = 0) := by
  unfold utf_Turn at h
  refine spec_of (draw_ok _) Try.func10 rfl (by decide) rfl (by kernel_rfl) ?_
  refine seq_np ?_
  refine reg_f ?_
  refine rs 2 [] [] (by kernel_rfl) allP_nil ?_
  refine rf [(0, .v (.string text)), (3, .ptr 0 0)] [(0, .row 25 [iS 0, iS 0])] 1 (by kernel_rfl) ?_
  refine wk_id ?_
  refine seq_np ?_
  refine seq_np ?_
  refine reg_f ?_
  refine rs 3 [] [] (by kernel_rfl) allP_nil ?_
  refine rf [(0, .v (.string text)), (3, .ptr 0 0), (7, bS (decide ((20000 : Int) < (((text).size : Nat) : Int))))] [(0, .row 25 [iS 0, iS 0])] 1 (by kernel_rfl) ?_
  refine wk_id ?_
  refine cond_sx h (by kernel_rfl) (fun g612 h => ?_) (fun g612 h => ?_)
  · refine seq_np ?_
    refine reg_f ?_
    obtain ⟨r601, hr601, h⟩ := bind_sx h
    refine run_call 15 [iS 2, iS 0] (some 8) (by kernel_rfl) ?_
    refine call_0 (utf_fault_spec 2 0 r601 hr601) (by simp only [push_cast, seval]) (by simp only [push_cast, seval]) ?_
    refine back_f ?_
    refine rs 2 [] [] (by kernel_rfl) allP_nil ?_
    refine rf [(2, .v (.string ByteArray.empty)), (3, .ptr 0 0)] [(0, .row 25 (Enc.cells r601))] 1 (by kernel_rfl) ?_
    refine wk_id ?_
    obtain rfl := Option.some.inj h
    refine ret_at (.tup [.v (.string ByteArray.empty), .agg (Enc.cells r601)]) (by kernel_rfl) ?_
    exact ret_e [] [] (by simp only [push_cast, seval]) (by simp only [push_cast, seval]) rfl rfl rfl
  · refine wk_id ?_
    refine chk_sx h (fun g605 h => ?_)
    refine seq_np ?_
    refine reg_f ?_
    have k604 : (runesOf text).length ≤ 70368744177664 := by first | simpa only [Bool.and_eq_true, decide_eq_true_eq, bne_iff_ne, ne_eq] using g605 | (simp at g605 ⊢; omega)
    refine rs 3 [none, some ⟨.own 1 0 ((runesOf text).map Ki32.mk).length, [(1, .row 21 (fl ((runesOf text).map Ki32.mk)))], 2, []⟩] _ (by kernel_rfl) (allP_cons (ob_runes Ki32.mk (fun _ => rfl) text 21 1 k604) allP_nil) ?_
    refine rf [(3, .ptr 0 0), (4, .own 1 0 ((runesOf text).map Ki32.mk).length)] [(0, .row 25 [iS 0, iS 0]), (1, .row 21 (fl ((runesOf text).map Ki32.mk)))] 2 (by kernel_rfl) ?_
    refine wk_id ?_
    refine seq_np ?_
    refine reg_f ?_
    refine rs 1 [] [] (by kernel_rfl) allP_nil ?_
    obtain ⟨r609, hr609, h⟩ := bind_sx h
    refine call_x (slices_Reverse_rune_1_spec ((runesOf text).map Ki32.mk) r609 hr609) (args := [.own 1 0 ((runesOf text).map Ki32.mk).length]) (dst := (some 12)) (by kernel_rfl) [(0, .row 25 [iS 0, iS 0]), (1, .row 21 (fl ((runesOf text).map Ki32.mk)))] 2 (by kernel_rfl) [(0, 1)] [] (.tup []) [(1, .row 21 (fl r609)), (1, .dead)] (by simp only [push_cast, seval]) (by simp only [push_cast, seval]) (by kernel_rfl) (.inl rfl) (by simp only [push_cast, seval]) (by simp only [push_cast, seval]) ?_
    refine chk_sx h (fun g611 h => ?_)
    have e610 : ((runesOf text).map Ki32.mk).length = r609.length := (of_decide_eq_true g611).symm
    refine run_eqF 4 (.own 1 0 ((runesOf text).map Ki32.mk).length) (.own 1 0 r609.length) (congrArg (fun nq => (.own 1 0 nq : SV)) (show ((runesOf text).map Ki32.mk).length = r609.length from e610)) (by kernel_rfl) ?_
    refine rf [(3, .ptr 0 0), (4, .own 1 0 r609.length)] [(0, .row 25 [iS 0, iS 0]), (1, .row 21 (fl r609))] 3 (by kernel_rfl) ?_
    refine wk_id ?_
    refine seq_np ?_
    refine reg_f ?_
    refine rs 5 [none, some ⟨.v (.string (encL (r609.map Ki32.v))), [], 3, [1]⟩] _ (by kernel_rfl) (allP_cons (ob_str_o .i32 encL Ki32.v (fun _ => rfl) r609 1 3) allP_nil) ?_
    refine rf [(2, .v (.string (encL (r609.map Ki32.v)))), (3, .ptr 0 0)] [(0, .row 25 [iS 0, iS 0]), (1, .row 21 (fl r609))] 3 (by kernel_rfl) ?_
    refine wk_id ?_
    obtain rfl := Option.some.inj h
    refine ret_at (.tup [.v (.string (encL (r609.map Ki32.v))), .agg [iS 0, iS 0]]) (by kernel_rfl) ?_
    exact ret_e [] [] (by simp only [push_cast, seval]) (by simp only [push_cast, seval]) rfl rfl rfl

set_option maxRecDepth 100000 in
set_option maxHeartbeats 200000000 in
theorem taskmillref_F_spec (code : Int) (xat : Int) (r : Fault) (h : taskmillref_F code xat = some r) : SpecW Try.prog 11 [iS code, iS xat] [] 0 (fun x h n => x = .agg (Enc.cells r) ∧ h = [] ∧ n = 0) := by
  unfold taskmillref_F at h
  refine spec_of (draw_ok _) Try.func11 rfl (by decide) rfl (by kernel_rfl) ?_
  refine seq_np ?_
  refine reg_f ?_
  refine rs 1 [] [] (by kernel_rfl) allP_nil ?_
  refine rf [(0, iS code), (1, iS xat), (4, .ptr 0 0)] [(0, .row 25 [iS 0, iS 0])] 1 (by kernel_rfl) ?_
  refine wk_id ?_
  refine seq_np ?_
  refine reg_f ?_
  refine rs 4 [] [] (by kernel_rfl) allP_nil ?_
  refine rf [(4, .ptr 0 0)] [(0, .row 25 [iS code, iS xat])] 1 (by kernel_rfl) ?_
  refine wk_id ?_
  obtain rfl := Option.some.inj h
  refine ret_at (.agg [iS code, iS xat]) (by kernel_rfl) ?_
  exact ret_e [] [] (by simp only [push_cast, seval]) (by simp only [push_cast, seval]) rfl rfl rfl

set_option maxRecDepth 100000 in
set_option maxHeartbeats 200000000 in
theorem taskmillref_IsLetter_spec (n : Int) (r : Bool) (h : taskmillref_IsLetter n = some r) : SpecW Try.prog 19 [iS n] [] 0 (fun x h n => x = bS r ∧ h = [] ∧ n = 0) := by
  unfold taskmillref_IsLetter at h
  refine spec_of (draw_ok _) Try.func19 rfl (by decide) rfl (by kernel_rfl) ?_
  refine seq_np ?_
  refine reg_f ?_
  refine rs 1 [] [] (by kernel_rfl) allP_nil ?_
  refine rf [(0, iS n)] [] 0 (by kernel_rfl) ?_
  refine wk_id ?_
  refine seq_cut (A := Unit) (fun _ => ([(2, bS ((decide ((0 : Int) ≤ n)) && ((decide (n ≤ 1114111)) && ((!(decide ((55296 : Int) ≤ n))) || (!(decide (n ≤ 57343)))))))], [], 0)) (fun _ => True) (fun K632 hK632 => ?_) (fun _ _ => ?_)
  · refine reg_f ?_
    refine rs 3 [] [] (by kernel_rfl) allP_nil ?_
    refine run_split 5 (decide ((0 : Int) ≤ n)) (.inl (by kernel_rfl)) (fun g633 => ?_) (fun g633 => ?_)
    · refine rs 4 [] [] (by kernel_rfl) allP_nil ?_
      refine run_split 9 (decide (n ≤ 1114111)) (.inl (by kernel_rfl)) (fun g634 => ?_) (fun g634 => ?_)
      · refine rs 3 [] [] (by kernel_rfl) allP_nil ?_
        refine run_split 12 (decide ((55296 : Int) ≤ n)) (.inr (by kernel_rfl)) (fun g635 => ?_) (fun g635 => ?_)
        · refine rn 10 [(0, iS n), (9, bS true), (12, .gd true (bS true))] [] 0 (by kernel_rfl) ?_
          refine rs 6 [] [] (by kernel_rfl) allP_nil ?_
          refine rf [(2, bS (!(decide (n ≤ 57343))))] [] 0 (by kernel_rfl) ?_
          exact hK632 () _ _ _ trivial (leSt_m [] [] (by first | ((try simp only [g633, g634, g635]) <;> simp only [push_cast, seval]; done) | ((try simp only [g633]); (try simp only [g634]); (try simp only [g635]); simp only [push_cast, seval]; done) | (exfalso; clear h; simp_all; done)) (by first | ((try simp only [g633, g634, g635]) <;> simp only [push_cast, seval]; done) | ((try simp only [g633]); (try simp only [g634]); (try simp only [g635]); simp only [push_cast, seval]; done) | (exfalso; clear h; simp_all; done)) rfl rfl rfl)
        · refine rn 10 [(0, iS n), (9, bS true), (12, .gd true (bS false))] [] 0 (by kernel_rfl) ?_
          refine rs 6 [] [] (by kernel_rfl) allP_nil ?_
          refine rf [(2, bS true)] [] 0 (by kernel_rfl) ?_
          exact hK632 () _ _ _ trivial (leSt_m [] [] (by first | ((try simp only [g633, g634, g635]) <;> simp only [push_cast, seval]; done) | ((try simp only [g633]); (try simp only [g634]); (try simp only [g635]); simp only [push_cast, seval]; done) | (exfalso; clear h; simp_all; done)) (by first | ((try simp only [g633, g634, g635]) <;> simp only [push_cast, seval]; done) | ((try simp only [g633]); (try simp only [g634]); (try simp only [g635]); simp only [push_cast, seval]; done) | (exfalso; clear h; simp_all; done)) rfl rfl rfl)
      · refine rs 9 [] [] (by kernel_rfl) allP_nil ?_
        refine rf [(2, bS false)] [] 0 (by kernel_rfl) ?_
        exact hK632 () _ _ _ trivial (leSt_m [] [] (by first | ((try simp only [g633, g634]) <;> simp only [push_cast, seval]; done) | ((try simp only [g633]); (try simp only [g634]); simp only [push_cast, seval]; done) | (exfalso; clear h; simp_all; done)) (by first | ((try simp only [g633, g634]) <;> simp only [push_cast, seval]; done) | ((try simp only [g633]); (try simp only [g634]); simp only [push_cast, seval]; done) | (exfalso; clear h; simp_all; done)) rfl rfl rfl)
    · refine rs 13 [] [] (by kernel_rfl) allP_nil ?_
      refine rf [(2, bS false)] [] 0 (by kernel_rfl) ?_
      exact hK632 () _ _ _ trivial (leSt_m [] [] (by (try simp only [g633]) <;> simp only [push_cast, seval]) (by (try simp only [g633]) <;> simp only [push_cast, seval]) rfl rfl rfl)
  · dsimp only
    obtain rfl := Option.some.inj h
    refine ret_at (bS ((decide ((0 : Int) ≤ n)) && ((decide (n ≤ 1114111)) && ((!(decide ((55296 : Int) ≤ n))) || (!(decide (n ≤ 57343))))))) (by kernel_rfl) ?_
    exact ret_e [] [] (by simp only [push_cast, seval]) (by simp only [push_cast, seval]) rfl rfl rfl

set_option maxRecDepth 100000 in
set_option maxHeartbeats 200000000 in
theorem taskmillref_BytesOf_spec (n : Int) (r : (List Ku8)) (h : taskmillref_BytesOf n = some r) : SpecW Try.prog 17 [iS n] [] 0 (fun x h n => x = .own 0 0 r.length ∧ h = [(0, .row 5 (fl r))] ∧ n = 1) := by
  unfold taskmillref_BytesOf at h
  refine spec_of (draw_ok _) Try.func17 rfl (by decide) rfl (by kernel_rfl) ?_
  refine seq_np ?_
  refine reg_f ?_
  refine rs 1 [] [] (by kernel_rfl) allP_nil ?_
  refine rf [(0, iS n)] [] 0 (by kernel_rfl) ?_
  refine wk_id ?_
  refine seq_cut (A := Int) (fun a => ([(0, iS a)], [], 0)) (fun a => (taskmillref_BytesOf_j1 a) = some r) (fun K646 hK646 => ?_) ?_
  · refine seq_np ?_
    refine reg_f ?_
    refine rs 1 [] [] (by kernel_rfl) allP_nil ?_
    obtain ⟨r648, hr648, h⟩ := bind_sx h
    refine run_call 19 [iS n] (some 4) (by kernel_rfl) ?_
    refine call_0 (taskmillref_IsLetter_spec n r648 hr648) (by simp only [push_cast, seval]) (by simp only [push_cast, seval]) ?_
    refine back_f ?_
    refine rs 1 [] [] (by kernel_rfl) allP_nil ?_
    refine rf [(0, iS n), (5, bS (!r648))] [] 0 (by kernel_rfl) ?_
    refine wk_id ?_
    refine cond_sx h (by kernel_rfl) (fun g649 h => ?_) (fun g649 h => ?_)
    · refine reg_f ?_
      refine rs 1 [] [] (by kernel_rfl) allP_nil ?_
      refine rf [(0, iS 65533)] [] 0 (by kernel_rfl) ?_
      exact hK646 (65533) _ _ _ h (leSt_m [] [] (by simp only [push_cast, seval]) (by simp only [push_cast, seval]) rfl rfl rfl)
    · exact hK646 (n) _ _ _ h (leSt_m [] [] (by simp only [push_cast, seval]) (by simp only [push_cast, seval]) rfl rfl rfl)
  · rintro n2 h
    try dsimp only at h ⊢
    unfold taskmillref_BytesOf_j1 at h
    refine seq_np ?_
    refine seq_np ?_
    refine reg_f ?_
    refine rs 2 [] [] (by kernel_rfl) allP_nil ?_
    refine rf [(0, iS n2), (7, bS (decide (n2 < 128)))] [] 0 (by kernel_rfl) ?_
    refine wk_id ?_
    refine cond_sx h (by kernel_rfl) (fun g655 h => ?_) (fun g655 h => ?_)
    · refine seq_np ?_
      refine reg_f ?_
      refine rs 4 [] [] (by kernel_rfl) allP_nil ?_
      refine rf [(2, .own 0 0 ([(Ku8.mk (IntKind.u8.wrap n2))] : List Ku8).length)] [(0, .row 5 (fl ([(Ku8.mk (IntKind.u8.wrap n2))] : List Ku8)))] 1 (by kernel_rfl) ?_
      refine wk_id ?_
      obtain rfl := Option.some.inj h
      refine ret_at (.own 0 0 ([(Ku8.mk (IntKind.u8.wrap n2))] : List Ku8).length) (by kernel_rfl) ?_
      exact ret_e [(0, 0)] [] (by simp only [push_cast, seval]) (by simp only [push_cast, seval]) rfl rfl rfl
    · refine wk_id ?_
      refine seq_np ?_
      refine seq_np ?_
      refine reg_f ?_
      refine rs 2 [] [] (by kernel_rfl) allP_nil ?_
      refine rf [(0, iS n2), (12, bS (decide (n2 < 2048)))] [] 0 (by kernel_rfl) ?_
      refine wk_id ?_
      refine cond_sx h (by kernel_rfl) (fun g654 h => ?_) (fun g654 h => ?_)
      · refine seq_np ?_
        refine reg_f ?_
        refine rs 10 [] [] (by kernel_rfl) allP_nil ?_
        refine rf [(2, .own 0 0 ([(Ku8.mk (IntKind.u8.wrap (IntKind.i64.wrap ((192 : Int) + (IntKind.i64.wrap (Int.tdiv n2 64)))))), (Ku8.mk (IntKind.u8.wrap (IntKind.i64.wrap ((128 : Int) + (Int.tmod n2 64)))))] : List Ku8).length)] [(0, .row 5 (fl ([(Ku8.mk (IntKind.u8.wrap (IntKind.i64.wrap ((192 : Int) + (IntKind.i64.wrap (Int.tdiv n2 64)))))), (Ku8.mk (IntKind.u8.wrap (IntKind.i64.wrap ((128 : Int) + (Int.tmod n2 64)))))] : List Ku8)))] 1 (by kernel_rfl) ?_
        refine wk_id ?_
        obtain rfl := Option.some.inj h
        refine ret_at (.own 0 0 ([(Ku8.mk (IntKind.u8.wrap (IntKind.i64.wrap ((192 : Int) + (IntKind.i64.wrap (Int.tdiv n2 64)))))), (Ku8.mk (IntKind.u8.wrap (IntKind.i64.wrap ((128 : Int) + (Int.tmod n2 64)))))] : List Ku8).length) (by kernel_rfl) ?_
        exact ret_e [(0, 0)] [] (by simp only [push_cast, seval]) (by simp only [push_cast, seval]) rfl rfl rfl
      · refine wk_id ?_
        refine seq_np ?_
        refine seq_np ?_
        refine reg_f ?_
        refine rs 2 [] [] (by kernel_rfl) allP_nil ?_
        refine rf [(0, iS n2), (23, bS (decide (n2 < 65536)))] [] 0 (by kernel_rfl) ?_
        refine wk_id ?_
        refine cond_sx h (by kernel_rfl) (fun g653 h => ?_) (fun g653 h => ?_)
        · refine seq_np ?_
          refine reg_f ?_
          refine rs 15 [] [] (by kernel_rfl) allP_nil ?_
          refine rf [(2, .own 0 0 ([(Ku8.mk (IntKind.u8.wrap (IntKind.i64.wrap ((224 : Int) + (IntKind.i64.wrap (Int.tdiv n2 4096)))))), (Ku8.mk (IntKind.u8.wrap (IntKind.i64.wrap ((128 : Int) + (Int.tmod (IntKind.i64.wrap (Int.tdiv n2 64)) 64))))), (Ku8.mk (IntKind.u8.wrap (IntKind.i64.wrap ((128 : Int) + (Int.tmod n2 64)))))] : List Ku8).length)] [(0, .row 5 (fl ([(Ku8.mk (IntKind.u8.wrap (IntKind.i64.wrap ((224 : Int) + (IntKind.i64.wrap (Int.tdiv n2 4096)))))), (Ku8.mk (IntKind.u8.wrap (IntKind.i64.wrap ((128 : Int) + (Int.tmod (IntKind.i64.wrap (Int.tdiv n2 64)) 64))))), (Ku8.mk (IntKind.u8.wrap (IntKind.i64.wrap ((128 : Int) + (Int.tmod n2 64)))))] : List Ku8)))] 1 (by kernel_rfl) ?_
          refine wk_id ?_
          obtain rfl := Option.some.inj h
          refine ret_at (.own 0 0 ([(Ku8.mk (IntKind.u8.wrap (IntKind.i64.wrap ((224 : Int) + (IntKind.i64.wrap (Int.tdiv n2 4096)))))), (Ku8.mk (IntKind.u8.wrap (IntKind.i64.wrap ((128 : Int) + (Int.tmod (IntKind.i64.wrap (Int.tdiv n2 64)) 64))))), (Ku8.mk (IntKind.u8.wrap (IntKind.i64.wrap ((128 : Int) + (Int.tmod n2 64)))))] : List Ku8).length) (by kernel_rfl) ?_
          exact ret_e [(0, 0)] [] (by simp only [push_cast, seval]) (by simp only [push_cast, seval]) rfl rfl rfl
        · refine wk_id ?_
          refine seq_np ?_
          refine reg_f ?_
          refine rs 20 [] [] (by kernel_rfl) allP_nil ?_
          refine rf [(2, .own 0 0 ([(Ku8.mk (IntKind.u8.wrap (IntKind.i64.wrap ((240 : Int) + (IntKind.i64.wrap (Int.tdiv n2 262144)))))), (Ku8.mk (IntKind.u8.wrap (IntKind.i64.wrap ((128 : Int) + (Int.tmod (IntKind.i64.wrap (Int.tdiv n2 4096)) 64))))), (Ku8.mk (IntKind.u8.wrap (IntKind.i64.wrap ((128 : Int) + (Int.tmod (IntKind.i64.wrap (Int.tdiv n2 64)) 64))))), (Ku8.mk (IntKind.u8.wrap (IntKind.i64.wrap ((128 : Int) + (Int.tmod n2 64)))))] : List Ku8).length)] [(0, .row 5 (fl ([(Ku8.mk (IntKind.u8.wrap (IntKind.i64.wrap ((240 : Int) + (IntKind.i64.wrap (Int.tdiv n2 262144)))))), (Ku8.mk (IntKind.u8.wrap (IntKind.i64.wrap ((128 : Int) + (Int.tmod (IntKind.i64.wrap (Int.tdiv n2 4096)) 64))))), (Ku8.mk (IntKind.u8.wrap (IntKind.i64.wrap ((128 : Int) + (Int.tmod (IntKind.i64.wrap (Int.tdiv n2 64)) 64))))), (Ku8.mk (IntKind.u8.wrap (IntKind.i64.wrap ((128 : Int) + (Int.tmod n2 64)))))] : List Ku8)))] 1 (by kernel_rfl) ?_
          refine wk_id ?_
          obtain rfl := Option.some.inj h
          refine ret_at (.own 0 0 ([(Ku8.mk (IntKind.u8.wrap (IntKind.i64.wrap ((240 : Int) + (IntKind.i64.wrap (Int.tdiv n2 262144)))))), (Ku8.mk (IntKind.u8.wrap (IntKind.i64.wrap ((128 : Int) + (Int.tmod (IntKind.i64.wrap (Int.tdiv n2 4096)) 64))))), (Ku8.mk (IntKind.u8.wrap (IntKind.i64.wrap ((128 : Int) + (Int.tmod (IntKind.i64.wrap (Int.tdiv n2 64)) 64))))), (Ku8.mk (IntKind.u8.wrap (IntKind.i64.wrap ((128 : Int) + (Int.tmod n2 64)))))] : List Ku8).length) (by kernel_rfl) ?_
          exact ret_e [(0, 0)] [] (by simp only [push_cast, seval]) (by simp only [push_cast, seval]) rfl rfl rfl

set_option maxRecDepth 100000 in
set_option maxHeartbeats 200000000 in
theorem taskmillref_Written_spec (l : (List Int)) (r : ByteArray) (h : taskmillref_Written l = some r) : SpecW Try.prog 12 [.sl l.length (fl l)] [] 0 (fun x h n => x = .v (.string r) ∧ h = [] ∧ n = 0) := by
  unfold taskmillref_Written at h
  refine spec_of (draw_ok _) Try.func12 rfl (by decide) rfl (by kernel_rfl) ?_
  refine seq_np ?_
  refine reg_f ?_
  refine rs 1 [] [] (by kernel_rfl) allP_nil ?_
  refine rf [(0, .sl l.length (fl l))] [] 0 (by kernel_rfl) ?_
  refine wk_id ?_
  refine seq_np ?_
  refine reg_f ?_
  refine rs 1 [] [] (by kernel_rfl) allP_nil ?_
  refine rf [(0, .sl l.length (fl l)), (3, .v (.slice none 0 0))] [] 0 (by kernel_rfl) ?_
  refine wk_id ?_
  refine seq_np ?_
  refine seq_np ?_
  refine reg_f ?_
  refine rs 1 [] [] (by kernel_rfl) allP_nil ?_
  refine rf [(0, .sl l.length (fl l)), (3, .v (.slice none 0 0)), (4, iS 0)] [] 0 (by kernel_rfl) ?_
  refine wk_id ?_
  refine block_np ?_
  refine loop_sx (S := Int × (List Ku8)) (fun a => ([(0, .sl l.length (fl l)), (3, .own 0 0 a.2.length), (4, iS a.1)], [(0, .row 5 (fl a.2))], 1)) h (leSt_m [] [] (by simp only [push_cast, seval]) (by simp only [push_cast, seval]) rfl rfl rfl) ?_
  rintro ⟨i7, c0q7⟩ o2 R2 h hr2 hn2 hx2 ht2
  try dsimp only at h hn2 ⊢
  unfold taskmillref_Written_l1 at h
  try dsimp only at h
  refine seq_np ?_
  refine seq_np ?_
  refine reg_f ?_
  refine rs 4 [] [] (by kernel_rfl) allP_nil ?_
  refine rf [(0, .sl l.length (fl l)), (3, .own 0 0 c0q7.length), (4, iS i7), (8, bS (decide (i7 < ((l.length : Nat) : Int))))] [(0, .row 5 (fl c0q7))] 1 (by kernel_rfl) ?_
  refine wk_id ?_
  refine cond_sx h (by kernel_rfl) (fun g744 h => ?_) (fun g744 h => ?_)
  · refine wk_id ?_
    refine seq_np ?_
    refine block_np ?_
    refine chk_sx h (fun g740 h => ?_)
    refine reg_f ?_
    have k739 : 0 ≤ i7 ∧ i7 < ((l.length : Nat) : Int) := by first | simpa only [Bool.and_eq_true, decide_eq_true_eq, bne_iff_ne, ne_eq] using g740 | (simp at g740 ⊢; omega)
    refine rs 5 [none, none, none, some ⟨.iptr (fl l) ((i7).toNat * 1), [], 1, []⟩, some ⟨iS (ix l i7), [], 1, []⟩] _ (by kernel_rfl) (allP_cons (ob_ld l i7 1 0 ((i7).toNat * 1) k739 rfl (by decide) (by first | rfl | omega) (dflS Try.prog 3) (iS (ix l i7)) rfl 1 []) (allP_cons (ob_ix_l l 1 1 i7 k739) allP_nil)) ?_
    obtain ⟨r741, hr741, h⟩ := bind_sx h
    refine call_x (taskmillref_BytesOf_spec (ix l i7) r741 hr741) (args := [iS (ix l i7)]) (dst := (some 16)) (by kernel_rfl) [(0, .row 5 (fl c0q7))] 1 (by kernel_rfl) [] [] (.own 1 0 r741.length) [(1, .row 5 (fl r741))] (by simp only [push_cast, seval]) (by simp only [push_cast, seval]) (by kernel_rfl) (.inl rfl) (by simp only [push_cast, seval]) (by simp only [push_cast, seval]) ?_
    refine chk_sx h (fun g743 h => ?_)
    have k742 : (c0q7 ++ r741).length * 1 ≤ 140737488355328 := by first | simpa only [Bool.and_eq_true, decide_eq_true_eq, bne_iff_ne, ne_eq] using g743 | (simp at g743 ⊢; omega)
    refine rs 2 [some ⟨.own 2 0 (c0q7 ++ r741).length, [(2, .row 5 (fl (c0q7 ++ r741))), (0, .dead)], 3, [0, 1]⟩] _ (by kernel_rfl) (allP_cons (ob_app (P := Try.prog) c0q7 r741 1 1 rfl (appCells (fl r741) 0 (r741.length * 1)) r741.length (app_own r741 1 rfl) rfl (0 + r741.length * 1 ≤ (fl r741).length) (app_own_le r741 1 rfl) 5 (by kernel_rfl) (by decide) k742 0 2 [1]) allP_nil) ?_
    refine rf [(0, .sl l.length (fl l)), (3, .own 2 0 (c0q7 ++ r741).length), (4, iS i7)] [(0, .dead), (1, .row 5 (fl r741)), (2, .row 5 (fl (c0q7 ++ r741)))] 3 (by kernel_rfl) ?_
    refine wk_id ?_
    refine wk_id ?_
    refine reg_f ?_
    refine rs 3 [] [] (by kernel_rfl) allP_nil ?_
    refine rf [(0, .sl l.length (fl l)), (3, .own 2 0 (c0q7 ++ r741).length), (4, iS (IntKind.i64.wrap (i7 + 1)))] [(0, .dead), (1, .row 5 (fl r741)), (2, .row 5 (fl (c0q7 ++ r741)))] 3 (by kernel_rfl) ?_
    exact hn2 ((IntKind.i64.wrap (i7 + 1)), (c0q7 ++ r741)) _ _ _ (Option.some.inj h).symm (leSt_m [(0, 2)] [] (by simp only [push_cast, seval]) (by simp only [push_cast, seval]) rfl rfl rfl)
  · change R2 (.exit 0) _ _ _
    refine ex_cast hx2 (id := 0) ?_
    obtain ⟨r0, h, e0⟩ := map_sx h
    have e1 := hr2 r0 e0.symm
    subst r0
    refine wk_id ?_
    refine wk_id ?_
    refine seq_np ?_
    refine reg_f ?_
    refine rs 3 [none, some ⟨.v (.string (bytL (c0q7.map Ku8.v))), [], 1, [0]⟩] _ (by kernel_rfl) (allP_cons (ob_str_o .u8 bytL Ku8.v (fun _ => rfl) c0q7 0 1) allP_nil) ?_
    refine rf [(2, .v (.string (bytL (c0q7.map Ku8.v))))] [(0, .row 5 (fl c0q7))] 1 (by kernel_rfl) ?_
    refine wk_id ?_
    obtain rfl := Option.some.inj h
    refine ret_at (.v (.string (bytL (c0q7.map Ku8.v)))) (by kernel_rfl) ?_
    exact ret_e [] [] (by simp only [push_cast, seval]) (by simp only [push_cast, seval]) rfl rfl rfl

set_option maxRecDepth 100000 in
set_option maxHeartbeats 200000000 in
theorem taskmillref_LetterAt_spec (s : ByteArray) (i : Int) (r : Int × Int) (h : taskmillref_LetterAt s i = some r) : SpecW Try.prog 18 [.v (.string s), iS i] [] 0 (fun x h n => x = .tup [iS r.1, iS r.2] ∧ h = [] ∧ n = 0) := by
  unfold taskmillref_LetterAt at h
  refine spec_of (draw_ok _) Try.func18 rfl (by decide) rfl (by kernel_rfl) ?_
  refine seq_np ?_
  refine reg_f ?_
  refine rs 2 [] [] (by kernel_rfl) allP_nil ?_
  refine rf [(0, .v (.string s)), (1, iS i)] [] 0 (by kernel_rfl) ?_
  refine wk_id ?_
  refine seq_np ?_
  refine seq_np ?_
  refine reg_f ?_
  refine rs 1 [] [] (by kernel_rfl) allP_nil ?_
  refine rf [(0, .v (.string s)), (1, iS i), (6, iS 1)] [] 0 (by kernel_rfl) ?_
  refine wk_id ?_
  refine block_np ?_
  refine loop_sx (S := Int) (fun a => ([(0, .v (.string s)), (1, iS i), (6, iS a)], [], 0)) h (leSt_m [] [] (by simp only [push_cast, seval]) (by simp only [push_cast, seval]) rfl rfl rfl) ?_
  rintro many7 o3 R3 h hr3 hn3 hx3 ht3
  try dsimp only at h hn3 ⊢
  unfold taskmillref_LetterAt_l2 at h
  try dsimp only at h
  refine seq_np ?_
  refine seq_cut (A := Unit) (fun _ => ([(0, .v (.string s)), (1, iS i), (6, iS many7), (18, bS ((decide (many7 ≤ 4)) && (decide ((IntKind.i64.wrap (i + many7)) ≤ (((s).size : Nat) : Int)))))], [], 0)) (fun _ => True) (fun K1053 hK1053 => ?_) (fun _ _ => ?_)
  · refine reg_f ?_
    refine rs 3 [] [] (by kernel_rfl) allP_nil ?_
    refine run_split 11 (decide (many7 ≤ 4)) (.inl (by kernel_rfl)) (fun g1054 => ?_) (fun g1054 => ?_)
    · refine rs 7 [] [] (by kernel_rfl) allP_nil ?_
      refine rf [(0, .v (.string s)), (1, iS i), (6, iS many7), (18, bS (decide ((IntKind.i64.wrap (i + many7)) ≤ (((s).size : Nat) : Int))))] [] 0 (by kernel_rfl) ?_
      exact hK1053 () _ _ _ trivial (leSt_m [] [] (by (try simp only [g1054]) <;> simp only [push_cast, seval]) (by (try simp only [g1054]) <;> simp only [push_cast, seval]) rfl rfl rfl)
    · refine rs 7 [] [] (by kernel_rfl) allP_nil ?_
      refine rf [(0, .v (.string s)), (1, iS i), (6, iS many7), (18, bS false)] [] 0 (by kernel_rfl) ?_
      exact hK1053 () _ _ _ trivial (leSt_m [] [] (by (try simp only [g1054]) <;> simp only [push_cast, seval]) (by (try simp only [g1054]) <;> simp only [push_cast, seval]) rfl rfl rfl)
  · dsimp only
    refine cond_sx h (by kernel_rfl) (fun g1217 h => ?_) (fun g1217 h => ?_)
    · refine wk_id ?_
      refine seq_np ?_
      refine block_np ?_
      refine seq_np ?_
      refine reg_f ?_
      refine rs 1 [] [] (by kernel_rfl) allP_nil ?_
      refine rf [(0, .v (.string s)), (1, iS i), (6, iS many7), (7, iS 0)] [] 0 (by kernel_rfl) ?_
      refine wk_id ?_
      refine seq_np ?_
      refine seq_np ?_
      refine reg_f ?_
      refine rs 1 [] [] (by kernel_rfl) allP_nil ?_
      refine rf [(0, .v (.string s)), (1, iS i), (6, iS many7), (7, iS 0), (21, iS many7)] [] 0 (by kernel_rfl) ?_
      refine wk_id ?_
      refine block_cut (A := Int) (fun a => ([(0, .v (.string s)), (1, iS i), (6, iS many7), (7, iS a)], [], 0)) (fun a => (taskmillref_LetterAt_j2 s i many7 a) = some o3) (fun K1146 hK1146 => ?_) ?_
      · refine seq_np ?_
        refine reg_f ?_
        refine rs 2 [] [] (by kernel_rfl) allP_nil ?_
        refine rf [(0, .v (.string s)), (1, iS i), (6, iS many7), (7, iS 0), (21, iS many7), (22, bS (many7 == 1))] [] 0 (by kernel_rfl) ?_
        refine wk_id ?_
        refine cond_sx h (by kernel_rfl) (fun g1166 h => ?_) (fun g1166 h => ?_)
        · refine chk_sx h (fun g1150 h => ?_)
          refine reg_f ?_
          have k1149 : 0 ≤ i ∧ i < (((s).size : Nat) : Int) := by first | simpa only [Bool.and_eq_true, decide_eq_true_eq, bne_iff_ne, ne_eq] using g1150 | (simp at g1150 ⊢; omega)
          refine rs 5 [none, none, some ⟨.v (.int .u8 (((s).data.getD (i).toNat 0).toNat : Int)), [], 0, []⟩] _ (by kernel_rfl) (allP_cons (ob_p (v := .v (.int .u8 (((s).data.getD (i).toNat 0).toNat : Int))) (nx := 0) (r := []) k1149) allP_nil) ?_
          refine rf [(0, .v (.string s)), (1, iS i), (6, iS many7), (7, iS (IntKind.i64.wrap (((s).data.getD (i).toNat 0).toNat : Int)))] [] 0 (by kernel_rfl) ?_
          exact hK1146 ((IntKind.i64.wrap (((s).data.getD (i).toNat 0).toNat : Int))) _ _ _ h (leSt_m [] [] (by simp only [push_cast, seval]) (by simp only [push_cast, seval]) rfl rfl rfl)
        · refine seq_np ?_
          refine reg_f ?_
          refine rs 2 [] [] (by kernel_rfl) allP_nil ?_
          refine rf [(0, .v (.string s)), (1, iS i), (6, iS many7), (7, iS 0), (21, iS many7), (28, bS (many7 == 2))] [] 0 (by kernel_rfl) ?_
          refine wk_id ?_
          refine cond_sx h (by kernel_rfl) (fun g1165 h => ?_) (fun g1165 h => ?_)
          · refine chk_sx h (fun g1154 h => ?_)
            refine reg_f ?_
            have k1153 : 0 ≤ i ∧ i < (((s).size : Nat) : Int) := by first | simpa only [Bool.and_eq_true, decide_eq_true_eq, bne_iff_ne, ne_eq] using g1154 | (simp at g1154 ⊢; omega)
            refine rs 6 [none, none, some ⟨.v (.int .u8 (((s).data.getD (i).toNat 0).toNat : Int)), [], 0, []⟩] _ (by kernel_rfl) (allP_cons (ob_p (v := .v (.int .u8 (((s).data.getD (i).toNat 0).toNat : Int))) (nx := 0) (r := []) k1153) allP_nil) ?_
            refine rf [(0, .v (.string s)), (1, iS i), (6, iS many7), (7, iS (IntKind.i64.wrap ((IntKind.i64.wrap (((s).data.getD (i).toNat 0).toNat : Int)) - 192)))] [] 0 (by kernel_rfl) ?_
            exact hK1146 ((IntKind.i64.wrap ((IntKind.i64.wrap (((s).data.getD (i).toNat 0).toNat : Int)) - 192))) _ _ _ h (leSt_m [] [] (by simp only [push_cast, seval]) (by simp only [push_cast, seval]) rfl rfl rfl)
          · refine seq_np ?_
            refine reg_f ?_
            refine rs 2 [] [] (by kernel_rfl) allP_nil ?_
            refine rf [(0, .v (.string s)), (1, iS i), (6, iS many7), (7, iS 0), (21, iS many7), (35, bS (many7 == 3))] [] 0 (by kernel_rfl) ?_
            refine wk_id ?_
            refine cond_sx h (by kernel_rfl) (fun g1164 h => ?_) (fun g1164 h => ?_)
            · refine chk_sx h (fun g1158 h => ?_)
              refine reg_f ?_
              have k1157 : 0 ≤ i ∧ i < (((s).size : Nat) : Int) := by first | simpa only [Bool.and_eq_true, decide_eq_true_eq, bne_iff_ne, ne_eq] using g1158 | (simp at g1158 ⊢; omega)
              refine rs 6 [none, none, some ⟨.v (.int .u8 (((s).data.getD (i).toNat 0).toNat : Int)), [], 0, []⟩] _ (by kernel_rfl) (allP_cons (ob_p (v := .v (.int .u8 (((s).data.getD (i).toNat 0).toNat : Int))) (nx := 0) (r := []) k1157) allP_nil) ?_
              refine rf [(0, .v (.string s)), (1, iS i), (6, iS many7), (7, iS (IntKind.i64.wrap ((IntKind.i64.wrap (((s).data.getD (i).toNat 0).toNat : Int)) - 224)))] [] 0 (by kernel_rfl) ?_
              exact hK1146 ((IntKind.i64.wrap ((IntKind.i64.wrap (((s).data.getD (i).toNat 0).toNat : Int)) - 224))) _ _ _ h (leSt_m [] [] (by simp only [push_cast, seval]) (by simp only [push_cast, seval]) rfl rfl rfl)
            · refine seq_np ?_
              refine reg_f ?_
              refine rs 2 [] [] (by kernel_rfl) allP_nil ?_
              refine rf [(0, .v (.string s)), (1, iS i), (6, iS many7), (7, iS 0), (42, bS (many7 == 4))] [] 0 (by kernel_rfl) ?_
              refine wk_id ?_
              refine cond_sx h (by kernel_rfl) (fun g1163 h => ?_) (fun g1163 h => ?_)
              · refine chk_sx h (fun g1162 h => ?_)
                refine reg_f ?_
                have k1161 : 0 ≤ i ∧ i < (((s).size : Nat) : Int) := by first | simpa only [Bool.and_eq_true, decide_eq_true_eq, bne_iff_ne, ne_eq] using g1162 | (simp at g1162 ⊢; omega)
                refine rs 6 [none, none, some ⟨.v (.int .u8 (((s).data.getD (i).toNat 0).toNat : Int)), [], 0, []⟩] _ (by kernel_rfl) (allP_cons (ob_p (v := .v (.int .u8 (((s).data.getD (i).toNat 0).toNat : Int))) (nx := 0) (r := []) k1161) allP_nil) ?_
                refine rf [(0, .v (.string s)), (1, iS i), (6, iS many7), (7, iS (IntKind.i64.wrap ((IntKind.i64.wrap (((s).data.getD (i).toNat 0).toNat : Int)) - 240)))] [] 0 (by kernel_rfl) ?_
                exact hK1146 ((IntKind.i64.wrap ((IntKind.i64.wrap (((s).data.getD (i).toNat 0).toNat : Int)) - 240))) _ _ _ h (leSt_m [] [] (by simp only [push_cast, seval]) (by simp only [push_cast, seval]) rfl rfl rfl)
              · exact hK1146 (0) _ _ _ h (leSt_m [] [] (by simp only [push_cast, seval]) (by simp only [push_cast, seval]) rfl rfl rfl)
      · rintro n28 h
        try dsimp only at h ⊢
        unfold taskmillref_LetterAt_j2 at h
        refine wk_id ?_
        refine seq_np ?_
        refine seq_np ?_
        refine reg_f ?_
        refine rs 1 [] [] (by kernel_rfl) allP_nil ?_
        refine rf [(0, .v (.string s)), (1, iS i), (6, iS many7), (7, iS n28), (8, iS 1)] [] 0 (by kernel_rfl) ?_
        refine wk_id ?_
        refine block_np ?_
        refine loop_sx (S := Int × Int) (fun a => ([(0, .v (.string s)), (1, iS i), (6, iS many7), (7, iS a.1), (8, iS a.2)], [], 0)) h (leSt_m [] [] (by simp only [push_cast, seval]) (by simp only [push_cast, seval]) rfl rfl rfl) ?_
        rintro ⟨n34, k23⟩ o4 R4 h hr4 hn4 hx4 ht4
        try dsimp only at h hn4 ⊢
        unfold taskmillref_LetterAt_l1 at h
        try dsimp only at h
        refine seq_np ?_
        refine seq_np ?_
        refine reg_f ?_
        refine rs 3 [] [] (by kernel_rfl) allP_nil ?_
        refine rf [(0, .v (.string s)), (1, iS i), (6, iS many7), (7, iS n34), (8, iS k23), (51, bS (decide (k23 < many7)))] [] 0 (by kernel_rfl) ?_
        refine wk_id ?_
        refine cond_sx h (by kernel_rfl) (fun g1216 h => ?_) (fun g1216 h => ?_)
        · refine wk_id ?_
          refine seq_np ?_
          refine block_np ?_
          refine chk_sx h (fun g1202 h => ?_)
          refine reg_f ?_
          have k1201 : 0 ≤ (IntKind.i64.wrap (i + k23)) ∧ (IntKind.i64.wrap (i + k23)) < (((s).size : Nat) : Int) := by first | simpa only [Bool.and_eq_true, decide_eq_true_eq, bne_iff_ne, ne_eq] using g1202 | (simp at g1202 ⊢; omega)
          refine rs 11 [none, none, none, none, none, none, some ⟨.v (.int .u8 (((s).data.getD ((IntKind.i64.wrap (i + k23))).toNat 0).toNat : Int)), [], 0, []⟩] _ (by kernel_rfl) (allP_cons (ob_p (v := .v (.int .u8 (((s).data.getD ((IntKind.i64.wrap (i + k23))).toNat 0).toNat : Int))) (nx := 0) (r := []) k1201) allP_nil) ?_
          refine rf [(0, .v (.string s)), (1, iS i), (6, iS many7), (7, iS (IntKind.i64.wrap ((IntKind.i64.wrap ((IntKind.i64.wrap (n34 * 64)) + (IntKind.i64.wrap (((s).data.getD ((IntKind.i64.wrap (i + k23))).toNat 0).toNat : Int)))) - 128))), (8, iS k23)] [] 0 (by kernel_rfl) ?_
          refine wk_id ?_
          refine wk_id ?_
          refine reg_f ?_
          refine rs 3 [] [] (by kernel_rfl) allP_nil ?_
          refine rf [(0, .v (.string s)), (1, iS i), (6, iS many7), (7, iS (IntKind.i64.wrap ((IntKind.i64.wrap ((IntKind.i64.wrap (n34 * 64)) + (IntKind.i64.wrap (((s).data.getD ((IntKind.i64.wrap (i + k23))).toNat 0).toNat : Int)))) - 128))), (8, iS (IntKind.i64.wrap (k23 + 1)))] [] 0 (by kernel_rfl) ?_
          exact hn4 ((IntKind.i64.wrap ((IntKind.i64.wrap ((IntKind.i64.wrap (n34 * 64)) + (IntKind.i64.wrap (((s).data.getD ((IntKind.i64.wrap (i + k23))).toNat 0).toNat : Int)))) - 128)), (IntKind.i64.wrap (k23 + 1))) _ _ _ (Option.some.inj h).symm (leSt_m [] [] (by simp only [push_cast, seval]) (by simp only [push_cast, seval]) rfl rfl rfl)
        · change R4 (.exit 3) _ _ _
          refine ex_cast hx4 (id := 3) ?_
          obtain ⟨r0, h, e0⟩ := map_sx h
          have e1 := hr4 r0 e0.symm
          subst r0
          refine wk_id ?_
          refine wk_id ?_
          refine seq_cut (A := Bool) (fun a => ([(0, .v (.string s)), (1, iS i), (6, iS many7), (7, iS n34), (77, bS a)], [], 0)) (fun a => (taskmillref_LetterAt_j1 s i many7 n34 a) = some o3) (fun K1209 hK1209 => ?_) ?_
          · refine reg_t ?_
            refine rs 1 [] [] (by kernel_rfl) allP_nil ?_
            obtain ⟨r1210, hr1210, h⟩ := bind_sx h
            refine run_call 19 [iS n34] (some 65) (by kernel_rfl) ?_
            refine callE_0 (taskmillref_IsLetter_spec n34 r1210 hr1210) (by simp only [push_cast, seval]) (by simp only [push_cast, seval]) ?_
            refine back_t ?_
            refine rs 1 [] [] (by kernel_rfl) allP_nil ?_
            refine run_br h 66 (.inl (by kernel_rfl)) (fun g1211 h => ?_) (fun g1211 h => ?_)
            · refine rs 1 [] [] (by kernel_rfl) allP_nil ?_
              obtain ⟨r1212, hr1212, h⟩ := bind_sx h
              refine call_x (taskmillref_BytesOf_spec n34 r1212 hr1212) (args := [iS n34]) (dst := (some 68)) (by kernel_rfl) [] 4 (by kernel_rfl) [] [] (.own 4 0 r1212.length) [(4, .row 5 (fl r1212))] (by simp only [push_cast, seval]) (by simp only [push_cast, seval]) (by kernel_rfl) (.inl rfl) (by simp only [push_cast, seval]) (by simp only [push_cast, seval]) ?_
              refine rn 5 [(0, .v (.string s)), (1, iS i), (6, iS many7), (7, iS n34), (66, bS true), (68, .own 4 0 r1212.length)] [(4, .row 5 (fl r1212))] 6 (by kernel_rfl) ?_
              refine chk_sx h (fun g1214 h => ?_)
              have k1213 : 0 ≤ i ∧ i ≤ (IntKind.i64.wrap (i + many7)) ∧ (IntKind.i64.wrap (i + many7)) ≤ (((s).size : Nat) : Int) := by first | simpa only [Bool.and_eq_true, decide_eq_true_eq, bne_iff_ne, ne_eq] using g1214 | (simp at g1214 ⊢; omega)
              refine rs 9 [some ⟨.v (.string (bytL (r1212.map Ku8.v))), [], 6, [4]⟩, none, none, none, none, none, some ⟨.v (.string ((s).extract (i).toNat ((IntKind.i64.wrap (i + many7))).toNat)), [], 12, []⟩, some ⟨bS (decide ((bytL (r1212.map Ku8.v)) = ((s).extract (i).toNat ((IntKind.i64.wrap (i + many7))).toNat))), [], 13, []⟩] _ (by kernel_rfl) (allP_cons (ob_p (v := bS (decide ((bytL (r1212.map Ku8.v)) = ((s).extract (i).toNat ((IntKind.i64.wrap (i + many7))).toNat)))) (nx := 13) (r := []) trivial) (allP_cons (ob_p (v := .v (.string ((s).extract (i).toNat ((IntKind.i64.wrap (i + many7))).toNat))) (nx := 12) (r := []) k1213) (allP_cons (ob_str_o .u8 bytL Ku8.v (fun _ => rfl) r1212 4 6) allP_nil))) ?_
              refine rt [(0, .v (.string s)), (1, iS i), (6, iS many7), (7, iS n34), (77, bS (decide ((bytL (r1212.map Ku8.v)) = ((s).extract (i).toNat ((IntKind.i64.wrap (i + many7))).toNat))))] [(4, .row 5 (fl r1212))] 15 follows (by kernel_rfl) ?_
              exact hK1209 ((decide ((bytL (r1212.map Ku8.v)) = ((s).extract (i).toNat ((IntKind.i64.wrap (i + many7))).toNat)))) _ _ _ h (leSt_m [] [] (by (try simp only [g1211]) <;> simp only [push_cast, seval]) (by (try simp only [g1211]) <;> simp only [push_cast, seval]) rfl rfl rfl)
            · refine rs 11 [] [] (by kernel_rfl) allP_nil ?_
              refine rt [(0, .v (.string s)), (1, iS i), (6, iS many7), (7, iS n34), (77, bS false)] [] 14 follows (by kernel_rfl) ?_
              exact hK1209 (false) _ _ _ h (leSt_m [] [] (by (try simp only [g1211]) <;> simp only [push_cast, seval]) (by (try simp only [g1211]) <;> simp only [push_cast, seval]) rfl rfl rfl)
          · rintro t77q13 h
            try dsimp only at h ⊢
            unfold taskmillref_LetterAt_j1 at h
            refine cond_sx h (by kernel_rfl) (fun g1215 h => ?_) (fun g1215 h => ?_)
            · refine seq_np ?_
              refine reg_f ?_
              refine rs 4 [] [] (by kernel_rfl) allP_nil ?_
              refine rf [(4, iS n34), (5, iS many7)] [] 0 (by kernel_rfl) ?_
              refine wk_id ?_
              refine rt_cast ht3 ?_
              obtain ⟨r0, h, e0⟩ := map_sx h
              have e1 := hr3 r0 e0.symm
              subst r0
              obtain rfl := Option.some.inj h
              refine ret_at (.tup [iS n34, iS many7]) (by kernel_rfl) ?_
              exact ret_e [] [] (by simp only [push_cast, seval]) (by simp only [push_cast, seval]) rfl rfl rfl
            · refine wk_id ?_
              refine wk_id ?_
              refine reg_f ?_
              refine rs 3 [] [] (by kernel_rfl) allP_nil ?_
              refine rf [(0, .v (.string s)), (1, iS i), (6, iS (IntKind.i64.wrap (many7 + 1)))] [] 0 (by kernel_rfl) ?_
              exact hn3 ((IntKind.i64.wrap (many7 + 1))) _ _ _ (Option.some.inj h).symm (leSt_m [] [] (by simp only [push_cast, seval]) (by simp only [push_cast, seval]) rfl rfl rfl)
    · change R3 (.exit 0) _ _ _
      refine ex_cast hx3 (id := 0) ?_
      obtain ⟨r0, h, e0⟩ := map_sx h
      have e1 := hr3 r0 e0.symm
      subst r0
      refine wk_id ?_
      refine wk_id ?_
      refine seq_np ?_
      refine reg_f ?_
      refine rs 2 [] [] (by kernel_rfl) allP_nil ?_
      refine rf [(4, iS 65533), (5, iS 0)] [] 0 (by kernel_rfl) ?_
      refine wk_id ?_
      obtain rfl := Option.some.inj h
      refine ret_at (.tup [iS 65533, iS 0]) (by kernel_rfl) ?_
      exact ret_e [] [] (by simp only [push_cast, seval]) (by simp only [push_cast, seval]) rfl rfl rfl

set_option maxRecDepth 100000 in
set_option maxHeartbeats 200000000 in
theorem taskmillref_Read_spec (s : ByteArray) (r : Int × (List S39)) (h : taskmillref_Read s = some r) : SpecW Try.prog 13 [.v (.string s)] [] 0 (fun x h n => x = .tup [.own 0 0 r.2.length, iS r.1] ∧ h = [(0, .row 39 (fl r.2))] ∧ n = 1) := by
  unfold taskmillref_Read at h
  refine spec_of (draw_ok _) Try.func13 rfl (by decide) rfl (by kernel_rfl) ?_
  refine seq_np ?_
  refine reg_f ?_
  refine rs 2 [] [] (by kernel_rfl) allP_nil ?_
  refine rf [(0, .v (.string s))] [] 0 (by kernel_rfl) ?_
  refine wk_id ?_
  refine seq_np ?_
  refine reg_f ?_
  refine rs 1 [] [] (by kernel_rfl) allP_nil ?_
  refine rf [(0, .v (.string s)), (4, .v (.slice none 0 0))] [] 0 (by kernel_rfl) ?_
  refine wk_id ?_
  refine seq_np ?_
  refine reg_f ?_
  refine rs 1 [] [] (by kernel_rfl) allP_nil ?_
  refine rf [(0, .v (.string s)), (4, .v (.slice none 0 0)), (5, iS (-1))] [] 0 (by kernel_rfl) ?_
  refine wk_id ?_
  refine seq_np ?_
  refine seq_np ?_
  refine reg_f ?_
  refine rs 1 [] [] (by kernel_rfl) allP_nil ?_
  refine rf [(0, .v (.string s)), (4, .v (.slice none 0 0)), (5, iS (-1)), (6, iS 0)] [] 0 (by kernel_rfl) ?_
  refine wk_id ?_
  refine block_np ?_
  refine loop_sx (S := Int × Int × (List S39)) (fun a => ([(0, .v (.string s)), (4, .own 0 0 a.2.2.length), (5, iS a.1), (6, iS a.2.1)], [(0, .row 39 (fl a.2.2))], 1)) h (leSt_m [] [] (by simp only [push_cast, seval]) (by simp only [push_cast, seval]) rfl rfl rfl) ?_
  rintro ⟨bad25, i7, c0q26⟩ o2 R2 h hr2 hn2 hx2 ht2
  try dsimp only at h hn2 ⊢
  unfold taskmillref_Read_l1 at h
  try dsimp only at h
  refine seq_np ?_
  refine seq_np ?_
  refine reg_f ?_
  refine rs 4 [] [] (by kernel_rfl) allP_nil ?_
  refine rf [(0, .v (.string s)), (4, .own 0 0 c0q26.length), (5, iS bad25), (6, iS i7), (12, bS (decide (i7 < (((s).size : Nat) : Int))))] [(0, .row 39 (fl c0q26))] 1 (by kernel_rfl) ?_
  refine wk_id ?_
  refine cond_sx h (by kernel_rfl) (fun g1337 h => ?_) (fun g1337 h => ?_)
  · refine wk_id ?_
    refine block_np ?_
    refine seq_np ?_
    refine reg_f ?_
    refine rs 2 [] [] (by kernel_rfl) allP_nil ?_
    obtain ⟨r1321, hr1321, h⟩ := bind_sx h
    refine run_call 18 [.v (.string s), iS i7] (some 16) (by kernel_rfl) ?_
    refine call_0 (taskmillref_LetterAt_spec s i7 r1321 hr1321) (by simp only [push_cast, seval]) (by simp only [push_cast, seval]) ?_
    refine back_f ?_
    refine rs 5 [] [] (by kernel_rfl) allP_nil ?_
    refine rf [(0, .v (.string s)), (4, .own 0 0 c0q26.length), (5, iS bad25), (6, iS i7), (7, iS r1321.1), (8, iS r1321.2)] [(0, .row 39 (fl c0q26))] 1 (by kernel_rfl) ?_
    refine wk_id ?_
    refine chk_sx h (fun g1325 h => ?_)
    refine seq_np ?_
    refine reg_f ?_
    have k1324 : (c0q26 ++ ([(S39.mk i7 r1321.1)] : List S39)).length * 16 ≤ 140737488355328 := by first | simpa only [Bool.and_eq_true, decide_eq_true_eq, bne_iff_ne, ne_eq] using g1325 | (simp at g1325 ⊢; omega)
    refine rs 7 [none, none, none, none, none, some ⟨.own 2 0 (c0q26 ++ ([(S39.mk i7 r1321.1)] : List S39)).length, [(2, .row 39 (fl (c0q26 ++ ([(S39.mk i7 r1321.1)] : List S39)))), (0, .dead)], 3, [0, 1]⟩] _ (by kernel_rfl) (allP_cons (ob_app (P := Try.prog) c0q26 ([(S39.mk i7 r1321.1)] : List S39) 2 16 rfl (appCells (fl ([(S39.mk i7 r1321.1)] : List S39)) 0 (([(S39.mk i7 r1321.1)] : List S39).length * 2)) ([(S39.mk i7 r1321.1)] : List S39).length (app_own ([(S39.mk i7 r1321.1)] : List S39) 2 rfl) rfl (0 + ([(S39.mk i7 r1321.1)] : List S39).length * 2 ≤ (fl ([(S39.mk i7 r1321.1)] : List S39)).length) (app_own_le ([(S39.mk i7 r1321.1)] : List S39) 2 rfl) 39 (by kernel_rfl) (by decide) k1324 0 2 [1]) allP_nil) ?_
    refine rf [(0, .v (.string s)), (4, .own 2 0 (c0q26 ++ ([(S39.mk i7 r1321.1)] : List S39)).length), (5, iS bad25), (6, iS i7), (8, iS r1321.2)] [(0, .dead), (1, .row 39 (fl ([(S39.mk i7 r1321.1)] : List S39))), (2, .row 39 (fl (c0q26 ++ ([(S39.mk i7 r1321.1)] : List S39))))] 3 (by kernel_rfl) ?_
    refine wk_id ?_
    refine seq_cut (A := Int × Int × (List S39)) (fun a => ([(0, .v (.string s)), (4, .own 0 0 a.2.2.length), (5, iS a.1), (6, iS i7), (8, iS a.2.1)], [(0, .row 39 (fl a.2.2))], 1)) (fun a => (taskmillref_Read_j1 s i7 a.1 a.2.1 a.2.2) = some o2) (fun K1331 hK1331 => ?_) ?_
    · refine seq_np ?_
      refine reg_f ?_
      refine rs 2 [] [] (by kernel_rfl) allP_nil ?_
      refine rf [(0, .v (.string s)), (4, .own 2 0 (c0q26 ++ ([(S39.mk i7 r1321.1)] : List S39)).length), (5, iS bad25), (6, iS i7), (8, iS r1321.2), (26, bS (r1321.2 == 0))] [(0, .dead), (1, .row 39 (fl ([(S39.mk i7 r1321.1)] : List S39))), (2, .row 39 (fl (c0q26 ++ ([(S39.mk i7 r1321.1)] : List S39))))] 3 (by kernel_rfl) ?_
      refine wk_id ?_
      refine cond_sx h (by kernel_rfl) (fun g1336 h => ?_) (fun g1336 h => ?_)
      · refine seq_cut (A := Int × (List S39)) (fun a => ([(0, .v (.string s)), (4, .own 0 0 a.2.length), (5, iS a.1), (6, iS i7)], [(0, .row 39 (fl a.2))], 1)) (fun a => (taskmillref_Read_j2 s i7 a.1 a.2) = some o2) (fun K1334 hK1334 => ?_) ?_
        · refine seq_np ?_
          refine reg_f ?_
          refine rs 2 [] [] (by kernel_rfl) allP_nil ?_
          refine rf [(0, .v (.string s)), (4, .own 2 0 (c0q26 ++ ([(S39.mk i7 r1321.1)] : List S39)).length), (5, iS bad25), (6, iS i7), (28, bS (decide (bad25 < 0)))] [(0, .dead), (1, .row 39 (fl ([(S39.mk i7 r1321.1)] : List S39))), (2, .row 39 (fl (c0q26 ++ ([(S39.mk i7 r1321.1)] : List S39))))] 3 (by kernel_rfl) ?_
          refine wk_id ?_
          refine cond_sx h (by kernel_rfl) (fun g1335 h => ?_) (fun g1335 h => ?_)
          · refine reg_f ?_
            refine rs 2 [] [] (by kernel_rfl) allP_nil ?_
            refine rf [(0, .v (.string s)), (4, .own 2 0 (c0q26 ++ ([(S39.mk i7 r1321.1)] : List S39)).length), (5, iS i7), (6, iS i7)] [(0, .dead), (1, .row 39 (fl ([(S39.mk i7 r1321.1)] : List S39))), (2, .row 39 (fl (c0q26 ++ ([(S39.mk i7 r1321.1)] : List S39))))] 3 (by kernel_rfl) ?_
            exact hK1334 (i7, (c0q26 ++ ([(S39.mk i7 r1321.1)] : List S39))) _ _ _ h (leSt_m [(0, 2)] [] (by simp only [push_cast, seval]) (by simp only [push_cast, seval]) rfl rfl rfl)
          · exact hK1334 (bad25, (c0q26 ++ ([(S39.mk i7 r1321.1)] : List S39))) _ _ _ h (leSt_m [(0, 2)] [] (by simp only [push_cast, seval]) (by simp only [push_cast, seval]) rfl rfl rfl)
        · rintro ⟨bad28, c0q29⟩ h
          try dsimp only at h ⊢
          unfold taskmillref_Read_j2 at h
          refine reg_f ?_
          refine rs 1 [] [] (by kernel_rfl) allP_nil ?_
          refine rf [(0, .v (.string s)), (4, .own 0 0 c0q29.length), (5, iS bad28), (6, iS i7), (8, iS 1)] [(0, .row 39 (fl c0q29))] 1 (by kernel_rfl) ?_
          exact hK1331 (bad28, 1, c0q29) _ _ _ h (leSt_m [(0, 0)] [] (by simp only [push_cast, seval]) (by simp only [push_cast, seval]) rfl rfl rfl)
      · exact hK1331 (bad25, r1321.2, (c0q26 ++ ([(S39.mk i7 r1321.1)] : List S39))) _ _ _ h (leSt_m [(0, 2)] [] (by simp only [push_cast, seval]) (by simp only [push_cast, seval]) rfl rfl rfl)
    · rintro ⟨bad27, many11, c0q28⟩ h
      try dsimp only at h ⊢
      unfold taskmillref_Read_j1 at h
      refine reg_f ?_
      refine rs 4 [] [] (by kernel_rfl) allP_nil ?_
      refine rf [(0, .v (.string s)), (4, .own 0 0 c0q28.length), (5, iS bad27), (6, iS (IntKind.i64.wrap (i7 + many11)))] [(0, .row 39 (fl c0q28))] 1 (by kernel_rfl) ?_
      refine wk_id ?_
      exact hn2 (bad27, (IntKind.i64.wrap (i7 + many11)), c0q28) _ _ _ (Option.some.inj h).symm (leSt_m [(0, 0)] [] (by simp only [push_cast, seval]) (by simp only [push_cast, seval]) rfl rfl rfl)
  · change R2 (.exit 0) _ _ _
    refine ex_cast hx2 (id := 0) ?_
    obtain ⟨r0, h, e0⟩ := map_sx h
    have e1 := hr2 r0 e0.symm
    subst r0
    refine wk_id ?_
    refine wk_id ?_
    refine seq_np ?_
    refine reg_f ?_
    refine rs 4 [] [] (by kernel_rfl) allP_nil ?_
    refine rf [(2, .own 0 0 c0q26.length), (3, iS bad25)] [(0, .row 39 (fl c0q26))] 1 (by kernel_rfl) ?_
    refine wk_id ?_
    obtain rfl := Option.some.inj h
    refine ret_at (.tup [.own 0 0 c0q26.length, iS bad25]) (by kernel_rfl) ?_
    exact ret_e [(0, 0)] [] (by simp only [push_cast, seval]) (by simp only [push_cast, seval]) rfl rfl rfl

set_option maxRecDepth 100000 in
set_option maxHeartbeats 200000000 in
theorem taskmilllaw_UtfWrites_spec (text : ByteArray) (letters : (List Int)) (xfrom : Int) (to : Int) (r : Bool) (h : taskmilllaw_UtfWrites text letters xfrom to = some r) : SpecW Try.prog 4 [.v (.string text), .sl letters.length (fl letters), iS xfrom, iS to] [] 0 (fun x h n => x = bS r ∧ h = [] ∧ n = 0) := by
  unfold taskmilllaw_UtfWrites at h
  refine spec_of (draw_ok _) Try.func4 rfl (by decide) rfl (by kernel_rfl) ?_
  refine seq_np ?_
  refine reg_f ?_
  refine rs 1 [] [] (by kernel_rfl) allP_nil ?_
  refine rf [(0, .v (.string text)), (1, .sl letters.length (fl letters)), (2, iS xfrom), (3, iS to)] [] 0 (by kernel_rfl) ?_
  refine wk_id ?_
  refine seq_np ?_
  refine seq_np ?_
  refine reg_f ?_
  obtain ⟨r1381, hr1381, h⟩ := bind_sx h
  refine run_call 5 [] (some 21) (by kernel_rfl) ?_
  refine call_0 (taskmilllaw_utfBegun_spec r1381 hr1381) (by simp only [push_cast, seval]) (by simp only [push_cast, seval]) ?_
  refine back_f ?_
  refine rs 1 [] [] (by kernel_rfl) allP_nil ?_
  refine rf [(0, .v (.string text)), (1, .sl letters.length (fl letters)), (2, iS xfrom), (3, iS to), (22, bS (!r1381))] [] 0 (by kernel_rfl) ?_
  refine wk_id ?_
  refine cond_sx h (by kernel_rfl) (fun g1566 h => ?_) (fun g1566 h => ?_)
  · refine seq_np ?_
    refine reg_f ?_
    refine rs 1 [] [] (by kernel_rfl) allP_nil ?_
    refine rf [(8, bS false)] [] 0 (by kernel_rfl) ?_
    refine wk_id ?_
    obtain rfl := Option.some.inj h
    refine ret_at (bS false) (by kernel_rfl) ?_
    exact ret_e [] [] (by simp only [push_cast, seval]) (by simp only [push_cast, seval]) rfl rfl rfl
  · refine wk_id ?_
    refine seq_np ?_
    refine seq_cut (A := Unit) (fun _ => ([(0, .v (.string text)), (1, .sl letters.length (fl letters)), (2, iS xfrom), (3, iS to), (30, bS ((decide ((30000 : Int) < (((text).size : Nat) : Int))) || (decide ((6000 : Int) < ((letters.length : Nat) : Int)))))], [], 0)) (fun _ => True) (fun K1385 hK1385 => ?_) (fun _ _ => ?_)
    · refine reg_f ?_
      refine rs 4 [] [] (by kernel_rfl) allP_nil ?_
      refine run_split 26 (decide ((30000 : Int) < (((text).size : Nat) : Int))) (.inl (by kernel_rfl)) (fun g1386 => ?_) (fun g1386 => ?_)
      · refine rs 4 [] [] (by kernel_rfl) allP_nil ?_
        refine rf [(0, .v (.string text)), (1, .sl letters.length (fl letters)), (2, iS xfrom), (3, iS to), (30, bS true)] [] 0 (by kernel_rfl) ?_
        exact hK1385 () _ _ _ trivial (leSt_m [] [] (by (try simp only [g1386]) <;> simp only [push_cast, seval]) (by (try simp only [g1386]) <;> simp only [push_cast, seval]) rfl rfl rfl)
      · refine rs 4 [] [] (by kernel_rfl) allP_nil ?_
        refine rf [(0, .v (.string text)), (1, .sl letters.length (fl letters)), (2, iS xfrom), (3, iS to), (30, bS (decide ((6000 : Int) < ((letters.length : Nat) : Int))))] [] 0 (by kernel_rfl) ?_
        exact hK1385 () _ _ _ trivial (leSt_m [] [] (by (try simp only [g1386]) <;> simp only [push_cast, seval]) (by (try simp only [g1386]) <;> simp only [push_cast, seval]) rfl rfl rfl)
    · dsimp only
      refine cond_sx h (by kernel_rfl) (fun g1565 h => ?_) (fun g1565 h => ?_)
      · refine seq_np ?_
        refine reg_f ?_
        refine rs 1 [] [] (by kernel_rfl) allP_nil ?_
        refine rf [(8, bS true)] [] 0 (by kernel_rfl) ?_
        refine wk_id ?_
        obtain rfl := Option.some.inj h
        refine ret_at (bS true) (by kernel_rfl) ?_
        exact ret_e [] [] (by simp only [push_cast, seval]) (by simp only [push_cast, seval]) rfl rfl rfl
      · refine wk_id ?_
        refine seq_np ?_
        refine reg_f ?_
        refine rs 1 [] [] (by kernel_rfl) allP_nil ?_
        obtain ⟨r1389, hr1389, h⟩ := bind_sx h
        refine call_x (taskmilllaw_own_spec letters r1389 hr1389) (args := [.sl letters.length (fl letters)]) (dst := (some 33)) (by kernel_rfl) [] 0 (by kernel_rfl) [] [] (.own 0 0 r1389.length) [(0, .row 3 (fl r1389))] (by simp only [push_cast, seval]) (by simp only [push_cast, seval]) (by kernel_rfl) (.inl rfl) (by simp only [push_cast, seval]) (by simp only [push_cast, seval]) ?_
        obtain ⟨r1390, hr1390, h⟩ := bind_sx h
        refine call_x (utf_Write_spec r1389 r1390 hr1390) (args := [.own 0 0 r1389.length]) (dst := (some 34)) (by kernel_rfl) [(0, .row 3 (fl r1389))] 1 (by kernel_rfl) [] [0] (.tup [.v (.string r1390.1), .agg (Enc.cells r1390.2)]) [] (by simp only [push_cast, seval]) (by simp only [push_cast, seval]) (by kernel_rfl) (.inr ⟨by simp only [push_cast, seval], by simp only [push_cast, seval]⟩) (by simp only [push_cast, seval]) (by simp only [push_cast, seval]) ?_
        refine rs 6 [] [] (by kernel_rfl) allP_nil ?_
        refine rf [(0, .v (.string text)), (1, .sl letters.length (fl letters)), (2, iS xfrom), (3, iS to), (9, .v (.string r1390.1)), (10, .ptr 1 0)] [(0, .row 3 (fl r1389)), (1, .row 25 (Enc.cells r1390.2))] 2 (by kernel_rfl) ?_
        refine wk_id ?_
        refine seq_np ?_
        refine reg_f ?_
        refine rs 1 [] [] (by kernel_rfl) allP_nil ?_
        obtain ⟨r1392, hr1392, h⟩ := bind_sx h
        refine run_call 10 [.v (.string text)] (some 39) (by kernel_rfl) ?_
        refine call_0 (utf_Turn_spec text r1392 hr1392) (by simp only [push_cast, seval]) (by simp only [push_cast, seval]) ?_
        refine back_f ?_
        refine rs 6 [] [] (by kernel_rfl) allP_nil ?_
        refine rf [(0, .v (.string text)), (1, .sl letters.length (fl letters)), (2, iS xfrom), (3, iS to), (9, .v (.string r1390.1)), (10, .ptr 1 0), (11, .v (.string r1392.1)), (12, .ptr 2 0)] [(0, .row 3 (fl r1389)), (1, .row 25 (Enc.cells r1390.2)), (2, .row 25 (Enc.cells r1392.2))] 3 (by kernel_rfl) ?_
        refine wk_id ?_
        refine seq_np ?_
        refine reg_f ?_
        refine rs 3 [] [] (by kernel_rfl) allP_nil ?_
        obtain ⟨r1394, hr1394, h⟩ := bind_sx h
        refine run_call 7 [.v (.string text), iS xfrom, iS to] (some 46) (by kernel_rfl) ?_
        refine call_0 (utf_Cut_spec text xfrom to r1394 hr1394) (by simp only [push_cast, seval]) (by simp only [push_cast, seval]) ?_
        refine back_f ?_
        refine rs 6 [] [] (by kernel_rfl) allP_nil ?_
        refine rf [(0, .v (.string text)), (1, .sl letters.length (fl letters)), (2, iS xfrom), (3, iS to), (9, .v (.string r1390.1)), (10, .ptr 1 0), (11, .v (.string r1392.1)), (12, .ptr 2 0), (13, .v (.string r1394.1)), (14, .ptr 3 0)] [(0, .row 3 (fl r1389)), (1, .row 25 (Enc.cells r1390.2)), (2, .row 25 (Enc.cells r1392.2)), (3, .row 25 (Enc.cells r1394.2))] 4 (by kernel_rfl) ?_
        refine wk_id ?_
        refine seq_np ?_
        refine reg_f ?_
        refine rs 3 [] [] (by kernel_rfl) allP_nil ?_
        refine rf [(0, .v (.string text)), (1, .sl letters.length (fl letters)), (2, iS xfrom), (3, iS to), (9, .v (.string r1390.1)), (10, .ptr 1 0), (11, .v (.string r1392.1)), (12, .ptr 2 0), (13, .v (.string r1394.1)), (14, .ptr 3 0), (15, .ptr 4 0)] [(0, .row 3 (fl r1389)), (1, .row 25 (Enc.cells r1390.2)), (2, .row 25 (Enc.cells r1392.2)), (3, .row 25 (Enc.cells r1394.2)), (4, .row 25 [iS 0, iS 0])] 5 (by kernel_rfl) ?_
        refine wk_id ?_
        refine seq_cut (A := ByteArray × ByteArray × ByteArray × Fault × Fault × Fault × Fault) (fun a => ([(0, .v (.string text)), (1, .sl letters.length (fl letters)), (2, iS xfrom), (3, iS to), (9, .v (.string a.1)), (10, .ptr 0 0), (11, .v (.string a.2.1)), (12, .ptr 1 0), (13, .v (.string a.2.2.1)), (14, .ptr 2 0), (15, .ptr 3 0)], [(0, .row 25 (Enc.cells a.2.2.2.1)), (1, .row 25 (Enc.cells a.2.2.2.2.1)), (2, .row 25 (Enc.cells a.2.2.2.2.2.1)), (3, .row 25 (Enc.cells a.2.2.2.2.2.2))], 4)) (fun a => (taskmilllaw_UtfWrites_j5 text letters xfrom to a.1 a.2.1 a.2.2.1 a.2.2.2.1 a.2.2.2.2.1 a.2.2.2.2.2.1 a.2.2.2.2.2.2) = some r) (fun K1398 hK1398 => ?_) ?_
        · refine seq_np ?_
          refine reg_f ?_
          refine rs 3 [] [] (by kernel_rfl) allP_nil ?_
          refine rf [(0, .v (.string text)), (1, .sl letters.length (fl letters)), (2, iS xfrom), (3, iS to), (9, .v (.string r1390.1)), (10, .ptr 1 0), (11, .v (.string r1392.1)), (12, .ptr 2 0), (13, .v (.string r1394.1)), (14, .ptr 3 0), (15, .ptr 4 0), (52, bS (decide ((5000 : Int) < ((letters.length : Nat) : Int))))] [(0, .row 3 (fl r1389)), (1, .row 25 (Enc.cells r1390.2)), (2, .row 25 (Enc.cells r1392.2)), (3, .row 25 (Enc.cells r1394.2)), (4, .row 25 [iS 0, iS 0])] 5 (by kernel_rfl) ?_
          refine wk_id ?_
          refine cond_sx h (by kernel_rfl) (fun g1401 h => ?_) (fun g1401 h => ?_)
          · refine reg_f ?_
            obtain ⟨r1400, hr1400, h⟩ := bind_sx h
            refine run_call 11 [iS 2, iS 0] (some 53) (by kernel_rfl) ?_
            refine call_0 (taskmillref_F_spec 2 0 r1400 hr1400) (by simp only [push_cast, seval]) (by simp only [push_cast, seval]) ?_
            refine back_f ?_
            refine rs 1 [] [] (by kernel_rfl) allP_nil ?_
            refine rf [(0, .v (.string text)), (1, .sl letters.length (fl letters)), (2, iS xfrom), (3, iS to), (9, .v (.string r1390.1)), (10, .ptr 1 0), (11, .v (.string r1392.1)), (12, .ptr 2 0), (13, .v (.string r1394.1)), (14, .ptr 3 0), (15, .ptr 4 0)] [(0, .row 3 (fl r1389)), (1, .row 25 (Enc.cells r1390.2)), (2, .row 25 (Enc.cells r1392.2)), (3, .row 25 (Enc.cells r1394.2)), (4, .row 25 (Enc.cells r1400))] 5 (by kernel_rfl) ?_
            exact hK1398 (r1390.1, r1392.1, r1394.1, r1390.2, r1392.2, r1394.2, r1400) _ _ _ h (leSt_m [(0, 1), (1, 2), (2, 3), (3, 4)] [] (by simp only [push_cast, seval]) (by simp only [push_cast, seval]) rfl rfl rfl)
          · exact hK1398 (r1390.1, r1392.1, r1394.1, r1390.2, r1392.2, r1394.2, (Fault.mk 0 0)) _ _ _ h (leSt_m [(0, 1), (1, 2), (2, 3), (3, 4)] [] (by simp only [push_cast, seval]) (by simp only [push_cast, seval]) rfl rfl rfl)
        · rintro ⟨xa1, b1, cq, c0q1, c1q1, c2q5, c3q3⟩ h
          try dsimp only at h ⊢
          unfold taskmilllaw_UtfWrites_j5 at h
          refine seq_np ?_
          refine seq_cut (A := Bool) (fun a => ([(0, .v (.string text)), (2, iS xfrom), (3, iS to), (11, .v (.string b1)), (12, .ptr 0 0), (13, .v (.string cq)), (14, .ptr 1 0), (15, .ptr 2 0), (76, bS a)], [(0, .row 25 (Enc.cells c1q1)), (1, .row 25 (Enc.cells c2q5)), (2, .row 25 (Enc.cells c3q3))], 3)) (fun a => (taskmilllaw_UtfWrites_j4 text xfrom to b1 cq c1q1 c2q5 c3q3 a) = some r) (fun K1420 hK1420 => ?_) ?_
          · refine reg_f ?_
            refine rs 4 [] [] (by kernel_rfl) allP_nil ?_
            refine run_br h 57 (.inl (by kernel_rfl)) (fun g1421 h => ?_) (fun g1421 h => ?_)
            · refine rs 19 [] [] (by kernel_rfl) allP_nil ?_
              refine rf [(0, .v (.string text)), (2, iS xfrom), (3, iS to), (11, .v (.string b1)), (12, .ptr 1 0), (13, .v (.string cq)), (14, .ptr 2 0), (15, .ptr 3 0), (76, bS true)] [(0, .row 25 (Enc.cells c0q1)), (1, .row 25 (Enc.cells c1q1)), (2, .row 25 (Enc.cells c2q5)), (3, .row 25 (Enc.cells c3q3))] 4 (by kernel_rfl) ?_
              exact hK1420 (true) _ _ _ h (leSt_m [(0, 1), (1, 2), (2, 3)] [] (by (try simp only [g1421]) <;> simp only [push_cast, seval]) (by (try simp only [g1421]) <;> simp only [push_cast, seval]) rfl rfl rfl)
            · refine rs 4 [] [] (by kernel_rfl) allP_nil ?_
              refine run_br h 61 (.inr (by kernel_rfl)) (fun g1422 h => ?_) (fun g1422 h => ?_)
              · refine rs 5 [none, some ⟨bS (!decide (xa1 = ByteArray.empty)), [], 4, []⟩] _ (by kernel_rfl) (allP_cons (ob_p (v := bS (!decide (xa1 = ByteArray.empty))) (nx := 4) (r := []) trivial) allP_nil) ?_
                refine run_br h 66 (.inl (by kernel_rfl)) (fun g1423 h => ?_) (fun g1423 h => ?_)
                · refine rn 13 [(0, .v (.string text)), (1, .sl letters.length (fl letters)), (2, iS xfrom), (3, iS to), (9, .v (.string xa1)), (11, .v (.string b1)), (12, .ptr 1 0), (13, .v (.string cq)), (14, .ptr 2 0), (15, .ptr 3 0), (66, bS true)] [(0, .row 25 (Enc.cells c0q1)), (1, .row 25 (Enc.cells c1q1)), (2, .row 25 (Enc.cells c2q5)), (3, .row 25 (Enc.cells c3q3))] 4 (by kernel_rfl) ?_
                  refine rs 10 [] [] (by kernel_rfl) allP_nil ?_
                  refine rf [(0, .v (.string text)), (2, iS xfrom), (3, iS to), (11, .v (.string b1)), (12, .ptr 1 0), (13, .v (.string cq)), (14, .ptr 2 0), (15, .ptr 3 0), (76, bS true)] [(0, .row 25 (Enc.cells c0q1)), (1, .row 25 (Enc.cells c1q1)), (2, .row 25 (Enc.cells c2q5)), (3, .row 25 (Enc.cells c3q3))] 4 (by kernel_rfl) ?_
                  exact hK1420 (true) _ _ _ h (leSt_m [(0, 1), (1, 2), (2, 3)] [] (by first | ((try simp only [g1421, g1422, g1423]) <;> simp only [push_cast, seval]; done) | ((try simp only [g1421]); (try simp only [g1422]); (try simp only [g1423]); simp only [push_cast, seval]; done) | (exfalso; clear h; simp_all; done)) (by first | ((try simp only [g1421, g1422, g1423]) <;> simp only [push_cast, seval]; done) | ((try simp only [g1421]); (try simp only [g1422]); (try simp only [g1423]); simp only [push_cast, seval]; done) | (exfalso; clear h; simp_all; done)) rfl rfl rfl)
                · refine rn 13 [(0, .v (.string text)), (1, .sl letters.length (fl letters)), (2, iS xfrom), (3, iS to), (9, .v (.string xa1)), (11, .v (.string b1)), (12, .ptr 1 0), (13, .v (.string cq)), (14, .ptr 2 0), (15, .ptr 3 0), (66, bS false)] [(0, .row 25 (Enc.cells c0q1)), (1, .row 25 (Enc.cells c1q1)), (2, .row 25 (Enc.cells c2q5)), (3, .row 25 (Enc.cells c3q3))] 4 (by kernel_rfl) ?_
                  refine rs 4 [] [] (by kernel_rfl) allP_nil ?_
                  refine run_br h 70 (.inr (by kernel_rfl)) (fun g1424 h => ?_) (fun g1424 h => ?_)
                  · refine rs 2 [] [] (by kernel_rfl) allP_nil ?_
                    obtain ⟨r1425, hr1425, h⟩ := bind_sx h
                    refine run_call 12 [.sl letters.length (fl letters)] (some 73) (by kernel_rfl) ?_
                    refine call_0 (taskmillref_Written_spec letters r1425 hr1425) (by simp only [push_cast, seval]) (by simp only [push_cast, seval]) ?_
                    refine back_f ?_
                    refine rs 3 [some ⟨bS (!decide (xa1 = r1425)), [], 4, []⟩] _ (by kernel_rfl) (allP_cons (ob_p (v := bS (!decide (xa1 = r1425))) (nx := 4) (r := []) trivial) allP_nil) ?_
                    refine rf [(0, .v (.string text)), (2, iS xfrom), (3, iS to), (11, .v (.string b1)), (12, .ptr 1 0), (13, .v (.string cq)), (14, .ptr 2 0), (15, .ptr 3 0), (76, bS (!decide (xa1 = r1425)))] [(0, .row 25 (Enc.cells c0q1)), (1, .row 25 (Enc.cells c1q1)), (2, .row 25 (Enc.cells c2q5)), (3, .row 25 (Enc.cells c3q3))] 4 (by kernel_rfl) ?_
                    exact hK1420 ((!decide (xa1 = r1425))) _ _ _ h (leSt_m [(0, 1), (1, 2), (2, 3)] [] (by first | ((try simp only [g1421, g1422, g1423, g1424]) <;> simp only [push_cast, seval]; done) | ((try simp only [g1421]); (try simp only [g1422]); (try simp only [g1423]); (try simp only [g1424]); simp only [push_cast, seval]; done) | (exfalso; clear h; simp_all; done)) (by first | ((try simp only [g1421, g1422, g1423, g1424]) <;> simp only [push_cast, seval]; done) | ((try simp only [g1421]); (try simp only [g1422]); (try simp only [g1423]); (try simp only [g1424]); simp only [push_cast, seval]; done) | (exfalso; clear h; simp_all; done)) rfl rfl rfl)
                  · refine rs 6 [] [] (by kernel_rfl) allP_nil ?_
                    refine rf [(0, .v (.string text)), (2, iS xfrom), (3, iS to), (11, .v (.string b1)), (12, .ptr 1 0), (13, .v (.string cq)), (14, .ptr 2 0), (15, .ptr 3 0), (76, bS false)] [(0, .row 25 (Enc.cells c0q1)), (1, .row 25 (Enc.cells c1q1)), (2, .row 25 (Enc.cells c2q5)), (3, .row 25 (Enc.cells c3q3))] 4 (by kernel_rfl) ?_
                    exact hK1420 (false) _ _ _ h (leSt_m [(0, 1), (1, 2), (2, 3)] [] (by first | ((try simp only [g1421, g1422, g1423, g1424]) <;> simp only [push_cast, seval]; done) | ((try simp only [g1421]); (try simp only [g1422]); (try simp only [g1423]); (try simp only [g1424]); simp only [push_cast, seval]; done) | (exfalso; clear h; simp_all; done)) (by first | ((try simp only [g1421, g1422, g1423, g1424]) <;> simp only [push_cast, seval]; done) | ((try simp only [g1421]); (try simp only [g1422]); (try simp only [g1423]); (try simp only [g1424]); simp only [push_cast, seval]; done) | (exfalso; clear h; simp_all; done)) rfl rfl rfl)
              · refine rs 9 [] [] (by kernel_rfl) allP_nil ?_
                refine run_br h 70 (.inr (by kernel_rfl)) (fun g1426 h => ?_) (fun g1426 h => ?_)
                · refine rn 17 [(0, .v (.string text)), (1, .sl letters.length (fl letters)), (2, iS xfrom), (3, iS to), (9, .v (.string xa1)), (11, .v (.string b1)), (12, .ptr 1 0), (13, .v (.string cq)), (14, .ptr 2 0), (15, .ptr 3 0), (66, bS false), (70, .gd true (bS true))] [(0, .row 25 (Enc.cells c0q1)), (1, .row 25 (Enc.cells c1q1)), (2, .row 25 (Enc.cells c2q5)), (3, .row 25 (Enc.cells c3q3))] 4 (by kernel_rfl) ?_
                  refine rs 2 [] [] (by kernel_rfl) allP_nil ?_
                  obtain ⟨r1427, hr1427, h⟩ := bind_sx h
                  refine run_call 12 [.sl letters.length (fl letters)] (some 73) (by kernel_rfl) ?_
                  refine call_0 (taskmillref_Written_spec letters r1427 hr1427) (by simp only [push_cast, seval]) (by simp only [push_cast, seval]) ?_
                  refine back_f ?_
                  refine rs 3 [some ⟨bS (!decide (xa1 = r1427)), [], 4, []⟩] _ (by kernel_rfl) (allP_cons (ob_p (v := bS (!decide (xa1 = r1427))) (nx := 4) (r := []) trivial) allP_nil) ?_
                  refine rf [(0, .v (.string text)), (2, iS xfrom), (3, iS to), (11, .v (.string b1)), (12, .ptr 1 0), (13, .v (.string cq)), (14, .ptr 2 0), (15, .ptr 3 0), (76, bS (!decide (xa1 = r1427)))] [(0, .row 25 (Enc.cells c0q1)), (1, .row 25 (Enc.cells c1q1)), (2, .row 25 (Enc.cells c2q5)), (3, .row 25 (Enc.cells c3q3))] 4 (by kernel_rfl) ?_
                  exact hK1420 ((!decide (xa1 = r1427))) _ _ _ h (leSt_m [(0, 1), (1, 2), (2, 3)] [] (by first | ((try simp only [g1421, g1422, g1426]) <;> simp only [push_cast, seval]; done) | ((try simp only [g1421]); (try simp only [g1422]); (try simp only [g1426]); simp only [push_cast, seval]; done) | (exfalso; clear h; simp_all; done)) (by first | ((try simp only [g1421, g1422, g1426]) <;> simp only [push_cast, seval]; done) | ((try simp only [g1421]); (try simp only [g1422]); (try simp only [g1426]); simp only [push_cast, seval]; done) | (exfalso; clear h; simp_all; done)) rfl rfl rfl)
                · refine rn 17 [(0, .v (.string text)), (1, .sl letters.length (fl letters)), (2, iS xfrom), (3, iS to), (9, .v (.string xa1)), (11, .v (.string b1)), (12, .ptr 1 0), (13, .v (.string cq)), (14, .ptr 2 0), (15, .ptr 3 0), (66, bS false), (70, .gd true (bS false))] [(0, .row 25 (Enc.cells c0q1)), (1, .row 25 (Enc.cells c1q1)), (2, .row 25 (Enc.cells c2q5)), (3, .row 25 (Enc.cells c3q3))] 4 (by kernel_rfl) ?_
                  refine rs 6 [] [] (by kernel_rfl) allP_nil ?_
                  refine rf [(0, .v (.string text)), (2, iS xfrom), (3, iS to), (11, .v (.string b1)), (12, .ptr 1 0), (13, .v (.string cq)), (14, .ptr 2 0), (15, .ptr 3 0), (76, bS false)] [(0, .row 25 (Enc.cells c0q1)), (1, .row 25 (Enc.cells c1q1)), (2, .row 25 (Enc.cells c2q5)), (3, .row 25 (Enc.cells c3q3))] 4 (by kernel_rfl) ?_
                  exact hK1420 (false) _ _ _ h (leSt_m [(0, 1), (1, 2), (2, 3)] [] (by first | ((try simp only [g1421, g1422, g1426]) <;> simp only [push_cast, seval]; done) | ((try simp only [g1421]); (try simp only [g1422]); (try simp only [g1426]); simp only [push_cast, seval]; done) | (exfalso; clear h; simp_all; done)) (by first | ((try simp only [g1421, g1422, g1426]) <;> simp only [push_cast, seval]; done) | ((try simp only [g1421]); (try simp only [g1422]); (try simp only [g1426]); simp only [push_cast, seval]; done) | (exfalso; clear h; simp_all; done)) rfl rfl rfl)
          · rintro t76q2 h
            try dsimp only at h ⊢
            unfold taskmilllaw_UtfWrites_j4 at h
            refine cond_sx h (by kernel_rfl) (fun g1564 h => ?_) (fun g1564 h => ?_)
            · refine seq_np ?_
              refine reg_f ?_
              refine rs 1 [] [] (by kernel_rfl) allP_nil ?_
              refine rf [(8, bS false)] [(0, .row 25 (Enc.cells c1q1)), (1, .row 25 (Enc.cells c2q5)), (2, .row 25 (Enc.cells c3q3))] 3 (by kernel_rfl) ?_
              refine wk_id ?_
              obtain rfl := Option.some.inj h
              refine ret_at (bS false) (by kernel_rfl) ?_
              exact ret_e [] [] (by simp only [push_cast, seval]) (by simp only [push_cast, seval]) rfl rfl rfl
            · refine wk_id ?_
              refine seq_np ?_
              refine reg_f ?_
              refine rs 2 [] [] (by kernel_rfl) allP_nil ?_
              refine rf [(0, .v (.string text)), (2, iS xfrom), (3, iS to), (11, .v (.string b1)), (12, .ptr 0 0), (13, .v (.string cq)), (14, .ptr 1 0), (15, .ptr 2 0)] [(0, .row 25 (Enc.cells c1q1)), (1, .row 25 (Enc.cells c2q5)), (2, .row 25 [iS 0, iS 0])] 3 (by kernel_rfl) ?_
              refine wk_id ?_
              refine seq_cut (A := Fault) (fun a => ([(0, .v (.string text)), (2, iS xfrom), (3, iS to), (11, .v (.string b1)), (12, .ptr 0 0), (13, .v (.string cq)), (14, .ptr 1 0), (15, .ptr 2 0)], [(0, .row 25 (Enc.cells c1q1)), (1, .row 25 (Enc.cells c2q5)), (2, .row 25 (Enc.cells a))], 3)) (fun a => (taskmilllaw_UtfWrites_j3 text xfrom to b1 cq c1q1 c2q5 a) = some r) (fun K1431 hK1431 => ?_) ?_
              · refine seq_np ?_
                refine reg_f ?_
                refine rs 3 [] [] (by kernel_rfl) allP_nil ?_
                refine rf [(0, .v (.string text)), (2, iS xfrom), (3, iS to), (11, .v (.string b1)), (12, .ptr 0 0), (13, .v (.string cq)), (14, .ptr 1 0), (15, .ptr 2 0), (80, bS (decide ((20000 : Int) < (((text).size : Nat) : Int))))] [(0, .row 25 (Enc.cells c1q1)), (1, .row 25 (Enc.cells c2q5)), (2, .row 25 [iS 0, iS 0])] 3 (by kernel_rfl) ?_
                refine wk_id ?_
                refine cond_sx h (by kernel_rfl) (fun g1434 h => ?_) (fun g1434 h => ?_)
                · refine reg_f ?_
                  obtain ⟨r1433, hr1433, h⟩ := bind_sx h
                  refine run_call 11 [iS 2, iS 0] (some 81) (by kernel_rfl) ?_
                  refine call_0 (taskmillref_F_spec 2 0 r1433 hr1433) (by simp only [push_cast, seval]) (by simp only [push_cast, seval]) ?_
                  refine back_f ?_
                  refine rs 1 [] [] (by kernel_rfl) allP_nil ?_
                  refine rf [(0, .v (.string text)), (2, iS xfrom), (3, iS to), (11, .v (.string b1)), (12, .ptr 0 0), (13, .v (.string cq)), (14, .ptr 1 0), (15, .ptr 2 0)] [(0, .row 25 (Enc.cells c1q1)), (1, .row 25 (Enc.cells c2q5)), (2, .row 25 (Enc.cells r1433))] 3 (by kernel_rfl) ?_
                  exact hK1431 (r1433) _ _ _ h (leSt_m [(0, 0), (1, 1), (2, 2)] [] (by simp only [push_cast, seval]) (by simp only [push_cast, seval]) rfl rfl rfl)
                · exact hK1431 ((Fault.mk 0 0)) _ _ _ h (leSt_m [(0, 0), (1, 1), (2, 2)] [] (by simp only [push_cast, seval]) (by simp only [push_cast, seval]) rfl rfl rfl)
              · rintro c2q6 h
                try dsimp only at h ⊢
                unfold taskmilllaw_UtfWrites_j3 at h
                refine seq_np ?_
                refine seq_np ?_
                refine reg_f ?_
                refine rs 3 [] [] (by kernel_rfl) allP_nil ?_
                refine rf [(0, .v (.string text)), (2, iS xfrom), (3, iS to), (11, .v (.string b1)), (12, .ptr 0 0), (13, .v (.string cq)), (14, .ptr 1 0), (15, .ptr 2 0), (84, bS (c2q6.Code != 0))] [(0, .row 25 (Enc.cells c1q1)), (1, .row 25 (Enc.cells c2q5)), (2, .row 25 (Enc.cells c2q6))] 3 (by kernel_rfl) ?_
                refine wk_id ?_
                refine cond_sx h (by kernel_rfl) (fun g1563 h => ?_) (fun g1563 h => ?_)
                · refine seq_cut (A := Unit) (fun _ => ([(8, bS (((c1q1.Code == c2q6.Code) && ((c1q1.At == c2q6.At) && true)) && (((c2q5.Code == c2q6.Code) && ((c2q5.At == c2q6.At) && true)) && ((decide (b1 = ByteArray.empty)) && (decide (cq = ByteArray.empty))))))], [(0, .row 25 (Enc.cells c1q1)), (1, .row 25 (Enc.cells c2q5)), (2, .row 25 (Enc.cells c2q6))], 3)) (fun _ => True) (fun K1442 hK1442 => ?_) (fun _ _ => ?_)
                  · refine reg_f ?_
                    refine rs 4 [] [] (by kernel_rfl) allP_nil ?_
                    refine run_split 88 ((c1q1.Code == c2q6.Code) && ((c1q1.At == c2q6.At) && true)) (.inl (by kernel_rfl)) (fun g1443 => ?_) (fun g1443 => ?_)
                    · refine rs 5 [] [] (by kernel_rfl) allP_nil ?_
                      refine run_split 93 ((c2q5.Code == c2q6.Code) && ((c2q5.At == c2q6.At) && true)) (.inl (by kernel_rfl)) (fun g1444 => ?_) (fun g1444 => ?_)
                      · refine rs 4 [none, some ⟨bS (decide (b1 = ByteArray.empty)), [], 3, []⟩] _ (by kernel_rfl) (allP_cons (ob_p (v := bS (decide (b1 = ByteArray.empty))) (nx := 3) (r := []) trivial) allP_nil) ?_
                        refine run_split 97 (decide (b1 = ByteArray.empty)) (.inl (by kernel_rfl)) (fun g1445 => ?_) (fun g1445 => ?_)
                        · refine rn 13 [(13, .v (.string cq)), (97, bS true)] [(0, .row 25 (Enc.cells c1q1)), (1, .row 25 (Enc.cells c2q5)), (2, .row 25 (Enc.cells c2q6))] 3 (by kernel_rfl) ?_
                          refine rs 4 [none, some ⟨bS (decide (cq = ByteArray.empty)), [], 3, []⟩] _ (by kernel_rfl) (allP_cons (ob_p (v := bS (decide (cq = ByteArray.empty))) (nx := 3) (r := []) trivial) allP_nil) ?_
                          refine rf [(8, bS (decide (cq = ByteArray.empty)))] [(0, .row 25 (Enc.cells c1q1)), (1, .row 25 (Enc.cells c2q5)), (2, .row 25 (Enc.cells c2q6))] 3 (by kernel_rfl) ?_
                          exact hK1442 () _ _ _ trivial (leSt_m [(0, 0), (1, 1), (2, 2)] [] (by first | ((try simp only [g1443, g1444, g1445]) <;> simp only [push_cast, seval]; done) | ((try simp only [g1443]); (try simp only [g1444]); (try simp only [g1445]); simp only [push_cast, seval]; done) | (exfalso; clear h; simp_all; done)) (by first | ((try simp only [g1443, g1444, g1445]) <;> simp only [push_cast, seval]; done) | ((try simp only [g1443]); (try simp only [g1444]); (try simp only [g1445]); simp only [push_cast, seval]; done) | (exfalso; clear h; simp_all; done)) rfl rfl rfl)
                        · refine rn 13 [(13, .v (.string cq)), (97, bS false)] [(0, .row 25 (Enc.cells c1q1)), (1, .row 25 (Enc.cells c2q5)), (2, .row 25 (Enc.cells c2q6))] 3 (by kernel_rfl) ?_
                          refine rs 4 [] [] (by kernel_rfl) allP_nil ?_
                          refine rf [(8, bS false)] [(0, .row 25 (Enc.cells c1q1)), (1, .row 25 (Enc.cells c2q5)), (2, .row 25 (Enc.cells c2q6))] 3 (by kernel_rfl) ?_
                          exact hK1442 () _ _ _ trivial (leSt_m [(0, 0), (1, 1), (2, 2)] [] (by first | ((try simp only [g1443, g1444, g1445]) <;> simp only [push_cast, seval]; done) | ((try simp only [g1443]); (try simp only [g1444]); (try simp only [g1445]); simp only [push_cast, seval]; done) | (exfalso; clear h; simp_all; done)) (by first | ((try simp only [g1443, g1444, g1445]) <;> simp only [push_cast, seval]; done) | ((try simp only [g1443]); (try simp only [g1444]); (try simp only [g1445]); simp only [push_cast, seval]; done) | (exfalso; clear h; simp_all; done)) rfl rfl rfl)
                      · refine rs 8 [] [] (by kernel_rfl) allP_nil ?_
                        refine rf [(8, bS false)] [(0, .row 25 (Enc.cells c1q1)), (1, .row 25 (Enc.cells c2q5)), (2, .row 25 (Enc.cells c2q6))] 3 (by kernel_rfl) ?_
                        exact hK1442 () _ _ _ trivial (leSt_m [(0, 0), (1, 1), (2, 2)] [] (by first | ((try simp only [g1443, g1444]) <;> simp only [push_cast, seval]; done) | ((try simp only [g1443]); (try simp only [g1444]); simp only [push_cast, seval]; done) | (exfalso; clear h; simp_all; done)) (by first | ((try simp only [g1443, g1444]) <;> simp only [push_cast, seval]; done) | ((try simp only [g1443]); (try simp only [g1444]); simp only [push_cast, seval]; done) | (exfalso; clear h; simp_all; done)) rfl rfl rfl)
                    · refine rs 13 [] [] (by kernel_rfl) allP_nil ?_
                      refine rf [(8, bS false)] [(0, .row 25 (Enc.cells c1q1)), (1, .row 25 (Enc.cells c2q5)), (2, .row 25 (Enc.cells c2q6))] 3 (by kernel_rfl) ?_
                      exact hK1442 () _ _ _ trivial (leSt_m [(0, 0), (1, 1), (2, 2)] [] (by (try simp only [g1443]) <;> simp only [push_cast, seval]) (by (try simp only [g1443]) <;> simp only [push_cast, seval]) rfl rfl rfl)
                  · dsimp only
                    obtain rfl := Option.some.inj h
                    refine ret_at (bS (((c1q1.Code == c2q6.Code) && ((c1q1.At == c2q6.At) && true)) && (((c2q5.Code == c2q6.Code) && ((c2q5.At == c2q6.At) && true)) && ((decide (b1 = ByteArray.empty)) && (decide (cq = ByteArray.empty)))))) (by kernel_rfl) ?_
                    exact ret_e [] [] (by simp only [push_cast, seval]) (by simp only [push_cast, seval]) rfl rfl rfl
                · refine wk_id ?_
                  refine seq_np ?_
                  refine reg_f ?_
                  refine rs 1 [] [] (by kernel_rfl) allP_nil ?_
                  obtain ⟨r1447, hr1447, h⟩ := bind_sx h
                  refine call_x (taskmillref_Read_spec text r1447 hr1447) (args := [.v (.string text)]) (dst := (some 103)) (by kernel_rfl) [(0, .row 25 (Enc.cells c1q1)), (1, .row 25 (Enc.cells c2q5)), (2, .row 25 (Enc.cells c2q6))] 3 (by kernel_rfl) [] [] (.tup [.own 3 0 r1447.2.length, iS r1447.1]) [(3, .row 39 (fl r1447.2))] (by simp only [push_cast, seval]) (by simp only [push_cast, seval]) (by kernel_rfl) (.inl rfl) (by simp only [push_cast, seval]) (by simp only [push_cast, seval]) ?_
                  refine rs 5 [] [] (by kernel_rfl) allP_nil ?_
                  refine rf [(0, .v (.string text)), (2, iS xfrom), (3, iS to), (11, .v (.string b1)), (12, .ptr 0 0), (13, .v (.string cq)), (14, .ptr 1 0), (16, .own 3 0 r1447.2.length)] [(0, .row 25 (Enc.cells c1q1)), (1, .row 25 (Enc.cells c2q5)), (2, .row 25 (Enc.cells c2q6)), (3, .row 39 (fl r1447.2))] 4 (by kernel_rfl) ?_
                  refine wk_id ?_
                  refine seq_np ?_
                  refine reg_f ?_
                  refine rs 1 [] [] (by kernel_rfl) allP_nil ?_
                  refine rf [(0, .v (.string text)), (2, iS xfrom), (3, iS to), (11, .v (.string b1)), (12, .ptr 0 0), (13, .v (.string cq)), (14, .ptr 1 0), (16, .own 3 0 r1447.2.length), (18, .v (.slice none 0 0))] [(0, .row 25 (Enc.cells c1q1)), (1, .row 25 (Enc.cells c2q5)), (2, .row 25 (Enc.cells c2q6)), (3, .row 39 (fl r1447.2))] 4 (by kernel_rfl) ?_
                  refine wk_id ?_
                  refine seq_np ?_
                  refine seq_np ?_
                  refine reg_f ?_
                  refine rs 4 [] [] (by kernel_rfl) allP_nil ?_
                  refine rf [(0, .v (.string text)), (2, iS xfrom), (3, iS to), (11, .v (.string b1)), (12, .ptr 0 0), (13, .v (.string cq)), (14, .ptr 1 0), (16, .own 3 0 r1447.2.length), (18, .v (.slice none 0 0)), (19, iS (IntKind.i64.wrap (((r1447.2.length : Nat) : Int) - 1)))] [(0, .row 25 (Enc.cells c1q1)), (1, .row 25 (Enc.cells c2q5)), (2, .row 25 (Enc.cells c2q6)), (3, .row 39 (fl r1447.2))] 4 (by kernel_rfl) ?_
                  refine wk_id ?_
                  refine block_np ?_
                  refine loop_sx (S := Int × (List S39) × (List Int)) (fun a => ([(0, .v (.string text)), (2, iS xfrom), (3, iS to), (11, .v (.string b1)), (12, .ptr 0 0), (13, .v (.string cq)), (14, .ptr 1 0), (16, .own 2 0 a.2.1.length), (18, .own 3 0 a.2.2.length), (19, iS a.1)], [(0, .row 25 (Enc.cells c1q1)), (1, .row 25 (Enc.cells c2q5)), (2, .row 39 (fl a.2.1)), (3, .row 3 (fl a.2.2))], 4)) h (leSt_m [(0, 0), (1, 1), (2, 3)] [] (by simp only [push_cast, seval]) (by simp only [push_cast, seval]) rfl rfl rfl) ?_
                  rintro ⟨i11, c2q15, c3q9⟩ o2 R2 h hr2 hn2 hx2 ht2
                  try dsimp only at h hn2 ⊢
                  unfold taskmilllaw_UtfWrites_l1 at h
                  try dsimp only at h
                  refine seq_np ?_
                  refine seq_np ?_
                  refine reg_f ?_
                  refine rs 2 [] [] (by kernel_rfl) allP_nil ?_
                  refine rf [(0, .v (.string text)), (2, iS xfrom), (3, iS to), (11, .v (.string b1)), (12, .ptr 0 0), (13, .v (.string cq)), (14, .ptr 1 0), (16, .own 2 0 c2q15.length), (18, .own 3 0 c3q9.length), (19, iS i11), (110, bS (decide ((0 : Int) ≤ i11)))] [(0, .row 25 (Enc.cells c1q1)), (1, .row 25 (Enc.cells c2q5)), (2, .row 39 (fl c2q15)), (3, .row 3 (fl c3q9))] 4 (by kernel_rfl) ?_
                  refine wk_id ?_
                  refine cond_sx h (by kernel_rfl) (fun g1562 h => ?_) (fun g1562 h => ?_)
                  · refine wk_id ?_
                    refine seq_np ?_
                    refine block_np ?_
                    refine chk_sx h (fun g1505 h => ?_)
                    refine chk_sx h (fun g1507 h => ?_)
                    refine reg_f ?_
                    have k1504 : 0 ≤ i11 ∧ i11 < ((c2q15.length : Nat) : Int) := by first | simpa only [Bool.and_eq_true, decide_eq_true_eq, bne_iff_ne, ne_eq] using g1505 | (simp at g1505 ⊢; omega)
                    have k1506 : (c3q9 ++ ([(ix c2q15 i11).e1] : List Int)).length * 8 ≤ 140737488355328 := by first | simpa only [Bool.and_eq_true, decide_eq_true_eq, bne_iff_ne, ne_eq] using g1507 | (simp at g1507 ⊢; omega)
                    refine rs 9 [none, none, none, some ⟨.ptr 2 (0 + (i11).toNat * 2), [], 4, [2]⟩, none, some ⟨iS (ix c2q15 i11).e1, [], 4, [2]⟩, none, some ⟨.own 5 0 (c3q9 ++ ([(ix c2q15 i11).e1] : List Int)).length, [(5, .row 3 (fl (c3q9 ++ ([(ix c2q15 i11).e1] : List Int)))), (3, .dead)], 6, [3, 4]⟩] _ (by kernel_rfl) (allP_cons (ob_app (P := Try.prog) c3q9 ([(ix c2q15 i11).e1] : List Int) 1 8 rfl (appCells (fl ([(ix c2q15 i11).e1] : List Int)) 0 (([(ix c2q15 i11).e1] : List Int).length * 1)) ([(ix c2q15 i11).e1] : List Int).length (app_own ([(ix c2q15 i11).e1] : List Int) 1 rfl) rfl (0 + ([(ix c2q15 i11).e1] : List Int).length * 1 ≤ (fl ([(ix c2q15 i11).e1] : List Int)).length) (app_own_le ([(ix c2q15 i11).e1] : List Int) 1 rfl) 3 (by kernel_rfl) (by decide) k1506 3 5 [4]) (allP_cons (ob_ld c2q15 i11 2 1 ((0 + (i11).toNat * 2) + 1) k1504 rfl (by decide) (by first | rfl | omega) (dflS Try.prog 3) (iS (ix c2q15 i11).e1) rfl 4 [2]) (allP_cons (ob_ix_o 2 c2q15.length 0 2 4 i11 k1504) allP_nil))) ?_
                    refine rf [(0, .v (.string text)), (2, iS xfrom), (3, iS to), (11, .v (.string b1)), (12, .ptr 0 0), (13, .v (.string cq)), (14, .ptr 1 0), (16, .own 2 0 c2q15.length), (18, .own 5 0 (c3q9 ++ ([(ix c2q15 i11).e1] : List Int)).length), (19, iS i11)] [(0, .row 25 (Enc.cells c1q1)), (1, .row 25 (Enc.cells c2q5)), (2, .row 39 (fl c2q15)), (3, .dead), (4, .row 3 (fl ([(ix c2q15 i11).e1] : List Int))), (5, .row 3 (fl (c3q9 ++ ([(ix c2q15 i11).e1] : List Int))))] 6 (by kernel_rfl) ?_
                    refine wk_id ?_
                    refine wk_id ?_
                    refine reg_f ?_
                    refine rs 3 [] [] (by kernel_rfl) allP_nil ?_
                    refine rf [(0, .v (.string text)), (2, iS xfrom), (3, iS to), (11, .v (.string b1)), (12, .ptr 0 0), (13, .v (.string cq)), (14, .ptr 1 0), (16, .own 2 0 c2q15.length), (18, .own 5 0 (c3q9 ++ ([(ix c2q15 i11).e1] : List Int)).length), (19, iS (IntKind.i64.wrap (i11 - 1)))] [(0, .row 25 (Enc.cells c1q1)), (1, .row 25 (Enc.cells c2q5)), (2, .row 39 (fl c2q15)), (3, .dead), (4, .row 3 (fl ([(ix c2q15 i11).e1] : List Int))), (5, .row 3 (fl (c3q9 ++ ([(ix c2q15 i11).e1] : List Int))))] 6 (by kernel_rfl) ?_
                    exact hn2 ((IntKind.i64.wrap (i11 - 1)), c2q15, (c3q9 ++ ([(ix c2q15 i11).e1] : List Int))) _ _ _ (Option.some.inj h).symm (leSt_m [(0, 0), (1, 1), (2, 2), (3, 5)] [] (by simp only [push_cast, seval]) (by simp only [push_cast, seval]) rfl rfl rfl)
                  · change R2 (.exit 0) _ _ _
                    refine ex_cast hx2 (id := 0) ?_
                    obtain ⟨r0, h, e0⟩ := map_sx h
                    have e1 := hr2 r0 e0.symm
                    subst r0
                    refine wk_id ?_
                    refine wk_id ?_
                    refine seq_np ?_
                    refine seq_cut (A := Bool) (fun a => ([(0, .v (.string text)), (2, iS xfrom), (3, iS to), (13, .v (.string cq)), (14, .ptr 0 0), (16, .own 1 0 c2q15.length), (129, bS a)], [(0, .row 25 (Enc.cells c2q5)), (1, .row 39 (fl c2q15))], 2)) (fun a => (taskmilllaw_UtfWrites_j2 text xfrom to cq c2q5 c2q15 a) = some r) (fun K1516 hK1516 => ?_) ?_
                    · refine reg_f ?_
                      refine rs 4 [] [] (by kernel_rfl) allP_nil ?_
                      refine run_br h 124 (.inl (by kernel_rfl)) (fun g1517 h => ?_) (fun g1517 h => ?_)
                      · refine rs 5 [] [] (by kernel_rfl) allP_nil ?_
                        refine rf [(0, .v (.string text)), (2, iS xfrom), (3, iS to), (13, .v (.string cq)), (14, .ptr 1 0), (16, .own 2 0 c2q15.length), (129, bS true)] [(0, .row 25 (Enc.cells c1q1)), (1, .row 25 (Enc.cells c2q5)), (2, .row 39 (fl c2q15)), (3, .row 3 (fl c3q9))] 4 (by kernel_rfl) ?_
                        exact hK1516 (true) _ _ _ h (leSt_m [(0, 1), (1, 2)] [] (by (try simp only [g1517]) <;> simp only [push_cast, seval]) (by (try simp only [g1517]) <;> simp only [push_cast, seval]) rfl rfl rfl)
                      · refine rs 2 [] [] (by kernel_rfl) allP_nil ?_
                        obtain ⟨r1518, hr1518, h⟩ := bind_sx h
                        refine call_x (taskmillref_Written_spec c3q9 r1518 hr1518) (args := [.own 3 0 c3q9.length]) (dst := (some 127)) (by kernel_rfl) [(0, .row 25 (Enc.cells c1q1)), (1, .row 25 (Enc.cells c2q5)), (2, .row 39 (fl c2q15)), (3, .row 3 (fl c3q9))] 4 (by kernel_rfl) [] [3] (.v (.string r1518)) [] (by simp only [push_cast, seval]) (by simp only [push_cast, seval]) (by kernel_rfl) (.inr ⟨by simp only [push_cast, seval], by simp only [push_cast, seval]⟩) (by simp only [push_cast, seval]) (by simp only [push_cast, seval]) ?_
                        refine rs 2 [some ⟨bS (!decide (b1 = r1518)), [], 4, []⟩] _ (by kernel_rfl) (allP_cons (ob_p (v := bS (!decide (b1 = r1518))) (nx := 4) (r := []) trivial) allP_nil) ?_
                        refine rf [(0, .v (.string text)), (2, iS xfrom), (3, iS to), (13, .v (.string cq)), (14, .ptr 1 0), (16, .own 2 0 c2q15.length), (129, bS (!decide (b1 = r1518)))] [(0, .row 25 (Enc.cells c1q1)), (1, .row 25 (Enc.cells c2q5)), (2, .row 39 (fl c2q15)), (3, .row 3 (fl c3q9))] 4 (by kernel_rfl) ?_
                        exact hK1516 ((!decide (b1 = r1518))) _ _ _ h (leSt_m [(0, 1), (1, 2)] [] (by (try simp only [g1517]) <;> simp only [push_cast, seval]) (by (try simp only [g1517]) <;> simp only [push_cast, seval]) rfl rfl rfl)
                    · rintro t129q2 h
                      try dsimp only at h ⊢
                      unfold taskmilllaw_UtfWrites_j2 at h
                      refine cond_sx h (by kernel_rfl) (fun g1561 h => ?_) (fun g1561 h => ?_)
                      · refine seq_np ?_
                        refine reg_f ?_
                        refine rs 1 [] [] (by kernel_rfl) allP_nil ?_
                        refine rf [(8, bS false)] [(0, .row 25 (Enc.cells c2q5)), (1, .row 39 (fl c2q15))] 2 (by kernel_rfl) ?_
                        refine wk_id ?_
                        obtain rfl := Option.some.inj h
                        refine ret_at (bS false) (by kernel_rfl) ?_
                        exact ret_e [] [] (by simp only [push_cast, seval]) (by simp only [push_cast, seval]) rfl rfl rfl
                      · refine wk_id ?_
                        refine seq_np ?_
                        refine seq_cut (A := Unit) (fun _ => ([(0, .v (.string text)), (2, iS xfrom), (3, iS to), (13, .v (.string cq)), (14, .ptr 0 0), (16, .own 1 0 c2q15.length), (142, bS ((decide (xfrom < 0)) || ((decide (to < xfrom)) || (decide (((c2q15.length : Nat) : Int) < to)))))], [(0, .row 25 (Enc.cells c2q5)), (1, .row 39 (fl c2q15))], 2)) (fun _ => True) (fun K1528 hK1528 => ?_) (fun _ _ => ?_)
                        · refine reg_f ?_
                          refine rs 3 [] [] (by kernel_rfl) allP_nil ?_
                          refine run_split 132 (decide (xfrom < 0)) (.inl (by kernel_rfl)) (fun g1529 => ?_) (fun g1529 => ?_)
                          · refine rs 10 [] [] (by kernel_rfl) allP_nil ?_
                            refine rf [(0, .v (.string text)), (2, iS xfrom), (3, iS to), (13, .v (.string cq)), (14, .ptr 0 0), (16, .own 1 0 c2q15.length), (142, bS true)] [(0, .row 25 (Enc.cells c2q5)), (1, .row 39 (fl c2q15))] 2 (by kernel_rfl) ?_
                            exact hK1528 () _ _ _ trivial (leSt_m [(0, 0), (1, 1)] [] (by (try simp only [g1529]) <;> simp only [push_cast, seval]) (by (try simp only [g1529]) <;> simp only [push_cast, seval]) rfl rfl rfl)
                          · refine rs 5 [] [] (by kernel_rfl) allP_nil ?_
                            refine run_split 137 (decide (to < xfrom)) (.inl (by kernel_rfl)) (fun g1530 => ?_) (fun g1530 => ?_)
                            · refine rs 5 [] [] (by kernel_rfl) allP_nil ?_
                              refine rf [(0, .v (.string text)), (2, iS xfrom), (3, iS to), (13, .v (.string cq)), (14, .ptr 0 0), (16, .own 1 0 c2q15.length), (142, bS true)] [(0, .row 25 (Enc.cells c2q5)), (1, .row 39 (fl c2q15))] 2 (by kernel_rfl) ?_
                              exact hK1528 () _ _ _ trivial (leSt_m [(0, 0), (1, 1)] [] (by first | ((try simp only [g1529, g1530]) <;> simp only [push_cast, seval]; done) | ((try simp only [g1529]); (try simp only [g1530]); simp only [push_cast, seval]; done) | (exfalso; clear h; simp_all; done)) (by first | ((try simp only [g1529, g1530]) <;> simp only [push_cast, seval]; done) | ((try simp only [g1529]); (try simp only [g1530]); simp only [push_cast, seval]; done) | (exfalso; clear h; simp_all; done)) rfl rfl rfl)
                            · refine rs 5 [] [] (by kernel_rfl) allP_nil ?_
                              refine rf [(0, .v (.string text)), (2, iS xfrom), (3, iS to), (13, .v (.string cq)), (14, .ptr 0 0), (16, .own 1 0 c2q15.length), (142, bS (decide (((c2q15.length : Nat) : Int) < to)))] [(0, .row 25 (Enc.cells c2q5)), (1, .row 39 (fl c2q15))] 2 (by kernel_rfl) ?_
                              exact hK1528 () _ _ _ trivial (leSt_m [(0, 0), (1, 1)] [] (by first | ((try simp only [g1529, g1530]) <;> simp only [push_cast, seval]; done) | ((try simp only [g1529]); (try simp only [g1530]); simp only [push_cast, seval]; done) | (exfalso; clear h; simp_all; done)) (by first | ((try simp only [g1529, g1530]) <;> simp only [push_cast, seval]; done) | ((try simp only [g1529]); (try simp only [g1530]); simp only [push_cast, seval]; done) | (exfalso; clear h; simp_all; done)) rfl rfl rfl)
                        · dsimp only
                          refine cond_sx h (by kernel_rfl) (fun g1560 h => ?_) (fun g1560 h => ?_)
                          · refine seq_cut (A := Bool) (fun a => ([(8, bS a)], [], 0)) (fun a => (taskmilllaw_UtfWrites_j1 a) = some r) (fun K1534 hK1534 => ?_) ?_
                            · refine reg_t ?_
                              refine rs 1 [] [] (by kernel_rfl) allP_nil ?_
                              obtain ⟨r1535, hr1535, h⟩ := bind_sx h
                              refine run_call 11 [iS 3, iS 0] (some 144) (by kernel_rfl) ?_
                              refine callE_0 (taskmillref_F_spec 3 0 r1535 hr1535) (by simp only [push_cast, seval]) (by simp only [push_cast, seval]) ?_
                              refine back_t ?_
                              refine rs 2 [] [] (by kernel_rfl) allP_nil ?_
                              refine run_br h 146 (.inl (by kernel_rfl)) (fun g1536 h => ?_) (fun g1536 h => ?_)
                              · refine rs 4 [none, some ⟨bS (decide (cq = ByteArray.empty)), [], 7, []⟩] _ (by kernel_rfl) (allP_cons (ob_p (v := bS (decide (cq = ByteArray.empty))) (nx := 7) (r := []) trivial) allP_nil) ?_
                                refine rt [(8, bS (decide (cq = ByteArray.empty)))] [(0, .row 25 (Enc.cells c2q5)), (1, .row 39 (fl c2q15))] 10 follows (by kernel_rfl) ?_
                                exact hK1534 ((decide (cq = ByteArray.empty))) _ _ _ h (leSt_m [] [] (by (try simp only [g1536]) <;> simp only [push_cast, seval]) (by (try simp only [g1536]) <;> simp only [push_cast, seval]) rfl rfl rfl)
                              · refine rs 4 [] [] (by kernel_rfl) allP_nil ?_
                                refine rt [(8, bS false)] [(0, .row 25 (Enc.cells c2q5)), (1, .row 39 (fl c2q15))] 10 follows (by kernel_rfl) ?_
                                exact hK1534 (false) _ _ _ h (leSt_m [] [] (by (try simp only [g1536]) <;> simp only [push_cast, seval]) (by (try simp only [g1536]) <;> simp only [push_cast, seval]) rfl rfl rfl)
                            · rintro t8q2 h
                              try dsimp only at h ⊢
                              unfold taskmilllaw_UtfWrites_j1 at h
                              obtain rfl := Option.some.inj h
                              refine ret_at (bS t8q2) (by kernel_rfl) ?_
                              exact ret_e [] [] (by simp only [push_cast, seval]) (by simp only [push_cast, seval]) rfl rfl rfl
                          · refine wk_id ?_
                            refine chk_sx h (fun g1542 h => ?_)
                            refine chk_sx h (fun g1544 h => ?_)
                            refine seq_np ?_
                            refine reg_f ?_
                            have k1541 : c2q15.length * 16 ≤ 140737488355328 := by first | simpa only [Bool.and_eq_true, decide_eq_true_eq, bne_iff_ne, ne_eq] using g1542 | (simp at g1542 ⊢; omega)
                            have k1543 : (c2q15 ++ ([(S39.mk (((text).size : Nat) : Int) 0)] : List S39)).length * 16 ≤ 140737488355328 := by first | simpa only [Bool.and_eq_true, decide_eq_true_eq, bne_iff_ne, ne_eq] using g1544 | (simp at g1544 ⊢; omega)
                            refine rs 8 [none, some ⟨.own 2 0 c2q15.length, [(2, .row 39 (fl c2q15))], 3, [1]⟩, none, none, none, none, some ⟨.own 4 0 (c2q15 ++ ([(S39.mk (((text).size : Nat) : Int) 0)] : List S39)).length, [(4, .row 39 (fl (c2q15 ++ ([(S39.mk (((text).size : Nat) : Int) 0)] : List S39)))), (2, .dead)], 5, [2, 3]⟩] _ (by kernel_rfl) (allP_cons (ob_app (P := Try.prog) c2q15 ([(S39.mk (((text).size : Nat) : Int) 0)] : List S39) 2 16 rfl (appCells (fl ([(S39.mk (((text).size : Nat) : Int) 0)] : List S39)) 0 (([(S39.mk (((text).size : Nat) : Int) 0)] : List S39).length * 2)) ([(S39.mk (((text).size : Nat) : Int) 0)] : List S39).length (app_own ([(S39.mk (((text).size : Nat) : Int) 0)] : List S39) 2 rfl) rfl (0 + ([(S39.mk (((text).size : Nat) : Int) 0)] : List S39).length * 2 ≤ (fl ([(S39.mk (((text).size : Nat) : Int) 0)] : List S39)).length) (app_own_le ([(S39.mk (((text).size : Nat) : Int) 0)] : List S39) 2 rfl) 39 (by kernel_rfl) (by decide) k1543 2 4 [3]) (allP_cons (ob_app0 (P := Try.prog) c2q15 2 16 rfl (appCells (fl c2q15) 0 (c2q15.length * 2)) c2q15.length (app_own c2q15 2 rfl) rfl (0 + c2q15.length * 2 ≤ (fl c2q15).length) (app_own_le c2q15 2 rfl) 39 (by kernel_rfl) (by decide) k1541 2 [1]) allP_nil)) ?_
                            refine rf [(0, .v (.string text)), (2, iS xfrom), (3, iS to), (13, .v (.string cq)), (14, .ptr 0 0), (20, .own 4 0 (c2q15 ++ ([(S39.mk (((text).size : Nat) : Int) 0)] : List S39)).length)] [(0, .row 25 (Enc.cells c2q5)), (1, .row 39 (fl c2q15)), (2, .dead), (3, .row 39 (fl ([(S39.mk (((text).size : Nat) : Int) 0)] : List S39))), (4, .row 39 (fl (c2q15 ++ ([(S39.mk (((text).size : Nat) : Int) 0)] : List S39))))] 5 (by kernel_rfl) ?_
                            refine wk_id ?_
                            refine chk_sx h (fun g1555 h => ?_)
                            refine chk_sx h (fun g1557 h => ?_)
                            refine chk_sx h (fun g1559 h => ?_)
                            refine seq_cut (A := Unit) (fun _ => ([(8, bS ((c2q5.Code == 0) && (decide (cq = ((text).extract ((ix (c2q15 ++ ([(S39.mk (((text).size : Nat) : Int) 0)] : List S39)) xfrom).e0).toNat ((ix (c2q15 ++ ([(S39.mk (((text).size : Nat) : Int) 0)] : List S39)) to).e0).toNat)))))], [(0, .row 25 (Enc.cells c2q5)), (1, .row 39 (fl c2q15)), (3, .row 39 (fl ([(S39.mk (((text).size : Nat) : Int) 0)] : List S39))), (4, .row 39 (fl (c2q15 ++ ([(S39.mk (((text).size : Nat) : Int) 0)] : List S39))))], 25)) (fun _ => True) (fun K1552 hK1552 => ?_) (fun _ _ => ?_)
                            · refine reg_t ?_
                              refine rs 4 [] [] (by kernel_rfl) allP_nil ?_
                              refine run_split 160 (c2q5.Code == 0) (.inl (by kernel_rfl)) (fun g1553 => ?_) (fun g1553 => ?_)
                              · have k1554 : 0 ≤ xfrom ∧ xfrom < (((c2q15 ++ ([(S39.mk (((text).size : Nat) : Int) 0)] : List S39)).length : Nat) : Int) := by have e := or_use g1555 (by first | ((try simp only [g1553]) <;> rfl) | ((try simp only [g1553]); rfl) | (exfalso; clear h; simp_all; done)); first | simpa only [Bool.and_eq_true, decide_eq_true_eq, bne_iff_ne, ne_eq] using e | (simp at e ⊢; omega)
                                have k1556 : 0 ≤ to ∧ to < (((c2q15 ++ ([(S39.mk (((text).size : Nat) : Int) 0)] : List S39)).length : Nat) : Int) := by have e := or_use g1557 (by first | ((try simp only [g1553]) <;> rfl) | ((try simp only [g1553]); rfl) | (exfalso; clear h; simp_all; done)); first | simpa only [Bool.and_eq_true, decide_eq_true_eq, bne_iff_ne, ne_eq] using e | (simp at e ⊢; omega)
                                have k1558 : 0 ≤ (ix (c2q15 ++ ([(S39.mk (((text).size : Nat) : Int) 0)] : List S39)) xfrom).e0 ∧ (ix (c2q15 ++ ([(S39.mk (((text).size : Nat) : Int) 0)] : List S39)) xfrom).e0 ≤ (ix (c2q15 ++ ([(S39.mk (((text).size : Nat) : Int) 0)] : List S39)) to).e0 ∧ (ix (c2q15 ++ ([(S39.mk (((text).size : Nat) : Int) 0)] : List S39)) to).e0 ≤ (((text).size : Nat) : Int) := by have e := or_use g1559 (by first | ((try simp only [g1553]) <;> rfl) | ((try simp only [g1553]); rfl) | (exfalso; clear h; simp_all; done)); first | simpa only [Bool.and_eq_true, decide_eq_true_eq, bne_iff_ne, ne_eq] using e | (simp at e ⊢; omega)
                                refine rs 16 [none, none, none, none, some ⟨.ptr 4 (0 + (xfrom).toNat * 2), [], 13, [4]⟩, none, some ⟨iS (ix (c2q15 ++ ([(S39.mk (((text).size : Nat) : Int) 0)] : List S39)) xfrom).e0, [], 15, [4]⟩, none, none, some ⟨.ptr 4 (0 + (to).toNat * 2), [], 18, [4]⟩, none, some ⟨iS (ix (c2q15 ++ ([(S39.mk (((text).size : Nat) : Int) 0)] : List S39)) to).e0, [], 20, [4]⟩, some ⟨.v (.string ((text).extract ((ix (c2q15 ++ ([(S39.mk (((text).size : Nat) : Int) 0)] : List S39)) xfrom).e0).toNat ((ix (c2q15 ++ ([(S39.mk (((text).size : Nat) : Int) 0)] : List S39)) to).e0).toNat)), [], 21, []⟩, some ⟨bS (decide (cq = ((text).extract ((ix (c2q15 ++ ([(S39.mk (((text).size : Nat) : Int) 0)] : List S39)) xfrom).e0).toNat ((ix (c2q15 ++ ([(S39.mk (((text).size : Nat) : Int) 0)] : List S39)) to).e0).toNat))), [], 22, []⟩] _ (by kernel_rfl) (allP_cons (ob_p (v := bS (decide (cq = ((text).extract ((ix (c2q15 ++ ([(S39.mk (((text).size : Nat) : Int) 0)] : List S39)) xfrom).e0).toNat ((ix (c2q15 ++ ([(S39.mk (((text).size : Nat) : Int) 0)] : List S39)) to).e0).toNat)))) (nx := 22) (r := []) trivial) (allP_cons (ob_p (v := .v (.string ((text).extract ((ix (c2q15 ++ ([(S39.mk (((text).size : Nat) : Int) 0)] : List S39)) xfrom).e0).toNat ((ix (c2q15 ++ ([(S39.mk (((text).size : Nat) : Int) 0)] : List S39)) to).e0).toNat))) (nx := 21) (r := []) k1558) (allP_cons (ob_ld (c2q15 ++ ([(S39.mk (((text).size : Nat) : Int) 0)] : List S39)) to 2 0 ((0 + (to).toNat * 2) + 0) k1556 rfl (by decide) (by first | rfl | omega) (dflS Try.prog 3) (iS (ix (c2q15 ++ ([(S39.mk (((text).size : Nat) : Int) 0)] : List S39)) to).e0) rfl 20 [4]) (allP_cons (ob_ix_o 4 (c2q15 ++ ([(S39.mk (((text).size : Nat) : Int) 0)] : List S39)).length 0 2 18 to k1556) (allP_cons (ob_ld (c2q15 ++ ([(S39.mk (((text).size : Nat) : Int) 0)] : List S39)) xfrom 2 0 ((0 + (xfrom).toNat * 2) + 0) k1554 rfl (by decide) (by first | rfl | omega) (dflS Try.prog 3) (iS (ix (c2q15 ++ ([(S39.mk (((text).size : Nat) : Int) 0)] : List S39)) xfrom).e0) rfl 15 [4]) (allP_cons (ob_ix_o 4 (c2q15 ++ ([(S39.mk (((text).size : Nat) : Int) 0)] : List S39)).length 0 2 13 xfrom k1554) allP_nil)))))) ?_
                                refine rt [(8, bS (decide (cq = ((text).extract ((ix (c2q15 ++ ([(S39.mk (((text).size : Nat) : Int) 0)] : List S39)) xfrom).e0).toNat ((ix (c2q15 ++ ([(S39.mk (((text).size : Nat) : Int) 0)] : List S39)) to).e0).toNat))))] [(0, .row 25 (Enc.cells c2q5)), (1, .row 39 (fl c2q15)), (2, .dead), (3, .row 39 (fl ([(S39.mk (((text).size : Nat) : Int) 0)] : List S39))), (4, .row 39 (fl (c2q15 ++ ([(S39.mk (((text).size : Nat) : Int) 0)] : List S39))))] 25 follows (by kernel_rfl) ?_
                                exact hK1552 () _ _ _ trivial (leSt_m [(0, 0), (1, 1), (3, 3), (4, 4)] [] (by (try simp only [g1553]) <;> simp only [push_cast, seval]) (by (try simp only [g1553]) <;> simp only [push_cast, seval]) rfl rfl rfl)
                              · refine rs 16 [] [] (by kernel_rfl) allP_nil ?_
                                refine rt [(8, bS false)] [(0, .row 25 (Enc.cells c2q5)), (1, .row 39 (fl c2q15)), (2, .dead), (3, .row 39 (fl ([(S39.mk (((text).size : Nat) : Int) 0)] : List S39))), (4, .row 39 (fl (c2q15 ++ ([(S39.mk (((text).size : Nat) : Int) 0)] : List S39))))] 25 follows (by kernel_rfl) ?_
                                exact hK1552 () _ _ _ trivial (leSt_m [(0, 0), (1, 1), (3, 3), (4, 4)] [] (by (try simp only [g1553]) <;> simp only [push_cast, seval]) (by (try simp only [g1553]) <;> simp only [push_cast, seval]) rfl rfl rfl)
                            · dsimp only
                              obtain rfl := Option.some.inj h
                              refine ret_at (bS ((c2q5.Code == 0) && (decide (cq = ((text).extract ((ix (c2q15 ++ ([(S39.mk (((text).size : Nat) : Int) 0)] : List S39)) xfrom).e0).toNat ((ix (c2q15 ++ ([(S39.mk (((text).size : Nat) : Int) 0)] : List S39)) to).e0).toNat))))) (by kernel_rfl) ?_
                              exact ret_e [] [] (by simp only [push_cast, seval]) (by simp only [push_cast, seval]) rfl rfl rfl

end Go.Proofs.Ytbnhbaehapalnaa
