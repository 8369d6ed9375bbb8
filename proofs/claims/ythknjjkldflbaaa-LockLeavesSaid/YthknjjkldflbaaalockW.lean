/-
  What laws of the chapter lock compute, and lemmas on it.
  No conditions.
-/
import Derived.Test.YthknjjkldflbaaalockW2
set_option linter.unusedSimpArgs false
set_option linter.unusedVariables false
namespace Go.Proofs.Ythknjjkldflbaaa
open Go Go.Sx
attribute [local irreducible] Wk RunAt
set_option maxRecDepth 100000 in
set_option maxHeartbeats 10000000 in
theorem taskmilllaw_LockShares_spec (readers : Int) (later : Int) (r : Bool) (h : taskmilllaw_LockShares readers later = some r) : SpecW Try.prog 7 [iS readers, iS later] [] 0 (fun x h n => x = bS r ∧ h = [] ∧ n = 0) := by
  unfold taskmilllaw_LockShares at h
  refine spec_of (draw_ok _) Try.func7 rfl (by decide) rfl (by kernel_rfl) ?_
  refine seq_np ?_
  refine reg_f ?_
  refine rs 1 [] [] (by kernel_rfl) allP_nil ?_
  refine rf [(0, iS readers), (1, iS later)] [] 0 (by kernel_rfl) ?_
  refine wk_id ?_
  refine seq_np ?_
  refine seq_np ?_
  refine reg_f ?_
  obtain ⟨r4929, hr4929, h⟩ := bind_sx h
  refine run_call 8 [] (some 25) (by kernel_rfl) ?_
  refine call_0 (taskmilllaw_lockBegun_spec r4929 hr4929) (by simp only [push_cast, seval]) (by simp only [push_cast, seval]) ?_
  refine back_f ?_
  refine rs 1 [] [] (by kernel_rfl) allP_nil ?_
  refine rf [(0, iS readers), (1, iS later), (26, bS (!r4929))] [] 0 (by kernel_rfl) ?_
  refine wk_id ?_
  refine cond_sx h (by kernel_rfl) (fun g5251 h => ?_) (fun g5251 h => ?_)
  · refine seq_np ?_
    refine reg_f ?_
    refine rs 1 [] [] (by kernel_rfl) allP_nil ?_
    refine rf [(4, bS false)] [] 0 (by kernel_rfl) ?_
    refine wk_id ?_
    obtain rfl := Option.some.inj h
    refine ret_at (bS false) (by kernel_rfl) ?_
    exact ret_e [] [] (by simp only [push_cast, seval]) (by simp only [push_cast, seval]) rfl rfl rfl
  · refine wk_id ?_
    refine seq_np ?_
    refine seq_cut (A := Unit) (fun _ => ([(0, iS readers), (1, iS later), (40, bS ((decide (readers < 1)) || ((decide ((50 : Int) < readers)) || ((decide (later < 0)) || (decide ((50 : Int) < later))))))], [], 0)) (fun _ => True) (fun K4937 hK4937 => ?_) (fun _ _ => ?_)
    · refine reg_f ?_
      refine rs 3 [] [] (by kernel_rfl) allP_nil ?_
      refine run_split 29 (decide (readers < 1)) (.inl (by kernel_rfl)) (fun g4938 => ?_) (fun g4938 => ?_)
      · refine rs 11 [] [] (by kernel_rfl) allP_nil ?_
        refine rf [(0, iS readers), (1, iS later), (40, bS true)] [] 0 (by kernel_rfl) ?_
        exact hK4937 () _ _ _ trivial (leSt_m [] [] (by (try simp only [g4938]) <;> simp only [push_cast, seval]) (by (try simp only [g4938]) <;> simp only [push_cast, seval]) rfl rfl rfl)
      · refine rs 4 [] [] (by kernel_rfl) allP_nil ?_
        refine run_split 33 (decide ((50 : Int) < readers)) (.inl (by kernel_rfl)) (fun g4939 => ?_) (fun g4939 => ?_)
        · refine rs 7 [] [] (by kernel_rfl) allP_nil ?_
          refine rf [(0, iS readers), (1, iS later), (40, bS true)] [] 0 (by kernel_rfl) ?_
          exact hK4937 () _ _ _ trivial (leSt_m [] [] (by first | ((try simp only [g4938, g4939]) <;> simp only [push_cast, seval]; done) | ((try simp only [g4938]); (try simp only [g4939]); simp only [push_cast, seval]; done) | (exfalso; clear h; simp_all; done)) (by first | ((try simp only [g4938, g4939]) <;> simp only [push_cast, seval]; done) | ((try simp only [g4938]); (try simp only [g4939]); simp only [push_cast, seval]; done) | (exfalso; clear h; simp_all; done)) rfl rfl rfl)
        · refine rs 4 [] [] (by kernel_rfl) allP_nil ?_
          refine run_split 37 (decide (later < 0)) (.inl (by kernel_rfl)) (fun g4940 => ?_) (fun g4940 => ?_)
          · refine rn 11 [(0, iS readers), (1, iS later), (37, bS true)] [] 0 (by kernel_rfl) ?_
            refine rs 3 [] [] (by kernel_rfl) allP_nil ?_
            refine rf [(0, iS readers), (1, iS later), (40, bS true)] [] 0 (by kernel_rfl) ?_
            exact hK4937 () _ _ _ trivial (leSt_m [] [] (by first | ((try simp only [g4938, g4939, g4940]) <;> simp only [push_cast, seval]; done) | ((try simp only [g4938]); (try simp only [g4939]); (try simp only [g4940]); simp only [push_cast, seval]; done) | (exfalso; clear h; simp_all; done)) (by first | ((try simp only [g4938, g4939, g4940]) <;> simp only [push_cast, seval]; done) | ((try simp only [g4938]); (try simp only [g4939]); (try simp only [g4940]); simp only [push_cast, seval]; done) | (exfalso; clear h; simp_all; done)) rfl rfl rfl)
          · refine rn 11 [(0, iS readers), (1, iS later), (37, bS false)] [] 0 (by kernel_rfl) ?_
            refine rs 3 [] [] (by kernel_rfl) allP_nil ?_
            refine rf [(0, iS readers), (1, iS later), (40, bS (decide ((50 : Int) < later)))] [] 0 (by kernel_rfl) ?_
            exact hK4937 () _ _ _ trivial (leSt_m [] [] (by first | ((try simp only [g4938, g4939, g4940]) <;> simp only [push_cast, seval]; done) | ((try simp only [g4938]); (try simp only [g4939]); (try simp only [g4940]); simp only [push_cast, seval]; done) | (exfalso; clear h; simp_all; done)) (by first | ((try simp only [g4938, g4939, g4940]) <;> simp only [push_cast, seval]; done) | ((try simp only [g4938]); (try simp only [g4939]); (try simp only [g4940]); simp only [push_cast, seval]; done) | (exfalso; clear h; simp_all; done)) rfl rfl rfl)
    · dsimp only
      refine cond_sx h (by kernel_rfl) (fun g5250 h => ?_) (fun g5250 h => ?_)
      · refine seq_np ?_
        refine reg_f ?_
        refine rs 1 [] [] (by kernel_rfl) allP_nil ?_
        refine rf [(4, bS true)] [] 0 (by kernel_rfl) ?_
        refine wk_id ?_
        obtain rfl := Option.some.inj h
        refine ret_at (bS true) (by kernel_rfl) ?_
        exact ret_e [] [] (by simp only [push_cast, seval]) (by simp only [push_cast, seval]) rfl rfl rfl
      · refine wk_id ?_
        refine seq_np ?_
        refine reg_f ?_
        refine rs 3 [] [] (by kernel_rfl) allP_nil ?_
        refine rf [(0, iS readers), (1, iS later), (5, .ptr 0 0)] [(0, .row 24 [iS 0, bS false, .v (.slice none 0 0)])] 1 (by kernel_rfl) ?_
        refine wk_id ?_
        refine seq_np ?_
        refine reg_f ?_
        refine rs 2 [] [] (by kernel_rfl) allP_nil ?_
        refine rf [(0, iS readers), (1, iS later), (5, .ptr 0 0), (6, .clo 24 [.ptr 0 0])] [(0, .row 24 [iS 0, bS false, .v (.slice none 0 0)])] 1 (by kernel_rfl) ?_
        refine wk_id ?_
        refine seq_np ?_
        refine seq_np ?_
        refine reg_f ?_
        refine rs 1 [] [] (by kernel_rfl) allP_nil ?_
        refine rf [(0, iS readers), (1, iS later), (5, .ptr 0 0), (6, .clo 24 [.ptr 0 0]), (7, iS 1)] [(0, .row 24 [iS 0, bS false, .v (.slice none 0 0)])] 1 (by kernel_rfl) ?_
        refine wk_id ?_
        refine block_np ?_
        refine loop_sx (S := Int × Int × Bool × (List Want)) (fun a => ([(0, iS readers), (1, iS later), (5, .ptr 0 0), (6, .clo 24 [.ptr 0 0]), (7, iS a.1)], [(0, .row 24 [iS a.2.1, bS a.2.2.1, .own 1 0 a.2.2.2.length]), (1, .row 47 (fl a.2.2.2))], 2)) h (leSt_m [(0, 0)] [] (by simp only [push_cast, seval]) (by simp only [push_cast, seval]) rfl rfl rfl) ?_
        rintro ⟨t11, c0_Readers12, c0_Writer12, c1q10⟩ o4 R4 h hr4 hn4 hx4 ht4
        try dsimp only at h hn4 ⊢
        unfold taskmilllaw_LockShares_l3 at h
        try dsimp only at h
        refine seq_np ?_
        refine seq_np ?_
        refine reg_f ?_
        refine rs 3 [] [] (by kernel_rfl) allP_nil ?_
        refine rf [(0, iS readers), (1, iS later), (5, .ptr 0 0), (6, .clo 24 [.ptr 0 0]), (7, iS t11), (45, bS (decide (t11 ≤ readers)))] [(0, .row 24 [iS c0_Readers12, bS c0_Writer12, .own 1 0 c1q10.length]), (1, .row 47 (fl c1q10))] 2 (by kernel_rfl) ?_
        refine wk_id ?_
        refine cond_sx h (by kernel_rfl) (fun g5249 h => ?_) (fun g5249 h => ?_)
        · refine wk_id ?_
          refine seq_np ?_
          refine block_np ?_
          refine seq_np ?_
          refine reg_f ?_
          refine rs 2 [] [] (by kernel_rfl) allP_nil ?_
          obtain ⟨r4984, hr4984, h⟩ := bind_sx h
          refine call_x (taskmilllaw_LockShares_1_1_spec t11 false c0_Readers12 c0_Writer12 c1q10 r4984 hr4984) (args := [iS t11, bS false, .ptr 0 0]) (dst := (some 51)) (by kernel_rfl) [(0, .row 24 [iS c0_Readers12, bS c0_Writer12, .own 1 0 c1q10.length]), (1, .row 47 (fl c1q10))] 2 (by kernel_rfl) [(0, 0), (1, 1)] [] (.tup [bS r4984.1, bS r4984.2.1]) [(0, .row 24 [iS r4984.2.2.1, bS r4984.2.2.2.1, .own 4 0 r4984.2.2.2.2.1.length]), (1, .row 47 (fl r4984.2.2.2.2.2)), (4, .row 47 (fl r4984.2.2.2.2.1)), (0, .dead), (1, .dead)] (by simp only [push_cast, seval]) (by simp only [push_cast, seval]) (by kernel_rfl) (.inl rfl) (by simp only [push_cast, seval]) (by simp only [push_cast, seval]) ?_
          refine rs 5 [] [] (by kernel_rfl) allP_nil ?_
          refine rf [(0, iS readers), (1, iS later), (5, .ptr 0 0), (6, .clo 24 [.ptr 0 0]), (7, iS t11), (8, bS r4984.1), (9, bS r4984.2.1)] [(0, .row 24 [iS r4984.2.2.1, bS r4984.2.2.2.1, .own 4 0 r4984.2.2.2.2.1.length]), (1, .row 47 (fl r4984.2.2.2.2.2)), (4, .row 47 (fl r4984.2.2.2.2.1))] 5 (by kernel_rfl) ?_
          refine wk_id ?_
          refine seq_cut (A := Unit) (fun _ => ([(0, iS readers), (1, iS later), (5, .ptr 0 0), (6, .clo 24 [.ptr 0 0]), (7, iS t11), (59, bS ((!r4984.2.1) || (!r4984.1)))], [(0, .row 24 [iS r4984.2.2.1, bS r4984.2.2.2.1, .own 4 0 r4984.2.2.2.2.1.length]), (1, .row 47 (fl r4984.2.2.2.2.2)), (4, .row 47 (fl r4984.2.2.2.2.1))], 5)) (fun _ => True) (fun K4986 hK4986 => ?_) (fun _ _ => ?_)
          · refine reg_f ?_
            refine rs 3 [] [] (by kernel_rfl) allP_nil ?_
            refine run_split 56 (!r4984.2.1) (.inl (by kernel_rfl)) (fun g4987 => ?_) (fun g4987 => ?_)
            · refine rs 3 [] [] (by kernel_rfl) allP_nil ?_
              refine rf [(0, iS readers), (1, iS later), (5, .ptr 0 0), (6, .clo 24 [.ptr 0 0]), (7, iS t11), (59, bS true)] [(0, .row 24 [iS r4984.2.2.1, bS r4984.2.2.2.1, .own 4 0 r4984.2.2.2.2.1.length]), (1, .row 47 (fl r4984.2.2.2.2.2)), (4, .row 47 (fl r4984.2.2.2.2.1))] 5 (by kernel_rfl) ?_
              exact hK4986 () _ _ _ trivial (leSt_m [(0, 0), (1, 1), (4, 4)] [] (by (try simp only [g4987]) <;> simp only [push_cast, seval]) (by (try simp only [g4987]) <;> simp only [push_cast, seval]) rfl rfl rfl)
            · refine rs 3 [] [] (by kernel_rfl) allP_nil ?_
              refine rf [(0, iS readers), (1, iS later), (5, .ptr 0 0), (6, .clo 24 [.ptr 0 0]), (7, iS t11), (59, bS (!r4984.1))] [(0, .row 24 [iS r4984.2.2.1, bS r4984.2.2.2.1, .own 4 0 r4984.2.2.2.2.1.length]), (1, .row 47 (fl r4984.2.2.2.2.2)), (4, .row 47 (fl r4984.2.2.2.2.1))] 5 (by kernel_rfl) ?_
              exact hK4986 () _ _ _ trivial (leSt_m [(0, 0), (1, 1), (4, 4)] [] (by (try simp only [g4987]) <;> simp only [push_cast, seval]) (by (try simp only [g4987]) <;> simp only [push_cast, seval]) rfl rfl rfl)
          · dsimp only
            refine cond_sx h (by kernel_rfl) (fun g4988 h => ?_) (fun g4988 h => ?_)
            · refine seq_np ?_
              refine reg_f ?_
              refine rs 1 [] [] (by kernel_rfl) allP_nil ?_
              refine rf [(4, bS false)] [(0, .row 24 [iS r4984.2.2.1, bS r4984.2.2.2.1, .own 4 0 r4984.2.2.2.2.1.length]), (1, .row 47 (fl r4984.2.2.2.2.2)), (4, .row 47 (fl r4984.2.2.2.2.1))] 5 (by kernel_rfl) ?_
              refine wk_id ?_
              refine rt_cast ht4 ?_
              obtain ⟨r0, h, e0⟩ := map_sx h
              have e1 := hr4 r0 e0.symm
              subst r0
              obtain rfl := Option.some.inj h
              refine ret_at (bS false) (by kernel_rfl) ?_
              exact ret_e [] [] (by simp only [push_cast, seval]) (by simp only [push_cast, seval]) rfl rfl rfl
            · refine wk_id ?_
              refine wk_id ?_
              refine reg_f ?_
              refine rs 3 [] [] (by kernel_rfl) allP_nil ?_
              refine rf [(0, iS readers), (1, iS later), (5, .ptr 0 0), (6, .clo 24 [.ptr 0 0]), (7, iS (IntKind.i64.wrap (t11 + 1)))] [(0, .row 24 [iS r4984.2.2.1, bS r4984.2.2.2.1, .own 4 0 r4984.2.2.2.2.1.length]), (1, .row 47 (fl r4984.2.2.2.2.2)), (4, .row 47 (fl r4984.2.2.2.2.1))] 5 (by kernel_rfl) ?_
              exact hn4 ((IntKind.i64.wrap (t11 + 1)), r4984.2.2.1, r4984.2.2.2.1, r4984.2.2.2.2.1) _ _ _ (Option.some.inj h).symm (leSt_m [(0, 0), (1, 4)] [] (by simp only [push_cast, seval]) (by simp only [push_cast, seval]) rfl rfl rfl)
        · change R4 (.exit 0) _ _ _
          refine ex_cast hx4 (id := 0) ?_
          obtain ⟨r0, h, e0⟩ := map_sx h
          have e1 := hr4 r0 e0.symm
          subst r0
          refine wk_id ?_
          refine wk_id ?_
          refine seq_np ?_
          refine reg_f ?_
          refine rs 3 [] [] (by kernel_rfl) allP_nil ?_
          obtain ⟨r4990, hr4990, h⟩ := bind_sx h
          refine call_x (taskmilllaw_LockShares_1_1_spec (IntKind.i64.wrap (readers + 1)) true c0_Readers12 c0_Writer12 c1q10 r4990 hr4990) (args := [iS (IntKind.i64.wrap (readers + 1)), bS true, .ptr 0 0]) (dst := (some 64)) (by kernel_rfl) [(0, .row 24 [iS c0_Readers12, bS c0_Writer12, .own 1 0 c1q10.length]), (1, .row 47 (fl c1q10))] 2 (by kernel_rfl) [(0, 0), (1, 1)] [] (.tup [bS r4990.1, bS r4990.2.1]) [(0, .row 24 [iS r4990.2.2.1, bS r4990.2.2.2.1, .own 4 0 r4990.2.2.2.2.1.length]), (1, .row 47 (fl r4990.2.2.2.2.2)), (4, .row 47 (fl r4990.2.2.2.2.1)), (0, .dead), (1, .dead)] (by simp only [push_cast, seval]) (by simp only [push_cast, seval]) (by kernel_rfl) (.inl rfl) (by simp only [push_cast, seval]) (by simp only [push_cast, seval]) ?_
          refine rs 5 [] [] (by kernel_rfl) allP_nil ?_
          refine rf [(0, iS readers), (1, iS later), (5, .ptr 0 0), (6, .clo 24 [.ptr 0 0]), (10, bS r4990.1), (11, bS r4990.2.1)] [(0, .row 24 [iS r4990.2.2.1, bS r4990.2.2.2.1, .own 4 0 r4990.2.2.2.2.1.length]), (1, .row 47 (fl r4990.2.2.2.2.2)), (4, .row 47 (fl r4990.2.2.2.2.1))] 5 (by kernel_rfl) ?_
          refine wk_id ?_
          refine seq_np ?_
          refine seq_cut (A := Unit) (fun _ => ([(0, iS readers), (1, iS later), (5, .ptr 0 0), (6, .clo 24 [.ptr 0 0]), (71, bS ((!r4990.2.1) || r4990.1))], [(0, .row 24 [iS r4990.2.2.1, bS r4990.2.2.2.1, .own 4 0 r4990.2.2.2.2.1.length]), (1, .row 47 (fl r4990.2.2.2.2.2)), (4, .row 47 (fl r4990.2.2.2.2.1))], 5)) (fun _ => True) (fun K4994 hK4994 => ?_) (fun _ _ => ?_)
          · refine reg_f ?_
            refine rs 3 [] [] (by kernel_rfl) allP_nil ?_
            refine run_split 69 (!r4990.2.1) (.inl (by kernel_rfl)) (fun g4995 => ?_) (fun g4995 => ?_)
            · refine rs 2 [] [] (by kernel_rfl) allP_nil ?_
              refine rf [(0, iS readers), (1, iS later), (5, .ptr 0 0), (6, .clo 24 [.ptr 0 0]), (71, bS true)] [(0, .row 24 [iS r4990.2.2.1, bS r4990.2.2.2.1, .own 4 0 r4990.2.2.2.2.1.length]), (1, .row 47 (fl r4990.2.2.2.2.2)), (4, .row 47 (fl r4990.2.2.2.2.1))] 5 (by kernel_rfl) ?_
              exact hK4994 () _ _ _ trivial (leSt_m [(0, 0), (1, 1), (4, 4)] [] (by (try simp only [g4995]) <;> simp only [push_cast, seval]) (by (try simp only [g4995]) <;> simp only [push_cast, seval]) rfl rfl rfl)
            · refine rs 2 [] [] (by kernel_rfl) allP_nil ?_
              refine rf [(0, iS readers), (1, iS later), (5, .ptr 0 0), (6, .clo 24 [.ptr 0 0]), (71, bS r4990.1)] [(0, .row 24 [iS r4990.2.2.1, bS r4990.2.2.2.1, .own 4 0 r4990.2.2.2.2.1.length]), (1, .row 47 (fl r4990.2.2.2.2.2)), (4, .row 47 (fl r4990.2.2.2.2.1))] 5 (by kernel_rfl) ?_
              exact hK4994 () _ _ _ trivial (leSt_m [(0, 0), (1, 1), (4, 4)] [] (by (try simp only [g4995]) <;> simp only [push_cast, seval]) (by (try simp only [g4995]) <;> simp only [push_cast, seval]) rfl rfl rfl)
          · dsimp only
            refine cond_sx h (by kernel_rfl) (fun g5248 h => ?_) (fun g5248 h => ?_)
            · refine seq_np ?_
              refine reg_f ?_
              refine rs 1 [] [] (by kernel_rfl) allP_nil ?_
              refine rf [(4, bS false)] [(0, .row 24 [iS r4990.2.2.1, bS r4990.2.2.2.1, .own 4 0 r4990.2.2.2.2.1.length]), (1, .row 47 (fl r4990.2.2.2.2.2)), (4, .row 47 (fl r4990.2.2.2.2.1))] 5 (by kernel_rfl) ?_
              refine wk_id ?_
              obtain rfl := Option.some.inj h
              refine ret_at (bS false) (by kernel_rfl) ?_
              exact ret_e [] [] (by simp only [push_cast, seval]) (by simp only [push_cast, seval]) rfl rfl rfl
            · refine wk_id ?_
              refine seq_np ?_
              refine reg_f ?_
              refine rs 1 [] [] (by kernel_rfl) allP_nil ?_
              refine rf [(0, iS readers), (1, iS later), (5, .ptr 0 0), (6, .clo 24 [.ptr 0 0]), (12, .v (.slice none 0 0))] [(0, .row 24 [iS r4990.2.2.1, bS r4990.2.2.2.1, .own 4 0 r4990.2.2.2.2.1.length]), (1, .row 47 (fl r4990.2.2.2.2.2)), (4, .row 47 (fl r4990.2.2.2.2.1))] 5 (by kernel_rfl) ?_
              refine wk_id ?_
              refine seq_np ?_
              refine seq_np ?_
              refine reg_f ?_
              refine rs 1 [] [] (by kernel_rfl) allP_nil ?_
              refine rf [(0, iS readers), (1, iS later), (5, .ptr 0 0), (6, .clo 24 [.ptr 0 0]), (12, .v (.slice none 0 0)), (13, iS 0)] [(0, .row 24 [iS r4990.2.2.1, bS r4990.2.2.2.1, .own 4 0 r4990.2.2.2.2.1.length]), (1, .row 47 (fl r4990.2.2.2.2.2)), (4, .row 47 (fl r4990.2.2.2.2.1))] 5 (by kernel_rfl) ?_
              refine wk_id ?_
              refine block_np ?_
              refine loop_sx (S := Int × Int × Bool × (List Int) × (List Want)) (fun a => ([(0, iS readers), (1, iS later), (5, .ptr 0 0), (6, .clo 24 [.ptr 0 0]), (12, .own 1 0 a.2.2.2.1.length), (13, iS a.1)], [(0, .row 24 [iS a.2.1, bS a.2.2.1, .own 2 0 a.2.2.2.2.length]), (1, .row 3 (fl a.2.2.2.1)), (2, .row 47 (fl a.2.2.2.2))], 3)) h (leSt_m [(0, 0), (2, 4)] [] (by simp only [push_cast, seval]) (by simp only [push_cast, seval]) rfl rfl rfl) ?_
              rintro ⟨t17, c0_Readers21, c0_Writer21, c1q19, c2q9⟩ o5 R5 h hr5 hn5 hx5 ht5
              try dsimp only at h hn5 ⊢
              unfold taskmilllaw_LockShares_l2 at h
              try dsimp only at h
              refine seq_np ?_
              refine seq_np ?_
              refine reg_f ?_
              refine rs 3 [] [] (by kernel_rfl) allP_nil ?_
              refine rf [(0, iS readers), (1, iS later), (5, .ptr 0 0), (6, .clo 24 [.ptr 0 0]), (12, .own 1 0 c1q19.length), (13, iS t17), (74, bS (decide (t17 < later)))] [(0, .row 24 [iS c0_Readers21, bS c0_Writer21, .own 2 0 c2q9.length]), (1, .row 3 (fl c1q19)), (2, .row 47 (fl c2q9))] 3 (by kernel_rfl) ?_
              refine wk_id ?_
              refine cond_sx h (by kernel_rfl) (fun g5247 h => ?_) (fun g5247 h => ?_)
              · refine wk_id ?_
                refine seq_np ?_
                refine block_np ?_
                refine seq_np ?_
                refine reg_f ?_
                refine rs 5 [] [] (by kernel_rfl) allP_nil ?_
                obtain ⟨r5059, hr5059, h⟩ := bind_sx h
                refine call_x (taskmilllaw_LockShares_1_1_spec (IntKind.i64.wrap ((IntKind.i64.wrap (readers + 2)) + t17)) false c0_Readers21 c0_Writer21 c2q9 r5059 hr5059) (args := [iS (IntKind.i64.wrap ((IntKind.i64.wrap (readers + 2)) + t17)), bS false, .ptr 0 0]) (dst := (some 83)) (by kernel_rfl) [(0, .row 24 [iS c0_Readers21, bS c0_Writer21, .own 2 0 c2q9.length]), (1, .row 3 (fl c1q19)), (2, .row 47 (fl c2q9))] 3 (by kernel_rfl) [(0, 0), (1, 2)] [] (.tup [bS r5059.1, bS r5059.2.1]) [(0, .row 24 [iS r5059.2.2.1, bS r5059.2.2.2.1, .own 5 0 r5059.2.2.2.2.1.length]), (2, .row 47 (fl r5059.2.2.2.2.2)), (5, .row 47 (fl r5059.2.2.2.2.1)), (0, .dead), (2, .dead)] (by simp only [push_cast, seval]) (by simp only [push_cast, seval]) (by kernel_rfl) (.inl rfl) (by simp only [push_cast, seval]) (by simp only [push_cast, seval]) ?_
                refine rs 5 [] [] (by kernel_rfl) allP_nil ?_
                refine rf [(0, iS readers), (1, iS later), (5, .ptr 0 0), (6, .clo 24 [.ptr 0 0]), (12, .own 1 0 c1q19.length), (13, iS t17), (14, bS r5059.1), (15, bS r5059.2.1)] [(0, .row 24 [iS r5059.2.2.1, bS r5059.2.2.2.1, .own 5 0 r5059.2.2.2.2.1.length]), (1, .row 3 (fl c1q19)), (2, .row 47 (fl r5059.2.2.2.2.2)), (5, .row 47 (fl r5059.2.2.2.2.1))] 6 (by kernel_rfl) ?_
                refine wk_id ?_
                refine seq_np ?_
                refine seq_cut (A := Unit) (fun _ => ([(0, iS readers), (1, iS later), (5, .ptr 0 0), (6, .clo 24 [.ptr 0 0]), (12, .own 1 0 c1q19.length), (13, iS t17), (90, bS ((!r5059.2.1) || r5059.1))], [(0, .row 24 [iS r5059.2.2.1, bS r5059.2.2.2.1, .own 5 0 r5059.2.2.2.2.1.length]), (1, .row 3 (fl c1q19)), (2, .row 47 (fl r5059.2.2.2.2.2)), (5, .row 47 (fl r5059.2.2.2.2.1))], 6)) (fun _ => True) (fun K5063 hK5063 => ?_) (fun _ _ => ?_)
                · refine reg_f ?_
                  refine rs 3 [] [] (by kernel_rfl) allP_nil ?_
                  refine run_split 88 (!r5059.2.1) (.inl (by kernel_rfl)) (fun g5064 => ?_) (fun g5064 => ?_)
                  · refine rs 2 [] [] (by kernel_rfl) allP_nil ?_
                    refine rf [(0, iS readers), (1, iS later), (5, .ptr 0 0), (6, .clo 24 [.ptr 0 0]), (12, .own 1 0 c1q19.length), (13, iS t17), (90, bS true)] [(0, .row 24 [iS r5059.2.2.1, bS r5059.2.2.2.1, .own 5 0 r5059.2.2.2.2.1.length]), (1, .row 3 (fl c1q19)), (2, .row 47 (fl r5059.2.2.2.2.2)), (5, .row 47 (fl r5059.2.2.2.2.1))] 6 (by kernel_rfl) ?_
                    exact hK5063 () _ _ _ trivial (leSt_m [(0, 0), (1, 1), (2, 2), (5, 5)] [] (by (try simp only [g5064]) <;> simp only [push_cast, seval]) (by (try simp only [g5064]) <;> simp only [push_cast, seval]) rfl rfl rfl)
                  · refine rs 2 [] [] (by kernel_rfl) allP_nil ?_
                    refine rf [(0, iS readers), (1, iS later), (5, .ptr 0 0), (6, .clo 24 [.ptr 0 0]), (12, .own 1 0 c1q19.length), (13, iS t17), (90, bS r5059.1)] [(0, .row 24 [iS r5059.2.2.1, bS r5059.2.2.2.1, .own 5 0 r5059.2.2.2.2.1.length]), (1, .row 3 (fl c1q19)), (2, .row 47 (fl r5059.2.2.2.2.2)), (5, .row 47 (fl r5059.2.2.2.2.1))] 6 (by kernel_rfl) ?_
                    exact hK5063 () _ _ _ trivial (leSt_m [(0, 0), (1, 1), (2, 2), (5, 5)] [] (by (try simp only [g5064]) <;> simp only [push_cast, seval]) (by (try simp only [g5064]) <;> simp only [push_cast, seval]) rfl rfl rfl)
                · dsimp only
                  refine cond_sx h (by kernel_rfl) (fun g5069 h => ?_) (fun g5069 h => ?_)
                  · refine seq_np ?_
                    refine reg_f ?_
                    refine rs 1 [] [] (by kernel_rfl) allP_nil ?_
                    refine rf [(4, bS false)] [(0, .row 24 [iS r5059.2.2.1, bS r5059.2.2.2.1, .own 5 0 r5059.2.2.2.2.1.length]), (1, .row 3 (fl c1q19)), (2, .row 47 (fl r5059.2.2.2.2.2)), (5, .row 47 (fl r5059.2.2.2.2.1))] 6 (by kernel_rfl) ?_
                    refine wk_id ?_
                    refine rt_cast ht5 ?_
                    obtain ⟨r0, h, e0⟩ := map_sx h
                    have e1 := hr5 r0 e0.symm
                    subst r0
                    obtain rfl := Option.some.inj h
                    refine ret_at (bS false) (by kernel_rfl) ?_
                    exact ret_e [] [] (by simp only [push_cast, seval]) (by simp only [push_cast, seval]) rfl rfl rfl
                  · refine wk_id ?_
                    refine chk_sx h (fun g5068 h => ?_)
                    refine reg_f ?_
                    have k5067 : (c1q19 ++ ([(IntKind.i64.wrap ((IntKind.i64.wrap (readers + 2)) + t17))] : List Int)).length * 8 ≤ 140737488355328 := by first | simpa only [Bool.and_eq_true, decide_eq_true_eq, bne_iff_ne, ne_eq] using g5068 | (simp at g5068 ⊢; omega)
                    refine rs 8 [none, none, none, none, none, none, some ⟨.own 7 0 (c1q19 ++ ([(IntKind.i64.wrap ((IntKind.i64.wrap (readers + 2)) + t17))] : List Int)).length, [(7, .row 3 (fl (c1q19 ++ ([(IntKind.i64.wrap ((IntKind.i64.wrap (readers + 2)) + t17))] : List Int)))), (1, .dead)], 8, [1, 6]⟩] _ (by kernel_rfl) (allP_cons (ob_app (P := Try.prog) c1q19 ([(IntKind.i64.wrap ((IntKind.i64.wrap (readers + 2)) + t17))] : List Int) 1 8 rfl (appCells (fl ([(IntKind.i64.wrap ((IntKind.i64.wrap (readers + 2)) + t17))] : List Int)) 0 (([(IntKind.i64.wrap ((IntKind.i64.wrap (readers + 2)) + t17))] : List Int).length * 1)) ([(IntKind.i64.wrap ((IntKind.i64.wrap (readers + 2)) + t17))] : List Int).length (app_own ([(IntKind.i64.wrap ((IntKind.i64.wrap (readers + 2)) + t17))] : List Int) 1 rfl) rfl (0 + ([(IntKind.i64.wrap ((IntKind.i64.wrap (readers + 2)) + t17))] : List Int).length * 1 ≤ (fl ([(IntKind.i64.wrap ((IntKind.i64.wrap (readers + 2)) + t17))] : List Int)).length) (app_own_le ([(IntKind.i64.wrap ((IntKind.i64.wrap (readers + 2)) + t17))] : List Int) 1 rfl) 3 (by kernel_rfl) (by decide) k5067 1 7 [6]) allP_nil) ?_
                    refine rf [(0, iS readers), (1, iS later), (5, .ptr 0 0), (6, .clo 24 [.ptr 0 0]), (12, .own 7 0 (c1q19 ++ ([(IntKind.i64.wrap ((IntKind.i64.wrap (readers + 2)) + t17))] : List Int)).length), (13, iS t17)] [(0, .row 24 [iS r5059.2.2.1, bS r5059.2.2.2.1, .own 5 0 r5059.2.2.2.2.1.length]), (1, .dead), (2, .row 47 (fl r5059.2.2.2.2.2)), (5, .row 47 (fl r5059.2.2.2.2.1)), (6, .row 3 (fl ([(IntKind.i64.wrap ((IntKind.i64.wrap (readers + 2)) + t17))] : List Int))), (7, .row 3 (fl (c1q19 ++ ([(IntKind.i64.wrap ((IntKind.i64.wrap (readers + 2)) + t17))] : List Int))))] 8 (by kernel_rfl) ?_
                    refine wk_id ?_
                    refine wk_id ?_
                    refine reg_f ?_
                    refine rs 3 [] [] (by kernel_rfl) allP_nil ?_
                    refine rf [(0, iS readers), (1, iS later), (5, .ptr 0 0), (6, .clo 24 [.ptr 0 0]), (12, .own 7 0 (c1q19 ++ ([(IntKind.i64.wrap ((IntKind.i64.wrap (readers + 2)) + t17))] : List Int)).length), (13, iS (IntKind.i64.wrap (t17 + 1)))] [(0, .row 24 [iS r5059.2.2.1, bS r5059.2.2.2.1, .own 5 0 r5059.2.2.2.2.1.length]), (1, .dead), (2, .row 47 (fl r5059.2.2.2.2.2)), (5, .row 47 (fl r5059.2.2.2.2.1)), (6, .row 3 (fl ([(IntKind.i64.wrap ((IntKind.i64.wrap (readers + 2)) + t17))] : List Int))), (7, .row 3 (fl (c1q19 ++ ([(IntKind.i64.wrap ((IntKind.i64.wrap (readers + 2)) + t17))] : List Int))))] 8 (by kernel_rfl) ?_
                    exact hn5 ((IntKind.i64.wrap (t17 + 1)), r5059.2.2.1, r5059.2.2.2.1, (c1q19 ++ ([(IntKind.i64.wrap ((IntKind.i64.wrap (readers + 2)) + t17))] : List Int)), r5059.2.2.2.2.1) _ _ _ (Option.some.inj h).symm (leSt_m [(0, 0), (1, 7), (2, 5)] [] (by simp only [push_cast, seval]) (by simp only [push_cast, seval]) rfl rfl rfl)
              · change R5 (.exit 2) _ _ _
                refine ex_cast hx5 (id := 2) ?_
                obtain ⟨r0, h, e0⟩ := map_sx h
                have e1 := hr5 r0 e0.symm
                subst r0
                refine wk_id ?_
                refine wk_id ?_
                refine seq_np ?_
                refine seq_np ?_
                refine reg_f ?_
                refine rs 1 [] [] (by kernel_rfl) allP_nil ?_
                refine rf [(0, iS readers), (1, iS later), (5, .ptr 0 0), (12, .own 1 0 c1q19.length), (16, iS 1)] [(0, .row 24 [iS c0_Readers21, bS c0_Writer21, .own 2 0 c2q9.length]), (1, .row 3 (fl c1q19)), (2, .row 47 (fl c2q9))] 3 (by kernel_rfl) ?_
                refine wk_id ?_
                refine block_np ?_
                refine loop_sx (S := Int × Int × Bool × (List Want)) (fun a => ([(0, iS readers), (1, iS later), (5, .ptr 0 0), (12, .own 1 0 c1q19.length), (16, iS a.1)], [(0, .row 24 [iS a.2.1, bS a.2.2.1, .own 2 0 a.2.2.2.length]), (1, .row 3 (fl c1q19)), (2, .row 47 (fl a.2.2.2))], 3)) h (leSt_m [(0, 0), (1, 1), (2, 2)] [] (by simp only [push_cast, seval]) (by simp only [push_cast, seval]) rfl rfl rfl) ?_
                rintro ⟨t23, c0_Readers27, c0_Writer27, c2q15⟩ o6 R6 h hr6 hn6 hx6 ht6
                try dsimp only at h hn6 ⊢
                unfold taskmilllaw_LockShares_l1 at h
                try dsimp only at h
                refine seq_np ?_
                refine seq_np ?_
                refine reg_f ?_
                refine rs 3 [] [] (by kernel_rfl) allP_nil ?_
                refine rf [(0, iS readers), (1, iS later), (5, .ptr 0 0), (12, .own 1 0 c1q19.length), (16, iS t23), (100, bS (decide (t23 ≤ readers)))] [(0, .row 24 [iS c0_Readers27, bS c0_Writer27, .own 2 0 c2q15.length]), (1, .row 3 (fl c1q19)), (2, .row 47 (fl c2q15))] 3 (by kernel_rfl) ?_
                refine wk_id ?_
                refine cond_sx h (by kernel_rfl) (fun g5246 h => ?_) (fun g5246 h => ?_)
                · refine wk_id ?_
                  refine seq_np ?_
                  refine block_np ?_
                  refine seq_np ?_
                  refine reg_f ?_
                  refine rs 1 [] [] (by kernel_rfl) allP_nil ?_
                  obtain ⟨r5203, hr5203, h⟩ := bind_sx h
                  refine call_x (lock_Leave_spec (Lock.mk c0_Readers27 c0_Writer27 c2q15) false r5203 hr5203) (args := [.agg [iS c0_Readers27, bS c0_Writer27, .own 2 0 c2q15.length], bS false]) (dst := (some 105)) (by kernel_rfl) [(0, .row 24 [iS c0_Readers27, bS c0_Writer27, .own 2 0 c2q15.length]), (1, .row 3 (fl c1q19)), (2, .row 47 (fl c2q15))] 3 (by kernel_rfl) [] [2] (.tup [.agg [iS r5203.1, bS r5203.2.1, .own 3 0 r5203.2.2.2.2.1.length], .own 4 0 r5203.2.2.2.2.2.length, bS r5203.2.2.1, .agg (Enc.cells r5203.2.2.2.1)]) [(3, .row 47 (fl r5203.2.2.2.2.1)), (4, .row 3 (fl r5203.2.2.2.2.2))] (by simp only [push_cast, seval]) (by simp only [push_cast, seval]) (by kernel_rfl) (.inr ⟨by simp only [push_cast, seval], by simp only [push_cast, seval]⟩) (by simp only [push_cast, seval]) (by simp only [push_cast, seval]) ?_
                  refine rs 11 [] [] (by kernel_rfl) allP_nil ?_
                  refine rf [(0, iS readers), (1, iS later), (5, .ptr 0 0), (12, .own 1 0 c1q19.length), (16, iS t23), (17, .ptr 5 0), (18, .own 4 0 r5203.2.2.2.2.2.length), (19, bS r5203.2.2.1), (20, .ptr 6 0)] [(0, .row 24 [iS c0_Readers27, bS c0_Writer27, .own 2 0 c2q15.length]), (1, .row 3 (fl c1q19)), (2, .row 47 (fl c2q15)), (3, .row 47 (fl r5203.2.2.2.2.1)), (4, .row 3 (fl r5203.2.2.2.2.2)), (5, .row 24 [iS r5203.1, bS r5203.2.1, .own 3 0 r5203.2.2.2.2.1.length]), (6, .row 28 (Enc.cells r5203.2.2.2.1))] 7 (by kernel_rfl) ?_
                  refine wk_id ?_
                  refine seq_np ?_
                  refine seq_cut (A := Bool × Int × Bool × (List Want)) (fun a => ([(0, iS readers), (1, iS later), (5, .ptr 0 0), (12, .own 1 0 c1q19.length), (16, iS t23), (17, .ptr 2 0), (138, bS a.1)], [(0, .row 24 [iS c0_Readers27, bS c0_Writer27, .own 3 0 c2q15.length]), (1, .row 3 (fl c1q19)), (2, .row 24 [iS a.2.1, bS a.2.2.1, .own 4 0 a.2.2.2.length]), (3, .row 47 (fl c2q15)), (4, .row 47 (fl a.2.2.2))], 5)) (fun a => (taskmilllaw_LockShares_j1 readers later c1q19 t23 c0_Readers27 c0_Writer27 c2q15 a.1 a.2.1 a.2.2.1 a.2.2.2) = some o6) (fun K5224 hK5224 => ?_) ?_
                  · refine reg_f ?_
                    refine rs 4 [] [] (by kernel_rfl) allP_nil ?_
                    refine run_br h 113 (.inl (by kernel_rfl)) (fun g5225 h => ?_) (fun g5225 h => ?_)
                    · refine rs 25 [] [] (by kernel_rfl) allP_nil ?_
                      refine rf [(0, iS readers), (1, iS later), (5, .ptr 0 0), (12, .own 1 0 c1q19.length), (16, iS t23), (17, .ptr 5 0), (138, bS true)] [(0, .row 24 [iS c0_Readers27, bS c0_Writer27, .own 2 0 c2q15.length]), (1, .row 3 (fl c1q19)), (2, .row 47 (fl c2q15)), (3, .row 47 (fl r5203.2.2.2.2.1)), (4, .row 3 (fl r5203.2.2.2.2.2)), (5, .row 24 [iS r5203.1, bS r5203.2.1, .own 3 0 r5203.2.2.2.2.1.length]), (6, .row 28 (Enc.cells r5203.2.2.2.1))] 7 (by kernel_rfl) ?_
                      exact hK5224 (true, r5203.1, r5203.2.1, r5203.2.2.2.2.1) _ _ _ h (leSt_m [(0, 0), (1, 1), (2, 5), (3, 2), (4, 3)] [] (by (try simp only [g5225]) <;> simp only [push_cast, seval]) (by (try simp only [g5225]) <;> simp only [push_cast, seval]) rfl rfl rfl)
                    · refine rs 3 [] [] (by kernel_rfl) allP_nil ?_
                      refine run_br h 116 (.inl (by kernel_rfl)) (fun g5226 h => ?_) (fun g5226 h => ?_)
                      · refine rs 22 [] [] (by kernel_rfl) allP_nil ?_
                        refine rf [(0, iS readers), (1, iS later), (5, .ptr 0 0), (12, .own 1 0 c1q19.length), (16, iS t23), (17, .ptr 5 0), (138, bS true)] [(0, .row 24 [iS c0_Readers27, bS c0_Writer27, .own 2 0 c2q15.length]), (1, .row 3 (fl c1q19)), (2, .row 47 (fl c2q15)), (3, .row 47 (fl r5203.2.2.2.2.1)), (4, .row 3 (fl r5203.2.2.2.2.2)), (5, .row 24 [iS r5203.1, bS r5203.2.1, .own 3 0 r5203.2.2.2.2.1.length]), (6, .row 28 (Enc.cells r5203.2.2.2.1))] 7 (by kernel_rfl) ?_
                        exact hK5224 (true, r5203.1, r5203.2.1, r5203.2.2.2.2.1) _ _ _ h (leSt_m [(0, 0), (1, 1), (2, 5), (3, 2), (4, 3)] [] (by first | ((try simp only [g5225, g5226]) <;> simp only [push_cast, seval]; done) | ((try simp only [g5225]); (try simp only [g5226]); simp only [push_cast, seval]; done) | (exfalso; clear h; simp_all; done)) (by first | ((try simp only [g5225, g5226]) <;> simp only [push_cast, seval]; done) | ((try simp only [g5225]); (try simp only [g5226]); simp only [push_cast, seval]; done) | (exfalso; clear h; simp_all; done)) rfl rfl rfl)
                      · refine rs 4 [] [] (by kernel_rfl) allP_nil ?_
                        refine run_br h 120 (.inr (by kernel_rfl)) (fun g5227 h => ?_) (fun g5227 h => ?_)
                        · refine rn 11 [(0, iS readers), (1, iS later), (5, .ptr 0 0), (12, .own 1 0 c1q19.length), (16, iS t23), (17, .ptr 5 0), (18, .own 4 0 r5203.2.2.2.2.2.length), (116, bS false), (120, .gd true (bS true))] [(0, .row 24 [iS c0_Readers27, bS c0_Writer27, .own 2 0 c2q15.length]), (1, .row 3 (fl c1q19)), (2, .row 47 (fl c2q15)), (3, .row 47 (fl r5203.2.2.2.2.1)), (4, .row 3 (fl r5203.2.2.2.2.2)), (5, .row 24 [iS r5203.1, bS r5203.2.1, .own 3 0 r5203.2.2.2.2.1.length]), (6, .row 28 (Enc.cells r5203.2.2.2.1))] 7 (by kernel_rfl) ?_
                          refine rs 6 [] [] (by kernel_rfl) allP_nil ?_
                          refine run_br h 126 (.inl (by kernel_rfl)) (fun g5228 h => ?_) (fun g5228 h => ?_)
                          · refine rs 12 [] [] (by kernel_rfl) allP_nil ?_
                            refine rf [(0, iS readers), (1, iS later), (5, .ptr 0 0), (12, .own 1 0 c1q19.length), (16, iS t23), (17, .ptr 5 0), (138, bS true)] [(0, .row 24 [iS c0_Readers27, bS c0_Writer27, .own 2 0 c2q15.length]), (1, .row 3 (fl c1q19)), (2, .row 47 (fl c2q15)), (3, .row 47 (fl r5203.2.2.2.2.1)), (4, .row 3 (fl r5203.2.2.2.2.2)), (5, .row 24 [iS r5203.1, bS r5203.2.1, .own 3 0 r5203.2.2.2.2.1.length]), (6, .row 28 (Enc.cells r5203.2.2.2.1))] 7 (by kernel_rfl) ?_
                            exact hK5224 (true, r5203.1, r5203.2.1, r5203.2.2.2.2.1) _ _ _ h (leSt_m [(0, 0), (1, 1), (2, 5), (3, 2), (4, 3)] [] (by first | ((try simp only [g5225, g5226, g5227, g5228]) <;> simp only [push_cast, seval]; done) | ((try simp only [g5225]); (try simp only [g5226]); (try simp only [g5227]); (try simp only [g5228]); simp only [push_cast, seval]; done) | (exfalso; clear h; simp_all; done)) (by first | ((try simp only [g5225, g5226, g5227, g5228]) <;> simp only [push_cast, seval]; done) | ((try simp only [g5225]); (try simp only [g5226]); (try simp only [g5227]); (try simp only [g5228]); simp only [push_cast, seval]; done) | (exfalso; clear h; simp_all; done)) rfl rfl rfl)
                          · refine rs 4 [] [] (by kernel_rfl) allP_nil ?_
                            refine run_br h 130 (.inr (by kernel_rfl)) (fun g5229 h => ?_) (fun g5229 h => ?_)
                            · refine rs 4 [] [] (by kernel_rfl) allP_nil ?_
                              obtain ⟨r5230, hr5230, h⟩ := bind_sx h
                              refine call_x (taskmillref_Ints_spec r5203.2.2.2.2.2 ([(IntKind.i64.wrap (readers + 1))] : List Int) r5230 hr5230) (args := [.own 4 0 r5203.2.2.2.2.2.length, .own 7 0 ([(IntKind.i64.wrap (readers + 1))] : List Int).length]) (dst := (some 135)) (by kernel_rfl) [(0, .row 24 [iS c0_Readers27, bS c0_Writer27, .own 2 0 c2q15.length]), (1, .row 3 (fl c1q19)), (2, .row 47 (fl c2q15)), (3, .row 47 (fl r5203.2.2.2.2.1)), (4, .row 3 (fl r5203.2.2.2.2.2)), (5, .row 24 [iS r5203.1, bS r5203.2.1, .own 3 0 r5203.2.2.2.2.1.length]), (6, .row 28 (Enc.cells r5203.2.2.2.1)), (7, .row 3 (fl ([(IntKind.i64.wrap (readers + 1))] : List Int)))] 8 (by kernel_rfl) [] [4, 7] (bS r5230) [] (by simp only [push_cast, seval]) (by simp only [push_cast, seval]) (by kernel_rfl) (.inr ⟨by simp only [push_cast, seval], by simp only [push_cast, seval]⟩) (by simp only [push_cast, seval]) (by simp only [push_cast, seval]) ?_
                              refine rn 26 [(0, iS readers), (1, iS later), (5, .ptr 0 0), (12, .own 1 0 c1q19.length), (16, iS t23), (17, .ptr 5 0), (126, bS false), (130, .gd true (bS true)), (135, bS r5230)] [(0, .row 24 [iS c0_Readers27, bS c0_Writer27, .own 2 0 c2q15.length]), (1, .row 3 (fl c1q19)), (2, .row 47 (fl c2q15)), (3, .row 47 (fl r5203.2.2.2.2.1)), (4, .row 3 (fl r5203.2.2.2.2.2)), (5, .row 24 [iS r5203.1, bS r5203.2.1, .own 3 0 r5203.2.2.2.2.1.length]), (6, .row 28 (Enc.cells r5203.2.2.2.1)), (7, .row 3 (fl ([(IntKind.i64.wrap (readers + 1))] : List Int)))] 8 (by kernel_rfl) ?_
                              refine rs 3 [] [] (by kernel_rfl) allP_nil ?_
                              refine rf [(0, iS readers), (1, iS later), (5, .ptr 0 0), (12, .own 1 0 c1q19.length), (16, iS t23), (17, .ptr 5 0), (138, bS (!r5230))] [(0, .row 24 [iS c0_Readers27, bS c0_Writer27, .own 2 0 c2q15.length]), (1, .row 3 (fl c1q19)), (2, .row 47 (fl c2q15)), (3, .row 47 (fl r5203.2.2.2.2.1)), (4, .row 3 (fl r5203.2.2.2.2.2)), (5, .row 24 [iS r5203.1, bS r5203.2.1, .own 3 0 r5203.2.2.2.2.1.length]), (6, .row 28 (Enc.cells r5203.2.2.2.1)), (7, .row 3 (fl ([(IntKind.i64.wrap (readers + 1))] : List Int)))] 8 (by kernel_rfl) ?_
                              exact hK5224 ((!r5230), r5203.1, r5203.2.1, r5203.2.2.2.2.1) _ _ _ h (leSt_m [(0, 0), (1, 1), (2, 5), (3, 2), (4, 3)] [] (by first | ((try simp only [g5225, g5226, g5227, g5228, g5229]) <;> simp only [push_cast, seval]; done) | ((try simp only [g5225]); (try simp only [g5226]); (try simp only [g5227]); (try simp only [g5228]); (try simp only [g5229]); simp only [push_cast, seval]; done) | (exfalso; clear h; simp_all; done)) (by first | ((try simp only [g5225, g5226, g5227, g5228, g5229]) <;> simp only [push_cast, seval]; done) | ((try simp only [g5225]); (try simp only [g5226]); (try simp only [g5227]); (try simp only [g5228]); (try simp only [g5229]); simp only [push_cast, seval]; done) | (exfalso; clear h; simp_all; done)) rfl rfl rfl)
                            · refine rs 8 [] [] (by kernel_rfl) allP_nil ?_
                              refine rf [(0, iS readers), (1, iS later), (5, .ptr 0 0), (12, .own 1 0 c1q19.length), (16, iS t23), (17, .ptr 5 0), (138, bS false)] [(0, .row 24 [iS c0_Readers27, bS c0_Writer27, .own 2 0 c2q15.length]), (1, .row 3 (fl c1q19)), (2, .row 47 (fl c2q15)), (3, .row 47 (fl r5203.2.2.2.2.1)), (4, .row 3 (fl r5203.2.2.2.2.2)), (5, .row 24 [iS r5203.1, bS r5203.2.1, .own 3 0 r5203.2.2.2.2.1.length]), (6, .row 28 (Enc.cells r5203.2.2.2.1))] 7 (by kernel_rfl) ?_
                              exact hK5224 (false, r5203.1, r5203.2.1, r5203.2.2.2.2.1) _ _ _ h (leSt_m [(0, 0), (1, 1), (2, 5), (3, 2), (4, 3)] [] (by first | ((try simp only [g5225, g5226, g5227, g5228, g5229]) <;> simp only [push_cast, seval]; done) | ((try simp only [g5225]); (try simp only [g5226]); (try simp only [g5227]); (try simp only [g5228]); (try simp only [g5229]); simp only [push_cast, seval]; done) | (exfalso; clear h; simp_all; done)) (by first | ((try simp only [g5225, g5226, g5227, g5228, g5229]) <;> simp only [push_cast, seval]; done) | ((try simp only [g5225]); (try simp only [g5226]); (try simp only [g5227]); (try simp only [g5228]); (try simp only [g5229]); simp only [push_cast, seval]; done) | (exfalso; clear h; simp_all; done)) rfl rfl rfl)
                        · refine rn 11 [(0, iS readers), (1, iS later), (5, .ptr 0 0), (12, .own 1 0 c1q19.length), (16, iS t23), (17, .ptr 5 0), (18, .own 4 0 r5203.2.2.2.2.2.length), (116, bS false), (120, .gd true (bS false))] [(0, .row 24 [iS c0_Readers27, bS c0_Writer27, .own 2 0 c2q15.length]), (1, .row 3 (fl c1q19)), (2, .row 47 (fl c2q15)), (3, .row 47 (fl r5203.2.2.2.2.1)), (4, .row 3 (fl r5203.2.2.2.2.2)), (5, .row 24 [iS r5203.1, bS r5203.2.1, .own 3 0 r5203.2.2.2.2.1.length]), (6, .row 28 (Enc.cells r5203.2.2.2.1))] 7 (by kernel_rfl) ?_
                          refine rs 10 [] [] (by kernel_rfl) allP_nil ?_
                          refine run_br h 130 (.inr (by kernel_rfl)) (fun g5231 h => ?_) (fun g5231 h => ?_)
                          · refine rs 4 [] [] (by kernel_rfl) allP_nil ?_
                            obtain ⟨r5232, hr5232, h⟩ := bind_sx h
                            refine call_x (taskmillref_Ints_spec r5203.2.2.2.2.2 ([(IntKind.i64.wrap (readers + 1))] : List Int) r5232 hr5232) (args := [.own 4 0 r5203.2.2.2.2.2.length, .own 7 0 ([(IntKind.i64.wrap (readers + 1))] : List Int).length]) (dst := (some 135)) (by kernel_rfl) [(0, .row 24 [iS c0_Readers27, bS c0_Writer27, .own 2 0 c2q15.length]), (1, .row 3 (fl c1q19)), (2, .row 47 (fl c2q15)), (3, .row 47 (fl r5203.2.2.2.2.1)), (4, .row 3 (fl r5203.2.2.2.2.2)), (5, .row 24 [iS r5203.1, bS r5203.2.1, .own 3 0 r5203.2.2.2.2.1.length]), (6, .row 28 (Enc.cells r5203.2.2.2.1)), (7, .row 3 (fl ([(IntKind.i64.wrap (readers + 1))] : List Int)))] 8 (by kernel_rfl) [] [4, 7] (bS r5232) [] (by simp only [push_cast, seval]) (by simp only [push_cast, seval]) (by kernel_rfl) (.inr ⟨by simp only [push_cast, seval], by simp only [push_cast, seval]⟩) (by simp only [push_cast, seval]) (by simp only [push_cast, seval]) ?_
                            refine rs 3 [] [] (by kernel_rfl) allP_nil ?_
                            refine rf [(0, iS readers), (1, iS later), (5, .ptr 0 0), (12, .own 1 0 c1q19.length), (16, iS t23), (17, .ptr 5 0), (138, bS (!r5232))] [(0, .row 24 [iS c0_Readers27, bS c0_Writer27, .own 2 0 c2q15.length]), (1, .row 3 (fl c1q19)), (2, .row 47 (fl c2q15)), (3, .row 47 (fl r5203.2.2.2.2.1)), (4, .row 3 (fl r5203.2.2.2.2.2)), (5, .row 24 [iS r5203.1, bS r5203.2.1, .own 3 0 r5203.2.2.2.2.1.length]), (6, .row 28 (Enc.cells r5203.2.2.2.1)), (7, .row 3 (fl ([(IntKind.i64.wrap (readers + 1))] : List Int)))] 8 (by kernel_rfl) ?_
                            exact hK5224 ((!r5232), r5203.1, r5203.2.1, r5203.2.2.2.2.1) _ _ _ h (leSt_m [(0, 0), (1, 1), (2, 5), (3, 2), (4, 3)] [] (by first | ((try simp only [g5225, g5226, g5227, g5231]) <;> simp only [push_cast, seval]; done) | ((try simp only [g5225]); (try simp only [g5226]); (try simp only [g5227]); (try simp only [g5231]); simp only [push_cast, seval]; done) | (exfalso; clear h; simp_all; done)) (by first | ((try simp only [g5225, g5226, g5227, g5231]) <;> simp only [push_cast, seval]; done) | ((try simp only [g5225]); (try simp only [g5226]); (try simp only [g5227]); (try simp only [g5231]); simp only [push_cast, seval]; done) | (exfalso; clear h; simp_all; done)) rfl rfl rfl)
                          · refine rs 8 [] [] (by kernel_rfl) allP_nil ?_
                            refine rf [(0, iS readers), (1, iS later), (5, .ptr 0 0), (12, .own 1 0 c1q19.length), (16, iS t23), (17, .ptr 5 0), (138, bS false)] [(0, .row 24 [iS c0_Readers27, bS c0_Writer27, .own 2 0 c2q15.length]), (1, .row 3 (fl c1q19)), (2, .row 47 (fl c2q15)), (3, .row 47 (fl r5203.2.2.2.2.1)), (4, .row 3 (fl r5203.2.2.2.2.2)), (5, .row 24 [iS r5203.1, bS r5203.2.1, .own 3 0 r5203.2.2.2.2.1.length]), (6, .row 28 (Enc.cells r5203.2.2.2.1))] 7 (by kernel_rfl) ?_
                            exact hK5224 (false, r5203.1, r5203.2.1, r5203.2.2.2.2.1) _ _ _ h (leSt_m [(0, 0), (1, 1), (2, 5), (3, 2), (4, 3)] [] (by first | ((try simp only [g5225, g5226, g5227, g5231]) <;> simp only [push_cast, seval]; done) | ((try simp only [g5225]); (try simp only [g5226]); (try simp only [g5227]); (try simp only [g5231]); simp only [push_cast, seval]; done) | (exfalso; clear h; simp_all; done)) (by first | ((try simp only [g5225, g5226, g5227, g5231]) <;> simp only [push_cast, seval]; done) | ((try simp only [g5225]); (try simp only [g5226]); (try simp only [g5227]); (try simp only [g5231]); simp only [push_cast, seval]; done) | (exfalso; clear h; simp_all; done)) rfl rfl rfl)
                  · rintro ⟨t138q14, c2_Readers14, c2_Writer14, c4q14⟩ h
                    try dsimp only at h ⊢
                    unfold taskmilllaw_LockShares_j1 at h
                    refine cond_sx h (by kernel_rfl) (fun g5233 h => ?_) (fun g5233 h => ?_)
                    · refine seq_np ?_
                      refine reg_f ?_
                      refine rs 1 [] [] (by kernel_rfl) allP_nil ?_
                      refine rf [(4, bS false)] [(0, .row 24 [iS c0_Readers27, bS c0_Writer27, .own 3 0 c2q15.length]), (1, .row 3 (fl c1q19)), (2, .row 24 [iS c2_Readers14, bS c2_Writer14, .own 4 0 c4q14.length]), (3, .row 47 (fl c2q15)), (4, .row 47 (fl c4q14))] 5 (by kernel_rfl) ?_
                      refine wk_id ?_
                      refine rt_cast ht6 ?_
                      obtain ⟨r0, h, e0⟩ := map_sx h
                      have e1 := hr6 r0 e0.symm
                      subst r0
                      obtain rfl := Option.some.inj h
                      refine ret_at (bS false) (by kernel_rfl) ?_
                      exact ret_e [] [] (by simp only [push_cast, seval]) (by simp only [push_cast, seval]) rfl rfl rfl
                    · refine wk_id ?_
                      refine reg_f ?_
                      refine rs 2 [] [] (by kernel_rfl) allP_nil ?_
                      refine rf [(0, iS readers), (1, iS later), (5, .ptr 0 0), (12, .own 1 0 c1q19.length), (16, iS t23)] [(0, .row 24 [iS c2_Readers14, bS c2_Writer14, .own 4 0 c4q14.length]), (1, .row 3 (fl c1q19)), (2, .row 24 [iS c2_Readers14, bS c2_Writer14, .own 4 0 c4q14.length]), (3, .row 47 (fl c2q15)), (4, .row 47 (fl c4q14))] 5 (by kernel_rfl) ?_
                      refine wk_id ?_
                      refine wk_id ?_
                      refine reg_f ?_
                      refine rs 3 [] [] (by kernel_rfl) allP_nil ?_
                      refine rf [(0, iS readers), (1, iS later), (5, .ptr 0 0), (12, .own 1 0 c1q19.length), (16, iS (IntKind.i64.wrap (t23 + 1)))] [(0, .row 24 [iS c2_Readers14, bS c2_Writer14, .own 4 0 c4q14.length]), (1, .row 3 (fl c1q19)), (2, .row 24 [iS c2_Readers14, bS c2_Writer14, .own 4 0 c4q14.length]), (3, .row 47 (fl c2q15)), (4, .row 47 (fl c4q14))] 5 (by kernel_rfl) ?_
                      exact hn6 ((IntKind.i64.wrap (t23 + 1)), c2_Readers14, c2_Writer14, c4q14) _ _ _ (Option.some.inj h).symm (leSt_m [(0, 0), (1, 1), (2, 4)] [] (by simp only [push_cast, seval]) (by simp only [push_cast, seval]) rfl rfl rfl)
                · change R6 (.exit 4) _ _ _
                  refine ex_cast hx6 (id := 4) ?_
                  obtain ⟨r0, h, e0⟩ := map_sx h
                  have e1 := hr6 r0 e0.symm
                  subst r0
                  refine wk_id ?_
                  refine wk_id ?_
                  refine seq_np ?_
                  refine reg_f ?_
                  refine rs 1 [] [] (by kernel_rfl) allP_nil ?_
                  obtain ⟨r5235, hr5235, h⟩ := bind_sx h
                  refine call_x (lock_Leave_spec (Lock.mk c0_Readers27 c0_Writer27 c2q15) true r5235 hr5235) (args := [.agg [iS c0_Readers27, bS c0_Writer27, .own 2 0 c2q15.length], bS true]) (dst := (some 142)) (by kernel_rfl) [(0, .row 24 [iS c0_Readers27, bS c0_Writer27, .own 2 0 c2q15.length]), (1, .row 3 (fl c1q19)), (2, .row 47 (fl c2q15))] 3 (by kernel_rfl) [] [2] (.tup [.agg [iS r5235.1, bS r5235.2.1, .own 3 0 r5235.2.2.2.2.1.length], .own 4 0 r5235.2.2.2.2.2.length, bS r5235.2.2.1, .agg (Enc.cells r5235.2.2.2.1)]) [(3, .row 47 (fl r5235.2.2.2.2.1)), (4, .row 3 (fl r5235.2.2.2.2.2))] (by simp only [push_cast, seval]) (by simp only [push_cast, seval]) (by kernel_rfl) (.inr ⟨by simp only [push_cast, seval], by simp only [push_cast, seval]⟩) (by simp only [push_cast, seval]) (by simp only [push_cast, seval]) ?_
                  refine rs 11 [] [] (by kernel_rfl) allP_nil ?_
                  refine rf [(1, iS later), (12, .own 1 0 c1q19.length), (21, .ptr 5 0), (22, .own 4 0 r5235.2.2.2.2.2.length), (23, bS r5235.2.2.1), (24, .ptr 6 0)] [(0, .row 24 [iS c0_Readers27, bS c0_Writer27, .own 2 0 c2q15.length]), (1, .row 3 (fl c1q19)), (2, .row 47 (fl c2q15)), (3, .row 47 (fl r5235.2.2.2.2.1)), (4, .row 3 (fl r5235.2.2.2.2.2)), (5, .row 24 [iS r5235.1, bS r5235.2.1, .own 3 0 r5235.2.2.2.2.1.length]), (6, .row 28 (Enc.cells r5235.2.2.2.1))] 7 (by kernel_rfl) ?_
                  refine wk_id ?_
                  refine seq_cut (A := Bool) (fun a => ([(4, bS a)], [], 0)) (fun a => (taskmilllaw_LockShares_j2 a) = some r) (fun K5241 hK5241 => ?_) ?_
                  · refine reg_f ?_
                    refine rs 4 [] [] (by kernel_rfl) allP_nil ?_
                    refine run_br h 150 (.inl (by kernel_rfl)) (fun g5242 h => ?_) (fun g5242 h => ?_)
                    · refine rs 4 [] [] (by kernel_rfl) allP_nil ?_
                      refine run_br h 154 (.inl (by kernel_rfl)) (fun g5243 h => ?_) (fun g5243 h => ?_)
                      · refine rs 2 [] [] (by kernel_rfl) allP_nil ?_
                        obtain ⟨r5244, hr5244, h⟩ := bind_sx h
                        refine call_x (taskmillref_Ints_spec r5235.2.2.2.2.2 c1q19 r5244 hr5244) (args := [.own 4 0 r5235.2.2.2.2.2.length, .own 1 0 c1q19.length]) (dst := (some 157)) (by kernel_rfl) [(0, .row 24 [iS c0_Readers27, bS c0_Writer27, .own 2 0 c2q15.length]), (1, .row 3 (fl c1q19)), (2, .row 47 (fl c2q15)), (3, .row 47 (fl r5235.2.2.2.2.1)), (4, .row 3 (fl r5235.2.2.2.2.2)), (5, .row 24 [iS r5235.1, bS r5235.2.1, .own 3 0 r5235.2.2.2.2.1.length]), (6, .row 28 (Enc.cells r5235.2.2.2.1))] 7 (by kernel_rfl) [] [1, 4] (bS r5244) [] (by simp only [push_cast, seval]) (by simp only [push_cast, seval]) (by kernel_rfl) (.inr ⟨by simp only [push_cast, seval], by simp only [push_cast, seval]⟩) (by simp only [push_cast, seval]) (by simp only [push_cast, seval]) ?_
                        refine rn 11 [(1, iS later), (21, .ptr 5 0), (154, bS true), (157, bS r5244)] [(0, .row 24 [iS c0_Readers27, bS c0_Writer27, .own 2 0 c2q15.length]), (1, .row 3 (fl c1q19)), (2, .row 47 (fl c2q15)), (3, .row 47 (fl r5235.2.2.2.2.1)), (4, .row 3 (fl r5235.2.2.2.2.2)), (5, .row 24 [iS r5235.1, bS r5235.2.1, .own 3 0 r5235.2.2.2.2.1.length]), (6, .row 28 (Enc.cells r5235.2.2.2.1))] 7 (by kernel_rfl) ?_
                        refine rs 2 [] [] (by kernel_rfl) allP_nil ?_
                        refine run_br h 159 (.inl (by kernel_rfl)) (fun g5245 h => ?_) (fun g5245 h => ?_)
                        · refine rs 6 [] [] (by kernel_rfl) allP_nil ?_
                          refine rf [(4, bS (r5235.1 == later))] [(0, .row 24 [iS c0_Readers27, bS c0_Writer27, .own 2 0 c2q15.length]), (1, .row 3 (fl c1q19)), (2, .row 47 (fl c2q15)), (3, .row 47 (fl r5235.2.2.2.2.1)), (4, .row 3 (fl r5235.2.2.2.2.2)), (5, .row 24 [iS r5235.1, bS r5235.2.1, .own 3 0 r5235.2.2.2.2.1.length]), (6, .row 28 (Enc.cells r5235.2.2.2.1))] 7 (by kernel_rfl) ?_
                          exact hK5241 ((r5235.1 == later)) _ _ _ h (leSt_m [] [] (by first | ((try simp only [g5242, g5243, g5245]) <;> simp only [push_cast, seval]; done) | ((try simp only [g5242]); (try simp only [g5243]); (try simp only [g5245]); simp only [push_cast, seval]; done) | (exfalso; clear h; simp_all; done)) (by first | ((try simp only [g5242, g5243, g5245]) <;> simp only [push_cast, seval]; done) | ((try simp only [g5242]); (try simp only [g5243]); (try simp only [g5245]); simp only [push_cast, seval]; done) | (exfalso; clear h; simp_all; done)) rfl rfl rfl)
                        · refine rs 6 [] [] (by kernel_rfl) allP_nil ?_
                          refine rf [(4, bS false)] [(0, .row 24 [iS c0_Readers27, bS c0_Writer27, .own 2 0 c2q15.length]), (1, .row 3 (fl c1q19)), (2, .row 47 (fl c2q15)), (3, .row 47 (fl r5235.2.2.2.2.1)), (4, .row 3 (fl r5235.2.2.2.2.2)), (5, .row 24 [iS r5235.1, bS r5235.2.1, .own 3 0 r5235.2.2.2.2.1.length]), (6, .row 28 (Enc.cells r5235.2.2.2.1))] 7 (by kernel_rfl) ?_
                          exact hK5241 (false) _ _ _ h (leSt_m [] [] (by first | ((try simp only [g5242, g5243, g5245]) <;> simp only [push_cast, seval]; done) | ((try simp only [g5242]); (try simp only [g5243]); (try simp only [g5245]); simp only [push_cast, seval]; done) | (exfalso; clear h; simp_all; done)) (by first | ((try simp only [g5242, g5243, g5245]) <;> simp only [push_cast, seval]; done) | ((try simp only [g5242]); (try simp only [g5243]); (try simp only [g5245]); simp only [push_cast, seval]; done) | (exfalso; clear h; simp_all; done)) rfl rfl rfl)
                      · refine rs 11 [] [] (by kernel_rfl) allP_nil ?_
                        refine rf [(4, bS false)] [(0, .row 24 [iS c0_Readers27, bS c0_Writer27, .own 2 0 c2q15.length]), (1, .row 3 (fl c1q19)), (2, .row 47 (fl c2q15)), (3, .row 47 (fl r5235.2.2.2.2.1)), (4, .row 3 (fl r5235.2.2.2.2.2)), (5, .row 24 [iS r5235.1, bS r5235.2.1, .own 3 0 r5235.2.2.2.2.1.length]), (6, .row 28 (Enc.cells r5235.2.2.2.1))] 7 (by kernel_rfl) ?_
                        exact hK5241 (false) _ _ _ h (leSt_m [] [] (by first | ((try simp only [g5242, g5243]) <;> simp only [push_cast, seval]; done) | ((try simp only [g5242]); (try simp only [g5243]); simp only [push_cast, seval]; done) | (exfalso; clear h; simp_all; done)) (by first | ((try simp only [g5242, g5243]) <;> simp only [push_cast, seval]; done) | ((try simp only [g5242]); (try simp only [g5243]); simp only [push_cast, seval]; done) | (exfalso; clear h; simp_all; done)) rfl rfl rfl)
                    · refine rs 15 [] [] (by kernel_rfl) allP_nil ?_
                      refine rf [(4, bS false)] [(0, .row 24 [iS c0_Readers27, bS c0_Writer27, .own 2 0 c2q15.length]), (1, .row 3 (fl c1q19)), (2, .row 47 (fl c2q15)), (3, .row 47 (fl r5235.2.2.2.2.1)), (4, .row 3 (fl r5235.2.2.2.2.2)), (5, .row 24 [iS r5235.1, bS r5235.2.1, .own 3 0 r5235.2.2.2.2.1.length]), (6, .row 28 (Enc.cells r5235.2.2.2.1))] 7 (by kernel_rfl) ?_
                      exact hK5241 (false) _ _ _ h (leSt_m [] [] (by (try simp only [g5242]) <;> simp only [push_cast, seval]) (by (try simp only [g5242]) <;> simp only [push_cast, seval]) rfl rfl rfl)
                  · rintro t4q1 h
                    try dsimp only at h ⊢
                    unfold taskmilllaw_LockShares_j2 at h
                    obtain rfl := Option.some.inj h
                    refine ret_at (bS t4q1) (by kernel_rfl) ?_
                    exact ret_e [] [] (by simp only [push_cast, seval]) (by simp only [push_cast, seval]) rfl rfl rfl

end Go.Proofs.Ythknjjkldflbaaa
