/-
  What laws of the chapter utfd compute, and lemmas on it.
  No conditions.
-/
import Derived.Test.YtbnhbaehapalnaaDoorutfdP5
set_option linter.unusedSimpArgs false
set_option linter.unusedVariables false
namespace Go.Proofs.YtbnhbaehapalnaaDoor
open Go Go.Sx
/-! ### Valid texts -/
def isBad (s : ByteArray) (k : Nat) : Bool := decide (Utf8.decode s (pos s k) = (65533, 1))
theorem bad_fits (s : ByteArray) (i : Nat) (hi : i < s.size) : Utf8.decode s i = (65533, 1) ↔ ∀ q, 1 ≤ q → q ≤ 4 → i + q ≤ s.size → ¬ fits s i q (num s i q) := by
  constructor
  · intro hd q h1 h2 h3 hf
    have := fits_dec s i q _ h1 h2 h3 hf
    rw [hd] at this
    have hq : q = 1 := (Prod.mk.inj this).2.symm
    have hn : (num s i q).toNat = 65533 := (Prod.mk.inj this).1.symm
    have hr := (isL_iff _).1 hf.1
    have e : num s i q = 65533 := by omega
    have hb := hf.2
    rw [e, hq] at hb
    simp [bo, bytes] at hb
  · intro h
    rcases dec_fits s i hi with hd | ⟨m, h1, h2, h3, hf⟩
    · exact hd
    · exact absurd hf (h m h1 h2 h3)
theorem letter_bad (s : ByteArray) (i : Nat) (hi : i < s.size) (hs : s.size ≤ 1000000) : ∃ m : Nat, taskmillref_LetterAt s (i : Int) = some ((((Utf8.decode s i).1 : Nat) : Int), (m : Int)) ∧ ((m = 0 ∧ wid s i = 1 ∧ Utf8.decode s i = (65533, 1)) ∨ (0 < m ∧ m = wid s i ∧ Utf8.decode s i ≠ (65533, 1))) := by
  obtain ⟨m, h1, h2⟩ := letter_eq s i hi hs
  refine ⟨m, h1, ?_⟩
  rcases h2 with ⟨h3, h4, h5⟩ | ⟨h3, h4, h5⟩
  · exact .inl ⟨h3, h4, (bad_fits s i hi).2 h5⟩
  · refine .inr ⟨h3, h4, fun hd => ?_⟩
    rw [hd] at h5
    have hw : wid s i = 1 := by rw [wid, hd]
    rw [h4, hw] at h5
    have hb := h5.2
    simp [bo, bytes] at hb
def badAt (s : ByteArray) (k : Nat) : Int := match firstIf (isBad s) k with
  | some j => ((pos s j : Nat) : Int)
  | none => -1
theorem firstIf_succ (p : Nat → Bool) (n : Nat) : firstIf p (n + 1) = match firstIf p n with
    | some i => some i
    | none => if p n = true then some n else none := by
  cases h : firstIf p n with
  | some i =>
    obtain ⟨h1, h2, h3⟩ := firstIf_some h
    cases h' : firstIf p (n + 1) with
    | none => have := firstIf_none.1 h' i (by omega); rw [h2] at this; cases this
    | some j =>
      obtain ⟨g1, g2, g3⟩ := firstIf_some h'
      simp only [Option.some.injEq]
      rcases Nat.lt_trichotomy i j with hl | hl | hl
      · have := g3 i hl; rw [h2] at this; cases this
      · exact hl.symm
      · have := h3 j hl; rw [g2] at this; cases this
  | none =>
    have hn := firstIf_none.1 h
    simp only
    cases h' : firstIf p (n + 1) with
    | none => rw [if_neg (by rw [firstIf_none.1 h' n (by omega)]; simp)]
    | some j =>
      obtain ⟨g1, g2, g3⟩ := firstIf_some h'
      have : j = n := by
        rcases Nat.lt_or_ge j n with hl | hl
        · have := hn j hl; rw [g2] at this; cases this
        · omega
      subst this
      rw [if_pos g2]
theorem read_bad (s : ByteArray) (hs : s.size ≤ 1000000) : taskmillref_Read s = some (badAt s (count s), (List.range (count s)).map (item s)) := by
  have hc := count_le s
  have := loopO_all (step := taskmillref_Read_l1 s) (fun k => (badAt s k, ((pos s k : Nat) : Int), (List.range k).map (item s))) (some (badAt s (count s), (List.range (count s)).map (item s))) (count s) (fun k hlt => ?_) ?_
  · unfold taskmillref_Read
    have h0 : badAt s 0 = -1 := rfl
    simpa [h0, pos] using this
  · have hp := count_lt s hlt
    have hw := wid_le s (pos s k) hp
    have hw1 := wid_pos s (pos s k)
    have h1 : ((pos s k : Nat) : Int) < ((s.size : Nat) : Int) := by omega
    obtain ⟨m, he, hm⟩ := letter_bad s (pos s k) hp hs
    have hb : ((List.range k).map (item s) ++ [(⟨((pos s k : Nat) : Int), (((Utf8.decode s (pos s k)).1 : Nat) : Int)⟩ : S35)]).length * 16 ≤ 140737488355328 := by simp; omega
    have hl : (List.range k).map (item s) ++ [(⟨((pos s k : Nat) : Int), (((Utf8.decode s (pos s k)).1 : Nat) : Int)⟩ : S35)] = (List.range (k + 1)).map (item s) := by
      rw [List.range_succ, List.map_append]; rfl
    rw [hl] at hb
    have key : ∀ bad', taskmillref_Read_j1 s ((pos s k : Nat) : Int) bad' ((wid s (pos s k) : Nat) : Int) ((List.range (k + 1)).map (item s)) = some (.inl (bad', ((pos s (k + 1) : Nat) : Int), (List.range (k + 1)).map (item s))) := fun bad' => by
      unfold taskmillref_Read_j1
      rw [wrap_id (by omega) (by omega)]
      rfl
    rcases hm with ⟨rfl, hw', hd⟩ | ⟨h0, hw', hd⟩
    · have e0 : (((0 : Nat) : Int) == 0) = true := rfl
      have hbk : isBad s k = true := by simpa [isBad] using hd
      cases hf : firstIf (isBad s) k with
      | none =>
        have hb0 : badAt s k = -1 := by simp only [badAt, hf]
        have hb1 : badAt s (k + 1) = ((pos s k : Nat) : Int) := by simp only [badAt, firstIf_succ, hf, hbk, if_true]
        have hn : ((-1 : Int) < 0) := by decide
        rw [hb0, hb1]
        simp only [taskmillref_Read_l1, h1, decide_true, cond_true, he, Option.bind_some, e0, hn, taskmillref_Read_j2, hl, hb]
        have := key ((pos s k : Nat) : Int)
        rw [hw'] at this
        exact this
      | some j =>
        have hb0 : badAt s k = ((pos s j : Nat) : Int) := by simp only [badAt, hf]
        have hb1 : badAt s (k + 1) = ((pos s j : Nat) : Int) := by simp only [badAt, firstIf_succ, hf]
        have hn : ¬ (((pos s j : Nat) : Int) < 0) := by omega
        rw [hb0, hb1]
        simp only [taskmillref_Read_l1, h1, decide_true, cond_true, he, Option.bind_some, e0, hn, decide_false, cond_false, taskmillref_Read_j2, hl, hb]
        have := key ((pos s j : Nat) : Int)
        rw [hw'] at this
        exact this
    · have e0 : (((m : Nat) : Int) == 0) = false := by simp; omega
      have hbk : isBad s k = false := by simpa [isBad] using hd
      have hb1 : badAt s (k + 1) = badAt s k := by
        cases hf : firstIf (isBad s) k <;> simp [badAt, firstIf_succ, hf, hbk]
      rw [hb1]
      simp only [taskmillref_Read_l1, h1, decide_true, cond_true, he, Option.bind_some, e0, cond_false, hl, hb]
      rw [hw']
      exact key (badAt s k)
  · unfold taskmillref_Read_l1
    simp only [count_end, Int.lt_irrefl, decide_false, cond_false]
theorem dec_drop (s : ByteArray) (i : Nat) (h : i < s.size) : Utf8.decode (s.extract i s.size) 0 = Utf8.decode s i :=
  dec_cut s i s.size 0 (by omega) (Nat.le_refl _) (by have := wid_le s i h; simpa using this)
theorem valid_eq (s : ByteArray) (hs : s.size ≤ 1000000) : utf_Valid s = some (if 20000 < s.size then (false, 0, ⟨2, 0⟩) else match firstIf (isBad s) (count s) with
    | some j => (false, ((pos s j : Nat) : Int), ⟨0, 0⟩)
    | none => (true, 0, ⟨0, 0⟩)) := by
  unfold utf_Valid
  by_cases hl : 20000 < s.size
  · have : decide ((20000 : Int) < ((s.size : Nat) : Int)) = true := by simp; omega
    rw [this, if_pos hl]; rfl
  · have : decide ((20000 : Int) < ((s.size : Nat) : Int)) = false := by simp; omega
    rw [this, if_neg hl]
    have pre : ∀ k, k < count s → utf_Valid_l1 s ((pos s k : Nat) : Int) = (bif (decide ((((Utf8.decode s (pos s k)).1 : Nat) : Int) = 65533) && decide ((((Utf8.decode s (pos s k)).2 : Nat) : Int) = 1)) then some (.inr (false, ((pos s k : Nat) : Int), ⟨0, 0⟩)) else some (.inl ((pos s (k + 1) : Nat) : Int))) := fun k hk => by
      have hp := count_lt s hk
      have hw := wid_le s (pos s k) hp
      have h1 : ((pos s k : Nat) : Int) < ((s.size : Nat) : Int) := by omega
      have h2 : (0 : Int) ≤ ((pos s k : Nat) : Int) := by omega
      have h3 : ((pos s k : Nat) : Int) ≤ ((s.size : Nat) : Int) := by omega
      have hsz := size_cut s (pos s k) s.size (Nat.le_refl _)
      have hr := rune_eq (s.extract (pos s k) s.size) (by omega) (by omega)
      rw [dec_drop s _ hp] at hr
      simp only [utf_Valid_l1, h1, h2, h3, decide_true, Bool.and_true, cond_true, Int.toNat_natCast, hr, Option.bind_some]
      have e1 : IntKind.i64.wrap (((pos s k : Nat) : Int) + (((Utf8.decode s (pos s k)).2 : Nat) : Int)) = ((pos s (k + 1) : Nat) : Int) := by
        have : (Utf8.decode s (pos s k)).2 = wid s (pos s k) := rfl
        rw [this, wrap_id (by omega) (by omega)]
        rfl
      rw [e1]
      rfl
    have := loopO_if (step := utf_Valid_l1 s) (fun k => ((pos s k : Nat) : Int)) (isBad s) (fun j => some (false, ((pos s j : Nat) : Int), (⟨0, 0⟩ : Fault))) (some (true, 0, ⟨0, 0⟩)) (count s) (fun k hk hb => ?_) (fun k hk hb => ?_) (fun _ => ?_)
    · rw [cond_false]
      have h0 : ((pos s 0 : Nat) : Int) = 0 := rfl
      rw [h0] at this
      rw [this]
      cases firstIf (isBad s) (count s) <;> rfl
    · rw [pre k hk]
      have hb' : ¬ Utf8.decode s (pos s k) = (65533, 1) := by simpa [isBad] using hb
      have : (decide ((((Utf8.decode s (pos s k)).1 : Nat) : Int) = 65533) && decide ((((Utf8.decode s (pos s k)).2 : Nat) : Int) = 1)) = false := by
        rw [Bool.eq_false_iff]
        intro h
        simp only [Bool.and_eq_true, decide_eq_true_eq] at h
        exact hb' (Prod.ext (by omega) (by omega))
      rw [this]; rfl
    · rw [pre k hk]
      have hb' : Utf8.decode s (pos s k) = (65533, 1) := by simpa [isBad] using hb
      rw [hb']
      rfl
    · unfold utf_Valid_l1
      simp only [count_end, Int.lt_irrefl, decide_false, cond_false]
theorem same_eq (a b : List S35) (h : a.length ≤ 1000000) (hb : b.length ≤ 1000000) : taskmillref_SameOff a b = some (decide (a = b)) := by
  unfold taskmillref_SameOff
  by_cases hl : a.length = b.length
  · have e : (((a.length : Nat) : Int) != ((b.length : Nat) : Int)) = false := by simp; omega
    rw [e, cond_false]
    have := loopO_if (step := taskmillref_SameOff_l1 a b) (fun i => ((i : Nat) : Int)) (fun i => decide (a[i]? ≠ b[i]?)) (fun _ => some false) (some true) a.length (fun i hi hp => ?_) (fun i hi hp => ?_) (fun _ => ?_)
    · have h0 : ((0 : Nat) : Int) = 0 := rfl
      rw [h0] at this
      rw [this]
      cases hf : firstIf (fun i => decide (a[i]? ≠ b[i]?)) a.length with
      | some i =>
        obtain ⟨h1, h2, _⟩ := firstIf_some hf
        simp only [decide_eq_true_eq] at h2
        have : a ≠ b := fun e => h2 (by rw [e])
        simp [this]
      | none =>
        have h1 := firstIf_none.1 hf
        have : a = b := by
          apply List.ext_getElem?
          intro i
          by_cases hi : i < a.length
          · simpa using h1 i hi
          · rw [List.getElem?_eq_none (by omega), List.getElem?_eq_none (by omega)]
        simp [this]
    · have hi2 : i < b.length := by omega
      have h1 : ((i : Nat) : Int) < ((a.length : Nat) : Int) := by omega
      have h2 : (0 : Int) ≤ ((i : Nat) : Int) := by omega
      have h3 : ((i : Nat) : Int) < ((b.length : Nat) : Int) := by omega
      have he : a[i] = b[i] := by simpa [hi, hi2] using hp
      have e2 : (!((a[i].e0 == b[i].e0) && ((a[i].e1 == b[i].e1) && true))) = false := by rw [he]; simp
      simp only [taskmillref_SameOff_l1, h1, h2, h3, ix_get hi, ix_get hi2, e2, decide_true, Bool.and_true, cond_true, cond_false]
      have e3 : (!((a[i].e0 == b[i].e0) && (a[i].e1 == b[i].e1))) = false := by rw [he]; simp
      simp only [e3, cond_false]
      rw [wrap_n1 i (by omega)]
    · have hi2 : i < b.length := by omega
      have h1 : ((i : Nat) : Int) < ((a.length : Nat) : Int) := by omega
      have h2 : (0 : Int) ≤ ((i : Nat) : Int) := by omega
      have h3 : ((i : Nat) : Int) < ((b.length : Nat) : Int) := by omega
      have he : ¬ a[i] = b[i] := by simpa [hi, hi2] using hp
      have e3 : (!((a[i].e0 == b[i].e0) && (a[i].e1 == b[i].e1))) = true := by
        cases h : ((a[i].e0 == b[i].e0) && (a[i].e1 == b[i].e1)) with
        | false => rfl
        | true =>
          simp only [Bool.and_eq_true, beq_iff_eq] at h
          refine absurd ?_ he
          cases ha : a[i]; cases hb' : b[i]
          rw [ha, hb'] at h
          simp only at h
          rw [h.1, h.2]
      simp only [taskmillref_SameOff_l1, h1, h2, h3, ix_get hi, ix_get hi2, e3, decide_true, Bool.and_true, cond_true]
    · simp [taskmillref_SameOff_l1]
  · have e : (((a.length : Nat) : Int) != ((b.length : Nat) : Int)) = true := by simp; omega
    rw [e, cond_true]
    have : a ≠ b := fun e => hl (by rw [e])
    simp [this]
theorem reads (s : ByteArray) : taskmilllaw_UtfReads s = some true := by
  unfold taskmilllaw_UtfReads
  rw [begun_eq]
  simp only [Option.bind_some, Bool.not_true, cond_false]
  by_cases h : 30000 < s.size
  · have : decide ((30000 : Int) < ((s.size : Nat) : Int)) = true := by simp; omega
    rw [this]; rfl
  · have : decide ((30000 : Int) < ((s.size : Nat) : Int)) = false := by simp; omega
    rw [this]
    have hc := count_le s
    rw [range_eq s (by omega), valid_eq s (by omega)]
    simp only [cond_false, Option.bind_some]
    by_cases hs : 20000 < s.size
    · have : decide ((20000 : Int) < ((s.size : Nat) : Int)) = true := by simp; omega
      rw [this, if_pos hs, if_pos hs]
      rfl
    · have : decide ((20000 : Int) < ((s.size : Nat) : Int)) = false := by simp; omega
      rw [this, if_neg hs, if_neg hs, cond_false]
      unfold taskmilllaw_UtfReads_j2
      have hl : ((List.range (count s)).map (item s)).length ≤ 1000000 := by simp; omega
      have z1 : ((0 : Int) == 0) = true := by decide
      have z2 : ((0 : Int) != 0) = false := by decide
      rw [read_bad s (by omega)]
      simp only [Option.bind_some, same_eq _ _ hl hl, decide_true, Bool.not_true, cond_false]
      unfold taskmilllaw_UtfReads_j1 badAt
      cases firstIf (isBad s) (count s) with
      | some j =>
        have e : ¬ (((pos s j : Nat) : Int) < 0) := by omega
        simp [e]
      | none => simp
end Go.Proofs.YtbnhbaehapalnaaDoor
