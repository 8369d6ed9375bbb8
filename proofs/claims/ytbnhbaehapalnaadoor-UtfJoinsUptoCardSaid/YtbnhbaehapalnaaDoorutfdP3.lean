/-
  What laws of the chapter utfd compute, and lemmas on it.
  No conditions.
-/
import Derived.Test.YtbnhbaehapalnaaDoorutfdP2
set_option linter.unusedSimpArgs false
set_option linter.unusedVariables false
namespace Go.Proofs.YtbnhbaehapalnaaDoor
open Go Go.Sx
/-! ### Which letter stands at a place -/
def bytes (s : ByteArray) (i m : Nat) : List Int := (List.range m).map fun k => ((by' s (i + k) : Nat) : Int)
theorem by_lt (s : ByteArray) (p : Nat) : by' s p < 256 := UInt8.toNat_lt _
theorem getD_by (s : ByteArray) (p : Nat) (h : p < s.size) : (s.data.getD p 0).toNat = by' s p := by
  unfold by'
  congr 1
theorem ext_U (s : ByteArray) (i m : Nat) (h : i + m ≤ s.size) : s.extract i (i + m) = U (bytes s i m) := by
  apply ByteArray.ext
  rw [ByteArray.data_extract]
  have hs : s.data.size = s.size := rfl
  apply Array.ext
  · simp [U, bytes]; omega
  · intro k h1 h2
    have hk : k < m := by simpa [U, bytes] using h2
    rw [Array.getElem_extract]
    have h3 : i + k < s.data.size := by omega
    have e : s.data[i + k] = s.get! (i + k) := by
      show s.data[i + k] = s.data[i + k]!
      rw [getElem!_pos s.data (i + k) h3]
    rw [e]
    simp [U, bytes, by']
theorem bytes_range (s : ByteArray) (i m : Nat) : ∀ x ∈ bytes s i m, 0 ≤ x ∧ x < 256 := by
  intro x hx
  obtain ⟨k, _, rfl⟩ := List.mem_map.1 hx
  have := by_lt s (i + k)
  omega
theorem l1_step (s : ByteArray) (i m k : Nat) (n : Int) (hk : k < m) (hm : m ≤ 4) (hi : i + k < s.size) (hs : s.size ≤ 1000000) (hn : -1099511627776 ≤ n ∧ n ≤ 1099511627776) :
    taskmillref_LetterAt_l1 s (i : Int) (m : Int) (n, (k : Int)) = some (.inl (n * 64 + ((by' s (i + k) : Nat) : Int) - 128, ((k + 1 : Nat) : Int))) := by
  have hb := by_lt s (i + k)
  have h1 : ((k : Nat) : Int) < ((m : Nat) : Int) := by omega
  have w1 : IntKind.i64.wrap (((i : Nat) : Int) + ((k : Nat) : Int)) = ((i + k : Nat) : Int) := by rw [wrap_id (by omega) (by omega)]; rfl
  have h2 : (0 : Int) ≤ ((i + k : Nat) : Int) := by omega
  have h3 : ((i + k : Nat) : Int) < ((s.size : Nat) : Int) := by omega
  have w2 : IntKind.i64.wrap (n * 64) = n * 64 := wrap_id (by omega) (by omega)
  have w3 : IntKind.i64.wrap ((by' s (i + k) : Nat) : Int) = ((by' s (i + k) : Nat) : Int) := wrap_id (by omega) (by omega)
  have w4 : IntKind.i64.wrap (n * 64 + ((by' s (i + k) : Nat) : Int)) = n * 64 + ((by' s (i + k) : Nat) : Int) := wrap_id (by omega) (by omega)
  have w5 : IntKind.i64.wrap (n * 64 + ((by' s (i + k) : Nat) : Int) - 128) = n * 64 + ((by' s (i + k) : Nat) : Int) - 128 := wrap_id (by omega) (by omega)
  simp only [taskmillref_LetterAt_l1, h1, w1, h2, h3, decide_true, cond_true, Bool.and_true, Int.toNat_natCast, getD_by s (i + k) hi, w2, w3, w4, w5]
  rw [wrap_n1 k (by omega)]
def fits (s : ByteArray) (i m : Nat) (n : Int) : Prop := isL n = true ∧ bo n = bytes s i m
open Classical in
theorem l1_end (s : ByteArray) (i m : Nat) (n : Int) (hm : m ≤ 4) (hi : i + m ≤ s.size) (hs : s.size ≤ 1000000) :
    taskmillref_LetterAt_l1 s (i : Int) (m : Int) (n, (m : Int)) = (if fits s i m n then some (.inr (n, (m : Int))) else some (.inl ((m + 1 : Nat) : Int)) : Option (Int ⊕ (Int × Int))).map .inr := by
  have w1 : IntKind.i64.wrap (((i : Nat) : Int) + ((m : Nat) : Int)) = ((i + m : Nat) : Int) := by rw [wrap_id (by omega) (by omega)]; rfl
  have h1 : (0 : Int) ≤ ((i : Nat) : Int) := by omega
  have h2 : ((i : Nat) : Int) ≤ ((i + m : Nat) : Int) := by omega
  have h3 : ((i + m : Nat) : Int) ≤ ((s.size : Nat) : Int) := by omega
  simp only [taskmillref_LetterAt_l1, Int.lt_irrefl, decide_false, cond_false, letter_is, Option.bind_some]
  congr 1
  cases hl : isL n with
  | false =>
    rw [if_neg (fun h => by rw [h.1] at hl; cases hl)]
    simp only [cond_false, taskmillref_LetterAt_j1]
    rw [wrap_n1 m (by omega)]
  | true =>
    have hf : fixL n = n := by rw [fixL, if_pos hl]
    simp only [cond_true, bytesOf_eq, Option.bind_some, hf, w1, h1, h2, h3, decide_true, Bool.and_true, mk_v8, bytL_eq, Int.toNat_natCast, ext_U s i m hi]
    by_cases he : bo n = bytes s i m
    · rw [if_pos ⟨hl, he⟩, he]
      simp [taskmillref_LetterAt_j1]
    · rw [if_neg (fun h => he h.2)]
      have : ¬ U (bo n) = U (bytes s i m) := fun h => he (U_inj (bo_range n hl) (bytes_range s i m) h)
      simp only [this, decide_false, taskmillref_LetterAt_j1, cond_false]
      rw [wrap_n1 m (by omega)]
/-- The number that so many bytes tell. -/
def num (s : ByteArray) (i : Nat) : Nat → Int
  | 1 => (by' s i : Int)
  | 2 => ((by' s i : Int) - 192) * 64 + (by' s (i + 1) : Int) - 128
  | 3 => (((by' s i : Int) - 224) * 64 + (by' s (i + 1) : Int) - 128) * 64 + (by' s (i + 2) : Int) - 128
  | 4 => ((((by' s i : Int) - 240) * 64 + (by' s (i + 1) : Int) - 128) * 64 + (by' s (i + 2) : Int) - 128) * 64 + (by' s (i + 3) : Int) - 128
  | _ => 0
open Classical in
theorem l2_step (s : ByteArray) (i m : Nat) (h1 : 1 ≤ m) (hm : m ≤ 4) (hi : i + m ≤ s.size) (hs : s.size ≤ 1000000) :
    taskmillref_LetterAt_l2 s (i : Int) (m : Int) = (if fits s i m (num s i m) then some (.inr (num s i m, (m : Int))) else some (.inl ((m + 1 : Nat) : Int)) : Option (Int ⊕ (Int × Int))) := by
  have b0 := by_lt s i
  have b1 := by_lt s (i + 1)
  have b2 := by_lt s (i + 2)
  have b3 := by_lt s (i + 3)
  have w1 : IntKind.i64.wrap (((i : Nat) : Int) + ((m : Nat) : Int)) = ((i + m : Nat) : Int) := by rw [wrap_id (by omega) (by omega)]; rfl
  have h2 : ((m : Nat) : Int) ≤ 4 := by omega
  have h3 : ((i + m : Nat) : Int) ≤ ((s.size : Nat) : Int) := by omega
  have h4 : (0 : Int) ≤ ((i : Nat) : Int) := by omega
  have h5 : ((i : Nat) : Int) < ((s.size : Nat) : Int) := by omega
  have w3 : IntKind.i64.wrap ((by' s i : Nat) : Int) = ((by' s i : Nat) : Int) := wrap_id (by omega) (by omega)
  have w4 : ∀ c : Int, 0 ≤ c → c ≤ 1000 → IntKind.i64.wrap (((by' s i : Nat) : Int) - c) = ((by' s i : Nat) : Int) - c := fun c _ _ => wrap_id (by omega) (by omega)
  unfold taskmillref_LetterAt_l2
  simp only [w1, h2, h3, h4, h5, decide_true, Bool.and_true, cond_true, Int.toNat_natCast, getD_by s i (by omega), w3, w4 192 (by omega) (by omega), w4 224 (by omega) (by omega), w4 240 (by omega) (by omega)]
  rcases (by omega : m = 1 ∨ m = 2 ∨ m = 3 ∨ m = 4) with rfl | rfl | rfl | rfl
  · show taskmillref_LetterAt_j2 s (i : Int) ((1 : Nat) : Int) ((by' s i : Nat) : Int) = _
    unfold taskmillref_LetterAt_j2
    exact loopO_out (l1_end s i 1 _ (by omega) hi hs)
  · show taskmillref_LetterAt_j2 s (i : Int) ((2 : Nat) : Int) (((by' s i : Nat) : Int) - 192) = _
    unfold taskmillref_LetterAt_j2
    have e1 := l1_step s i 2 1 (((by' s i : Nat) : Int) - 192) (by omega) (by omega) (by omega) hs (by omega)
    exact (loopO_inl e1).trans (loopO_out (l1_end s i 2 _ (by omega) hi hs))
  · show taskmillref_LetterAt_j2 s (i : Int) ((3 : Nat) : Int) (((by' s i : Nat) : Int) - 224) = _
    unfold taskmillref_LetterAt_j2
    have e1 := l1_step s i 3 1 (((by' s i : Nat) : Int) - 224) (by omega) (by omega) (by omega) hs (by omega)
    have e2 := l1_step s i 3 2 ((((by' s i : Nat) : Int) - 224) * 64 + ((by' s (i + 1) : Nat) : Int) - 128) (by omega) (by omega) (by omega) hs (by omega)
    exact (loopO_inl e1).trans ((loopO_inl e2).trans (loopO_out (l1_end s i 3 _ (by omega) hi hs)))
  · show taskmillref_LetterAt_j2 s (i : Int) ((4 : Nat) : Int) (((by' s i : Nat) : Int) - 240) = _
    unfold taskmillref_LetterAt_j2
    have e1 := l1_step s i 4 1 (((by' s i : Nat) : Int) - 240) (by omega) (by omega) (by omega) hs (by omega)
    have e2 := l1_step s i 4 2 ((((by' s i : Nat) : Int) - 240) * 64 + ((by' s (i + 1) : Nat) : Int) - 128) (by omega) (by omega) (by omega) hs (by omega)
    have e3 := l1_step s i 4 3 (((((by' s i : Nat) : Int) - 240) * 64 + ((by' s (i + 1) : Nat) : Int) - 128) * 64 + ((by' s (i + 2) : Nat) : Int) - 128) (by omega) (by omega) (by omega) hs (by omega)
    exact (loopO_inl e1).trans ((loopO_inl e2).trans ((loopO_inl e3).trans (loopO_out (l1_end s i 4 _ (by omega) hi hs))))
theorem l2_over (s : ByteArray) (i m : Nat) (h : 4 < m ∨ s.size < i + m) (hm : m ≤ 5) (hi : i ≤ s.size) (hs : s.size ≤ 1000000) : taskmillref_LetterAt_l2 s (i : Int) (m : Int) = some (.inr (65533, 0)) := by
  have w1 : IntKind.i64.wrap (((i : Nat) : Int) + ((m : Nat) : Int)) = ((i + m : Nat) : Int) := by rw [wrap_id (by omega) (by omega)]; rfl
  have e : (decide (((m : Nat) : Int) ≤ 4) && decide (((i + m : Nat) : Int) ≤ ((s.size : Nat) : Int))) = false := by
    simp only [Bool.and_eq_false_iff, decide_eq_false_iff_not]; omega
  unfold taskmillref_LetterAt_l2
  rw [w1, e]; rfl
/-- The first that fits, or none. -/
theorem letter_first (s : ByteArray) (i : Nat) (hi : i < s.size) (hs : s.size ≤ 1000000) :
    (∃ m, 1 ≤ m ∧ m ≤ 4 ∧ i + m ≤ s.size ∧ fits s i m (num s i m) ∧ taskmillref_LetterAt s (i : Int) = some (num s i m, (m : Int))) ∨
    ((∀ m, 1 ≤ m → m ≤ 4 → i + m ≤ s.size → ¬ fits s i m (num s i m)) ∧ taskmillref_LetterAt s (i : Int) = some (65533, 0)) := by
  have walk : ∀ d m, m + d = 5 → 1 ≤ m → (∀ k, 1 ≤ k → k < m → i + k ≤ s.size → ¬ fits s i k (num s i k)) →
      (∃ q, 1 ≤ q ∧ q ≤ 4 ∧ i + q ≤ s.size ∧ fits s i q (num s i q) ∧ loopO (taskmillref_LetterAt_l2 s (i : Int)) ((m : Nat) : Int) = some (num s i q, (q : Int))) ∨
      ((∀ q, 1 ≤ q → q ≤ 4 → i + q ≤ s.size → ¬ fits s i q (num s i q)) ∧ loopO (taskmillref_LetterAt_l2 s (i : Int)) ((m : Nat) : Int) = some (65533, 0)) := by
    intro d
    induction d with
    | zero =>
      intro m hm _ hno
      refine .inr ⟨fun q h1 h2 h3 => hno q h1 (by omega) h3, loopO_inr (l2_over s i m (.inl (by omega)) (by omega) (by omega) hs)⟩
    | succ d ih =>
      intro m hm h1 hno
      by_cases hov : s.size < i + m
      · refine .inr ⟨fun q h1 h2 h3 => hno q h1 (by omega) h3, loopO_inr (l2_over s i m (.inr hov) (by omega) (by omega) hs)⟩
      · have hst := l2_step s i m h1 (by omega) (by omega) hs
        by_cases hf : fits s i m (num s i m)
        · rw [if_pos hf] at hst
          exact .inl ⟨m, h1, by omega, by omega, hf, loopO_inr hst⟩
        · rw [if_neg hf] at hst
          rw [loopO_inl hst]
          refine ih (m + 1) (by omega) (by omega) fun k hk1 hk2 hk3 => ?_
          by_cases hkm : k = m
          · subst hkm; exact hf
          · exact hno k hk1 (by omega) hk3
  exact walk 4 1 rfl (Nat.le_refl _) (fun k h1 h2 => by omega)
theorem fits_dec (s : ByteArray) (i m : Nat) (n : Int) (h1 : 1 ≤ m) (hm : m ≤ 4) (hi : i + m ≤ s.size) (hf : fits s i m n) : Utf8.decode s i = (n.toNat, m) := by
  obtain ⟨hl, hb⟩ := hf
  have hr := (isL_iff n).1 hl
  have b0 := by_lt s i
  have b1 := by_lt s (i + 1)
  have b2 := by_lt s (i + 2)
  have b3 := by_lt s (i + 3)
  rw [dec_eq]
  have hN : m ≤ s.size - i := by omega
  generalize s.size - i = N at hN
  generalize hc0 : by' s i = c0 at *
  generalize hc1 : by' s (i + 1) = c1 at *
  generalize hc2 : by' s (i + 2) = c2 at *
  generalize hc3 : by' s (i + 3) = c3 at *
  rcases (by omega : m = 1 ∨ m = 2 ∨ m = 3 ∨ m = 4) with rfl | rfl | rfl | rfl
  · have hb : bo n = [(c0 : Int)] := by rw [hb]; simp [bytes, List.range_succ, hc0]
    unfold bo at hb
    split at hb
    · simp at hb
      unfold Lib.decodeN
      rw [if_pos (by omega)]; simp; omega
    · split at hb
      · simp at hb
      · split at hb <;> simp at hb
  · have hb : bo n = [(c0 : Int), (c1 : Int)] := by rw [hb]; simp [bytes, List.range_succ, hc0, hc1]
    unfold bo at hb
    split at hb
    · simp at hb
    · split at hb
      · simp at hb
        unfold Lib.decodeN
        rw [if_neg (by omega), if_pos (by omega), if_pos (by omega)]
        apply Prod.ext <;> simp only <;> omega
      · split at hb <;> simp at hb
  · have hb : bo n = [(c0 : Int), (c1 : Int), (c2 : Int)] := by rw [hb]; simp [bytes, List.range_succ, hc0, hc1, hc2]
    unfold bo at hb
    split at hb
    · simp at hb
    · split at hb
      · simp at hb
      · split at hb
        · simp at hb
          unfold Lib.decodeN
          rw [if_neg (by omega), if_neg (by omega), if_pos (by omega), if_pos (by omega)]
          apply Prod.ext <;> simp only <;> omega
        · simp at hb
  · have hb : bo n = [(c0 : Int), (c1 : Int), (c2 : Int), (c3 : Int)] := by rw [hb]; simp [bytes, List.range_succ, hc0, hc1, hc2, hc3]
    unfold bo at hb
    split at hb
    · simp at hb
    · split at hb
      · simp at hb
      · split at hb
        · simp at hb
        · simp at hb
          unfold Lib.decodeN
          rw [if_neg (by omega), if_neg (by omega), if_neg (by omega), if_pos (by omega), if_pos (by omega)]
          apply Prod.ext <;> simp only <;> omega
theorem dec_fits (s : ByteArray) (i : Nat) (hi : i < s.size) : Utf8.decode s i = (65533, 1) ∨ ∃ m, 1 ≤ m ∧ m ≤ 4 ∧ i + m ≤ s.size ∧ fits s i m (num s i m) := by
  have b0 := by_lt s i
  have b1 := by_lt s (i + 1)
  have b2 := by_lt s (i + 2)
  have b3 := by_lt s (i + 3)
  rw [dec_eq]
  unfold Lib.decodeN
  split
  · rename_i h
    refine .inr ⟨1, by omega, by omega, by omega, (isL_iff _).2 ?_, ?_⟩
    · simp only [num]; omega
    · simp only [num, bytes]; unfold bo; rw [if_pos (by omega)]; simp [List.range_succ]
  · rename_i h0
    split
    · rename_i h
      split
      · rename_i hc
        refine .inr ⟨2, by omega, by omega, by omega, (isL_iff _).2 ?_, ?_⟩
        · simp only [num]; omega
        · unfold bo
          rw [if_neg (by simp only [num]; omega), if_pos (by simp only [num]; omega)]
          simp only [num, bytes, List.range_succ, List.range_zero, List.nil_append, List.map_append, List.map_cons, List.map_nil, List.cons_append, Nat.add_zero, List.cons.injEq, and_true]
          omega
      · exact .inl rfl
    · split
      · rename_i h
        split
        · rename_i hc
          refine .inr ⟨3, by omega, by omega, by omega, (isL_iff _).2 ?_, ?_⟩
          · simp only [num]; omega
          · unfold bo
            rw [if_neg (by simp only [num]; omega), if_neg (by simp only [num]; omega), if_pos (by simp only [num]; omega)]
            simp only [num, bytes, List.range_succ, List.range_zero, List.nil_append, List.map_append, List.map_cons, List.map_nil, List.cons_append, Nat.add_zero, List.cons.injEq, and_true]
            omega
        · exact .inl rfl
      · split
        · rename_i h
          split
          · rename_i hc
            refine .inr ⟨4, by omega, by omega, by omega, (isL_iff _).2 ?_, ?_⟩
            · simp only [num]; omega
            · unfold bo
              rw [if_neg (by simp only [num]; omega), if_neg (by simp only [num]; omega), if_neg (by simp only [num]; omega)]
              simp only [num, bytes, List.range_succ, List.range_zero, List.nil_append, List.map_append, List.map_cons, List.map_nil, List.cons_append, Nat.add_zero, List.cons.injEq, and_true]
              omega
          · exact .inl rfl
        · exact .inl rfl
theorem letter_eq (s : ByteArray) (i : Nat) (hi : i < s.size) (hs : s.size ≤ 1000000) : ∃ m : Nat, taskmillref_LetterAt s (i : Int) = some ((((Utf8.decode s i).1 : Nat) : Int), (m : Int)) ∧ ((m = 0 ∧ wid s i = 1 ∧ ∀ q, 1 ≤ q → q ≤ 4 → i + q ≤ s.size → ¬ fits s i q (num s i q)) ∨ (0 < m ∧ m = wid s i ∧ fits s i m ((Utf8.decode s i).1 : Int))) := by
  rcases letter_first s i hi hs with ⟨m, h1, h2, h3, hf, he⟩ | ⟨hno, he⟩
  · have hd := fits_dec s i m _ h1 h2 h3 hf
    have hr := (isL_iff _).1 hf.1
    have e : (((num s i m).toNat : Nat) : Int) = num s i m := by omega
    refine ⟨m, by rw [he, hd]; simp only [e], .inr ⟨h1, by rw [wid, hd], by rw [hd]; simp only [e]; exact hf⟩⟩
  · rcases dec_fits s i hi with hd | ⟨m, h1, h2, h3, hf⟩
    · exact ⟨0, by rw [he, hd]; rfl, .inl ⟨rfl, by rw [wid, hd], hno⟩⟩
    · exact absurd hf (hno m h1 h2 h3)
/-- A text is read. -/
theorem read_eq (s : ByteArray) (hs : s.size ≤ 1000000) : ∃ bad, taskmillref_Read s = some (bad, (List.range (count s)).map (item s)) := by
  have hc := count_le s
  have := loopO_inv (step := taskmillref_Read_l1 s) (fun x => ∃ k bad, k ≤ count s ∧ x = (bad, ((pos s k : Nat) : Int), (List.range k).map (item s))) (fun x => s.size - x.2.1.toNat) (fun r => ∃ bad, r = (bad, (List.range (count s)).map (item s))) ?_ (s0 := ((-1), 0, [])) ⟨0, -1, Nat.zero_le _, rfl⟩
  · obtain ⟨r, h1, bad, rfl⟩ := this
    exact ⟨bad, h1⟩
  · rintro x ⟨k, bad, hk, rfl⟩
    by_cases hlt : k < count s
    · left
      have hp := count_lt s hlt
      have hw := wid_le s (pos s k) hp
      have hw1 := wid_pos s (pos s k)
      have h1 : ((pos s k : Nat) : Int) < ((s.size : Nat) : Int) := by omega
      obtain ⟨m, he, hm⟩ := letter_eq s (pos s k) hp hs
      have hb : ((List.range k).map (item s) ++ [(⟨((pos s k : Nat) : Int), (((Utf8.decode s (pos s k)).1 : Nat) : Int)⟩ : S35)]).length * 16 ≤ 140737488355328 := by simp; omega
      have hl : (List.range k).map (item s) ++ [(⟨((pos s k : Nat) : Int), (((Utf8.decode s (pos s k)).1 : Nat) : Int)⟩ : S35)] = (List.range (k + 1)).map (item s) := by
        rw [List.range_succ, List.map_append]; rfl
      rw [hl] at hb
      have key : ∀ bad', taskmillref_Read_j1 s ((pos s k : Nat) : Int) bad' ((wid s (pos s k) : Nat) : Int) ((List.range (k + 1)).map (item s)) = some (.inl (bad', ((pos s (k + 1) : Nat) : Int), (List.range (k + 1)).map (item s))) := fun bad' => by
        unfold taskmillref_Read_j1
        rw [wrap_id (by omega) (by omega)]
        rfl
      have fin : ∀ bad', taskmillref_Read_l1 s (bad, ((pos s k : Nat) : Int), (List.range k).map (item s)) = some (.inl (bad', ((pos s (k + 1) : Nat) : Int), (List.range (k + 1)).map (item s))) → ∃ s', taskmillref_Read_l1 s (bad, ((pos s k : Nat) : Int), (List.range k).map (item s)) = some (.inl s') ∧ (∃ k bad, k ≤ count s ∧ s' = (bad, ((pos s k : Nat) : Int), (List.range k).map (item s))) ∧ s.size - s'.2.1.toNat < s.size - (bad, ((pos s k : Nat) : Int), (List.range k).map (item s)).2.1.toNat := fun bad' h => by
        refine ⟨_, h, ⟨k + 1, bad', hlt, rfl⟩, ?_⟩
        have := pos_lt s k
        simp only [Int.toNat_natCast]; omega
      rcases hm with ⟨rfl, hw', _⟩ | ⟨h0, hw', _⟩
      · have e0 : (((0 : Nat) : Int) == 0) = true := rfl
        by_cases hbad : bad < 0
        · refine fin ((pos s k : Nat) : Int) ?_
          simp only [taskmillref_Read_l1, h1, decide_true, cond_true, he, Option.bind_some, e0, hbad, taskmillref_Read_j2, hl, hb]
          have := key ((pos s k : Nat) : Int)
          rw [hw'] at this
          exact this
        · refine fin bad ?_
          simp only [taskmillref_Read_l1, h1, decide_true, cond_true, he, Option.bind_some, e0, hbad, decide_false, cond_false, taskmillref_Read_j2, hl, hb, decide_true, cond_true]
          have := key bad
          rw [hw'] at this
          exact this
      · have e0 : (((m : Nat) : Int) == 0) = false := by simp; omega
        refine fin bad ?_
        simp only [taskmillref_Read_l1, h1, decide_true, cond_true, he, Option.bind_some, e0, cond_false, hl, hb]
        rw [hw']
        exact key bad
    · right
      have : k = count s := by omega
      subst this
      refine ⟨_, ?_, bad, rfl⟩
      unfold taskmillref_Read_l1
      simp only [count_end, Int.lt_irrefl, decide_false, cond_false]
      rfl
end Go.Proofs.YtbnhbaehapalnaaDoor
