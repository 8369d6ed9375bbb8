/-
  What laws of the chapter utfd compute, and lemmas on it.
  No conditions.
-/
import Derived.Test.YtbnhbaehapalnaaDoorutfdP6
set_option linter.unusedSimpArgs false
set_option linter.unusedVariables false
namespace Go.Proofs.YtbnhbaehapalnaaDoor
open Go Go.Sx
/-! ### What is written is read -/
theorem bytes_U (l : List Int) (hr : ∀ x ∈ l, 0 ≤ x ∧ x < 256) (p m : Nat) (h : p + m ≤ l.length) : bytes (U l) p m = (l.drop p).take m := by
  apply List.ext_getElem
  · simp [bytes]; omega
  · intro k h1 h2
    have hk : k < m := by simpa [bytes] using h1
    have hl : p + k < l.length := by omega
    have hx := hr l[p + k] (List.getElem_mem hl)
    have e : by' (U l) (p + k) = l[p + k].toNat := by
      rw [← by0]
      have : (U l).data.getD (p + k) 0 = UInt8.ofNat l[p + k].toNat := by
        simp [U, Array.getD, hl]
      rw [this]
      exact UInt8.toNat_ofNat_of_lt' (by show _ < 256; omega)
    simp only [bytes, List.getElem_map, List.getElem_range, List.getElem_take, List.getElem_drop, e]
    omega
theorem flat_range (L : List Int) (hL : ∀ n ∈ L, isL n = true) : ∀ x ∈ L.flatMap bo, 0 ≤ x ∧ x < 256 := by
  intro x hx
  obtain ⟨n, hn, hx⟩ := List.mem_flatMap.1 hx
  exact bo_range n (hL n hn) x hx
theorem bo_pos (n : Int) : 1 ≤ (bo n).length := by
  unfold bo
  repeat' split
  all_goals simp
theorem pos_strict (s : ByteArray) {i j : Nat} (h : i < j) : pos s i < pos s j := Nat.lt_of_lt_of_le (pos_lt s i) (pos_mono s h)
theorem count_of (s : ByteArray) (n : Nat) (h : pos s n = s.size) : count s = n := by
  rcases Nat.lt_trichotomy (count s) n with hl | hl | hl
  · have := pos_strict s hl; rw [count_end] at this; omega
  · exact hl
  · have := pos_strict s hl; rw [count_end] at this; omega
theorem flat_take (L : List Int) (k : Nat) (hk : k < L.length) : (L.take (k + 1)).flatMap bo = (L.take k).flatMap bo ++ bo L[k] := by
  rw [List.take_succ_eq_append_getElem hk, List.flatMap_append]
  simp
theorem flat_split (L : List Int) (k : Nat) : L.flatMap bo = (L.take k).flatMap bo ++ (L.drop k).flatMap bo := by
  rw [← List.flatMap_append, List.take_append_drop]
theorem wrote (L : List Int) (hL : ∀ n ∈ L, isL n = true) : (∀ k, k ≤ L.length → pos (U (L.flatMap bo)) k = ((L.take k).flatMap bo).length) ∧ ∀ k (hk : k < L.length), Utf8.decode (U (L.flatMap bo)) ((L.take k).flatMap bo).length = (L[k].toNat, (bo L[k]).length) := by
  have dec : ∀ k (hk : k < L.length), Utf8.decode (U (L.flatMap bo)) ((L.take k).flatMap bo).length = (L[k].toNat, (bo L[k]).length) := by
    intro k hk
    have hs := flat_split L (k + 1)
    rw [flat_take L k hk] at hs
    have hlen : (L.flatMap bo).length = ((L.take k).flatMap bo).length + (bo L[k]).length + ((L.drop (k + 1)).flatMap bo).length := by
      rw [hs]; simp only [List.length_append]
    refine fits_dec _ _ _ _ (bo_pos _) (bo_len _) (by rw [U_size]; omega) ⟨hL _ (List.getElem_mem hk), ?_⟩
    rw [bytes_U _ (flat_range L hL) _ _ (by omega)]
    rw [hs, List.append_assoc, List.drop_left, List.take_left]
  refine ⟨fun k => ?_, dec⟩
  induction k with
  | zero => intro _; simp [pos]
  | succ k ih =>
    intro hk
    have hk' : k < L.length := hk
    have ih := ih (by omega)
    show pos (U (L.flatMap bo)) k + wid (U (L.flatMap bo)) (pos (U (L.flatMap bo)) k) = _
    rw [ih, wid, dec k hk', flat_take L k hk', List.length_append]
theorem wrote_count (L : List Int) (hL : ∀ n ∈ L, isL n = true) : count (U (L.flatMap bo)) = L.length := by
  refine count_of _ _ ?_
  rw [(wrote L hL).1 L.length (Nat.le_refl _), List.take_length, U_size]
theorem wrote_ls (L : List Int) (hL : ∀ n ∈ L, isL n = true) : ls (U (L.flatMap bo)) = L := by
  apply List.ext_getElem
  · rw [ls_len, wrote_count L hL]
  · intro k h1 h2
    have hr := (isL_iff _).1 (hL _ (List.getElem_mem h2))
    simp only [ls, List.getElem_map, List.getElem_range]
    rw [(wrote L hL).1 k (by omega), (wrote L hL).2 k h2]
    simp only
    omega
theorem wrote_good (L : List Int) (hL : ∀ n ∈ L, isL n = true) : firstIf (isBad (U (L.flatMap bo))) (count (U (L.flatMap bo))) = none := by
  rw [firstIf_none]
  intro k hk
  rw [wrote_count L hL] at hk
  unfold isBad
  rw [(wrote L hL).1 k (by omega), (wrote L hL).2 k hk]
  have hr := (isL_iff _).1 (hL _ (List.getElem_mem hk))
  simp only [decide_eq_false_iff_not]
  intro e
  have e1 := (Prod.mk.inj e).1
  have e2 := (Prod.mk.inj e).2
  have e3 : L[k] = 65533 := by omega
  rw [e3] at e2
  simp [bo] at e2
/-! ### What is valid is written as it was -/
theorem good_fits (s : ByteArray) (hg : firstIf (isBad s) (count s) = none) (k : Nat) (hk : k < count s) : fits s (pos s k) (wid s (pos s k)) (((Utf8.decode s (pos s k)).1 : Nat) : Int) := by
  have hb := firstIf_none.1 hg k hk
  have hb' : Utf8.decode s (pos s k) ≠ (65533, 1) := by simpa [isBad] using hb
  rcases dec_fits s (pos s k) (count_lt s hk) with hd | ⟨m, h1, h2, h3, hf⟩
  · exact absurd hd hb'
  · have hd := fits_dec s _ m _ h1 h2 h3 hf
    have hr := (isL_iff _).1 hf.1
    have e : (((num s (pos s k) m).toNat : Nat) : Int) = num s (pos s k) m := by omega
    rw [wid, hd]
    simp only [e]
    exact hf
theorem good_isL (s : ByteArray) (hg : firstIf (isBad s) (count s) = none) : ∀ n ∈ ls s, isL n = true := by
  intro n hn
  obtain ⟨k, hk, rfl⟩ := List.mem_map.1 hn
  exact (good_fits s hg k (List.mem_range.1 hk)).1
theorem bytes_app (s : ByteArray) (i m n : Nat) : bytes s i (m + n) = bytes s i m ++ bytes s (i + m) n := by
  unfold bytes
  rw [List.range_add, List.map_append, List.map_map]
  congr 1
  apply List.map_congr_left
  intro k _
  simp [Nat.add_assoc]
theorem good_take (s : ByteArray) (hg : firstIf (isBad s) (count s) = none) : ∀ k, k ≤ count s → ((ls s).take k).flatMap bo = bytes s 0 (pos s k) := by
  intro k
  induction k with
  | zero => intro _; simp [pos, bytes]
  | succ k ih =>
    intro hk
    have hl : k < (ls s).length := by rw [ls_len]; omega
    rw [flat_take (ls s) k hl, ih (by omega)]
    have hf := (good_fits s hg k (by omega)).2
    have e : (ls s)[k] = (((Utf8.decode s (pos s k)).1 : Nat) : Int) := by simp [ls]
    rw [e, hf]
    show _ = bytes s 0 (pos s k + wid s (pos s k))
    rw [bytes_app, Nat.zero_add]
theorem good_back (s : ByteArray) (hg : firstIf (isBad s) (count s) = none) : U ((ls s).flatMap bo) = s := by
  have := good_take s hg (count s) (Nat.le_refl _)
  rw [count_end, List.take_of_length_le (by rw [ls_len]; exact Nat.le_refl _)] at this
  rw [this]
  have h2 := ext_U s 0 s.size (by omega)
  rw [Nat.zero_add] at h2
  rw [← h2, ByteArray.extract_zero_size]
theorem bf_bo (L : List Int) (hL : ∀ n ∈ L, isL n = true) : L.flatMap bf = L.flatMap bo := by
  induction L with
  | nil => rfl
  | cons n L ih =>
    rw [List.flatMap_cons, List.flatMap_cons, ih (fun x hx => hL x (List.mem_cons_of_mem _ hx))]
    congr 1
    unfold bf
    rw [fixL, if_pos (hL n (by simp))]
theorem bf_fixed (L : List Int) : L.flatMap bf = (L.map fixL).flatMap bo := by
  rw [List.flatMap_map]; rfl
theorem map_fix (L : List Int) : ∀ n ∈ L.map fixL, isL n = true := by
  intro n hn
  obtain ⟨m, _, rfl⟩ := List.mem_map.1 hn
  exact fixL_ok m
theorem flat_rev_len (L : List Int) : (L.reverse.flatMap bo).length = (L.flatMap bo).length := by
  induction L with
  | nil => rfl
  | cons n L ih =>
    rw [List.reverse_cons, List.flatMap_append, List.flatMap_cons, List.length_append, List.length_append, ih]
    simp [Nat.add_comm]
theorem items_e1 (s : ByteArray) (k : Nat) (hk : k < count s) : ((List.range (count s)).map (item s))[k]'(by simpa using hk) = ⟨((pos s k : Nat) : Int), (ls s)[k]'(by rw [ls_len]; exact hk)⟩ := by
  simp [item, ls]
end Go.Proofs.YtbnhbaehapalnaaDoor
