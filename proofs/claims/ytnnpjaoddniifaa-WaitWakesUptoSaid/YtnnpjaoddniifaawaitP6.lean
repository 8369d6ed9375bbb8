/-
  wait, plain: Drop and the other laws.
-/
import Derived.Test.YtnnpjaoddniifaawaitP5
set_option linter.unusedSimpArgs false
set_option linter.unusedVariables false
namespace Go.Proofs.Ytnnpjaoddniifaa
open Go Go.Sx
set_option linter.unusedVariables false
set_option linter.unusedSimpArgs false
theorem sx {xs : List Int} {i : Nat} (h : i < xs.length) : decide (((i : Nat) : Int) < ((xs.length : Nat) : Int)) = true := decide_eq_true (by omega)
theorem del_eq (c : List Int) (t : Int) (hn : c.length ≤ 2000000) : slices_DeleteFunc_int_1 c t = some (c.filter (fun x => decide (x ≠ t)), t) := by
  have hstep : ∀ i : Nat, i < c.length → slices_IndexFunc_int_l1 c ((i : Int), t) = bif (c.getD i 0 == t) then some (.inr ((i : Int), t)) else some (.inl (((i + 1 : Nat) : Int), t)) := fun i hi => by
    simp only [slices_IndexFunc_int_l1, sx hi, t2, ix_int hi, cond_true, Bool.and_true, wait_Drop_1, Option.bind_some, wrap_n1 i (show i < 4611686018427387904 by omega), Option.map_some]
  have hidx := loopO_if (step := slices_IndexFunc_int_l1 c) (fun i => (((i : Nat) : Int), t)) (fun i => c.getD i 0 == t) (fun i => some ((i : Int), t)) (some (-1, t)) c.length (fun i hi hp => by rw [hstep i hi, hp]; rfl) (fun i hi hp => by rw [hstep i hi, hp]; rfl) (fun _ => by simp [slices_IndexFunc_int_l1])
  unfold slices_DeleteFunc_int_1 slices_IndexFunc_int
  rw [show ((0 : Nat) : Int) = 0 from rfl] at hidx
  rw [hidx]
  cases hf : firstIf (fun i => c.getD i 0 == t) c.length with
  | none =>
    have := firstIf_none.1 hf
    simp only [Option.bind_some, show ((-1 : Int) == -1) = true from rfl, cond_true]
    rw [List.filter_eq_self.2 fun x hx => ?_]
    obtain ⟨i, hi, rfl⟩ := List.getElem_of_mem hx
    have := this i hi
    rw [getD_get hi] at this
    simpa using this
  | some n =>
    obtain ⟨g1, g2, g3⟩ := firstIf_some hf
    have e0 : (((n : Nat) : Int) == -1) = false := by simp
    simp only [Option.bind_some, e0, cond_false]
    rw [wrap_n1 n (by omega)]
    rw [getD_get g1] at g2
    refine del_gen c t (fun x => decide (x ≠ t)) (fun i j d hij hj hd hk => ?_) (fun i j d hij hj hd hk => ?_) (fun i d hi hd => ?_) n g1 (by simpa using g2) (fun x hx => ?_)
    · have hk' : (ix d (j : Int) == t) = true := by simpa using hk
      simp only [slices_DeleteFunc_int_1_l1, sx hj, t2, cond_true, Bool.and_true, wait_Drop_1, Option.bind_some, hk', Bool.not_true, cond_false, slices_DeleteFunc_int_1_j1, wrap_n1 j (show j < 4611686018427387904 by omega)]
    · have hk' : (ix d (j : Int) == t) = false := by simpa using hk
      simp only [slices_DeleteFunc_int_1_l1, sx hj, sx (show i < d.length by omega), t2, cond_true, Bool.and_true, wait_Drop_1, Option.bind_some, hk', Bool.not_false, slices_DeleteFunc_int_1_j1, wrap_n1 j (show j < 4611686018427387904 by omega), wrap_n1 i (show i < 4611686018427387904 by omega), Int.toNat_natCast]
    · have hwl : (wipe d (i : Int) ((d.length : Nat) : Int)).length = d.length := wipe_len (by omega)
      simp only [slices_DeleteFunc_int_1_l1, decide_eq_false (show ¬ ((d.length : Nat) : Int) < ((d.length : Nat) : Int) by omega), cond_false, t2, decide_eq_true (show ((i : Nat) : Int) ≤ ((d.length : Nat) : Int) by omega), hwl, Bool.and_true, cond_true, Option.map_some]
    · obtain ⟨i, hi, rfl⟩ := List.mem_take_iff_getElem.1 hx
      have := g3 i (by omega)
      rw [getD_get (by omega)] at this
      simpa using this
/-- A task waits in one line. -/
theorem task_line {l : List Line} (h : Ok l) {i : Nat} (hi : i < l.length) {t : Int} (ht : t ∈ (L l i).Tasks) : Place l (L l i).At i ∧ atL l (L l i).At = (L l i).Tasks := by
  have hp : Place l (L l i).At i := ⟨by omega, fun k hk => srt_at h.srt hk hi, fun k hk hn => by
    by_cases he : k = i
    · subst he; exact Int.le_refl _
    · have := srt_at h.srt (show i < k by omega) hn; omega⟩
  exact ⟨hp, (place_hit h.srt hp hi rfl).2⟩
theorem low_mem {l : List Line} {a : Int} {i : Nat} (hi : i < l.length) {t : Int} (ht : t ∈ (L l i).Tasks) (h : (L l i).At < a) : t ∈ low l a := by
  unfold low
  exact List.mem_flatMap.2 ⟨_, List.mem_filter.2 ⟨L_mem hi, by simpa using h⟩, ht⟩
theorem high_mem {l : List Line} {a : Int} {i : Nat} (hi : i < l.length) {t : Int} (ht : t ∈ (L l i).Tasks) (h : a < (L l i).At) : t ∈ high l a := by
  unfold high
  exact List.mem_flatMap.2 ⟨_, List.mem_filter.2 ⟨L_mem hi, by simpa using h⟩, ht⟩
theorem at_unique {l : List Line} (h : Ok l) {i : Nat} (hi : i < l.length) {t a : Int} (ht : t ∈ (L l i).Tasks) (ha : t ∈ atL l a) : (L l i).At = a := by
  have hn := h.nd
  rw [flat_split h a, List.nodup_append] at hn
  have hn1 := (List.nodup_append.1 hn.1).2.2
  by_cases h1 : (L l i).At < a
  · exact absurd rfl (hn1 t (low_mem hi ht h1) t ha)
  · by_cases h2 : a < (L l i).At
    · exact absurd rfl (hn.2.2 t (by simp [ha]) t (high_mem hi ht h2))
    · omega
def keepT (t : Int) (ts : List Int) : List Int := ts.filter fun x => decide (x ≠ t)
theorem Ok.keep {l : List Line} (h : Ok l) (a t : Int) : Ok (setL l a (keepT t (atL l a))) := by
  have hs := flat_split h a
  have hsub : (keepT t (atL l a)).Sublist (atL l a) := List.filter_sublist
  refine h.set a _ (fun x hx => h.pos x (by rw [hs]; simp [hsub.subset hx])) ((List.Sublist.append (List.Sublist.append (List.Sublist.refl _) hsub) (List.Sublist.refl _)).nodup (hs ▸ h.nd)) ?_
  have := congrArg List.length hs
  have := h.tot
  have := hsub.length_le
  simp only [List.length_append] at *
  omega
/-- What Drop answers. -/
theorem drop_eq {l : List Line} (h : Ok l) (t : Int) : ∃ a : Int, (t ∈ flat l → t ∈ atL l a) ∧ wait_Drop l t = some (if t ∈ flat l then (a, ⟨0, 0⟩, setL l a (keepT t (atL l a))) else (0, ⟨6, 0⟩, [])) := by
  obtain ⟨r, hr, hr1, hr2⟩ := of_eq l t h.fit
  unfold wait_Drop
  rw [check_eq l h.fit.fits, lines_ok h, Option.bind_some, hr]
  simp only [show ((0 : Int) != 0) = false from rfl, cond_false, Option.bind_some]
  by_cases hm : t ∈ flat l
  · obtain ⟨i, rfl, hi, ht⟩ := hr1 hm
    obtain ⟨hp, ha⟩ := task_line h hi ht
    refine ⟨(L l i).At, fun _ => by rw [ha]; exact ht, ?_⟩
    have hL : ix l (i : Int) = L l i := rfl
    have hfi := fits_at h.fit.fits hi
    rw [if_pos hm, decide_eq_false (by omega), cond_false]
    simp only [t1 hi, t2, Bool.and_true, cond_true, hL, clone_eq _ (show (L l i).Tasks.length ≤ 10000000 by omega), Option.bind_some, del_eq _ t hfi]
    rw [with_hit h hp hi rfl _ (Nat.le_trans (List.length_filter_le _ _) (by omega)), Option.bind_some, ha]
    rfl
  · rw [hr2 hm]
    exact ⟨0, fun h => absurd h hm, by rw [if_neg hm]; rfl⟩
theorem drop_bad {l : List Line} (hf : Fit l) (t : Int) (hc : (linesF l).Code ≠ 0) : wait_Drop l t = some (0, linesF l, []) := by
  unfold wait_Drop
  have e1 : ((linesF l).Code != 0) = true := by simpa using hc
  rw [check_eq l hf.fits, Option.bind_some, e1]; rfl
theorem waitDrops (l : List Line) (t : Int) (hf : Fit l) : taskmilllaw_WaitDrops l t = some true := by
  unfold taskmilllaw_WaitDrops
  rw [begun, Option.bind_some, vast_eq l hf]
  simp only [Bool.not_true, cond_false, Option.bind_some]
  cases hv : (decide (6000 < l.length) || decide (6000 < (flat l).length)) with
  | true => rfl
  | false =>
    rw [cond_false, ownLines_eq l hf, Option.bind_some]
    have bad : ∀ w : Fault, (w.Code == 0) = false → taskmilllaw_WaitDrops_j3 l t 0 [] w w = some true := fun w hw => by
      have hw' : (w.Code != 0) = true := by simp [bne, hw]
      unfold taskmilllaw_WaitDrops_j3
      rw [same_fault, cond_false, hw', cond_true]; rfl
    by_cases hc : (linesF l).Code = 0
    · have h := (lines_code l).1 hc
      obtain ⟨a, ha, hd⟩ := drop_eq h t
      have h3 := hf.tot
      rw [hd, Option.bind_some, lines_eq l hf.fits, Option.bind_some, lines_ok h]
      simp only [show ((0 : Int) == 0) = true from rfl, cond_true, waiting_eq l hf, Option.bind_some, has_eq (flat l) t (by omega)]
      unfold taskmilllaw_WaitDrops_j4
      by_cases hm : t ∈ flat l
      · have hta := ha hm
        have hal := atL_len l a h
        have hk := h.keep a t
        rw [if_pos hm, decide_eq_true hm]
        simp only [Bool.not_true, cond_false]
        unfold taskmilllaw_WaitDrops_j3
        simp only [s00, cond_false, show ((0 : Int) != 0) = false from rfl, at_eq l a hf.len, Option.bind_some]
        have := loopO_up (step := taskmilllaw_WaitDrops_l1 l t a (setL l a (keepT t (atL l a)))) (atL l a).length (fun i (_ : Unit) => (atL l a, (i : Int), keepT t ((atL l a).take i))) (fun _ _ => True) (fun _ _ => some true)
          (fun _ _ => by
            simp only [taskmilllaw_WaitDrops_l1, decide_eq_false (show ¬ (((atL l a).length : Nat) : Int) < (((atL l a).length : Nat) : Int) by omega), cond_false, has_eq (atL l a) t (by omega), decide_eq_true hta, Option.bind_some, cond_true, List.take_length, set_eq l a _ hf.len h.srt, same_eq _ _ hk.fit, decide_true, taskmilllaw_WaitDrops_j2]) (fun i _ hi _ => by
            refine .inl ⟨(), ?_, trivial, rfl⟩
            have hkl : (keepT t ((atL l a).take i)).length ≤ i := Nat.le_trans (List.length_filter_le _ _) (by rw [List.length_take]; omega)
            have hkn : keepT t ((atL l a).take (i + 1)) = if (atL l a).getD i 0 = t then keepT t ((atL l a).take i) else keepT t ((atL l a).take i) ++ [(atL l a).getD i 0] := by
              unfold keepT
              rw [List.take_succ_eq_append_getElem hi, List.filter_append, getD_get hi]
              split
              · rename_i he; simp [he]
              · rename_i he; simp [he]
            by_cases he : (atL l a).getD i 0 = t
            · have he' : ((atL l a).getD i 0 != t) = false := by simpa using he
              rw [hkn, if_pos he]
              simp only [taskmilllaw_WaitDrops_l1, sx hi, t2, cond_true, cond_false, Bool.and_true, ix_int hi, he', taskmilllaw_WaitDrops_j1, wrap_n1 i (show i < 4611686018427387904 by omega)]
            · have he' : ((atL l a).getD i 0 != t) = true := by simpa using he
              have k : (keepT t ((atL l a).take i) ++ [(atL l a).getD i 0]).length * 8 ≤ 140737488355328 := by simp; omega
              rw [hkn, if_neg he]
              simp only [taskmilllaw_WaitDrops_l1, sx hi, t2, cond_true, Bool.and_true, ix_int hi, he', decide_eq_true k, taskmilllaw_WaitDrops_j1, wrap_n1 i (show i < 4611686018427387904 by omega)]) () trivial
        exact this
      · rw [if_neg hm, decide_eq_false hm]
        simp only [Bool.not_false, cond_true]
        exact bad ⟨6, 0⟩ rfl
    · have e0 : ((linesF l).Code == 0) = false := by simpa using hc
      rw [drop_bad hf t hc, Option.bind_some, lines_eq l hf.fits, Option.bind_some, e0, cond_false]
      unfold taskmilllaw_WaitDrops_j4
      exact bad _ e0
/-! ### Halves -/
theorem atL_left {b : Int} : ∀ {l r : List Line}, (∀ w ∈ r, w.At ≠ b) → atL (l ++ r) b = atL l b
  | [], r, h => by rw [List.nil_append, atL_none h]; rfl
  | w :: l, r, h => by rw [List.cons_append, atL, atL, atL_left h]
theorem atL_filter {b : Int} {p : Line → Bool} : ∀ {l : List Line}, (∀ w : Line, w.At = b → p w = true) → atL (l.filter p) b = atL l b
  | [], h => rfl
  | w :: l, h => by
    by_cases hw : w.At = b
    · rw [List.filter_cons_of_pos (h w hw), atL, atL, if_pos hw, if_pos hw]
    · cases hp : p w with
      | true => rw [List.filter_cons_of_pos hp, atL, atL, if_neg hw, if_neg hw, atL_filter h]
      | false => rw [List.filter_cons_of_neg (by simp [hp]), atL, if_neg hw, atL_filter h]
theorem atL_other (l : List Line) {a b : Int} (x : List Int) (hab : a ≠ b) : atL (setL l a x) b = atL l b := by
  unfold setL
  by_cases h : b < a
  · rw [atL_left fun w hw => by have := (List.mem_filter.1 hw).2; simp at this; omega, atL_left fun w hw => by have := (one_at hw).1; omega]
    exact atL_filter fun w hw => by simp; omega
  · rw [atL_app fun w hw => ?_]
    · exact atL_filter fun w hw => by simp; omega
    · rcases List.mem_append.1 hw with hw | hw
      · have := (List.mem_filter.1 hw).2; simp at this; omega
      · have := (one_at hw).1; omega
theorem wake_ok {l : List Line} (h : Ok l) (a n : Int) : wait_Wake l a n = some (wakeR l a n) := by
  rw [wake_eq l a n h.fit, lines_ok h, if_neg (by simp)]
theorem waitHalves (l : List Line) (a to m n : Int) (hf : Fit l) : taskmilllaw_WaitHalves l a to m n = some true := by
  unfold taskmilllaw_WaitHalves
  rw [begun, Option.bind_some, vast_eq l hf]
  have triv : taskmilllaw_WaitHalves_j5 l a to m n true = some true := rfl
  simp only [Bool.not_true, cond_false, Option.bind_some]
  cases hv : (decide (6000 < l.length) || decide (6000 < (flat l).length)) with
  | true => exact triv
  | false =>
    rw [cond_false, waiting_eq l hf, Option.bind_some]
    by_cases h300 : (300 : Int) < (((flat l).length : Nat) : Int)
    · rw [decide_eq_true h300]; exact triv
    rw [decide_eq_false h300, cond_false, lines_eq l hf.fits, Option.bind_some]
    by_cases hc : (linesF l).Code = 0
    case neg =>
      have e1 : ((linesF l).Code != 0) = true := by simpa using hc
      rw [e1]; exact triv
    have e1 : ((linesF l).Code != 0) = false := by simp [hc]
    have h := (lines_code l).1 hc
    rw [e1, cond_false]
    by_cases hm0 : m < 0
    · rw [decide_eq_true hm0]; exact triv
    rw [decide_eq_false hm0, cond_false]
    by_cases hn0 : n < 0
    · rw [decide_eq_true hn0]; exact triv
    rw [decide_eq_false hn0, cond_false]
    by_cases hm1 : 1000 < m
    · rw [decide_eq_true hm1]; exact triv
    rw [decide_eq_false hm1, cond_false]
    by_cases hn1 : 1000 < n
    · rw [decide_eq_true hn1]; exact triv
    rw [decide_eq_false hn1, cond_false]
    by_cases hto : a = to
    · have : (a == to) = true := by simpa using hto
      rw [this]; exact triv
    have hto' : (a == to) = false := by simpa using hto
    rw [hto']
    unfold taskmilllaw_WaitHalves_j5
    have hal := atL_len l a h
    have hw : IntKind.i64.wrap (m + n) = m + n := wrap_id (by omega) (by omega)
    have hd := h.drop a m.toNat
    have hmn : (m + n).toNat = m.toNat + n.toNat := by omega
    have hb : setL (setL l a ((atL l a).drop m.toNat)) a ((atL (setL l a ((atL l a).drop m.toNat)) a).drop n.toNat) = setL l a ((atL l a).drop (m + n).toNat) := by
      rw [setL_setL, setL_at, List.drop_drop, hmn]
    have hdd := h.drop a (m + n).toNat
    have htt : (atL l a).take m.toNat ++ ((atL l a).drop m.toNat).take n.toNat = (atL l a).take (m + n).toNat := by rw [hmn, List.take_add]
    have k : ((atL l a).take (m + n).toNat).length * 8 ≤ 140737488355328 := by rw [List.length_take]; omega
    have hu : (atL l a).take (m + n).toNat = (atL l a).take (m + n).toNat := rfl
    rw [cond_false, wake_ok h, Option.bind_some]
    simp only [wakeR]
    rw [wake_ok hd, Option.bind_some, hw, wake_ok h, Option.bind_some]
    simp only [wakeR, show ((0 : Int) != 0) = false from rfl, cond_false]
    rw [hb, same_eq _ _ hdd.fit]
    simp only [decide_true, Option.bind_some, Bool.not_true, cond_false, own_eq _ (show ((atL l a).take m.toNat).length ≤ 10000000 by rw [List.length_take]; omega), setL_at, htt, decide_eq_true k, cond_true, ints_eq _ _ (show ((atL l a).take (m + n).toNat).length < 4611686018427387904 by rw [List.length_take]; omega)]
    -- the end
    have fin : taskmilllaw_WaitHalves_j2 l a to m n ((atL l a).take (m + n).toNat) = some true := by
      obtain ⟨hmv, hmok⟩ := move_eq h a to (m + n)
      unfold taskmilllaw_WaitHalves_j2
      rw [hw, hmv, Option.bind_some]
      simp only [show ((0 : Int) != 0) = false from rfl, cond_false]
      have hlt := atL_len l to h
      have k2 : (atL l to ++ (atL l a).take (m + n).toNat).length ≤ 5000 := by
        have := atL_len _ to hmok
        rwa [setL_at, atL_other l _ hto] at this
      have k3 : (atL l to ++ (atL l a).take (m + n).toNat).length * 8 ≤ 140737488355328 := by omega
      rw [wake_ok hmok, Option.bind_some]
      simp only [wakeR, show ((0 : Int) == 0) = true from rfl, cond_true, at_eq l to hf.len, Option.bind_some, own_eq (atL l to) (by omega), decide_eq_true k3, setL_at, atL_other l _ hto, show (5000 : Int).toNat = 5000 from rfl, List.take_of_length_le k2,
        ints_eq _ _ (show (atL l to ++ (atL l a).take (m + n).toNat).length < 4611686018427387904 by omega), decide_true, taskmilllaw_WaitHalves_j1]
    unfold taskmilllaw_WaitHalves_j4
    rw [cond_false]
    by_cases hu0 : ((atL l a).take (m + n).toNat) = []
    · rw [hu0]
      rw [hu0] at fin
      exact fin
    · have hpos := List.length_pos_iff.2 hu0
      have hix : ix ((atL l a).take (m + n).toNat) (0 : Int) = ((atL l a).take (m + n).toNat)[0] := ix_get (i := 0) hpos
      generalize hgen : ((atL l a).take (m + n).toNat)[0] = u0 at hix
      have hmem : u0 ∈ atL l a := by rw [← hgen]; exact List.mem_of_mem_take (List.getElem_mem hpos)
      have hfl : u0 ∈ flat l := by rw [flat_split h a]; simp [hmem]
      obtain ⟨x, hx, hdr⟩ := drop_eq h u0
      have hxa : x = a := by
        obtain ⟨r, hr, hr1, _⟩ := of_eq l u0 h.fit
        obtain ⟨i, _, hi, hti⟩ := hr1 hfl
        exact (at_unique h hi hti (hx hfl)).symm.trans (at_unique h hi hti hmem)
      subst hxa
      rw [if_pos hfl] at hdr
      have hk := h.keep x u0
      have hal2 := atL_len _ x hk
      have d0 : decide ((0 : Int) < ((((atL l x).take (m + n).toNat).length : Nat) : Int)) = true := decide_eq_true (by omega)
      rw [d0]
      simp only [cond_true, hix, hdr, Option.bind_some, show ((0 : Int) != 0) = false from rfl, bne_self_eq_false, Bool.or_self, cond_false, hw, wake_ok hk, wakeR]
      rw [setL_at] at hal2 ⊢
      have hnot : u0 ∉ (keepT u0 (atL l x)).take (m + n).toNat := fun hh => by
        have := List.mem_of_mem_take hh
        simp [keepT] at this
      rw [has_eq _ _ (by rw [List.length_take]; omega), Option.bind_some, decide_eq_false hnot]
      unfold taskmilllaw_WaitHalves_j3
      exact fin
end Go.Proofs.Ytnnpjaoddniifaa
