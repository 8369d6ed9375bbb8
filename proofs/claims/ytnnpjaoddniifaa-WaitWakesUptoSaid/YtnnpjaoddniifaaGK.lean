/-
  G, part K: an own slice that is given away for good, to a function that takes it as one that nobody writes.
-/
import Derived.Test.YtnnpjaoddniifaaGJ
set_option linter.unusedSimpArgs false
set_option linter.unusedVariables false
namespace Go.Sx
open Go.RowKit
set_option linter.unusedVariables false
variable {P : Program}

theorem getH_above {l : Hp} {n : Nat} (h : l.all (fun p => Nat.blt p.1 n) = true) (k : Nat) (hk : n ≤ k) : getH l k = .unborn := by
  refine getH_unlisted fun ⟨p, hp, he⟩ => ?_
  have := List.all_eq_true.1 h p hp
  rw [Nat.blt_eq] at this
  omega
theorem SpecW.give {f : FuncId} {args : List SV} {hin : Hp} {m : Nat} {X : SV} {H : Hp} {nn : Nat} (spec : SpecW P f args hin m (fun x h n => x = X ∧ h = H ∧ n = nn)) (hin2 : Hp) (args2 : List SV) (sig : List (Nat × Nat)) (X2 : SV) (H2 : Hp)
    (h1 : leL hin2 hin sig [m] args2 args) (h2 : leH hin2 hin sig [m] hin) (b1 : leL hin hin sig [] args args) (b2 : leH hin hin sig [] hin)
    (h3 : (okN (m + 1) sig [m], okH (m + 1) (m + 1) sig hin, okN 0 sig [], okH 0 m sig hin, okC m hin sig, wfH H) = (true, true, true, true, true, true))
    (e1 : renS (bck (getN sig) (m + 1)) X = X2) (e2 : back (getN sig) (m + 1) m H = H2) (h4 : (hin.all (fun p => H2.any fun q => q.1 == p.1), H2.all (fun p => Nat.blt p.1 (m + 1 + nn))) = (true, true)) :
    SpecW P f args2 hin2 (m + 1) (fun x h n => x = X2 ∧ h = H2 ∧ n = m + 1 + nn) := by
  simp only [Prod.mk.injEq] at h3 h4
  obtain ⟨k1, k2, k3, k4, k5, k6⟩ := h3
  obtain ⟨k7, k8⟩ := h4
  refine ⟨spec.1, fun Y vals hP hm hF hsz hd => ?_⟩
  subst hP
  obtain ⟨l1, l2⟩ := leL_get h1
  obtain ⟨l3, l4⟩ := leL_get b1
  have hsub : Sub Y.P (getH hin2) (getH hin) (getN sig) (· ∈ [m]) := sub_mk h2 k1
  obtain ⟨ids', hF', hden⟩ := weaken (nx' := m + 1) hF.toHeapC hsub (okH_fresh k2) (fun k hk hl => by
    rw [hm] at hk
    refine okH_kept (fun p hp => ?_) k2 k hk hl
    simp only [okN, Bool.and_eq_true, List.all_eq_true] at k1
    have := (k1.2 p hp).2
    simpa using this) (by rw [hm]; exact Nat.le_refl _)
  have hok : ∀ k j, getN sig k = some j → k < m ∧ liveK hin k = true := fun k j hk => by
    simp only [okC, List.all_eq_true, Bool.and_eq_true] at k5
    obtain ⟨h6, h7⟩ := k5 _ (getN_mem hk)
    exact ⟨by simpa [Nat.blt_eq] using h6, h7⟩
  have inj : ∀ k1 k2 j, getN sig k1 = some j → getN sig k2 = some j → k1 = k2 := by
    simp only [okN, Bool.and_eq_true] at k3
    exact nodupN_inj k3.1
  have fresh : ∀ k, m ≤ k → getN sig k = none ∧ getH hin k = .unborn := fun k hk => ⟨by
    cases hn : getN sig k with
    | none => rfl
    | some j => have := (hok k j hn).1; omega, okH_fresh k4 k hk⟩
  have hsub2 : Sub Y.P (getH hin) (getH hin) (getN sig) (· ∈ ([] : List Nat)) := sub_mk b2 k3
  refine (call_sound (nx := m + 1) (args := args) hF'.toHeapC (by rw [hm]; exact Nat.le_refl _) spec hsub2 fresh inj (fun k j hk => (hok k j hk).2) rfl (fun i x y hx hy => leS_sound (l4 i x y hx hy)) (vals := vals) (by rw [hsz, l1]) (fun i x hx => ?_)).mono ?_
  · have hlt := (List.getElem?_eq_some_iff.1 hx).1
    have hx2 := List.getElem?_eq_getElem (show i < args2.length by omega)
    exact hden _ _ _ (leS_sound (l2 i _ x hx2 hx)) (hd i _ hx2)
  · rintro e w' ⟨r, res, hp', nx', rfl, ⟨rfl, rfl, rfl⟩, ⟨c1, c2⟩, c3⟩
    obtain ⟨ids2, d1, d2, d3⟩ := c3 ⟨k6, fun k hk => okH_fresh k4 _ (by omega), .inl fun k hk => by cases hk⟩
    rw [e2] at d1 d2 d3
    rw [e1] at d3
    have hg : getH (H2 ++ hin) = getH H2 := by
      funext k
      rw [getH_append]
      split
      · rfl
      · rename_i hn
        rw [getH_unlisted hn]
        refine getH_unlisted fun ⟨p, hp, he⟩ => hn ?_
        have := List.all_eq_true.1 k7 p hp
        simp only [List.any_eq_true, beq_iff_eq] at this
        obtain ⟨q, hq, hqe⟩ := this
        exact ⟨q, hq, hqe.trans he⟩
    exact ⟨r, X2, H2, _, ids2, rfl, ⟨rfl, rfl, rfl⟩, ⟨d1.congr hg, getH_above k8, by rw [hm]; exact Nat.le_add_right _ _⟩, d3.congr hg⟩

/-! ### A nil slice in a literal: an empty one -/
def nilS : SV → SV
  | .v (.slice none 0 0) => .sl 0 []
  | x => x
theorem den_nilS {C : Nat → Chunk} {ids : Ids} {I : Nat → Prop} {w : World} {s : SV} {x : Value} (h : Den P C ids I w s x) : Den P C ids I w (nilS s) x := by
  unfold nilS
  split
  · obtain rfl := den_v h
    exact .sl0 (by unfold maxLen; omega)
  · exact h
theorem retell {X : Cx} {hp : Hp} {ids : Ids} {w : World} (h : HeapC X hp ids w) {k b o : Nat} {e : TypeId} {cs : List SV} (hk : getH hp k = .row e cs) (hi : ids k = some (b, o)) :
    HeapC X ((k, .row e (cs.map nilS)) :: hp) ids w ∧ ExtX X hp ids w ((k, .row e (cs.map nilS)) :: hp) ids w := by
  have hlk : (getH hp k).live = true := by rw [hk]; rfl
  have hch := h.st.ch k
  rw [hk] at hch
  simp only [DenC, hi] at hch
  obtain ⟨arr, ha, hl, hx⟩ := hch
  have hsk : SameKind (getH hp k) (.row e (cs.map nilS)) := by rw [hk]; exact ⟨rfl, by rw [List.length_map]; exact Nat.le_refl _⟩
  have hE := h.st.turn_ext hlk hi (c := .row e (cs.map nilS)) rfl hsk (w' := w) rfl (fun j _ => rfl) (SameShape.refl _)
  have hC : getH ((k, .row e (cs.map nilS)) :: hp) = upd (getH hp) k (.row e (cs.map nilS)) := getH_upd k _ hp
  refine ⟨⟨?_, fun j hj hjl => ?_⟩, ?_⟩
  · rw [hC]
    refine h.st.turn hlk hi rfl hsk rfl (fun j _ => rfl) (SameShape.refl _) rfl rfl rfl ?_
    simp only [DenC, hi]
    refine ⟨arr, ha, by rw [List.length_map]; exact hl, fun i x hix => ?_⟩
    rw [List.getElem?_map] at hix
    cases hq : cs[i]? with
    | none => rw [hq] at hix; cases hix
    | some y => rw [hq] at hix; cases hix; exact (den_nilS (hx i y hq)).mono hE
  · rw [hC] at hjl ⊢
    have hlo : (getH hp j).live = true := by
      by_cases hjk : j = k
      · subst hjk; exact hlk
      · rwa [upd_ne _ _ hjk] at hjl
    exact (h.kept j hj hlo).step hE hlo hjl
  · simp only [ExtX, hC]; exact hE
variable {fr : Fr} {hp : Hp} {nx : Nat} {ops : Array Oper}
theorem run_nilF {d : Bool} {l : List Oper} {acc : List Nms} {K : Fr → Hp → Nat → Prop} (dst : Option Tmp) (n : Nat) (e : TypeId) (cs cs' : List SV)
    (hc : (headOp P ops fr l).map (fun o => (o.dst, opS P true fr hp nx o.type o.op)) = some (dst, .ok True ⟨.own nx 0 n, [(nx, .row e cs)], nx + 1, []⟩)) (hn : Nat.blt 0 n = true) (hw : cs.map nilS = cs')
    (h : RunAt P d ops (l.drop 1) (putF dst (.own nx 0 n) fr) ([(nx, .row e cs')] ++ hp) (bif d then nx + 2 else nx + 1) (acc ++ [⟨[nx], [], nx, nx + 1⟩]) K) : RunAt P d ops l fr hp nx acc K := by
  obtain ⟨o, ho, hh⟩ := Option.map_eq_some_iff.1 hc
  simp only [Prod.mk.injEq] at hh
  obtain ⟨rfl, hop⟩ := hh
  subst hw
  refine run_sem o ⟨.own nx 0 n, [(nx, .row e (cs.map nilS))], nx + 1, []⟩ ho (Nat.le_succ _) ?_ h
  intro X ids w fr' hp' a hP h1 h2 h3 h4 h5 h6 KK Q hK
  subst hP
  have hop' := opS_local (hp' := hp') hop h4 (fun k hk => by cases hk)
  obtain ⟨x, w', ids', g1, g2, g3, g4⟩ := op_sound (nx := nx) ⟨h1, h5, h2⟩ h3 (g := true) rfl hop' trivial
  have g2' : HeapC X ((nx, Chunk.row e cs) :: hp') ids' w' := g2
  have hrow : getH ((nx, Chunk.row e cs) :: hp') nx = .row e cs := by rw [getH_upd, upd_same]
  have g4' : DenX X ((nx, Chunk.row e cs) :: hp') ids' w' (.own nx 0 n) x := g4
  obtain ⟨ad, cap, hxv, c1, c2, c3, c4⟩ := den_own g4' (by rw [hrow]; rfl)
  have hn' : 0 < n := by simpa [Nat.blt_eq] using hn
  obtain ⟨b, q, e2, cs2, arr, hC2, hid, _⟩ : ∃ b o e' cs' arr, getH ((nx, Chunk.row e cs) :: hp') nx = .row e' cs' ∧ ids' nx = some (b, o) ∧ ad = some ⟨b, o + 0, none⟩ ∧ w'.heap[b]? = some (.cells arr e' (0, 0)) ∧ o + 0 + cap * X.P.cellsOf e' ≤ arr.size := by
    rcases c4 with ⟨h, _⟩ | h
    · omega
    · exact h
  obtain ⟨r1, r2⟩ := retell g2' hrow hid
  have hg : getH ((nx, Chunk.row e (cs.map nilS)) :: (nx, Chunk.row e cs) :: hp') = getH ([(nx, Chunk.row e (cs.map nilS))] ++ hp') := by
    show _ = getH ((nx, _) :: hp')
    rw [getH_upd, getH_upd, getH_upd]
    funext j
    unfold upd
    split <;> rfl
  refine wp_of_soundN g1 (hK (.own nx 0 n) [(nx, .row e (cs.map nilS))] (nx + 1) [] x w' ids' ⟨rfl, rfl, rfl, rfl⟩ ⟨Nat.le_succ _, fun p hp => ?_⟩ (r1.congr hg) ?_ ?_)
  · simp only [List.mem_singleton] at hp
    subst hp
    exact .inl ⟨Nat.le_refl _, Nat.lt_succ_self _⟩
  · have := Ext_trans' g3 r2
    simp only [ExtX, hg] at this
    exact this
  · exact DenX.congr (g4'.mono r2) hg
end Go.Sx
