/-
  Lemmas, put together: HS.
  No conditions.
-/
import Derived.Test.YticigkhhhmiglaadictA3
set_option linter.unusedSimpArgs false
set_option linter.unusedVariables false
section
namespace Go.Sx
open Go.RowKit
set_option linter.unusedVariables false
set_option linter.unusedSimpArgs false
variable {P : Program}
theorem SpecW.giveG {f : FuncId} {args : List SV} {hin : Hp} {m : Nat} {X : SV} {H : Hp} {nn : Nat} (spec : SpecW P f args hin m (fun x h n => x = X ∧ h = H ∧ n = nn)) (G : List Nm) (m2 : Nat) (hin2 : Hp) (args2 : List SV) (sig : List (Nm × Nm)) (X2 : SV) (H2 : Hp)
    (hm2 : m ≤ m2) (h1 : leL hin2 hin sig G args2 args) (h2 : leH hin2 hin sig G hin) (b1 : leL hin hin sig [] args args) (b2 : leH hin hin sig [] hin)
    (h3 : (okN m2 sig G, okH m2 m2 sig hin, okN 0 sig [], okH 0 m sig hin, okC m hin sig, wfH H) = (true, true, true, true, true, true))
    (e1 : renS (bck (getN sig) m2) X = X2) (e2 : back (getN sig) m2 m H hin = H2) (h4 : (hin.all (fun p => H2.any fun q => q.1.eqk p.1), H2.all (fun p => Nat.blt p.1.base (m2 + nn))) = (true, true)) (hfam : famOk hin hin sig := by simp only [famOk, and_self]) :
    SpecW P f args2 hin2 m2 (fun x h n => x = X2 ∧ h = H2 ∧ n = m2 + nn) := by
  simp only [Prod.mk.injEq] at h3 h4
  obtain ⟨k1, k2, k3, k4, k5, k6⟩ := h3
  obtain ⟨k7, k8⟩ := h4
  refine ⟨spec.1, fun Y vals hP hm hF hsz hd => ?_⟩
  subst hP
  obtain ⟨l1, l2⟩ := leL_get h1
  obtain ⟨l3, l4⟩ := leL_get b1
  have hsub : Sub Y.P (getH hin2) (getH hin) (getN sig) (InK G) := sub_mk h2 k1
  obtain ⟨ids', hF', hden⟩ := weaken (nx' := m2) hF.toHeapC hsub (okH_fresh k2) (fun k hk hl => by
    rw [hm] at hk
    refine okH_kept (fun p hp => ?_) k2 k hk hl
    simp only [okN, Bool.and_eq_true, List.all_eq_true] at k1
    have := (k1.2 p hp).2
    simpa using this) (by rw [hm]; exact Nat.le_refl _)
  have hok := handed_ok k5 hfam
  have inj : ∀ k1 k2 j, getN sig k1 = some j → getN sig k2 = some j → k1 = k2 := by
    simp only [okN, Bool.and_eq_true] at k3
    exact nodupN_inj k3.1.1 k3.1.2
  have fresh : ∀ k : Nm, m ≤ k.base → getN sig k = none ∧ getH hin k = .unborn := fun k hk => ⟨by
    cases hn : getN sig k with
    | none => rfl
    | some j => have := (hok k j hn).1; omega, okH_fresh k4 k hk⟩
  have hsub2 : Sub Y.P (getH hin) (getH hin) (getN sig) (InK []) := sub_mk b2 k3
  refine (call_sound (nx := m2) (args := args) hF'.toHeapC (by rw [hm]; exact Nat.le_refl _) spec hsub2 (getN_sig sig) fresh inj (fun k j hk => (hok k j hk).2) rfl (fun i x y hx hy => leS_sound (l4 i x y hx hy)) (vals := vals) (by rw [hsz, l1]) (fun i x hx => ?_)).mono ?_
  · have hlt := (List.getElem?_eq_some_iff.1 hx).1
    have hx2 := List.getElem?_eq_getElem (show i < args2.length by omega)
    exact hden _ _ _ (leS_sound (l2 i _ x hx2 hx)) (hd i _ hx2)
  · rintro e w' ⟨r, res, hp', nx', rfl, ⟨rfl, rfl, rfl⟩, ⟨c1, c2⟩, c3⟩
    obtain ⟨ids2, d1, d2, d3⟩ := c3 ⟨k6, fun k hk => okH_fresh k4 _ (by simp; omega), .inl inK_nil⟩
    rw [e2] at d1 d2 d3
    rw [e1] at d3
    have hg : getH (H2 ++ hin) = getH H2 := by
      funext k
      rw [getH_append]
      split
      · rfl
      · rename_i hn
        rw [getH_unlisted hn]
        refine getH_unlisted fun ⟨p, hp, he⟩ => hn ?_
        have := List.all_eq_true.1 k7 p hp
        simp only [List.any_eq_true] at this
        obtain ⟨q, hq, hqe⟩ := this
        exact ⟨q, hq, (Nm.eqk_iff.1 hqe).trans he⟩
    exact ⟨r, X2, H2, _, ids2, rfl, ⟨rfl, rfl, rfl⟩, ⟨d1.congr hg, getH_above k8, by rw [hm]; exact Nat.le_add_right _ _⟩, d3.congr hg⟩


/-! ### make, of elements that hold nil slices which nobody writes -/
theorem ghost_nil {hp : Hp} {nx r : Nat} {e : TypeId} {cs cs' : List SV} (hR : getH hp (.t r) = .row e cs) (hw : cs.map nilS = cs') : Ghost P nx 0 [Nm.t r] hp [(Nm.t r, .row e cs')] := by
  intro X ids w hp' hP hm hC hag hf
  have hk : getH hp' (.t r) = .row e cs := (hag (.t r) (by simp [Nm.key])).trans hR
  subst hw
  have := heap_retell hC hk (cs' := cs.map nilS) (by simp) (fun i x y v h1 h2 h3 => by
    rw [List.getElem?_map, h1] at h2
    cases h2
    exact den_nilS h3)
  exact ⟨ids, this⟩
theorem nil_rep {α : Type} [Enc α] (n : Nat) (zs : List SV) (hzs : zs.map nilS = Enc.cells (default : α)) : ((List.range n).flatMap fun _ => zs).map nilS = fl (List.replicate n (default : α)) := by
  rw [← fl_zeros n (zs.map nilS) hzs, List.map_flatMap]
theorem ob_mk0 {α : Type} (n : Int) (e : TypeId) (B : Nat) (hB : P.bytesOf e = B) (zs : List SV) (z : Nat) (hz : zs.length = z) (hpos : 0 < z) (d : α) (k : 0 ≤ n ∧ n ≤ 4611686018427387904 ∧ (B : Int) * n ≤ 140737488355328) (nx : Nat) :
    resOb (.ok (0 ≤ n ∧ n ≤ n ∧ n ≤ 4611686018427387904 ∧ (P.bytesOf e : Int) * n ≤ 140737488355328 ∧ zs.length = z ∧ 0 < z) ⟨.own nx 0 n.toNat, [(Nm.t nx, .row e ((List.range n.toNat).flatMap fun _ => zs))], nx + 1, []⟩) ⟨.own nx 0 (List.replicate n.toNat d).length, [(Nm.t nx, .row e ((List.range n.toNat).flatMap fun _ => zs))], nx + 1, []⟩ := by
  subst hB
  exact ob_ok ⟨k.1, Int.le_refl _, k.2.1, k.2.2, hz, hpos⟩ (by rw [List.length_replicate]) rfl
end Go.Sx
end
