/-
  Sx, part Q: a call by contract.
-/
import Derived.Test.YtnnpjaoddniifaaSxP
set_option linter.unusedSimpArgs false
set_option linter.unusedVariables false
namespace Go.Sx
set_option linter.unusedVariables false
open Go.RowKit
variable {X : Cx} {hp : Hp} {nx : Nat} {ids : Ids} {w : World}

def wfH (hp : Hp) : Bool := hp.all fun p => match p.2 with | .unborn => false | _ => true
theorem wfH_get {hp : Hp} (h : wfH hp = true) {k : Nat} (hk : ∃ p ∈ hp, p.1 = k) : getH hp k ≠ .unborn := by
  induction hp with
  | nil => obtain ⟨p, hp, _⟩ := hk; cases hp
  | cons p r ih =>
    simp only [wfH, List.all_cons, Bool.and_eq_true] at h
    simp only [getH]
    by_cases hpk : p.1 = k
    · rw [show (p.1 == k) = true from by simpa using hpk, cond_true]
      intro e; rw [e] at h; exact absurd h.1 (by simp)
    · rw [show (p.1 == k) = false from by simpa using hpk, cond_false]
      obtain ⟨q, hq, hqk⟩ := hk
      rcases List.mem_cons.1 hq with rfl | hq
      · exact absurd hqk hpk
      · exact ih h.2 ⟨q, hq, hqk⟩

theorem SameKind.ren {a b : Chunk} (h : SameKind a b) (τ : Nat → Nat) : SameKind a (renC τ b) := by cases a <;> cases b <;> simp_all [SameKind, renC, renL_map]

theorem getH_map' {τ : Nat → Nat} {l : Hp} {k : Nat} (hτ : ∀ p ∈ l, τ p.1 = τ k → p.1 = k) : getH (l.map fun p => (τ p.1, renC τ p.2)) (τ k) = renC τ (getH l k) := by
  induction l with
  | nil => rfl
  | cons p l ih =>
    have ih' := ih fun q hq => hτ q (by simp [hq])
    simp only [List.map_cons, getH]
    by_cases h : p.1 = k
    · subst h; simp
    · rw [show (τ p.1 == τ k) = false from by simp; exact fun e => h (hτ p (by simp) e), show (p.1 == k) = false from by simpa using h, cond_false, cond_false, ih']

theorem denC_ren {P : Program} {C C2 : Nat → Chunk} {ids ids2 : Ids} {I I2 : Nat → Prop} {w : World} {τ : Nat → Nat} (hC : ∀ k, C k ≠ .unborn → C2 (τ k) = renC τ (C k) ∧ ((C k).live = true → ids2 (τ k) = ids k)) {im : Bool} (hI : im = true → ∀ b, I b → I2 b)
    {k : Nat} {c : Chunk} (hl : c.live = true) (hid : ids2 (τ k) = ids k) (h : DenC P C ids I w k c) (hn : im = false → nimC c = true) : DenC P C2 ids2 I2 w (τ k) (renC τ c) := by
  cases c with
  | unborn => cases hl
  | dead => cases hl
  | row e cs =>
    simp only [DenC, renC, hid] at h ⊢
    cases hik : ids k with
    | none => rw [hik] at h; simp only at h; subst h; rfl
    | some p =>
      obtain ⟨b, o⟩ := p
      rw [hik] at h
      obtain ⟨arr, ha, hs, hx⟩ := h
      refine ⟨arr, ha, by rw [renL_map, List.length_map]; exact hs, fun i y hy => ?_⟩
      obtain ⟨x, hxi, rfl⟩ := renS_get hy
      exact den_ren hC hI (hx i x hxi) fun he => nimL_get (hn he) i x hxi
  | map es =>
    obtain ⟨b, arr, clock, h1, h2, h3, h4⟩ := h
    refine ⟨b, arr, clock, hid.trans h1, h2, by simp [h3], fun i y hy => ?_⟩
    rw [List.getElem?_map] at hy
    cases hei : es[i]? with
    | none => rw [hei] at hy; cases hy
    | some x =>
      rw [hei] at hy; cases hy
      obtain ⟨g1, g2⟩ := h4 i x hei
      refine ⟨g1, den_ren hC hI g2 fun he => ?_⟩
      have := hn he
      simp only [nimC, List.all_eq_true] at this
      exact this x (List.mem_of_getElem? hei)
  | obj s pos =>
    obtain ⟨b, h1, h2⟩ := h
    exact ⟨b, hid.trans h1, h2⟩

set_option maxHeartbeats 1000000 in
theorem call_sound (h : HeapC X hp ids w) (hmnx : X.m ≤ nx) {f : FuncId} {args args' : List SV} {hin : Hp} {m : Nat} {Post : SV → Hp → Nat → Prop} (hspec : SpecW X.P f args' hin m Post) {σ : Nat → Option Nat} {bor : Nat → Prop}
    (hS : Sub X.P (getH hp) (getH hin) σ bor) (hσm : ∀ k, m ≤ k → σ k = none ∧ getH hin k = .unborn) (hσi : ∀ k1 k2 j, σ k1 = some j → σ k2 = some j → k1 = k2) (hσl : ∀ k j, σ k = some j → (getH hin k).live = true)
    (hal : args.length = args'.length) (hargs : ∀ (i : Nat) (x y : SV), args[i]? = some x → args'[i]? = some y → LeS X.P (getH hp) (getH hin) σ bor x y) {vals : Array Value} (hv : vals.size = args.length) (hd : ∀ i x, args[i]? = some x → DenX X hp ids w x (vals.getD i undef)) :
    Calls X.P f vals w fun e w' => ∃ r res hp' nx', e = .returned r ∧ Post res hp' nx' ∧ ((∀ k, nx' ≤ k → getH hp' k = .unborn) ∧ m ≤ nx') ∧ (wfH hp' = true ∧ (∀ k, k < nx' → getH hp (nx + k) = .unborn) ∧ ((∀ k, ¬ bor k) ∨ (res.nim = true ∧ nimH hp' = true)) →
      ∃ ids2, HeapC X (back σ nx m hp' ++ hp) ids2 w' ∧ ExtX X hp ids w (back σ nx m hp' ++ hp) ids2 w' ∧ DenX X (back σ nx m hp' ++ hp) ids2 w' (renS (bck σ nx) res) r) := by
  have hold : ∀ k' b o, (getH hin k').live = true → idsOf σ ids k' = some (b, o) → ∃ k, σ k' = some k ∧ (getH hp k).live = true ∧ ids k = some (b, o) := fun k' b o hl hi => by
    unfold idsOf at hi
    cases hs : σ k' with
    | none => rw [hs] at hi; cases hi
    | some k => rw [hs] at hi; exact ⟨k, rfl, ((hS.ch k').live hl hs).1, hi⟩
  have hgl : TabOk X.P (fun b => Im X.w0 X.I0 X.W0 (getH hp) ids w b ∨ ∃ k o, bor k ∧ (getH hp k).live = true ∧ ids k = some (b, o)) w := fun g cs hc => by
    obtain ⟨h1, h2⟩ := X.gl g cs hc
    obtain ⟨h3, h4⟩ := h.st.im0 g h1
    refine ⟨.inl ⟨.inl h1, Nat.lt_of_lt_of_le h3 h.st.size, fun k hl o hi => ?_⟩, fun i x hi => (cell_eq (h.st.evol g h3 h4)).trans (h2 i x hi)⟩
    rcases (h.st.lt k g o hl hi).2 with h5 | h5
    · exact h4 h5
    · omega
  let Y : Cx := { gl := hgl, P := X.P, w0 := w, I0 := fun b => Im X.w0 X.I0 X.W0 (getH hp) ids w b ∨ ∃ k o, bor k ∧ (getH hp k).live = true ∧ ids k = some (b, o), W0 := fun b => ∃ k' o, (getH hin k').live = true ∧ idsOf σ ids k' = some (b, o), m := m, ids0 := idsOf σ ids, C0 := getH hin }
  have hYI : ∀ b, Y.I0 b → b < w.heap.size ∧ ¬ Y.W0 b := by
    rintro b (hb | ⟨k, o, hk, hl, hi⟩)
    · refine ⟨hb.2.1, ?_⟩
      rintro ⟨k', o', hl', hi'⟩
      obtain ⟨k, _, h2, h3⟩ := hold k' b o' hl' hi'
      exact hb.2.2 k h2 o' h3
    · refine ⟨(h.st.lt k b o hl hi).1, ?_⟩
      rintro ⟨k', o', hl', hi'⟩
      obtain ⟨k2, h1, h2, h3⟩ := hold k' b o' hl' hi'
      have := h.st.inj k k2 b o o' hl h2 hi h3
      subst this
      exact hS.frz k hk k' hl' h1
  have hIm : ∀ b, Y.I0 b → Im Y.w0 Y.I0 Y.W0 (getH hin) (idsOf σ ids) w b := fun b hb => ⟨.inl hb, (hYI b hb).1, fun k' hl' o hi => (hYI b hb).2 ⟨k', o, hl', hi⟩⟩
  have hW : SubW X.P (getH hp) (getH hin) σ bor ids (idsOf σ ids) (Im X.w0 X.I0 X.W0 (getH hp) ids w) (Im Y.w0 Y.I0 Y.W0 (getH hin) (idsOf σ ids) w) w :=
    ⟨hS, fun b hb => hIm b (.inl hb), fun k' k hs hl => by simp [idsOf, hs], fun k hk hl b o hi => hIm b (.inr ⟨k, o, hk, hl, hi⟩), fun k e cs hk => by have := h.st.ch k; rwa [hk] at this⟩
  have hY : HeapF Y hin m (idsOf σ ids) w := by
    refine ⟨⟨⟨fun k' => denC_le hW h.st.ch k' (fun hn => by simp [idsOf, hn]), fun k1 k2 b o1 o2 hl1 hl2 hi1 hi2 => ?_, fun k' b o hl hi => ?_, hYI, fun b _ _ => rfl, rfl, rfl, rfl, Nat.le_refl _⟩, fun k hk hl => ⟨rfl, SameKind.refl hl, fun b o _ => SameShape.refl _⟩⟩, fun k hk => (hσm k hk).2, Nat.le_refl _⟩
    · obtain ⟨q1, a1, a2, a3⟩ := hold k1 b o1 hl1 hi1
      obtain ⟨q2, b1, b2, b3⟩ := hold k2 b o2 hl2 hi2
      have := h.st.inj q1 q2 b o1 o2 a2 b2 a3 b3
      subst this
      exact hσi k1 k2 q1 a1 b1
    · obtain ⟨q, _, a2, a3⟩ := hold k' b o hl hi
      exact ⟨(h.st.lt q b o a2 a3).1, .inl ⟨k', o, hl, hi⟩⟩
  refine (hspec.2 Y vals rfl rfl hY (by rw [hv, hal]) fun i y hy => ?_).mono fun e w' => ?_
  · have hlt := (List.getElem?_eq_some_iff.1 hy).1
    have hx := List.getElem?_eq_getElem (show i < args.length by omega)
    exact den_le hW (hargs i _ y hx hy) (hd i _ hx)
  rintro ⟨r, res, hp', nx', ids', rfl, hpost, h', hres⟩
  refine ⟨r, res, hp', nx', rfl, hpost, ⟨h'.fresh, h'.m_le⟩, fun ⟨hwf, hfr, hbor⟩ => ?_⟩
  -- names
  have hσnx : ∀ k j, σ k = some j → (getH hp j).live = true ∧ k < m := fun k j hk => by
    have hl := ((hS.ch k).live (hσl k j hk) hk).1
    refine ⟨hl, ?_⟩
    by_cases hkm : k < m
    · exact hkm
    · have := (hσm k (by omega)).1; rw [hk] at this; cases this
  have hτ : ∀ a b, (a < nx' ∨ ∃ j, σ a = some j) → (b < nx' ∨ ∃ j, σ b = some j) → bck σ nx a = bck σ nx b → a = b := fun a b hKa hKb hab => by
    unfold bck at hab
    cases ha : σ a with
    | none => cases hb : σ b with
      | none => rw [ha, hb] at hab; simp only at hab; omega
      | some j =>
        rw [ha, hb] at hab; simp only at hab
        have hl := (hσnx b j hb).1
        rcases hKa with hKa | ⟨j', hj'⟩
        · rw [← hab, hfr a hKa] at hl; cases hl
        · rw [ha] at hj'; cases hj'
    | some i => cases hb : σ b with
      | none =>
        rw [ha, hb] at hab; simp only at hab
        have hl := (hσnx a i ha).1
        rcases hKb with hKb | ⟨j', hj'⟩
        · rw [hab, hfr b hKb] at hl; cases hl
        · rw [hb] at hj'; cases hj'
      | some j => rw [ha, hb] at hab; simp only at hab; subst hab; exact hσi a b i ha hb
  have hlk : ∀ p ∈ hp', p.1 < nx' := fun p hp1 => by
    by_cases hlt : p.1 < nx'
    · exact hlt
    · exact absurd (h'.fresh p.1 (by omega)) (wfH_get hwf ⟨p, hp1, rfl⟩)
  generalize hTdef : bck σ nx = τ at hτ
  have hτs : ∀ k j, σ k = some j → τ k = j := fun k j hk => by rw [← hTdef]; simp [bck, hk]
  have hτn : ∀ k, σ k = none → τ k = nx + k := fun k hk => by rw [← hTdef]; simp [bck, hk]
  have hbackdef : back σ nx m hp' = hp'.map (fun p => (τ p.1, renC τ p.2)) ++ ((List.range m).filterMap σ).map fun j => (j, Chunk.dead) := by
    unfold back; rw [hTdef]
    congr 1
    rw [List.map_filterMap]
  have hpassed : ∀ j, j ∈ (List.range m).filterMap σ ↔ ∃ k, σ k = some j := fun j => by
    rw [List.mem_filterMap]
    exact ⟨fun ⟨k, _, hk⟩ => ⟨k, hk⟩, fun ⟨k, hk⟩ => ⟨k, List.mem_range.2 (hσnx k j hk).2, hk⟩⟩
  have hkey1 : ∀ k, (k < nx' ∨ ∃ j, σ k = some j) → ((∃ p ∈ hp'.map (fun p => (τ p.1, renC τ p.2)), p.1 = τ k) ↔ ∃ p ∈ hp', p.1 = k) := fun k hK => by
    constructor
    · rintro ⟨p, hp1, hp2⟩
      obtain ⟨q, hq, rfl⟩ := List.mem_map.1 hp1
      exact ⟨q, hq, hτ _ _ (.inl (hlk q hq)) hK hp2⟩
    · rintro ⟨q, hq, rfl⟩
      exact ⟨_, List.mem_map.2 ⟨q, hq, rfl⟩, rfl⟩
  -- F1
  have F1 : ∀ k, getH hp' k ≠ .unborn → getH (back σ nx m hp' ++ hp) (τ k) = renC τ (getH hp' k) := fun k hk => by
    have hlist : ∃ p ∈ hp', p.1 = k := Classical.byContradiction fun hn => hk (getH_unlisted hn)
    have hkn : k < nx' := by obtain ⟨p, hp1, rfl⟩ := hlist; exact hlk p hp1
    rw [hbackdef, List.append_assoc, getH_append, if_pos ((hkey1 k (.inl hkn)).2 hlist), getH_map' fun p hp1 hp2 => hτ _ _ (.inl (hlk p hp1)) (.inl hkn) hp2]
  -- passed ones that are not told of
  have F2 : ∀ k j, σ k = some j → getH hp' k = .unborn → getH (back σ nx m hp' ++ hp) j = .dead := fun k j hs hk => by
    have hnl : ¬ ∃ p ∈ hp', p.1 = k := fun hh => wfH_get hwf hh hk
    rw [hbackdef, List.append_assoc, getH_append, if_neg (by rw [← hτs k j hs, hkey1 k (.inr ⟨j, hs⟩)]; exact hnl), getH_append, if_pos ⟨(j, .dead), List.mem_map.2 ⟨j, (hpassed j).2 ⟨k, hs⟩, rfl⟩, rfl⟩, getH_deads, if_pos ((hpassed j).2 ⟨k, hs⟩)]
  -- the others
  have F3 : ∀ j, (∀ p ∈ hp', τ p.1 ≠ j) → (∀ k, σ k ≠ some j) → getH (back σ nx m hp' ++ hp) j = getH hp j := fun j hj hn => by
    rw [hbackdef, List.append_assoc, getH_append, if_neg, getH_append, if_neg]
    · rintro ⟨p, hp1, hp2⟩
      obtain ⟨q, hq, rfl⟩ := List.mem_map.1 hp1
      obtain ⟨k, hk⟩ := (hpassed q).1 hq
      exact hn k (by rw [hk]; simpa using hp2)
    · rintro ⟨p, hp1, hp2⟩
      obtain ⟨q, hq, rfl⟩ := List.mem_map.1 hp1
      exact hj q hq hp2
  generalize hC2 : getH (back σ nx m hp' ++ hp) = C2 at F1 F2 F3
  -- whoever lives in the old heap bears no new name
  have hold2 : ∀ j, (getH hp j).live = true → (∀ k, σ k ≠ some j) → ∀ p ∈ hp', τ p.1 ≠ j := fun j hl hn p hp1 he => by
    cases hs : σ p.1 with
    | none => rw [hτn _ hs] at he; rw [← he, hfr _ (hlk p hp1)] at hl; cases hl
    | some i => rw [hτs _ i hs] at he; subst he; exact hn _ hs
  have hcls : ∀ j, (C2 j).live = true → (∃ k, j = τ k ∧ (k < nx' ∨ ∃ j, σ k = some j) ∧ (getH hp' k).live = true ∧ C2 j = renC τ (getH hp' k)) ∨ ((∀ k, σ k ≠ some j) ∧ C2 j = getH hp j ∧ (getH hp j).live = true) := fun j hj => by
    by_cases hp2 : ∃ k, σ k = some j
    · obtain ⟨k, hk⟩ := hp2
      left
      by_cases hu : getH hp' k = .unborn
      · rw [F2 k j hk hu] at hj; cases hj
      · have := F1 k hu
        rw [hτs k j hk] at this
        exact ⟨k, (hτs k j hk).symm, .inr ⟨j, hk⟩, by rw [this, renC_live] at hj; exact hj, this⟩
    · have hn : ∀ k, σ k ≠ some j := fun k hk => hp2 ⟨k, hk⟩
      by_cases hli : ∃ p ∈ hp', τ p.1 = j
      · obtain ⟨p, hp1, rfl⟩ := hli
        left
        have := F1 p.1 (wfH_get hwf ⟨p, hp1, rfl⟩)
        exact ⟨p.1, rfl, .inl (hlk p hp1), by rw [this, renC_live] at hj; exact hj, this⟩
      · right
        have := F3 j (fun p hp1 he => hli ⟨p, hp1, he⟩) hn
        exact ⟨hn, this, by rw [this] at hj; exact hj⟩
  open Classical in
  let ids2 : Ids := fun j => if hk : ∃ k, (k < nx' ∨ ∃ j, σ k = some j) ∧ τ k = j then ids' hk.choose else ids j
  have hi1 : ∀ k, (k < nx' ∨ ∃ j, σ k = some j) → ids2 (τ k) = ids' k := fun k hK => by
    have hk : ∃ q, (q < nx' ∨ ∃ j, σ q = some j) ∧ τ q = τ k := ⟨k, hK, rfl⟩
    simp only [ids2, dif_pos hk]
    rw [hτ _ _ hk.choose_spec.1 hK hk.choose_spec.2]
  have hi2 : ∀ j, (getH hp j).live = true → (∀ k, σ k ≠ some j) → ids2 j = ids j := fun j hj hn => by
    have : ¬ ∃ k, (k < nx' ∨ ∃ j, σ k = some j) ∧ τ k = j := fun ⟨k, hK, hk⟩ => by
      cases hs : σ k with
      | none =>
        rcases hK with hK | ⟨j', hj'⟩
        · rw [hτn k hs] at hk; rw [← hk, hfr k hK] at hj; cases hj
        · rw [hs] at hj'; cases hj'
      | some i => rw [hτs k i hs] at hk; subst hk; exact hn k hs
    simp only [ids2, dif_neg this]
  have hW0 : ∀ b, Y.W0 b → ∃ k j o, σ k = some j ∧ (getH hp j).live = true ∧ ids j = some (b, o) := fun b ⟨k', o, hl, hi⟩ => by
    obtain ⟨k, h1, h2, h3⟩ := hold k' b o hl hi
    exact ⟨k', k, o, h1, h2, h3⟩
  have hE : Ext (getH hp) ids (Im X.w0 X.I0 X.W0 (getH hp) ids w) w C2 ids2 (Im X.w0 X.I0 X.W0 C2 ids2 w') w' := by
    refine ⟨fun b hb => ?_, fun j hj => ?_, fun j hj => ?_⟩
    · have hnW : ¬ Y.W0 b := fun hh => by
        obtain ⟨k, j, o, h1, h2, h3⟩ := hW0 b hh
        exact hb.2.2 j h2 o h3
      refine ⟨⟨hb.1, Nat.lt_of_lt_of_le hb.2.1 h'.st.size, fun j hj o hi => ?_⟩, h'.st.evol b hb.2.1 hnW⟩
      rcases hcls j hj with ⟨k, rfl, hK, hl, _⟩ | ⟨hn, _, hl⟩
      · rw [hi1 k hK] at hi
        rcases (h'.st.lt k b o hl hi).2 with h1 | h1
        · exact hnW h1
        · have : w.heap.size ≤ b := h1
          have := hb.2.1; omega
      · rw [hi2 j hl hn] at hi
        exact hb.2.2 j hl o hi
    · have hn : ∀ k, σ k ≠ some j := fun k hk => by have := (hσnx k j hk).1; rw [hj] at this; cases this
      rw [F3 j (fun p hp1 he => ?_) hn]
      · exact hj
      · cases hs : σ p.1 with
        | none => rw [hτn _ hs] at he; have := hfr _ (hlk p hp1); rw [he, hj] at this; cases this
        | some i => rw [hτs _ i hs] at he; subst he; exact hn _ hs
    · by_cases hp2 : ∃ k, σ k = some j
      · obtain ⟨k, hk⟩ := hp2
        by_cases hu : getH hp' k = .unborn
        · exact .inl (F2 k j hk hu)
        · have hc := F1 k hu
          rw [hτs k j hk] at hc
          by_cases hl : (getH hp' k).live = true
          · have hkp := h'.kept k (hσnx k j hk).2 hl
            have hidj : ids2 j = ids j := by
              have h1 := hi1 k (.inr ⟨j, hk⟩)
              rw [hτs k j hk] at h1
              rw [h1, hkp.id]
              show idsOf σ ids k = ids j
              simp [idsOf, hk]
            refine .inr ⟨by rw [hc, renC_live]; exact hl, hidj, ?_, fun b o hid => ?_⟩
            · rw [hc]
              exact (((hS.ch k).kind (hσl k j hk) hk).trans hkp.kind).ren τ
            · have h1 := hi1 k (.inr ⟨j, hk⟩)
              rw [hτs k j hk, hidj, hid] at h1
              exact hkp.shape b o h1.symm
          · left
            rw [hc]
            cases hcc : getH hp' k <;> rw [hcc] at hl hu <;> first | rfl | exact absurd rfl hu | exact absurd rfl hl
      · have hn : ∀ k, σ k ≠ some j := fun k hk => hp2 ⟨k, hk⟩
        have hF := F3 j (hold2 j hj hn) hn
        refine .inr ⟨by rw [hF]; exact hj, hi2 j hj hn, by rw [hF]; exact SameKind.refl hj, fun b o hid => SameShape.of_eq (h'.st.evol b (h.st.lt j b o hj hid).1 fun hh => ?_)⟩
        obtain ⟨k, j2, o2, h1, h2, h3⟩ := hW0 b hh
        have := h.st.inj j j2 b o o2 hj h2 hid h3
        subst this
        exact hn k h1
  have hCτ : ∀ k, getH hp' k ≠ .unborn → C2 (τ k) = renC τ (getH hp' k) ∧ ((getH hp' k).live = true → ids2 (τ k) = ids' k) := fun k hk => ⟨F1 k hk, fun _ => hi1 k (.inl (by
    have hlist : ∃ p ∈ hp', p.1 = k := Classical.byContradiction fun hn => hk (getH_unlisted hn)
    obtain ⟨p, hp1, rfl⟩ := hlist; exact hlk p hp1))⟩
  -- the immutable blocks of the callee, as the caller sees them
  obtain ⟨im, him1, him2⟩ : ∃ im : Bool, (im = true → ∀ k, ¬ bor k) ∧ (im = false → res.nim = true ∧ nimH hp' = true) := by
    rcases hbor with hb | hb
    · exact ⟨true, (fun _ => hb), (fun e => by cases e)⟩
    · exact ⟨false, (fun e => by cases e), (fun _ => hb)⟩
  have hII : im = true → ∀ b, Im Y.w0 Y.I0 Y.W0 (getH hp') ids' w' b → Im X.w0 X.I0 X.W0 C2 ids2 w' b := fun hi b hb => by
    have hnb := him1 hi
    have hlive : ∀ j, (C2 j).live = true → ∀ o, ids2 j ≠ some (b, o) := fun j hj o hij => by
      rcases hcls j hj with ⟨k, rfl, hK, hl, _⟩ | ⟨hn, _, hl⟩
      · rw [hi1 k hK] at hij; exact hb.2.2 k hl o hij
      · rw [hi2 j hl hn] at hij
        have hlt := (h.st.lt j b o hl hij).1
        rcases hb.1 with (h1 | ⟨k, o2, h1, _⟩) | h1 | h1
        · exact h1.2.2 j hl o hij
        · exact hnb k h1
        · obtain ⟨k, j2, o2, h4, h5, h6⟩ := hW0 b h1
          have := h.st.inj j j2 b o o2 hl h5 hij h6
          subst this; exact hn k h4
        · have : w.heap.size ≤ b := h1
          omega
    refine ⟨?_, hb.2.1, hlive⟩
    rcases hb.1 with (h1 | ⟨k, o, h1, _⟩) | h1 | h1
    · exact h1.1
    · exact absurd h1 (hnb k)
    · obtain ⟨k, j2, o2, _, h5, h6⟩ := hW0 b h1
      exact .inr ((h.st.lt j2 b o2 h5 h6).2)
    · have h2 : w.heap.size ≤ b := h1
      have := h.st.size
      exact .inr (.inr (by omega))
  refine ⟨ids2, ⟨⟨fun j => ?_, fun j1 j2 b o1 o2 hl1 hl2 he1 he2 => ?_, fun j b o hl hi => ?_, h.st.im0, fun b hb hWb => ?_, h'.st.os.trans h.st.os, h'.st.tape.trans h.st.tape, h'.st.output.trans h.st.output, Nat.le_trans h.st.size h'.st.size⟩, fun j hj hl => ?_⟩, ?_, ?_⟩
  · rw [hC2]
    by_cases hl : (C2 j).live = true
    · rcases hcls j hl with ⟨k, rfl, hK, hlk2, hc⟩ | ⟨hn, hc, hlj⟩
      · rw [hc]
        exact denC_ren hCτ hII hlk2 (hi1 k hK) (h'.st.ch k) fun hi => nimH_get (him2 hi).2 k
      · rw [hc]
        refine (h.st.ch j).mono hE (hi2 j hlj hn) fun b o hid => h'.st.evol b (h.st.lt j b o hlj hid).1 fun hh => ?_
        obtain ⟨k, j2, o2, h1, h2, h3⟩ := hW0 b hh
        have := h.st.inj j j2 b o o2 hlj h2 hid h3
        subst this
        exact hn k h1
    · cases hcj : C2 j <;> rw [hcj] at hl <;> first | trivial | exact absurd rfl hl
  · rw [hC2] at hl1 hl2
    rcases hcls j1 hl1 with ⟨k1, rfl, aK, a1, _⟩ | ⟨a2, _, a3⟩ <;> rcases hcls j2 hl2 with ⟨k2, rfl, bK, b1, _⟩ | ⟨b2, _, b3⟩
    · rw [hi1 k1 aK] at he1; rw [hi1 k2 bK] at he2
      rw [h'.st.inj k1 k2 b o1 o2 a1 b1 he1 he2]
    · rw [hi1 k1 aK] at he1; rw [hi2 j2 b3 b2] at he2
      have hlt := (h.st.lt j2 b o2 b3 he2).1
      rcases (h'.st.lt k1 b o1 a1 he1).2 with h1 | h1
      · obtain ⟨k, j3, o3, h4, h5, h6⟩ := hW0 b h1
        have := h.st.inj j2 j3 b o2 o3 b3 h5 he2 h6
        subst this; exact absurd h4 (b2 k)
      · have : w.heap.size ≤ b := h1
        omega
    · rw [hi1 k2 bK] at he2; rw [hi2 j1 a3 a2] at he1
      have hlt := (h.st.lt j1 b o1 a3 he1).1
      rcases (h'.st.lt k2 b o2 b1 he2).2 with h1 | h1
      · obtain ⟨k, j3, o3, h4, h5, h6⟩ := hW0 b h1
        have := h.st.inj j1 j3 b o1 o3 a3 h5 he1 h6
        subst this; exact absurd h4 (a2 k)
      · have : w.heap.size ≤ b := h1
        omega
    · rw [hi2 j1 a3 a2] at he1; rw [hi2 j2 b3 b2] at he2
      exact h.st.inj j1 j2 b o1 o2 a3 b3 he1 he2
  · rw [hC2] at hl
    rcases hcls j hl with ⟨k, rfl, aK, a1, _⟩ | ⟨a2, _, a3⟩
    · rw [hi1 k aK] at hi
      obtain ⟨g1, g2⟩ := h'.st.lt k b o a1 hi
      refine ⟨g1, ?_⟩
      rcases g2 with h1 | h1
      · obtain ⟨q, j2, o2, _, h5, h6⟩ := hW0 b h1
        exact (h.st.lt j2 b o2 h5 h6).2
      · have h2 : w.heap.size ≤ b := h1
        have := h.st.size
        exact .inr (by omega)
    · rw [hi2 j a3 a2] at hi
      obtain ⟨g1, g2⟩ := h.st.lt j b o a3 hi
      exact ⟨Nat.lt_of_lt_of_le g1 h'.st.size, g2⟩
  · have hsz := h.st.size
    have : w'.heap[b]? = w.heap[b]? := h'.st.evol b (show b < w.heap.size by omega) fun hh => by
      obtain ⟨k, j2, o2, _, h5, h6⟩ := hW0 b hh
      rcases (h.st.lt j2 b o2 h5 h6).2 with h1 | h1
      · exact hWb h1
      · omega
    rw [this]; exact h.st.evol b hb hWb
  · rw [hC2] at hl ⊢
    have hlo : (getH hp j).live = true := by
      rcases hcls j hl with ⟨k, rfl, aK, a1, _⟩ | ⟨a2, _, a3⟩
      · cases hs : σ k with
        | none => rw [hτn k hs] at hj; omega
        | some i => rw [hτs k i hs]; exact (hσnx k i hs).1
      · exact a3
    exact (h.kept j hj hlo).step hE hlo hl
  · simp only [ExtX, hC2]; exact hE
  · simp only [DenX, hC2]
    exact den_ren hCτ hII hres fun hi => (him2 hi).1

end Go.Sx
