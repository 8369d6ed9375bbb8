/-
  G, part I: a result of one's own that nobody will write: frozen as it comes.
-/
import Derived.Test.YtnnpjaoddniifaaGH
set_option linter.unusedSimpArgs false
set_option linter.unusedVariables false
namespace Go.Sx
open Go.RowKit
set_option linter.unusedVariables false
theorem SpecW.frz {P : Program} {f : FuncId} {args : List SV} {hin : Hp} {m n : Nat} {e : TypeId} {cs : List SV} (h : SpecW P f args hin m (fun x h k => x = .own 0 0 n ∧ h = [(0, .row e cs)] ∧ k = 1)) :
    SpecW P f args hin m (fun x h k => x = .sl n cs ∧ h = [(0, .dead)] ∧ k = 1) := by
  refine ⟨h.1, fun X vals h1 h2 h3 h4 h5 => (h.2 X vals h1 h2 h3 h4 h5).mono ?_⟩
  rintro ex w' ⟨r, res, hp', nx', ids', rfl, ⟨rfl, rfl, rfl⟩, hF, hd⟩
  have hrow : getH [(0, Chunk.row e cs)] 0 = .row e cs := rfl
  have hl : (getH [(0, Chunk.row e cs)] 0).live = true := rfl
  have hG : getH ([(0, Chunk.dead)] ++ [(0, Chunk.row e cs)]) = getH [(0, Chunk.dead)] := by
    funext k
    cases k with
    | zero => rfl
    | succ k => rfl
  obtain ⟨k1, k2⟩ := heap_kill hF.toHeapC 0
  have hnl : ∀ k, (getH [(0, Chunk.dead)] k).live = true → False := fun k hk => by
    cases k with
    | zero => cases hk
    | succ k => cases hk
  have hK : HeapC X [(0, .dead)] ids' w' := ⟨by rw [← hG]; exact k1.st, fun k hk hl => (hnl k hl).elim⟩
  have hE : ExtX X [(0, .row e cs)] ids' w' [(0, .dead)] ids' w' := by
    have := k2
    simp only [ExtX, hG] at this
    exact this
  obtain ⟨a, cap, rfl, c1, c2, c4, c3⟩ := den_own hd hl
  refine ⟨_, .sl n cs, [(0, .dead)], 1, ids', rfl, ⟨rfl, rfl, rfl⟩, ⟨hK, fun k hk => ?_, hF.m_le⟩, ?_⟩
  · cases k with
    | zero => omega
    | succ k => rfl
  · rcases c3 with ⟨rfl, rfl⟩ | ⟨b, o, e2, cs2, arr, hC, hid, rfl, hw, hcapsz⟩
    · have hcs : cs = [] := by
        have := c4 _ _ hrow
        exact List.eq_nil_of_length_eq_zero (by omega)
      subst hcs
      exact .sl0 (by unfold maxLen; omega)
    · have hc := hF.st.ch 0
      rw [hrow] at hc
      simp only [DenC, hid] at hc
      obtain ⟨arr', ha', hl', hx'⟩ := hc
      obtain ⟨hlt, hor⟩ := hF.st.lt 0 b o hl hid
      refine .sl b (o + 0) cap (fun i => arr'.getD (o + i) undef) ⟨?_, hlt, fun k hk => (hnl k hk).elim⟩ c1 c2 (fun i x hi => ?_) (fun i x hi => (hx' i x hi).mono hE)
      · rcases hor with h | h
        · exact .inr (.inl h)
        · exact .inr (.inr h)
      · have hi' := (List.getElem?_eq_some_iff.1 hi).1
        simp only [World.cell?, ha', Nat.add_zero]
        simp [Array.getD_eq_getD_getElem?, Array.getElem?_eq_getElem (show o + i < arr'.size by omega)]
end Go.Sx
