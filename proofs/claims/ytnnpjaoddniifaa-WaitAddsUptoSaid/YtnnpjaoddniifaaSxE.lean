/-
  Sx, part E: stores and new blocks.
-/
import Derived.Test.YtnnpjaoddniifaaSxD
set_option linter.unusedSimpArgs false
set_option linter.unusedVariables false
namespace Go.Sx
set_option linter.unusedVariables false
open Go.RowKit
variable {X : Cx} {hp : Hp} {nx : Nat} {ids : Ids} {w : World}

theorem splice_length : ∀ (xs cs : List SV) (o : Nat), (splice cs o xs).length = cs.length
  | [], cs, o => rfl
  | x :: xs, cs, o => by rw [splice, splice_length xs]; simp
theorem splice_get : ∀ (xs cs : List SV) (o i : Nat), o + xs.length ≤ cs.length → (splice cs o xs)[i]? = if o ≤ i ∧ i < o + xs.length then xs[i - o]? else cs[i]?
  | [], cs, o, i, h => by simp only [splice, List.length_nil]; rw [if_neg (by omega)]
  | x :: xs, cs, o, i, h => by
    simp only [List.length_cons] at h
    rw [splice, splice_get xs (cs.set o x) (o + 1) i (by simp; omega)]
    simp only [List.length_cons]
    by_cases h1 : o + 1 ≤ i ∧ i < o + 1 + xs.length
    · rw [if_pos h1, if_pos (by omega), show i - o = (i - (o + 1)) + 1 from by omega, List.getElem?_cons_succ]
    · rw [if_neg h1]
      by_cases h2 : i = o
      · subst h2
        rw [if_pos (by omega), Nat.sub_self, List.getElem?_cons_zero, List.getElem?_set_self (by omega)]
      · rw [if_neg (by omega), List.getElem?_set_ne (fun e => h2 e.symm)]

theorem one_den {P : Program} {C : Nat → Chunk} {I : Nat → Prop} {s : SV} {x : Value} (h : Den P C ids I w s x) (ho : oneS s = true) : x.oneCell' = true := by
  cases h <;> first | rfl | exact ho | (cases ho)

theorem cells_one {x : Value} (h : x.oneCell' = true) : x.cells = #[x] := by cases x <;> first | rfl | cases h

theorem den_cells {P : Program} {C : Nat → Chunk} {I : Nat → Prop} {s : SV} {x : Value} (h : Den P C ids I w s x) (ho : (cellsS s).all oneS = true) :
    x.cells.size = (cellsS s).length ∧ (∀ i y, (cellsS s)[i]? = some y → Den P C ids I w y (x.cells.getD i undef)) ∧ ∀ v ∈ x.cells.toList, v.oneCell' = true := by
  have single : oneS s = true → cellsS s = [s] → x.cells.size = (cellsS s).length ∧ (∀ i y, (cellsS s)[i]? = some y → Den P C ids I w y (x.cells.getD i undef)) ∧ ∀ v ∈ x.cells.toList, v.oneCell' = true := by
    intro h1 h2
    have hx := one_den h h1
    rw [cells_one hx, h2]
    refine ⟨rfl, fun i y hi => ?_, fun v hv => ?_⟩
    · cases i with
      | zero => simp at hi; subst hi; exact h
      | succ i => simp at hi
    · simp at hv; subst hv; exact hx
  cases s with
  | agg xs =>
    obtain ⟨arr, rfl, hl, hx⟩ := den_agg h
    simp only [cellsS] at ho ⊢
    refine ⟨hl.symm, hx, fun v hv => ?_⟩
    obtain ⟨i, hi, rfl⟩ := List.getElem_of_mem hv
    have hi' : i < xs.length := by rw [hl]; simpa [Value.cells] using hi
    have h1 := hx i _ (List.getElem?_eq_getElem hi')
    have h2 := one_den h1 (List.all_eq_true.1 ho _ (List.getElem_mem hi'))
    have hs : i < arr.size := by simpa [Value.cells] using hi
    rw [Array.getD_eq_getD_getElem?, Array.getElem?_eq_getElem hs] at h2
    simpa [Value.cells] using h2
  | any => simp [cellsS, oneS] at ho
  | tup xs => simp [cellsS, oneS] at ho
  | gd g y => simp [cellsS, oneS] at ho
  | v y => exact single (by simpa [cellsS] using ho) rfl
  | sl n cs => exact single (by simpa [cellsS] using ho) rfl
  | own k o n => exact single (by simpa [cellsS] using ho) rfl
  | ptr k o => exact single (by simpa [cellsS] using ho) rfl
  | iptr cs o => exact single (by simpa [cellsS] using ho) rfl
  | mp k => exact single (by simpa [cellsS] using ho) rfl
  | it k => exact single (by simpa [cellsS] using ho) rfl
  | clo f cs => exact single (by simpa [cellsS] using ho) rfl

theorem upd_self_live {C : Nat → Chunk} {k : Nat} {c : Chunk} (h : c.live = true) : (upd C k c k).live = true := by rw [upd_same]; exact h

/-- A row's content turns. -/
theorem heap_turn (h : HeapX X hp nx ids w) {k b o : Nat} {e : TypeId} {cs cs' : List SV} (hk : getH hp k = .row e cs) (hi : ids k = some (b, o)) {arr arr' : Array Value}
    (hw : w.heap[b]? = some (.cells arr e (0, 0))) (hs : arr'.size = arr.size) (hl : o + cs'.length ≤ arr.size) (hsh : cs'.length ≤ cs.length)
    (hx : ∀ i x, cs'[i]? = some x → DenX X hp ids w x (arr'.getD (o + i) undef)) :
    HeapC X ([(k, .row e cs')] ++ hp) ids (w.setRow b arr') ∧ ExtX X hp ids w ([(k, .row e cs')] ++ hp) ids (w.setRow b arr') := by
  have hlk : (getH hp k).live = true := by rw [hk]; rfl
  have hz : (w.setRow b arr').heap.size = w.heap.size := by simp [World.setRow]
  have hat := setRow_heap w b arr arr' e (0, 0) hw
  have hshape : SameShape w.heap[b]? (w.setRow b arr').heap[b]? := fun a t ha => by
    rw [hw] at ha; cases ha
    exact ⟨arr', hat, hs⟩
  have hE := h.st.turn_ext hlk hi (c := .row e cs') rfl (by rw [hk]; exact ⟨rfl, hsh⟩) hz (fun j hj => setRow_other w b j arr' hj) hshape
  have hC : getH ([(k, .row e cs')] ++ hp) = upd (getH hp) k (.row e cs') := getH_upd k _ hp
  refine ⟨⟨?_, fun j hj hjl => ?_⟩, ?_⟩
  · rw [hC]
    refine h.st.turn hlk hi rfl (by rw [hk]; exact ⟨rfl, hsh⟩) hz (fun j hj => setRow_other w b j arr' hj) hshape rfl rfl rfl ?_
    simp only [DenC, hi]
    exact ⟨arr', hat, by rw [hs]; exact hl, fun i x hix => (hx i x hix).mono hE⟩
  · rw [hC] at hjl ⊢
    have hlo : (getH hp j).live = true := by
      by_cases hjk : j = k
      · subst hjk; exact hlk
      · rwa [upd_ne _ _ hjk] at hjl
    exact (h.kept j hj hlo).step hE hlo hjl
  · simp only [ExtX, hC]; exact hE

theorem sound_store (h : HeapX X hp nx ids w) {t : TypeId} {s v : SV} {x y : Value} (hd : DenX X hp ids w s x) (hv : DenX X hp ids w v y) {side : Prop} {e : Eff}
    (he : storeS X.P t s v hp nx = .ok side e) (hs : side) : SoundU X hp ids w ((Instr.storeAt t x y).run X.P w) e := by
  unfold storeS at he
  split at he
  · rename_i k off
    obtain ⟨t', cs, hk, ht⟩ := rowS_ok he
    cases ht
    obtain ⟨h1, h2, h3⟩ := hs
    obtain ⟨b, o, hi, rfl⟩ := den_ptr hd (by rw [hk]; rfl)
    have hc := h.st.ch k
    rw [hk] at hc
    simp only [DenC, hi] at hc
    obtain ⟨arr, hw, hl, hx⟩ := hc
    obtain ⟨c1, c2, c3⟩ := den_cells hv h2
    obtain ⟨i, hti, hsz⟩ := szT_some h1
    have hlen : (y.cells.toList).length = (cellsS v).length := by simpa using c1
    have hrun := run_storeCells_at (P := X.P) b (o + off) t' y.cells.toList 0 arr w hw (by rw [hlen]; omega) c3
    simp only [Nat.add_zero] at hrun
    have hst : (Instr.storeAt t (.pointer (some ⟨b, o + off, none⟩)) y).run X.P w = .ok () (w.setRow b (arr.toList.take (o + off) ++ y.cells.toList ++ arr.toList.drop (o + off + y.cells.toList.length)).toArray) := by
      simp only [Instr.storeAt, Instr.sureAddr, Sem.run_bind, Sem.run_pure, Result.andThen_ok, storeVar, sizeOf, typeInfo]
      simp [hti, hsz, c1, hrun]
    have hsize : (arr.toList.take (o + off) ++ y.cells.toList ++ arr.toList.drop (o + off + y.cells.toList.length)).toArray.size = arr.size := by
      simp only [List.size_toArray, List.length_append, List.length_take, List.length_drop, Array.length_toList]; rw [c1]; omega
    have := heap_turn h hk hi (cs' := splice cs off (cellsS v)) hw hsize (by rw [splice_length]; exact hl) (by rw [splice_length]; exact Nat.le_refl _) (fun j z hj => by
      rw [splice_get _ _ _ _ h3] at hj
      have hget : ∀ q, (arr.toList.take (o + off) ++ y.cells.toList ++ arr.toList.drop (o + off + y.cells.toList.length)).toArray.getD q undef =
          if q < o + off then arr.getD q undef else if q < o + off + y.cells.size then y.cells.getD (q - (o + off)) undef else arr.getD q undef := by
        intro q
        have hoo : o + off ≤ arr.size := by omega
        simp only [Array.getD_eq_getD_getElem?, List.getElem?_toArray]
        by_cases hq : q < o + off
        · rw [if_pos hq, List.append_assoc, List.getElem?_append_left (by simp; omega), List.getElem?_take, if_pos hq]
          simp
        · rw [if_neg hq, List.append_assoc, List.getElem?_append_right (by simp; omega)]
          simp only [List.length_take, Array.length_toList, Nat.min_eq_left hoo]
          by_cases hq2 : q < o + off + y.cells.size
          · rw [if_pos hq2, List.getElem?_append_left (by simp; omega)]
            simp
          · rw [if_neg hq2, List.getElem?_append_right (by simp; omega), List.getElem?_drop]
            simp only [Array.length_toList, Array.getElem?_toList]
            congr 2; omega
      rw [hget]
      by_cases hj1 : off ≤ j ∧ j < off + (cellsS v).length
      · rw [if_pos hj1] at hj
        rw [if_neg (by omega), if_pos (by omega), show o + j - (o + off) = j - off from by omega]
        exact c2 _ _ hj
      · rw [if_neg hj1] at hj
        have hxj := hx j z hj
        split
        · exact hxj
        · rw [if_neg (by omega)]; exact hxj)
    exact ⟨_, ids, hst, this.1, this.2⟩
  · cases he

/-- A new block that holds a row. -/
theorem heap_alloc (h : HeapX X hp nx ids w) {e : TypeId} {cs : List SV} {arr : Array Value} (hl : cs.length ≤ arr.size) (hx : ∀ i x, cs[i]? = some x → DenX X hp ids w x (arr.getD i undef)) :
    HeapC X ([(nx, .row e cs)] ++ hp) (upd ids nx (some (w.heap.size, 0))) (w.alloc (.cells arr e)) ∧ ExtX X hp ids w ([(nx, .row e cs)] ++ hp) (upd ids nx (some (w.heap.size, 0))) (w.alloc (.cells arr e)) := by
  have hb : getH hp nx = .unborn := h.fresh
  have hC : getH ([(nx, .row e cs)] ++ hp) = upd (getH hp) nx (.row e cs) := getH_upd nx _ hp
  have hE := h.st.alloc_ext hb (.row e cs) (.cells arr e)
  refine ⟨⟨?_, fun j hj hjl => ?_⟩, ?_⟩
  · rw [hC]
    refine h.st.alloc hb _ _ ?_
    simp only [DenC, upd_same]
    exact ⟨arr, heap_alloc_new' w _, by simpa using hl, fun i x hi => by rw [Nat.zero_add]; exact (hx i x hi).mono hE⟩
  · have hjn : j ≠ nx := by have := h.m_le; omega
    rw [hC] at hjl ⊢
    have hlo : (getH hp j).live = true := by rwa [upd_ne _ _ hjn] at hjl
    exact (h.kept j hj hlo).step hE hlo hjl
  · simp only [ExtX, hC]; exact hE

def allocS (P : Program) (t : TypeId) (nx : Nat) : Res :=
  match zeroT P t with
  | some cs => .ok True ⟨.ptr nx 0, [(nx, .row t cs)], nx + 1, []⟩
  | none => .bad
def boxS (t : TypeId) (x : SV) (nx : Nat) : Res := .ok ((cellsS x).all oneS = true) ⟨.ptr nx 0, [(nx, .row t (cellsS x))], nx + 1, []⟩

theorem den_new (X : Cx) (hp : Hp) (nx : Nat) (ids : Ids) (w : World) (w' : World) (c : Chunk) (hc : c.live = true) : DenX X ([(nx, c)] ++ hp) (upd ids nx (some (w.heap.size, 0))) w' (.ptr nx 0) (.pointer (some ⟨w.heap.size, 0, none⟩)) :=
  .ptr w.heap.size 0 (by rw [List.singleton_append, getH_upd, upd_same]; exact hc) (upd_same _ _ _)

theorem sound_alloc (h : HeapX X hp nx ids w) {t : TypeId} {side : Prop} {e : Eff} (he : allocS X.P t nx = .ok side e) (old : Value) : Sound X hp ids w ((Instr.alloc t true old).run X.P w) e := by
  unfold allocS at he
  split at he
  · rename_i cs hz
    cases he
    unfold zeroT at hz
    cases hi : X.P.info? t with
    | none => rw [hi] at hz; cases hz
    | some i =>
      rw [hi] at hz
      cases hzz : i.zero with
      | none => simp [hzz] at hz
      | some z =>
        simp [hzz] at hz
        obtain ⟨h1, h2⟩ := heap_alloc h (e := t) (cs := cs) (arr := z.cells) (by rw [← hz]; simp) (fun j x hj => by
          rw [← hz] at hj
          have := den_lit (ids := ids) (w := w) X.P (getH hp) (Im X.w0 X.I0 X.W0 (getH hp) ids w) (l := z.cells.toList) j x (by simpa using hj)
          simpa using this)
        refine ⟨_, _, _, ?_, h1, h2, den_new X hp nx ids w _ _ rfl⟩
        simp [Instr.alloc, zeroValue, typeInfo, hi, hzz, newVar, newRow]
  · cases he

theorem sound_box (h : HeapX X hp nx ids w) {t : TypeId} {s : SV} {x : Value} (hd : DenX X hp ids w s x) {side : Prop} {e : Eff} (he : boxS t s nx = .ok side e) (hs : side) : Sound X hp ids w ((Instr.box t x).run X.P w) e := by
  cases he
  obtain ⟨c1, c2, c3⟩ := den_cells hd hs
  obtain ⟨h1, h2⟩ := heap_alloc h (e := t) (cs := cellsS s) (arr := x.cells) (by omega) c2
  refine ⟨_, _, _, ?_, h1, h2, den_new X hp nx ids w _ _ rfl⟩
  simp [Instr.box, newVar, newRow]

end Go.Sx
