/-
  Sx, part G: literals, slices, numbers.
-/
import Derived.Test.YtnnpjaoddniifaaSxF
import Derived.Great.BuildSlice
import Derived.Laws.MakeOwn
set_option linter.unusedSimpArgs false
set_option linter.unusedVariables false
namespace Go.Sx
set_option linter.unusedVariables false
open Go.RowKit
variable {X : Cx} {hp : Hp} {nx : Nat} {ids : Ids} {w : World}

def fillS (place : Nat → Option (Nat × Nat)) (cs : List SV) : List (Nat × SV) → Option (List SV)
  | [] => some cs
  | p :: r => match place p.1 with
    | some (o, n) => bif (cellsS p.2).length == n && (Nat.ble (o + n) cs.length && (cellsS p.2).all oneS) then fillS place (splice cs o (cellsS p.2)) r else none
    | none => none
def placeT (P : Program) (t : TypeId) : Option (List (Nat × Nat)) :=
  match P.underlying t with
  | some (.struct fs) => fs.toList.mapM (fun f => (P.info? f.type).map fun i => (f.offset, i.size))
  | _ => none

structure AllDen (P : Program) (C : Nat → Chunk) (ids : Ids) (I : Nat → Prop) (w : World) (cs : List SV) (arr : Array Value) : Prop where
  len : cs.length = arr.size
  den : ∀ i x, cs[i]? = some x → Den P C ids I w x (arr.getD i undef)

theorem fill_den {P : Program} {C : Nat → Chunk} {I : Nat → Prop} {place : Nat → Option (Nat × Nat)} : ∀ (ps : List (Nat × SV)) (vs : List (Nat × Value)) (cs : List SV) (arr : Array Value) (out : List SV),
    ps.length = vs.length → (∀ (i : Nat) (p : Nat × SV) (q : Nat × Value), ps[i]? = some p → vs[i]? = some q → p.1 = q.1 ∧ Den P C ids I w p.2 q.2) → AllDen P C ids I w cs arr → fillS place cs ps = some out →
    ∃ res, Instr.fill place arr vs = some res ∧ AllDen P C ids I w out res
  | [], [], cs, arr, out, _, _, hA, h => by simp only [fillS, Option.some.injEq] at h; subst h; exact ⟨arr, rfl, hA⟩
  | [], _ :: _, _, _, _, h, _, _, _ => by simp at h
  | _ :: _, [], _, _, _, h, _, _, _ => by simp at h
  | p :: ps, q :: vs, cs, arr, out, hl, hd, hA, h => by
    obtain ⟨h1, h2⟩ := hd 0 p q rfl rfl
    simp only [fillS] at h
    split at h
    · rename_i o n hpl
      cases hb : ((cellsS p.2).length == n && (Nat.ble (o + n) cs.length && (cellsS p.2).all oneS)) with
      | false => rw [hb] at h; cases h
      | true =>
        rw [hb] at h
        simp only [Bool.and_eq_true, beq_iff_eq, Nat.ble_eq] at hb
        obtain ⟨b1, b2, b3⟩ := hb
        obtain ⟨c1, c2, c3⟩ := den_cells h2 b3
        obtain ⟨f1, f2⟩ := Go.Great.foldl_set o q.2.cells.toList 0 arr
        have hA' : AllDen P C ids I w (splice cs o (cellsS p.2)) ((q.2.cells.toList.zipIdx 0).foldl (fun cs (x : Value × Nat) => cs.setIfInBounds (o + x.2) x.1) arr) := by
          refine ⟨by rw [splice_length, f1, hA.len], fun i x hi => ?_⟩
          rw [splice_get _ _ _ _ (by omega)] at hi
          rw [Array.getD_eq_getD_getElem?, f2 i]
          have hlen : q.2.cells.toList.length = (cellsS p.2).length := by simpa using c1
          have hal := hA.len
          split at hi
          · rename_i hin
            have := c2 _ _ hi
            simp only [Nat.add_zero, Nat.sub_zero, hlen] at *
            rw [if_pos (by omega)]
            rw [Array.getD_eq_getD_getElem?] at this
            simpa using this
          · rename_i hin
            have hi2 := hA.den _ _ hi
            simp only [Nat.add_zero, Nat.sub_zero, hlen] at *
            rw [if_neg (by omega)]
            rw [Array.getD_eq_getD_getElem?] at hi2
            exact hi2
        obtain ⟨res, hr, hAr⟩ := fill_den ps vs _ _ out (by simpa using hl) (fun i a b ha hb' => hd (i + 1) a b (by simpa using ha) (by simpa using hb')) hA' h
        refine ⟨res, ?_, hAr⟩
        rw [show (q : Nat × Value) = (q.1, q.2) from rfl]
        simp only [Instr.fill]
        rw [← h1, hpl]
        simp only
        rw [if_neg (by simp only [Bool.or_eq_true, decide_eq_true_eq, not_or]; exact ⟨by simp [c1, b1], by rw [c1, b1, ← hA.len]; omega⟩)]
        rw [← Array.foldl_toList, Array.toList_zipIdx]
        exact hr
    · cases h

def buildS (P : Program) (t : TypeId) (parts : List (Nat × SV)) (nx : Nat) : Res :=
  match zeroT P t with
  | some z => match placeT P t with
    | some pl => match fillS (fun i => pl[i]?) z parts with
      | some cs => .ok True ⟨.agg cs, [], nx, []⟩
      | none => .bad
    | none => match arrT P t with
      | some (_, _, n) => match fillS (fun i => some (i * n, n)) z parts with
        | some cs => .ok True ⟨.agg cs, [], nx, []⟩
        | none => .bad
      | none => .bad
  | none => .bad

theorem zeroT_some {P : Program} {t cs} (h : zeroT P t = some cs) : ∃ i z, P.info? t = some i ∧ i.zero = some z ∧ cs = z.cells.toList.map .v := by
  unfold zeroT at h
  cases hi : P.info? t with
  | none => rw [hi] at h; cases h
  | some i =>
    rw [hi] at h
    cases hz : i.zero with
    | none => simp [hz] at h
    | some z => simp [hz] at h; exact ⟨i, z, rfl, hz, h.symm⟩

theorem allDen_lit (P : Program) (C : Nat → Chunk) (I : Nat → Prop) (arr : Array Value) : AllDen P C ids I w (arr.toList.map .v) arr :=
  ⟨by simp, fun i x h => by have := den_lit (ids := ids) (w := w) P C I (l := arr.toList) i x h; simpa using this⟩

theorem sound_build (h : HeapX X hp nx ids w) {t : TypeId} {ps : List (Nat × SV)} {vs : Array (Nat × Value)} (hl : ps.length = vs.size)
    (hd : ∀ (i : Nat) (p : Nat × SV) (q : Nat × Value), ps[i]? = some p → vs.toList[i]? = some q → p.1 = q.1 ∧ DenX X hp ids w p.2 q.2) {side : Prop} {e : Eff} (he : buildS X.P t ps nx = .ok side e) :
    Sound X hp ids w ((Instr.build t vs).run X.P w) e := by
  unfold buildS at he
  split at he
  · rename_i z hz
    obtain ⟨i, zv, hi, hzv, rfl⟩ := zeroT_some hz
    split at he
    · rename_i pl hpl
      split at he
      · rename_i cs hf
        cases he
        obtain ⟨res, hr, hA⟩ := fill_den ps vs.toList _ _ _ (by simpa using hl) hd (allDen_lit _ _ _ zv.cells) hf
        unfold placeT at hpl
        split at hpl
        · rename_i fs hu
          refine sound_pure h (run_build w t vs res ?_) (.agg res hA.len hA.den)
          unfold Program.built
          simp only [hi, hu, hzv, hpl]
          simpa using hr
        · cases hpl
      · cases he
    · split at he
      · rename_i n' e' n ha
        split at he
        · rename_i cs hf
          cases he
          obtain ⟨j, hu, hj, rfl⟩ := arrT_some ha
          obtain ⟨res, hr, hA⟩ := fill_den ps vs.toList _ _ _ (by simpa using hl) hd (allDen_lit _ _ _ zv.cells) hf
          refine sound_pure h (run_build w t vs res ?_) (.agg res hA.len hA.den)
          unfold Program.built
          simp only [hi, hu, hzv, hj]
          exact hr
        · cases he
      · cases he
  · cases he

/-- A slice literal: a new row. -/
def buildSliceS (P : Program) (t : TypeId) (len : Nat) (parts : List (Nat × SV)) (nx : Nat) : Res :=
  match sliceT P t with
  | some (e, n) => match zeroT P e with
    | some z => bif (Nat.ble (len * n) 16777216 && !(len * n == 0)) && z.length == n then match fillS (fun i => some (i * n, n)) ((List.range len).flatMap fun _ => z) parts with
      | some cs => .ok True ⟨.own nx 0 len, [(nx, .row e cs)], nx + 1, []⟩
      | none => .bad
      else .bad
    | none => .bad
  | none => .bad

theorem length_flatMap_const {α : Type} (z : List α) : ∀ (len : Nat), ((List.range len).flatMap fun _ => z).length = len * z.length
  | 0 => by simp
  | len + 1 => by rw [List.range_succ, List.flatMap_append, List.length_append, length_flatMap_const z len, List.flatMap_singleton, Nat.succ_mul]

theorem getElem?_flatMap_const {α : Type} (z : List α) : ∀ (len i : Nat), i < len * z.length → ((List.range len).flatMap fun _ => z)[i]? = z[i % z.length]?
  | 0, i, h => by simp at h
  | len + 1, i, h => by
    rw [List.range_succ, List.flatMap_append, List.flatMap_singleton]
    have hl := length_flatMap_const z len
    by_cases hi : i < len * z.length
    · rw [List.getElem?_append_left (by omega)]; exact getElem?_flatMap_const z len i hi
    · rw [List.getElem?_append_right (by omega), hl]
      rw [Nat.succ_mul] at h
      have : i % z.length = i - len * z.length := by
        have h2 : i = (i - len * z.length) + z.length * len := by rw [Nat.mul_comm z.length]; omega
        rw [h2, Nat.add_mul_mod_self_left, Nat.mod_eq_of_lt (by omega), Nat.mul_comm z.length]; omega
      rw [this]

theorem sound_buildSlice (h : HeapX X hp nx ids w) {t : TypeId} {len : Nat} {ps : List (Nat × SV)} {vs : Array (Nat × Value)} (hl : ps.length = vs.size)
    (hd : ∀ (i : Nat) (p : Nat × SV) (q : Nat × Value), ps[i]? = some p → vs.toList[i]? = some q → p.1 = q.1 ∧ DenX X hp ids w p.2 q.2) {side : Prop} {e : Eff} (he : buildSliceS X.P t len ps nx = .ok side e) :
    Sound X hp ids w ((Instr.buildSlice t len vs).run X.P w) e := by
  unfold buildSliceS at he
  split at he
  · rename_i e' n hsl
    obtain ⟨i, hu, hi, rfl⟩ := sliceT_some hsl
    split at he
    · rename_i z hz
      obtain ⟨i', zv, hi', hzv, rfl⟩ := zeroT_some hz
      rw [hi] at hi'; cases hi'
      cases hb : ((Nat.ble (len * i.size) 16777216 && !(len * i.size == 0)) && ((zv.cells.toList.map SV.v).length == i.size)) with
      | false => rw [hb] at he; cases he
      | true =>
        rw [hb] at he
        simp only [Bool.and_eq_true, Nat.ble_eq, Bool.not_eq_true', beq_eq_false_iff_ne, beq_iff_eq, List.length_map, Array.length_toList] at hb
        obtain ⟨⟨b1, b2⟩, b3⟩ := hb
        split at he
        · rename_i cs hf
          cases he
          have hA0 : AllDen X.P (getH hp) ids (Im X.w0 X.I0 X.W0 (getH hp) ids w) w ((List.range len).flatMap fun _ => zv.cells.toList.map SV.v) ((Array.range (len * i.size)).map (zv.cells[· % zv.cells.size]!)) := by
            refine ⟨by rw [length_flatMap_const]; simp [b3], fun j x hj => ?_⟩
            have hlt : j < len * i.size := by
              have := (List.getElem?_eq_some_iff.1 hj).1
              rw [length_flatMap_const] at this; simpa [b3] using this
            rw [getElem?_flatMap_const _ _ _ (by simpa [b3] using hlt)] at hj
            simp only [List.length_map, Array.length_toList, List.getElem?_map] at hj
            have hpos : 0 < zv.cells.size := by
              rcases Nat.eq_zero_or_pos zv.cells.size with h0 | h0
              · rw [b3] at h0; rw [h0] at b2; simp at b2
              · exact h0
            have hm := Nat.mod_lt j hpos
            rw [Array.getElem?_toList, Array.getElem?_eq_getElem hm] at hj
            simp only [Option.map_some, Option.some.injEq] at hj
            subst hj
            rw [Array.getD_eq_getD_getElem?, Array.getElem?_map, Array.getElem?_range, if_pos hlt]
            simp only [Option.map_some, Option.getD_some, getElem!_pos zv.cells (j % zv.cells.size) hm]
            exact .v
          obtain ⟨res, hr, hA⟩ := fill_den ps vs.toList _ _ _ (by simpa using hl) hd hA0 hf
          have hrun := run_buildSlice (P := X.P) w t e' len vs res i zv hu hi hzv (by omega) b2 hr
          obtain ⟨g1, g2⟩ := heap_alloc h (e := e') (cs := cs) (arr := res) (by rw [hA.len]; exact Nat.le_refl _) hA.den
          have hressz : res.size = len * i.size := by
            have e1 : ∀ (ps : List (Nat × SV)) (c o : List SV), fillS (fun j => some (j * i.size, i.size)) c ps = some o → o.length = c.length := by
              intro ps
              induction ps with
              | nil => intro c o hh; simp only [fillS, Option.some.injEq] at hh; rw [← hh]
              | cons p ps ih =>
                intro c o hh
                simp only [fillS] at hh
                cases hc : ((cellsS p.2).length == i.size && (Nat.ble (p.1 * i.size + i.size) c.length && (cellsS p.2).all oneS)) with
                | false => rw [hc] at hh; cases hh
                | true => rw [hc] at hh; rw [ih _ _ hh, splice_length]
            rw [← hA.len, e1 _ _ _ hf, length_flatMap_const]
            simp [b3]
          have hlm : len ≤ maxLen := by
            have : len ≤ len * i.size := Nat.le_mul_of_pos_right _ (Nat.pos_of_ne_zero fun e => by rw [e] at b2; simp at b2)
            unfold maxLen; omega
          refine ⟨_, _, _, hrun, g1, g2, .own (some ⟨w.heap.size, 0, none⟩) len ?_ ?_⟩
          · rw [List.singleton_append, getH_upd, upd_same]; rfl
          · refine ⟨Nat.le_refl _, hlm, fun e2 cs2 hc2 => ?_, .inr ⟨w.heap.size, 0, e', cs, res, ?_, upd_same _ _ _, rfl, heap_alloc_new' w _, ?_⟩⟩
            · rw [List.singleton_append, getH_upd, upd_same] at hc2
              cases hc2
              rw [hA.len, hressz, show X.P.cellsOf e' = i.size from by simp [Program.cellsOf, hi]]; omega
            · rw [List.singleton_append, getH_upd, upd_same]
            · rw [hressz, show X.P.cellsOf e' = i.size from by simp [Program.cellsOf, hi]]; omega
        · cases he
    · cases he
  · cases he

def extractS (x : SV) (i : Nat) (nx : Nat) : Res :=
  match x with
  | .tup xs => match xs[i]? with
    | some y => pureR y nx
    | none => .bad
  | _ => .bad
theorem sound_extract (h : HeapX X hp nx ids w) {i : Nat} {s : SV} {x : Value} (hd : DenX X hp ids w s x) {side : Prop} {e : Eff} (he : extractS s i nx = .ok side e) : Sound X hp ids w ((Instr.extract x i).run X.P w) e := by
  unfold extractS at he
  split at he
  · rename_i xs
    split at he
    · rename_i y hy
      cases he
      obtain ⟨arr, rfl, hl, hx⟩ := den_tup hd
      have hlt : i < arr.size := by rw [← hl]; exact (List.getElem?_eq_some_iff.1 hy).1
      refine sound_pure h (x := arr[i]) ?_ (by have := hx i y hy; rwa [Array.getD_eq_getD_getElem?, Array.getElem?_eq_getElem hlt] at this)
      simp [Instr.extract, Array.getElem?_eq_getElem hlt]
    · cases he
  · cases he

theorem sound_pick (h : HeapX X hp nx ids w) {g b : Bool} {s q : SV} {x y : Value} (hg : g = true) (hd : DenX X hp ids w s x) (hq : DenX X hp ids w q y) {side : Prop} {e : Eff} (he : pickS g b s q nx = .ok side e) :
    Sound X hp ids w (.ok (if b then x else y) w) e := by
  unfold pickS at he
  have e1 : b = true → DenX X hp ids w (unw (g && b) s) x := fun hb => den_unw (by simp [hg, hb]) hd
  have e2 : b = false → DenX X hp ids w (unw (g && !b) q) y := fun hb => den_unw (by simp [hg, hb]) hq
  have gen : DenX X hp ids w (bif b then unw (g && b) s else unw (g && !b) q) (if b then x else y) := by
    cases b with
    | true => exact e1 rfl
    | false => exact e2 rfl
  split at he
  · rename_i p r h1 h2
    cases he
    rw [h1, h2] at gen
    refine sound_pure h rfl ?_
    cases b with
    | true => exact gen
    | false => exact gen
  · rename_i k p k' r h1 h2
    rw [h1, h2] at gen
    cases hk : (k == k') with
    | false => rw [hk] at he; cases he; exact sound_pure h rfl gen
    | true =>
      rw [hk] at he; cases he
      have : k = k' := by simpa using hk
      subst this
      refine sound_pure h rfl ?_
      cases b with
      | true => exact gen
      | false => exact gen
  · cases he; exact sound_pure h rfl gen

theorem sound_int (h : HeapX X hp nx ids w) {op : BinOp} {k : IntKind} {a b : Int} {side : Prop} {e : Eff} (he : intS op k a b nx = .ok side e) (hs : side) (t : TypeId) : Sound X hp ids w ((binOp op t (.int k a) (.int k b)).run X.P w) e := by
  have hdiv : b ≠ 0 → (Op.intDiv .quo k a b).run X.P w = .ok (.int k (k.wrap (a.tdiv b))) w ∧ (Op.intDiv .rem k a b).run X.P w = .ok (.int k (a.tmod b)) w := fun hb => by
    simp [Op.intDiv, hb]
  cases op <;> simp only [intS, pureR] at he <;> cases he <;> refine sound_pure h ?_ .v
  case quo => simpa [binOp] using (hdiv hs).1
  case rem => simpa [binOp] using (hdiv hs).2
  all_goals simp [binOp, Op.intArith, Op.intCmp, Op.intBits]

end Go.Sx
