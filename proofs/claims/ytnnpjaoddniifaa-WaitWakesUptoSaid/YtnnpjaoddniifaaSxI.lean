/-
  Sx, part I: append.
-/
import Derived.Test.YtnnpjaoddniifaaSxH
set_option linter.unusedSimpArgs false
set_option linter.unusedVariables false
namespace Go.Sx
set_option linter.unusedVariables false
open Go.RowKit
variable {X : Cx} {hp : Hp} {nx : Nat} {ids : Ids} {w : World}

def appCells (cs : List SV) (off n : Nat) : List SV := (cs.drop off).take n
def byteS (s : ByteArray) : List SV := s.data.toList.map fun b => .v (.int .u8 b.toNat)

def srcS (P : Program) (tx : TypeId) (z : Nat) (y : SV) (hp : Hp) (f : Nat → List SV → List Nat → Prop → Res) : Res :=
  match y with
  | .own k off m => match sliceT P tx with
    | some _ => rowS (getH hp k) fun _ cs => f m (appCells cs off (m * z)) [k] (off + m * z ≤ cs.length)
    | none => .bad
  | .sl m cs => match sliceT P tx with
    | some _ => f m cs [] (cs.length = m * z)
    | none => .bad
  | .v (.slice none 0 0) => match sliceT P tx with
    | some _ => f 0 [] [] True
    | none => .bad
  | .v (.string s) => match P.underlying tx with
    | some .string => f s.size (byteS s) [] (z = 1)
    | _ => .bad
  | _ => .bad

structure SrcOk (P : Program) (C : Nat → Chunk) (ids : Ids) (I : Nat → Prop) (w : World) (z : Nat) (tx : TypeId) (y : Value) (m : Nat) (news : List SV) (vs : List Value) : Prop where
  src : Src P z tx y m vs w
  len : news.length = vs.length
  den : ∀ i x, news[i]? = some x → Den P C ids I w x (vs.getD i undef)

theorem cells_list {P : Program} {C : Nat → Chunk} {I : Nat → Prop} {b o : Nat} {cs : List SV} (hc : Cells P C ids I w b o cs) :
    ∃ l : List Value, l.length = cs.length ∧ ∀ i x, cs[i]? = some x → w.cell? ⟨b, o + i, none⟩ = some (l.getD i undef) ∧ Den P C ids I w x (l.getD i undef) := by
  obtain ⟨l, hl, hx⟩ := list_choose (Q := fun j x c => w.cell? ⟨b, o + j, none⟩ = some c ∧ Den P C ids I w x c) cs 0 (fun i x hi => by rw [Nat.zero_add]; exact hc.at_ i x hi)
  exact ⟨l, hl, fun i x hi => by have := hx i x hi; rwa [Nat.zero_add] at this⟩

theorem appCells_get {cs : List SV} {off n i : Nat} {x : SV} (h : (appCells cs off n)[i]? = some x) : i < n ∧ cs[off + i]? = some x := by
  unfold appCells at h
  rw [List.getElem?_take] at h
  split at h
  · rename_i hi
    rw [List.getElem?_drop] at h
    exact ⟨hi, h⟩
  · cases h
theorem appCells_length {cs : List SV} {off n : Nat} (h : off + n ≤ cs.length) : (appCells cs off n).length = n := by
  unfold appCells; rw [List.length_take, List.length_drop]; omega
theorem appendCells_aux {cs : List SV} {off n : Nat} (h : off + n ≤ cs.length) : (appCells cs off n).length = n := appCells_length h
theorem appCells_all {cs : List SV} : appCells cs 0 cs.length = cs := by simp [appCells]

theorem getD_list {l : List Value} {j : Nat} {v : Value} (h : l[j]? = some v) : l.getD j undef = v := by simp [List.getD_eq_getElem?_getD, h]

theorem srcOk_cells {P : Program} {C : Nat → Chunk} {I : Nat → Prop} {b o z m cap : Nat} {tx e' : TypeId} {cs : List SV} (hu : P.underlying tx = some (.slice e')) (hc : Cells P C ids I w b o cs) (hl : cs.length = m * z) (h1 : cs.all oneS = true) :
    ∃ vs, SrcOk P C ids I w z tx (.slice (some ⟨b, o, none⟩) m cap) m cs vs := by
  obtain ⟨l, hll, hx⟩ := cells_list hc
  have hone : ∀ u ∈ l, u.oneCell' = true := fun u hu => by
    obtain ⟨i, hi, rfl⟩ := List.getElem_of_mem hu
    have hi' : i < cs.length := by omega
    have := (hx i _ (List.getElem?_eq_getElem hi')).2
    have h2 := one_den this (List.all_eq_true.1 h1 _ (List.getElem_mem hi'))
    simpa [List.getD_eq_getElem?_getD, List.getElem?_eq_getElem hi] using h2
  refine ⟨l, Src.ofSlice w hu ⟨b, o, none⟩ m cap l (by omega) (fun j u hj => ?_) hone, hll.symm, fun i x hi => (hx i x hi).2⟩
  have hj' : j < cs.length := by rw [← hll]; exact (List.getElem?_eq_some_iff.1 hj).1
  rw [add_mk, (hx j _ (List.getElem?_eq_getElem hj')).1, getD_list hj]

theorem src_ok (h : HeapX X hp nx ids w) {tx : TypeId} {z : Nat} {s : SV} {y : Value} (hd : DenX X hp ids w s y) {f : Nat → List SV → List Nat → Prop → Res} {side : Prop} {e : Eff} (he : srcS X.P tx z s hp f = .ok side e)
    (hside : ∀ m news rds s0, f m news rds s0 = .ok side e → side → s0 ∧ news.length = m * z ∧ news.all oneS = true) (hs : side) :
    ∃ m news rds s0 vs, f m news rds s0 = .ok side e ∧ SrcOk X.P (getH hp) ids (Im X.w0 X.I0 X.W0 (getH hp) ids w) w z tx y m news vs := by
  unfold srcS at he
  split at he
  · rename_i k off m
    split at he
    · rename_i p hz
      obtain ⟨e', n'⟩ := p
      obtain ⟨i, hu, hi, _⟩ := sliceT_some hz
      obtain ⟨t', cs, hk, hf⟩ := rowS_ok he
      obtain ⟨s0, s1, s2⟩ := hside _ _ _ _ hf hs
      obtain ⟨a, cap, rfl, h1, h2, _, h3⟩ := den_own hd (by rw [hk]; rfl)
      rcases h3 with ⟨rfl, rfl⟩ | ⟨b, o, e2, cs2, arr, hC, hid, rfl, hw, hsz⟩
      · refine ⟨_, _, _, _, [], hf, ?_, by simpa using s1, fun i x hi => ?_⟩
        · cases a with
          | none => exact Src.ofNil w hu 0
          | some a => exact Src.ofSlice w hu a 0 0 [] (by simp) (fun j u hj => by simp at hj) (fun u hu => by cases hu)
        · have := (List.getElem?_eq_some_iff.1 hi).1; rw [s1] at this; omega
      · rw [hk] at hC; cases hC
        have hc := row_at h hk hid
        have hc' : Cells X.P (getH hp) ids (Im X.w0 X.I0 X.W0 (getH hp) ids w) w b (o + off) (appCells cs off (m * z)) :=
          ⟨fun i x hi => by
            obtain ⟨_, hi2⟩ := appCells_get hi
            obtain ⟨c, g1, g2⟩ := hc.at_ _ _ hi2
            exact ⟨c, by rw [Nat.add_assoc]; exact g1, g2⟩⟩
        obtain ⟨vs, hvs⟩ := srcOk_cells (cap := cap) hu hc' s1 s2
        exact ⟨_, _, _, _, vs, hf, hvs⟩
    · cases he
  · rename_i m cs
    split at he
    · rename_i p hz
      obtain ⟨e', n'⟩ := p
      obtain ⟨i, hu, hi, _⟩ := sliceT_some hz
      obtain ⟨s0, s1, s2⟩ := hside _ _ _ _ he hs
      obtain ⟨a, cap, rfl, h1, h2, h3⟩ := den_sl hd
      rcases h3 with ⟨rfl, rfl⟩ | ⟨b, o, c, rfl, hI, hc, hx⟩
      · refine ⟨_, _, _, _, [], he, ?_, rfl, fun i x hi => by simp at hi⟩
        cases a with
        | none => exact Src.ofNil w hu cap
        | some a => exact Src.ofSlice w hu a 0 cap [] (by simp) (fun j u hj => by simp at hj) (fun u hu => by cases hu)
      · obtain ⟨vs, hvs⟩ := srcOk_cells (cap := cap) hu (b := b) (o := o) (cs := cs) ⟨fun i x hi => ⟨c i, hc i x hi, hx i x hi⟩⟩ s1 s2
        exact ⟨_, _, _, _, vs, he, hvs⟩
    · cases he
  · split at he
    · rename_i p hz
      obtain ⟨e', n'⟩ := p
      obtain ⟨i, hu, hi, _⟩ := sliceT_some hz
      obtain rfl := den_v hd
      exact ⟨_, _, _, _, [], he, Src.ofNil w hu 0, rfl, fun i x hi => by simp at hi⟩
    · cases he
  · rename_i s
    split at he
    · rename_i hu
      obtain ⟨s0, s1, s2⟩ := hside _ _ _ _ he hs
      obtain rfl := den_v hd
      have hlen : (byteS s).length = s.size := by unfold byteS; rw [List.length_map, Array.length_toList]; rfl
      have hz : z = 1 ∨ s.size = 0 := by
        rw [hlen] at s1
        rcases Nat.eq_zero_or_pos s.size with h0 | h0
        · exact .inr h0
        · left
          have : s.size * 1 = s.size * z := by omega
          exact (Nat.eq_of_mul_eq_mul_left h0 this).symm
      refine ⟨_, _, _, _, byteCells s, he, ?_, by rw [hlen, byteCells_length], fun i x hi => ?_⟩
      · have := Src.ofString w hu s
        rcases hz with rfl | h0
        · exact this
        · have hb : byteCells s = [] := List.eq_nil_of_length_eq_zero (by rw [byteCells_length, h0])
          have g : ∀ w' : World, (Builtin.firstCells z s.size (.string s)).run X.P w' = .ok (byteCells s).toArray w' := fun w' => firstCells_string s w'
          exact ⟨.inr hu, this.len, g w, g _, by rw [hb, h0]; simp, this.one⟩
      · unfold byteS at hi
        rw [List.getElem?_map] at hi
        cases hq : s.data.toList[i]? with
        | none => rw [hq] at hi; cases hi
        | some b =>
          rw [hq] at hi; cases hi
          have : (byteCells s)[i]? = some (.int .u8 b.toNat) := by unfold byteCells; rw [List.getElem?_map, hq]; rfl
          rw [getD_list this]; exact .v
    · cases he
  · cases he

def appendS (P : Program) (t tx : TypeId) (x y : SV) (hp : Hp) (nx : Nat) : Res :=
  match sliceT P t with
  | some (e, z) => srcS P tx z y hp fun m news rds s0 =>
    match x with
    | .own k off n => rowS (getH hp k) fun e' cs =>
      .ok (s0 ∧ e' = e ∧ news.length = m * z ∧ news.all oneS = true ∧ off + n * z ≤ cs.length ∧ 0 < P.bytesOf e ∧ (n + m) * P.bytesOf e ≤ 140737488355328)
        ⟨.own nx 0 (n + m), [(nx, .row e (appCells cs off (n * z) ++ news)), (k, .dead)], nx + 1, k :: rds⟩
    | .v (.slice none 0 0) =>
      .ok (s0 ∧ news.length = m * z ∧ news.all oneS = true ∧ 0 < P.bytesOf e ∧ m * P.bytesOf e ≤ 140737488355328) ⟨.own nx 0 m, [(nx, .row e news)], nx + 1, rds⟩
    | _ => .bad
  | none => .bad

theorem Ext_trans' {hp1 hp2 hp3 : Hp} {i1 i2 i3 : Ids} {u1 u2 u3 : World} (h : ExtX X hp1 i1 u1 hp2 i2 u2) (g : ExtX X hp2 i2 u2 hp3 i3 u3) : ExtX X hp1 i1 u1 hp3 i3 u3 := Ext.trans h g

/-- The arm that grows: a new row. -/
theorem append_grow {hp' : Hp} (h : HeapX X hp nx ids w) (h' : HeapX X hp' nx ids w) (hE : ExtX X hp ids w hp' ids w) {t tx ty e : TypeId} {i : TypeInfo} {z : Value} (ht : X.P.underlying t = some (.slice e)) (hi : X.P.info? e = some i) (hz : i.zero = some z)
    {base : Option Addr} {n cap : Nat} {olds : List SV} {ovs : List Value} (hold : (Builtin.firstCells i.size n (.slice base n cap)).run X.P w.drew = .ok ovs.toArray w.drew) (hol : olds.length = ovs.length)
    (hod : ∀ j x, olds[j]? = some x → DenX X hp ids w x (ovs.getD j undef)) {y : Value} {m : Nat} {news : List SV} {vs : List Value} (hsrc : SrcOk X.P (getH hp) ids (Im X.w0 X.I0 X.W0 (getH hp) ids w) w i.size tx y m news vs)
    (holn : ovs.length = n * i.size) (hg : cap < n + m) (hb0 : 0 < i.bytes) (hb : (n + m) * i.bytes ≤ 140737488355328) (hzc : z.cells.size = i.size) :
    ∃ x w' ids', (Builtin.append_ #[t, tx] ty #[.slice base n cap, y]).run X.P w = .ok x w' ∧ HeapC X ([(nx, .row e (olds ++ news))] ++ hp') ids' w' ∧ ExtX X hp ids w ([(nx, .row e (olds ++ news))] ++ hp') ids' w' ∧
      DenX X ([(nx, .row e (olds ++ news))] ++ hp') ids' w' (.own nx 0 (n + m)) x := by
  have hnm : n + m ≤ (n + m) * i.bytes := Nat.le_mul_of_pos_right _ hb0
  have hrun := run_append_grow_src (P := X.P) w t tx ty e i z ht hi hz base n cap ovs hold y m vs hsrc.src hg (by omega) (growslice_fits hg hb)
  obtain ⟨d1c, d2⟩ := h'.toHeapC.drew
  have d1 : HeapX X hp' nx ids w.drew := ⟨d1c, h'.fresh, h'.m_le⟩
  have hE2 := Ext_trans' hE d2
  have hvl : vs.length = m * i.size := hsrc.src.newsLen
  have hcap : n + m ≤ grownCap w (n + m) cap e := grownCap_ge w (n + m) cap e
  have hcm : grownCap w (n + m) cap e ≤ maxLen := grownCap_le_maxLen w (n + m) cap e (by unfold maxLen; omega)
  have hsz : ((ovs ++ vs).toArray ++ Builtin.zeroCells z.cells (grownCap w (n + m) cap e - (n + m))).size = grownCap w (n + m) cap e * i.size := by
    rw [Array.size_append, List.size_toArray, List.length_append, size_zeroCells, hzc, holn, hvl, ← Nat.add_mul, ← Nat.add_mul]
    congr 1; omega
  obtain ⟨a1, a2⟩ := heap_alloc d1 (e := e) (cs := olds ++ news) (arr := (ovs ++ vs).toArray ++ Builtin.zeroCells z.cells (grownCap w (n + m) cap e - (n + m))) (by
      rw [hsz, List.length_append, hol, holn, hsrc.len, hvl, ← Nat.add_mul]; exact Nat.mul_le_mul_right _ hcap) (fun j x hj => by
      have hjl := (List.getElem?_eq_some_iff.1 hj).1
      rw [List.length_append, hol, hsrc.len] at hjl
      have key : DenX X hp ids w x ((ovs ++ vs).getD j undef) := by
        rw [List.getElem?_append] at hj
        split at hj
        · rename_i hlt
          have := hod j x hj
          rwa [List.getD_eq_getElem?_getD, List.getElem?_append_left (by omega), ← List.getD_eq_getElem?_getD]
        · rename_i hlt
          have := hsrc.den _ x hj
          rw [List.getD_eq_getElem?_getD, List.getElem?_append_right (by omega), ← List.getD_eq_getElem?_getD, ← hol]
          exact this
      have := key.mono hE2
      rw [Array.getD_eq_getD_getElem?, Array.getElem?_append_left (by rw [List.size_toArray, List.length_append]; exact hjl)]
      rw [List.getD_eq_getElem?_getD] at this
      simpa using this)
  refine ⟨_, _, _, hrun, a1, Ext_trans' hE2 a2, .own _ _ ?_ ?_⟩
  · rw [List.singleton_append, getH_upd, upd_same]; rfl
  · refine ⟨hcap, hcm, fun e' cs' hc' => ?_, .inr ⟨w.heap.size, 0, e, olds ++ news, _, ?_, upd_same _ _ _, rfl, heap_alloc_new' w.drew _, ?_⟩⟩
    · rw [List.singleton_append, getH_upd, upd_same] at hc'
      cases hc'
      rw [show X.P.cellsOf e = i.size from by simp [Program.cellsOf, hi], List.length_append, hol, hsrc.len, hvl, holn, ← Nat.add_mul, Nat.zero_add]
      exact Nat.mul_le_mul_right _ hcap
    · rw [List.singleton_append, getH_upd, upd_same]
    · rw [hsz, show X.P.cellsOf e = i.size from by simp [Program.cellsOf, hi]]; omega


theorem run_firstCells_list {P : Program} {C : Nat → Chunk} {I : Nat → Prop} {b o z n cap : Nat} {cs : List SV} (hc : Cells P C ids I w b o cs) (hl : cs.length = n * z) :
    ∃ l : List Value, l.length = n * z ∧ (Builtin.firstCells z n (.slice (some ⟨b, o, none⟩) n cap)).run P w.drew = .ok l.toArray w.drew ∧ ∀ i x, cs[i]? = some x → Den P C ids I w x (l.getD i undef) := by
  obtain ⟨l, hll, hx⟩ := cells_list hc
  refine ⟨l, by omega, run_firstCells_some w.drew z n ⟨b, o, none⟩ n cap l (by omega) (fun j u hj => ?_), fun i x hi => (hx i x hi).2⟩
  have hj' : j < cs.length := by rw [← hll]; exact (List.getElem?_eq_some_iff.1 hj).1
  rw [add_mk, World.cell?_drew, (hx j _ (List.getElem?_eq_getElem hj')).1, getD_list hj]

/-- (a table's fact on an element type: its zero value has as many cells as the type) -/
def zokT (P : Program) (e : TypeId) : Bool := match P.info? e with
  | some i => match i.zero with
    | some z => z.cells.size == i.size
    | none => false
  | none => false
theorem zokT_true {P : Program} {e : TypeId} {i : TypeInfo} (h : zokT P e = true) (hi : P.info? e = some i) : ∃ z, i.zero = some z ∧ z.cells.size = i.size := by
  simp only [zokT, hi] at h
  cases hz : i.zero with
  | none => simp [hz] at h
  | some z => exact ⟨z, rfl, by simpa [hz] using h⟩

theorem sound_append (h : HeapX X hp nx ids w) {t tx ty : TypeId} {s q : SV} {x y : Value} (hd : DenX X hp ids w s x) (hq : DenX X hp ids w q y) {side : Prop} {e : Eff} (he : appendS X.P t tx s q hp nx = .ok side e) (hs : side)
    (hz : ∀ et z, sliceT X.P t = some (et, z) → zokT X.P et = true) :
    Sound X hp ids w ((Builtin.append_ #[t, tx] ty #[x, y]).run X.P w) e := by
  unfold appendS at he
  split at he
  · rename_i et z hst
    obtain ⟨i, ht, hi, rfl⟩ := sliceT_some hst
    obtain ⟨zv, hzv, hzc⟩ := zokT_true (hz _ _ hst) hi
    have hby : X.P.bytesOf et = i.bytes := by simp [Program.bytesOf, hi]
    have hce : X.P.cellsOf et = i.size := by simp [Program.cellsOf, hi]
    obtain ⟨m, news, rds, s0, vs, hf, hsrc⟩ := src_ok h hq he (fun m news rds s0 hf hs => by
      split at hf
      · obtain ⟨t', cs, hk, hf⟩ := rowS_ok hf
        cases hf; exact ⟨hs.1, hs.2.2.1, hs.2.2.2.1⟩
      · cases hf; exact ⟨hs.1, hs.2.1, hs.2.2.1⟩
      · cases hf) hs
    have hvl : vs.length = m * i.size := hsrc.src.newsLen
    split at hf
    · rename_i k off n
      obtain ⟨t', cs, hk, hf⟩ := rowS_ok hf
      cases hf
      obtain ⟨_, rfl, hnl, hna, hoff, hb0, hb⟩ := hs
      rw [hby] at hb0 hb
      have hlk : (getH hp k).live = true := by rw [hk]; rfl
      have hkn : k ≠ nx := fun e' => by subst e'; rw [h.fresh] at hlk; cases hlk
      obtain ⟨a, cap, rfl, h1, h2, h4, h3⟩ := den_own hd hlk
      have hal := appendCells_aux hoff
      by_cases hg : cap < n + m
      · -- it grows
        obtain ⟨k1c, k2⟩ := heap_kill h.toHeapC k
        have k1 : HeapX X ([(k, .dead)] ++ hp) nx ids w := ⟨k1c, by rw [List.singleton_append, getH_upd, upd_ne _ _ hkn.symm]; exact h.fresh, h.m_le⟩
        have hold : ∃ ovs : List Value, ovs.length = n * i.size ∧ (Builtin.firstCells i.size n (.slice a n cap)).run X.P w.drew = .ok ovs.toArray w.drew ∧ ∀ j x, (appCells cs off (n * i.size))[j]? = some x → DenX X hp ids w x (ovs.getD j undef) := by
          rcases h3 with ⟨rfl, rfl⟩ | ⟨b, o, e2, cs2, arr, hC, hid, rfl, hw, hsz⟩
          · refine ⟨[], by simp, ?_, fun j x hj => by rw [Nat.zero_mul] at hj; obtain ⟨h0, _⟩ := appCells_get hj; omega⟩
            cases a with
            | none => rfl
            | some a => simp [Builtin.firstCells, loadCells, loadCellsFrom]
          · rw [hk] at hC; cases hC
            have hc := row_at h hk hid
            have hc' : Cells X.P (getH hp) ids (Im X.w0 X.I0 X.W0 (getH hp) ids w) w b (o + off) (appCells cs off (n * i.size)) :=
              ⟨fun j x hj => by
                obtain ⟨_, hj2⟩ := appCells_get hj
                obtain ⟨c, g1, g2⟩ := hc.at_ _ _ hj2
                exact ⟨c, by rw [Nat.add_assoc]; exact g1, g2⟩⟩
            obtain ⟨l, l1, l2, l3⟩ := run_firstCells_list (cap := cap) (z := i.size) (n := n) hc' hal
            exact ⟨l, l1, l2, l3⟩
        obtain ⟨ovs, o1, o2, o3⟩ := hold
        obtain ⟨xv, w', ids', r1, r2, r3, r4⟩ := append_grow (ty := ty) h k1 k2 ht hi hzv o2 (by rw [hal, o1]) o3 hsrc o1 hg hb0 hb hzc
        exact ⟨xv, w', ids', r1, r2, r3, r4⟩
      · -- there is room
        rcases h3 with ⟨rfl, rfl⟩ | ⟨b, o, e2, cs2, arr, hC, hid, rfl, hw, hsz⟩
        · have hm0 : m = 0 := by omega
          subst hm0
          have hv0 : vs = [] := List.eq_nil_of_length_eq_zero (by rw [hvl]; omega)
          have hn0 : news = [] := List.eq_nil_of_length_eq_zero (by rw [hsrc.len, hv0]; rfl)
          subst hn0; subst hv0
          have hrun := run_append_nothing (P := X.P) w t tx ty t' i ht hi a 0 0 (Nat.le_refl _) y hsrc.src
          have hap : appCells cs off (0 * i.size) ++ [] = ([] : List SV) := by simp [appCells]
          rw [hap]
          obtain ⟨g1, g2⟩ := heap_rename h hk (cs' := []) (off := off) (by simp at hoff ⊢; exact hoff) (fun j x hj => by simp at hj)
          refine ⟨_, _, _, hrun, g1, g2, .own a 0 ?_ ⟨Nat.le_refl _, by unfold maxLen; omega, fun e' cs' hc' => ?_, .inl ⟨rfl, rfl⟩⟩⟩
          · show (getH ((nx, Chunk.row t' []) :: (k, .dead) :: hp) nx).live = true
            rw [getH_upd, upd_same]; rfl
          · rw [show ([(nx, Chunk.row t' []), (k, .dead)] ++ hp : Hp) = (nx, Chunk.row t' []) :: (k, .dead) :: hp from rfl, getH_upd, upd_same] at hc'
            cases hc'; exact Nat.zero_le _
        · rw [hk] at hC; cases hC
          have hc := h.st.ch k
          rw [hk] at hc
          simp only [DenC, hid] at hc
          obtain ⟨arr', ha', hl', hx'⟩ := hc
          rw [hw] at ha'; cases ha'
          rw [hce] at hsz
          have hroomc : o + off + (n + m) * i.size ≤ arr.size := by
            have : (n + m) * i.size ≤ cap * i.size := Nat.mul_le_mul_right _ (by omega)
            omega
          rw [Nat.add_mul] at hroomc
          have hcell : ∀ j, j < vs.length → w.cell? ⟨b, o + off + n * i.size + j, none⟩ = some (arr.getD (o + off + n * i.size + j) undef) := fun j hj => by
            simp only [World.cell?, hw]
            simp [Array.getD_eq_getD_getElem?, Array.getElem?_eq_getElem (show o + off + n * i.size + j < arr.size by omega)]
          have hrun := run_append_room_src (P := X.P) w t tx ty t' i ht hi b (o + off) n cap y m vs hsrc.src (by omega) (fun j hj => by rw [hcell j hj]; rfl) (fun j hj => by simp [World.frozen?, hw])
          rw [setCells_eq_setRow w b (o + off + n * i.size) t' vs arr hw (by omega) hsrc.src.one] at hrun
          have hget : ∀ q, (arr.toList.take (o + off + n * i.size) ++ vs ++ arr.toList.drop (o + off + n * i.size + vs.length)).toArray.getD q undef =
              if q < o + off + n * i.size then arr.getD q undef else if q < o + off + n * i.size + vs.length then vs.getD (q - (o + off + n * i.size)) undef else arr.getD q undef := by
            intro q
            have hoo : o + off + n * i.size ≤ arr.size := by omega
            simp only [Array.getD_eq_getD_getElem?, List.getElem?_toArray]
            by_cases hq : q < o + off + n * i.size
            · rw [if_pos hq, List.append_assoc, List.getElem?_append_left (by simp; omega), List.getElem?_take, if_pos hq]
              simp
            · rw [if_neg hq, List.append_assoc, List.getElem?_append_right (by simp; omega)]
              simp only [List.length_take, Array.length_toList, Nat.min_eq_left hoo]
              by_cases hq2 : q < o + off + n * i.size + vs.length
              · rw [if_pos hq2, List.getElem?_append_left (by omega)]
                simp [List.getD_eq_getElem?_getD]
              · rw [if_neg hq2, List.getElem?_append_right (by omega), List.getElem?_drop]
                simp only [Array.getElem?_toList]
                congr 2; omega
          have htl : (cs.take (off + n * i.size) ++ news).length = off + n * i.size + m * i.size := by
            rw [List.length_append, List.length_take, hnl]; omega
          obtain ⟨g1c, g2⟩ := heap_turn h hk hid (cs' := cs.take (off + n * i.size)) hw (arr' := (arr.toList.take (o + off + n * i.size) ++ vs ++ arr.toList.drop (o + off + n * i.size + vs.length)).toArray)
            (by simp only [List.size_toArray, List.length_append, List.length_take, List.length_drop, Array.length_toList]; omega) (by rw [List.length_take]; omega) (by rw [List.length_take]; omega) (fun j x hj => by
              rw [hget]
              have hjl := (List.getElem?_eq_some_iff.1 hj).1
              rw [List.length_take] at hjl
              rw [List.getElem?_take, if_pos (by omega)] at hj
              rw [if_pos (by omega)]; exact hx' j x hj)
          have g1 : HeapX X ([(k, Chunk.row t' (cs.take (off + n * i.size)))] ++ hp) nx ids _ := ⟨g1c, by rw [List.singleton_append, getH_upd, upd_ne _ _ hkn.symm]; exact h.fresh, h.m_le⟩
          have hk2 : getH ([(k, Chunk.row t' (cs.take (off + n * i.size)))] ++ hp) k = .row t' (cs.take (off + n * i.size)) := by rw [List.singleton_append, getH_upd, upd_same]
          have hapl : (appCells cs off (n * i.size) ++ news).length = n * i.size + m * i.size := by rw [List.length_append, hal, hnl]
          obtain ⟨r1, r2⟩ := heap_renameG g1 hk2 (cs' := appCells cs off (n * i.size) ++ news) (off := off) (fun hn => by rw [hid] at hn; cases hn) (fun b1 o1 arr1 hi1 ha1 => by
            rw [hid] at hi1; cases hi1
            rw [setRow_heap w b arr _ t' (0, 0) hw] at ha1; cases ha1
            refine ⟨by rw [hapl]; simp only [List.size_toArray, List.length_append, List.length_take, List.length_drop, Array.length_toList]; omega, fun j x hj => ?_⟩
            rw [hget]
            have hjl := (List.getElem?_eq_some_iff.1 hj).1
            rw [hapl] at hjl
            rw [List.getElem?_append] at hj
            split at hj
            · rename_i hlt
              obtain ⟨a1, a2⟩ := appCells_get hj
              rw [if_pos (by omega)]
              have := (hx' _ _ a2).mono g2
              rw [← Nat.add_assoc] at this
              exact this
            · rename_i hlt
              rw [hal] at hlt hj
              rw [if_neg (by omega), if_pos (by omega)]
              have := (hsrc.den _ x hj).mono g2
              rw [show o + off + j - (o + off + n * i.size) = j - n * i.size from by omega]
              exact this)
          have hCeq : getH ([(nx, Chunk.row t' (appCells cs off (n * i.size) ++ news)), (k, .dead)] ++ ([(k, Chunk.row t' (cs.take (off + n * i.size)))] ++ hp)) = getH ([(nx, Chunk.row t' (appCells cs off (n * i.size) ++ news)), (k, .dead)] ++ hp) := by
            show getH ((nx, _) :: (k, .dead) :: (k, _) :: hp) = getH ((nx, _) :: (k, .dead) :: hp)
            rw [getH_upd, getH_upd, getH_upd, getH_upd, getH_upd]
            funext j
            unfold upd
            split
            · rfl
            · split <;> rfl
          refine ⟨_, _, _, hrun, ⟨by rw [← hCeq]; exact r1.st, by rw [← hCeq]; exact r1.kept⟩, ?_, ?_⟩
          · have := Ext_trans' g2 r2
            simp only [ExtX, hCeq] at this
            exact this
          · refine .own _ _ ?_ ⟨by omega, h2, fun e' cs' hc' => ?_, .inr ⟨b, o + off, t', appCells cs off (n * i.size) ++ news, _, ?_, ?_, rfl, setRow_heap w b arr _ t' (0, 0) hw, ?_⟩⟩
            · show (getH ((nx, _) :: (k, .dead) :: hp) nx).live = true
              rw [getH_upd, upd_same]; rfl
            · replace hc' : getH ((nx, _) :: (k, .dead) :: hp) nx = _ := hc'
              rw [getH_upd, upd_same] at hc'
              cases hc'
              rw [hapl, hce, ← Nat.add_mul, Nat.zero_add]
              exact Nat.mul_le_mul_right _ (by omega)
            · show getH ((nx, _) :: (k, .dead) :: hp) nx = _
              rw [getH_upd, upd_same]
            · rw [upd_same, hid]; rfl
            · rw [hce]
              simp only [List.size_toArray, List.length_append, List.length_take, List.length_drop, Array.length_toList]; omega
    · cases hf
      obtain ⟨_, hnl, hna, hb0, hb⟩ := hs
      rw [hby] at hb0 hb
      obtain rfl := den_v hd
      by_cases hm : m = 0
      · subst hm
        have hv0 : vs = [] := List.eq_nil_of_length_eq_zero (by rw [hvl]; omega)
        have hn0 : news = [] := List.eq_nil_of_length_eq_zero (by rw [hsrc.len, hv0]; rfl)
        subst hn0; subst hv0
        have hrun := run_append_nothing (P := X.P) w t tx ty et i ht hi none 0 0 (Nat.le_refl _) y hsrc.src
        obtain ⟨r1, r2⟩ := heap_reid h none
        obtain ⟨g1, g2⟩ := heap_absent r1 et (upd_same _ _ _)
        refine ⟨_, _, _, hrun, g1, Ext_trans' r2 g2, .own none 0 ?_ ⟨Nat.le_refl _, by unfold maxLen; omega, fun e' cs' hc' => ?_, .inl ⟨rfl, rfl⟩⟩⟩
        · rw [List.singleton_append, getH_upd, upd_same]; rfl
        · rw [List.singleton_append, getH_upd, upd_same] at hc'
          cases hc'; exact Nat.zero_le _
      · obtain ⟨xv, w', ids', r1, r2, r3, r4⟩ := append_grow (ty := ty) (olds := []) (ovs := []) (n := 0) (base := none) (cap := 0) h h (Ext.refl _ _ _ _) ht hi hzv rfl rfl (fun j x hj => by simp at hj) hsrc (by simp) (by omega) hb0 (by simpa using hb) hzc
        simp only [List.nil_append, Nat.zero_add] at r2 r3 r4
        exact ⟨xv, w', ids', r1, r2, r3, r4⟩
    · cases hf
  · cases he

end Go.Sx
