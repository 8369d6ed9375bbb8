/-
  G, part J: slices.Insert of one element: what its three roads do to chunks.
-/
import Derived.Test.YtnnpjaoddniifaaGI
import Derived.Lib.Overlaps
import Derived.Lib.AppendZerosOnto
import Derived.Laws.IdiomCopy
import Derived.Shelf.Spec.SlicesInsert
set_option linter.unusedSimpArgs false
set_option linter.unusedVariables false
namespace Go.Sx
open Go.RowKit
set_option linter.unusedVariables false
set_option linter.unusedSimpArgs false
variable {P : Program}

def insL {α : Type} (xs : List α) (i : Int) (ys : List α) : List α := xs.take i.toNat ++ ys ++ xs.drop i.toNat
theorem bif_some {α : Type} {p : Prop} [Decidable p] {a r : α} (h : (bif decide p then some a else none) = some r) : p ∧ a = r := by
  by_cases hp : p
  · simp only [hp, decide_true, cond_true, Option.some.injEq] at h; exact ⟨hp, h⟩
  · simp [hp] at h
theorem fn_of {f : FuncId} {fn : Func} (h : P.funcs[f]? = some fn) (hb : fn.body.isSome = true) (hn : (fn.name == "runtime.NumGoroutine") = false) : ∃ fn body, P.funcs[f]? = some fn ∧ fn.body = some body ∧ fn.name ≠ "runtime.NumGoroutine" := by
  obtain ⟨b, hb⟩ := Option.isSome_iff_exists.1 hb
  exact ⟨fn, b, h, hb, by simpa using hn⟩
theorem insL_len {α : Type} (xs : List α) (i : Int) (ys : List α) : (insL xs i ys).length = xs.length + ys.length := by
  unfold insL; simp only [List.length_append, List.length_take, List.length_drop]; omega

def putR (arr : Array Value) (o : Nat) (vs : List Value) : Array Value := (arr.toList.take o ++ vs ++ arr.toList.drop (o + vs.length)).toArray
theorem putR_size {arr : Array Value} {o : Nat} {vs : List Value} (h : o + vs.length ≤ arr.size) : (putR arr o vs).size = arr.size := by
  unfold putR; simp only [List.size_toArray, List.length_append, List.length_take, List.length_drop, Array.length_toList]; omega
theorem putR_get {arr : Array Value} {o : Nat} {vs : List Value} (h : o + vs.length ≤ arr.size) (q : Nat) :
    (putR arr o vs).getD q undef = if q < o then arr.getD q undef else if q < o + vs.length then vs.getD (q - o) undef else arr.getD q undef := by
  unfold putR
  have hoo : o ≤ arr.size := by omega
  simp only [Array.getD_eq_getD_getElem?, List.getElem?_toArray]
  by_cases hq : q < o
  · rw [if_pos hq, List.append_assoc, List.getElem?_append_left (by simp; omega), List.getElem?_take, if_pos hq]
    simp
  · rw [if_neg hq, List.append_assoc, List.getElem?_append_right (by simp; omega)]
    simp only [List.length_take, Array.length_toList, Nat.min_eq_left hoo]
    by_cases hq2 : q < o + vs.length
    · rw [if_pos hq2, List.getElem?_append_left (by omega)]
      simp [List.getD_eq_getElem?_getD]
    · rw [if_neg hq2, List.getElem?_append_right (by omega), List.getElem?_drop]
      simp only [Array.getElem?_toList]
      congr 2; omega

theorem run_copy_put (w : World) (dT sT ty e t : TypeId) (z b o dLen dCap : Nat) (a : Addr) (sLen sCap : Nat) (cs : List Value) (arr : Array Value) (hst : sliceT P dT = some (e, z)) (hn : cs.length = Nat.min sLen dLen * z)
    (hw : w.heap[b]? = some (.cells arr t (0, 0))) (hl : o + cs.length ≤ arr.size) (hsrc : ∀ j v, cs[j]? = some v → w.cell? (a.add j) = some v) (h1 : ∀ v ∈ cs, v.oneCell' = true) :
    (Builtin.copy_ #[dT, sT] ty #[.slice (some ⟨b, o, none⟩) dLen dCap, .slice (some a) sLen sCap]).run P w = .ok (goInt (Nat.min sLen dLen)) (w.setRow b (putR arr o cs)) := by
  obtain ⟨i, hu, hi, hiz⟩ := sliceT_some hst
  have hlo := run_loadCells_list (P := P) w a cs hsrc
  have hc : ∀ j, j < cs.length → w.cell? ⟨b, o + j, none⟩ = some (arr.getD (o + j) undef) := fun j hj => by
    simp only [World.cell?, hw]
    simp [Array.getD_eq_getD_getElem?, Array.getElem?_eq_getElem (show o + j < arr.size by omega)]
  have hs := run_storeCells_cells (P := P) b o cs 0 w (fun j hj => by rw [Nat.add_zero, hc j hj]; rfl) (fun j hj => by simp [World.frozen?, hw]) h1
  rw [Nat.add_zero, setCells_eq_setRow w b o t cs arr hw hl h1] at hs
  subst hiz
  rw [hn] at hlo
  simp [Builtin.copy_, run_underlying hu, Builtin.lenOf, Builtin.firstCells, sizeOf, typeInfo, hi, hlo, hs, putR]

theorem vals3 {vals : Array Value} (h : vals.size = 3) : ∃ a b c, vals = #[a, b, c] := by
  obtain ⟨l⟩ := vals
  match l, h with
  | [a, b, c], _ => exact ⟨a, b, c, rfl⟩

theorem row_list {X : Cx} {hp : Hp} {ids : Ids} {w : World} (h : HeapC X hp ids w) {k b o : Nat} {e : TypeId} {cs : List SV} (hk : getH hp k = .row e cs) (hi : ids k = some (b, o)) (h1 : cs.all oneS = true) :
    ∃ (arr : Array Value) (l : List Value), w.heap[b]? = some (.cells arr e (0, 0)) ∧ o + cs.length ≤ arr.size ∧ l.length = cs.length ∧ (∀ j, j < cs.length → l.getD j undef = arr.getD (o + j) undef) ∧ (∀ v ∈ l, v.oneCell' = true) ∧ ∀ i x, cs[i]? = some x → DenX X hp ids w x (l.getD i undef) := by
  have hc := h.st.ch k
  rw [hk] at hc
  simp only [DenC, hi] at hc
  obtain ⟨arr, ha, hl, hx⟩ := hc
  have hL : ((arr.toList.drop o).take cs.length).length = cs.length := by simp only [List.length_take, List.length_drop, Array.length_toList]; omega
  have hg : ∀ j, j < cs.length → ((arr.toList.drop o).take cs.length).getD j undef = arr.getD (o + j) undef := fun j hj => by
    rw [List.getD_eq_getElem?_getD, List.getElem?_take, if_pos hj, List.getElem?_drop]
    simp [Array.getD_eq_getD_getElem?]
  refine ⟨arr, (arr.toList.drop o).take cs.length, ha, hl, hL, hg, fun v hv => ?_, fun i x hi => ?_⟩
  · obtain ⟨i, hi, rfl⟩ := List.getElem_of_mem hv
    have hi' : i < cs.length := by omega
    have := hx i _ (List.getElem?_eq_getElem hi')
    rw [← hg i hi'] at this
    have h2 := one_den this (List.all_eq_true.1 h1 _ (List.getElem_mem hi'))
    simpa [List.getD_eq_getElem?_getD, List.getElem?_eq_getElem hi] using h2
  · have hi' := (List.getElem?_eq_some_iff.1 hi).1
    rw [hg i hi']; exact hx i x hi

theorem getD_drop (l : List Value) (a j : Nat) : (l.drop a).getD j undef = l.getD (a + j) undef := by simp [List.getD_eq_getElem?_getD, List.getElem?_drop]
theorem getD_take (l : List Value) (a j : Nat) (h : j < a) : (l.take a).getD j undef = l.getD j undef := by simp [List.getD_eq_getElem?_getD, List.getElem?_take, h]
theorem getElem_getD {l : List Value} {j : Nat} {v : Value} (h : l[j]? = some v) : l.getD j undef = v ∧ j < l.length := ⟨by simp [List.getD_eq_getElem?_getD, h], (List.getElem?_eq_some_iff.1 h).1⟩

/-- What the cells of a row hold behind an insertion. -/
def insC (cs ds : List SV) (q : Nat) : List SV := cs.take q ++ ds ++ cs.drop q
theorem insC_get {cs ds : List SV} {q i : Nat} {x : SV} (hq : q ≤ cs.length) (h : (insC cs ds q)[i]? = some x) :
    (i < q ∧ cs[i]? = some x) ∨ (q ≤ i ∧ i < q + ds.length ∧ ds[i - q]? = some x) ∨ (q + ds.length ≤ i ∧ cs[i - ds.length]? = some x) := by
  unfold insC at h
  by_cases h1 : i < q
  · rw [List.append_assoc, List.getElem?_append_left (by simp; omega), List.getElem?_take, if_pos h1] at h
    exact .inl ⟨h1, h⟩
  · rw [List.append_assoc, List.getElem?_append_right (by simp; omega)] at h
    simp only [List.length_take, Nat.min_eq_left hq] at h
    by_cases h2 : i < q + ds.length
    · rw [List.getElem?_append_left (by omega)] at h
      exact .inr (.inl ⟨by omega, h2, h⟩)
    · rw [List.getElem?_append_right (by omega), List.getElem?_drop] at h
      exact .inr (.inr ⟨by omega, by rwa [show q + (i - q - ds.length) = i - ds.length from by omega] at h⟩)
theorem insC_len {cs ds : List SV} {q : Nat} (hq : q ≤ cs.length) : (insC cs ds q).length = cs.length + ds.length := by
  unfold insC; simp only [List.length_append, List.length_take, List.length_drop]; omega
theorem fl_ins {α : Type} [Enc α] (xs ys : List α) (i : Int) : fl (insL xs i ys) = insC (fl xs) (fl ys) (i.toNat * Enc.sz α) := by
  unfold insL insC; rw [fl_append, fl_append, fl_take, fl_drop]

set_option maxHeartbeats 4000000 in
theorem insert_spec {α : Type} [Enc α] {f fO : FuncId} {tS tI tB e : TypeId} (hst : sliceT P tS = some (e, Enc.sz α)) (hz0 : 0 < Enc.sz α) (htI : P.underlying tI = some (.int .i64)) (hzk : zokT P e = true) (hby : 0 < P.bytesOf e)
    (hfn : ∃ fn body, P.funcs[f]? = some fn ∧ fn.body = some body ∧ fn.name ≠ "runtime.NumGoroutine")
    (hov : ∀ x y w, ((Extern.SlicesOverlaps.overlaps #[tS, tS] #[tB]) #[x, y]).run P w = .ok (.bool false) w → (callFunc fO #[x, y]).run P w = .ok (.value (.bool false)) w)
    (hSh : ∀ (b off n c i vc : Nat) (va : Option Addr) (w W1 W2 : World) (x1 x2 : Value), i < n → n + 1 ≤ c → c ≤ 9223372036854775807 →
      (∀ lb cb, (callFunc fO #[.slice va 1 vc, .slice (some ⟨b, off + (i + 1) * Enc.sz α, none⟩) lb cb]).run P w = .ok (.value (.bool false)) w) →
      (∀ ty dc sc, (Builtin.copy_ #[tS, tS] ty #[.slice (some ⟨b, off + (i + 1) * Enc.sz α, none⟩) (n - i) dc, .slice (some ⟨b, off + i * Enc.sz α, none⟩) (n + 1 - i) sc]).run P w.drew = .ok x1 W1) →
      (∀ ty dc, (Builtin.copy_ #[tS, tS] ty #[.slice (some ⟨b, off + i * Enc.sz α, none⟩) (n + 1 - i) dc, .slice va 1 vc]).run P W1 = .ok x2 W2) →
      Calls P f #[.slice (some ⟨b, off, none⟩) n c, .int .i64 i, .slice va 1 vc] w fun e w' => e = .returned (.slice (some ⟨b, off, none⟩) (n + 1) c) ∧ w' = W2)
    (hGr : ∀ (b off n c i vc : Nat) (va : Option Addr) (nb g : Nat) (w W0 W1 W2 : World) (x1 x2 : Value), i < n → n ≤ c → c < n + 1 → n + 1 ≤ g → g ≤ 9223372036854775807 →
      (∀ ty, (Builtin.append_ #[tS, tI] ty #[.slice (some ⟨b, off, none⟩) i c, .int .i64 ((n : Int) + 1 - i)]).run P w = .ok (.slice (some ⟨nb, 0, none⟩) (n + 1) g) W0) →
      (∀ ty dc, (Builtin.copy_ #[tS, tS] ty #[.slice (some ⟨nb, i * Enc.sz α, none⟩) (n + 1 - i) dc, .slice va 1 vc]).run P W0 = .ok x1 W1) →
      (∀ ty dc sc, (Builtin.copy_ #[tS, tS] ty #[.slice (some ⟨nb, (i + 1) * Enc.sz α, none⟩) (n - i) dc, .slice (some ⟨b, off + i * Enc.sz α, none⟩) (n - i) sc]).run P W1.drew = .ok x2 W2) →
      Calls P f #[.slice (some ⟨b, off, none⟩) n c, .int .i64 i, .slice va 1 vc] w fun e w' => e = .returned (.slice (some ⟨nb, 0, none⟩) (n + 1) g) ∧ w' = W2)
    (hEn : ∀ (a : Option Addr) (n c vc : Nat) (va : Option Addr) (w W1 : World) (x : Value), n ≤ c → c ≤ 9223372036854775807 → (a = none → n = 0) →
      ((Builtin.append_ #[tS, tS] tS #[.slice a n c, .slice va 1 vc]).run P w = .ok x W1) →
      Calls P f #[.slice a n c, .int .i64 n, .slice va 1 vc] w fun e w' => e = .returned x ∧ w' = W1)
    (xs ys : List α) (i : Int) (hi0 : 0 ≤ i) (hi1 : i ≤ (xs.length : Nat)) (hy : ys.length = 1) (hb : (xs.length + 1) * P.bytesOf e ≤ 140737488355328) :
    SpecW P f [.own 0 0 xs.length, .v (.int .i64 i), .own 1 0 ys.length] [(0, .row e (fl xs)), (1, .row e (fl ys))] 2 (fun x h n => x = .own 2 0 (insL xs i ys).length ∧ h = [(0, .dead), (1, .dead), (2, .row e (fl (insL xs i ys)))] ∧ n = 3) := by
  refine ⟨hfn, fun X vals hP hm hF hsz hd => ?_⟩
  subst hP
  obtain ⟨v0, v1, v2, rfl⟩ := vals3 hsz
  have hd0 : DenX X _ X.ids0 X.w0 (.own 0 0 xs.length) v0 := hd 0 _ rfl
  have hd1 : DenX X _ X.ids0 X.w0 (.v (.int .i64 i)) v1 := hd 1 _ rfl
  have hd2 : DenX X _ X.ids0 X.w0 (.own 1 0 ys.length) v2 := hd 2 _ rfl
  obtain rfl := den_v hd1
  obtain ⟨k, rfl⟩ : ∃ k : Nat, i = k := ⟨i.toNat, by omega⟩
  have hk1 : k ≤ xs.length := by omega
  have hH0 : getH [(0, Chunk.row e (fl xs)), (1, Chunk.row e (fl ys))] 0 = .row e (fl xs) := rfl
  have hH1 : getH [(0, Chunk.row e (fl xs)), (1, Chunk.row e (fl ys))] 1 = .row e (fl ys) := rfl
  have hl0 : (getH [(0, Chunk.row e (fl xs)), (1, Chunk.row e (fl ys))] 0).live = true := rfl
  have hl1 : (getH [(0, Chunk.row e (fl xs)), (1, Chunk.row e (fl ys))] 1).live = true := rfl
  obtain ⟨a, c, rfl, hnc, hcm, hcs0, hor⟩ := den_own hd0 hl0
  obtain ⟨va, vc, rfl, hvc, hvm, hvs0, hvor⟩ := den_own hd2 hl1
  obtain ⟨vb, vo, ve, vcs, varr, hvC, hvid, rfl, hvw, hvsz⟩ : ∃ b o e' cs arr, getH [(0, Chunk.row e (fl xs)), (1, Chunk.row e (fl ys))] 1 = .row e' cs ∧ X.ids0 1 = some (b, o) ∧ va = some ⟨b, o + 0, none⟩ ∧ X.w0.heap[b]? = some (.cells arr e' (0, 0)) ∧ o + 0 + vc * X.P.cellsOf e' ≤ arr.size := by
    rcases hvor with ⟨h, _⟩ | h
    · omega
    · exact h
  rw [hH1] at hvC; cases hvC
  rw [hy] at hvc ⊢
  have hFx := hF.toX
  obtain ⟨ti, hu, hti, htz⟩ := sliceT_some hst
  have hce : X.P.cellsOf e = Enc.sz α := szT_cells (by unfold szT; rw [hti]; simp [htz])
  have hbe : X.P.bytesOf e = ti.bytes := by simp [Program.bytesOf, hti]
  have hfx : (fl xs).length = xs.length * Enc.sz α := fl_length xs
  have hfy : (fl ys).length = Enc.sz α := by rw [fl_length, hy, Nat.one_mul]
  have hql : k * Enc.sz α ≤ (fl xs).length := by rw [hfx]; exact Nat.mul_le_mul_right _ hk1
  have hflI : fl (insL xs (k : Int) ys) = insC (fl xs) (fl ys) (k * Enc.sz α) := by rw [fl_ins]; rfl
  have hlen : (insL xs (k : Int) ys).length = xs.length + 1 := by rw [insL_len, hy]
  have hz63 : xs.length + 1 ≤ (xs.length + 1) * X.P.bytesOf e := Nat.le_mul_of_pos_right _ hby
  -- the end of all roads
  have fin : ∀ (x : Value) (W : World) (hp' : Hp) (ids' : Ids), HeapC X hp' ids' W → (getH hp' = getH [(0, .dead), (1, .dead), (2, .row e (fl (insL xs (k : Int) ys)))]) → DenX X hp' ids' W (.own 2 0 (xs.length + 1)) x →
      ∃ r res hp' nx' ids', Ending.returned x = .returned r ∧ (res = .own 2 0 (insL xs (k : Int) ys).length ∧ hp' = [(0, .dead), (1, .dead), (2, .row e (fl (insL xs (k : Int) ys)))] ∧ nx' = 3) ∧ HeapF X hp' nx' ids' W ∧ DenX X hp' ids' W res r := by
    intro x W hp' ids' h1 h2 h3
    refine ⟨x, _, _, _, ids', rfl, ⟨rfl, rfl, rfl⟩, ⟨h1.congr h2, fun j hj => ?_, by rw [hm]; omega⟩, ?_⟩
    · match j, hj with
      | j + 3, _ => rfl
    · rw [hlen]
      simp only [DenX, h2] at h3
      exact h3
  by_cases hkn : k = xs.length
  · -- at the end
    subst hkn
    have he : appendS X.P tS tS (.own 0 0 xs.length) (.own 1 0 ys.length) [(0, .row e (fl xs)), (1, .row e (fl ys))] 2 = .ok (0 + ys.length * Enc.sz α ≤ (fl ys).length ∧ e = e ∧ (appCells (fl ys) 0 (ys.length * Enc.sz α)).length = ys.length * Enc.sz α ∧ (appCells (fl ys) 0 (ys.length * Enc.sz α)).all oneS = true ∧ 0 + xs.length * Enc.sz α ≤ (fl xs).length ∧ 0 < X.P.bytesOf e ∧ (xs.length + ys.length) * X.P.bytesOf e ≤ 140737488355328)
        ⟨.own 2 0 (xs.length + ys.length), [(2, .row e (appCells (fl xs) 0 (xs.length * Enc.sz α) ++ appCells (fl ys) 0 (ys.length * Enc.sz α))), (0, .dead)], 3, [0, 1]⟩ := by
      unfold appendS srcS; rw [hst]; rfl
    have hay : appCells (fl ys) 0 (ys.length * Enc.sz α) = fl ys := by rw [← fl_length ys]; exact appCells_all
    have hax : appCells (fl xs) 0 (xs.length * Enc.sz α) = fl xs := by rw [← fl_length xs]; exact appCells_all
    have hs := sound_append hFx (ty := tS) hd0 hd2 he ⟨by rw [fl_length]; omega, rfl, by rw [hay, fl_length], by rw [hay]; exact fl_one ys, by rw [fl_length]; omega, hby, by rw [hy]; exact hb⟩ (fun et z h => by rw [hst] at h; cases h; exact hzk)
    obtain ⟨x, W, ids', hrun, hC, hE, hden⟩ := hs
    rw [hy] at hrun
    have hcall := hEn a xs.length c vc (some ⟨vb, vo + 0, none⟩) X.w0 W x hnc (by unfold maxLen at hcm; omega) (fun ha => by
      rcases hor with ⟨h, _⟩ | ⟨_, _, _, _, _, _, _, h, _⟩
      · exact h
      · rw [ha] at h; cases h) hrun
    refine hcall.mono ?_
    rintro ex w' ⟨rfl, rfl⟩
    obtain ⟨k1, k2⟩ := heap_kill hC 1
    refine fin x w' _ ids' k1 ?_ (by have h := hden.mono k2; simp only [hy] at h ⊢; exact h)
    rw [hay, hax]
    have hii : fl (insL xs (xs.length : Int) ys) = fl xs ++ fl ys := by unfold insL; simp [fl_append]
    rw [hii]
    funext j
    match j with
    | 0 => rfl
    | 1 => rfl
    | 2 => rfl
    | j + 3 => rfl
  · have hkn' : k < xs.length := by omega
    obtain ⟨b, o, e2, cs2, arr0, hC2, hid, rfl, hw0, hcap⟩ : ∃ b o e' cs arr, getH [(0, Chunk.row e (fl xs)), (1, Chunk.row e (fl ys))] 0 = .row e' cs ∧ X.ids0 0 = some (b, o) ∧ a = some ⟨b, o + 0, none⟩ ∧ X.w0.heap[b]? = some (.cells arr e' (0, 0)) ∧ o + 0 + c * X.P.cellsOf e' ≤ arr.size := by
      rcases hor with ⟨h, _⟩ | h
      · omega
      · exact h
    rw [hH0] at hC2; cases hC2
    have hvb : vb ≠ b := fun h => by
      have := hF.st.inj 1 0 b vo o hl1 hl0 (h ▸ hvid) hid
      cases this
    obtain ⟨arr, lx, hw, hls, hlx, hgx, h1x, hdx⟩ := row_list hF.toHeapC hH0 hid (fl_one xs)
    obtain ⟨arv, ly, hwv, hlsv, hly, hgy, h1y, hdy⟩ := row_list hF.toHeapC hH1 hvid (fl_one ys)
    rw [hw0] at hw; cases hw
    rw [hvw] at hwv; cases hwv
    rw [hce] at hcap hvsz
    have hdl : (lx.drop (k * Enc.sz α)).length = (xs.length - k) * Enc.sz α := by rw [List.length_drop, hlx, hfx, Nat.sub_mul]
    have h1d : ∀ v ∈ lx.drop (k * Enc.sz α), v.oneCell' = true := fun v hv => h1x v (List.mem_of_mem_drop hv)
    have hcx : ∀ (W : World) (j : Nat), W.heap[b]? = some (.cells arr0 e (0, 0)) → j < (fl xs).length → W.cell? ⟨b, o + j, none⟩ = some (lx.getD j undef) := fun W j hW hj => by
      simp only [World.cell?, hW]
      rw [hgx j hj]
      simp [Array.getD_eq_getD_getElem?, Array.getElem?_eq_getElem (show o + j < arr0.size by omega)]
    have hcy : ∀ (W : World) (j : Nat), W.heap[vb]? = some (.cells varr e (0, 0)) → j < (fl ys).length → W.cell? ⟨vb, vo + j, none⟩ = some (ly.getD j undef) := fun W j hW hj => by
      simp only [World.cell?, hW]
      rw [hgy j hj]
      simp [Array.getD_eq_getD_getElem?, Array.getElem?_eq_getElem (show vo + j < varr.size by omega)]
    have hsx : (xs.length - k) * Enc.sz α + k * Enc.sz α = xs.length * Enc.sz α := by rw [← Nat.add_mul]; congr 1; omega
    have hk1z : (k + 1) * Enc.sz α = k * Enc.sz α + Enc.sz α := Nat.succ_mul _ _
    have hn1z : (xs.length + 1) * Enc.sz α = xs.length * Enc.sz α + Enc.sz α := Nat.succ_mul _ _
    by_cases hroom : xs.length + 1 ≤ c
    · -- there is room
      have hroomz : o + (xs.length + 1) * Enc.sz α ≤ arr0.size := by
        have : (xs.length + 1) * Enc.sz α ≤ c * Enc.sz α := Nat.mul_le_mul_right _ hroom
        omega
      have e1 : o + (k + 1) * Enc.sz α + (lx.drop (k * Enc.sz α)).length ≤ arr0.size := by rw [hdl]; omega
      have e2 : o + k * Enc.sz α + ly.length ≤ (putR arr0 (o + (k + 1) * Enc.sz α) (lx.drop (k * Enc.sz α))).size := by rw [putR_size e1, hly, hfy]; omega
      have hwd : X.w0.drew.heap[b]? = some (.cells arr0 e (0, 0)) := hw0
      have hcp1 := fun ty dc sc => run_copy_put (P := X.P) X.w0.drew tS tS ty e e (Enc.sz α) b (o + (k + 1) * Enc.sz α) (xs.length - k) dc ⟨b, o + k * Enc.sz α, none⟩ (xs.length + 1 - k) sc (lx.drop (k * Enc.sz α)) arr0 hst
        (by rw [hdl, show Nat.min (xs.length + 1 - k) (xs.length - k) = xs.length - k from Nat.min_eq_right (by omega)]) hwd e1 (fun j v hj => by
          obtain ⟨g1, g2⟩ := getElem_getD hj
          rw [add_mk, Nat.add_assoc, hcx _ _ hwd (by rw [hdl] at g2; omega), ← g1, getD_drop]) h1d
      have hw1 := setRow_heap X.w0.drew b arr0 (putR arr0 (o + (k + 1) * Enc.sz α) (lx.drop (k * Enc.sz α))) e (0, 0) hwd
      have hv1 : (X.w0.drew.setRow b (putR arr0 (o + (k + 1) * Enc.sz α) (lx.drop (k * Enc.sz α)))).heap[vb]? = some (.cells varr e (0, 0)) := by rw [setRow_other _ _ _ _ hvb]; exact hvw
      have hcp2 := fun ty dc => run_copy_put (P := X.P) (X.w0.drew.setRow b (putR arr0 (o + (k + 1) * Enc.sz α) (lx.drop (k * Enc.sz α)))) tS tS ty e e (Enc.sz α) b (o + k * Enc.sz α) (xs.length + 1 - k) dc ⟨vb, vo + 0, none⟩ 1 vc ly _ hst
        (by rw [hly, hfy, show Nat.min 1 (xs.length + 1 - k) = 1 from Nat.min_eq_left (by omega), Nat.one_mul]) hw1 e2 (fun j v hj => by
          obtain ⟨g1, g2⟩ := getElem_getD hj
          rw [add_mk, show vo + 0 + j = vo + j from by omega, hcy _ _ hv1 (by omega), ← g1]) h1y
      rw [setRow_setRow] at hcp2
      refine (hSh b (o + 0) xs.length c k vc (some ⟨vb, vo + 0, none⟩) X.w0 _ _ _ _ hkn' hroom (by unfold maxLen at hcm; omega) (fun lb cb => hov _ _ _ ?_) hcp1 hcp2).mono ?_
      · exact Lib.run_overlaps_apart X.w0 tS tB e hu (Enc.sz α) (fun w => by simp [sizeOf, typeInfo, hti, htz]) ⟨vb, vo + 0, none⟩ ⟨b, _, none⟩ 1 vc lb cb hvb e e varr.size arr0.size (by simp [World.shape?, hvw]) (by simp [World.shape?, hw0]) (by omega) (by simp [World.frozen?, hvw]) (by simp [World.frozen?, hvw])
      · rintro ex w' ⟨rfl, rfl⟩
        generalize hA : putR (putR arr0 (o + (k + 1) * Enc.sz α) (lx.drop (k * Enc.sz α))) (o + k * Enc.sz α) ly = A
        have hAs : A.size = arr0.size := by rw [← hA, putR_size e2, putR_size e1]
        have hAg : ∀ q, A.getD (o + q) undef = if q < k * Enc.sz α then arr0.getD (o + q) undef else if q < (k + 1) * Enc.sz α then ly.getD (q - k * Enc.sz α) undef else if q < (xs.length + 1) * Enc.sz α then lx.getD (q - Enc.sz α) undef else arr0.getD (o + q) undef := by
          intro q
          rw [← hA, putR_get e2, putR_get e1, hdl, hly, hfy, getD_drop]
          repeat' split
          all_goals first | omega | rfl | (congr 1; omega)
        obtain ⟨d1c, d2⟩ := hF.toHeapC.drew
        have d1 : HeapX X [(0, Chunk.row e (fl xs)), (1, Chunk.row e (fl ys))] 2 X.ids0 X.w0.drew := ⟨d1c, hFx.fresh, hFx.m_le⟩
        obtain ⟨g1c, g2⟩ := heap_turn d1 hH0 hid (cs' := (fl xs).take (k * Enc.sz α)) hwd (arr' := A) hAs (by rw [List.length_take]; omega) (by rw [List.length_take]; omega) (fun j x hj => by
          have hjl := (List.getElem?_eq_some_iff.1 hj).1
          rw [List.length_take] at hjl
          rw [List.getElem?_take, if_pos (by omega)] at hj
          rw [hAg, if_pos (by omega), ← hgx j (by omega)]
          exact (hdx j x hj).mono d2)
        have g1 : HeapX X ([(0, Chunk.row e ((fl xs).take (k * Enc.sz α)))] ++ [(0, Chunk.row e (fl xs)), (1, Chunk.row e (fl ys))]) 2 X.ids0 _ := ⟨g1c, rfl, hFx.m_le⟩
        obtain ⟨r1, r2⟩ := heap_renameG g1 (k := 0) (e := e) (cs := (fl xs).take (k * Enc.sz α)) (cs' := fl (insL xs (k : Int) ys)) (off := 0) rfl (fun hn => by rw [hid] at hn; cases hn) (fun b1 o1 arr1 hi1 ha1 => by
          rw [hid] at hi1; cases hi1
          rw [setRow_heap X.w0.drew b arr0 A e (0, 0) hwd] at ha1; cases ha1
          rw [hflI]
          refine ⟨by rw [insC_len hql, hfx, hfy, hAs]; omega, fun j x hj => ?_⟩
          have hE := Ext_trans' d2 g2
          rw [Nat.add_zero, hAg]
          rcases insC_get hql hj with ⟨c1, c2⟩ | ⟨c1, c2, c3⟩ | ⟨c1, c2⟩
          · rw [if_pos c1, ← hgx j (by omega)]
            exact (hdx j x c2).mono hE
          · rw [hfy] at c2
            rw [if_neg (by omega), if_pos (by omega)]
            exact (hdy _ x c3).mono hE
          · rw [hfy] at c1 c2
            have c3 := (List.getElem?_eq_some_iff.1 c2).1
            rw [if_neg (by omega), if_neg (by omega), if_pos (by omega)]
            exact (hdx _ x c2).mono hE)
        obtain ⟨k1, k2⟩ := heap_kill r1 1
        refine fin _ _ _ _ k1 ?_ ?_
        · funext j
          match j with
          | 0 => rfl
          | 1 => rfl
          | 2 => rfl
          | j + 3 => rfl
        · refine .own _ _ rfl ⟨hroom, hcm, fun e' cs' hc' => ?_, .inr ⟨b, o, e, fl (insL xs (k : Int) ys), A, rfl, ?_, by simp, setRow_heap X.w0.drew b arr0 A e (0, 0) hwd, ?_⟩⟩
          · have : Chunk.row e (fl (insL xs (k : Int) ys)) = .row e' cs' := hc'
            cases this
            rw [fl_length, hlen, hce, Nat.zero_add]
            exact Nat.mul_le_mul_right _ hroom
          · rw [upd_same, hid]; rfl
          · rw [hce, hAs]; omega
    · -- it grows
      have hg1 : c < xs.length + 1 := by omega
      obtain ⟨zv, hzv, hzc⟩ := zokT_true hzk hti
      have hgc : xs.length + 1 ≤ grownCap X.w0 (xs.length + 1) c e := grownCap_ge X.w0 (xs.length + 1) c e
      have hgm : grownCap X.w0 (xs.length + 1) c e ≤ maxLen := grownCap_le_maxLen X.w0 (xs.length + 1) c e (by unfold maxLen; omega)
      have hold : (Builtin.firstCells ti.size k (.slice (some ⟨b, o + 0, none⟩) k c)).run X.P X.w0.drew = .ok (lx.take (k * Enc.sz α)).toArray X.w0.drew := by
        rw [htz]
        refine run_firstCells_some X.w0.drew (Enc.sz α) k ⟨b, o + 0, none⟩ k c (lx.take (k * Enc.sz α)) (by rw [List.length_take, hlx]; omega) (fun j v hj => ?_)
        obtain ⟨g1, g2⟩ := getElem_getD hj
        rw [List.length_take] at g2
        rw [add_mk, Nat.add_zero, World.cell?_drew, hcx _ _ hw0 (by omega), ← g1, getD_take _ _ _ (by omega)]
      have hki : k + (xs.length + 1 - k) = xs.length + 1 := by omega
      have hap := fun ty => Lib.run_append_grow_zeros (P := X.P) X.w0 tS tI ty e ti zv .i64 .i64 hu htI hti hzv (some ⟨b, o + 0, none⟩) k c (lx.take (k * Enc.sz α)) hold (xs.length + 1 - k) (by omega) (by rw [htz]; exact hz0) (by omega) (by omega)
        (by
          have : (xs.length + 1 - k) * ti.bytes ≤ (xs.length + 1) * ti.bytes := Nat.mul_le_mul_right _ (by omega)
          rw [hbe] at hb; omega) (by rw [hki]; rw [hbe] at hb; exact growslice_fits hg1 hb)
      rw [hki] at hap
      have hkk : ((xs.length + 1 - k : Nat) : Int) = (xs.length : Int) + 1 - k := by omega
      rw [hkk] at hap
      generalize hG : grownCap X.w0 (xs.length + 1) c e = G at hap hgc hgm
      generalize hA0 : (lx.take (k * Enc.sz α)).toArray ++ Builtin.zeroCells zv.cells (xs.length + 1 - k) ++ Builtin.zeroCells zv.cells (G - (xs.length + 1)) = A0 at hap
      have hA0s : A0.size = G * Enc.sz α := by
        rw [← hA0, Array.size_append, Array.size_append, List.size_toArray, List.length_take, size_zeroCells, size_zeroCells, hzc, htz, hlx, Nat.min_eq_left hql, ← Nat.add_mul, ← Nat.add_mul]
        congr 1; omega
      have hA0g : ∀ q, q < k * Enc.sz α → A0.getD q undef = lx.getD q undef := fun q hq => by
        rw [← hA0, Array.getD_eq_getD_getElem?, Array.append_assoc, Array.getElem?_append_left (by rw [List.size_toArray, List.length_take]; omega), List.getElem?_toArray, ← List.getD_eq_getElem?_getD, getD_take _ _ _ hq]
      have hGz : (xs.length + 1) * Enc.sz α ≤ G * Enc.sz α := Nat.mul_le_mul_right _ hgc
      have hbs : b < X.w0.heap.size := (hF.st.lt 0 b o hl0 hid).1
      have hvbs : vb < X.w0.heap.size := (hF.st.lt 1 vb vo hl1 hvid).1
      have hnb : (X.w0.drew.alloc (.cells A0 e)).heap[X.w0.heap.size]? = some (.cells A0 e (0, 0)) := heap_alloc_new' X.w0.drew _
      have hob : ∀ q, q < X.w0.heap.size → (X.w0.drew.alloc (.cells A0 e)).heap[q]? = X.w0.heap[q]? := fun q hq => heap_alloc_lt X.w0.drew _ q hq
      have e1 : k * Enc.sz α + ly.length ≤ A0.size := by rw [hA0s, hly, hfy]; omega
      have hcp1 := fun ty dc => run_copy_put (P := X.P) (X.w0.drew.alloc (.cells A0 e)) tS tS ty e e (Enc.sz α) X.w0.heap.size (k * Enc.sz α) (xs.length + 1 - k) dc ⟨vb, vo + 0, none⟩ 1 vc ly A0 hst
        (by rw [hly, hfy, show Nat.min 1 (xs.length + 1 - k) = 1 from Nat.min_eq_left (by omega), Nat.one_mul]) hnb e1 (fun j v hj => by
          obtain ⟨g1, g2⟩ := getElem_getD hj
          rw [add_mk, Nat.add_zero, hcy _ _ (by rw [hob _ hvbs]; exact hvw) (by omega), ← g1]) h1y
      have hw1 := setRow_heap (X.w0.drew.alloc (.cells A0 e)) X.w0.heap.size A0 (putR A0 (k * Enc.sz α) ly) e (0, 0) hnb
      have e2 : (k + 1) * Enc.sz α + (lx.drop (k * Enc.sz α)).length ≤ (putR A0 (k * Enc.sz α) ly).size := by rw [putR_size e1, hA0s, hdl]; omega
      have hcp2 := fun ty dc sc => run_copy_put (P := X.P) ((X.w0.drew.alloc (.cells A0 e)).setRow X.w0.heap.size (putR A0 (k * Enc.sz α) ly)).drew tS tS ty e e (Enc.sz α) X.w0.heap.size ((k + 1) * Enc.sz α) (xs.length - k) dc ⟨b, o + k * Enc.sz α, none⟩ (xs.length - k) sc (lx.drop (k * Enc.sz α)) _ hst
        (by rw [hdl]; congr 1; exact (Nat.min_self _).symm) hw1 e2 (fun j v hj => by
          obtain ⟨g1, g2⟩ := getElem_getD hj
          have hbw : ((X.w0.drew.alloc (.cells A0 e)).setRow X.w0.heap.size (putR A0 (k * Enc.sz α) ly)).drew.heap[b]? = some (.cells arr0 e (0, 0)) := by
            show ((X.w0.drew.alloc (.cells A0 e)).setRow X.w0.heap.size _).heap[b]? = _
            rw [setRow_other _ _ _ _ (by omega), hob _ hbs]; exact hw0
          rw [add_mk, Nat.add_assoc, hcx _ _ hbw (by rw [hdl] at g2; omega), ← g1, getD_drop]) h1d
      refine (hGr b (o + 0) xs.length c k vc (some ⟨vb, vo + 0, none⟩) X.w0.heap.size G X.w0 _ _ _ _ _ hkn' hnc hg1 hgc (by unfold maxLen at hgm; omega) hap hcp1 hcp2).mono ?_
      rintro ex w' ⟨rfl, rfl⟩
      obtain ⟨d1c, d2⟩ := hF.toHeapC.drew
      have d1 : HeapX X [(0, Chunk.row e (fl xs)), (1, Chunk.row e (fl ys))] 2 X.ids0 X.w0.drew := ⟨d1c, hFx.fresh, hFx.m_le⟩
      have hAny : ∀ (C : Nat → Chunk) (ids : Ids) (I : Nat → Prop) (W : World) (N j : Nat) (s : SV) (y : Value), (List.replicate N SV.any)[j]? = some s → Den X.P C ids I W s y := fun C ids I W N j s y h => by
        have := (List.getElem?_eq_some_iff.1 h)
        obtain ⟨h1, h2⟩ := this
        rw [List.getElem_replicate] at h2
        subst h2; exact .any
      have hNl : (List.replicate ((xs.length + 1) * Enc.sz α) SV.any).length = (xs.length + 1) * Enc.sz α := List.length_replicate
      obtain ⟨a1c, a2⟩ := heap_alloc d1 (e := e) (cs := List.replicate ((xs.length + 1) * Enc.sz α) .any) (arr := A0) (by rw [hNl, hA0s]; exact hGz) (fun j x hj => hAny _ _ _ _ _ _ _ _ hj)
      generalize hC1 : List.replicate ((xs.length + 1) * Enc.sz α) SV.any = C1 at *
      have a1 : HeapX X ([(2, Chunk.row e C1)] ++ [(0, Chunk.row e (fl xs)), (1, Chunk.row e (fl ys))]) 3 (upd X.ids0 2 (some (X.w0.heap.size, 0))) (X.w0.drew.alloc (.cells A0 e)) := ⟨a1c, rfl, by have := hFx.m_le; omega⟩
      have hidn : upd X.ids0 2 (some (X.w0.heap.size, 0)) 2 = some (X.w0.heap.size, 0) := upd_same _ _ _
      obtain ⟨b1c, b2⟩ := heap_turn a1 (k := 2) (e := e) (cs := C1) (cs' := C1) rfl hidn hnb (arr' := putR A0 (k * Enc.sz α) ly) (putR_size e1) (by rw [hNl, hA0s]; omega) (Nat.le_refl _) (fun j x hj => hAny _ _ _ _ _ _ _ _ (hC1 ▸ hj))
      obtain ⟨c1c, c2⟩ := b1c.drew
      have c1 : HeapX X ([(2, Chunk.row e C1)] ++ ([(2, Chunk.row e C1)] ++ [(0, Chunk.row e (fl xs)), (1, Chunk.row e (fl ys))])) 3 (upd X.ids0 2 (some (X.w0.heap.size, 0))) _ := ⟨c1c, rfl, a1.m_le⟩
      have hE : ExtX X [(0, Chunk.row e (fl xs)), (1, Chunk.row e (fl ys))] X.ids0 X.w0 _ _ _ := Ext_trans' d2 (Ext_trans' a2 (Ext_trans' b2 c2))
      have hAs : (putR (putR A0 (k * Enc.sz α) ly) ((k + 1) * Enc.sz α) (lx.drop (k * Enc.sz α))).size = G * Enc.sz α := by rw [putR_size e2, putR_size e1, hA0s]
      have hAg : ∀ q, (putR (putR A0 (k * Enc.sz α) ly) ((k + 1) * Enc.sz α) (lx.drop (k * Enc.sz α))).getD q undef = if q < k * Enc.sz α then A0.getD q undef else if q < (k + 1) * Enc.sz α then ly.getD (q - k * Enc.sz α) undef else if q < (xs.length + 1) * Enc.sz α then lx.getD (q - Enc.sz α) undef else A0.getD q undef := by
        intro q
        rw [putR_get e2, putR_get e1, hdl, hly, hfy, getD_drop]
        repeat' split
        all_goals first | omega | rfl | (congr 1; omega)
      obtain ⟨r1, r2⟩ := heap_turn c1 (k := 2) (e := e) (cs := C1) (cs' := fl (insL xs (k : Int) ys)) rfl hidn hw1 (arr' := putR (putR A0 (k * Enc.sz α) ly) ((k + 1) * Enc.sz α) (lx.drop (k * Enc.sz α))) (putR_size e2)
        (by rw [fl_length, hlen, putR_size e1, hA0s]; omega) (by rw [fl_length, hlen, hNl]; exact Nat.le_refl _) (fun j x hj => by
          rw [hflI] at hj
          rw [Nat.zero_add, hAg]
          rcases insC_get hql hj with ⟨q1, q2⟩ | ⟨q1, q2, q3⟩ | ⟨q1, q2⟩
          · rw [if_pos q1, hA0g _ q1]
            exact (hdx j x q2).mono hE
          · rw [hfy] at q2
            rw [if_neg (by omega), if_pos (by omega)]
            exact (hdy _ x q3).mono hE
          · rw [hfy] at q1 q2
            have q3 := (List.getElem?_eq_some_iff.1 q2).1
            rw [if_neg (by omega), if_neg (by omega), if_pos (by omega)]
            exact (hdx _ x q2).mono hE)
      obtain ⟨k1, _⟩ := heap_kill r1 0
      obtain ⟨k2, _⟩ := heap_kill k1 1
      refine fin _ _ _ _ k2 ?_ ?_
      · funext j
        match j with
        | 0 => rfl
        | 1 => rfl
        | 2 => rfl
        | j + 3 => rfl
      · refine .own _ _ rfl ⟨hgc, hgm, fun e' cs' hc' => ?_, .inr ⟨X.w0.heap.size, 0, e, fl (insL xs (k : Int) ys), _, rfl, hidn, rfl, setRow_heap _ _ _ _ e (0, 0) hw1, ?_⟩⟩
        · have : Chunk.row e (fl (insL xs (k : Int) ys)) = .row e' cs' := hc'
          cases this
          rw [fl_length, hlen, hce, Nat.zero_add]
          exact hGz
        · rw [hce, hAs]; omega
end Go.Sx
