/-
  G, part F: pieces of own slices that are written: append in place, clear; bounds that are asked for alone.
-/
import Derived.Test.YtnnpjaoddniifaaGE
import Derived.Deep.AppendSrc
set_option linter.unusedSimpArgs false
set_option linter.unusedVariables false
namespace Go.Sx
open Go.RowKit
set_option linter.unusedVariables false
variable {P : Program} {m N : Nat} {Q : SPost} {fr : Fr} {hp : Hp} {nx : Nat} {ops : Array Oper}

/-- Cells of a row, written from a place on. -/
def putC (cs : List SV) (o : Nat) (vs : List SV) : List SV := cs.take o ++ vs ++ cs.drop (o + vs.length)
theorem putC_length {cs : List SV} {o : Nat} {vs : List SV} (h : o + vs.length ≤ cs.length) : (putC cs o vs).length = cs.length := by
  simp only [putC, List.length_append, List.length_take, List.length_drop]; omega

theorem heap_put {X : Cx} {ids : Ids} {w : World} (h : HeapX X hp nx ids w) {k b o off : Nat} {e : TypeId} {cs news : List SV} {vs : List Value} {arr : Array Value} (hk : getH hp k = .row e cs) (hi : ids k = some (b, o)) (hw : w.heap[b]? = some (.cells arr e (0, 0)))
    (hl : off + news.length ≤ cs.length) (hlen : news.length = vs.length) (h1 : ∀ v ∈ vs, v.oneCell' = true) (hd : ∀ i x, news[i]? = some x → DenX X hp ids w x (vs.getD i undef)) :
    HeapC X ([(k, .row e (putC cs off news))] ++ hp) ids (w.setCells b (o + off) vs) ∧ ExtX X hp ids w ([(k, .row e (putC cs off news))] ++ hp) ids (w.setCells b (o + off) vs) := by
  have hc := h.st.ch k
  rw [hk] at hc
  simp only [DenC, hi] at hc
  obtain ⟨arr', ha', hl', hx'⟩ := hc
  rw [hw] at ha'; cases ha'
  rw [setCells_eq_setRow w b (o + off) e vs arr hw (by omega) h1]
  have hget : ∀ q, (arr.toList.take (o + off) ++ vs ++ arr.toList.drop (o + off + vs.length)).toArray.getD q undef =
      if q < o + off then arr.getD q undef else if q < o + off + vs.length then vs.getD (q - (o + off)) undef else arr.getD q undef := by
    intro q
    have hoo : o + off ≤ arr.size := by omega
    simp only [Array.getD_eq_getD_getElem?, List.getElem?_toArray]
    by_cases hq : q < o + off
    · rw [if_pos hq, List.append_assoc, List.getElem?_append_left (by simp; omega), List.getElem?_take, if_pos hq]
      simp
    · rw [if_neg hq, List.append_assoc, List.getElem?_append_right (by simp; omega)]
      simp only [List.length_take, Array.length_toList, Nat.min_eq_left hoo]
      by_cases hq2 : q < o + off + vs.length
      · rw [if_pos hq2, List.getElem?_append_left (by omega)]
        simp [List.getD_eq_getElem?_getD]
      · rw [if_neg hq2, List.getElem?_append_right (by omega), List.getElem?_drop]
        simp only [Array.getElem?_toList]
        congr 2; omega
  refine heap_turn h hk hi (cs' := putC cs off news) hw (arr' := (arr.toList.take (o + off) ++ vs ++ arr.toList.drop (o + off + vs.length)).toArray)
    (by simp only [List.size_toArray, List.length_append, List.length_take, List.length_drop, Array.length_toList]; omega) (by rw [putC_length hl]; exact hl') (by rw [putC_length hl]; exact Nat.le_refl _) (fun j x hj => ?_)
  rw [hget]
  unfold putC at hj
  rw [List.append_assoc, List.getElem?_append] at hj
  rw [List.length_take, Nat.min_eq_left (by omega)] at hj
  split at hj
  · rename_i hlt
    rw [List.getElem?_take, if_pos hlt] at hj
    rw [if_pos (by omega)]
    exact hx' j x hj
  · rename_i hlt
    rw [if_neg (by omega)]
    rw [List.getElem?_append] at hj
    split at hj
    · rename_i hlt2
      rw [if_pos (by omega), show o + j - (o + off) = j - off from by omega]
      exact hd _ x hj
    · rename_i hlt2
      rw [if_neg (by omega)]
      rw [List.getElem?_drop] at hj
      have := hx' _ x hj
      rwa [show off + news.length + (j - off - news.length) = j from by omega] at this

/-- clear, of a piece of an own row. -/
theorem run_clear' {P : Program} {t e ty : TypeId} {i : TypeInfo} {z : Value} (hu : P.underlying t = some (.slice e)) (hi : P.info? e = some i) (hz : i.zero = some z) (b o n c : Nat) (w : World)
    (h1 : ∀ v ∈ (Builtin.zeroCells z.cells n).toList, v.oneCell' = true) (hc : ∀ j, j < (Builtin.zeroCells z.cells n).size → (w.cell? ⟨b, o + j, none⟩).isSome = true) (hf : ∀ j, j < (Builtin.zeroCells z.cells n).size → w.frozen? ⟨b, o + j, none⟩ = false) :
    (Builtin.clear_ #[t] ty #[.slice (some ⟨b, o, none⟩) n c]).run P w = .ok (.tuple #[]) (w.setCells b o (Builtin.zeroCells z.cells n).toList) := by
  cases n with
  | zero =>
    have : (Builtin.zeroCells z.cells 0).toList = [] := by simp [Builtin.zeroCells]
    rw [this]
    simp [Builtin.clear_, run_underlying hu, World.setCells]
  | succ n =>
    have hst := run_storeCells_cells (P := P) b o (Builtin.zeroCells z.cells (n + 1)).toList 0 w (by simpa using hc) (by simpa using hf) h1
    simp only [Nat.add_zero] at hst
    have hv : (zeroValue e).run P w = .ok z w := by simp [zeroValue, typeInfo, hi, hz]
    simp [Builtin.clear_, run_underlying hu, hv, hst]
theorem zeroCells_made (z : Array Value) (n : Nat) : Builtin.zeroCells z n = madeCells z (n * z.size) := rfl
theorem sem_clear {o : Oper} {t e : TypeId} {x : Operand} {k off n z : Nat} {cs zs : List SV} (ho : o.op = .call ⟨.builtin .clear, #[x], #[t]⟩) (hst : sliceT P t = some (e, z)) (hx : evS true fr x = .own k off n) (hrow : getH hp k = .row e cs) (hzs : zeroT P e = some zs)
    (hz : zs.length = z) (hpos : 0 < z) (h1 : zs.all oneS = true) (hn : off + n * z ≤ cs.length) :
    SemW P o fr hp nx (EqEff ⟨.any, [(k, .row e (putC cs off ((List.range n).flatMap fun _ => zs)))], nx, [k]⟩) := by
  have hlk : (getH hp k).live = true := by rw [hrow]; rfl
  refine semW_of ⟨Nat.le_refl _, fun p hp1 => ?_⟩ ?_
  · rcases List.mem_cons.1 hp1 with rfl | hp1
    · exact .inr ⟨List.mem_cons_self .., hlk⟩
    · cases hp1
  intro X ids w fr' hp' a hP hH hf hev hrd
  subst hP
  have hx' : evS true fr' x = .own k off n := by rw [hev x (by rw [ho]; simp [Op.operands, Call.operands]), hx]
  have hrow' : getH hp' k = .row e cs := by rw [hrd k (List.mem_cons_self ..), hrow]
  have hlk' : (getH hp' k).live = true := by rw [hrow']; rfl
  have hd := ev_den hf (g := true) rfl x
  rw [hx'] at hd
  obtain ⟨i, hu, hi', rfl⟩ := sliceT_some hst
  obtain ⟨i2, zv, hi2, hzv, rfl⟩ := zeroT_some hzs
  rw [hi'] at hi2; cases hi2
  have hsz : zv.cells.size = i.size := by simpa using hz
  obtain ⟨ad, cap, hv, c1, c2, c4, c3⟩ := den_own hd hlk'
  have hlen : ((List.range n).flatMap fun _ => zv.cells.toList.map SV.v).length = n * i.size := by rw [length_flatMap_const]; simp [hsz]
  have hrun0 : ∀ w', (Builtin.clear_ #[t] o.type #[a.eval x]).run X.P w = .ok (.tuple #[]) w' → (execOp a.eval o).run X.P w = .ok (.value (.tuple #[])) w' := fun w' hr => by
    unfold execOp
    rw [ho]
    simp only [resolve, Sem.run_bind, Sem.run_pure, Result.andThen_ok, invoke, builtin, List.map_toArray, List.map_cons, List.map_nil, hr]
  have none_ : n = 0 → SoundN X hp' ids w ((execOp a.eval o).run X.P w) ⟨.any, [(k, .row e (putC cs off ((List.range n).flatMap fun _ => zv.cells.toList.map SV.v)))], nx, [k]⟩ := fun h0 => by
    subst h0
    have hcs : putC cs off ((List.range 0).flatMap fun _ => zv.cells.toList.map SV.v) = cs := by simp [putC, List.take_append_drop]
    have hCC : getH ([(k, Chunk.row e cs)] ++ hp') = getH hp' := by
      rw [List.singleton_append, getH_upd]; funext j
      by_cases hj : j = k
      · subst hj; rw [upd_same, hrow']
      · rw [upd_ne _ _ hj]
    refine ⟨.tuple #[], w, ids, .inl (hrun0 w ?_), ?_, ?_, .any⟩
    · rw [hv]
      cases ad <;> simp [Builtin.clear_, run_underlying hu]
    · rw [hcs]; exact ⟨by rw [hCC]; exact hH.st, by rw [hCC]; exact hH.kept⟩
    · rw [hcs]; simp only [ExtX, hCC]; exact Ext.refl _ _ _ _
  rcases c3 with ⟨hn0, rfl⟩ | ⟨b, o', e2, cs2, arr, hC, hid, rfl, hw, hcapsz⟩
  · exact none_ hn0
  · rw [hrow'] at hC; cases hC
    have hc := hH.st.ch k
    rw [hrow'] at hc
    simp only [DenC, hid] at hc
    obtain ⟨arr', ha', hl', hx2⟩ := hc
    rw [hw] at ha'; cases ha'
    have hden := madeCells_den (ids := ids) (w := w) X.P (getH hp') (Im X.w0 X.I0 X.W0 (getH hp') ids w) zv n (by omega)
    rw [← zeroCells_made] at hden
    have hzsz : (Builtin.zeroCells zv.cells n).size = n * i.size := by rw [size_zeroCells, hsz]
    have hone : ∀ v ∈ (Builtin.zeroCells zv.cells n).toList, v.oneCell' = true := fun v hvm => by
      obtain ⟨j, hj, rfl⟩ := List.getElem_of_mem hvm
      have hj2 : j < n * zv.cells.size := by simpa [Builtin.zeroCells] using hj
      have hm := Nat.mod_lt j (show 0 < zv.cells.size by omega)
      have : (Builtin.zeroCells zv.cells n).toList[j] = zv.cells[j % zv.cells.size]! := by simp [Builtin.zeroCells]
      rw [this, getElem!_pos zv.cells (j % zv.cells.size) hm]
      have hall := List.all_eq_true.1 h1 (SV.v zv.cells[j % zv.cells.size]) (List.mem_map.2 ⟨_, by simp, rfl⟩)
      exact hall
    have hcell : ∀ j, j < (Builtin.zeroCells zv.cells n).size → w.cell? ⟨b, o' + off + j, none⟩ = some (arr.getD (o' + off + j) undef) := fun j hj => by
      rw [hzsz] at hj
      simp only [World.cell?, hw]
      simp [Array.getD_eq_getD_getElem?, Array.getElem?_eq_getElem (show o' + off + j < arr.size by omega)]
    have hrun := run_clear' (P := X.P) (ty := o.type) hu hi' hzv b (o' + off) n cap w hone (fun j hj => by rw [hcell j hj]; rfl) (fun j hj => by simp [World.frozen?, hw])
    obtain ⟨g1, g2⟩ := heap_put hH hrow' hid hw (off := off) (news := (List.range n).flatMap fun _ => zv.cells.toList.map SV.v) (vs := (Builtin.zeroCells zv.cells n).toList) (by rw [hlen]; exact hn) (by rw [hlen]; simp [hzsz]) hone (fun j x hj => by
      have := hden.den j x hj
      simpa [Array.getD_eq_getD_getElem?, List.getD_eq_getElem?_getD] using this)
    exact ⟨.tuple #[], _, _, .inl (hrun0 _ (by rw [hv]; exact hrun)), g1, g2, .any⟩

/-- append, to a piece of an own row behind which there is room. -/
theorem sem_appIn {o : Oper} {t tx e : TypeId} {x y : Operand} {k off n z mm : Nat} {cs news : List SV} {rds : List Nat} {s0 : Prop} (ho : o.op = .call ⟨.builtin .append, #[x, y], #[t, tx]⟩) (hst : sliceT P t = some (e, z)) (hx : evS true fr x = .own k off n) (hrow : getH hp k = .row e cs)
    (hy : ∀ f : Nat → List SV → List Nat → Prop → Res, srcS P tx z (evS true fr y) hp f = f mm news rds s0) (hs0 : s0) (hnl : news.length = mm * z) (hna : news.all oneS = true) (hz : P.cellsOf e = z) (hpos : 0 < z)
    (hroom : off + (n + mm) * z ≤ cs.length) :
    SemW P o fr hp nx (EqEff ⟨.own k off (n + mm), [(k, .row e (putC cs (off + n * z) news))], nx, k :: rds⟩) := by
  have hlk : (getH hp k).live = true := by rw [hrow]; rfl
  refine semW_of ⟨Nat.le_refl _, fun p hp1 => ?_⟩ ?_
  · rcases List.mem_cons.1 hp1 with rfl | hp1
    · exact .inr ⟨List.mem_cons_self .., hlk⟩
    · cases hp1
  intro X ids w fr' hp' a hP hH hf hev hrd
  subst hP
  have hx' : evS true fr' x = .own k off n := by rw [hev x (by rw [ho]; simp [Op.operands, Call.operands]), hx]
  have hy' : evS true fr' y = evS true fr y := hev y (by rw [ho]; simp [Op.operands, Call.operands])
  have hrow' : getH hp' k = .row e cs := by rw [hrd k (List.mem_cons_self ..), hrow]
  have hlk' : (getH hp' k).live = true := by rw [hrow']; rfl
  have hd := ev_den hf (g := true) rfl x
  rw [hx'] at hd
  have hyd := ev_den hf (g := true) rfl y
  rw [hy'] at hyd
  obtain ⟨i, hu, hi', rfl⟩ := sliceT_some hst
  obtain ⟨ad, cap, hv, c1, c2, c4, c3⟩ := den_own hd hlk'
  -- the source
  have hsame : ∀ f : Nat → List SV → List Nat → Prop → Res, srcS X.P tx i.size (evS true fr y) hp' f = f mm news rds s0 := fun f => by
    rw [← hy f]
    cases hq : evS true fr y with
    | own j oo m2 =>
      have h1 := hy (fun _ _ r _ => .ok True ⟨.any, [], 0, r⟩)
      rw [hq] at h1
      have hj : getH hp' j = getH hp j := by
        simp only [srcS] at h1
        split at h1
        · cases hc : getH hp j with
          | row e3 cs3 =>
            rw [hc] at h1
            simp only [rowS, Res.ok.injEq, Eff.mk.injEq, true_and] at h1
            rw [hrd j (List.mem_cons_of_mem _ (by rw [← h1]; exact List.mem_cons_self ..)), hc]
          | _ => rw [hc] at h1; simp only [rowS] at h1; cases h1
        · cases h1
      simp only [srcS, hj]
    | sl m2 cs2 => simp only [srcS]
    | v vv =>
      cases vv with
      | slice a l c => cases a <;> cases l <;> cases c <;> rfl
      | _ => rfl
    | _ => rfl
  obtain ⟨m2, news2, rds2, s2, vs, hf2, hsrc⟩ := src_ok hH hyd (f := fun m news _ s0 => .ok (s0 ∧ news.length = m * i.size ∧ news.all oneS = true) ⟨.sl m news, [], 0, []⟩) (side := (s0 ∧ news.length = mm * i.size ∧ news.all oneS = true)) (e := ⟨.sl mm news, [], 0, []⟩) (hsame _) (fun m news' rds s0' hf hs => by
    simp only [Res.ok.injEq] at hf
    rw [hf.1]; exact hs) ⟨hs0, hnl, hna⟩
  simp only [Res.ok.injEq, Eff.mk.injEq, SV.sl.injEq, true_and, and_true] at hf2
  obtain ⟨_, rfl, rfl⟩ := hf2
  have hvl : vs.length = m2 * i.size := hsrc.src.newsLen
  have hrun0 : ∀ r w', (Builtin.append_ #[t, tx] o.type #[a.eval x, a.eval y]).run X.P w = .ok r w' → (execOp a.eval o).run X.P w = .ok (.value r) w' := fun r w' hr => by
    unfold execOp
    rw [ho]
    simp only [resolve, Sem.run_bind, Sem.run_pure, Result.andThen_ok, invoke, builtin, List.map_toArray, List.map_cons, List.map_nil, hr]
  rw [Nat.add_mul] at hroom
  have hcov := c4 _ _ hrow'
  rw [hz] at hcov
  have hcap : n + m2 ≤ cap := by
    have h1 : (n + m2) * i.size ≤ cap * i.size := by rw [Nat.add_mul]; omega
    exact Nat.le_of_mul_le_mul_right h1 hpos
  rcases c3 with ⟨hn0, rfl⟩ | ⟨b, o', e2, cs2, arr, hC, hid, rfl, hw, hcapsz⟩
  · have hm0 : m2 = 0 := by omega
    subst hm0; subst hn0
    have hn1 : news2 = [] := List.eq_nil_of_length_eq_zero (by rw [hnl]; omega)
    have hv0 : vs = [] := List.eq_nil_of_length_eq_zero (by rw [hvl]; omega)
    subst hn1; subst hv0
    have hcs : putC cs (off + 0 * i.size) [] = cs := by simp [putC, List.take_append_drop]
    have hCC : getH ([(k, Chunk.row e cs)] ++ hp') = getH hp' := by
      rw [List.singleton_append, getH_upd]; funext j
      by_cases hj : j = k
      · subst hj; rw [upd_same, hrow']
      · rw [upd_ne _ _ hj]
    have hrun := run_append_nothing (P := X.P) w t tx o.type e i hu hi' ad 0 0 (Nat.le_refl _) (a.eval y) hsrc.src
    refine ⟨_, w, ids, .inl (hrun0 _ _ (by rw [hv]; exact hrun)), ?_, ?_, ?_⟩
    · rw [hcs]; exact ⟨by rw [hCC]; exact hH.st, by rw [hCC]; exact hH.kept⟩
    · rw [hcs]; simp only [ExtX, hCC]; exact Ext.refl _ _ _ _
    · rw [hcs]
      show Den X.P (getH ([(k, Chunk.row e cs)] ++ hp')) ids _ w _ _
      rw [hCC]
      rw [hv] at hd
      exact hd
  · rw [hrow'] at hC; cases hC
    have hc := hH.st.ch k
    rw [hrow'] at hc
    simp only [DenC, hid] at hc
    obtain ⟨arr', ha', hl', hx2⟩ := hc
    rw [hw] at ha'; cases ha'
    have hcell : ∀ j, j < vs.length → w.cell? ⟨b, o' + off + n * i.size + j, none⟩ = some (arr.getD (o' + off + n * i.size + j) undef) := fun j hj => by
      simp only [World.cell?, hw]
      simp [Array.getD_eq_getD_getElem?, Array.getElem?_eq_getElem (show o' + off + n * i.size + j < arr.size by omega)]
    have hrun := run_append_room_src (P := X.P) w t tx o.type e i hu hi' b (o' + off) n cap (a.eval y) m2 vs hsrc.src hcap (fun j hj => by rw [hcell j hj]; rfl) (fun j hj => by simp [World.frozen?, hw])
    obtain ⟨g1, g2⟩ := heap_put hH hrow' hid hw (off := off + n * i.size) (news := news2) (vs := vs) (by rw [hnl]; omega) hsrc.len hsrc.src.one hsrc.den
    rw [← Nat.add_assoc] at g1 g2
    refine ⟨_, _, _, .inl (hrun0 _ _ (by rw [hv]; exact hrun)), g1, g2, .own _ _ ?_ ⟨hcap, c2, fun e3 cs3 hc3 => ?_, .inr ⟨b, o', e, putC cs (off + n * i.size) news2, (arr.toList.take (o' + off + n * i.size) ++ vs ++ arr.toList.drop (o' + off + n * i.size + vs.length)).toArray, ?_, hid, rfl, ?_, ?_⟩⟩⟩
    · rw [List.singleton_append, getH_upd, upd_same]; rfl
    · rw [List.singleton_append, getH_upd, upd_same] at hc3
      cases hc3
      rw [putC_length (by rw [hnl]; omega), hz]; exact hcov
    · rw [List.singleton_append, getH_upd, upd_same]
    · rw [setCells_eq_setRow w b (o' + off + n * i.size) e vs arr hw (by omega) hsrc.src.one]
      exact setRow_heap w b arr _ e (0, 0) hw
    · simp only [List.size_toArray, List.length_append, List.length_take, List.length_drop, Array.length_toList]; omega

/-- Bounds of a piece that are asked for, and the piece then not looked at. -/
theorem run_bounds3 {P : Program} (len cap : Nat) {lo hi mx : Option Value} {l h m : Int} (hl : BoundV lo 0 l) (hh : ∃ k, hi = some (.int k h)) (hm : ∃ k, mx = some (.int k m)) (h0 : 0 ≤ l) (h1 : l ≤ h) (h2 : h ≤ m) (h3 : m ≤ len) (h4 : len ≤ cap) (w : World) :
    (Instr.sliceBounds true len cap lo hi mx).run P w = .ok (l.toNat, h.toNat, m.toNat) w := by
  obtain ⟨k2, rfl⟩ := hh
  obtain ⟨k3, rfl⟩ := hm
  have hm1 : 0 ≤ m ∧ m ≤ (cap : Int) := by omega
  have hm2 : max m 0 = m := by omega
  have hh1 : 0 ≤ h ∧ h ≤ m := by omega
  have hh2 : max h 0 = h := by omega
  rcases hl with ⟨rfl, rfl⟩ | ⟨k, rfl⟩
  · simp [Instr.sliceBounds, Instr.sliceBound, asIntOf, hm1, hh1, hm2]
  · have hl1 : 0 ≤ l ∧ l ≤ h := by omega
    simp [Instr.sliceBounds, Instr.sliceBound, asIntOf, hm1, hh1, hm2, hl1, hh2]
theorem sem_bchk {o : Oper} {t e : TypeId} {x q r : Operand} {lo : Option Operand} {n z : Nat} {l h m : Int} {k2 k3 : IntKind} {rds : List Nat} (ho : o.op = .slice t x lo (some q) (some r)) (hst : sliceT P t = some (e, z))
    (hx : (∃ k off, evS true fr x = .own k off n ∧ (getH hp k).live = true ∧ rds = [k]) ∨ ∃ cs, evS true fr x = .sl n cs ∧ rds = [])
    (b1 : boundS (lo.map (evS true fr)) 0 = some l) (b2 : evS true fr q = .v (.int k2 h)) (b3 : evS true fr r = .v (.int k3 m)) (h0 : 0 ≤ l) (h1 : l ≤ h) (h2 : h ≤ m) (h3 : m ≤ n) :
    SemW P o fr hp nx (EqEff ⟨.any, [], nx, rds⟩) := by
  refine semW_of ⟨Nat.le_refl _, fun p hp1 => by cases hp1⟩ ?_
  intro X ids w fr' hp' a hP hH hf hev hrd
  subst hP
  have hl' : lo.map (evS true fr') = lo.map (evS true fr) := by
    cases lo with
    | none => rfl
    | some q => simp only [Option.map_some]; rw [hev q (by rw [ho]; simp [Op.operands])]
  rw [← hl'] at b1
  have hb1 : BoundV (lo.map a.eval) 0 l := boundS_ok b1 (fun hn => by cases lo with | none => rfl | some q => cases hn) (fun s hs => by
    cases lo with
    | none => cases hs
    | some q => cases hs; exact ⟨_, rfl, ev_den hf (g := true) rfl q⟩)
  have hq := ev_den hf (g := true) rfl q
  rw [hev q (by rw [ho]; simp [Op.operands]), b2] at hq
  have hr := ev_den hf (g := true) rfl r
  rw [hev r (by rw [ho]; simp [Op.operands]), b3] at hr
  have hxd := ev_den hf (g := true) rfl x
  rw [hev x (by rw [ho]; simp [Op.operands])] at hxd
  obtain ⟨i, hu, hi', rfl⟩ := sliceT_some hst
  obtain ⟨ad, cap, hv, hc⟩ : ∃ ad cap, a.eval x = .slice ad n cap ∧ n ≤ cap := by
    rcases hx with ⟨k, off, h1, h2, h3⟩ | ⟨cs, h1, _⟩
    · rw [h1] at hxd
      obtain ⟨ad, cap, hv, hc, _⟩ := den_own hxd (by rw [hrd k (by rw [h3]; exact List.mem_cons_self ..)]; exact h2)
      exact ⟨ad, cap, hv, hc⟩
    · rw [h1] at hxd
      obtain ⟨ad, cap, hv, hc, _⟩ := den_sl hxd
      exact ⟨ad, cap, hv, hc⟩
  refine ⟨.slice (if m.toNat = l.toNat then ad else ad.map (·.add (l.toNat * i.size))) (h.toNat - l.toNat) (m.toNat - l.toNat), w, ids, .inl ?_, hH.toHeapC, Ext.refl _ _ _ _, .any⟩
  unfold execOp
  rw [ho]
  simp only [hv, Sem.run_bind]
  have := run_bounds3 (P := X.P) n cap hb1 (hi := (some q).map a.eval) (mx := (some r).map a.eval) ⟨k2, by simp [den_v hq]⟩ ⟨k3, by simp [den_v hr]⟩ h0 h1 h2 h3 hc w
  simp only [Option.map_some] at this
  simp [Instr.sliceAt, Instr.slice, run_underlying hu, this, sizeOf, typeInfo, hi']
def chkOf (P : Program) (ops : Array Oper) (fr : Fr) (hp : Hp) (l : List Oper) : Option (Option Tmp × List Nat × Nat × Int × Int × Int) := match headOp P ops fr l with
  | some o => match o.op with
    | .slice t x lo (some q) (some r) => match sliceT P t, boundS (lo.map (evS true fr)) 0, evS true fr q, evS true fr r, evS true fr x with
      | some _, some l, .v (.int _ h), .v (.int _ m), .own k _ n => bif (getH hp k).live then some (o.dst, [k], n, l, h, m) else none
      | some _, some l, .v (.int _ h), .v (.int _ m), .sl n _ => some (o.dst, [], n, l, h, m)
      | _, _, _, _, _ => none
    | _ => none
  | none => none
theorem run_bchk {d : Bool} {l : List Oper} {acc : List Nms} {K : Fr → Hp → Nat → Prop} (dst : Option Tmp) (rds : List Nat) (n : Nat) (a b c : Int) (hc : chkOf P ops fr hp l = some (dst, rds, n, a, b, c)) (hb : 0 ≤ a ∧ a ≤ b ∧ b ≤ c ∧ c ≤ ((n : Nat) : Int))
    (h : RunAt P d ops (l.drop 1) (putF dst .any fr) hp (bif d then nx + 1 else nx) (acc ++ [⟨[], rds, nx, nx⟩]) K) : RunAt P d ops l fr hp nx acc K := by
  unfold chkOf at hc
  split at hc
  · rename_i o ho
    split at hc
    · rename_i t x lo q r hop
      split at hc
      · rename_i et lv k2 hv k3 mv k off n' hst h1 h2 h3 h4
        rw [Bool.cond_eq_ite] at hc
        split at hc
        · rename_i hlv
          simp only [Option.some.injEq, Prod.mk.injEq] at hc
          obtain ⟨rfl, rfl, rfl, rfl, rfl, rfl⟩ := hc
          exact run_sem o _ ho (Nat.le_refl _) (sem_bchk hop hst (.inl ⟨k, off, h4, hlv, rfl⟩) h1 h2 h3 hb.1 hb.2.1 hb.2.2.1 hb.2.2.2) h
        · cases hc
      · rename_i et lv k2 hv k3 mv n' cs hst h1 h2 h3 h4
        simp only [Option.some.injEq, Prod.mk.injEq] at hc
        obtain ⟨rfl, rfl, rfl, rfl, rfl, rfl⟩ := hc
        exact run_sem o _ ho (Nat.le_refl _) (sem_bchk hop hst (.inr ⟨cs, h4, rfl⟩) h1 h2 h3 hb.1 hb.2.1 hb.2.2.1 hb.2.2.2) h
      · cases hc
    · cases hc
  · cases hc

/-! ### In lists -/
variable {α : Type}
def putL (ys vs : List α) (i : Nat) : List α := ys.take i ++ vs ++ ys.drop (i + vs.length)
theorem putL_len {ys vs : List α} {i : Nat} (h : i + vs.length ≤ ys.length) : (putL ys vs i).length = ys.length := by
  simp only [putL, List.length_append, List.length_take, List.length_drop]; omega
theorem putC_fl [Enc α] (ys vs : List α) (i : Nat) : putC (fl ys) (i * Enc.sz α) (fl vs) = fl (putL ys vs i) := by
  unfold putC putL
  rw [fl_length, ← Nat.add_mul, fl_take, fl_drop, fl_append, fl_append]
def wipe [Inhabited α] (ys : List α) (a b : Int) : List α := putL ys (List.replicate (b.toNat - a.toNat) default) a.toNat
theorem wipe_len [Inhabited α] {ys : List α} {a b : Int} (h : 0 ≤ a ∧ a ≤ b ∧ b ≤ ((ys.length : Nat) : Int)) : (wipe ys a b).length = ys.length := putL_len (by rw [List.length_replicate]; omega)
def clrOf (P : Program) (ops : Array Oper) (fr : Fr) (hp : Hp) (l : List Oper) : Option (Option Tmp × Nat × Nat × Nat × TypeId × List SV × List SV × Nat) := match headOp P ops fr l with
  | some o => match o.op with
    | .call c => match c.callee, c.args.toList, c.argTypes.toList with
      | .builtin .clear, [x], [t] => match sliceT P t, evS true fr x with
        | some (e, z), .own k off n => match getH hp k, zeroT P e with
          | .row e' cs, some zs => bif e' == e then some (o.dst, k, off, n, e, cs, zs, z) else none
          | _, _ => none
        | _, _ => none
      | _, _, _ => none
    | _ => none
  | none => none
theorem run_clr [Enc α] {d : Bool} {l : List Oper} {acc : List Nms} {K : Fr → Hp → Nat → Prop} (ys : List α) (dst : Option Tmp) (k off n z : Nat) (e : TypeId) (zs : List SV) (a b : Int) (hc : clrOf P ops fr hp l = some (dst, k, off, n, e, fl ys, zs, z)) (hz : Enc.sz α = z) (hzs : zs = Enc.cells (default : α)) (hpos : 0 < z)
    (hoff : off = a.toNat * z) (hb : n = b.toNat - a.toNat ∧ 0 ≤ a ∧ a ≤ b ∧ b ≤ ((ys.length : Nat) : Int))
    (h : RunAt P d ops (l.drop 1) (putF dst .any fr) ([(k, .row e (fl (wipe ys a b)))] ++ hp) (bif d then nx + 1 else nx) (acc ++ [⟨[k], [k], nx, nx⟩]) K) : RunAt P d ops l fr hp nx acc K := by
  unfold clrOf at hc
  split at hc
  · rename_i o ho
    split at hc
    · rename_i c hop
      obtain ⟨callee, args, tys⟩ := c
      split at hc
      · rename_i x t h1 h2 h3
        obtain ⟨args⟩ := args
        obtain ⟨tys⟩ := tys
        simp only at h1 h2 h3; subst h1; subst h2; subst h3
        split at hc
        · rename_i e1 z1 k1 off1 n1 hst hx
          split at hc
          · rename_i e2 cs zs1 hrow hzz
            rw [Bool.cond_eq_ite] at hc
            split at hc
            · rename_i hq
              simp only [beq_iff_eq] at hq
              subst hq
              simp only [Option.some.injEq, Prod.mk.injEq] at hc
              obtain ⟨rfl, rfl, rfl, rfl, rfl, rfl, rfl, rfl⟩ := hc
              subst hz; subst hoff; subst hzs
              obtain ⟨hn, h0, h1, h2⟩ := hb
              have hw : putC (fl ys) (a.toNat * Enc.sz α) ((List.range n1).flatMap fun _ => Enc.cells (default : α)) = fl (wipe ys a b) := by
                rw [wipe, ← putC_fl, ← hn, fl_zeros n1 _ rfl]
              have hle : a.toNat * Enc.sz α + n1 * Enc.sz α ≤ (fl ys).length := by
                rw [fl_length, ← Nat.add_mul]
                exact Nat.mul_le_mul_right _ (by omega)
              have := sem_clear (P := P) (fr := fr) (hp := hp) (nx := nx) hop hst hx hrow hzz (Enc.len _) hpos (Enc.one _) hle
              rw [hw] at this
              exact run_sem o _ ho (Nat.le_refl _) this h
            · cases hc
          · cases hc
        · cases hc
      · cases hc
    · cases hc
  · cases hc
def inOf (P : Program) (ops : Array Oper) (fr : Fr) (hp : Hp) (l : List Oper) : Option (Option Tmp × Nat × Nat × Nat × TypeId × List SV × Nat × TypeId × SV) := match headOp P ops fr l with
  | some o => match o.op with
    | .call c => match c.callee, c.args.toList, c.argTypes.toList with
      | .builtin .append, [x, y], [t, tx] => match sliceT P t, evS true fr x with
        | some (e, z), .own k off n => match getH hp k with
          | .row e' cs => bif e' == e && P.cellsOf e == z then some (o.dst, k, off, n, e, cs, z, tx, evS true fr y) else none
          | _ => none
        | _, _ => none
      | _, _, _ => none
    | _ => none
  | none => none
theorem run_appIn [Enc α] {d : Bool} {l : List Oper} {acc : List Nms} {K : Fr → Hp → Nat → Prop} (ys vs : List α) (dst : Option Tmp) (k off n z mm : Nat) (e tx : TypeId) (sy : SV) (news : List SV) (rds : List Nat) (s0 : Prop) (a b : Int)
    (hc : inOf P ops fr hp l = some (dst, k, off, n, e, fl ys, z, tx, sy)) (hs : srcS P tx z sy hp = fun f => f mm news rds s0) (hs0 : s0) (hn : news = fl vs) (hm : mm = vs.length) (hz : Enc.sz α = z) (hpos : 0 < z)
    (hoff : off = a.toNat * z) (hb : n = b.toNat - a.toNat ∧ 0 ≤ a ∧ a ≤ b ∧ b ≤ ((ys.length : Nat) : Int)) (hroom : b + ((vs.length : Nat) : Int) ≤ ((ys.length : Nat) : Int))
    (h : RunAt P d ops (l.drop 1) (putF dst (.own k off (n + mm)) fr) ([(k, .row e (fl (putL ys vs b.toNat)))] ++ hp) (bif d then nx + 1 else nx) (acc ++ [⟨[k], k :: rds, nx, nx⟩]) K) : RunAt P d ops l fr hp nx acc K := by
  unfold inOf at hc
  split at hc
  · rename_i o ho
    split at hc
    · rename_i c hop
      obtain ⟨callee, args, tys⟩ := c
      split at hc
      · rename_i x y t tx' h1 h2 h3
        obtain ⟨args⟩ := args
        obtain ⟨tys⟩ := tys
        simp only at h1 h2 h3; subst h1; subst h2; subst h3
        split at hc
        · rename_i e1 z1 k1 off1 n1 hst hx
          split at hc
          · rename_i e2 cs hrow
            rw [Bool.cond_eq_ite] at hc
            split at hc
            · rename_i hq
              simp only [Bool.and_eq_true, beq_iff_eq] at hq
              obtain ⟨rfl, hcz⟩ := hq
              simp only [Option.some.injEq, Prod.mk.injEq] at hc
              obtain ⟨rfl, rfl, rfl, rfl, rfl, rfl, rfl, rfl, rfl⟩ := hc
              subst hz; subst hoff; subst hn; subst hm
              obtain ⟨hn, h0, h1, h2⟩ := hb
              have hbe : a.toNat * Enc.sz α + n1 * Enc.sz α = b.toNat * Enc.sz α := by
                rw [← Nat.add_mul]; congr 1; omega
              have hle : a.toNat * Enc.sz α + (n1 + vs.length) * Enc.sz α ≤ (fl ys).length := by
                rw [fl_length, ← Nat.add_mul]
                exact Nat.mul_le_mul_right _ (by omega)
              have := sem_appIn (P := P) (fr := fr) (hp := hp) (nx := nx) hop hst hx hrow (fun f => congrFun hs f) hs0 (fl_length vs) (fl_one vs) hcz hpos hle
              rw [hbe, putC_fl] at this
              exact run_sem o _ ho (Nat.le_refl _) this h
            · cases hc
          · cases hc
        · cases hc
      · cases hc
    · cases hc
  · cases hc
/-- A piece of a piece, or beyond its end. -/
theorem run_sliceAt_cap {P : Program} {t e : TypeId} {i : TypeInfo} (hu : P.underlying t = some (.slice e)) (hi : P.info? e = some i) (a : Option Addr) (len cap : Nat) {lo hig : Option Value} {l h : Int} (hl : BoundV lo 0 l) (hh : BoundV hig len h)
    (h0 : 0 ≤ l) (h1 : l ≤ h) (h2 : h ≤ cap) (h3 : len ≤ cap) (w : World) :
    (Instr.sliceAt t (.slice a len cap) lo hig none).run P w = .ok (.slice (if cap = l.toNat then a else a.map (·.add (l.toNat * i.size))) (h.toNat - l.toNat) (cap - l.toNat)) w := by
  have hb : (Instr.sliceBounds true len cap lo hig none).run P w = .ok (l.toNat, h.toNat, cap) w := by
    have hlt : h.toNat ≤ cap := by omega
    rcases hl with ⟨rfl, rfl⟩ | ⟨k, rfl⟩ <;> rcases hh with ⟨rfl, rfl⟩ | ⟨k', rfl⟩
    · simp [Instr.sliceBounds]
    · have : 0 ≤ h ∧ h ≤ (cap : Int) := by omega
      simp [Instr.sliceBounds, Instr.sliceBound, asIntOf, this]
    · have : 0 ≤ l ∧ l ≤ (len : Int) := by omega
      simp [Instr.sliceBounds, Instr.sliceBound, asIntOf, this]
    · have : 0 ≤ h ∧ h ≤ (cap : Int) := by omega
      have h4 : 0 ≤ l ∧ l ≤ h := by omega
      have h5 : max h 0 = h := by omega
      simp [Instr.sliceBounds, Instr.sliceBound, asIntOf, this, h4, h5]
  simp [Instr.sliceAt, Instr.slice, run_underlying hu, hb, sizeOf, typeInfo, hi]
theorem sem_sub {o : Oper} {t e : TypeId} {x : Operand} {lo hi : Option Operand} {k off z n : Nat} {cs : List SV} {l h : Int} (ho : o.op = .slice t x lo hi none) (hst : sliceT P t = some (e, z)) (hx : evS true fr x = .own k off n) (hrow : getH hp k = .row e cs) (hz : P.cellsOf e = z) (hpos : 0 < z)
    (b1 : boundS (lo.map (evS true fr)) 0 = some l) (b2 : boundS (hi.map (evS true fr)) n = some h) (h0 : 0 ≤ l) (h1 : l ≤ h) (h2 : off + h.toNat * z ≤ cs.length) :
    SemW P o fr hp nx (EqEff ⟨.own k (off + l.toNat * z) (h.toNat - l.toNat), [], nx, [k]⟩) := by
  have hlk : (getH hp k).live = true := by rw [hrow]; rfl
  refine semW_of ⟨Nat.le_refl _, fun p hp1 => by cases hp1⟩ ?_
  intro X ids w fr' hp' a hP hH hf hev hrd
  subst hP
  have hx' : evS true fr' x = .own k off n := by rw [hev x (by rw [ho]; simp [Op.operands]), hx]
  have hrow' : getH hp' k = .row e cs := by rw [hrd k (List.mem_cons_self ..), hrow]
  have hlk' : (getH hp' k).live = true := by rw [hrow']; rfl
  have hd := ev_den hf (g := true) rfl x
  rw [hx'] at hd
  have hl' : lo.map (evS true fr') = lo.map (evS true fr) := by
    cases lo with
    | none => rfl
    | some q => simp only [Option.map_some]; rw [hev q (by rw [ho]; simp [Op.operands])]
  have hh' : hi.map (evS true fr') = hi.map (evS true fr) := by
    cases hi with
    | none => rfl
    | some q => simp only [Option.map_some]; rw [hev q (by rw [ho]; simp [Op.operands])]
  rw [← hl'] at b1
  rw [← hh'] at b2
  have hb1 : BoundV (lo.map a.eval) 0 l := boundS_ok b1 (fun hn => by cases lo with | none => rfl | some q => cases hn) (fun s hs => by
    cases lo with
    | none => cases hs
    | some q => cases hs; exact ⟨_, rfl, ev_den hf (g := true) rfl q⟩)
  have hb2 : BoundV (hi.map a.eval) n h := boundS_ok b2 (fun hn => by cases hi with | none => rfl | some q => cases hn) (fun s hs => by
    cases hi with
    | none => cases hs
    | some q => cases hs; exact ⟨_, rfl, ev_den hf (g := true) rfl q⟩)
  obtain ⟨i, hu, hi', rfl⟩ := sliceT_some hst
  obtain ⟨ad, cap, hv, c1, c2, c4, c3⟩ := den_own hd hlk'
  have hcov := c4 _ _ hrow'
  rw [hz] at hcov
  have hcap : h.toNat ≤ cap := Nat.le_of_mul_le_mul_right (show h.toNat * i.size ≤ cap * i.size by omega) hpos
  have hmul : l.toNat ≤ cap → l.toNat * i.size + (cap - l.toNat) * i.size = cap * i.size := fun hle => by rw [← Nat.add_mul]; congr 1; omega
  refine ⟨.slice (if cap = l.toNat then ad else ad.map (·.add (l.toNat * i.size))) (h.toNat - l.toNat) (cap - l.toNat), w, ids, .inl ?_, hH.toHeapC, Ext.refl _ _ _ _, ?_⟩
  · unfold execOp
    rw [ho]
    simp only [hv, Sem.run_bind]
    have := run_sliceAt_cap hu hi' ad n cap hb1 hb2 h0 h1 (by omega) c1 w
    simp only [Option.map_none] at this ⊢
    rw [this]
    rfl
  · refine .own _ _ hlk' ⟨by omega, by omega, fun e2 cs2 hc2 => ?_, ?_⟩
    · replace hc2 : getH hp' k = _ := hc2
      rw [hrow'] at hc2
      cases hc2
      rw [hz]
      have := hmul (by omega)
      omega
    by_cases hc : cap = l.toNat
    · exact .inl ⟨by omega, by omega⟩
    · rw [if_neg hc]
      rcases c3 with ⟨_, rfl⟩ | ⟨b, o', e2, cs2, arr, hC, hid, rfl, hw, hsz⟩
      · exact .inl ⟨by omega, by omega⟩
      · rw [hrow'] at hC; cases hC
        refine .inr ⟨b, o', e, cs, arr, hrow', hid, by simp only [Option.map_some, add_mk, Nat.add_assoc], hw, ?_⟩
        rw [hz] at hsz ⊢
        have := hmul (by omega)
        omega
def subOf (P : Program) (ops : Array Oper) (fr : Fr) (hp : Hp) (l : List Oper) : Option (Option Tmp × Nat × Nat × Nat × TypeId × List SV × Nat × Int × Int) := match headOp P ops fr l with
  | some o => match o.op with
    | .slice t x lo hi none => match sliceT P t, evS true fr x with
      | some (e, z), .own k off n => match getH hp k, boundS (lo.map (evS true fr)) 0, boundS (hi.map (evS true fr)) n with
        | .row e' cs, some a, some b => bif e' == e && P.cellsOf e == z then some (o.dst, k, off, n, e, cs, z, a, b) else none
        | _, _, _ => none
      | _, _ => none
    | _ => none
  | none => none
theorem run_sub [Enc α] {d : Bool} {l : List Oper} {acc : List Nms} {K : Fr → Hp → Nat → Prop} (ys : List α) (dst : Option Tmp) (k off n z : Nat) (e : TypeId) (lo hi a : Int) (hc : subOf P ops fr hp l = some (dst, k, off, n, e, fl ys, z, lo, hi)) (hz : Enc.sz α = z) (hpos : 0 < z) (hoff : off = a.toNat * z) (ha : 0 ≤ a)
    (hb : 0 ≤ lo ∧ lo ≤ hi ∧ a + hi ≤ ((ys.length : Nat) : Int)) (off' n' : Nat) (ho' : (a + lo).toNat * z = off') (hn' : hi.toNat - lo.toNat = n')
    (h : RunAt P d ops (l.drop 1) (putF dst (.own k off' n') fr) hp (bif d then nx + 1 else nx) (acc ++ [⟨[], [k], nx, nx⟩]) K) : RunAt P d ops l fr hp nx acc K := by
  unfold subOf at hc
  split at hc
  · rename_i o ho
    split at hc
    · rename_i t x lo' hi' hop
      split at hc
      · rename_i e1 z1 k1 off1 n1 hst hx
        split at hc
        · rename_i e2 cs a1 b1 hrow h1 h2
          rw [Bool.cond_eq_ite] at hc
          split at hc
          · rename_i hq
            simp only [Bool.and_eq_true, beq_iff_eq] at hq
            obtain ⟨rfl, hcz⟩ := hq
            simp only [Option.some.injEq, Prod.mk.injEq] at hc
            obtain ⟨rfl, rfl, rfl, rfl, rfl, rfl, rfl, rfl, rfl⟩ := hc
            subst hz; subst hoff; subst ho'; subst hn'
            have hle : a.toNat * Enc.sz α + b1.toNat * Enc.sz α ≤ (fl ys).length := by
              rw [fl_length, ← Nat.add_mul]
              exact Nat.mul_le_mul_right _ (by omega)
            have := sem_sub (P := P) (fr := fr) (hp := hp) (nx := nx) hop hst hx hrow hcz hpos h1 h2 hb.1 hb.2.1 hle
            rw [show a.toNat * Enc.sz α + a1.toNat * Enc.sz α = (a + a1).toNat * Enc.sz α by rw [← Nat.add_mul]; congr 1; omega] at this
            exact run_sem o _ ho (Nat.le_refl _) this h
          · cases hc
        · cases hc
      · cases hc
    · cases hc
  · cases hc

/-! ### A slot, or a chunk, in other words -/
theorem run_eqF {d : Bool} {l : List Oper} {acc : List Nms} {K : Fr → Hp → Nat → Prop} (t : Nat) (x x' : SV) (e : x = x') (h : getF fr t = x) (k : RunAt P d ops l ((t, x') :: fr) hp nx acc K) : RunAt P d ops l fr hp nx acc K := by
  subst e
  have hl : Less ops l ((t, x) :: fr) fr := fun q => .inl (by
    simp only [getF]
    by_cases hq : t = q
    · subst hq; simp [h]
    · rw [show (t == q) = false from by simpa using hq, cond_false])
  cases d with
  | false => exact runOps_less l _ _ _ _ _ hl rfl k
  | true => exact runE_less l _ _ _ _ _ _ hl rfl k
theorem run_eqH {d : Bool} {l : List Oper} {acc : List Nms} {K : Fr → Hp → Nat → Prop} (j : Nat) (c c' : Chunk) (e : c = c') (h : getH hp j = c) (k : RunAt P d ops l fr ((j, c') :: hp) nx acc K) : RunAt P d ops l fr hp nx acc K := by
  subst e
  have hh : getH hp = getH ((j, c) :: hp) := funext fun q => by
    simp only [getH]
    by_cases hq : j = q
    · subst hq; simp [h]
    · rw [show (j == q) = false from by simpa using hq, cond_false]
  have hl : Less ops l fr fr := fun q => .inl rfl
  cases d with
  | false => exact runOps_less l _ _ _ _ _ hl hh k
  | true => exact runE_less l _ _ _ _ _ _ hl hh k
end Go.Sx
