/-
  Lemmas, put together: HS, HZ, HV, HW.
  No conditions.
-/
import Derived.Test.YtolmbmgjpcdngaacellA3
import Derived.Lib.AppendZerosOnto
set_option linter.unusedSimpArgs false
set_option linter.unusedVariables false
section
namespace Go.Sx
open Go.RowKit
set_option linter.unusedVariables false
set_option linter.unusedSimpArgs false
variable {P : Program}
theorem SpecW.giveG {f : FuncId} {args : List SV} {hin : Hp} {m : Nat} {X : SV} {H : Hp} {nn : Nat} (spec : SpecW P f args hin m (fun x h n => x = X ∧ h = H ∧ n = nn)) (G : List Nm) (m2 : Nat) (hin2 : Hp) (args2 : List SV) (sig : List (Nm × Nm)) (X2 : SV) (H2 : Hp)
    (hm2 : m ≤ m2) (h1 : leL hin2 hin sig G args2 args) (h2 : leH hin2 hin sig G hin) (b1 : leL hin hin sig [] args args) (b2 : leH hin hin sig [] hin)
    (h3 : (okN m2 sig G, okH m2 m2 sig hin, okN 0 sig [], okH 0 m sig hin, okC m hin sig, wfH H) = (true, true, true, true, true, true))
    (e1 : renS (bck (getN sig) m2) X = X2) (e2 : back (getN sig) m2 m H hin = H2) (h4 : (hin.all (fun p => H2.any fun q => q.1.eqk p.1), H2.all (fun p => Nat.blt p.1.base (m2 + nn))) = (true, true)) (hfam : famOk hin hin sig := by simp only [famOk, and_self]) :
    SpecW P f args2 hin2 m2 (fun x h n => x = X2 ∧ h = H2 ∧ n = m2 + nn) := by
  simp only [Prod.mk.injEq] at h3 h4
  obtain ⟨k1, k2, k3, k4, k5, k6⟩ := h3
  obtain ⟨k7, k8⟩ := h4
  refine ⟨spec.1, fun Y vals hP hm hF hsz hd => ?_⟩
  subst hP
  obtain ⟨l1, l2⟩ := leL_get h1
  obtain ⟨l3, l4⟩ := leL_get b1
  have hsub : Sub Y.P (getH hin2) (getH hin) (getN sig) (InK G) := sub_mk h2 k1
  obtain ⟨ids', hF', hden⟩ := weaken (nx' := m2) hF.toHeapC hsub (okH_fresh k2) (fun k hk hl => by
    rw [hm] at hk
    refine okH_kept (fun p hp => ?_) k2 k hk hl
    simp only [okN, Bool.and_eq_true, List.all_eq_true] at k1
    have := (k1.2 p hp).2
    simpa using this) (by rw [hm]; exact Nat.le_refl _)
  have hok := handed_ok k5 hfam
  have inj : ∀ k1 k2 j, getN sig k1 = some j → getN sig k2 = some j → k1 = k2 := by
    simp only [okN, Bool.and_eq_true] at k3
    exact nodupN_inj k3.1.1 k3.1.2
  have fresh : ∀ k : Nm, m ≤ k.base → getN sig k = none ∧ getH hin k = .unborn := fun k hk => ⟨by
    cases hn : getN sig k with
    | none => rfl
    | some j => have := (hok k j hn).1; omega, okH_fresh k4 k hk⟩
  have hsub2 : Sub Y.P (getH hin) (getH hin) (getN sig) (InK []) := sub_mk b2 k3
  refine (call_sound (nx := m2) (args := args) hF'.toHeapC (by rw [hm]; exact Nat.le_refl _) spec hsub2 (getN_sig sig) fresh inj (fun k j hk => (hok k j hk).2) rfl (fun i x y hx hy => leS_sound (l4 i x y hx hy)) (vals := vals) (by rw [hsz, l1]) (fun i x hx => ?_)).mono ?_
  · have hlt := (List.getElem?_eq_some_iff.1 hx).1
    have hx2 := List.getElem?_eq_getElem (show i < args2.length by omega)
    exact hden _ _ _ (leS_sound (l2 i _ x hx2 hx)) (hd i _ hx2)
  · rintro e w' ⟨r, res, hp', nx', rfl, ⟨rfl, rfl, rfl⟩, ⟨c1, c2⟩, c3⟩
    obtain ⟨ids2, d1, d2, d3⟩ := c3 ⟨k6, fun k hk => okH_fresh k4 _ (by simp; omega), .inl inK_nil⟩
    rw [e2] at d1 d2 d3
    rw [e1] at d3
    have hg : getH (H2 ++ hin) = getH H2 := by
      funext k
      rw [getH_append]
      split
      · rfl
      · rename_i hn
        rw [getH_unlisted hn]
        refine getH_unlisted fun ⟨p, hp, he⟩ => hn ?_
        have := List.all_eq_true.1 k7 p hp
        simp only [List.any_eq_true] at this
        obtain ⟨q, hq, hqe⟩ := this
        exact ⟨q, hq, (Nm.eqk_iff.1 hqe).trans he⟩
    exact ⟨r, X2, H2, _, ids2, rfl, ⟨rfl, rfl, rfl⟩, ⟨d1.congr hg, getH_above k8, by rw [hm]; exact Nat.le_add_right _ _⟩, d3.congr hg⟩


/-! ### make, of elements that hold nil slices which nobody writes -/
theorem ghost_nil {hp : Hp} {nx r : Nat} {e : TypeId} {cs cs' : List SV} (hR : getH hp (.t r) = .row e cs) (hw : cs.map nilS = cs') : Ghost P nx 0 [Nm.t r] hp [(Nm.t r, .row e cs')] := by
  intro X ids w hp' hP hm hC hag hf
  have hk : getH hp' (.t r) = .row e cs := (hag (.t r) (by simp [Nm.key])).trans hR
  subst hw
  have := heap_retell hC hk (cs' := cs.map nilS) (by simp) (fun i x y v h1 h2 h3 => by
    rw [List.getElem?_map, h1] at h2
    cases h2
    exact den_nilS h3)
  exact ⟨ids, this⟩
theorem nil_rep {α : Type} [Enc α] (n : Nat) (zs : List SV) (hzs : zs.map nilS = Enc.cells (default : α)) : ((List.range n).flatMap fun _ => zs).map nilS = fl (List.replicate n (default : α)) := by
  rw [← fl_zeros n (zs.map nilS) hzs, List.map_flatMap]
theorem ob_mk0 {α : Type} (n : Int) (e : TypeId) (B : Nat) (hB : P.bytesOf e = B) (zs : List SV) (z : Nat) (hz : zs.length = z) (hpos : 0 < z) (d : α) (k : 0 ≤ n ∧ n ≤ 4611686018427387904 ∧ (B : Int) * n ≤ 140737488355328) (nx : Nat) :
    resOb (.ok (0 ≤ n ∧ n ≤ n ∧ n ≤ 4611686018427387904 ∧ (P.bytesOf e : Int) * n ≤ 140737488355328 ∧ zs.length = z ∧ 0 < z) ⟨.own nx 0 n.toNat, [(Nm.t nx, .row e ((List.range n.toNat).flatMap fun _ => zs))], nx + 1, []⟩) ⟨.own nx 0 (List.replicate n.toNat d).length, [(Nm.t nx, .row e ((List.range n.toNat).flatMap fun _ => zs))], nx + 1, []⟩ := by
  subst hB
  exact ob_ok ⟨k.1, Int.le_refl _, k.2.1, k.2.2, hz, hpos⟩ (by rw [List.length_replicate]) rfl
end Go.Sx
end

section
namespace Go.Sx
open Go.RowKit
set_option linter.unusedVariables false
set_option linter.unusedSimpArgs false
variable {P : Program} {fr : Fr} {hp : Hp} {nx : Nat}

theorem run_nilAny {P : Program} {op : BinOp} {t e : TypeId} (hu : P.underlying t = some (.slice e)) (a : Option Addr) (n cap : Nat) (ho : isEq op = true) (w : World) :
    (binOp op t (.slice a n cap) (.slice none 0 0)).run P w = .ok (.bool (bif isNeg op then !a.isNone else a.isNone)) w := by
  have h0 : ∀ D, (Op.equalIn (D + 1) t (.slice a n cap) (.slice none 0 0)).run P w = .ok a.isNone w := fun D => by
    cases a <;> simp [Op.equalIn, run_underlying hu]
  have h : (Op.equal t (.slice a n cap) (.slice none 0 0)).run P w = .ok a.isNone w := h0 9999
  cases op <;> simp [isEq] at ho
  · simp only [binOp, Sem.run_bind, h]; cases a <;> rfl
  · simp only [binOp, Sem.run_bind, h]; cases a <;> rfl
/-- A slice held against nil. -/
theorem sem_nil {o : Oper} {op : BinOp} {t u e : TypeId} {x : Operand} {r : Bool} {rds : List Nm} (ho : o.op = .binOp op t x (.const (.slice none 0 0)) u) (he : isEq op = true) (hu : P.underlying t = some (.slice e))
    (hx : (∃ k off n, evS true fr x = .own k off n ∧ 0 < n ∧ (getH hp k).live = true ∧ rds = [k.key] ∧ r = isNeg op) ∨ (∃ n cs, evS true fr x = .sl n cs ∧ 0 < n ∧ rds = [] ∧ r = isNeg op) ∨ (evS true fr x = .v (.slice none 0 0) ∧ rds = [] ∧ r = !isNeg op)) :
    SemW P o fr hp nx (EqEff ⟨.v (.bool r), [], nx, rds⟩) := by
  refine semW_of ⟨Nat.le_refl _, fun p hp1 => by cases hp1⟩ ?_
  intro X ids w fr' hp' a hP hH hf hev hrd
  subst hP
  have hxd := ev_den hf (g := true) rfl x
  rw [hev x (by rw [ho]; simp [Op.operands])] at hxd
  obtain ⟨ad, n, cap, hv, hr⟩ : ∃ ad n cap, a.eval x = .slice ad n cap ∧ (bif isNeg op then !ad.isNone else ad.isNone) = r := by
    rcases hx with ⟨k, off, n, h1, h2, h3, h4, h5⟩ | ⟨n, cs, h1, h2, h3, h4⟩ | ⟨h1, h2, h3⟩
    · rw [h1] at hxd
      have hl : (getH hp' k).live = true := by rw [hrd k (by rw [h4]; exact List.mem_cons_self ..)]; exact h3
      obtain ⟨b, o', cap, hid, hv⟩ := den_own_pos hxd hl h2
      exact ⟨_, _, _, hv, by rw [h5]; cases isNeg op <;> rfl⟩
    · rw [h1] at hxd
      generalize hgen : a.eval x = y at hxd
      cases hxd with
      | sl0 hc => omega
      | sl b o cap c hb hn hcap hc hx => exact ⟨_, _, _, rfl, by rw [h4]; cases isNeg op <;> rfl⟩
    · rw [h1] at hxd
      have hv := den_v hxd
      exact ⟨_, _, _, hv, by rw [h3]; cases isNeg op <;> rfl⟩
  refine ⟨.bool r, w, ids, .inl ?_, hH.toHeapC, Ext.refl _ _ _ _, .v⟩
  unfold execOp
  rw [ho]
  simp only [Sem.run_bind]
  rw [hv, show a.eval (.const (.slice none 0 0)) = .slice none 0 0 from rfl, eqGuard_plain (by simp) (by simp)]
  simp only [Result.andThen_ok, run_nilAny hu _ _ _ he, Sem.run_pure, hr]
/-- The room of no slice. -/
theorem sem_cap0 {o : Oper} {t e : TypeId} {x : Operand} (ho : o.op = .call ⟨.builtin .cap, #[x], #[t]⟩) (hu : P.underlying t = some (.slice e)) (hx : evS true fr x = .v (.slice none 0 0)) :
    SemW P o fr hp nx (EqEff ⟨.v (.int .i64 0), [], nx, []⟩) := by
  refine semW_of ⟨Nat.le_refl _, fun p hp1 => by cases hp1⟩ ?_
  intro X ids w fr' hp' a hP hH hf hev hrd
  subst hP
  have hxd := ev_den hf (g := true) rfl x
  rw [hev x (by rw [ho]; simp [Op.operands, Call.operands]), hx] at hxd
  have hv := den_v hxd
  refine ⟨.int .i64 0, w, ids, .inl ?_, hH.toHeapC, Ext.refl _ _ _ _, .v⟩
  unfold execOp
  rw [ho]
  simp only [resolve, Sem.run_bind, Sem.run_pure, Result.andThen_ok, invoke, builtin]
  simp [Builtin.cap_, hv, run_underlying hu, goInt]
theorem zeroCells_eq (cs : Array Value) (n : Nat) (h : 0 < cs.size) : ∀ (i : Nat) (x : SV), ((List.range n).flatMap fun _ => cs.toList.map SV.v)[i]? = some x → x = .v ((Builtin.zeroCells cs n).getD i undef) ∧ i < (Builtin.zeroCells cs n).size := fun i x hj => by
  have hlt : i < n * cs.size := by
    have := (List.getElem?_eq_some_iff.1 hj).1
    rw [length_flatMap_const] at this; simpa using this
  rw [getElem?_flatMap_const _ _ _ (by simpa using hlt)] at hj
  simp only [List.length_map, Array.length_toList, List.getElem?_map] at hj
  have hm := Nat.mod_lt i h
  rw [Array.getElem?_toList, Array.getElem?_eq_getElem hm] at hj
  simp only [Option.map_some, Option.some.injEq] at hj
  subst hj
  have hsz : i < (Builtin.zeroCells cs n).size := by simpa [Builtin.zeroCells] using hlt
  refine ⟨?_, hsz⟩
  rw [Array.getD_eq_getD_getElem?, Array.getElem?_eq_getElem hsz]
  simp [Builtin.zeroCells, getElem!_pos cs (i % cs.size) hm]
/-- append, of so many nothings to no slice. -/
theorem sem_app0 {o : Oper} {t tn e : TypeId} {x y : Operand} {kn kq : IntKind} {z : Nat} {zs : List SV} {n : Int} (ho : o.op = .call ⟨.builtin .append, #[x, y], #[t, tn]⟩) (hst : sliceT P t = some (e, z)) (htn : P.underlying tn = some (.int kn)) (hx : evS true fr x = .v (.slice none 0 0)) (hy : evS true fr y = .v (.int kq n))
    (hz : zeroT P e = some zs) (h0 : 0 < n) (hzl : zs.length = z) (hpos : 0 < z) (hb0 : 0 < P.bytesOf e) (hb : n.toNat * P.bytesOf e ≤ 140737488355328) :
    SemW P o fr hp nx (EqEff ⟨.own nx 0 n.toNat, [(Nm.t nx, .row e ((List.range n.toNat).flatMap fun _ => zs))], nx + 1, []⟩) := by
  refine semW_of ⟨Nat.le_succ _, fun p hp1 => by rw [List.mem_singleton.1 hp1]; exact .inl ⟨Nat.le_refl _, Nat.lt_succ_self _⟩⟩ ?_
  intro X ids w fr' hp' a hP hH hf hev hrd
  subst hP
  have hxd := ev_den hf (g := true) rfl x
  rw [hev x (by rw [ho]; simp [Op.operands, Call.operands]), hx] at hxd
  have hv := den_v hxd
  have hyd := ev_den hf (g := true) rfl y
  rw [hev y (by rw [ho]; simp [Op.operands, Call.operands]), hy] at hyd
  have hw := den_v hyd
  obtain ⟨i, hu, hi, rfl⟩ := sliceT_some hst
  obtain ⟨i', zv, hi', hzv, rfl⟩ := zeroT_some hz
  rw [hi] at hi'; cases hi'
  have hsz : zv.cells.size = i.size := by simpa using hzl
  have hby : X.P.bytesOf e = i.bytes := by simp [Program.bytesOf, hi]
  rw [hby] at hb hb0
  have hk : ((n.toNat : Nat) : Int) = n := by omega
  have hnn : n.toNat ≤ n.toNat * i.bytes := Nat.le_mul_of_pos_right _ hb0
  have hrun := Lib.run_append_grow_zeros (P := X.P) w t tn o.type e i zv kq kn hu htn hi hzv none 0 0 [] (by simp [Builtin.firstCells]) n.toNat (by omega) hpos (by omega) (by omega) (by omega) (by rw [Nat.zero_add]; exact growslice_fits (by omega) hb)
  rw [hk] at hrun
  simp only [Nat.zero_add] at hrun
  obtain ⟨d1c, d2⟩ := hH.toHeapC.drew
  have d1 : HeapX X hp' nx ids w.drew := ⟨d1c, hH.fresh, hH.m_le⟩
  have hcap : n.toNat ≤ grownCap w n.toNat 0 e := by have := grownCap_ge w n.toNat 0 e; simpa using this
  have hcm : grownCap w n.toNat 0 e ≤ maxLen := by have := grownCap_le_maxLen w n.toNat 0 e (by unfold maxLen; omega); simpa using this
  have hz0 : ∀ q, (Builtin.zeroCells zv.cells q).size = q * i.size := fun q => by rw [size_zeroCells, hsz]
  have hasz : ((([] : List Value).toArray) ++ Builtin.zeroCells zv.cells n.toNat ++ Builtin.zeroCells zv.cells (grownCap w n.toNat 0 e - n.toNat)).size = grownCap w n.toNat 0 e * i.size := by
    rw [Array.size_append, Array.size_append, hz0, hz0, List.size_toArray, List.length_nil, Nat.zero_add, ← Nat.add_mul]; congr 1; omega
  obtain ⟨a1, a2⟩ := heap_alloc d1 (e := e) (cs := (List.range n.toNat).flatMap fun _ => zv.cells.toList.map SV.v) (arr := ([] : List Value).toArray ++ Builtin.zeroCells zv.cells n.toNat ++ Builtin.zeroCells zv.cells (grownCap w n.toNat 0 e - n.toNat)) (by
      rw [hasz, length_flatMap_const, List.length_map, Array.length_toList, hsz]; exact Nat.mul_le_mul_right _ hcap) (fun j v hj => by
      obtain ⟨h1, h2⟩ := zeroCells_eq zv.cells n.toNat (by omega) j v hj
      have e1 : (([] : List Value).toArray ++ Builtin.zeroCells zv.cells n.toNat ++ Builtin.zeroCells zv.cells (grownCap w n.toNat 0 e - n.toNat)).getD j undef = (Builtin.zeroCells zv.cells n.toNat).getD j undef := by
        simp [Array.getD_eq_getD_getElem?, Array.getElem?_append, h2]
      rw [h1, e1]
      exact .v)
  refine ⟨.slice (some ⟨w.heap.size, 0, none⟩) n.toNat (grownCap w n.toNat 0 e), _, _, .inl ?_, a1, Ext_trans' d2 a2, .own _ _ ?_ ?_⟩
  · unfold execOp
    rw [ho]
    simp only [resolve, Sem.run_bind, Sem.run_pure, Result.andThen_ok, invoke, builtin, List.map_toArray, List.map_cons, List.map_nil, hv, hw]
    rw [hrun]
    rfl
  · rw [List.singleton_append, getH_upd, upd_same]; rfl
  · refine ⟨hcap, hcm, fun e' cs' hc' => ?_, .inr ⟨w.heap.size, 0, e, (List.range n.toNat).flatMap fun _ => zv.cells.toList.map SV.v, _, ?_, upd_same _ _ _, rfl, heap_alloc_new' w.drew _, ?_⟩⟩
    · rw [List.singleton_append, getH_upd, upd_same] at hc'
      cases hc'
      rw [show X.P.cellsOf e = i.size from by simp [Program.cellsOf, hi], length_flatMap_const, List.length_map, Array.length_toList, hsz, Nat.zero_add]
      exact Nat.mul_le_mul_right _ hcap
    · rw [List.singleton_append, getH_upd, upd_same]
    · rw [hasz, show X.P.cellsOf e = i.size from by simp [Program.cellsOf, hi]]; omega
/-- What such an operation does. -/
def opX (P : Program) (fr : Fr) (hp : Hp) (nx : Nat) (o : Op) : Option Eff := match o with
  | .binOp op t x y _ => match y with
    | .const (.slice none 0 0) => bif isEq op then match P.underlying t with
      | some (.slice _) => match evS true fr x with
        | .own k _ n => bif Nat.blt 0 n && (getH hp k).live then some ⟨.v (.bool (isNeg op)), [], nx, [k.key]⟩ else none
        | .sl n _ => bif Nat.blt 0 n then some ⟨.v (.bool (isNeg op)), [], nx, []⟩ else none
        | .v (.slice none 0 0) => some ⟨.v (.bool (!isNeg op)), [], nx, []⟩
        | _ => none
      | _ => none
      else none
    | _ => none
  | .buildSlice t 0 ⟨[]⟩ => match sliceT P t with
    | some (e, _) => some ⟨.own nx 0 0, [(Nm.t nx, .row e [])], nx + 1, []⟩
    | none => none
  | .call c => match c with
    | ⟨.builtin .cap, ⟨[x]⟩, ⟨[t]⟩⟩ => match P.underlying t, evS true fr x with
      | some (.slice _), .v (.slice none 0 0) => some ⟨.v (.int .i64 0), [], nx, []⟩
      | _, _ => none
    | ⟨.builtin .append, ⟨[x, y]⟩, ⟨[t, tn]⟩⟩ => match sliceT P t, P.underlying tn, evS true fr x, evS true fr y with
      | some (e, z), some (.int _), .v (.slice none 0 0), .v (.int _ n) => match zeroT P e with
        | some zs => bif decide (0 < n) && (zs.length == z && (Nat.blt 0 z && (Nat.blt 0 (P.bytesOf e) && Nat.ble (n.toNat * P.bytesOf e) 140737488355328))) then some ⟨.own nx 0 n.toNat, [(Nm.t nx, .row e ((List.range n.toNat).flatMap fun _ => zs))], nx + 1, []⟩ else none
        | none => none
      | _, _, _, _ => none
    | _ => none
  | _ => none
theorem opX_ok {o : Oper} {e : Eff} (h : opX P fr hp nx o.op = some e) : nx ≤ e.nx ∧ SemW P o fr hp nx (EqEff e) := by
  unfold opX at h
  split at h
  · rename_i op t x y u ho
    split at h
    · rw [Bool.cond_eq_ite] at h
      split at h
      · rename_i he
        split at h
        · rename_i el hu
          split at h
          · rename_i k off n hx
            rw [Bool.cond_eq_ite] at h
            split at h
            · rename_i hb
              simp only [Bool.and_eq_true, Nat.blt_eq] at hb
              cases h
              exact ⟨Nat.le_refl _, sem_nil ho he hu (.inl ⟨k, off, n, hx, hb.1, hb.2, rfl, rfl⟩)⟩
            · cases h
          · rename_i n cs hx
            rw [Bool.cond_eq_ite] at h
            split at h
            · rename_i hb
              rw [Nat.blt_eq] at hb
              cases h
              exact ⟨Nat.le_refl _, sem_nil ho he hu (.inr (.inl ⟨n, cs, hx, hb, rfl, rfl⟩))⟩
            · cases h
          · rename_i hx
            cases h
            exact ⟨Nat.le_refl _, sem_nil ho he hu (.inr (.inr ⟨hx, rfl, rfl⟩))⟩
          · cases h
        · cases h
      · cases h
    · cases h
  · rename_i t ho
    split at h
    · rename_i e1 z hst
      cases h
      exact ⟨Nat.le_succ _, sem_mk0 ho hst⟩
    · cases h
  · rename_i c ho
    split at h
    · rename_i x t
      split at h
      · rename_i hu hx
        cases h
        exact ⟨Nat.le_refl _, sem_cap0 ho hu hx⟩
      · cases h
    · rename_i x y t tn
      split at h
      · rename_i el z kn kq n h1 h2 h3 h4
        split at h
        · rename_i zs hz
          rw [Bool.cond_eq_ite] at h
          split at h
          · rename_i hb
            simp only [Bool.and_eq_true, decide_eq_true_eq, beq_iff_eq, Nat.blt_eq] at hb
            obtain ⟨b1, b2, b3, b4, b5⟩ := hb
            cases h
            exact ⟨Nat.le_succ _, sem_app0 ho h1 h2 h3 h4 hz b1 b2 b3 b4 (Nat.le_of_ble_eq_true b5)⟩
          · cases h
        · cases h
      · cases h
    · cases h
  · cases h
end Go.Sx
end

section
namespace Go.Sx
open Go.RowKit
set_option linter.unusedVariables false
set_option linter.unusedSimpArgs false
variable {P : Program} {hp hin : Hp} {nx : Nat}

/-! ### Under other names; what has none is forgotten -/
mutual
def wkV (τ : Nm → Option Nm) : SV → SV
  | .any => .any
  | .v x => .v x
  | .agg xs => .agg (wkL τ xs)
  | .tup xs => .tup (wkL τ xs)
  | .sl n xs => bif clL xs then .sl n xs else .any
  | .own k o n => match τ k with
    | some j => .own j o n
    | none => .any
  | .ptr k o => match τ k with
    | some j => .ptr j o
    | none => .any
  | .iptr xs o => bif clL xs then .iptr xs o else .any
  | .mp k => match τ k with
    | some j => .mp j
    | none => .any
  | .it k => match τ k with
    | some j => .it j
    | none => .any
  | .clo f xs => .clo f (wkL τ xs)
  | .gd g x => bif x.cl then .gd g x else .any
def wkL (τ : Nm → Option Nm) : List SV → List SV
  | [] => []
  | x :: xs => wkV τ x :: wkL τ xs
end
def wkM (τ : Nm → Option Nm) : List (Value × SV) → List (Value × SV)
  | [] => []
  | p :: r => (p.1, wkV τ p.2) :: wkM τ r
def wkC (τ : Nm → Option Nm) : Chunk → Chunk
  | .row e cs => .row e (wkL τ cs)
  | .map es => .map (wkM τ es)
  | .obj s p => .obj s p
  | _ => .dead
theorem wkC_live {τ : Nm → Option Nm} {c : Chunk} (h : c.live = true) : (wkC τ c).live = true := by cases c <;> first | rfl | cases h
def TauOk (τ : Nm → Option Nm) (σ : List (Nm × Nm)) (hin : Hp) : Prop := ∀ k j, τ k = some j → getN σ j = some k ∧ (getH hin j).live = true
mutual
theorem wk_le {τ : Nm → Option Nm} {σ : List (Nm × Nm)} (H : TauOk τ σ hin) : ∀ s : SV, leS hp hin σ [] s (wkV τ s)
  | .any => by simp only [wkV, leS]
  | .v x => by simp only [wkV, leS]
  | .agg xs => by simp only [wkV, leS]; exact .inr (wkL_le H xs)
  | .tup xs => by simp only [wkV, leS]; exact wkL_le H xs
  | .sl n xs => by
    simp only [wkV]
    cases h : clL xs with
    | true => simp only [cond_true, leS]; exact ⟨trivial, trivial, h⟩
    | false => simp only [cond_false, leS]
  | .own k o n => by
    simp only [wkV]
    cases h : τ k with
    | none => simp only [leS]
    | some j => simp only [leS]; exact ⟨(H k j h).1, trivial, trivial, (H k j h).2⟩
  | .ptr k o => by
    simp only [wkV]
    cases h : τ k with
    | none => simp only [leS]
    | some j => simp only [leS]; exact ⟨(H k j h).1, trivial, (H k j h).2⟩
  | .iptr xs o => by
    simp only [wkV]
    cases h : clL xs with
    | true => simp only [cond_true, leS]; exact ⟨trivial, trivial, h⟩
    | false => simp only [cond_false, leS]
  | .mp k => by
    simp only [wkV]
    cases h : τ k with
    | none => simp only [leS]
    | some j => simp only [leS]; exact H k j h
  | .it k => by
    simp only [wkV]
    cases h : τ k with
    | none => simp only [leS]
    | some j => simp only [leS]; exact H k j h
  | .clo f xs => by simp only [wkV, leS]; exact ⟨trivial, wkL_le H xs⟩
  | .gd g x => by
    simp only [wkV]
    cases h : x.cl with
    | true => simp only [cond_true, leS]; exact ⟨trivial, h⟩
    | false => simp only [cond_false, leS]
theorem wkL_le {τ : Nm → Option Nm} {σ : List (Nm × Nm)} (H : TauOk τ σ hin) : ∀ xs : List SV, leL hp hin σ [] xs (wkL τ xs)
  | [] => by simp only [wkL, leL]
  | x :: xs => by simp only [wkL, leL]; exact ⟨wk_le H x, wkL_le H xs⟩
end
mutual
theorem wk_st {τ : Nm → Option Nm} : ∀ s : SV, (wkV τ s).st = true → wkV τ s = s
  | .any, h => rfl
  | .v x, h => rfl
  | .agg xs, h => by simp only [wkV]; rw [wkL_st xs (by simpa only [wkV, SV.st] using h)]
  | .tup xs, h => by simp only [wkV]; rw [wkL_st xs (by simpa only [wkV, SV.st] using h)]
  | .sl n xs, h => by
    simp only [wkV] at h ⊢
    cases hc : clL xs with
    | true => rfl
    | false => rw [hc] at h; cases h
  | .own k o n, h => by
    simp only [wkV] at h ⊢
    cases hc : τ k with
    | none => rw [hc] at h; cases h
    | some j => rw [hc] at h; cases h
  | .ptr k o, h => by
    simp only [wkV] at h ⊢
    cases hc : τ k with
    | none => rw [hc] at h; cases h
    | some j => rw [hc] at h; cases h
  | .iptr xs o, h => by
    simp only [wkV] at h ⊢
    cases hc : clL xs with
    | true => rfl
    | false => rw [hc] at h; cases h
  | .mp k, h => by
    simp only [wkV] at h ⊢
    cases hc : τ k with
    | none => rw [hc] at h; cases h
    | some j => rw [hc] at h; cases h
  | .it k, h => by
    simp only [wkV] at h ⊢
    cases hc : τ k with
    | none => rw [hc] at h; cases h
    | some j => rw [hc] at h; cases h
  | .clo f xs, h => by simp only [wkV]; rw [wkL_st xs (by simpa only [wkV, SV.st] using h)]
  | .gd g x, h => by
    simp only [wkV] at h ⊢
    cases hc : x.cl with
    | true => rfl
    | false => rw [hc] at h; cases h
theorem wkL_st {τ : Nm → Option Nm} : ∀ xs : List SV, stL (wkL τ xs) = true → wkL τ xs = xs
  | [], _ => rfl
  | x :: xs, h => by
    simp only [wkL, stL, Bool.and_eq_true] at h
    simp only [wkL]; rw [wk_st x h.1, wkL_st xs h.2]
end
theorem wkM_st {τ : Nm → Option Nm} : ∀ es : List (Value × SV), stM (wkM τ es) = true → wkM τ es = es
  | [], _ => rfl
  | p :: r, h => by
    simp only [wkM, stM, Bool.and_eq_true] at h
    simp only [wkM]; rw [wk_st p.2 h.1, wkM_st r h.2]
theorem wkM_le {τ : Nm → Option Nm} {σ : List (Nm × Nm)} (H : TauOk τ σ hin) : ∀ es : List (Value × SV), leM hp hin σ [] es (wkM τ es)
  | [] => by simp only [wkM, leM]
  | p :: r => by simp only [wkM, leM]; exact ⟨trivial, wk_le H p.2, wkM_le H r⟩
theorem wkC_le {τ : Nm → Option Nm} {σ : List (Nm × Nm)} (H : TauOk τ σ hin) {j k : Nm} (hj : getN σ j = some k) : leC1 hp hin σ [] j (wkC τ (getH hp k)) := by
  cases hc : getH hp k with
  | row e cs =>
    simp only [wkC, leC1]; rw [hj]; simp only; rw [hc]
    exact ⟨rfl, .inr (.inl (wkL_le H cs))⟩
  | map es =>
    simp only [wkC, leC1]; rw [hj]; simp only; rw [hc]
    simp only
    cases hs : stM (wkM τ es) with
    | true => simp only [cond_true]; exact (wkM_st es hs).symm
    | false => simp only [cond_false]; exact wkM_le H es
  | obj s p => simp only [wkC, leC1]; rw [hj]; exact hc
  | _ => simp only [wkC, leC1]

/-! ### What can be reached -/
mutual
def namesV : SV → List Nm
  | .agg xs => namesVL xs
  | .tup xs => namesVL xs
  | .own k _ _ => [k]
  | .ptr k _ => [k]
  | .mp k => [k]
  | .it k => [k]
  | .clo _ xs => namesVL xs
  | _ => []
def namesVL : List SV → List Nm
  | [] => []
  | x :: xs => namesV x ++ namesVL xs
end
def namesM : List (Value × SV) → List Nm
  | [] => []
  | p :: r => namesV p.2 ++ namesM r
def namesCh : Chunk → List Nm
  | .row _ cs => namesVL cs
  | .map es => namesM es
  | _ => []
def closeN (hp : Hp) : Nat → List Nm → List Nm → List Nm
  | 0, _, R => R
  | _ + 1, [], R => R
  | n + 1, k :: todo, R => bif (R.any fun j => j == k) || !(getH hp k).live then closeN hp n todo R else closeN hp n (namesCh (getH hp k) ++ todo) (R ++ [k])
def numN : Nat → List Nm → List (Nm × Nm)
  | _, [] => []
  | b, k :: r => (.t b, k) :: numN (b + 1) r
def selfN : List Nm → List (Nm × Nm)
  | [] => []
  | k :: r => (k, k) :: selfN r
def oldN : List (Nm × Nm) → Nm → Option Nm
  | [], _ => none
  | p :: r, k => bif p.2 == k then some p.1 else oldN r k
def isT : Nm → Bool
  | .t _ => true
  | _ => false
def tauN (pr : List (Nm × Nm)) (hp : Hp) (k : Nm) : Option Nm := match oldN pr k with
  | some j => bif (getH hp k).live && (isT j && getN pr j == some k) then some j else none
  | none => none
def hinN (τ : Nm → Option Nm) (hp : Hp) : List (Nm × Nm) → Hp
  | [] => []
  | p :: r => (p.1, wkC τ (getH hp p.2)) :: hinN τ hp r
def prOk (pr : List (Nm × Nm)) : Bool := pr.all fun p => isT p.1 && getN pr p.1 == some p.2
theorem hin_get (τ : Nm → Option Nm) (hp : Hp) {j k : Nm} (hj : isT j = true) : ∀ {pr : List (Nm × Nm)}, getN pr j = some k → getH (hinN τ hp pr) j = wkC τ (getH hp k)
  | [], h => by cases h
  | p :: r, h => by
    obtain ⟨a, b⟩ := p
    simp only [hinN, getH]
    rw [getN_cons] at h
    cases j with
    | s F i => cases hj
    | t x =>
      cases he : a.eqk (.t x) with
      | true => rw [he] at h; simp only [cond_true, Option.some.injEq, Nm.to] at h; subst h; simp only [cond_true, Chunk.mem]
      | false => rw [he] at h; simp only [cond_false] at h ⊢; exact hin_get τ hp hj h
theorem tau_ok (pr : List (Nm × Nm)) (hp : Hp) : TauOk (tauN pr hp) pr (hinN (tauN pr hp) hp pr) := fun k j h => by
  unfold tauN at h
  split at h
  · rename_i j' hj'
    rw [Bool.cond_eq_ite] at h
    split at h
    · rename_i hb
      simp only [Bool.and_eq_true, beq_iff_eq] at hb
      obtain ⟨hl, ht, hn⟩ := hb
      cases h
      refine ⟨hn, ?_⟩
      rw [hin_get _ hp ht hn]; exact wkC_live hl
    · cases h
  · cases h
theorem hin_le {τ : Nm → Option Nm} {σ : List (Nm × Nm)} (H : TauOk τ σ hin) : ∀ pr : List (Nm × Nm), (∀ p ∈ pr, isT p.1 = true ∧ getN σ p.1 = some p.2) → leH hp hin σ [] (hinN τ hp pr)
  | [], _ => trivial
  | p :: r, h => by
    refine ⟨?_, hin_le H r fun q hq => h q (by simp [hq])⟩
    obtain ⟨h1, h2⟩ := h p (by simp)
    have := wkC_le (hp := hp) H h2
    cases hp1 : p.1 with
    | s F i => rw [hp1] at h1; cases h1
    | t a => rw [hp1] at this; exact this
theorem hin_le' {pr : List (Nm × Nm)} {hp : Hp} (h : prOk pr = true) : leH hp (hinN (tauN pr hp) hp pr) pr [] (hinN (tauN pr hp) hp pr) := hin_le (tau_ok pr hp) pr fun p hp => by
  have := List.all_eq_true.1 h p hp
  simpa only [Bool.and_eq_true, beq_iff_eq] using this

/-! ### Side conditions -/
def srcC (P : Program) (tx : TypeId) (z : Nat) (y : SV) (hp : Hp) : Option (Nat × List SV × Bool) := match y with
  | .own k off m => match getH hp k with
    | .row _ cs => some (m, appCells cs off (m * z), Nat.ble (off + m * z) cs.length)
    | _ => none
  | .sl m cs => some (m, cs, cs.length == m * z)
  | .v (.slice none 0 0) => some (0, [], true)
  | .v (.string s) => some (s.size, byteS s, z == 1)
  | _ => none
def appC (P : Program) (t tx : TypeId) (x y : SV) (hp : Hp) : Bool := match sliceT P t with
  | some (e, z) => match srcC P tx z y hp with
    | some (m, news, b) => match x with
      | .own k off n => match getH hp k with
        | .row e' cs => b && (e' == e && (news.length == m * z && (news.all oneS && (Nat.ble (off + n * z) cs.length && (Nat.blt 0 (P.bytesOf e) && Nat.ble ((n + m) * P.bytesOf e) 140737488355328)))))
        | _ => false
      | .v (.slice none 0 0) => b && (news.length == m * z && (news.all oneS && (Nat.blt 0 (P.bytesOf e) && Nat.ble (m * P.bytesOf e) 140737488355328)))
      | _ => false
    | none => false
  | none => false
theorem src_side {tx : TypeId} {z : Nat} {y : SV} {f : Nat → List SV → List Nm → Prop → Res} {s : Prop} {e : Eff} (h : srcS P tx z y hp f = .ok s e) {m : Nat} {news : List SV} {b : Bool} (hb : srcC P tx z y hp = some (m, news, b)) :
    ∃ rds s0, f m news rds s0 = .ok s e ∧ (b = true → s0) := by
  unfold srcS at h
  unfold srcC at hb
  split at h
  · split at h
    · obtain ⟨t, cs, hk, hf⟩ := rowS_ok h
      simp only [hk, Option.some.injEq, Prod.mk.injEq] at hb
      obtain ⟨rfl, rfl, rfl⟩ := hb
      exact ⟨_, _, hf, fun hb => Nat.le_of_ble_eq_true hb⟩
    · cases h
  · split at h
    · simp only [Option.some.injEq, Prod.mk.injEq] at hb
      obtain ⟨rfl, rfl, rfl⟩ := hb
      exact ⟨_, _, h, fun hb => by simpa using hb⟩
    · cases h
  · split at h
    · simp only [Option.some.injEq, Prod.mk.injEq] at hb
      obtain ⟨rfl, rfl, rfl⟩ := hb
      exact ⟨_, _, h, fun _ => trivial⟩
    · cases h
  · split at h
    · simp only [Option.some.injEq, Prod.mk.injEq] at hb
      obtain ⟨rfl, rfl, rfl⟩ := hb
      exact ⟨_, _, h, fun hb => by simpa using hb⟩
    · cases h
  · cases h
theorem app_side {t tx : TypeId} {x y : SV} {s : Prop} {e : Eff} (h : appendS P t tx x y hp nx = .ok s e) (hb : appC P t tx x y hp = true) : s := by
  unfold appendS at h
  unfold appC at hb
  cases ht : sliceT P t with
  | none => rw [ht] at h; cases h
  | some ez =>
    obtain ⟨e1, z⟩ := ez
    rw [ht] at h hb
    simp only at h hb
    cases hs : srcC P tx z y hp with
    | none => rw [hs] at hb; cases hb
    | some q =>
      obtain ⟨m, news, b⟩ := q
      rw [hs] at hb
      simp only at hb
      obtain ⟨rds, s0, hf, h0⟩ := src_side h hs
      split at hf
      · obtain ⟨t', cs, hk, hf2⟩ := rowS_ok hf
        simp only [hk] at hb
        cases hf2
        simp only [Bool.and_eq_true, beq_iff_eq, Nat.blt_eq] at hb
        obtain ⟨b1, b2, b3, b4, b5, b6, b7⟩ := hb
        exact ⟨h0 b1, b2, b3, b4, Nat.le_of_ble_eq_true b5, b6, Nat.le_of_ble_eq_true b7⟩
      · cases hf
        simp only [Bool.and_eq_true, beq_iff_eq, Nat.blt_eq] at hb
        obtain ⟨b1, b3, b4, b6, b7⟩ := hb
        exact ⟨h0 b1, b3, b4, b6, Nat.le_of_ble_eq_true b7⟩
      · cases hf
def sliceC (P : Program) (t : TypeId) (x : SV) (lo hi : Option SV) (hp : Hp) : Bool := match x with
  | .own k off n => match boundS lo 0, boundS hi n, sliceT P t with
    | some l, some h, some (_, z) => match getH hp k with
      | .row e _ => P.cellsOf e == z && (decide (0 ≤ l) && (decide (l ≤ h) && decide (h ≤ n)))
      | _ => false
    | _, _, _ => false
  | .sl n _ => match boundS lo 0, boundS hi n with
    | some l, some h => decide (0 ≤ l) && (decide (l ≤ h) && decide (h ≤ n))
    | _, _ => false
  | .v (.slice none 0 0) => match boundS lo 0, boundS hi 0 with
    | some l, some h => l == 0 && h == 0
    | _, _ => false
  | .v (.string s) => match boundS lo 0, boundS hi s.size with
    | some l, some h => decide (0 ≤ l) && (decide (l ≤ h) && decide (h ≤ s.size))
    | _, _ => false
  | _ => false
theorem slice_side {t : TypeId} {x : SV} {lo hi : Option SV} {s : Prop} {e : Eff} (h : sliceS P t x lo hi hp nx = .ok s e) (hb : sliceC P t x lo hi hp = true) : s := by
  unfold sliceS at h
  unfold sliceC at hb
  split at h
  · split at h
    · rename_i h1 h2 h3
      simp only [h1, h2, h3] at hb
      obtain ⟨t', cs, hk, hf2⟩ := rowS_ok h
      simp only [hk, Bool.and_eq_true, beq_iff_eq, decide_eq_true_eq] at hb
      cases hf2
      exact hb
    · cases h
  · split at h
    · rename_i h1 h2 h3
      simp only [h1, h2, Bool.and_eq_true, decide_eq_true_eq] at hb
      cases h
      exact hb
    · cases h
  · split at h
    · rename_i h1 h2 h3
      simp only [h1, h2, Bool.and_eq_true, beq_iff_eq] at hb
      cases h
      exact hb
    · cases h
  · split at h
    · rename_i h1 h2 h3
      simp only [h1, h2, Bool.and_eq_true, decide_eq_true_eq] at hb
      cases h
      exact hb
    · cases h
  · cases h
def mapKC (P : Program) (t : TypeId) (x key : SV) (hp : Hp) : Bool := match x, key, mapT P t with
  | .mp k, .v kv, some (d, _) => match getH hp k with
    | .map es => keyOk d kv && es.all (fun p => keyAlike kv p.1)
    | _ => false
  | _, _, _ => false
theorem look_side {t : TypeId} {x key : SV} {ok : Bool} {s : Prop} {e : Eff} (h : lookupS P t x key ok hp nx = .ok s e) (hb : mapKC P t x key hp = true) : s := by
  unfold lookupS at h
  unfold mapKC at hb
  split at h
  · rename_i h3
    simp only [h3] at hb
    split at h
    · obtain ⟨es, hk, hf⟩ := mapC_ok h
      simp only [hk, Bool.and_eq_true] at hb
      cases hf
      exact hb
    · cases h
  · cases h
theorem mupd_side {t : TypeId} {x key v : SV} {s : Prop} {e : Eff} (h : mapUpdS P t x key v hp nx = .ok s e) (hb : mapKC P t x key hp = true) : s := by
  unfold mapUpdS at h
  unfold mapKC at hb
  split at h
  · rename_i h3
    simp only [h3] at hb
    obtain ⟨es, hk, hf⟩ := mapC_ok h
    simp only [hk, Bool.and_eq_true] at hb
    cases hf
    exact hb
  · cases h
def mkC (P : Program) (t : TypeId) (l c : SV) : Bool := match l, c, sliceT P t with
  | .v (.int _ n), .v (.int _ m), some (e, z) => match zeroT P e with
    | some zs => decide (0 ≤ n) && (decide (n ≤ m) && (decide (m ≤ 4611686018427387904) && (decide ((P.bytesOf e : Int) * m ≤ 140737488355328) && (zs.length == z && Nat.blt 0 z))))
    | none => false
  | _, _, _ => false
theorem mk_side {t : TypeId} {l c : SV} {s : Prop} {e : Eff} (h : makeSliceS P t l c nx = .ok s e) (hb : mkC P t l c = true) : s := by
  unfold makeSliceS at h
  unfold mkC at hb
  split at h
  · rename_i h3
    simp only [h3] at hb
    split at h
    · rename_i h4
      simp only [h4, Bool.and_eq_true, decide_eq_true_eq, beq_iff_eq, Nat.blt_eq] at hb
      cases h
      exact hb
    · cases h
  · cases h
def convC (P : Program) (s d : TypeId) (x : SV) (hp : Hp) : Bool := match x with
  | .v (.int _ _) => true
  | .v (.string b) => (match P.underlying d with
    | some .string => true
    | _ => Nat.ble (runesOf b).length 70368744177664)
  | x => match srcC P s 1 x hp with
    | some (m, news, b) => b && news.length == m * 1
    | none => false
theorem conv_side {t d : TypeId} {x : SV} {s : Prop} {e : Eff} (h : convS P t d x hp nx = .ok s e) (hb : convC P t d x hp = true) : s := by
  unfold convS at h
  split at h
  · split at h
    · exact pureR_s h
    · cases h
  · split at h
    · exact pureR_s h
    · rename_i hn h1 h2
      split at h
      · rename_i h3 h4
        cases h
        simp only [convC, h2] at hb
        exact Nat.le_of_ble_eq_true hb
      · cases h
    · cases h
  · rename_i hx1 hx2
    have hc : convC P t d x hp = match srcC P t 1 x hp with
      | some (m, news, b) => b && news.length == m * 1
      | none => false := by
      unfold convC
      split
      · exact absurd rfl (hx1 _ _)
      · exact absurd rfl (hx2 _)
      · rfl
    rw [hc] at hb
    cases hs : srcC P t 1 x hp with
    | none => rw [hs] at hb; cases hb
    | some q =>
      obtain ⟨m, news, b⟩ := q
      rw [hs] at hb
      simp only [Bool.and_eq_true, beq_iff_eq] at hb
      unfold strS' at h
      split at h
      · split at h
        · obtain ⟨rds, s0, hf, h0⟩ := src_side h hs
          simp only [Bool.cond_eq_ite] at hf
          split at hf
          · cases hf; exact ⟨h0 hb.1, hb.2⟩
          · cases hf
        · obtain ⟨rds, s0, hf, h0⟩ := src_side h hs
          simp only [Bool.cond_eq_ite] at hf
          split at hf
          · cases hf; exact ⟨h0 hb.1, hb.2⟩
          · cases hf
        · cases h
      · cases h
def sideC (P : Program) (fr : Fr) (hp : Hp) (o : Op) : Bool := match o with
  | .convert s d x => convC P s d (evS true fr x) hp
  | .slice t x lo hi none => sliceC P t (evS true fr x) (lo.map (evS true fr)) (hi.map (evS true fr)) hp
  | .lookup t x i _ => mapKC P t (evS true fr x) (evS true fr i) hp
  | .mapUpdate t m k _ => mapKC P t (evS true fr m) (evS true fr k) hp
  | .insert t m k _ => mapKC P t (evS true fr m) (evS true fr k) hp
  | .makeSlice t l c => mkC P t (evS true fr l) (evS true fr c)
  | .range _ _ => true
  | .next _ _ => true
  | .slice t x none (some hh) (some m) => (match evS true fr hh, evS true fr m with
    | .v (.int _ a), .v (.int _ b) => a == 0 && b == 0
    | _, _ => false)
  | .binOp op t x y q => (match evS true fr x, evS true fr y with
    | .v (.string a), .v (.string b) => Nat.ble (a.size + b.size) 9223372036854775807
    | _, _ => sideOk P true fr hp (.binOp op t x y q))
  | .index t x i => (match evS true fr x, evS true fr i with
    | .v (.string s), .v (.int _ n) => decide (0 ≤ n) && decide (n < s.size)
    | _, _ => sideOk P true fr hp (.index t x i))
  | .call c => (match c.callee with
    | .builtin .append => (match c.args.toList, c.argTypes.toList with
      | [x, y], [t, tx] => appC P t tx (evS true fr x) (evS true fr y) hp
      | _, _ => false)
    | _ => sideOk P true fr hp (.call c))
  | o => sideOk P true fr hp o
theorem sideC_ok {fr : Fr} {ty : TypeId} {o : Op} {s : Prop} {e : Eff} (h : opS P true fr hp nx ty o = .ok s e) (hb : sideC P fr hp o = true) : s := by
  unfold sideC at hb
  split at hb
  · exact conv_side (by simpa only [opS] using h) hb
  · exact slice_side (by simpa only [opS] using h) hb
  · exact look_side (by simpa only [opS] using h) hb
  · exact mupd_side (by simpa only [opS] using h) hb
  · exact mupd_side (by simpa only [opS] using h) hb
  · exact mk_side (by simpa only [opS] using h) hb
  · simp only [opS] at h
    unfold rangeS at h
    split at h
    · split at h
      · cases h; trivial
      · cases h
    · cases h
  · simp only [opS] at h
    unfold nextS at h
    rw [Bool.cond_eq_ite] at h
    split at h
    · split at h
      · obtain ⟨t, pos, hk, hf⟩ := itC_ok h
        simp only [Bool.cond_eq_ite] at hf
        split at hf <;> (cases hf; trivial)
      · cases h
    · cases h
  · simp only [opS] at h
    unfold slice0S at h
    split at hb
    · rename_i h1 h2
      simp only [h1, h2] at h
      simp only [Bool.and_eq_true, beq_iff_eq] at hb
      split at h
      · rename_i h3 h4 h5
        cases h4; cases h5
        split at h
        · have := (liveS_ok h).2; cases this; exact hb
        · cases h; exact hb
        · cases h; exact hb
        · cases h
      · cases h
    · cases hb
  · split at hb
    · rename_i h1 h2
      simp only [opS, binOpS, h1, h2] at h
      unfold strS at h
      split at h <;> first | exact pureR_s h | (cases h; exact Nat.le_of_ble_eq_true hb) | cases h
    · exact sideOk_ok h hb
  · split at hb
    · rename_i h1 h2
      simp only [opS, indexS, h1, h2] at h
      simp only [Bool.and_eq_true, decide_eq_true_eq] at hb
      split at h
      · cases h; exact hb
      · cases h
    · exact sideOk_ok h hb
  · split at hb
    · rename_i hcal
      simp only [opS, hcal] at h
      split at hb
      · rename_i h1 h2
        simp only [h1, h2] at h
        split at h
        · rw [Bool.cond_eq_ite] at h
          split at h
          · exact app_side h hb
          · cases h
        · cases h
      · cases hb
    · exact sideOk_ok h hb
  · exact sideOk_ok h hb

/-! ### Reckoning -/
/-- A call: what is handed over, and what comes back. -/
def ceCall (call : FuncId → List SV → Hp → Nat → Option (SV × Hp × Nat)) (f : FuncId) (args : List SV) (hp : Hp) (nx : Nat) : Option (SV × Hp × Nat × List Nm) :=
  ceCall1 call f args hp nx (numN 0 (closeN hp 100000 (namesVL args) []))
where ceCall1 (call : FuncId → List SV → Hp → Nat → Option (SV × Hp × Nat)) (f : FuncId) (args : List SV) (hp : Hp) (nx : Nat) (pr : List (Nm × Nm)) : Option (SV × Hp × Nat × List Nm) :=
  bif prOk pr && (okN 0 pr [] && (okH 0 pr.length pr (hinN (tauN pr hp) hp pr) && okC pr.length (hinN (tauN pr hp) hp pr) pr)) then
    match call f (wkL (tauN pr hp) args) (hinN (tauN pr hp) hp pr) pr.length with
    | some (x, h, n) => bif wfH h then some (renS (bck (getN pr) nx) x, back (getN pr) nx pr.length h hp, nx + n, passK (getN pr) pr.length) else none
    | none => none
  else none
def CallOk (P : Program) (call : FuncId → List SV → Hp → Nat → Option (SV × Hp × Nat)) : Prop := ∀ f args hin m x h n, call f args hin m = some (x, h, n) → SpecW P f args hin m (fun r h' n' => r = x ∧ h' = h ∧ n' = n)
theorem fam_numT {hp hin : Hp} : ∀ {pr : List (Nm × Nm)}, (∀ p ∈ pr, isT p.1 = true) → famOk hp hin pr
  | [], _ => trivial
  | p :: r, h => by
    have h1 := h p (by simp)
    refine ⟨?_, fam_numT fun q hq => h q (by simp [hq])⟩
    cases hp1 : p.1 with
    | t a => trivial
    | s F i => rw [hp1] at h1; cases h1
theorem ceCall_ok {call : FuncId → List SV → Hp → Nat → Option (SV × Hp × Nat)} (hc : CallOk P call) {d : Bool} {f : FuncId} {args : List SV} {K : SV → Hp → Nat → List Nm → Prop} {v : SV} {u : Hp} {n' : Nat} {ks : List Nm} (h : ceCall call f args hp nx = some (v, u, n', ks)) (hk : K v u n' ks) : CallW d P f args hp nx K := by
  unfold ceCall at h
  generalize numN 0 (closeN hp 100000 (namesVL args) []) = pr at h
  unfold ceCall.ceCall1 at h
  rw [Bool.cond_eq_ite] at h
  split at h
  · rename_i hb
    simp only [Bool.and_eq_true] at hb
    obtain ⟨b1, b2, b3, b4⟩ := hb
    split at h
    · rename_i x h' n he
      rw [Bool.cond_eq_ite] at h
      split at h
      · rename_i hw
        cases h
        have spec := hc _ _ _ _ _ _ _ he
        have hT : ∀ p ∈ pr, isT p.1 = true := fun p hp => by
          have := List.all_eq_true.1 b1 p hp
          simp only [Bool.and_eq_true] at this
          exact this.1
        have hok := handed_ok b4 (fam_numT (hp := hp) hT)
        obtain ⟨l1, l2⟩ := leL_get (wkL_le (hp := hp) (tau_ok pr hp) args)
        refine ⟨_, _, pr.length, _, getN pr, [], spec, sub_mk (hin_le' b1) b2, getN_sig pr, fun k hk => ⟨?_, okH_fresh b3 k hk⟩, ?_, fun k j hk => (hok k j hk).2, l1, fun i y z hy hz => leS_sound (l2 i y z hy hz), ⟨x, h', n, rfl, rfl, rfl⟩, fun _ => ?_, ?_⟩
        · cases hn : getN pr k with
          | none => rfl
          | some j => have := (hok k j hn).1; omega
        · simp only [okN, Bool.and_eq_true] at b2
          exact nodupN_inj b2.1.1 b2.1.2
        · rintro r1 h1 n1 r2 h2 n2 ⟨rfl, rfl, rfl⟩ ⟨rfl, rfl, rfl⟩; exact ⟨rfl, rfl, rfl⟩
        · rintro res hp' nx' ⟨rfl, rfl, rfl⟩
          exact ⟨hw, .inl rfl, by simpa using hk⟩
      · cases h
    · cases h
  · cases h
/-- A region's operations. -/
def ceOps (P : Program) (call : FuncId → List SV → Hp → Nat → Option (SV × Hp × Nat)) (d : Bool) (ops : Array Oper) : List Oper → Fr → Hp → Nat → List Nms → Option (Fr × Hp × Nat × List Nms)
  | [], fr, hp, nx, acc => some (fr, hp, nx, acc)
  | o :: rest, fr, hp, nx, acc => match doneS ops fr o with
    | none => none
    | some false => ceOps P call d ops rest (putF o.dst (skipV P o.op) fr) hp (bif d then nx + 1 else nx) (acc ++ [⟨[], [], nx, nx⟩])
    | some true => match callOf true fr o.op with
      | some c => match ceCall call c.1 c.2 hp nx with
        | some (v, u, n', ks) => ceOps P call d ops rest (putF o.dst v fr) (u ++ hp) (bif d then n' + 1 else n') (acc ++ [⟨u.map (·.1.key), ks, nx, n'⟩])
        | none => none
      | none => match opS P true fr hp nx o.type o.op with
        | .bad => match o.guard, opX P fr hp nx o.op with
          | none, some ⟨val, upd, nx', rds⟩ => ceOps P call d ops rest (putF o.dst val fr) (upd ++ hp) (bif d then nx' + 1 else nx') (acc ++ [⟨upd.map (·.1.key), rds, nx, nx'⟩])
          | _, _ => none
        | .ok _ ⟨val, upd, nx', rds⟩ => bif sideC P fr hp o.op && !quietBad P o nx ⟨val, upd, nx', rds⟩ then
            ceOps P call d ops rest (putF o.dst (wrapV P o val) fr) (upd ++ hp) (bif d then nx' + 1 else nx') (acc ++ [⟨upd.map (·.1.key), rds, nx, nx'⟩])
          else match o.guard, opX P fr hp nx o.op with
          | none, some ⟨val, upd, nx', rds⟩ => ceOps P call d ops rest (putF o.dst val fr) (upd ++ hp) (bif d then nx' + 1 else nx') (acc ++ [⟨upd.map (·.1.key), rds, nx, nx'⟩])
          | _, _ => none
theorem stepW_call {dt : Bool} {ops : Array Oper} {o : Oper} {fr : Fr} {c : FuncId × List SV} {K2 : SV → Hp → Nat → List Nm → Prop} (hd : doneS ops fr o = some true) (hc : callOf true fr o.op = some c) (hk : CallW dt P c.1 c.2 hp nx K2) : stepW dt P ops o fr hp nx K2 := by
  have hq : quietP P o.op = false := by unfold quietP; rw [quietS_call hc]; rfl
  unfold stepW
  unfold doneS at hd
  cases hg : o.guard with
  | none => simp only; unfold coreW; rw [hc]; exact hk
  | some jw =>
    rw [hg] at hd
    simp only at hd ⊢
    rw [hd]
    simp only [hq, cond_false]
    refine ⟨fun _ => ?_, (fun he => by cases he)⟩
    unfold coreW; rw [hc]; exact hk
theorem stepW_x {dt : Bool} {ops : Array Oper} {o : Oper} {fr : Fr} {K : SV → Hp → Nat → List Nm → Prop} {v : SV} {u : Hp} {n : Nat} {r : List Nm} (hg : o.guard = none) (hc : callOf true fr o.op = none) (hx : opX P fr hp nx o.op = some ⟨v, u, n, r⟩) (hk : K v u n r) : stepW dt P ops o fr hp nx K := by
  obtain ⟨h1, h2⟩ := opX_ok hx
  unfold stepW
  rw [hg]
  simp only
  unfold coreW
  rw [hc]
  refine .inl ⟨rfl, ?_⟩
  cases dt with
  | false => exact h2.mono rfl fun v u n r he => by obtain ⟨rfl, rfl, rfl, rfl⟩ := he; exact hk
  | true => exact ⟨_, h1, hk, h2⟩
theorem ceOps_run {call : FuncId → List SV → Hp → Nat → Option (SV × Hp × Nat)} (hcall : CallOk P call) {ops : Array Oper} {K : Fr → Hp → Nat → Prop} {fr' : Fr} {hp' : Hp} {nx' : Nat} {acc' : List Nms} : ∀ (l : List Oper) (fr : Fr) (hp : Hp) (nx : Nat) (acc : List Nms), ceOps P call false ops l fr hp nx acc = some (fr', hp', nx', acc') → K fr' hp' nx' → runOps P ops l fr hp nx K
  | [], fr, hp, nx, acc, h, hk => by cases h; exact hk
  | o :: rest, fr, hp, nx, acc, h, hk => by
    unfold ceOps at h
    split at h
    · cases h
    · rename_i hd
      exact stepW_skip hd (ceOps_run hcall rest _ _ _ _ h hk)
    · rename_i hd
      split at h
      · rename_i c hc
        split at h
        · rename_i v u n' ks he
          exact stepW_call hd hc (ceCall_ok hcall he (ceOps_run hcall rest _ _ _ _ h hk))
        · cases h
      · rename_i hc
        split at h
        · split at h
          · rename_i hg hx
            exact stepW_x hg hc hx (ceOps_run hcall rest _ _ _ _ h hk)
          · cases h
        · rename_i sd val upd nx2 rds hop
          rw [Bool.cond_eq_ite] at h
          split at h
          · rename_i hq
            simp only [Bool.and_eq_true, Bool.not_eq_true'] at hq
            exact stepW_done hd hc hop (sideC_ok hop hq.1) hq.2 (ceOps_run hcall rest _ _ _ _ h hk)
          · split at h
            · rename_i hg hx
              exact stepW_x hg hc hx (ceOps_run hcall rest _ _ _ _ h hk)
            · cases h
theorem ceOps_draw {call : FuncId → List SV → Hp → Nat → Option (SV × Hp × Nat)} (hcall : CallOk P call) {ops : Array Oper} {K : List Nms → Fr → Hp → Nat → Prop} {fr' : Fr} {hp' : Hp} {nx' : Nat} {acc' : List Nms} : ∀ (l : List Oper) (fr : Fr) (hp : Hp) (nx : Nat) (acc : List Nms), ceOps P call true ops l fr hp nx acc = some (fr', hp', nx', acc') → K acc' fr' hp' nx' → runD P ops l fr hp nx acc K
  | [], fr, hp, nx, acc, h, hk => by cases h; exact hk
  | o :: rest, fr, hp, nx, acc, h, hk => by
    unfold ceOps at h
    split at h
    · cases h
    · rename_i hd
      exact stepW_skip hd (ceOps_draw hcall rest _ _ _ _ h hk)
    · rename_i hd
      split at h
      · rename_i c hc
        split at h
        · rename_i v u n' ks he
          exact stepW_call hd hc (ceCall_ok hcall he (ceOps_draw hcall rest _ _ _ _ h hk))
        · cases h
      · rename_i hc
        split at h
        · split at h
          · rename_i hg hx
            exact stepW_x hg hc hx (ceOps_draw hcall rest _ _ _ _ h hk)
          · cases h
        · rename_i sd val upd nx2 rds hop
          rw [Bool.cond_eq_ite] at h
          split at h
          · rename_i hq
            simp only [Bool.and_eq_true, Bool.not_eq_true'] at hq
            exact stepW_done hd hc hop (sideC_ok hop hq.1) hq.2 (ceOps_draw hcall rest _ _ _ _ h hk)
          · split at h
            · rename_i hg hx
              exact stepW_x hg hc hx (ceOps_draw hcall rest _ _ _ _ h hk)
            · cases h
/-- What was told before is told once. -/
def cmpF : Nat → Fr → Fr
  | 0, fr => fr
  | _ + 1, [] => []
  | n + 1, p :: r => p :: (cmpF n r).filter fun q => !(q.1 == p.1)
def cmpH : Nat → Hp → Hp
  | 0, hp => hp
  | _ + 1, [] => []
  | n + 1, p :: r => p :: (cmpH n r).filter fun q => !(q.1.eqk p.1)
theorem getF_filter (a d : Nat) (h : a ≠ d) : ∀ fr : Fr, getF (fr.filter fun q => !(q.1 == a)) d = getF fr d
  | [] => rfl
  | p :: r => by
    simp only [List.filter]
    cases he : p.1 == a with
    | true =>
      simp only [Bool.not_true, getF]
      rw [getF_filter a d h r]
      have : p.1 = a := by simpa using he
      rw [show (p.1 == d) = false from by simpa using fun e => h (this ▸ e)]; rfl
    | false => simp only [Bool.not_false, getF]; rw [getF_filter a d h r]
theorem cmpF_get : ∀ (n : Nat) (fr : Fr) (d : Nat), getF (cmpF n fr) d = getF fr d
  | 0, fr, d => rfl
  | n + 1, [], d => rfl
  | n + 1, p :: r, d => by
    simp only [cmpF, getF]
    cases he : p.1 == d with
    | true => rfl
    | false => simp only [cond_false]; rw [getF_filter p.1 d (by simpa using he), cmpF_get n r d]
theorem getH_filter (a d : Nm) (h : a.key ≠ d.key) : ∀ hp : Hp, getH (hp.filter fun q => !(q.1.eqk a)) d = getH hp d
  | [] => rfl
  | p :: r => by
    simp only [List.filter]
    cases he : p.1.eqk a with
    | true =>
      simp only [Bool.not_true, getH]
      rw [getH_filter a d h r]
      have : p.1.key = a.key := Nm.eqk_iff.1 he
      rw [Nm.eqk_no (fun e => h (this ▸ e))]; rfl
    | false => simp only [Bool.not_false, getH]; rw [getH_filter a d h r]
theorem cmpH_get : ∀ (n : Nat) (hp : Hp) (d : Nm), getH (cmpH n hp) d = getH hp d
  | 0, hp, d => rfl
  | n + 1, [], d => rfl
  | n + 1, p :: r, d => by
    simp only [cmpH, getH]
    cases he : p.1.eqk d with
    | true => rfl
    | false =>
      simp only [cond_false]
      rw [getH_filter p.1 d (fun e => by rw [Nm.eqk_iff.2 e] at he; cases he), cmpH_get n r d]
theorem cmp_eq (a b : Nat) (fr : Fr) (hp : Hp) : EqSt fr (cmpF a fr) hp (cmpH b hp) := ⟨fun d => .inl (cmpF_get a fr d), fun k => cmpH_get b hp k⟩
def ceLoop (body : Fr → Hp → Nat → Option (SExit × Fr × Hp × Nat)) : Nat → Fr → Hp → Nat → Option (SExit × Fr × Hp × Nat)
  | 0, _, _, _ => none
  | n + 1, fr, hp, nx => match body fr hp nx with
    | some (.normal, fr', hp', nx') => ceLoop body n fr' hp' nx'
    | r => r
/-- A region. -/
def ceReg (P : Program) (call : FuncId → List SV → Hp → Nat → Option (SV × Hp × Nat)) (ops : Array Oper) (d : Bool) (fr : Fr) (hp : Hp) (nx : Nat) : Option (SExit × Fr × Hp × Nat) := match ceOps P call d ops ops.toList fr hp nx [] with
  | some (fr', hp', nx', acc) => bif !d || orderOk ops acc (aheads ops.toList) then some (.normal, cmpF (fr'.length - fr.length) fr', cmpH (hp'.length - hp.length) hp', nx') else none
  | none => none
def ceC (P : Program) (call : FuncId → List SV → Hp → Nat → Option (SV × Hp × Nat)) (fuel : Nat) : Code → Fr → Hp → Nat → Option (SExit × Fr × Hp × Nat)
  | .skip, fr, hp, nx => some (.normal, fr, hp, nx)
  | .label _, fr, hp, nx => some (.normal, fr, hp, nx)
  | .region _ ops d, fr, hp, nx => ceReg P call ops d fr hp nx
  | .seq x y, fr, hp, nx => match ceC P call fuel x fr hp nx with
    | some (.normal, fr', hp', nx') => ceC P call fuel y fr' hp' nx'
    | r => r
  | .cond c x y, fr, hp, nx => match evS true fr c with
    | .v (.bool b) => bif b then ceC P call fuel x fr hp nx else ceC P call fuel y fr hp nx
    | _ => none
  | .block id c, fr, hp, nx => match ceC P call fuel c fr hp nx with
    | some (.exit j, fr', hp', nx') => bif j == id then some (.normal, fr', hp', nx') else some (.exit j, fr', hp', nx')
    | r => r
  | .exit id, fr, hp, nx => some (.exit id, fr, hp, nx)
  | .loop c, fr, hp, nx => ceLoop (ceC P call fuel c) fuel fr hp nx
  | .scope c, fr, hp, nx => ceC P call fuel c fr hp nx
  | .ret, fr, hp, nx => some (.ret, fr, hp, nx)
  | _, _, _, _ => none
theorem ceC_ok {call : FuncId → List SV → Hp → Nat → Option (SV × Hp × Nat)} (hcall : CallOk P call) (hfol : P.follows .mixedOrders = true) {fuel m N : Nat} : ∀ (c : Code) (Q : SPost) (fr : Fr) (hp : Hp) (nx : Nat) (e : SExit) (fr' : Fr) (hp' : Hp) (nx' : Nat), ceC P call fuel c fr hp nx = some (e, fr', hp', nx') → Q e fr' hp' nx' → Swp P m N c Q fr hp nx := by
  intro c
  induction c with
  | skip => intro Q fr hp nx e fr' hp' nx' h hq; simp only [ceC] at h; cases h; exact hq
  | label l => intro Q fr hp nx e fr' hp' nx' h hq; simp only [ceC] at h; cases h; exact hq
  | exit id => intro Q fr hp nx e fr' hp' nx' h hq; simp only [ceC] at h; cases h; exact hq
  | ret => intro Q fr hp nx e fr' hp' nx' h hq; simp only [ceC] at h; cases h; exact hq
  | region id ops d =>
    intro Q fr hp nx e fr' hp' nx' h hq
    simp only [ceC] at h
    unfold ceReg at h
    split at h
    · rename_i f1 h1 n1 acc he
      rw [Bool.cond_eq_ite] at h
      split at h
      · rename_i ho
        cases h
        cases d with
        | false => exact ceOps_run hcall (K := EqW (Q .normal)) _ _ _ _ _ he ⟨_, _, cmp_eq _ _ _ _, hq⟩
        | true => exact ceOps_draw hcall (K := fun ns fr' hp' nx' => Need (P.follows .mixedOrders = true ∧ orderOk ops ns (aheads ops.toList) = true) (EqW (Q .normal) fr' hp' nx')) _ _ _ _ _ he ⟨⟨hfol, by simpa using ho⟩, _, _, cmp_eq _ _ _ _, hq⟩
      · cases h
    · cases h
  | seq x y hx hy =>
    intro Q fr hp nx e fr' hp' nx' h hq
    simp only [ceC] at h
    show Swp P m N x (thenS (Wk P m (Swp P m N y Q)) Q) fr hp nx
    split at h
    · rename_i f1 h1 n1 he
      exact hx _ _ _ _ _ _ _ _ he (.inl (hy Q _ _ _ _ _ _ _ h hq))
    · rename_i hn
      refine hx _ _ _ _ _ _ _ _ h ?_
      cases e with
      | normal => exact absurd h (hn _ _ _)
      | exit j => exact hq
      | ret => exact hq
  | cond c x y hx hy =>
    intro Q fr hp nx e fr' hp' nx' h hq
    simp only [ceC] at h
    show match evS true fr c with
      | .v (.bool b) => Br b (Swp P m N x Q fr hp nx) (Swp P m N y Q fr hp nx)
      | _ => False
    split at h
    · rename_i b hb
      cases b with
      | true => rw [br_true]; exact hx Q _ _ _ _ _ _ _ h hq
      | false => rw [br_false]; exact hy Q _ _ _ _ _ _ _ h hq
    · cases h
  | block id c ih =>
    intro Q fr hp nx e fr' hp' nx' h hq
    simp only [ceC] at h
    show Swp P m N c (blockS id (wkS P m Q)) fr hp nx
    split at h
    · rename_i j f1 h1 n1 he
      rw [Bool.cond_eq_ite] at h
      split at h
      · rename_i hj
        cases h
        refine ih _ _ _ _ _ _ _ _ he ?_
        simp only [blockS]
        rw [if_pos (by simpa using hj)]
        exact .inl hq
      · rename_i hj
        cases h
        refine ih _ _ _ _ _ _ _ _ he ?_
        simp only [blockS]
        rw [if_neg (by simpa using hj)]
        exact hq
    · rename_i hn
      refine ih _ _ _ _ _ _ _ _ h ?_
      cases e with
      | normal => exact .inl hq
      | exit j => exact absurd h (hn _ _ _ _)
      | ret => exact hq
  | scope c ih => intro Q fr hp nx e fr' hp' nx' h hq; simp only [ceC] at h; exact ih Q _ _ _ _ _ _ _ h hq
  | loop c ih =>
    intro Q fr hp nx e fr' hp' nx' h hq
    simp only [ceC] at h
    have key : ∀ (k : Nat) (fr : Fr) (hp : Hp) (nx : Nat), ceLoop (ceC P call fuel c) k fr hp nx = some (e, fr', hp', nx') → LoopR P m (Swp P m N c) Q k fr hp nx := by
      intro k
      induction k with
      | zero => intro fr hp nx h; cases h
      | succ k ihk =>
        intro fr hp nx h
        unfold ceLoop at h
        split at h
        · rename_i f1 h1 n1 he
          exact ih _ _ _ _ _ _ _ _ he (ihk _ _ _ h)
        · rename_i hn
          refine ih _ _ _ _ _ _ _ _ h ?_
          cases e with
          | normal => exact absurd h (hn _ _ _)
          | exit j => exact hq
          | ret => exact hq
    exact ⟨fuel, key fuel _ _ _ h⟩
  | _ => intro Q fr hp nx e fr' hp' nx' h hq; simp only [ceC] at h; cases h
def ceLoad (P : Program) (t : TypeId) (x : SV) (hp : Hp) (nx : Nat) : Option SV := match x with
  | .ptr k off => match getH hp k with
    | .row _ cs => match takeS P t cs off [k.key] nx with
      | .ok _ e => bif takeB P t cs off then some e.val else none
      | .bad => none
    | _ => none
  | .iptr cs off => match takeS P t cs off [] nx with
      | .ok _ e => bif takeB P t cs off then some e.val else none
      | .bad => none
  | _ => none
theorem ceLoad_ok {t : TypeId} {x v : SV} (h : ceLoad P t x hp nx = some v) : ∃ s e, loadS P t x hp nx = .ok s e ∧ s ∧ e.val = v := by
  unfold ceLoad at h
  unfold loadS
  split at h
  · split at h
    · rename_i hk
      split at h
      · rename_i s e ht
        rw [Bool.cond_eq_ite] at h
        split at h
        · rename_i hb
          cases h
          exact ⟨s, e, by simp only [hk, rowS]; exact ht, takeB_ok ht hb, rfl⟩
        · cases h
      · cases h
    · cases h
  · split at h
    · rename_i s e ht
      rw [Bool.cond_eq_ite] at h
      split at h
      · rename_i hb
        cases h
        exact ⟨s, e, ht, takeB_ok ht hb, rfl⟩
      · cases h
    · cases h
  · cases h
def ceRes (P : Program) (fr : Fr) (hp : Hp) (nx : Nat) : List ResultVar → Option (List SV)
  | [] => some []
  | .tmp t :: r => match ceRes P fr hp nx r with
    | some xs => some (getF fr t :: xs)
    | none => none
  | .cell a t :: r => match ceLoad P t (getF fr a) hp nx, ceRes P fr hp nx r with
    | some v, some xs => some (v :: xs)
    | _, _ => none
theorem ceRes_ok {fr : Fr} : ∀ (rs : List ResultVar) (K : List SV → Prop) (xs : List SV), ceRes P fr hp nx rs = some xs → K xs → resW P fr hp nx rs K
  | [], K, xs, h, hk => by cases h; exact hk
  | .tmp t :: r, K, xs, h, hk => by
    unfold ceRes at h
    split at h
    · rename_i ys he
      cases h
      exact ceRes_ok r _ ys he hk
    · cases h
  | .cell a t :: r, K, xs, h, hk => by
    unfold ceRes at h
    split at h
    · rename_i v ys h1 h2
      cases h
      obtain ⟨s, e, g1, g2, rfl⟩ := ceLoad_ok h1
      show (loadS P t (getF fr a) hp nx).wp fun e => resW P fr hp nx r fun xs => K (e.val :: xs)
      rw [g1]
      exact ⟨g2, ceRes_ok r _ ys h2 hk⟩
    · cases h
def gaveN (hp : Hp) (m : Nat) : List Nm := (List.range m).map Nm.t
/-- A function's end. -/
def ceEnd0 (m : Nat) (x : SV) (hp : Hp) (pr : List (Nm × Nm)) (n : Nat) : Option (SV × Hp × Nat) :=
  bif prOk pr && (okN m pr [] && (okH m n pr (hinN (tauN pr hp) hp pr) && Nat.ble m n)) then some (wkV (tauN pr hp) x, hinN (tauN pr hp) hp pr, n) else none
def ceEnd1 (m : Nat) (x : SV) (hp : Hp) (nx : Nat) (pr : List (Nm × Nm)) : Option (SV × Hp × Nat) := ceEnd0 m x hp pr (bif pr.isEmpty && m == 0 then 0 else nx)
def ceEnd (m : Nat) (x : SV) (hp : Hp) (nx : Nat) : Option (SV × Hp × Nat) := ceEnd1 m x hp nx (selfN (closeN hp 100000 (namesV x ++ gaveN hp m) []))
theorem ceEnd_ok {m : Nat} {x X : SV} {H : Hp} {n : Nat} (h : ceEnd m x hp nx = some (X, H, n)) : RetW P m (fun r h' n' => r = X ∧ h' = H ∧ n' = n) x hp := by
  unfold ceEnd at h
  generalize selfN (closeN hp 100000 (namesV x ++ gaveN hp m) []) = pr at h
  unfold ceEnd1 at h
  generalize (bif pr.isEmpty && m == 0 then 0 else nx) = n0 at h
  unfold ceEnd0 at h
  rw [Bool.cond_eq_ite] at h
  split at h
  · rename_i hb
    simp only [Bool.and_eq_true] at hb
    obtain ⟨b1, b2, b3, b4⟩ := hb
    cases h
    exact ret_mk _ _ _ pr [] ⟨rfl, rfl, rfl⟩ (wk_le (tau_ok pr hp) x) (hin_le' b1) b2 b3 (Nat.le_of_ble_eq_true b4)
  · cases h
def ceF (P : Program) (fuel : Nat) : Nat → FuncId → List SV → Hp → Nat → Option (SV × Hp × Nat)
  | 0, _, _, _, _ => none
  | n + 1, f, args, hin, m => match P.funcs[f]? with
    | some fn => match fn.body with
      | some c => bif decide (fn.name ≠ "runtime.NumGoroutine") && (Nat.ble args.length fn.ntmps && codeOk fn.ntmps c) then
          match ceC P (ceF P fuel n) fuel c (frArgs 0 args) hin m with
          | some (.normal, fr, hp, nx) => match ceRes P fr hp nx fn.results.toList with
            | some xs => ceEnd m (oneOf xs) hp nx
            | none => none
          | some (.ret, fr, hp, nx) => match ceRes P fr hp nx fn.results.toList with
            | some xs => ceEnd m (oneOf xs) hp nx
            | none => none
          | _ => none
        else none
      | none => none
    | none => none
theorem ceF_ok (hfol : P.follows .mixedOrders = true) (fuel : Nat) : ∀ n : Nat, CallOk P (ceF P fuel n)
  | 0 => fun f args hin m x h n he => by cases he
  | n + 1 => fun f args hin m x h n' he => by
    unfold ceF at he
    split at he
    · rename_i fn hf
      split at he
      · rename_i c hb
        rw [Bool.cond_eq_ite] at he
        split at he
        · rename_i hc
          simp only [Bool.and_eq_true, decide_eq_true_eq] at hc
          obtain ⟨c1, c2, c3⟩ := hc
          have fin : ∀ {e fr hp nx xs}, (e = .normal ∨ e = .ret) → ceC P (ceF P fuel n) fuel c (frArgs 0 args) hin m = some (e, fr, hp, nx) → ceRes P fr hp nx fn.results.toList = some xs → ceEnd m (oneOf xs) hp nx = some (x, h, n') → SpecW P f args hin m (fun r h' n2 => r = x ∧ h' = h ∧ n2 = n') := by
            intro e fr hp nx xs hee hce hres hend
            refine spec_of (draw_ok _) hf hb c1 c2 c3 (ceC_ok (ceF_ok hfol fuel n) hfol c _ _ _ _ _ _ _ _ hce ?_)
            have := ceRes_ok (P := P) (hp := hp) (nx := nx) fn.results.toList (fun xs => RetW P m (fun r h' n2 => r = x ∧ h' = h ∧ n2 = n') (oneOf xs) hp) xs hres (ceEnd_ok hend)
            rcases hee with rfl | rfl <;> exact this
          split at he
          · rename_i fr hp nx hce
            split at he
            · rename_i xs hres; exact fin (.inl rfl) hce hres he
            · cases he
          · rename_i fr hp nx hce
            split at he
            · rename_i xs hres; exact fin (.inr rfl) hce hres he
            · cases he
          · cases he
        · cases he
      · cases he
    · cases he
/-- A CLOSED CALL: what it gives back. -/
theorem closed_call (hfol : P.follows .mixedOrders = true) (fuel n : Nat) {f : FuncId} {x : SV} (h : ceF P fuel n f [] [] 0 = some (x, [], 0)) : SpecW P f [] [] 0 (fun r h n => r = x ∧ h = [] ∧ n = 0) := ceF_ok hfol fuel n _ _ _ _ _ _ _ h
end Go.Sx
end

section
namespace Go.Sx
open Go.RowKit
set_option linter.unusedVariables false
set_option linter.unusedSimpArgs false
variable {P : Program} {hp : Hp} {nx : Nat}

/-! ### Maps by numbers of any kind, and by truth values -/
def mik (k : IntKind) (m : List (Int × Int)) : List (Value × SV) := m.map fun p => (.int k p.1, .v (.int .i64 p.2))
theorem keyEq_k (j : IntKind) (k a : Int) : keyEq (.int j k) (.int j a) = (k == a) := by simp [keyEq]
theorem mik_find (j : IntKind) (k : Int) : ∀ (m : List (Int × Int)) (i : Nat), (findS (.int j k) (mik j m) i).map (·.2) = (m.find? fun p => k == p.1).map fun p => .v (.int .i64 p.2)
  | [], i => rfl
  | p :: r, i => by
    show (bif keyEq (.int j k) (.int j p.1) then _ else findS _ (mik j r) (i + 1)).map (·.2) = _
    rw [keyEq_k, List.find?_cons]
    cases h : k == p.1 with
    | true => simp
    | false => simpa using mik_find j k r (i + 1)
theorem mik_lookV (j : IntKind) (m : List (Int × Int)) (k : Int) : lookV (.int .i64 0) (.int j k) (mik j m) = .v (.int .i64 (miGet m k)) := by
  have := mik_find j k m 0
  unfold lookV miGet
  cases h : findS (.int j k) (mik j m) 0 with
  | none => rw [h] at this; cases hf : m.find? (fun p => k == p.1) with
    | none => rfl
    | some p => rw [hf] at this; simp at this
  | some q => rw [h] at this; cases hf : m.find? (fun p => k == p.1) with
    | none => rw [hf] at this; simp at this
    | some p => rw [hf] at this; simp at this; simp [this]
theorem mik_lookB (j : IntKind) (m : List (Int × Int)) (k : Int) : lookB (.int j k) (mik j m) = miHas m k := by
  have := congrArg Option.isSome (mik_find j k m 0)
  simp only [Option.isSome_map] at this
  exact this
theorem mik_alike (j : IntKind) (m : List (Int × Int)) (k : Int) : (mik j m).all (fun p => keyAlike (.int j k) p.1) = true := by simp [mik, keyAlike]
theorem ob_lookK (j : IntKind) (k : Int) (mm : List (Int × Int)) (kk : Nm) (nx : Nat) : resOb (.ok (keyOk (.int j) (.int j k) = true ∧ (mik j mm).all (fun p => keyAlike (.int j k) p.1) = true) ⟨lookV (.int .i64 0) (.int j k) (mik j mm), [], nx, [kk.key]⟩) ⟨.v (.int .i64 (miGet mm k)), [], nx, [kk.key]⟩ :=
  ob_ok ⟨rfl, mik_alike j mm k⟩ (mik_lookV j mm k) rfl
theorem ob_lookK2 (j : IntKind) (k : Int) (mm : List (Int × Int)) (kk : Nm) (nx : Nat) : resOb (.ok (keyOk (.int j) (.int j k) = true ∧ (mik j mm).all (fun p => keyAlike (.int j k) p.1) = true) ⟨.tup [lookV (.int .i64 0) (.int j k) (mik j mm), .v (.bool (lookB (.int j k) (mik j mm)))], [], nx, [kk.key]⟩) ⟨.tup [.v (.int .i64 (miGet mm k)), .v (.bool (miHas mm k))], [], nx, [kk.key]⟩ :=
  ob_ok ⟨rfl, mik_alike j mm k⟩ (by rw [mik_lookV, mik_lookB]) rfl
def mbL (m : List (Bool × Int)) : List (Value × SV) := m.map fun p => (.bool p.1, .v (.int .i64 p.2))
def mbGet (m : List (Bool × Int)) (b : Bool) : Int := ((m.find? fun p => b == p.1).map (·.2)).getD 0
theorem mbL_find (k : Bool) : ∀ (m : List (Bool × Int)) (i : Nat), (findS (.bool k) (mbL m) i).map (·.2) = (m.find? fun p => k == p.1).map fun p => .v (.int .i64 p.2)
  | [], i => rfl
  | p :: r, i => by
    show (bif keyEq (.bool k) (.bool p.1) then _ else findS _ (mbL r) (i + 1)).map (·.2) = _
    rw [List.find?_cons]
    simp only [keyEq]
    cases h : k == p.1 with
    | true => simp
    | false => simpa using mbL_find k r (i + 1)
theorem mbL_lookV (m : List (Bool × Int)) (k : Bool) : lookV (.int .i64 0) (.bool k) (mbL m) = .v (.int .i64 (mbGet m k)) := by
  have := mbL_find k m 0
  unfold lookV mbGet
  cases h : findS (.bool k) (mbL m) 0 with
  | none => rw [h] at this; cases hf : m.find? (fun p => k == p.1) with
    | none => rfl
    | some p => rw [hf] at this; simp at this
  | some q => rw [h] at this; cases hf : m.find? (fun p => k == p.1) with
    | none => rw [hf] at this; simp at this
    | some p => rw [hf] at this; simp at this; simp [this]
theorem ob_lookB (b : Bool) (mm : List (Bool × Int)) (kk : Nm) (nx : Nat) : resOb (.ok (keyOk .bool (.bool b) = true ∧ (mbL mm).all (fun p => keyAlike (.bool b) p.1) = true) ⟨lookV (.int .i64 0) (.bool b) (mbL mm), [], nx, [kk.key]⟩) ⟨.v (.int .i64 (mbGet mm b)), [], nx, [kk.key]⟩ :=
  ob_ok ⟨rfl, by simp [mbL, keyAlike]⟩ (mbL_lookV mm b) rfl
theorem ob_insL (d : TypeDesc) (kv : Value) (v : SV) (es es' : List (Value × SV)) (kk nx : Nat) (h1 : keyOk d kv = true) (h2 : es.all (fun p => keyAlike kv p.1) = true) (h3 : updL kv v es = es') : resOb (.ok (keyOk d kv = true ∧ es.all (fun p => keyAlike kv p.1) = true) ⟨.any, [(Nm.t kk, .map (updL kv v es))], nx, [Nm.t kk]⟩) ⟨.any, [(Nm.t kk, .map es')], nx, [Nm.t kk]⟩ :=
  ob_ok ⟨h1, h2⟩ rfl (by rw [h3])
theorem ob_lookL (d : TypeDesc) (kv : Value) (v : SV) (es : List (Value × SV)) (kk : Nm) (nx : Nat) (h1 : keyOk d kv = true) (h2 : es.all (fun p => keyAlike kv p.1) = true) : resOb (.ok (keyOk d kv = true ∧ es.all (fun p => keyAlike kv p.1) = true) ⟨v, [], nx, [kk.key]⟩) ⟨v, [], nx, [kk.key]⟩ :=
  ob_ok ⟨h1, h2⟩ rfl rfl
/-- Maps that are written out, held against each other. -/
theorem leC1_lit {hp hp' : Hp} {σ : List (Nm × Nm)} {frz : List Nm} {k' : Nm} {es : List (Value × SV)} (h1 : stM es = true) (h : match getN σ k' with | none => False | some k => getH hp k = .map es) : leC1 hp hp' σ frz k' (.map es) = True := by
  refine eq_true ?_
  simp only [leC1]
  cases hn : getN σ k' with
  | none => rw [hn] at h; exact h
  | some k =>
    rw [hn] at h
    simp only at h ⊢
    rw [h]
    simp only [h1, cond_true]

/-! ### An array of numbers -/
structure VArr (n : Nat) where
  l : List Int
  h : l.length = n
variable {n : Nat}
theorem VArr.ext : ∀ {a b : VArr n}, a.l = b.l → a = b
  | ⟨_, _⟩, ⟨_, _⟩, h => by simp only at h; subst h; rfl
instance : DecidableEq (VArr n) := fun a b => if h : a.l = b.l then .isTrue (VArr.ext h) else .isFalse fun e => h (e ▸ rfl)
instance : Inhabited (VArr n) := ⟨⟨List.replicate n 0, by simp⟩⟩
def VArr.get (a : VArr n) (i : Int) : Int := a.l.getD i.toNat 0
def VArr.set (a : VArr n) (i v : Int) : VArr n := ⟨a.l.set i.toNat v, by rw [List.length_set]; exact a.h⟩
def VArr.cells (a : VArr n) : List SV := (List.range n).map fun k => .v (.int .i64 (a.l.getD k 0))
theorem VArr.cells_fl (a : VArr n) : a.cells = a.l.map fun x => .v (.int .i64 x) := by
  refine List.ext_getElem (by simp [VArr.cells, a.h]) fun i h1 h2 => ?_
  simp only [VArr.cells, List.getElem_map, List.getElem_range, List.length_map] at h2 ⊢
  rw [List.getD_eq_getElem?_getD, List.getElem?_eq_getElem h2]; rfl
theorem VArr.st (a : VArr n) : stL a.cells = true := by
  rw [VArr.cells_fl]
  induction a.l with
  | nil => rfl
  | cons x l ih => simpa [stL, SV.st] using ih
instance : Enc (VArr n) := ⟨n, VArr.cells, fun a => by simp [VArr.cells], fun a => by simp [VArr.cells, oneS, Value.oneCell'], VArr.st⟩
theorem VArr.len (a : VArr n) : (Enc.cells a).length = n := Enc.len a
theorem VArr.at (a : VArr n) (e : Int) (k : 0 ≤ e ∧ e < ((n : Nat) : Int)) (d : SV) : (Enc.cells a).getD e.toNat d = .v (.int .i64 (a.get e)) := by
  show a.cells.getD e.toNat d = _
  have hl : e.toNat < a.cells.length := by have := VArr.len a; show _ < (Enc.cells a).length; omega
  rw [List.getD_eq_getElem?_getD, List.getElem?_eq_getElem hl]
  simp only [VArr.cells, List.getElem_map, List.getElem_range]
  rfl
theorem VArr.put (a : VArr n) (e v : Int) (k : 0 ≤ e ∧ e < ((n : Nat) : Int)) : (Enc.cells a).set e.toNat (.v (.int .i64 v)) = Enc.cells (a.set e v) := by
  show a.cells.set _ _ = (a.set e v).cells
  rw [VArr.cells_fl, VArr.cells_fl]
  simp only [VArr.set, List.map_set]
theorem ob_ixa (kk : Nm) (off len z : Nat) (e : Int) (nx : Nat) (k : 0 ≤ e ∧ e < ((len : Nat) : Int)) : resOb (.ok (0 ≤ e ∧ e < ((len : Nat) : Int)) ⟨.ptr kk (off + e.toNat * z), [], nx, []⟩) ⟨.ptr kk (off + e.toNat * z), [], nx, []⟩ := ob_ok k rfl rfl
theorem ob_ixi (cs : List SV) (off len z : Nat) (e : Int) (nx : Nat) (k : 0 ≤ e ∧ e < ((len : Nat) : Int)) : resOb (.ok (0 ≤ e ∧ e < ((len : Nat) : Int)) ⟨.iptr cs (off + e.toNat * z), [], nx, []⟩) ⟨.iptr cs (off + e.toNat * z), [], nx, []⟩ := ob_ok k rfl rfl
theorem ob_lda (pre post : List SV) (a : VArr n) (e : Int) (o : Nat) (k : 0 ≤ e ∧ e < ((n : Nat) : Int)) (ho : o = pre.length + e.toNat * 1) (d : SV) (nx : Nat) (rds : List Nm) :
    resOb (.ok (o < (pre ++ (Enc.cells a ++ post)).length) ⟨(pre ++ (Enc.cells a ++ post)).getD o d, [], nx, rds⟩) ⟨.v (.int .i64 (a.get e)), [], nx, rds⟩ := by
  have hl := VArr.len a
  rw [Nat.mul_one] at ho
  refine ob_ok (by simp only [List.length_append, hl]; omega) ?_ rfl
  rw [ho, List.getD_eq_getElem?_getD, List.getElem?_append_right (by omega), Nat.add_sub_cancel_left, List.getElem?_append_left (by omega), ← List.getD_eq_getElem?_getD]
  exact VArr.at a e k d
theorem ob_ldv (a : VArr n) (e : Int) (k : 0 ≤ e ∧ e < ((n : Nat) : Int)) (d : SV) (nx : Nat) (p : Prop) (hp : p) :
    resOb (.ok (p ∧ e.toNat * 1 < (Enc.cells a).length) ⟨(Enc.cells a).getD (e.toNat * 1) d, [], nx, []⟩) ⟨.v (.int .i64 (a.get e)), [], nx, []⟩ := by
  have hl := VArr.len a
  refine ob_ok ⟨hp, by omega⟩ ?_ rfl
  rw [Nat.mul_one]
  exact VArr.at a e k d
theorem splice_one (cs : List SV) (o : Nat) (x : SV) : splice cs o [x] = cs.set o x := rfl
theorem arr_splice (pre post : List SV) (a : VArr n) (e v : Int) (o : Nat) (k : 0 ≤ e ∧ e < ((n : Nat) : Int)) (ho : o = pre.length + e.toNat * 1) : splice (pre ++ (Enc.cells a ++ post)) o [.v (.int .i64 v)] = pre ++ (Enc.cells (a.set e v) ++ post) := by
  have hl := VArr.len a
  rw [Nat.mul_one] at ho
  rw [splice_one, ho, List.set_append_right _ _ (by omega), Nat.add_sub_cancel_left, List.set_append_left _ _ (by omega), VArr.put a e v k]
theorem ob_sta (pre post : List SV) (a : VArr n) (e v : Int) (o : Nat) (k : 0 ≤ e ∧ e < ((n : Nat) : Int)) (ho : o = pre.length + e.toNat * 1) (kk : Nat) (nx et t : Nat) (hs : szT P t = some 1) :
    resOb (.ok (szT P t = some 1 ∧ true = true ∧ o + 1 ≤ (pre ++ (Enc.cells a ++ post)).length) ⟨.any, [(Nm.t kk, .row et (splice (pre ++ (Enc.cells a ++ post)) o [.v (.int .i64 v)]))], nx, [Nm.t kk]⟩) ⟨.any, [(Nm.t kk, .row et (pre ++ (Enc.cells (a.set e v) ++ post)))], nx, [Nm.t kk]⟩ := by
  have hl := VArr.len a
  refine ob_ok ⟨hs, rfl, ?_⟩ rfl ?_
  · simp only [List.length_append, hl]; omega
  · rw [arr_splice pre post a e v o k ho]
theorem leL_arr {hp hp' : Hp} {σ : List (Nm × Nm)} {frz : List Nm} (a : VArr n) (xs ys : List SV) : leL hp hp' σ frz (Enc.cells a ++ xs) (Enc.cells a ++ ys) = leL hp hp' σ frz xs ys := by
  refine propext ?_
  show leL hp hp' σ frz (a.cells ++ xs) (a.cells ++ ys) ↔ _
  rw [VArr.cells_fl]
  induction a.l with
  | nil => exact Iff.rfl
  | cons x l ih =>
    simp only [List.map_cons, List.cons_append, leL]
    rw [ih]
    simp only [leS, true_and]
theorem renL_arr (τ : Nm → Nm) (a : VArr n) (xs : List SV) : renL τ (Enc.cells a ++ xs) = Enc.cells a ++ renL τ xs := by
  show renL τ (a.cells ++ xs) = a.cells ++ _
  rw [VArr.cells_fl]
  induction a.l with
  | nil => rfl
  | cons x l ih => simp only [List.map_cons, List.cons_append, renL, renS, ih]
theorem stL_arr (a : VArr n) (xs : List SV) : stL (Enc.cells a ++ xs) = stL xs := by
  show stL (a.cells ++ xs) = _
  rw [VArr.cells_fl]
  induction a.l with
  | nil => rfl
  | cons x l ih => simpa [stL, SV.st] using ih
theorem clL_arr (a : VArr n) (xs : List SV) : clL (Enc.cells a ++ xs) = clL xs := by
  show clL (a.cells ++ xs) = _
  rw [VArr.cells_fl]
  induction a.l with
  | nil => rfl
  | cons x l ih => simpa [clL, SV.cl] using ih
theorem nimL_arr (a : VArr n) (xs : List SV) : nimL (Enc.cells a ++ xs) = nimL xs := by
  show nimL (a.cells ++ xs) = _
  rw [VArr.cells_fl]
  induction a.l with
  | nil => rfl
  | cons x l ih => simpa [nimL, SV.nim] using ih
theorem nim_VArr (xs : List (VArr n)) : nimL (fl xs) = true := nimL_fl (fun a => by have := nimL_arr a []; simpa [nimL] using this) xs
theorem sz_VArr : Enc.sz (VArr n) = n := rfl
attribute [push_cast] leL_arr renL_arr stL_arr clL_arr nimL_arr nim_VArr sz_VArr
def VArr.c0 (a : VArr n) : Int := a.l.getD 0 0
def VArr.c1 (a : VArr n) : Int := a.l.getD 1 0
def VArr.c2 (a : VArr n) : Int := a.l.getD 2 0
def VArr.c3 (a : VArr n) : Int := a.l.getD 3 0
def VArr.c4 (a : VArr n) : Int := a.l.getD 4 0
def VArr.c5 (a : VArr n) : Int := a.l.getD 5 0
def VArr.c6 (a : VArr n) : Int := a.l.getD 6 0
def VArr.c7 (a : VArr n) : Int := a.l.getD 7 0
def VArr.c8 (a : VArr n) : Int := a.l.getD 8 0
def VArr.c9 (a : VArr n) : Int := a.l.getD 9 0
def VArr.c10 (a : VArr n) : Int := a.l.getD 10 0
def VArr.c11 (a : VArr n) : Int := a.l.getD 11 0
def VArr.c12 (a : VArr n) : Int := a.l.getD 12 0
def VArr.c13 (a : VArr n) : Int := a.l.getD 13 0
def VArr.c14 (a : VArr n) : Int := a.l.getD 14 0
def VArr.c15 (a : VArr n) : Int := a.l.getD 15 0
def VArr.c16 (a : VArr n) : Int := a.l.getD 16 0
def VArr.c17 (a : VArr n) : Int := a.l.getD 17 0
def VArr.c18 (a : VArr n) : Int := a.l.getD 18 0
def VArr.c19 (a : VArr n) : Int := a.l.getD 19 0
def VArr.c20 (a : VArr n) : Int := a.l.getD 20 0
def VArr.c21 (a : VArr n) : Int := a.l.getD 21 0
def VArr.c22 (a : VArr n) : Int := a.l.getD 22 0
def VArr.c23 (a : VArr n) : Int := a.l.getD 23 0
def VArr.c24 (a : VArr n) : Int := a.l.getD 24 0
def VArr.c25 (a : VArr n) : Int := a.l.getD 25 0
def VArr.c26 (a : VArr n) : Int := a.l.getD 26 0
def VArr.c27 (a : VArr n) : Int := a.l.getD 27 0
def VArr.c28 (a : VArr n) : Int := a.l.getD 28 0
def VArr.c29 (a : VArr n) : Int := a.l.getD 29 0
def VArr.c30 (a : VArr n) : Int := a.l.getD 30 0
def VArr.c31 (a : VArr n) : Int := a.l.getD 31 0
def VArr.c32 (a : VArr n) : Int := a.l.getD 32 0
def VArr.c33 (a : VArr n) : Int := a.l.getD 33 0
def VArr.c34 (a : VArr n) : Int := a.l.getD 34 0
def VArr.c35 (a : VArr n) : Int := a.l.getD 35 0
def VArr.c36 (a : VArr n) : Int := a.l.getD 36 0
def VArr.c37 (a : VArr n) : Int := a.l.getD 37 0
def VArr.c38 (a : VArr n) : Int := a.l.getD 38 0
def VArr.c39 (a : VArr n) : Int := a.l.getD 39 0
def VArr.c40 (a : VArr n) : Int := a.l.getD 40 0
def VArr.c41 (a : VArr n) : Int := a.l.getD 41 0
def VArr.c42 (a : VArr n) : Int := a.l.getD 42 0
def VArr.c43 (a : VArr n) : Int := a.l.getD 43 0
def VArr.c44 (a : VArr n) : Int := a.l.getD 44 0
def VArr.c45 (a : VArr n) : Int := a.l.getD 45 0
def VArr.c46 (a : VArr n) : Int := a.l.getD 46 0
def VArr.c47 (a : VArr n) : Int := a.l.getD 47 0
def VArr.c48 (a : VArr n) : Int := a.l.getD 48 0
def VArr.c49 (a : VArr n) : Int := a.l.getD 49 0
def VArr.c50 (a : VArr n) : Int := a.l.getD 50 0
def VArr.c51 (a : VArr n) : Int := a.l.getD 51 0
def VArr.c52 (a : VArr n) : Int := a.l.getD 52 0
def VArr.c53 (a : VArr n) : Int := a.l.getD 53 0
def VArr.c54 (a : VArr n) : Int := a.l.getD 54 0
def VArr.c55 (a : VArr n) : Int := a.l.getD 55 0
def VArr.c56 (a : VArr n) : Int := a.l.getD 56 0
def VArr.c57 (a : VArr n) : Int := a.l.getD 57 0
def VArr.c58 (a : VArr n) : Int := a.l.getD 58 0
def VArr.c59 (a : VArr n) : Int := a.l.getD 59 0
def VArr.c60 (a : VArr n) : Int := a.l.getD 60 0
def VArr.c61 (a : VArr n) : Int := a.l.getD 61 0
def VArr.c62 (a : VArr n) : Int := a.l.getD 62 0
def VArr.c63 (a : VArr n) : Int := a.l.getD 63 0
def VArr.c64 (a : VArr n) : Int := a.l.getD 64 0
end Go.Sx
end
