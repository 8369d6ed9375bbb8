/-
  G, part D: operations by their meaning: is a slice nil?
-/
import Derived.Test.YtnnpjaoddniifaaGC
set_option linter.unusedSimpArgs false
set_option linter.unusedVariables false
namespace Go.Sx
open Go.RowKit
set_option linter.unusedVariables false
variable {P : Program} {m N : Nat} {Q : SPost} {fr : Fr} {hp : Hp} {nx : Nat} {ops : Array Oper}

/-- An operation that is carried out, by its meaning. -/
theorem stepW_sem {dt : Bool} {o : Oper} {K : SV → Hp → Nat → List Nat → Prop} (hd : doneS ops fr o = some true) (hg : o.guard.isNone || !quietP P o.op = true) (hc : callOf true fr o.op = none)  (hs : SemX dt P o fr hp nx K) : stepW dt P ops o fr hp nx K := by
  have core : coreW dt P true o fr hp nx K := by
    unfold coreW
    rw [hc]
    exact .inl ⟨rfl, hs⟩
  unfold stepW
  unfold doneS at hd
  cases hq : o.guard with
  | none => exact core
  | some jw =>
    rw [hq] at hd hg
    simp only at hd ⊢
    rw [hd]
    have : quietP P o.op = false := by simpa using hg
    simp only [this, cond_false]
    exact ⟨fun _ => core, (fun he => by cases he)⟩

/-- A slice is held against nil. -/
def nilOf (P : Program) (fr : Fr) : List Oper → Option (Nat × Option Tmp)
  | o :: _ => match o.guard, o.op with
    | none, .binOp .eql t x (.const (.slice none 0 0)) _ => match P.underlying t, evS true fr x with
      | some (.slice _), .sl n _ => some (n, o.dst)
      | _, _ => none
    | _, _ => none
  | [] => none
theorem run_nilSl {P : Program} {t e : TypeId} (hu : P.underlying t = some (.slice e)) (a : Option Addr) (n cap : Nat) (w : World) :
    (binOp .eql t (.slice a n cap) (.slice none 0 0)).run P w = .ok (.bool a.isNone) w := by
  have h0 : ∀ D, (Op.equalIn (D + 1) t (.slice a n cap) (.slice none 0 0)).run P w = .ok a.isNone w := fun D => by
    cases a <;> simp [Op.equalIn, run_underlying hu]
  have h : (Op.equal t (.slice a n cap) (.slice none 0 0)).run P w = .ok a.isNone w := h0 9999
  simp only [binOp, Sem.run_bind, h]; rfl
theorem run_nil {l : List Oper} {acc : List Nms} {K : Fr → Hp → Nat → Prop} (n : Nat) (dst : Option Tmp) (h : nilOf P fr l = some (n, dst))
    (k1 : n = 0 → RunAt P false ops (l.drop 1) (putF dst (.v (.bool true)) fr) hp nx acc K) (k2 : RunAt P false ops (l.drop 1) (putF dst (.v (.bool false)) fr) hp nx acc K) : RunAt P false ops l fr hp nx acc K := by
  cases l with
  | nil => cases h
  | cons o rest =>
    simp only [nilOf] at h
    split at h
    · rename_i t x ty hg ho
      split at h
      · rename_i et n' cs hu hx
        simp only [Option.some.injEq, Prod.mk.injEq] at h
        obtain ⟨rfl, rfl⟩ := h
        show stepW false P ops o fr hp nx _
        refine stepW_sem (by unfold doneS; rw [hg]) (by rw [hg]; rfl) (by rw [ho]; rfl) ?_
        intro X ids w fr' hp' a hP h1 h2 h3 h4 h5 h6 KK Q hK
        subst hP
        have hx' : evS true fr' x = .sl n' cs := by
          rw [← hx]
          exact evS_local fun t' ht => h4 t' (mem_names (o := o.op) (by rw [ho]; simp [Op.operands]) ht)
        have hev := ev_den h3 (g := true) rfl x
        rw [hx'] at hev
        obtain ⟨ad, cap, hv, hnil⟩ : ∃ (ad : Option Addr) (cap : Nat), a.eval x = .slice ad n' cap ∧ (ad = none → n' = 0) := by
          rcases den_sl hev with ⟨ad, cap, hv, _, _, hd⟩
          generalize hgen : a.eval x = y at hev hv
          cases hev with
          | sl0 hc => exact ⟨_, _, rfl, fun _ => rfl⟩
          | sl b o cap c hb hn hcap hc hx => exact ⟨_, _, rfl, fun he => by cases he⟩
        have hrun : (execOp a.eval o).run X.P w = .ok (.value (.bool ad.isNone)) w := by
          unfold execOp
          rw [ho]
          simp only [Sem.run_bind]
          rw [hv, show a.eval (.const (.slice none 0 0)) = .slice none 0 0 from rfl, eqGuard_plain (by simp) (by simp)]
          simp only [Result.andThen_ok, run_nilSl hu, Sem.run_pure]
        refine wp_of_soundN (.inl hrun) ?_
        cases ad with
        | none => exact hK (.v (.bool true)) [] nx [] _ w ids (k1 (hnil rfl)) ⟨Nat.le_refl _, fun p hp => by cases hp⟩ h1 (Ext.refl _ _ _ _) .v
        | some q => exact hK (.v (.bool false)) [] nx [] _ w ids k2 ⟨Nat.le_refl _, fun p hp => by cases hp⟩ h1 (Ext.refl _ _ _ _) .v
      · cases h
    · cases h

/-! ### An operation that stands next, by its meaning -/
def headOp (P : Program) (ops : Array Oper) (fr : Fr) : List Oper → Option Oper
  | o :: _ => match doneS ops fr o, callOf true fr o.op with
    | some true, none => bif o.guard.isNone || !quietP P o.op then some o else none
    | _, _ => none
  | [] => none
theorem run_sem {d : Bool} {l : List Oper} {acc : List Nms} {K : Fr → Hp → Nat → Prop} (o : Oper) (e : Eff) (h : headOp P ops fr l = some o) (hle : nx ≤ e.nx) (hs : SemW P o fr hp nx (EqEff e))
    (k : RunAt P d ops (l.drop 1) (putF o.dst e.val fr) (e.upd ++ hp) (bif d then e.nx + 1 else e.nx) (acc ++ [⟨e.upd.map (·.1), e.rds, nx, e.nx⟩]) K) : RunAt P d ops l fr hp nx acc K := by
  cases l with
  | nil => cases h
  | cons o' rest =>
    simp only [headOp] at h
    split at h
    · rename_i h1 h2
      rw [Bool.cond_eq_ite] at h
      split at h
      · rename_i h3
        cases h
        cases d with
        | false => exact stepW_sem h1 (by simpa using h3) h2 (K := fun val upd nx' _ => runOps P ops rest (putF o.dst val fr) (upd ++ hp) nx' (EqW K)) (hs.mono rfl fun v u n r he => by obtain ⟨rfl, rfl, rfl, rfl⟩ := he; exact k)
        | true => exact stepW_sem (dt := true) (hp := hp) (nx := nx) (P := P) h1 (by simpa using h3) h2 (K := fun val upd nx' rds => runE P ops rest (putF o.dst val fr) (upd ++ hp) (nx' + 1) (acc ++ [Nms.mk (upd.map (·.1)) rds nx nx']) (EqW K)) ⟨e, hle, k, hs⟩
      · cases h
    · cases h
/-- .. by what the machine makes of it. -/
theorem semW_of {o : Oper} {e : Eff} (hk : UpdOk hp nx e.upd e.nx e.rds)
    (h : ∀ (X : Cx) (ids : Ids) (w : World) (fr' : Fr) (hp' : Hp) (a : Act), X.P = P → HeapX X hp' nx ids w → (∀ d, DenX X hp' ids w (getF fr' d) (a.tmps.getD d undef)) → (∀ x, x ∈ o.op.operands.toList → evS true fr' x = evS true fr x) → (∀ k ∈ e.rds, getH hp' k = getH hp k) →
      SoundN X hp' ids w ((execOp a.eval o).run X.P w) e) : SemW P o fr hp nx (EqEff e) := by
  intro X ids w fr' hp' a hP h1 h2 h3 h4 h5 h6 KK Q hK
  obtain ⟨h7, h8⟩ := h6 e.val e.upd e.nx e.rds ⟨rfl, rfl, rfl, rfl⟩
  obtain ⟨x, w', ids', g1, g2, g3, g4⟩ := h X ids w fr' hp' a hP ⟨h1, h5, h2⟩ h3 (fun x hx => evS_local fun t ht => h4 t (mem_names hx ht)) h8
  subst hP
  exact wp_of_soundN g1 (hK _ _ _ _ _ _ _ ⟨rfl, rfl, rfl, rfl⟩ hk g2 g3 g4)

/-- A piece of an own slice, which is no more: the rest of it is forgotten. -/
theorem sem_cutO {o : Oper} {t e : TypeId} {x : Operand} {lo hi : Option Operand} {k z n : Nat} {cs : List SV} {l h : Int} (ho : o.op = .slice t x lo hi none) (hst : sliceT P t = some (e, z)) (hx : evS true fr x = .own k 0 n) (hrow : getH hp k = .row e cs) (hz : P.cellsOf e = z)
    (b1 : boundS (lo.map (evS true fr)) 0 = some l) (b2 : boundS (hi.map (evS true fr)) n = some h) (h0 : 0 ≤ l) (h1 : l ≤ h) (h2 : h ≤ n) (hn : n * z ≤ cs.length) :
    SemW P o fr hp nx (EqEff ⟨.own nx 0 (h.toNat - l.toNat), [(nx, .row e (appCells cs (l.toNat * z) ((h.toNat - l.toNat) * z))), (k, .dead)], nx + 1, [k]⟩) := by
  have hlk : (getH hp k).live = true := by rw [hrow]; rfl
  refine semW_of ⟨Nat.le_succ _, fun p hp1 => ?_⟩ ?_
  · rcases List.mem_cons.1 hp1 with rfl | hp1
    · exact .inl ⟨Nat.le_refl _, Nat.lt_succ_self _⟩
    · rcases List.mem_cons.1 hp1 with rfl | hp1
      · exact .inr ⟨List.mem_cons_self .., hlk⟩
      · cases hp1
  intro X ids w fr' hp' a hP hH hf hev hrd
  subst hP
  have hx' : evS true fr' x = .own k 0 n := by rw [hev x (by rw [ho]; simp [Op.operands]), hx]
  have hrow' : getH hp' k = .row e cs := by rw [hrd k (List.mem_cons_self ..), hrow]
  have hlk' : (getH hp' k).live = true := by rw [hrow']; rfl
  have hd := ev_den hf (g := true) rfl x
  rw [hx'] at hd
  have hl' : lo.map (evS true fr') = lo.map (evS true fr) := by
    cases lo with
    | none => rfl
    | some q => simp only [Option.map_some]; rw [hev q (by rw [ho]; simp [Op.operands])]
  have hh' : hi.map (evS true fr') = hi.map (evS true fr) := by
    cases hi with
    | none => rfl
    | some q => simp only [Option.map_some]; rw [hev q (by rw [ho]; simp [Op.operands])]
  rw [← hl'] at b1
  rw [← hh'] at b2
  have hb1 : BoundV (lo.map a.eval) 0 l := boundS_ok b1 (fun hn => by cases lo with | none => rfl | some q => cases hn) (fun s hs => by
    cases lo with
    | none => cases hs
    | some q => cases hs; exact ⟨_, rfl, ev_den hf (g := true) rfl q⟩)
  have hb2 : BoundV (hi.map a.eval) n h := boundS_ok b2 (fun hn => by cases hi with | none => rfl | some q => cases hn) (fun s hs => by
    cases hi with
    | none => cases hs
    | some q => cases hs; exact ⟨_, rfl, ev_den hf (g := true) rfl q⟩)
  obtain ⟨i, hu, hi', rfl⟩ := sliceT_some hst
  obtain ⟨ad, cap, hv, c1, c2, c4, c3⟩ := den_own hd hlk'
  have hkn : k ≠ nx := fun e' => by subst e'; rw [hH.fresh] at hlk'; cases hlk'
  have hle : l.toNat * i.size + (h.toNat - l.toNat) * i.size ≤ cs.length := by
    rw [← Nat.add_mul]
    exact Nat.le_trans (Nat.mul_le_mul_right _ (by omega)) hn
  have hal : (appCells cs (l.toNat * i.size) ((h.toNat - l.toNat) * i.size)).length = (h.toNat - l.toNat) * i.size := by
    simp only [appCells, List.length_take, List.length_drop]; omega
  obtain ⟨g1, g2⟩ := heap_rename hH hrow' (cs' := appCells cs (l.toNat * i.size) ((h.toNat - l.toNat) * i.size)) (off := l.toNat * i.size) (by rw [hal]; exact hle) (fun j y hj => (appCells_get hj).2)
  refine ⟨.slice (if cap = l.toNat then ad else ad.map (·.add (l.toNat * i.size))) (h.toNat - l.toNat) (cap - l.toNat), w, _, .inl ?_, g1, g2, ?_⟩
  · unfold execOp
    rw [ho]
    simp only [hv, Sem.run_bind]
    have := run_sliceAt_slice hu hi' ad n cap hb1 hb2 h0 h1 h2 c1 w
    simp only [Option.map_none] at this ⊢
    rw [this]
    rfl
  · refine .own _ _ (by
      show (getH ((nx, Chunk.row e _) :: (k, .dead) :: hp') nx).live = true
      rw [getH_upd, upd_same]; rfl) ⟨by omega, by omega, fun e2 cs2 hc2 => ?_, ?_⟩
    · replace hc2 : getH ((nx, Chunk.row e _) :: (k, .dead) :: hp') nx = _ := hc2
      rw [getH_upd, upd_same] at hc2
      cases hc2
      rw [hal, hz, Nat.zero_add]
      exact Nat.mul_le_mul_right _ (by omega)
    by_cases hc : cap = l.toNat
    · exact .inl ⟨by omega, by omega⟩
    · rw [if_neg hc]
      rcases c3 with ⟨_, rfl⟩ | ⟨b, o', e2, cs2, arr, hC, hid, rfl, hw, hsz⟩
      · exact .inl ⟨by omega, by omega⟩
      · rw [hrow'] at hC; cases hC
        refine .inr ⟨b, o' + l.toNat * i.size, e, _, arr, by
          show getH ((nx, Chunk.row e _) :: (k, .dead) :: hp') nx = _
          rw [getH_upd, upd_same], by rw [upd_same, hid]; rfl, by simp only [Option.map_some, add_mk, Nat.add_zero], hw, ?_⟩
        rw [hz] at hsz ⊢
        have : l.toNat * i.size + (cap - l.toNat) * i.size = cap * i.size := by rw [← Nat.add_mul]; congr 1; omega
        omega

variable {α : Type}
theorem cut_len (ys : List α) (l h : Int) (k : 0 ≤ l ∧ l ≤ h ∧ h ≤ ((ys.length : Nat) : Int)) : (cut ys l h).length = h.toNat - l.toNat := by
  simp only [cut, List.length_take, List.length_drop]; omega
theorem cut_cells [Enc α] (ys : List α) (l h : Int) : appCells (fl ys) (l.toNat * Enc.sz α) ((cut ys l h).length * Enc.sz α) = fl (cut ys l h) := by
  rw [fl_app]
  congr 1
  simp only [cut, List.length_take, List.length_drop]
  rw [List.take_eq_take_iff]
  simp
/-- What is cut off an own slice. -/
def cutOf (P : Program) (ops : Array Oper) (fr : Fr) (hp : Hp) (l : List Oper) : Option (Option Tmp × Nat × Nat × TypeId × List SV × Nat × Int × Int) := match headOp P ops fr l with
  | some o => match o.op with
    | .slice t x lo hi none => match sliceT P t, evS true fr x with
      | some (e, z), .own k 0 n => match getH hp k, boundS (lo.map (evS true fr)) 0, boundS (hi.map (evS true fr)) n with
        | .row e' cs, some a, some b => bif e' == e && P.cellsOf e == z then some (o.dst, k, n, e, cs, z, a, b) else none
        | _, _, _ => none
      | _, _ => none
    | _ => none
  | none => none
theorem run_cutO [Enc α] {d : Bool} {l : List Oper} {acc : List Nms} {K : Fr → Hp → Nat → Prop} (ys : List α) (dst : Option Tmp) (k z : Nat) (e : TypeId) (a b : Int) (hc : cutOf P ops fr hp l = some (dst, k, ys.length, e, fl ys, z, a, b)) (hz : Enc.sz α = z) (hb : 0 ≤ a ∧ a ≤ b ∧ b ≤ ((ys.length : Nat) : Int))
    (h : RunAt P d ops (l.drop 1) (putF dst (.own nx 0 (cut ys a b).length) fr) ([(nx, .row e (fl (cut ys a b))), (k, .dead)] ++ hp) (bif d then nx + 2 else nx + 1) (acc ++ [⟨[nx, k], [k], nx, nx + 1⟩]) K) : RunAt P d ops l fr hp nx acc K := by
  unfold cutOf at hc
  split at hc
  · rename_i o ho
    split at hc
    · rename_i t x lo hi hop
      split at hc
      · rename_i e1 z1 k1 n1 hst hx
        split at hc
        · rename_i e2 cs a1 b1 hrow h1 h2
          rw [Bool.cond_eq_ite] at hc
          split at hc
          · rename_i hq
            simp only [Bool.and_eq_true, beq_iff_eq] at hq
            simp only [Option.some.injEq, Prod.mk.injEq] at hc
            obtain ⟨rfl, rfl, rfl, rfl, rfl, rfl, rfl, rfl⟩ := hc
            obtain ⟨rfl, hcz⟩ := hq
            subst hz
            have := sem_cutO (P := P) (fr := fr) (hp := hp) (nx := nx) hop hst hx hrow hcz h1 h2 hb.1 hb.2.1 hb.2.2 (by rw [fl_length]; exact Nat.le_refl _)
            rw [← cut_len ys _ _ hb, cut_cells] at this
            exact run_sem o _ ho (Nat.le_succ _) this h
          · cases hc
        · cases hc
      · cases hc
    · cases hc
  · cases hc
theorem ob_cutP [Enc α] (ys : List α) (a b : Int) (z nx k : Nat) (e : TypeId) (hz : P.cellsOf e = z) (hb : 0 ≤ a ∧ a ≤ b ∧ b ≤ ((ys.length : Nat) : Int)) : resOb (.ok (P.cellsOf e = z ∧ 0 ≤ a ∧ a ≤ b ∧ b ≤ ((ys.length : Nat) : Int)) ⟨.own k (0 + a.toNat * z) (b.toNat - a.toNat), [], nx, [k]⟩) ⟨.own k (a.toNat * z) (cut ys a b).length, [], nx, [k]⟩ :=
  ob_ok ⟨hz, hb⟩ (by rw [cut_len ys a b hb, Nat.zero_add]) rfl
theorem app_cut [Enc α] (ys : List α) (a b : Int) (z : Nat) (hz : Enc.sz α = z) : appCells (fl ys) (a.toNat * z) ((cut ys a b).length * z) = fl (cut ys a b) := by
  subst hz; exact cut_cells ys a b
theorem app_cut_le [Enc α] (ys : List α) (a b : Int) (z : Nat) (hz : Enc.sz α = z) (hb : 0 ≤ a ∧ a ≤ b ∧ b ≤ ((ys.length : Nat) : Int)) : a.toNat * z + (cut ys a b).length * z ≤ (fl ys).length := by
  subst hz
  rw [fl_length, cut_len ys a b hb, ← Nat.add_mul]
  exact Nat.mul_le_mul_right _ (by omega)
/-- A piece of an own slice is frozen. -/
theorem leS_cut [Enc α] {hp hp' : Hp} {σ : List (Nat × Nat)} {frz : List Nat} {k n n' off : Nat} (ys : List α) (a b : Int) (h0 : off = a.toNat * Enc.sz α) (h1 : n = (cut ys a b).length) (h23 : memN frz k = true ∧ rowIs (getH hp k) (fl ys)) (h4 : n' = (cut ys a b).length) : leS hp hp' σ frz (.own k off n) (.sl n' (fl (cut ys a b))) = True := by
  obtain ⟨h2, h3⟩ := h23
  refine eq_true ?_
  simp only [leS]
  subst h0; subst h1
  refine ⟨h4.symm, memN_mem h2, ?_⟩
  cases hk : getH hp k with
  | row e cs =>
    rw [hk] at h3
    simp only [rowIs] at h3
    subst h3
    exact ⟨e, fl ys, (cut ys a b).length * Enc.sz α, rfl, fl_cl ys, fun h0 => by rw [h0, Nat.zero_mul], (cut_cells ys a b).symm⟩
  | _ => rw [hk] at h3; exact h3.elim
attribute [push_cast high] leS_cut

/-- An empty slice is made. -/
def mk0Of (P : Program) (ops : Array Oper) (fr : Fr) (l : List Oper) : Option (Option Tmp × TypeId) := match headOp P ops fr l with
  | some o => match o.op with
    | .buildSlice t 0 ps => match sliceT P t with
      | some (e, _) => bif ps.size == 0 then some (o.dst, e) else none
      | none => none
    | _ => none
  | none => none
theorem sem_mk0 {o : Oper} {t e : TypeId} {z : Nat} (ho : o.op = .buildSlice t 0 #[]) (hst : sliceT P t = some (e, z)) : SemW P o fr hp nx (EqEff ⟨.own nx 0 0, [(nx, .row e [])], nx + 1, []⟩) := by
  refine semW_of ⟨Nat.le_succ _, fun p hp1 => ?_⟩ ?_
  · rcases List.mem_cons.1 hp1 with rfl | hp1
    · exact .inl ⟨Nat.le_refl _, Nat.lt_succ_self _⟩
    · cases hp1
  intro X ids w fr' hp' a hP hH hf hev hrd
  subst hP
  obtain ⟨i, hu, hi', rfl⟩ := sliceT_some hst
  obtain ⟨g1, g2⟩ := heap_alloc hH (e := e) (cs := []) (arr := #[]) (Nat.le_refl _) (fun j x hj => by simp at hj)
  refine ⟨.slice (some ⟨w.heap.size, 0, none⟩) 0 0, _, _, .inl ?_, g1, g2, ?_⟩
  · unfold execOp
    rw [ho]
    simp [Instr.buildSlice, run_underlying hu, sizeOf, typeInfo, hi', Instr.fill, newRow, show Array.range 0 = #[] from by decide]
  · refine .own _ _ (by
      show (getH ((nx, Chunk.row e _) :: hp') nx).live = true
      rw [getH_upd, upd_same]; rfl) ⟨Nat.le_refl _, by unfold maxLen; omega, fun e2 cs2 hc2 => by
        replace hc2 : getH ((nx, Chunk.row e _) :: hp') nx = _ := hc2
        rw [getH_upd, upd_same] at hc2
        cases hc2; exact Nat.zero_le _, .inl ⟨rfl, rfl⟩⟩
theorem run_mk0 {d : Bool} {l : List Oper} {acc : List Nms} {K : Fr → Hp → Nat → Prop} (α : Type) [Enc α] (dst : Option Tmp) (e : TypeId) (hc : mk0Of P ops fr l = some (dst, e))
    (h : RunAt P d ops (l.drop 1) (putF dst (.own nx 0 ([] : List α).length) fr) ([(nx, .row e (fl ([] : List α)))] ++ hp) (bif d then nx + 2 else nx + 1) (acc ++ [⟨[nx], [], nx, nx + 1⟩]) K) : RunAt P d ops l fr hp nx acc K := by
  unfold mk0Of at hc
  split at hc
  · rename_i o ho
    split at hc
    · rename_i t ps hop
      split at hc
      · rename_i e1 z1 hst
        rw [Bool.cond_eq_ite] at hc
        split at hc
        · rename_i hq
          have hps : ps = #[] := by simpa using hq
          subst hps
          simp only [Option.some.injEq, Prod.mk.injEq] at hc
          obtain ⟨rfl, rfl⟩ := hc
          exact run_sem o _ ho (Nat.le_succ _) (sem_mk0 hop hst) h
        · cases hc
      · cases hc
    · cases hc
  · cases hc

/-! ### What holds no slice that nobody writes -/
theorem nimL_app {xs ys : List SV} (h : nimL xs = true) (g : nimL ys = true) : nimL (xs ++ ys) = true := by
  induction xs with
  | nil => exact g
  | cons x xs ih => simp only [nimL, Bool.and_eq_true, List.cons_append] at h ⊢; exact ⟨h.1, ih h.2⟩
theorem nimL_fl [Enc α] (h : ∀ x : α, nimL (Enc.cells x) = true) (xs : List α) : nimL (fl xs) = true := by
  induction xs with
  | nil => rfl
  | cons x xs ih => rw [fl_cons]; exact nimL_app (h x) ih
@[push_cast] theorem nim_int (xs : List Int) : nimL (fl xs) = true := nimL_fl (fun _ => rfl) xs
@[push_cast] theorem nim_bool (xs : List Bool) : nimL (fl xs) = true := nimL_fl (fun _ => rfl) xs
/-! ### A call, at a state that is written out -/
theorem keep_getH {hp hpL : Hp} (h : (keepH hp hpL, coverH hp hpL) = (hpL, true)) : getH hp = getH hpL := by
  simp only [Prod.mk.injEq] at h
  exact funext fun k => ((keep_eq (fr := []) (fr' := []) rfl h.1 h.2).2 k).symm
theorem call_x {d : Bool} {f : FuncId} {args : List SV} {dst : Option Tmp} {ops : Array Oper} {l : List Oper} {acc : List Nms} {K : Fr → Hp → Nat → Prop} {args' : List SV} {hin : Hp} {m : Nat} {X : SV} {H : Hp} {nn : Nat}
    (spec : SpecW P f args' hin m (fun x h n => x = X ∧ h = H ∧ n = nn)) (h : headCall ops fr l = some (f, args, dst)) (hpL : Hp) (nxL : Nat) (hh : (keepH hp hpL, coverH hp hpL, nx) = (hpL, true, nxL)) (σ : List (Nat × Nat)) (bor : List Nat) (resL : SV) (hpB : Hp)
    (h1 : leL hpL hin σ bor args args') (h2 : leH hpL hin σ bor hin) (h3 : (okN 0 σ bor, okH 0 m σ hin, okC m hin σ, wfH H) = (true, true, true, true))
    (h6 : bor = [] ∨ (X.nim = true ∧ nimH H = true)) (e1 : renS (bck (getN σ) nxL) X = resL) (e2 : back (getN σ) nxL m H = hpB)
    (k : RunAt P d ops (l.drop 1) (putF dst resL fr) (hpB ++ hp) (bif d then nxL + nn + 1 else nxL + nn) (acc ++ [⟨hpB.map (·.1), bor ++ (List.range m).filterMap (getN σ), nxL, nxL + nn⟩]) K) : RunAt P d ops l fr hp nx acc K := by
  simp only [Prod.mk.injEq] at hh h3
  obtain ⟨g1, g2, rfl⟩ := hh
  obtain ⟨h3, h4, h5, h7⟩ := h3
  have eh := keep_getH (show (keepH hp hpL, coverH hp hpL) = (hpL, true) by rw [g1, g2])
  subst e1; subst e2
  obtain ⟨l1, l2⟩ := leL_get h1
  have hok : ∀ k j, getN σ k = some j → k < m ∧ liveK hin k = true := fun k j hk => by
    simp only [okC, List.all_eq_true, Bool.and_eq_true] at h5
    obtain ⟨h6, h7⟩ := h5 _ (getN_mem hk)
    exact ⟨by simpa [Nat.blt_eq] using h6, h7⟩
  have inj : ∀ k1 k2 j, getN σ k1 = some j → getN σ k2 = some j → k1 = k2 := by
    simp only [okN, Bool.and_eq_true] at h3
    exact nodupN_inj h3.1
  have fresh : ∀ k, m ≤ k → getN σ k = none ∧ getH hin k = .unborn := fun k hk => ⟨by
    cases hn : getN σ k with
    | none => rfl
    | some j => have := (hok k j hn).1; omega, okH_fresh h4 k hk⟩
  refine run_call f args dst h ?_
  cases d with
  | false =>
    refine ⟨args', hin, m, _, getN σ, bor, spec, by rw [eh]; exact sub_mk h2 h3, fresh, inj, fun k j hk => (hok k j hk).2, l1, fun i x y hx hy => by rw [eh]; exact leS_sound (l2 i x y hx hy), ⟨_, _, _, rfl, rfl, rfl⟩, (fun h => by cases h), ?_⟩
    rintro _ _ _ ⟨rfl, rfl, rfl⟩
    exact ⟨h7, h6, k⟩
  | true =>
    refine ⟨args', hin, m, _, getN σ, bor, spec, by rw [eh]; exact sub_mk h2 h3, fresh, inj, fun k j hk => (hok k j hk).2, l1, fun i x y hx hy => by rw [eh]; exact leS_sound (l2 i x y hx hy), ⟨_, _, _, rfl, rfl, rfl⟩, ?_, ?_⟩
    · rintro _ _ _ _ _ _ _ ⟨rfl, rfl, rfl⟩ ⟨rfl, rfl, rfl⟩; exact ⟨rfl, rfl, rfl⟩
    · rintro _ _ _ ⟨rfl, rfl, rfl⟩
      exact ⟨h7, h6, k⟩
attribute [push_cast] bck back List.filterMap_cons List.filterMap_nil Option.map_some Option.map_none range_0 range_1 range_2 range_3 range_4 range_5 range_6
theorem scope_np {c : Code} (h : Swp P m N c Q fr hp nx) : Swp P m N (.scope c) Q fr hp nx := h
end Go.Sx
