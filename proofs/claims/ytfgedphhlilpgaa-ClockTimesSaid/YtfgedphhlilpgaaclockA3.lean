/-
  Lemmas, put together: GY, GC, GD, GE, GF, GH, GI, GJ, GK.
  No conditions.
-/
import Derived.Test.YtfgedphhlilpgaaclockA2
import Derived.Deep.AppendSrc
import Derived.Lib.Overlaps
import Derived.Lib.AppendZerosOnto
import Derived.Laws.IdiomCopy
import Derived.Shelf.Spec.SlicesInsert
set_option linter.unusedSimpArgs false
set_option linter.unusedVariables false
section
namespace Go.Sx
open Go.RowKit
set_option linter.unusedVariables false
variable {P : Program} {m N : Nat} {Q : SPost} {fr : Fr} {hp : Hp} {nx : Nat} {ops : Array Oper}

theorem back_f {l : List Oper} {K : Fr → Hp → Nat → Prop} (h : RunAt P false ops l fr hp nx [] K) : runOps P ops l fr hp nx (EqW K) := h
theorem back_t {l : List Oper} {acc : List Nms} {K : Fr → Hp → Nat → Prop} (h : RunAt P true ops l fr hp nx acc K) : runE P ops l fr hp nx acc (EqW K) := h
theorem chk_sx {ρ : Type} {b : Bool} {X : Option ρ} {o : ρ} {G : Prop} (h : (bif b then X else none) = some o) (k : b = true → X = some o → G) : G := by
  cases b with
  | false => cases h
  | true => exact k rfl h
theorem or_use {p b : Bool} (h : (!p || b) = true) (hp : p = true) : b = true := by subst hp; exact h
theorem split_s {ρ : Type} {i n : Int} {X Y : Option ρ} {o : ρ} {G : Prop} (h : (bif i == n then X else Y) = some o) (k1 : i = n → X = some o → G) (k2 : ¬ i = n → Y = some o → G) : G := by
  cases hb : (i == n) with
  | true => rw [hb] at h; exact k1 (by simpa using hb) h
  | false => rw [hb] at h; exact k2 (by simpa using hb) h
theorem run_br {d : Bool} {l : List Oper} {acc : List Nms} {K : Fr → Hp → Nat → Prop} {ρ : Type} {b : Bool} {X Y : Option ρ} {o : ρ} (h : (bif b then X else Y) = some o) (t : Nat) (ht : getF fr t = .v (.bool b) ∨ getF fr t = .gd true (.v (.bool b)))
    (k1 : b = true → X = some o → RunAt P d ops l ((t, bif (match getF fr t with | .gd _ _ => true | _ => false) then .gd true (.v (.bool true)) else .v (.bool true)) :: fr) hp nx acc K)
    (k2 : b = false → Y = some o → RunAt P d ops l ((t, bif (match getF fr t with | .gd _ _ => true | _ => false) then .gd true (.v (.bool false)) else .v (.bool false)) :: fr) hp nx acc K) : RunAt P d ops l fr hp nx acc K :=
  run_split t b ht (fun hb => k1 hb (by rw [hb] at h; exact h)) (fun hb => k2 hb (by rw [hb] at h; exact h))
/-- A number is the one that it is. -/
theorem run_at {d : Bool} {l : List Oper} {acc : List Nms} {K : Fr → Hp → Nat → Prop} (t : Nat) (kd : IntKind) (i n : Int) (e : i = n) (h : getF fr t = .v (.int kd i)) (k : RunAt P d ops l ((t, .v (.int kd n)) :: fr) hp nx acc K) : RunAt P d ops l fr hp nx acc K := by
  subst e
  have e : getF ((t, .v (.int kd i)) :: fr) = getF fr := by
    funext q
    simp only [getF]
    by_cases hq : t = q
    · subst hq; simp [h]
    · rw [show (t == q) = false from by simpa using hq, cond_false]
  cases d with
  | false => exact runOps_congr (eqW_only K) l _ _ _ _ e k
  | true => exact runD_congr (frOnly_draw ·) l _ _ _ _ _ e k
theorem run_at_g {d : Bool} {l : List Oper} {acc : List Nms} {K : Fr → Hp → Nat → Prop} (t : Nat) (kd : IntKind) (i n : Int) (e : i = n) (h : getF fr t = .gd true (.v (.int kd i))) (k : RunAt P d ops l ((t, .gd true (.v (.int kd n))) :: fr) hp nx acc K) : RunAt P d ops l fr hp nx acc K := by
  subst e
  have e : getF ((t, .gd true (.v (.int kd i))) :: fr) = getF fr := by
    funext q
    simp only [getF]
    by_cases hq : t = q
    · subst hq; simp [h]
    · rw [show (t == q) = false from by simpa using hq, cond_false]
  cases d with
  | false => exact runOps_congr (eqW_only K) l _ _ _ _ e k
  | true => exact runD_congr (frOnly_draw ·) l _ _ _ _ _ e k

theorem ex_cast {R : SPost} {id : Nat} (hx : ∀ id, R (.exit id) = Q (.exit id)) (h : Q (.exit id) fr hp nx) : R (.exit id) fr hp nx := by rw [hx]; exact h
theorem rt_cast {R : SPost} (hx : R .ret = Q .ret) (h : Q .ret fr hp nx) : R .ret fr hp nx := by rw [hx]; exact h

/-! ### What a function gives back -/
def resV (P : Program) (fr : Fr) (hp : Hp) (nx : Nat) : List ResultVar → Option (List SV)
  | [] => some []
  | .tmp t :: r => (resV P fr hp nx r).map fun xs => getF fr t :: xs
  | .cell a t :: r => match getF fr a with
    | .ptr k off => match getH hp k with
      | .row _ cs => bif takeB P t cs off then (match takeS P t cs off [k] nx with
        | .ok _ e => (resV P fr hp nx r).map fun xs => e.val :: xs
        | .bad => none) else none
      | _ => none
    | _ => none
theorem resV_ok : ∀ (rs : List ResultVar) (xs : List SV) (K : List SV → Prop), resV P fr hp nx rs = some xs → K xs → resW P fr hp nx rs K
  | [], xs, K, h, k => by cases h; exact k
  | .tmp t :: r, xs, K, h, k => by
    simp only [resV, Option.map_eq_some_iff] at h
    obtain ⟨ys, h1, rfl⟩ := h
    exact resV_ok r ys (fun xs => K (getF fr t :: xs)) h1 k
  | .cell a t :: r, xs, K, h, k => by
    simp only [resV] at h
    unfold resW loadS
    split at h
    · rename_i kk off ha
      rw [ha]
      simp only
      split at h
      · rename_i e cs hk
        rw [hk]
        simp only [rowS]
        rw [Bool.cond_eq_ite] at h
        split at h
        · rename_i hb
          split at h
          · rename_i s e ht
            rw [ht]
            simp only [Option.map_eq_some_iff] at h
            obtain ⟨ys, h1, rfl⟩ := h
            exact ⟨takeB_ok ht hb, resV_ok r ys (fun xs => K (e.val :: xs)) h1 k⟩
          · cases h
        · cases h
      · cases h
    · cases h
theorem ret_at {rs : List ResultVar} {Post : SV → Hp → Nat → Prop} (x : SV) (h : (resV P fr hp nx rs).map oneOf = some x) (k : RetW P m Post x hp) : endS P rs m Post .ret fr hp nx := by
  obtain ⟨ys, h1, rfl⟩ := Option.map_eq_some_iff.1 h
  exact resV_ok rs ys _ h1 k
theorem ret_an {rs : List ResultVar} {Post : SV → Hp → Nat → Prop} (x : SV) (h : (resV P fr hp nx rs).map oneOf = some x) (k : RetW P m Post x hp) : endS P rs m Post .normal fr hp nx := by
  obtain ⟨ys, h1, rfl⟩ := Option.map_eq_some_iff.1 h
  exact resV_ok rs ys _ h1 k

/-! ### Named outcomes -/
theorem allP_nil : AllP [] := trivial
theorem allP_cons {p : Prop} {l : List Prop} (h : p) (t : AllP l) : AllP (p :: l) := ⟨h, t⟩
theorem ob_ok {s : Prop} {v v' : SV} {u u' : Hp} {n : Nat} {r : List Nat} (hs : s) (hv : v = v') (hu : u = u') : resOb (.ok s ⟨v, u, n, r⟩) ⟨v', u', n, r⟩ := ⟨hs, hv, hu, rfl, rfl⟩
variable {α : Type}
theorem ob_ix_l [Enc α] (xs : List α) (z nx : Nat) (i : Int) (k : 0 ≤ i ∧ i < ((xs.length : Nat) : Int)) : resOb (.ok (0 ≤ i ∧ i < ((xs.length : Nat) : Int)) ⟨.iptr (fl xs) (i.toNat * z), [], nx, []⟩) ⟨.iptr (fl xs) (i.toNat * z), [], nx, []⟩ := ob_ok k rfl rfl
theorem ob_ix_o (kk n off z nx : Nat) (i : Int) (k : 0 ≤ i ∧ i < ((n : Nat) : Int)) : resOb (.ok (0 ≤ i ∧ i < ((n : Nat) : Int)) ⟨.ptr kk (off + i.toNat * z), [], nx, [kk]⟩) ⟨.ptr kk (off + i.toNat * z), [], nx, [kk]⟩ := ob_ok k rfl rfl
theorem ob_ld [Enc α] (xs : List α) (i : Int) (z j off : Nat) (k : 0 ≤ i ∧ i < ((xs.length : Nat) : Int)) (hz : Enc.sz α = z) (hj : j < z) (ho : off = i.toNat * z + j) (d v : SV) (hv : (Enc.cells (ix xs i)).getD j d = v) (nx : Nat) (rds : List Nat) : resOb (.ok (off < (fl xs).length) ⟨(fl xs).getD off d, [], nx, rds⟩) ⟨v, [], nx, rds⟩ := by
  subst hz
  have hlt : i.toNat < xs.length := by omega
  have hle : (i.toNat + 1) * Enc.sz α ≤ xs.length * Enc.sz α := Nat.mul_le_mul_right _ hlt
  rw [Nat.add_mul] at hle
  refine ob_ok ?_ ?_ rfl
  · rw [fl_length]; omega
  · rw [ho, ← hv]; exact fl_cell xs i j k d hj
theorem ob_ldw [Enc α] (xs : List α) (i : Int) (z off : Nat) (k : 0 ≤ i ∧ i < ((xs.length : Nat) : Int)) (hz : Enc.sz α = z) (ho : off = i.toNat * z) (v : List SV) (hv : Enc.cells (ix xs i) = v) (nx : Nat) (rds : List Nat) : resOb (.ok (off + z ≤ (fl xs).length) ⟨.agg (((fl xs).drop off).take z), [], nx, rds⟩) ⟨.agg v, [], nx, rds⟩ := by
  subst hz
  have hlt : i.toNat < xs.length := by omega
  have hle : (i.toNat + 1) * Enc.sz α ≤ xs.length * Enc.sz α := Nat.mul_le_mul_right _ hlt
  rw [Nat.add_mul] at hle
  refine ob_ok ?_ ?_ rfl
  · rw [fl_length]; omega
  · rw [ho, ← hv]; exact congrArg SV.agg (fl_whole xs i k)
theorem ob_st [Enc α] (xs : List α) (i : Int) (z j off : Nat) (k : 0 ≤ i ∧ i < ((xs.length : Nat) : Int)) (hz : Enc.sz α = z) (vs : List SV) (y : α) (hj : j + vs.length ≤ z) (ho : off = i.toNat * z + j) (hy : splice (Enc.cells (ix xs i)) j vs = Enc.cells y) (kk nx e t : Nat) (hs : szT P t = some vs.length) (h1 : vs.all oneS = true) :
    resOb (.ok (szT P t = some vs.length ∧ vs.all oneS = true ∧ off + vs.length ≤ (fl xs).length) ⟨.any, [(kk, .row e (splice (fl xs) off vs))], nx, [kk]⟩) ⟨.any, [(kk, .row e (fl (xs.set i.toNat y)))], nx, [kk]⟩ := by
  subst hz
  have hlt : i.toNat < xs.length := by omega
  have hle : (i.toNat + 1) * Enc.sz α ≤ xs.length * Enc.sz α := Nat.mul_le_mul_right _ hlt
  rw [Nat.add_mul] at hle
  refine ob_ok ⟨hs, h1, ?_⟩ rfl ?_
  · rw [fl_length]; omega
  · rw [ho, fl_set xs i k y j vs hj hy]
theorem ob_cut [Enc α] (xs : List α) (l h : Int) (z nx : Nat) (hz : Enc.sz α = z) (k : 0 ≤ l ∧ l ≤ h ∧ h ≤ ((xs.length : Nat) : Int)) : resOb (.ok (0 ≤ l ∧ l ≤ h ∧ h ≤ ((xs.length : Nat) : Int)) ⟨.sl (h.toNat - l.toNat) (appCells (fl xs) (l.toNat * z) ((h.toNat - l.toNat) * z)), [], nx, []⟩) ⟨.sl (cut xs l h).length (fl (cut xs l h)), [], nx, []⟩ := by
  subst hz
  exact ob_ok k (fl_cut xs l h k) rfl
/-- append, to an own slice. -/
theorem ob_app [Enc α] (xs ys : List α) (z B : Nat) (hz : Enc.sz α = z) (news : List SV) (m : Nat) (hn : news = fl ys) (hm : m = ys.length) (s0 : Prop) (h0 : s0) (e : TypeId) (hB : P.bytesOf e = B) (hpos : 0 < B) (hle : (xs ++ ys).length * B ≤ 140737488355328) (kk nx : Nat) (rds : List Nat) :
    resOb (.ok (s0 ∧ e = e ∧ news.length = m * z ∧ news.all oneS = true ∧ 0 + xs.length * z ≤ (fl xs).length ∧ 0 < P.bytesOf e ∧ (xs.length + m) * P.bytesOf e ≤ 140737488355328) ⟨.own nx 0 (xs.length + m), [(nx, .row e (appCells (fl xs) 0 (xs.length * z) ++ news)), (kk, .dead)], nx + 1, kk :: rds⟩)
      ⟨.own nx 0 (xs ++ ys).length, [(nx, .row e (fl (xs ++ ys))), (kk, .dead)], nx + 1, kk :: rds⟩ := by
  subst hz; subst hn; subst hm; subst hB
  rw [List.length_append] at hle ⊢
  refine ob_ok ⟨h0, rfl, fl_length ys, fl_one ys, by rw [fl_length, Nat.zero_add]; exact Nat.le_refl _, hpos, hle⟩ rfl ?_
  rw [appCells, List.drop_zero, fl_take_all xs _ rfl, fl_append]
theorem ob_app0 [Enc α] (ys : List α) (z B : Nat) (hz : Enc.sz α = z) (news : List SV) (m : Nat) (hn : news = fl ys) (hm : m = ys.length) (s0 : Prop) (h0 : s0) (e : TypeId) (hB : P.bytesOf e = B) (hpos : 0 < B) (hle : ys.length * B ≤ 140737488355328) (nx : Nat) (rds : List Nat) :
    resOb (.ok (s0 ∧ news.length = m * z ∧ news.all oneS = true ∧ 0 < P.bytesOf e ∧ m * P.bytesOf e ≤ 140737488355328) ⟨.own nx 0 m, [(nx, .row e news)], nx + 1, rds⟩) ⟨.own nx 0 ys.length, [(nx, .row e (fl ys))], nx + 1, rds⟩ := by
  subst hz; subst hn; subst hm; subst hB
  exact ob_ok ⟨h0, fl_length ys, fl_one ys, hpos, hle⟩ rfl rfl
theorem app_own [Enc α] (ys : List α) (z : Nat) (hz : Enc.sz α = z) : appCells (fl ys) 0 (ys.length * z) = fl ys := by
  subst hz; rw [appCells, List.drop_zero, fl_take_all ys _ rfl]
theorem app_own_le [Enc α] (ys : List α) (z : Nat) (hz : Enc.sz α = z) : 0 + ys.length * z ≤ (fl ys).length := by
  subst hz; rw [fl_length, Nat.zero_add]; exact Nat.le_refl _
theorem app_sl [Enc α] (ys : List α) (z : Nat) (hz : Enc.sz α = z) : (fl ys).length = ys.length * z := by
  subst hz; exact fl_length ys
theorem ob_mk [Enc α] (n : Int) (e : TypeId) (B : Nat) (hB : P.bytesOf e = B) (zs : List SV) (hzs : zs = Enc.cells (default : α)) (z : Nat) (hz : zs.length = z) (hpos : 0 < z) (k : 0 ≤ n ∧ n ≤ 4611686018427387904 ∧ (B : Int) * n ≤ 140737488355328) (nx : Nat) :
    resOb (.ok (0 ≤ n ∧ n ≤ n ∧ n ≤ 4611686018427387904 ∧ (P.bytesOf e : Int) * n ≤ 140737488355328 ∧ zs.length = z ∧ 0 < z) ⟨.own nx 0 n.toNat, [(nx, .row e ((List.range n.toNat).flatMap fun _ => zs))], nx + 1, []⟩) ⟨.own nx 0 (List.replicate n.toNat (default : α)).length, [(nx, .row e (fl (List.replicate n.toNat (default : α))))], nx + 1, []⟩ := by
  subst hB
  refine ob_ok ⟨k.1, Int.le_refl _, k.2.1, k.2.2, hz, hpos⟩ (by rw [List.length_replicate]) (by rw [fl_zeros n.toNat zs hzs])
theorem ob_look (d : TypeDesc) (hd : keyOk d (.int .i64 0) = true) (k : Int) (mm : List (Int × Int)) (kk nx : Nat) : resOb (.ok (keyOk d (.int .i64 k) = true ∧ (mi mm).all (fun p => keyAlike (.int .i64 k) p.1) = true) ⟨lookV (.int .i64 0) (.int .i64 k) (mi mm), [], nx, [kk]⟩) ⟨.v (.int .i64 (miGet mm k)), [], nx, [kk]⟩ :=
  ob_ok ⟨hd, mi_alike mm k⟩ (mi_lookV mm k) rfl
theorem ob_look2 (d : TypeDesc) (hd : keyOk d (.int .i64 0) = true) (k : Int) (mm : List (Int × Int)) (kk nx : Nat) : resOb (.ok (keyOk d (.int .i64 k) = true ∧ (mi mm).all (fun p => keyAlike (.int .i64 k) p.1) = true) ⟨.tup [lookV (.int .i64 0) (.int .i64 k) (mi mm), .v (.bool (lookB (.int .i64 k) (mi mm)))], [], nx, [kk]⟩) ⟨.tup [.v (.int .i64 (miGet mm k)), .v (.bool (miHas mm k))], [], nx, [kk]⟩ :=
  ob_ok ⟨hd, mi_alike mm k⟩ (by rw [mi_lookV, mi_lookB]) rfl
theorem ob_mset (d : TypeDesc) (hd : keyOk d (.int .i64 0) = true) (k v : Int) (mm : List (Int × Int)) (kk nx : Nat) : resOb (.ok (keyOk d (.int .i64 k) = true ∧ (mi mm).all (fun p => keyAlike (.int .i64 k) p.1) = true) ⟨.any, [(kk, .map (updL (.int .i64 k) (.v (.int .i64 v)) (mi mm)))], nx, [kk]⟩) ⟨.any, [(kk, .map (mi (miSet mm k v)))], nx, [kk]⟩ :=
  ob_ok ⟨hd, mi_alike mm k⟩ rfl (by rw [mi_updL])
theorem ob_p {s : Prop} {v : SV} {nx : Nat} {r : List Nat} (hs : s) : resOb (.ok s ⟨v, [], nx, r⟩) ⟨v, [], nx, r⟩ := ob_ok hs rfl rfl
/-! ### Short forms for what a program prints -/
theorem rs {d : Bool} {l : List Oper} {acc : List Nms} {K : Fr → Hp → Nat → Prop} (n : Nat) (sc : List (Option Eff)) (obs : List Prop) (h : ((evalS P d ops n l sc ⟨fr, hp, nx, acc, []⟩).map (·.obs)) = some obs) (ho : AllP obs)
    (k : RunAt P d ops (l.drop n) (getSeg (evalS P d ops n l sc ⟨fr, hp, nx, acc, []⟩)).fr (getSeg (evalS P d ops n l sc ⟨fr, hp, nx, acc, []⟩)).hp (getSeg (evalS P d ops n l sc ⟨fr, hp, nx, acc, []⟩)).nx (getSeg (evalS P d ops n l sc ⟨fr, hp, nx, acc, []⟩)).acc K) : RunAt P d ops l fr hp nx acc K := by
  obtain ⟨s, h1, h2⟩ := Option.map_eq_some_iff.1 h
  exact run_seg n sc obs (by rw [h1]; rfl) (by rw [h1]; exact h2) ho k
theorem rf {l : List Oper} {acc : List Nms} {K : Fr → Hp → Nat → Prop} (fr' : Fr) (hp' : Hp) (nx' : Nat) (h : (l, keepF fr fr', keepH hp hp', coverH hp hp', nx) = ([], fr', hp', true, nx')) (k : K fr' hp' nx') : RunAt P false ops l fr hp nx acc K := by
  simp only [Prod.mk.injEq] at h
  exact run_f fr' hp' nx' h.1 h.2.1 h.2.2.1 h.2.2.2.1 h.2.2.2.2 k
theorem rt {l : List Oper} {acc : List Nms} {K : Fr → Hp → Nat → Prop} (fr' : Fr) (hp' : Hp) (nx' : Nat) (h5 : P.follows .mixedOrders = true) (h : (l, keepF fr fr', keepH hp hp', coverH hp hp', nx, orderOk ops acc (aheads ops.toList)) = ([], fr', hp', true, nx', true)) (k : K fr' hp' nx') : RunAt P true ops l fr hp nx acc K := by
  simp only [Prod.mk.injEq] at h
  exact run_t fr' hp' nx' h.1 h.2.1 h.2.2.1 h.2.2.2.1 h.2.2.2.2.1 h5 h.2.2.2.2.2 k
end Go.Sx
end

section
namespace Go.Sx
open Go.RowKit
theorem rowIs_self (e : TypeId) (cs : List SV) : rowIs (.row e cs) cs = True := eq_true rfl
theorem ble_dec (a b : Nat) : Nat.ble a b = decide (a ≤ b) := by rw [Bool.eq_iff_iff]; simp
attribute [push_cast] ble_dec cond_true cond_false Bool.and_true Bool.true_and Bool.or_true Bool.true_or Bool.or_false Bool.false_or Bool.and_false Bool.false_and Bool.and_self Bool.not_true Bool.not_false decide_true decide_false
attribute [push_cast] List.map_cons List.map_nil List.length_cons List.length_nil List.cons_append List.nil_append List.length_append List.append_nil List.length_set List.length_replicate
attribute [push_cast high] fl_take_all leS_frz
attribute [push_cast] true_or or_true false_or or_false List.all_cons List.all_nil nimC nimL
attribute [push_cast] fl_cut_pre fl_length fl_nil fl_merge fl_snoc_list fl_snoc_int fl_snoc_bool fl_cons_int renL_fl sz_int sz_bool sz_list cells_int cells_bool cells_lst memN rowIs_self mi_nil stM_mi
attribute [push_cast] leS leL leF leC leH leM getN_cons getN_nil getF_cons getF_nil getH_cons getH_nil stL SV.st stM clL SV.cl fl_st fl_cl fl_one Chunk.live eq_self Option.some.injEq and_self and_true true_and SV.nim nimL nimH nimC renS renL renC
end Go.Sx
end

section
namespace Go.Sx
open Go.RowKit
set_option linter.unusedVariables false
variable {P : Program} {m N : Nat} {Q : SPost} {fr : Fr} {hp : Hp} {nx : Nat} {ops : Array Oper}

/-- An operation that is carried out, by its meaning. -/
theorem stepW_sem {dt : Bool} {o : Oper} {K : SV → Hp → Nat → List Nat → Prop} (hd : doneS ops fr o = some true) (hg : o.guard.isNone || !quietP P o.op = true) (hc : callOf true fr o.op = none)  (hs : SemX dt P o fr hp nx K) : stepW dt P ops o fr hp nx K := by
  have core : coreW dt P true o fr hp nx K := by
    unfold coreW
    rw [hc]
    exact .inl ⟨rfl, hs⟩
  unfold stepW
  unfold doneS at hd
  cases hq : o.guard with
  | none => exact core
  | some jw =>
    rw [hq] at hd hg
    simp only at hd ⊢
    rw [hd]
    have : quietP P o.op = false := by simpa using hg
    simp only [this, cond_false]
    exact ⟨fun _ => core, (fun he => by cases he)⟩

/-- A slice is held against nil. -/
def nilOf (P : Program) (fr : Fr) : List Oper → Option (Nat × Option Tmp)
  | o :: _ => match o.guard, o.op with
    | none, .binOp .eql t x (.const (.slice none 0 0)) _ => match P.underlying t, evS true fr x with
      | some (.slice _), .sl n _ => some (n, o.dst)
      | _, _ => none
    | _, _ => none
  | [] => none
theorem run_nilSl {P : Program} {t e : TypeId} (hu : P.underlying t = some (.slice e)) (a : Option Addr) (n cap : Nat) (w : World) :
    (binOp .eql t (.slice a n cap) (.slice none 0 0)).run P w = .ok (.bool a.isNone) w := by
  have h0 : ∀ D, (Op.equalIn (D + 1) t (.slice a n cap) (.slice none 0 0)).run P w = .ok a.isNone w := fun D => by
    cases a <;> simp [Op.equalIn, run_underlying hu]
  have h : (Op.equal t (.slice a n cap) (.slice none 0 0)).run P w = .ok a.isNone w := h0 9999
  simp only [binOp, Sem.run_bind, h]; rfl
theorem run_nil {l : List Oper} {acc : List Nms} {K : Fr → Hp → Nat → Prop} (n : Nat) (dst : Option Tmp) (h : nilOf P fr l = some (n, dst))
    (k1 : n = 0 → RunAt P false ops (l.drop 1) (putF dst (.v (.bool true)) fr) hp nx acc K) (k2 : RunAt P false ops (l.drop 1) (putF dst (.v (.bool false)) fr) hp nx acc K) : RunAt P false ops l fr hp nx acc K := by
  cases l with
  | nil => cases h
  | cons o rest =>
    simp only [nilOf] at h
    split at h
    · rename_i t x ty hg ho
      split at h
      · rename_i et n' cs hu hx
        simp only [Option.some.injEq, Prod.mk.injEq] at h
        obtain ⟨rfl, rfl⟩ := h
        show stepW false P ops o fr hp nx _
        refine stepW_sem (by unfold doneS; rw [hg]) (by rw [hg]; rfl) (by rw [ho]; rfl) ?_
        intro X ids w fr' hp' a hP h1 h2 h3 h4 h5 h6 KK Q hK
        subst hP
        have hx' : evS true fr' x = .sl n' cs := by
          rw [← hx]
          exact evS_local fun t' ht => h4 t' (mem_names (o := o.op) (by rw [ho]; simp [Op.operands]) ht)
        have hev := ev_den h3 (g := true) rfl x
        rw [hx'] at hev
        obtain ⟨ad, cap, hv, hnil⟩ : ∃ (ad : Option Addr) (cap : Nat), a.eval x = .slice ad n' cap ∧ (ad = none → n' = 0) := by
          rcases den_sl hev with ⟨ad, cap, hv, _, _, hd⟩
          generalize hgen : a.eval x = y at hev hv
          cases hev with
          | sl0 hc => exact ⟨_, _, rfl, fun _ => rfl⟩
          | sl b o cap c hb hn hcap hc hx => exact ⟨_, _, rfl, fun he => by cases he⟩
        have hrun : (execOp a.eval o).run X.P w = .ok (.value (.bool ad.isNone)) w := by
          unfold execOp
          rw [ho]
          simp only [Sem.run_bind]
          rw [hv, show a.eval (.const (.slice none 0 0)) = .slice none 0 0 from rfl, eqGuard_plain (by simp) (by simp)]
          simp only [Result.andThen_ok, run_nilSl hu, Sem.run_pure]
        refine wp_of_soundN (.inl hrun) ?_
        cases ad with
        | none => exact hK (.v (.bool true)) [] nx [] _ w ids (k1 (hnil rfl)) ⟨Nat.le_refl _, fun p hp => by cases hp⟩ h1 (Ext.refl _ _ _ _) .v
        | some q => exact hK (.v (.bool false)) [] nx [] _ w ids k2 ⟨Nat.le_refl _, fun p hp => by cases hp⟩ h1 (Ext.refl _ _ _ _) .v
      · cases h
    · cases h

/-! ### An operation that stands next, by its meaning -/
def headOp (P : Program) (ops : Array Oper) (fr : Fr) : List Oper → Option Oper
  | o :: _ => match doneS ops fr o, callOf true fr o.op with
    | some true, none => bif o.guard.isNone || !quietP P o.op then some o else none
    | _, _ => none
  | [] => none
theorem run_sem {d : Bool} {l : List Oper} {acc : List Nms} {K : Fr → Hp → Nat → Prop} (o : Oper) (e : Eff) (h : headOp P ops fr l = some o) (hle : nx ≤ e.nx) (hs : SemW P o fr hp nx (EqEff e))
    (k : RunAt P d ops (l.drop 1) (putF o.dst e.val fr) (e.upd ++ hp) (bif d then e.nx + 1 else e.nx) (acc ++ [⟨e.upd.map (·.1), e.rds, nx, e.nx⟩]) K) : RunAt P d ops l fr hp nx acc K := by
  cases l with
  | nil => cases h
  | cons o' rest =>
    simp only [headOp] at h
    split at h
    · rename_i h1 h2
      rw [Bool.cond_eq_ite] at h
      split at h
      · rename_i h3
        cases h
        cases d with
        | false => exact stepW_sem h1 (by simpa using h3) h2 (K := fun val upd nx' _ => runOps P ops rest (putF o.dst val fr) (upd ++ hp) nx' (EqW K)) (hs.mono rfl fun v u n r he => by obtain ⟨rfl, rfl, rfl, rfl⟩ := he; exact k)
        | true => exact stepW_sem (dt := true) (hp := hp) (nx := nx) (P := P) h1 (by simpa using h3) h2 (K := fun val upd nx' rds => runE P ops rest (putF o.dst val fr) (upd ++ hp) (nx' + 1) (acc ++ [Nms.mk (upd.map (·.1)) rds nx nx']) (EqW K)) ⟨e, hle, k, hs⟩
      · cases h
    · cases h
/-- .. by what the machine makes of it. -/
theorem semW_of {o : Oper} {e : Eff} (hk : UpdOk hp nx e.upd e.nx e.rds)
    (h : ∀ (X : Cx) (ids : Ids) (w : World) (fr' : Fr) (hp' : Hp) (a : Act), X.P = P → HeapX X hp' nx ids w → (∀ d, DenX X hp' ids w (getF fr' d) (a.tmps.getD d undef)) → (∀ x, x ∈ o.op.operands.toList → evS true fr' x = evS true fr x) → (∀ k ∈ e.rds, getH hp' k = getH hp k) →
      SoundN X hp' ids w ((execOp a.eval o).run X.P w) e) : SemW P o fr hp nx (EqEff e) := by
  intro X ids w fr' hp' a hP h1 h2 h3 h4 h5 h6 KK Q hK
  obtain ⟨h7, h8⟩ := h6 e.val e.upd e.nx e.rds ⟨rfl, rfl, rfl, rfl⟩
  obtain ⟨x, w', ids', g1, g2, g3, g4⟩ := h X ids w fr' hp' a hP ⟨h1, h5, h2⟩ h3 (fun x hx => evS_local fun t ht => h4 t (mem_names hx ht)) h8
  subst hP
  exact wp_of_soundN g1 (hK _ _ _ _ _ _ _ ⟨rfl, rfl, rfl, rfl⟩ hk g2 g3 g4)

/-- A piece of an own slice, which is no more: the rest of it is forgotten. -/
theorem sem_cutO {o : Oper} {t e : TypeId} {x : Operand} {lo hi : Option Operand} {k z n : Nat} {cs : List SV} {l h : Int} (ho : o.op = .slice t x lo hi none) (hst : sliceT P t = some (e, z)) (hx : evS true fr x = .own k 0 n) (hrow : getH hp k = .row e cs) (hz : P.cellsOf e = z)
    (b1 : boundS (lo.map (evS true fr)) 0 = some l) (b2 : boundS (hi.map (evS true fr)) n = some h) (h0 : 0 ≤ l) (h1 : l ≤ h) (h2 : h ≤ n) (hn : n * z ≤ cs.length) :
    SemW P o fr hp nx (EqEff ⟨.own nx 0 (h.toNat - l.toNat), [(nx, .row e (appCells cs (l.toNat * z) ((h.toNat - l.toNat) * z))), (k, .dead)], nx + 1, [k]⟩) := by
  have hlk : (getH hp k).live = true := by rw [hrow]; rfl
  refine semW_of ⟨Nat.le_succ _, fun p hp1 => ?_⟩ ?_
  · rcases List.mem_cons.1 hp1 with rfl | hp1
    · exact .inl ⟨Nat.le_refl _, Nat.lt_succ_self _⟩
    · rcases List.mem_cons.1 hp1 with rfl | hp1
      · exact .inr ⟨List.mem_cons_self .., hlk⟩
      · cases hp1
  intro X ids w fr' hp' a hP hH hf hev hrd
  subst hP
  have hx' : evS true fr' x = .own k 0 n := by rw [hev x (by rw [ho]; simp [Op.operands]), hx]
  have hrow' : getH hp' k = .row e cs := by rw [hrd k (List.mem_cons_self ..), hrow]
  have hlk' : (getH hp' k).live = true := by rw [hrow']; rfl
  have hd := ev_den hf (g := true) rfl x
  rw [hx'] at hd
  have hl' : lo.map (evS true fr') = lo.map (evS true fr) := by
    cases lo with
    | none => rfl
    | some q => simp only [Option.map_some]; rw [hev q (by rw [ho]; simp [Op.operands])]
  have hh' : hi.map (evS true fr') = hi.map (evS true fr) := by
    cases hi with
    | none => rfl
    | some q => simp only [Option.map_some]; rw [hev q (by rw [ho]; simp [Op.operands])]
  rw [← hl'] at b1
  rw [← hh'] at b2
  have hb1 : BoundV (lo.map a.eval) 0 l := boundS_ok b1 (fun hn => by cases lo with | none => rfl | some q => cases hn) (fun s hs => by
    cases lo with
    | none => cases hs
    | some q => cases hs; exact ⟨_, rfl, ev_den hf (g := true) rfl q⟩)
  have hb2 : BoundV (hi.map a.eval) n h := boundS_ok b2 (fun hn => by cases hi with | none => rfl | some q => cases hn) (fun s hs => by
    cases hi with
    | none => cases hs
    | some q => cases hs; exact ⟨_, rfl, ev_den hf (g := true) rfl q⟩)
  obtain ⟨i, hu, hi', rfl⟩ := sliceT_some hst
  obtain ⟨ad, cap, hv, c1, c2, c4, c3⟩ := den_own hd hlk'
  have hkn : k ≠ nx := fun e' => by subst e'; rw [hH.fresh] at hlk'; cases hlk'
  have hle : l.toNat * i.size + (h.toNat - l.toNat) * i.size ≤ cs.length := by
    rw [← Nat.add_mul]
    exact Nat.le_trans (Nat.mul_le_mul_right _ (by omega)) hn
  have hal : (appCells cs (l.toNat * i.size) ((h.toNat - l.toNat) * i.size)).length = (h.toNat - l.toNat) * i.size := by
    simp only [appCells, List.length_take, List.length_drop]; omega
  obtain ⟨g1, g2⟩ := heap_rename hH hrow' (cs' := appCells cs (l.toNat * i.size) ((h.toNat - l.toNat) * i.size)) (off := l.toNat * i.size) (by rw [hal]; exact hle) (fun j y hj => (appCells_get hj).2)
  refine ⟨.slice (if cap = l.toNat then ad else ad.map (·.add (l.toNat * i.size))) (h.toNat - l.toNat) (cap - l.toNat), w, _, .inl ?_, g1, g2, ?_⟩
  · unfold execOp
    rw [ho]
    simp only [hv, Sem.run_bind]
    have := run_sliceAt_slice hu hi' ad n cap hb1 hb2 h0 h1 h2 c1 w
    simp only [Option.map_none] at this ⊢
    rw [this]
    rfl
  · refine .own _ _ (by
      show (getH ((nx, Chunk.row e _) :: (k, .dead) :: hp') nx).live = true
      rw [getH_upd, upd_same]; rfl) ⟨by omega, by omega, fun e2 cs2 hc2 => ?_, ?_⟩
    · replace hc2 : getH ((nx, Chunk.row e _) :: (k, .dead) :: hp') nx = _ := hc2
      rw [getH_upd, upd_same] at hc2
      cases hc2
      rw [hal, hz, Nat.zero_add]
      exact Nat.mul_le_mul_right _ (by omega)
    by_cases hc : cap = l.toNat
    · exact .inl ⟨by omega, by omega⟩
    · rw [if_neg hc]
      rcases c3 with ⟨_, rfl⟩ | ⟨b, o', e2, cs2, arr, hC, hid, rfl, hw, hsz⟩
      · exact .inl ⟨by omega, by omega⟩
      · rw [hrow'] at hC; cases hC
        refine .inr ⟨b, o' + l.toNat * i.size, e, _, arr, by
          show getH ((nx, Chunk.row e _) :: (k, .dead) :: hp') nx = _
          rw [getH_upd, upd_same], by rw [upd_same, hid]; rfl, by simp only [Option.map_some, add_mk, Nat.add_zero], hw, ?_⟩
        rw [hz] at hsz ⊢
        have : l.toNat * i.size + (cap - l.toNat) * i.size = cap * i.size := by rw [← Nat.add_mul]; congr 1; omega
        omega

variable {α : Type}
theorem cut_len (ys : List α) (l h : Int) (k : 0 ≤ l ∧ l ≤ h ∧ h ≤ ((ys.length : Nat) : Int)) : (cut ys l h).length = h.toNat - l.toNat := by
  simp only [cut, List.length_take, List.length_drop]; omega
theorem cut_cells [Enc α] (ys : List α) (l h : Int) : appCells (fl ys) (l.toNat * Enc.sz α) ((cut ys l h).length * Enc.sz α) = fl (cut ys l h) := by
  rw [fl_app]
  congr 1
  simp only [cut, List.length_take, List.length_drop]
  rw [List.take_eq_take_iff]
  simp
/-- What is cut off an own slice. -/
def cutOf (P : Program) (ops : Array Oper) (fr : Fr) (hp : Hp) (l : List Oper) : Option (Option Tmp × Nat × Nat × TypeId × List SV × Nat × Int × Int) := match headOp P ops fr l with
  | some o => match o.op with
    | .slice t x lo hi none => match sliceT P t, evS true fr x with
      | some (e, z), .own k 0 n => match getH hp k, boundS (lo.map (evS true fr)) 0, boundS (hi.map (evS true fr)) n with
        | .row e' cs, some a, some b => bif e' == e && P.cellsOf e == z then some (o.dst, k, n, e, cs, z, a, b) else none
        | _, _, _ => none
      | _, _ => none
    | _ => none
  | none => none
theorem run_cutO [Enc α] {d : Bool} {l : List Oper} {acc : List Nms} {K : Fr → Hp → Nat → Prop} (ys : List α) (dst : Option Tmp) (k z : Nat) (e : TypeId) (a b : Int) (hc : cutOf P ops fr hp l = some (dst, k, ys.length, e, fl ys, z, a, b)) (hz : Enc.sz α = z) (hb : 0 ≤ a ∧ a ≤ b ∧ b ≤ ((ys.length : Nat) : Int))
    (h : RunAt P d ops (l.drop 1) (putF dst (.own nx 0 (cut ys a b).length) fr) ([(nx, .row e (fl (cut ys a b))), (k, .dead)] ++ hp) (bif d then nx + 2 else nx + 1) (acc ++ [⟨[nx, k], [k], nx, nx + 1⟩]) K) : RunAt P d ops l fr hp nx acc K := by
  unfold cutOf at hc
  split at hc
  · rename_i o ho
    split at hc
    · rename_i t x lo hi hop
      split at hc
      · rename_i e1 z1 k1 n1 hst hx
        split at hc
        · rename_i e2 cs a1 b1 hrow h1 h2
          rw [Bool.cond_eq_ite] at hc
          split at hc
          · rename_i hq
            simp only [Bool.and_eq_true, beq_iff_eq] at hq
            simp only [Option.some.injEq, Prod.mk.injEq] at hc
            obtain ⟨rfl, rfl, rfl, rfl, rfl, rfl, rfl, rfl⟩ := hc
            obtain ⟨rfl, hcz⟩ := hq
            subst hz
            have := sem_cutO (P := P) (fr := fr) (hp := hp) (nx := nx) hop hst hx hrow hcz h1 h2 hb.1 hb.2.1 hb.2.2 (by rw [fl_length]; exact Nat.le_refl _)
            rw [← cut_len ys _ _ hb, cut_cells] at this
            exact run_sem o _ ho (Nat.le_succ _) this h
          · cases hc
        · cases hc
      · cases hc
    · cases hc
  · cases hc
theorem ob_cutP [Enc α] (ys : List α) (a b : Int) (z nx k : Nat) (e : TypeId) (hz : P.cellsOf e = z) (hb : 0 ≤ a ∧ a ≤ b ∧ b ≤ ((ys.length : Nat) : Int)) : resOb (.ok (P.cellsOf e = z ∧ 0 ≤ a ∧ a ≤ b ∧ b ≤ ((ys.length : Nat) : Int)) ⟨.own k (0 + a.toNat * z) (b.toNat - a.toNat), [], nx, [k]⟩) ⟨.own k (a.toNat * z) (cut ys a b).length, [], nx, [k]⟩ :=
  ob_ok ⟨hz, hb⟩ (by rw [cut_len ys a b hb, Nat.zero_add]) rfl
theorem app_cut [Enc α] (ys : List α) (a b : Int) (z : Nat) (hz : Enc.sz α = z) : appCells (fl ys) (a.toNat * z) ((cut ys a b).length * z) = fl (cut ys a b) := by
  subst hz; exact cut_cells ys a b
theorem app_cut_le [Enc α] (ys : List α) (a b : Int) (z : Nat) (hz : Enc.sz α = z) (hb : 0 ≤ a ∧ a ≤ b ∧ b ≤ ((ys.length : Nat) : Int)) : a.toNat * z + (cut ys a b).length * z ≤ (fl ys).length := by
  subst hz
  rw [fl_length, cut_len ys a b hb, ← Nat.add_mul]
  exact Nat.mul_le_mul_right _ (by omega)
/-- A piece of an own slice is frozen. -/
theorem leS_cut [Enc α] {hp hp' : Hp} {σ : List (Nat × Nat)} {frz : List Nat} {k n n' off : Nat} (ys : List α) (a b : Int) (h0 : off = a.toNat * Enc.sz α) (h1 : n = (cut ys a b).length) (h23 : memN frz k = true ∧ rowIs (getH hp k) (fl ys)) (h4 : n' = (cut ys a b).length) : leS hp hp' σ frz (.own k off n) (.sl n' (fl (cut ys a b))) = True := by
  obtain ⟨h2, h3⟩ := h23
  refine eq_true ?_
  simp only [leS]
  subst h0; subst h1
  refine ⟨h4.symm, memN_mem h2, ?_⟩
  cases hk : getH hp k with
  | row e cs =>
    rw [hk] at h3
    simp only [rowIs] at h3
    subst h3
    exact ⟨e, fl ys, (cut ys a b).length * Enc.sz α, rfl, fl_cl ys, fun h0 => by rw [h0, Nat.zero_mul], (cut_cells ys a b).symm⟩
  | _ => rw [hk] at h3; exact h3.elim
attribute [push_cast high] leS_cut

/-- An empty slice is made. -/
def mk0Of (P : Program) (ops : Array Oper) (fr : Fr) (l : List Oper) : Option (Option Tmp × TypeId) := match headOp P ops fr l with
  | some o => match o.op with
    | .buildSlice t 0 ps => match sliceT P t with
      | some (e, _) => bif ps.size == 0 then some (o.dst, e) else none
      | none => none
    | _ => none
  | none => none
theorem sem_mk0 {o : Oper} {t e : TypeId} {z : Nat} (ho : o.op = .buildSlice t 0 #[]) (hst : sliceT P t = some (e, z)) : SemW P o fr hp nx (EqEff ⟨.own nx 0 0, [(nx, .row e [])], nx + 1, []⟩) := by
  refine semW_of ⟨Nat.le_succ _, fun p hp1 => ?_⟩ ?_
  · rcases List.mem_cons.1 hp1 with rfl | hp1
    · exact .inl ⟨Nat.le_refl _, Nat.lt_succ_self _⟩
    · cases hp1
  intro X ids w fr' hp' a hP hH hf hev hrd
  subst hP
  obtain ⟨i, hu, hi', rfl⟩ := sliceT_some hst
  obtain ⟨g1, g2⟩ := heap_alloc hH (e := e) (cs := []) (arr := #[]) (Nat.le_refl _) (fun j x hj => by simp at hj)
  refine ⟨.slice (some ⟨w.heap.size, 0, none⟩) 0 0, _, _, .inl ?_, g1, g2, ?_⟩
  · unfold execOp
    rw [ho]
    simp [Instr.buildSlice, run_underlying hu, sizeOf, typeInfo, hi', Instr.fill, newRow, show Array.range 0 = #[] from by decide]
  · refine .own _ _ (by
      show (getH ((nx, Chunk.row e _) :: hp') nx).live = true
      rw [getH_upd, upd_same]; rfl) ⟨Nat.le_refl _, by unfold maxLen; omega, fun e2 cs2 hc2 => by
        replace hc2 : getH ((nx, Chunk.row e _) :: hp') nx = _ := hc2
        rw [getH_upd, upd_same] at hc2
        cases hc2; exact Nat.zero_le _, .inl ⟨rfl, rfl⟩⟩
theorem run_mk0 {d : Bool} {l : List Oper} {acc : List Nms} {K : Fr → Hp → Nat → Prop} (α : Type) [Enc α] (dst : Option Tmp) (e : TypeId) (hc : mk0Of P ops fr l = some (dst, e))
    (h : RunAt P d ops (l.drop 1) (putF dst (.own nx 0 ([] : List α).length) fr) ([(nx, .row e (fl ([] : List α)))] ++ hp) (bif d then nx + 2 else nx + 1) (acc ++ [⟨[nx], [], nx, nx + 1⟩]) K) : RunAt P d ops l fr hp nx acc K := by
  unfold mk0Of at hc
  split at hc
  · rename_i o ho
    split at hc
    · rename_i t ps hop
      split at hc
      · rename_i e1 z1 hst
        rw [Bool.cond_eq_ite] at hc
        split at hc
        · rename_i hq
          have hps : ps = #[] := by simpa using hq
          subst hps
          simp only [Option.some.injEq, Prod.mk.injEq] at hc
          obtain ⟨rfl, rfl⟩ := hc
          exact run_sem o _ ho (Nat.le_succ _) (sem_mk0 hop hst) h
        · cases hc
      · cases hc
    · cases hc
  · cases hc

/-! ### What holds no slice that nobody writes -/
theorem nimL_app {xs ys : List SV} (h : nimL xs = true) (g : nimL ys = true) : nimL (xs ++ ys) = true := by
  induction xs with
  | nil => exact g
  | cons x xs ih => simp only [nimL, Bool.and_eq_true, List.cons_append] at h ⊢; exact ⟨h.1, ih h.2⟩
theorem nimL_fl [Enc α] (h : ∀ x : α, nimL (Enc.cells x) = true) (xs : List α) : nimL (fl xs) = true := by
  induction xs with
  | nil => rfl
  | cons x xs ih => rw [fl_cons]; exact nimL_app (h x) ih
@[push_cast] theorem nim_int (xs : List Int) : nimL (fl xs) = true := nimL_fl (fun _ => rfl) xs
@[push_cast] theorem nim_bool (xs : List Bool) : nimL (fl xs) = true := nimL_fl (fun _ => rfl) xs
/-! ### A call, at a state that is written out -/
theorem keep_getH {hp hpL : Hp} (h : (keepH hp hpL, coverH hp hpL) = (hpL, true)) : getH hp = getH hpL := by
  simp only [Prod.mk.injEq] at h
  exact funext fun k => ((keep_eq (fr := []) (fr' := []) rfl h.1 h.2).2 k).symm
theorem call_x {d : Bool} {f : FuncId} {args : List SV} {dst : Option Tmp} {ops : Array Oper} {l : List Oper} {acc : List Nms} {K : Fr → Hp → Nat → Prop} {args' : List SV} {hin : Hp} {m : Nat} {X : SV} {H : Hp} {nn : Nat}
    (spec : SpecW P f args' hin m (fun x h n => x = X ∧ h = H ∧ n = nn)) (h : headCall ops fr l = some (f, args, dst)) (hpL : Hp) (nxL : Nat) (hh : (keepH hp hpL, coverH hp hpL, nx) = (hpL, true, nxL)) (σ : List (Nat × Nat)) (bor : List Nat) (resL : SV) (hpB : Hp)
    (h1 : leL hpL hin σ bor args args') (h2 : leH hpL hin σ bor hin) (h3 : (okN 0 σ bor, okH 0 m σ hin, okC m hin σ, wfH H) = (true, true, true, true))
    (h6 : bor = [] ∨ (X.nim = true ∧ nimH H = true)) (e1 : renS (bck (getN σ) nxL) X = resL) (e2 : back (getN σ) nxL m H = hpB)
    (k : RunAt P d ops (l.drop 1) (putF dst resL fr) (hpB ++ hp) (bif d then nxL + nn + 1 else nxL + nn) (acc ++ [⟨hpB.map (·.1), bor ++ (List.range m).filterMap (getN σ), nxL, nxL + nn⟩]) K) : RunAt P d ops l fr hp nx acc K := by
  simp only [Prod.mk.injEq] at hh h3
  obtain ⟨g1, g2, rfl⟩ := hh
  obtain ⟨h3, h4, h5, h7⟩ := h3
  have eh := keep_getH (show (keepH hp hpL, coverH hp hpL) = (hpL, true) by rw [g1, g2])
  subst e1; subst e2
  obtain ⟨l1, l2⟩ := leL_get h1
  have hok : ∀ k j, getN σ k = some j → k < m ∧ liveK hin k = true := fun k j hk => by
    simp only [okC, List.all_eq_true, Bool.and_eq_true] at h5
    obtain ⟨h6, h7⟩ := h5 _ (getN_mem hk)
    exact ⟨by simpa [Nat.blt_eq] using h6, h7⟩
  have inj : ∀ k1 k2 j, getN σ k1 = some j → getN σ k2 = some j → k1 = k2 := by
    simp only [okN, Bool.and_eq_true] at h3
    exact nodupN_inj h3.1
  have fresh : ∀ k, m ≤ k → getN σ k = none ∧ getH hin k = .unborn := fun k hk => ⟨by
    cases hn : getN σ k with
    | none => rfl
    | some j => have := (hok k j hn).1; omega, okH_fresh h4 k hk⟩
  refine run_call f args dst h ?_
  cases d with
  | false =>
    refine ⟨args', hin, m, _, getN σ, bor, spec, by rw [eh]; exact sub_mk h2 h3, fresh, inj, fun k j hk => (hok k j hk).2, l1, fun i x y hx hy => by rw [eh]; exact leS_sound (l2 i x y hx hy), ⟨_, _, _, rfl, rfl, rfl⟩, (fun h => by cases h), ?_⟩
    rintro _ _ _ ⟨rfl, rfl, rfl⟩
    exact ⟨h7, h6, k⟩
  | true =>
    refine ⟨args', hin, m, _, getN σ, bor, spec, by rw [eh]; exact sub_mk h2 h3, fresh, inj, fun k j hk => (hok k j hk).2, l1, fun i x y hx hy => by rw [eh]; exact leS_sound (l2 i x y hx hy), ⟨_, _, _, rfl, rfl, rfl⟩, ?_, ?_⟩
    · rintro _ _ _ _ _ _ _ ⟨rfl, rfl, rfl⟩ ⟨rfl, rfl, rfl⟩; exact ⟨rfl, rfl, rfl⟩
    · rintro _ _ _ ⟨rfl, rfl, rfl⟩
      exact ⟨h7, h6, k⟩
attribute [push_cast] bck back List.filterMap_cons List.filterMap_nil Option.map_some Option.map_none range_0 range_1 range_2 range_3 range_4 range_5 range_6
theorem scope_np {c : Code} (h : Swp P m N c Q fr hp nx) : Swp P m N (.scope c) Q fr hp nx := h
end Go.Sx
end

section
namespace Go.Sx
open Go.RowKit
set_option linter.unusedVariables false
variable {P : Program} {m N : Nat} {Q : SPost} {fr : Fr} {hp : Hp} {nx : Nat} {ops : Array Oper}

theorem SemW.local {o : Oper} {fr2 : Fr} {hp2 : Hp} {K K' : SV → Hp → Nat → List Nat → Prop} (h : SemW P o fr hp nx K) (hf : ∀ t ∈ namesOf o.op, getF fr2 t = getF fr t) (hh : getH hp2 = getH hp) (hK : ∀ v u n r, K v u n r → K' v u n r) : SemW P o fr2 hp2 nx K' :=
  fun X ids w fr' hp' a hP h1 h2 h3 h4 h5 h6 KK Q h7 => h X ids w fr' hp' a hP h1 h2 h3 (fun t ht => by rw [h4 t ht, hf t ht]) h5 (fun v u n r hk => by
    have := h6 v u n r (hK v u n r hk); rw [hh] at this; exact this) KK Q (fun v u n r x w' ids' hk hu => h7 v u n r x w' ids' (hK v u n r hk) ⟨hu.le, by rw [hh]; exact hu.keys⟩)
theorem SemX.local {dt : Bool} {o : Oper} {fr2 : Fr} {hp2 : Hp} {K K' : SV → Hp → Nat → List Nat → Prop} (h : SemX dt P o fr hp nx K) (hf : ∀ t ∈ namesOf o.op, getF fr2 t = getF fr t) (hh : getH hp2 = getH hp) (hK : ∀ v u n r, K v u n r → K' v u n r) : SemX dt P o fr2 hp2 nx K' := by
  cases dt with
  | false => exact SemW.local (K := K) h hf hh hK
  | true =>
    obtain ⟨e, h1, h2, h3⟩ := h
    exact ⟨e, h1, hK _ _ _ _ h2, h3.local hf hh fun _ _ _ _ h => h⟩
theorem stepW_weak {fr' : Fr} {hp' : Hp} {dt : Bool} {o : Oper} (hn : ∀ t ∈ looks ops o, getF fr' t = getF fr t) (hh : getH hp' = getH hp) {K K' : SV → Hp → Nat → List Nat → Prop} (hK : ∀ v u n r, K v u n r → K' v u n r) (hs : stepW dt P ops o fr hp nx K) : stepW dt P ops o fr' hp' nx K' := by
  have hnm : ∀ t ∈ namesOf o.op, getF fr' t = getF fr t := fun t ht => hn t (by unfold looks; exact List.mem_append_right _ ht)
  have core : ∀ {g : Bool}, coreW dt P g o fr hp nx K → coreW dt P g o fr' hp' nx K' := by
    intro g hc
    unfold coreW at hc ⊢
    rw [callOf_local hnm]
    cases hcl : callOf g fr o.op with
    | some c =>
      rw [hcl] at hc
      obtain ⟨args', hin, m, Post, σ, bor, h1, h2, h3, h4, h5, h6, h7, h8, h9, h10⟩ := hc
      exact ⟨args', hin, m, Post, σ, bor, h1, by rw [hh]; exact h2, h3, h4, h5, h6, by rw [hh]; exact h7, h8, h9, fun res hp' nx' hp => ⟨(h10 res hp' nx' hp).1, (h10 res hp' nx' hp).2.1, hK _ _ _ _ (h10 res hp' nx' hp).2.2⟩⟩
    | none =>
      rw [hcl] at hc
      simp only at hc ⊢
      rcases hc with hc | hc
      · exact .inl ⟨hc.1, hc.2.local hnm hh hK⟩
      refine .inr ?_
      cases hop : opS P g fr hp nx o.type o.op with
      | bad => rw [hop] at hc; exact hc.elim
      | ok s e =>
        rw [hop] at hc
        rw [opS_local hop hnm (fun k _ => by rw [hh])]
        exact ⟨hc.1, hK _ _ _ _ hc.2⟩
  unfold stepW at hs ⊢
  cases hg : o.guard with
  | none => rw [hg] at hs; exact core hs
  | some jw =>
    rw [hg] at hs
    simp only at hs ⊢
    rw [guardS_local hg hn]
    cases hgs : guardS ops fr jw.1 jw.2 with
    | none => rw [hgs] at hs; exact hs
    | some g =>
      rw [hgs] at hs
      simp only at hs ⊢
      cases hq : quietP P o.op with
      | true =>
        rw [hq] at hs
        simp only [cond_true] at hs ⊢
        rcases hs with hs | hs
        · exact .inl ⟨hs.1, hK _ _ _ _ hs.2⟩
        · refine .inr ?_
          cases hop : opS P g fr hp nx o.type o.op with
          | bad => rw [hop] at hs; exact hs.elim
          | ok s e =>
            rw [hop] at hs
            rw [opS_local hop hnm (fun k _ => by rw [hh])]
            simp only at hs ⊢
            cases hu : e.upd with
            | nil => rw [hu] at hs; exact ⟨hs.1, hK _ _ _ _ hs.2⟩
            | cons a b => rw [hu] at hs; exact hs
      | false =>
        rw [hq] at hs
        exact ⟨fun hg => core (hs.1 hg), fun hg => hK _ _ _ _ (hs.2 hg)⟩
/-- What is told of the slots is so, or is told no more, of a slot that nobody looks at. -/
def Less (ops : Array Oper) (l : List Oper) (fr' fr : Fr) : Prop := ∀ d, getF fr' d = getF fr d ∨ (getF fr' d = .any ∧ ∀ o ∈ l, d ∉ looks ops o)
theorem Less.names {l : List Oper} {o : Oper} {fr' : Fr} (h : Less ops (o :: l) fr' fr) : ∀ t ∈ looks ops o, getF fr t = getF fr' t := fun t ht => by
  rcases h t with h | h
  · exact h.symm
  · exact absurd ht (h.2 o (List.mem_cons_self ..))
theorem Less.put {l : List Oper} {o : Oper} {fr' : Fr} (h : Less ops (o :: l) fr' fr) (d : Option Tmp) (v : SV) : Less ops l (putF d v fr') (putF d v fr) := by
  intro t
  cases d with
  | none => exact (h t).imp id fun h => ⟨h.1, fun o' ho => h.2 o' (List.mem_cons_of_mem _ ho)⟩
  | some d =>
    simp only [putF, getF]
    cases hd : (d == t) with
    | true => exact .inl rfl
    | false => exact (h t).imp id fun h => ⟨h.1, fun o' ho => h.2 o' (List.mem_cons_of_mem _ ho)⟩
theorem eqW_less {K : Fr → Hp → Nat → Prop} {fr' : Fr} {hp' : Hp} (h : Less ops [] fr' fr) (hh : getH hp = getH hp') (hk : EqW K fr' hp' nx) : EqW K fr hp nx := by
  obtain ⟨f, q, ⟨h1, h2⟩, hk⟩ := hk
  refine ⟨f, q, ⟨fun d => ?_, fun k => by rw [h2 k, hh]⟩, hk⟩
  rcases h1 d with h1 | h1
  · rcases h d with h | h
    · exact .inl (h1.trans h)
    · exact .inr (h1.trans h.1)
  · exact .inr h1
theorem app_getH {hp hp' : Hp} (h : getH hp = getH hp') (u : Hp) : getH (u ++ hp) = getH (u ++ hp') := funext fun k => getH_app fun _ => by rw [h]
theorem runOps_less {K : Fr → Hp → Nat → Prop} : ∀ (l : List Oper) (fr' fr : Fr) (hp' hp : Hp) (nx : Nat), Less ops l fr' fr → getH hp = getH hp' → runOps P ops l fr' hp' nx (EqW K) → runOps P ops l fr hp nx (EqW K)
  | [], fr', fr, hp', hp, nx, h, hh, hr => eqW_less h hh hr
  | o :: l, fr', fr, hp', hp, nx, h, hh, hr => stepW_weak h.names hh (fun v u n r hk => runOps_less l _ _ _ _ _ (h.put o.dst v) (app_getH hh u) hk) hr
theorem runE_less {K : Fr → Hp → Nat → Prop} : ∀ (l : List Oper) (fr' fr : Fr) (hp' hp : Hp) (nx : Nat) (acc : List Nms), Less ops l fr' fr → getH hp = getH hp' → runE P ops l fr' hp' nx acc (EqW K) → runE P ops l fr hp nx acc (EqW K)
  | [], fr', fr, hp', hp, nx, acc, h, hh, hr => ⟨hr.1, eqW_less h hh hr.2⟩
  | o :: l, fr', fr, hp', hp, nx, acc, h, hh, hr => stepW_weak h.names hh (fun v u n r hk => runE_less l _ _ _ _ _ _ (h.put o.dst v) (app_getH hh u) hk) hr
def isAny : SV → Bool
  | .any => true
  | _ => false
def coverF (ops : Array Oper) (l : List Oper) (fr fr' : Fr) : Bool := l.all fun o => (looks ops o).all fun t => fr'.any (fun p => p.1 == t) || isAny (getF fr t)
theorem keepF_at (fr : Fr) (d : Nat) : ∀ ks : Fr, (ks.any fun p => p.1 == d) = true → getF (keepF fr ks) d = getF fr d
  | [], h => by simp at h
  | p :: r, h => by
    simp only [keepF, List.map_cons, getF]
    by_cases hp : p.1 = d
    · subst hp; simp
    · have hb : (p.1 == d) = false := by simpa using hp
      rw [hb, cond_false]
      refine keepF_at fr d r ?_
      simp only [List.any_cons, hb, Bool.false_or] at h
      exact h
/-- The state, written out. -/
theorem rn {d : Bool} {l : List Oper} {acc : List Nms} {K : Fr → Hp → Nat → Prop} (i : Nat) (fr' : Fr) (hp' : Hp) (nx' : Nat) (h : (l, keepF fr fr', coverF ops l fr fr', keepH hp hp', coverH hp hp', nx) = (ops.toList.drop i, fr', true, hp', true, nx'))
    (k : RunAt P d ops (ops.toList.drop i) fr' hp' nx' acc K) : RunAt P d ops l fr hp nx acc K := by
  simp only [Prod.mk.injEq] at h
  obtain ⟨h1, h2, h3, h4, h5, h6⟩ := h
  rw [← h1] at k
  subst h6
  have hh : getH hp = getH hp' := funext fun k => ((keep_eq (fr := []) (fr' := []) rfl h4 h5).2 k).symm
  have hl : Less ops l fr' fr := fun t => by
    by_cases hm : (fr'.any fun p => p.1 == t) = true
    · left
      have := keepF_at fr t fr' hm
      rw [h2] at this; exact this
    · rcases keepF_get fr t fr' with hk | hk
      · left; rw [h2] at hk; exact hk
      · rw [h2] at hk
        by_cases hl : ∃ o ∈ l, t ∈ looks ops o
        · obtain ⟨o, ho, ht⟩ := hl
          left
          have := List.all_eq_true.1 (List.all_eq_true.1 h3 o ho) t ht
          have hm' : (fr'.any fun p => p.1 == t) = false := Bool.eq_false_iff.2 hm
          rw [hm', Bool.false_or] at this
          rw [hk]
          cases hg : getF fr t <;> rw [hg] at this <;> first | rfl | cases this
        · exact .inr ⟨hk, fun o ho ht => hl ⟨o, ho, ht⟩⟩
  cases d with
  | false => exact runOps_less l _ _ _ _ _ hl hh k
  | true => exact runE_less l _ _ _ _ _ _ hl hh k
@[push_cast] theorem ren_mi (τ : Nat → Nat) (m : List (Int × Int)) : (mi m).map (fun p => (p.1, renS τ p.2)) = mi m := by
  induction m with
  | nil => rfl
  | cons p r ih => simp only [mi, List.map_cons] at ih ⊢; rw [ih]; rfl
end Go.Sx
end

section
namespace Go.Sx
open Go.RowKit
set_option linter.unusedVariables false
variable {P : Program} {m N : Nat} {Q : SPost} {fr : Fr} {hp : Hp} {nx : Nat} {ops : Array Oper}

/-- Cells of a row, written from a place on. -/
def putC (cs : List SV) (o : Nat) (vs : List SV) : List SV := cs.take o ++ vs ++ cs.drop (o + vs.length)
theorem putC_length {cs : List SV} {o : Nat} {vs : List SV} (h : o + vs.length ≤ cs.length) : (putC cs o vs).length = cs.length := by
  simp only [putC, List.length_append, List.length_take, List.length_drop]; omega

theorem heap_put {X : Cx} {ids : Ids} {w : World} (h : HeapX X hp nx ids w) {k b o off : Nat} {e : TypeId} {cs news : List SV} {vs : List Value} {arr : Array Value} (hk : getH hp k = .row e cs) (hi : ids k = some (b, o)) (hw : w.heap[b]? = some (.cells arr e (0, 0)))
    (hl : off + news.length ≤ cs.length) (hlen : news.length = vs.length) (h1 : ∀ v ∈ vs, v.oneCell' = true) (hd : ∀ i x, news[i]? = some x → DenX X hp ids w x (vs.getD i undef)) :
    HeapC X ([(k, .row e (putC cs off news))] ++ hp) ids (w.setCells b (o + off) vs) ∧ ExtX X hp ids w ([(k, .row e (putC cs off news))] ++ hp) ids (w.setCells b (o + off) vs) := by
  have hc := h.st.ch k
  rw [hk] at hc
  simp only [DenC, hi] at hc
  obtain ⟨arr', ha', hl', hx'⟩ := hc
  rw [hw] at ha'; cases ha'
  rw [setCells_eq_setRow w b (o + off) e vs arr hw (by omega) h1]
  have hget : ∀ q, (arr.toList.take (o + off) ++ vs ++ arr.toList.drop (o + off + vs.length)).toArray.getD q undef =
      if q < o + off then arr.getD q undef else if q < o + off + vs.length then vs.getD (q - (o + off)) undef else arr.getD q undef := by
    intro q
    have hoo : o + off ≤ arr.size := by omega
    simp only [Array.getD_eq_getD_getElem?, List.getElem?_toArray]
    by_cases hq : q < o + off
    · rw [if_pos hq, List.append_assoc, List.getElem?_append_left (by simp; omega), List.getElem?_take, if_pos hq]
      simp
    · rw [if_neg hq, List.append_assoc, List.getElem?_append_right (by simp; omega)]
      simp only [List.length_take, Array.length_toList, Nat.min_eq_left hoo]
      by_cases hq2 : q < o + off + vs.length
      · rw [if_pos hq2, List.getElem?_append_left (by omega)]
        simp [List.getD_eq_getElem?_getD]
      · rw [if_neg hq2, List.getElem?_append_right (by omega), List.getElem?_drop]
        simp only [Array.getElem?_toList]
        congr 2; omega
  refine heap_turn h hk hi (cs' := putC cs off news) hw (arr' := (arr.toList.take (o + off) ++ vs ++ arr.toList.drop (o + off + vs.length)).toArray)
    (by simp only [List.size_toArray, List.length_append, List.length_take, List.length_drop, Array.length_toList]; omega) (by rw [putC_length hl]; exact hl') (by rw [putC_length hl]; exact Nat.le_refl _) (fun j x hj => ?_)
  rw [hget]
  unfold putC at hj
  rw [List.append_assoc, List.getElem?_append] at hj
  rw [List.length_take, Nat.min_eq_left (by omega)] at hj
  split at hj
  · rename_i hlt
    rw [List.getElem?_take, if_pos hlt] at hj
    rw [if_pos (by omega)]
    exact hx' j x hj
  · rename_i hlt
    rw [if_neg (by omega)]
    rw [List.getElem?_append] at hj
    split at hj
    · rename_i hlt2
      rw [if_pos (by omega), show o + j - (o + off) = j - off from by omega]
      exact hd _ x hj
    · rename_i hlt2
      rw [if_neg (by omega)]
      rw [List.getElem?_drop] at hj
      have := hx' _ x hj
      rwa [show off + news.length + (j - off - news.length) = j from by omega] at this

/-- clear, of a piece of an own row. -/
theorem run_clear' {P : Program} {t e ty : TypeId} {i : TypeInfo} {z : Value} (hu : P.underlying t = some (.slice e)) (hi : P.info? e = some i) (hz : i.zero = some z) (b o n c : Nat) (w : World)
    (h1 : ∀ v ∈ (Builtin.zeroCells z.cells n).toList, v.oneCell' = true) (hc : ∀ j, j < (Builtin.zeroCells z.cells n).size → (w.cell? ⟨b, o + j, none⟩).isSome = true) (hf : ∀ j, j < (Builtin.zeroCells z.cells n).size → w.frozen? ⟨b, o + j, none⟩ = false) :
    (Builtin.clear_ #[t] ty #[.slice (some ⟨b, o, none⟩) n c]).run P w = .ok (.tuple #[]) (w.setCells b o (Builtin.zeroCells z.cells n).toList) := by
  cases n with
  | zero =>
    have : (Builtin.zeroCells z.cells 0).toList = [] := by simp [Builtin.zeroCells]
    rw [this]
    simp [Builtin.clear_, run_underlying hu, World.setCells]
  | succ n =>
    have hst := run_storeCells_cells (P := P) b o (Builtin.zeroCells z.cells (n + 1)).toList 0 w (by simpa using hc) (by simpa using hf) h1
    simp only [Nat.add_zero] at hst
    have hv : (zeroValue e).run P w = .ok z w := by simp [zeroValue, typeInfo, hi, hz]
    simp [Builtin.clear_, run_underlying hu, hv, hst]
theorem zeroCells_made (z : Array Value) (n : Nat) : Builtin.zeroCells z n = madeCells z (n * z.size) := rfl
theorem sem_clear {o : Oper} {t e : TypeId} {x : Operand} {k off n z : Nat} {cs zs : List SV} (ho : o.op = .call ⟨.builtin .clear, #[x], #[t]⟩) (hst : sliceT P t = some (e, z)) (hx : evS true fr x = .own k off n) (hrow : getH hp k = .row e cs) (hzs : zeroT P e = some zs)
    (hz : zs.length = z) (hpos : 0 < z) (h1 : zs.all oneS = true) (hn : off + n * z ≤ cs.length) :
    SemW P o fr hp nx (EqEff ⟨.any, [(k, .row e (putC cs off ((List.range n).flatMap fun _ => zs)))], nx, [k]⟩) := by
  have hlk : (getH hp k).live = true := by rw [hrow]; rfl
  refine semW_of ⟨Nat.le_refl _, fun p hp1 => ?_⟩ ?_
  · rcases List.mem_cons.1 hp1 with rfl | hp1
    · exact .inr ⟨List.mem_cons_self .., hlk⟩
    · cases hp1
  intro X ids w fr' hp' a hP hH hf hev hrd
  subst hP
  have hx' : evS true fr' x = .own k off n := by rw [hev x (by rw [ho]; simp [Op.operands, Call.operands]), hx]
  have hrow' : getH hp' k = .row e cs := by rw [hrd k (List.mem_cons_self ..), hrow]
  have hlk' : (getH hp' k).live = true := by rw [hrow']; rfl
  have hd := ev_den hf (g := true) rfl x
  rw [hx'] at hd
  obtain ⟨i, hu, hi', rfl⟩ := sliceT_some hst
  obtain ⟨i2, zv, hi2, hzv, rfl⟩ := zeroT_some hzs
  rw [hi'] at hi2; cases hi2
  have hsz : zv.cells.size = i.size := by simpa using hz
  obtain ⟨ad, cap, hv, c1, c2, c4, c3⟩ := den_own hd hlk'
  have hlen : ((List.range n).flatMap fun _ => zv.cells.toList.map SV.v).length = n * i.size := by rw [length_flatMap_const]; simp [hsz]
  have hrun0 : ∀ w', (Builtin.clear_ #[t] o.type #[a.eval x]).run X.P w = .ok (.tuple #[]) w' → (execOp a.eval o).run X.P w = .ok (.value (.tuple #[])) w' := fun w' hr => by
    unfold execOp
    rw [ho]
    simp only [resolve, Sem.run_bind, Sem.run_pure, Result.andThen_ok, invoke, builtin, List.map_toArray, List.map_cons, List.map_nil, hr]
  have none_ : n = 0 → SoundN X hp' ids w ((execOp a.eval o).run X.P w) ⟨.any, [(k, .row e (putC cs off ((List.range n).flatMap fun _ => zv.cells.toList.map SV.v)))], nx, [k]⟩ := fun h0 => by
    subst h0
    have hcs : putC cs off ((List.range 0).flatMap fun _ => zv.cells.toList.map SV.v) = cs := by simp [putC, List.take_append_drop]
    have hCC : getH ([(k, Chunk.row e cs)] ++ hp') = getH hp' := by
      rw [List.singleton_append, getH_upd]; funext j
      by_cases hj : j = k
      · subst hj; rw [upd_same, hrow']
      · rw [upd_ne _ _ hj]
    refine ⟨.tuple #[], w, ids, .inl (hrun0 w ?_), ?_, ?_, .any⟩
    · rw [hv]
      cases ad <;> simp [Builtin.clear_, run_underlying hu]
    · rw [hcs]; exact ⟨by rw [hCC]; exact hH.st, by rw [hCC]; exact hH.kept⟩
    · rw [hcs]; simp only [ExtX, hCC]; exact Ext.refl _ _ _ _
  rcases c3 with ⟨hn0, rfl⟩ | ⟨b, o', e2, cs2, arr, hC, hid, rfl, hw, hcapsz⟩
  · exact none_ hn0
  · rw [hrow'] at hC; cases hC
    have hc := hH.st.ch k
    rw [hrow'] at hc
    simp only [DenC, hid] at hc
    obtain ⟨arr', ha', hl', hx2⟩ := hc
    rw [hw] at ha'; cases ha'
    have hden := madeCells_den (ids := ids) (w := w) X.P (getH hp') (Im X.w0 X.I0 X.W0 (getH hp') ids w) zv n (by omega)
    rw [← zeroCells_made] at hden
    have hzsz : (Builtin.zeroCells zv.cells n).size = n * i.size := by rw [size_zeroCells, hsz]
    have hone : ∀ v ∈ (Builtin.zeroCells zv.cells n).toList, v.oneCell' = true := fun v hvm => by
      obtain ⟨j, hj, rfl⟩ := List.getElem_of_mem hvm
      have hj2 : j < n * zv.cells.size := by simpa [Builtin.zeroCells] using hj
      have hm := Nat.mod_lt j (show 0 < zv.cells.size by omega)
      have : (Builtin.zeroCells zv.cells n).toList[j] = zv.cells[j % zv.cells.size]! := by simp [Builtin.zeroCells]
      rw [this, getElem!_pos zv.cells (j % zv.cells.size) hm]
      have hall := List.all_eq_true.1 h1 (SV.v zv.cells[j % zv.cells.size]) (List.mem_map.2 ⟨_, by simp, rfl⟩)
      exact hall
    have hcell : ∀ j, j < (Builtin.zeroCells zv.cells n).size → w.cell? ⟨b, o' + off + j, none⟩ = some (arr.getD (o' + off + j) undef) := fun j hj => by
      rw [hzsz] at hj
      simp only [World.cell?, hw]
      simp [Array.getD_eq_getD_getElem?, Array.getElem?_eq_getElem (show o' + off + j < arr.size by omega)]
    have hrun := run_clear' (P := X.P) (ty := o.type) hu hi' hzv b (o' + off) n cap w hone (fun j hj => by rw [hcell j hj]; rfl) (fun j hj => by simp [World.frozen?, hw])
    obtain ⟨g1, g2⟩ := heap_put hH hrow' hid hw (off := off) (news := (List.range n).flatMap fun _ => zv.cells.toList.map SV.v) (vs := (Builtin.zeroCells zv.cells n).toList) (by rw [hlen]; exact hn) (by rw [hlen]; simp [hzsz]) hone (fun j x hj => by
      have := hden.den j x hj
      simpa [Array.getD_eq_getD_getElem?, List.getD_eq_getElem?_getD] using this)
    exact ⟨.tuple #[], _, _, .inl (hrun0 _ (by rw [hv]; exact hrun)), g1, g2, .any⟩

/-- append, to a piece of an own row behind which there is room. -/
theorem sem_appIn {o : Oper} {t tx e : TypeId} {x y : Operand} {k off n z mm : Nat} {cs news : List SV} {rds : List Nat} {s0 : Prop} (ho : o.op = .call ⟨.builtin .append, #[x, y], #[t, tx]⟩) (hst : sliceT P t = some (e, z)) (hx : evS true fr x = .own k off n) (hrow : getH hp k = .row e cs)
    (hy : ∀ f : Nat → List SV → List Nat → Prop → Res, srcS P tx z (evS true fr y) hp f = f mm news rds s0) (hs0 : s0) (hnl : news.length = mm * z) (hna : news.all oneS = true) (hz : P.cellsOf e = z) (hpos : 0 < z)
    (hroom : off + (n + mm) * z ≤ cs.length) :
    SemW P o fr hp nx (EqEff ⟨.own k off (n + mm), [(k, .row e (putC cs (off + n * z) news))], nx, k :: rds⟩) := by
  have hlk : (getH hp k).live = true := by rw [hrow]; rfl
  refine semW_of ⟨Nat.le_refl _, fun p hp1 => ?_⟩ ?_
  · rcases List.mem_cons.1 hp1 with rfl | hp1
    · exact .inr ⟨List.mem_cons_self .., hlk⟩
    · cases hp1
  intro X ids w fr' hp' a hP hH hf hev hrd
  subst hP
  have hx' : evS true fr' x = .own k off n := by rw [hev x (by rw [ho]; simp [Op.operands, Call.operands]), hx]
  have hy' : evS true fr' y = evS true fr y := hev y (by rw [ho]; simp [Op.operands, Call.operands])
  have hrow' : getH hp' k = .row e cs := by rw [hrd k (List.mem_cons_self ..), hrow]
  have hlk' : (getH hp' k).live = true := by rw [hrow']; rfl
  have hd := ev_den hf (g := true) rfl x
  rw [hx'] at hd
  have hyd := ev_den hf (g := true) rfl y
  rw [hy'] at hyd
  obtain ⟨i, hu, hi', rfl⟩ := sliceT_some hst
  obtain ⟨ad, cap, hv, c1, c2, c4, c3⟩ := den_own hd hlk'
  -- the source
  have hsame : ∀ f : Nat → List SV → List Nat → Prop → Res, srcS X.P tx i.size (evS true fr y) hp' f = f mm news rds s0 := fun f => by
    rw [← hy f]
    cases hq : evS true fr y with
    | own j oo m2 =>
      have h1 := hy (fun _ _ r _ => .ok True ⟨.any, [], 0, r⟩)
      rw [hq] at h1
      have hj : getH hp' j = getH hp j := by
        simp only [srcS] at h1
        split at h1
        · cases hc : getH hp j with
          | row e3 cs3 =>
            rw [hc] at h1
            simp only [rowS, Res.ok.injEq, Eff.mk.injEq, true_and] at h1
            rw [hrd j (List.mem_cons_of_mem _ (by rw [← h1]; exact List.mem_cons_self ..)), hc]
          | _ => rw [hc] at h1; simp only [rowS] at h1; cases h1
        · cases h1
      simp only [srcS, hj]
    | sl m2 cs2 => simp only [srcS]
    | v vv =>
      cases vv with
      | slice a l c => cases a <;> cases l <;> cases c <;> rfl
      | _ => rfl
    | _ => rfl
  obtain ⟨m2, news2, rds2, s2, vs, hf2, hsrc⟩ := src_ok hH hyd (f := fun m news _ s0 => .ok (s0 ∧ news.length = m * i.size ∧ news.all oneS = true) ⟨.sl m news, [], 0, []⟩) (side := (s0 ∧ news.length = mm * i.size ∧ news.all oneS = true)) (e := ⟨.sl mm news, [], 0, []⟩) (hsame _) (fun m news' rds s0' hf hs => by
    simp only [Res.ok.injEq] at hf
    rw [hf.1]; exact hs) ⟨hs0, hnl, hna⟩
  simp only [Res.ok.injEq, Eff.mk.injEq, SV.sl.injEq, true_and, and_true] at hf2
  obtain ⟨_, rfl, rfl⟩ := hf2
  have hvl : vs.length = m2 * i.size := hsrc.src.newsLen
  have hrun0 : ∀ r w', (Builtin.append_ #[t, tx] o.type #[a.eval x, a.eval y]).run X.P w = .ok r w' → (execOp a.eval o).run X.P w = .ok (.value r) w' := fun r w' hr => by
    unfold execOp
    rw [ho]
    simp only [resolve, Sem.run_bind, Sem.run_pure, Result.andThen_ok, invoke, builtin, List.map_toArray, List.map_cons, List.map_nil, hr]
  rw [Nat.add_mul] at hroom
  have hcov := c4 _ _ hrow'
  rw [hz] at hcov
  have hcap : n + m2 ≤ cap := by
    have h1 : (n + m2) * i.size ≤ cap * i.size := by rw [Nat.add_mul]; omega
    exact Nat.le_of_mul_le_mul_right h1 hpos
  rcases c3 with ⟨hn0, rfl⟩ | ⟨b, o', e2, cs2, arr, hC, hid, rfl, hw, hcapsz⟩
  · have hm0 : m2 = 0 := by omega
    subst hm0; subst hn0
    have hn1 : news2 = [] := List.eq_nil_of_length_eq_zero (by rw [hnl]; omega)
    have hv0 : vs = [] := List.eq_nil_of_length_eq_zero (by rw [hvl]; omega)
    subst hn1; subst hv0
    have hcs : putC cs (off + 0 * i.size) [] = cs := by simp [putC, List.take_append_drop]
    have hCC : getH ([(k, Chunk.row e cs)] ++ hp') = getH hp' := by
      rw [List.singleton_append, getH_upd]; funext j
      by_cases hj : j = k
      · subst hj; rw [upd_same, hrow']
      · rw [upd_ne _ _ hj]
    have hrun := run_append_nothing (P := X.P) w t tx o.type e i hu hi' ad 0 0 (Nat.le_refl _) (a.eval y) hsrc.src
    refine ⟨_, w, ids, .inl (hrun0 _ _ (by rw [hv]; exact hrun)), ?_, ?_, ?_⟩
    · rw [hcs]; exact ⟨by rw [hCC]; exact hH.st, by rw [hCC]; exact hH.kept⟩
    · rw [hcs]; simp only [ExtX, hCC]; exact Ext.refl _ _ _ _
    · rw [hcs]
      show Den X.P (getH ([(k, Chunk.row e cs)] ++ hp')) ids _ w _ _
      rw [hCC]
      rw [hv] at hd
      exact hd
  · rw [hrow'] at hC; cases hC
    have hc := hH.st.ch k
    rw [hrow'] at hc
    simp only [DenC, hid] at hc
    obtain ⟨arr', ha', hl', hx2⟩ := hc
    rw [hw] at ha'; cases ha'
    have hcell : ∀ j, j < vs.length → w.cell? ⟨b, o' + off + n * i.size + j, none⟩ = some (arr.getD (o' + off + n * i.size + j) undef) := fun j hj => by
      simp only [World.cell?, hw]
      simp [Array.getD_eq_getD_getElem?, Array.getElem?_eq_getElem (show o' + off + n * i.size + j < arr.size by omega)]
    have hrun := run_append_room_src (P := X.P) w t tx o.type e i hu hi' b (o' + off) n cap (a.eval y) m2 vs hsrc.src hcap (fun j hj => by rw [hcell j hj]; rfl) (fun j hj => by simp [World.frozen?, hw])
    obtain ⟨g1, g2⟩ := heap_put hH hrow' hid hw (off := off + n * i.size) (news := news2) (vs := vs) (by rw [hnl]; omega) hsrc.len hsrc.src.one hsrc.den
    rw [← Nat.add_assoc] at g1 g2
    refine ⟨_, _, _, .inl (hrun0 _ _ (by rw [hv]; exact hrun)), g1, g2, .own _ _ ?_ ⟨hcap, c2, fun e3 cs3 hc3 => ?_, .inr ⟨b, o', e, putC cs (off + n * i.size) news2, (arr.toList.take (o' + off + n * i.size) ++ vs ++ arr.toList.drop (o' + off + n * i.size + vs.length)).toArray, ?_, hid, rfl, ?_, ?_⟩⟩⟩
    · rw [List.singleton_append, getH_upd, upd_same]; rfl
    · rw [List.singleton_append, getH_upd, upd_same] at hc3
      cases hc3
      rw [putC_length (by rw [hnl]; omega), hz]; exact hcov
    · rw [List.singleton_append, getH_upd, upd_same]
    · rw [setCells_eq_setRow w b (o' + off + n * i.size) e vs arr hw (by omega) hsrc.src.one]
      exact setRow_heap w b arr _ e (0, 0) hw
    · simp only [List.size_toArray, List.length_append, List.length_take, List.length_drop, Array.length_toList]; omega

/-- Bounds of a piece that are asked for, and the piece then not looked at. -/
theorem run_bounds3 {P : Program} (len cap : Nat) {lo hi mx : Option Value} {l h m : Int} (hl : BoundV lo 0 l) (hh : ∃ k, hi = some (.int k h)) (hm : ∃ k, mx = some (.int k m)) (h0 : 0 ≤ l) (h1 : l ≤ h) (h2 : h ≤ m) (h3 : m ≤ len) (h4 : len ≤ cap) (w : World) :
    (Instr.sliceBounds true len cap lo hi mx).run P w = .ok (l.toNat, h.toNat, m.toNat) w := by
  obtain ⟨k2, rfl⟩ := hh
  obtain ⟨k3, rfl⟩ := hm
  have hm1 : 0 ≤ m ∧ m ≤ (cap : Int) := by omega
  have hm2 : max m 0 = m := by omega
  have hh1 : 0 ≤ h ∧ h ≤ m := by omega
  have hh2 : max h 0 = h := by omega
  rcases hl with ⟨rfl, rfl⟩ | ⟨k, rfl⟩
  · simp [Instr.sliceBounds, Instr.sliceBound, asIntOf, hm1, hh1, hm2]
  · have hl1 : 0 ≤ l ∧ l ≤ h := by omega
    simp [Instr.sliceBounds, Instr.sliceBound, asIntOf, hm1, hh1, hm2, hl1, hh2]
theorem sem_bchk {o : Oper} {t e : TypeId} {x q r : Operand} {lo : Option Operand} {n z : Nat} {l h m : Int} {k2 k3 : IntKind} {rds : List Nat} (ho : o.op = .slice t x lo (some q) (some r)) (hst : sliceT P t = some (e, z))
    (hx : (∃ k off, evS true fr x = .own k off n ∧ (getH hp k).live = true ∧ rds = [k]) ∨ ∃ cs, evS true fr x = .sl n cs ∧ rds = [])
    (b1 : boundS (lo.map (evS true fr)) 0 = some l) (b2 : evS true fr q = .v (.int k2 h)) (b3 : evS true fr r = .v (.int k3 m)) (h0 : 0 ≤ l) (h1 : l ≤ h) (h2 : h ≤ m) (h3 : m ≤ n) :
    SemW P o fr hp nx (EqEff ⟨.any, [], nx, rds⟩) := by
  refine semW_of ⟨Nat.le_refl _, fun p hp1 => by cases hp1⟩ ?_
  intro X ids w fr' hp' a hP hH hf hev hrd
  subst hP
  have hl' : lo.map (evS true fr') = lo.map (evS true fr) := by
    cases lo with
    | none => rfl
    | some q => simp only [Option.map_some]; rw [hev q (by rw [ho]; simp [Op.operands])]
  rw [← hl'] at b1
  have hb1 : BoundV (lo.map a.eval) 0 l := boundS_ok b1 (fun hn => by cases lo with | none => rfl | some q => cases hn) (fun s hs => by
    cases lo with
    | none => cases hs
    | some q => cases hs; exact ⟨_, rfl, ev_den hf (g := true) rfl q⟩)
  have hq := ev_den hf (g := true) rfl q
  rw [hev q (by rw [ho]; simp [Op.operands]), b2] at hq
  have hr := ev_den hf (g := true) rfl r
  rw [hev r (by rw [ho]; simp [Op.operands]), b3] at hr
  have hxd := ev_den hf (g := true) rfl x
  rw [hev x (by rw [ho]; simp [Op.operands])] at hxd
  obtain ⟨i, hu, hi', rfl⟩ := sliceT_some hst
  obtain ⟨ad, cap, hv, hc⟩ : ∃ ad cap, a.eval x = .slice ad n cap ∧ n ≤ cap := by
    rcases hx with ⟨k, off, h1, h2, h3⟩ | ⟨cs, h1, _⟩
    · rw [h1] at hxd
      obtain ⟨ad, cap, hv, hc, _⟩ := den_own hxd (by rw [hrd k (by rw [h3]; exact List.mem_cons_self ..)]; exact h2)
      exact ⟨ad, cap, hv, hc⟩
    · rw [h1] at hxd
      obtain ⟨ad, cap, hv, hc, _⟩ := den_sl hxd
      exact ⟨ad, cap, hv, hc⟩
  refine ⟨.slice (if m.toNat = l.toNat then ad else ad.map (·.add (l.toNat * i.size))) (h.toNat - l.toNat) (m.toNat - l.toNat), w, ids, .inl ?_, hH.toHeapC, Ext.refl _ _ _ _, .any⟩
  unfold execOp
  rw [ho]
  simp only [hv, Sem.run_bind]
  have := run_bounds3 (P := X.P) n cap hb1 (hi := (some q).map a.eval) (mx := (some r).map a.eval) ⟨k2, by simp [den_v hq]⟩ ⟨k3, by simp [den_v hr]⟩ h0 h1 h2 h3 hc w
  simp only [Option.map_some] at this
  simp [Instr.sliceAt, Instr.slice, run_underlying hu, this, sizeOf, typeInfo, hi']
def chkOf (P : Program) (ops : Array Oper) (fr : Fr) (hp : Hp) (l : List Oper) : Option (Option Tmp × List Nat × Nat × Int × Int × Int) := match headOp P ops fr l with
  | some o => match o.op with
    | .slice t x lo (some q) (some r) => match sliceT P t, boundS (lo.map (evS true fr)) 0, evS true fr q, evS true fr r, evS true fr x with
      | some _, some l, .v (.int _ h), .v (.int _ m), .own k _ n => bif (getH hp k).live then some (o.dst, [k], n, l, h, m) else none
      | some _, some l, .v (.int _ h), .v (.int _ m), .sl n _ => some (o.dst, [], n, l, h, m)
      | _, _, _, _, _ => none
    | _ => none
  | none => none
theorem run_bchk {d : Bool} {l : List Oper} {acc : List Nms} {K : Fr → Hp → Nat → Prop} (dst : Option Tmp) (rds : List Nat) (n : Nat) (a b c : Int) (hc : chkOf P ops fr hp l = some (dst, rds, n, a, b, c)) (hb : 0 ≤ a ∧ a ≤ b ∧ b ≤ c ∧ c ≤ ((n : Nat) : Int))
    (h : RunAt P d ops (l.drop 1) (putF dst .any fr) hp (bif d then nx + 1 else nx) (acc ++ [⟨[], rds, nx, nx⟩]) K) : RunAt P d ops l fr hp nx acc K := by
  unfold chkOf at hc
  split at hc
  · rename_i o ho
    split at hc
    · rename_i t x lo q r hop
      split at hc
      · rename_i et lv k2 hv k3 mv k off n' hst h1 h2 h3 h4
        rw [Bool.cond_eq_ite] at hc
        split at hc
        · rename_i hlv
          simp only [Option.some.injEq, Prod.mk.injEq] at hc
          obtain ⟨rfl, rfl, rfl, rfl, rfl, rfl⟩ := hc
          exact run_sem o _ ho (Nat.le_refl _) (sem_bchk hop hst (.inl ⟨k, off, h4, hlv, rfl⟩) h1 h2 h3 hb.1 hb.2.1 hb.2.2.1 hb.2.2.2) h
        · cases hc
      · rename_i et lv k2 hv k3 mv n' cs hst h1 h2 h3 h4
        simp only [Option.some.injEq, Prod.mk.injEq] at hc
        obtain ⟨rfl, rfl, rfl, rfl, rfl, rfl⟩ := hc
        exact run_sem o _ ho (Nat.le_refl _) (sem_bchk hop hst (.inr ⟨cs, h4, rfl⟩) h1 h2 h3 hb.1 hb.2.1 hb.2.2.1 hb.2.2.2) h
      · cases hc
    · cases hc
  · cases hc

/-! ### In lists -/
variable {α : Type}
def putL (ys vs : List α) (i : Nat) : List α := ys.take i ++ vs ++ ys.drop (i + vs.length)
theorem putL_len {ys vs : List α} {i : Nat} (h : i + vs.length ≤ ys.length) : (putL ys vs i).length = ys.length := by
  simp only [putL, List.length_append, List.length_take, List.length_drop]; omega
theorem putC_fl [Enc α] (ys vs : List α) (i : Nat) : putC (fl ys) (i * Enc.sz α) (fl vs) = fl (putL ys vs i) := by
  unfold putC putL
  rw [fl_length, ← Nat.add_mul, fl_take, fl_drop, fl_append, fl_append]
def wipe [Inhabited α] (ys : List α) (a b : Int) : List α := putL ys (List.replicate (b.toNat - a.toNat) default) a.toNat
theorem wipe_len [Inhabited α] {ys : List α} {a b : Int} (h : 0 ≤ a ∧ a ≤ b ∧ b ≤ ((ys.length : Nat) : Int)) : (wipe ys a b).length = ys.length := putL_len (by rw [List.length_replicate]; omega)
def clrOf (P : Program) (ops : Array Oper) (fr : Fr) (hp : Hp) (l : List Oper) : Option (Option Tmp × Nat × Nat × Nat × TypeId × List SV × List SV × Nat) := match headOp P ops fr l with
  | some o => match o.op with
    | .call c => match c.callee, c.args.toList, c.argTypes.toList with
      | .builtin .clear, [x], [t] => match sliceT P t, evS true fr x with
        | some (e, z), .own k off n => match getH hp k, zeroT P e with
          | .row e' cs, some zs => bif e' == e then some (o.dst, k, off, n, e, cs, zs, z) else none
          | _, _ => none
        | _, _ => none
      | _, _, _ => none
    | _ => none
  | none => none
theorem run_clr [Enc α] {d : Bool} {l : List Oper} {acc : List Nms} {K : Fr → Hp → Nat → Prop} (ys : List α) (dst : Option Tmp) (k off n z : Nat) (e : TypeId) (zs : List SV) (a b : Int) (hc : clrOf P ops fr hp l = some (dst, k, off, n, e, fl ys, zs, z)) (hz : Enc.sz α = z) (hzs : zs = Enc.cells (default : α)) (hpos : 0 < z)
    (hoff : off = a.toNat * z) (hb : n = b.toNat - a.toNat ∧ 0 ≤ a ∧ a ≤ b ∧ b ≤ ((ys.length : Nat) : Int))
    (h : RunAt P d ops (l.drop 1) (putF dst .any fr) ([(k, .row e (fl (wipe ys a b)))] ++ hp) (bif d then nx + 1 else nx) (acc ++ [⟨[k], [k], nx, nx⟩]) K) : RunAt P d ops l fr hp nx acc K := by
  unfold clrOf at hc
  split at hc
  · rename_i o ho
    split at hc
    · rename_i c hop
      obtain ⟨callee, args, tys⟩ := c
      split at hc
      · rename_i x t h1 h2 h3
        obtain ⟨args⟩ := args
        obtain ⟨tys⟩ := tys
        simp only at h1 h2 h3; subst h1; subst h2; subst h3
        split at hc
        · rename_i e1 z1 k1 off1 n1 hst hx
          split at hc
          · rename_i e2 cs zs1 hrow hzz
            rw [Bool.cond_eq_ite] at hc
            split at hc
            · rename_i hq
              simp only [beq_iff_eq] at hq
              subst hq
              simp only [Option.some.injEq, Prod.mk.injEq] at hc
              obtain ⟨rfl, rfl, rfl, rfl, rfl, rfl, rfl, rfl⟩ := hc
              subst hz; subst hoff; subst hzs
              obtain ⟨hn, h0, h1, h2⟩ := hb
              have hw : putC (fl ys) (a.toNat * Enc.sz α) ((List.range n1).flatMap fun _ => Enc.cells (default : α)) = fl (wipe ys a b) := by
                rw [wipe, ← putC_fl, ← hn, fl_zeros n1 _ rfl]
              have hle : a.toNat * Enc.sz α + n1 * Enc.sz α ≤ (fl ys).length := by
                rw [fl_length, ← Nat.add_mul]
                exact Nat.mul_le_mul_right _ (by omega)
              have := sem_clear (P := P) (fr := fr) (hp := hp) (nx := nx) hop hst hx hrow hzz (Enc.len _) hpos (Enc.one _) hle
              rw [hw] at this
              exact run_sem o _ ho (Nat.le_refl _) this h
            · cases hc
          · cases hc
        · cases hc
      · cases hc
    · cases hc
  · cases hc
def inOf (P : Program) (ops : Array Oper) (fr : Fr) (hp : Hp) (l : List Oper) : Option (Option Tmp × Nat × Nat × Nat × TypeId × List SV × Nat × TypeId × SV) := match headOp P ops fr l with
  | some o => match o.op with
    | .call c => match c.callee, c.args.toList, c.argTypes.toList with
      | .builtin .append, [x, y], [t, tx] => match sliceT P t, evS true fr x with
        | some (e, z), .own k off n => match getH hp k with
          | .row e' cs => bif e' == e && P.cellsOf e == z then some (o.dst, k, off, n, e, cs, z, tx, evS true fr y) else none
          | _ => none
        | _, _ => none
      | _, _, _ => none
    | _ => none
  | none => none
theorem run_appIn [Enc α] {d : Bool} {l : List Oper} {acc : List Nms} {K : Fr → Hp → Nat → Prop} (ys vs : List α) (dst : Option Tmp) (k off n z mm : Nat) (e tx : TypeId) (sy : SV) (news : List SV) (rds : List Nat) (s0 : Prop) (a b : Int)
    (hc : inOf P ops fr hp l = some (dst, k, off, n, e, fl ys, z, tx, sy)) (hs : srcS P tx z sy hp = fun f => f mm news rds s0) (hs0 : s0) (hn : news = fl vs) (hm : mm = vs.length) (hz : Enc.sz α = z) (hpos : 0 < z)
    (hoff : off = a.toNat * z) (hb : n = b.toNat - a.toNat ∧ 0 ≤ a ∧ a ≤ b ∧ b ≤ ((ys.length : Nat) : Int)) (hroom : b + ((vs.length : Nat) : Int) ≤ ((ys.length : Nat) : Int))
    (h : RunAt P d ops (l.drop 1) (putF dst (.own k off (n + mm)) fr) ([(k, .row e (fl (putL ys vs b.toNat)))] ++ hp) (bif d then nx + 1 else nx) (acc ++ [⟨[k], k :: rds, nx, nx⟩]) K) : RunAt P d ops l fr hp nx acc K := by
  unfold inOf at hc
  split at hc
  · rename_i o ho
    split at hc
    · rename_i c hop
      obtain ⟨callee, args, tys⟩ := c
      split at hc
      · rename_i x y t tx' h1 h2 h3
        obtain ⟨args⟩ := args
        obtain ⟨tys⟩ := tys
        simp only at h1 h2 h3; subst h1; subst h2; subst h3
        split at hc
        · rename_i e1 z1 k1 off1 n1 hst hx
          split at hc
          · rename_i e2 cs hrow
            rw [Bool.cond_eq_ite] at hc
            split at hc
            · rename_i hq
              simp only [Bool.and_eq_true, beq_iff_eq] at hq
              obtain ⟨rfl, hcz⟩ := hq
              simp only [Option.some.injEq, Prod.mk.injEq] at hc
              obtain ⟨rfl, rfl, rfl, rfl, rfl, rfl, rfl, rfl, rfl⟩ := hc
              subst hz; subst hoff; subst hn; subst hm
              obtain ⟨hn, h0, h1, h2⟩ := hb
              have hbe : a.toNat * Enc.sz α + n1 * Enc.sz α = b.toNat * Enc.sz α := by
                rw [← Nat.add_mul]; congr 1; omega
              have hle : a.toNat * Enc.sz α + (n1 + vs.length) * Enc.sz α ≤ (fl ys).length := by
                rw [fl_length, ← Nat.add_mul]
                exact Nat.mul_le_mul_right _ (by omega)
              have := sem_appIn (P := P) (fr := fr) (hp := hp) (nx := nx) hop hst hx hrow (fun f => congrFun hs f) hs0 (fl_length vs) (fl_one vs) hcz hpos hle
              rw [hbe, putC_fl] at this
              exact run_sem o _ ho (Nat.le_refl _) this h
            · cases hc
          · cases hc
        · cases hc
      · cases hc
    · cases hc
  · cases hc
/-- A piece of a piece, or beyond its end. -/
theorem run_sliceAt_cap {P : Program} {t e : TypeId} {i : TypeInfo} (hu : P.underlying t = some (.slice e)) (hi : P.info? e = some i) (a : Option Addr) (len cap : Nat) {lo hig : Option Value} {l h : Int} (hl : BoundV lo 0 l) (hh : BoundV hig len h)
    (h0 : 0 ≤ l) (h1 : l ≤ h) (h2 : h ≤ cap) (h3 : len ≤ cap) (w : World) :
    (Instr.sliceAt t (.slice a len cap) lo hig none).run P w = .ok (.slice (if cap = l.toNat then a else a.map (·.add (l.toNat * i.size))) (h.toNat - l.toNat) (cap - l.toNat)) w := by
  have hb : (Instr.sliceBounds true len cap lo hig none).run P w = .ok (l.toNat, h.toNat, cap) w := by
    have hlt : h.toNat ≤ cap := by omega
    rcases hl with ⟨rfl, rfl⟩ | ⟨k, rfl⟩ <;> rcases hh with ⟨rfl, rfl⟩ | ⟨k', rfl⟩
    · simp [Instr.sliceBounds]
    · have : 0 ≤ h ∧ h ≤ (cap : Int) := by omega
      simp [Instr.sliceBounds, Instr.sliceBound, asIntOf, this]
    · have : 0 ≤ l ∧ l ≤ (len : Int) := by omega
      simp [Instr.sliceBounds, Instr.sliceBound, asIntOf, this]
    · have : 0 ≤ h ∧ h ≤ (cap : Int) := by omega
      have h4 : 0 ≤ l ∧ l ≤ h := by omega
      have h5 : max h 0 = h := by omega
      simp [Instr.sliceBounds, Instr.sliceBound, asIntOf, this, h4, h5]
  simp [Instr.sliceAt, Instr.slice, run_underlying hu, hb, sizeOf, typeInfo, hi]
theorem sem_sub {o : Oper} {t e : TypeId} {x : Operand} {lo hi : Option Operand} {k off z n : Nat} {cs : List SV} {l h : Int} (ho : o.op = .slice t x lo hi none) (hst : sliceT P t = some (e, z)) (hx : evS true fr x = .own k off n) (hrow : getH hp k = .row e cs) (hz : P.cellsOf e = z) (hpos : 0 < z)
    (b1 : boundS (lo.map (evS true fr)) 0 = some l) (b2 : boundS (hi.map (evS true fr)) n = some h) (h0 : 0 ≤ l) (h1 : l ≤ h) (h2 : off + h.toNat * z ≤ cs.length) :
    SemW P o fr hp nx (EqEff ⟨.own k (off + l.toNat * z) (h.toNat - l.toNat), [], nx, [k]⟩) := by
  have hlk : (getH hp k).live = true := by rw [hrow]; rfl
  refine semW_of ⟨Nat.le_refl _, fun p hp1 => by cases hp1⟩ ?_
  intro X ids w fr' hp' a hP hH hf hev hrd
  subst hP
  have hx' : evS true fr' x = .own k off n := by rw [hev x (by rw [ho]; simp [Op.operands]), hx]
  have hrow' : getH hp' k = .row e cs := by rw [hrd k (List.mem_cons_self ..), hrow]
  have hlk' : (getH hp' k).live = true := by rw [hrow']; rfl
  have hd := ev_den hf (g := true) rfl x
  rw [hx'] at hd
  have hl' : lo.map (evS true fr') = lo.map (evS true fr) := by
    cases lo with
    | none => rfl
    | some q => simp only [Option.map_some]; rw [hev q (by rw [ho]; simp [Op.operands])]
  have hh' : hi.map (evS true fr') = hi.map (evS true fr) := by
    cases hi with
    | none => rfl
    | some q => simp only [Option.map_some]; rw [hev q (by rw [ho]; simp [Op.operands])]
  rw [← hl'] at b1
  rw [← hh'] at b2
  have hb1 : BoundV (lo.map a.eval) 0 l := boundS_ok b1 (fun hn => by cases lo with | none => rfl | some q => cases hn) (fun s hs => by
    cases lo with
    | none => cases hs
    | some q => cases hs; exact ⟨_, rfl, ev_den hf (g := true) rfl q⟩)
  have hb2 : BoundV (hi.map a.eval) n h := boundS_ok b2 (fun hn => by cases hi with | none => rfl | some q => cases hn) (fun s hs => by
    cases hi with
    | none => cases hs
    | some q => cases hs; exact ⟨_, rfl, ev_den hf (g := true) rfl q⟩)
  obtain ⟨i, hu, hi', rfl⟩ := sliceT_some hst
  obtain ⟨ad, cap, hv, c1, c2, c4, c3⟩ := den_own hd hlk'
  have hcov := c4 _ _ hrow'
  rw [hz] at hcov
  have hcap : h.toNat ≤ cap := Nat.le_of_mul_le_mul_right (show h.toNat * i.size ≤ cap * i.size by omega) hpos
  have hmul : l.toNat ≤ cap → l.toNat * i.size + (cap - l.toNat) * i.size = cap * i.size := fun hle => by rw [← Nat.add_mul]; congr 1; omega
  refine ⟨.slice (if cap = l.toNat then ad else ad.map (·.add (l.toNat * i.size))) (h.toNat - l.toNat) (cap - l.toNat), w, ids, .inl ?_, hH.toHeapC, Ext.refl _ _ _ _, ?_⟩
  · unfold execOp
    rw [ho]
    simp only [hv, Sem.run_bind]
    have := run_sliceAt_cap hu hi' ad n cap hb1 hb2 h0 h1 (by omega) c1 w
    simp only [Option.map_none] at this ⊢
    rw [this]
    rfl
  · refine .own _ _ hlk' ⟨by omega, by omega, fun e2 cs2 hc2 => ?_, ?_⟩
    · replace hc2 : getH hp' k = _ := hc2
      rw [hrow'] at hc2
      cases hc2
      rw [hz]
      have := hmul (by omega)
      omega
    by_cases hc : cap = l.toNat
    · exact .inl ⟨by omega, by omega⟩
    · rw [if_neg hc]
      rcases c3 with ⟨_, rfl⟩ | ⟨b, o', e2, cs2, arr, hC, hid, rfl, hw, hsz⟩
      · exact .inl ⟨by omega, by omega⟩
      · rw [hrow'] at hC; cases hC
        refine .inr ⟨b, o', e, cs, arr, hrow', hid, by simp only [Option.map_some, add_mk, Nat.add_assoc], hw, ?_⟩
        rw [hz] at hsz ⊢
        have := hmul (by omega)
        omega
def subOf (P : Program) (ops : Array Oper) (fr : Fr) (hp : Hp) (l : List Oper) : Option (Option Tmp × Nat × Nat × Nat × TypeId × List SV × Nat × Int × Int) := match headOp P ops fr l with
  | some o => match o.op with
    | .slice t x lo hi none => match sliceT P t, evS true fr x with
      | some (e, z), .own k off n => match getH hp k, boundS (lo.map (evS true fr)) 0, boundS (hi.map (evS true fr)) n with
        | .row e' cs, some a, some b => bif e' == e && P.cellsOf e == z then some (o.dst, k, off, n, e, cs, z, a, b) else none
        | _, _, _ => none
      | _, _ => none
    | _ => none
  | none => none
theorem run_sub [Enc α] {d : Bool} {l : List Oper} {acc : List Nms} {K : Fr → Hp → Nat → Prop} (ys : List α) (dst : Option Tmp) (k off n z : Nat) (e : TypeId) (lo hi a : Int) (hc : subOf P ops fr hp l = some (dst, k, off, n, e, fl ys, z, lo, hi)) (hz : Enc.sz α = z) (hpos : 0 < z) (hoff : off = a.toNat * z) (ha : 0 ≤ a)
    (hb : 0 ≤ lo ∧ lo ≤ hi ∧ a + hi ≤ ((ys.length : Nat) : Int)) (off' n' : Nat) (ho' : (a + lo).toNat * z = off') (hn' : hi.toNat - lo.toNat = n')
    (h : RunAt P d ops (l.drop 1) (putF dst (.own k off' n') fr) hp (bif d then nx + 1 else nx) (acc ++ [⟨[], [k], nx, nx⟩]) K) : RunAt P d ops l fr hp nx acc K := by
  unfold subOf at hc
  split at hc
  · rename_i o ho
    split at hc
    · rename_i t x lo' hi' hop
      split at hc
      · rename_i e1 z1 k1 off1 n1 hst hx
        split at hc
        · rename_i e2 cs a1 b1 hrow h1 h2
          rw [Bool.cond_eq_ite] at hc
          split at hc
          · rename_i hq
            simp only [Bool.and_eq_true, beq_iff_eq] at hq
            obtain ⟨rfl, hcz⟩ := hq
            simp only [Option.some.injEq, Prod.mk.injEq] at hc
            obtain ⟨rfl, rfl, rfl, rfl, rfl, rfl, rfl, rfl, rfl⟩ := hc
            subst hz; subst hoff; subst ho'; subst hn'
            have hle : a.toNat * Enc.sz α + b1.toNat * Enc.sz α ≤ (fl ys).length := by
              rw [fl_length, ← Nat.add_mul]
              exact Nat.mul_le_mul_right _ (by omega)
            have := sem_sub (P := P) (fr := fr) (hp := hp) (nx := nx) hop hst hx hrow hcz hpos h1 h2 hb.1 hb.2.1 hle
            rw [show a.toNat * Enc.sz α + a1.toNat * Enc.sz α = (a + a1).toNat * Enc.sz α by rw [← Nat.add_mul]; congr 1; omega] at this
            exact run_sem o _ ho (Nat.le_refl _) this h
          · cases hc
        · cases hc
      · cases hc
    · cases hc
  · cases hc

/-! ### A slot, or a chunk, in other words -/
theorem run_eqF {d : Bool} {l : List Oper} {acc : List Nms} {K : Fr → Hp → Nat → Prop} (t : Nat) (x x' : SV) (e : x = x') (h : getF fr t = x) (k : RunAt P d ops l ((t, x') :: fr) hp nx acc K) : RunAt P d ops l fr hp nx acc K := by
  subst e
  have hl : Less ops l ((t, x) :: fr) fr := fun q => .inl (by
    simp only [getF]
    by_cases hq : t = q
    · subst hq; simp [h]
    · rw [show (t == q) = false from by simpa using hq, cond_false])
  cases d with
  | false => exact runOps_less l _ _ _ _ _ hl rfl k
  | true => exact runE_less l _ _ _ _ _ _ hl rfl k
theorem run_eqH {d : Bool} {l : List Oper} {acc : List Nms} {K : Fr → Hp → Nat → Prop} (j : Nat) (c c' : Chunk) (e : c = c') (h : getH hp j = c) (k : RunAt P d ops l fr ((j, c') :: hp) nx acc K) : RunAt P d ops l fr hp nx acc K := by
  subst e
  have hh : getH hp = getH ((j, c) :: hp) := funext fun q => by
    simp only [getH]
    by_cases hq : j = q
    · subst hq; simp [h]
    · rw [show (j == q) = false from by simpa using hq, cond_false]
  have hl : Less ops l fr fr := fun q => .inl rfl
  cases d with
  | false => exact runOps_less l _ _ _ _ _ hl hh k
  | true => exact runE_less l _ _ _ _ _ _ hl hh k
end Go.Sx
end

section
namespace Go.Sx
open Go.RowKit
set_option linter.unusedVariables false
theorem bsplit_sx {ρ : Type} {b : Bool} {X Y : Option ρ} {o : ρ} {G : Prop} (h : (bif b then X else Y) = some o) (k1 : b = true → X = some o → G) (k2 : b = false → Y = some o → G) : G := by
  cases b with
  | true => exact k1 rfl h
  | false => exact k2 rfl h
theorem ob_range (s : ByteArray) (nx : Nat) : resOb (.ok True ⟨.it nx, [(nx, .obj s 0)], nx + 1, []⟩) ⟨.it nx, [(nx, .obj s 0)], nx + 1, []⟩ := ob_ok trivial rfl rfl
theorem ob_next_t (s : ByteArray) (p k nx : Nat) (hb : decide (p < s.size) = true) :
    resOb (bif decide (p < s.size) then .ok True ⟨.tup [.v (.bool true), .v (.int .i64 ((p : Nat) : Int)), .v (.int .i32 (((Utf8.decode s p).1 : Nat) : Int))], [(k, .obj s (p + (Utf8.decode s p).2))], nx, [k]⟩ else .ok True ⟨.tup [.v (.bool false)], [], nx, [k]⟩)
      ⟨.tup [.v (.bool true), .v (.int .i64 ((p : Nat) : Int)), .v (.int .i32 (((Utf8.decode s p).1 : Nat) : Int))], [(k, .obj s (p + (Utf8.decode s p).2))], nx, [k]⟩ := by rw [hb]; exact ob_ok trivial rfl rfl
theorem ob_next_f (s : ByteArray) (p k nx : Nat) (hb : decide (p < s.size) = false) :
    resOb (bif decide (p < s.size) then .ok True ⟨.tup [.v (.bool true), .v (.int .i64 ((p : Nat) : Int)), .v (.int .i32 (((Utf8.decode s p).1 : Nat) : Int))], [(k, .obj s (p + (Utf8.decode s p).2))], nx, [k]⟩ else .ok True ⟨.tup [.v (.bool false)], [], nx, [k]⟩)
      ⟨.tup [.v (.bool false)], [], nx, [k]⟩ := by rw [hb]; exact ob_ok trivial rfl rfl
theorem fl_ints {α : Type} [Enc α] {k : IntKind} (get : α → Int) (hg : ∀ a, Enc.cells a = [.v (.int k (get a))]) (xs : List α) : fl xs = xs.map fun a => .v (.int k (get a)) := by
  induction xs with
  | nil => rfl
  | cons x r ih =>
    have : fl (x :: r) = Enc.cells x ++ fl r := rfl
    rw [this, ih, hg]; rfl
theorem isI_map {α : Type} {k : IntKind} (get : α → Int) (xs : List α) : (xs.map fun a => SV.v (.int k (get a))).all (isI k) = true := by
  rw [List.all_eq_true]
  intro x hx
  obtain ⟨a, _, rfl⟩ := List.mem_map.1 hx
  simp [isI]
theorem intOf_map {α : Type} {k : IntKind} (get : α → Int) (xs : List α) : (xs.map fun a => SV.v (.int k (get a))).map intOf = xs.map get := by
  rw [List.map_map]; rfl
theorem ob_runes {α : Type} [Enc α] (mk : Int → α) (hm : ∀ n, Enc.cells (mk n) = [.v (.int .i32 n)]) (s : ByteArray) (e : TypeId) (nx : Nat) (k : (runesOf s).length ≤ 70368744177664) :
    resOb (.ok ((runesOf s).length ≤ 70368744177664) ⟨.own nx 0 (runesOf s).length, [(nx, .row e ((runesOf s).map fun n => .v (.int .i32 n)))], nx + 1, []⟩) ⟨.own nx 0 ((runesOf s).map mk).length, [(nx, .row e (fl ((runesOf s).map mk)))], nx + 1, []⟩ := by
  refine ob_ok k (by rw [List.length_map]) ?_
  have : fl ((runesOf s).map mk) = (runesOf s).map fun n => .v (.int .i32 n) := by
    induction (runesOf s) with
    | nil => rfl
    | cons x r ih =>
      have : fl ((x :: r).map mk) = Enc.cells (mk x) ++ fl (r.map mk) := rfl
      rw [this, ih, hm]; rfl
  rw [this]
/-- A text of a list of letters (f: encL), or of bytes (bytL). -/
theorem ob_str_o {α : Type} [Enc α] (kd : IntKind) (f : List Int → ByteArray) (get : α → Int) (hg : ∀ a, Enc.cells a = [.v (.int kd (get a))]) (xs : List α) (kk nx : Nat) :
    resOb (bif (appCells (fl xs) 0 (xs.length * 1)).all (isI kd) then .ok (0 + xs.length * 1 ≤ (fl xs).length ∧ (appCells (fl xs) 0 (xs.length * 1)).length = xs.length * 1) ⟨.v (.string (f ((appCells (fl xs) 0 (xs.length * 1)).map intOf))), [], nx, [kk]⟩ else .bad) ⟨.v (.string (f (xs.map get))), [], nx, [kk]⟩ := by
  rw [fl_ints get hg xs]
  have : appCells (xs.map fun a => SV.v (.int kd (get a))) 0 (xs.length * 1) = xs.map fun a => SV.v (.int kd (get a)) := by
    unfold appCells
    rw [List.drop_zero, Nat.mul_one, List.take_of_length_le (by simp)]
  rw [this, isI_map, cond_true, intOf_map]
  exact ob_ok ⟨by simp, by simp⟩ rfl rfl
theorem ob_str_l {α : Type} [Enc α] (kd : IntKind) (f : List Int → ByteArray) (get : α → Int) (hg : ∀ a, Enc.cells a = [.v (.int kd (get a))]) (xs : List α) (nx : Nat) :
    resOb (bif (fl xs).all (isI kd) then .ok ((fl xs).length = xs.length * 1 ∧ (fl xs).length = xs.length * 1) ⟨.v (.string (f ((fl xs).map intOf))), [], nx, []⟩ else .bad) ⟨.v (.string (f (xs.map get))), [], nx, []⟩ := by
  rw [fl_ints get hg xs, isI_map, cond_true, intOf_map]
  exact ob_ok ⟨by simp, by simp⟩ rfl rfl
theorem ob_str_0 (kd : IntKind) (f : List Int → ByteArray) (nx : Nat) :
    resOb (bif ([] : List SV).all (isI kd) then .ok (True ∧ ([] : List SV).length = 0 * 1) ⟨.v (.string (f (([] : List SV).map intOf))), [], nx, []⟩ else .bad) ⟨.v (.string (f [])), [], nx, []⟩ := ob_ok ⟨trivial, rfl⟩ rfl rfl
/-- A place in a table. -/
theorem ob_tab {α : Type} [Enc α] (tab : List α) (raw : List SV) (hraw : raw = fl tab) (len z nx : Nat) (hl : tab.length = len) (i : Int) (k : 0 ≤ i ∧ i < ((tab.length : Nat) : Int)) :
    resOb (.ok (0 ≤ i ∧ i < ((len : Nat) : Int)) ⟨.iptr raw (0 + i.toNat * z), [], nx, []⟩) ⟨.iptr (fl tab) (i.toNat * z), [], nx, []⟩ := ob_ok (hl ▸ k) (by rw [hraw, Nat.zero_add]) rfl
end Go.Sx
end

section
namespace Go.Sx
open Go.RowKit
set_option linter.unusedVariables false
theorem SpecW.frz {P : Program} {f : FuncId} {args : List SV} {hin : Hp} {m n : Nat} {e : TypeId} {cs : List SV} (h : SpecW P f args hin m (fun x h k => x = .own 0 0 n ∧ h = [(0, .row e cs)] ∧ k = 1)) :
    SpecW P f args hin m (fun x h k => x = .sl n cs ∧ h = [(0, .dead)] ∧ k = 1) := by
  refine ⟨h.1, fun X vals h1 h2 h3 h4 h5 => (h.2 X vals h1 h2 h3 h4 h5).mono ?_⟩
  rintro ex w' ⟨r, res, hp', nx', ids', rfl, ⟨rfl, rfl, rfl⟩, hF, hd⟩
  have hrow : getH [(0, Chunk.row e cs)] 0 = .row e cs := rfl
  have hl : (getH [(0, Chunk.row e cs)] 0).live = true := rfl
  have hG : getH ([(0, Chunk.dead)] ++ [(0, Chunk.row e cs)]) = getH [(0, Chunk.dead)] := by
    funext k
    cases k with
    | zero => rfl
    | succ k => rfl
  obtain ⟨k1, k2⟩ := heap_kill hF.toHeapC 0
  have hnl : ∀ k, (getH [(0, Chunk.dead)] k).live = true → False := fun k hk => by
    cases k with
    | zero => cases hk
    | succ k => cases hk
  have hK : HeapC X [(0, .dead)] ids' w' := ⟨by rw [← hG]; exact k1.st, fun k hk hl => (hnl k hl).elim⟩
  have hE : ExtX X [(0, .row e cs)] ids' w' [(0, .dead)] ids' w' := by
    have := k2
    simp only [ExtX, hG] at this
    exact this
  obtain ⟨a, cap, rfl, c1, c2, c4, c3⟩ := den_own hd hl
  refine ⟨_, .sl n cs, [(0, .dead)], 1, ids', rfl, ⟨rfl, rfl, rfl⟩, ⟨hK, fun k hk => ?_, hF.m_le⟩, ?_⟩
  · cases k with
    | zero => omega
    | succ k => rfl
  · rcases c3 with ⟨rfl, rfl⟩ | ⟨b, o, e2, cs2, arr, hC, hid, rfl, hw, hcapsz⟩
    · have hcs : cs = [] := by
        have := c4 _ _ hrow
        exact List.eq_nil_of_length_eq_zero (by omega)
      subst hcs
      exact .sl0 (by unfold maxLen; omega)
    · have hc := hF.st.ch 0
      rw [hrow] at hc
      simp only [DenC, hid] at hc
      obtain ⟨arr', ha', hl', hx'⟩ := hc
      obtain ⟨hlt, hor⟩ := hF.st.lt 0 b o hl hid
      refine .sl b (o + 0) cap (fun i => arr'.getD (o + i) undef) ⟨?_, hlt, fun k hk => (hnl k hk).elim⟩ c1 c2 (fun i x hi => ?_) (fun i x hi => (hx' i x hi).mono hE)
      · rcases hor with h | h
        · exact .inr (.inl h)
        · exact .inr (.inr h)
      · have hi' := (List.getElem?_eq_some_iff.1 hi).1
        simp only [World.cell?, ha', Nat.add_zero]
        simp [Array.getD_eq_getD_getElem?, Array.getElem?_eq_getElem (show o + i < arr'.size by omega)]
end Go.Sx
end

section
namespace Go.Sx
open Go.RowKit
set_option linter.unusedVariables false
set_option linter.unusedSimpArgs false
variable {P : Program}

def insL {α : Type} (xs : List α) (i : Int) (ys : List α) : List α := xs.take i.toNat ++ ys ++ xs.drop i.toNat
theorem bif_some {α : Type} {p : Prop} [Decidable p] {a r : α} (h : (bif decide p then some a else none) = some r) : p ∧ a = r := by
  by_cases hp : p
  · simp only [hp, decide_true, cond_true, Option.some.injEq] at h; exact ⟨hp, h⟩
  · simp [hp] at h
theorem fn_of {f : FuncId} {fn : Func} (h : P.funcs[f]? = some fn) (hb : fn.body.isSome = true) (hn : (fn.name == "runtime.NumGoroutine") = false) : ∃ fn body, P.funcs[f]? = some fn ∧ fn.body = some body ∧ fn.name ≠ "runtime.NumGoroutine" := by
  obtain ⟨b, hb⟩ := Option.isSome_iff_exists.1 hb
  exact ⟨fn, b, h, hb, by simpa using hn⟩
theorem insL_len {α : Type} (xs : List α) (i : Int) (ys : List α) : (insL xs i ys).length = xs.length + ys.length := by
  unfold insL; simp only [List.length_append, List.length_take, List.length_drop]; omega

def putR (arr : Array Value) (o : Nat) (vs : List Value) : Array Value := (arr.toList.take o ++ vs ++ arr.toList.drop (o + vs.length)).toArray
theorem putR_size {arr : Array Value} {o : Nat} {vs : List Value} (h : o + vs.length ≤ arr.size) : (putR arr o vs).size = arr.size := by
  unfold putR; simp only [List.size_toArray, List.length_append, List.length_take, List.length_drop, Array.length_toList]; omega
theorem putR_get {arr : Array Value} {o : Nat} {vs : List Value} (h : o + vs.length ≤ arr.size) (q : Nat) :
    (putR arr o vs).getD q undef = if q < o then arr.getD q undef else if q < o + vs.length then vs.getD (q - o) undef else arr.getD q undef := by
  unfold putR
  have hoo : o ≤ arr.size := by omega
  simp only [Array.getD_eq_getD_getElem?, List.getElem?_toArray]
  by_cases hq : q < o
  · rw [if_pos hq, List.append_assoc, List.getElem?_append_left (by simp; omega), List.getElem?_take, if_pos hq]
    simp
  · rw [if_neg hq, List.append_assoc, List.getElem?_append_right (by simp; omega)]
    simp only [List.length_take, Array.length_toList, Nat.min_eq_left hoo]
    by_cases hq2 : q < o + vs.length
    · rw [if_pos hq2, List.getElem?_append_left (by omega)]
      simp [List.getD_eq_getElem?_getD]
    · rw [if_neg hq2, List.getElem?_append_right (by omega), List.getElem?_drop]
      simp only [Array.getElem?_toList]
      congr 2; omega

theorem run_copy_put (w : World) (dT sT ty e t : TypeId) (z b o dLen dCap : Nat) (a : Addr) (sLen sCap : Nat) (cs : List Value) (arr : Array Value) (hst : sliceT P dT = some (e, z)) (hn : cs.length = Nat.min sLen dLen * z)
    (hw : w.heap[b]? = some (.cells arr t (0, 0))) (hl : o + cs.length ≤ arr.size) (hsrc : ∀ j v, cs[j]? = some v → w.cell? (a.add j) = some v) (h1 : ∀ v ∈ cs, v.oneCell' = true) :
    (Builtin.copy_ #[dT, sT] ty #[.slice (some ⟨b, o, none⟩) dLen dCap, .slice (some a) sLen sCap]).run P w = .ok (goInt (Nat.min sLen dLen)) (w.setRow b (putR arr o cs)) := by
  obtain ⟨i, hu, hi, hiz⟩ := sliceT_some hst
  have hlo := run_loadCells_list (P := P) w a cs hsrc
  have hc : ∀ j, j < cs.length → w.cell? ⟨b, o + j, none⟩ = some (arr.getD (o + j) undef) := fun j hj => by
    simp only [World.cell?, hw]
    simp [Array.getD_eq_getD_getElem?, Array.getElem?_eq_getElem (show o + j < arr.size by omega)]
  have hs := run_storeCells_cells (P := P) b o cs 0 w (fun j hj => by rw [Nat.add_zero, hc j hj]; rfl) (fun j hj => by simp [World.frozen?, hw]) h1
  rw [Nat.add_zero, setCells_eq_setRow w b o t cs arr hw hl h1] at hs
  subst hiz
  rw [hn] at hlo
  simp [Builtin.copy_, run_underlying hu, Builtin.lenOf, Builtin.firstCells, sizeOf, typeInfo, hi, hlo, hs, putR]

theorem vals3 {vals : Array Value} (h : vals.size = 3) : ∃ a b c, vals = #[a, b, c] := by
  obtain ⟨l⟩ := vals
  match l, h with
  | [a, b, c], _ => exact ⟨a, b, c, rfl⟩

theorem row_list {X : Cx} {hp : Hp} {ids : Ids} {w : World} (h : HeapC X hp ids w) {k b o : Nat} {e : TypeId} {cs : List SV} (hk : getH hp k = .row e cs) (hi : ids k = some (b, o)) (h1 : cs.all oneS = true) :
    ∃ (arr : Array Value) (l : List Value), w.heap[b]? = some (.cells arr e (0, 0)) ∧ o + cs.length ≤ arr.size ∧ l.length = cs.length ∧ (∀ j, j < cs.length → l.getD j undef = arr.getD (o + j) undef) ∧ (∀ v ∈ l, v.oneCell' = true) ∧ ∀ i x, cs[i]? = some x → DenX X hp ids w x (l.getD i undef) := by
  have hc := h.st.ch k
  rw [hk] at hc
  simp only [DenC, hi] at hc
  obtain ⟨arr, ha, hl, hx⟩ := hc
  have hL : ((arr.toList.drop o).take cs.length).length = cs.length := by simp only [List.length_take, List.length_drop, Array.length_toList]; omega
  have hg : ∀ j, j < cs.length → ((arr.toList.drop o).take cs.length).getD j undef = arr.getD (o + j) undef := fun j hj => by
    rw [List.getD_eq_getElem?_getD, List.getElem?_take, if_pos hj, List.getElem?_drop]
    simp [Array.getD_eq_getD_getElem?]
  refine ⟨arr, (arr.toList.drop o).take cs.length, ha, hl, hL, hg, fun v hv => ?_, fun i x hi => ?_⟩
  · obtain ⟨i, hi, rfl⟩ := List.getElem_of_mem hv
    have hi' : i < cs.length := by omega
    have := hx i _ (List.getElem?_eq_getElem hi')
    rw [← hg i hi'] at this
    have h2 := one_den this (List.all_eq_true.1 h1 _ (List.getElem_mem hi'))
    simpa [List.getD_eq_getElem?_getD, List.getElem?_eq_getElem hi] using h2
  · have hi' := (List.getElem?_eq_some_iff.1 hi).1
    rw [hg i hi']; exact hx i x hi

theorem getD_drop (l : List Value) (a j : Nat) : (l.drop a).getD j undef = l.getD (a + j) undef := by simp [List.getD_eq_getElem?_getD, List.getElem?_drop]
theorem getD_take (l : List Value) (a j : Nat) (h : j < a) : (l.take a).getD j undef = l.getD j undef := by simp [List.getD_eq_getElem?_getD, List.getElem?_take, h]
theorem getElem_getD {l : List Value} {j : Nat} {v : Value} (h : l[j]? = some v) : l.getD j undef = v ∧ j < l.length := ⟨by simp [List.getD_eq_getElem?_getD, h], (List.getElem?_eq_some_iff.1 h).1⟩

/-- What the cells of a row hold behind an insertion. -/
def insC (cs ds : List SV) (q : Nat) : List SV := cs.take q ++ ds ++ cs.drop q
theorem insC_get {cs ds : List SV} {q i : Nat} {x : SV} (hq : q ≤ cs.length) (h : (insC cs ds q)[i]? = some x) :
    (i < q ∧ cs[i]? = some x) ∨ (q ≤ i ∧ i < q + ds.length ∧ ds[i - q]? = some x) ∨ (q + ds.length ≤ i ∧ cs[i - ds.length]? = some x) := by
  unfold insC at h
  by_cases h1 : i < q
  · rw [List.append_assoc, List.getElem?_append_left (by simp; omega), List.getElem?_take, if_pos h1] at h
    exact .inl ⟨h1, h⟩
  · rw [List.append_assoc, List.getElem?_append_right (by simp; omega)] at h
    simp only [List.length_take, Nat.min_eq_left hq] at h
    by_cases h2 : i < q + ds.length
    · rw [List.getElem?_append_left (by omega)] at h
      exact .inr (.inl ⟨by omega, h2, h⟩)
    · rw [List.getElem?_append_right (by omega), List.getElem?_drop] at h
      exact .inr (.inr ⟨by omega, by rwa [show q + (i - q - ds.length) = i - ds.length from by omega] at h⟩)
theorem insC_len {cs ds : List SV} {q : Nat} (hq : q ≤ cs.length) : (insC cs ds q).length = cs.length + ds.length := by
  unfold insC; simp only [List.length_append, List.length_take, List.length_drop]; omega
theorem fl_ins {α : Type} [Enc α] (xs ys : List α) (i : Int) : fl (insL xs i ys) = insC (fl xs) (fl ys) (i.toNat * Enc.sz α) := by
  unfold insL insC; rw [fl_append, fl_append, fl_take, fl_drop]

set_option maxHeartbeats 4000000 in
theorem insert_spec {α : Type} [Enc α] {f fO : FuncId} {tS tI tB e : TypeId} (hst : sliceT P tS = some (e, Enc.sz α)) (hz0 : 0 < Enc.sz α) (htI : P.underlying tI = some (.int .i64)) (hzk : zokT P e = true) (hby : 0 < P.bytesOf e)
    (hfn : ∃ fn body, P.funcs[f]? = some fn ∧ fn.body = some body ∧ fn.name ≠ "runtime.NumGoroutine")
    (hov : ∀ x y w, ((Extern.SlicesOverlaps.overlaps #[tS, tS] #[tB]) #[x, y]).run P w = .ok (.bool false) w → (callFunc fO #[x, y]).run P w = .ok (.value (.bool false)) w)
    (hSh : ∀ (b off n c i vc : Nat) (va : Option Addr) (w W1 W2 : World) (x1 x2 : Value), i < n → n + 1 ≤ c → c ≤ 9223372036854775807 →
      (∀ lb cb, (callFunc fO #[.slice va 1 vc, .slice (some ⟨b, off + (i + 1) * Enc.sz α, none⟩) lb cb]).run P w = .ok (.value (.bool false)) w) →
      (∀ ty dc sc, (Builtin.copy_ #[tS, tS] ty #[.slice (some ⟨b, off + (i + 1) * Enc.sz α, none⟩) (n - i) dc, .slice (some ⟨b, off + i * Enc.sz α, none⟩) (n + 1 - i) sc]).run P w.drew = .ok x1 W1) →
      (∀ ty dc, (Builtin.copy_ #[tS, tS] ty #[.slice (some ⟨b, off + i * Enc.sz α, none⟩) (n + 1 - i) dc, .slice va 1 vc]).run P W1 = .ok x2 W2) →
      Calls P f #[.slice (some ⟨b, off, none⟩) n c, .int .i64 i, .slice va 1 vc] w fun e w' => e = .returned (.slice (some ⟨b, off, none⟩) (n + 1) c) ∧ w' = W2)
    (hGr : ∀ (b off n c i vc : Nat) (va : Option Addr) (nb g : Nat) (w W0 W1 W2 : World) (x1 x2 : Value), i < n → n ≤ c → c < n + 1 → n + 1 ≤ g → g ≤ 9223372036854775807 →
      (∀ ty, (Builtin.append_ #[tS, tI] ty #[.slice (some ⟨b, off, none⟩) i c, .int .i64 ((n : Int) + 1 - i)]).run P w = .ok (.slice (some ⟨nb, 0, none⟩) (n + 1) g) W0) →
      (∀ ty dc, (Builtin.copy_ #[tS, tS] ty #[.slice (some ⟨nb, i * Enc.sz α, none⟩) (n + 1 - i) dc, .slice va 1 vc]).run P W0 = .ok x1 W1) →
      (∀ ty dc sc, (Builtin.copy_ #[tS, tS] ty #[.slice (some ⟨nb, (i + 1) * Enc.sz α, none⟩) (n - i) dc, .slice (some ⟨b, off + i * Enc.sz α, none⟩) (n - i) sc]).run P W1.drew = .ok x2 W2) →
      Calls P f #[.slice (some ⟨b, off, none⟩) n c, .int .i64 i, .slice va 1 vc] w fun e w' => e = .returned (.slice (some ⟨nb, 0, none⟩) (n + 1) g) ∧ w' = W2)
    (hEn : ∀ (a : Option Addr) (n c vc : Nat) (va : Option Addr) (w W1 : World) (x : Value), n ≤ c → c ≤ 9223372036854775807 → (a = none → n = 0) →
      ((Builtin.append_ #[tS, tS] tS #[.slice a n c, .slice va 1 vc]).run P w = .ok x W1) →
      Calls P f #[.slice a n c, .int .i64 n, .slice va 1 vc] w fun e w' => e = .returned x ∧ w' = W1)
    (xs ys : List α) (i : Int) (hi0 : 0 ≤ i) (hi1 : i ≤ (xs.length : Nat)) (hy : ys.length = 1) (hb : (xs.length + 1) * P.bytesOf e ≤ 140737488355328) :
    SpecW P f [.own 0 0 xs.length, .v (.int .i64 i), .own 1 0 ys.length] [(0, .row e (fl xs)), (1, .row e (fl ys))] 2 (fun x h n => x = .own 2 0 (insL xs i ys).length ∧ h = [(0, .dead), (1, .dead), (2, .row e (fl (insL xs i ys)))] ∧ n = 3) := by
  refine ⟨hfn, fun X vals hP hm hF hsz hd => ?_⟩
  subst hP
  obtain ⟨v0, v1, v2, rfl⟩ := vals3 hsz
  have hd0 : DenX X _ X.ids0 X.w0 (.own 0 0 xs.length) v0 := hd 0 _ rfl
  have hd1 : DenX X _ X.ids0 X.w0 (.v (.int .i64 i)) v1 := hd 1 _ rfl
  have hd2 : DenX X _ X.ids0 X.w0 (.own 1 0 ys.length) v2 := hd 2 _ rfl
  obtain rfl := den_v hd1
  obtain ⟨k, rfl⟩ : ∃ k : Nat, i = k := ⟨i.toNat, by omega⟩
  have hk1 : k ≤ xs.length := by omega
  have hH0 : getH [(0, Chunk.row e (fl xs)), (1, Chunk.row e (fl ys))] 0 = .row e (fl xs) := rfl
  have hH1 : getH [(0, Chunk.row e (fl xs)), (1, Chunk.row e (fl ys))] 1 = .row e (fl ys) := rfl
  have hl0 : (getH [(0, Chunk.row e (fl xs)), (1, Chunk.row e (fl ys))] 0).live = true := rfl
  have hl1 : (getH [(0, Chunk.row e (fl xs)), (1, Chunk.row e (fl ys))] 1).live = true := rfl
  obtain ⟨a, c, rfl, hnc, hcm, hcs0, hor⟩ := den_own hd0 hl0
  obtain ⟨va, vc, rfl, hvc, hvm, hvs0, hvor⟩ := den_own hd2 hl1
  obtain ⟨vb, vo, ve, vcs, varr, hvC, hvid, rfl, hvw, hvsz⟩ : ∃ b o e' cs arr, getH [(0, Chunk.row e (fl xs)), (1, Chunk.row e (fl ys))] 1 = .row e' cs ∧ X.ids0 1 = some (b, o) ∧ va = some ⟨b, o + 0, none⟩ ∧ X.w0.heap[b]? = some (.cells arr e' (0, 0)) ∧ o + 0 + vc * X.P.cellsOf e' ≤ arr.size := by
    rcases hvor with ⟨h, _⟩ | h
    · omega
    · exact h
  rw [hH1] at hvC; cases hvC
  rw [hy] at hvc ⊢
  have hFx := hF.toX
  obtain ⟨ti, hu, hti, htz⟩ := sliceT_some hst
  have hce : X.P.cellsOf e = Enc.sz α := szT_cells (by unfold szT; rw [hti]; simp [htz])
  have hbe : X.P.bytesOf e = ti.bytes := by simp [Program.bytesOf, hti]
  have hfx : (fl xs).length = xs.length * Enc.sz α := fl_length xs
  have hfy : (fl ys).length = Enc.sz α := by rw [fl_length, hy, Nat.one_mul]
  have hql : k * Enc.sz α ≤ (fl xs).length := by rw [hfx]; exact Nat.mul_le_mul_right _ hk1
  have hflI : fl (insL xs (k : Int) ys) = insC (fl xs) (fl ys) (k * Enc.sz α) := by rw [fl_ins]; rfl
  have hlen : (insL xs (k : Int) ys).length = xs.length + 1 := by rw [insL_len, hy]
  have hz63 : xs.length + 1 ≤ (xs.length + 1) * X.P.bytesOf e := Nat.le_mul_of_pos_right _ hby
  -- the end of all roads
  have fin : ∀ (x : Value) (W : World) (hp' : Hp) (ids' : Ids), HeapC X hp' ids' W → (getH hp' = getH [(0, .dead), (1, .dead), (2, .row e (fl (insL xs (k : Int) ys)))]) → DenX X hp' ids' W (.own 2 0 (xs.length + 1)) x →
      ∃ r res hp' nx' ids', Ending.returned x = .returned r ∧ (res = .own 2 0 (insL xs (k : Int) ys).length ∧ hp' = [(0, .dead), (1, .dead), (2, .row e (fl (insL xs (k : Int) ys)))] ∧ nx' = 3) ∧ HeapF X hp' nx' ids' W ∧ DenX X hp' ids' W res r := by
    intro x W hp' ids' h1 h2 h3
    refine ⟨x, _, _, _, ids', rfl, ⟨rfl, rfl, rfl⟩, ⟨h1.congr h2, fun j hj => ?_, by rw [hm]; omega⟩, ?_⟩
    · match j, hj with
      | j + 3, _ => rfl
    · rw [hlen]
      simp only [DenX, h2] at h3
      exact h3
  by_cases hkn : k = xs.length
  · -- at the end
    subst hkn
    have he : appendS X.P tS tS (.own 0 0 xs.length) (.own 1 0 ys.length) [(0, .row e (fl xs)), (1, .row e (fl ys))] 2 = .ok (0 + ys.length * Enc.sz α ≤ (fl ys).length ∧ e = e ∧ (appCells (fl ys) 0 (ys.length * Enc.sz α)).length = ys.length * Enc.sz α ∧ (appCells (fl ys) 0 (ys.length * Enc.sz α)).all oneS = true ∧ 0 + xs.length * Enc.sz α ≤ (fl xs).length ∧ 0 < X.P.bytesOf e ∧ (xs.length + ys.length) * X.P.bytesOf e ≤ 140737488355328)
        ⟨.own 2 0 (xs.length + ys.length), [(2, .row e (appCells (fl xs) 0 (xs.length * Enc.sz α) ++ appCells (fl ys) 0 (ys.length * Enc.sz α))), (0, .dead)], 3, [0, 1]⟩ := by
      unfold appendS srcS; rw [hst]; rfl
    have hay : appCells (fl ys) 0 (ys.length * Enc.sz α) = fl ys := by rw [← fl_length ys]; exact appCells_all
    have hax : appCells (fl xs) 0 (xs.length * Enc.sz α) = fl xs := by rw [← fl_length xs]; exact appCells_all
    have hs := sound_append hFx (ty := tS) hd0 hd2 he ⟨by rw [fl_length]; omega, rfl, by rw [hay, fl_length], by rw [hay]; exact fl_one ys, by rw [fl_length]; omega, hby, by rw [hy]; exact hb⟩ (fun et z h => by rw [hst] at h; cases h; exact hzk)
    obtain ⟨x, W, ids', hrun, hC, hE, hden⟩ := hs
    rw [hy] at hrun
    have hcall := hEn a xs.length c vc (some ⟨vb, vo + 0, none⟩) X.w0 W x hnc (by unfold maxLen at hcm; omega) (fun ha => by
      rcases hor with ⟨h, _⟩ | ⟨_, _, _, _, _, _, _, h, _⟩
      · exact h
      · rw [ha] at h; cases h) hrun
    refine hcall.mono ?_
    rintro ex w' ⟨rfl, rfl⟩
    obtain ⟨k1, k2⟩ := heap_kill hC 1
    refine fin x w' _ ids' k1 ?_ (by have h := hden.mono k2; simp only [hy] at h ⊢; exact h)
    rw [hay, hax]
    have hii : fl (insL xs (xs.length : Int) ys) = fl xs ++ fl ys := by unfold insL; simp [fl_append]
    rw [hii]
    funext j
    match j with
    | 0 => rfl
    | 1 => rfl
    | 2 => rfl
    | j + 3 => rfl
  · have hkn' : k < xs.length := by omega
    obtain ⟨b, o, e2, cs2, arr0, hC2, hid, rfl, hw0, hcap⟩ : ∃ b o e' cs arr, getH [(0, Chunk.row e (fl xs)), (1, Chunk.row e (fl ys))] 0 = .row e' cs ∧ X.ids0 0 = some (b, o) ∧ a = some ⟨b, o + 0, none⟩ ∧ X.w0.heap[b]? = some (.cells arr e' (0, 0)) ∧ o + 0 + c * X.P.cellsOf e' ≤ arr.size := by
      rcases hor with ⟨h, _⟩ | h
      · omega
      · exact h
    rw [hH0] at hC2; cases hC2
    have hvb : vb ≠ b := fun h => by
      have := hF.st.inj 1 0 b vo o hl1 hl0 (h ▸ hvid) hid
      cases this
    obtain ⟨arr, lx, hw, hls, hlx, hgx, h1x, hdx⟩ := row_list hF.toHeapC hH0 hid (fl_one xs)
    obtain ⟨arv, ly, hwv, hlsv, hly, hgy, h1y, hdy⟩ := row_list hF.toHeapC hH1 hvid (fl_one ys)
    rw [hw0] at hw; cases hw
    rw [hvw] at hwv; cases hwv
    rw [hce] at hcap hvsz
    have hdl : (lx.drop (k * Enc.sz α)).length = (xs.length - k) * Enc.sz α := by rw [List.length_drop, hlx, hfx, Nat.sub_mul]
    have h1d : ∀ v ∈ lx.drop (k * Enc.sz α), v.oneCell' = true := fun v hv => h1x v (List.mem_of_mem_drop hv)
    have hcx : ∀ (W : World) (j : Nat), W.heap[b]? = some (.cells arr0 e (0, 0)) → j < (fl xs).length → W.cell? ⟨b, o + j, none⟩ = some (lx.getD j undef) := fun W j hW hj => by
      simp only [World.cell?, hW]
      rw [hgx j hj]
      simp [Array.getD_eq_getD_getElem?, Array.getElem?_eq_getElem (show o + j < arr0.size by omega)]
    have hcy : ∀ (W : World) (j : Nat), W.heap[vb]? = some (.cells varr e (0, 0)) → j < (fl ys).length → W.cell? ⟨vb, vo + j, none⟩ = some (ly.getD j undef) := fun W j hW hj => by
      simp only [World.cell?, hW]
      rw [hgy j hj]
      simp [Array.getD_eq_getD_getElem?, Array.getElem?_eq_getElem (show vo + j < varr.size by omega)]
    have hsx : (xs.length - k) * Enc.sz α + k * Enc.sz α = xs.length * Enc.sz α := by rw [← Nat.add_mul]; congr 1; omega
    have hk1z : (k + 1) * Enc.sz α = k * Enc.sz α + Enc.sz α := Nat.succ_mul _ _
    have hn1z : (xs.length + 1) * Enc.sz α = xs.length * Enc.sz α + Enc.sz α := Nat.succ_mul _ _
    by_cases hroom : xs.length + 1 ≤ c
    · -- there is room
      have hroomz : o + (xs.length + 1) * Enc.sz α ≤ arr0.size := by
        have : (xs.length + 1) * Enc.sz α ≤ c * Enc.sz α := Nat.mul_le_mul_right _ hroom
        omega
      have e1 : o + (k + 1) * Enc.sz α + (lx.drop (k * Enc.sz α)).length ≤ arr0.size := by rw [hdl]; omega
      have e2 : o + k * Enc.sz α + ly.length ≤ (putR arr0 (o + (k + 1) * Enc.sz α) (lx.drop (k * Enc.sz α))).size := by rw [putR_size e1, hly, hfy]; omega
      have hwd : X.w0.drew.heap[b]? = some (.cells arr0 e (0, 0)) := hw0
      have hcp1 := fun ty dc sc => run_copy_put (P := X.P) X.w0.drew tS tS ty e e (Enc.sz α) b (o + (k + 1) * Enc.sz α) (xs.length - k) dc ⟨b, o + k * Enc.sz α, none⟩ (xs.length + 1 - k) sc (lx.drop (k * Enc.sz α)) arr0 hst
        (by rw [hdl, show Nat.min (xs.length + 1 - k) (xs.length - k) = xs.length - k from Nat.min_eq_right (by omega)]) hwd e1 (fun j v hj => by
          obtain ⟨g1, g2⟩ := getElem_getD hj
          rw [add_mk, Nat.add_assoc, hcx _ _ hwd (by rw [hdl] at g2; omega), ← g1, getD_drop]) h1d
      have hw1 := setRow_heap X.w0.drew b arr0 (putR arr0 (o + (k + 1) * Enc.sz α) (lx.drop (k * Enc.sz α))) e (0, 0) hwd
      have hv1 : (X.w0.drew.setRow b (putR arr0 (o + (k + 1) * Enc.sz α) (lx.drop (k * Enc.sz α)))).heap[vb]? = some (.cells varr e (0, 0)) := by rw [setRow_other _ _ _ _ hvb]; exact hvw
      have hcp2 := fun ty dc => run_copy_put (P := X.P) (X.w0.drew.setRow b (putR arr0 (o + (k + 1) * Enc.sz α) (lx.drop (k * Enc.sz α)))) tS tS ty e e (Enc.sz α) b (o + k * Enc.sz α) (xs.length + 1 - k) dc ⟨vb, vo + 0, none⟩ 1 vc ly _ hst
        (by rw [hly, hfy, show Nat.min 1 (xs.length + 1 - k) = 1 from Nat.min_eq_left (by omega), Nat.one_mul]) hw1 e2 (fun j v hj => by
          obtain ⟨g1, g2⟩ := getElem_getD hj
          rw [add_mk, show vo + 0 + j = vo + j from by omega, hcy _ _ hv1 (by omega), ← g1]) h1y
      rw [setRow_setRow] at hcp2
      refine (hSh b (o + 0) xs.length c k vc (some ⟨vb, vo + 0, none⟩) X.w0 _ _ _ _ hkn' hroom (by unfold maxLen at hcm; omega) (fun lb cb => hov _ _ _ ?_) hcp1 hcp2).mono ?_
      · exact Lib.run_overlaps_apart X.w0 tS tB e hu (Enc.sz α) (fun w => by simp [sizeOf, typeInfo, hti, htz]) ⟨vb, vo + 0, none⟩ ⟨b, _, none⟩ 1 vc lb cb hvb e e varr.size arr0.size (by simp [World.shape?, hvw]) (by simp [World.shape?, hw0]) (by omega) (by simp [World.frozen?, hvw]) (by simp [World.frozen?, hvw])
      · rintro ex w' ⟨rfl, rfl⟩
        generalize hA : putR (putR arr0 (o + (k + 1) * Enc.sz α) (lx.drop (k * Enc.sz α))) (o + k * Enc.sz α) ly = A
        have hAs : A.size = arr0.size := by rw [← hA, putR_size e2, putR_size e1]
        have hAg : ∀ q, A.getD (o + q) undef = if q < k * Enc.sz α then arr0.getD (o + q) undef else if q < (k + 1) * Enc.sz α then ly.getD (q - k * Enc.sz α) undef else if q < (xs.length + 1) * Enc.sz α then lx.getD (q - Enc.sz α) undef else arr0.getD (o + q) undef := by
          intro q
          rw [← hA, putR_get e2, putR_get e1, hdl, hly, hfy, getD_drop]
          repeat' split
          all_goals first | omega | rfl | (congr 1; omega)
        obtain ⟨d1c, d2⟩ := hF.toHeapC.drew
        have d1 : HeapX X [(0, Chunk.row e (fl xs)), (1, Chunk.row e (fl ys))] 2 X.ids0 X.w0.drew := ⟨d1c, hFx.fresh, hFx.m_le⟩
        obtain ⟨g1c, g2⟩ := heap_turn d1 hH0 hid (cs' := (fl xs).take (k * Enc.sz α)) hwd (arr' := A) hAs (by rw [List.length_take]; omega) (by rw [List.length_take]; omega) (fun j x hj => by
          have hjl := (List.getElem?_eq_some_iff.1 hj).1
          rw [List.length_take] at hjl
          rw [List.getElem?_take, if_pos (by omega)] at hj
          rw [hAg, if_pos (by omega), ← hgx j (by omega)]
          exact (hdx j x hj).mono d2)
        have g1 : HeapX X ([(0, Chunk.row e ((fl xs).take (k * Enc.sz α)))] ++ [(0, Chunk.row e (fl xs)), (1, Chunk.row e (fl ys))]) 2 X.ids0 _ := ⟨g1c, rfl, hFx.m_le⟩
        obtain ⟨r1, r2⟩ := heap_renameG g1 (k := 0) (e := e) (cs := (fl xs).take (k * Enc.sz α)) (cs' := fl (insL xs (k : Int) ys)) (off := 0) rfl (fun hn => by rw [hid] at hn; cases hn) (fun b1 o1 arr1 hi1 ha1 => by
          rw [hid] at hi1; cases hi1
          rw [setRow_heap X.w0.drew b arr0 A e (0, 0) hwd] at ha1; cases ha1
          rw [hflI]
          refine ⟨by rw [insC_len hql, hfx, hfy, hAs]; omega, fun j x hj => ?_⟩
          have hE := Ext_trans' d2 g2
          rw [Nat.add_zero, hAg]
          rcases insC_get hql hj with ⟨c1, c2⟩ | ⟨c1, c2, c3⟩ | ⟨c1, c2⟩
          · rw [if_pos c1, ← hgx j (by omega)]
            exact (hdx j x c2).mono hE
          · rw [hfy] at c2
            rw [if_neg (by omega), if_pos (by omega)]
            exact (hdy _ x c3).mono hE
          · rw [hfy] at c1 c2
            have c3 := (List.getElem?_eq_some_iff.1 c2).1
            rw [if_neg (by omega), if_neg (by omega), if_pos (by omega)]
            exact (hdx _ x c2).mono hE)
        obtain ⟨k1, k2⟩ := heap_kill r1 1
        refine fin _ _ _ _ k1 ?_ ?_
        · funext j
          match j with
          | 0 => rfl
          | 1 => rfl
          | 2 => rfl
          | j + 3 => rfl
        · refine .own _ _ rfl ⟨hroom, hcm, fun e' cs' hc' => ?_, .inr ⟨b, o, e, fl (insL xs (k : Int) ys), A, rfl, ?_, by simp, setRow_heap X.w0.drew b arr0 A e (0, 0) hwd, ?_⟩⟩
          · have : Chunk.row e (fl (insL xs (k : Int) ys)) = .row e' cs' := hc'
            cases this
            rw [fl_length, hlen, hce, Nat.zero_add]
            exact Nat.mul_le_mul_right _ hroom
          · rw [upd_same, hid]; rfl
          · rw [hce, hAs]; omega
    · -- it grows
      have hg1 : c < xs.length + 1 := by omega
      obtain ⟨zv, hzv, hzc⟩ := zokT_true hzk hti
      have hgc : xs.length + 1 ≤ grownCap X.w0 (xs.length + 1) c e := grownCap_ge X.w0 (xs.length + 1) c e
      have hgm : grownCap X.w0 (xs.length + 1) c e ≤ maxLen := grownCap_le_maxLen X.w0 (xs.length + 1) c e (by unfold maxLen; omega)
      have hold : (Builtin.firstCells ti.size k (.slice (some ⟨b, o + 0, none⟩) k c)).run X.P X.w0.drew = .ok (lx.take (k * Enc.sz α)).toArray X.w0.drew := by
        rw [htz]
        refine run_firstCells_some X.w0.drew (Enc.sz α) k ⟨b, o + 0, none⟩ k c (lx.take (k * Enc.sz α)) (by rw [List.length_take, hlx]; omega) (fun j v hj => ?_)
        obtain ⟨g1, g2⟩ := getElem_getD hj
        rw [List.length_take] at g2
        rw [add_mk, Nat.add_zero, World.cell?_drew, hcx _ _ hw0 (by omega), ← g1, getD_take _ _ _ (by omega)]
      have hki : k + (xs.length + 1 - k) = xs.length + 1 := by omega
      have hap := fun ty => Lib.run_append_grow_zeros (P := X.P) X.w0 tS tI ty e ti zv .i64 .i64 hu htI hti hzv (some ⟨b, o + 0, none⟩) k c (lx.take (k * Enc.sz α)) hold (xs.length + 1 - k) (by omega) (by rw [htz]; exact hz0) (by omega) (by omega)
        (by
          have : (xs.length + 1 - k) * ti.bytes ≤ (xs.length + 1) * ti.bytes := Nat.mul_le_mul_right _ (by omega)
          rw [hbe] at hb; omega) (by rw [hki]; rw [hbe] at hb; exact growslice_fits hg1 hb)
      rw [hki] at hap
      have hkk : ((xs.length + 1 - k : Nat) : Int) = (xs.length : Int) + 1 - k := by omega
      rw [hkk] at hap
      generalize hG : grownCap X.w0 (xs.length + 1) c e = G at hap hgc hgm
      generalize hA0 : (lx.take (k * Enc.sz α)).toArray ++ Builtin.zeroCells zv.cells (xs.length + 1 - k) ++ Builtin.zeroCells zv.cells (G - (xs.length + 1)) = A0 at hap
      have hA0s : A0.size = G * Enc.sz α := by
        rw [← hA0, Array.size_append, Array.size_append, List.size_toArray, List.length_take, size_zeroCells, size_zeroCells, hzc, htz, hlx, Nat.min_eq_left hql, ← Nat.add_mul, ← Nat.add_mul]
        congr 1; omega
      have hA0g : ∀ q, q < k * Enc.sz α → A0.getD q undef = lx.getD q undef := fun q hq => by
        rw [← hA0, Array.getD_eq_getD_getElem?, Array.append_assoc, Array.getElem?_append_left (by rw [List.size_toArray, List.length_take]; omega), List.getElem?_toArray, ← List.getD_eq_getElem?_getD, getD_take _ _ _ hq]
      have hGz : (xs.length + 1) * Enc.sz α ≤ G * Enc.sz α := Nat.mul_le_mul_right _ hgc
      have hbs : b < X.w0.heap.size := (hF.st.lt 0 b o hl0 hid).1
      have hvbs : vb < X.w0.heap.size := (hF.st.lt 1 vb vo hl1 hvid).1
      have hnb : (X.w0.drew.alloc (.cells A0 e)).heap[X.w0.heap.size]? = some (.cells A0 e (0, 0)) := heap_alloc_new' X.w0.drew _
      have hob : ∀ q, q < X.w0.heap.size → (X.w0.drew.alloc (.cells A0 e)).heap[q]? = X.w0.heap[q]? := fun q hq => heap_alloc_lt X.w0.drew _ q hq
      have e1 : k * Enc.sz α + ly.length ≤ A0.size := by rw [hA0s, hly, hfy]; omega
      have hcp1 := fun ty dc => run_copy_put (P := X.P) (X.w0.drew.alloc (.cells A0 e)) tS tS ty e e (Enc.sz α) X.w0.heap.size (k * Enc.sz α) (xs.length + 1 - k) dc ⟨vb, vo + 0, none⟩ 1 vc ly A0 hst
        (by rw [hly, hfy, show Nat.min 1 (xs.length + 1 - k) = 1 from Nat.min_eq_left (by omega), Nat.one_mul]) hnb e1 (fun j v hj => by
          obtain ⟨g1, g2⟩ := getElem_getD hj
          rw [add_mk, Nat.add_zero, hcy _ _ (by rw [hob _ hvbs]; exact hvw) (by omega), ← g1]) h1y
      have hw1 := setRow_heap (X.w0.drew.alloc (.cells A0 e)) X.w0.heap.size A0 (putR A0 (k * Enc.sz α) ly) e (0, 0) hnb
      have e2 : (k + 1) * Enc.sz α + (lx.drop (k * Enc.sz α)).length ≤ (putR A0 (k * Enc.sz α) ly).size := by rw [putR_size e1, hA0s, hdl]; omega
      have hcp2 := fun ty dc sc => run_copy_put (P := X.P) ((X.w0.drew.alloc (.cells A0 e)).setRow X.w0.heap.size (putR A0 (k * Enc.sz α) ly)).drew tS tS ty e e (Enc.sz α) X.w0.heap.size ((k + 1) * Enc.sz α) (xs.length - k) dc ⟨b, o + k * Enc.sz α, none⟩ (xs.length - k) sc (lx.drop (k * Enc.sz α)) _ hst
        (by rw [hdl]; congr 1; exact (Nat.min_self _).symm) hw1 e2 (fun j v hj => by
          obtain ⟨g1, g2⟩ := getElem_getD hj
          have hbw : ((X.w0.drew.alloc (.cells A0 e)).setRow X.w0.heap.size (putR A0 (k * Enc.sz α) ly)).drew.heap[b]? = some (.cells arr0 e (0, 0)) := by
            show ((X.w0.drew.alloc (.cells A0 e)).setRow X.w0.heap.size _).heap[b]? = _
            rw [setRow_other _ _ _ _ (by omega), hob _ hbs]; exact hw0
          rw [add_mk, Nat.add_assoc, hcx _ _ hbw (by rw [hdl] at g2; omega), ← g1, getD_drop]) h1d
      refine (hGr b (o + 0) xs.length c k vc (some ⟨vb, vo + 0, none⟩) X.w0.heap.size G X.w0 _ _ _ _ _ hkn' hnc hg1 hgc (by unfold maxLen at hgm; omega) hap hcp1 hcp2).mono ?_
      rintro ex w' ⟨rfl, rfl⟩
      obtain ⟨d1c, d2⟩ := hF.toHeapC.drew
      have d1 : HeapX X [(0, Chunk.row e (fl xs)), (1, Chunk.row e (fl ys))] 2 X.ids0 X.w0.drew := ⟨d1c, hFx.fresh, hFx.m_le⟩
      have hAny : ∀ (C : Nat → Chunk) (ids : Ids) (I : Nat → Prop) (W : World) (N j : Nat) (s : SV) (y : Value), (List.replicate N SV.any)[j]? = some s → Den X.P C ids I W s y := fun C ids I W N j s y h => by
        have := (List.getElem?_eq_some_iff.1 h)
        obtain ⟨h1, h2⟩ := this
        rw [List.getElem_replicate] at h2
        subst h2; exact .any
      have hNl : (List.replicate ((xs.length + 1) * Enc.sz α) SV.any).length = (xs.length + 1) * Enc.sz α := List.length_replicate
      obtain ⟨a1c, a2⟩ := heap_alloc d1 (e := e) (cs := List.replicate ((xs.length + 1) * Enc.sz α) .any) (arr := A0) (by rw [hNl, hA0s]; exact hGz) (fun j x hj => hAny _ _ _ _ _ _ _ _ hj)
      generalize hC1 : List.replicate ((xs.length + 1) * Enc.sz α) SV.any = C1 at *
      have a1 : HeapX X ([(2, Chunk.row e C1)] ++ [(0, Chunk.row e (fl xs)), (1, Chunk.row e (fl ys))]) 3 (upd X.ids0 2 (some (X.w0.heap.size, 0))) (X.w0.drew.alloc (.cells A0 e)) := ⟨a1c, rfl, by have := hFx.m_le; omega⟩
      have hidn : upd X.ids0 2 (some (X.w0.heap.size, 0)) 2 = some (X.w0.heap.size, 0) := upd_same _ _ _
      obtain ⟨b1c, b2⟩ := heap_turn a1 (k := 2) (e := e) (cs := C1) (cs' := C1) rfl hidn hnb (arr' := putR A0 (k * Enc.sz α) ly) (putR_size e1) (by rw [hNl, hA0s]; omega) (Nat.le_refl _) (fun j x hj => hAny _ _ _ _ _ _ _ _ (hC1 ▸ hj))
      obtain ⟨c1c, c2⟩ := b1c.drew
      have c1 : HeapX X ([(2, Chunk.row e C1)] ++ ([(2, Chunk.row e C1)] ++ [(0, Chunk.row e (fl xs)), (1, Chunk.row e (fl ys))])) 3 (upd X.ids0 2 (some (X.w0.heap.size, 0))) _ := ⟨c1c, rfl, a1.m_le⟩
      have hE : ExtX X [(0, Chunk.row e (fl xs)), (1, Chunk.row e (fl ys))] X.ids0 X.w0 _ _ _ := Ext_trans' d2 (Ext_trans' a2 (Ext_trans' b2 c2))
      have hAs : (putR (putR A0 (k * Enc.sz α) ly) ((k + 1) * Enc.sz α) (lx.drop (k * Enc.sz α))).size = G * Enc.sz α := by rw [putR_size e2, putR_size e1, hA0s]
      have hAg : ∀ q, (putR (putR A0 (k * Enc.sz α) ly) ((k + 1) * Enc.sz α) (lx.drop (k * Enc.sz α))).getD q undef = if q < k * Enc.sz α then A0.getD q undef else if q < (k + 1) * Enc.sz α then ly.getD (q - k * Enc.sz α) undef else if q < (xs.length + 1) * Enc.sz α then lx.getD (q - Enc.sz α) undef else A0.getD q undef := by
        intro q
        rw [putR_get e2, putR_get e1, hdl, hly, hfy, getD_drop]
        repeat' split
        all_goals first | omega | rfl | (congr 1; omega)
      obtain ⟨r1, r2⟩ := heap_turn c1 (k := 2) (e := e) (cs := C1) (cs' := fl (insL xs (k : Int) ys)) rfl hidn hw1 (arr' := putR (putR A0 (k * Enc.sz α) ly) ((k + 1) * Enc.sz α) (lx.drop (k * Enc.sz α))) (putR_size e2)
        (by rw [fl_length, hlen, putR_size e1, hA0s]; omega) (by rw [fl_length, hlen, hNl]; exact Nat.le_refl _) (fun j x hj => by
          rw [hflI] at hj
          rw [Nat.zero_add, hAg]
          rcases insC_get hql hj with ⟨q1, q2⟩ | ⟨q1, q2, q3⟩ | ⟨q1, q2⟩
          · rw [if_pos q1, hA0g _ q1]
            exact (hdx j x q2).mono hE
          · rw [hfy] at q2
            rw [if_neg (by omega), if_pos (by omega)]
            exact (hdy _ x q3).mono hE
          · rw [hfy] at q1 q2
            have q3 := (List.getElem?_eq_some_iff.1 q2).1
            rw [if_neg (by omega), if_neg (by omega), if_pos (by omega)]
            exact (hdx _ x q2).mono hE)
      obtain ⟨k1, _⟩ := heap_kill r1 0
      obtain ⟨k2, _⟩ := heap_kill k1 1
      refine fin _ _ _ _ k2 ?_ ?_
      · funext j
        match j with
        | 0 => rfl
        | 1 => rfl
        | 2 => rfl
        | j + 3 => rfl
      · refine .own _ _ rfl ⟨hgc, hgm, fun e' cs' hc' => ?_, .inr ⟨X.w0.heap.size, 0, e, fl (insL xs (k : Int) ys), _, rfl, hidn, rfl, setRow_heap _ _ _ _ e (0, 0) hw1, ?_⟩⟩
        · have : Chunk.row e (fl (insL xs (k : Int) ys)) = .row e' cs' := hc'
          cases this
          rw [fl_length, hlen, hce, Nat.zero_add]
          exact hGz
        · rw [hce, hAs]; omega
end Go.Sx
end

section
namespace Go.Sx
open Go.RowKit
set_option linter.unusedVariables false
variable {P : Program}

theorem getH_above {l : Hp} {n : Nat} (h : l.all (fun p => Nat.blt p.1 n) = true) (k : Nat) (hk : n ≤ k) : getH l k = .unborn := by
  refine getH_unlisted fun ⟨p, hp, he⟩ => ?_
  have := List.all_eq_true.1 h p hp
  rw [Nat.blt_eq] at this
  omega
theorem SpecW.give {f : FuncId} {args : List SV} {hin : Hp} {m : Nat} {X : SV} {H : Hp} {nn : Nat} (spec : SpecW P f args hin m (fun x h n => x = X ∧ h = H ∧ n = nn)) (hin2 : Hp) (args2 : List SV) (sig : List (Nat × Nat)) (X2 : SV) (H2 : Hp)
    (h1 : leL hin2 hin sig [m] args2 args) (h2 : leH hin2 hin sig [m] hin) (b1 : leL hin hin sig [] args args) (b2 : leH hin hin sig [] hin)
    (h3 : (okN (m + 1) sig [m], okH (m + 1) (m + 1) sig hin, okN 0 sig [], okH 0 m sig hin, okC m hin sig, wfH H) = (true, true, true, true, true, true))
    (e1 : renS (bck (getN sig) (m + 1)) X = X2) (e2 : back (getN sig) (m + 1) m H = H2) (h4 : (hin.all (fun p => H2.any fun q => q.1 == p.1), H2.all (fun p => Nat.blt p.1 (m + 1 + nn))) = (true, true)) :
    SpecW P f args2 hin2 (m + 1) (fun x h n => x = X2 ∧ h = H2 ∧ n = m + 1 + nn) := by
  simp only [Prod.mk.injEq] at h3 h4
  obtain ⟨k1, k2, k3, k4, k5, k6⟩ := h3
  obtain ⟨k7, k8⟩ := h4
  refine ⟨spec.1, fun Y vals hP hm hF hsz hd => ?_⟩
  subst hP
  obtain ⟨l1, l2⟩ := leL_get h1
  obtain ⟨l3, l4⟩ := leL_get b1
  have hsub : Sub Y.P (getH hin2) (getH hin) (getN sig) (· ∈ [m]) := sub_mk h2 k1
  obtain ⟨ids', hF', hden⟩ := weaken (nx' := m + 1) hF.toHeapC hsub (okH_fresh k2) (fun k hk hl => by
    rw [hm] at hk
    refine okH_kept (fun p hp => ?_) k2 k hk hl
    simp only [okN, Bool.and_eq_true, List.all_eq_true] at k1
    have := (k1.2 p hp).2
    simpa using this) (by rw [hm]; exact Nat.le_refl _)
  have hok : ∀ k j, getN sig k = some j → k < m ∧ liveK hin k = true := fun k j hk => by
    simp only [okC, List.all_eq_true, Bool.and_eq_true] at k5
    obtain ⟨h6, h7⟩ := k5 _ (getN_mem hk)
    exact ⟨by simpa [Nat.blt_eq] using h6, h7⟩
  have inj : ∀ k1 k2 j, getN sig k1 = some j → getN sig k2 = some j → k1 = k2 := by
    simp only [okN, Bool.and_eq_true] at k3
    exact nodupN_inj k3.1
  have fresh : ∀ k, m ≤ k → getN sig k = none ∧ getH hin k = .unborn := fun k hk => ⟨by
    cases hn : getN sig k with
    | none => rfl
    | some j => have := (hok k j hn).1; omega, okH_fresh k4 k hk⟩
  have hsub2 : Sub Y.P (getH hin) (getH hin) (getN sig) (· ∈ ([] : List Nat)) := sub_mk b2 k3
  refine (call_sound (nx := m + 1) (args := args) hF'.toHeapC (by rw [hm]; exact Nat.le_refl _) spec hsub2 fresh inj (fun k j hk => (hok k j hk).2) rfl (fun i x y hx hy => leS_sound (l4 i x y hx hy)) (vals := vals) (by rw [hsz, l1]) (fun i x hx => ?_)).mono ?_
  · have hlt := (List.getElem?_eq_some_iff.1 hx).1
    have hx2 := List.getElem?_eq_getElem (show i < args2.length by omega)
    exact hden _ _ _ (leS_sound (l2 i _ x hx2 hx)) (hd i _ hx2)
  · rintro e w' ⟨r, res, hp', nx', rfl, ⟨rfl, rfl, rfl⟩, ⟨c1, c2⟩, c3⟩
    obtain ⟨ids2, d1, d2, d3⟩ := c3 ⟨k6, fun k hk => okH_fresh k4 _ (by omega), .inl fun k hk => by cases hk⟩
    rw [e2] at d1 d2 d3
    rw [e1] at d3
    have hg : getH (H2 ++ hin) = getH H2 := by
      funext k
      rw [getH_append]
      split
      · rfl
      · rename_i hn
        rw [getH_unlisted hn]
        refine getH_unlisted fun ⟨p, hp, he⟩ => hn ?_
        have := List.all_eq_true.1 k7 p hp
        simp only [List.any_eq_true, beq_iff_eq] at this
        obtain ⟨q, hq, hqe⟩ := this
        exact ⟨q, hq, hqe.trans he⟩
    exact ⟨r, X2, H2, _, ids2, rfl, ⟨rfl, rfl, rfl⟩, ⟨d1.congr hg, getH_above k8, by rw [hm]; exact Nat.le_add_right _ _⟩, d3.congr hg⟩

/-! ### A nil slice in a literal: an empty one -/
def nilS : SV → SV
  | .v (.slice none 0 0) => .sl 0 []
  | x => x
theorem den_nilS {C : Nat → Chunk} {ids : Ids} {I : Nat → Prop} {w : World} {s : SV} {x : Value} (h : Den P C ids I w s x) : Den P C ids I w (nilS s) x := by
  unfold nilS
  split
  · obtain rfl := den_v h
    exact .sl0 (by unfold maxLen; omega)
  · exact h
theorem retell {X : Cx} {hp : Hp} {ids : Ids} {w : World} (h : HeapC X hp ids w) {k b o : Nat} {e : TypeId} {cs : List SV} (hk : getH hp k = .row e cs) (hi : ids k = some (b, o)) :
    HeapC X ((k, .row e (cs.map nilS)) :: hp) ids w ∧ ExtX X hp ids w ((k, .row e (cs.map nilS)) :: hp) ids w := by
  have hlk : (getH hp k).live = true := by rw [hk]; rfl
  have hch := h.st.ch k
  rw [hk] at hch
  simp only [DenC, hi] at hch
  obtain ⟨arr, ha, hl, hx⟩ := hch
  have hsk : SameKind (getH hp k) (.row e (cs.map nilS)) := by rw [hk]; exact ⟨rfl, by rw [List.length_map]; exact Nat.le_refl _⟩
  have hE := h.st.turn_ext hlk hi (c := .row e (cs.map nilS)) rfl hsk (w' := w) rfl (fun j _ => rfl) (SameShape.refl _)
  have hC : getH ((k, .row e (cs.map nilS)) :: hp) = upd (getH hp) k (.row e (cs.map nilS)) := getH_upd k _ hp
  refine ⟨⟨?_, fun j hj hjl => ?_⟩, ?_⟩
  · rw [hC]
    refine h.st.turn hlk hi rfl hsk rfl (fun j _ => rfl) (SameShape.refl _) rfl rfl rfl ?_
    simp only [DenC, hi]
    refine ⟨arr, ha, by rw [List.length_map]; exact hl, fun i x hix => ?_⟩
    rw [List.getElem?_map] at hix
    cases hq : cs[i]? with
    | none => rw [hq] at hix; cases hix
    | some y => rw [hq] at hix; cases hix; exact (den_nilS (hx i y hq)).mono hE
  · rw [hC] at hjl ⊢
    have hlo : (getH hp j).live = true := by
      by_cases hjk : j = k
      · subst hjk; exact hlk
      · rwa [upd_ne _ _ hjk] at hjl
    exact (h.kept j hj hlo).step hE hlo hjl
  · simp only [ExtX, hC]; exact hE
variable {fr : Fr} {hp : Hp} {nx : Nat} {ops : Array Oper}
theorem run_nilF {d : Bool} {l : List Oper} {acc : List Nms} {K : Fr → Hp → Nat → Prop} (dst : Option Tmp) (n : Nat) (e : TypeId) (cs cs' : List SV)
    (hc : (headOp P ops fr l).map (fun o => (o.dst, opS P true fr hp nx o.type o.op)) = some (dst, .ok True ⟨.own nx 0 n, [(nx, .row e cs)], nx + 1, []⟩)) (hn : Nat.blt 0 n = true) (hw : cs.map nilS = cs')
    (h : RunAt P d ops (l.drop 1) (putF dst (.own nx 0 n) fr) ([(nx, .row e cs')] ++ hp) (bif d then nx + 2 else nx + 1) (acc ++ [⟨[nx], [], nx, nx + 1⟩]) K) : RunAt P d ops l fr hp nx acc K := by
  obtain ⟨o, ho, hh⟩ := Option.map_eq_some_iff.1 hc
  simp only [Prod.mk.injEq] at hh
  obtain ⟨rfl, hop⟩ := hh
  subst hw
  refine run_sem o ⟨.own nx 0 n, [(nx, .row e (cs.map nilS))], nx + 1, []⟩ ho (Nat.le_succ _) ?_ h
  intro X ids w fr' hp' a hP h1 h2 h3 h4 h5 h6 KK Q hK
  subst hP
  have hop' := opS_local (hp' := hp') hop h4 (fun k hk => by cases hk)
  obtain ⟨x, w', ids', g1, g2, g3, g4⟩ := op_sound (nx := nx) ⟨h1, h5, h2⟩ h3 (g := true) rfl hop' trivial
  have g2' : HeapC X ((nx, Chunk.row e cs) :: hp') ids' w' := g2
  have hrow : getH ((nx, Chunk.row e cs) :: hp') nx = .row e cs := by rw [getH_upd, upd_same]
  have g4' : DenX X ((nx, Chunk.row e cs) :: hp') ids' w' (.own nx 0 n) x := g4
  obtain ⟨ad, cap, hxv, c1, c2, c3, c4⟩ := den_own g4' (by rw [hrow]; rfl)
  have hn' : 0 < n := by simpa [Nat.blt_eq] using hn
  obtain ⟨b, q, e2, cs2, arr, hC2, hid, _⟩ : ∃ b o e' cs' arr, getH ((nx, Chunk.row e cs) :: hp') nx = .row e' cs' ∧ ids' nx = some (b, o) ∧ ad = some ⟨b, o + 0, none⟩ ∧ w'.heap[b]? = some (.cells arr e' (0, 0)) ∧ o + 0 + cap * X.P.cellsOf e' ≤ arr.size := by
    rcases c4 with ⟨h, _⟩ | h
    · omega
    · exact h
  obtain ⟨r1, r2⟩ := retell g2' hrow hid
  have hg : getH ((nx, Chunk.row e (cs.map nilS)) :: (nx, Chunk.row e cs) :: hp') = getH ([(nx, Chunk.row e (cs.map nilS))] ++ hp') := by
    show _ = getH ((nx, _) :: hp')
    rw [getH_upd, getH_upd, getH_upd]
    funext j
    unfold upd
    split <;> rfl
  refine wp_of_soundN g1 (hK (.own nx 0 n) [(nx, .row e (cs.map nilS))] (nx + 1) [] x w' ids' ⟨rfl, rfl, rfl, rfl⟩ ⟨Nat.le_succ _, fun p hp => ?_⟩ (r1.congr hg) ?_ ?_)
  · simp only [List.mem_singleton] at hp
    subst hp
    exact .inl ⟨Nat.le_refl _, Nat.lt_succ_self _⟩
  · have := Ext_trans' g3 r2
    simp only [ExtX, hg] at this
    exact this
  · exact DenX.congr (g4'.mono r2) hg
end Go.Sx
end
