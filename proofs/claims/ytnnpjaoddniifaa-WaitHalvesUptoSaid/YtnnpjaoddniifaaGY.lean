/-
  G, part Y: operations whose outcome is named; ends.
-/
import Derived.Test.YtnnpjaoddniifaaGX
import Derived.Test.YtnnpjaoddniifaaGB
set_option linter.unusedSimpArgs false
set_option linter.unusedVariables false
namespace Go.Sx
open Go.RowKit
set_option linter.unusedVariables false
variable {P : Program} {m N : Nat} {Q : SPost} {fr : Fr} {hp : Hp} {nx : Nat} {ops : Array Oper}

theorem back_f {l : List Oper} {K : Fr → Hp → Nat → Prop} (h : RunAt P false ops l fr hp nx [] K) : runOps P ops l fr hp nx (EqW K) := h
theorem back_t {l : List Oper} {acc : List Nms} {K : Fr → Hp → Nat → Prop} (h : RunAt P true ops l fr hp nx acc K) : runE P ops l fr hp nx acc (EqW K) := h
theorem chk_sx {ρ : Type} {b : Bool} {X : Option ρ} {o : ρ} {G : Prop} (h : (bif b then X else none) = some o) (k : b = true → X = some o → G) : G := by
  cases b with
  | false => cases h
  | true => exact k rfl h
theorem or_use {p b : Bool} (h : (!p || b) = true) (hp : p = true) : b = true := by subst hp; exact h
theorem split_s {ρ : Type} {i n : Int} {X Y : Option ρ} {o : ρ} {G : Prop} (h : (bif i == n then X else Y) = some o) (k1 : i = n → X = some o → G) (k2 : ¬ i = n → Y = some o → G) : G := by
  cases hb : (i == n) with
  | true => rw [hb] at h; exact k1 (by simpa using hb) h
  | false => rw [hb] at h; exact k2 (by simpa using hb) h
theorem run_br {d : Bool} {l : List Oper} {acc : List Nms} {K : Fr → Hp → Nat → Prop} {ρ : Type} {b : Bool} {X Y : Option ρ} {o : ρ} (h : (bif b then X else Y) = some o) (t : Nat) (ht : getF fr t = .v (.bool b) ∨ getF fr t = .gd true (.v (.bool b)))
    (k1 : b = true → X = some o → RunAt P d ops l ((t, bif (match getF fr t with | .gd _ _ => true | _ => false) then .gd true (.v (.bool true)) else .v (.bool true)) :: fr) hp nx acc K)
    (k2 : b = false → Y = some o → RunAt P d ops l ((t, bif (match getF fr t with | .gd _ _ => true | _ => false) then .gd true (.v (.bool false)) else .v (.bool false)) :: fr) hp nx acc K) : RunAt P d ops l fr hp nx acc K :=
  run_split t b ht (fun hb => k1 hb (by rw [hb] at h; exact h)) (fun hb => k2 hb (by rw [hb] at h; exact h))
/-- A number is the one that it is. -/
theorem run_at {d : Bool} {l : List Oper} {acc : List Nms} {K : Fr → Hp → Nat → Prop} (t : Nat) (kd : IntKind) (i n : Int) (e : i = n) (h : getF fr t = .v (.int kd i)) (k : RunAt P d ops l ((t, .v (.int kd n)) :: fr) hp nx acc K) : RunAt P d ops l fr hp nx acc K := by
  subst e
  have e : getF ((t, .v (.int kd i)) :: fr) = getF fr := by
    funext q
    simp only [getF]
    by_cases hq : t = q
    · subst hq; simp [h]
    · rw [show (t == q) = false from by simpa using hq, cond_false]
  cases d with
  | false => exact runOps_congr (eqW_only K) l _ _ _ _ e k
  | true => exact runD_congr (frOnly_draw ·) l _ _ _ _ _ e k
theorem run_at_g {d : Bool} {l : List Oper} {acc : List Nms} {K : Fr → Hp → Nat → Prop} (t : Nat) (kd : IntKind) (i n : Int) (e : i = n) (h : getF fr t = .gd true (.v (.int kd i))) (k : RunAt P d ops l ((t, .gd true (.v (.int kd n))) :: fr) hp nx acc K) : RunAt P d ops l fr hp nx acc K := by
  subst e
  have e : getF ((t, .gd true (.v (.int kd i))) :: fr) = getF fr := by
    funext q
    simp only [getF]
    by_cases hq : t = q
    · subst hq; simp [h]
    · rw [show (t == q) = false from by simpa using hq, cond_false]
  cases d with
  | false => exact runOps_congr (eqW_only K) l _ _ _ _ e k
  | true => exact runD_congr (frOnly_draw ·) l _ _ _ _ _ e k

theorem ex_cast {R : SPost} {id : Nat} (hx : ∀ id, R (.exit id) = Q (.exit id)) (h : Q (.exit id) fr hp nx) : R (.exit id) fr hp nx := by rw [hx]; exact h
theorem rt_cast {R : SPost} (hx : R .ret = Q .ret) (h : Q .ret fr hp nx) : R .ret fr hp nx := by rw [hx]; exact h

/-! ### What a function gives back -/
def resV (P : Program) (fr : Fr) (hp : Hp) (nx : Nat) : List ResultVar → Option (List SV)
  | [] => some []
  | .tmp t :: r => (resV P fr hp nx r).map fun xs => getF fr t :: xs
  | .cell a t :: r => match getF fr a with
    | .ptr k off => match getH hp k with
      | .row _ cs => bif takeB P t cs off then (match takeS P t cs off [k] nx with
        | .ok _ e => (resV P fr hp nx r).map fun xs => e.val :: xs
        | .bad => none) else none
      | _ => none
    | _ => none
theorem resV_ok : ∀ (rs : List ResultVar) (xs : List SV) (K : List SV → Prop), resV P fr hp nx rs = some xs → K xs → resW P fr hp nx rs K
  | [], xs, K, h, k => by cases h; exact k
  | .tmp t :: r, xs, K, h, k => by
    simp only [resV, Option.map_eq_some_iff] at h
    obtain ⟨ys, h1, rfl⟩ := h
    exact resV_ok r ys (fun xs => K (getF fr t :: xs)) h1 k
  | .cell a t :: r, xs, K, h, k => by
    simp only [resV] at h
    unfold resW loadS
    split at h
    · rename_i kk off ha
      rw [ha]
      simp only
      split at h
      · rename_i e cs hk
        rw [hk]
        simp only [rowS]
        rw [Bool.cond_eq_ite] at h
        split at h
        · rename_i hb
          split at h
          · rename_i s e ht
            rw [ht]
            simp only [Option.map_eq_some_iff] at h
            obtain ⟨ys, h1, rfl⟩ := h
            exact ⟨takeB_ok ht hb, resV_ok r ys (fun xs => K (e.val :: xs)) h1 k⟩
          · cases h
        · cases h
      · cases h
    · cases h
theorem ret_at {rs : List ResultVar} {Post : SV → Hp → Nat → Prop} (x : SV) (h : (resV P fr hp nx rs).map oneOf = some x) (k : RetW P m Post x hp) : endS P rs m Post .ret fr hp nx := by
  obtain ⟨ys, h1, rfl⟩ := Option.map_eq_some_iff.1 h
  exact resV_ok rs ys _ h1 k
theorem ret_an {rs : List ResultVar} {Post : SV → Hp → Nat → Prop} (x : SV) (h : (resV P fr hp nx rs).map oneOf = some x) (k : RetW P m Post x hp) : endS P rs m Post .normal fr hp nx := by
  obtain ⟨ys, h1, rfl⟩ := Option.map_eq_some_iff.1 h
  exact resV_ok rs ys _ h1 k

/-! ### Named outcomes -/
theorem allP_nil : AllP [] := trivial
theorem allP_cons {p : Prop} {l : List Prop} (h : p) (t : AllP l) : AllP (p :: l) := ⟨h, t⟩
theorem ob_ok {s : Prop} {v v' : SV} {u u' : Hp} {n : Nat} {r : List Nat} (hs : s) (hv : v = v') (hu : u = u') : resOb (.ok s ⟨v, u, n, r⟩) ⟨v', u', n, r⟩ := ⟨hs, hv, hu, rfl, rfl⟩
variable {α : Type}
theorem ob_ix_l [Enc α] (xs : List α) (z nx : Nat) (i : Int) (k : 0 ≤ i ∧ i < ((xs.length : Nat) : Int)) : resOb (.ok (0 ≤ i ∧ i < ((xs.length : Nat) : Int)) ⟨.iptr (fl xs) (i.toNat * z), [], nx, []⟩) ⟨.iptr (fl xs) (i.toNat * z), [], nx, []⟩ := ob_ok k rfl rfl
theorem ob_ix_o (kk n off z nx : Nat) (i : Int) (k : 0 ≤ i ∧ i < ((n : Nat) : Int)) : resOb (.ok (0 ≤ i ∧ i < ((n : Nat) : Int)) ⟨.ptr kk (off + i.toNat * z), [], nx, [kk]⟩) ⟨.ptr kk (off + i.toNat * z), [], nx, [kk]⟩ := ob_ok k rfl rfl
theorem ob_ld [Enc α] (xs : List α) (i : Int) (z j off : Nat) (k : 0 ≤ i ∧ i < ((xs.length : Nat) : Int)) (hz : Enc.sz α = z) (hj : j < z) (ho : off = i.toNat * z + j) (d v : SV) (hv : (Enc.cells (ix xs i)).getD j d = v) (nx : Nat) (rds : List Nat) : resOb (.ok (off < (fl xs).length) ⟨(fl xs).getD off d, [], nx, rds⟩) ⟨v, [], nx, rds⟩ := by
  subst hz
  have hlt : i.toNat < xs.length := by omega
  have hle : (i.toNat + 1) * Enc.sz α ≤ xs.length * Enc.sz α := Nat.mul_le_mul_right _ hlt
  rw [Nat.add_mul] at hle
  refine ob_ok ?_ ?_ rfl
  · rw [fl_length]; omega
  · rw [ho, ← hv]; exact fl_cell xs i j k d hj
theorem ob_ldw [Enc α] (xs : List α) (i : Int) (z off : Nat) (k : 0 ≤ i ∧ i < ((xs.length : Nat) : Int)) (hz : Enc.sz α = z) (ho : off = i.toNat * z) (v : List SV) (hv : Enc.cells (ix xs i) = v) (nx : Nat) (rds : List Nat) : resOb (.ok (off + z ≤ (fl xs).length) ⟨.agg (((fl xs).drop off).take z), [], nx, rds⟩) ⟨.agg v, [], nx, rds⟩ := by
  subst hz
  have hlt : i.toNat < xs.length := by omega
  have hle : (i.toNat + 1) * Enc.sz α ≤ xs.length * Enc.sz α := Nat.mul_le_mul_right _ hlt
  rw [Nat.add_mul] at hle
  refine ob_ok ?_ ?_ rfl
  · rw [fl_length]; omega
  · rw [ho, ← hv]; exact congrArg SV.agg (fl_whole xs i k)
theorem ob_st [Enc α] (xs : List α) (i : Int) (z j off : Nat) (k : 0 ≤ i ∧ i < ((xs.length : Nat) : Int)) (hz : Enc.sz α = z) (vs : List SV) (y : α) (hj : j + vs.length ≤ z) (ho : off = i.toNat * z + j) (hy : splice (Enc.cells (ix xs i)) j vs = Enc.cells y) (kk nx e t : Nat) (hs : szT P t = some vs.length) (h1 : vs.all oneS = true) :
    resOb (.ok (szT P t = some vs.length ∧ vs.all oneS = true ∧ off + vs.length ≤ (fl xs).length) ⟨.any, [(kk, .row e (splice (fl xs) off vs))], nx, [kk]⟩) ⟨.any, [(kk, .row e (fl (xs.set i.toNat y)))], nx, [kk]⟩ := by
  subst hz
  have hlt : i.toNat < xs.length := by omega
  have hle : (i.toNat + 1) * Enc.sz α ≤ xs.length * Enc.sz α := Nat.mul_le_mul_right _ hlt
  rw [Nat.add_mul] at hle
  refine ob_ok ⟨hs, h1, ?_⟩ rfl ?_
  · rw [fl_length]; omega
  · rw [ho, fl_set xs i k y j vs hj hy]
theorem ob_cut [Enc α] (xs : List α) (l h : Int) (z nx : Nat) (hz : Enc.sz α = z) (k : 0 ≤ l ∧ l ≤ h ∧ h ≤ ((xs.length : Nat) : Int)) : resOb (.ok (0 ≤ l ∧ l ≤ h ∧ h ≤ ((xs.length : Nat) : Int)) ⟨.sl (h.toNat - l.toNat) (appCells (fl xs) (l.toNat * z) ((h.toNat - l.toNat) * z)), [], nx, []⟩) ⟨.sl (cut xs l h).length (fl (cut xs l h)), [], nx, []⟩ := by
  subst hz
  exact ob_ok k (fl_cut xs l h k) rfl
/-- append, to an own slice. -/
theorem ob_app [Enc α] (xs ys : List α) (z B : Nat) (hz : Enc.sz α = z) (news : List SV) (m : Nat) (hn : news = fl ys) (hm : m = ys.length) (s0 : Prop) (h0 : s0) (e : TypeId) (hB : P.bytesOf e = B) (hpos : 0 < B) (hle : (xs ++ ys).length * B ≤ 140737488355328) (kk nx : Nat) (rds : List Nat) :
    resOb (.ok (s0 ∧ e = e ∧ news.length = m * z ∧ news.all oneS = true ∧ 0 + xs.length * z ≤ (fl xs).length ∧ 0 < P.bytesOf e ∧ (xs.length + m) * P.bytesOf e ≤ 140737488355328) ⟨.own nx 0 (xs.length + m), [(nx, .row e (appCells (fl xs) 0 (xs.length * z) ++ news)), (kk, .dead)], nx + 1, kk :: rds⟩)
      ⟨.own nx 0 (xs ++ ys).length, [(nx, .row e (fl (xs ++ ys))), (kk, .dead)], nx + 1, kk :: rds⟩ := by
  subst hz; subst hn; subst hm; subst hB
  rw [List.length_append] at hle ⊢
  refine ob_ok ⟨h0, rfl, fl_length ys, fl_one ys, by rw [fl_length, Nat.zero_add]; exact Nat.le_refl _, hpos, hle⟩ rfl ?_
  rw [appCells, List.drop_zero, fl_take_all xs _ rfl, fl_append]
theorem ob_app0 [Enc α] (ys : List α) (z B : Nat) (hz : Enc.sz α = z) (news : List SV) (m : Nat) (hn : news = fl ys) (hm : m = ys.length) (s0 : Prop) (h0 : s0) (e : TypeId) (hB : P.bytesOf e = B) (hpos : 0 < B) (hle : ys.length * B ≤ 140737488355328) (nx : Nat) (rds : List Nat) :
    resOb (.ok (s0 ∧ news.length = m * z ∧ news.all oneS = true ∧ 0 < P.bytesOf e ∧ m * P.bytesOf e ≤ 140737488355328) ⟨.own nx 0 m, [(nx, .row e news)], nx + 1, rds⟩) ⟨.own nx 0 ys.length, [(nx, .row e (fl ys))], nx + 1, rds⟩ := by
  subst hz; subst hn; subst hm; subst hB
  exact ob_ok ⟨h0, fl_length ys, fl_one ys, hpos, hle⟩ rfl rfl
theorem app_own [Enc α] (ys : List α) (z : Nat) (hz : Enc.sz α = z) : appCells (fl ys) 0 (ys.length * z) = fl ys := by
  subst hz; rw [appCells, List.drop_zero, fl_take_all ys _ rfl]
theorem app_own_le [Enc α] (ys : List α) (z : Nat) (hz : Enc.sz α = z) : 0 + ys.length * z ≤ (fl ys).length := by
  subst hz; rw [fl_length, Nat.zero_add]; exact Nat.le_refl _
theorem app_sl [Enc α] (ys : List α) (z : Nat) (hz : Enc.sz α = z) : (fl ys).length = ys.length * z := by
  subst hz; exact fl_length ys
theorem ob_mk [Enc α] (n : Int) (e : TypeId) (B : Nat) (hB : P.bytesOf e = B) (zs : List SV) (hzs : zs = Enc.cells (default : α)) (z : Nat) (hz : zs.length = z) (hpos : 0 < z) (k : 0 ≤ n ∧ n ≤ 4611686018427387904 ∧ (B : Int) * n ≤ 140737488355328) (nx : Nat) :
    resOb (.ok (0 ≤ n ∧ n ≤ n ∧ n ≤ 4611686018427387904 ∧ (P.bytesOf e : Int) * n ≤ 140737488355328 ∧ zs.length = z ∧ 0 < z) ⟨.own nx 0 n.toNat, [(nx, .row e ((List.range n.toNat).flatMap fun _ => zs))], nx + 1, []⟩) ⟨.own nx 0 (List.replicate n.toNat (default : α)).length, [(nx, .row e (fl (List.replicate n.toNat (default : α))))], nx + 1, []⟩ := by
  subst hB
  refine ob_ok ⟨k.1, Int.le_refl _, k.2.1, k.2.2, hz, hpos⟩ (by rw [List.length_replicate]) (by rw [fl_zeros n.toNat zs hzs])
theorem ob_look (d : TypeDesc) (hd : keyOk d (.int .i64 0) = true) (k : Int) (mm : List (Int × Int)) (kk nx : Nat) : resOb (.ok (keyOk d (.int .i64 k) = true ∧ (mi mm).all (fun p => keyAlike (.int .i64 k) p.1) = true) ⟨lookV (.int .i64 0) (.int .i64 k) (mi mm), [], nx, [kk]⟩) ⟨.v (.int .i64 (miGet mm k)), [], nx, [kk]⟩ :=
  ob_ok ⟨hd, mi_alike mm k⟩ (mi_lookV mm k) rfl
theorem ob_look2 (d : TypeDesc) (hd : keyOk d (.int .i64 0) = true) (k : Int) (mm : List (Int × Int)) (kk nx : Nat) : resOb (.ok (keyOk d (.int .i64 k) = true ∧ (mi mm).all (fun p => keyAlike (.int .i64 k) p.1) = true) ⟨.tup [lookV (.int .i64 0) (.int .i64 k) (mi mm), .v (.bool (lookB (.int .i64 k) (mi mm)))], [], nx, [kk]⟩) ⟨.tup [.v (.int .i64 (miGet mm k)), .v (.bool (miHas mm k))], [], nx, [kk]⟩ :=
  ob_ok ⟨hd, mi_alike mm k⟩ (by rw [mi_lookV, mi_lookB]) rfl
theorem ob_mset (d : TypeDesc) (hd : keyOk d (.int .i64 0) = true) (k v : Int) (mm : List (Int × Int)) (kk nx : Nat) : resOb (.ok (keyOk d (.int .i64 k) = true ∧ (mi mm).all (fun p => keyAlike (.int .i64 k) p.1) = true) ⟨.any, [(kk, .map (updL (.int .i64 k) (.v (.int .i64 v)) (mi mm)))], nx, [kk]⟩) ⟨.any, [(kk, .map (mi (miSet mm k v)))], nx, [kk]⟩ :=
  ob_ok ⟨hd, mi_alike mm k⟩ rfl (by rw [mi_updL])
theorem ob_p {s : Prop} {v : SV} {nx : Nat} {r : List Nat} (hs : s) : resOb (.ok s ⟨v, [], nx, r⟩) ⟨v, [], nx, r⟩ := ob_ok hs rfl rfl
/-! ### Short forms for what a program prints -/
theorem rs {d : Bool} {l : List Oper} {acc : List Nms} {K : Fr → Hp → Nat → Prop} (n : Nat) (sc : List (Option Eff)) (obs : List Prop) (h : ((evalS P d ops n l sc ⟨fr, hp, nx, acc, []⟩).map (·.obs)) = some obs) (ho : AllP obs)
    (k : RunAt P d ops (l.drop n) (getSeg (evalS P d ops n l sc ⟨fr, hp, nx, acc, []⟩)).fr (getSeg (evalS P d ops n l sc ⟨fr, hp, nx, acc, []⟩)).hp (getSeg (evalS P d ops n l sc ⟨fr, hp, nx, acc, []⟩)).nx (getSeg (evalS P d ops n l sc ⟨fr, hp, nx, acc, []⟩)).acc K) : RunAt P d ops l fr hp nx acc K := by
  obtain ⟨s, h1, h2⟩ := Option.map_eq_some_iff.1 h
  exact run_seg n sc obs (by rw [h1]; rfl) (by rw [h1]; exact h2) ho k
theorem rf {l : List Oper} {acc : List Nms} {K : Fr → Hp → Nat → Prop} (fr' : Fr) (hp' : Hp) (nx' : Nat) (h : (l, keepF fr fr', keepH hp hp', coverH hp hp', nx) = ([], fr', hp', true, nx')) (k : K fr' hp' nx') : RunAt P false ops l fr hp nx acc K := by
  simp only [Prod.mk.injEq] at h
  exact run_f fr' hp' nx' h.1 h.2.1 h.2.2.1 h.2.2.2.1 h.2.2.2.2 k
theorem rt {l : List Oper} {acc : List Nms} {K : Fr → Hp → Nat → Prop} (fr' : Fr) (hp' : Hp) (nx' : Nat) (h5 : P.follows .mixedOrders = true) (h : (l, keepF fr fr', keepH hp hp', coverH hp hp', nx, orderOk ops acc (aheads ops.toList)) = ([], fr', hp', true, nx', true)) (k : K fr' hp' nx') : RunAt P true ops l fr hp nx acc K := by
  simp only [Prod.mk.injEq] at h
  exact run_t fr' hp' nx' h.1 h.2.1 h.2.2.1 h.2.2.2.1 h.2.2.2.2.1 h5 h.2.2.2.2.2 k
end Go.Sx
