/-
  Sx, part N: the operations' table.
-/
import Derived.Test.YtnnpjaoddniifaaSxM
set_option linter.unusedSimpArgs false
set_option linter.unusedVariables false
namespace Go.Sx
set_option linter.unusedVariables false
open Go.RowKit
variable {X : Cx} {hp : Hp} {nx : Nat} {ids : Ids} {w : World}

def shiftS (op : BinOp) (k : IntKind) (a b : Int) (nx : Nat) : Res :=
  match op with
  | .shl => .ok (0 ≤ b) ⟨.v (.int k (k.wrap (a * 2 ^ (min b.toNat k.bits)))), [], nx, []⟩
  | .shr => .ok (0 ≤ b) ⟨.v (.int k (a.fdiv (2 ^ (min b.toNat k.bits)))), [], nx, []⟩
  | _ => .bad
def isShift : BinOp → Bool
  | .shl => true
  | .shr => true
  | _ => false
def isEq : BinOp → Bool
  | .eql => true
  | .neq => true
  | _ => false
def isNeg : BinOp → Bool
  | .neq => true
  | _ => false

def nilEqS (P : Program) (op : BinOp) (t : TypeId) (r : Bool) (rds : List Nat) (nx : Nat) : Res :=
  match P.underlying t with
  | some (.pointer _) => bif isEq op then .ok True ⟨.v (.bool (bif isNeg op then !r else r)), [], nx, rds⟩ else .bad
  | _ => .bad

def binOpS (P : Program) (op : BinOp) (t : TypeId) (x y : SV) (hp : Hp) (nx : Nat) : Res :=
  match x, y with
  | .v (.int k a), .v (.int k' b) => bif isShift op then shiftS op k a b nx else bif k == k' then intS op k a b nx else .bad
  | .v (.string a), .v (.string b) => strS op a b nx
  | .v (.bool a), .v (.bool b) => match P.underlying t with
    | some .bool => bif isEq op then pureR (.v (.bool (bif isNeg op then a != b else a == b))) nx else .bad
    | _ => .bad
  | .agg xs, .agg ys => match aggT P t with
    | some true => bif isEq op && !P.eqGuardType P.depth t then aggEqS P (isNeg op) t xs ys nx else .bad
    | _ => .bad
  | .ptr k _, .v (.pointer none) => liveS (getH hp k) (nilEqS P op t false [k] nx)
  | .iptr _ _, .v (.pointer none) => nilEqS P op t false [] nx
  | .v (.pointer none), .v (.pointer none) => nilEqS P op t true [] nx
  | _, _ => .bad

theorem sound_shift (h : HeapX X hp nx ids w) {op : BinOp} {k k' : IntKind} {a b : Int} {side : Prop} {e : Eff} (he : shiftS op k a b nx = .ok side e) (hs : side) (t : TypeId) : Sound X hp ids w ((binOp op t (.int k a) (.int k' b)).run X.P w) e := by
  have hsh : 0 ≤ b → (Op.shift .shl k a k' b).run X.P w = .ok (.int k (k.wrap (a * 2 ^ (min b.toNat k.bits)))) w ∧ (Op.shift .shr k a k' b).run X.P w = .ok (.int k (a.fdiv (2 ^ (min b.toNat k.bits)))) w := fun hb => by
    have : ¬ b < 0 := by omega
    simp [Op.shift, this]
  cases op <;> simp only [shiftS] at he <;> cases he <;> refine sound_pure h ?_ .v
  · simpa [binOp] using (hsh hs).1
  · simpa [binOp] using (hsh hs).2

theorem eqGuard_plain {op : BinOp} {t : TypeId} {x y : Operand} {a b : Value} (h : ∀ xs ys, ¬ (a = .agg xs ∧ b = .agg ys)) (h2 : ¬ (a = .nilIface ∧ b = .nilIface)) (P : Program) (w : World) : (eqGuard op t x y a b).run P w = .ok () w := by
  unfold eqGuard
  cases op <;> cases a <;> cases b <;> first | rfl | exact absurd ⟨rfl, rfl⟩ (h _ _) | exact absurd ⟨rfl, rfl⟩ h2

theorem run_nilEq {P : Program} {op : BinOp} {t e : TypeId} (hu : P.underlying t = some (.pointer e)) (a : Option Addr) (ho : isEq op = true) (w : World) :
    (binOp op t (.pointer a) (.pointer none)).run P w = .ok (.bool (bif isNeg op then !a.isNone else a.isNone)) w := by
  have h0 : ∀ D, (Op.equalIn (D + 1) t (.pointer a) (.pointer none)).run P w = .ok a.isNone w := fun D => by
    cases a <;> simp [Op.equalIn, run_underlying hu]
  have h : (Op.equal t (.pointer a) (.pointer none)).run P w = .ok a.isNone w := h0 9999
  cases op <;> simp [isEq] at ho
  · simp only [binOp, Sem.run_bind, h]; cases a <;> rfl
  · simp only [binOp, Sem.run_bind, h]; cases a <;> rfl

theorem sound_binOp (h : HeapX X hp nx ids w) {op : BinOp} {t : TypeId} {s q : SV} {x y : Value} (hd : DenX X hp ids w s x) (hq : DenX X hp ids w q y) {side : Prop} {e : Eff} (he : binOpS X.P op t s q hp nx = .ok side e) (hs : side) (ox oy : Operand) :
    Sound X hp ids w ((do eqGuard op t ox oy x y; binOp op t x y : Sem Value).run X.P w) e := by
  unfold binOpS at he
  split at he
  · rename_i k a k' b
    obtain rfl := den_v hd
    obtain rfl := den_v hq
    rw [Sem.run_bind, eqGuard_plain (by simp) (by simp), Result.andThen_ok]
    cases hsh : isShift op with
    | true => rw [hsh] at he; exact sound_shift h he hs t
    | false =>
      rw [hsh] at he
      cases hk : (k == k') with
      | false => simp only [hk, cond_false] at he; cases he
      | true =>
        simp only [hk, cond_false, cond_true] at he
        have : k = k' := by simpa using hk
        subst this
        exact sound_int h he hs t
  · rename_i a b
    obtain rfl := den_v hd
    obtain rfl := den_v hq
    rw [Sem.run_bind, eqGuard_plain (by simp) (by simp), Result.andThen_ok]
    exact sound_str h he hs t
  · rename_i a b
    obtain rfl := den_v hd
    obtain rfl := den_v hq
    rw [Sem.run_bind, eqGuard_plain (by simp) (by simp), Result.andThen_ok]
    split at he
    · rename_i hu
      cases ho : isEq op with
      | false => rw [ho] at he; cases he
      | true =>
        rw [ho] at he; cases he
        have hr : (Op.equal t (.bool a) (.bool b)).run X.P w = .ok (a == b) w := run_equalIn_bool' w 9999 t a b hu
        refine sound_pure h ?_ .v
        cases op <;> simp [isEq] at ho
        · simp only [binOp, Sem.run_bind, hr]; rfl
        · simp only [binOp, Sem.run_bind, hr]; rfl
    · cases he
  · rename_i xs ys
    split at he
    · rename_i hagg
      cases ho : (isEq op && !X.P.eqGuardType X.P.depth t) with
      | false => rw [ho] at he; cases he
      | true =>
        rw [ho] at he
        simp only [Bool.and_eq_true, Bool.not_eq_true'] at ho
        obtain ⟨A, rfl, _, _⟩ := den_agg hd
        obtain ⟨B, rfl, _, _⟩ := den_agg hq
        rw [Sem.run_bind, run_eqGuard_agg w op t ox oy A B ho.2, Result.andThen_ok]
        have := sound_aggEq h hd hq he hagg
        cases op <;> simp [isEq] at ho <;> exact this
    · cases he
  · rename_i k off
    obtain ⟨⟨t', cs, hk⟩, he⟩ := liveS_ok he
    obtain rfl := den_v hq
    obtain ⟨b, o, hid, rfl⟩ := den_ptr hd (by rw [hk]; rfl)
    rw [Sem.run_bind, eqGuard_plain (by simp) (by simp), Result.andThen_ok]
    unfold nilEqS at he
    split at he
    · rename_i e' hu
      cases ho : isEq op with
      | false => rw [ho] at he; cases he
      | true => rw [ho] at he; cases he; exact sound_pure h (run_nilEq hu _ ho w) .v
    · cases he
  · rename_i cs off
    obtain rfl := den_v hq
    obtain ⟨b, o, c, _, rfl, _, _⟩ := den_iptr hd
    rw [Sem.run_bind, eqGuard_plain (by simp) (by simp), Result.andThen_ok]
    unfold nilEqS at he
    split at he
    · rename_i e' hu
      cases ho : isEq op with
      | false => rw [ho] at he; cases he
      | true => rw [ho] at he; cases he; exact sound_pure h (run_nilEq hu _ ho w) .v
    · cases he
  · obtain rfl := den_v hd
    obtain rfl := den_v hq
    rw [Sem.run_bind, eqGuard_plain (by simp) (by simp), Result.andThen_ok]
    unfold nilEqS at he
    split at he
    · rename_i e' hu
      cases ho : isEq op with
      | false => rw [ho] at he; cases he
      | true => rw [ho] at he; cases he; exact sound_pure h (run_nilEq hu _ ho w) .v
    · cases he
  · cases he

/-- min and max of numbers -/
def minmaxS (mx : Bool) : Int → IntKind → List SV → Option Int
  | a, _, [] => some a
  | a, k, .v (.int k' b) :: r => bif k == k' then minmaxS mx (bif mx then max a b else min a b) k r else none
  | _, _, _ => none
def minmaxR (mx : Bool) (l : List SV) (nx : Nat) : Res :=
  match l with
  | .v (.int k a) :: r => match minmaxS mx a k r with
    | some b => pureR (.v (.int k b)) nx
    | none => .bad
  | _ => .bad
theorem minmax_run {P : Program} {C : Nat → Chunk} {I : Nat → Prop} (mx : Bool) {k : IntKind} : ∀ (l : List SV) (vs : List Value) (a b : Int), minmaxS mx a k l = some b → l.length = vs.length → (∀ i x, l[i]? = some x → Den P C ids I w x (vs.getD i undef)) →
    (vs.foldlM (if mx then Builtin.max2 else Builtin.min2) (.int k a)).run P w = .ok (.int k b) w
  | [], [], a, b, h, _, _ => by cases h; rfl
  | [], _ :: _, _, _, _, h, _ => by simp at h
  | _ :: _, [], _, _, _, h, _ => by simp at h
  | s :: l, v :: vs, a, b, h, hl, hd => by
    cases s <;> try (simp [minmaxS] at h; done)
    rename_i y
    cases y <;> try (simp [minmaxS] at h; done)
    rename_i k' c
    have hv := den_v (hd 0 _ rfl)
    simp only [List.getD_cons_zero] at hv
    subst hv
    simp only [minmaxS] at h
    cases hk : (k == k') with
    | false => rw [hk] at h; cases h
    | true =>
      rw [hk] at h
      have ih := minmax_run mx l vs _ b h (by simpa using hl) (fun i x hi => by have := hd (i + 1) x (by simpa using hi); simpa using this)
      rw [List.foldlM_cons, Sem.run_bind]
      cases mx with
      | true =>
        have : (Builtin.max2 (.int k a) (.int k' c)).run P w = .ok (.int k (max a c)) w := by
          simp only [Builtin.max2, Sem.run_pure]; congr 2; by_cases hh : c > a
          · rw [if_pos hh]; omega
          · rw [if_neg hh]; omega
        simp only [if_true, this, Result.andThen_ok]
        simpa using ih
      | false =>
        have : (Builtin.min2 (.int k a) (.int k' c)).run P w = .ok (.int k (min a c)) w := by
          simp only [Builtin.min2, Sem.run_pure]; congr 2; by_cases hh : c < a
          · rw [if_pos hh]; omega
          · rw [if_neg hh]; omega
        simp only [Bool.false_eq_true, if_false, this, Result.andThen_ok]
        simpa using ih
theorem sound_minmax (h : HeapX X hp nx ids w) {mx : Bool} {l : List SV} {vs : Array Value} (hl : l.length = vs.size) (hd : ∀ i x, l[i]? = some x → DenX X hp ids w x (vs.getD i undef)) {side : Prop} {e : Eff} (he : minmaxR mx l nx = .ok side e) (ats : Array TypeId) (ty : TypeId) :
    Sound X hp ids w ((if mx then Builtin.max_ ats ty vs else Builtin.min_ ats ty vs).run X.P w) e := by
  obtain ⟨vs⟩ := vs
  unfold minmaxR at he
  split at he
  · rename_i k a r
    split at he
    · rename_i b hb
      cases he
      cases vs with
      | nil => simp at hl
      | cons v vs =>
        have hv := den_v (hd 0 _ rfl)
        have hv' : v = .int k a := by simpa using hv
        subst hv'
        have := minmax_run (P := X.P) (C := getH hp) (I := Im X.w0 X.I0 X.W0 (getH hp) ids w) mx r vs a b hb (by simpa using hl) (fun i x hi => by
          have := hd (i + 1) x (by simpa using hi)
          simpa [Array.getD_eq_getD_getElem?, List.getD_eq_getElem?_getD] using this)
        refine sound_pure h ?_ .v
        cases mx with
        | true => simpa [Builtin.max_] using this
        | false => simpa [Builtin.min_] using this
    · cases he
  · cases he

/-- An operation that calls no function. -/
def opS (P : Program) (g : Bool) (fr : Fr) (hp : Hp) (nx : Nat) (ty : TypeId) (o : Op) : Res :=
  match o with
  | .move x => pureR (evS g fr x) nx
  | .assign x => pureR (evS g fr x) nx
  | .pick c a b => match evS g fr c with
    | .v (.bool t) => pickS g t (rawS fr a) (rawS fr b) nx
    | _ => .bad
  | .alloc e => allocS P e nx
  | .box e x => boxS e (evS g fr x) nx
  | .build t parts => buildS P t (parts.toList.map fun p => (p.1, evS g fr p.2)) nx
  | .buildSlice t len parts => buildSliceS P t len (parts.toList.map fun p => (p.1, evS g fr p.2)) nx
  | .load t a => loadS P t (evS g fr a) hp nx
  | .store t a x => storeS P t (evS g fr a) (evS g fr x) hp nx
  | .nilCheck x => match evS g fr x with
    | .ptr k off => liveS (getH hp k) (.ok True ⟨.ptr k off, [], nx, [k]⟩)
    | .iptr cs off => pureR (.iptr cs off) nx
    | .clo f caps => pureR (.clo f caps) nx
    | _ => .bad
  | .binOp op t x y _ => binOpS P op t (evS g fr x) (evS g fr y) hp nx
  | .unOp op _ x => unS op (evS g fr x) nx
  | .convert s d x => convS P s d (evS g fr x) hp nx
  | .makeFunc fn first caps => match fn with
    | .func f => bif first.size == 0 then pureR (.clo f (caps.toList.map (evS g fr))) nx else .bad
    | _ => .bad
  | .makeMap _ r => match r with
    | none => makeMapS nx
    | some _ => .bad
  | .makeSlice t l c => makeSliceS P t (evS g fr l) (evS g fr c) nx
  | .slice t x lo hi mx => match mx with
    | none => sliceS P t (evS g fr x) (lo.map (evS g fr)) (hi.map (evS g fr)) hp nx
    | some m => match lo, hi with
      | none, some hh => slice0S P t (evS g fr x) (evS g fr hh) (evS g fr m) nx hp
      | _, _ => .bad
  | .fieldAddr t x f => fieldAddrS' P t (evS g fr x) f hp nx
  | .field t x f => fieldS P t (evS g fr x) f nx
  | .indexAddr t x i => indexAddrS P t (tabS P (evS g fr x)) (evS g fr i) hp nx
  | .index t x i => indexS P t (evS g fr x) (evS g fr i) nx
  | .lookup t x i ok => lookupS P t (evS g fr x) (evS g fr i) ok hp nx
  | .mapUpdate t m k x => mapUpdS P t (evS g fr m) (evS g fr k) (evS g fr x) hp nx
  | .insert t m k x => mapUpdS P t (evS g fr m) (evS g fr k) (evS g fr x) hp nx
  | .extract x i => extractS (evS g fr x) i nx
  | .range t x => rangeS P t (evS g fr x) nx
  | .next x str => nextS (evS g fr x) str hp nx
  | .call c => match c.callee with
    | .builtin b => match b, c.args.toList, c.argTypes.toList with
      | .len, [x], [t] => lenS P t (evS g fr x) hp nx
      | .append, [x, y], [t, tx] => match sliceT P t with
        | some (e, _) => bif zokT P e then appendS P t tx (evS g fr x) (evS g fr y) hp nx else .bad
        | none => .bad
      | .min, l, _ => minmaxR false (l.map (evS g fr)) nx
      | .max, l, _ => minmaxR true (l.map (evS g fr)) nx
      | _, _, _ => .bad
    | _ => .bad
  | _ => .bad

/-- What came of an operation, at the machine. -/
def SoundN (X : Cx) (hp : Hp) (ids : Ids) (w : World) (r : Result Next) (e : Eff) : Prop :=
  ∃ x w' ids', (r = .ok (.value x) w' ∨ (r = .ok .skip w' ∧ x = undef)) ∧ HeapC X (e.upd ++ hp) ids' w' ∧ ExtX X hp ids w (e.upd ++ hp) ids' w' ∧ DenX X (e.upd ++ hp) ids' w' e.val x

theorem soundN_value {m : Sem Value} {e : Eff} (h : Sound X hp ids w (m.run X.P w) e) : SoundN X hp ids w ((do pure (.value (← m)) : Sem Next).run X.P w) e := by
  obtain ⟨x, w', ids', h1, h2, h3, h4⟩ := h
  exact ⟨x, w', ids', .inl (by simp [Sem.run_bind, h1]), h2, h3, h4⟩
theorem soundN_unit {m : Sem Unit} {e : Eff} (h : SoundU X hp ids w (m.run X.P w) e) (hv : e.val = .any) : SoundN X hp ids w ((do m; pure .skip : Sem Next).run X.P w) e := by
  obtain ⟨w', ids', h1, h2, h3⟩ := h
  exact ⟨undef, w', ids', .inr ⟨by simp [Sem.run_bind, h1], rfl⟩, h2, h3, by rw [hv]; exact .any⟩

theorem raw_den {fr : Fr} {a : Act} (hf : ∀ d, DenX X hp ids w (getF fr d) (a.tmps.getD d undef)) (o : Operand) : DenX X hp ids w (rawS fr o) (a.eval o) := by
  cases o with
  | tmp t => exact hf t
  | const v => exact .v
  | global n => exact .v
  | func f => exact .v
theorem ev_den {fr : Fr} {a : Act} (hf : ∀ d, DenX X hp ids w (getF fr d) (a.tmps.getD d undef)) {g : Bool} (hg : g = true) (o : Operand) : DenX X hp ids w (evS g fr o) (a.eval o) := by
  cases o with
  | tmp t => exact den_unw hg (hf t)
  | const v => exact .v
  | global n => exact .v
  | func f => exact .v

theorem storeS_val {P : Program} {t : TypeId} {s v : SV} {side : Prop} {e : Eff} (he : storeS P t s v hp nx = .ok side e) : e.val = .any := by
  unfold storeS at he
  split at he
  · obtain ⟨_, _, _, hf⟩ := rowS_ok he; cases hf; rfl
  · cases he
theorem mapUpdS_val {P : Program} {t : TypeId} {s q v : SV} {side : Prop} {e : Eff} (he : mapUpdS P t s q v hp nx = .ok side e) : e.val = .any := by
  unfold mapUpdS at he
  split at he
  · obtain ⟨_, _, hf⟩ := mapC_ok he; cases hf; rfl
  · cases he

theorem op_sound (h : HeapX X hp nx ids w) {fr : Fr} {a : Act} (hf : ∀ d, DenX X hp ids w (getF fr d) (a.tmps.getD d undef)) {g : Bool} (hg : g = true) {o : Oper} {side : Prop} {e : Eff} (he : opS X.P g fr hp nx o.type o.op = .ok side e) (hs : side) :
    SoundN X hp ids w ((execOp a.eval o).run X.P w) e := by
  have ev := fun o => ev_den hf hg o
  have ev1 := fun o => ev_den hf (g := true) rfl o
  unfold execOp
  cases ho : o.op <;> rw [ho] at he <;> simp only [opS] at he
  case move x =>
    cases he
    exact ⟨_, w, ids, .inl rfl, h.toHeapC, Ext.refl _ _ _ _, ev x⟩
  case assign x =>
    cases he
    exact ⟨_, w, ids, .inl rfl, h.toHeapC, Ext.refl _ _ _ _, ev x⟩
  case pick c x y =>
    split at he
    · rename_i t hc
      have hcv := ev c
      rw [hc] at hcv
      have := sound_pick h hg (raw_den hf x) (raw_den hf y) he
      obtain ⟨v, w', ids', h1, h2, h3, h4⟩ := this
      refine ⟨v, w', ids', .inl ?_, h2, h3, h4⟩
      simp only [den_v hcv, asBool, Sem.run_bind, Sem.run_pure, Result.andThen_ok]
      cases t <;> simpa using h1
    · cases he
  case alloc t => exact soundN_value (sound_alloc h he _)
  case box t x => exact soundN_value (sound_box h (ev x) he hs)
  case build t parts =>
    refine soundN_value (sound_build h (by simp) (fun i p q hp hq => ?_) he)
    rw [List.getElem?_map] at hp
    simp only [Array.toList_map, List.getElem?_map] at hq
    cases hi : parts.toList[i]? with
    | none => rw [hi] at hp; cases hp
    | some r => rw [hi] at hp hq; cases hp; cases hq; exact ⟨rfl, ev _⟩
  case buildSlice t len parts =>
    refine soundN_value (sound_buildSlice h (by simp) (fun i p q hp hq => ?_) he)
    rw [List.getElem?_map] at hp
    simp only [Array.toList_map, List.getElem?_map] at hq
    cases hi : parts.toList[i]? with
    | none => rw [hi] at hp; cases hp
    | some r => rw [hi] at hp hq; cases hp; cases hq; exact ⟨rfl, ev _⟩
  case load t x => exact soundN_value (sound_load h (ev x) he hs)
  case store t x y => exact soundN_unit (sound_store h (ev x) (ev y) he hs) (storeS_val he)
  case nilCheck x =>
    split at he
    · rename_i k off hx
      obtain ⟨⟨t', cs, hk⟩, he⟩ := liveS_ok he
      cases he
      have hd := ev x
      rw [hx] at hd
      obtain ⟨b, o', hid, hv⟩ := den_ptr hd (by rw [hk]; rfl)
      exact ⟨_, w, ids, .inl (by simp only [hv]; rfl), h.toHeapC, Ext.refl _ _ _ _, by rw [hv] at hd; exact hd⟩
    · rename_i cs off hx
      cases he
      have hd := ev x
      rw [hx] at hd
      obtain ⟨b, o', c, _, hv, _, _⟩ := den_iptr hd
      exact ⟨_, w, ids, .inl (by simp only [hv]; rfl), h.toHeapC, Ext.refl _ _ _ _, by rw [hv] at hd; exact hd⟩
    · rename_i f caps hx
      cases he
      have hd := ev x
      rw [hx] at hd
      obtain ⟨arr, hv, _, _⟩ := den_clo hd
      exact ⟨_, w, ids, .inl (by simp only [hv]; rfl), h.toHeapC, Ext.refl _ _ _ _, by rw [hv] at hd; exact hd⟩
    · cases he
  case binOp op t x y yt => exact soundN_value (sound_binOp h (ev x) (ev y) he hs x y)
  case unOp op t x => exact soundN_value (sound_un h (ev x) he)
  case convert s d x => exact soundN_value (sound_conv h (ev x) he hs)
  case makeFunc fn first caps =>
    split at he
    · rename_i f
      cases hz : (first.size == 0) with
      | false => rw [hz] at he; cases he
      | true =>
        rw [hz] at he; cases he
        have : first = #[] := by simpa using hz
        subst this
        refine soundN_value (sound_pure h (x := .func (.func f) #[] (caps.map a.eval)) (by simp [Instr.makeFunc]) (.clo (caps.map a.eval) (by simp) fun i x hi => ?_))
        rw [List.getElem?_map] at hi
        cases hci : caps.toList[i]? with
        | none => rw [hci] at hi; cases hi
        | some q =>
          rw [hci] at hi; cases hi
          have : caps[i]? = some q := by simpa using hci
          rw [Array.getD_eq_getD_getElem?, Array.getElem?_map, this]
          exact ev q
    · cases he
  case makeMap t r =>
    split at he
    · exact soundN_value (sound_makeMap h t he)
    · cases he
  case makeSlice t l c => exact soundN_value (sound_makeSlice h (ev l) (ev c) he hs)
  case slice t x lo hi mx =>
    split at he
    · refine soundN_value (sound_slice h (ev x) (fun hn => ?_) (fun s hs' => ?_) (fun hn => ?_) (fun s hs' => ?_) he hs)
      · cases lo with
        | none => rfl
        | some q => cases hn
      · cases lo with
        | none => cases hs'
        | some q => cases hs'; exact ⟨_, rfl, ev q⟩
      · cases hi with
        | none => rfl
        | some q => cases hn
      · cases hi with
        | none => cases hs'
        | some q => cases hs'; exact ⟨_, rfl, ev q⟩
    · split at he
      · exact soundN_value (sound_slice0 h (ev x) (ev _) (ev _) he hs)
      · cases he
  case fieldAddr t x f => exact soundN_value (sound_fieldAddr h (ev x) he hs)
  case field t x f => exact soundN_value (sound_field h (ev x) he hs)
  case indexAddr t x i => exact soundN_value (sound_indexAddr h (tab_den h.toHeapC (ev x)) (ev i) he hs)
  case index t x i => exact soundN_value (sound_index h (ev x) (ev i) he hs)
  case lookup t x i ok => exact soundN_value (sound_lookup h (ev x) (ev i) he hs)
  case mapUpdate t m k x => exact soundN_unit (sound_mapUpd h (ev m) (ev k) (ev x) he hs) (mapUpdS_val he)
  case insert t m k x => exact soundN_unit (sound_mapUpd h (ev m) (ev k) (ev x) he hs) (mapUpdS_val he)
  case extract x i => exact soundN_value (sound_extract h (ev x) he)
  case range t x => exact soundN_value (sound_range h (ev x) he)
  case next x str => exact soundN_value (sound_next h (ev x) he _)
  case call c =>
    obtain ⟨callee, args, argTypes⟩ := c
    split at he
    · rename_i b hcb
      simp only at hcb; subst hcb
      simp only [resolve, Sem.run_bind, Sem.run_pure, Result.andThen_ok, invoke, builtin]
      obtain ⟨args⟩ := args
      obtain ⟨argTypes⟩ := argTypes
      split at he
      · rename_i x t hargs htys
        simp only at hargs htys; subst hargs; subst htys
        refine soundN_value ?_
        simp only [List.map_toArray, List.map_cons, List.map_nil]
        exact sound_len h (ev x) he hs _
      · rename_i x y t tx hargs htys
        simp only at hargs htys; subst hargs; subst htys
        split at he
        · rename_i e' z hst
          cases hz : zokT X.P e' with
          | false => rw [hz] at he; cases he
          | true =>
            rw [hz] at he
            refine soundN_value ?_
            simp only [List.map_toArray, List.map_cons, List.map_nil]
            exact (sound_append h (ev x) (ev y) he hs (fun et z' hh => by rw [hst] at hh; cases hh; exact hz))
        · cases he
      · have hmm := sound_minmax (mx := false) h (vs := (args.toArray).map a.eval) (by simp) (fun i x hi => by
          rw [List.getElem?_map] at hi
          cases hai : args[i]? with
          | none => simp [hai] at hi
          | some q =>
            simp [hai] at hi; subst hi
            rw [Array.getD_eq_getD_getElem?, Array.getElem?_map, List.getElem?_toArray, hai]
            exact ev q) he argTypes.toArray o.type
        exact soundN_value (by simpa using hmm)
      · have hmm := sound_minmax (mx := true) h (vs := (args.toArray).map a.eval) (by simp) (fun i x hi => by
          rw [List.getElem?_map] at hi
          cases hai : args[i]? with
          | none => simp [hai] at hi
          | some q =>
            simp [hai] at hi; subst hi
            rw [Array.getD_eq_getD_getElem?, Array.getElem?_map, List.getElem?_toArray, hai]
            exact ev q) he argTypes.toArray o.type
        exact soundN_value (by simpa using hmm)
      · cases he
    · cases he
  all_goals cases he

end Go.Sx
