/-
  Sx, part K: maps whose keys are numbers or texts; equality of structs and arrays; min, max, copy.
-/
import Derived.Test.YtnnpjaoddniifaaSxJ
set_option linter.unusedSimpArgs false
set_option linter.unusedVariables false
namespace Go.Sx
set_option linter.unusedVariables false
open Go.RowKit
variable {X : Cx} {hp : Hp} {nx : Nat} {ids : Ids} {w : World}

/-- A map's chunk is born. -/
theorem heap_map_new (h : HeapX X hp nx ids w) : HeapC X ([(nx, .map [])] ++ hp) (upd ids nx (some (w.heap.size, 0))) (w.alloc (.map #[] 0)) ∧
    ExtX X hp ids w ([(nx, .map [])] ++ hp) (upd ids nx (some (w.heap.size, 0))) (w.alloc (.map #[] 0)) := by
  have hb : getH hp nx = .unborn := h.fresh
  have hC : getH ([(nx, .map [])] ++ hp) = upd (getH hp) nx (.map []) := getH_upd nx _ hp
  have hE := h.st.alloc_ext hb (.map []) (.map #[] 0)
  refine ⟨⟨?_, fun j hj hjl => ?_⟩, ?_⟩
  · rw [hC]
    refine h.st.alloc hb _ _ ?_
    exact ⟨w.heap.size, #[], 0, upd_same _ _ _, heap_alloc_new' w _, rfl, fun i x hi => by simp at hi⟩
  · have hjn : j ≠ nx := by have := h.m_le; omega
    rw [hC] at hjl ⊢
    have hlo : (getH hp j).live = true := by rwa [upd_ne _ _ hjn] at hjl
    exact (h.kept j hj hlo).step hE hlo hjl
  · simp only [ExtX, hC]; exact hE

/-- A map's content turns. -/
theorem heap_map_turn (h : HeapX X hp nx ids w) {k b : Nat} {es es' : List (Value × SV)} (hk : getH hp k = .map es) (hi : ids k = some (b, 0)) {arr arr' : Array MapEntry} {clock clock' : Nat}
    (hw : w.heap[b]? = some (.map arr clock)) (hl : arr'.size = es'.length) (hx : ∀ i x, es'[i]? = some x → (arr'.getD i default).key = x.1 ∧ DenX X hp ids w x.2 (arr'.getD i default).val) :
    HeapC X ([(k, .map es')] ++ hp) ids { w with heap := w.heap.setIfInBounds b (.map arr' clock') } ∧ ExtX X hp ids w ([(k, .map es')] ++ hp) ids { w with heap := w.heap.setIfInBounds b (.map arr' clock') } := by
  have hlk : (getH hp k).live = true := by rw [hk]; rfl
  have hblt : b < w.heap.size := (Array.getElem?_eq_some_iff.1 hw).1
  have hz : (w.heap.setIfInBounds b (.map arr' clock')).size = w.heap.size := by simp
  have hat : (w.heap.setIfInBounds b (Obj.map arr' clock'))[b]? = some (.map arr' clock') := by rw [Array.getElem?_setIfInBounds_self_of_lt hblt]
  have hot : ∀ j, j ≠ b → (w.heap.setIfInBounds b (Obj.map arr' clock'))[j]? = w.heap[j]? := fun j hj => by rw [Array.getElem?_setIfInBounds_ne (fun e => hj e.symm)]
  have hshape : SameShape w.heap[b]? (w.heap.setIfInBounds b (Obj.map arr' clock'))[b]? := fun a t ha => by rw [hw] at ha; cases ha
  have hE := h.st.turn_ext (w' := { w with heap := w.heap.setIfInBounds b (.map arr' clock') }) hlk hi (c := .map es') rfl (by rw [hk]; trivial) hz hot hshape
  have hC : getH ([(k, .map es')] ++ hp) = upd (getH hp) k (.map es') := getH_upd k _ hp
  refine ⟨⟨?_, fun j hj hjl => ?_⟩, ?_⟩
  · rw [hC]
    refine h.st.turn hlk hi rfl (by rw [hk]; trivial) hz hot hshape rfl rfl rfl ?_
    exact ⟨b, arr', clock', hi, hat, hl, fun i x hix => ⟨(hx i x hix).1, (hx i x hix).2.mono hE⟩⟩
  · rw [hC] at hjl ⊢
    have hlo : (getH hp j).live = true := by
      by_cases hjk : j = k
      · subst hjk; exact hlk
      · rwa [upd_ne _ _ hjk] at hjl
    exact (h.kept j hj hlo).step hE hlo hjl
  · simp only [ExtX, hC]; exact hE

/-- Keys that are numbers of one kind, or texts. -/
def keyOk (d : TypeDesc) : Value → Bool
  | .int _ _ => match d with | .int _ => true | _ => false
  | .string _ => match d with | .string => true | _ => false
  | .bool _ => match d with | .bool => true | _ => false
  | _ => false
def keyEq : Value → Value → Bool
  | .int j a, .int k b => j == k && a == b
  | .string a, .string b => a == b
  | .bool a, .bool b => a == b
  | _, _ => false
/-- (alike: of one kind) -/
def keyAlike : Value → Value → Bool
  | .int j _, .int k _ => j == k
  | .string _, .string _ => true
  | .bool _, .bool _ => true
  | _, _ => false

def findS (key : Value) : List (Value × SV) → Nat → Option (Nat × SV)
  | [], _ => none
  | p :: r, i => bif keyEq key p.1 then some (i, p.2) else findS key r (i + 1)

theorem findNow_ok {d : TypeDesc} {key : Value} (hk : keyOk d key = true) : ∀ (arr : List MapEntry) (es : List (Value × SV)) (i : Nat), arr.length = es.length →
    (∀ (j : Nat) (x : Value × SV), es[j]? = some x → ∃ e : MapEntry, arr[j]? = some e ∧ e.key = x.1) → (∀ x ∈ es, keyAlike key x.1 = true) →
    Instr.findNow d key arr i = some ((findS key es i).map fun p => (p.1, (arr.getD (p.1 - i) default).val))
  | [], [], i, _, _, _ => rfl
  | [], _ :: _, _, h, _, _ => by simp at h
  | _ :: _, [], _, h, _, _ => by simp at h
  | e :: arr, x :: es, i, hl, hx, ha => by
    obtain ⟨e', he', hkey⟩ := hx 0 x rfl
    simp only [List.getElem?_cons_zero, Option.some.injEq] at he'
    subst he'
    have hal := ha x (by simp)
    have hsame : Instr.sameNow d key e.key = some (keyEq key x.1) := by
      rw [hkey]
      cases key <;> cases hx1 : x.1 <;> rw [hx1] at hal <;> simp only [keyAlike, Bool.false_eq_true] at hal <;> cases d <;> simp only [keyOk, Bool.false_eq_true] at hk
      · simp [Instr.sameNow, keyEq]
      · have := hal; simp at this; simp [Instr.sameNow, keyEq, this]
      · simp [Instr.sameNow, keyEq]
    have ih := findNow_ok hk arr es (i + 1) (by simpa using hl) (fun j y hj => hx (j + 1) y (by simpa using hj)) (fun y hy => ha y (by simp [hy]))
    simp only [Instr.findNow, hsame, findS]
    cases hq : keyEq key x.1 with
    | true => simp
    | false =>
      simp only [cond_false, ih]
      cases hf : findS key es (i + 1) with
      | none => rfl
      | some p =>
        have hge : i + 1 ≤ p.1 := by
          have : ∀ (es : List (Value × SV)) (i : Nat) (p : Nat × SV), findS key es i = some p → i ≤ p.1 := by
            intro es
            induction es with
            | nil => intro i p hp; cases hp
            | cons y es ih =>
              intro i p hp
              simp only [findS] at hp
              cases hc : keyEq key y.1 with
              | true => rw [hc] at hp; cases hp; exact Nat.le_refl _
              | false => rw [hc] at hp; have := ih _ _ hp; omega
          exact this _ _ _ hf
        simp only [Option.map_some]
        rw [show p.1 - i = (p.1 - (i + 1)) + 1 from by omega]
        simp

theorem findS_some {key : Value} : ∀ (es : List (Value × SV)) (i : Nat) (p : Nat × SV), findS key es i = some p → i ≤ p.1 ∧ ∃ q, es[p.1 - i]? = some q ∧ q.2 = p.2 ∧ keyEq key q.1 = true
  | [], _, _, h => by cases h
  | y :: es, i, p, h => by
    simp only [findS] at h
    cases hc : keyEq key y.1 with
    | true => rw [hc] at h; cases h; exact ⟨Nat.le_refl _, y, by simp, rfl, hc⟩
    | false =>
      rw [hc] at h
      obtain ⟨h1, q, h2, h3, h4⟩ := findS_some es (i + 1) p h
      refine ⟨by omega, q, ?_, h3, h4⟩
      rw [show p.1 - i = (p.1 - (i + 1)) + 1 from by omega]
      simpa using h2

theorem run_checkKey {P : Program} {t : TypeId} {d : TypeDesc} {key : Value} (hu : P.underlying t = some d) (hk : keyOk d key = true) (em : Bool) (n : Nat) (w : World) : (Instr.checkKey em (n + 1) t key).run P w = .ok () w := by
  unfold Instr.checkKey
  rw [Sem.run_bind, run_underlying hu]
  cases key <;> cases d <;> simp [keyOk] at hk <;> rfl

def zeroVal (P : Program) (e : TypeId) : Option Value := (P.info? e).bind (·.zero)
def mapT (P : Program) (t : TypeId) : Option (TypeDesc × TypeId) :=
  match P.underlying t with
  | some (.map k e) => (P.underlying k).map fun d => (d, e)
  | _ => none
theorem mapT_some {P : Program} {t d e} (h : mapT P t = some (d, e)) : ∃ k, P.underlying t = some (.map k e) ∧ P.underlying k = some d := by
  unfold mapT at h
  split at h
  · rename_i k e' hu
    cases hk : P.underlying k with
    | none => rw [hk] at h; cases h
    | some d' => rw [hk] at h; cases h; exact ⟨k, hu, hk⟩
  · cases h

def mapC (c : Chunk) (k : List (Value × SV) → Res) : Res :=
  match c with
  | .map es => k es
  | _ => .bad
theorem mapC_ok {c : Chunk} {f : List (Value × SV) → Res} {s : Prop} {e : Eff} (h : mapC c f = .ok s e) : ∃ es, c = .map es ∧ f es = .ok s e := by
  cases c <;> simp only [mapC] at h <;> first | exact ⟨_, rfl, h⟩ | cases h

/-- What a lookup gives. -/
def lookV (z : Value) (key : Value) (es : List (Value × SV)) : SV := match findS key es 0 with
  | some p => p.2
  | none => .v z
def lookB (key : Value) (es : List (Value × SV)) : Bool := (findS key es 0).isSome

def lookupS (P : Program) (t : TypeId) (x key : SV) (ok : Bool) (hp : Hp) (nx : Nat) : Res :=
  match x, key, mapT P t with
  | .mp k, .v kv, some (d, e) => match zeroVal P e with
    | some z => mapC (getH hp k) fun es => .ok (keyOk d kv = true ∧ es.all (fun p => keyAlike kv p.1) = true) ⟨bif ok then .tup [lookV z kv es, .v (.bool (lookB kv es))] else lookV z kv es, [], nx, [k]⟩
    | none => .bad
  | _, _, _ => .bad

theorem map_at (h : HeapX X hp nx ids w) {k b : Nat} {es : List (Value × SV)} (hk : getH hp k = .map es) (hid : ids k = some (b, 0)) :
    ∃ arr clock, w.heap[b]? = some (.map arr clock) ∧ arr.size = es.length ∧ ∀ i x, es[i]? = some x → (arr.getD i default).key = x.1 ∧ DenX X hp ids w x.2 (arr.getD i default).val := by
  have hc := h.st.ch k
  rw [hk] at hc
  obtain ⟨b', arr, clock, hid', hw, hsz, hx⟩ := hc
  rw [hid] at hid'; cases hid'
  exact ⟨arr, clock, hw, hsz, hx⟩

theorem find_run (h : HeapX X hp nx ids w) {k b : Nat} {es : List (Value × SV)} (hk : getH hp k = .map es) (hid : ids k = some (b, 0)) {kt : TypeId} {d : TypeDesc} {key : Value} (hu : X.P.underlying kt = some d) (hko : keyOk d key = true) (hal : es.all (fun p => keyAlike key p.1) = true)
    {arr : Array MapEntry} {clock : Nat} (hw : w.heap[b]? = some (.map arr clock)) (hsz : arr.size = es.length) (hx : ∀ i x, es[i]? = some x → (arr.getD i default).key = x.1 ∧ DenX X hp ids w x.2 (arr.getD i default).val) :
    (Instr.findKey kt key arr.toList).run X.P w = .ok ((findS key es 0).map fun p => (p.1, (arr.getD p.1 default).val)) w := by
  have hf := findNow_ok (d := d) hko arr.toList es 0 (by simpa using hsz) (fun j x hj => by
    have hlt : j < arr.size := by rw [hsz]; exact (List.getElem?_eq_some_iff.1 hj).1
    refine ⟨arr[j], by simp, ?_⟩
    have := (hx j x hj).1
    rwa [Array.getD_eq_getD_getElem?, Array.getElem?_eq_getElem hlt] at this) (List.all_eq_true.1 hal)
  unfold Instr.findKey
  rw [Sem.run_bind, run_underlying hu]
  simp only [Result.andThen_ok, hf]
  simp [Array.getD_eq_getD_getElem?, List.getD_eq_getElem?_getD]

theorem sound_lookup (h : HeapX X hp nx ids w) {t : TypeId} {ok : Bool} {s q : SV} {x y : Value} (hd : DenX X hp ids w s x) (hq : DenX X hp ids w q y) {side : Prop} {e : Eff} (he : lookupS X.P t s q ok hp nx = .ok side e) (hs : side) :
    Sound X hp ids w ((Instr.lookup t x y ok).run X.P w) e := by
  unfold lookupS at he
  split at he
  · rename_i k kv d e' hmt
    obtain ⟨kt, hu, huk⟩ := mapT_some hmt
    split at he
    · rename_i z hz
      obtain ⟨es, hk, hf⟩ := mapC_ok he
      cases hf
      obtain ⟨hko, hal⟩ := hs
      obtain rfl := den_v hq
      obtain ⟨b, hid, rfl⟩ := den_mp hd (by rw [hk]; rfl)
      obtain ⟨arr, clock, hw, hsz, hx⟩ := map_at h hk hid
      have hfr := find_run h hk hid huk hko hal hw hsz hx
      have hzr : (zeroValue e').run X.P w = .ok z w := by
        unfold zeroVal at hz
        cases hi : X.P.info? e' with
        | none => rw [hi] at hz; cases hz
        | some i => rw [hi] at hz; simp only [Option.bind_some] at hz; simp [zeroValue, typeInfo, hi, hz]
      have hrun : (Instr.lookup t (.map (some b)) y ok).run X.P w = .ok (if ok then .tuple #[match findS y es 0 with | some p => (arr.getD p.1 default).val | none => z, .bool (lookB y es)] else match findS y es 0 with | some p => (arr.getD p.1 default).val | none => z) w := by
        simp only [Instr.lookup, Sem.run_bind, run_underlying hu, Result.andThen_ok, run_getObj hw (by intros; simp), Sem.run_pure, run_checkKey huk hko _ 9999, hfr, lookB]
        cases hfs : findS y es 0 with
        | none => simp [hzr]
        | some p => simp
      have hval : DenX X hp ids w (lookV z y es) (match findS y es 0 with | some p => (arr.getD p.1 default).val | none => z) := by
        unfold lookV
        cases hfs : findS y es 0 with
        | none => exact .v
        | some p =>
          obtain ⟨_, q', h2, h3, _⟩ := findS_some es 0 p hfs
          rw [Nat.sub_zero] at h2
          have := (hx p.1 q' h2).2
          rw [h3] at this; exact this
      refine sound_pure h hrun ?_
      cases ok with
      | false => exact hval
      | true =>
        refine .tup _ rfl fun i x hi => ?_
        match i, hi with
        | 0, hi => simp at hi; subst hi; exact hval
        | 1, hi => simp at hi; subst hi; exact .v
        | i + 2, hi => simp at hi
    · cases he
  · cases he

def updL (key : Value) (v : SV) (es : List (Value × SV)) : List (Value × SV) := match findS key es 0 with
  | some p => es.modify p.1 fun _ => (key, v)
  | none => es ++ [(key, v)]

def mapUpdS (P : Program) (t : TypeId) (x key v : SV) (hp : Hp) (nx : Nat) : Res :=
  match x, key, mapT P t with
  | .mp k, .v kv, some (d, e) => mapC (getH hp k) fun es => .ok (keyOk d kv = true ∧ es.all (fun p => keyAlike kv p.1) = true) ⟨.any, [(k, .map (updL kv v es))], nx, [k]⟩
  | _, _, _ => .bad

theorem ba_beq (a b : ByteArray) : (a == b) = (a.data == b.data) := by cases a; cases b; rfl
theorem ba_eq {a b : ByteArray} (h : (a == b) = true) : a = b := by
  rw [ba_beq] at h; cases a; cases b; simp at h; subst h; rfl
theorem ba_self (a : ByteArray) : (a == a) = true := by rw [ba_beq]; simp

theorem keyThatStays_same {P : Program} {a b : Value} (h : keyEq a b = true) (w : World) : (Instr.keyThatStays b a).run P w = .ok a w := by
  have hs : Instr.sameBits 10000 b a = true := by
    cases a <;> cases b <;> simp only [keyEq, Bool.false_eq_true] at h
    · have := eq_of_beq h; subst this; simp [Instr.sameBits]
    · simp at h; simp [Instr.sameBits, h]
    · have := ba_eq h; subst this; simp only [Instr.sameBits, ba_self]
  simp [Instr.keyThatStays, hs]

theorem run_setObj {P : Program} {w : World} {b : Nat} {o o' : Obj} (h : w.heap[b]? = some o) (hn : ∀ c e f, o ≠ .cells c e f) : (setObj b o').run P w = .ok () { w with heap := w.heap.setIfInBounds b o' } := by
  cases o <;> simp [setObj, Sem.run, h] at hn ⊢

theorem sound_mapUpd (h : HeapX X hp nx ids w) {t : TypeId} {s q v : SV} {x y z : Value} (hd : DenX X hp ids w s x) (hq : DenX X hp ids w q y) (hv : DenX X hp ids w v z) {side : Prop} {e : Eff} (he : mapUpdS X.P t s q v hp nx = .ok side e) (hs : side) :
    SoundU X hp ids w ((Instr.mapUpdate t x y z).run X.P w) e := by
  unfold mapUpdS at he
  split at he
  · rename_i k kv d e' hmt
    obtain ⟨kt, hu, huk⟩ := mapT_some hmt
    obtain ⟨es, hk, hf⟩ := mapC_ok he
    cases hf
    obtain ⟨hko, hal⟩ := hs
    obtain rfl := den_v hq
    obtain ⟨b, hid, rfl⟩ := den_mp hd (by rw [hk]; rfl)
    obtain ⟨arr, clock, hw, hsz, hx⟩ := map_at h hk hid
    have hfr := find_run h hk hid huk hko hal hw hsz hx
    cases hfs : findS y es 0 with
    | none =>
      rw [hfs] at hfr
      have hrun : (Instr.mapUpdate t (.map (some b)) y z).run X.P w = .ok () { w with heap := w.heap.setIfInBounds b (.map (arr.push { key := y, val := z, born := clock }) (clock + 1)) } := by
        simp only [Instr.mapUpdate, Sem.run_bind, run_underlying hu, Result.andThen_ok, run_getObj hw (by intros; simp), run_checkKey huk hko _ 9999, hfr, Option.map_none]
        exact run_setObj hw (by intros; simp)
      obtain ⟨g1, g2⟩ := heap_map_turn h hk hid (es' := es ++ [(y, v)]) hw (arr' := arr.push { key := y, val := z, born := clock }) (clock' := clock + 1) (by simp [hsz]) (fun i x hi => by
        rw [List.getElem?_append] at hi
        rw [Array.getD_eq_getD_getElem?, Array.getElem?_push]
        split at hi
        · rename_i hlt
          have := hx i x hi
          rw [if_neg (by omega)]
          rwa [Array.getD_eq_getD_getElem?] at this
        · rename_i hlt
          have : i = es.length := by
            have := (List.getElem?_eq_some_iff.1 hi).1
            simp at this; omega
          subst this
          simp at hi; subst hi
          rw [if_pos hsz.symm]
          exact ⟨rfl, hv⟩)
      exact ⟨_, _, hrun, by simpa [updL, hfs] using g1, by simpa [updL, hfs] using g2⟩
    | some p =>
      rw [hfs] at hfr
      obtain ⟨_, q', hq1, hq2, hq3⟩ := findS_some es 0 p hfs
      rw [Nat.sub_zero] at hq1
      have hlt : p.1 < arr.size := by rw [hsz]; exact (List.getElem?_eq_some_iff.1 hq1).1
      have hkk : (arr.getD p.1 default).key = q'.1 := (hx p.1 q' hq1).1
      have hrun : (Instr.mapUpdate t (.map (some b)) y z).run X.P w = .ok () { w with heap := w.heap.setIfInBounds b (.map (arr.modify p.1 fun e => { e with key := y, val := z }) clock) } := by
        simp only [Instr.mapUpdate, Sem.run_bind, run_underlying hu, Result.andThen_ok, run_getObj hw (by intros; simp), run_checkKey huk hko _ 9999, hfr, Option.map_some]
        have hkey : ((arr[p.1]?).map (·.key)).getD y = q'.1 := by
          rw [← hkk, Array.getD_eq_getD_getElem?, Array.getElem?_eq_getElem hlt]; rfl
        rw [hkey, keyThatStays_same hq3, Result.andThen_ok]
        exact run_setObj hw (by intros; simp)
      obtain ⟨g1, g2⟩ := heap_map_turn h hk hid (es' := es.modify p.1 fun _ => (y, v)) hw (arr' := arr.modify p.1 fun e => { e with key := y, val := z }) (clock' := clock) (by simp [hsz]) (fun i x hi => by
        rw [List.getElem?_modify] at hi
        rw [Array.getD_eq_getD_getElem?, Array.getElem?_modify]
        by_cases hip : p.1 = i
        · subst hip
          rw [hq1] at hi
          simp at hi; subst hi
          simp [Array.getElem?_eq_getElem hlt]
          exact hv
        · simp only [if_neg hip] at hi ⊢
          have hi' : es[i]? = some x := by
            cases he : es[i]? with
            | none => rw [he] at hi; cases hi
            | some u => rw [he] at hi; simpa using hi
          have := hx i x hi'
          rwa [Array.getD_eq_getD_getElem?] at this)
      exact ⟨_, _, hrun, by simpa [updL, hfs] using g1, by simpa [updL, hfs] using g2⟩
  · cases he

def makeMapS (nx : Nat) : Res := .ok True ⟨.mp nx, [(nx, .map [])], nx + 1, []⟩
theorem sound_makeMap (h : HeapX X hp nx ids w) (t : TypeId) {side : Prop} {e : Eff} (he : makeMapS nx = .ok side e) : Sound X hp ids w ((Instr.makeMap t none).run X.P w) e := by
  cases he
  obtain ⟨g1, g2⟩ := heap_map_new h
  refine ⟨_, _, _, rfl, g1, g2, .mp w.heap.size ?_ (upd_same _ _ _)⟩
  rw [List.singleton_append, getH_upd, upd_same]; rfl

/-! ### Iterators over texts -/
theorem heap_it_new (h : HeapX X hp nx ids w) (s : ByteArray) : HeapC X ([(nx, .obj s 0)] ++ hp) (upd ids nx (some (w.heap.size, 0))) (w.alloc (.stringIter s 0)) ∧
    ExtX X hp ids w ([(nx, .obj s 0)] ++ hp) (upd ids nx (some (w.heap.size, 0))) (w.alloc (.stringIter s 0)) := by
  have hb : getH hp nx = .unborn := h.fresh
  have hC : getH ([(nx, .obj s 0)] ++ hp) = upd (getH hp) nx (.obj s 0) := getH_upd nx _ hp
  have hE := h.st.alloc_ext hb (.obj s 0) (.stringIter s 0)
  refine ⟨⟨?_, fun j hj hjl => ?_⟩, ?_⟩
  · rw [hC]
    refine h.st.alloc hb _ _ ?_
    exact ⟨w.heap.size, upd_same _ _ _, heap_alloc_new' w _⟩
  · have hjn : j ≠ nx := by have := h.m_le; omega
    rw [hC] at hjl ⊢
    have hlo : (getH hp j).live = true := by rwa [upd_ne _ _ hjn] at hjl
    exact (h.kept j hj hlo).step hE hlo hjl
  · simp only [ExtX, hC]; exact hE
theorem heap_it_turn (h : HeapX X hp nx ids w) {k b : Nat} {s : ByteArray} {pos pos' : Nat} (hk : getH hp k = .obj s pos) (hi : ids k = some (b, 0)) (hw : w.heap[b]? = some (.stringIter s pos)) :
    HeapC X ([(k, .obj s pos')] ++ hp) ids { w with heap := w.heap.setIfInBounds b (.stringIter s pos') } ∧ ExtX X hp ids w ([(k, .obj s pos')] ++ hp) ids { w with heap := w.heap.setIfInBounds b (.stringIter s pos') } := by
  have hlk : (getH hp k).live = true := by rw [hk]; rfl
  have hblt : b < w.heap.size := (Array.getElem?_eq_some_iff.1 hw).1
  have hz : (w.heap.setIfInBounds b (.stringIter s pos')).size = w.heap.size := by simp
  have hat : (w.heap.setIfInBounds b (Obj.stringIter s pos'))[b]? = some (.stringIter s pos') := by rw [Array.getElem?_setIfInBounds_self_of_lt hblt]
  have hot : ∀ j, j ≠ b → (w.heap.setIfInBounds b (Obj.stringIter s pos'))[j]? = w.heap[j]? := fun j hj => by rw [Array.getElem?_setIfInBounds_ne (fun e => hj e.symm)]
  have hshape : SameShape w.heap[b]? (w.heap.setIfInBounds b (Obj.stringIter s pos'))[b]? := fun a t ha => by rw [hw] at ha; cases ha
  have hE := h.st.turn_ext (w' := { w with heap := w.heap.setIfInBounds b (.stringIter s pos') }) hlk hi (c := .obj s pos') rfl (by rw [hk]; trivial) hz hot hshape
  have hC : getH ([(k, .obj s pos')] ++ hp) = upd (getH hp) k (.obj s pos') := getH_upd k _ hp
  refine ⟨⟨?_, fun j hj hjl => ?_⟩, ?_⟩
  · rw [hC]
    refine h.st.turn hlk hi rfl (by rw [hk]; trivial) hz hot hshape rfl rfl rfl ?_
    exact ⟨b, hi, hat⟩
  · rw [hC] at hjl ⊢
    have hlo : (getH hp j).live = true := by
      by_cases hjk : j = k
      · subst hjk; exact hlk
      · rwa [upd_ne _ _ hjk] at hjl
    exact (h.kept j hj hlo).step hE hlo hjl
  · simp only [ExtX, hC]; exact hE
def rangeS (P : Program) (t : TypeId) (x : SV) (nx : Nat) : Res := match x with
  | .v (.string s) => match P.underlying t with
    | some .string => .ok True ⟨.it nx, [(nx, .obj s 0)], nx + 1, []⟩
    | _ => .bad
  | _ => .bad
def itC (c : Chunk) (f : ByteArray → Nat → Res) : Res := match c with
  | .obj s pos => f s pos
  | _ => .bad
def nextS (x : SV) (str : Bool) (hp : Hp) (nx : Nat) : Res := bif str then (match x with
  | .it k => itC (getH hp k) fun s pos => bif decide (pos < s.size) then .ok True ⟨.tup [.v (.bool true), .v (.int .i64 ((pos : Nat) : Int)), .v (.int .i32 (((Utf8.decode s pos).1 : Nat) : Int))], [(k, .obj s (pos + (Utf8.decode s pos).2))], nx, [k]⟩
    else .ok True ⟨.tup [.v (.bool false)], [], nx, [k]⟩
  | _ => .bad) else .bad
theorem itC_ok {c : Chunk} {f : ByteArray → Nat → Res} {s : Prop} {e : Eff} (h : itC c f = .ok s e) : ∃ t pos, c = .obj t pos ∧ f t pos = .ok s e := by
  cases c with
  | obj t pos => exact ⟨t, pos, rfl, h⟩
  | _ => cases h
theorem sound_range (h : HeapX X hp nx ids w) {t : TypeId} {q : SV} {x : Value} (hd : DenX X hp ids w q x) {side : Prop} {e : Eff} (he : rangeS X.P t q nx = .ok side e) : Sound X hp ids w ((Instr.range t x).run X.P w) e := by
  unfold rangeS at he
  split at he
  · split at he
    · rename_i s _ hu
      cases he
      obtain rfl := den_v hd
      obtain ⟨g1, g2⟩ := heap_it_new h s
      refine ⟨.pointer (some ⟨w.heap.size, 0, none⟩), w.alloc (.stringIter s 0), _, ?_, g1, g2, .it w.heap.size ?_ (upd_same _ _ _)⟩
      · simp only [Instr.range, Sem.run_bind, run_underlying hu, Result.andThen_ok, Sem.run_pure]
        rfl
      · rw [List.singleton_append, getH_upd, upd_same]; rfl
    · cases he
  · cases he
theorem den_it {P : Program} {C : Nat → Chunk} {ids : Ids} {I : Nat → Prop} {w : World} {y : Value} {k : Nat} (h : Den P C ids I w (.it k) y) (hl : (C k).live = true) : ∃ b, ids k = some (b, 0) ∧ y = .pointer (some ⟨b, 0, none⟩) := by
  cases h with
  | itDead h => rw [h] at hl; cases hl
  | it b _ hi => exact ⟨b, hi, rfl⟩
theorem sound_next (h : HeapX X hp nx ids w) {str : Bool} {q : SV} {x : Value} (hd : DenX X hp ids w q x) {side : Prop} {e : Eff} (he : nextS q str hp nx = .ok side e) (ty : TypeId) : Sound X hp ids w ((Instr.next x str ty).run X.P w) e := by
  unfold nextS at he
  cases str with
  | false => cases he
  | true =>
    simp only [cond_true] at he
    split at he
    · rename_i k
      obtain ⟨s, pos, hk, hf⟩ := itC_ok he
      obtain ⟨b, hid, rfl⟩ := den_it hd (by rw [hk]; rfl)
      have hc := h.st.ch k
      rw [hk] at hc
      obtain ⟨b', hid', hw⟩ := hc
      rw [hid] at hid'; cases hid'
      cases hb : decide (pos < s.size) with
      | true =>
        rw [hb] at hf; simp only [cond_true] at hf
        cases hf
        have hlt : pos < s.size := of_decide_eq_true hb
        obtain ⟨g1, g2⟩ := heap_it_turn (pos' := pos + (Utf8.decode s pos).2) h hk hid hw
        refine ⟨_, _, _, ?_, g1, g2, .tup #[.bool true, goInt pos, .int .i32 (Utf8.decode s pos).1] rfl fun i y hy => ?_⟩
        · simp only [Instr.next, Sem.run_bind, run_getObj hw (by intros; simp), Result.andThen_ok, if_pos hlt, run_setObj hw (by intros; simp)]
          rfl
        · match i, hy with
          | 0, hy => cases hy; exact .v
          | 1, hy => cases hy; exact .v
          | 2, hy => cases hy; exact .v
      | false =>
        rw [hb] at hf; simp only [cond_false] at hf
        cases hf
        have hlt : ¬ pos < s.size := of_decide_eq_false hb
        refine sound_pure (x := .tuple #[.bool false]) h ?_ (.tup #[.bool false] rfl fun i y hy => ?_)
        · simp only [Instr.next, Sem.run_bind, run_getObj hw (by intros; simp), Result.andThen_ok, if_neg hlt]
          rfl
        · match i, hy with
          | 0, hy => cases hy; exact .v
    · cases he

end Go.Sx
