/-
  Sx, part J: slicing, making, lengths, conversions, small things.
-/
import Derived.Test.YtnnpjaoddniifaaSxI
import Derived.Laws.IdiomStrings
set_option linter.unusedSimpArgs false
set_option linter.unusedVariables false
namespace Go.Sx
set_option linter.unusedVariables false
open Go.RowKit
variable {X : Cx} {hp : Hp} {nx : Nat} {ids : Ids} {w : World}

def boundS (o : Option SV) (d : Int) : Option Int :=
  match o with
  | none => some d
  | some (.v (.int _ n)) => some n
  | _ => none

def BoundV (v : Option Value) (d n : Int) : Prop := (v = none ∧ n = d) ∨ ∃ k, v = some (.int k n)

theorem boundS_ok {P : Program} {C : Nat → Chunk} {I : Nat → Prop} {o : Option SV} {v : Option Value} {d n : Int} (h : boundS o d = some n) (hn : o = none → v = none) (hs : ∀ s, o = some s → ∃ x, v = some x ∧ Den P C ids I w s x) : BoundV v d n := by
  unfold boundS at h
  split at h
  · cases h; exact .inl ⟨hn rfl, rfl⟩
  · rename_i k m
    cases h
    obtain ⟨x, hv, hd⟩ := hs _ rfl
    obtain rfl := den_v hd
    exact .inr ⟨k, hv⟩
  · cases h

theorem run_bounds {P : Program} (isSlice : Bool) (len cap : Nat) {lo hi : Option Value} {l h : Int} (hl : BoundV lo 0 l) (hh : BoundV hi len h) (h0 : 0 ≤ l) (h1 : l ≤ h) (h2 : h ≤ len) (h3 : len ≤ cap) (w : World) :
    (Instr.sliceBounds isSlice len cap lo hi none).run P w = .ok (l.toNat, h.toNat, cap) w := by
  have hlt : h.toNat ≤ cap := by omega
  have hlh : l ≤ (h.toNat : Int) := by omega
  have hln : (len : Int).toNat = len := rfl
  rcases hl with ⟨rfl, rfl⟩ | ⟨k, rfl⟩ <;> rcases hh with ⟨rfl, rfl⟩ | ⟨k', rfl⟩
  · simp [Instr.sliceBounds]
  · have : 0 ≤ h ∧ h ≤ (cap : Int) := by omega
    simp [Instr.sliceBounds, Instr.sliceBound, asIntOf, this]
  · have : 0 ≤ l ∧ l ≤ (len : Int) := by omega
    simp [Instr.sliceBounds, Instr.sliceBound, asIntOf, this]
  · have : 0 ≤ h ∧ h ≤ (cap : Int) := by omega
    have h4 : 0 ≤ l ∧ l ≤ h := by omega
    have h5 : max h 0 = h := by omega
    simp [Instr.sliceBounds, Instr.sliceBound, asIntOf, this, h4, h5]

theorem run_sliceAt_slice {P : Program} {t e : TypeId} {i : TypeInfo} (hu : P.underlying t = some (.slice e)) (hi : P.info? e = some i) (a : Option Addr) (len cap : Nat) {lo hig : Option Value} {l h : Int} (hl : BoundV lo 0 l) (hh : BoundV hig len h)
    (h0 : 0 ≤ l) (h1 : l ≤ h) (h2 : h ≤ len) (h3 : len ≤ cap) (w : World) :
    (Instr.sliceAt t (.slice a len cap) lo hig none).run P w = .ok (.slice (if cap = l.toNat then a else a.map (·.add (l.toNat * i.size))) (h.toNat - l.toNat) (cap - l.toNat)) w := by
  simp [Instr.sliceAt, Instr.slice, run_underlying hu, run_bounds true len cap hl hh h0 h1 h2 h3, sizeOf, typeInfo, hi]

theorem run_sliceAt_string {P : Program} {t : TypeId} (hu : P.underlying t = some .string) (s : ByteArray) {lo hig : Option Value} {l h : Int} (hl : BoundV lo 0 l) (hh : BoundV hig s.size h)
    (h0 : 0 ≤ l) (h1 : l ≤ h) (h2 : h ≤ s.size) (w : World) :
    (Instr.sliceAt t (.string s) lo hig none).run P w = .ok (.string (s.extract l.toNat h.toNat)) w := by
  simp [Instr.sliceAt, Instr.slice, run_underlying hu, run_bounds false s.size s.size hl hh h0 h1 h2 (Nat.le_refl _)]

def sliceS (P : Program) (t : TypeId) (x : SV) (lo hi : Option SV) (hp : Hp) (nx : Nat) : Res :=
  match x with
  | .own k off n => match boundS lo 0, boundS hi n, sliceT P t with
    | some l, some h, some (_, z) => rowS (getH hp k) fun e _ => .ok (P.cellsOf e = z ∧ 0 ≤ l ∧ l ≤ h ∧ h ≤ n) ⟨.own k (off + l.toNat * z) (h.toNat - l.toNat), [], nx, [k]⟩
    | _, _, _ => .bad
  | .sl n cs => match boundS lo 0, boundS hi n, sliceT P t with
    | some l, some h, some (_, z) => .ok (0 ≤ l ∧ l ≤ h ∧ h ≤ n) ⟨.sl (h.toNat - l.toNat) (appCells cs (l.toNat * z) ((h.toNat - l.toNat) * z)), [], nx, []⟩
    | _, _, _ => .bad
  | .v (.slice none 0 0) => match boundS lo 0, boundS hi 0, sliceT P t with
    | some l, some h, some _ => .ok (l = 0 ∧ h = 0) ⟨.v (.slice none 0 0), [], nx, []⟩
    | _, _, _ => .bad
  | .v (.string s) => match boundS lo 0, boundS hi s.size, P.underlying t with
    | some l, some h, some .string => .ok (0 ≤ l ∧ l ≤ h ∧ h ≤ s.size) ⟨.v (.string (s.extract l.toNat h.toNat)), [], nx, []⟩
    | _, _, _ => .bad
  | _ => .bad

theorem sound_slice (h : HeapX X hp nx ids w) {t : TypeId} {s : SV} {x : Value} {lo hi : Option SV} {lov hiv : Option Value} (hd : DenX X hp ids w s x) (hl1 : lo = none → lov = none) (hl2 : ∀ s, lo = some s → ∃ x, lov = some x ∧ DenX X hp ids w s x)
    (hh1 : hi = none → hiv = none) (hh2 : ∀ s, hi = some s → ∃ x, hiv = some x ∧ DenX X hp ids w s x) {side : Prop} {e : Eff} (he : sliceS X.P t s lo hi hp nx = .ok side e) (hs : side) :
    Sound X hp ids w ((Instr.sliceAt t x lov hiv none).run X.P w) e := by
  unfold sliceS at he
  split at he
  · rename_i k off n
    split at he
    · rename_i l hh e' z b1 b2 hst
      obtain ⟨i, hu, hi', rfl⟩ := sliceT_some hst
      obtain ⟨t', cs, hk, hf⟩ := rowS_ok he
      cases hf
      obtain ⟨hz, h0, h1, h2⟩ := hs
      obtain ⟨a, cap, rfl, c1, c2, c4, c3⟩ := den_own hd (by rw [hk]; rfl)
      refine sound_pure h (run_sliceAt_slice hu hi' a n cap (boundS_ok b1 hl1 hl2) (boundS_ok b2 hh1 hh2) h0 h1 h2 c1 w) ?_
      refine .own _ _ (by rw [hk]; rfl) ⟨by omega, by omega, fun e2 cs2 hc2 => ?_, ?_⟩
      · have := c4 _ _ hc2
        rw [hk] at hc2; cases hc2
        rw [hz] at this ⊢
        have : l.toNat * i.size + (cap - l.toNat) * i.size = cap * i.size := by rw [← Nat.add_mul]; congr 1; omega
        omega
      by_cases hc : cap = l.toNat
      · exact .inl ⟨by omega, by omega⟩
      · rw [if_neg hc]
        rcases c3 with ⟨_, rfl⟩ | ⟨b, o, e2, cs2, arr, hC, hid, rfl, hw, hsz⟩
        · exact .inl ⟨by omega, by omega⟩
        · rw [hk] at hC; cases hC
          refine .inr ⟨b, o, t', cs, arr, hk, hid, by simp only [Option.map_some, add_mk, Nat.add_assoc], hw, ?_⟩
          rw [hz] at hsz ⊢
          have : l.toNat * i.size + (cap - l.toNat) * i.size = cap * i.size := by rw [← Nat.add_mul]; congr 1; omega
          omega
    · cases he
  · rename_i n cs
    split at he
    · rename_i l hh e' z b1 b2 hst
      obtain ⟨i, hu, hi', rfl⟩ := sliceT_some hst
      cases he
      obtain ⟨h0, h1, h2⟩ := hs
      obtain ⟨a, cap, rfl, c1, c2, c3⟩ := den_sl hd
      refine sound_pure h (run_sliceAt_slice hu hi' a n cap (boundS_ok b1 hl1 hl2) (boundS_ok b2 hh1 hh2) h0 h1 h2 c1 w) ?_
      by_cases hc : cap = l.toNat
      · have e1 : hh.toNat - l.toNat = 0 := by omega
        rw [e1, Nat.zero_mul, show appCells cs (l.toNat * i.size) 0 = [] from by simp [appCells]]
        exact .sl0 (by omega)
      · rw [if_neg hc]
        rcases c3 with ⟨rfl, rfl⟩ | ⟨b, o, c, rfl, hI, hcc, hx⟩
        · have e1 : hh.toNat - l.toNat = 0 := by omega
          rw [e1, Nat.zero_mul, show appCells [] (l.toNat * i.size) 0 = [] from by simp [appCells]]
          exact .sl0 (by omega)
        · simp only [Option.map_some, add_mk]
          exact .sl b (o + l.toNat * i.size) _ (fun j => c (l.toNat * i.size + j)) hI (by omega) (by omega) (fun j x hj => by
            obtain ⟨_, hj2⟩ := appCells_get hj
            rw [Nat.add_assoc]; exact hcc _ _ hj2) (fun j x hj => by
            obtain ⟨_, hj2⟩ := appCells_get hj
            exact hx _ _ hj2)
    · cases he
  · split at he
    · rename_i l hh p b1 b2 hst
      obtain ⟨e', z⟩ := p
      obtain ⟨i, hu, hi', rfl⟩ := sliceT_some hst
      cases he
      obtain ⟨rfl, rfl⟩ := hs
      obtain rfl := den_v hd
      refine sound_pure h (run_sliceAt_slice hu hi' none 0 0 (boundS_ok b1 hl1 hl2) (boundS_ok b2 hh1 hh2) (by omega) (by omega) (by omega) (by omega) w) ?_
      exact .v
    · cases he
  · rename_i s
    split at he
    · rename_i l hh b1 b2 hu
      cases he
      obtain ⟨h0, h1, h2⟩ := hs
      obtain rfl := den_v hd
      exact sound_pure h (run_sliceAt_string hu s (boundS_ok b1 hl1 hl2) (boundS_ok b2 hh1 hh2) h0 h1 h2 w) .v
    · cases he
  · cases he

/-- len -/
def lenS (P : Program) (t : TypeId) (x : SV) (hp : Hp) (nx : Nat) : Res :=
  match arrT P t with
  | some (n, _, _) => pureR (.v (.int .i64 n)) nx
  | none => match x with
    | .own k _ n => match P.underlying t with
      | some (.slice _) => rowS (getH hp k) fun _ _ => .ok True ⟨.v (.int .i64 n), [], nx, [k]⟩
      | _ => .bad
    | .sl n _ => match P.underlying t with
      | some (.slice _) => pureR (.v (.int .i64 n)) nx
      | _ => .bad
    | .v (.slice none 0 0) => match P.underlying t with
      | some (.slice _) => pureR (.v (.int .i64 0)) nx
      | _ => .bad
    | .v (.string s) => match P.underlying t with
      | some .string => pureR (.v (.int .i64 s.size)) nx
      | _ => .bad
    | .mp k => match P.underlying t, getH hp k with
      | some (.map _ _), .map es => .ok True ⟨.v (.int .i64 es.length), [], nx, [k]⟩
      | _, _ => .bad
    | _ => .bad

theorem run_getObj {P : Program} {w : World} {b : Nat} {o : Obj} (h : w.heap[b]? = some o) (hn : ∀ c e f, o ≠ .cells c e f) : (getObj b).run P w = .ok o w := by
  cases o <;> simp [getObj, Sem.run, h] at hn ⊢

theorem sound_len (h : HeapX X hp nx ids w) {t : TypeId} {s : SV} {x : Value} (hd : DenX X hp ids w s x) {side : Prop} {e : Eff} (he : lenS X.P t s hp nx = .ok side e) (hs : side) (ty : TypeId) :
    Sound X hp ids w ((Builtin.len_ #[t] ty #[x]).run X.P w) e := by
  unfold lenS at he
  split at he
  · rename_i n e' z ha
    cases he
    obtain ⟨i, hu, _, _⟩ := arrT_some ha
    exact sound_pure h (by simp [Builtin.len_, run_underlying hu, goInt]) .v
  · split at he
    · rename_i k off n
      split at he
      · rename_i e' hu
        obtain ⟨t', cs, hk, hf⟩ := rowS_ok he
        cases hf
        obtain ⟨a, cap, rfl, _⟩ := den_own hd (by rw [hk]; rfl)
        exact sound_pure h (by simp [Builtin.len_, run_underlying hu, goInt]) .v
      · cases he
    · rename_i n cs
      split at he
      · rename_i e' hu
        cases he
        obtain ⟨a, cap, rfl, _⟩ := den_sl hd
        exact sound_pure h (by simp [Builtin.len_, run_underlying hu, goInt]) .v
      · cases he
    · split at he
      · rename_i e' hu
        cases he
        obtain rfl := den_v hd
        exact sound_pure h (by simp [Builtin.len_, run_underlying hu, goInt]) .v
      · cases he
    · rename_i s
      split at he
      · rename_i hu
        cases he
        obtain rfl := den_v hd
        exact sound_pure h (by simp [Builtin.len_, run_underlying hu, goInt]) .v
      · cases he
    · rename_i k
      split at he
      · rename_i k' e' es hu hk
        cases he
        obtain ⟨b, hid, rfl⟩ := den_mp hd (by rw [hk]; rfl)
        have hc := h.st.ch k
        rw [hk] at hc
        obtain ⟨b', arr, clock, hid', hw, hsz, _⟩ := hc
        rw [hid] at hid'; cases hid'
        exact sound_pure h (by simp [Builtin.len_, run_underlying hu, goInt, run_getObj hw (by intros; simp), hsz]) .v
      · cases he
    · cases he

def unS (op : UnOp) (x : SV) (nx : Nat) : Res :=
  match op, x with
  | .not, .v (.bool b) => pureR (.v (.bool (!b))) nx
  | .neg, .v (.int k n) => pureR (.v (.int k (k.wrap (0 - n)))) nx
  | _, _ => .bad
theorem sound_un (h : HeapX X hp nx ids w) {op : UnOp} {s : SV} {x : Value} (hd : DenX X hp ids w s x) {side : Prop} {e : Eff} (he : unS op s nx = .ok side e) : Sound X hp ids w ((Op.unary op x).run X.P w) e := by
  unfold unS at he
  split at he
  · cases he; obtain rfl := den_v hd; exact sound_pure h (by simp [Op.unary]) .v
  · cases he; obtain rfl := den_v hd; exact sound_pure h (by simp [Op.unary, Op.intArith]) .v
  · cases he

/-- The numbers of letters, and of bytes. -/
def runesL (s : ByteArray) : Nat → Nat → List Int
  | 0, _ => []
  | f + 1, i => bif decide (i < s.size) then ((Utf8.decode s i).1 : Int) :: runesL s f (i + (Utf8.decode s i).2) else []
def runesOf (s : ByteArray) : List Int := runesL s s.size 0
theorem runesFrom_eq (s : ByteArray) : ∀ (f i : Nat) (acc : Array Value), Conv.runesFrom s f i acc = acc ++ ((runesL s f i).map (Value.int .i32)).toArray
  | 0, _, acc => by simp [Conv.runesFrom, runesL]
  | f + 1, i, acc => by
    unfold Conv.runesFrom runesL
    by_cases h : i < s.size
    · rw [if_pos h]
      show Conv.runesFrom s f (i + (Utf8.decode s i).2) (acc.push (Value.int IntKind.i32 (Int.ofNat (Utf8.decode s i).1))) = _
      rw [runesFrom_eq s f]
      simp [h]
    · rw [if_neg h]; simp [h]
def encL (l : List Int) : ByteArray := l.foldl (fun r n => r ++ Utf8.encode n) ByteArray.empty
def bytL (l : List Int) : ByteArray := l.foldl (fun r n => r.push (UInt8.ofNat n.toNat)) ByteArray.empty
def isI (k : IntKind) : SV → Bool
  | .v (.int j _) => j == k
  | _ => false
def intOf : SV → Int
  | .v (.int _ n) => n
  | _ => 0
def strS' (P : Program) (s d : TypeId) (x : SV) (hp : Hp) (nx : Nat) : Res :=
  match P.underlying s, P.underlying d with
  | some (.slice e), some .string => match P.underlying e with
    | some (.int .i32) => srcS P s 1 x hp fun m news rds s0 => bif news.all (isI .i32) then .ok (s0 ∧ news.length = m * 1) ⟨.v (.string (encL (news.map intOf))), [], nx, rds⟩ else .bad
    | some (.int .u8) => srcS P s 1 x hp fun m news rds s0 => bif news.all (isI .u8) then .ok (s0 ∧ news.length = m * 1) ⟨.v (.string (bytL (news.map intOf))), [], nx, rds⟩ else .bad
    | _ => .bad
  | _, _ => .bad
def convS (P : Program) (s d : TypeId) (x : SV) (hp : Hp) (nx : Nat) : Res :=
  match x with
  | .v (.int _ n) => match P.underlying s, P.underlying d with
    | some _, some (.int k) => pureR (.v (.int k (k.wrap n))) nx
    | _, _ => .bad
  | .v (.string b) => match P.underlying s, P.underlying d with
    | some _, some .string => pureR (.v (.string b)) nx
    | some .string, some (.slice e) => match P.underlying e, szT P e with
      | some (.int .i32), some 1 => .ok ((runesOf b).length ≤ 70368744177664) ⟨.own nx 0 (runesOf b).length, [(nx, .row e ((runesOf b).map fun n => .v (.int .i32 n)))], nx + 1, []⟩
      | _, _ => .bad
    | _, _ => .bad
  | x => strS' P s d x hp nx
theorem run_forIn_runes {P : Program} {w : World} (f : Value → ByteArray → Sem (ForInStep ByteArray))
    (hf : ∀ (n : Int) (r : ByteArray), (f (.int .i32 n) r).run P w = .ok (.yield (r ++ Utf8.encode n)) w) :
    ∀ (ns : List Int) (s : ByteArray), (forIn (ns.map (Value.int .i32)) s f).run P w = .ok (ns.foldl (fun r n => r ++ Utf8.encode n) s) w := by
  intro ns
  induction ns with
  | nil => intro s; simp [Sem.run_pure]
  | cons n ns ih =>
    intro s
    simp only [List.map_cons, List.forIn_cons, Sem.run_bind, hf, Result.andThen, List.foldl_cons]
    exact ih _
theorem run_runesToString' {P : Program} (w : World) (a : Addr) (len cap : Nat) (ns : List Int) (h : (loadCells a len).run P w = .ok (ns.map (Value.int .i32)).toArray w) :
    (Conv.runesToString (.slice (some a) len cap)).run P w = .ok (.string (encL ns)) w := by
  unfold Conv.runesToString
  simp only [Sem.run_bind, h, Result.andThen, List.forIn_toArray]
  rw [run_forIn_runes _ (by intro n r; simp [Sem.run_pure])]
  simp [Sem.run_pure, encL]
theorem ints_den {X : Cx} {hp : Hp} {ids : Ids} {w : World} {k : IntKind} : ∀ (news : List SV) (vs : List Value), news.length = vs.length → (∀ i x, news[i]? = some x → DenX X hp ids w x (vs.getD i undef)) → news.all (isI k) = true → vs = (news.map intOf).map (Value.int k)
  | [], [], _, _, _ => rfl
  | [], _ :: _, h, _, _ => by cases h
  | _ :: _, [], h, _, _ => by cases h
  | a :: l, v :: r, h, hd, ha => by
    simp only [List.all_cons, Bool.and_eq_true] at ha
    have h0 := hd 0 a rfl
    have := ints_den l r (by simpa using h) (fun i x hi => by have := hd (i + 1) x (by simpa using hi); simpa using this) ha.2
    rw [List.map_cons, List.map_cons, ← this]
    congr 1
    have ha1 := ha.1
    unfold isI at ha1
    split at ha1
    · rename_i j n
      have : j = k := by simpa using ha1
      subst this
      exact den_v h0
    · cases ha1
theorem one_isI {k : IntKind} {news : List SV} (h : news.all (isI k) = true) : news.all oneS = true := by
  rw [List.all_eq_true] at h ⊢
  intro x hx
  have := h x hx
  unfold isI at this
  split at this
  · rfl
  · cases this
theorem den_sliceS {X : Cx} {hp : Hp} {ids : Ids} {w : World} {tx e : TypeId} {z : Nat} {q : SV} {y : Value} {f : Nat → List SV → List Nat → Prop → Res} {side : Prop} {ef : Eff} (hu : X.P.underlying tx = some (.slice e)) (hd : DenX X hp ids w q y) (he : srcS X.P tx z q hp f = .ok side ef) : ∃ a n c, y = .slice a n c := by
  unfold srcS at he
  split at he
  · cases hd with
    | ownDead h => exact ⟨_, _, _, rfl⟩
    | own a cap hl h => exact ⟨_, _, _, rfl⟩
  · cases hd with
    | sl0 hc => exact ⟨_, _, _, rfl⟩
    | sl b o cap c hb hn hcap hc hx => exact ⟨_, _, _, rfl⟩
  · cases hd; exact ⟨_, _, _, rfl⟩
  · rw [hu] at he; cases he
  · cases he
theorem sound_strS (h : HeapX X hp nx ids w) {s d : TypeId} {q : SV} {x : Value} (hd : DenX X hp ids w q x) {side : Prop} {e : Eff} (he : strS' X.P s d q hp nx = .ok side e) (hs : side) : Sound X hp ids w ((convert s d x).run X.P w) e := by
  unfold strS' at he
  split at he
  · rename_i et h1 h2
    split at he
    · rename_i h3
      obtain ⟨a, n, c, rfl⟩ := den_sliceS h1 hd he
      obtain ⟨m, news, rds, s0, vs, hf, hsrc⟩ := src_ok h hd he (fun m news rds s0 hf hs => by
        cases hb : news.all (isI .i32) with
        | false => rw [hb] at hf; cases hf
        | true => rw [hb] at hf; cases hf; exact ⟨hs.1, hs.2, one_isI hb⟩) hs
      cases hb : news.all (isI .i32) with
      | false => rw [hb] at hf; cases hf
      | true =>
        rw [hb] at hf; cases hf
        have hvs := ints_den (X := X) (hp := hp) (ids := ids) (w := w) news vs hsrc.len hsrc.den hb
        have hln : n = m := by have := hsrc.src.len w; simp [Builtin.lenOf, Sem.run_pure] at this; exact this
        subst hln
        refine sound_pure h ?_ .v
        have hc := hsrc.src.cells
        have hrun : (convert s d (.slice a n c)).run X.P w = (Conv.runesToString (.slice a n c)).run X.P w := by
          simp [convert, run_underlying h1, run_underlying h2, run_underlying h3]
        rw [hrun]
        cases a with
        | none =>
          simp only [Builtin.firstCells, Sem.run_pure] at hc
          have h0 : vs = [] := by
            have := congrArg (fun r => match r with | Result.ok (x : Array Value) _ => x.size | _ => 0) hc
            simpa using this.symm
          rw [h0] at hvs
          have : news.map intOf = [] := by simpa using hvs.symm
          rw [this]; simp [Conv.runesToString, Sem.run_pure, encL]
        | some a =>
          refine run_runesToString' w a n c _ ?_
          rw [← hvs]
          simpa [Builtin.firstCells] using hc
    · rename_i h3
      obtain ⟨a, n, c, rfl⟩ := den_sliceS h1 hd he
      obtain ⟨m, news, rds, s0, vs, hf, hsrc⟩ := src_ok h hd he (fun m news rds s0 hf hs => by
        cases hb : news.all (isI .u8) with
        | false => rw [hb] at hf; cases hf
        | true => rw [hb] at hf; cases hf; exact ⟨hs.1, hs.2, one_isI hb⟩) hs
      cases hb : news.all (isI .u8) with
      | false => rw [hb] at hf; cases hf
      | true =>
        rw [hb] at hf; cases hf
        have hvs := ints_den (X := X) (hp := hp) (ids := ids) (w := w) news vs hsrc.len hsrc.den hb
        have hln : n = m := by have := hsrc.src.len w; simp [Builtin.lenOf, Sem.run_pure] at this; exact this
        subst hln
        refine sound_pure h ?_ .v
        have hc := hsrc.src.cells
        rw [run_convert_bytes_string w s d et a n c h1 h3 h2]
        cases a with
        | none =>
          simp only [Builtin.firstCells, Sem.run_pure] at hc
          have h0 : vs = [] := by
            have := congrArg (fun r => match r with | Result.ok (x : Array Value) _ => x.size | _ => 0) hc
            simpa using this.symm
          rw [h0] at hvs
          have : news.map intOf = [] := by simpa using hvs.symm
          rw [this]; simp [Conv.bytesToString, Sem.run_pure, bytL]
        | some a =>
          refine run_bytesToString w a n c _ ?_
          rw [← hvs]
          simpa [Builtin.firstCells] using hc
    · cases he
  · cases he
theorem sound_conv (h : HeapX X hp nx ids w) {s d : TypeId} {q : SV} {x : Value} (hd : DenX X hp ids w q x) {side : Prop} {e : Eff} (he : convS X.P s d q hp nx = .ok side e) (hs : side) : Sound X hp ids w ((convert s d x).run X.P w) e := by
  unfold convS at he
  split at he
  · split at he
    · rename_i d1 k h1 h2
      cases he; obtain rfl := den_v hd
      exact sound_pure h (by simp [convert, run_underlying h1, run_underlying h2, Conv.intToInt]) .v
    · cases he
  · rename_i b
    split at he
    · rename_i d1 h1 h2
      cases he; obtain rfl := den_v hd
      exact sound_pure h (by simp [convert, run_underlying h1, run_underlying h2]) .v
    · rename_i et h1 h2
      split at he
      · rename_i h3 h4
        cases he; obtain rfl := den_v hd
        have hsz : Conv.runesFrom b b.size 0 #[] = ((runesOf b).map (Value.int .i32)).toArray := by rw [runesFrom_eq]; simp [runesOf]
        have hrun := run_runes_of_string w s d et b h1 h2 h3 (by rw [hsz]; simpa using hs)
        rw [hsz] at hrun
        simp only [List.size_toArray, List.length_map] at hrun
        obtain ⟨d1c, d2⟩ := h.toHeapC.drew
        have d1 : HeapX X hp (nx := nx) ids w.drew := ⟨d1c, h.fresh, h.m_le⟩
        have hge := grownCap_ge w (runesOf b).length 0 et
        have hle := grownCap_le_maxLen w (runesOf b).length 0 et (by unfold maxLen; omega)
        have hcz := szT_cells h4
        obtain ⟨a1, a2⟩ := heap_alloc d1 (e := et) (cs := (runesOf b).map fun n => .v (.int .i32 n)) (arr := ((runesOf b).map (Value.int .i32)).toArray ++ Array.replicate (grownCap w (runesOf b).length 0 et - (runesOf b).length) (.int .i32 0)) (by simp) (fun i x hi => by
          rw [List.getElem?_map] at hi
          cases hr : (runesOf b)[i]? with
          | none => rw [hr] at hi; cases hi
          | some n =>
            rw [hr] at hi; cases hi
            have hlt := (List.getElem?_eq_some_iff.1 hr).1
            rw [Array.getD_eq_getD_getElem?, Array.getElem?_append_left (by simpa using hlt)]
            simp [hr]
            exact .v)
        refine ⟨_, _, _, hrun, a1, Ext_trans' d2 a2, .own _ _ ?_ ?_⟩
        · rw [List.singleton_append, getH_upd, upd_same]; rfl
        · refine ⟨hge, hle, fun e' cs' hc' => ?_, .inr ⟨w.heap.size, 0, et, (runesOf b).map fun n => .v (.int .i32 n), _, ?_, upd_same _ _ _, rfl, heap_alloc_new' w.drew _, ?_⟩⟩
          · rw [List.singleton_append, getH_upd, upd_same] at hc'
            cases hc'
            rw [hcz]; simp; omega
          · rw [List.singleton_append, getH_upd, upd_same]
          · rw [hcz]; simp; omega
      · cases he
    · cases he
  · exact sound_strS h hd he hs

/-- make([]T, n, c) -/
def makeSliceS (P : Program) (t : TypeId) (l c : SV) (nx : Nat) : Res :=
  match l, c, sliceT P t with
  | .v (.int _ n), .v (.int _ m), some (e, z) => match zeroT P e with
    | some zs => .ok (0 ≤ n ∧ n ≤ m ∧ m ≤ 4611686018427387904 ∧ (P.bytesOf e : Int) * m ≤ 140737488355328 ∧ zs.length = z ∧ 0 < z) ⟨.own nx 0 n.toNat, [(nx, .row e ((List.range m.toNat).flatMap fun _ => zs))], nx + 1, []⟩
    | none => .bad
  | _, _, _ => .bad

theorem madeCells_den (P : Program) (C : Nat → Chunk) (I : Nat → Prop) (zv : Value) (m : Nat) (hpos : 0 < zv.cells.size) :
    AllDen P C ids I w ((List.range m).flatMap fun _ => zv.cells.toList.map SV.v) (madeCells zv.cells (m * zv.cells.size)) := by
  unfold madeCells
  refine ⟨by rw [length_flatMap_const]; simp, fun j x hj => ?_⟩
  have hlt : j < m * zv.cells.size := by
    have := (List.getElem?_eq_some_iff.1 hj).1
    rw [length_flatMap_const] at this; simpa using this
  rw [getElem?_flatMap_const _ _ _ (by simpa using hlt)] at hj
  simp only [List.length_map, Array.length_toList, List.getElem?_map] at hj
  have hm := Nat.mod_lt j hpos
  rw [Array.getElem?_toList, Array.getElem?_eq_getElem hm] at hj
  simp only [Option.map_some, Option.some.injEq] at hj
  subst hj
  rw [Array.getD_eq_getD_getElem?, Array.getElem?_map, Array.getElem?_range, if_pos hlt]
  simp only [Option.map_some, Option.getD_some, getElem!_pos zv.cells (j % zv.cells.size) hm]
  exact .v

theorem sound_makeSlice (h : HeapX X hp nx ids w) {t : TypeId} {s q : SV} {x y : Value} (hd : DenX X hp ids w s x) (hq : DenX X hp ids w q y) {side : Prop} {e : Eff} (he : makeSliceS X.P t s q nx = .ok side e) (hs : side) :
    Sound X hp ids w ((Instr.makeSlice t x y).run X.P w) e := by
  unfold makeSliceS at he
  split at he
  · rename_i k1 n k2 m e' z hst
    split at he
    · rename_i zs hz
      cases he
      obtain ⟨h0, h1, h2, h3, h4, h5⟩ := hs
      obtain rfl := den_v hd
      obtain rfl := den_v hq
      obtain ⟨i, hu, hi, rfl⟩ := sliceT_some hst
      obtain ⟨i', zv, hi', hzv, rfl⟩ := zeroT_some hz
      rw [hi] at hi'; cases hi'
      have hsz : zv.cells.size = i.size := by simpa using h4
      have hb : X.P.bytesOf e' = i.bytes := by simp [Program.bytesOf, hi]
      rw [hb] at h3
      have hrun := run_make (P := X.P) w t e' i zv hu hi hzv k1 k2 n m h0 h1 (by omega) (by omega)
      have hden := madeCells_den (ids := ids) (w := w) X.P (getH hp) (Im X.w0 X.I0 X.W0 (getH hp) ids w) zv m.toNat (by omega)
      rw [hsz] at hden
      obtain ⟨g1, g2⟩ := heap_alloc h (e := e') (cs := (List.range m.toNat).flatMap fun _ => zv.cells.toList.map SV.v) (arr := madeCells zv.cells (m.toNat * i.size)) (by rw [hden.len]; exact Nat.le_refl _) hden.den
      refine ⟨_, _, _, hrun, g1, g2, .own _ _ ?_ ⟨by omega, by unfold maxLen; omega, fun e2 cs2 hc2 => ?_, .inr ⟨w.heap.size, 0, e', (List.range m.toNat).flatMap fun _ => zv.cells.toList.map SV.v, _, ?_, upd_same _ _ _, rfl, heap_alloc_new' w _, ?_⟩⟩⟩
      · rw [List.singleton_append, getH_upd, upd_same]; rfl
      · rw [List.singleton_append, getH_upd, upd_same] at hc2
        cases hc2
        rw [hden.len, size_madeCells, show X.P.cellsOf e' = i.size from by simp [Program.cellsOf, hi], Nat.zero_add]; exact Nat.mul_le_mul_right _ (by omega)
      · rw [List.singleton_append, getH_upd, upd_same]
      · rw [size_madeCells, show X.P.cellsOf e' = i.size from by simp [Program.cellsOf, hi]]; omega
    · cases he
  · cases he

end Go.Sx
