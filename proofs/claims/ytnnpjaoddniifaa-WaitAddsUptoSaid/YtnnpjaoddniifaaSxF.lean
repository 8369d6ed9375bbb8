/-
  Sx, part F: places, parts, slices, numbers.
-/
import Derived.Test.YtnnpjaoddniifaaSxE
set_option linter.unusedSimpArgs false
set_option linter.unusedVariables false
namespace Go.Sx
set_option linter.unusedVariables false
open Go.RowKit
variable {X : Cx} {hp : Hp} {nx : Nat} {ids : Ids} {w : World}

/-- Of a struct type's field: its offset, its type, how many cells (at least one). -/
def fieldT (P : Program) (t : TypeId) (f : Nat) : Option (Nat × TypeId × Nat) :=
  match P.underlying t with
  | some (.struct fs) => (fs[f]?).bind fun fl => (szT P fl.type).bind fun n => if n = 0 then none else some (fl.offset, fl.type, n)
  | _ => none
def sliceT (P : Program) (t : TypeId) : Option (TypeId × Nat) :=
  match P.underlying t with
  | some (.slice e) => (szT P e).map fun n => (e, n)
  | _ => none
def arrT (P : Program) (t : TypeId) : Option (Nat × TypeId × Nat) :=
  match P.underlying t with
  | some (.array l e) => (szT P e).map fun n => (l, e, n)
  | _ => none

theorem fieldT_some {P : Program} {t f o ft n} (h : fieldT P t f = some (o, ft, n)) : ∃ fs fl i, P.underlying t = some (.struct fs) ∧ fs[f]? = some fl ∧ fl.offset = o ∧ fl.type = ft ∧ P.info? ft = some i ∧ i.size = n ∧ n ≠ 0 := by
  unfold fieldT at h
  split at h
  · rename_i fs hu
    cases hf : fs[f]? with
    | none => rw [hf] at h; cases h
    | some fl =>
      rw [hf] at h
      simp only [Option.bind_some] at h
      cases hz : szT P fl.type with
      | none => rw [hz] at h; cases h
      | some m =>
        rw [hz] at h
        simp only [Option.bind_some] at h
        split at h
        · cases h
        · cases h
          obtain ⟨i, hi, hs⟩ := szT_some hz
          exact ⟨fs, fl, i, hu, hf, rfl, rfl, hi, hs, by assumption⟩
  · cases h
theorem sliceT_some {P : Program} {t e n} (h : sliceT P t = some (e, n)) : ∃ i, P.underlying t = some (.slice e) ∧ P.info? e = some i ∧ i.size = n := by
  unfold sliceT at h
  split at h
  · rename_i e' hu
    cases hz : szT P e' with
    | none => rw [hz] at h; cases h
    | some m =>
      rw [hz] at h; cases h
      obtain ⟨i, hi, hs⟩ := szT_some hz
      exact ⟨i, hu, hi, hs⟩
  · cases h
theorem arrT_some {P : Program} {t l e n} (h : arrT P t = some (l, e, n)) : ∃ i, P.underlying t = some (.array l e) ∧ P.info? e = some i ∧ i.size = n := by
  unfold arrT at h
  split at h
  · rename_i l' e' hu
    cases hz : szT P e' with
    | none => rw [hz] at h; cases h
    | some m =>
      rw [hz] at h; cases h
      obtain ⟨i, hi, hs⟩ := szT_some hz
      exact ⟨i, hu, hi, hs⟩
  · cases h

theorem add_mk (b o n : Nat) : (⟨b, o, none⟩ : Addr).add n = ⟨b, o + n, none⟩ := Addr.add_mid b o n

def fieldAddrS (P : Program) (t : TypeId) (x : SV) (f : Nat) (nx : Nat) : Res :=
  match fieldT P t f with
  | some (o, _, _) => match x with
    | .ptr k off => .ok True ⟨.ptr k (off + o), [], nx, []⟩
    | .iptr cs off => .ok True ⟨.iptr cs (off + o), [], nx, []⟩
    | _ => .bad
  | none => .bad

theorem den_ptr' {P : Program} {C : Nat → Chunk} {I : Nat → Prop} {y : Value} {k off} (h : Den P C ids I w (.ptr k off) y) : (C k = .dead ∧ ∃ a, y = .pointer a) ∨ ((C k).live = true ∧ ∃ b o, ids k = some (b, o) ∧ y = .pointer (some ⟨b, o + off, none⟩)) := by
  cases h with
  | ptrDead h => exact .inl ⟨h, _, rfl⟩
  | ptr b o hl hi => exact .inr ⟨hl, b, o, hi, rfl⟩

/-- (the pointer's chunk must live) -/
def liveS (c : Chunk) (r : Res) : Res := match c with
  | .row _ _ => r
  | _ => .bad
theorem liveS_ok {c : Chunk} {r : Res} {s e} (h : liveS c r = .ok s e) : (∃ t cs, c = .row t cs) ∧ r = .ok s e := by
  cases c <;> simp only [liveS] at h <;> first | exact ⟨⟨_, _, rfl⟩, h⟩ | cases h

def fieldAddrS' (P : Program) (t : TypeId) (x : SV) (f : Nat) (hp : Hp) (nx : Nat) : Res :=
  match fieldT P t f with
  | some (o, _, _) => match x with
    | .ptr k off => liveS (getH hp k) (.ok True ⟨.ptr k (off + o), [], nx, [k]⟩)
    | .iptr cs off => .ok True ⟨.iptr cs (off + o), [], nx, []⟩
    | _ => .bad
  | none => .bad

theorem sound_fieldAddr (h : HeapX X hp nx ids w) {t : TypeId} {f : Nat} {s : SV} {x : Value} (hd : DenX X hp ids w s x) {side : Prop} {e : Eff} (he : fieldAddrS' X.P t s f hp nx = .ok side e) (hs : side) :
    Sound X hp ids w ((Instr.fieldAt t x f).run X.P w) e := by
  unfold fieldAddrS' at he
  split at he
  · rename_i o ft n hf
    obtain ⟨fs, fl, i, hu, hfl, ho, hft, hi, hsz, hn⟩ := fieldT_some hf
    have hrun : ∀ b q, (Instr.fieldAt t (.pointer (some ⟨b, q, none⟩)) f).run X.P w = .ok (.pointer (some ⟨b, q + o, none⟩)) w := by
      intro b q
      subst ho; subst hft; subst hsz
      simp only [Instr.fieldAt, Sem.run_bind, run_underlying hu w, Result.andThen_ok, hfl]
      simp [Instr.sureAddr, fieldPlace, sizeOf, typeInfo, hi, hn, add_mk]
    split at he
    · rename_i k off
      obtain ⟨⟨t', cs, hk⟩, he⟩ := liveS_ok he
      cases he
      obtain ⟨b, q, hid, rfl⟩ := den_ptr hd (by rw [hk]; rfl)
      have := hrun b (q + off)
      exact sound_pure h this (by rw [Nat.add_assoc]; exact .ptr b q (by rw [hk]; rfl) hid)
    · rename_i cs off
      cases he
      obtain ⟨b, q, c, hI, rfl, hc, hx⟩ := den_iptr hd
      have := hrun b (q + off)
      exact sound_pure h this (by rw [Nat.add_assoc]; exact .iptr b q c hI hc hx)
    · cases he
  · cases he

/-- A table by its variable's address. -/
def tabS (P : Program) (x : SV) : SV := match x with
  | .v (.pointer (some ⟨g, 0, none⟩)) => match tabOf P g with
    | some cs => .iptr (cs.map .v) 0
    | none => x
  | _ => x
theorem tab_den {s : SV} {y : Value} (h : HeapC X hp ids w) (hd : DenX X hp ids w s y) : DenX X hp ids w (tabS X.P s) y := by
  unfold tabS
  split
  · rename_i g
    split
    · rename_i cs hc
      cases hd
      obtain ⟨h1, h2⟩ := X.gl g cs hc
      obtain ⟨h3, h4⟩ := h.st.im0 g h1
      refine .iptr g 0 (fun i => cs.getD i undef) ⟨.inl h1, Nat.lt_of_lt_of_le h3 h.st.size, fun k hl o hi => ?_⟩ (fun i x hi => ?_) (fun i x hi => ?_)
      · rcases (h.st.lt k g o hl hi).2 with h5 | h5
        · exact h4 h5
        · omega
      · rw [List.getElem?_map] at hi
        cases hr : cs[i]? with
        | none => rw [hr] at hi; cases hi
        | some v =>
          rw [Nat.zero_add, (cell_eq (h.st.evol g h3 h4)).trans (h2 i v hr)]
          simp [hr]
      · rw [List.getElem?_map] at hi
        cases hr : cs[i]? with
        | none => rw [hr] at hi; cases hi
        | some v =>
          rw [hr] at hi; cases hi
          simp [hr]
          exact .v
    · exact hd
  · exact hd
def indexAddrS (P : Program) (t : TypeId) (x i : SV) (hp : Hp) (nx : Nat) : Res :=
  match i with
  | .v (.int _ n) =>
    match sliceT P t with
    | some (_, z) => match x with
      | .own k off len => liveS (getH hp k) (.ok (0 ≤ n ∧ n < len) ⟨.ptr k (off + n.toNat * z), [], nx, [k]⟩)
      | .sl len cs => .ok (0 ≤ n ∧ n < len) ⟨.iptr cs (n.toNat * z), [], nx, []⟩
      | _ => .bad
    | none => match arrT P t with
      | some (len, _, z) => match x with
        | .ptr k off => liveS (getH hp k) (.ok (0 ≤ n ∧ n < len) ⟨.ptr k (off + n.toNat * z), [], nx, [k]⟩)
        | .iptr cs off => .ok (0 ≤ n ∧ n < len) ⟨.iptr cs (off + n.toNat * z), [], nx, []⟩
        | _ => .bad
      | none => .bad
  | _ => .bad

theorem den_own_pos {P : Program} {C : Nat → Chunk} {I : Nat → Prop} {y : Value} {k off n} (h : Den P C ids I w (.own k off n) y) (hl : (C k).live = true) (hn : 0 < n) :
    ∃ b o cap, ids k = some (b, o) ∧ y = .slice (some ⟨b, o + off, none⟩) n cap := by
  obtain ⟨a, cap, rfl, h1, h2, _, h3⟩ := den_own h hl
  rcases h3 with ⟨h3, _⟩ | ⟨b, o, e, cs, arr, hc, hi, rfl, _⟩
  · omega
  · exact ⟨b, o, cap, hi, rfl⟩

theorem run_indexAt_slice {P : Program} {t e : TypeId} {i : TypeInfo} (hu : P.underlying t = some (.slice e)) (hi : P.info? e = some i) (b o len cap : Nat) (kd : IntKind) (n : Int) (h0 : 0 ≤ n) (h1 : n < len) (w : World) :
    (Instr.indexAt t (.slice (some ⟨b, o, none⟩) len cap) (.int kd n)).run P w = .ok (.pointer (some ⟨b, o + n.toNat * i.size, none⟩)) w := by
  simp [Instr.indexAt, asIntOf, run_underlying hu, sizeOf, typeInfo, hi, h0, h1, add_mk]
theorem run_indexAt_arr {P : Program} {t e : TypeId} {len : Nat} {i : TypeInfo} (hu : P.underlying t = some (.array len e)) (hi : P.info? e = some i) (b o : Nat) (kd : IntKind) (n : Int) (h0 : 0 ≤ n) (h1 : n < len) (w : World) :
    (Instr.indexAt t (.pointer (some ⟨b, o, none⟩)) (.int kd n)).run P w = .ok (.pointer (some ⟨b, o + n.toNat * i.size, none⟩)) w := by
  simp [Instr.indexAt, asIntOf, run_underlying hu, Instr.sureAddr, sizeOf, typeInfo, hi, h0, h1, add_mk]

theorem sound_indexAddr (h : HeapX X hp nx ids w) {t : TypeId} {s q : SV} {x y : Value} (hd : DenX X hp ids w s x) (hq : DenX X hp ids w q y) {side : Prop} {e : Eff} (he : indexAddrS X.P t s q hp nx = .ok side e) (hs : side) :
    Sound X hp ids w ((Instr.indexAt t x y).run X.P w) e := by
  unfold indexAddrS at he
  split at he
  · rename_i kd n
    obtain rfl := den_v hq
    split at he
    · rename_i e' z hz
      obtain ⟨i, hu, hi, rfl⟩ := sliceT_some hz
      split at he
      · rename_i k off len
        obtain ⟨⟨t', cs, hk⟩, he⟩ := liveS_ok he
        cases he
        obtain ⟨h0, h1⟩ := hs
        obtain ⟨b, o, cap, hid, rfl⟩ := den_own_pos hd (by rw [hk]; rfl) (by omega)
        exact sound_pure h (run_indexAt_slice hu hi _ _ _ _ _ _ h0 h1 w) (by rw [Nat.add_assoc]; exact .ptr b o (by rw [hk]; rfl) hid)
      · rename_i len cs
        cases he
        obtain ⟨h0, h1⟩ := hs
        obtain ⟨a, cap, rfl, _, _, h3⟩ := den_sl hd
        rcases h3 with ⟨h3, _⟩ | ⟨b, o, c, rfl, hI, hc, hx⟩
        · omega
        · exact sound_pure h (run_indexAt_slice hu hi _ _ _ _ _ _ h0 h1 w) (.iptr b o c hI hc hx)
      · cases he
    · split at he
      · rename_i len e' z hz
        obtain ⟨i, hu, hi, rfl⟩ := arrT_some hz
        split at he
        · rename_i k off
          obtain ⟨⟨t', cs, hk⟩, he⟩ := liveS_ok he
          cases he
          obtain ⟨h0, h1⟩ := hs
          obtain ⟨b, o, hid, rfl⟩ := den_ptr hd (by rw [hk]; rfl)
          exact sound_pure h (run_indexAt_arr hu hi _ _ _ _ h0 h1 w) (by rw [Nat.add_assoc]; exact .ptr b o (by rw [hk]; rfl) hid)
        · rename_i cs off
          cases he
          obtain ⟨h0, h1⟩ := hs
          obtain ⟨b, o, c, hI, rfl, hc, hx⟩ := den_iptr hd
          exact sound_pure h (run_indexAt_arr hu hi _ _ _ _ h0 h1 w) (by rw [Nat.add_assoc]; exact .iptr b o c hI hc hx)
        · cases he
      · cases he
  · cases he

/-- A part of a struct or an array that is at hand as a value. -/
def partS (P : Program) (t : TypeId) (cs : List SV) (off : Nat) (nx : Nat) : Res := takeS P t cs off [] nx

theorem run_part {P : Program} {C : Nat → Chunk} {I : Nat → Prop} {t : TypeId} {cs : List SV} {arr : Array Value} (hl : cs.length = arr.size) (hx : ∀ i x, cs[i]? = some x → Den P C ids I w x (arr.getD i undef)) {off : Nat} {side : Prop} {e : Eff}
    (h : partS P t cs off nx = .ok side e) (hs : side) : e.upd = [] ∧ e.nx = nx ∧ ∃ x, (part t arr off).run P w = .ok x w ∧ Den P C ids I w e.val x := by
  unfold partS takeS at h
  split at h
  · rename_i n ha hn
    cases h
    obtain ⟨i, hi, rfl⟩ := szT_some hn
    refine ⟨rfl, rfl, .agg (arr.extract off (off + i.size)), ?_, .agg _ ?_ fun j x hj => ?_⟩
    · simp [part, Sem.run_bind, aggT_run ha w, sizeOf, typeInfo, hi]
    · simp only [List.length_take, List.length_drop, Array.size_extract]; omega
    · rw [List.getElem?_take] at hj
      split at hj
      · rw [List.getElem?_drop] at hj
        have h1 := hx _ _ hj
        have hlt : off + j < arr.size := by have := (List.getElem?_eq_some_iff.1 hj).1; omega
        have hside : off + i.size ≤ cs.length := hs
        rw [Array.getD_eq_getD_getElem?, Array.getElem?_eq_getElem hlt] at h1
        rw [Array.getD_eq_getD_getElem?, Array.getElem?_extract, if_pos (by omega), Array.getElem?_eq_getElem hlt]
        exact h1
      · cases hj
  · rename_i ha
    cases h
    have hoff : off < cs.length := hs
    refine ⟨rfl, rfl, arr.getD off undef, ?_, ?_⟩
    · simp only [part, Sem.run_bind, aggT_run ha w, Result.andThen_ok, Bool.false_eq_true, if_false]
      simp [Array.getD_eq_getD_getElem?, Array.getElem?_eq_getElem (show off < arr.size by omega)]
    · have := hx off _ (List.getElem?_eq_getElem hoff)
      simpa [List.getD_eq_getElem?_getD, List.getElem?_eq_getElem hoff] using this
  · cases h

def fieldS (P : Program) (t : TypeId) (x : SV) (f : Nat) (nx : Nat) : Res :=
  match fieldT P t f, x with
  | some (o, ft, _), .agg cs => partS P ft cs o nx
  | _, _ => .bad
theorem sound_field (h : HeapX X hp nx ids w) {t : TypeId} {f : Nat} {s : SV} {x : Value} (hd : DenX X hp ids w s x) {side : Prop} {e : Eff} (he : fieldS X.P t s f nx = .ok side e) (hs : side) :
    Sound X hp ids w ((Instr.field t x f).run X.P w) e := by
  unfold fieldS at he
  split at he
  · rename_i o ft n cs hf
    obtain ⟨fs, fl, i, hu, hfl, ho, hft, hi, hsz, hn⟩ := fieldT_some hf
    obtain ⟨arr, rfl, hl, hx⟩ := den_agg hd
    obtain ⟨h1, h2, y, hr, hy⟩ := run_part hl hx he hs
    obtain ⟨val, up, nx', rds'⟩ := e
    simp only at h1 h2; subst h1; subst h2; subst ho; subst hft
    exact sound_pure h (by simp only [Instr.field, Sem.run_bind, run_underlying hu w, Result.andThen_ok, hfl, asAgg]; exact hr) hy
  · cases he

def indexS (P : Program) (t : TypeId) (x i : SV) (nx : Nat) : Res :=
  match x, i with
  | .agg cs, .v (.int _ n) => match arrT P t with
    | some (len, e, z) => match partS P e cs (n.toNat * z) nx with
      | .ok s r => .ok ((0 ≤ n ∧ n < len) ∧ s) r
      | .bad => .bad
    | none => .bad
  | .v (.string s), .v (.int _ n) => match P.underlying t with
    | some .string => .ok (0 ≤ n ∧ n < s.size) ⟨.v (.int .u8 (s.data.getD n.toNat 0).toNat), [], nx, []⟩
    | _ => .bad
  | _, _ => .bad
theorem sound_index (h : HeapX X hp nx ids w) {t : TypeId} {s q : SV} {x y : Value} (hd : DenX X hp ids w s x) (hq : DenX X hp ids w q y) {side : Prop} {e : Eff} (he : indexS X.P t s q nx = .ok side e) (hs : side) :
    Sound X hp ids w ((Instr.index t x y).run X.P w) e := by
  unfold indexS at he
  split at he
  · rename_i cs kd n
    obtain rfl := den_v hq
    obtain ⟨arr, rfl, hl, hx⟩ := den_agg hd
    split at he
    · rename_i len e' z hz
      obtain ⟨i, hu, hi, rfl⟩ := arrT_some hz
      split at he
      · rename_i s' r hp'
        cases he
        obtain ⟨⟨h0, h1⟩, hs'⟩ := hs
        obtain ⟨g1, g2, y, hr, hy⟩ := run_part hl hx hp' hs'
        obtain ⟨val, up, nx', rds'⟩ := e
        simp only at g1 g2; subst g1; subst g2
        exact sound_pure h (by simp only [Instr.index, asIntOf, Sem.run_bind, Sem.run_pure, run_underlying hu w, Result.andThen_ok, h0, h1, and_self, if_true, sizeOf, typeInfo]; simp [hi, hr]) hy
      · cases he
    · cases he
  · rename_i s kd n
    split at he
    · rename_i hu
      cases he
      obtain rfl := den_v hq
      obtain rfl := den_v hd
      obtain ⟨h0, h1⟩ := hs
      refine sound_pure h ?_ .v
      simp only [Instr.index, asIntOf, Sem.run_bind, Sem.run_pure, run_underlying hu w, Result.andThen_ok, h0, if_true]
      have hlt : n.toNat < s.size := by omega
      have hlt' : n.toNat < s.data.size := hlt
      rw [getElem?_pos s n.toNat hlt]
      simp [ByteArray.getElem_eq_getElem_data, Array.getD_eq_getD_getElem?, Array.getElem?_eq_getElem hlt']
    · cases he
  · cases he

end Go.Sx
