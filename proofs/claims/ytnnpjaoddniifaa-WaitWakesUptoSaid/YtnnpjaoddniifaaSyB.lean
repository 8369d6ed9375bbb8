/-
  Sx, law level: from a contract to a row's last step.
-/
import Derived.Test.YtnnpjaoddniifaaSyA
import Derived.Below
import Derived.ChangeSame
import Derived.WideKeyArgs
import Derived.WideShapes
import Derived.RowKit
import Derived.OpenShut
set_option linter.unusedSimpArgs false
set_option linter.unusedVariables false
namespace Go.Sx
open Go.RowKit Go.ChangeShapes Go.WideShapes

abbrev Tys.den : List Ty → Type
  | [] => Unit
  | T :: r => T.den × Tys.den r
def Tys.args : (l : List Ty) → Tys.den l → List SV
  | [], _ => []
  | T :: r, x => T.arg x.1 :: Tys.args r x.2
def Tys.ok : (l : List Ty) → Tys.den l → Prop
  | [], _ => True
  | T :: r, x => T.ok x.1 ∧ Tys.ok r x.2
def Tys.rep (H : Type) : (l : List Ty) → Tys.den l → List (DataW H) → Prop
  | [], _, ds => ds = []
  | T :: r, x, ds => ∃ d s, ds = d :: s ∧ T.rep H x.1 d ∧ Tys.rep H r x.2 s
def tysB (P : Program) (F : Nat) : List TypeId → List Ty → Bool
  | [], [] => true
  | t :: r, T :: s => tyB P F t T && P.readableRec t && Nat.blt t P.types.size && tysB P F r s
  | _, _ => false

section
variable {H : Type} {enc : TypeId × Value → H} {P : Program} {w : World} {C : Nat → Chunk} {ids : Ids} {I : Nat → Prop}

theorem not_agg {r : Reach} {b0 : Nat} {t : TypeId} {v : Value} {d : TypeDesc} (hu : P.underlying t = some d) (hd : (∃ k, d = .int k) ∨ d = .bool ∨ d = .string ∨ ∃ e, d = .slice e) (h : Value.okWide P w r b0 t v) : v.cells.toList = [v] := by
  rcases hd with ⟨k, rfl⟩ | rfl | rfl | ⟨e, rfl⟩
  · obtain ⟨n, rfl⟩ := okWide_int hu h; rfl
  · obtain ⟨n, rfl⟩ := okWide_bool hu h; rfl
  · obtain ⟨n, rfl⟩ := okWide_string hu h; rfl
  · obtain ⟨a, l, c, rfl⟩ := okWide_slice hu h; rfl
theorem is_agg {r : Reach} {b0 : Nat} {t : TypeId} {v : Value} {d : TypeDesc} (hu : P.underlying t = some d) (hd : (∃ fs, d = .struct fs) ∨ ∃ n e, d = .array n e) (h : Value.okWide P w r b0 t v) : ∃ cs, v = .agg cs := by
  unfold Value.okWide at h
  rcases hd with ⟨fs, rfl⟩ | ⟨n, e, rfl⟩
  · rw [hu] at h; obtain ⟨cs, rfl, _⟩ := h; exact ⟨cs, rfl⟩
  · rw [hu] at h; obtain ⟨cs, rfl, _⟩ := h; exact ⟨cs, rfl⟩

theorem tyB_desc {F : Nat} {t : TypeId} {T : Ty} (h : tyB P F t T = true) : ∃ d, P.underlying t = some d ∧ match T with
    | .int k => d = .int k
    | .bool => d = .bool
    | .str => d = .string
    | .sl _ => ∃ e, d = .slice e
    | .unit => ∃ fs, d = .struct fs
    | .pair _ _ => ∃ fs, d = .struct fs
    | .arr _ _ => ∃ n e, d = .array n e := by
  cases F with
  | zero => simp [tyB] at h
  | succ F =>
    unfold tyB at h
    cases hu : P.underlying t with
    | none => rw [hu] at h; simp at h
    | some d =>
      rw [hu] at h
      refine ⟨d, rfl, ?_⟩
      cases d <;> cases T <;> simp at h <;> simp_all

/-- One argument. -/
theorem arg_den {r : Reach} {b0 : Nat} (hI : ∀ b, b < w.heap.size → I b) {F : Nat} {t : TypeId} {T : Ty} (hB : tyB P F t T = true) {v : Value} (hok : Value.okWide P w r b0 t v) {d : DataW H} {ps : List MemPlace} (hr : DataW.Trod enc P w 0 (fun _ => true) true t v d ps) :
    ∃ x : T.den, T.ok x ∧ Den P C ids I w (T.arg x) v ∧ T.rep H x d := by
  obtain ⟨fuel, hr⟩ := hr
  obtain ⟨x, h1, h2, h3, h4⟩ := (reads (enc := enc) (C := C) (ids := ids) hI T).1 F fuel t _ d ps hB hr
  refine ⟨x, h1, ?_, h4⟩
  obtain ⟨dd, hu, hdd⟩ := tyB_desc hB
  have one : ∀ s, T.sv x = [s] → (v.cells.toList = [v]) → Den P C ids I w s v := fun s hs hv => by
    have := h3 0 s (by rw [hs]; rfl)
    rw [hv] at this
    exact this
  have agg : ∀ cs, v = .agg cs → Den P C ids I w (.agg (T.sv x)) v := fun cs hv => by
    subst hv
    have hl : (T.sv x).length = cs.size := by rw [Ty.sv_length T x h1, ← h2]; simp [Value.cells]
    refine .agg cs hl fun i s hi => ?_
    have := h3 i s hi
    rw [Nat.zero_add] at this
    simpa [Value.cells, Array.getD_eq_getD_getElem?, List.getD_eq_getElem?_getD] using this
  cases T with
  | int k => exact one _ rfl (not_agg hu (.inl ⟨k, hdd⟩) hok)
  | bool => exact one _ rfl (not_agg hu (.inr (.inl hdd)) hok)
  | str => exact one _ rfl (not_agg hu (.inr (.inr (.inl hdd))) hok)
  | sl e => obtain ⟨te, hdd⟩ := hdd; exact one _ rfl (not_agg hu (.inr (.inr (.inr ⟨te, hdd⟩))) hok)
  | unit => obtain ⟨cs, hv⟩ := is_agg hu (.inl hdd) hok; exact agg cs hv
  | pair a b => obtain ⟨cs, hv⟩ := is_agg hu (.inl hdd) hok; exact agg cs hv
  | arr n e => obtain ⟨cs, hv⟩ := is_agg hu (.inr hdd) hok; exact agg cs hv

theorem args_den {r : Reach} {b0 : Nat} (hI : ∀ b, b < w.heap.size → I b) {F : Nat} : ∀ (ts : List TypeId) (Ts : List Ty) (vs : List Value) (ds : List (DataW H)) (ps : List MemPlace), tysB P F ts Ts = true → (∀ (j : Nat) t v, ts[j]? = some t → vs[j]? = some v → Value.okWide P w r b0 t v) →
    DataW.TrodAll enc P w 0 (fun _ => true) true ts vs ds ps → ∃ x : Tys.den Ts, Tys.ok Ts x ∧ vs.length = (Tys.args Ts x).length ∧ (∀ i s, (Tys.args Ts x)[i]? = some s → Den P C ids I w s (vs.getD i undef)) ∧ Tys.rep H Ts x ds ∧ ds.length = Ts.length
  | [], [], [], [], ps, _, _, h => ⟨(), trivial, rfl, fun i s hi => by simp [Tys.args] at hi, rfl, rfl⟩
  | t :: ts, T :: Ts, v :: vs, d :: ds, ps, hB, hok, h => by
    obtain ⟨p, q, h1, h2, _⟩ := h
    simp only [tysB, Bool.and_eq_true] at hB
    obtain ⟨x, g1, g2, g3⟩ := arg_den (C := C) (ids := ids) hI hB.1.1.1 (hok 0 t v rfl rfl) h1
    obtain ⟨y, k1, k2, k3, k4, k5⟩ := args_den hI ts Ts vs ds q hB.2 (fun j t v hj hv => hok (j + 1) t v (by simpa using hj) (by simpa using hv)) h2
    refine ⟨(x, y), ⟨g1, k1⟩, by simp [Tys.args, k2], fun i s hi => ?_, ⟨d, ds, rfl, g3, k4⟩, by simp [k5]⟩
    cases i with
    | zero => simp [Tys.args] at hi; subst hi; exact g2
    | succ i => exact k3 i s (by simpa [Tys.args] using hi)
  | [], [], _ :: _, _, _, _, _, h => by cases h
  | [], [], [], _ :: _, _, _, _, h => by cases h
  | [], _ :: _, _, _, _, hB, _, _ => by simp [tysB] at hB
  | _ :: _, [], _, _, _, hB, _, _ => by simp [tysB] at hB
  | _ :: _, _ :: _, [], _, _, _, _, h => by cases h
  | _ :: _, _ :: _, _ :: _, [], _, _, _, h => by cases h

theorem trodAll_kept (hlo : laidOutB P = true) {W W' : World} (hb : Below W.heap.size W W') {sp : Nat → Bool} {F : Nat} : ∀ (ts : List TypeId) (Ts : List Ty) (vs : List Value) (ds : List (DataW H)) (ps : List MemPlace), tysB P F ts Ts = true → (∀ p ∈ ps, p.block < W.heap.size) → (∀ p ∈ ps, sp p.block = true) →
    DataW.TrodAll enc P W 0 (fun _ => true) true ts vs ds ps → DataW.TrodAll enc P W' 0 sp true ts vs ds ps
  | [], _, [], [], ps, _, _, _, h => h
  | t :: ts, T :: Ts, v :: vs, d :: ds, ps, hB, hlt, hsp, h => by
    obtain ⟨p, q, h1, h2, rfl⟩ := h
    simp only [tysB, Bool.and_eq_true, Nat.blt_eq] at hB
    exact ⟨p, q, WideElems.Trod_stays hlo hB.1.1.2 hB.1.2 h1 (fun x hx => hb.same (hlt x (by simp [hx]))) (fun x hx => hsp x (by simp [hx])),
      trodAll_kept hlo hb ts Ts vs ds q hB.2 (fun x hx => hlt x (by simp [hx])) (fun x hx => hsp x (by simp [hx])) h2, rfl⟩
  | [], _, _ :: _, _, _, _, _, _, h => by cases h
  | [], _, [], _ :: _, _, _, _, _, h => by cases h
  | _ :: _, [], _, _, _, hB, _, _, _ => by simp [tysB] at hB
  | _ :: _, _ :: _, [], _, _, _, _, _, h => by cases h
  | _ :: _, _ :: _, _ :: _, [], _, _, _, _, h => by cases h

theorem post_below {f : Func} {s : ChangeSpec} {apart fresh handsOn again : Bool} {W W' : World} {args : Array Value} {v : Value} {ds gs : List (DataW H)} {before pa pv : List MemPlace}
    (hW : DataW.Whole enc P f.params.toList s.vars apart W args.toList ds gs before)
    (hres : ∀ (b : Nat) (sp : Nat → Bool) (hd : Bool), DataW.TrodAll enc P W' b sp hd f.resultTypes.toList (v.resultList f.resultTypes.size) (s.fn H (ds ++ gs)).results [])
    (hargs : ∀ sp : Nat → Bool, (∀ p ∈ before, sp p.block = true) → DataW.TrodAll enc P W' 0 sp true f.params.toList args.toList (s.fn H (ds ++ gs)).args pa)
    (hvars : ∀ sp : Nat → Bool, (∀ p ∈ before, sp p.block = true) → DataW.TrodVars enc P W' sp s.vars (s.fn H (ds ++ gs)).vars pv)
    (hps : before = pa ++ pv) (hb : Below W.heap.size W W')
    (hok : ∀ (j : Nat) (t : TypeId) (r : Value), f.resultTypes[j]? = some t → (v.resultList f.resultTypes.size)[j]? = some r → Value.okWide P W' .any 0 t r) :
    s.post enc P f apart fresh handsOn again W args v W' := by
  have hlt : ∀ p ∈ before, p.block < W.heap.size := fun p hp => hW.lt p hp
  have hold : ∀ p ∈ before, (fun b => decide (b < W.heap.size)) p.block = true := fun p hp => by simpa using hlt p hp
  refine ⟨ds, gs, before, [], pa, pv, hW, hres _ _ _, hargs _ hold, hvars _ hold, World.keptBut_mono (fun p hp => ⟨hp, ?_⟩) (hb.frame (· ∈ before)), fun _ => ?_⟩
  · rw [hps, List.mem_append] at hp
    exact Or.inr hp
  · obtain ⟨_, _, _, _, _, hz, hn⟩ := hW
    refine ⟨hok, _, _, ([] ++ pa) ++ pv, ⟨[] ++ pa, pv, trodAll_append (hargs _ (fun _ _ => rfl)) (hres _ _ _), hvars _ (fun _ _ => rfl), rfl, ?_, ?_⟩, ?_⟩
    · intro b off hp
      have hin : MemPlace.cell b off ∈ before := by rw [hps]; simpa using hp
      rw [hb.frozen (hlt _ hin)]
      exact hz b off hin
    · intro ha
      have := hn ha
      rw [hps] at this
      simpa using this
    · intro p hp _
      rw [hps]
      simpa using hp

theorem SpecW.mono {P : Program} {f : FuncId} {args : List SV} {hin : Hp} {m : Nat} {Post Post' : SV → Hp → Nat → Prop} (h : SpecW P f args hin m Post) (hp : ∀ r hp n, Post r hp n → Post' r hp n) : SpecW P f args hin m Post' :=
  ⟨h.1, fun X vals h1 h2 h3 h4 h5 => (h.2 X vals h1 h2 h3 h4 h5).mono fun e w' ⟨r, res, hp', nx', ids', g1, g2, g3⟩ => ⟨r, res, hp', nx', ids', g1, hp _ _ _ g2, g3⟩⟩
/-- A LAW's LAST STEP: its function keeps the contract 'true' for whatever it is given. -/
theorem law_contract_tab {f : FuncId} {fn : Func} {s : ChangeSpec} {apart fresh handsOn again : Bool} (Ts : List Ty) (F : Nat) (hB : tysB P F fn.params.toList Ts = true) (hv : s.vars = []) (hs : ∀ ds : List (DataW H), ds.length = Ts.length → s.fn H ds = { results := [.lit (.bool true)], args := ds })
    (hlo : laidOutB P = true) {tb : TypeId} (hrt : fn.resultTypes = #[tb]) (hub : P.underlying tb = some .bool)
    (W : World) (base : Nat) (args : Array Value) (ds gs : List (DataW H)) (before : List MemPlace) (hval : ∀ (j : Nat) t v, fn.params[j]? = some t → args[j]? = some v → Value.okWide P W .any base t v)
    (hspec : ∀ x : Tys.den Ts, Tys.ok Ts x → Tys.rep H Ts x (ds ++ gs) → SpecW P f (Tys.args Ts x) [] 0 (fun r _ _ => r = .v (.bool true)))
    (hW : DataW.Whole enc P fn.params.toList s.vars apart W args.toList ds gs before) (htab : TabOk P (fun b => b < W.heap.size) W) :
    Calls P f args W fun e W' => ∃ v, e = .returned v ∧ s.post enc P fn apart fresh handsOn again W args v W' := by
  have hW' := hW
  obtain ⟨p, q, hA, hV, rfl, hfz, hnd⟩ := hW
  rw [hv] at hV
  have hgq : gs = [] ∧ q = [] := by
    cases gs with
    | nil => exact ⟨rfl, hV⟩
    | cons _ _ => cases hV
  obtain ⟨rfl, rfl⟩ := hgq
  let C : Nat → Chunk := getH []
  let I : Nat → Prop := fun b => b < W.heap.size
  let X : Cx := { gl := htab, P := P, w0 := W, I0 := fun b => b < W.heap.size, W0 := fun _ => False, m := 0, ids0 := fun _ => none, C0 := fun _ => .unborn }
  have hIm : ∀ b, b < W.heap.size → Im W (fun b => b < W.heap.size) (fun _ => False) (getH []) (fun _ => none) W b := fun b hb => ⟨.inl hb, hb, fun k hk => by cases hk⟩
  obtain ⟨x, h1, h2, h3, h4, h5⟩ := args_den (C := getH []) (ids := fun _ => none) hIm fn.params.toList Ts args.toList ds p hB (fun j t v hj hv => hval j t v (by simpa using hj) (by simpa using hv)) hA
  have hsp := hspec x h1 (by simpa using h4)
  have hH : HeapF X [] 0 X.ids0 X.w0 := ⟨⟨⟨fun k => trivial, (fun k k' b o o' hl => by cases hl), (fun k b o hl => by cases hl), fun b hb => ⟨hb, fun h => h⟩, fun b _ _ => rfl, rfl, rfl, rfl, Nat.le_refl _⟩, fun k hk => absurd hk (Nat.not_lt_zero _)⟩, fun k _ => rfl, Nat.le_refl _⟩
  refine (hsp.2 X args rfl rfl hH (by rw [← h2]; simp) fun i s hi => ?_).mono fun e W' he => ?_
  · have := h3 i s hi
    simpa [Array.getD_eq_getD_getElem?, List.getD_eq_getElem?_getD] using this
  obtain ⟨r, res, hp', nx', ids', rfl, hres, hF, hd⟩ := he
  subst hres
  have hrv := den_v hd
  subst hrv
  refine ⟨_, rfl, ?_⟩
  have hb : Below W.heap.size W W' := ⟨hF.st.os, hF.st.tape, hF.st.output, hF.st.size, fun k hk => hF.st.evol k hk (fun h => h)⟩
  have hfn := hs ds h5
  refine post_below (pa := p) (pv := []) hW' (fun b sp hd => ?_) (fun sp hsp => ?_) (fun sp _ => ?_) rfl hb (ok_one hrt rfl (okWide_bool_mk hub true))
  · rw [List.append_nil, hfn, hrt]
    exact trodAll_cons_mk (shut_bool hub true) trodAll_mk0
  · rw [List.append_nil, hfn]
    exact trodAll_kept hlo hb fn.params.toList Ts args.toList ds p hB (fun x hx => hW'.lt x (by simp [hx])) (fun x hx => hsp x (by simp [hx])) hA
  · rw [List.append_nil, hfn, hv]; rfl
theorem law_contract {f : FuncId} {fn : Func} {s : ChangeSpec} {apart fresh handsOn again : Bool} (Ts : List Ty) (F : Nat) (hB : tysB P F fn.params.toList Ts = true) (hv : s.vars = []) (hs : ∀ ds : List (DataW H), ds.length = Ts.length → s.fn H ds = { results := [.lit (.bool true)], args := ds })
    (hlo : laidOutB P = true) {tb : TypeId} (hrt : fn.resultTypes = #[tb]) (hub : P.underlying tb = some .bool)
    (W : World) (base : Nat) (args : Array Value) (ds gs : List (DataW H)) (before : List MemPlace) (hval : ∀ (j : Nat) t v, fn.params[j]? = some t → args[j]? = some v → Value.okWide P W .any base t v)
    (hspec : ∀ x : Tys.den Ts, Tys.ok Ts x → Tys.rep H Ts x (ds ++ gs) → SpecW P f (Tys.args Ts x) [] 0 (fun r _ _ => r = .v (.bool true)))
    (hW : DataW.Whole enc P fn.params.toList s.vars apart W args.toList ds gs before) (hnt : noTabs P = true := by kernel_rfl) :
    Calls P f args W fun e W' => ∃ v, e = .returned v ∧ s.post enc P fn apart fresh handsOn again W args v W' :=
  law_contract_tab Ts F hB hv hs hlo hrt hub W base args ds gs before hval hspec hW (TabOk.of_none hnt)
end
end Go.Sx
