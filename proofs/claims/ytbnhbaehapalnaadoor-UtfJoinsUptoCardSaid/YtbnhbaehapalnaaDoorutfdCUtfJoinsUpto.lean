/-
  The law UtfJoins returns true for every input of bulk at most 1048576.
  No conditions.
-/
import Derived.Test.YtbnhbaehapalnaaDoorRows
import Derived.Test.YtbnhbaehapalnaaDoorTie
import Derived.Test.YtbnhbaehapalnaaDoorCards
import Derived.LaidMore
import Derived.Lay
import Derived.SevenTiedAt
import Derived.Stop.Joined
import Derived.Lib.LaidU8T
import Derived.ProofKit
import Derived.OpenShut
import Derived.JoinedCond
import Derived.Test.YtbnhbaehapalnaaDoorutfdWUtfJoinsUpto1
import Derived.Test.YtbnhbaehapalnaaDoorutfdP9
set_option linter.unusedSimpArgs false
set_option linter.unusedVariables false
namespace Go.Proofs.YtbnhbaehapalnaaDoor.utfJoinsUpto
open Go.Proofs Go.ChangeShapes Go.WideShapes Go.ChangeAt Go.RowKit Go Go.Sx
theorem own : ownKnob Tryd.prog.godebug = none := by kernel_rfl
abbrev Ts : List Ty := [.str, .str]
theorem spec {H : Type} (x : Tys.den Ts) (ds : List (DataW H)) (hr : Tys.rep H Ts x ds) (hk : Rows.uptoSmall H ds = true) : SpecW Tryd.prog 4 (Tys.args Ts x) [] 0 (fun r _ _ => r = .v (.bool true)) := by
  obtain ⟨a1, a2, u⟩ := x
  have hp : a1.size + a2.size ≤ 4611686018427387904 := by
    obtain ⟨d0, s, rfl, h0, hr⟩ := hr
    obtain ⟨d1, s1, rfl, h1, _⟩ := hr
    have h0 : d0 = .lit (.string a1.data.toList) := h0
    have h1 : d1 = .lit (.string a2.data.toList) := h1
    subst h0; subst h1
    unfold Rows.uptoSmall at hk
    have hk := of_decide_eq_true hk
    simp only [Rows.uptoBulkAll, Rows.uptoBulk] at hk
    have e1 : a1.data.toList.length = a1.size := by simp
    have e2 : a2.data.toList.length = a2.size := by simp
    omega
  refine SpecW.mono (taskmilllaw_UtfJoins_spec a1 a2 true (joins a1 a2 hp)) ?_
  rintro r hp n ⟨rfl, _, _⟩
  rfl
abbrev rho : Go.Shelf.Ren := ⟨id, fun t => if t = 5 then 5 else if t = 119 then 51 else if t = 138 then 54 else 55, fun g => if g = 3 then 0 else 1⟩
theorem tab0 : tabOf Tryd.prog 0 = some firstTab := by kernel_rfl
theorem tab1 : tabOf Tryd.prog 1 = some acceptTab := by kernel_rfl
theorem tab2 : Tryd.prog.globals.size = 2 := by kernel_rfl
theorem firstTab_at (i : Nat) (h : i < 256) : firstTab[i]? = some (.int .u8 (Lib.firstT i)) := by simp [firstTab, List.getElem?_range h, firstB_eq]
theorem acc_ints : ∀ i : Nat, i < 16 → ([128, 191, 160, 191, 128, 159, 144, 191, 128, 143, 0, 0, 0, 0, 0, 0, 0, 0, 0, 0, 0, 0, 0, 0, 0, 0, 0, 0, 0, 0, 0, 0] : List Int)[2 * i]? = some ((Lib.accLo i : Nat) : Int) ∧ ([128, 191, 160, 191, 128, 159, 144, 191, 128, 143, 0, 0, 0, 0, 0, 0, 0, 0, 0, 0, 0, 0, 0, 0, 0, 0, 0, 0, 0, 0, 0, 0] : List Int)[2 * i + 1]? = some ((Lib.accHi i : Nat) : Int) := by decide +kernel
theorem acceptTab_at (i : Nat) (h : i < 16) : acceptTab[2 * i]? = some (.int .u8 (Lib.accLo i)) ∧ acceptTab[2 * i + 1]? = some (.int .u8 (Lib.accHi i)) := by
  obtain ⟨h1, h2⟩ := acc_ints i h
  unfold acceptTab
  rw [List.getElem?_map, List.getElem?_map, h1, h2]
  exact ⟨rfl, rfl⟩
theorem lt_of_cell {W : World} {b i : Nat} {x : Value} (h : W.cell? ⟨b, i, none⟩ = some x) : b < W.heap.size := by
  unfold World.cell? at h
  cases hb : W.heap[b]? with
  | none => simp [hb] at h
  | some o => exact (Array.getElem?_eq_some_iff.1 hb).1
theorem tabs (W : World) (hL : laidMetH Tryd.prog Rows.utfJoinsUptoRow.laid W) : TabOk Tryd.prog (fun b => b < W.heap.size) W := by
  rw [MakeChecks.laidMetH_plain _ _ _ (by kernel_rfl)] at hL
  have e1 : Rows.laid_unicode_utf8_first = Lib.firstData := by kernel_rfl
  have e2 : (Rows.laid_unicode_utf8_acceptRanges : DataW Unit) = Lib.acceptData := by kernel_rfl
  have h1 : ("unicode/utf8.first", Lib.firstData) ∈ Rows.utfJoinsUptoRow.laid := by rw [← e1]; exact List.Mem.tail _ (.head _)
  have h2 : ("unicode/utf8.acceptRanges", Lib.acceptData) ∈ Rows.utfJoinsUptoRow.laid := by rw [← e2]; exact .head _
  have hT := utf8Tabs_of_readsT (P := Tryd.prog) (ρ := rho) ⟨by kernel_rfl, by kernel_rfl, by kernel_rfl, by kernel_rfl⟩ ⟨by kernel_rfl, by kernel_rfl, by kernel_rfl, by kernel_rfl, by kernel_rfl, by kernel_rfl, by kernel_rfl⟩ (Lib.laidMet.reads hL h1) (Lib.laidMet.reads hL h2)
  obtain ⟨t1, t2⟩ := hT
  have t1 : ∀ c, c < 256 → W.cell? ⟨0, c, none⟩ = some (.int .u8 (Lib.firstT c)) := t1
  have t2 : ∀ i, i < 16 → W.cell? ⟨1, 2 * i, none⟩ = some (.int .u8 (Lib.accLo i)) ∧ W.cell? ⟨1, 2 * i + 1, none⟩ = some (.int .u8 (Lib.accHi i)) := t2
  intro g cs hg
  match g with
  | 0 =>
    obtain rfl := Option.some.inj (tab0.symm.trans hg)
    refine ⟨lt_of_cell (t1 0 (by omega)), fun i x hi => ?_⟩
    have hlt : i < 256 := by
      have := (List.getElem?_eq_some_iff.1 hi).1
      have hl : firstTab.length = 256 := by kernel_rfl
      omega
    rw [t1 i hlt, ← firstTab_at i hlt, hi]
  | 1 =>
    obtain rfl := Option.some.inj (tab1.symm.trans hg)
    refine ⟨lt_of_cell (t2 0 (by omega)).1, fun i x hi => ?_⟩
    have hlt : i < 32 := by
      have := (List.getElem?_eq_some_iff.1 hi).1
      have hl : acceptTab.length = 32 := by kernel_rfl
      omega
    rcases (by omega : i = 2 * (i / 2) ∨ i = 2 * (i / 2) + 1) with h | h
    · rw [h, (t2 (i / 2) (by omega)).1, ← (acceptTab_at (i / 2) (by omega)).1, ← h, hi]
    · rw [h, (t2 (i / 2) (by omega)).2, ← (acceptTab_at (i / 2) (by omega)).2, ← h, hi]
  | g + 2 =>
    have : Tryd.prog.globals[g + 2]? = none := by
      rw [Array.getElem?_eq_none_iff, tab2]; omega
    unfold tabOf at hg
    rw [this] at hg
    cases hg
theorem cond_and {H : Type} {enc : TypeId × Value → H} {a : Assume} {C : Checked} {os : Os} {f : FuncId} {fn : Func} {s : OpenSpec} {k : (H : Type) → List (DataW H) → Bool} (hk : s.cond = some k) {F : Stop.Interp} {conds : List PathCond} {apart fresh handsOn again : Bool} {X : World → Array Value → Prop}
    (hX : ∀ (w w' : World) (args : Array Value), w.heap = w'.heap → X w args → X w' args)
    (own : ownKnob C.prog.godebug = none) (started : os.Started) (noInit : C.prog.inits.idxOf? f = none) (hfn : C.prog.funcs[f]? = some fn)
    (witness : ∃ (w : World) (tape : Tape) (i : Input), w.os = os ∧ (w.forCall tape i).Shaped C.prog ∧ i.vars = [] ∧ Input.okWide C.prog (w.forCall tape i) .any w.heap.size f i ∧
      ((s.pre enc C.prog fn conds apart (w.forCall tape i).memory i.args ∧ X (w.forCall tape i).memory i.args) ∧ sizedMet enc C.prog fn s apart (w.forCall tape i).memory i.args) ∧ a.holds C.prog (lone (Frame.enter C.prog f i.args .normal) [] (w.forCall tape i)))
    (contract : ∀ (W : World) (base : Nat) (args : Array Value) (ds gs : List (DataW H)) (before : List MemPlace),
      (∀ (j : Nat) t v, fn.params[j]? = some t → args[j]? = some v → Value.okWide C.prog W .any base t v) →
      DataW.Whole enc C.prog fn.params.toList s.vars apart W args.toList ds gs before → k H (ds ++ gs) = true → X W args →
      Calls C.prog f args W fun e W' => ∃ v, e = .returned v ∧ (s.at F).post enc C.prog fn apart fresh handsOn again W args v W') :
    ReturnsInHanded a C os f .any (fun w args => (s.pre enc C.prog fn conds apart w args ∧ X w args) ∧ sizedMet enc C.prog fn s apart w args) ((s.at F).post enc C.prog fn apart fresh handsOn again) := by
  refine returnsInHanded_of_calls own started noInit witness ?_
  intro w tape i _ _ _ hok hpre hholds
  obtain ⟨_, _, _, fn', hfn', _, _, _, _, hval⟩ := hok
  have e : fn' = fn := Option.some.inj (hfn'.symm.trans hfn)
  subst e
  obtain ⟨⟨hp0, hx⟩, _⟩ := hpre
  obtain ⟨ds, gs, before, hw, _, hkk⟩ := (OpenSpec.pre_some hk conds apart _ _).1 hp0
  have hw' := DataW.Whole.of_heap (w' := w.forCall tape i) (by rfl) hw
  refine (contract (w.forCall tape i) w.heap.size i.args ds gs before hval hw' hkk (hX _ _ _ (by rfl) hx)).mono fun e W' ⟨v, he, hp⟩ => ?_
  subst he
  exact ChangeSpec.post_blind hp
theorem witness_and {H : Type} {enc : TypeId × Value → H} {C : Checked} {os : Os} {f : FuncId} {fn : Func} {s : OpenSpec} {k : (H : Type) → List (DataW H) → Bool} (hk : s.cond = some k) {conds : List PathCond} {apart : Bool} {X : World → Array Value → Prop} (modest : Bool) (w0 : World) (args : Array Value) (fuel : Nat) (hos : w0.os = os)
    (hsh : (w0.forCall (fun _ _ => 0) ⟨#[], args, []⟩).Shaped C.prog)
    (hok : Input.okWideB C.prog (w0.forCall (fun _ _ => 0) ⟨#[], args, []⟩) f ⟨#[], args, []⟩ = true)
    {x : List (DataW H) × List (DataW H) × List MemPlace} (hx : DataW.whole enc C.prog (w0.forCall (fun _ _ => 0) ⟨#[], args, []⟩).memory fn.params.toList s.vars apart args.toList fuel = some x)
    (hconds : conds.all (PathCond.test C.prog ⟨fn.params.toList, x.1, s.bare.plain.varTypes C.prog, x.2.1⟩) = true) (hkk : k H (x.1 ++ x.2.1) = true)
    (hsz : s.bare.sizedB enc C.prog fn apart (w0.forCall (fun _ _ => 0) ⟨#[], args, []⟩).memory args fuel = true)
    (hxx : X (w0.forCall (fun _ _ => 0) ⟨#[], args, []⟩).memory args) :
    ∃ (w : World) (tape : Tape) (i : Input), w.os = os ∧ (w.forCall tape i).Shaped C.prog ∧ i.vars = [] ∧ Input.okWide C.prog (w.forCall tape i) .any w.heap.size f i ∧
      ((s.pre enc C.prog fn conds apart (w.forCall tape i).memory i.args ∧ X (w.forCall tape i).memory i.args) ∧ sizedMet enc C.prog fn s apart (w.forCall tape i).memory i.args) ∧ ({ modest := modest } : Assume).holds C.prog (lone (Frame.enter C.prog f i.args .normal) [] (w.forCall tape i)) :=
  ⟨w0, fun _ _ => 0, ⟨#[], args, []⟩, hos, hsh, (Input.okWide_of_okWideB (base := 0) hok).1, (Input.okWide_of_okWideB hok).2,
    ⟨⟨(OpenSpec.pre_some hk conds apart _ _).2 ⟨x.1, x.2.1, x.2.2, DataW.Whole_of_whole hx, hconds, hkk⟩, hxx⟩, sizedMet_of_sizedB hsz⟩, by
    simp only [Assume.holds]
    exact ⟨by simp, by simp, fun _ => Modest.zero, by simp, by simp⟩⟩
set_option maxRecDepth 100000 in
theorem lifted (os : Os) (started : os.Started) (H : Type) (enc : TypeId × Value → H) (F : Stop.Interp) :
    ReturnsInHanded {} Tryd.checked os 4 .any (fun w args => ((Rows.OpenSpec.upto Rows.utfJoinsSpec).pre enc Tryd.prog Tryd.f4 Rows.utfJoinsUptoRow.domain false w args ∧ laidMetH Tryd.prog Rows.utfJoinsUptoRow.laid w) ∧ sizedMet enc Tryd.prog Tryd.f4 (Rows.OpenSpec.upto Rows.utfJoinsSpec) false w args)
      (((Rows.OpenSpec.upto Rows.utfJoinsSpec).at F).post enc Tryd.prog Tryd.f4 false true false false) := by
  refine cond_and (C := Tryd.checked) (s := Rows.OpenSpec.upto Rows.utfJoinsSpec) (k := Rows.uptoSmall) rfl (F := F) (X := fun w _ => laidMetH Tryd.prog Rows.utfJoinsUptoRow.laid w) (fun _ _ _ hh h => h.of_heap hh) own started (by kernel_rfl) Tryd.func4
    (witness_and (enc := enc) (C := Tryd.checked) (os := os) (s := Rows.OpenSpec.upto Rows.utfJoinsSpec) (k := Rows.uptoSmall) rfl (x := ([.lit (.string []), .lit (.string [])], [], [])) (X := fun w _ => laidMetH Tryd.prog Rows.utfJoinsUptoRow.laid w) false (World.laidAll Tryd.prog os Rows.utfJoinsUptoRow.laid) #[.string ByteArray.empty, .string ByteArray.empty] 8 (World.laidAll_os _ _ _)
      (World.shaped_of_ZipB (by kernel_rfl) (by kernel_rfl)) (by kernel_rfl) (by kernel_rfl) (by kernel_rfl) (by kernel_rfl) (by kernel_rfl)
      (by rw [MakeChecks.laidMetH_plain _ _ _ (by kernel_rfl)]; exact laidMet_laidAll _ (by kernel_rfl) (by kernel_rfl))) ?_
  intro W base args ds gs before hval hW hk hL
  exact law_contract_tab Ts 12 (by kernel_rfl) rfl (fun ds h => by
    match ds, h with
    | [d0, d1], _ => rfl) (by kernel_rfl) (tb := 4) rfl (by kernel_rfl) W base args ds gs before hval (fun x _ hr => spec x _ hr hk) hW (tabs W hL)
theorem over : Rows.utfJoinsUptoRow.holds Tryd.pinned (Rows.OpenSpec.upto Rows.utfJoinsSpec) :=
  OpenClaim.holds_of_cond 4 Tryd.f4 rfl rfl rfl rfl rfl rfl rfl ⟨rfl, rfl, rfl, rfl, rfl⟩ rfl rfl rfl rfl rfl (by kernel_rfl) Tryd.func4 (by kernel_rfl)
    (of_decide_eq_true (by kernel_rfl)) (by unfold Func.isWrapper; first | (rw [if_pos (by decide +kernel)]; kernel_rfl) | (rw [if_neg (by decide +kernel)]; exact ⟨rfl, rfl⟩))
    (fun os started H enc _ F => lifted os started H enc F)
theorem proved : Rows.UtfJoinsUptoCardSaid :=
  Claim7.holds_tied_plain_at .later [] [.data, .pinned] true Rows.utfJoinsUptoCard.stood.harness false over (fun _ h => by cases h) (by kernel_rfl) (fun _ h => by cases h) utfJoinsUpto_row_tie rfl ⟨rfl, rfl⟩ (by kernel_rfl) rfl
    (fun f fn hf hfn => by
      obtain rfl : f = 4 := Option.some.inj ((show Tryd.prog.funcNamed "taskmill/taskmilllaw.UtfJoins" = some 4 by kernel_rfl).symm.trans hf) |>.symm
      obtain rfl : fn = Tryd.f4 := (Option.some.inj (Tryd.func4.symm.trans hfn)).symm
      refine ⟨by kernel_rfl, fun j t ht => ?_⟩
      have hm : t ∈ Tryd.f4.params.toList := by simpa using Array.mem_of_getElem? ht
      have hall : (Tryd.f4.params.toList.all fun u => !Tryd.prog.wantsStandIn u) = true := by kernel_rfl
      exact (show Tryd.prog.wantsStandIn t = false by simpa using List.all_eq_true.1 hall t hm))
    (by kernel_rfl)
end Go.Proofs.YtbnhbaehapalnaaDoor.utfJoinsUpto
