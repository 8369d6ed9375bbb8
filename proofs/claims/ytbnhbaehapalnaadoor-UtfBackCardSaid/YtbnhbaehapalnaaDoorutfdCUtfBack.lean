/-
  The law UtfBack returns true for every input.
  No conditions.
-/
import Derived.Test.YtbnhbaehapalnaaDoorRows
import Derived.Test.YtbnhbaehapalnaaDoorTie
import Derived.Test.YtbnhbaehapalnaaDoorCards
import Derived.LaidMore
import Derived.Lay
import Derived.SevenTiedAt
import Derived.Stop.Joined
import Derived.Lib.LaidU8T
import Derived.ProofKit
import Derived.OpenShut
import Derived.Test.YtbnhbaehapalnaaDoorutfdWUtfBack1
import Derived.Test.YtbnhbaehapalnaaDoorutfdP8
set_option linter.unusedSimpArgs false
set_option linter.unusedVariables false
namespace Go.Proofs.YtbnhbaehapalnaaDoor.utfBack
open Go.Proofs Go.ChangeShapes Go.WideShapes Go.ChangeAt Go.RowKit Go Go.Sx
theorem own : ownKnob Tryd.prog.godebug = none := by kernel_rfl
abbrev Ts : List Ty := [.str, (.sl (.int .i64))]
theorem spec (x : Tys.den Ts) (h : Tys.ok Ts x) : SpecW Tryd.prog 5 (Tys.args Ts x) [] 0 (fun r _ _ => r = .v (.bool true)) := by
  have ok := h
  obtain ⟨a1, l2, u⟩ := x
  refine SpecW.mono (taskmilllaw_UtfBack_spec a1 l2 true (back a1 l2)) ?_
  rintro r hp n ⟨rfl, _, _⟩
  rfl
abbrev rho : Go.Shelf.Ren := ⟨id, fun t => if t = 5 then 5 else if t = 119 then 51 else if t = 138 then 54 else 55, fun g => if g = 3 then 0 else 1⟩
theorem tab0 : tabOf Tryd.prog 0 = some firstTab := by kernel_rfl
theorem tab1 : tabOf Tryd.prog 1 = some acceptTab := by kernel_rfl
theorem tab2 : Tryd.prog.globals.size = 2 := by kernel_rfl
theorem firstTab_at (i : Nat) (h : i < 256) : firstTab[i]? = some (.int .u8 (Lib.firstT i)) := by simp [firstTab, List.getElem?_range h, firstB_eq]
theorem acc_ints : ∀ i : Nat, i < 16 → ([128, 191, 160, 191, 128, 159, 144, 191, 128, 143, 0, 0, 0, 0, 0, 0, 0, 0, 0, 0, 0, 0, 0, 0, 0, 0, 0, 0, 0, 0, 0, 0] : List Int)[2 * i]? = some ((Lib.accLo i : Nat) : Int) ∧ ([128, 191, 160, 191, 128, 159, 144, 191, 128, 143, 0, 0, 0, 0, 0, 0, 0, 0, 0, 0, 0, 0, 0, 0, 0, 0, 0, 0, 0, 0, 0, 0] : List Int)[2 * i + 1]? = some ((Lib.accHi i : Nat) : Int) := by decide +kernel
theorem acceptTab_at (i : Nat) (h : i < 16) : acceptTab[2 * i]? = some (.int .u8 (Lib.accLo i)) ∧ acceptTab[2 * i + 1]? = some (.int .u8 (Lib.accHi i)) := by
  obtain ⟨h1, h2⟩ := acc_ints i h
  unfold acceptTab
  rw [List.getElem?_map, List.getElem?_map, h1, h2]
  exact ⟨rfl, rfl⟩
theorem lt_of_cell {W : World} {b i : Nat} {x : Value} (h : W.cell? ⟨b, i, none⟩ = some x) : b < W.heap.size := by
  unfold World.cell? at h
  cases hb : W.heap[b]? with
  | none => simp [hb] at h
  | some o => exact (Array.getElem?_eq_some_iff.1 hb).1
theorem tabs (W : World) (hL : laidMetH Tryd.prog Rows.utfBackRow.laid W) : TabOk Tryd.prog (fun b => b < W.heap.size) W := by
  rw [MakeChecks.laidMetH_plain _ _ _ (by kernel_rfl)] at hL
  have e1 : Rows.laid_unicode_utf8_first = Lib.firstData := by kernel_rfl
  have e2 : (Rows.laid_unicode_utf8_acceptRanges : DataW Unit) = Lib.acceptData := by kernel_rfl
  have h1 : ("unicode/utf8.first", Lib.firstData) ∈ Rows.utfBackRow.laid := by rw [← e1]; exact List.Mem.tail _ (.head _)
  have h2 : ("unicode/utf8.acceptRanges", Lib.acceptData) ∈ Rows.utfBackRow.laid := by rw [← e2]; exact .head _
  have hT := utf8Tabs_of_readsT (P := Tryd.prog) (ρ := rho) ⟨by kernel_rfl, by kernel_rfl, by kernel_rfl, by kernel_rfl⟩ ⟨by kernel_rfl, by kernel_rfl, by kernel_rfl, by kernel_rfl, by kernel_rfl, by kernel_rfl, by kernel_rfl⟩ (Lib.laidMet.reads hL h1) (Lib.laidMet.reads hL h2)
  obtain ⟨t1, t2⟩ := hT
  have t1 : ∀ c, c < 256 → W.cell? ⟨0, c, none⟩ = some (.int .u8 (Lib.firstT c)) := t1
  have t2 : ∀ i, i < 16 → W.cell? ⟨1, 2 * i, none⟩ = some (.int .u8 (Lib.accLo i)) ∧ W.cell? ⟨1, 2 * i + 1, none⟩ = some (.int .u8 (Lib.accHi i)) := t2
  intro g cs hg
  match g with
  | 0 =>
    obtain rfl := Option.some.inj (tab0.symm.trans hg)
    refine ⟨lt_of_cell (t1 0 (by omega)), fun i x hi => ?_⟩
    have hlt : i < 256 := by
      have := (List.getElem?_eq_some_iff.1 hi).1
      have hl : firstTab.length = 256 := by kernel_rfl
      omega
    rw [t1 i hlt, ← firstTab_at i hlt, hi]
  | 1 =>
    obtain rfl := Option.some.inj (tab1.symm.trans hg)
    refine ⟨lt_of_cell (t2 0 (by omega)).1, fun i x hi => ?_⟩
    have hlt : i < 32 := by
      have := (List.getElem?_eq_some_iff.1 hi).1
      have hl : acceptTab.length = 32 := by kernel_rfl
      omega
    rcases (by omega : i = 2 * (i / 2) ∨ i = 2 * (i / 2) + 1) with h | h
    · rw [h, (t2 (i / 2) (by omega)).1, ← (acceptTab_at (i / 2) (by omega)).1, ← h, hi]
    · rw [h, (t2 (i / 2) (by omega)).2, ← (acceptTab_at (i / 2) (by omega)).2, ← h, hi]
  | g + 2 =>
    have : Tryd.prog.globals[g + 2]? = none := by
      rw [Array.getElem?_eq_none_iff, tab2]; omega
    unfold tabOf at hg
    rw [this] at hg
    cases hg
set_option maxRecDepth 100000 in
theorem lifted (os : Os) (started : os.Started) (H : Type) (enc : TypeId × Value → H) :
    ReturnsInHanded {} Tryd.checked os 5 .any (fun w args => (Rows.utfBackSpec.pre enc Tryd.prog Tryd.f5 Rows.utfBackRow.domain false w args ∧ laidMetH Tryd.prog Rows.utfBackRow.laid w) ∧ sizedMet enc Tryd.prog Tryd.f5 (OpenSpec.ofChange Rows.utfBackSpec) false w args)
      (Rows.utfBackSpec.post enc Tryd.prog Tryd.f5 false true false false) := by
  refine returnsInHanded_of_change_and (C := Tryd.checked) (X := fun w _ => laidMetH Tryd.prog Rows.utfBackRow.laid w) (fun _ _ _ hh h => h.of_heap hh) own started (by kernel_rfl) Tryd.func5
    (ChangeSpec.witness_shaped (enc := enc) (C := Tryd.checked) (os := os) (X := fun w _ => laidMetH Tryd.prog Rows.utfBackRow.laid w) false (World.laidAll Tryd.prog os Rows.utfBackRow.laid) #[.string ByteArray.empty, .slice none 0 0] 8 (World.laidAll_os _ _ _)
      (World.shaped_of_ZipB (by kernel_rfl) (by kernel_rfl)) (by kernel_rfl) (by kernel_rfl) (by kernel_rfl)
      (by rw [MakeChecks.laidMetH_plain _ _ _ (by kernel_rfl)]; exact laidMet_laidAll _ (by kernel_rfl) (by kernel_rfl))) ?_
  intro W base args ds gs before hval hW _ _ hL _
  exact law_contract_tab Ts 12 (by kernel_rfl) rfl (fun ds h => by
    match ds, h with
    | [d0, d1], _ => rfl) (by kernel_rfl) (tb := 4) rfl (by kernel_rfl) W base args ds gs before hval (fun x hx _ => spec x hx) hW (tabs W hL)
theorem over : Rows.utfBackRow.holds Tryd.pinned (OpenSpec.ofChange Rows.utfBackSpec) :=
  OpenClaim.holds_of_wide 5 Tryd.f5 rfl rfl rfl rfl rfl rfl rfl ⟨rfl, rfl, rfl, rfl, rfl⟩ rfl rfl rfl rfl rfl (by kernel_rfl) Tryd.func5 (by kernel_rfl)
    (of_decide_eq_true (by kernel_rfl)) (by unfold Func.isWrapper; first | (rw [if_pos (by decide +kernel)]; kernel_rfl) | (rw [if_neg (by decide +kernel)]; exact ⟨rfl, rfl⟩))
    (fun os started H enc _ => lifted os started H enc)
theorem proved : Rows.UtfBackCardSaid :=
  Claim7.holds_tied_plain_at .later [] [.data, .pinned] true Rows.utfBackCard.stood.harness false over (fun _ h => by cases h) (by kernel_rfl) (fun _ h => by cases h) utfBack_row_tie rfl ⟨rfl, rfl⟩ (by kernel_rfl) rfl
    (fun f fn hf hfn => by
      obtain rfl : f = 5 := Option.some.inj ((show Tryd.prog.funcNamed "taskmill/taskmilllaw.UtfBack" = some 5 by kernel_rfl).symm.trans hf) |>.symm
      obtain rfl : fn = Tryd.f5 := (Option.some.inj (Tryd.func5.symm.trans hfn)).symm
      refine ⟨by kernel_rfl, fun j t ht => ?_⟩
      have hm : t ∈ Tryd.f5.params.toList := by simpa using Array.mem_of_getElem? ht
      have hall : (Tryd.f5.params.toList.all fun u => !Tryd.prog.wantsStandIn u) = true := by kernel_rfl
      exact (show Tryd.prog.wantsStandIn t = false by simpa using List.all_eq_true.1 hall t hm))
    (by kernel_rfl)
end Go.Proofs.YtbnhbaehapalnaaDoor.utfBack
