/-
  The law PipeShuts returns true for every input.
  No conditions.
-/
import Derived.Test.YtconaimaibephaaRows
import Derived.ProofKit
import Derived.OpenShut
import Derived.JoinedCond
import Derived.Test.YtconaimaibephaapipeWPipeShutsUpto2
import Derived.Test.YtconaimaibephaapipeP3
set_option linter.unusedSimpArgs false
set_option linter.unusedVariables false
namespace Go.Proofs.Ytconaimaibephaa.pipeShutsUpto
open Go.ChangeShapes Go.WideShapes Go.ChangeAt Go.RowKit Go Go.Sx
theorem own : ownKnob Try.prog.godebug = none := by kernel_rfl
abbrev TGPost : Ty := (.pair (.int .i64) (.pair (.int .i64) (.pair (.int .i64) .unit)))
def cvGPost (x : TGPost.den) : GPost := GPost.mk x.1 x.2.1 x.2.2.1
theorem cvGPost_cells (x : TGPost.den) : TGPost.sv x = Enc.cells (cvGPost x) := by
  obtain ⟨x0, x1, x2, u⟩ := x
  rfl
theorem sl_conv {α : Type} [Enc α] {e : Ty} (cv : e.den → α) (h : ∀ x, e.sv x = Enc.cells (cv x)) (xs : List e.den) : fl (xs.map cv) = xs.flatMap e.sv := by
  simp only [fl, List.flatMap_map]
  congr 1
  funext x
  exact (h x).symm
abbrev Ts : List Ty := [(.pair (.int .i64) (.pair (.sl (.int .i64)) (.pair .bool (.pair (.sl (.pair (.int .i64) (.pair (.int .i64) (.pair (.int .i64) .unit)))) (.pair (.sl (.pair (.int .i64) (.pair (.int .i64) (.pair (.int .i64) .unit)))) .unit))))), (.int .i64)]
theorem bulk_pos {H : Type} (d : DataW H) : 1 ≤ Rows.uptoBulk d := by
  cases d with
  | lit l => cases l <;> simp [Rows.uptoBulk]
  | _ => simp [Rows.uptoBulk]
theorem bulk_len {H : Type} : ∀ l : List (DataW H), l.length ≤ Rows.uptoBulkAll l
  | [] => Nat.zero_le _
  | d :: r => by
    have h1 := bulk_pos d
    have h2 := bulk_len r
    simp only [Rows.uptoBulkAll, List.length_cons]; omega
theorem rep_len {H : Type} {e : Ty} {xs : List e.den} {d : DataW H} (h : Ty.rep H (.sl e) xs d) : xs.length ≤ Rows.uptoBulk d := by
  rcases h with ⟨rfl, rfl⟩ | ⟨el, spn, rfl, hl, _⟩
  · exact Nat.zero_le _
  · have := bulk_len el
    simp only [Rows.uptoBulk]
    omega
theorem spec {H : Type} (x : Tys.den Ts) (ds : List (DataW H)) (hr : Tys.rep H Ts x ds) (hk : Rows.uptoSmall H ds = true) : SpecW Try.prog 9 (Tys.args Ts x) [] 0 (fun r _ _ => r = .v (.bool true)) := by
  obtain ⟨⟨a1, l2, a3, l4, l5, u6⟩, a7, u⟩ := x
  have hp : Small (⟨a1, l2, a3, (l4.map cvGPost), (l5.map cvGPost)⟩ : Pipe) := by
    obtain ⟨d0, s, rfl, hd, _⟩ := hr
    obtain ⟨p0, r0, rfl, _, hd⟩ := hd
    obtain ⟨p1, r1, e1, h1, hd⟩ := hd
    obtain ⟨p2, r2, e2, _, hd⟩ := hd
    obtain ⟨p3, r3, e3, h3, hd⟩ := hd
    obtain ⟨p4, r4, e4, h4, hd⟩ := hd
    have g1 := rep_len h1
    have g3 := rep_len h3
    have g4 := rep_len h4
    cases e1; cases e2; cases e3; cases e4
    simp only [Rows.uptoSmall, Rows.uptoBulkAll, Rows.uptoBulk, decide_eq_true_eq] at hk
    have f1 : List.length l2 ≤ Rows.uptoBulk p1 := g1
    have f3 : List.length l4 ≤ Rows.uptoBulk p3 := g3
    have f4 : List.length l5 ≤ Rows.uptoBulk p4 := g4
    have hk2 : Rows.uptoBulk p1 + Rows.uptoBulk p3 + Rows.uptoBulk p4 ≤ 1048576 := by
      have hk := of_decide_eq_true hk
      omega
    show List.length l2 + (l4.map cvGPost).length + (l5.map cvGPost).length ≤ 4611686018427387904
    rw [List.length_map, List.length_map]
    omega
  have S := taskmilllaw_PipeShuts_spec (⟨a1, l2, a3, (l4.map cvGPost), (l5.map cvGPost)⟩ : Pipe) a7 true (shuts (⟨a1, l2, a3, (l4.map cvGPost), (l5.map cvGPost)⟩ : Pipe) a7 hp)
  simp only [cells_Pipe, List.length_map, sl_conv cvGPost cvGPost_cells l4, sl_conv cvGPost cvGPost_cells l5] at S
  refine SpecW.mono S ?_
  rintro r hp n ⟨rfl, _, _⟩
  rfl
set_option maxRecDepth 100000 in
theorem lifted (os : Os) (started : os.Started) (H : Type) (enc : TypeId × Value → H) (F : Stop.Interp) :
    ReturnsInHanded {} Try.checked os 9 .any ((Rows.OpenSpec.upto Rows.pipeShutsSpec).pre6 enc Try.prog Try.f9 Rows.pipeShutsUptoRow.domain false) (((Rows.OpenSpec.upto Rows.pipeShutsSpec).at F).post enc Try.prog Try.f9 false true false false) := by
  refine returnsInHanded_of_cond (C := Try.checked) (s := Rows.OpenSpec.upto Rows.pipeShutsSpec) (k := Rows.uptoSmall) rfl (F := F) own started (by kernel_rfl) Try.func9
    (OpenSpec.witness (enc := enc) (C := Try.checked) (s := Rows.OpenSpec.upto Rows.pipeShutsSpec) (k := Rows.uptoSmall) rfl (x := ([.agg [.lit (.int .i64 0), .nil, .lit (.bool false), .nil, .nil], .lit (.int .i64 0)], [], [])) false ⟨#[], #[.agg #[.int .i64 0, .slice none 0 0, .bool false, .slice none 0 0, .slice none 0 0], .int .i64 0], []⟩ 8 (by kernel_rfl) (by kernel_rfl) (by kernel_rfl) (by kernel_rfl) (by kernel_rfl) (by kernel_rfl)) ?_
  intro W base args ds gs before hval hW _ hk _
  exact law_contract Ts 12 (by kernel_rfl) rfl (fun ds h => by
    match ds, h with
    | [d0, d1], _ => rfl) (by kernel_rfl) (tb := 4) rfl (by kernel_rfl) W base args ds gs before hval (fun x _ hr => spec x _ hr hk) hW
theorem over : Rows.pipeShutsUptoRow.holds Try.pinned (Rows.OpenSpec.upto Rows.pipeShutsSpec) :=
  OpenClaim.holds_of_cond 9 Try.f9 rfl rfl rfl rfl rfl rfl rfl ⟨rfl, rfl, rfl, rfl, rfl⟩ rfl rfl rfl rfl rfl (by kernel_rfl) Try.func9 (by kernel_rfl)
    (of_decide_eq_true (by kernel_rfl)) (by unfold Func.isWrapper; first | (rw [if_pos (by decide +kernel)]; kernel_rfl) | (rw [if_neg (by decide +kernel)]; exact ⟨rfl, rfl⟩))
    (fun os started H enc _ F => lifted os started H enc F)
theorem proved : Rows.PipeShutsUptoSaid := over
end Go.Proofs.Ytconaimaibephaa.pipeShutsUpto
