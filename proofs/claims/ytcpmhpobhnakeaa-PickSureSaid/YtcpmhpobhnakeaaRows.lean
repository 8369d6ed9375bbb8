/-
  No cell of these rows narrows 'for every input' (looked for: loops, veiled, ifaces, maps, wideKeys, modest, calm, conditions, laid).
  DERIVED. THE GIVEN ROWS OF THIS SEAT. 6 by the template 'for every input the law returns true; each argument reads behind the call as it read before'; 0 by the template 'total and deterministic' (their statements: YtcpmhpobhnakeaaTotals.lean).
  GIVEN WITH THE SEED: the statements are not yours to turn. If you find one false, say at which input.
  Laid BY PROGRAM, IN A SANDBOX (cutbox-rows.mjs): the forced cells as the released guide's own fill.sh prints them over the translation 22fa7bf90477f622… (all of the seat's roots in one cut). By AI agents, Wed Nov 11 2026. No macro, syntax, notation, axiom, sorry.
-/
import Derived.Test.YtcpmhpobhnakeaaChecked
import GoSem.Claim
import GoSem.ClaimJoined
import GoSem.ClaimMapViews
import Derived.JoinedTies
import Derived.KernelRfl
namespace Go.Proofs.Ytcpmhpobhnakeaa
/- THE CELL 'sum', in the pinned program and in every row, IS THE sha256 OF THE DUMP (.gsa) THAT YtcpmhpobhnakeaaProg.lean LOADS. Nothing in Lean hashes anything: it is a label: what it is worth is what the hold of that sum in a sandbox is worth. -/
noncomputable def Try.pinned : Pinned := { name := "ytcpmhpobhnakeaa", sum := "22fa7bf90477f6225a291f06310b88ba38173491a0763e412cea7005950aca09", checked := Try.checked }
namespace Rows
def none {H : Type} : Left H := { results := [], args := [] }

/-- 'taskmilllaw.PickDoes': WHATEVER THE INPUT: true; the input reads as it did. -/
def pickDoesSpec : ChangeSpec := { name := "pickDoes", fn := fun _ => fun
  | [d1, d2, d3, d4, d5] => { results := [.lit (.bool true)], args := [d1, d2, d3, d4, d5] }
  | _ => none }
def pickDoesRow : OpenClaim := { program := "ytcpmhpobhnakeaa", sum := "22fa7bf90477f6225a291f06310b88ba38173491a0763e412cea7005950aca09", func := "taskmill/taskmilllaw.PickDoes", spec := "pickDoes", unfollowed := true, recurses := true, apart := false }
def PickDoesSaid : Prop := pickDoesRow.holds Try.pinned (OpenSpec.ofChange pickDoesSpec)

/-- ITS FALSE NEIGHBOUR: 'it returns false'. Refute it at one input. -/
def pickDoesWrong : ChangeSpec := { name := "pickDoes", fn := fun _ => fun
  | [d1, d2, d3, d4, d5] => { results := [.lit (.bool false)], args := [d1, d2, d3, d4, d5] }
  | _ => none }
def PickDoesWrongFalsely : Prop := pickDoesRow.holds Try.pinned (OpenSpec.ofChange pickDoesWrong)

/-- 'taskmilllaw.PickReady': WHATEVER THE INPUT: true; the input reads as it did. -/
def pickReadySpec : ChangeSpec := { name := "pickReady", fn := fun _ => fun
  | [d1, d2, d3] => { results := [.lit (.bool true)], args := [d1, d2, d3] }
  | _ => none }
def pickReadyRow : OpenClaim := { program := "ytcpmhpobhnakeaa", sum := "22fa7bf90477f6225a291f06310b88ba38173491a0763e412cea7005950aca09", func := "taskmill/taskmilllaw.PickReady", spec := "pickReady", unfollowed := true, recurses := true, apart := false }
def PickReadySaid : Prop := pickReadyRow.holds Try.pinned (OpenSpec.ofChange pickReadySpec)

/-- ITS FALSE NEIGHBOUR: 'it returns false'. Refute it at one input. -/
def pickReadyWrong : ChangeSpec := { name := "pickReady", fn := fun _ => fun
  | [d1, d2, d3] => { results := [.lit (.bool false)], args := [d1, d2, d3] }
  | _ => none }
def PickReadyWrongFalsely : Prop := pickReadyRow.holds Try.pinned (OpenSpec.ofChange pickReadyWrong)

/-- 'taskmilllaw.PickSure': WHATEVER THE INPUT: true; the input reads as it did. -/
def pickSureSpec : ChangeSpec := { name := "pickSure", fn := fun _ => fun
  | [d1, d2, d3, d4, d5] => { results := [.lit (.bool true)], args := [d1, d2, d3, d4, d5] }
  | _ => none }
def pickSureRow : OpenClaim := { program := "ytcpmhpobhnakeaa", sum := "22fa7bf90477f6225a291f06310b88ba38173491a0763e412cea7005950aca09", func := "taskmill/taskmilllaw.PickSure", spec := "pickSure", unfollowed := true, recurses := true, apart := false }
def PickSureSaid : Prop := pickSureRow.holds Try.pinned (OpenSpec.ofChange pickSureSpec)

/-- ITS FALSE NEIGHBOUR: 'it returns false'. Refute it at one input. -/
def pickSureWrong : ChangeSpec := { name := "pickSure", fn := fun _ => fun
  | [d1, d2, d3, d4, d5] => { results := [.lit (.bool false)], args := [d1, d2, d3, d4, d5] }
  | _ => none }
def PickSureWrongFalsely : Prop := pickSureRow.holds Try.pinned (OpenSpec.ofChange pickSureWrong)

/-- 'taskmilllaw.PickNobody': WHATEVER THE INPUT: true; the input reads as it did. -/
def pickNobodySpec : ChangeSpec := { name := "pickNobody", fn := fun _ => fun
  | [d1, d2] => { results := [.lit (.bool true)], args := [d1, d2] }
  | _ => none }
def pickNobodyRow : OpenClaim := { program := "ytcpmhpobhnakeaa", sum := "22fa7bf90477f6225a291f06310b88ba38173491a0763e412cea7005950aca09", func := "taskmill/taskmilllaw.PickNobody", spec := "pickNobody", unfollowed := true, recurses := true, apart := false }
def PickNobodySaid : Prop := pickNobodyRow.holds Try.pinned (OpenSpec.ofChange pickNobodySpec)

/-- ITS FALSE NEIGHBOUR: 'it returns false'. Refute it at one input. -/
def pickNobodyWrong : ChangeSpec := { name := "pickNobody", fn := fun _ => fun
  | [d1, d2] => { results := [.lit (.bool false)], args := [d1, d2] }
  | _ => none }
def PickNobodyWrongFalsely : Prop := pickNobodyRow.holds Try.pinned (OpenSpec.ofChange pickNobodyWrong)

/-- 'taskmilllaw.PickShuts': WHATEVER THE INPUT: true; the input reads as it did. -/
def pickShutsSpec : ChangeSpec := { name := "pickShuts", fn := fun _ => fun
  | [d1, d2, d3] => { results := [.lit (.bool true)], args := [d1, d2, d3] }
  | _ => none }
def pickShutsRow : OpenClaim := { program := "ytcpmhpobhnakeaa", sum := "22fa7bf90477f6225a291f06310b88ba38173491a0763e412cea7005950aca09", func := "taskmill/taskmilllaw.PickShuts", spec := "pickShuts", unfollowed := true, recurses := true, apart := false }
def PickShutsSaid : Prop := pickShutsRow.holds Try.pinned (OpenSpec.ofChange pickShutsSpec)

/-- ITS FALSE NEIGHBOUR: 'it returns false'. Refute it at one input. -/
def pickShutsWrong : ChangeSpec := { name := "pickShuts", fn := fun _ => fun
  | [d1, d2, d3] => { results := [.lit (.bool false)], args := [d1, d2, d3] }
  | _ => none }
def PickShutsWrongFalsely : Prop := pickShutsRow.holds Try.pinned (OpenSpec.ofChange pickShutsWrong)

/-- 'taskmilllaw.PickOne': WHATEVER THE INPUT: true; the input reads as it did. -/
def pickOneSpec : ChangeSpec := { name := "pickOne", fn := fun _ => fun
  | [d1, d2, d3, d4] => { results := [.lit (.bool true)], args := [d1, d2, d3, d4] }
  | _ => none }
def pickOneRow : OpenClaim := { program := "ytcpmhpobhnakeaa", sum := "22fa7bf90477f6225a291f06310b88ba38173491a0763e412cea7005950aca09", func := "taskmill/taskmilllaw.PickOne", spec := "pickOne", unfollowed := true, recurses := true, apart := false }
def PickOneSaid : Prop := pickOneRow.holds Try.pinned (OpenSpec.ofChange pickOneSpec)

/-- ITS FALSE NEIGHBOUR: 'it returns false'. Refute it at one input. -/
def pickOneWrong : ChangeSpec := { name := "pickOne", fn := fun _ => fun
  | [d1, d2, d3, d4] => { results := [.lit (.bool false)], args := [d1, d2, d3, d4] }
  | _ => none }
def PickOneWrongFalsely : Prop := pickOneRow.holds Try.pinned (OpenSpec.ofChange pickOneWrong)

/- THE SECOND FORM. 'bulk': how many values and letters a reading holds, each counted each time it is reached (what is shared counts as often as it is met; a slice's spare places count too). A statement '..UptoSaid' is the law's where the arguments, and the package variables that the reading takes, are together of bulk at most 1048576: NARROWER than '..Said'. Prove '..Said' where nothing that the law and all that it calls make is longer than what came in: it says more and counts as full. Else prove '..UptoSaid'. A law counts once. -/
mutual
def uptoBulk {H : Type} : DataW H → Nat
  | .lit (.string bytes) => bytes.length + 1
  | .lit _ => 1
  | .nil => 1
  | .ptr d => uptoBulk d + 1
  | .slice elems spare => uptoBulkAll elems + uptoBulkAll spare + 1
  | .agg parts => uptoBulkAll parts + 1
  | .iface _ d => uptoBulk d + 1
  | .map entries => uptoBulkEntries entries + 1
  | .held _ => 1
def uptoBulkAll {H : Type} : List (DataW H) → Nat
  | [] => 0
  | d :: r => uptoBulk d + uptoBulkAll r
def uptoBulkEntries {H : Type} : List (Lit × DataW H) → Nat
  | [] => 0
  | x :: r => uptoBulkEntry x + uptoBulkEntries r
def uptoBulkEntry {H : Type} : Lit × DataW H → Nat
  | (.string bytes, d) => bytes.length + uptoBulk d + 1
  | (_, d) => uptoBulk d + 1
 end
def uptoSmall : (H : Type) → List (DataW H) → Bool := fun _ ds => decide (uptoBulkAll ds ≤ 1048576)
def OpenSpec.upto (s : _root_.Go.ChangeSpec) : _root_.Go.OpenSpec := { _root_.Go.OpenSpec.ofChange s with cond := some uptoSmall }

/-- 'taskmilllaw.PickDoes', WHERE WHAT IT READS IS OF BULK AT MOST 1048576: true; the input reads as it did. -/
def pickDoesUptoRow : OpenClaim := { program := "ytcpmhpobhnakeaa", sum := "22fa7bf90477f6225a291f06310b88ba38173491a0763e412cea7005950aca09", func := "taskmill/taskmilllaw.PickDoes", spec := "pickDoes", unfollowed := true, recurses := true, apart := false, narrowed := true }
def PickDoesUptoSaid : Prop := pickDoesUptoRow.holds Try.pinned (OpenSpec.upto pickDoesSpec)

/-- 'taskmilllaw.PickReady', WHERE WHAT IT READS IS OF BULK AT MOST 1048576: true; the input reads as it did. -/
def pickReadyUptoRow : OpenClaim := { program := "ytcpmhpobhnakeaa", sum := "22fa7bf90477f6225a291f06310b88ba38173491a0763e412cea7005950aca09", func := "taskmill/taskmilllaw.PickReady", spec := "pickReady", unfollowed := true, recurses := true, apart := false, narrowed := true }
def PickReadyUptoSaid : Prop := pickReadyUptoRow.holds Try.pinned (OpenSpec.upto pickReadySpec)

/-- 'taskmilllaw.PickSure', WHERE WHAT IT READS IS OF BULK AT MOST 1048576: true; the input reads as it did. -/
def pickSureUptoRow : OpenClaim := { program := "ytcpmhpobhnakeaa", sum := "22fa7bf90477f6225a291f06310b88ba38173491a0763e412cea7005950aca09", func := "taskmill/taskmilllaw.PickSure", spec := "pickSure", unfollowed := true, recurses := true, apart := false, narrowed := true }
def PickSureUptoSaid : Prop := pickSureUptoRow.holds Try.pinned (OpenSpec.upto pickSureSpec)

/-- 'taskmilllaw.PickNobody', WHERE WHAT IT READS IS OF BULK AT MOST 1048576: true; the input reads as it did. -/
def pickNobodyUptoRow : OpenClaim := { program := "ytcpmhpobhnakeaa", sum := "22fa7bf90477f6225a291f06310b88ba38173491a0763e412cea7005950aca09", func := "taskmill/taskmilllaw.PickNobody", spec := "pickNobody", unfollowed := true, recurses := true, apart := false, narrowed := true }
def PickNobodyUptoSaid : Prop := pickNobodyUptoRow.holds Try.pinned (OpenSpec.upto pickNobodySpec)

/-- 'taskmilllaw.PickShuts', WHERE WHAT IT READS IS OF BULK AT MOST 1048576: true; the input reads as it did. -/
def pickShutsUptoRow : OpenClaim := { program := "ytcpmhpobhnakeaa", sum := "22fa7bf90477f6225a291f06310b88ba38173491a0763e412cea7005950aca09", func := "taskmill/taskmilllaw.PickShuts", spec := "pickShuts", unfollowed := true, recurses := true, apart := false, narrowed := true }
def PickShutsUptoSaid : Prop := pickShutsUptoRow.holds Try.pinned (OpenSpec.upto pickShutsSpec)

/-- 'taskmilllaw.PickOne', WHERE WHAT IT READS IS OF BULK AT MOST 1048576: true; the input reads as it did. -/
def pickOneUptoRow : OpenClaim := { program := "ytcpmhpobhnakeaa", sum := "22fa7bf90477f6225a291f06310b88ba38173491a0763e412cea7005950aca09", func := "taskmill/taskmilllaw.PickOne", spec := "pickOne", unfollowed := true, recurses := true, apart := false, narrowed := true }
def PickOneUptoSaid : Prop := pickOneUptoRow.holds Try.pinned (OpenSpec.upto pickOneSpec)

end Rows
end Go.Proofs.Ytcpmhpobhnakeaa
