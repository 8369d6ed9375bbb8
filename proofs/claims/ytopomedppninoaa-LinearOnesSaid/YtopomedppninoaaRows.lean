/-
  No cell of these rows narrows 'for every input' (looked for: loops, veiled, ifaces, maps, wideKeys, modest, calm, conditions, laid).
  DERIVED. THE GIVEN ROWS OF THIS SEAT. 5 by the template 'for every input the law returns true; each argument reads behind the call as it read before'; 0 by the template 'total and deterministic' (their statements: YtopomedppninoaaTotals.lean).
  GIVEN WITH THE SEED: the statements are not yours to turn. If you find one false, say at which input.
  Laid BY PROGRAM, IN A SANDBOX (cutbox-rows.mjs): the forced cells as the released guide's own fill.sh prints them over the translation d368a18a8368a976… (all of the seat's roots in one cut). By AI agents, Wed Nov 11 2026. No macro, syntax, notation, axiom, sorry.
-/
import Derived.Test.YtopomedppninoaaChecked
import GoSem.Claim
import GoSem.ClaimJoined
import GoSem.ClaimMapViews
import Derived.JoinedTies
import Derived.KernelRfl
namespace Go.Proofs.Ytopomedppninoaa
/- THE CELL 'sum', in the pinned program and in every row, IS THE sha256 OF THE DUMP (.gsa) THAT YtopomedppninoaaProg.lean LOADS. Nothing in Lean hashes anything: it is a label: what it is worth is what the hold of that sum in a sandbox is worth. -/
noncomputable def Try.pinned : Pinned := { name := "ytopomedppninoaa", sum := "d368a18a8368a9762efbee982fa31be6a9fc327c08a73947111fb76bc380832d", checked := Try.checked }
namespace Rows
def none {H : Type} : Left H := { results := [], args := [] }

/-- 'taskmilllaw.LinearFinds': WHATEVER THE INPUT: true; the input reads as it did. -/
def linearFindsSpec : ChangeSpec := { name := "linearFinds", fn := fun _ => fun
  | [d1, d2] => { results := [.lit (.bool true)], args := [d1, d2] }
  | _ => none }
def linearFindsRow : OpenClaim := { program := "ytopomedppninoaa", sum := "d368a18a8368a9762efbee982fa31be6a9fc327c08a73947111fb76bc380832d", func := "taskmill/taskmilllaw.LinearFinds", spec := "linearFinds", unfollowed := true, recurses := true, plainKeys := false, apart := false }
def LinearFindsSaid : Prop := linearFindsRow.holds Try.pinned (OpenSpec.ofChange linearFindsSpec)

/-- ITS FALSE NEIGHBOUR: 'it returns false'. Refute it at one input. -/
def linearFindsWrong : ChangeSpec := { name := "linearFinds", fn := fun _ => fun
  | [d1, d2] => { results := [.lit (.bool false)], args := [d1, d2] }
  | _ => none }
def LinearFindsWrongFalsely : Prop := linearFindsRow.holds Try.pinned (OpenSpec.ofChange linearFindsWrong)

/-- 'taskmilllaw.LinearOnes': WHATEVER THE INPUT: true; the input reads as it did. -/
def linearOnesSpec : ChangeSpec := { name := "linearOnes", fn := fun _ => fun
  | [d1, d2] => { results := [.lit (.bool true)], args := [d1, d2] }
  | _ => none }
def linearOnesRow : OpenClaim := { program := "ytopomedppninoaa", sum := "d368a18a8368a9762efbee982fa31be6a9fc327c08a73947111fb76bc380832d", func := "taskmill/taskmilllaw.LinearOnes", spec := "linearOnes", unfollowed := true, recurses := true, plainKeys := false, apart := false }
def LinearOnesSaid : Prop := linearOnesRow.holds Try.pinned (OpenSpec.ofChange linearOnesSpec)

/-- ITS FALSE NEIGHBOUR: 'it returns false'. Refute it at one input. -/
def linearOnesWrong : ChangeSpec := { name := "linearOnes", fn := fun _ => fun
  | [d1, d2] => { results := [.lit (.bool false)], args := [d1, d2] }
  | _ => none }
def LinearOnesWrongFalsely : Prop := linearOnesRow.holds Try.pinned (OpenSpec.ofChange linearOnesWrong)

/-- 'taskmilllaw.LinearDrops': WHATEVER THE INPUT: true; the input reads as it did. -/
def linearDropsSpec : ChangeSpec := { name := "linearDrops", fn := fun _ => fun
  | [d1, d2] => { results := [.lit (.bool true)], args := [d1, d2] }
  | _ => none }
def linearDropsRow : OpenClaim := { program := "ytopomedppninoaa", sum := "d368a18a8368a9762efbee982fa31be6a9fc327c08a73947111fb76bc380832d", func := "taskmill/taskmilllaw.LinearDrops", spec := "linearDrops", unfollowed := true, recurses := true, plainKeys := false, apart := false }
def LinearDropsSaid : Prop := linearDropsRow.holds Try.pinned (OpenSpec.ofChange linearDropsSpec)

/-- ITS FALSE NEIGHBOUR: 'it returns false'. Refute it at one input. -/
def linearDropsWrong : ChangeSpec := { name := "linearDrops", fn := fun _ => fun
  | [d1, d2] => { results := [.lit (.bool false)], args := [d1, d2] }
  | _ => none }
def LinearDropsWrongFalsely : Prop := linearDropsRow.holds Try.pinned (OpenSpec.ofChange linearDropsWrong)

/-- 'taskmilllaw.LinearPlays': WHATEVER THE INPUT: true; the input reads as it did. -/
def linearPlaysSpec : ChangeSpec := { name := "linearPlays", fn := fun _ => fun
  | [d1, d2, d3] => { results := [.lit (.bool true)], args := [d1, d2, d3] }
  | _ => none }
def linearPlaysRow : OpenClaim := { program := "ytopomedppninoaa", sum := "d368a18a8368a9762efbee982fa31be6a9fc327c08a73947111fb76bc380832d", func := "taskmill/taskmilllaw.LinearPlays", spec := "linearPlays", unfollowed := true, recurses := true, plainKeys := false, apart := false }
def LinearPlaysSaid : Prop := linearPlaysRow.holds Try.pinned (OpenSpec.ofChange linearPlaysSpec)

/-- ITS FALSE NEIGHBOUR: 'it returns false'. Refute it at one input. -/
def linearPlaysWrong : ChangeSpec := { name := "linearPlays", fn := fun _ => fun
  | [d1, d2, d3] => { results := [.lit (.bool false)], args := [d1, d2, d3] }
  | _ => none }
def LinearPlaysWrongFalsely : Prop := linearPlaysRow.holds Try.pinned (OpenSpec.ofChange linearPlaysWrong)

/-- 'taskmilllaw.LinearWider': WHATEVER THE INPUT: true; the input reads as it did. -/
def linearWiderSpec : ChangeSpec := { name := "linearWider", fn := fun _ => fun
  | [d1, d2, d3, d4, d5] => { results := [.lit (.bool true)], args := [d1, d2, d3, d4, d5] }
  | _ => none }
def linearWiderRow : OpenClaim := { program := "ytopomedppninoaa", sum := "d368a18a8368a9762efbee982fa31be6a9fc327c08a73947111fb76bc380832d", func := "taskmill/taskmilllaw.LinearWider", spec := "linearWider", unfollowed := true, recurses := true, plainKeys := false, apart := false }
def LinearWiderSaid : Prop := linearWiderRow.holds Try.pinned (OpenSpec.ofChange linearWiderSpec)

/-- ITS FALSE NEIGHBOUR: 'it returns false'. Refute it at one input. -/
def linearWiderWrong : ChangeSpec := { name := "linearWider", fn := fun _ => fun
  | [d1, d2, d3, d4, d5] => { results := [.lit (.bool false)], args := [d1, d2, d3, d4, d5] }
  | _ => none }
def LinearWiderWrongFalsely : Prop := linearWiderRow.holds Try.pinned (OpenSpec.ofChange linearWiderWrong)

/- THE SECOND FORM. 'bulk': how many values and letters a reading holds, each counted each time it is reached (what is shared counts as often as it is met; a slice's spare places count too). A statement '..UptoSaid' is the law's where the arguments, and the package variables that the reading takes, are together of bulk at most 1048576: NARROWER than '..Said'. Prove '..Said' where nothing that the law and all that it calls make is longer than what came in: it says more and counts as full. Else prove '..UptoSaid'. A law counts once. -/
mutual
def uptoBulk {H : Type} : DataW H → Nat
  | .lit (.string bytes) => bytes.length + 1
  | .lit _ => 1
  | .nil => 1
  | .ptr d => uptoBulk d + 1
  | .slice elems spare => uptoBulkAll elems + uptoBulkAll spare + 1
  | .agg parts => uptoBulkAll parts + 1
  | .iface _ d => uptoBulk d + 1
  | .map entries => uptoBulkEntries entries + 1
  | .held _ => 1
def uptoBulkAll {H : Type} : List (DataW H) → Nat
  | [] => 0
  | d :: r => uptoBulk d + uptoBulkAll r
def uptoBulkEntries {H : Type} : List (Lit × DataW H) → Nat
  | [] => 0
  | x :: r => uptoBulkEntry x + uptoBulkEntries r
def uptoBulkEntry {H : Type} : Lit × DataW H → Nat
  | (.string bytes, d) => bytes.length + uptoBulk d + 1
  | (_, d) => uptoBulk d + 1
 end
def uptoSmall : (H : Type) → List (DataW H) → Bool := fun _ ds => decide (uptoBulkAll ds ≤ 1048576)
def OpenSpec.upto (s : _root_.Go.ChangeSpec) : _root_.Go.OpenSpec := { _root_.Go.OpenSpec.ofChange s with cond := some uptoSmall }

/-- 'taskmilllaw.LinearFinds', WHERE WHAT IT READS IS OF BULK AT MOST 1048576: true; the input reads as it did. -/
def linearFindsUptoRow : OpenClaim := { program := "ytopomedppninoaa", sum := "d368a18a8368a9762efbee982fa31be6a9fc327c08a73947111fb76bc380832d", func := "taskmill/taskmilllaw.LinearFinds", spec := "linearFinds", unfollowed := true, recurses := true, plainKeys := false, apart := false, narrowed := true }
def LinearFindsUptoSaid : Prop := linearFindsUptoRow.holds Try.pinned (OpenSpec.upto linearFindsSpec)

/-- 'taskmilllaw.LinearOnes', WHERE WHAT IT READS IS OF BULK AT MOST 1048576: true; the input reads as it did. -/
def linearOnesUptoRow : OpenClaim := { program := "ytopomedppninoaa", sum := "d368a18a8368a9762efbee982fa31be6a9fc327c08a73947111fb76bc380832d", func := "taskmill/taskmilllaw.LinearOnes", spec := "linearOnes", unfollowed := true, recurses := true, plainKeys := false, apart := false, narrowed := true }
def LinearOnesUptoSaid : Prop := linearOnesUptoRow.holds Try.pinned (OpenSpec.upto linearOnesSpec)

/-- 'taskmilllaw.LinearDrops', WHERE WHAT IT READS IS OF BULK AT MOST 1048576: true; the input reads as it did. -/
def linearDropsUptoRow : OpenClaim := { program := "ytopomedppninoaa", sum := "d368a18a8368a9762efbee982fa31be6a9fc327c08a73947111fb76bc380832d", func := "taskmill/taskmilllaw.LinearDrops", spec := "linearDrops", unfollowed := true, recurses := true, plainKeys := false, apart := false, narrowed := true }
def LinearDropsUptoSaid : Prop := linearDropsUptoRow.holds Try.pinned (OpenSpec.upto linearDropsSpec)

/-- 'taskmilllaw.LinearPlays', WHERE WHAT IT READS IS OF BULK AT MOST 1048576: true; the input reads as it did. -/
def linearPlaysUptoRow : OpenClaim := { program := "ytopomedppninoaa", sum := "d368a18a8368a9762efbee982fa31be6a9fc327c08a73947111fb76bc380832d", func := "taskmill/taskmilllaw.LinearPlays", spec := "linearPlays", unfollowed := true, recurses := true, plainKeys := false, apart := false, narrowed := true }
def LinearPlaysUptoSaid : Prop := linearPlaysUptoRow.holds Try.pinned (OpenSpec.upto linearPlaysSpec)

/-- 'taskmilllaw.LinearWider', WHERE WHAT IT READS IS OF BULK AT MOST 1048576: true; the input reads as it did. -/
def linearWiderUptoRow : OpenClaim := { program := "ytopomedppninoaa", sum := "d368a18a8368a9762efbee982fa31be6a9fc327c08a73947111fb76bc380832d", func := "taskmill/taskmilllaw.LinearWider", spec := "linearWider", unfollowed := true, recurses := true, plainKeys := false, apart := false, narrowed := true }
def LinearWiderUptoSaid : Prop := linearWiderUptoRow.holds Try.pinned (OpenSpec.upto linearWiderSpec)

end Rows
end Go.Proofs.Ytopomedppninoaa
