/-
  No cell of these rows narrows 'for every input' (looked for: loops, veiled, ifaces, maps, wideKeys, modest, calm, conditions, laid).
  DERIVED. THE GIVEN ROWS OF THIS SEAT. 5 by the template 'for every input the law returns true; each argument reads behind the call as it read before'; 0 by the template 'total and deterministic' (their statements: YtfgedphhlilpgaaTotals.lean).
  GIVEN WITH THE SEED: the statements are not yours to turn. If you find one false, say at which input.
  Laid BY PROGRAM, IN A SANDBOX (cutbox-rows.mjs): the forced cells as the released guide's own fill.sh prints them over the translation d0aedffa8bfbf288… (all of the seat's roots in one cut). By AI agents, Wed Nov 11 2026. No macro, syntax, notation, axiom, sorry.
-/
import Derived.Test.YtfgedphhlilpgaaChecked
import GoSem.Claim
import GoSem.ClaimJoined
import GoSem.ClaimMapViews
import Derived.JoinedTies
import Derived.KernelRfl
namespace Go.Proofs.Ytfgedphhlilpgaa
/- THE CELL 'sum', in the pinned program and in every row, IS THE sha256 OF THE DUMP (.gsa) THAT YtfgedphhlilpgaaProg.lean LOADS. Nothing in Lean hashes anything: it is a label: what it is worth is what the hold of that sum in a sandbox is worth. -/
noncomputable def Try.pinned : Pinned := { name := "ytfgedphhlilpgaa", sum := "d0aedffa8bfbf28831cc1fa1a6d07c55128184998cb9cb86ad83a80f5f31578e", checked := Try.checked }
namespace Rows
def none {H : Type} : Left H := { results := [], args := [] }

/-- 'taskmilllaw.ClockPasses': WHATEVER THE INPUT: true; the input reads as it did. -/
def clockPassesSpec : ChangeSpec := { name := "clockPasses", fn := fun _ => fun
  | [d1, d2] => { results := [.lit (.bool true)], args := [d1, d2] }
  | _ => none }
def clockPassesRow : OpenClaim := { program := "ytfgedphhlilpgaa", sum := "d0aedffa8bfbf28831cc1fa1a6d07c55128184998cb9cb86ad83a80f5f31578e", func := "taskmill/taskmilllaw.ClockPasses", spec := "clockPasses", inPlace := ["slices.overlaps[taskmill/api.Alarm]"], unfollowed := true, recurses := true, apart := false }
def ClockPassesSaid : Prop := clockPassesRow.holds Try.pinned (OpenSpec.ofChange clockPassesSpec)

/-- ITS FALSE NEIGHBOUR: 'it returns false'. Refute it at one input. -/
def clockPassesWrong : ChangeSpec := { name := "clockPasses", fn := fun _ => fun
  | [d1, d2] => { results := [.lit (.bool false)], args := [d1, d2] }
  | _ => none }
def ClockPassesWrongFalsely : Prop := clockPassesRow.holds Try.pinned (OpenSpec.ofChange clockPassesWrong)

/-- 'taskmilllaw.ClockHalves': WHATEVER THE INPUT: true; the input reads as it did. -/
def clockHalvesSpec : ChangeSpec := { name := "clockHalves", fn := fun _ => fun
  | [d1, d2, d3] => { results := [.lit (.bool true)], args := [d1, d2, d3] }
  | _ => none }
def clockHalvesRow : OpenClaim := { program := "ytfgedphhlilpgaa", sum := "d0aedffa8bfbf28831cc1fa1a6d07c55128184998cb9cb86ad83a80f5f31578e", func := "taskmill/taskmilllaw.ClockHalves", spec := "clockHalves", inPlace := ["slices.overlaps[taskmill/api.Alarm]"], unfollowed := true, recurses := true, apart := false }
def ClockHalvesSaid : Prop := clockHalvesRow.holds Try.pinned (OpenSpec.ofChange clockHalvesSpec)

/-- ITS FALSE NEIGHBOUR: 'it returns false'. Refute it at one input. -/
def clockHalvesWrong : ChangeSpec := { name := "clockHalves", fn := fun _ => fun
  | [d1, d2, d3] => { results := [.lit (.bool false)], args := [d1, d2, d3] }
  | _ => none }
def ClockHalvesWrongFalsely : Prop := clockHalvesRow.holds Try.pinned (OpenSpec.ofChange clockHalvesWrong)

/-- 'taskmilllaw.ClockTurns': WHATEVER THE INPUT: true; the input reads as it did. -/
def clockTurnsSpec : ChangeSpec := { name := "clockTurns", fn := fun _ => fun
  | [d1, d2] => { results := [.lit (.bool true)], args := [d1, d2] }
  | _ => none }
def clockTurnsRow : OpenClaim := { program := "ytfgedphhlilpgaa", sum := "d0aedffa8bfbf28831cc1fa1a6d07c55128184998cb9cb86ad83a80f5f31578e", func := "taskmill/taskmilllaw.ClockTurns", spec := "clockTurns", inPlace := ["slices.overlaps[taskmill/api.Alarm]"], unfollowed := true, recurses := true, apart := false }
def ClockTurnsSaid : Prop := clockTurnsRow.holds Try.pinned (OpenSpec.ofChange clockTurnsSpec)

/-- ITS FALSE NEIGHBOUR: 'it returns false'. Refute it at one input. -/
def clockTurnsWrong : ChangeSpec := { name := "clockTurns", fn := fun _ => fun
  | [d1, d2] => { results := [.lit (.bool false)], args := [d1, d2] }
  | _ => none }
def ClockTurnsWrongFalsely : Prop := clockTurnsRow.holds Try.pinned (OpenSpec.ofChange clockTurnsWrong)

/-- 'taskmilllaw.ClockTimes': WHATEVER THE INPUT: true; the input reads as it did. -/
def clockTimesSpec : ChangeSpec := { name := "clockTimes", fn := fun _ => fun
  | [d1, d2, d3, d4, d5] => { results := [.lit (.bool true)], args := [d1, d2, d3, d4, d5] }
  | _ => none }
def clockTimesRow : OpenClaim := { program := "ytfgedphhlilpgaa", sum := "d0aedffa8bfbf28831cc1fa1a6d07c55128184998cb9cb86ad83a80f5f31578e", func := "taskmill/taskmilllaw.ClockTimes", spec := "clockTimes", inPlace := ["slices.overlaps[taskmill/api.Alarm]"], unfollowed := true, recurses := true, apart := false }
def ClockTimesSaid : Prop := clockTimesRow.holds Try.pinned (OpenSpec.ofChange clockTimesSpec)

/-- ITS FALSE NEIGHBOUR: 'it returns false'. Refute it at one input. -/
def clockTimesWrong : ChangeSpec := { name := "clockTimes", fn := fun _ => fun
  | [d1, d2, d3, d4, d5] => { results := [.lit (.bool false)], args := [d1, d2, d3, d4, d5] }
  | _ => none }
def ClockTimesWrongFalsely : Prop := clockTimesRow.holds Try.pinned (OpenSpec.ofChange clockTimesWrong)

/-- 'taskmilllaw.ClockSets': WHATEVER THE INPUT: true; the input reads as it did. -/
def clockSetsSpec : ChangeSpec := { name := "clockSets", fn := fun _ => fun
  | [d1, d2, d3, d4] => { results := [.lit (.bool true)], args := [d1, d2, d3, d4] }
  | _ => none }
def clockSetsRow : OpenClaim := { program := "ytfgedphhlilpgaa", sum := "d0aedffa8bfbf28831cc1fa1a6d07c55128184998cb9cb86ad83a80f5f31578e", func := "taskmill/taskmilllaw.ClockSets", spec := "clockSets", inPlace := ["slices.overlaps[taskmill/api.Alarm]"], unfollowed := true, recurses := true, apart := false }
def ClockSetsSaid : Prop := clockSetsRow.holds Try.pinned (OpenSpec.ofChange clockSetsSpec)

/-- ITS FALSE NEIGHBOUR: 'it returns false'. Refute it at one input. -/
def clockSetsWrong : ChangeSpec := { name := "clockSets", fn := fun _ => fun
  | [d1, d2, d3, d4] => { results := [.lit (.bool false)], args := [d1, d2, d3, d4] }
  | _ => none }
def ClockSetsWrongFalsely : Prop := clockSetsRow.holds Try.pinned (OpenSpec.ofChange clockSetsWrong)

/- THE SECOND FORM. 'bulk': how many values and letters a reading holds, each counted each time it is reached (what is shared counts as often as it is met; a slice's spare places count too). A statement '..UptoSaid' is the law's where the arguments, and the package variables that the reading takes, are together of bulk at most 1048576: NARROWER than '..Said'. Prove '..Said' where nothing that the law and all that it calls make is longer than what came in: it says more and counts as full. Else prove '..UptoSaid'. A law counts once. -/
mutual
def uptoBulk {H : Type} : DataW H → Nat
  | .lit (.string bytes) => bytes.length + 1
  | .lit _ => 1
  | .nil => 1
  | .ptr d => uptoBulk d + 1
  | .slice elems spare => uptoBulkAll elems + uptoBulkAll spare + 1
  | .agg parts => uptoBulkAll parts + 1
  | .iface _ d => uptoBulk d + 1
  | .map entries => uptoBulkEntries entries + 1
  | .held _ => 1
def uptoBulkAll {H : Type} : List (DataW H) → Nat
  | [] => 0
  | d :: r => uptoBulk d + uptoBulkAll r
def uptoBulkEntries {H : Type} : List (Lit × DataW H) → Nat
  | [] => 0
  | x :: r => uptoBulkEntry x + uptoBulkEntries r
def uptoBulkEntry {H : Type} : Lit × DataW H → Nat
  | (.string bytes, d) => bytes.length + uptoBulk d + 1
  | (_, d) => uptoBulk d + 1
 end
def uptoSmall : (H : Type) → List (DataW H) → Bool := fun _ ds => decide (uptoBulkAll ds ≤ 1048576)
def OpenSpec.upto (s : _root_.Go.ChangeSpec) : _root_.Go.OpenSpec := { _root_.Go.OpenSpec.ofChange s with cond := some uptoSmall }

/-- 'taskmilllaw.ClockPasses', WHERE WHAT IT READS IS OF BULK AT MOST 1048576: true; the input reads as it did. -/
def clockPassesUptoRow : OpenClaim := { program := "ytfgedphhlilpgaa", sum := "d0aedffa8bfbf28831cc1fa1a6d07c55128184998cb9cb86ad83a80f5f31578e", func := "taskmill/taskmilllaw.ClockPasses", spec := "clockPasses", inPlace := ["slices.overlaps[taskmill/api.Alarm]"], unfollowed := true, recurses := true, apart := false, narrowed := true }
def ClockPassesUptoSaid : Prop := clockPassesUptoRow.holds Try.pinned (OpenSpec.upto clockPassesSpec)

/-- 'taskmilllaw.ClockHalves', WHERE WHAT IT READS IS OF BULK AT MOST 1048576: true; the input reads as it did. -/
def clockHalvesUptoRow : OpenClaim := { program := "ytfgedphhlilpgaa", sum := "d0aedffa8bfbf28831cc1fa1a6d07c55128184998cb9cb86ad83a80f5f31578e", func := "taskmill/taskmilllaw.ClockHalves", spec := "clockHalves", inPlace := ["slices.overlaps[taskmill/api.Alarm]"], unfollowed := true, recurses := true, apart := false, narrowed := true }
def ClockHalvesUptoSaid : Prop := clockHalvesUptoRow.holds Try.pinned (OpenSpec.upto clockHalvesSpec)

/-- 'taskmilllaw.ClockTurns', WHERE WHAT IT READS IS OF BULK AT MOST 1048576: true; the input reads as it did. -/
def clockTurnsUptoRow : OpenClaim := { program := "ytfgedphhlilpgaa", sum := "d0aedffa8bfbf28831cc1fa1a6d07c55128184998cb9cb86ad83a80f5f31578e", func := "taskmill/taskmilllaw.ClockTurns", spec := "clockTurns", inPlace := ["slices.overlaps[taskmill/api.Alarm]"], unfollowed := true, recurses := true, apart := false, narrowed := true }
def ClockTurnsUptoSaid : Prop := clockTurnsUptoRow.holds Try.pinned (OpenSpec.upto clockTurnsSpec)

/-- 'taskmilllaw.ClockTimes', WHERE WHAT IT READS IS OF BULK AT MOST 1048576: true; the input reads as it did. -/
def clockTimesUptoRow : OpenClaim := { program := "ytfgedphhlilpgaa", sum := "d0aedffa8bfbf28831cc1fa1a6d07c55128184998cb9cb86ad83a80f5f31578e", func := "taskmill/taskmilllaw.ClockTimes", spec := "clockTimes", inPlace := ["slices.overlaps[taskmill/api.Alarm]"], unfollowed := true, recurses := true, apart := false, narrowed := true }
def ClockTimesUptoSaid : Prop := clockTimesUptoRow.holds Try.pinned (OpenSpec.upto clockTimesSpec)

/-- 'taskmilllaw.ClockSets', WHERE WHAT IT READS IS OF BULK AT MOST 1048576: true; the input reads as it did. -/
def clockSetsUptoRow : OpenClaim := { program := "ytfgedphhlilpgaa", sum := "d0aedffa8bfbf28831cc1fa1a6d07c55128184998cb9cb86ad83a80f5f31578e", func := "taskmill/taskmilllaw.ClockSets", spec := "clockSets", inPlace := ["slices.overlaps[taskmill/api.Alarm]"], unfollowed := true, recurses := true, apart := false, narrowed := true }
def ClockSetsUptoSaid : Prop := clockSetsUptoRow.holds Try.pinned (OpenSpec.upto clockSetsSpec)

end Rows
end Go.Proofs.Ytfgedphhlilpgaa
