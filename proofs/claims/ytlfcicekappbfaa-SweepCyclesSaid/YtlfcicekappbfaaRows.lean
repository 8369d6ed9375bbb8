/-
  No cell of these rows narrows 'for every input' (looked for: loops, veiled, ifaces, maps, wideKeys, modest, calm, conditions, laid).
  DERIVED. THE GIVEN ROWS OF THIS SEAT. 5 by the template 'for every input the law returns true; each argument reads behind the call as it read before'; 0 by the template 'total and deterministic' (their statements: YtlfcicekappbfaaTotals.lean).
  GIVEN WITH THE SEED: the statements are not yours to turn. If you find one false, say at which input.
  Laid BY PROGRAM, IN A SANDBOX (cutbox-rows.mjs): the forced cells as the released guide's own fill.sh prints them over the translation 863298618757fe7d… (all of the seat's roots in one cut). By AI agents, Wed Nov 11 2026. No macro, syntax, notation, axiom, sorry.
-/
import Derived.Test.YtlfcicekappbfaaChecked
import GoSem.Claim
import GoSem.ClaimJoined
import GoSem.ClaimMapViews
import Derived.JoinedTies
import Derived.KernelRfl
namespace Go.Proofs.Ytlfcicekappbfaa
/- THE CELL 'sum', in the pinned program and in every row, IS THE sha256 OF THE DUMP (.gsa) THAT YtlfcicekappbfaaProg.lean LOADS. Nothing in Lean hashes anything: it is a label: what it is worth is what the hold of that sum in a sandbox is worth. -/
noncomputable def Try.pinned : Pinned := { name := "ytlfcicekappbfaa", sum := "863298618757fe7d08d502c4512ca662737bdcdddc01df2adcdf1127a4a294d1", checked := Try.checked }
namespace Rows
def none {H : Type} : Left H := { results := [], args := [] }

/-- 'taskmilllaw.SweepLost': WHATEVER THE INPUT: true; the input reads as it did. -/
def sweepLostSpec : ChangeSpec := { name := "sweepLost", fn := fun _ => fun
  | [d] => { results := [.lit (.bool true)], args := [d] }
  | _ => none }
def sweepLostRow : OpenClaim := { program := "ytlfcicekappbfaa", sum := "863298618757fe7d08d502c4512ca662737bdcdddc01df2adcdf1127a4a294d1", func := "taskmill/taskmilllaw.SweepLost", spec := "sweepLost", unfollowed := true, recurses := true, apart := false }
def SweepLostSaid : Prop := sweepLostRow.holds Try.pinned (OpenSpec.ofChange sweepLostSpec)

/-- ITS FALSE NEIGHBOUR: 'it returns false'. Refute it at one input. -/
def sweepLostWrong : ChangeSpec := { name := "sweepLost", fn := fun _ => fun
  | [d] => { results := [.lit (.bool false)], args := [d] }
  | _ => none }
def SweepLostWrongFalsely : Prop := sweepLostRow.holds Try.pinned (OpenSpec.ofChange sweepLostWrong)

/-- 'taskmilllaw.SweepCycles': WHATEVER THE INPUT: true; the input reads as it did. -/
def sweepCyclesSpec : ChangeSpec := { name := "sweepCycles", fn := fun _ => fun
  | [d1, d2, d3] => { results := [.lit (.bool true)], args := [d1, d2, d3] }
  | _ => none }
def sweepCyclesRow : OpenClaim := { program := "ytlfcicekappbfaa", sum := "863298618757fe7d08d502c4512ca662737bdcdddc01df2adcdf1127a4a294d1", func := "taskmill/taskmilllaw.SweepCycles", spec := "sweepCycles", apart := false }
def SweepCyclesSaid : Prop := sweepCyclesRow.holds Try.pinned (OpenSpec.ofChange sweepCyclesSpec)

/-- ITS FALSE NEIGHBOUR: 'it returns false'. Refute it at one input. -/
def sweepCyclesWrong : ChangeSpec := { name := "sweepCycles", fn := fun _ => fun
  | [d1, d2, d3] => { results := [.lit (.bool false)], args := [d1, d2, d3] }
  | _ => none }
def SweepCyclesWrongFalsely : Prop := sweepCyclesRow.holds Try.pinned (OpenSpec.ofChange sweepCyclesWrong)

/-- 'taskmilllaw.SweepSafe': WHATEVER THE INPUT: true; the input reads as it did. -/
def sweepSafeSpec : ChangeSpec := { name := "sweepSafe", fn := fun _ => fun
  | [d1, d2, d3] => { results := [.lit (.bool true)], args := [d1, d2, d3] }
  | _ => none }
def sweepSafeRow : OpenClaim := { program := "ytlfcicekappbfaa", sum := "863298618757fe7d08d502c4512ca662737bdcdddc01df2adcdf1127a4a294d1", func := "taskmill/taskmilllaw.SweepSafe", spec := "sweepSafe", apart := false }
def SweepSafeSaid : Prop := sweepSafeRow.holds Try.pinned (OpenSpec.ofChange sweepSafeSpec)

/-- ITS FALSE NEIGHBOUR: 'it returns false'. Refute it at one input. -/
def sweepSafeWrong : ChangeSpec := { name := "sweepSafe", fn := fun _ => fun
  | [d1, d2, d3] => { results := [.lit (.bool false)], args := [d1, d2, d3] }
  | _ => none }
def SweepSafeWrongFalsely : Prop := sweepSafeRow.holds Try.pinned (OpenSpec.ofChange sweepSafeWrong)

/-- 'taskmilllaw.SweepSnapshot': WHATEVER THE INPUT: true; the input reads as it did. -/
def sweepSnapshotSpec : ChangeSpec := { name := "sweepSnapshot", fn := fun _ => fun
  | [d1, d2, d3] => { results := [.lit (.bool true)], args := [d1, d2, d3] }
  | _ => none }
def sweepSnapshotRow : OpenClaim := { program := "ytlfcicekappbfaa", sum := "863298618757fe7d08d502c4512ca662737bdcdddc01df2adcdf1127a4a294d1", func := "taskmill/taskmilllaw.SweepSnapshot", spec := "sweepSnapshot", apart := false }
def SweepSnapshotSaid : Prop := sweepSnapshotRow.holds Try.pinned (OpenSpec.ofChange sweepSnapshotSpec)

/-- ITS FALSE NEIGHBOUR: 'it returns false'. Refute it at one input. -/
def sweepSnapshotWrong : ChangeSpec := { name := "sweepSnapshot", fn := fun _ => fun
  | [d1, d2, d3] => { results := [.lit (.bool false)], args := [d1, d2, d3] }
  | _ => none }
def SweepSnapshotWrongFalsely : Prop := sweepSnapshotRow.holds Try.pinned (OpenSpec.ofChange sweepSnapshotWrong)

/-- 'taskmilllaw.SweepStopped': WHATEVER THE INPUT: true; the input reads as it did. -/
def sweepStoppedSpec : ChangeSpec := { name := "sweepStopped", fn := fun _ => fun
  | [d1, d2, d3] => { results := [.lit (.bool true)], args := [d1, d2, d3] }
  | _ => none }
def sweepStoppedRow : OpenClaim := { program := "ytlfcicekappbfaa", sum := "863298618757fe7d08d502c4512ca662737bdcdddc01df2adcdf1127a4a294d1", func := "taskmill/taskmilllaw.SweepStopped", spec := "sweepStopped", apart := false }
def SweepStoppedSaid : Prop := sweepStoppedRow.holds Try.pinned (OpenSpec.ofChange sweepStoppedSpec)

/-- ITS FALSE NEIGHBOUR: 'it returns false'. Refute it at one input. -/
def sweepStoppedWrong : ChangeSpec := { name := "sweepStopped", fn := fun _ => fun
  | [d1, d2, d3] => { results := [.lit (.bool false)], args := [d1, d2, d3] }
  | _ => none }
def SweepStoppedWrongFalsely : Prop := sweepStoppedRow.holds Try.pinned (OpenSpec.ofChange sweepStoppedWrong)

/- THE SECOND FORM. 'bulk': how many values and letters a reading holds, each counted each time it is reached (what is shared counts as often as it is met; a slice's spare places count too). A statement '..UptoSaid' is the law's where the arguments, and the package variables that the reading takes, are together of bulk at most 1048576: NARROWER than '..Said'. Prove '..Said' where nothing that the law and all that it calls make is longer than what came in: it says more and counts as full. Else prove '..UptoSaid'. A law counts once. -/
mutual
def uptoBulk {H : Type} : DataW H → Nat
  | .lit (.string bytes) => bytes.length + 1
  | .lit _ => 1
  | .nil => 1
  | .ptr d => uptoBulk d + 1
  | .slice elems spare => uptoBulkAll elems + uptoBulkAll spare + 1
  | .agg parts => uptoBulkAll parts + 1
  | .iface _ d => uptoBulk d + 1
  | .map entries => uptoBulkEntries entries + 1
  | .held _ => 1
def uptoBulkAll {H : Type} : List (DataW H) → Nat
  | [] => 0
  | d :: r => uptoBulk d + uptoBulkAll r
def uptoBulkEntries {H : Type} : List (Lit × DataW H) → Nat
  | [] => 0
  | x :: r => uptoBulkEntry x + uptoBulkEntries r
def uptoBulkEntry {H : Type} : Lit × DataW H → Nat
  | (.string bytes, d) => bytes.length + uptoBulk d + 1
  | (_, d) => uptoBulk d + 1
 end
def uptoSmall : (H : Type) → List (DataW H) → Bool := fun _ ds => decide (uptoBulkAll ds ≤ 1048576)
def OpenSpec.upto (s : _root_.Go.ChangeSpec) : _root_.Go.OpenSpec := { _root_.Go.OpenSpec.ofChange s with cond := some uptoSmall }

/-- 'taskmilllaw.SweepLost', WHERE WHAT IT READS IS OF BULK AT MOST 1048576: true; the input reads as it did. -/
def sweepLostUptoRow : OpenClaim := { program := "ytlfcicekappbfaa", sum := "863298618757fe7d08d502c4512ca662737bdcdddc01df2adcdf1127a4a294d1", func := "taskmill/taskmilllaw.SweepLost", spec := "sweepLost", unfollowed := true, recurses := true, apart := false, narrowed := true }
def SweepLostUptoSaid : Prop := sweepLostUptoRow.holds Try.pinned (OpenSpec.upto sweepLostSpec)

/-- 'taskmilllaw.SweepCycles', WHERE WHAT IT READS IS OF BULK AT MOST 1048576: true; the input reads as it did. -/
def sweepCyclesUptoRow : OpenClaim := { program := "ytlfcicekappbfaa", sum := "863298618757fe7d08d502c4512ca662737bdcdddc01df2adcdf1127a4a294d1", func := "taskmill/taskmilllaw.SweepCycles", spec := "sweepCycles", apart := false, narrowed := true }
def SweepCyclesUptoSaid : Prop := sweepCyclesUptoRow.holds Try.pinned (OpenSpec.upto sweepCyclesSpec)

/-- 'taskmilllaw.SweepSafe', WHERE WHAT IT READS IS OF BULK AT MOST 1048576: true; the input reads as it did. -/
def sweepSafeUptoRow : OpenClaim := { program := "ytlfcicekappbfaa", sum := "863298618757fe7d08d502c4512ca662737bdcdddc01df2adcdf1127a4a294d1", func := "taskmill/taskmilllaw.SweepSafe", spec := "sweepSafe", apart := false, narrowed := true }
def SweepSafeUptoSaid : Prop := sweepSafeUptoRow.holds Try.pinned (OpenSpec.upto sweepSafeSpec)

/-- 'taskmilllaw.SweepSnapshot', WHERE WHAT IT READS IS OF BULK AT MOST 1048576: true; the input reads as it did. -/
def sweepSnapshotUptoRow : OpenClaim := { program := "ytlfcicekappbfaa", sum := "863298618757fe7d08d502c4512ca662737bdcdddc01df2adcdf1127a4a294d1", func := "taskmill/taskmilllaw.SweepSnapshot", spec := "sweepSnapshot", apart := false, narrowed := true }
def SweepSnapshotUptoSaid : Prop := sweepSnapshotUptoRow.holds Try.pinned (OpenSpec.upto sweepSnapshotSpec)

/-- 'taskmilllaw.SweepStopped', WHERE WHAT IT READS IS OF BULK AT MOST 1048576: true; the input reads as it did. -/
def sweepStoppedUptoRow : OpenClaim := { program := "ytlfcicekappbfaa", sum := "863298618757fe7d08d502c4512ca662737bdcdddc01df2adcdf1127a4a294d1", func := "taskmill/taskmilllaw.SweepStopped", spec := "sweepStopped", apart := false, narrowed := true }
def SweepStoppedUptoSaid : Prop := sweepStoppedUptoRow.holds Try.pinned (OpenSpec.upto sweepStoppedSpec)

end Rows
end Go.Proofs.Ytlfcicekappbfaa
