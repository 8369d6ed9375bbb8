/-
  No cell of these rows narrows 'for every input' (looked for: loops, veiled, ifaces, maps, wideKeys, modest, calm, conditions, laid).
  DERIVED. THE GIVEN ROWS OF THIS SEAT. 9 by the template 'for every input the law returns true; each argument reads behind the call as it read before'; 0 by the template 'total and deterministic' (their statements: YtoamlpgadgfhlaaTotals.lean).
  GIVEN WITH THE SEED: the statements are not yours to turn. If you find one false, say at which input.
  Laid BY PROGRAM, IN A SANDBOX (cutbox-rows.mjs): the forced cells as the released guide's own fill.sh prints them over the translation bcb1e29e0a2277ef… (all of the seat's roots in one cut). By AI agents, Wed Nov 11 2026. No macro, syntax, notation, axiom, sorry.
-/
import Derived.Test.YtoamlpgadgfhlaaChecked
import GoSem.Claim
import GoSem.ClaimJoined
import GoSem.ClaimMapViews
import Derived.JoinedTies
import Derived.KernelRfl
namespace Go.Proofs.Ytoamlpgadgfhlaa
/- THE CELL 'sum', in the pinned program and in every row, IS THE sha256 OF THE DUMP (.gsa) THAT YtoamlpgadgfhlaaProg.lean LOADS. Nothing in Lean hashes anything: it is a label: what it is worth is what the hold of that sum in a sandbox is worth. -/
noncomputable def Try.pinned : Pinned := { name := "ytoamlpgadgfhlaa", sum := "bcb1e29e0a2277ef8482be82e54da910f9754ba1fa32c60add27a2806f43115f", checked := Try.checked }
namespace Rows
def none {H : Type} : Left H := { results := [], args := [] }

/-- 'taskmilllaw.SyncSemas': WHATEVER THE INPUT: true; the input reads as it did. -/
def syncSemasSpec : ChangeSpec := { name := "syncSemas", fn := fun _ => fun
  | [d1, d2, d3, d4] => { results := [.lit (.bool true)], args := [d1, d2, d3, d4] }
  | _ => none }
def syncSemasRow : OpenClaim := { program := "ytoamlpgadgfhlaa", sum := "bcb1e29e0a2277ef8482be82e54da910f9754ba1fa32c60add27a2806f43115f", func := "taskmill/taskmilllaw.SyncSemas", spec := "syncSemas", unfollowed := true, recurses := true, apart := false }
def SyncSemasSaid : Prop := syncSemasRow.holds Try.pinned (OpenSpec.ofChange syncSemasSpec)

/-- ITS FALSE NEIGHBOUR: 'it returns false'. Refute it at one input. -/
def syncSemasWrong : ChangeSpec := { name := "syncSemas", fn := fun _ => fun
  | [d1, d2, d3, d4] => { results := [.lit (.bool false)], args := [d1, d2, d3, d4] }
  | _ => none }
def SyncSemasWrongFalsely : Prop := syncSemasRow.holds Try.pinned (OpenSpec.ofChange syncSemasWrong)

/-- 'taskmilllaw.SyncCounts': WHATEVER THE INPUT: true; the input reads as it did. -/
def syncCountsSpec : ChangeSpec := { name := "syncCounts", fn := fun _ => fun
  | [d1, d2] => { results := [.lit (.bool true)], args := [d1, d2] }
  | _ => none }
def syncCountsRow : OpenClaim := { program := "ytoamlpgadgfhlaa", sum := "bcb1e29e0a2277ef8482be82e54da910f9754ba1fa32c60add27a2806f43115f", func := "taskmill/taskmilllaw.SyncCounts", spec := "syncCounts", unfollowed := true, recurses := true, apart := false }
def SyncCountsSaid : Prop := syncCountsRow.holds Try.pinned (OpenSpec.ofChange syncCountsSpec)

/-- ITS FALSE NEIGHBOUR: 'it returns false'. Refute it at one input. -/
def syncCountsWrong : ChangeSpec := { name := "syncCounts", fn := fun _ => fun
  | [d1, d2] => { results := [.lit (.bool false)], args := [d1, d2] }
  | _ => none }
def SyncCountsWrongFalsely : Prop := syncCountsRow.holds Try.pinned (OpenSpec.ofChange syncCountsWrong)

/-- 'taskmilllaw.SyncMutex': WHATEVER THE INPUT: true; the input reads as it did. -/
def syncMutexSpec : ChangeSpec := { name := "syncMutex", fn := fun _ => fun
  | [d] => { results := [.lit (.bool true)], args := [d] }
  | _ => none }
def syncMutexRow : OpenClaim := { program := "ytoamlpgadgfhlaa", sum := "bcb1e29e0a2277ef8482be82e54da910f9754ba1fa32c60add27a2806f43115f", func := "taskmill/taskmilllaw.SyncMutex", spec := "syncMutex", unfollowed := true, recurses := true, apart := false }
def SyncMutexSaid : Prop := syncMutexRow.holds Try.pinned (OpenSpec.ofChange syncMutexSpec)

/-- ITS FALSE NEIGHBOUR: 'it returns false'. Refute it at one input. -/
def syncMutexWrong : ChangeSpec := { name := "syncMutex", fn := fun _ => fun
  | [d] => { results := [.lit (.bool false)], args := [d] }
  | _ => none }
def SyncMutexWrongFalsely : Prop := syncMutexRow.holds Try.pinned (OpenSpec.ofChange syncMutexWrong)

/-- 'taskmilllaw.SyncGates': WHATEVER THE INPUT: true; the input reads as it did. -/
def syncGatesSpec : ChangeSpec := { name := "syncGates", fn := fun _ => fun
  | [d1, d2] => { results := [.lit (.bool true)], args := [d1, d2] }
  | _ => none }
def syncGatesRow : OpenClaim := { program := "ytoamlpgadgfhlaa", sum := "bcb1e29e0a2277ef8482be82e54da910f9754ba1fa32c60add27a2806f43115f", func := "taskmill/taskmilllaw.SyncGates", spec := "syncGates", apart := false }
def SyncGatesSaid : Prop := syncGatesRow.holds Try.pinned (OpenSpec.ofChange syncGatesSpec)

/-- ITS FALSE NEIGHBOUR: 'it returns false'. Refute it at one input. -/
def syncGatesWrong : ChangeSpec := { name := "syncGates", fn := fun _ => fun
  | [d1, d2] => { results := [.lit (.bool false)], args := [d1, d2] }
  | _ => none }
def SyncGatesWrongFalsely : Prop := syncGatesRow.holds Try.pinned (OpenSpec.ofChange syncGatesWrong)

/-- 'taskmilllaw.SyncRounds': WHATEVER THE INPUT: true; the input reads as it did. -/
def syncRoundsSpec : ChangeSpec := { name := "syncRounds", fn := fun _ => fun
  | [d1, d2] => { results := [.lit (.bool true)], args := [d1, d2] }
  | _ => none }
def syncRoundsRow : OpenClaim := { program := "ytoamlpgadgfhlaa", sum := "bcb1e29e0a2277ef8482be82e54da910f9754ba1fa32c60add27a2806f43115f", func := "taskmill/taskmilllaw.SyncRounds", spec := "syncRounds", apart := false }
def SyncRoundsSaid : Prop := syncRoundsRow.holds Try.pinned (OpenSpec.ofChange syncRoundsSpec)

/-- ITS FALSE NEIGHBOUR: 'it returns false'. Refute it at one input. -/
def syncRoundsWrong : ChangeSpec := { name := "syncRounds", fn := fun _ => fun
  | [d1, d2] => { results := [.lit (.bool false)], args := [d1, d2] }
  | _ => none }
def SyncRoundsWrongFalsely : Prop := syncRoundsRow.holds Try.pinned (OpenSpec.ofChange syncRoundsWrong)

/-- 'taskmilllaw.SyncOnces': WHATEVER THE INPUT: true; the input reads as it did. -/
def syncOncesSpec : ChangeSpec := { name := "syncOnces", fn := fun _ => fun
  | [d1, d2] => { results := [.lit (.bool true)], args := [d1, d2] }
  | _ => none }
def syncOncesRow : OpenClaim := { program := "ytoamlpgadgfhlaa", sum := "bcb1e29e0a2277ef8482be82e54da910f9754ba1fa32c60add27a2806f43115f", func := "taskmill/taskmilllaw.SyncOnces", spec := "syncOnces", apart := false }
def SyncOncesSaid : Prop := syncOncesRow.holds Try.pinned (OpenSpec.ofChange syncOncesSpec)

/-- ITS FALSE NEIGHBOUR: 'it returns false'. Refute it at one input. -/
def syncOncesWrong : ChangeSpec := { name := "syncOnces", fn := fun _ => fun
  | [d1, d2] => { results := [.lit (.bool false)], args := [d1, d2] }
  | _ => none }
def SyncOncesWrongFalsely : Prop := syncOncesRow.holds Try.pinned (OpenSpec.ofChange syncOncesWrong)

/-- 'taskmilllaw.SyncOnlyOnce': WHATEVER THE INPUT: true; the input reads as it did. -/
def syncOnlyOnceSpec : ChangeSpec := { name := "syncOnlyOnce", fn := fun _ => fun
  | [d1, d2] => { results := [.lit (.bool true)], args := [d1, d2] }
  | _ => none }
def syncOnlyOnceRow : OpenClaim := { program := "ytoamlpgadgfhlaa", sum := "bcb1e29e0a2277ef8482be82e54da910f9754ba1fa32c60add27a2806f43115f", func := "taskmill/taskmilllaw.SyncOnlyOnce", spec := "syncOnlyOnce", apart := false }
def SyncOnlyOnceSaid : Prop := syncOnlyOnceRow.holds Try.pinned (OpenSpec.ofChange syncOnlyOnceSpec)

/-- ITS FALSE NEIGHBOUR: 'it returns false'. Refute it at one input. -/
def syncOnlyOnceWrong : ChangeSpec := { name := "syncOnlyOnce", fn := fun _ => fun
  | [d1, d2] => { results := [.lit (.bool false)], args := [d1, d2] }
  | _ => none }
def SyncOnlyOnceWrongFalsely : Prop := syncOnlyOnceRow.holds Try.pinned (OpenSpec.ofChange syncOnlyOnceWrong)

/-- 'taskmilllaw.SyncGroups': WHATEVER THE INPUT: true; the input reads as it did. -/
def syncGroupsSpec : ChangeSpec := { name := "syncGroups", fn := fun _ => fun
  | [d1, d2, d3] => { results := [.lit (.bool true)], args := [d1, d2, d3] }
  | _ => none }
def syncGroupsRow : OpenClaim := { program := "ytoamlpgadgfhlaa", sum := "bcb1e29e0a2277ef8482be82e54da910f9754ba1fa32c60add27a2806f43115f", func := "taskmill/taskmilllaw.SyncGroups", spec := "syncGroups", apart := false }
def SyncGroupsSaid : Prop := syncGroupsRow.holds Try.pinned (OpenSpec.ofChange syncGroupsSpec)

/-- ITS FALSE NEIGHBOUR: 'it returns false'. Refute it at one input. -/
def syncGroupsWrong : ChangeSpec := { name := "syncGroups", fn := fun _ => fun
  | [d1, d2, d3] => { results := [.lit (.bool false)], args := [d1, d2, d3] }
  | _ => none }
def SyncGroupsWrongFalsely : Prop := syncGroupsRow.holds Try.pinned (OpenSpec.ofChange syncGroupsWrong)

/-- 'taskmilllaw.SyncWaits': WHATEVER THE INPUT: true; the input reads as it did. -/
def syncWaitsSpec : ChangeSpec := { name := "syncWaits", fn := fun _ => fun
  | [d1, d2] => { results := [.lit (.bool true)], args := [d1, d2] }
  | _ => none }
def syncWaitsRow : OpenClaim := { program := "ytoamlpgadgfhlaa", sum := "bcb1e29e0a2277ef8482be82e54da910f9754ba1fa32c60add27a2806f43115f", func := "taskmill/taskmilllaw.SyncWaits", spec := "syncWaits", apart := false }
def SyncWaitsSaid : Prop := syncWaitsRow.holds Try.pinned (OpenSpec.ofChange syncWaitsSpec)

/-- ITS FALSE NEIGHBOUR: 'it returns false'. Refute it at one input. -/
def syncWaitsWrong : ChangeSpec := { name := "syncWaits", fn := fun _ => fun
  | [d1, d2] => { results := [.lit (.bool false)], args := [d1, d2] }
  | _ => none }
def SyncWaitsWrongFalsely : Prop := syncWaitsRow.holds Try.pinned (OpenSpec.ofChange syncWaitsWrong)

/- THE SECOND FORM. 'bulk': how many values and letters a reading holds, each counted each time it is reached (what is shared counts as often as it is met; a slice's spare places count too). A statement '..UptoSaid' is the law's where the arguments, and the package variables that the reading takes, are together of bulk at most 1048576: NARROWER than '..Said'. Prove '..Said' where nothing that the law and all that it calls make is longer than what came in: it says more and counts as full. Else prove '..UptoSaid'. A law counts once. -/
mutual
def uptoBulk {H : Type} : DataW H → Nat
  | .lit (.string bytes) => bytes.length + 1
  | .lit _ => 1
  | .nil => 1
  | .ptr d => uptoBulk d + 1
  | .slice elems spare => uptoBulkAll elems + uptoBulkAll spare + 1
  | .agg parts => uptoBulkAll parts + 1
  | .iface _ d => uptoBulk d + 1
  | .map entries => uptoBulkEntries entries + 1
  | .held _ => 1
def uptoBulkAll {H : Type} : List (DataW H) → Nat
  | [] => 0
  | d :: r => uptoBulk d + uptoBulkAll r
def uptoBulkEntries {H : Type} : List (Lit × DataW H) → Nat
  | [] => 0
  | x :: r => uptoBulkEntry x + uptoBulkEntries r
def uptoBulkEntry {H : Type} : Lit × DataW H → Nat
  | (.string bytes, d) => bytes.length + uptoBulk d + 1
  | (_, d) => uptoBulk d + 1
 end
def uptoSmall : (H : Type) → List (DataW H) → Bool := fun _ ds => decide (uptoBulkAll ds ≤ 1048576)
def OpenSpec.upto (s : _root_.Go.ChangeSpec) : _root_.Go.OpenSpec := { _root_.Go.OpenSpec.ofChange s with cond := some uptoSmall }

/-- 'taskmilllaw.SyncSemas', WHERE WHAT IT READS IS OF BULK AT MOST 1048576: true; the input reads as it did. -/
def syncSemasUptoRow : OpenClaim := { program := "ytoamlpgadgfhlaa", sum := "bcb1e29e0a2277ef8482be82e54da910f9754ba1fa32c60add27a2806f43115f", func := "taskmill/taskmilllaw.SyncSemas", spec := "syncSemas", unfollowed := true, recurses := true, apart := false, narrowed := true }
def SyncSemasUptoSaid : Prop := syncSemasUptoRow.holds Try.pinned (OpenSpec.upto syncSemasSpec)

/-- 'taskmilllaw.SyncCounts', WHERE WHAT IT READS IS OF BULK AT MOST 1048576: true; the input reads as it did. -/
def syncCountsUptoRow : OpenClaim := { program := "ytoamlpgadgfhlaa", sum := "bcb1e29e0a2277ef8482be82e54da910f9754ba1fa32c60add27a2806f43115f", func := "taskmill/taskmilllaw.SyncCounts", spec := "syncCounts", unfollowed := true, recurses := true, apart := false, narrowed := true }
def SyncCountsUptoSaid : Prop := syncCountsUptoRow.holds Try.pinned (OpenSpec.upto syncCountsSpec)

/-- 'taskmilllaw.SyncMutex', WHERE WHAT IT READS IS OF BULK AT MOST 1048576: true; the input reads as it did. -/
def syncMutexUptoRow : OpenClaim := { program := "ytoamlpgadgfhlaa", sum := "bcb1e29e0a2277ef8482be82e54da910f9754ba1fa32c60add27a2806f43115f", func := "taskmill/taskmilllaw.SyncMutex", spec := "syncMutex", unfollowed := true, recurses := true, apart := false, narrowed := true }
def SyncMutexUptoSaid : Prop := syncMutexUptoRow.holds Try.pinned (OpenSpec.upto syncMutexSpec)

/-- 'taskmilllaw.SyncGates', WHERE WHAT IT READS IS OF BULK AT MOST 1048576: true; the input reads as it did. -/
def syncGatesUptoRow : OpenClaim := { program := "ytoamlpgadgfhlaa", sum := "bcb1e29e0a2277ef8482be82e54da910f9754ba1fa32c60add27a2806f43115f", func := "taskmill/taskmilllaw.SyncGates", spec := "syncGates", apart := false, narrowed := true }
def SyncGatesUptoSaid : Prop := syncGatesUptoRow.holds Try.pinned (OpenSpec.upto syncGatesSpec)

/-- 'taskmilllaw.SyncRounds', WHERE WHAT IT READS IS OF BULK AT MOST 1048576: true; the input reads as it did. -/
def syncRoundsUptoRow : OpenClaim := { program := "ytoamlpgadgfhlaa", sum := "bcb1e29e0a2277ef8482be82e54da910f9754ba1fa32c60add27a2806f43115f", func := "taskmill/taskmilllaw.SyncRounds", spec := "syncRounds", apart := false, narrowed := true }
def SyncRoundsUptoSaid : Prop := syncRoundsUptoRow.holds Try.pinned (OpenSpec.upto syncRoundsSpec)

/-- 'taskmilllaw.SyncOnces', WHERE WHAT IT READS IS OF BULK AT MOST 1048576: true; the input reads as it did. -/
def syncOncesUptoRow : OpenClaim := { program := "ytoamlpgadgfhlaa", sum := "bcb1e29e0a2277ef8482be82e54da910f9754ba1fa32c60add27a2806f43115f", func := "taskmill/taskmilllaw.SyncOnces", spec := "syncOnces", apart := false, narrowed := true }
def SyncOncesUptoSaid : Prop := syncOncesUptoRow.holds Try.pinned (OpenSpec.upto syncOncesSpec)

/-- 'taskmilllaw.SyncOnlyOnce', WHERE WHAT IT READS IS OF BULK AT MOST 1048576: true; the input reads as it did. -/
def syncOnlyOnceUptoRow : OpenClaim := { program := "ytoamlpgadgfhlaa", sum := "bcb1e29e0a2277ef8482be82e54da910f9754ba1fa32c60add27a2806f43115f", func := "taskmill/taskmilllaw.SyncOnlyOnce", spec := "syncOnlyOnce", apart := false, narrowed := true }
def SyncOnlyOnceUptoSaid : Prop := syncOnlyOnceUptoRow.holds Try.pinned (OpenSpec.upto syncOnlyOnceSpec)

/-- 'taskmilllaw.SyncGroups', WHERE WHAT IT READS IS OF BULK AT MOST 1048576: true; the input reads as it did. -/
def syncGroupsUptoRow : OpenClaim := { program := "ytoamlpgadgfhlaa", sum := "bcb1e29e0a2277ef8482be82e54da910f9754ba1fa32c60add27a2806f43115f", func := "taskmill/taskmilllaw.SyncGroups", spec := "syncGroups", apart := false, narrowed := true }
def SyncGroupsUptoSaid : Prop := syncGroupsUptoRow.holds Try.pinned (OpenSpec.upto syncGroupsSpec)

/-- 'taskmilllaw.SyncWaits', WHERE WHAT IT READS IS OF BULK AT MOST 1048576: true; the input reads as it did. -/
def syncWaitsUptoRow : OpenClaim := { program := "ytoamlpgadgfhlaa", sum := "bcb1e29e0a2277ef8482be82e54da910f9754ba1fa32c60add27a2806f43115f", func := "taskmill/taskmilllaw.SyncWaits", spec := "syncWaits", apart := false, narrowed := true }
def SyncWaitsUptoSaid : Prop := syncWaitsUptoRow.holds Try.pinned (OpenSpec.upto syncWaitsSpec)

end Rows
end Go.Proofs.Ytoamlpgadgfhlaa
