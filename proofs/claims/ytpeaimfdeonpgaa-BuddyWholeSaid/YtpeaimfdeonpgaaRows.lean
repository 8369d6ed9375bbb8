/-
  No cell of these rows narrows 'for every input' (looked for: loops, veiled, ifaces, maps, wideKeys, modest, calm, conditions, laid).
  DERIVED. THE GIVEN ROWS OF THIS SEAT. 4 by the template 'for every input the law returns true; each argument reads behind the call as it read before'; 0 by the template 'total and deterministic' (their statements: YtpeaimfdeonpgaaTotals.lean).
  GIVEN WITH THE SEED: the statements are not yours to turn. If you find one false, say at which input.
  Laid BY PROGRAM, IN A SANDBOX (cutbox-rows.mjs): the forced cells as the released guide's own fill.sh prints them over the translation bb28f3848f0896d6… (all of the seat's roots in one cut). By AI agents, Wed Nov 11 2026. No macro, syntax, notation, axiom, sorry.
-/
import Derived.Test.YtpeaimfdeonpgaaChecked
import GoSem.Claim
import GoSem.ClaimJoined
import GoSem.ClaimMapViews
import Derived.JoinedTies
import Derived.KernelRfl
namespace Go.Proofs.Ytpeaimfdeonpgaa
/- THE CELL 'sum', in the pinned program and in every row, IS THE sha256 OF THE DUMP (.gsa) THAT YtpeaimfdeonpgaaProg.lean LOADS. Nothing in Lean hashes anything: it is a label: what it is worth is what the hold of that sum in a sandbox is worth. -/
noncomputable def Try.pinned : Pinned := { name := "ytpeaimfdeonpgaa", sum := "bb28f3848f0896d6e4977c740381c0b662da96d86b4ad8a8d64dedc4cd85733e", checked := Try.checked }
namespace Rows
def none {H : Type} : Left H := { results := [], args := [] }

/-- 'taskmilllaw.BuddyTakes': WHATEVER THE INPUT: true; the input reads as it did. -/
def buddyTakesSpec : ChangeSpec := { name := "buddyTakes", fn := fun _ => fun
  | [d1, d2, d3] => { results := [.lit (.bool true)], args := [d1, d2, d3] }
  | _ => none }
def buddyTakesRow : OpenClaim := { program := "ytpeaimfdeonpgaa", sum := "bb28f3848f0896d6e4977c740381c0b662da96d86b4ad8a8d64dedc4cd85733e", func := "taskmill/taskmilllaw.BuddyTakes", spec := "buddyTakes", inPlace := ["slices.overlaps[taskmill/api.Block]"], unfollowed := true, recurses := true, apart := false }
def BuddyTakesSaid : Prop := buddyTakesRow.holds Try.pinned (OpenSpec.ofChange buddyTakesSpec)

/-- ITS FALSE NEIGHBOUR: 'it returns false'. Refute it at one input. -/
def buddyTakesWrong : ChangeSpec := { name := "buddyTakes", fn := fun _ => fun
  | [d1, d2, d3] => { results := [.lit (.bool false)], args := [d1, d2, d3] }
  | _ => none }
def BuddyTakesWrongFalsely : Prop := buddyTakesRow.holds Try.pinned (OpenSpec.ofChange buddyTakesWrong)

/-- 'taskmilllaw.BuddyGives': WHATEVER THE INPUT: true; the input reads as it did. -/
def buddyGivesSpec : ChangeSpec := { name := "buddyGives", fn := fun _ => fun
  | [d1, d2] => { results := [.lit (.bool true)], args := [d1, d2] }
  | _ => none }
def buddyGivesRow : OpenClaim := { program := "ytpeaimfdeonpgaa", sum := "bb28f3848f0896d6e4977c740381c0b662da96d86b4ad8a8d64dedc4cd85733e", func := "taskmill/taskmilllaw.BuddyGives", spec := "buddyGives", inPlace := ["slices.overlaps[taskmill/api.Block]"], unfollowed := true, recurses := true, apart := false }
def BuddyGivesSaid : Prop := buddyGivesRow.holds Try.pinned (OpenSpec.ofChange buddyGivesSpec)

/-- ITS FALSE NEIGHBOUR: 'it returns false'. Refute it at one input. -/
def buddyGivesWrong : ChangeSpec := { name := "buddyGives", fn := fun _ => fun
  | [d1, d2] => { results := [.lit (.bool false)], args := [d1, d2] }
  | _ => none }
def BuddyGivesWrongFalsely : Prop := buddyGivesRow.holds Try.pinned (OpenSpec.ofChange buddyGivesWrong)

/-- 'taskmilllaw.BuddyBack': WHATEVER THE INPUT: true; the input reads as it did. -/
def buddyBackSpec : ChangeSpec := { name := "buddyBack", fn := fun _ => fun
  | [d1, d2] => { results := [.lit (.bool true)], args := [d1, d2] }
  | _ => none }
def buddyBackRow : OpenClaim := { program := "ytpeaimfdeonpgaa", sum := "bb28f3848f0896d6e4977c740381c0b662da96d86b4ad8a8d64dedc4cd85733e", func := "taskmill/taskmilllaw.BuddyBack", spec := "buddyBack", inPlace := ["slices.overlaps[taskmill/api.Block]"], unfollowed := true, recurses := true, apart := false }
def BuddyBackSaid : Prop := buddyBackRow.holds Try.pinned (OpenSpec.ofChange buddyBackSpec)

/-- ITS FALSE NEIGHBOUR: 'it returns false'. Refute it at one input. -/
def buddyBackWrong : ChangeSpec := { name := "buddyBack", fn := fun _ => fun
  | [d1, d2] => { results := [.lit (.bool false)], args := [d1, d2] }
  | _ => none }
def BuddyBackWrongFalsely : Prop := buddyBackRow.holds Try.pinned (OpenSpec.ofChange buddyBackWrong)

/-- 'taskmilllaw.BuddyWhole': WHATEVER THE INPUT: true; the input reads as it did. -/
def buddyWholeSpec : ChangeSpec := { name := "buddyWhole", fn := fun _ => fun
  | [d1, d2] => { results := [.lit (.bool true)], args := [d1, d2] }
  | _ => none }
def buddyWholeRow : OpenClaim := { program := "ytpeaimfdeonpgaa", sum := "bb28f3848f0896d6e4977c740381c0b662da96d86b4ad8a8d64dedc4cd85733e", func := "taskmill/taskmilllaw.BuddyWhole", spec := "buddyWhole", inPlace := ["slices.overlaps[taskmill/api.Block]"], unfollowed := true, recurses := true, apart := false }
def BuddyWholeSaid : Prop := buddyWholeRow.holds Try.pinned (OpenSpec.ofChange buddyWholeSpec)

/-- ITS FALSE NEIGHBOUR: 'it returns false'. Refute it at one input. -/
def buddyWholeWrong : ChangeSpec := { name := "buddyWhole", fn := fun _ => fun
  | [d1, d2] => { results := [.lit (.bool false)], args := [d1, d2] }
  | _ => none }
def BuddyWholeWrongFalsely : Prop := buddyWholeRow.holds Try.pinned (OpenSpec.ofChange buddyWholeWrong)

/- THE SECOND FORM. 'bulk': how many values and letters a reading holds, each counted each time it is reached (what is shared counts as often as it is met; a slice's spare places count too). A statement '..UptoSaid' is the law's where the arguments, and the package variables that the reading takes, are together of bulk at most 1048576: NARROWER than '..Said'. Prove '..Said' where nothing that the law and all that it calls make is longer than what came in: it says more and counts as full. Else prove '..UptoSaid'. A law counts once. -/
mutual
def uptoBulk {H : Type} : DataW H → Nat
  | .lit (.string bytes) => bytes.length + 1
  | .lit _ => 1
  | .nil => 1
  | .ptr d => uptoBulk d + 1
  | .slice elems spare => uptoBulkAll elems + uptoBulkAll spare + 1
  | .agg parts => uptoBulkAll parts + 1
  | .iface _ d => uptoBulk d + 1
  | .map entries => uptoBulkEntries entries + 1
  | .held _ => 1
def uptoBulkAll {H : Type} : List (DataW H) → Nat
  | [] => 0
  | d :: r => uptoBulk d + uptoBulkAll r
def uptoBulkEntries {H : Type} : List (Lit × DataW H) → Nat
  | [] => 0
  | x :: r => uptoBulkEntry x + uptoBulkEntries r
def uptoBulkEntry {H : Type} : Lit × DataW H → Nat
  | (.string bytes, d) => bytes.length + uptoBulk d + 1
  | (_, d) => uptoBulk d + 1
 end
def uptoSmall : (H : Type) → List (DataW H) → Bool := fun _ ds => decide (uptoBulkAll ds ≤ 1048576)
def OpenSpec.upto (s : _root_.Go.ChangeSpec) : _root_.Go.OpenSpec := { _root_.Go.OpenSpec.ofChange s with cond := some uptoSmall }

/-- 'taskmilllaw.BuddyTakes', WHERE WHAT IT READS IS OF BULK AT MOST 1048576: true; the input reads as it did. -/
def buddyTakesUptoRow : OpenClaim := { program := "ytpeaimfdeonpgaa", sum := "bb28f3848f0896d6e4977c740381c0b662da96d86b4ad8a8d64dedc4cd85733e", func := "taskmill/taskmilllaw.BuddyTakes", spec := "buddyTakes", inPlace := ["slices.overlaps[taskmill/api.Block]"], unfollowed := true, recurses := true, apart := false, narrowed := true }
def BuddyTakesUptoSaid : Prop := buddyTakesUptoRow.holds Try.pinned (OpenSpec.upto buddyTakesSpec)

/-- 'taskmilllaw.BuddyGives', WHERE WHAT IT READS IS OF BULK AT MOST 1048576: true; the input reads as it did. -/
def buddyGivesUptoRow : OpenClaim := { program := "ytpeaimfdeonpgaa", sum := "bb28f3848f0896d6e4977c740381c0b662da96d86b4ad8a8d64dedc4cd85733e", func := "taskmill/taskmilllaw.BuddyGives", spec := "buddyGives", inPlace := ["slices.overlaps[taskmill/api.Block]"], unfollowed := true, recurses := true, apart := false, narrowed := true }
def BuddyGivesUptoSaid : Prop := buddyGivesUptoRow.holds Try.pinned (OpenSpec.upto buddyGivesSpec)

/-- 'taskmilllaw.BuddyBack', WHERE WHAT IT READS IS OF BULK AT MOST 1048576: true; the input reads as it did. -/
def buddyBackUptoRow : OpenClaim := { program := "ytpeaimfdeonpgaa", sum := "bb28f3848f0896d6e4977c740381c0b662da96d86b4ad8a8d64dedc4cd85733e", func := "taskmill/taskmilllaw.BuddyBack", spec := "buddyBack", inPlace := ["slices.overlaps[taskmill/api.Block]"], unfollowed := true, recurses := true, apart := false, narrowed := true }
def BuddyBackUptoSaid : Prop := buddyBackUptoRow.holds Try.pinned (OpenSpec.upto buddyBackSpec)

/-- 'taskmilllaw.BuddyWhole', WHERE WHAT IT READS IS OF BULK AT MOST 1048576: true; the input reads as it did. -/
def buddyWholeUptoRow : OpenClaim := { program := "ytpeaimfdeonpgaa", sum := "bb28f3848f0896d6e4977c740381c0b662da96d86b4ad8a8d64dedc4cd85733e", func := "taskmill/taskmilllaw.BuddyWhole", spec := "buddyWhole", inPlace := ["slices.overlaps[taskmill/api.Block]"], unfollowed := true, recurses := true, apart := false, narrowed := true }
def BuddyWholeUptoSaid : Prop := buddyWholeUptoRow.holds Try.pinned (OpenSpec.upto buddyWholeSpec)

end Rows
end Go.Proofs.Ytpeaimfdeonpgaa
