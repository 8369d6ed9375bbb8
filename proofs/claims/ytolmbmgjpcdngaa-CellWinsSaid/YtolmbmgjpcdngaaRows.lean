/-
  No cell of these rows narrows 'for every input' (looked for: loops, veiled, ifaces, maps, wideKeys, modest, calm, conditions, laid).
  DERIVED. THE GIVEN ROWS OF THIS SEAT. 7 by the template 'for every input the law returns true; each argument reads behind the call as it read before'; 0 by the template 'total and deterministic' (their statements: YtolmbmgjpcdngaaTotals.lean).
  GIVEN WITH THE SEED: the statements are not yours to turn. If you find one false, say at which input.
  Laid BY PROGRAM, IN A SANDBOX (cutbox-rows.mjs): the forced cells as the released guide's own fill.sh prints them over the translation f89a0830651dd1b4… (all of the seat's roots in one cut). By AI agents, Wed Nov 11 2026. No macro, syntax, notation, axiom, sorry.
-/
import Derived.Test.YtolmbmgjpcdngaaChecked
import GoSem.Claim
import GoSem.ClaimJoined
import GoSem.ClaimMapViews
import Derived.JoinedTies
import Derived.KernelRfl
namespace Go.Proofs.Ytolmbmgjpcdngaa
/- THE CELL 'sum', in the pinned program and in every row, IS THE sha256 OF THE DUMP (.gsa) THAT YtolmbmgjpcdngaaProg.lean LOADS. Nothing in Lean hashes anything: it is a label: what it is worth is what the hold of that sum in a sandbox is worth. -/
noncomputable def Try.pinned : Pinned := { name := "ytolmbmgjpcdngaa", sum := "f89a0830651dd1b4627d367c7010033619705d37b6cdcf2b7cbbcb2aacd6a54e", checked := Try.checked }
namespace Rows
def none {H : Type} : Left H := { results := [], args := [] }

/-- 'taskmilllaw.CellEnds': WHATEVER THE INPUT: true; the input reads as it did. -/
def cellEndsSpec : ChangeSpec := { name := "cellEnds", fn := fun _ => fun
  | [d1, d2] => { results := [.lit (.bool true)], args := [d1, d2] }
  | _ => none }
def cellEndsRow : OpenClaim := { program := "ytolmbmgjpcdngaa", sum := "f89a0830651dd1b4627d367c7010033619705d37b6cdcf2b7cbbcb2aacd6a54e", func := "taskmill/taskmilllaw.CellEnds", spec := "cellEnds", unfollowed := true, recurses := true, apart := false }
def CellEndsSaid : Prop := cellEndsRow.holds Try.pinned (OpenSpec.ofChange cellEndsSpec)

/-- ITS FALSE NEIGHBOUR: 'it returns false'. Refute it at one input. -/
def cellEndsWrong : ChangeSpec := { name := "cellEnds", fn := fun _ => fun
  | [d1, d2] => { results := [.lit (.bool false)], args := [d1, d2] }
  | _ => none }
def CellEndsWrongFalsely : Prop := cellEndsRow.holds Try.pinned (OpenSpec.ofChange cellEndsWrong)

/-- 'taskmilllaw.CellRuns': WHATEVER THE INPUT: true; the input reads as it did. -/
def cellRunsSpec : ChangeSpec := { name := "cellRuns", fn := fun _ => fun
  | [d1, d2] => { results := [.lit (.bool true)], args := [d1, d2] }
  | _ => none }
def cellRunsRow : OpenClaim := { program := "ytolmbmgjpcdngaa", sum := "f89a0830651dd1b4627d367c7010033619705d37b6cdcf2b7cbbcb2aacd6a54e", func := "taskmill/taskmilllaw.CellRuns", spec := "cellRuns", unfollowed := true, recurses := true, apart := false }
def CellRunsSaid : Prop := cellRunsRow.holds Try.pinned (OpenSpec.ofChange cellRunsSpec)

/-- ITS FALSE NEIGHBOUR: 'it returns false'. Refute it at one input. -/
def cellRunsWrong : ChangeSpec := { name := "cellRuns", fn := fun _ => fun
  | [d1, d2] => { results := [.lit (.bool false)], args := [d1, d2] }
  | _ => none }
def CellRunsWrongFalsely : Prop := cellRunsRow.holds Try.pinned (OpenSpec.ofChange cellRunsWrong)

/-- 'taskmilllaw.CellHalves': WHATEVER THE INPUT: true; the input reads as it did. -/
def cellHalvesSpec : ChangeSpec := { name := "cellHalves", fn := fun _ => fun
  | [d1, d2, d3] => { results := [.lit (.bool true)], args := [d1, d2, d3] }
  | _ => none }
def cellHalvesRow : OpenClaim := { program := "ytolmbmgjpcdngaa", sum := "f89a0830651dd1b4627d367c7010033619705d37b6cdcf2b7cbbcb2aacd6a54e", func := "taskmill/taskmilllaw.CellHalves", spec := "cellHalves", unfollowed := true, recurses := true, apart := false }
def CellHalvesSaid : Prop := cellHalvesRow.holds Try.pinned (OpenSpec.ofChange cellHalvesSpec)

/-- ITS FALSE NEIGHBOUR: 'it returns false'. Refute it at one input. -/
def cellHalvesWrong : ChangeSpec := { name := "cellHalves", fn := fun _ => fun
  | [d1, d2, d3] => { results := [.lit (.bool false)], args := [d1, d2, d3] }
  | _ => none }
def CellHalvesWrongFalsely : Prop := cellHalvesRow.holds Try.pinned (OpenSpec.ofChange cellHalvesWrong)

/-- 'taskmilllaw.CellPlaces': WHATEVER THE INPUT: true; the input reads as it did. -/
def cellPlacesSpec : ChangeSpec := { name := "cellPlaces", fn := fun _ => fun
  | [d1, d2, d3] => { results := [.lit (.bool true)], args := [d1, d2, d3] }
  | _ => none }
def cellPlacesRow : OpenClaim := { program := "ytolmbmgjpcdngaa", sum := "f89a0830651dd1b4627d367c7010033619705d37b6cdcf2b7cbbcb2aacd6a54e", func := "taskmill/taskmilllaw.CellPlaces", spec := "cellPlaces", unfollowed := true, recurses := true, apart := false }
def CellPlacesSaid : Prop := cellPlacesRow.holds Try.pinned (OpenSpec.ofChange cellPlacesSpec)

/-- ITS FALSE NEIGHBOUR: 'it returns false'. Refute it at one input. -/
def cellPlacesWrong : ChangeSpec := { name := "cellPlaces", fn := fun _ => fun
  | [d1, d2, d3] => { results := [.lit (.bool false)], args := [d1, d2, d3] }
  | _ => none }
def CellPlacesWrongFalsely : Prop := cellPlacesRow.holds Try.pinned (OpenSpec.ofChange cellPlacesWrong)

/-- 'taskmilllaw.CellMixes': WHATEVER THE INPUT: true; the input reads as it did. -/
def cellMixesSpec : ChangeSpec := { name := "cellMixes", fn := fun _ => fun
  | [d1, d2, d3] => { results := [.lit (.bool true)], args := [d1, d2, d3] }
  | _ => none }
def cellMixesRow : OpenClaim := { program := "ytolmbmgjpcdngaa", sum := "f89a0830651dd1b4627d367c7010033619705d37b6cdcf2b7cbbcb2aacd6a54e", func := "taskmill/taskmilllaw.CellMixes", spec := "cellMixes", unfollowed := true, recurses := true, apart := false }
def CellMixesSaid : Prop := cellMixesRow.holds Try.pinned (OpenSpec.ofChange cellMixesSpec)

/-- ITS FALSE NEIGHBOUR: 'it returns false'. Refute it at one input. -/
def cellMixesWrong : ChangeSpec := { name := "cellMixes", fn := fun _ => fun
  | [d1, d2, d3] => { results := [.lit (.bool false)], args := [d1, d2, d3] }
  | _ => none }
def CellMixesWrongFalsely : Prop := cellMixesRow.holds Try.pinned (OpenSpec.ofChange cellMixesWrong)

/-- 'taskmilllaw.CellWins': WHATEVER THE INPUT: true; the input reads as it did. -/
def cellWinsSpec : ChangeSpec := { name := "cellWins", fn := fun _ => fun
  | [d1, d2, d3] => { results := [.lit (.bool true)], args := [d1, d2, d3] }
  | _ => none }
def cellWinsRow : OpenClaim := { program := "ytolmbmgjpcdngaa", sum := "f89a0830651dd1b4627d367c7010033619705d37b6cdcf2b7cbbcb2aacd6a54e", func := "taskmill/taskmilllaw.CellWins", spec := "cellWins", unfollowed := true, recurses := true, apart := false }
def CellWinsSaid : Prop := cellWinsRow.holds Try.pinned (OpenSpec.ofChange cellWinsSpec)

/-- ITS FALSE NEIGHBOUR: 'it returns false'. Refute it at one input. -/
def cellWinsWrong : ChangeSpec := { name := "cellWins", fn := fun _ => fun
  | [d1, d2, d3] => { results := [.lit (.bool false)], args := [d1, d2, d3] }
  | _ => none }
def CellWinsWrongFalsely : Prop := cellWinsRow.holds Try.pinned (OpenSpec.ofChange cellWinsWrong)

/-- 'taskmilllaw.CellAdds': WHATEVER THE INPUT: true; the input reads as it did. -/
def cellAddsSpec : ChangeSpec := { name := "cellAdds", fn := fun _ => fun
  | [d1, d2, d3] => { results := [.lit (.bool true)], args := [d1, d2, d3] }
  | _ => none }
def cellAddsRow : OpenClaim := { program := "ytolmbmgjpcdngaa", sum := "f89a0830651dd1b4627d367c7010033619705d37b6cdcf2b7cbbcb2aacd6a54e", func := "taskmill/taskmilllaw.CellAdds", spec := "cellAdds", unfollowed := true, recurses := true, apart := false }
def CellAddsSaid : Prop := cellAddsRow.holds Try.pinned (OpenSpec.ofChange cellAddsSpec)

/-- ITS FALSE NEIGHBOUR: 'it returns false'. Refute it at one input. -/
def cellAddsWrong : ChangeSpec := { name := "cellAdds", fn := fun _ => fun
  | [d1, d2, d3] => { results := [.lit (.bool false)], args := [d1, d2, d3] }
  | _ => none }
def CellAddsWrongFalsely : Prop := cellAddsRow.holds Try.pinned (OpenSpec.ofChange cellAddsWrong)

/- THE SECOND FORM. 'bulk': how many values and letters a reading holds, each counted each time it is reached (what is shared counts as often as it is met; a slice's spare places count too). A statement '..UptoSaid' is the law's where the arguments, and the package variables that the reading takes, are together of bulk at most 1048576: NARROWER than '..Said'. Prove '..Said' where nothing that the law and all that it calls make is longer than what came in: it says more and counts as full. Else prove '..UptoSaid'. A law counts once. -/
mutual
def uptoBulk {H : Type} : DataW H → Nat
  | .lit (.string bytes) => bytes.length + 1
  | .lit _ => 1
  | .nil => 1
  | .ptr d => uptoBulk d + 1
  | .slice elems spare => uptoBulkAll elems + uptoBulkAll spare + 1
  | .agg parts => uptoBulkAll parts + 1
  | .iface _ d => uptoBulk d + 1
  | .map entries => uptoBulkEntries entries + 1
  | .held _ => 1
def uptoBulkAll {H : Type} : List (DataW H) → Nat
  | [] => 0
  | d :: r => uptoBulk d + uptoBulkAll r
def uptoBulkEntries {H : Type} : List (Lit × DataW H) → Nat
  | [] => 0
  | x :: r => uptoBulkEntry x + uptoBulkEntries r
def uptoBulkEntry {H : Type} : Lit × DataW H → Nat
  | (.string bytes, d) => bytes.length + uptoBulk d + 1
  | (_, d) => uptoBulk d + 1
 end
def uptoSmall : (H : Type) → List (DataW H) → Bool := fun _ ds => decide (uptoBulkAll ds ≤ 1048576)
def OpenSpec.upto (s : _root_.Go.ChangeSpec) : _root_.Go.OpenSpec := { _root_.Go.OpenSpec.ofChange s with cond := some uptoSmall }

/-- 'taskmilllaw.CellEnds', WHERE WHAT IT READS IS OF BULK AT MOST 1048576: true; the input reads as it did. -/
def cellEndsUptoRow : OpenClaim := { program := "ytolmbmgjpcdngaa", sum := "f89a0830651dd1b4627d367c7010033619705d37b6cdcf2b7cbbcb2aacd6a54e", func := "taskmill/taskmilllaw.CellEnds", spec := "cellEnds", unfollowed := true, recurses := true, apart := false, narrowed := true }
def CellEndsUptoSaid : Prop := cellEndsUptoRow.holds Try.pinned (OpenSpec.upto cellEndsSpec)

/-- 'taskmilllaw.CellRuns', WHERE WHAT IT READS IS OF BULK AT MOST 1048576: true; the input reads as it did. -/
def cellRunsUptoRow : OpenClaim := { program := "ytolmbmgjpcdngaa", sum := "f89a0830651dd1b4627d367c7010033619705d37b6cdcf2b7cbbcb2aacd6a54e", func := "taskmill/taskmilllaw.CellRuns", spec := "cellRuns", unfollowed := true, recurses := true, apart := false, narrowed := true }
def CellRunsUptoSaid : Prop := cellRunsUptoRow.holds Try.pinned (OpenSpec.upto cellRunsSpec)

/-- 'taskmilllaw.CellHalves', WHERE WHAT IT READS IS OF BULK AT MOST 1048576: true; the input reads as it did. -/
def cellHalvesUptoRow : OpenClaim := { program := "ytolmbmgjpcdngaa", sum := "f89a0830651dd1b4627d367c7010033619705d37b6cdcf2b7cbbcb2aacd6a54e", func := "taskmill/taskmilllaw.CellHalves", spec := "cellHalves", unfollowed := true, recurses := true, apart := false, narrowed := true }
def CellHalvesUptoSaid : Prop := cellHalvesUptoRow.holds Try.pinned (OpenSpec.upto cellHalvesSpec)

/-- 'taskmilllaw.CellPlaces', WHERE WHAT IT READS IS OF BULK AT MOST 1048576: true; the input reads as it did. -/
def cellPlacesUptoRow : OpenClaim := { program := "ytolmbmgjpcdngaa", sum := "f89a0830651dd1b4627d367c7010033619705d37b6cdcf2b7cbbcb2aacd6a54e", func := "taskmill/taskmilllaw.CellPlaces", spec := "cellPlaces", unfollowed := true, recurses := true, apart := false, narrowed := true }
def CellPlacesUptoSaid : Prop := cellPlacesUptoRow.holds Try.pinned (OpenSpec.upto cellPlacesSpec)

/-- 'taskmilllaw.CellMixes', WHERE WHAT IT READS IS OF BULK AT MOST 1048576: true; the input reads as it did. -/
def cellMixesUptoRow : OpenClaim := { program := "ytolmbmgjpcdngaa", sum := "f89a0830651dd1b4627d367c7010033619705d37b6cdcf2b7cbbcb2aacd6a54e", func := "taskmill/taskmilllaw.CellMixes", spec := "cellMixes", unfollowed := true, recurses := true, apart := false, narrowed := true }
def CellMixesUptoSaid : Prop := cellMixesUptoRow.holds Try.pinned (OpenSpec.upto cellMixesSpec)

/-- 'taskmilllaw.CellWins', WHERE WHAT IT READS IS OF BULK AT MOST 1048576: true; the input reads as it did. -/
def cellWinsUptoRow : OpenClaim := { program := "ytolmbmgjpcdngaa", sum := "f89a0830651dd1b4627d367c7010033619705d37b6cdcf2b7cbbcb2aacd6a54e", func := "taskmill/taskmilllaw.CellWins", spec := "cellWins", unfollowed := true, recurses := true, apart := false, narrowed := true }
def CellWinsUptoSaid : Prop := cellWinsUptoRow.holds Try.pinned (OpenSpec.upto cellWinsSpec)

/-- 'taskmilllaw.CellAdds', WHERE WHAT IT READS IS OF BULK AT MOST 1048576: true; the input reads as it did. -/
def cellAddsUptoRow : OpenClaim := { program := "ytolmbmgjpcdngaa", sum := "f89a0830651dd1b4627d367c7010033619705d37b6cdcf2b7cbbcb2aacd6a54e", func := "taskmill/taskmilllaw.CellAdds", spec := "cellAdds", unfollowed := true, recurses := true, apart := false, narrowed := true }
def CellAddsUptoSaid : Prop := cellAddsUptoRow.holds Try.pinned (OpenSpec.upto cellAddsSpec)

end Rows
end Go.Proofs.Ytolmbmgjpcdngaa
